/- Words and what they say, there and back: what is looked at in the leaves of runs. -/
import Derived.Test.YtamhmfdbnlkmkaaDoorKnEncInsts0
import Derived.Test.YtamhmfdbnlkmkaaDoorSyChain
import Derived.Test.YtamhmfdbnlkmkaaDoorSyTab
set_option linter.unusedVariables false
set_option linter.unusedSimpArgs false
set_option maxRecDepth 100000
namespace Go.Proofs.YtamhmfdbnlkmkaaDoor
open Go Go.RowKit

def turnX (c : Int) : Sx := .bin .add .u32 (.bin .mul .u32 (.var 5) (.lit 65536)) (.bin .add .u32 (.bin .mul .u32 (.var 12) (.lit 16384)) (.bin .add .u32 (.var 0) (.lit (c * 67108864))))
def clearX (c : Int) : Sx := .bin .add .u32 (.bin .mul .u32 (.var 5) (.lit 65536)) (.bin .add .u32 (.bin .mul .u32 (.lit 0) (.lit 16384)) (.bin .add .u32 (.var 0) (.lit (c * 67108864))))
def ebF : Facts := [(.cmp .geq (.var 0) (.lit 0), true), (.cmp .leq (.var 0) (.lit 16383), true), (.cmp .geq (.var 1) (.lit 0), true), (.cmp .leq (.var 1) (.lit 16777215), true), (.cmp .geq (.var 3) (.lit 0), true), (.cmp .leq (.var 3) (.lit 4294967295), true), (.cmp .geq (.var 4) (.lit 0), true), (.cmp .leq (.var 4) (.lit 3), true), (.cmp .geq (.var 5) (.lit 0), true), (.cmp .leq (.var 5) (.lit 1023), true), (.cmp .geq (.var 12) (.lit 0), true), (.cmp .leq (.var 12) (.lit 3), true)]
def ebU (b : Bool) : AV := cond b (.tc (.sy (.int .u32) (.var 1))) (.tc (.sc (.int .u32 0)))
def ebA (c : Int) (b : Bool) : List AV := [.tc (.sy (.int .u32) (wordX c)), ebU b, .tc (.sc (.bool b)), .tc (.sy (.int .u32) (.var 3))]
def ebT (c : Int) (b : Bool) : List AV := [.tc (.sy (.int .u32) (turnX c)), ebU b, .tc (.sc (.bool b)), .tc (.sy (.int .u32) (.var 3))]
def ebW (c : Int) (b : Bool) : AV := .tuple [.tc (.sy (.int .u32) (clearX c)), ebU b, .tc (.sc (.bool true))]
def turnX24 (c : Int) : Sx := .bin .add .i64 (.bin .mul .i64 (.var 5) (.lit 65536)) (.bin .add .i64 (.bin .mul .i64 (.var 12) (.lit 16384)) (.bin .add .i64 (.bin .mul .i64 (.var 9) (.lit 8192)) (.bin .add .i64 (.bin .mul .i64 (.var 8) (.lit 4096)) (.bin .add .i64 (.bin .mul .i64 (.var 7) (.lit 512)) (.bin .add .i64 (.bin .mul .i64 (.var 0) (.lit 2)) (.bin .add .i64 (.var 6) (.lit (c * 67108864))))))))
def clearX24 (c : Int) : Sx := .bin .add .i64 (.bin .mul .i64 (.var 5) (.lit 65536)) (.bin .add .i64 (.bin .mul .i64 (.lit 0) (.lit 16384)) (.bin .add .i64 (.bin .mul .i64 (.var 9) (.lit 8192)) (.bin .add .i64 (.bin .mul .i64 (.var 8) (.lit 4096)) (.bin .add .i64 (.bin .mul .i64 (.var 7) (.lit 512)) (.bin .add .i64 (.bin .mul .i64 (.var 0) (.lit 2)) (.bin .add .i64 (.var 6) (.lit (c * 67108864))))))))
def ebF24 : Facts := [(.cmp .geq (.var 0) (.lit 0), true), (.cmp .leq (.var 0) (.lit 255), true), (.cmp .geq (.var 1) (.lit 0), true), (.cmp .leq (.var 1) (.lit 16777215), true), (.cmp .geq (.var 3) (.lit 0), true), (.cmp .leq (.var 3) (.lit 4294967295), true), (.cmp .geq (.var 4) (.lit 0), true), (.cmp .leq (.var 4) (.lit 3), true), (.cmp .geq (.var 5) (.lit 0), true), (.cmp .leq (.var 5) (.lit 1023), true), (.cmp .geq (.var 6) (.lit 0), true), (.cmp .leq (.var 6) (.lit 1), true), (.cmp .geq (.var 7) (.lit 0), true), (.cmp .leq (.var 7) (.lit 7), true), (.cmp .geq (.var 8) (.lit 0), true), (.cmp .leq (.var 8) (.lit 1), true), (.cmp .geq (.var 9) (.lit 0), true), (.cmp .leq (.var 9) (.lit 1), true), (.cmp .geq (.var 12) (.lit 0), true), (.cmp .leq (.var 12) (.lit 3), true)]
def ebU24 (b : Bool) : AV := cond b (.tc (.sy (.int .u32) (.var 1))) (.tc (.sc (.int .u32 0)))
def ebA24 (c : Int) (b : Bool) : List AV := [.tc (.sy (.int .u32) (wordX24 c)), ebU24 b, .tc (.sc (.bool b)), .tc (.sy (.int .u32) (.var 3))]
def ebT24 (c : Int) (b : Bool) : List AV := [.tc (.sy (.int .u32) (turnX24 c)), ebU24 b, .tc (.sc (.bool b)), .tc (.sy (.int .u32) (.var 3))]
def ebW24 (c : Int) (b : Bool) : AV := .tuple [.tc (.sy (.int .u32) (clearX24 c)), ebU24 b, .tc (.sc (.bool true))]
def turnX27 (c : Int) : Sx := .bin .add .i64 (.bin .mul .i64 (.var 7) (.lit 2097152)) (.bin .add .i64 (.bin .mul .i64 (.var 6) (.lit 1048576)) (.bin .add .i64 (.bin .mul .i64 (.var 5) (.lit 65536)) (.bin .add .i64 (.bin .mul .i64 (.var 12) (.lit 16384)) (.bin .add .i64 (.var 0) (.lit (c * 67108864))))))
def clearX27 (c : Int) : Sx := .bin .add .i64 (.bin .mul .i64 (.var 7) (.lit 2097152)) (.bin .add .i64 (.bin .mul .i64 (.var 6) (.lit 1048576)) (.bin .add .i64 (.bin .mul .i64 (.var 5) (.lit 65536)) (.bin .add .i64 (.bin .mul .i64 (.lit 0) (.lit 16384)) (.bin .add .i64 (.var 0) (.lit (c * 67108864))))))
def ebF27 : Facts := [(.cmp .geq (.var 0) (.lit 0), true), (.cmp .leq (.var 0) (.lit 16383), true), (.cmp .geq (.var 1) (.lit 0), true), (.cmp .leq (.var 1) (.lit 16777215), true), (.cmp .geq (.var 3) (.lit 0), true), (.cmp .leq (.var 3) (.lit 4294967295), true), (.cmp .geq (.var 4) (.lit 0), true), (.cmp .leq (.var 4) (.lit 3), true), (.cmp .geq (.var 5) (.lit 0), true), (.cmp .leq (.var 5) (.lit 15), true), (.cmp .geq (.var 6) (.lit 0), true), (.cmp .leq (.var 6) (.lit 1), true), (.cmp .geq (.var 7) (.lit 0), true), (.cmp .leq (.var 7) (.lit 31), true), (.cmp .geq (.var 12) (.lit 0), true), (.cmp .leq (.var 12) (.lit 3), true)]
def ebU27 (b : Bool) : AV := cond b (.tc (.sy (.int .u32) (.var 1))) (.tc (.sc (.int .u32 0)))
def ebA27 (c : Int) (b : Bool) : List AV := [.tc (.sy (.int .u32) (wordX27 c)), ebU27 b, .tc (.sc (.bool b)), .tc (.sy (.int .u32) (.var 3))]
def ebT27 (c : Int) (b : Bool) : List AV := [.tc (.sy (.int .u32) (turnX27 c)), ebU27 b, .tc (.sc (.bool b)), .tc (.sy (.int .u32) (.var 3))]
def ebW27 (c : Int) (b : Bool) : AV := .tuple [.tc (.sy (.int .u32) (clearX27 c)), ebU27 b, .tc (.sc (.bool true))]
def turnX30 (c : Int) : Sx := .bin .add .i64 (.bin .mul .i64 (.var 9) (.lit 33554432)) (.bin .add .i64 (.bin .mul .i64 (.var 8) (.lit 16777216)) (.bin .add .i64 (.bin .mul .i64 (.var 7) (.lit 2097152)) (.bin .add .i64 (.bin .mul .i64 (.var 5) (.lit 65536)) (.bin .add .i64 (.bin .mul .i64 (.var 12) (.lit 16384)) (.bin .add .i64 (.bin .mul .i64 (.var 6) (.lit 2048)) (.bin .add .i64 (.var 0) (.lit (c * 67108864))))))))
def clearX30 (c : Int) : Sx := .bin .add .i64 (.bin .mul .i64 (.var 9) (.lit 33554432)) (.bin .add .i64 (.bin .mul .i64 (.var 8) (.lit 16777216)) (.bin .add .i64 (.bin .mul .i64 (.var 7) (.lit 2097152)) (.bin .add .i64 (.bin .mul .i64 (.var 5) (.lit 65536)) (.bin .add .i64 (.bin .mul .i64 (.lit 0) (.lit 16384)) (.bin .add .i64 (.bin .mul .i64 (.var 6) (.lit 2048)) (.bin .add .i64 (.var 0) (.lit (c * 67108864))))))))
def ebF30 : Facts := [(.cmp .geq (.var 0) (.lit 0), true), (.cmp .leq (.var 0) (.lit 2047), true), (.cmp .geq (.var 1) (.lit 0), true), (.cmp .leq (.var 1) (.lit 16777215), true), (.cmp .geq (.var 3) (.lit 0), true), (.cmp .leq (.var 3) (.lit 4294967295), true), (.cmp .geq (.var 4) (.lit 0), true), (.cmp .leq (.var 4) (.lit 3), true), (.cmp .geq (.var 5) (.lit 0), true), (.cmp .leq (.var 5) (.lit 31), true), (.cmp .geq (.var 6) (.lit 0), true), (.cmp .leq (.var 6) (.lit 7), true), (.cmp .geq (.var 7) (.lit 0), true), (.cmp .leq (.var 7) (.lit 7), true), (.cmp .geq (.var 8) (.lit 0), true), (.cmp .leq (.var 8) (.lit 1), true), (.cmp .geq (.var 9) (.lit 0), true), (.cmp .leq (.var 9) (.lit 1), true), (.cmp .geq (.var 12) (.lit 0), true), (.cmp .leq (.var 12) (.lit 3), true)]
def ebU30 (b : Bool) : AV := cond b (.tc (.sy (.int .u32) (.var 1))) (.tc (.sc (.int .u32 0)))
def ebA30 (c : Int) (b : Bool) : List AV := [.tc (.sy (.int .u32) (wordX30 c)), ebU30 b, .tc (.sc (.bool b)), .tc (.sy (.int .u32) (.var 3))]
def ebT30 (c : Int) (b : Bool) : List AV := [.tc (.sy (.int .u32) (turnX30 c)), ebU30 b, .tc (.sc (.bool b)), .tc (.sy (.int .u32) (.var 3))]
def ebW30 (c : Int) (b : Bool) : AV := .tuple [.tc (.sy (.int .u32) (clearX30 c)), ebU30 b, .tc (.sc (.bool true))]
def pcX : AV := .tc (.sy (.int .u32) (.var 3))
def blV (b : Bool) : AV := .tc (.sc (.bool b))
noncomputable def isE (R : AV) (f : FuncId) (args : List AV) (fs : Facts) : Bool := isN R (runF codeEnc (CV06 fs) 24 f args) fs

theorem isE_ok {ρ : Env} {R : AV} {f : FuncId} {args : List AV} {fs : Facts} (hf : FactsOk ρ fs) (h : isE R f args fs = true) : CallsTo CX06 f (concs ρ args) (conc ρ R) := by
  have h1 : RunsIs (CV06 fs) 24 fs f args R := .code codeEnc_ok rfl h
  exact (h1.calls (CV06_ok hf) hf).of rfl rfl

/-- An instruction. -/
def xV (XI : Nat → Int) (XB : Nat → Bool) : AV := .agg [.tc (.sc (.int .u8 (XI 0))), .tc (.sc (.int .u8 (XI 1))), .tc (.sc (.int .u8 (XI 2))), .tc (.sc (.int .u8 (XI 3))), .tc (.sc (.int .u8 (XI 4))), .tc (.sc (.int .u8 (XI 5))), .tc (.sc (.int .u8 (XI 6))), .tc (.sc (.bool (XB 7))), .tc (.sc (.bool (XB 8))), .tc (.sc (.int .u16 (XI 9))), .tc (.sc (.int .i64 (XI 10)))]

/-- What a word says: at other parse bits too; its word; it is right. -/
noncomputable def kA (b : Bool) (turned : List AV) (W : AV) (r : AV) (fs : Facts) : Bool :=
  both (isE r 6 turned fs) (match r with
    | .tuple [.agg cells, .tc (.sc (.bool ok))] => match mapO asSx cells with
      | some [(.int .u8, e0), (.int .u8, e1), (.int .u8, e2), (.int .u8, e3), (.int .u8, e4), (.int .u8, e5), (.int .u8, e6), (.bool, e7), (.bool, e8), (.int .u16, e9), (.int .i64, e10)] => cond ok (both (knowN e8 b fs) (both (isE W 7 [.agg cells, pcX] fs) (isE (blV true) 8 [.agg cells] fs))) true
      | _ => false
    | _ => false)

theorem kA_ok {ρ : Env} {b : Bool} {turned : List AV} {W r : AV} {fs : Facts} (hf : FactsOk ρ fs) (h : kA b turned W r fs = true) :
    ∃ XI XB ok, conc ρ r = .tuple [xV XI XB, blV ok] ∧ CallsTo CX06 6 (concs ρ turned) (.tuple [xV XI XB, blV ok]) ∧
      (ok = true → XB 8 = b ∧ CallsTo CX06 7 [xV XI XB, conc ρ pcX] (conc ρ W) ∧ CallsTo CX06 8 [xV XI XB] (blV true)) := by
  unfold kA at h
  obtain ⟨h1, h2⟩ := both_ok h
  have g1 := isE_ok hf h1
  split at h2
  · rename_i cells ok
    split at h2
    · rename_i e0 e1 e2 e3 e4 e5 e6 e7 e8 e9 e10 hl
      have hc : conc ρ (.agg cells) = xV (fun i => (den ρ (selE [e0, e1, e2, e3, e4, e5, e6, e7, e8, e9, e10] i)).i) (fun i => (den ρ (selE [e0, e1, e2, e3, e4, e5, e6, e7, e8, e9, e10] i)).b) := by
        simp only [conc, asSxs_concs ρ hl]
        rfl
      have hr : conc ρ (.tuple [.agg cells, .tc (.sc (.bool ok))]) = .tuple [xV (fun i => (den ρ (selE [e0, e1, e2, e3, e4, e5, e6, e7, e8, e9, e10] i)).i) (fun i => (den ρ (selE [e0, e1, e2, e3, e4, e5, e6, e7, e8, e9, e10] i)).b), blV ok] := by
        rw [← hc]
        rfl
      refine ⟨_, _, ok, hr, by rw [← hr]; exact g1, fun hok => ?_⟩
      subst hok
      simp only [cond_true] at h2
      obtain ⟨h3, h4⟩ := both_ok h2
      obtain ⟨h4, h5⟩ := both_ok h4
      have g4 := isE_ok hf h4
      have g5 := isE_ok hf h5
      simp only [concs, hc] at g4 g5
      exact ⟨knowN_ok hf h3, g4, g5⟩
    · cases h2
  · cases h2

/-- The word of an instruction: it is said just if it may be; what it says. -/
noncomputable def kB (inA pcA : AV) (extE : Sx) (r : AV) (fs : Facts) : Bool := match r with
  | .tuple [v, u, .tc (.sc (.bool said))] =>
    both (leafsN (fun r1 fs1 => leafsN (fun f fs2 => match asSx r1, asSx f with
        | some (.bool, e1), some (.bool, e2) => knowN (.and e1 (.not (.and (.not extE) (.not e2)))) said fs2
        | _, _ => false) (runF codeEnc (CV06 fs1) 24 9 [inA, pcA]) fs1) (runF codeEnc (CV06 fs) 24 8 [inA]) fs)
      (cond said (match asSx v, asSx u with
        | some (.int .u32, ve), some (.int .u32, ue) => both (knowN (.cmp .eql (.bin .and .u32 (.bin .shr .u32 ve (.lit 14)) (.lit 3)) (.lit 0)) true fs) (both (inR (ivLf fs (lin fs ve)) 0 4294967295) (both (inR (ivLf fs (lin fs ue)) 0 16777215)
          (isE (.tuple [inA, blV true]) 6 [v, u, .tc (.sy .bool extE), pcA] fs)))
        | _, _ => false) (both (sameN fs v (.tc (.sc (.int .u32 0)))) (sameN fs u (.tc (.sc (.int .u32 0))))))
  | _ => false

def wV (k : IntKind) (n : Int) : AV := .tc (.sc (.int k n))

theorem shrE_i64 (a : Int) {k : Int} {m : Nat} {d : Int} (hm : min k.toNat (IntKind.bits .i64) = m) (hd : (2 : Int) ^ m = d) : binI .shr .i64 a k = a / d := by
  have hp : (0 : Int) ≤ 2 ^ m := Int.le_of_lt (two_pos m)
  simp only [binI, hm]
  rw [Int.fdiv_eq_ediv_of_nonneg _ hp, hd]

theorem bitz {v : Int} (h0 : 0 ≤ v) (h1 : v ≤ 4294967295) (h : (den ρ0 (.cmp .eql (.bin .and .u32 (.bin .shr .u32 (.lit v) (.lit 14)) (.lit 3)) (.lit 0))).b = true) : v / 16384 % 4 = 0 := by
  have hf : FactsOk (ints [v]) u32F := by
    intro p hp
    simp only [u32F, List.mem_cons, List.not_mem_nil, or_false] at hp
    rcases hp with rfl | rfl
    · exact decide_eq_true h0
    · exact decide_eq_true h1
  have e : conc (ints [v]) (.tc (.sy (.int .u32) (.bin .and .u32 (.bin .shr .u32 (.var 0) (.lit 14)) (.lit 3)))) = conc (ints [v]) (.tc (.sy (.int .u32) (.bin .sub .i64 (.bin .shr .i64 (.var 0) (.lit 14)) (.bin .mul .i64 (.bin .shr .i64 (.var 0) (.lit 16)) (.lit 4))))) := sameN_ok hf _ _ (by kernel_rfl)
  simp only [conc, concT, STy.val, AV.tc.injEq, TC.sc.injEq, Value.int.injEq, true_and] at e
  have h2 : (den (ints [v]) (.bin .and .u32 (.bin .shr .u32 (.var 0) (.lit 14)) (.lit 3))).i = 0 := by
    have : (den ρ0 (.bin .and .u32 (.bin .shr .u32 (.lit v) (.lit 14)) (.lit 3))).i = 0 := by simpa [den, cmpI] using h
    exact this
  rw [h2] at e
  simp only [den, ints, List.getD_cons_zero] at e
  have k : ∀ {x : Int}, -9000000000 ≤ x → x ≤ 9000000000 → IntKind.i64.wrap x = x := fun {x} a b => wrap_id (k := .i64) (by show -9223372036854775808 ≤ x; omega) (by show x ≤ 9223372036854775807; omega)
  rw [show binI .shr .i64 v 14 = v / 16384 from shrE_i64 (m := 14) (d := 16384) _ (by decide) (by decide), show binI .shr .i64 v 16 = v / 65536 from shrE_i64 (m := 16) (d := 65536) _ (by decide) (by decide)] at e
  simp only [binI] at e
  rw [k (x := v / 65536 * 4) (by omega) (by omega), k (by omega) (by omega)] at e
  omega

theorem kB_ok {ρ : Env} {inA pcA r : AV} {extE : Sx} {fs : Facts} (hf : FactsOk ρ fs) (h : kB inA pcA extE r fs = true) :
    ∃ v u said rt ft, conc ρ r = .tuple [wV .u32 v, wV .u32 u, blV said] ∧ CallsTo CX06 8 [conc ρ inA] (blV rt) ∧ CallsTo CX06 9 [conc ρ inA, conc ρ pcA] (blV ft) ∧ said = (rt && ((den ρ extE).b || ft)) ∧
      (said = false → v = 0 ∧ u = 0) ∧ (said = true → (v / 16384 % 4 = 0 ∧ 0 ≤ v ∧ v ≤ 4294967295 ∧ 0 ≤ u ∧ u ≤ 16777215) ∧ CallsTo CX06 6 [wV .u32 v, wV .u32 u, blV (den ρ extE).b, conc ρ pcA] (.tuple [conc ρ inA, blV true])) := by
  unfold kB at h
  split at h
  · rename_i v u said
    obtain ⟨h1, h2⟩ := both_ok h
    obtain ⟨r1, fs1, p1, hf1, h1⟩ := leafsN_ok _ hf h1
    obtain ⟨f, fs2, p2, hf2, h1⟩ := leafsN_ok _ hf1 h1
    have c1 : CallsTo CX06 8 (concs ρ [inA]) (conc ρ r1) := (run_calls (d := 24) (CV06_ok hf) (by rw [← runF_eq codeEnc_ok rfl]; exact p1)).of rfl rfl
    have c2 : CallsTo CX06 9 (concs ρ [inA, pcA]) (conc ρ f) := (run_calls (d := 24) (CV06_ok hf1) (by rw [← runF_eq codeEnc_ok rfl]; exact p2)).of rfl rfl
    split at h1
    case h_2 => cases h1
    rename_i e1 e2 q1 q2
    have k1 := knowN_ok hf2 h1
    rw [asSx_conc ρ q1] at c1
    rw [asSx_conc ρ q2] at c2
    have es : said = ((den ρ e1).b && ((den ρ extE).b || (den ρ e2).b)) := by
      rw [← k1]
      simp only [den]
      cases (den ρ e1).b <;> cases (den ρ extE).b <;> cases (den ρ e2).b <;> rfl
    cases said with
    | false =>
      obtain ⟨h3, h4⟩ := both_ok h2
      refine ⟨0, 0, false, _, _, ?_, c1, c2, es, fun _ => ⟨rfl, rfl⟩, fun h => by cases h⟩
      simp only [conc, concs, sameN_ok hf _ _ h3, sameN_ok hf _ _ h4]
      rfl
    | true =>
      simp only [cond_true] at h2
      split at h2
      case h_2 => cases h2
      rename_i ve ue q3 q4
      obtain ⟨h3, h4⟩ := both_ok h2
      obtain ⟨h4, h5⟩ := both_ok h4
      obtain ⟨h5, h6⟩ := both_ok h5
      have b1 := inR_ok (ivLf_ok hf (lin fs ve)) h4
      have b2 := inR_ok (ivLf_ok hf (lin fs ue)) h5
      rw [lin_ok hf] at b1 b2
      have g6 := isE_ok hf h6
      have k3 := knowN_ok hf h3
      have a1 := asSx_conc ρ q3
      have a2 := asSx_conc ρ q4
      refine ⟨(den ρ ve).i, (den ρ ue).i, true, _, _, ?_, c1, c2, es, (fun h => by cases h), fun _ => ⟨⟨bitz b1.1 b1.2 k3, b1.1, b1.2, b2.1, b2.2⟩, ?_⟩⟩
      · simp only [conc, concs, a1, a2]
        rfl
      · simp only [concs, a1, a2] at g6
        exact g6
  · cases h
def ebBI (c : Int) : AV := .agg (.tc (.sc (.int .u8 c)) :: [.tc (.sy (.int .u8) (.var 1)), .tc (.sy (.int .u8) (.var 2)), .tc (.sy (.int .u8) (.var 3)), .tc (.sy (.int .u8) (.var 4)), .tc (.sy (.int .u8) (.var 5)), .tc (.sy (.int .u8) (.var 6)), .tc (.sy .bool (.var 7)), .tc (.sy .bool (.var 8)), .tc (.sy (.int .u16) (.var 9)), .tc (.sy (.int .i64) (.var 10))])
def ebZI (c : Int) (e : Sx) : AV := .agg (.tc (.sc (.int .u8 c)) :: [.tc (.sy (.int .u8) (.var 1)), .tc (.sy (.int .u8) (.var 2)), .tc (.sy (.int .u8) (.var 3)), .tc (.sy (.int .u8) (.var 4)), .tc (.sy (.int .u8) (.var 5)), .tc (.sy (.int .u8) (.var 6)), .tc (.sy .bool (.var 7)), .tc (.sy .bool (.var 8)), .tc (.sy (.int .u16) (.var 9)), .tc (.sy (.int .i64) e)])
def relX (r : Int) (i : Nat) : Sx := cond (i == 10) (.conv .u32 (.bin .add .i64 (.var 11) (.bin .add .i64 (.bin .mul .i64 (.var 12) (.lit 4)) (.lit r)))) (.var i)
def relY (i : Nat) : Sx := cond (i == 10) (.conv .u32 (.bin .add .i64 (.var 11) (.var 12))) (.var i)
def immY (s r : Int) (i : Nat) : Sx := cond (i == 10) (.bin .add .i64 (.bin .mul .i64 (.var 12) (.lit s)) (.lit r)) (.var i)
def ebBJ : AV := .agg [.tc (.sy (.int .u8) (.var 0)), .tc (.sy (.int .u8) (.var 1)), .tc (.sy (.int .u8) (.var 2)), .tc (.sy (.int .u8) (.var 3)), .tc (.sy (.int .u8) (.var 4)), .tc (.sy (.int .u8) (.var 5)), .tc (.sy (.int .u8) (.var 6)), .tc (.sy .bool (.var 7)), .tc (.sy .bool (.var 8)), .tc (.sy (.int .u16) (.var 9)), .tc (.sy (.int .i64) (.var 10))]
def ebBP : AV := .tc (.sy (.int .u32) (.var 11))
def ebBF : Facts := (.cmp .geq (.var 11) (.lit 0), true) :: (.cmp .leq (.var 11) (.lit 4294967295), true) :: rightF
def ebBK : Facts := (.cmp .geq (.var 0) (.lit 0), true) :: (.cmp .leq (.var 0) (.lit 255), true) :: ebBF
def ebZF (a b : Int) : Facts := (.cmp .geq (.var 12) (.lit a), true) :: (.cmp .leq (.var 12) (.lit b), true) :: ebBF
def ebBG : Facts := (.cmp .geq (.var 0) (.lit 32), true) :: (.cmp .leq (.var 0) (.lit 255), true) :: ebBF

/-- The word of an instruction: what is told of it. -/
structure WordTold (x pc : AV) (ext : Bool) (v u : Int) (said rt ft : Bool) : Prop where
  word : CallsTo CX06 7 [x, pc] (.tuple [wV .u32 v, wV .u32 u, blV said])
  right : CallsTo CX06 8 [x] (blV rt)
  fits : rt = true → CallsTo CX06 9 [x, pc] (blV ft)
  eq : said = (rt && (ext || ft))
  no : said = false → v = 0 ∧ u = 0
  yes : said = true → (v / 16384 % 4 = 0 ∧ 0 ≤ v ∧ v ≤ 4294967295 ∧ 0 ≤ u ∧ u ≤ 16777215) ∧ CallsTo CX06 6 [wV .u32 v, wV .u32 u, blV ext, pc] (.tuple [x, blV true])

theorem wordTold {ρ : Env} {F : Facts} {inA : AV} (hf : FactsOk ρ F) (h : RunsCh (CV06 F) 24 F 7 [inA, ebBP] (kB inA ebBP (.var 8))) : ∃ v u said rt ft, WordTold (conc ρ inA) (conc ρ ebBP) (ρ.B 8) v u said rt ft := by
  obtain ⟨r, fs, c1, hf1, h1⟩ := h.calls (CV06_ok hf) hf
  obtain ⟨v, u, said, rt, ft, e, g1, g2, g3, g4, g5⟩ := kB_ok hf1 h1
  rw [e] at c1
  exact ⟨v, u, said, rt, ft, c1.of rfl rfl, g1, fun _ => g2, g3, g4, g5⟩
end Go.Proofs.YtamhmfdbnlkmkaaDoor
