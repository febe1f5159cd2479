/- The law RulesTells. -/
import Derived.Test.YtamhmfdbnlkmkaaKnQ10H
import Derived.Test.YtamhmfdbnlkmkaaKnQ10G3
import Derived.Test.YtamhmfdbnlkmkaaSyPack
set_option linter.unusedVariables false
set_option linter.unusedSimpArgs false
set_option maxRecDepth 100000
namespace Go.Proofs.Ytamhmfdbnlkmkaa
open Go Go.RowKit


noncomputable def lwFn : Func := (XP.funcs[3]?).getD default
noncomputable def lwC : Code := lwFn.body.getD .skip
noncomputable def lw0 : Code := cL lwC
noncomputable def lw1 : Code := cL (cL (cR lwC))
noncomputable def lwI : Code := cR (cL (cR lwC))
noncomputable def lwE : Code := cR (cR lwC)
noncomputable def lwX : Operand := match lwI with
  | .cond c _ _ => c
  | _ => .tmp 0
noncomputable def lwY : Code := match lwI with
  | .cond _ a _ => a
  | c => c
noncomputable def lwZ : Code := match lwI with
  | .cond _ _ b => b
  | c => c
theorem lwFn_at : XP.funcs[3]? = some lwFn := by kernel_rfl
theorem lwFn_body : lwFn.body = some (.seq lw0 (.seq (.seq lw1 (.cond lwX lwY lwZ)) lwE)) := by kernel_rfl
theorem lwFn_res : lwFn.results.toList = [.tmp 6] := by kernel_rfl
theorem lwFn_n : lwFn.ntmps = 49 := by kernel_rfl
theorem lwX_is : lwX = .tmp 12 := by kernel_rfl
def bgP (rows : List (List TC)) (b0 b1 b2 b3 : Bool) : AV := .agg [.tc (.sl 11 rows), blV b0, blV b1, blV b2, blV b3]

section
variable (rows : List (List TC)) (b0 b1 b2 b3 : Bool) (x0 : Int) (x1 : Int) (x2 : Int) (x3 : Int) (x4 : Int) (x5 : Int) (x6 : Int) (x7 : Bool) (x8 : Bool) (x9 : Int) (x10 : Int) (y0 : Int) (y1 : Int) (y2 : Int) (y3 : Int) (y4 : Int) (y5 : Int) (y6 : Int) (y7 : Bool) (y8 : Bool) (y9 : Int) (y10 : Int)

def bgA : List AV := [bgP rows b0 b1 b2 b3, .agg (scs [.int .u8 x0, .int .u8 x1, .int .u8 x2, .int .u8 x3, .int .u8 x4, .int .u8 x5, .int .u8 x6, .bool x7, .bool x8, .int .u16 x9, .int .i64 x10]), .agg (scs [.int .u8 y0, .int .u8 y1, .int .u8 y2, .int .u8 y3, .int .u8 y4, .int .u8 y5, .int .u8 y6, .bool y7, .bool y8, .int .u16 y9, .int .i64 y10])]
def bgH : Heap := [.tcells 5 [[.sl 11 rows, .sc (.bool b0), .sc (.bool b1), .sc (.bool b2), .sc (.bool b3)]], .tcells 11 [[.sc (.int .u8 x0), .sc (.int .u8 x1), .sc (.int .u8 x2), .sc (.int .u8 x3), .sc (.int .u8 x4), .sc (.int .u8 x5), .sc (.int .u8 x6), .sc (.bool x7), .sc (.bool x8), .sc (.int .u16 x9), .sc (.int .i64 x10)]], .tcells 11 [[.sc (.int .u8 y0), .sc (.int .u8 y1), .sc (.int .u8 y2), .sc (.int .u8 y3), .sc (.int .u8 y4), .sc (.int .u8 y5), .sc (.int .u8 y6), .sc (.bool y7), .sc (.bool y8), .sc (.int .u16 y9), .sc (.int .i64 y10)]]]
def bgT1 : Tmps := bgA rows b0 b1 b2 b3 x0 x1 x2 x3 x4 x5 x6 x7 x8 x9 x10 y0 y1 y2 y3 y4 y5 y6 y7 y8 y9 y10 ++ [.ptr 0 5 0 0 1, .ptr 1 11 0 0 1, .ptr 2 11 0 0 1, blV false] ++ List.replicate 42 undefA
def bgT2 (r : AV) : Tmps := bgA rows b0 b1 b2 b3 x0 x1 x2 x3 x4 x5 x6 x7 x8 x9 x10 y0 y1 y2 y3 y4 y5 y6 y7 y8 y9 y10 ++ [.ptr 0 5 0 0 1, .ptr 1 11 0 0 1, .ptr 2 11 0 0 1, r, undefA, undefA, .ptr 0 5 0 0 1, .tc (.sl 11 rows), inV .i64 rows.length, blV (decide ((rows.length : Int) > 8))]
theorem big0 : fragOutH CA10 24 #[] lw0 (initT 0 (bgA rows b0 b1 b2 b3 x0 x1 x2 x3 x4 x5 x6 x7 x8 x9 x10 y0 y1 y2 y3 y4 y5 y6 y7 y8 y9 y10) 49) [] = .leaf (encSH .normal (bgT1 rows b0 b1 b2 b3 x0 x1 x2 x3 x4 x5 x6 x7 x8 x9 x10 y0 y1 y2 y3 y4 y5 y6 y7 y8 y9 y10) (bgH rows b0 b1 b2 b3 x0 x1 x2 x3 x4 x5 x6 x7 x8 x9 x10 y0 y1 y2 y3 y4 y5 y6 y7 y8 y9 y10)) := by kernel_rfl
theorem big1 : fragOutH CA10 24 #[] lw1 (bgT1 rows b0 b1 b2 b3 x0 x1 x2 x3 x4 x5 x6 x7 x8 x9 x10 y0 y1 y2 y3 y4 y5 y6 y7 y8 y9 y10) (bgH rows b0 b1 b2 b3 x0 x1 x2 x3 x4 x5 x6 x7 x8 x9 x10 y0 y1 y2 y3 y4 y5 y6 y7 y8 y9 y10) = .leaf (encSH .normal (bgT2 rows b0 b1 b2 b3 x0 x1 x2 x3 x4 x5 x6 x7 x8 x9 x10 y0 y1 y2 y3 y4 y5 y6 y7 y8 y9 y10 (blV false) ++ List.replicate 36 undefA) (bgH rows b0 b1 b2 b3 x0 x1 x2 x3 x4 x5 x6 x7 x8 x9 x10 y0 y1 y2 y3 y4 y5 y6 y7 y8 y9 y10)) := by kernel_rfl
theorem big2 : fragOutH CA10 24 #[] lwY (bgT2 rows b0 b1 b2 b3 x0 x1 x2 x3 x4 x5 x6 x7 x8 x9 x10 y0 y1 y2 y3 y4 y5 y6 y7 y8 y9 y10 (blV false) ++ List.replicate 36 undefA) (bgH rows b0 b1 b2 b3 x0 x1 x2 x3 x4 x5 x6 x7 x8 x9 x10 y0 y1 y2 y3 y4 y5 y6 y7 y8 y9 y10) = .leaf (encSH .ret (bgT2 rows b0 b1 b2 b3 x0 x1 x2 x3 x4 x5 x6 x7 x8 x9 x10 y0 y1 y2 y3 y4 y5 y6 y7 y8 y9 y10 (blV true) ++ (blV true :: List.replicate 35 undefA)) (bgH rows b0 b1 b2 b3 x0 x1 x2 x3 x4 x5 x6 x7 x8 x9 x10 y0 y1 y2 y3 y4 y5 y6 y7 y8 y9 y10)) := by kernel_rfl

theorem big_calls {ρ : Env} (hb : 8 < rows.length) : CallsTo CA10 3 (concs ρ (bgA rows b0 b1 b2 b3 x0 x1 x2 x3 x4 x5 x6 x7 x8 x9 x10 y0 y1 y2 y3 y4 y5 y6 y7 y8 y9 y10)) (blV true) := by
  have hs := CA10_ok ρ
  have h0 := fragH_calls (d := 24) (nm := #[]) hs (show rawV ρ (fragOutH CA10 24 #[] lw0 (initT 0 (bgA rows b0 b1 b2 b3 x0 x1 x2 x3 x4 x5 x6 x7 x8 x9 x10 y0 y1 y2 y3 y4 y5 y6 y7 y8 y9 y10) 49) []) = _ by rw [big0]; rfl)
  have h1 := fragH_calls (d := 24) (nm := #[]) hs (show rawV ρ (fragOutH CA10 24 #[] lw1 (bgT1 rows b0 b1 b2 b3 x0 x1 x2 x3 x4 x5 x6 x7 x8 x9 x10 y0 y1 y2 y3 y4 y5 y6 y7 y8 y9 y10) (bgH rows b0 b1 b2 b3 x0 x1 x2 x3 x4 x5 x6 x7 x8 x9 x10 y0 y1 y2 y3 y4 y5 y6 y7 y8 y9 y10)) = _ by rw [big1]; rfl)
  have h2 := fragH_calls (d := 24) (nm := #[]) hs (show rawV ρ (fragOutH CA10 24 #[] lwY (bgT2 rows b0 b1 b2 b3 x0 x1 x2 x3 x4 x5 x6 x7 x8 x9 x10 y0 y1 y2 y3 y4 y5 y6 y7 y8 y9 y10 (blV false) ++ List.replicate 36 undefA) (bgH rows b0 b1 b2 b3 x0 x1 x2 x3 x4 x5 x6 x7 x8 x9 x10 y0 y1 y2 y3 y4 y5 y6 y7 y8 y9 y10)) = _ by rw [big2]; rfl)
  have hd : decide ((rows.length : Int) > 8) = true := decide_eq_true (by omega)
  have hv : ev CA10 (getL (bgT2 rows b0 b1 b2 b3 x0 x1 x2 x3 x4 x5 x6 x7 x8 x9 x10 y0 y1 y2 y3 y4 y5 y6 y7 y8 y9 y10 (blV false) ++ List.replicate 36 undefA)) lwX = blV (decide ((rows.length : Int) > 8)) := by rw [lwX_is]; rfl
  rw [hd] at hv
  have h3 : FragH CA10 (.cond lwX lwY lwZ) (concs ρ (bgT2 rows b0 b1 b2 b3 x0 x1 x2 x3 x4 x5 x6 x7 x8 x9 x10 y0 y1 y2 y3 y4 y5 y6 y7 y8 y9 y10 (blV false) ++ List.replicate 36 undefA)) (concH ρ (bgH rows b0 b1 b2 b3 x0 x1 x2 x3 x4 x5 x6 x7 x8 x9 x10 y0 y1 y2 y3 y4 y5 y6 y7 y8 y9 y10)) _ _ _ := FragH.condJ (t := true) hs hv (.inl rfl) h2
  have h := FragH.seq h0 (FragH.seq1 (y := lwE) (FragH.seq h1 h3) (fun h => by cases h))
  rw [initT_conc] at h
  exact FragH.callsJ (ρ := ρ) (C := CA10) (args := bgA rows b0 b1 b2 b3 x0 x1 x2 x3 x4 x5 x6 x7 x8 x9 x10 y0 y1 y2 y3 y4 y5 y6 y7 y8 y9 y10) (T' := bgT2 rows b0 b1 b2 b3 x0 x1 x2 x3 x4 x5 x6 x7 x8 x9 x10 y0 y1 y2 y3 y4 y5 y6 y7 y8 y9 y10 (blV true) ++ (blV true :: List.replicate 35 undefA)) (H' := bgH rows b0 b1 b2 b3 x0 x1 x2 x3 x4 x5 x6 x7 x8 x9 x10 y0 y1 y2 y3 y4 y5 y6 y7 y8 y9 y10) (r := blV true) (t := blV true) lwFn_at lwFn_body (by rw [lwFn_n]; exact h) (.inr rfl) (by unfold resultsA; rw [lwFn_res]; rfl) rfl
end

theorem lw_all {n : Nat} (hn : n ≤ 8) : JTrueJ (ctxF CA10 (lT n)) 24 60 [] 3 (lArgs n) = true := by
  match n, hn with
  | 0, _ => exact lw_0
  | 1, _ => exact lw_1
  | 2, _ => exact lw_2
  | 3, _ => exact lw_3
  | 4, _ => exact lw_4
  | 5, _ => exact lw_5
  | 6, _ => exact lw_6
  | 7, _ => exact lw_7
  | 8, _ => exact lw_8
  | k + 9, h => omega

theorem small_calls {ρ : Env} {n : Nat} (hn : n ≤ 8) (h : ∀ i, i < 10 → FactsOk ρ (iF (qB i))) : CallsTo CA10 3 (concs ρ (lArgs n)) (blV true) := by
  obtain ⟨v, v1, v2⟩ := check_told hn fun i hi => h i (by omega)
  obtain ⟨r8, c8, w8, wo8, p8, po8, t8, _⟩ := told_any (h 8 (by decide))
  obtain ⟨r9, c9, w9, wo9, p9, po9, t9, _⟩ := told_any (h 9 (by decide))
  have mode : ∀ i, i < 10 → 0 ≤ ρ.I (qB i + 6) ∧ ρ.I (qB i + 6) ≤ 255 := fun i hi =>
    ⟨of_decide_eq_true (h i hi (.cmp .geq (.var (qB i + 6)) (.lit 0), true) (by simp [iF])), of_decide_eq_true (h i hi (.cmp .leq (.var (qB i + 6)) (.lit 255), true) (by simp [iF]))⟩
  obtain ⟨c, hc⟩ := clash_told t8 t9 (mode 8 (by decide)) (mode 9 (by decide))
  let z : Nat → Int := fun _ => 0
  have eA : ∀ i, i < 10 → conc (tE ρ z z z z (fun _ => false) (fun _ => false) (fun _ _ => false) c v) (qA false i) = conc ρ (iA (qB i)) := fun i hi => tE_A hi
  have eP : conc (tE ρ z z z z (fun _ => false) (fun _ => false) (fun _ _ => false) c v) (gP n) = conc ρ (gP n) := gP_conc (fun i hi => eA i (by omega)) rfl rfl rfl rfl
  have hs : Summ (tE ρ z z z z (fun _ => false) (fun _ => false) (fun _ _ => false) c v) (ctxF CA10 (lT n)) := ctxF_ok (CA10_ok _) fun q hq s hs => by
    simp only [lT, List.mem_cons, List.not_mem_nil, or_false] at hq
    rcases hq with rfl | rfl | rfl | rfl <;> (simp only [List.mem_cons, List.not_mem_nil, or_false] at hs; subst hs; simp only [concs, eP, eA 8 (by decide), eA 9 (by decide)])
    · exact v1
    · exact v2
    · exact hc.c1
    · exact hc.c2
  have := JTrueJ.calls (ρ := tE ρ z z z z (fun _ => false) (fun _ => false) (fun _ _ => false) c v) rfl hs FactsOk.nil (lw_all hn)
  have e : concs (tE ρ z z z z (fun _ => false) (fun _ => false) (fun _ _ => false) c v) (lArgs n) = concs ρ (lArgs n) := by
    simp only [lArgs, concs, eP, eA 8 (by decide), eA 9 (by decide)]
    rfl
  rw [e] at this
  exact this.of rfl rfl


def instKs : List STy := [.int .u8, .int .u8, .int .u8, .int .u8, .int .u8, .int .u8, .int .u8, .bool, .bool, .int .u16, .int .i64]
def valI : Value → Int
  | .int _ n => n
  | _ => 0
def valB : Value → Bool
  | .bool b => b
  | _ => false
def zeroI : List Value := [.int .u8 0, .int .u8 0, .int .u8 0, .int .u8 0, .int .u8 0, .int .u8 0, .int .u8 0, .bool false, .bool false, .int .u16 0, .int .i64 0]

/-- Which instruction's cells stand where. -/
def whoI (rows : List (List Value)) (a b : List Value) (i : Nat) : List Value := if i = 8 then a else if i = 9 then b else (rows[i]?).getD zeroI
def rowE (rows : List (List Value)) (a b : List Value) (b0 b1 b2 b3 : Bool) : Env := ⟨fun v => valI ((whoI rows a b ((v - 100) / 40)).getD ((v - 100) % 40) undef),
  fun v => if v = 710 then b0 else if v = 711 then b1 else if v = 712 then b2 else if v = 713 then b3 else valB ((whoI rows a b ((v - 100) / 40)).getD ((v - 100) % 40) undef), fun _ => ByteArray.empty, FF0⟩

theorem typed_facts {l : List Value} {ρ : Env} {b : Nat} (h : Typed instKs l) (hI : ∀ k, k ≤ 10 → ρ.I (b + k) = valI (l.getD k undef)) : FactsOk ρ (iF b) := by
  obtain ⟨x0, xl0, rfl, xr0, xt0⟩ := Typed.int h
  obtain ⟨x1, xl1, rfl, xr1, xt1⟩ := Typed.int xt0
  obtain ⟨x2, xl2, rfl, xr2, xt2⟩ := Typed.int xt1
  obtain ⟨x3, xl3, rfl, xr3, xt3⟩ := Typed.int xt2
  obtain ⟨x4, xl4, rfl, xr4, xt4⟩ := Typed.int xt3
  obtain ⟨x5, xl5, rfl, xr5, xt5⟩ := Typed.int xt4
  obtain ⟨x6, xl6, rfl, xr6, xt6⟩ := Typed.int xt5
  obtain ⟨x7, xl7, rfl, xt7⟩ := Typed.bool xt6
  obtain ⟨x8, xl8, rfl, xt8⟩ := Typed.bool xt7
  obtain ⟨x9, xl9, rfl, xr9, xt9⟩ := Typed.int xt8
  obtain ⟨x10, xl10, rfl, xr10, xt10⟩ := Typed.int xt9
  obtain rfl := Typed.nil' xt10
  intro q hq
  simp only [iF, List.mem_cons, List.not_mem_nil, or_false] at hq
  rcases hq with rfl | rfl | rfl | rfl | rfl | rfl | rfl | rfl | rfl | rfl | rfl | rfl | rfl | rfl | rfl | rfl | rfl | rfl
  · exact decide_eq_true (by simp only [den]; rw [hI 0 (by decide)]; exact xr0.1)
  · exact decide_eq_true (by simp only [den]; rw [hI 0 (by decide)]; exact xr0.2)
  · exact decide_eq_true (by simp only [den]; rw [hI 1 (by decide)]; exact xr1.1)
  · exact decide_eq_true (by simp only [den]; rw [hI 1 (by decide)]; exact xr1.2)
  · exact decide_eq_true (by simp only [den]; rw [hI 2 (by decide)]; exact xr2.1)
  · exact decide_eq_true (by simp only [den]; rw [hI 2 (by decide)]; exact xr2.2)
  · exact decide_eq_true (by simp only [den]; rw [hI 3 (by decide)]; exact xr3.1)
  · exact decide_eq_true (by simp only [den]; rw [hI 3 (by decide)]; exact xr3.2)
  · exact decide_eq_true (by simp only [den]; rw [hI 4 (by decide)]; exact xr4.1)
  · exact decide_eq_true (by simp only [den]; rw [hI 4 (by decide)]; exact xr4.2)
  · exact decide_eq_true (by simp only [den]; rw [hI 5 (by decide)]; exact xr5.1)
  · exact decide_eq_true (by simp only [den]; rw [hI 5 (by decide)]; exact xr5.2)
  · exact decide_eq_true (by simp only [den]; rw [hI 6 (by decide)]; exact xr6.1)
  · exact decide_eq_true (by simp only [den]; rw [hI 6 (by decide)]; exact xr6.2)
  · exact decide_eq_true (by simp only [den]; rw [hI 9 (by decide)]; exact xr9.1)
  · exact decide_eq_true (by simp only [den]; rw [hI 9 (by decide)]; exact xr9.2)
  · exact decide_eq_true (by simp only [den]; rw [hI 10 (by decide)]; exact xr10.1)
  · exact decide_eq_true (by simp only [den]; rw [hI 10 (by decide)]; exact xr10.2)

theorem typed_cells {l : List Value} {ρ : Env} {b : Nat} (h : Typed instKs l) (hI : ∀ k, k ≤ 10 → ρ.I (b + k) = valI (l.getD k undef)) (hB : ∀ k, k ≤ 10 → ρ.B (b + k) = valB (l.getD k undef)) : concR ρ (qC false b) = l.map TC.sc := by
  obtain ⟨x0, xl0, rfl, xr0, xt0⟩ := Typed.int h
  obtain ⟨x1, xl1, rfl, xr1, xt1⟩ := Typed.int xt0
  obtain ⟨x2, xl2, rfl, xr2, xt2⟩ := Typed.int xt1
  obtain ⟨x3, xl3, rfl, xr3, xt3⟩ := Typed.int xt2
  obtain ⟨x4, xl4, rfl, xr4, xt4⟩ := Typed.int xt3
  obtain ⟨x5, xl5, rfl, xr5, xt5⟩ := Typed.int xt4
  obtain ⟨x6, xl6, rfl, xr6, xt6⟩ := Typed.int xt5
  obtain ⟨x7, xl7, rfl, xt7⟩ := Typed.bool xt6
  obtain ⟨x8, xl8, rfl, xt8⟩ := Typed.bool xt7
  obtain ⟨x9, xl9, rfl, xr9, xt9⟩ := Typed.int xt8
  obtain ⟨x10, xl10, rfl, xr10, xt10⟩ := Typed.int xt9
  obtain rfl := Typed.nil' xt10
  show [.sc (.int .u8 (ρ.I (b + 0))), .sc (.int .u8 (ρ.I (b + 1))), .sc (.int .u8 (ρ.I (b + 2))), .sc (.int .u8 (ρ.I (b + 3))), .sc (.int .u8 (ρ.I (b + 4))), .sc (.int .u8 (ρ.I (b + 5))), .sc (.int .u8 (ρ.I (b + 6))), .sc (.bool (ρ.B (b + 7))), .sc (.bool (ρ.B (b + 8))), .sc (.int .u16 (ρ.I (b + 9))), .sc (.int .i64 (ρ.I (b + 10)))] = [TC.sc (.int .u8 x0), TC.sc (.int .u8 x1), TC.sc (.int .u8 x2), TC.sc (.int .u8 x3), TC.sc (.int .u8 x4), TC.sc (.int .u8 x5), TC.sc (.int .u8 x6), TC.sc (.bool x7), TC.sc (.bool x8), TC.sc (.int .u16 x9), TC.sc (.int .i64 x10)]
  rw [hI 0 (by decide), hI 1 (by decide), hI 2 (by decide), hI 3 (by decide), hI 4 (by decide), hI 5 (by decide), hI 6 (by decide), hB 7 (by decide), hB 8 (by decide), hI 9 (by decide), hI 10 (by decide)]
  rfl

section
variable {rows : List (List Value)} {a b : List Value} {b0 b1 b2 b3 : Bool}

theorem rowE_I {i k : Nat} (hi : i < 10) (hk : k ≤ 10) : (rowE rows a b b0 b1 b2 b3).I (qB i + k) = valI ((whoI rows a b i).getD k undef) := by
  have e : qB i = 100 + 40 * i := rfl
  show valI ((whoI rows a b ((qB i + k - 100) / 40)).getD ((qB i + k - 100) % 40) undef) = _
  rw [show (qB i + k - 100) / 40 = i by omega, show (qB i + k - 100) % 40 = k by omega]

theorem rowE_B {i k : Nat} (hi : i < 10) (hk : k ≤ 10) : (rowE rows a b b0 b1 b2 b3).B (qB i + k) = valB ((whoI rows a b i).getD k undef) := by
  have e : qB i = 100 + 40 * i := rfl
  show (if qB i + k = 710 then _ else _) = _
  rw [if_neg (by omega), if_neg (by omega), if_neg (by omega), if_neg (by omega), show (qB i + k - 100) / 40 = i by omega, show (qB i + k - 100) % 40 = k by omega]

theorem who_typed (hr : ∀ r ∈ rows, Typed instKs r) (ha : Typed instKs a) (hb : Typed instKs b) (i : Nat) : Typed instKs (whoI rows a b i) := by
  unfold whoI
  split
  · exact ha
  · split
    · exact hb
    · cases h : rows[i]? with
      | none => exact ⟨⟨0, rfl, by decide⟩, ⟨0, rfl, by decide⟩, ⟨0, rfl, by decide⟩, ⟨0, rfl, by decide⟩, ⟨0, rfl, by decide⟩, ⟨0, rfl, by decide⟩, ⟨0, rfl, by decide⟩, ⟨false, rfl⟩, ⟨false, rfl⟩, ⟨0, rfl, by decide⟩, ⟨0, rfl, by decide⟩, trivial⟩
      | some r => exact hr r (List.mem_of_getElem? h)

theorem small_args (hr : ∀ r ∈ rows, Typed instKs r) (ha : Typed instKs a) (hb : Typed instKs b) (hn : rows.length ≤ 8) :
    concs (rowE rows a b b0 b1 b2 b3) (lArgs rows.length) = [bgP (rowsT rows) b0 b1 b2 b3, .agg (scs a), .agg (scs b)] := by
  have cell : ∀ i, i < 10 → concR (rowE rows a b b0 b1 b2 b3) (qC false (qB i)) = (whoI rows a b i).map TC.sc := fun i hi => typed_cells (who_typed hr ha hb i) (fun k hk => rowE_I hi hk) (fun k hk => rowE_B hi hk)
  have e1 : conc (rowE rows a b b0 b1 b2 b3) (qL false rows.length) = .tc (.sl 11 (rowsT rows)) := by
    show AV.tc (.sl 11 (concE _ ((List.range rows.length).map fun i => qC false (qB i)))) = _
    rw [concE_mapP, List.map_map]
    congr 2
    refine List.ext_getElem? fun i => ?_
    simp only [rowsT, List.getElem?_map]
    by_cases hi : i < rows.length
    · rw [List.getElem?_range hi, List.getElem?_eq_getElem hi]
      simp only [Option.map_some, Function.comp, Option.some.injEq]
      rw [cell i (by omega)]
      have : whoI rows a b i = rows[i] := by
        unfold whoI
        rw [if_neg (by omega), if_neg (by omega), List.getElem?_eq_getElem hi]
        rfl
      rw [this]
    · rw [List.getElem?_eq_none (by simp; omega), List.getElem?_eq_none (by omega)]
      rfl
  have ag : ∀ i, i < 10 → conc (rowE rows a b b0 b1 b2 b3) (qA false i) = .agg (scs (whoI rows a b i)) := fun i hi => by
    simp only [qA, conc, concs_tcs, cell i hi]
    simp only [tcs, scs, List.map_map]
    rfl
  show [AV.agg [conc (rowE rows a b b0 b1 b2 b3) (qL false rows.length), blV b0, blV b1, blV b2, blV b3], conc (rowE rows a b b0 b1 b2 b3) (qA false 8), conc (rowE rows a b b0 b1 b2 b3) (qA false 9)] = _
  rw [e1, ag 8 (by decide), ag 9 (by decide)]
  rfl
end

theorem rulesTells_walk {w : World} {rows : List (List Value)} {sv : Value} (hr : ∀ r ∈ rows, Typed instKs r) (hsv : ∀ ob : Obs, @RT ob (fun b => b < w.heap.size) w (.sl 11 (rowsT rows)) sv) (b0 b1 b2 b3 : Bool) {a b : List Value} (ha : Typed instKs a) (hb : Typed instKs b) :
    Calls Try.prog 3 #[.agg #[sv, .bool b0, .bool b1, .bool b2, .bool b3], .agg a.toArray, .agg b.toArray] w fun e w' => e = .returned (.bool true) ∧ Below w.heap.size w w' := by
  have hc : CallsTo CA10 3 [bgP (rowsT rows) b0 b1 b2 b3, .agg (scs a), .agg (scs b)] (blV true) := by
    by_cases hl : rows.length ≤ 8
    · rw [← small_args hr ha hb hl]
      exact small_calls hl fun i hi => typed_facts (who_typed hr ha hb i) fun k hk => rowE_I hi hk
    · obtain ⟨a', rfl⟩ : ∃ a', a' = a := ⟨_, rfl⟩
      have key : ∀ {l m : List Value}, Typed instKs l → Typed instKs m → CallsTo CA10 3 [bgP (rowsT rows) b0 b1 b2 b3, .agg (scs l), .agg (scs m)] (blV true) := fun {l m} h h' => by
        obtain ⟨x0, xl0, rfl, xr0, xt0⟩ := Typed.int h
        obtain ⟨x1, xl1, rfl, xr1, xt1⟩ := Typed.int xt0
        obtain ⟨x2, xl2, rfl, xr2, xt2⟩ := Typed.int xt1
        obtain ⟨x3, xl3, rfl, xr3, xt3⟩ := Typed.int xt2
        obtain ⟨x4, xl4, rfl, xr4, xt4⟩ := Typed.int xt3
        obtain ⟨x5, xl5, rfl, xr5, xt5⟩ := Typed.int xt4
        obtain ⟨x6, xl6, rfl, xr6, xt6⟩ := Typed.int xt5
        obtain ⟨x7, xl7, rfl, xt7⟩ := Typed.bool xt6
        obtain ⟨x8, xl8, rfl, xt8⟩ := Typed.bool xt7
        obtain ⟨x9, xl9, rfl, xr9, xt9⟩ := Typed.int xt8
        obtain ⟨x10, xl10, rfl, xr10, xt10⟩ := Typed.int xt9
        obtain rfl := Typed.nil' xt10
        obtain ⟨y0, yl0, rfl, yr0, yt0⟩ := Typed.int h'
        obtain ⟨y1, yl1, rfl, yr1, yt1⟩ := Typed.int yt0
        obtain ⟨y2, yl2, rfl, yr2, yt2⟩ := Typed.int yt1
        obtain ⟨y3, yl3, rfl, yr3, yt3⟩ := Typed.int yt2
        obtain ⟨y4, yl4, rfl, yr4, yt4⟩ := Typed.int yt3
        obtain ⟨y5, yl5, rfl, yr5, yt5⟩ := Typed.int yt4
        obtain ⟨y6, yl6, rfl, yr6, yt6⟩ := Typed.int yt5
        obtain ⟨y7, yl7, rfl, yt7⟩ := Typed.bool yt6
        obtain ⟨y8, yl8, rfl, yt8⟩ := Typed.bool yt7
        obtain ⟨y9, yl9, rfl, yr9, yt9⟩ := Typed.int yt8
        obtain ⟨y10, yl10, rfl, yr10, yt10⟩ := Typed.int yt9
        obtain rfl := Typed.nil' yt10
        have := big_calls (rowsT rows) b0 b1 b2 b3 x0 x1 x2 x3 x4 x5 x6 x7 x8 x9 x10 y0 y1 y2 y3 y4 y5 y6 y7 y8 y9 y10 (ρ := ρ0) (by simp [rowsT]; omega)
        have e : concs ρ0 (bgA (rowsT rows) b0 b1 b2 b3 x0 x1 x2 x3 x4 x5 x6 x7 x8 x9 x10 y0 y1 y2 y3 y4 y5 y6 y7 y8 y9 y10) = bgA (rowsT rows) b0 b1 b2 b3 x0 x1 x2 x3 x4 x5 x6 x7 x8 x9 x10 y0 y1 y2 y3 y4 y5 y6 y7 y8 y9 y10 := by
          show [AV.agg [.tc (.sl 11 (concE ρ0 (rowsT rows))), _, _, _, _], _, _] = _
          rw [concE_rowsT]
          rfl
        rw [e] at this
        exact this
      exact key ha hb
  refine walk_of rfl hc fun ob => ⟨rfl, fun i x v hi hv => ?_⟩
  match i, hi, hv with
  | 0, hi, hv =>
    obtain rfl := Option.some.inj hi
    obtain rfl := Option.some.inj hv
    refine .agg _ _ rfl fun j y u hj hu => ?_
    match j, hj, hu with
    | 0, hj, hu => obtain rfl := Option.some.inj hj; obtain rfl := Option.some.inj hu; exact .tc _ _ (hsv ob)
    | 1, hj, hu => obtain rfl := Option.some.inj hj; obtain rfl := Option.some.inj hu; exact .of_sc _ _ _ _
    | 2, hj, hu => obtain rfl := Option.some.inj hj; obtain rfl := Option.some.inj hu; exact .of_sc _ _ _ _
    | 3, hj, hu => obtain rfl := Option.some.inj hj; obtain rfl := Option.some.inj hu; exact .of_sc _ _ _ _
    | 4, hj, hu => obtain rfl := Option.some.inj hj; obtain rfl := Option.some.inj hu; exact .of_sc _ _ _ _
    | k + 5, hj, _ => simp at hj
  | 1, hi, hv =>
    obtain rfl := Option.some.inj hi
    obtain rfl := Option.some.inj hv
    exact relA_scs _ _ _ a.toArray
  | 2, hi, hv =>
    obtain rfl := Option.some.inj hi
    obtain rfl := Option.some.inj hv
    exact relA_scs _ _ _ b.toArray
  | k + 3, hi, _ => simp at hi

end Go.Proofs.Ytamhmfdbnlkmkaa
