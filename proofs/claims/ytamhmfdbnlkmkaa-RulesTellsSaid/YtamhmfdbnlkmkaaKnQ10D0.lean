/- Rules: whether any two clash. -/
import Derived.Test.YtamhmfdbnlkmkaaKnQ10C1
import Derived.Test.YtamhmfdbnlkmkaaKnQ10C2
import Derived.Test.YtamhmfdbnlkmkaaKnQ10C3
import Derived.Test.YtamhmfdbnlkmkaaKnQ10C4
import Derived.Test.YtamhmfdbnlkmkaaKnI10
set_option linter.unusedVariables false
set_option linter.unusedSimpArgs false
set_option maxRecDepth 100000
namespace Go.Proofs.Ytamhmfdbnlkmkaa
open Go Go.RowKit


theorem isC_ok {ρ : Env} {C : Ctx} (hs : Summ ρ C) (hsym : C.sym = false) (hb : baseOf C = baseOf CA10) (hp : CA10.P = C.P) (hg : CA10.glob = C.glob) {R : AV} {f : FuncId} {args : List AV} {fs : Facts} (hf : FactsOk ρ fs) (h : isC C R f args fs = true) : CallsTo CA10 f (concs ρ args) (conc ρ R) := by
  have h1 : RunsIs C 24 fs f args R := .code (fun f => by rw [hb]; exact codeRul_ok f) hsym h
  exact (h1.calls hs hf).of hp hg

/-- Is never more than one of two due? -/
def apV (pa pb ma mb : Int) : Bool := (pa == pb) && ((ma == 1 && mb == 2) || (ma == 2 && mb == 1) || (ma == 3 && mb == 4) || (ma == 4 && mb == 3))

theorem apE_den (ρ : Env) (pa pb ma mb : Sx) : (den ρ (apE pa pb ma mb)).b = apV (den ρ pa).i (den ρ pb).i (den ρ ma).i (den ρ mb).i := by
  simp only [apE, andX_den, orX_den, den, cmpI, apV]
  cases ((den ρ pa).i == (den ρ pb).i) <;> simp [Bool.or_assoc]

/-- Whether two clash: told alike by both, from either side. -/
structure ClashT (x y : AV) (wo po : Bool) (w p : Int) (wo' po' : Bool) (w' p' : Int) (ap c : Bool) : Prop where
  c1 : CallsTo CA10 12 [x, y] (blV c)
  c2 : CallsTo CA10 13 [x, y] (blV c)
  c3 : CallsTo CA10 12 [y, x] (blV c)
  reg : c = false → wo = true → wo' = true → w = w' → ap = true
  prd : c = false → po = true → po' = true → p ≠ p'

/-- Two instructions' variables. -/
def pE (ρ : Env) (i j : Nat) (w p w' p' d : Int) : Env := ⟨fun k => if k = 90 then d else if k = 113 then w else if k = 115 then p else if k = 153 then w' else if k = 155 then p' else if k < 140 then ρ.I (qB i + (k - 100)) else ρ.I (qB j + (k - 140)),
  fun k => if k < 140 then ρ.B (qB i + (k - 100)) else ρ.B (qB j + (k - 140)), ρ.S, ρ.F⟩

theorem pE_0 (ρ : Env) (i j : Nat) (w p w' p' d : Int) : conc (pE ρ i j w p w' p' d) (qA false 0) = conc ρ (iA (qB i)) := rfl
theorem pE_1 (ρ : Env) (i j : Nat) (w p w' p' d : Int) : conc (pE ρ i j w p w' p' d) (qA false 1) = conc ρ (iA (qB j)) := rfl

theorem pE_facts {ρ : Env} {i j : Nat} {w p w' p' d : Int} (h1 : 0 ≤ w ∧ w ≤ 31) (h2 : 0 ≤ w' ∧ w' ≤ 31) (h3 : 0 ≤ p ∧ p ≤ 3) (h4 : 0 ≤ p' ∧ p' ≤ 3) (h5 : 1 ≤ d ∧ d ≤ 31) : FactsOk (pE ρ i j w p w' p' d) cF := fun q hq => by
  simp only [cF, qBnd, List.cons_append, List.nil_append, List.mem_cons, List.not_mem_nil, or_false] at hq
  rcases hq with rfl | rfl | rfl | rfl | rfl | rfl | rfl | rfl | rfl | rfl
  · exact decide_eq_true h1.1
  · exact decide_eq_true h1.2
  · exact decide_eq_true h2.1
  · exact decide_eq_true h2.2
  · exact decide_eq_true h3.1
  · exact decide_eq_true h3.2
  · exact decide_eq_true h4.1
  · exact decide_eq_true h4.2
  · exact decide_eq_true h5.1
  · exact decide_eq_true h5.2

theorem clash_kC {ρ : Env} {x y ox oy : AV} {rx ry wo po wo' po' : Bool} {cx cy w p w' p' : Int} {ap : Bool} {ka kb : Int} {s : Nat} (tx : Told x ox rx cx w wo p po) (ty : Told y oy ry cy w' wo' p' po')
    (h0 : conc ρ (qA false 0) = x) (h1 : conc ρ (qA false 1) = y) (hf : FactsOk ρ cF) (hr : RunsCh (ctxF CA10 (cT ka kb s)) 24 cF 12 [qA false 0, qA false 1] (kC ka kb s))
    (e1 : conc ρ (cW ka (cE (cS 1 ka kb s) 113 153).1) = .tuple [inV .u8 w, blV wo]) (e2 : conc ρ (cW kb (cE (cS 1 ka kb s) 113 153).2) = .tuple [inV .u8 w', blV wo'])
    (e3 : conc ρ (cP ka (cE (cS 2 ka kb s) 115 155).1) = .tuple [inV .u8 p, blV po]) (e4 : conc ρ (cP kb (cE (cS 2 ka kb s) 115 155).2) = .tuple [inV .u8 p', blV po'])
    (h2 : wo = true → wo' = true → w = w' → False) (h3 : po = true → po' = true → p = p' → s = 1 ∧ ka = 2 ∧ kb = 2) : ∃ c, ClashT x y wo po w p wo' po' w' p' ap c := by
  have hs : Summ ρ (ctxF CA10 (cT ka kb s)) := ctxF_ok (CA10_ok ρ) fun q hq r hr => by
    simp only [cT, List.mem_cons, List.not_mem_nil, or_false] at hq
    rcases hq with rfl | rfl | rfl | rfl <;> simp only [List.mem_cons, List.not_mem_nil, or_false] at hr <;> rcases hr with rfl | rfl <;> simp only [concs, h0, h1, e1, e2, e3, e4]
    · exact tx.writes
    · exact ty.writes
    · exact tx.writes'
    · exact ty.writes'
    · exact tx.pred
    · exact ty.pred
    · exact tx.pred'
    · exact ty.pred'
  obtain ⟨r, fs, c1, hf1, hk⟩ := hr.calls hs hf
  unfold kC at hk
  obtain ⟨k1, hk⟩ := both_ok hk
  obtain ⟨k2, k3⟩ := both_ok hk
  have g2 := isC_ok hs rfl rfl rfl rfl hf1 k1
  have g3 := isC_ok hs rfl rfl rfl rfl hf1 k2
  have g1 : CallsTo CA10 12 (concs ρ [qA false 0, qA false 1]) (conc ρ r) := c1.of rfl rfl
  split at k3
  case h_2 => cases k3
  rename_i e he
  rw [asSx_conc ρ he] at g1 g2 g3
  simp only [concs, h0, h1] at g1 g2 g3
  refine ⟨(den ρ e).b, g1, g2, g3, fun _ a b c => (h2 a b c).elim, fun hc a b c => ?_⟩
  obtain ⟨rfl, rfl, rfl⟩ := h3 a b c
  have := knowN_ok hf1 (show knowN e true fs = true from k3)
  rw [hc] at this
  cases this

theorem conc_cW (ρ : Env) (k : Int) (e : Sx) : conc ρ (cW k e) = .tuple [inV .u8 (den ρ e).i, blV (decide (k = 1))] := rfl
theorem conc_cP (ρ : Env) (k : Int) (e : Sx) : conc ρ (cP k e) = .tuple [inV .u8 (den ρ e).i, blV (decide (k = 2))] := rfl
theorem w64q {x : Int} (h0 : -9000 ≤ x) (h1 : x ≤ 9000) : IntKind.i64.wrap x = x := wrap_id (k := .i64) (by show -9223372036854775808 ≤ x; omega) (by show x ≤ 9223372036854775807; omega)

theorem cE_den {ρ : Env} {i j : Nat} {w p w' p' d : Int} (h1 : 0 ≤ w ∧ w ≤ 31) (h2 : 0 ≤ w' ∧ w' ≤ 31) (h3 : 0 ≤ p ∧ p ≤ 3) (h4 : 0 ≤ p' ∧ p' ≤ 3) (h5 : 1 ≤ d ∧ d ≤ 31) :
    (den (pE ρ i j w p w' p' d) (cE 2 113 153).2).i = w + d ∧ (den (pE ρ i j w p w' p' d) (cE 3 113 153).2).i = w - d ∧ (den (pE ρ i j w p w' p' d) (cE 2 115 155).2).i = p + d ∧ (den (pE ρ i j w p w' p' d) (cE 3 115 155).2).i = p - d := by
  refine ⟨?_, ?_, ?_, ?_⟩
  · show IntKind.i64.wrap (w + d) = w + d
    exact w64q (by omega) (by omega)
  · show IntKind.i64.wrap (w + IntKind.i64.wrap (d * (-1))) = w - d
    rw [w64q (x := d * (-1)) (by omega) (by omega), w64q (by omega) (by omega)]
    omega
  · show IntKind.i64.wrap (p + d) = p + d
    exact w64q (by omega) (by omega)
  · show IntKind.i64.wrap (p + IntKind.i64.wrap (d * (-1))) = p - d
    rw [w64q (x := d * (-1)) (by omega) (by omega), w64q (by omega) (by omega)]
    omega

/-- Two instructions' variables; modes that are numbers are not asked. -/
def pM (ρ : Env) (i j : Nat) (w p p' : Int) : Env := ⟨fun k => if k = 106 then max 5 (ρ.I (qB i + 6)) else if k = 146 then max 5 (ρ.I (qB j + 6)) else (pE ρ i j w p w p' 1).I k, (pE ρ i j w p w p' 1).B, ρ.S, ρ.F⟩

def modeK (m : Int) : Int := if m ≤ 4 then m else 5

theorem pM_facts {ρ : Env} {i j : Nat} {w p p' : Int} {s : Bool} (h1 : 0 ≤ w ∧ w ≤ 31) (h3 : 0 ≤ p ∧ p ≤ 3) (h4 : 0 ≤ p' ∧ p' ≤ 3) (m1 : ρ.I (qB i + 6) ≤ 255) (m2 : ρ.I (qB j + 6) ≤ 255) (hs : s = false → ρ.I (qB i + 5) ≠ ρ.I (qB j + 5)) : FactsOk (pM ρ i j w p p') (mF s) := by
  have hc : FactsOk (pM ρ i j w p p') cF := fun q hq => by
    have := pE_facts (ρ := ρ) (i := i) (j := j) (w := w) (p := p) (w' := w) (p' := p') (d := 1) h1 h1 h3 h4 (by decide) q hq
    simp only [cF, qBnd, List.cons_append, List.nil_append, List.mem_cons, List.not_mem_nil, or_false] at hq
    rcases hq with rfl | rfl | rfl | rfl | rfl | rfl | rfl | rfl | rfl | rfl <;> exact this
  have hb : FactsOk (pM ρ i j w p p') (qBnd 106 5 255 ++ qBnd 146 5 255 ++ cF) := fun q hq => by
    simp only [qBnd, List.cons_append, List.nil_append, List.append_assoc, List.mem_cons] at hq
    rcases hq with rfl | rfl | rfl | rfl | hq
    · exact decide_eq_true (show max 5 (ρ.I (qB i + 6)) ≥ 5 by omega)
    · exact decide_eq_true (show max 5 (ρ.I (qB i + 6)) ≤ 255 by omega)
    · exact decide_eq_true (show max 5 (ρ.I (qB j + 6)) ≥ 5 by omega)
    · exact decide_eq_true (show max 5 (ρ.I (qB j + 6)) ≤ 255 by omega)
    · exact hc q hq
  cases s with
  | true => exact hb
  | false =>
    have hn := hs rfl
    intro q hq
    simp only [mF, _root_.cond_false, List.append_assoc, List.cons_append, List.nil_append, List.mem_cons] at hq
    rcases hq with rfl | rfl | hq
    · show (ρ.I (qB i + 5) == ρ.I (qB j + 5)) = false
      simpa using hn
    · show (ρ.I (qB j + 5) == ρ.I (qB i + 5)) = false
      simpa using fun h => hn h.symm
    · exact hb q (by simpa [List.append_assoc] using hq)

theorem pM_0 {ρ : Env} {i j : Nat} {w p p' : Int} (m0 : 0 ≤ ρ.I (qB i + 6)) : conc (pM ρ i j w p p') (mC (modeK (ρ.I (qB i + 6))) 0) = conc ρ (iA (qB i)) := by
  have hX : conc (pM ρ i j w p p') (cond (decide (modeK (ρ.I (qB i + 6)) = 5)) (.tc (.sy (.int .u8) (.var (qB 0 + 6)))) (inV .u8 (modeK (ρ.I (qB i + 6))))) = inV .u8 (ρ.I (qB i + 6)) := by
    unfold modeK
    by_cases h : ρ.I (qB i + 6) ≤ 4
    · have h5 : ¬ (ρ.I (qB i + 6) = 5) := by omega
      rw [if_pos h, decide_eq_false h5]
      rfl
    · rw [if_neg h]
      show inV .u8 (max 5 (ρ.I (qB i + 6))) = inV .u8 (ρ.I (qB i + 6))
      rw [Int.max_eq_right (by omega)]
  show AV.agg [inV .u8 (ρ.I (qB i + 0)), inV .u8 (ρ.I (qB i + 1)), inV .u8 (ρ.I (qB i + 2)), inV .u8 (ρ.I (qB i + 3)), inV .u8 (ρ.I (qB i + 4)), inV .u8 (ρ.I (qB i + 5)), conc (pM ρ i j w p p') (cond (decide (modeK (ρ.I (qB i + 6)) = 5)) (.tc (.sy (.int .u8) (.var (qB 0 + 6)))) (inV .u8 (modeK (ρ.I (qB i + 6))))), blV (ρ.B (qB i + 7)), blV (ρ.B (qB i + 8)), inV .u16 (ρ.I (qB i + 9)), inV .i64 (ρ.I (qB i + 10))] = AV.agg [inV .u8 (ρ.I (qB i + 0)), inV .u8 (ρ.I (qB i + 1)), inV .u8 (ρ.I (qB i + 2)), inV .u8 (ρ.I (qB i + 3)), inV .u8 (ρ.I (qB i + 4)), inV .u8 (ρ.I (qB i + 5)), inV .u8 (ρ.I (qB i + 6)), blV (ρ.B (qB i + 7)), blV (ρ.B (qB i + 8)), inV .u16 (ρ.I (qB i + 9)), inV .i64 (ρ.I (qB i + 10))]
  rw [hX]

theorem pM_1 {ρ : Env} {i j : Nat} {w p p' : Int} {s : Bool} (m0 : 0 ≤ ρ.I (qB j + 6)) (hs : s = true → ρ.I (qB i + 5) = ρ.I (qB j + 5)) : conc (pM ρ i j w p p') (mN s (modeK (ρ.I (qB j + 6)))) = conc ρ (iA (qB j)) := by
  have hX : conc (pM ρ i j w p p') (cond (decide (modeK (ρ.I (qB j + 6)) = 5)) (.tc (.sy (.int .u8) (.var (qB 1 + 6)))) (inV .u8 (modeK (ρ.I (qB j + 6))))) = inV .u8 (ρ.I (qB j + 6)) := by
    unfold modeK
    by_cases h : ρ.I (qB j + 6) ≤ 4
    · have h5 : ¬ (ρ.I (qB j + 6) = 5) := by omega
      rw [if_pos h, decide_eq_false h5]
      rfl
    · rw [if_neg h]
      show inV .u8 (max 5 (ρ.I (qB j + 6))) = inV .u8 (ρ.I (qB j + 6))
      rw [Int.max_eq_right (by omega)]
  cases s with
  | false =>
    show AV.agg [inV .u8 (ρ.I (qB j + 0)), inV .u8 (ρ.I (qB j + 1)), inV .u8 (ρ.I (qB j + 2)), inV .u8 (ρ.I (qB j + 3)), inV .u8 (ρ.I (qB j + 4)), inV .u8 (ρ.I (qB j + 5)), conc (pM ρ i j w p p') (cond (decide (modeK (ρ.I (qB j + 6)) = 5)) (.tc (.sy (.int .u8) (.var (qB 1 + 6)))) (inV .u8 (modeK (ρ.I (qB j + 6))))), blV (ρ.B (qB j + 7)), blV (ρ.B (qB j + 8)), inV .u16 (ρ.I (qB j + 9)), inV .i64 (ρ.I (qB j + 10))] = AV.agg [inV .u8 (ρ.I (qB j + 0)), inV .u8 (ρ.I (qB j + 1)), inV .u8 (ρ.I (qB j + 2)), inV .u8 (ρ.I (qB j + 3)), inV .u8 (ρ.I (qB j + 4)), inV .u8 (ρ.I (qB j + 5)), inV .u8 (ρ.I (qB j + 6)), blV (ρ.B (qB j + 7)), blV (ρ.B (qB j + 8)), inV .u16 (ρ.I (qB j + 9)), inV .i64 (ρ.I (qB j + 10))]
    rw [hX]
  | true =>
    show AV.agg [inV .u8 (ρ.I (qB j + 0)), inV .u8 (ρ.I (qB j + 1)), inV .u8 (ρ.I (qB j + 2)), inV .u8 (ρ.I (qB j + 3)), inV .u8 (ρ.I (qB j + 4)), inV .u8 (ρ.I (qB i + 5)), conc (pM ρ i j w p p') (cond (decide (modeK (ρ.I (qB j + 6)) = 5)) (.tc (.sy (.int .u8) (.var (qB 1 + 6)))) (inV .u8 (modeK (ρ.I (qB j + 6))))), blV (ρ.B (qB j + 7)), blV (ρ.B (qB j + 8)), inV .u16 (ρ.I (qB j + 9)), inV .i64 (ρ.I (qB j + 10))] = AV.agg [inV .u8 (ρ.I (qB j + 0)), inV .u8 (ρ.I (qB j + 1)), inV .u8 (ρ.I (qB j + 2)), inV .u8 (ρ.I (qB j + 3)), inV .u8 (ρ.I (qB j + 4)), inV .u8 (ρ.I (qB j + 5)), inV .u8 (ρ.I (qB j + 6)), blV (ρ.B (qB j + 7)), blV (ρ.B (qB j + 8)), inV .u16 (ρ.I (qB j + 9)), inV .i64 (ρ.I (qB j + 10))]
    rw [hX, hs rfl]

theorem mX_den0 {ρ : Env} {i j : Nat} {w p p' : Int} (m0 : 0 ≤ ρ.I (qB i + 6)) : (den (pM ρ i j w p p') (mX (modeK (ρ.I (qB i + 6))) 0)).i = ρ.I (qB i + 6) := by
  unfold mX modeK
  by_cases h : ρ.I (qB i + 6) ≤ 4
  · have h5 : ¬ (ρ.I (qB i + 6) = 5) := by omega
    rw [if_pos h, decide_eq_false h5]
    rfl
  · rw [if_neg h]
    show max 5 (ρ.I (qB i + 6)) = ρ.I (qB i + 6)
    rw [Int.max_eq_right (by omega)]

theorem mX_den1 {ρ : Env} {i j : Nat} {w p p' : Int} (m0 : 0 ≤ ρ.I (qB j + 6)) : (den (pM ρ i j w p p') (mX (modeK (ρ.I (qB j + 6))) 1)).i = ρ.I (qB j + 6) := by
  unfold mX modeK
  by_cases h : ρ.I (qB j + 6) ≤ 4
  · have h5 : ¬ (ρ.I (qB j + 6) = 5) := by omega
    rw [if_pos h, decide_eq_false h5]
    rfl
  · rw [if_neg h]
    show max 5 (ρ.I (qB j + 6)) = ρ.I (qB j + 6)
    rw [Int.max_eq_right (by omega)]

theorem cm_all (s : Bool) (a b : Int) (ha : 0 ≤ a ∧ a ≤ 5) (hb : 0 ≤ b ∧ b ≤ 5) : RunsCh (ctxF CA10 (mT s a b)) 24 (mF s) 12 [mC a 0, mN s b] (kM s a b) := by
  have h1 : a = 0 ∨ a = 1 ∨ a = 2 ∨ a = 3 ∨ a = 4 ∨ a = 5 := by omega
  have h2 : b = 0 ∨ b = 1 ∨ b = 2 ∨ b = 3 ∨ b = 4 ∨ b = 5 := by omega
  rcases h1 with rfl | rfl | rfl | rfl | rfl | rfl <;> rcases h2 with rfl | rfl | rfl | rfl | rfl | rfl <;> cases s
  · exact cmf_00
  · exact cmt_00
  · exact cmf_01
  · exact cmt_01
  · exact cmf_02
  · exact cmt_02
  · exact cmf_03
  · exact cmt_03
  · exact cmf_04
  · exact cmt_04
  · exact cmf_05
  · exact cmt_05
  · exact cmf_10
  · exact cmt_10
  · exact cmf_11
  · exact cmt_11
  · exact cmf_12
  · exact cmt_12
  · exact cmf_13
  · exact cmt_13
  · exact cmf_14
  · exact cmt_14
  · exact cmf_15
  · exact cmt_15
  · exact cmf_20
  · exact cmt_20
  · exact cmf_21
  · exact cmt_21
  · exact cmf_22
  · exact cmt_22
  · exact cmf_23
  · exact cmt_23
  · exact cmf_24
  · exact cmt_24
  · exact cmf_25
  · exact cmt_25
  · exact cmf_30
  · exact cmt_30
  · exact cmf_31
  · exact cmt_31
  · exact cmf_32
  · exact cmt_32
  · exact cmf_33
  · exact cmt_33
  · exact cmf_34
  · exact cmt_34
  · exact cmf_35
  · exact cmt_35
  · exact cmf_40
  · exact cmt_40
  · exact cmf_41
  · exact cmt_41
  · exact cmf_42
  · exact cmt_42
  · exact cmf_43
  · exact cmt_43
  · exact cmf_44
  · exact cmt_44
  · exact cmf_45
  · exact cmt_45
  · exact cmf_50
  · exact cmt_50
  · exact cmf_51
  · exact cmt_51
  · exact cmf_52
  · exact cmt_52
  · exact cmf_53
  · exact cmt_53
  · exact cmf_54
  · exact cmt_54
  · exact cmf_55
  · exact cmt_55

theorem clash_kM {ρ : Env} {i j : Nat} {ox oy : AV} {rx ry wo po wo' po' : Bool} {cx cy w p p' : Int} (tx : Told (conc ρ (iA (qB i))) ox rx cx w wo p po) (ty : Told (conc ρ (iA (qB j))) oy ry cy w wo' p' po')
    (hwo : wo = true) (hwo' : wo' = true) (m1 : 0 ≤ ρ.I (qB i + 6) ∧ ρ.I (qB i + 6) ≤ 255) (m2 : 0 ≤ ρ.I (qB j + 6) ∧ ρ.I (qB j + 6) ≤ 255) :
    ∃ c, ClashT (conc ρ (iA (qB i))) (conc ρ (iA (qB j))) wo po w p wo' po' w p' (apV (ρ.I (qB i + 5)) (ρ.I (qB j + 5)) (ρ.I (qB i + 6)) (ρ.I (qB j + 6))) c := by
  have hpo : po = false := by have := tx.one; cases po <;> simp_all
  have hpo' : po' = false := by have := ty.one; cases po' <;> simp_all
  subst hwo hwo' hpo hpo'
  obtain ⟨s, hs⟩ : ∃ s : Bool, s = decide (ρ.I (qB i + 5) = ρ.I (qB j + 5)) := ⟨_, rfl⟩
  have hs1 : s = true → ρ.I (qB i + 5) = ρ.I (qB j + 5) := fun h => of_decide_eq_true (by rw [← hs, h])
  have hs0 : s = false → ρ.I (qB i + 5) ≠ ρ.I (qB j + 5) := fun h => of_decide_eq_false (by rw [← hs, h])
  have hf := pM_facts (ρ := ρ) (i := i) (j := j) (s := s) tx.reg tx.prd ty.prd m1.2 m2.2 hs0
  have h0 := pM_0 (ρ := ρ) (i := i) (j := j) (w := w) (p := p) (p' := p') m1.1
  have h1 := pM_1 (ρ := ρ) (i := i) (j := j) (w := w) (p := p) (p' := p') (s := s) m2.1 hs1
  have ha : 0 ≤ modeK (ρ.I (qB i + 6)) ∧ modeK (ρ.I (qB i + 6)) ≤ 5 := by unfold modeK; split <;> omega
  have hb : 0 ≤ modeK (ρ.I (qB j + 6)) ∧ modeK (ρ.I (qB j + 6)) ≤ 5 := by unfold modeK; split <;> omega
  have hr := cm_all s _ _ ha hb
  have e1 : conc (pM ρ i j w p p') (cW 1 (.var 113)) = .tuple [inV .u8 w, blV true] := rfl
  have e3 : conc (pM ρ i j w p p') (cP 1 (.var 115)) = .tuple [inV .u8 p, blV false] := rfl
  have e4 : conc (pM ρ i j w p p') (cP 1 (.var 155)) = .tuple [inV .u8 p', blV false] := rfl
  have hS : Summ (pM ρ i j w p p') (ctxF CA10 (mT s (modeK (ρ.I (qB i + 6))) (modeK (ρ.I (qB j + 6))))) := ctxF_ok (CA10_ok _) fun q hq r hr => by
    simp only [mT, List.mem_cons, List.not_mem_nil, or_false] at hq
    rcases hq with rfl | rfl | rfl | rfl <;> simp only [List.mem_cons, List.not_mem_nil, or_false] at hr <;> rcases hr with rfl | rfl <;> simp only [concs, h0, h1, e1, e3, e4]
    · exact tx.writes
    · exact ty.writes
    · exact tx.writes'
    · exact ty.writes'
    · exact tx.pred
    · exact ty.pred
    · exact tx.pred'
    · exact ty.pred'
  obtain ⟨r, fs, c1, hf1, hk⟩ := hr.calls hS hf
  unfold kM at hk
  obtain ⟨k1, hk⟩ := both_ok hk
  obtain ⟨k2, k3⟩ := both_ok hk
  have g2 := isC_ok hS rfl rfl rfl rfl hf1 k1
  have g3 := isC_ok hS rfl rfl rfl rfl hf1 k2
  have g1 : CallsTo CA10 12 (concs (pM ρ i j w p p') [mC (modeK (ρ.I (qB i + 6))) 0, mN s (modeK (ρ.I (qB j + 6)))]) (conc (pM ρ i j w p p') r) := c1.of rfl rfl
  split at k3
  case h_2 => cases k3
  rename_i e he
  rw [asSx_conc _ he] at g1 g2 g3
  simp only [concs, h0, h1] at g1 g2 g3
  refine ⟨(den (pM ρ i j w p p') e).b, g1, g2, g3, fun hc _ _ _ => ?_, fun _ h => by cases h⟩
  have := knowN_ok hf1 k3
  simp only [den, apE_den, mX_den0 m1.1, mX_den1 m2.1] at this
  have hp : (den (pM ρ i j w p p') (.var (cond s 105 145))).i = ρ.I (qB j + 5) := by
    cases s with
    | false => rfl
    | true => exact hs1 rfl
  simp only [den] at hp
  rw [hp, hc] at this
  have h105 : (pM ρ i j w p p').I 105 = ρ.I (qB i + 5) := rfl
  rw [h105] at this
  simpa using this

theorem clash_told {ρ : Env} {i j : Nat} {ox oy : AV} {rx ry wo po wo' po' : Bool} {cx cy w p w' p' : Int} (tx : Told (conc ρ (iA (qB i))) ox rx cx w wo p po) (ty : Told (conc ρ (iA (qB j))) oy ry cy w' wo' p' po')
    (m1 : 0 ≤ ρ.I (qB i + 6) ∧ ρ.I (qB i + 6) ≤ 255) (m2 : 0 ≤ ρ.I (qB j + 6) ∧ ρ.I (qB j + 6) ≤ 255) :
    ∃ c, ClashT (conc ρ (iA (qB i))) (conc ρ (iA (qB j))) wo po w p wo' po' w' p' (apV (ρ.I (qB i + 5)) (ρ.I (qB j + 5)) (ρ.I (qB i + 6)) (ρ.I (qB j + 6))) c := by
  have o1 := tx.one
  have o2 := ty.one
  have r1 := tx.reg
  have r2 := ty.reg
  have q1 := tx.prd
  have q2 := ty.prd
  cases wo <;> cases po <;> cases wo' <;> cases po'
  · exact clash_kC tx ty (pE_0 ρ i j w p w' p' 1) (pE_1 ρ i j w p w' p' 1) (pE_facts (ρ := ρ) (i := i) (j := j) (w := w) (p := p) (w' := w') (p' := p') (d := 1) r1 r2 q1 q2 (by omega)) cl_000 rfl rfl rfl rfl (fun h => by cases h) (fun h => by cases h)
  · exact clash_kC tx ty (pE_0 ρ i j w p w' p' 1) (pE_1 ρ i j w p w' p' 1) (pE_facts (ρ := ρ) (i := i) (j := j) (w := w) (p := p) (w' := w') (p' := p') (d := 1) r1 r2 q1 q2 (by omega)) cl_020 rfl rfl rfl rfl (fun h => by cases h) (fun h => by cases h)
  · exact clash_kC tx ty (pE_0 ρ i j w p w' p' 1) (pE_1 ρ i j w p w' p' 1) (pE_facts (ρ := ρ) (i := i) (j := j) (w := w) (p := p) (w' := w') (p' := p') (d := 1) r1 r2 q1 q2 (by omega)) cl_010 rfl rfl rfl rfl (fun h => by cases h) (fun h => by cases h)
  · exact absurd ⟨rfl, rfl⟩ o2
  · exact clash_kC tx ty (pE_0 ρ i j w p w' p' 1) (pE_1 ρ i j w p w' p' 1) (pE_facts (ρ := ρ) (i := i) (j := j) (w := w) (p := p) (w' := w') (p' := p') (d := 1) r1 r2 q1 q2 (by omega)) cl_200 rfl rfl rfl rfl (fun h => by cases h) (fun _ h => by cases h)
  · by_cases he : p = p'
    · subst he
      exact clash_kC tx ty (pE_0 ρ i j w p w' p 1) (pE_1 ρ i j w p w' p 1) (pE_facts (ρ := ρ) (i := i) (j := j) (w := w) (p := p) (w' := w') (p' := p) (d := 1) r1 r2 q1 q2 (by omega)) cl_221 rfl rfl rfl rfl (fun h => by cases h) (fun _ _ _ => ⟨rfl, rfl, rfl⟩)
    · by_cases hl : p < p'
      · exact clash_kC tx ty (pE_0 ρ i j w p w' p' (p' - p)) (pE_1 ρ i j w p w' p' (p' - p)) (pE_facts (ρ := ρ) (i := i) (j := j) (w := w) (p := p) (w' := w') (p' := p') (d := (p' - p)) r1 r2 q1 q2 (by omega)) cl_222 rfl rfl rfl (by rw [conc_cP, show cS 2 2 2 2 = 2 from rfl, (cE_den (ρ := ρ) (i := i) (j := j) (d := p' - p) r1 r2 q1 q2 (by omega)).2.2.1]; show AV.tuple [inV .u8 (p + (p' - p)), blV true] = _; rw [show p + (p' - p) = p' by omega]) (fun h => by cases h) (fun _ _ h => absurd h he)
      · exact clash_kC tx ty (pE_0 ρ i j w p w' p' (p - p')) (pE_1 ρ i j w p w' p' (p - p')) (pE_facts (ρ := ρ) (i := i) (j := j) (w := w) (p := p) (w' := w') (p' := p') (d := (p - p')) r1 r2 q1 q2 (by omega)) cl_223 rfl rfl rfl (by rw [conc_cP, show cS 2 2 2 3 = 3 from rfl, (cE_den (ρ := ρ) (i := i) (j := j) (d := p - p') r1 r2 q1 q2 (by omega)).2.2.2]; show AV.tuple [inV .u8 (p - (p - p')), blV true] = _; rw [show p - (p - p') = p' by omega]) (fun h => by cases h) (fun _ _ h => absurd h he)
  · exact clash_kC tx ty (pE_0 ρ i j w p w' p' 1) (pE_1 ρ i j w p w' p' 1) (pE_facts (ρ := ρ) (i := i) (j := j) (w := w) (p := p) (w' := w') (p' := p') (d := 1) r1 r2 q1 q2 (by omega)) cl_210 rfl rfl rfl rfl (fun h => by cases h) (fun _ h => by cases h)
  · exact absurd ⟨rfl, rfl⟩ o2
  · exact clash_kC tx ty (pE_0 ρ i j w p w' p' 1) (pE_1 ρ i j w p w' p' 1) (pE_facts (ρ := ρ) (i := i) (j := j) (w := w) (p := p) (w' := w') (p' := p') (d := 1) r1 r2 q1 q2 (by omega)) cl_100 rfl rfl rfl rfl (fun _ h => by cases h) (fun h => by cases h)
  · exact clash_kC tx ty (pE_0 ρ i j w p w' p' 1) (pE_1 ρ i j w p w' p' 1) (pE_facts (ρ := ρ) (i := i) (j := j) (w := w) (p := p) (w' := w') (p' := p') (d := 1) r1 r2 q1 q2 (by omega)) cl_120 rfl rfl rfl rfl (fun _ h => by cases h) (fun h => by cases h)
  · by_cases he : w = w'
    · subst he
      exact clash_kM tx ty rfl rfl m1 m2
    · by_cases hl : w < w'
      · exact clash_kC tx ty (pE_0 ρ i j w p w' p' (w' - w)) (pE_1 ρ i j w p w' p' (w' - w)) (pE_facts (ρ := ρ) (i := i) (j := j) (w := w) (p := p) (w' := w') (p' := p') (d := (w' - w)) r1 r2 q1 q2 (by omega)) cl_112 rfl (by rw [conc_cW, show cS 1 1 1 2 = 2 from rfl, (cE_den (ρ := ρ) (i := i) (j := j) (d := w' - w) r1 r2 q1 q2 (by omega)).1]; show AV.tuple [inV .u8 (w + (w' - w)), blV true] = _; rw [show w + (w' - w) = w' by omega]) rfl rfl (fun _ _ h => absurd h he) (fun h => by cases h)
      · exact clash_kC tx ty (pE_0 ρ i j w p w' p' (w - w')) (pE_1 ρ i j w p w' p' (w - w')) (pE_facts (ρ := ρ) (i := i) (j := j) (w := w) (p := p) (w' := w') (p' := p') (d := (w - w')) r1 r2 q1 q2 (by omega)) cl_113 rfl (by rw [conc_cW, show cS 1 1 1 3 = 3 from rfl, (cE_den (ρ := ρ) (i := i) (j := j) (d := w - w') r1 r2 q1 q2 (by omega)).2.1]; show AV.tuple [inV .u8 (w - (w - w')), blV true] = _; rw [show w - (w - w') = w' by omega]) rfl rfl (fun _ _ h => absurd h he) (fun h => by cases h)
  · exact absurd ⟨rfl, rfl⟩ o2
  · exact absurd ⟨rfl, rfl⟩ o1
  · exact absurd ⟨rfl, rfl⟩ o1
  · exact absurd ⟨rfl, rfl⟩ o1
  · exact absurd ⟨rfl, rfl⟩ o1

end Go.Proofs.Ytamhmfdbnlkmkaa
