/- Small instructions: sub.Of of any instruction, by a plain function. -/
import Derived.Test.YthabafmieebmmaaDoorKnS07
set_option linter.unusedVariables false
set_option linter.unusedSimpArgs false
set_option maxRecDepth 100000
namespace Go.Proofs.YthabafmieebmmaaDoor
open Go Go.RowKit

def plain11 (ρ : Env) : Prop := ρ.I 4 = 0 ∧ ρ.I 5 = 0 ∧ ρ.I 6 = 0 ∧ ρ.B 7 = false ∧ ρ.B 8 = false ∧ ρ.I 9 = 0
instance (ρ : Env) : Decidable (plain11 ρ) := by unfold plain11; infer_instance
def i7of (ρ : Env) : I7 := ⟨ρ.I 0, ρ.I 1, ρ.I 2, ρ.I 3, ρ.I 10⟩
/-- The number of an instruction whose cells are variables. -/
def of11 (ρ : Env) : Option Int := if plain11 ρ then of7 (i7of ρ) else none
def ofR (r : Option Int) : AV := match r with
  | some x => .tuple [.tc (.sc (.int .u16 x)), .tc (.sc (.bool true))]
  | none => .tuple [.tc (.sc (.int .u16 0)), .tc (.sc (.bool false))]

theorem dle {a b : Int} {i : Decidable (a ≤ b)} : (@decide (a ≤ b) i = true) ↔ a ≤ b := decide_eq_true_iff
theorem dge {a b : Int} {i : Decidable (a ≥ b)} : (@decide (a ≥ b) i = true) ↔ b ≤ a := decide_eq_true_iff
theorem tmod4 {x : Int} : x.tmod 4 = 0 ↔ x % 4 = 0 := ⟨fun h => Int.emod_eq_zero_of_dvd (Int.dvd_of_tmod_eq_zero h), fun h => Int.tmod_eq_zero_of_dvd (Int.dvd_of_emod_eq_zero h)⟩

theorem d_and (ρ : Env) (a b : Sx) : ((den ρ (.and a b)).b = true) = ((den ρ a).b = true ∧ (den ρ b).b = true) := by show (((den ρ a).b && (den ρ b).b) = true) = _; simp
theorem d_notv (ρ : Env) (i : Nat) : ((den ρ (.not (.var i))).b = true) = (ρ.B i = false) := by show ((!ρ.B i) = true) = _; simp
theorem d_le (ρ : Env) (i : Nat) (n : Int) : ((den ρ (.cmp .leq (.var i) (.lit n))).b = true) = (ρ.I i ≤ n) := by show (decide (ρ.I i ≤ n) = true) = _; simp
theorem d_ge (ρ : Env) (i : Nat) (n : Int) : ((den ρ (.cmp .geq (.var i) (.lit n))).b = true) = (n ≤ ρ.I i) := by show (decide (ρ.I i ≥ n) = true) = _; simp
theorem d_eq (ρ : Env) (i : Nat) (n : Int) : ((den ρ (.cmp .eql (.var i) (.lit n))).b = true) = (ρ.I i = n) := by show ((ρ.I i == n) = true) = _; simp
theorem d_eqv (ρ : Env) (i j : Nat) : ((den ρ (.cmp .eql (.var i) (.var j))).b = true) = (ρ.I i = ρ.I j) := by show ((ρ.I i == ρ.I j) = true) = _; simp
theorem d_rem (ρ : Env) (i : Nat) : ((den ρ (.cmp .eql (.bin .rem .i64 (.var i) (.lit 4)) (.lit 0))).b = true) = (ρ.I i % 4 = 0) := by
  show (((ρ.I i).tmod 4 == 0) = true) = _
  rw [beq_iff_eq]
  exact propext tmod4

structure R255 (ρ : Env) : Prop where
  a1 : 0 ≤ ρ.I 1 ∧ ρ.I 1 ≤ 255
  a2 : 0 ≤ ρ.I 2 ∧ ρ.I 2 ≤ 255
  a3 : 0 ≤ ρ.I 3 ∧ ρ.I 3 ≤ 255

theorem r255 {ρ : Env} (hf : FactsOk ρ rightF) : R255 ρ :=
  ⟨⟨of_decide_eq_true (hf (.cmp .geq (.var 1) (.lit 0), true) (by simp [rightF])), of_decide_eq_true (hf (.cmp .leq (.var 1) (.lit 255), true) (by simp [rightF]))⟩,
   ⟨of_decide_eq_true (hf (.cmp .geq (.var 2) (.lit 0), true) (by simp [rightF])), of_decide_eq_true (hf (.cmp .leq (.var 2) (.lit 255), true) (by simp [rightF]))⟩,
   ⟨of_decide_eq_true (hf (.cmp .geq (.var 3) (.lit 0), true) (by simp [rightF])), of_decide_eq_true (hf (.cmp .leq (.var 3) (.lit 255), true) (by simp [rightF]))⟩⟩

theorem and127 {ρ : Env} (hf : FactsOk ρ rightF) : (den ρ (.bin .and .u32 (.conv .u32 (.var 10)) (.lit 127))).i = ρ.I 10 % 128 := by
  rw [← lin_ok hf]
  have : lin rightF (.bin .and .u32 (.conv .u32 (.var 10)) (.lit 127)) = (0, [(.var 10, [(0, 1), (7, -128)])]) := by kernel_rfl
  rw [this]
  simp only [lfVal, gsVal, grVal, den]
  omega

theorem sm_le {r : Int} (h0 : 0 ≤ r) (h1 : r ≤ 255) : 0 ≤ sm r ∧ sm r ≤ 135 := by unfold sm; omega

theorem den_smallOk {ρ : Env} {e : Sx} {x : Int} (hx : (den ρ e).i = x) (h0 : 0 ≤ x) : (den ρ (smallOk e)).b = true ↔ smOk x := by
  subst hx
  show (!((!decide ((den ρ e).i ≤ 7)) && !(decide ((den ρ e).i ≥ 16) && decide ((den ρ e).i ≤ 23)))) = true ↔ _
  unfold smOk
  by_cases h1 : (den ρ e).i ≤ 7 <;> by_cases h2 : (den ρ e).i ≥ 16 <;> by_cases h3 : (den ρ e).i ≤ 23 <;> simp [h1, h2, h3] <;> omega

/-- A sum of small numbers. -/
theorem den_add {ρ : Env} {a b : Sx} {x y : Int} (ha : (den ρ a).i = x) (hb : (den ρ b).i = y) (hx : -1000000 ≤ x ∧ x ≤ 1000000) (hy : -1000000 ≤ y ∧ y ≤ 1000000) : (den ρ (addE a b)).i = x + y := by
  show IntKind.i64.wrap ((den ρ a).i + (den ρ b).i) = _
  rw [ha, hb, w64 (by omega) (by omega)]
theorem den_mul {ρ : Env} {a : Sx} {x n : Int} (ha : (den ρ a).i = x) (hx : -1000000 ≤ x * n ∧ x * n ≤ 1000000) : (den ρ (mulE a n)).i = x * n := by
  show IntKind.i64.wrap ((den ρ a).i * n) = _
  rw [ha, w64 (by omega) (by omega)]

theorem opR_8 {ρ : Env} (hf : FactsOk ρ rightF) (h : ρ.I 0 = 8) : outV ρ (opT 8) = some (ofR (of11 ρ)) := by
  obtain ⟨r1, r2, r3⟩ := r255 hf
  have q1 := den_smallOk (ρ := ρ) (e := .var 1) (x := ρ.I 1) rfl r1.1
  have q2 := den_smallOk (ρ := ρ) (e := .var 2) (x := ρ.I 2) rfl r2.1
  have q3 := den_smallOk (ρ := ρ) (e := .var 3) (x := ρ.I 3) rfl r3.1
  have d1 : (den ρ (smallE (.var 1))).i = sm (ρ.I 1) := den_small (e := .var 1) r1.1 r1.2
  show cond (den ρ (conjE (opL 8))).b (some (conc ρ (yesO (opW 8)))) (some (conc ρ noO)) = _
  cases hb : (den ρ (conjE (opL 8))).b with
  | true =>
    simp only [opL, conjE, q1, q2, q3, d_and, d_notv, d_le, d_ge, d_eq, d_eqv, d_rem] at hb
    have hs := hb
    simp only [smOk] at hs
    have hp : plain11 ρ := by unfold plain11; refine ⟨?_, ?_, ?_, ?_, ?_, ?_⟩ <;> first | omega | simp_all
    rw [cond_true]
    have hv : of11 ρ = some (den ρ (opW 8)).i := by
      simp only [of11, if_pos hp, of7, i7of, h, Int.reduceEq, if_false, if_true]
      rw [if_pos (by simp only [hb, true_and, and_true]; try omega)]
      congr 1
      symm
      have s1 := sm_le r1.1 r1.2
      exact den_add (den_mul (n := 128) d1 (by omega)) (den_add (rfl : (den ρ (.var 10)).i = ρ.I 10) (rfl : (den ρ (.lit 2048)).i = 2048) (by omega) (by omega)) (by omega) (by omega)
    rw [hv]
    rfl
  | false =>
    rw [_root_.cond_false]
    have hn : of11 ρ = none := by
      simp only [of11, of7, i7of, h, Int.reduceEq, if_false, if_true]
      split
      · rename_i hp
        split
        · rename_i hc
          exfalso
          have : (den ρ (conjE (opL 8))).b = true := by
            obtain ⟨p1, p2, p3, p4, p5, p6⟩ := hp
            simp only [opL, conjE, q1, q2, q3, d_and, d_notv, d_le, d_ge, d_eq, d_eqv, d_rem, p4, p5, true_and]
            clear q1 q2 q3
            refine ⟨p1, p2, p3, p6, ?_⟩
            simp only [hc, true_and, and_true, and_self]
            try omega
          rw [hb] at this; cases this
        · rfl
      · rfl
    rw [hn]
    rfl

theorem opR_7 {ρ : Env} (hf : FactsOk ρ rightF) (h : ρ.I 0 = 7) : outV ρ (opT 7) = some (ofR (of11 ρ)) := by
  obtain ⟨r1, r2, r3⟩ := r255 hf
  have q1 := den_smallOk (ρ := ρ) (e := .var 1) (x := ρ.I 1) rfl r1.1
  have q2 := den_smallOk (ρ := ρ) (e := .var 2) (x := ρ.I 2) rfl r2.1
  have q3 := den_smallOk (ρ := ρ) (e := .var 3) (x := ρ.I 3) rfl r3.1
  have d1 : (den ρ (smallE (.var 1))).i = sm (ρ.I 1) := den_small (e := .var 1) r1.1 r1.2
  show cond (den ρ (conjE (opL 7))).b (some (conc ρ (yesO (opW 7)))) (some (conc ρ noO)) = _
  cases hb : (den ρ (conjE (opL 7))).b with
  | true =>
    simp only [opL, conjE, q1, q2, q3, d_and, d_notv, d_le, d_ge, d_eq, d_eqv, d_rem] at hb
    have hs := hb
    simp only [smOk] at hs
    have hp : plain11 ρ := by unfold plain11; refine ⟨?_, ?_, ?_, ?_, ?_, ?_⟩ <;> first | omega | simp_all
    rw [cond_true]
    have hv : of11 ρ = some (den ρ (opW 7)).i := by
      simp only [of11, if_pos hp, of7, i7of, h, Int.reduceEq, if_false, if_true]
      rw [if_pos (by simp only [hb, true_and, and_true]; try omega)]
      congr 1
      symm
      have s1 := sm_le r1.1 r1.2
      exact den_add (den_mul (n := 128) d1 (by omega)) (den_add (and127 hf) (rfl : (den ρ (.lit 4096)).i = 4096) (by omega) (by omega)) (by omega) (by omega)
    rw [hv]
    rfl
  | false =>
    rw [_root_.cond_false]
    have hn : of11 ρ = none := by
      simp only [of11, of7, i7of, h, Int.reduceEq, if_false, if_true]
      split
      · rename_i hp
        split
        · rename_i hc
          exfalso
          have : (den ρ (conjE (opL 7))).b = true := by
            obtain ⟨p1, p2, p3, p4, p5, p6⟩ := hp
            simp only [opL, conjE, q1, q2, q3, d_and, d_notv, d_le, d_ge, d_eq, d_eqv, d_rem, p4, p5, true_and]
            clear q1 q2 q3
            refine ⟨p1, p2, p3, p6, ?_⟩
            simp only [hc, true_and, and_true, and_self]
            try omega
          rw [hb] at this; cases this
        · rfl
      · rfl
    rw [hn]
    rfl

theorem opR_9 {ρ : Env} (hf : FactsOk ρ rightF) (h : ρ.I 0 = 9) : outV ρ (opT 9) = some (ofR (of11 ρ)) := by
  obtain ⟨r1, r2, r3⟩ := r255 hf
  have q1 := den_smallOk (ρ := ρ) (e := .var 1) (x := ρ.I 1) rfl r1.1
  have q2 := den_smallOk (ρ := ρ) (e := .var 2) (x := ρ.I 2) rfl r2.1
  have q3 := den_smallOk (ρ := ρ) (e := .var 3) (x := ρ.I 3) rfl r3.1
  have d1 : (den ρ (smallE (.var 1))).i = sm (ρ.I 1) := den_small (e := .var 1) r1.1 r1.2
  have d2 : (den ρ (smallE (.var 2))).i = sm (ρ.I 2) := den_small (e := .var 2) r2.1 r2.2
  show cond (den ρ (conjE (opL 9))).b (some (conc ρ (yesO (opW 9)))) (some (conc ρ noO)) = _
  cases hb : (den ρ (conjE (opL 9))).b with
  | true =>
    simp only [opL, conjE, q1, q2, q3, d_and, d_notv, d_le, d_ge, d_eq, d_eqv, d_rem] at hb
    have hs := hb
    simp only [smOk] at hs
    have hp : plain11 ρ := by unfold plain11; refine ⟨?_, ?_, ?_, ?_, ?_, ?_⟩ <;> first | omega | simp_all
    rw [cond_true]
    have hv : of11 ρ = some (den ρ (opW 9)).i := by
      simp only [of11, if_pos hp, of7, i7of, h, Int.reduceEq, if_false, if_true]
      rw [if_pos (by simp only [hb, true_and, and_true]; try omega)]
      congr 1
      symm
      have s1 := sm_le r1.1 r1.2
      have s2 := sm_le r2.1 r2.2
      exact den_add (den_mul (n := 128) d1 (by omega)) (den_add (den_mul (n := 8) d2 (by omega)) ((rfl : (den ρ (.lit 6144)).i = 6144)) (by omega) (by omega)) (by omega) (by omega)
    rw [hv]
    rfl
  | false =>
    rw [_root_.cond_false]
    have hn : of11 ρ = none := by
      simp only [of11, of7, i7of, h, Int.reduceEq, if_false, if_true]
      split
      · rename_i hp
        split
        · rename_i hc
          exfalso
          have : (den ρ (conjE (opL 9))).b = true := by
            obtain ⟨p1, p2, p3, p4, p5, p6⟩ := hp
            simp only [opL, conjE, q1, q2, q3, d_and, d_notv, d_le, d_ge, d_eq, d_eqv, d_rem, p4, p5, true_and]
            clear q1 q2 q3
            refine ⟨p1, p2, p3, p6, ?_⟩
            simp only [hc, true_and, and_true, and_self]
            try omega
          rw [hb] at this; cases this
        · rfl
      · rfl
    rw [hn]
    rfl

theorem opR_2 {ρ : Env} (hf : FactsOk ρ rightF) (h : ρ.I 0 = 2) : outV ρ (opT 2) = some (ofR (of11 ρ)) := by
  obtain ⟨r1, r2, r3⟩ := r255 hf
  have q1 := den_smallOk (ρ := ρ) (e := .var 1) (x := ρ.I 1) rfl r1.1
  have q2 := den_smallOk (ρ := ρ) (e := .var 2) (x := ρ.I 2) rfl r2.1
  have q3 := den_smallOk (ρ := ρ) (e := .var 3) (x := ρ.I 3) rfl r3.1
  have d1 : (den ρ (smallE (.var 1))).i = sm (ρ.I 1) := den_small (e := .var 1) r1.1 r1.2
  have d3 : (den ρ (smallE (.var 3))).i = sm (ρ.I 3) := den_small (e := .var 3) r3.1 r3.2
  show cond (den ρ (conjE (opL 2))).b (some (conc ρ (yesO (opW 2)))) (some (conc ρ noO)) = _
  cases hb : (den ρ (conjE (opL 2))).b with
  | true =>
    simp only [opL, conjE, q1, q2, q3, d_and, d_notv, d_le, d_ge, d_eq, d_eqv, d_rem] at hb
    have hs := hb
    simp only [smOk] at hs
    have hp : plain11 ρ := by unfold plain11; refine ⟨?_, ?_, ?_, ?_, ?_, ?_⟩ <;> first | omega | simp_all
    rw [cond_true]
    have hv : of11 ρ = some (den ρ (opW 2)).i := by
      simp only [of11, if_pos hp, of7, i7of, h, Int.reduceEq, if_false, if_true]
      rw [if_pos (by simp only [hb, true_and, and_true]; try omega)]
      congr 1
      symm
      have s1 := sm_le r1.1 r1.2
      have s3 := sm_le r3.1 r3.2
      exact den_add (den_mul (n := 128) d1 (by omega)) (den_add (den_mul (n := 8) d3 (by omega)) ((rfl : (den ρ (.lit 8192)).i = 8192)) (by omega) (by omega)) (by omega) (by omega)
    rw [hv]
    rfl
  | false =>
    rw [_root_.cond_false]
    have hn : of11 ρ = none := by
      simp only [of11, of7, i7of, h, Int.reduceEq, if_false, if_true]
      split
      · rename_i hp
        split
        · rename_i hc
          exfalso
          have : (den ρ (conjE (opL 2))).b = true := by
            obtain ⟨p1, p2, p3, p4, p5, p6⟩ := hp
            simp only [opL, conjE, q1, q2, q3, d_and, d_notv, d_le, d_ge, d_eq, d_eqv, d_rem, p4, p5, true_and]
            clear q1 q2 q3
            refine ⟨p1, p2, p3, p6, ?_⟩
            simp only [hc, true_and, and_true, and_self]
            try omega
          rw [hb] at this; cases this
        · rfl
      · rfl
    rw [hn]
    rfl

theorem opR_21 {ρ : Env} (hf : FactsOk ρ rightF) (h : ρ.I 0 = 21) : outV ρ (opT 21) = some (ofR (of11 ρ)) := by
  obtain ⟨r1, r2, r3⟩ := r255 hf
  have q1 := den_smallOk (ρ := ρ) (e := .var 1) (x := ρ.I 1) rfl r1.1
  have q2 := den_smallOk (ρ := ρ) (e := .var 2) (x := ρ.I 2) rfl r2.1
  have q3 := den_smallOk (ρ := ρ) (e := .var 3) (x := ρ.I 3) rfl r3.1
  have d1 : (den ρ (smallE (.var 1))).i = sm (ρ.I 1) := den_small (e := .var 1) r1.1 r1.2
  have d2 : (den ρ (smallE (.var 2))).i = sm (ρ.I 2) := den_small (e := .var 2) r2.1 r2.2
  show cond (den ρ (conjE (opL 21))).b (some (conc ρ (yesO (opW 21)))) (some (conc ρ noO)) = _
  cases hb : (den ρ (conjE (opL 21))).b with
  | true =>
    simp only [opL, conjE, q1, q2, q3, d_and, d_notv, d_le, d_ge, d_eq, d_eqv, d_rem] at hb
    have hs := hb
    simp only [smOk] at hs
    have hp : plain11 ρ := by unfold plain11; refine ⟨?_, ?_, ?_, ?_, ?_, ?_⟩ <;> first | omega | simp_all
    rw [cond_true]
    have hv : of11 ρ = some (den ρ (opW 21)).i := by
      simp only [of11, if_pos hp, of7, i7of, h, Int.reduceEq, if_false, if_true]
      rw [if_pos (by simp only [hb, true_and, and_true]; try omega)]
      congr 1
      symm
      have s1 := sm_le r1.1 r1.2
      have s2 := sm_le r2.1 r2.2
      exact den_add (den_mul (n := 128) d1 (by omega)) (den_add (den_mul (n := 8) d2 (by omega)) (den_add ((shr_i64 (k := 2) (m := 2) (d := 4) (ρ.I 10) (by decide) (by decide) : (den ρ (.bin .shr .i64 (.var 10) (.lit 2))).i = ρ.I 10 / 4)) (rfl : (den ρ (.lit 10240)).i = 10240) (by omega) (by omega)) (by omega) (by omega)) (by omega) (by omega)
    rw [hv]
    rfl
  | false =>
    rw [_root_.cond_false]
    have hn : of11 ρ = none := by
      simp only [of11, of7, i7of, h, Int.reduceEq, if_false, if_true]
      split
      · rename_i hp
        split
        · rename_i hc
          exfalso
          have : (den ρ (conjE (opL 21))).b = true := by
            obtain ⟨p1, p2, p3, p4, p5, p6⟩ := hp
            simp only [opL, conjE, q1, q2, q3, d_and, d_notv, d_le, d_ge, d_eq, d_eqv, d_rem, p4, p5, true_and]
            clear q1 q2 q3
            refine ⟨p1, p2, p3, p6, ?_⟩
            simp only [hc, true_and, and_true, and_self]
            try omega
          rw [hb] at this; cases this
        · rfl
      · rfl
    rw [hn]
    rfl

theorem opR_24 {ρ : Env} (hf : FactsOk ρ rightF) (h : ρ.I 0 = 24) : outV ρ (opT 24) = some (ofR (of11 ρ)) := by
  obtain ⟨r1, r2, r3⟩ := r255 hf
  have q1 := den_smallOk (ρ := ρ) (e := .var 1) (x := ρ.I 1) rfl r1.1
  have q2 := den_smallOk (ρ := ρ) (e := .var 2) (x := ρ.I 2) rfl r2.1
  have q3 := den_smallOk (ρ := ρ) (e := .var 3) (x := ρ.I 3) rfl r3.1
  have d2 : (den ρ (smallE (.var 2))).i = sm (ρ.I 2) := den_small (e := .var 2) r2.1 r2.2
  have d3 : (den ρ (smallE (.var 3))).i = sm (ρ.I 3) := den_small (e := .var 3) r3.1 r3.2
  show cond (den ρ (conjE (opL 24))).b (some (conc ρ (yesO (opW 24)))) (some (conc ρ noO)) = _
  cases hb : (den ρ (conjE (opL 24))).b with
  | true =>
    simp only [opL, conjE, q1, q2, q3, d_and, d_notv, d_le, d_ge, d_eq, d_eqv, d_rem] at hb
    have hs := hb
    simp only [smOk] at hs
    have hp : plain11 ρ := by unfold plain11; refine ⟨?_, ?_, ?_, ?_, ?_, ?_⟩ <;> first | omega | simp_all
    rw [cond_true]
    have hv : of11 ρ = some (den ρ (opW 24)).i := by
      simp only [of11, if_pos hp, of7, i7of, h, Int.reduceEq, if_false, if_true]
      rw [if_pos (by simp only [hb, true_and, and_true]; try omega)]
      congr 1
      symm
      have s2 := sm_le r2.1 r2.2
      have s3 := sm_le r3.1 r3.2
      exact den_add (den_mul (n := 128) d2 (by omega)) (den_add (den_mul (n := 8) d3 (by omega)) (den_add ((shr_i64 (k := 2) (m := 2) (d := 4) (ρ.I 10) (by decide) (by decide) : (den ρ (.bin .shr .i64 (.var 10) (.lit 2))).i = ρ.I 10 / 4)) (rfl : (den ρ (.lit 12288)).i = 12288) (by omega) (by omega)) (by omega) (by omega)) (by omega) (by omega)
    rw [hv]
    rfl
  | false =>
    rw [_root_.cond_false]
    have hn : of11 ρ = none := by
      simp only [of11, of7, i7of, h, Int.reduceEq, if_false, if_true]
      split
      · rename_i hp
        split
        · rename_i hc
          exfalso
          have : (den ρ (conjE (opL 24))).b = true := by
            obtain ⟨p1, p2, p3, p4, p5, p6⟩ := hp
            simp only [opL, conjE, q1, q2, q3, d_and, d_notv, d_le, d_ge, d_eq, d_eqv, d_rem, p4, p5, true_and]
            clear q1 q2 q3
            refine ⟨p1, p2, p3, p6, ?_⟩
            simp only [hc, true_and, and_true, and_self]
            try omega
          rw [hb] at this; cases this
        · rfl
      · rfl
    rw [hn]
    rfl

theorem opR_23 {ρ : Env} (hf : FactsOk ρ rightF) (h : ρ.I 0 = 23) : outV ρ (opT 23) = some (ofR (of11 ρ)) := by
  obtain ⟨r1, r2, r3⟩ := r255 hf
  have q1 := den_smallOk (ρ := ρ) (e := .var 1) (x := ρ.I 1) rfl r1.1
  have q2 := den_smallOk (ρ := ρ) (e := .var 2) (x := ρ.I 2) rfl r2.1
  have q3 := den_smallOk (ρ := ρ) (e := .var 3) (x := ρ.I 3) rfl r3.1
  have d1 : (den ρ (smallE (.var 1))).i = sm (ρ.I 1) := den_small (e := .var 1) r1.1 r1.2
  have d2 : (den ρ (smallE (.var 2))).i = sm (ρ.I 2) := den_small (e := .var 2) r2.1 r2.2
  show cond (den ρ (conjE (opL 23))).b (some (conc ρ (yesO (opW 23)))) (some (conc ρ noO)) = _
  cases hb : (den ρ (conjE (opL 23))).b with
  | true =>
    simp only [opL, conjE, q1, q2, q3, d_and, d_notv, d_le, d_ge, d_eq, d_eqv, d_rem] at hb
    have hs := hb
    simp only [smOk] at hs
    have hp : plain11 ρ := by unfold plain11; refine ⟨?_, ?_, ?_, ?_, ?_, ?_⟩ <;> first | omega | simp_all
    rw [cond_true]
    have hv : of11 ρ = some (den ρ (opW 23)).i := by
      simp only [of11, if_pos hp, of7, i7of, h, Int.reduceEq, if_false, if_true]
      rw [if_pos (by simp only [hb, true_and, and_true]; try omega)]
      congr 1
      symm
      have s1 := sm_le r1.1 r1.2
      have s2 := sm_le r2.1 r2.2
      exact den_add (den_mul (n := 128) d1 (by omega)) (den_add (den_mul (n := 8) d2 (by omega)) (den_add (rfl : (den ρ (.var 10)).i = ρ.I 10) (rfl : (den ρ (.lit 14336)).i = 14336) (by omega) (by omega)) (by omega) (by omega)) (by omega) (by omega)
    rw [hv]
    rfl
  | false =>
    rw [_root_.cond_false]
    have hn : of11 ρ = none := by
      simp only [of11, of7, i7of, h, Int.reduceEq, if_false, if_true]
      split
      · rename_i hp
        split
        · rename_i hc
          exfalso
          have : (den ρ (conjE (opL 23))).b = true := by
            obtain ⟨p1, p2, p3, p4, p5, p6⟩ := hp
            simp only [opL, conjE, q1, q2, q3, d_and, d_notv, d_le, d_ge, d_eq, d_eqv, d_rem, p4, p5, true_and]
            clear q1 q2 q3
            refine ⟨p1, p2, p3, p6, ?_⟩
            simp only [hc, true_and, and_true, and_self]
            try omega
          rw [hb] at this; cases this
        · rfl
      · rfl
    rw [hn]
    rfl

theorem opR_26 {ρ : Env} (hf : FactsOk ρ rightF) (h : ρ.I 0 = 26) : outV ρ (opT 26) = some (ofR (of11 ρ)) := by
  obtain ⟨r1, r2, r3⟩ := r255 hf
  have q1 := den_smallOk (ρ := ρ) (e := .var 1) (x := ρ.I 1) rfl r1.1
  have q2 := den_smallOk (ρ := ρ) (e := .var 2) (x := ρ.I 2) rfl r2.1
  have q3 := den_smallOk (ρ := ρ) (e := .var 3) (x := ρ.I 3) rfl r3.1
  have d2 : (den ρ (smallE (.var 2))).i = sm (ρ.I 2) := den_small (e := .var 2) r2.1 r2.2
  have d3 : (den ρ (smallE (.var 3))).i = sm (ρ.I 3) := den_small (e := .var 3) r3.1 r3.2
  show cond (den ρ (conjE (opL 26))).b (some (conc ρ (yesO (opW 26)))) (some (conc ρ noO)) = _
  cases hb : (den ρ (conjE (opL 26))).b with
  | true =>
    simp only [opL, conjE, q1, q2, q3, d_and, d_notv, d_le, d_ge, d_eq, d_eqv, d_rem] at hb
    have hs := hb
    simp only [smOk] at hs
    have hp : plain11 ρ := by unfold plain11; refine ⟨?_, ?_, ?_, ?_, ?_, ?_⟩ <;> first | omega | simp_all
    rw [cond_true]
    have hv : of11 ρ = some (den ρ (opW 26)).i := by
      simp only [of11, if_pos hp, of7, i7of, h, Int.reduceEq, if_false, if_true]
      rw [if_pos (by simp only [hb, true_and, and_true]; try omega)]
      congr 1
      symm
      have s2 := sm_le r2.1 r2.2
      have s3 := sm_le r3.1 r3.2
      exact den_add (den_mul (n := 128) d2 (by omega)) (den_add (den_mul (n := 8) d3 (by omega)) (den_add (rfl : (den ρ (.var 10)).i = ρ.I 10) (rfl : (den ρ (.lit 16384)).i = 16384) (by omega) (by omega)) (by omega) (by omega)) (by omega) (by omega)
    rw [hv]
    rfl
  | false =>
    rw [_root_.cond_false]
    have hn : of11 ρ = none := by
      simp only [of11, of7, i7of, h, Int.reduceEq, if_false, if_true]
      split
      · rename_i hp
        split
        · rename_i hc
          exfalso
          have : (den ρ (conjE (opL 26))).b = true := by
            obtain ⟨p1, p2, p3, p4, p5, p6⟩ := hp
            simp only [opL, conjE, q1, q2, q3, d_and, d_notv, d_le, d_ge, d_eq, d_eqv, d_rem, p4, p5, true_and]
            clear q1 q2 q3
            refine ⟨p1, p2, p3, p6, ?_⟩
            simp only [hc, true_and, and_true, and_self]
            try omega
          rw [hb] at this; cases this
        · rfl
      · rfl
    rw [hn]
    rfl

theorem opR_13 {ρ : Env} (hf : FactsOk ρ rightF) (h : ρ.I 0 = 13) : outV ρ (opT 13) = some (ofR (of11 ρ)) := by
  obtain ⟨r1, r2, r3⟩ := r255 hf
  have q1 := den_smallOk (ρ := ρ) (e := .var 1) (x := ρ.I 1) rfl r1.1
  have q2 := den_smallOk (ρ := ρ) (e := .var 2) (x := ρ.I 2) rfl r2.1
  have q3 := den_smallOk (ρ := ρ) (e := .var 3) (x := ρ.I 3) rfl r3.1
  have d2 : (den ρ (smallE (.var 2))).i = sm (ρ.I 2) := den_small (e := .var 2) r2.1 r2.2
  show cond (den ρ (conjE (opL 13))).b (some (conc ρ (yesO (opW 13)))) (some (conc ρ noO)) = _
  cases hb : (den ρ (conjE (opL 13))).b with
  | true =>
    simp only [opL, conjE, q1, q2, q3, d_and, d_notv, d_le, d_ge, d_eq, d_eqv, d_rem] at hb
    have hs := hb
    simp only [smOk] at hs
    have hp : plain11 ρ := by unfold plain11; refine ⟨?_, ?_, ?_, ?_, ?_, ?_⟩ <;> first | omega | simp_all
    rw [cond_true]
    have hv : of11 ρ = some (den ρ (opW 13)).i := by
      simp only [of11, if_pos hp, of7, i7of, h, Int.reduceEq, if_false, if_true]
      rw [if_pos (by simp only [hb, true_and, and_true]; try omega)]
      congr 1
      symm
      have s2 := sm_le r2.1 r2.2
      exact den_add (den_mul (n := 128) d2 (by omega)) (den_add (rfl : (den ρ (.var 10)).i = ρ.I 10) (rfl : (den ρ (.lit 18432)).i = 18432) (by omega) (by omega)) (by omega) (by omega)
    rw [hv]
    rfl
  | false =>
    rw [_root_.cond_false]
    have hn : of11 ρ = none := by
      simp only [of11, of7, i7of, h, Int.reduceEq, if_false, if_true]
      split
      · rename_i hp
        split
        · rename_i hc
          exfalso
          have : (den ρ (conjE (opL 13))).b = true := by
            obtain ⟨p1, p2, p3, p4, p5, p6⟩ := hp
            simp only [opL, conjE, q1, q2, q3, d_and, d_notv, d_le, d_ge, d_eq, d_eqv, d_rem, p4, p5, true_and]
            clear q1 q2 q3
            refine ⟨p1, p2, p3, p6, ?_⟩
            simp only [hc, true_and, and_true, and_self]
            try omega
          rw [hb] at this; cases this
        · rfl
      · rfl
    rw [hn]
    rfl

/-- What is known of an instruction's cells. -/
def inF : Facts := (.cmp .geq (.var 0) (.lit 0), true) :: (.cmp .leq (.var 0) (.lit 255), true) :: rightF
theorem of11_none {ρ : Env} (h : ρ.I 0 ≠ 8 ∧ ρ.I 0 ≠ 7 ∧ ρ.I 0 ≠ 9 ∧ ρ.I 0 ≠ 2 ∧ ρ.I 0 ≠ 21 ∧ ρ.I 0 ≠ 24 ∧ ρ.I 0 ≠ 23 ∧ ρ.I 0 ≠ 26 ∧ ρ.I 0 ≠ 13) : of11 ρ = none := by
  obtain ⟨h1, h2, h3, h4, h5, h6, h7, h8, h9⟩ := h
  simp only [of11, of7, i7of, h1, h2, h3, h4, h5, h6, h7, h8, h9, if_false, ite_self]

theorem sub_of {ρ : Env} (hf : FactsOk ρ inF) : CallsTo CA07 21 (concs ρ opArgsG) (ofR (of11 ρ)) := by
  have hr : FactsOk ρ rightF := fun p hp => hf p (by simp [inF, hp])
  have b0 : 0 ≤ ρ.I 0 := of_decide_eq_true (hf (.cmp .geq (.var 0) (.lit 0), true) (by simp [inF]))
  have b1 : ρ.I 0 ≤ 255 := of_decide_eq_true (hf (.cmp .leq (.var 0) (.lit 255), true) (by simp [inF]))
  have key : ∀ (c : Int) (O : Out), ρ.I 0 = c → outV ρ O = some (ofR (of11 ρ)) → RunsTo (CR07 rightF) 24 rightF 21 (opArgs c) O → CallsTo CA07 21 (concs ρ opArgsG) (ofR (of11 ρ)) := fun c O hc ho r => by
    have e : concs ρ opArgsG = concs ρ (opArgs c) := by simp only [opArgsG, opArgs, rightA, concs, conc, concT, STy.val, den, hc]
    rw [e]
    exact (r.calls (CR07_ok hr) hr ho).of rfl rfl
  have no : ∀ {c : Int}, ρ.I 0 = c → (c ≠ 8 ∧ c ≠ 7 ∧ c ≠ 9 ∧ c ≠ 2 ∧ c ≠ 21 ∧ c ≠ 24 ∧ c ≠ 23 ∧ c ≠ 26 ∧ c ≠ 13) → outV ρ (.leaf noO) = some (ofR (of11 ρ)) := fun hc hn => by
    rw [of11_none (by rw [hc]; exact hn)]; rfl
  have h : ρ.I 0 = 0 ∨ ρ.I 0 = 1 ∨ ρ.I 0 = 2 ∨ ρ.I 0 = 3 ∨ ρ.I 0 = 4 ∨ ρ.I 0 = 5 ∨ ρ.I 0 = 6 ∨ ρ.I 0 = 7 ∨ ρ.I 0 = 8 ∨ ρ.I 0 = 9 ∨ ρ.I 0 = 10 ∨ ρ.I 0 = 11 ∨ ρ.I 0 = 12 ∨ ρ.I 0 = 13 ∨ ρ.I 0 = 14 ∨ ρ.I 0 = 15 ∨ ρ.I 0 = 16 ∨ ρ.I 0 = 17 ∨ ρ.I 0 = 18 ∨ ρ.I 0 = 19 ∨ ρ.I 0 = 20 ∨ ρ.I 0 = 21 ∨ ρ.I 0 = 22 ∨ ρ.I 0 = 23 ∨ ρ.I 0 = 24 ∨ ρ.I 0 = 25 ∨ ρ.I 0 = 26 ∨ ρ.I 0 = 27 ∨ ρ.I 0 = 28 ∨ ρ.I 0 = 29 ∨ ρ.I 0 = 30 ∨ ρ.I 0 = 31 ∨ 32 ≤ ρ.I 0 := by omega
  rcases h with h | h | h | h | h | h | h | h | h | h | h | h | h | h | h | h | h | h | h | h | h | h | h | h | h | h | h | h | h | h | h | h | h
  · exact key 0 _ h (no h (by decide)) opT_run0
  · exact key 1 _ h (no h (by decide)) opT_run1
  · exact key 2 _ h (opR_2 hr h) opT_run2
  · exact key 3 _ h (no h (by decide)) opT_run3
  · exact key 4 _ h (no h (by decide)) opT_run4
  · exact key 5 _ h (no h (by decide)) opT_run5
  · exact key 6 _ h (no h (by decide)) opT_run6
  · exact key 7 _ h (opR_7 hr h) opT_run7
  · exact key 8 _ h (opR_8 hr h) opT_run8
  · exact key 9 _ h (opR_9 hr h) opT_run9
  · exact key 10 _ h (no h (by decide)) opT_run10
  · exact key 11 _ h (no h (by decide)) opT_run11
  · exact key 12 _ h (no h (by decide)) opT_run12
  · exact key 13 _ h (opR_13 hr h) opT_run13
  · exact key 14 _ h (no h (by decide)) opT_run14
  · exact key 15 _ h (no h (by decide)) opT_run15
  · exact key 16 _ h (no h (by decide)) opT_run16
  · exact key 17 _ h (no h (by decide)) opT_run17
  · exact key 18 _ h (no h (by decide)) opT_run18
  · exact key 19 _ h (no h (by decide)) opT_run19
  · exact key 20 _ h (no h (by decide)) opT_run20
  · exact key 21 _ h (opR_21 hr h) opT_run21
  · exact key 22 _ h (no h (by decide)) opT_run22
  · exact key 23 _ h (opR_23 hr h) opT_run23
  · exact key 24 _ h (opR_24 hr h) opT_run24
  · exact key 25 _ h (no h (by decide)) opT_run25
  · exact key 26 _ h (opR_26 hr h) opT_run26
  · exact key 27 _ h (no h (by decide)) opT_run27
  · exact key 28 _ h (no h (by decide)) opT_run28
  · exact key 29 _ h (no h (by decide)) opT_run29
  · exact key 30 _ h (no h (by decide)) opT_run30
  · exact key 31 _ h (no h (by decide)) opT_run31
  · have hg : FactsOk ρ opG := fun p hp => by
      simp only [opG, List.mem_cons] at hp
      rcases hp with rfl | rfl | hp
      · exact decide_eq_true h
      · exact decide_eq_true b1
      · exact hr p hp
    have e : of11 ρ = none := of11_none (by omega)
    rw [e]
    exact (opT_runG.calls (CR07_ok hg) hg (R := conc ρ noO) rfl).of rfl rfl

end Go.Proofs.YthabafmieebmmaaDoor
