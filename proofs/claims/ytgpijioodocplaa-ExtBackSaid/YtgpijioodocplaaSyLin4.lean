/- Tests that bounds and what was tested ahead decide; runs whose leaves are all as they are to be. -/
import Derived.Test.YtgpijioodocplaaSyLin3
set_option linter.unusedVariables false
set_option linter.unusedSimpArgs false
namespace Go.Proofs.Ytgpijioodocplaa
open Go Go.RowKit

/-! ### comparisons -/
def gcdGs (l : List (Sx × Gr)) : Nat := l.foldl (fun n p => p.2.foldl (fun n q => Nat.gcd n q.2.natAbs) n) 0

/-- The number by which a form's factors are divided. -/
def leadD (l : List (Sx × Gr)) : Int := match l with
  | (_, (_, k) :: _) :: _ => cond (decide (0 ≤ k)) (gcdGs l : Int) (-(gcdGs l : Int))
  | _ => 0

def divGs (d : Int) (l : List (Sx × Gr)) : List (Sx × Gr) := l.map fun p => (p.1, p.2.map fun q => (q.1, q.2 / d))
def allDiv (d : Int) (l : List (Sx × Gr)) : Bool := l.all fun p => p.2.all fun q => decide (d * (q.2 / d) = q.2)

theorem divGr_ok {d : Int} (x : Int) : ∀ (g : Gr), (g.all fun q => decide (d * (q.2 / d) = q.2)) = true → grVal x g = d * grVal x (g.map fun q => (q.1, q.2 / d))
  | [], _ => by simp [grVal]
  | q :: r, h => by
    simp only [List.all_cons, Bool.and_eq_true, decide_eq_true_eq] at h
    have ih := divGr_ok x r h.2
    simp only [grVal, List.map_cons]
    rw [ih, Int.mul_add, ← Int.mul_assoc, h.1]

theorem divGs_ok {ρ : Env} {d : Int} : ∀ (l : List (Sx × Gr)), allDiv d l = true → gsVal ρ l = d * gsVal ρ (divGs d l)
  | [], _ => by simp [gsVal, divGs]
  | p :: r, h => by
    simp only [allDiv, List.all_cons, Bool.and_eq_true] at h
    have ih := divGs_ok (ρ := ρ) r (by simpa [allDiv] using h.2)
    have := divGr_ok (den ρ p.1).i p.2 h.1
    simp only [gsVal, divGs, List.map_cons] at ih ⊢
    rw [ih, this, Int.mul_add]

/-- The test of d·H + c against zero. -/
def mkN (op : BinOp) (d c : Int) (H e : Sx) : Sx :=
  match op with
  | .eql => cond (decide (c % d = 0)) (.cmp .eql H (.lit (-(c / d)))) (.lb false)
  | .neq => cond (decide (c % d = 0)) (.not (.cmp .eql H (.lit (-(c / d))))) (.lb true)
  | .lss => cond (decide (0 < d)) (.cmp .leq H (.lit ((-c - 1) / d))) (.not (.cmp .leq H (.lit (c / -d))))
  | .leq => cond (decide (0 < d)) (.cmp .leq H (.lit (-c / d))) (.not (.cmp .leq H (.lit ((c - 1) / -d))))
  | .gtr => cond (decide (0 < d)) (.not (.cmp .leq H (.lit (-c / d)))) (.cmp .leq H (.lit ((c - 1) / -d)))
  | .geq => cond (decide (0 < d)) (.not (.cmp .leq H (.lit ((-c - 1) / d)))) (.cmp .leq H (.lit (c / -d)))
  | _ => e

theorem le_div {x y d : Int} (h : 0 < d) : decide (x ≤ y / d) = decide (d * x ≤ y) := by
  rw [Int.mul_comm]
  exact decide_eq_decide.2 (Int.le_ediv_iff_mul_le h)

theorem den_leq (ρ : Env) (H : Sx) (n : Int) : (den ρ (.cmp .leq H (.lit n))).b = decide ((den ρ H).i ≤ n) := rfl
theorem den_nleq (ρ : Env) (H : Sx) (n : Int) : (den ρ (.not (.cmp .leq H (.lit n)))).b = decide (¬ (den ρ H).i ≤ n) := (decide_not ..).symm

theorem mkN_ok {ρ : Env} {op : BinOp} {d c : Int} {H e : Sx} (hd : d ≠ 0) (he : (den ρ e).b = cmpI op (d * (den ρ H).i + c) 0) : (den ρ (mkN op d c H e)).b = cmpI op (d * (den ρ H).i + c) 0 := by
  have eql : c % d = 0 → ((den ρ H).i = -(c / d) ↔ d * (den ρ H).i + c = 0) := fun h => by
    have h1 := Int.mul_ediv_add_emod c d
    rw [h] at h1
    constructor
    · intro h2; rw [h2, Int.mul_neg]; omega
    · intro h2
      have h3 : d * ((den ρ H).i + c / d) = 0 := by rw [Int.mul_add]; omega
      rcases Int.mul_eq_zero.1 h3 with h4 | h4
      · exact absurd h4 hd
      · omega
  have nql : c % d ≠ 0 → d * (den ρ H).i + c ≠ 0 := fun h h2 => by
    have : c = d * (-(den ρ H).i) := by rw [Int.mul_neg]; omega
    exact h (by rw [this]; exact Int.mul_emod_right ..)
  cases op <;> simp only [mkN, cmpI] at he ⊢ <;> try exact he
  case eql =>
    cases h : decide (c % d = 0) with
    | true =>
      simp only [decide_eq_true_eq] at h
      simp only [cond_true, den, cmpI]
      rw [Bool.eq_iff_iff]
      simp only [beq_iff_eq]
      exact eql h
    | false =>
      simp only [decide_eq_false_iff_not] at h
      simp only [_root_.cond_false, den]
      have := nql h
      simp [this]
  case neq =>
    cases h : decide (c % d = 0) with
    | true =>
      simp only [decide_eq_true_eq] at h
      simp only [cond_true, den, cmpI]
      have := eql h
      rw [Bool.eq_iff_iff]
      simp only [Bool.not_eq_true', beq_eq_false_iff_ne, bne_iff_ne, ne_eq]
      exact not_congr this
    | false =>
      simp only [decide_eq_false_iff_not] at h
      simp only [_root_.cond_false, den]
      have := nql h
      simp [this]
  all_goals
    cases hp : decide (0 < d) with
    | true =>
      simp only [decide_eq_true_eq] at hp
      rw [cond_true]
      first
        | (rw [den_leq, le_div hp]; exact decide_eq_decide.2 (by omega))
        | (rw [den_nleq, decide_not, le_div hp, ← decide_not]; exact decide_eq_decide.2 (by omega))
    | false =>
      simp only [decide_eq_false_iff_not] at hp
      rw [_root_.cond_false]
      first
        | (rw [den_leq, le_div (show 0 < -d by omega), Int.neg_mul]; exact decide_eq_decide.2 (by omega))
        | (rw [den_nleq, decide_not, le_div (show 0 < -d by omega), ← decide_not, Int.neg_mul]; exact decide_eq_decide.2 (by omega))

theorem cmpI_sub (op : BinOp) (a b : Int) : cmpI op a b = cmpI op (a - b) 0 := by
  cases op <;> simp only [cmpI] <;> first
    | rfl
    | exact decide_eq_decide.2 (by omega)
    | (rw [Bool.eq_iff_iff]; simp only [beq_iff_eq, bne_iff_ne, ne_eq]; omega)

def normD (fs : Facts) (op : BinOp) (f : Lf) (e : Sx) : Sx :=
  match decCmp op (ivLf fs f) (oneIv 0) with
  | some b => .lb b
  | none =>
    let d := leadD f.2
    let h := divGs d f.2
    cond (!decide (d = 0) && allDiv d f.2 && exact fs (0, h)) (mkN op d f.1 (toSx (0, h)) e) e

theorem normD_ok {ρ : Env} {fs : Facts} (hf : FactsOk ρ fs) {op : BinOp} {f : Lf} {e : Sx} (he : (den ρ e).b = cmpI op (lfVal ρ f) 0) : (den ρ (normD fs op f e)).b = (den ρ e).b := by
  unfold normD
  split
  · rename_i b hb
    rw [he, decCmp_ok (ivLf_ok hf f) (oneIv_ok 0) hb]
    rfl
  · simp only
    generalize leadD f.2 = d
    cases hc : (!decide (d = 0) && allDiv d f.2 && exact fs (0, divGs d f.2)) with
    | false => rfl
    | true =>
      simp only [Bool.and_eq_true, Bool.not_eq_true', decide_eq_false_iff_not] at hc
      obtain ⟨⟨h1, h2⟩, h3⟩ := hc
      have hx := exact_ok hf h3
      have hg := divGs_ok (ρ := ρ) f.2 h2
      have e1 : lfVal ρ f = d * (den ρ (toSx (0, divGs d f.2))).i + f.1 := by
        rw [hx]; simp only [lfVal, hg, Int.zero_add]; omega
      rw [e1] at he
      rw [cond_true, mkN_ok h1 he, he]

def normC (fs : Facts) (op : BinOp) (f : Lf) (e : Sx) : Sx := normD fs op (f.1, sgnGs fs f.2) e

theorem normC_ok {ρ : Env} {fs : Facts} (hf : FactsOk ρ fs) {op : BinOp} {f : Lf} {e : Sx} (he : (den ρ e).b = cmpI op (lfVal ρ f) 0) : (den ρ (normC fs op f e)).b = (den ρ e).b :=
  normD_ok hf (by rw [he]; simp only [lfVal, sgnGs_ok hf])

/-- A text that is known. -/
def strOf (e : Sx) : Facts → Option ByteArray
  | [] => none
  | (.cmps .eql a (.ls s), true) :: r => cond (Sx.beq a e) (some s) (strOf e r)
  | _ :: r => strOf e r

theorem cmpS_eql {a b : ByteArray} : cmpS .eql a b = true ↔ a = b := by
  simp only [cmpS, beq_iff_eq]
  constructor
  · intro h
    have h2 := ByteArray.toList_eq a
    have h3 := ByteArray.toList_eq b
    rw [h2, h3] at h
    cases a; cases b
    simp only at h
    have := Array.toList_inj.1 h
    rw [this]
  · rintro rfl; rfl

theorem strOf_ok {ρ : Env} {e : Sx} {s : ByteArray} : ∀ {fs : Facts}, FactsOk ρ fs → strOf e fs = some s → (den ρ e).s = s := by
  intro fs
  induction fs with
  | nil => intro _ h; simp [strOf] at h
  | cons p r ih =>
    intro hf h
    have hr := fun h => ih (fun q hq => hf q (List.mem_cons_of_mem _ hq)) h
    unfold strOf at h
    split at h
    · rename_i heq; cases heq
    · rename_i a t r' heq
      simp only [List.cons.injEq] at heq
      obtain ⟨rfl, rfl⟩ := heq
      cases hb : Sx.beq a e with
      | false => rw [hb] at h; exact hr h
      | true =>
        rw [hb] at h
        simp only [cond_true, Option.some.injEq] at h
        subst h
        obtain rfl := Sx.beq_eq hb
        have := hf _ (List.mem_cons_self ..)
        simp only [den] at this
        exact cmpS_eql.1 this
    · rename_i heq
      simp only [List.cons.injEq] at heq
      obtain ⟨_, rfl⟩ := heq
      exact hr h

/-- Are two texts one? -/
def normS (fs : Facts) (a b e : Sx) : Sx :=
  match b with
  | .ls t => match a with
    | .ls s => .lb (cmpS .eql s t)
    | a => match strOf a fs with
      | some s => .lb (cmpS .eql s t)
      | none => .cmps .eql a (.ls t)
  | b => match a with
    | .ls s => match strOf b fs with
      | some t => .lb (cmpS .eql s t)
      | none => .cmps .eql b (.ls s)
    | a => cond (Sx.beq a b) (.lb true) e

theorem cmpS_comm (a b : ByteArray) : cmpS .eql a b = cmpS .eql b a := by
  rw [Bool.eq_iff_iff, cmpS_eql, cmpS_eql]
  exact eq_comm

theorem normS_ok {ρ : Env} {fs : Facts} (hf : FactsOk ρ fs) {a b e : Sx} (he : (den ρ e).b = cmpS .eql (den ρ a).s (den ρ b).s) : (den ρ (normS fs a b e)).b = (den ρ e).b := by
  rw [he]
  unfold normS
  split
  · rename_i t
    split
    · rfl
    · split
      · rename_i s hs
        rw [strOf_ok hf hs]; rfl
      · rfl
  · split
    · rename_i s
      split
      · rename_i t ht
        rw [strOf_ok hf ht]; rfl
      · simp only [den]; exact cmpS_comm _ _
    · rename_i hb
      cases h : Sx.beq a b with
      | true =>
        obtain rfl := Sx.beq_eq h
        simp only [cond_true, den]
        exact (cmpS_eql.2 rfl).symm
      | false => rw [_root_.cond_false, he]

/-- A remainder is held against zero: the sign does not matter. -/
def remZ (fs : Facts) (op : BinOp) (a b : Sx) : Option Lf :=
  match a, b with
  | .bin .rem _ x (.lit m), .lit 0 => match op with
    | .eql => (pow2 m).bind fun s => (quoP fs (lin fs x) s).map fun q => subLf (lin fs x) (scale (2 ^ s) q)
    | .neq => (pow2 m).bind fun s => (quoP fs (lin fs x) s).map fun q => subLf (lin fs x) (scale (2 ^ s) q)
    | _ => none
  | _, _ => none

theorem remZ_ok {ρ : Env} {fs : Facts} (hf : FactsOk ρ fs) {op : BinOp} {a b : Sx} {f : Lf} (h : remZ fs op a b = some f) : cmpI op (den ρ a).i (den ρ b).i = cmpI op (lfVal ρ f) 0 := by
  have key : ∀ {x : Sx} {m : Int} {k : IntKind} {f : Lf}, ((pow2 m).bind fun s => (quoP fs (lin fs x) s).map fun q => subLf (lin fs x) (scale (2 ^ s) q)) = some f → ((den ρ (.bin .rem k x (.lit m))).i = 0 ↔ lfVal ρ f = 0) := by
    intro x m k f h
    obtain ⟨s, hs, h⟩ := Option.bind_eq_some_iff.1 h
    obtain ⟨q, hq, rfl⟩ := Option.map_eq_some_iff.1 h
    have h1 := pow2_ok hs
    have h2 := quoP_ok hf hq
    rw [lin_ok hf] at h2
    rw [subLf_val, scale_val, lin_ok hf, ← h2]
    simp only [den, binI, h1]
    rw [← Int.dvd_iff_tmod_eq_zero, ← Int.emod_def]
    exact ⟨fun h => Int.emod_eq_zero_of_dvd h, fun h => Int.dvd_of_emod_eq_zero h⟩
  unfold remZ at h
  split at h
  · rename_i k x m
    split at h
    · have := key (k := k) h
      simp only [cmpI]
      rw [Bool.eq_iff_iff]
      simp only [beq_iff_eq]
      exact this
    · have := key (k := k) h
      simp only [cmpI]
      rw [Bool.eq_iff_iff]
      simp only [bne_iff_ne, ne_eq]
      exact not_congr this
    · cases h
  · cases h

/-- Bits of a number are asked for: one by one. -/
def bitsT (x : Sx) (p : Nat) (n : Int) : Nat → Sx
  | 0 => .lb true
  | s + 1 => .and (bitsT x p n s) (.cmp .eql (bitS x (p + s)) (.lit (n / 2 ^ s % 2)))

/-- Is a test one of few bits? -/
def fewB (e : Sx) : Sx := match e with
  | .cmp .eql (.bin .add .i64 a (.bin .mul .i64 b (.lit m))) (.lit n) =>
    match unSx (.bin .add .i64 a (.bin .mul .i64 b (.lit m))) with
    | (c, [(x, [(p, k), (q, j)])]) =>
      let s := q - p
      cond (decide (c = 0) && decide (k = 1) && Nat.ble 2 s && Nat.ble s 3 && Nat.ble q 64 && decide (j = -(2 ^ s)) && decide (p + s = q)
          && Sx.beq (toSx (0, [(x, [(p, 1), (q, j)])])) (.bin .add .i64 a (.bin .mul .i64 b (.lit m))))
        (cond (decide (0 ≤ n) && decide (n < 2 ^ s)) (bitsT x p n s) e) e
    | _ => e
  | e => e

theorem bitsT_ok (ρ : Env) (x : Sx) (p : Nat) (n : Int) : ∀ s, p + s ≤ 64 → ((den ρ (bitsT x p n s)).b = true ↔ ∀ i, i < s → (den ρ x).i / 2 ^ p / 2 ^ i % 2 = n / 2 ^ i % 2)
  | 0, _ => by simp [bitsT, den]
  | s + 1, h => by
    have ih := bitsT_ok ρ x p n s (by omega)
    have hb := bitS_val ρ x (p := p + s) (by omega)
    have e : (den ρ x).i / 2 ^ (p + s) - 2 * ((den ρ x).i / 2 ^ (p + s + 1)) = (den ρ x).i / 2 ^ p / 2 ^ s % 2 := by
      have e1 : (2 : Int) ^ (p + s + 1) = 2 ^ (p + s) * 2 := Int.pow_succ ..
      rw [e1, ← Int.ediv_ediv_of_nonneg (Int.le_of_lt (two_pos (p + s))), Int.pow_add, ← Int.ediv_ediv_of_nonneg (Int.le_of_lt (two_pos p))]
      omega
    simp only [bitsT, den, Bool.and_eq_true, cmpI, beq_iff_eq, ih] at hb ⊢
    rw [hb, e]
    constructor
    · rintro ⟨h1, h2⟩ i hi
      rcases Nat.lt_or_ge i s with h | h
      · exact h1 i h
      · have : i = s := by omega
        subst this; exact h2
    · intro h1
      exact ⟨fun i hi => h1 i (by omega), h1 s (by omega)⟩

theorem digS_val (ρ : Env) (x : Sx) {p s : Nat} (hs : s ≤ 63) (h : p + s ≤ 64) (hn : s ≠ 0) : (den ρ (toSx (0, [(x, [(p, 1), (p + s, -(2 ^ s))])]))).i = (den ρ x).i / 2 ^ p % 2 ^ s := by
  have h1 := toSx_eqv (ρ := ρ) (f := (0, [(x, [(p, 1), (p + s, -(2 ^ s))])])) (by
    simp only [shOk, List.all_cons, List.all_nil, Bool.and_true, Bool.and_eq_true]
    exact ⟨Nat.ble_eq_true_of_le (by omega), Nat.ble_eq_true_of_le (by omega)⟩)
  have h2 := wrapped_ok (ρ := ρ) (e := toSx (0, [(x, [(p, 1), (p + s, -(2 ^ s))])])) rfl
  have h3 : lfVal ρ (0, [(x, [(p, 1), (p + s, -(2 ^ s))])]) = (den ρ x).i / 2 ^ p % 2 ^ s := by
    simp only [lfVal, gsVal, grVal, Int.add_zero, Int.zero_add, Int.one_mul]
    rw [Int.pow_add, ← Int.ediv_ediv_of_nonneg (Int.le_of_lt (two_pos p)), Int.emod_def, Int.neg_mul]
    omega
  rw [h3] at h1
  refine eqv_eq h1 h2 ?_
  have a1 := Int.emod_nonneg ((den ρ x).i / 2 ^ p) (Int.ne_of_gt (two_pos s))
  have a2 := Int.emod_lt_of_pos ((den ρ x).i / 2 ^ p) (two_pos s)
  have a3 : (2 : Int) ^ s ≤ 2 ^ 63 := by
    have e : (2 : Int) ^ 63 = 2 ^ s * 2 ^ (63 - s) := by rw [← Int.pow_add]; congr 1; omega
    have h1 : (1 : Int) ≤ 2 ^ (63 - s) := two_pos _
    have h2 := Int.mul_le_mul_of_nonneg_left h1 (Int.le_of_lt (two_pos s))
    omega
  simp only [IntKind.min, IntKind.max, IntKind.signed, IntKind.bits, if_true]
  omega

theorem fewB_ok (ρ : Env) (e : Sx) : (den ρ (fewB e)).b = (den ρ e).b := by
  unfold fewB
  split
  · rename_i a b m n
    split
    · rename_i c x p k q j heq
      simp only
      generalize hs : q - p = s
      cases hc : (decide (c = 0) && decide (k = 1) && Nat.ble 2 s && Nat.ble s 3 && Nat.ble q 64 && decide (j = -(2 ^ s)) && decide (p + s = q)
          && Sx.beq (toSx (0, [(x, [(p, 1), (q, j)])])) (.bin .add .i64 a (.bin .mul .i64 b (.lit m)))) with
      | false => rfl
      | true =>
        simp only [Bool.and_eq_true, decide_eq_true_eq] at hc
        obtain ⟨⟨⟨⟨⟨⟨⟨rfl, rfl⟩, h1⟩, h2⟩, h3⟩, rfl⟩, rfl⟩, h4⟩ := hc
        have h1 := Nat.le_of_ble_eq_true h1
        have h2 := Nat.le_of_ble_eq_true h2
        have h3 := Nat.le_of_ble_eq_true h3
        have hv := digS_val ρ x (by omega) h3 (by omega)
        rw [Sx.beq_eq h4] at hv
        rw [cond_true]
        cases hn : (decide (0 ≤ n) && decide (n < 2 ^ s)) with
        | false => rfl
        | true =>
          simp only [Bool.and_eq_true, decide_eq_true_eq] at hn
          have hb := bitsT_ok ρ x p n s h3
          rw [cond_true, Bool.eq_iff_iff, hb]
          have e1 : (den ρ (.cmp .eql (.bin .add .i64 a (.bin .mul .i64 b (.lit m))) (.lit n))).b = true ↔ (den ρ x).i / 2 ^ p % 2 ^ s = n := by
            rw [← hv]
            simp only [den, cmpI, beq_iff_eq]
          rw [e1]
          generalize (den ρ x).i / 2 ^ p = y
          have : s = 2 ∨ s = 3 := by omega
          rcases this with rfl | rfl
          · constructor
            · intro h
              have a0 := h 0 (by omega); have a1 := h 1 (by omega)
              simp at a0 a1 hn ⊢
              omega
            · intro h i hi
              have : i = 0 ∨ i = 1 := by omega
              rcases this with rfl | rfl <;> simp at h hn ⊢ <;> omega
          · constructor
            · intro h
              have a0 := h 0 (by omega); have a1 := h 1 (by omega); have a2 := h 2 (by omega)
              simp at a0 a1 a2 hn ⊢
              omega
            · intro h i hi
              have : i = 0 ∨ i = 1 ∨ i = 2 := by omega
              rcases this with rfl | rfl | rfl <;> simp at h hn ⊢ <;> omega
    · rfl
  · rfl

/-- A test's normal form. -/
def nrmB (fs : Facts) (e : Sx) : Sx := match e with
  | .cmp op a b => match remZ fs op a b with
    | some f => normC fs op f (.cmp op a b)
    | none => normC fs op (subLf (lin fs a) (lin fs b)) (.cmp op a b)
  | .cmps op a b => match op with
    | .eql => normS fs a b (.cmps .eql a b)
    | .neq => .not (normS fs a b (.cmps .eql a b))
    | op => .cmps op a b
  | e => e

theorem nrmB_ok {ρ : Env} {fs : Facts} (hf : FactsOk ρ fs) (e : Sx) : (den ρ (nrmB fs e)).b = (den ρ e).b := by
  unfold nrmB
  split
  · rename_i op a b
    split
    · rename_i f h
      exact normC_ok hf (remZ_ok hf h)
    · refine normC_ok hf ?_
      rw [subLf_val, lin_ok hf, lin_ok hf, ← cmpI_sub]
      rfl
  · rename_i op a b
    split
    · exact normS_ok hf rfl
    · have := normS_ok (a := a) (b := b) (e := .cmps .eql a b) hf rfl
      simp only [den] at this ⊢
      rw [this]
      simp only [cmpS]
    · rfl
  · rfl

/-! ### tests -/
variable {β : Type}

def atomT (join : β → β → β) (fs : Facts) (e : Sx) (kt kf : Facts → β) : β :=
  match known fs e with
  | some true => kt fs
  | some false => kf fs
  | none => join (kt ((e, true) :: fs)) (kf ((e, false) :: fs))

def testA (join : β → β → β) (fs : Facts) (e : Sx) (kt kf : Facts → β) : β :=
  match nrmB fs e with
  | .lb b => cond b (kt fs) (kf fs)
  | .not e' => match e' with
    | .lb b => cond b (kf fs) (kt fs)
    | e' => atomT join fs e' kf kt
  | e' => atomT join fs e' kt kf

/-- Is a test one of a field's uppermost bit? -/
def topB (e : Sx) : Sx := match e with
  | .cmp .leq (.bin .add .i64 a (.bin .mul .i64 b (.lit m))) (.lit n) =>
    match unSx (.bin .add .i64 a (.bin .mul .i64 b (.lit m))) with
    | (c, [(x, [(p, k), (q, j)])]) =>
      let s := q - p
      cond (decide (c = 0) && decide (k = 1) && Nat.ble 1 s && Nat.ble s 63 && Nat.ble q 64 && decide (j = -(2 ^ s)) && decide (p + s = q) && decide (n = 2 ^ (s - 1) - 1)
          && Sx.beq (toSx (0, [(x, [(p, 1), (q, j)])])) (.bin .add .i64 a (.bin .mul .i64 b (.lit m))))
        (.cmp .eql (bitS x (q - 1)) (.lit 0)) e
    | _ => e
  | e => e

theorem top_iff (y : Int) {s : Nat} (hs : 1 ≤ s) : y % 2 ^ s ≤ 2 ^ (s - 1) - 1 ↔ y / 2 ^ (s - 1) - 2 * (y / 2 ^ s) = 0 := by
  obtain ⟨n, rfl⟩ : ∃ n, s = n + 1 := ⟨s - 1, by omega⟩
  have hp := two_pos n
  have e1 : (2 : Int) ^ (n + 1) = 2 ^ n * 2 := Int.pow_succ ..
  have e2 : n + 1 - 1 = n := by omega
  rw [e2, Int.emod_def, e1, ← Int.ediv_ediv_of_nonneg (Int.le_of_lt hp)]
  have h1 := Int.mul_ediv_add_emod y (2 ^ n)
  have h2 := Int.emod_nonneg y (Int.ne_of_gt hp)
  have h3 := Int.emod_lt_of_pos y hp
  generalize (2 : Int) ^ n = t at *
  have h4 : y / t / 2 * 2 = y / t ∨ y / t / 2 * 2 + 1 = y / t := by omega
  have h5 : t * 2 * (y / t / 2) = t * (y / t / 2 * 2) := by rw [Int.mul_assoc, Int.mul_comm 2]
  rw [h5]
  rcases h4 with h4 | h4
  · rw [h4]; omega
  · have : y / t / 2 * 2 = y / t - 1 := by omega
    rw [this, Int.mul_sub]; omega

theorem topB_ok (ρ : Env) (e : Sx) : (den ρ (topB e)).b = (den ρ e).b := by
  unfold topB
  split
  · rename_i a b m n
    split
    · rename_i c x p k q j heq
      simp only
      generalize hs : q - p = s
      cases hc : (decide (c = 0) && decide (k = 1) && Nat.ble 1 s && Nat.ble s 63 && Nat.ble q 64 && decide (j = -(2 ^ s)) && decide (p + s = q) && decide (n = 2 ^ (s - 1) - 1)
          && Sx.beq (toSx (0, [(x, [(p, 1), (q, j)])])) (.bin .add .i64 a (.bin .mul .i64 b (.lit m)))) with
      | false => rfl
      | true =>
        simp only [Bool.and_eq_true, decide_eq_true_eq] at hc
        obtain ⟨⟨⟨⟨⟨⟨⟨⟨rfl, rfl⟩, h1⟩, h2⟩, h3⟩, rfl⟩, rfl⟩, rfl⟩, h4⟩ := hc
        have h1 := Nat.le_of_ble_eq_true h1
        have h2 := Nat.le_of_ble_eq_true h2
        have h3 := Nat.le_of_ble_eq_true h3
        have hv := digS_val ρ x h2 h3 (by omega)
        rw [Sx.beq_eq h4] at hv
        have hb := bitS_val ρ x (p := p + s - 1) (by omega)
        have e1 : (den ρ (.cmp .leq (.bin .add .i64 a (.bin .mul .i64 b (.lit m))) (.lit (2 ^ (s - 1) - 1)))).b = decide ((den ρ x).i / 2 ^ p % 2 ^ s ≤ 2 ^ (s - 1) - 1) := by
          rw [← hv]; rfl
        have e2 : (den ρ (.cmp .eql (bitS x (p + s - 1)) (.lit 0))).b = decide ((den ρ (bitS x (p + s - 1))).i = 0) := rfl
        rw [cond_true, e1, e2, hb]
        have e3 : p + s - 1 + 1 = p + s := by omega
        have e4 : p + s - 1 = p + (s - 1) := by omega
        refine decide_eq_decide.2 ?_
        rw [e3, e4, Int.pow_add, Int.pow_add, ← Int.ediv_ediv_of_nonneg (Int.le_of_lt (two_pos p)), ← Int.ediv_ediv_of_nonneg (Int.le_of_lt (two_pos p))]
        exact (top_iff _ h1).symm
    · rfl
  · rfl

/-- A row of tests. -/
def chain (join : β → β → β) : Sx → Facts → (Facts → β) → (Facts → β) → β
  | .and a b, fs, kt, kf => chain join a fs (fun fs => chain join b fs kt kf) kf
  | .lb b, fs, kt, kf => cond b (kt fs) (kf fs)
  | e, fs, kt, kf => testA join fs e kt kf

def few (join : β → β → β) (fs : Facts) (e : Sx) (kt kf : Facts → β) : β :=
  match fewB e with
  | .and a b => chain join (.and a b) fs kt kf
  | e => atomT join fs (topB e) kt kf

def testB (join : β → β → β) (fs : Facts) (e : Sx) (kt kf : Facts → β) : β :=
  match nrmB fs e with
  | .lb b => cond b (kt fs) (kf fs)
  | .not e' => match e' with
    | .lb b => cond b (kf fs) (kt fs)
    | e' => few join fs e' kf kt
  | e' => few join fs e' kt kf

/-- What is to be asked ahead: the sign of what is divided, whether nothing is left, whether a sum is too great. -/
def splitS (fs : Facts) : Sx → Option Sx
  | .cmp _ a b => match splitS fs a with
    | some t => some t
    | none => splitS fs b
  | .conv _ a => splitS fs a
  | .bin op k a b => match splitS fs a with
    | some t => some t
    | none => match splitS fs b with
      | some t => some t
      | none => match op, b with
        | .rem, .lit m => splitD fs k a m
        | .quo, .lit m => splitD fs k a m
        | .add, b => match k with
          | .i64 => splitA fs (addLf (lin fs a) (lin fs b))
          | _ => none
        | .sub, b => match k with
          | .i64 => splitA fs (subLf (lin fs a) (lin fs b))
          | _ => none
        | _, _ => none
  | _ => none
where
  splitD (fs : Facts) (k : IntKind) (a : Sx) (m : Int) : Option Sx :=
    (pow2 m).bind fun s => match divS fs (lin fs a) s with
      | some _ => none
      | none => match leO (ivLf fs (lin fs a)).2 (some (-1)) with
        | true => some (.cmp .eql (.bin .rem k a (.lit m)) (.lit 0))
        | false => some (.cmp .lss a (.lit 0))
  splitA (fs : Facts) (f : Lf) : Option Sx :=
    match inR (ivLf fs f) IntKind.i64.min IntKind.i64.max, f with
    | false, (c, [(x, [(0, 1)])]) => match ltO (some IntKind.i64.max) (ivLf fs f).2, ltO (ivLf fs f).1 (some IntKind.i64.min) with
      | true, true => some (.cmp .leq x (.lit (IntKind.i64.max - c)))
      | true, false => match leO (ivLf fs f).1 (some IntKind.i64.max) with
        | true => some (.cmp .leq x (.lit (IntKind.i64.max - c)))
        | false => none
      | false, true => match leO (some IntKind.i64.min) (ivLf fs f).2 with
        | true => some (.cmp .lss x (.lit (IntKind.i64.min - c)))
        | false => none
      | false, false => none
    | _, _ => none

/-- Is anything divided by, or added in 64 bits? -/
def hasRQ : Sx → Bool
  | .cmp _ a b => hasRQ a || hasRQ b
  | .conv _ a => hasRQ a
  | .bin op k a b => (match op with | .rem => true | .quo => true | .add => true | .sub => true | _ => false) || hasRQ a || hasRQ b
  | _ => false

def testF (join : β → β → β) : Nat → Facts → Sx → (Facts → β) → (Facts → β) → β
  | 0, fs, e, kt, kf => testB join fs e kt kf
  | n + 1, fs, e, kt, kf => match hasRQ e with
    | false => testB join fs e kt kf
    | true => match splitS fs e with
      | some t => testB join fs t (fun fs => testF join n fs e kt kf) (fun fs => testF join n fs e kt kf)
      | none => testB join fs e kt kf

/-- Both ways of a test, if both can be. -/
def test (join : β → β → β) : Sx → Facts → (Facts → β) → (Facts → β) → β
  | .not a, fs, kt, kf => test join a fs kf kt
  | .and a b, fs, kt, kf => test join a fs (fun fs => test join b fs kt kf) kf
  | .eqb a b, fs, kt, kf => test join a fs (fun fs => test join b fs kt kf) (fun fs => test join b fs kf kt)
  | .lb b, fs, kt, kf => cond b (kt fs) (kf fs)
  | e, fs, kt, kf => testF join 4 fs e kt kf

def both (a b : Bool) : Bool := cond a b false

theorem both_ok {a b : Bool} (h : both a b = true) : a = true ∧ b = true := by
  cases a <;> simp_all [both]

/-- What a test that went well says. -/
def Went (ρ : Env) (b : Bool) (kt kf : Facts → Bool) : Prop :=
  (b = true → ∃ fs, FactsOk ρ fs ∧ kt fs = true) ∧ (b = false → ∃ fs, FactsOk ρ fs ∧ kf fs = true)

theorem Went.swap {ρ : Env} {b : Bool} {kt kf : Facts → Bool} (h : Went ρ b kt kf) : Went ρ (!b) kf kt := by
  cases b
  · exact ⟨fun _ => h.2 rfl, fun h => by cases h⟩
  · exact ⟨(fun h => by cases h), fun _ => h.1 rfl⟩

theorem FactsOk.cons {ρ : Env} {fs : Facts} {e : Sx} {b : Bool} (hf : FactsOk ρ fs) (h : (den ρ e).b = b) : FactsOk ρ ((e, b) :: fs) := fun p hp => by
  rcases List.mem_cons.1 hp with rfl | hp
  · exact h
  · exact hf p hp

theorem atomT_ok {ρ : Env} {fs : Facts} (hf : FactsOk ρ fs) {e : Sx} {kt kf : Facts → Bool} (h : atomT both fs e kt kf = true) : Went ρ (den ρ e).b kt kf := by
  unfold atomT at h
  split at h
  · rename_i hk
    rw [known_ok hf hk]
    exact ⟨fun _ => ⟨fs, hf, h⟩, fun h => by cases h⟩
  · rename_i hk
    rw [known_ok hf hk]
    exact ⟨(fun h => by cases h), fun _ => ⟨fs, hf, h⟩⟩
  · obtain ⟨h1, h2⟩ := both_ok h
    exact ⟨fun hb => ⟨_, hf.cons hb, h1⟩, fun hb => ⟨_, hf.cons hb, h2⟩⟩

theorem went_lb {ρ : Env} {fs : Facts} (hf : FactsOk ρ fs) {b : Bool} {kt kf : Facts → Bool} (h : cond b (kt fs) (kf fs) = true) : Went ρ b kt kf := by
  cases b
  · exact ⟨(fun h => by cases h), fun _ => ⟨fs, hf, h⟩⟩
  · exact ⟨fun _ => ⟨fs, hf, h⟩, fun h => by cases h⟩

theorem testA_ok {ρ : Env} {fs : Facts} (hf : FactsOk ρ fs) {e : Sx} {kt kf : Facts → Bool} (h : testA both fs e kt kf = true) : Went ρ (den ρ e).b kt kf := by
  unfold testA at h
  rw [← nrmB_ok hf e]
  split at h
  · rename_i b hb
    rw [hb]
    exact went_lb hf h
  · rename_i e' he
    rw [he]
    split at h
    · rename_i b
      exact (went_lb hf h).swap
    · exact (atomT_ok hf h).swap
  · exact atomT_ok hf h

theorem chain_ok {ρ : Env} : ∀ (e : Sx) {fs : Facts} {kt kf : Facts → Bool}, FactsOk ρ fs → chain both e fs kt kf = true → Went ρ (den ρ e).b kt kf := by
  intro e
  induction e with
  | and a b iha ihb =>
    intro fs kt kf hf h
    have h1 := iha hf h
    simp only [den]
    cases ha : (den ρ a).b with
    | true =>
      obtain ⟨fs', hf', h'⟩ := h1.1 ha
      simpa using ihb hf' h'
    | false => exact ⟨(fun h => by simp at h), fun _ => h1.2 ha⟩
  | lb b =>
    intro fs kt kf hf h
    exact went_lb hf h
  | _ => intro fs kt kf hf h; exact testA_ok hf h

theorem few_ok {ρ : Env} {fs : Facts} (hf : FactsOk ρ fs) {e : Sx} {kt kf : Facts → Bool} (h : few both fs e kt kf = true) : Went ρ (den ρ e).b kt kf := by
  unfold few at h
  rw [← fewB_ok ρ e]
  split at h
  · rename_i a b he
    rw [he]
    exact chain_ok _ hf h
  · rw [← topB_ok ρ]
    exact atomT_ok hf h

theorem testB_ok {ρ : Env} {fs : Facts} (hf : FactsOk ρ fs) {e : Sx} {kt kf : Facts → Bool} (h : testB both fs e kt kf = true) : Went ρ (den ρ e).b kt kf := by
  unfold testB at h
  rw [← nrmB_ok hf e]
  split at h
  · rename_i b hb
    rw [hb]
    exact went_lb hf h
  · rename_i e' he
    rw [he]
    split at h
    · rename_i b
      exact (went_lb hf h).swap
    · exact (few_ok hf h).swap
  · exact few_ok hf h

theorem testF_ok {ρ : Env} {e : Sx} : ∀ (n : Nat) {fs : Facts} {kt kf : Facts → Bool}, FactsOk ρ fs → testF both n fs e kt kf = true → Went ρ (den ρ e).b kt kf
  | 0, fs, kt, kf, hf, h => testB_ok hf h
  | n + 1, fs, kt, kf, hf, h => by
    simp only [testF] at h
    split at h
    · exact testB_ok hf h
    · split at h
      · rename_i t _
        have := testB_ok hf h
        cases hb : (den ρ t).b with
        | true =>
          obtain ⟨fs', hf', h'⟩ := this.1 hb
          exact testF_ok n hf' h'
        | false =>
          obtain ⟨fs', hf', h'⟩ := this.2 hb
          exact testF_ok n hf' h'
      · exact testB_ok hf h

theorem test_ok {ρ : Env} : ∀ (e : Sx) {fs : Facts} {kt kf : Facts → Bool}, FactsOk ρ fs → test both e fs kt kf = true → Went ρ (den ρ e).b kt kf := by
  intro e
  induction e with
  | not a ih =>
    intro fs kt kf hf h
    exact (ih hf h).swap
  | and a b iha ihb =>
    intro fs kt kf hf h
    have h1 := iha hf h
    simp only [den]
    cases ha : (den ρ a).b with
    | true =>
      obtain ⟨fs', hf', h'⟩ := h1.1 ha
      simpa using ihb hf' h'
    | false => exact ⟨(fun h => by simp at h), fun _ => h1.2 ha⟩
  | eqb a b iha ihb =>
    intro fs kt kf hf h
    have h1 := iha hf h
    simp only [den]
    cases ha : (den ρ a).b with
    | true =>
      obtain ⟨fs', hf', h'⟩ := h1.1 ha
      have := ihb hf' h'
      simpa using this
    | false =>
      obtain ⟨fs', hf', h'⟩ := h1.2 ha
      have := (ihb hf' h').swap
      cases hb : (den ρ b).b <;> rw [hb] at this <;> exact this
  | lb b =>
    intro fs kt kf hf h
    exact went_lb hf h
  | _ => intro fs kt kf hf h; exact testF_ok 4 hf h

/-! ### runs -/
def leafN (fs : Facts) : AV → Bool
  | .tc (.sc (.bool true)) => true
  | .tc (.sy .bool e) => test both e fs (fun _ => true) (fun _ => false)
  | _ => false

/-- Is each leaf that can be come to true? -/
def allN : Out → Facts → Bool
  | .fail, _ => false
  | .leaf r, fs => leafN fs r
  | .sel e a b, fs => test both e fs (allN a) (allN b)

theorem leafN_ok {ρ : Env} {fs : Facts} {r : AV} (hf : FactsOk ρ fs) (h : leafN fs r = true) : conc ρ r = .sc (.bool true) := by
  unfold leafN at h
  split at h
  · rfl
  · rename_i e
    have := test_ok e hf h
    cases hb : (den ρ e).b with
    | true => simp [conc, concT, STy.val, hb]
    | false => exact absurd (this.2 hb) (by rintro ⟨_, _, hx⟩; cases hx)
  · cases h

theorem allN_ok {ρ : Env} : ∀ (o : Out) {fs : Facts}, FactsOk ρ fs → allN o fs = true → outV ρ o = some (.sc (.bool true))
  | .fail, _, _, h => by simp [allN] at h
  | .leaf r, _, hf, h => by simp only [outV, leafN_ok hf h]
  | .sel e a b, fs, hf, h => by
    have := test_ok e hf h
    simp only [outV]
    cases hb : (den ρ e).b with
    | true =>
      obtain ⟨fs', hf', h'⟩ := this.1 hb
      exact allN_ok a hf' h'
    | false =>
      obtain ⟨fs', hf', h'⟩ := this.2 hb
      exact allN_ok b hf' h'

/-! ### runs that tell what an expression says -/
def sameI (fs : Facts) (a b : Sx) : Bool := Sx.beq a b || test both (.cmp .eql a b) fs (fun _ => true) (fun _ => false)

theorem sameI_ok {ρ : Env} {fs : Facts} (hf : FactsOk ρ fs) {a b : Sx} (h : sameI fs a b = true) : (den ρ a).i = (den ρ b).i := by
  simp only [sameI, Bool.or_eq_true] at h
  rcases h with h | h
  · rw [Sx.beq_eq h]
  · have := test_ok (.cmp .eql a b) hf h
    cases hb : (den ρ (.cmp .eql a b)).b with
    | true => simpa [den, cmpI] using hb
    | false => exact absurd (this.2 hb) (by rintro ⟨_, _, hx⟩; cases hx)

def sameTN (fs : Facts) (c d : TC) : Bool :=
  sameT c d || match asSx (.tc c), asSx (.tc d) with
    | some (.int k, a), some (.int k', b) => decide (k = k') && sameI fs a b
    | some (.bool, a), some (.bool, b) => test both (.eqb a b) fs (fun _ => true) (fun _ => false)
    | some (.str, a), some (.str, b) => Sx.beq a b
    | _, _ => false

theorem concT_asSx {ρ : Env} {c : TC} {t : STy} {e : Sx} (h : asSx (.tc c) = some (t, e)) : concT ρ c = .sc (t.val (den ρ e)) := by
  unfold asSx at h
  split at h <;> simp only [Option.some.injEq, Prod.mk.injEq, reduceCtorEq] at h
  all_goals
    obtain ⟨rfl, rfl⟩ := h
    rename_i heq
    simp only [AV.tc.injEq] at heq
    subst heq
    rfl

theorem sameTN_ok {ρ : Env} {fs : Facts} (hf : FactsOk ρ fs) {c d : TC} (h : sameTN fs c d = true) : concT ρ c = concT ρ d := by
  simp only [sameTN, Bool.or_eq_true] at h
  rcases h with h | h
  · rw [sameT_eq h]
  · split at h
    · rename_i k a k' b h1 h2
      simp only [Bool.and_eq_true, decide_eq_true_eq] at h
      rw [concT_asSx h1, concT_asSx h2, h.1]
      simp only [STy.val, sameI_ok hf h.2]
    · rename_i a b h1 h2
      rw [concT_asSx h1, concT_asSx h2]
      have := test_ok (.eqb a b) hf h
      simp only [STy.val]
      cases hb : (den ρ (.eqb a b)).b with
      | true =>
        simp only [den, beq_iff_eq] at hb
        rw [hb]
      | false => exact absurd (this.2 hb) (by rintro ⟨_, _, hx⟩; cases hx)
    · rename_i a b h1 h2
      rw [concT_asSx h1, concT_asSx h2, Sx.beq_eq h]
    · cases h

mutual
def sameN (fs : Facts) : AV → AV → Bool
  | .tc c, .tc d => sameTN fs c d
  | .agg a, .agg b => sameNs fs a b
  | .tuple a, .tuple b => sameNs fs a b
  | _, _ => false
def sameNs (fs : Facts) : List AV → List AV → Bool
  | [], [] => true
  | a :: r, b :: q => both (sameN fs a b) (sameNs fs r q)
  | _, _ => false
end

mutual
theorem sameN_ok {ρ : Env} {fs : Facts} (hf : FactsOk ρ fs) : ∀ (a b : AV), sameN fs a b = true → conc ρ a = conc ρ b
  | .tc c, b, h => by
    cases b <;> simp only [sameN, reduceCtorEq, Bool.false_eq_true] at h
    simp only [conc, sameTN_ok hf h]
  | .agg a, b, h => by
    cases b <;> simp only [sameN, reduceCtorEq, Bool.false_eq_true] at h
    simp only [conc, sameNs_ok hf _ _ h]
  | .tuple a, b, h => by
    cases b <;> simp only [sameN, reduceCtorEq, Bool.false_eq_true] at h
    simp only [conc, sameNs_ok hf _ _ h]
  | .any, b, h => by simp [sameN] at h
  | .ptr .., b, h => by simp [sameN] at h
  | .vptr .., b, h => by simp [sameN] at h
  | .slice .., b, h => by simp [sameN] at h
  | .map _, b, h => by simp [sameN] at h
  | .func .., b, h => by simp [sameN] at h
theorem sameNs_ok {ρ : Env} {fs : Facts} (hf : FactsOk ρ fs) : ∀ (a b : List AV), sameNs fs a b = true → concs ρ a = concs ρ b
  | [], [], _ => rfl
  | [], _ :: _, h => by simp [sameNs] at h
  | _ :: _, [], h => by simp [sameNs] at h
  | a :: r, b :: q, h => by
    simp only [sameNs] at h
    obtain ⟨h1, h2⟩ := both_ok h
    simp only [concs, sameN_ok hf a b h1, sameNs_ok hf r q h2]
end

/-- Is what each leaf tells R? -/
def isN (R : AV) : Out → Facts → Bool
  | .fail, _ => false
  | .leaf r, fs => sameN fs r R
  | .sel e a b, fs => test both e fs (isN R a) (isN R b)

theorem isN_ok {ρ : Env} {R : AV} : ∀ (o : Out) {fs : Facts}, FactsOk ρ fs → isN R o fs = true → outV ρ o = some (conc ρ R)
  | .fail, _, _, h => by simp [isN] at h
  | .leaf r, _, hf, h => by simp only [outV, sameN_ok hf r R h]
  | .sel e a b, fs, hf, h => by
    have := test_ok e hf h
    simp only [outV]
    cases hb : (den ρ e).b with
    | true =>
      obtain ⟨fs', hf', h'⟩ := this.1 hb
      exact isN_ok a hf' h'
    | false =>
      obtain ⟨fs', hf', h'⟩ := this.2 hb
      exact isN_ok b hf' h'

/-- A run each of whose leaves is true. -/
@[irreducible] def RunsN (C : Ctx) (d : Nat) (fs : Facts) (f : FuncId) (args : List AV) : Prop := allN (runOut C d f args) fs = true

theorem RunsN.code {code : FuncId → FF} {C : Ctx} {d : Nat} {fs : Facts} {f : FuncId} {args : List AV} (hcode : ∀ f, code f = .bad ∨ code f = compF (baseOf C) f) (hsym : C.sym = false) (h : allN (runF code C d f args) fs = true) :
    RunsN C d fs f args := by
  unfold RunsN
  rw [← runF_eq hcode hsym]
  exact h

theorem RunsN.calls {ρ : Env} {C : Ctx} {d : Nat} {fs : Facts} {f : FuncId} {args : List AV} (h : RunsN C d fs f args) (hs : Summ ρ C) (hf : FactsOk ρ fs) : CallsTo C f (concs ρ args) (.sc (.bool true)) := by
  unfold RunsN at h
  exact run_calls hs (allN_ok _ hf h)

/-- A run that tells what R says. -/
@[irreducible] def RunsIs (C : Ctx) (d : Nat) (fs : Facts) (f : FuncId) (args : List AV) (R : AV) : Prop := isN R (runOut C d f args) fs = true

theorem RunsIs.code {code : FuncId → FF} {C : Ctx} {d : Nat} {fs : Facts} {f : FuncId} {args : List AV} {R : AV} (hcode : ∀ f, code f = .bad ∨ code f = compF (baseOf C) f) (hsym : C.sym = false) (h : isN R (runF code C d f args) fs = true) :
    RunsIs C d fs f args R := by
  unfold RunsIs
  rw [← runF_eq hcode hsym]
  exact h

theorem RunsIs.calls {ρ : Env} {C : Ctx} {d : Nat} {fs : Facts} {f : FuncId} {args : List AV} {R : AV} (h : RunsIs C d fs f args R) (hs : Summ ρ C) (hf : FactsOk ρ fs) : CallsTo C f (concs ρ args) (conc ρ R) := by
  unfold RunsIs at h
  exact run_calls hs (isN_ok _ hf h)

/-! ### looking at a run -/
def residN : Out → Facts → List (Facts × AV)
  | .fail, fs => [(fs, undefA)]
  | .leaf r, fs => match leafN fs r with | true => [] | false => [(fs, r)]
  | .sel e a b, fs => test (· ++ ·) e fs (residN a) (residN b)
def leavesN : Out → Facts → Nat
  | .fail, _ => 1
  | .leaf _, _ => 1
  | .sel e a b, fs => test Nat.add e fs (leavesN a) (leavesN b)
def pruneN : Out → Facts → Out
  | .fail, _ => .fail
  | .leaf r, _ => .leaf r
  | .sel e a b, fs => match nrmB fs e with
    | .lb b' => cond b' (pruneN a fs) (pruneN b fs)
    | e' => .sel e' (test (fun a _ => a) e fs (pruneN a) (pruneN b)) (test (fun _ b => b) e fs (pruneN a) (pruneN b))
end Go.Proofs.Ytgpijioodocplaa
