/- Whole numbers as sums of fields of bits: forms, what they denote, their bounds. -/
import Derived.Test.YtgpijioodocplaaSyTrue
set_option linter.unusedVariables false
set_option linter.unusedSimpArgs false
namespace Go.Proofs.Ytgpijioodocplaa
open Go Go.RowKit

/-- Of one number: shifts, rising, each with a factor. -/
abbrev Gr := List (Nat × Int)
/-- A number, and groups. -/
abbrev Lf := Int × List (Sx × Gr)

def grVal (x : Int) : Gr → Int
  | [] => 0
  | p :: r => p.2 * (x / 2 ^ p.1) + grVal x r

def gsVal (ρ : Env) : List (Sx × Gr) → Int
  | [] => 0
  | p :: r => grVal (den ρ p.1).i p.2 + gsVal ρ r

def lfVal (ρ : Env) (f : Lf) : Int := f.1 + gsVal ρ f.2

def insGr (s : Nat) (k : Int) : Gr → Gr
  | [] => [(s, k)]
  | p :: r => cond (Nat.blt s p.1) ((s, k) :: p :: r) (cond (Nat.beq s p.1) (cond (decide (k + p.2 = 0)) r ((p.1, k + p.2) :: r)) (p :: insGr s k r))

theorem insGr_val (x : Int) (s : Nat) (k : Int) : ∀ g, grVal x (insGr s k g) = k * (x / 2 ^ s) + grVal x g
  | [] => rfl
  | p :: r => by
    simp only [insGr]
    cases h1 : Nat.blt s p.1 with
    | true => rfl
    | false =>
      cases h2 : Nat.beq s p.1 with
      | true =>
        obtain rfl := Nat.eq_of_beq_eq_true h2
        have hm : (k + p.2) * (x / 2 ^ p.1) = k * (x / 2 ^ p.1) + p.2 * (x / 2 ^ p.1) := Int.add_mul ..
        cases h3 : decide (k + p.2 = 0) with
        | true =>
          simp only [decide_eq_true_eq] at h3
          rw [h3, Int.zero_mul] at hm
          simp only [cond_true, _root_.cond_false, grVal]
          omega
        | false =>
          simp only [cond_true, _root_.cond_false, grVal, hm]
          omega
      | false =>
        simp only [_root_.cond_false, grVal, insGr_val x s k r]
        omega

def addGr (a b : Gr) : Gr := a.foldr (fun p g => insGr p.1 p.2 g) b

theorem addGr_val (x : Int) (b : Gr) : ∀ a, grVal x (addGr a b) = grVal x a + grVal x b
  | [] => by simp [addGr, grVal]
  | p :: r => by
    have ih := addGr_val x b r
    simp only [addGr, List.foldr_cons, insGr_val, grVal] at ih ⊢
    rw [ih]; omega

/-- A number for an expression: by it groups stand in a row. -/
def sxKey : Sx → Nat
  | .var i => 2 * i + 2
  | .lit n => 2 * n.natAbs + 1
  | .bin _ _ a b => (sxKey a * 31 + sxKey b * 1009 + 101) % 2305843009213693951
  | .conv _ a => (sxKey a * 37 + 211) % 2305843009213693951
  | .app f a => (sxKey a * 41 + 307 * f + 11) % 2305843009213693951
  | .arg _ a b => (sxKey a * 43 + sxKey b * 1013 + 17) % 2305843009213693951
  | .at_ a b => (sxKey a * 47 + sxKey b * 1019 + 19) % 2305843009213693951
  | .len a => (sxKey a * 53 + 23) % 2305843009213693951
  | .sub a b c => (sxKey a * 59 + sxKey b * 1021 + sxKey c * 2003 + 29) % 2305843009213693951
  | .idx a b => (sxKey a * 61 + sxKey b * 1031 + 37) % 2305843009213693951
  | _ => 3

def mrg (x : Sx) (g : Gr) (r : List (Sx × Gr)) : List (Sx × Gr) := match g with
  | [] => r
  | p :: q => (x, p :: q) :: r

theorem mrg_val (ρ : Env) (x : Sx) (g : Gr) (r : List (Sx × Gr)) : gsVal ρ (mrg x g r) = grVal (den ρ x).i g + gsVal ρ r := by
  cases g <;> simp [mrg, gsVal, grVal]

def insG (x : Sx) (g : Gr) : List (Sx × Gr) → List (Sx × Gr)
  | [] => mrg x g []
  | p :: r => cond (Sx.beq x p.1) (mrg p.1 (addGr g p.2) r) (cond (Nat.blt (sxKey x) (sxKey p.1)) (mrg x g (p :: r)) (p :: insG x g r))

theorem insG_val (ρ : Env) (x : Sx) (g : Gr) : ∀ l, gsVal ρ (insG x g l) = grVal (den ρ x).i g + gsVal ρ l
  | [] => by simp [insG, mrg_val]
  | p :: r => by
    simp only [insG]
    cases h1 : Sx.beq x p.1 with
    | true =>
      have := Sx.beq_eq h1
      subst this
      simp only [cond_true, mrg_val, addGr_val, gsVal]
      omega
    | false =>
      cases h2 : Nat.blt (sxKey x) (sxKey p.1) with
      | true => simp only [cond_true, _root_.cond_false, mrg_val]
      | false =>
        simp only [_root_.cond_false, gsVal, insG_val ρ x g r]
        omega

def addGs (a b : List (Sx × Gr)) : List (Sx × Gr) := a.foldr (fun p l => insG p.1 p.2 l) b

theorem addGs_val (ρ : Env) (b : List (Sx × Gr)) : ∀ a, gsVal ρ (addGs a b) = gsVal ρ a + gsVal ρ b
  | [] => by simp [addGs, gsVal]
  | p :: r => by
    have ih := addGs_val ρ b r
    simp only [addGs, List.foldr_cons, insG_val, gsVal] at ih ⊢
    rw [ih]; omega

def addLf (f g : Lf) : Lf := (f.1 + g.1, addGs f.2 g.2)

theorem addLf_val (ρ : Env) (f g : Lf) : lfVal ρ (addLf f g) = lfVal ρ f + lfVal ρ g := by
  simp only [lfVal, addLf, addGs_val]; omega

def mulGr (k : Int) (g : Gr) : Gr := g.map fun q => (q.1, k * q.2)
def mulGs (k : Int) (l : List (Sx × Gr)) : List (Sx × Gr) := l.map fun p => (p.1, mulGr k p.2)
def scale (k : Int) (f : Lf) : Lf := cond (decide (k = 0)) (0, []) (k * f.1, mulGs k f.2)

theorem mulGr_val (x k : Int) : ∀ g, grVal x (mulGr k g) = k * grVal x g
  | [] => by simp [mulGr, grVal]
  | p :: r => by
    have ih := mulGr_val x k r
    simp only [mulGr, List.map_cons, grVal] at ih ⊢
    rw [ih, Int.mul_add, Int.mul_assoc]

theorem mulGs_val (ρ : Env) (k : Int) : ∀ l, gsVal ρ (mulGs k l) = k * gsVal ρ l
  | [] => by simp [mulGs, gsVal]
  | p :: r => by
    have ih := mulGs_val ρ k r
    simp only [mulGs, List.map_cons, gsVal, mulGr_val] at ih ⊢
    rw [ih, Int.mul_add]

theorem scale_val (ρ : Env) (k : Int) (f : Lf) : lfVal ρ (scale k f) = k * lfVal ρ f := by
  unfold scale
  cases h : decide (k = 0) with
  | true =>
    simp only [decide_eq_true_eq] at h
    subst h
    simp [lfVal, gsVal]
  | false => simp only [_root_.cond_false, lfVal, mulGs_val, Int.mul_add]

def subLf (f g : Lf) : Lf := addLf f (scale (-1) g)

theorem subLf_val (ρ : Env) (f g : Lf) : lfVal ρ (subLf f g) = lfVal ρ f - lfVal ρ g := by
  simp only [subLf, addLf_val, scale_val]; omega

/-! ### bounds -/
def addO : Option Int → Option Int → Option Int
  | some a, some b => some (a + b)
  | _, _ => none
def addIv (a b : Iv) : Iv := (addO a.1 b.1, addO a.2 b.2)
def mulIv (k : Int) (v : Iv) : Iv := cond (decide (0 ≤ k)) (v.1.map (k * ·), v.2.map (k * ·)) (v.2.map (k * ·), v.1.map (k * ·))
def shrIv (v : Iv) (s : Nat) : Iv := (v.1.map (· / 2 ^ s), v.2.map (· / 2 ^ s))
def oneIv (n : Int) : Iv := (some n, some n)

theorem oneIv_ok (n : Int) : (oneIv n).has n :=
  ⟨fun l hl => by simp only [oneIv, Option.some.injEq] at hl; omega, fun l hl => by simp only [oneIv, Option.some.injEq] at hl; omega⟩

theorem addIv_ok {a b : Iv} {x y : Int} (ha : a.has x) (hb : b.has y) : (addIv a b).has (x + y) := by
  refine ⟨fun l hl => ?_, fun l hl => ?_⟩
  · simp only [addIv] at hl
    cases h1 : a.1 with
    | none => rw [h1] at hl; simp [addO] at hl
    | some p =>
      cases h2 : b.1 with
      | none => rw [h1, h2] at hl; simp [addO] at hl
      | some q => rw [h1, h2] at hl; simp only [addO, Option.some.injEq] at hl; have := ha.1 _ h1; have := hb.1 _ h2; omega
  · simp only [addIv] at hl
    cases h1 : a.2 with
    | none => rw [h1] at hl; simp [addO] at hl
    | some p =>
      cases h2 : b.2 with
      | none => rw [h1, h2] at hl; simp [addO] at hl
      | some q => rw [h1, h2] at hl; simp only [addO, Option.some.injEq] at hl; have := ha.2 _ h1; have := hb.2 _ h2; omega

theorem mulIv_ok {k : Int} {v : Iv} {x : Int} (h : v.has x) : (mulIv k v).has (k * x) := by
  unfold mulIv
  cases hk : decide (0 ≤ k) with
  | true =>
    simp only [decide_eq_true_eq] at hk
    refine ⟨fun l hl => ?_, fun l hl => ?_⟩
    · simp only [cond_true, Option.map_eq_some_iff] at hl
      obtain ⟨a, ha, rfl⟩ := hl
      exact Int.mul_le_mul_of_nonneg_left (h.1 _ ha) hk
    · simp only [cond_true, Option.map_eq_some_iff] at hl
      obtain ⟨a, ha, rfl⟩ := hl
      exact Int.mul_le_mul_of_nonneg_left (h.2 _ ha) hk
  | false =>
    simp only [decide_eq_false_iff_not] at hk
    refine ⟨fun l hl => ?_, fun l hl => ?_⟩
    · simp only [_root_.cond_false, Option.map_eq_some_iff] at hl
      obtain ⟨a, ha, rfl⟩ := hl
      exact Int.mul_le_mul_of_nonpos_left (by omega) (h.2 _ ha)
    · simp only [_root_.cond_false, Option.map_eq_some_iff] at hl
      obtain ⟨a, ha, rfl⟩ := hl
      exact Int.mul_le_mul_of_nonpos_left (by omega) (h.1 _ ha)

theorem two_pos (s : Nat) : (0 : Int) < 2 ^ s := Int.pow_pos (by omega)

theorem shrIv_ok {v : Iv} {x : Int} (s : Nat) (h : v.has x) : (shrIv v s).has (x / 2 ^ s) := by
  refine ⟨fun l hl => ?_, fun l hl => ?_⟩
  · simp only [shrIv, Option.map_eq_some_iff] at hl
    obtain ⟨a, ha, rfl⟩ := hl
    exact Int.ediv_le_ediv (two_pos s) (h.1 _ ha)
  · simp only [shrIv, Option.map_eq_some_iff] at hl
    obtain ⟨a, ha, rfl⟩ := hl
    exact Int.ediv_le_ediv (two_pos s) (h.2 _ ha)

def digIv (k : Int) (m : Int) : Iv := cond (decide (0 ≤ k)) (some 0, some (k * (m - 1))) (some (k * (m - 1)), some 0)

theorem digIv_ok {k m d : Int} (h1 : 0 ≤ d) (h2 : d ≤ m - 1) : (digIv k m).has (k * d) := by
  unfold digIv
  cases hk : decide (0 ≤ k) with
  | true =>
    simp only [decide_eq_true_eq] at hk
    have a1 : 0 ≤ k * d := Int.mul_nonneg hk h1
    have a2 : k * d ≤ k * (m - 1) := Int.mul_le_mul_of_nonneg_left h2 hk
    exact ⟨fun l hl => by simp only [cond_true, Option.some.injEq] at hl; omega, fun l hl => by simp only [cond_true, Option.some.injEq] at hl; omega⟩
  | false =>
    simp only [decide_eq_false_iff_not] at hk
    have a1 : k * d ≤ k * 0 := Int.mul_le_mul_of_nonpos_left (by omega) h1
    have a2 : k * (m - 1) ≤ k * d := Int.mul_le_mul_of_nonpos_left (by omega) h2
    exact ⟨fun l hl => by simp only [_root_.cond_false, Option.some.injEq] at hl; omega, fun l hl => by simp only [_root_.cond_false, Option.some.injEq] at hl; omega⟩

/-- A number without its lower bits. -/
def qS (x : Sx) (s : Nat) : Sx := cond (Nat.beq s 0) x (.bin .shr .i64 x (.lit s))

theorem qS_val (ρ : Env) (x : Sx) {s : Nat} (h : s ≤ 64) : (den ρ (qS x s)).i = (den ρ x).i / 2 ^ s := by
  unfold qS
  cases hs : Nat.beq s 0 with
  | true =>
    obtain rfl := Nat.eq_of_beq_eq_true hs
    simp
  | false =>
    simp only [_root_.cond_false, den, binI, IntKind.bits]
    have : min (Int.toNat (s : Int)) 64 = s := by omega
    rw [this]
    exact Int.fdiv_eq_ediv_of_nonneg _ (Int.le_of_lt (two_pos s))

def ivQ (fs : Facts) (x : Sx) (v : Iv) (p : Nat) : Iv := cond (Nat.beq p 0) v (cond (Nat.ble p 64) (cutBy (qS x p) fs (shrIv v p)) (shrIv v p))

theorem ivQ_ok {ρ : Env} {fs : Facts} (hf : FactsOk ρ fs) {x : Sx} {v : Iv} (h : v.has (den ρ x).i) (p : Nat) : (ivQ fs x v p).has ((den ρ x).i / 2 ^ p) := by
  unfold ivQ
  cases hs : Nat.beq p 0 with
  | true =>
    obtain rfl := Nat.eq_of_beq_eq_true hs
    simpa using h
  | false =>
    cases hp : Nat.ble p 64 with
    | true =>
      have := qS_val ρ x (Nat.le_of_ble_eq_true hp)
      rw [← this]
      exact cutBy_ok (by rw [this]; exact shrIv_ok p h) hf
    | false => exact shrIv_ok p h

/-- One bit, as forms are written. -/
def bitS (x : Sx) (p : Nat) : Sx := .bin .add .i64 (qS x p) (.bin .mul .i64 (qS x (p + 1)) (.lit (-2)))

theorem dig_bounds (x : Int) {p s : Nat} (h : p ≤ s) : 0 ≤ x / 2 ^ p - 2 ^ (s - p) * (x / 2 ^ s) ∧ x / 2 ^ p - 2 ^ (s - p) * (x / 2 ^ s) ≤ 2 ^ (s - p) - 1 := by
  have e : (2 : Int) ^ s = 2 ^ p * 2 ^ (s - p) := by rw [← Int.pow_add]; congr 1; omega
  rw [e, ← Int.ediv_ediv_of_nonneg (Int.le_of_lt (two_pos p))]
  generalize x / 2 ^ p = y
  have h1 := Int.emod_nonneg y (Int.ne_of_gt (two_pos (s - p)))
  have h2 := Int.emod_lt_of_pos y (two_pos (s - p))
  have h3 := Int.mul_ediv_add_emod y (2 ^ (s - p))
  generalize 2 ^ (s - p) * (y / 2 ^ (s - p)) = z at *
  omega

theorem wrap_bits (k : IntKind) (n : Int) : (2 ^ k.bits : Int) ∣ k.wrap n - n := by
  have h := Int.mul_ediv_add_emod n (2 ^ k.bits : Int)
  unfold IntKind.wrap
  simp only
  split
  · exact ⟨-(n / 2 ^ k.bits) - 1, by rw [Int.mul_sub, Int.mul_neg]; omega⟩
  · exact ⟨-(n / 2 ^ k.bits), by rw [Int.mul_neg]; omega⟩

theorem bitS_val (ρ : Env) (x : Sx) {p : Nat} (h : p < 64) : (den ρ (bitS x p)).i = (den ρ x).i / 2 ^ p - 2 * ((den ρ x).i / 2 ^ (p + 1)) := by
  have h1 := qS_val ρ x (s := p) (by omega)
  have h2 := qS_val ρ x (s := p + 1) (by omega)
  obtain ⟨d1, d2⟩ := dig_bounds (den ρ x).i (p := p) (s := p + 1) (by omega)
  have e : p + 1 - p = 1 := by omega
  rw [e] at d1 d2
  simp only [bitS, den, binI, h1, h2]
  generalize (den ρ x).i / 2 ^ p = a at *
  generalize (den ρ x).i / 2 ^ (p + 1) = b at *
  obtain ⟨y, hy⟩ := wrap_bits .i64 (b * -2)
  obtain ⟨z, hz⟩ := wrap_bits .i64 (a + IntKind.i64.wrap (b * -2))
  have hr := wrap_range .i64 (a + IntKind.i64.wrap (b * -2))
  simp only [IntKind.bits] at hy hz
  simp only [IntKind.min, IntKind.max, IntKind.signed, IntKind.bits, if_true] at hr
  omega

/-- Some bits, one by one. -/
def ivBits (fs : Facts) (x : Sx) (p : Nat) (C : Int) : Nat → Iv
  | 0 => oneIv 0
  | n + 1 => addIv (ivBits fs x p C n) (mulIv (C * 2 ^ n) (cutBy (bitS x (p + n)) fs (some 0, some 1)))

theorem ivBits_ok {ρ : Env} {fs : Facts} (hf : FactsOk ρ fs) (x : Sx) (p : Nat) (C : Int) : ∀ n, p + n ≤ 64 → (ivBits fs x p C n).has (C * ((den ρ x).i / 2 ^ p - 2 ^ n * ((den ρ x).i / 2 ^ (p + n))))
  | 0, _ => by
    have : (den ρ x).i / 2 ^ p - 2 ^ 0 * ((den ρ x).i / 2 ^ (p + 0)) = 0 := by simp
    rw [this, Int.mul_zero]
    exact oneIv_ok 0
  | n + 1, h => by
    have ih := ivBits_ok hf x p C n (by omega)
    have hb := bitS_val ρ x (p := p + n) (by omega)
    obtain ⟨d1, d2⟩ := dig_bounds (den ρ x).i (p := p + n) (s := p + n + 1) (by omega)
    have e : p + n + 1 - (p + n) = 1 := by omega
    rw [e] at d1 d2
    have hc : (cutBy (bitS x (p + n)) fs (some 0, some 1)).has (den ρ (bitS x (p + n))).i := cutBy_ok (by
      rw [hb]
      exact ⟨fun l hl => by simp only [Option.some.injEq] at hl; omega, fun l hl => by simp only [Option.some.injEq] at hl; omega⟩) hf
    have := addIv_ok ih (mulIv_ok (k := C * 2 ^ n) hc)
    rw [hb] at this
    have e2 : C * ((den ρ x).i / 2 ^ p - 2 ^ (n + 1) * ((den ρ x).i / 2 ^ (p + (n + 1)))) = C * ((den ρ x).i / 2 ^ p - 2 ^ n * ((den ρ x).i / 2 ^ (p + n))) + C * 2 ^ n * ((den ρ x).i / 2 ^ (p + n) - 2 * ((den ρ x).i / 2 ^ (p + n + 1))) := by
      have e3 : p + (n + 1) = p + n + 1 := rfl
      rw [e3, Int.mul_assoc C, ← Int.mul_add]
      congr 1
      rw [Int.mul_sub, Int.pow_succ, Int.mul_assoc]
      omega
    rw [e2]
    exact this

/-- A digit: of few bits one by one. -/
def digX (fs : Facts) (x : Sx) (p : Nat) (C : Int) (n : Nat) : Iv :=
  cond (Nat.ble (p + n) 64) (cond (Nat.ble n 3) (ivBits fs x p C n) (addIv (digIv C (2 ^ (n - 1))) (mulIv (C * 2 ^ (n - 1)) (cutBy (bitS x (p + (n - 1))) fs (some 0, some 1))))) (digIv C (2 ^ n))

def ivC (fs : Facts) (x : Sx) (v : Iv) : Gr → Nat → Int → Iv
  | [], p, C => cond (decide (C = 0)) (oneIv 0) (mulIv C (ivQ fs x v p))
  | q :: r, p, C => cond (Nat.ble p q.1) (addIv (cond (decide (C = 0)) (oneIv 0) (digX fs x p C (q.1 - p))) (ivC fs x v r q.1 (C * 2 ^ (q.1 - p) + q.2))) (none, none)

theorem digX_ok {ρ : Env} {fs : Facts} (hf : FactsOk ρ fs) (x : Sx) {p s : Nat} (h : p ≤ s) (C : Int) : (digX fs x p C (s - p)).has (C * ((den ρ x).i / 2 ^ p - 2 ^ (s - p) * ((den ρ x).i / 2 ^ s))) := by
  unfold digX
  cases hc : Nat.ble (p + (s - p)) 64 with
  | true =>
    have h64 := Nat.le_of_ble_eq_true hc
    cases h3 : Nat.ble (s - p) 3 with
    | true =>
      have := ivBits_ok hf x p C (s - p) h64
      have e : p + (s - p) = s := by omega
      rw [e] at this
      exact this
    | false =>
      have hgt : 3 < s - p := by
        rcases Nat.lt_or_ge 3 (s - p) with h | h
        · exact h
        · rw [Nat.ble_eq_true_of_le h] at h3; cases h3
      obtain ⟨n, hn⟩ : ∃ n, s - p = n + 1 := ⟨s - p - 1, by omega⟩
      have hs : s = p + n + 1 := by omega
      have hb := bitS_val ρ x (p := p + n) (by omega)
      obtain ⟨d1, d2⟩ := dig_bounds (den ρ x).i (p := p) (s := p + n) (by omega)
      obtain ⟨c1, c2⟩ := dig_bounds (den ρ x).i (p := p + n) (s := p + n + 1) (by omega)
      have e1 : p + n - p = n := by omega
      have e2 : p + n + 1 - (p + n) = 1 := by omega
      rw [e1] at d1 d2
      rw [e2] at c1 c2
      have hcut : (cutBy (bitS x (p + n)) fs (some 0, some 1)).has (den ρ (bitS x (p + n))).i := cutBy_ok (by
        rw [hb]
        exact ⟨fun l hl => by simp only [Option.some.injEq] at hl; omega, fun l hl => by simp only [Option.some.injEq] at hl; omega⟩) hf
      have := addIv_ok (digIv_ok (k := C) d1 d2) (mulIv_ok (k := C * 2 ^ n) hcut)
      rw [hb] at this
      simp only [cond_true, _root_.cond_false, hn, Nat.add_sub_cancel]
      have e3 : C * ((den ρ x).i / 2 ^ p - 2 ^ (n + 1) * ((den ρ x).i / 2 ^ s)) = C * ((den ρ x).i / 2 ^ p - 2 ^ n * ((den ρ x).i / 2 ^ (p + n))) + C * 2 ^ n * ((den ρ x).i / 2 ^ (p + n) - 2 * ((den ρ x).i / 2 ^ (p + n + 1))) := by
        rw [hs, Int.mul_assoc C, ← Int.mul_add]
        congr 1
        rw [Int.mul_sub, Int.pow_succ, Int.mul_assoc]
        omega
      rw [e3]
      exact this
  | false =>
    obtain ⟨d1, d2⟩ := dig_bounds (den ρ x).i h
    exact digIv_ok d1 d2

theorem ivC_ok {ρ : Env} {fs : Facts} (hf : FactsOk ρ fs) {x : Sx} {v : Iv} (h : v.has (den ρ x).i) : ∀ (g : Gr) (p : Nat) (C : Int), (ivC fs x v g p C).has (C * ((den ρ x).i / 2 ^ p) + grVal (den ρ x).i g)
  | [], p, C => by
    simp only [ivC, grVal, Int.add_zero]
    cases hc : decide (C = 0) with
    | true =>
      simp only [decide_eq_true_eq] at hc
      subst hc
      simpa using oneIv_ok 0
    | false => exact mulIv_ok (ivQ_ok hf h p)
  | q :: r, p, C => by
    simp only [ivC]
    cases hb : Nat.ble p q.1 with
    | false => exact none_ok _
    | true =>
      have hle := Nat.le_of_ble_eq_true hb
      have ih := ivC_ok hf h r q.1 (C * 2 ^ (q.1 - p) + q.2)
      have hdg : (cond (decide (C = 0)) (oneIv 0) (digX fs x p C (q.1 - p))).has (C * ((den ρ x).i / 2 ^ p - 2 ^ (q.1 - p) * ((den ρ x).i / 2 ^ q.1))) := by
        cases hc : decide (C = 0) with
        | true =>
          simp only [decide_eq_true_eq] at hc
          rw [hc, Int.zero_mul]
          exact oneIv_ok 0
        | false => exact digX_ok hf x hle C
      have := addIv_ok hdg ih
      have e : C * ((den ρ x).i / 2 ^ p) + grVal (den ρ x).i (q :: r) = C * ((den ρ x).i / 2 ^ p - 2 ^ (q.1 - p) * ((den ρ x).i / 2 ^ q.1)) + ((C * 2 ^ (q.1 - p) + q.2) * ((den ρ x).i / 2 ^ q.1) + grVal (den ρ x).i r) := by
        rw [Int.mul_sub, Int.add_mul, Int.mul_assoc]
        simp only [grVal]
        omega
      rw [e]
      exact this

def meetIv (a b : Iv) : Iv := (match a.1, b.1 with | some x, some y => some (cond (decide (x ≤ y)) y x) | some x, none => some x | none, y => y, match a.2, b.2 with | some x, some y => some (cond (decide (x ≤ y)) x y) | some x, none => some x | none, y => y)

theorem meetIv_ok {a b : Iv} {x : Int} (ha : a.has x) (hb : b.has x) : (meetIv a b).has x := by
  refine ⟨fun l hl => ?_, fun l hl => ?_⟩
  · simp only [meetIv] at hl
    split at hl
    · rename_i p q h1 h2
      have := ha.1 _ h1; have := hb.1 _ h2
      simp only [Option.some.injEq] at hl
      cases hd : decide (p ≤ q) <;> rw [hd] at hl <;> simp only [cond_true, _root_.cond_false] at hl <;> omega
    · rename_i p h1 h2
      simp only [Option.some.injEq] at hl
      have := ha.1 _ h1; omega
    · exact hb.1 _ hl
  · simp only [meetIv] at hl
    split at hl
    · rename_i p q h1 h2
      have := ha.2 _ h1; have := hb.2 _ h2
      simp only [Option.some.injEq] at hl
      cases hd : decide (p ≤ q) <;> rw [hd] at hl <;> simp only [cond_true, _root_.cond_false] at hl <;> omega
    · rename_i p h1 h2
      simp only [Option.some.injEq] at hl
      have := ha.2 _ h1; omega
    · exact hb.2 _ hl

def unshr (s : Nat) (v : Iv) : Iv := (v.1.map fun a => a * 2 ^ s, v.2.map fun a => a * 2 ^ s + (2 ^ s - 1))

theorem unshr_ok {v : Iv} {x : Int} (s : Nat) (h : v.has (x / 2 ^ s)) : (unshr s v).has x := by
  have h1 := Int.mul_ediv_add_emod x (2 ^ s)
  have h2 := Int.emod_nonneg x (Int.ne_of_gt (two_pos s))
  have h3 := Int.emod_lt_of_pos x (two_pos s)
  refine ⟨fun l hl => ?_, fun l hl => ?_⟩
  · simp only [unshr, Option.map_eq_some_iff] at hl
    obtain ⟨a, ha, rfl⟩ := hl
    have := Int.mul_le_mul_of_nonneg_left (h.1 _ ha) (Int.le_of_lt (two_pos s))
    rw [Int.mul_comm]; omega
  · simp only [unshr, Option.map_eq_some_iff] at hl
    obtain ⟨a, ha, rfl⟩ := hl
    have := Int.mul_le_mul_of_nonneg_left (h.2 _ ha) (Int.le_of_lt (two_pos s))
    rw [Int.mul_comm a]; omega

def cutQ (x : Sx) : Facts → Iv → Iv
  | [], v => v
  | p :: r, v => match p with
    | (.cmp op (.bin .shr .i64 y (.lit s)) (.lit n), b) => cond (Sx.beq y x && decide (0 ≤ s) && decide (s ≤ 64)) (let u := cutQ x r v; meetIv (unshr s.toNat (cut op n b (shrIv u s.toNat))) u) (cutQ x r v)
    | _ => cutQ x r v

theorem cutQ_ok {ρ : Env} {x : Sx} {v : Iv} (h : v.has (den ρ x).i) : ∀ {fs : Facts}, FactsOk ρ fs → (cutQ x fs v).has (den ρ x).i := by
  intro fs hf
  induction fs with
  | nil => exact h
  | cons p r ih =>
    have hr := ih fun q hq => hf q (List.mem_cons_of_mem _ hq)
    unfold cutQ
    split
    · rename_i op y s n b
      cases hb : (Sx.beq y x && decide (0 ≤ s) && decide (s ≤ 64)) with
      | false => exact hr
      | true =>
        simp only [Bool.and_eq_true, decide_eq_true_eq] at hb
        obtain ⟨⟨h1, h2⟩, h3⟩ := hb
        have := Sx.beq_eq h1
        subst this
        refine meetIv_ok (unshr_ok _ ?_) hr
        have hx := hf _ (List.mem_cons_self ..)
        have hq := qS_val ρ y (s := s.toNat) (by omega)
        have hv : (den ρ (.bin .shr .i64 y (.lit s))).i = (den ρ y).i / 2 ^ s.toNat := by
          rw [← hq]
          unfold qS
          cases h0 : Nat.beq s.toNat 0 with
          | true =>
            have := Nat.eq_of_beq_eq_true h0
            have : s = 0 := by omega
            subst this
            simp [den, binI]
          | false =>
            have : ((s.toNat : Nat) : Int) = s := by omega
            rw [_root_.cond_false, this]
        have hsh := shrIv_ok s.toNat hr
        rw [← hv] at hsh ⊢
        exact cut_ok hsh hx
    · exact hr

def rngX (fs : Facts) (x : Sx) : Iv := cutQ x fs (rng fs x)

theorem rngX_ok {ρ : Env} {fs : Facts} (hf : FactsOk ρ fs) (x : Sx) : (rngX fs x).has (den ρ x).i := cutQ_ok (rng_ok hf x) hf

def ivGr (fs : Facts) (x : Sx) (g : Gr) : Iv := match g with
  | [] => oneIv 0
  | p :: r => ivC fs x (rngX fs x) r p.1 p.2

theorem ivGr_ok {ρ : Env} {fs : Facts} (hf : FactsOk ρ fs) (x : Sx) (g : Gr) : (ivGr fs x g).has (grVal (den ρ x).i g) := by
  cases g with
  | nil => exact oneIv_ok 0
  | cons p r => exact ivC_ok hf (rngX_ok hf x) r p.1 p.2

/-! ### forms as expressions -/
def tmS (x : Sx) (q : Nat × Int) : Sx := cond (decide (q.2 = 1)) (qS x q.1) (.bin .mul .i64 (qS x q.1) (.lit q.2))

def grS (x : Sx) (g : Gr) (r : List Sx) : List Sx := g.foldr (fun q l => tmS x q :: l) r
def gsS (l : List (Sx × Gr)) (r : List Sx) : List Sx := l.foldr (fun p r => grS p.1 p.2 r) r

def trS : List Sx → Sx
  | [] => .lit 0
  | t :: r => match r with
    | [] => t
    | _ :: _ => .bin .add .i64 t (trS r)

def toSx (f : Lf) : Sx := trS (gsS f.2 (cond (decide (f.1 = 0)) [] [.lit f.1]))

/-- Are shifts small? -/
def shOk (l : List (Sx × Gr)) : Bool := l.all fun p => p.2.all fun q => Nat.ble q.1 64

def sumS (ρ : Env) : List Sx → Int
  | [] => 0
  | t :: r => (den ρ t).i + sumS ρ r

/-- The same up to multiples of 2^64. -/
def Eqv (a b : Int) : Prop := (2 ^ 64 : Int) ∣ a - b

theorem Eqv.refl (a : Int) : Eqv a a := by simp [Eqv]
theorem Eqv.trans {a b c : Int} (h : Eqv a b) (h' : Eqv b c) : Eqv a c := by
  obtain ⟨x, hx⟩ := h
  obtain ⟨y, hy⟩ := h'
  exact ⟨x + y, by omega⟩
theorem Eqv.symm {a b : Int} (h : Eqv a b) : Eqv b a := by
  obtain ⟨x, hx⟩ := h
  exact ⟨-x, by omega⟩
theorem Eqv.add {a b c d : Int} (h : Eqv a b) (h' : Eqv c d) : Eqv (a + c) (b + d) := by
  obtain ⟨x, hx⟩ := h
  obtain ⟨y, hy⟩ := h'
  exact ⟨x + y, by omega⟩
theorem Eqv.mul {a b : Int} (h : Eqv a b) (k : Int) : Eqv (k * a) (k * b) := by
  obtain ⟨x, hx⟩ := h
  exact ⟨k * x, by rw [← Int.mul_sub, hx, Int.mul_left_comm]⟩

theorem wrap_eqv (n : Int) : Eqv (IntKind.i64.wrap n) n := wrap_bits .i64 n

theorem tmS_eqv (ρ : Env) (x : Sx) (q : Nat × Int) (h : Nat.ble q.1 64 = true) : Eqv (den ρ (tmS x q)).i (q.2 * ((den ρ x).i / 2 ^ q.1)) := by
  have hq := qS_val ρ x (Nat.le_of_ble_eq_true h)
  unfold tmS
  cases hd : decide (q.2 = 1) with
  | true =>
    simp only [decide_eq_true_eq] at hd
    rw [hd, Int.one_mul, cond_true, hq]
    exact .refl _
  | false =>
    simp only [_root_.cond_false, den, binI, hq]
    rw [Int.mul_comm]
    exact wrap_eqv _

theorem grS_eqv (ρ : Env) (x : Sx) (r : List Sx) : ∀ (g : Gr), (g.all fun q => Nat.ble q.1 64) = true → Eqv (sumS ρ (grS x g r)) (grVal (den ρ x).i g + sumS ρ r)
  | [], _ => by simp [grS, grVal]; exact .refl _
  | q :: g, h => by
    simp only [List.all_cons, Bool.and_eq_true] at h
    have := (tmS_eqv ρ x q h.1).add (grS_eqv ρ x r g h.2)
    simp only [grS, List.foldr_cons, sumS, grVal] at this ⊢
    rw [Int.add_assoc]
    exact this

theorem gsS_eqv (ρ : Env) (r : List Sx) : ∀ (l : List (Sx × Gr)), shOk l = true → Eqv (sumS ρ (gsS l r)) (gsVal ρ l + sumS ρ r)
  | [], _ => by simp [gsS, gsVal]; exact .refl _
  | p :: l, h => by
    simp only [shOk, List.all_cons, Bool.and_eq_true] at h
    have ih := gsS_eqv ρ r l (by simpa [shOk] using h.2)
    have := grS_eqv ρ p.1 (gsS l r) p.2 h.1
    simp only [gsS, List.foldr_cons, gsVal] at this ih ⊢
    rw [Int.add_assoc]
    exact this.trans ((Eqv.refl _).add ih)

theorem trS_eqv (ρ : Env) : ∀ (l : List Sx), Eqv (den ρ (trS l)).i (sumS ρ l)
  | [] => by simp [trS, den, sumS]; exact .refl _
  | [t] => by simp [trS, sumS]; exact .refl _
  | t :: u :: r => by
    have ih := trS_eqv ρ (u :: r)
    have : trS (t :: u :: r) = .bin .add .i64 t (trS (u :: r)) := rfl
    rw [this]
    simp only [den, binI, sumS] at ih ⊢
    exact (wrap_eqv _).trans ((Eqv.refl _).add ih)

theorem toSx_eqv {ρ : Env} {f : Lf} (h : shOk f.2 = true) : Eqv (den ρ (toSx f)).i (lfVal ρ f) := by
  refine (trS_eqv ρ _).trans ((gsS_eqv ρ _ _ h).trans ?_)
  unfold lfVal
  cases hc : decide (f.1 = 0) with
  | true =>
    simp only [decide_eq_true_eq] at hc
    simp only [cond_true, sumS, hc, Int.add_zero, Int.zero_add]
    exact .refl _
  | false =>
    simp only [_root_.cond_false, sumS, den, Int.add_zero]
    rw [Int.add_comm]
    exact .refl _

/-- Does an expression tell a number of 64 bits? -/
def wrapped : Sx → Bool
  | .bin op .i64 _ _ => match op with
    | .add => true
    | .mul => true
    | _ => false
  | _ => false

theorem wrapped_ok {ρ : Env} {e : Sx} (h : wrapped e = true) : IntKind.i64.min ≤ (den ρ e).i ∧ (den ρ e).i ≤ IntKind.i64.max := by
  unfold wrapped at h
  split at h
  · split at h
    · exact wrap_range .i64 _
    · exact wrap_range .i64 _
    · cases h
  · cases h

/-- Does a form's expression denote the very form? -/
def inR (v : Iv) (l h : Int) : Bool := match v with
  | (some a, some b) => decide (l ≤ a) && decide (b ≤ h)
  | _ => false

theorem inR_ok {v : Iv} {l h x : Int} (hv : v.has x) (hr : inR v l h = true) : l ≤ x ∧ x ≤ h := by
  unfold inR at hr
  split at hr
  · rename_i a b
    simp only [Bool.and_eq_true, decide_eq_true_eq] at hr
    have := hv.1 a rfl
    have := hv.2 b rfl
    omega
  · cases hr

def bare (f : Lf) : Bool := match f with
  | (c, [(_, [(_, k)])]) => decide (c = 0) && decide (k = 1)
  | (_, []) => true
  | _ => false

theorem eqv_eq {a b : Int} (h : Eqv a b) (ha : IntKind.i64.min ≤ a ∧ a ≤ IntKind.i64.max) (hb : IntKind.i64.min ≤ b ∧ b ≤ IntKind.i64.max) : a = b := by
  obtain ⟨x, hx⟩ := h
  simp [IntKind.min, IntKind.max, IntKind.signed, IntKind.bits] at ha hb
  omega

def exactW (f : Lf) (v : Iv) : Bool := shOk f.2 && (bare f || (wrapped (toSx f) && inR v IntKind.i64.min IntKind.i64.max))

theorem exactW_ok {ρ : Env} {f : Lf} {v : Iv} (hv : v.has (lfVal ρ f)) (h : exactW f v = true) : (den ρ (toSx f)).i = lfVal ρ f := by
  simp only [exactW, Bool.and_eq_true, Bool.or_eq_true] at h
  obtain ⟨h1, h2⟩ := h
  rcases h2 with h2 | ⟨h2, h3⟩
  · unfold bare at h2
    split at h2
    · rename_i c x s k
      simp only [Bool.and_eq_true, decide_eq_true_eq] at h2
      obtain ⟨rfl, rfl⟩ := h2
      simp only [shOk, List.all_cons, List.all_nil, Bool.and_true] at h1
      simp only [toSx, gsS, grS, List.foldr_cons, List.foldr_nil, decide_true, cond_true, trS, tmS, lfVal, gsVal, grVal]
      rw [qS_val ρ x (Nat.le_of_ble_eq_true h1)]
      omega
    · rename_i c
      simp only [toSx, gsS, List.foldr_nil, lfVal, gsVal]
      cases hc : decide (c = 0) with
      | true =>
        simp only [decide_eq_true_eq] at hc
        subst hc
        rfl
      | false => simp [trS, den]
    · cases h2
  · exact eqv_eq (toSx_eqv h1) (wrapped_ok h2) (inR_ok hv h3)

/-- Bounds of one group, by what is known of it as a whole. -/
def ivG1 (fs : Facts) (x : Sx) (g : Gr) : Iv := match g with
  | (s, k) :: q :: r =>
    let h : Gr := g.map fun p => (p.1, p.2 / k)
    let v := ivGr fs x h
    cond (!decide (k = 0) && g.all (fun p => decide (k * (p.2 / k) = p.2)) && exactW (0, [(x, h)]) v) (mulIv k (cutBy (toSx (0, [(x, h)])) fs v)) (ivGr fs x g)
  | g => ivGr fs x g

theorem mapDiv_ok {k : Int} (x : Int) : ∀ (g : Gr), (g.all fun p => decide (k * (p.2 / k) = p.2)) = true → grVal x g = k * grVal x (g.map fun p => (p.1, p.2 / k))
  | [], _ => by simp [grVal]
  | q :: r, h => by
    simp only [List.all_cons, Bool.and_eq_true, decide_eq_true_eq] at h
    have ih := mapDiv_ok x r h.2
    simp only [grVal, List.map_cons]
    rw [ih, Int.mul_add, ← Int.mul_assoc, h.1]

theorem ivG1_ok {ρ : Env} {fs : Facts} (hf : FactsOk ρ fs) (x : Sx) (g : Gr) : (ivG1 fs x g).has (grVal (den ρ x).i g) := by
  unfold ivG1
  split
  · rename_i s k q r
    simp only
    generalize hg : (s, k) :: q :: r = g
    cases hc : (!decide (k = 0) && g.all (fun p => decide (k * (p.2 / k) = p.2)) && exactW (0, [(x, g.map fun p => (p.1, p.2 / k))]) (ivGr fs x (g.map fun p => (p.1, p.2 / k)))) with
    | false => exact ivGr_ok hf x g
    | true =>
      simp only [Bool.and_eq_true] at hc
      have h1 := ivGr_ok hf x (g.map fun p => (p.1, p.2 / k))
      have h2 := exactW_ok (ρ := ρ) (f := (0, [(x, g.map fun p => (p.1, p.2 / k))])) (by simpa [lfVal, gsVal] using h1) hc.2
      simp only [lfVal, gsVal, Int.add_zero, Int.zero_add] at h2
      rw [cond_true, mapDiv_ok _ g hc.1.2]
      refine mulIv_ok ?_
      rw [← h2]
      exact cutBy_ok (by rw [h2]; exact h1) hf
  · exact ivGr_ok hf x g

def ivGs (fs : Facts) : List (Sx × Gr) → Iv
  | [] => oneIv 0
  | p :: r => addIv (ivG1 fs p.1 p.2) (ivGs fs r)

theorem ivGs_ok {ρ : Env} {fs : Facts} (hf : FactsOk ρ fs) : ∀ l, (ivGs fs l).has (gsVal ρ l)
  | [] => oneIv_ok 0
  | p :: r => addIv_ok (ivG1_ok hf p.1 p.2) (ivGs_ok hf r)

/-- Bounds of groups, by what is known of the whole too. -/
def ivL (fs : Facts) (l : List (Sx × Gr)) : Iv :=
  let v := ivGs fs l
  match bare (0, l) with
  | true => v
  | false => cond (exactW (0, l) v) (cutBy (toSx (0, l)) fs v) v

theorem ivL_ok {ρ : Env} {fs : Facts} (hf : FactsOk ρ fs) (l : List (Sx × Gr)) : (ivL fs l).has (gsVal ρ l) := by
  have h0 := ivGs_ok hf l
  unfold ivL
  simp only
  split
  · exact h0
  · cases he : exactW (0, l) (ivGs fs l) with
    | false => exact h0
    | true =>
      have := exactW_ok (ρ := ρ) (f := (0, l)) (by simpa [lfVal] using h0) he
      simp only [lfVal, Int.zero_add] at this
      rw [← this]
      exact cutBy_ok (by rw [this]; exact h0) hf

def ivLf (fs : Facts) (f : Lf) : Iv := addIv (oneIv f.1) (ivL fs f.2)

theorem ivLf_ok {ρ : Env} {fs : Facts} (hf : FactsOk ρ fs) (f : Lf) : (ivLf fs f).has (lfVal ρ f) := addIv_ok (oneIv_ok _) (ivL_ok hf f.2)

def exact (fs : Facts) (f : Lf) : Bool := exactW f (ivLf fs f)

theorem exact_ok {ρ : Env} {fs : Facts} (hf : FactsOk ρ fs) {f : Lf} (h : exact fs f = true) : (den ρ (toSx f)).i = lfVal ρ f := exactW_ok (ivLf_ok hf f) h
end Go.Proofs.Ytgpijioodocplaa
