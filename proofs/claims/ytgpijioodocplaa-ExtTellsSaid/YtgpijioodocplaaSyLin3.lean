/- The normal form of an expression; tests that it decides. -/
import Derived.Test.YtgpijioodocplaaSyLin2
set_option linter.unusedVariables false
set_option linter.unusedSimpArgs false
namespace Go.Proofs.Ytgpijioodocplaa
open Go Go.RowKit

/-! ### operations of bits -/
theorem nat_and_field (A t n : Nat) : A &&& (2 ^ t * (2 ^ n - 1)) = 2 ^ t * (A / 2 ^ t % 2 ^ n) := by
  apply Nat.eq_of_testBit_eq
  intro i
  simp only [Nat.testBit_and, Nat.testBit_two_pow_mul, Nat.testBit_two_pow_sub_one, Nat.testBit_mod_two_pow, Nat.testBit_div_two_pow]
  by_cases h : t ≤ i
  · have : i - t + t = i := by omega
    have h2 : t + (i - t) = i := by omega
    simp [h, this, h2, Bool.and_comm]
  · simp [h]

theorem int_field (a : Int) {w t n : Nat} (h : t + n ≤ w) : (((a % 2 ^ w).toNat / 2 ^ t % 2 ^ n : Nat) : Int) = a / 2 ^ t - 2 ^ n * (a / 2 ^ (t + n)) := by
  have hw := two_pos w
  have h0 := Int.emod_nonneg a (Int.ne_of_gt hw)
  have e1 : (((a % 2 ^ w).toNat : Nat) : Int) = a % 2 ^ w := Int.toNat_of_nonneg h0
  rw [Int.natCast_emod, Int.natCast_ediv, e1]
  push_cast
  have e2 : (2 : Int) ^ w = 2 ^ t * (2 ^ n * 2 ^ (w - t - n)) := by rw [← Int.pow_add, ← Int.pow_add]; congr 1; omega
  have e3 : (2 : Int) ^ (t + n) = 2 ^ t * 2 ^ n := Int.pow_add ..
  rw [e3, ← Int.ediv_ediv_of_nonneg (Int.le_of_lt (two_pos t)), ← Int.emod_def]
  have e4 : a % 2 ^ w = a + 2 ^ t * (2 ^ n * -(2 ^ (w - t - n) * (a / 2 ^ w))) := by
    rw [Int.emod_def]
    generalize a / 2 ^ w = q
    rw [e2, Int.mul_neg, Int.mul_neg, Int.mul_assoc, Int.mul_assoc]
    omega
  rw [e4, Int.add_mul_ediv_left _ _ (Int.ne_of_gt (two_pos t)), Int.add_mul_emod_self_left]

theorem wrapN {k : IntKind} {v : Nat} (h : (v : Int) ≤ k.max) : k.wrap v = v := by
  refine wrap_id ?_ h
  cases k <;> simp [IntKind.min, IntKind.signed, IntKind.bits] <;> omega

theorem max_unsigned {k : IntKind} (hk : k.signed = false) : k.max = 2 ^ k.bits - 1 := by simp [IntKind.max, hk]
theorem max_signed {k : IntKind} (hk : k.signed = true) : k.max = 2 ^ (k.bits - 1) - 1 := by simp [IntKind.max, hk]

/-- May a field be cut out by a mask? -/
def fitM (k : IntKind) (t n : Nat) : Bool := cond k.signed (Nat.blt (t + n) k.bits) (Nat.ble (t + n) k.bits)

theorem fitM_ok {k : IntKind} {t n : Nat} (h : fitM k t n = true) : t + n ≤ k.bits ∧ (2 ^ (t + n) : Int) - 1 ≤ k.max := by
  unfold fitM at h
  cases hs : k.signed with
  | true =>
    rw [hs, cond_true] at h
    have hlt : t + n < k.bits := by
      have := Nat.le_of_ble_eq_true (show Nat.ble (t + n + 1) k.bits = true from h)
      omega
    refine ⟨by omega, ?_⟩
    rw [max_signed hs]
    have : (2 : Int) ^ (k.bits - 1) = 2 ^ (t + n) * 2 ^ (k.bits - 1 - (t + n)) := by rw [← Int.pow_add]; congr 1; omega
    have h1 := two_pos (t + n)
    have h2 : (1 : Int) ≤ 2 ^ (k.bits - 1 - (t + n)) := two_pos _
    have h3 : (2 : Int) ^ (t + n) * 1 ≤ 2 ^ (t + n) * 2 ^ (k.bits - 1 - (t + n)) := Int.mul_le_mul_of_nonneg_left h2 (Int.le_of_lt h1)
    omega
  | false =>
    rw [hs, _root_.cond_false] at h
    have hle := Nat.le_of_ble_eq_true h
    refine ⟨hle, ?_⟩
    rw [max_unsigned hs]
    have : (2 : Int) ^ k.bits = 2 ^ (t + n) * 2 ^ (k.bits - (t + n)) := by rw [← Int.pow_add]; congr 1; omega
    have h1 := two_pos (t + n)
    have h2 : (1 : Int) ≤ 2 ^ (k.bits - (t + n)) := two_pos _
    have h3 : (2 : Int) ^ (t + n) * 1 ≤ 2 ^ (t + n) * 2 ^ (k.bits - (t + n)) := Int.mul_le_mul_of_nonneg_left h2 (Int.le_of_lt h1)
    omega

theorem mask_lt (t n : Nat) : 2 ^ t * (2 ^ n - 1) < 2 ^ (t + n) := by
  have h1 : 0 < 2 ^ t := Nat.two_pow_pos t
  have h2 : 0 < 2 ^ n := Nat.two_pow_pos n
  rw [Nat.pow_add]
  exact Nat.mul_lt_mul_of_pos_left (by omega) h1

theorem ofInt_mask {w t n : Nat} (h : t + n ≤ w) {m : Int} (hm : m = 2 ^ t * (2 ^ n - 1)) : (BitVec.ofInt w m).toNat = 2 ^ t * (2 ^ n - 1) := by
  have hlt := mask_lt t n
  have hle : 2 ^ (t + n) ≤ 2 ^ w := Nat.pow_le_pow_right (by omega) h
  have e : m = ((2 ^ t * (2 ^ n - 1) : Nat) : Int) := by
    rw [hm, Int.natCast_mul, Int.natCast_sub (Nat.two_pow_pos n)]
    push_cast
    rfl
  rw [e, BitVec.ofInt_natCast, BitVec.toNat_ofNat, Nat.mod_eq_of_lt (by omega)]

theorem and_field {k : IntKind} {a m : Int} {t n : Nat} (hm : m = 2 ^ t * (2 ^ n - 1)) (hf : fitM k t n = true) : binI .and k a m = 2 ^ t * (a / 2 ^ t - 2 ^ n * (a / 2 ^ (t + n))) := by
  obtain ⟨h1, h2⟩ := fitM_ok hf
  simp only [binI, BitVec.toNat_and]
  rw [ofInt_mask h1 hm, nat_and_field, BitVec.toNat_ofInt]
  have hpp : ((2 ^ k.bits : Nat) : Int) = 2 ^ k.bits := by push_cast; rfl
  rw [hpp]
  have hi := int_field a h1
  generalize (a % 2 ^ k.bits).toNat / 2 ^ t % 2 ^ n = f at *
  have hlt : f < 2 ^ n := by
    have := hi
    have hb := dig_bounds a (p := t) (s := t + n) (by omega)
    have he : t + n - t = n := by omega
    rw [he] at hb
    have : ((f : Nat) : Int) < 2 ^ n := by omega
    exact_mod_cast this
  have hv : ((2 ^ t * f : Nat) : Int) ≤ k.max := by
    have h3 : 2 ^ t * f ≤ 2 ^ t * (2 ^ n - 1) := Nat.mul_le_mul_left _ (by omega)
    have h4 := mask_lt t n
    have h5 : ((2 ^ t * f : Nat) : Int) < ((2 ^ (t + n) : Nat) : Int) := by exact_mod_cast Nat.lt_of_le_of_lt h3 h4
    have h6 : ((2 ^ (t + n) : Nat) : Int) = 2 ^ (t + n) := by push_cast; rfl
    omega
  rw [wrapN hv, Int.natCast_mul, hi]
  push_cast
  rfl

theorem and_comm_bin (k : IntKind) (a b : Int) : binI .and k a b = binI .and k b a := by
  simp only [binI, BitVec.and_comm]

theorem andNot_sub {k : IntKind} (hk : k.signed = false) {a m : Int} (ha : k.min ≤ a ∧ a ≤ k.max) : binI .andNot k a m = a - binI .and k a m := by
  simp only [binI]
  have hmin : k.min = 0 := by simp [IntKind.min, hk]
  have hmax := max_unsigned hk
  have hx : ((BitVec.ofInt k.bits a).toNat : Int) = a := by
    rw [BitVec.toNat_ofInt]
    have hpp : ((2 ^ k.bits : Nat) : Int) = 2 ^ k.bits := by push_cast; rfl
    rw [hpp, Int.emod_eq_of_lt (by omega) (by omega)]
    omega
  generalize BitVec.ofInt k.bits a = x at *
  generalize BitVec.ofInt k.bits m = y at *
  have e : (x &&& y) + (x &&& ~~~y) = x := by
    rw [BitVec.add_eq_or_of_and_eq_zero]
    · ext i hi
      simp only [BitVec.getElem_or, BitVec.getElem_and, BitVec.getElem_not]
      cases x[i] <;> cases y[i] <;> rfl
    · ext i hi
      simp only [BitVec.getElem_and, BitVec.getElem_not, BitVec.getElem_zero]
      cases x[i] <;> cases y[i] <;> rfl
  have l1 : (x &&& y).toNat ≤ x.toNat := by rw [BitVec.toNat_and]; exact Nat.and_le_left
  have l2 : (x &&& ~~~y).toNat ≤ x.toNat := by rw [BitVec.toNat_and]; exact Nat.and_le_left
  have hlt : x.toNat < 2 ^ k.bits := x.isLt
  have e2 : (x &&& y).toNat + (x &&& ~~~y).toNat = x.toNat := by
    have h2 := congrArg BitVec.toNat e
    rw [BitVec.toNat_add] at h2
    rcases Nat.lt_or_ge ((x &&& y).toNat + (x &&& ~~~y).toNat) (2 ^ k.bits) with h | h
    · rwa [Nat.mod_eq_of_lt h] at h2
    · rw [Nat.mod_eq_sub_mod h, Nat.mod_eq_of_lt (by omega)] at h2
      omega
  have hle : ((x.toNat : Nat) : Int) ≤ k.max := by omega
  rw [wrapN (by omega), wrapN (by omega)]
  omega

theorem or_add {k : IntKind} {a b : Int} {t : Nat} (h0 : 0 ≤ a) (hd : (2 ^ t : Int) ∣ a) (h1 : 0 ≤ b) (h2 : b ≤ 2 ^ t - 1) (hm : a + b ≤ k.max) : binI .or k a b = a + b := by
  simp only [binI, BitVec.toNat_or]
  have hpp : ((2 ^ k.bits : Nat) : Int) = 2 ^ k.bits := by push_cast; rfl
  have hkm : k.max ≤ 2 ^ k.bits - 1 := by cases k <;> simp [IntKind.max, IntKind.signed, IntKind.bits]
  have key : ∀ c : Int, 0 ≤ c → c ≤ 2 ^ k.bits - 1 → (BitVec.ofInt k.bits c).toNat = c.toNat := fun c hc hc' => by
    rw [BitVec.toNat_ofInt, hpp, Int.emod_eq_of_lt hc (by omega)]
  rw [key a h0 (by omega), key b h1 (by omega)]
  obtain ⟨q, rfl⟩ := hd
  have hq : 0 ≤ q := by
    rcases Int.lt_or_le q 0 with h | h
    · have := Int.mul_neg_of_pos_of_neg (two_pos t) h
      omega
    · exact h
  obtain ⟨n, rfl⟩ := Int.eq_ofNat_of_zero_le hq
  have e1 : (2 ^ t * (n : Int)).toNat = 2 ^ t * n := by
    have : (2 ^ t * (n : Int)) = ((2 ^ t * n : Nat) : Int) := by push_cast; rfl
    rw [this]; rfl
  have hb : b.toNat < 2 ^ t := by
    have h3 : ((2 ^ t : Nat) : Int) = 2 ^ t := by push_cast; rfl
    omega
  rw [e1, ← Nat.two_pow_add_eq_or_of_lt hb]
  have e2 : ((2 ^ t * n + b.toNat : Nat) : Int) = 2 ^ t * (n : Int) + b := by
    push_cast
    omega
  rw [wrapN (by rw [e2]; exact hm), e2]

/-! ### the normal form -/
def constOf (f : Lf) : Option Int := match f.2 with
  | [] => some f.1
  | _ => none

theorem constOf_ok {ρ : Env} {f : Lf} {c : Int} (h : constOf f = some c) : lfVal ρ f = c := by
  unfold constOf at h
  split at h
  · rename_i h2
    simp only [Option.some.injEq] at h
    simp [lfVal, h2, gsVal, h]
  · cases h

def atomF (fs : Facts) (e : Sx) : Lf := match rngX fs e with
  | (some a, some b) => cond (decide (a = b)) (a, []) (0, [(e, [(0, 1)])])
  | _ => (0, [(e, [(0, 1)])])

theorem atomF_ok {ρ : Env} {fs : Facts} (hf : FactsOk ρ fs) (e : Sx) : lfVal ρ (atomF fs e) = (den ρ e).i := by
  have h := rngX_ok hf e
  unfold atomF
  split
  · rename_i a b heq
    rw [heq] at h
    cases hd : decide (a = b) with
    | true =>
      simp only [decide_eq_true_eq] at hd
      subst hd
      have h1 := h.1 a rfl
      have h2 := h.2 a rfl
      simp only [cond_true, lfVal, gsVal]
      omega
    | false => rw [_root_.cond_false, atom_val]
  · rw [atom_val]

def pow2 (c : Int) : Option Nat := cond (decide (c = 2 ^ Nat.log2 c.natAbs)) (some (Nat.log2 c.natAbs)) none

theorem pow2_ok {c : Int} {s : Nat} (h : pow2 c = some s) : c = 2 ^ s := by
  unfold pow2 at h
  cases hd : decide (c = 2 ^ Nat.log2 c.natAbs) with
  | true =>
    rw [hd] at h
    simp only [cond_true, Option.some.injEq] at h
    subst h
    exact of_decide_eq_true hd
  | false => rw [hd] at h; simp at h

/-- A mask's place, and how many bits. -/
def field (m : Int) : Option (Nat × Nat) :=
  let t := v2 m
  let n := Nat.log2 (m.natAbs / 2 ^ t + 1)
  cond (decide (m = 2 ^ t * (2 ^ n - 1))) (some (t, n)) none

theorem field_ok {m : Int} {p : Nat × Nat} (h : field m = some p) : m = 2 ^ p.1 * (2 ^ p.2 - 1) := by
  unfold field at h
  simp only at h
  generalize v2 m = t at h
  generalize Nat.log2 (m.natAbs / 2 ^ t + 1) = n at h
  cases hd : decide (m = 2 ^ t * (2 ^ n - 1)) with
  | true =>
    rw [hd] at h
    simp only [cond_true, Option.some.injEq] at h
    subst h
    exact of_decide_eq_true hd
  | false => rw [hd] at h; simp at h

/-- A quotient towards zero. -/
def divS (fs : Facts) (f : Lf) (s : Nat) : Option Lf :=
  match quoP fs f s with
  | some q => cond (leO (some 0) (ivLf fs f).1 || inR (ivLf fs (subLf f (scale (2 ^ s) q))) 0 0) (some q)
      (cond (leO (ivLf fs f).2 (some (-1)) && leO (some 1) (ivLf fs (subLf f (scale (2 ^ s) q))).1) (some (addLf (1, []) q)) none)
  | none => none

theorem tdiv_up {x q : Int} {s : Nat} (hx : x ≤ -1) (hq : x / 2 ^ s = q) (h1 : 1 ≤ x - 2 ^ s * q) : x.tdiv (2 ^ s) = 1 + q := by
  have hp := two_pos s
  have h2 := Int.emod_lt_of_pos x hp
  have h3 := Int.mul_ediv_add_emod x (2 ^ s)
  rw [hq] at h3
  obtain ⟨y, rfl⟩ : ∃ y, x = -y := ⟨-x, by omega⟩
  rw [Int.neg_tdiv, Int.tdiv_eq_ediv_of_nonneg (by omega)]
  have e : y / 2 ^ s = -(1 + q) := by
    have e1 : y = (y + 2 ^ s * (1 + q)) + -(1 + q) * 2 ^ s := by rw [Int.neg_mul, Int.mul_comm (1 + q)]; omega
    have e2 : 2 ^ s * (1 + q) = 2 ^ s + 2 ^ s * q := by rw [Int.mul_add, Int.mul_one]
    rw [e1, Int.add_mul_ediv_right _ _ (Int.ne_of_gt hp), Int.ediv_eq_zero_of_lt (by omega) (by omega)]
    omega
  omega

theorem divS_ok {ρ : Env} {fs : Facts} (hf : FactsOk ρ fs) {f q : Lf} {s : Nat} (h : divS fs f s = some q) :
    (lfVal ρ f).tdiv (2 ^ s) = lfVal ρ q ∧ (lfVal ρ f).tmod (2 ^ s) = lfVal ρ f - 2 ^ s * lfVal ρ q := by
  have fin : (lfVal ρ f).tdiv (2 ^ s) = lfVal ρ q → (lfVal ρ f).tdiv (2 ^ s) = lfVal ρ q ∧ (lfVal ρ f).tmod (2 ^ s) = lfVal ρ f - 2 ^ s * lfVal ρ q := fun h => ⟨h, by
    have := Int.mul_tdiv_add_tmod (lfVal ρ f) (2 ^ s)
    rw [h] at this
    omega⟩
  unfold divS at h
  split at h
  · rename_i q' hq
    cases hc : (leO (some 0) (ivLf fs f).1 || inR (ivLf fs (subLf f (scale (2 ^ s) q'))) 0 0) with
    | false =>
      rw [hc, _root_.cond_false] at h
      cases hd : (leO (ivLf fs f).2 (some (-1)) && leO (some 1) (ivLf fs (subLf f (scale (2 ^ s) q'))).1) with
      | false => rw [hd] at h; simp at h
      | true =>
        rw [hd] at h
        simp only [cond_true, Option.some.injEq] at h
        subst h
        simp only [Bool.and_eq_true] at hd
        have hv := quoP_ok hf hq
        have g1 : lfVal ρ f ≤ -1 := leO_ok (ivLf_ok hf f) (oneIv_ok (-1)) hd.1
        have g2 : 1 ≤ lfVal ρ (subLf f (scale (2 ^ s) q')) := leO_ok (oneIv_ok 1) (ivLf_ok hf _) hd.2
        rw [subLf_val, scale_val] at g2
        have e : lfVal ρ (addLf (1, []) q') = 1 + lfVal ρ q' := by rw [addLf_val]; simp [lfVal, gsVal]
        exact fin (by rw [e]; exact tdiv_up g1 hv g2)
    | true =>
      rw [hc] at h
      simp only [cond_true, Option.some.injEq] at h
      subst h
      have hv := quoP_ok hf hq
      simp only [Bool.or_eq_true] at hc
      rcases hc with hc | hc
      · have h0 : 0 ≤ lfVal ρ f := leO_ok (oneIv_ok 0) (ivLf_ok hf f) hc
        exact fin (by rw [Int.tdiv_eq_ediv_of_nonneg h0, hv])
      · have := inR_ok (ivLf_ok hf (subLf f (scale (2 ^ s) q'))) hc
        rw [subLf_val, scale_val] at this
        have e : lfVal ρ f = 2 ^ s * lfVal ρ q' := by omega
        exact fin (by rw [e, Int.mul_tdiv_cancel_left _ (Int.ne_of_gt (two_pos s))])
  · cases h

def andM (fs : Facts) (k : IntKind) (f : Lf) (m : Int) : Option Lf :=
  cond (decide (m = 0)) (some (0, [])) <| match field m with
  | some p => cond (fitM k p.1 p.2) (match quoP fs f p.1, quoP fs f (p.1 + p.2) with
    | some a, some b => some (scale (2 ^ p.1) (subLf a (scale (2 ^ p.2) b)))
    | _, _ => none) none
  | none => none

theorem andM_ok {ρ : Env} {fs : Facts} (hf : FactsOk ρ fs) {k : IntKind} {f g : Lf} {m : Int} (h : andM fs k f m = some g) : lfVal ρ g = binI .and k (lfVal ρ f) m := by
  unfold andM at h
  cases hm0 : decide (m = 0) with
  | true =>
    rw [hm0] at h
    simp only [decide_eq_true_eq] at hm0
    simp only [cond_true, Option.some.injEq] at h
    subst hm0; subst h
    have : BitVec.ofInt k.bits 0 = 0#k.bits := by simp
    simp only [lfVal, gsVal, binI, this, BitVec.and_zero]
    cases k <;> rfl
  | false =>
  rw [hm0, _root_.cond_false] at h
  split at h
  · rename_i p hp
    cases hc : fitM k p.1 p.2 with
    | false => rw [hc] at h; simp at h
    | true =>
      rw [hc, cond_true] at h
      split at h
      · rename_i a b h1 h2
        simp only [Option.some.injEq] at h
        subst h
        rw [and_field (field_ok hp) hc, scale_val, subLf_val, scale_val, quoP_ok hf h1, quoP_ok hf h2]
      · cases h
  · cases h

def v2Gs (l : List (Sx × Gr)) (t : Nat) : Nat := l.foldl (fun t p => p.2.foldl (fun t q => Nat.min t (v2 q.2)) t) t
def dvdGs (t : Nat) (l : List (Sx × Gr)) : Bool := l.all fun p => p.2.all fun q => decide (q.2 % 2 ^ t = 0)

theorem dvdGr_ok {t : Nat} (x : Int) : ∀ (g : Gr), (g.all fun q => decide (q.2 % 2 ^ t = 0)) = true → (2 ^ t : Int) ∣ grVal x g
  | [], _ => Int.dvd_zero _
  | q :: r, h => by
    simp only [List.all_cons, Bool.and_eq_true, decide_eq_true_eq] at h
    exact Int.dvd_add (Int.dvd_trans (Int.dvd_of_emod_eq_zero h.1) (Int.dvd_mul_right _ _)) (dvdGr_ok x r h.2)

theorem dvdGs_ok {ρ : Env} {t : Nat} : ∀ (l : List (Sx × Gr)), dvdGs t l = true → (2 ^ t : Int) ∣ gsVal ρ l
  | [], _ => Int.dvd_zero _
  | p :: r, h => by
    simp only [dvdGs, List.all_cons, Bool.and_eq_true] at h
    exact Int.dvd_add (dvdGr_ok _ p.2 h.1) (dvdGs_ok r (by simpa [dvdGs] using h.2))

/-- Does no bit stand in both? -/
def orM (fs : Facts) (k : IntKind) (f g : Lf) : Bool :=
  let t := v2Gs f.2 (v2 f.1)
  dvdGs t f.2 && decide (f.1 % 2 ^ t = 0) && leO (some 0) (ivLf fs f).1 && inR (ivLf fs g) 0 (2 ^ t - 1) && inR (ivLf fs (addLf f g)) 0 k.max

theorem orM_ok {ρ : Env} {fs : Facts} (hf : FactsOk ρ fs) {k : IntKind} {f g : Lf} (h : orM fs k f g = true) : binI .or k (lfVal ρ f) (lfVal ρ g) = lfVal ρ (addLf f g) := by
  unfold orM at h
  simp only at h
  generalize v2Gs f.2 (v2 f.1) = t at h
  simp only [Bool.and_eq_true, decide_eq_true_eq] at h
  obtain ⟨⟨⟨⟨h1, h2⟩, h3⟩, h4⟩, h5⟩ := h
  have a1 := inR_ok (ivLf_ok hf g) h4
  have a2 := inR_ok (ivLf_ok hf (addLf f g)) h5
  rw [addLf_val] at a2 ⊢
  exact or_add (leO_ok (oneIv_ok 0) (ivLf_ok hf f) h3) (Int.dvd_add (Int.dvd_of_emod_eq_zero h2) (dvdGs_ok f.2 h1)) a1.1 a1.2 a2.2

def linBin (fs : Facts) (op : BinOp) (k : IntKind) (f g : Lf) (e : Sx) : Lf :=
  match op with
  | .add => modK fs k (addLf f g) e
  | .sub => modK fs k (subLf f g) e
  | .mul => match constOf g with
    | some c => modK fs k (scale c f) e
    | none => match constOf f with
      | some c => modK fs k (scale c g) e
      | none => atomF fs e
  | .shl => match constOf g with
    | some c => modK fs k (scale (2 ^ (min c.toNat k.bits)) f) e
    | none => atomF fs e
  | .shr => match constOf g with
    | some c => match quoP fs f (min c.toNat k.bits) with
      | some q => q
      | none => atomF fs e
    | none => atomF fs e
  | .quo => match (constOf g).bind pow2 with
    | some s => match divS fs f s with
      | some q => modK fs k q e
      | none => atomF fs e
    | none => atomF fs e
  | .rem => match (constOf g).bind pow2 with
    | some s => match divS fs f s with
      | some q => clean fs (subLf f (scale (2 ^ s) q))
      | none => atomF fs e
    | none => atomF fs e
  | .and => match constOf g with
    | some m => match andM fs k f m with
      | some r => r
      | none => atomF fs e
    | none => match constOf f with
      | some m => match andM fs k g m with
        | some r => r
        | none => atomF fs e
      | none => atomF fs e
  | .andNot => match constOf g with
    | some m => match andM fs k f m with
      | some r => cond (!k.signed && inR (ivLf fs f) k.min k.max) (subLf f r) (atomF fs e)
      | none => atomF fs e
    | none => atomF fs e
  | .or => cond (orM fs k f g) (addLf f g) (cond (orM fs k g f) (addLf g f) (atomF fs e))
  | _ => atomF fs e

theorem linBin_ok {ρ : Env} {fs : Facts} (hf : FactsOk ρ fs) {op : BinOp} {k : IntKind} {f g : Lf} {a b : Sx} (ha : (den ρ a).i = lfVal ρ f) (hb : (den ρ b).i = lfVal ρ g) :
    lfVal ρ (linBin fs op k f g (.bin op k a b)) = (den ρ (.bin op k a b)).i := by
  have at_ := atomF_ok hf (.bin op k a b)
  have hd : (den ρ (.bin op k a b)).i = binI op k (lfVal ρ f) (lfVal ρ g) := by rw [← ha, ← hb]; rfl
  cases op <;> simp only [linBin] <;> try exact at_
  case add => rw [modK_ok hf (by rw [hd, addLf_val]; rfl), hd, addLf_val]; rfl
  case sub => rw [modK_ok hf (by rw [hd, subLf_val]; rfl), hd, subLf_val]; rfl
  case mul =>
    split
    · rename_i c hc
      have := constOf_ok (ρ := ρ) hc
      have e : (den ρ (.bin .mul k a b)).i = k.wrap (lfVal ρ (scale c f)) := by rw [hd, scale_val, this, Int.mul_comm]; rfl
      rw [modK_ok hf e, e]
    · split
      · rename_i c hc
        have := constOf_ok (ρ := ρ) hc
        have e : (den ρ (.bin .mul k a b)).i = k.wrap (lfVal ρ (scale c g)) := by rw [hd, scale_val, this]; rfl
        rw [modK_ok hf e, e]
      · exact at_
  case shl =>
    split
    · rename_i c hc
      have := constOf_ok (ρ := ρ) hc
      have e : (den ρ (.bin .shl k a b)).i = k.wrap (lfVal ρ (scale (2 ^ (min c.toNat k.bits)) f)) := by rw [hd, scale_val, this, Int.mul_comm]; rfl
      rw [modK_ok hf e, e]
    · exact at_
  case shr =>
    split
    · rename_i c hc
      have := constOf_ok (ρ := ρ) hc
      split
      · rename_i q hq
        rw [← quoP_ok hf hq, hd, this]
        simp only [binI]
        rw [Int.fdiv_eq_ediv_of_nonneg _ (Int.le_of_lt (two_pos _))]
      · exact at_
    · exact at_
  case quo =>
    split
    · rename_i s hs
      obtain ⟨c, hc, hp⟩ := Option.bind_eq_some_iff.1 hs
      have h1 := constOf_ok (ρ := ρ) hc
      have h2 := pow2_ok hp
      split
      · rename_i q hq
        have h3 := (divS_ok hf hq).1
        have e : (den ρ (.bin .quo k a b)).i = k.wrap (lfVal ρ q) := by rw [hd, h1, h2, ← h3]; rfl
        rw [modK_ok hf e, e]
      · exact at_
    · exact at_
  case rem =>
    split
    · rename_i s hs
      obtain ⟨c, hc, hp⟩ := Option.bind_eq_some_iff.1 hs
      have h1 := constOf_ok (ρ := ρ) hc
      have h2 := pow2_ok hp
      split
      · rename_i q hq
        have h3 := (divS_ok hf hq).2
        rw [clean_ok hf, subLf_val, scale_val, hd, h1, h2, ← h3]
        rfl
      · exact at_
    · exact at_
  case and =>
    split
    · rename_i m hm
      have h1 := constOf_ok (ρ := ρ) hm
      split
      · rename_i r hr
        rw [andM_ok hf hr, hd, h1]
      · exact at_
    · split
      · rename_i m hm
        have h1 := constOf_ok (ρ := ρ) hm
        split
        · rename_i r hr
          rw [andM_ok hf hr, hd, h1, and_comm_bin]
        · exact at_
      · exact at_
  case andNot =>
    split
    · rename_i m hm
      have h1 := constOf_ok (ρ := ρ) hm
      split
      · rename_i r hr
        cases hc : (!k.signed && inR (ivLf fs f) k.min k.max) with
        | false => exact at_
        | true =>
          simp only [Bool.and_eq_true, Bool.not_eq_true'] at hc
          rw [cond_true, subLf_val, andM_ok hf hr, hd, h1, andNot_sub hc.1 (inR_ok (ivLf_ok hf f) hc.2)]
      · exact at_
    · exact at_
  case or =>
    cases h1 : orM fs k f g with
    | true => rw [cond_true, hd, orM_ok hf h1]
    | false =>
      rw [_root_.cond_false]
      cases h2 : orM fs k g f with
      | true =>
        rw [cond_true, hd, ← orM_ok hf h2]
        simp only [binI, BitVec.or_comm]
      | false => exact at_

/-- An expression's form. -/
def lin (fs : Facts) : Sx → Lf
  | .lit n => (n, [])
  | .conv k a => modK fs k (lin fs a) (.conv k a)
  | .bin op k a b => linBin fs op k (lin fs a) (lin fs b) (.bin op k a b)
  | e => atomF fs e

theorem lin_ok {ρ : Env} {fs : Facts} (hf : FactsOk ρ fs) : ∀ e, lfVal ρ (lin fs e) = (den ρ e).i := by
  intro e
  induction e with
  | lit n => simp [lin, lfVal, gsVal, den]
  | conv k a iha =>
    simp only [lin]
    rw [modK_ok hf (by rw [iha]; rfl), iha]
    rfl
  | bin op k a b iha ihb =>
    simp only [lin]
    exact linBin_ok hf iha.symm ihb.symm
  | _ => exact atomF_ok hf _
end Go.Proofs.Ytgpijioodocplaa
