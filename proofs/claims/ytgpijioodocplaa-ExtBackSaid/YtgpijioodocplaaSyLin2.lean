/- Whole numbers as sums of fields of bits: quotients, remainders, the normal form of an expression. -/
import Derived.Test.YtgpijioodocplaaSyLin
set_option linter.unusedVariables false
set_option linter.unusedSimpArgs false
namespace Go.Proofs.Ytgpijioodocplaa
open Go Go.RowKit

/-! ### quotients by powers of two -/
/-- How often two is in a number, at most 64 times. -/
def v2 (C : Int) : Nat := Nat.log2 (Nat.gcd C.natAbs 18446744073709551616)

def putGr (s : Nat) (k : Int) (g : Gr) : Gr := cond (decide (k = 0)) g (insGr s k g)

/-- A guess. -/
def splitC (s : Nat) : Gr → Nat → Int → Gr
  | [], p, C => cond (decide (C = 0)) [] (cond (Nat.ble s (v2 C)) [(p, C / 2 ^ s)] [(p + (s - v2 C), C * 2 ^ (s - v2 C) / 2 ^ s)])
  | q :: r, p, C =>
    let rest := splitC s r q.1 (C * 2 ^ (q.1 - p) + q.2)
    cond (decide (C = 0)) rest (cond (Nat.ble s (v2 C)) (putGr p (C / 2 ^ s) (putGr q.1 (-(C / 2 ^ s * 2 ^ (q.1 - p))) rest))
      (cond (Nat.blt (p + (s - v2 C)) q.1) (putGr (p + (s - v2 C)) (C * 2 ^ (s - v2 C) / 2 ^ s) (putGr q.1 (-(C * 2 ^ (s - v2 C) / 2 ^ s * 2 ^ (q.1 - (p + (s - v2 C))))) rest)) rest))

def splitGr (s : Nat) : Gr → Gr
  | [] => []
  | p :: r => splitC s r p.1 p.2

/-- Behind a number's own bits each shift tells its sign alone: the least such shift. -/
def sgnS (v : Iv) (s : Nat) : Nat := match v with
  | (some l, some h) =>
    let m := cond (decide (-l ≤ h + 1)) (h + 1) (-l)
    let z := cond (decide (m ≤ 1)) 0 (Nat.log2 (m - 1).toNat + 1)
    cond (Nat.blt z s && decide (-(2 ^ z) ≤ l) && decide (h ≤ 2 ^ z - 1)) z s
  | _ => s

theorem sgn_div {x : Int} {z : Nat} (h1 : -(2 ^ z) ≤ x) (h2 : x ≤ 2 ^ z - 1) : x / 2 ^ z = if x < 0 then -1 else 0 := by
  have hp := two_pos z
  split
  · have e : x = (x + 2 ^ z) + -1 * 2 ^ z := by omega
    rw [e, Int.add_mul_ediv_right _ _ (Int.ne_of_gt hp), Int.ediv_eq_zero_of_lt (by omega) (by omega)]
    rfl
  · exact Int.ediv_eq_zero_of_lt (by omega) (by omega)

theorem sgnS_ok {v : Iv} {x : Int} (h : v.has x) (s : Nat) : x / 2 ^ (sgnS v s) = x / 2 ^ s := by
  unfold sgnS
  split
  · rename_i l h'
    simp only
    generalize (cond (decide (cond (decide (-l ≤ h' + 1)) (h' + 1) (-l) ≤ 1)) 0 (Nat.log2 (cond (decide (-l ≤ h' + 1)) (h' + 1) (-l) - 1).toNat + 1)) = z
    cases hc : (Nat.blt z s && decide (-(2 ^ z) ≤ l) && decide (h' ≤ 2 ^ z - 1)) with
    | false => rfl
    | true =>
      simp only [Bool.and_eq_true, decide_eq_true_eq] at hc
      obtain ⟨⟨h1, h2⟩, h3⟩ := hc
      have hlt : z < s := Nat.le_of_ble_eq_true h1
      have a1 := h.1 l rfl
      have a2 := h.2 h' rfl
      have hle : (2 : Int) ^ z ≤ 2 ^ s := by
        have e : (2 : Int) ^ s = 2 ^ z * 2 ^ (s - z) := by rw [← Int.pow_add]; congr 1; omega
        have g1 : (1 : Int) ≤ 2 ^ (s - z) := two_pos _
        have g2 := Int.mul_le_mul_of_nonneg_left g1 (Int.le_of_lt (two_pos z))
        omega
      rw [cond_true, sgn_div (z := z) (by omega) (by omega), sgn_div (z := s) (by omega) (by omega)]
  · rfl

/-- What is one number alone is put in. -/
def cleanGr (fs : Facts) (x : Sx) (v : Iv) : Gr → Int × Gr
  | [] => (0, [])
  | q :: r =>
    let t := cleanGr fs x v r
    match ivQ fs x v q.1 with
    | (some a, some b) => cond (decide (a = b)) (q.2 * a + t.1, t.2) (t.1, q :: t.2)
    | _ => (t.1, q :: t.2)

theorem cleanGr_ok {ρ : Env} {fs : Facts} (hf : FactsOk ρ fs) {x : Sx} {v : Iv} (hv : v.has (den ρ x).i) : ∀ g, (cleanGr fs x v g).1 + grVal (den ρ x).i (cleanGr fs x v g).2 = grVal (den ρ x).i g
  | [] => rfl
  | q :: r => by
    have ih := cleanGr_ok hf hv r
    have hq := ivQ_ok hf hv q.1
    simp only [cleanGr]
    split
    · rename_i a b heq
      rw [heq] at hq
      cases hd : decide (a = b) with
      | true =>
        simp only [decide_eq_true_eq] at hd
        subst hd
        have h1 := hq.1 a rfl
        have h2 := hq.2 a rfl
        have : (den ρ x).i / 2 ^ q.1 = a := by omega
        simp only [cond_true, grVal, this]
        omega
      | false => simp only [_root_.cond_false, grVal]; omega
    · simp only [grVal]; omega

def sgnGr (v : Iv) : Gr → Gr
  | [] => []
  | q :: r => insGr (sgnS v q.1) q.2 (sgnGr v r)

theorem sgnGr_ok {v : Iv} {x : Int} (h : v.has x) : ∀ g, grVal x (sgnGr v g) = grVal x g
  | [] => rfl
  | q :: r => by simp only [sgnGr, insGr_val, sgnGr_ok h r, sgnS_ok h, grVal]

/-- Signs by the least shifts. -/
def sgnGs (fs : Facts) : List (Sx × Gr) → List (Sx × Gr)
  | [] => []
  | p :: r => mrg p.1 (sgnGr (rngX fs p.1) p.2) (sgnGs fs r)

theorem sgnGs_ok {ρ : Env} {fs : Facts} (hf : FactsOk ρ fs) : ∀ l, gsVal ρ (sgnGs fs l) = gsVal ρ l
  | [] => rfl
  | p :: r => by simp only [sgnGs, mrg_val, sgnGr_ok (rngX_ok hf p.1), sgnGs_ok hf r, gsVal]

def cleanGs (fs : Facts) : List (Sx × Gr) → Lf
  | [] => (0, [])
  | p :: r =>
    let t := cleanGs fs r
    match ivG1 fs p.1 p.2 with
    | (some a, some b) => cond (decide (a = b)) (a + t.1, t.2) (let u := cleanGr fs p.1 (rngX fs p.1) p.2; (u.1 + t.1, mrg p.1 u.2 t.2))
    | _ => let u := cleanGr fs p.1 (rngX fs p.1) p.2; (u.1 + t.1, mrg p.1 u.2 t.2)

theorem cleanGs_ok {ρ : Env} {fs : Facts} (hf : FactsOk ρ fs) : ∀ l, lfVal ρ (cleanGs fs l) = gsVal ρ l
  | [] => rfl
  | p :: r => by
    have ih := cleanGs_ok hf r
    have h := cleanGr_ok hf (rngX_ok hf p.1) p.2
    have hv := ivG1_ok hf p.1 p.2
    simp only [cleanGs]
    split
    · rename_i a b heq
      rw [heq] at hv
      cases hd : decide (a = b) with
      | true =>
        simp only [decide_eq_true_eq] at hd
        subst hd
        have h1 := hv.1 a rfl
        have h2 := hv.2 a rfl
        simp only [lfVal, cond_true, gsVal] at ih ⊢
        omega
      | false =>
        simp only [lfVal, _root_.cond_false, mrg_val, gsVal] at ih ⊢
        omega
    · simp only [lfVal, mrg_val, gsVal] at ih ⊢
      omega

def clean (fs : Facts) (f : Lf) : Lf := let t := cleanGs fs f.2; (f.1 + t.1, t.2)

theorem clean_ok {ρ : Env} {fs : Facts} (hf : FactsOk ρ fs) (f : Lf) : lfVal ρ (clean fs f) = lfVal ρ f := by
  have := cleanGs_ok hf f.2
  simp only [clean, lfVal] at this ⊢
  omega

def guessGs (s : Nat) : List (Sx × Gr) → List (Sx × Gr)
  | [] => []
  | p :: r => mrg p.1 (splitGr s p.2) (guessGs s r)

/-- A form's quotient, if the guess is right. -/
def quoG (fs : Facts) (f : Lf) (s : Nat) : Option Lf :=
  let G : Lf := (f.1 / 2 ^ s, guessGs s f.2)
  cond (inR (ivLf fs (subLf f (scale (2 ^ s) G))) 0 (2 ^ s - 1)) (some (clean fs G)) (cond (inR (ivLf fs f) 0 (2 ^ s - 1)) (some (0, [])) none)

theorem div_of {x g : Int} {s : Nat} (h1 : 0 ≤ x - 2 ^ s * g) (h2 : x - 2 ^ s * g ≤ 2 ^ s - 1) : x / 2 ^ s = g := by
  have hp := two_pos s
  have e : x = (x - 2 ^ s * g) + g * 2 ^ s := by rw [Int.mul_comm g]; omega
  rw [e, Int.add_mul_ediv_right _ _ (Int.ne_of_gt hp), Int.ediv_eq_zero_of_lt h1 (by omega)]
  omega

theorem quoG_ok {ρ : Env} {fs : Facts} (hf : FactsOk ρ fs) {f G : Lf} {s : Nat} (h : quoG fs f s = some G) : lfVal ρ f / 2 ^ s = lfVal ρ G := by
  unfold quoG at h
  simp only at h
  generalize ((f.1 / 2 ^ s, guessGs s f.2) : Lf) = G' at h
  cases hc : inR (ivLf fs (subLf f (scale (2 ^ s) G'))) 0 (2 ^ s - 1) with
  | false =>
    rw [hc, _root_.cond_false] at h
    cases hd : inR (ivLf fs f) 0 (2 ^ s - 1) with
    | false => rw [hd] at h; simp at h
    | true =>
      rw [hd] at h
      simp only [cond_true, Option.some.injEq] at h
      subst h
      have := inR_ok (ivLf_ok hf f) hd
      rw [Int.ediv_eq_zero_of_lt this.1 (by omega)]
      rfl
  | true =>
    rw [hc] at h
    simp only [cond_true, Option.some.injEq] at h
    subst h
    have := inR_ok (ivLf_ok hf (subLf f (scale (2 ^ s) G'))) hc
    rw [subLf_val, scale_val] at this
    rw [clean_ok hf]
    exact div_of this.1 this.2

def quoP (fs : Facts) (f : Lf) (s : Nat) : Option Lf :=
  match quoG fs f s with
  | some g => some g
  | none => cond (Nat.ble s 64 && exact fs f) (some (0, [(toSx f, [(s, 1)])])) none

theorem quoP_ok {ρ : Env} {fs : Facts} (hf : FactsOk ρ fs) {f G : Lf} {s : Nat} (h : quoP fs f s = some G) : lfVal ρ f / 2 ^ s = lfVal ρ G := by
  unfold quoP at h
  split at h
  · rename_i g hg
    simp only [Option.some.injEq] at h
    subst h
    exact quoG_ok hf hg
  · cases hc : (Nat.ble s 64 && exact fs f) with
    | false => rw [hc] at h; simp at h
    | true =>
      rw [hc] at h
      simp only [cond_true, Option.some.injEq] at h
      subst h
      simp only [Bool.and_eq_true] at hc
      simp [lfVal, gsVal, grVal, exact_ok hf hc.2]

/-! ### modulo a power of two -/
/-- An expression as a form, up to multiples of 2^64. -/
def unSx : Sx → Lf
  | .lit n => (n, [])
  | .bin op k a b => match op, k, b with
    | .add, .i64, b => addLf (unSx a) (unSx b)
    | .mul, .i64, .lit c => scale c (unSx a)
    | .shr, .i64, .lit c => cond (decide (0 ≤ c) && decide (c ≤ 64)) (0, [(a, [(c.toNat, 1)])]) (0, [(.bin op k a b, [(0, 1)])])
    | op, k, b => (0, [(.bin op k a b, [(0, 1)])])
  | e => (0, [(e, [(0, 1)])])

theorem atom_val (ρ : Env) (e : Sx) : lfVal ρ (0, [(e, [(0, 1)])]) = (den ρ e).i := by simp [lfVal, gsVal, grVal]

theorem unSx_ok (ρ : Env) : ∀ e, Eqv (den ρ e).i (lfVal ρ (unSx e)) := by
  intro e
  induction e with
  | lit n => simp [unSx, lfVal, gsVal, den]; exact .refl _
  | bin op k a b iha ihb =>
    unfold unSx
    split
    · rw [addLf_val]
      exact (wrap_eqv _).trans (iha.add ihb)
    · rename_i c _
      rw [scale_val]
      refine (wrap_eqv _).trans ?_
      simp only [den]
      rw [Int.mul_comm]
      exact iha.mul _
    · rename_i _ c
      cases hc : (decide (0 ≤ c) && decide (c ≤ 64)) with
      | false => rw [_root_.cond_false, atom_val]; exact .refl _
      | true =>
        simp only [Bool.and_eq_true, decide_eq_true_eq] at hc
        have := qS_val ρ a (s := c.toNat) (by omega)
        simp only [cond_true, lfVal, gsVal, grVal, Int.add_zero, Int.zero_add, Int.one_mul]
        unfold qS at this
        cases hs : Nat.beq c.toNat 0 with
        | true =>
          have h0 := Nat.eq_of_beq_eq_true hs
          have : c = 0 := by omega
          subst this
          simp [den, binI]
          exact .refl _
        | false =>
          rw [hs, _root_.cond_false] at this
          have hcc : ((c.toNat : Nat) : Int) = c := by omega
          rw [hcc] at this
          rw [← this]
          exact .refl _
    · rw [atom_val]; exact .refl _
  | _ => unfold unSx; rw [atom_val]; exact .refl _

/-- The same up to multiples of 2^n. -/
def EqM (n : Nat) (a b : Int) : Prop := (2 ^ n : Int) ∣ a - b

theorem EqM.refl {n : Nat} (a : Int) : EqM n a a := by simp [EqM]
theorem EqM.trans {n : Nat} {a b c : Int} (h : EqM n a b) (h' : EqM n b c) : EqM n a c := by
  have := Int.dvd_add h h'
  unfold EqM
  have e : a - b + (b - c) = a - c := by omega
  rwa [e] at this
theorem EqM.add {n : Nat} {a b c d : Int} (h : EqM n a b) (h' : EqM n c d) : EqM n (a + c) (b + d) := by
  have := Int.dvd_add h h'
  unfold EqM
  have e : a - b + (c - d) = a + c - (b + d) := by omega
  rwa [e] at this
theorem EqM.mul {n : Nat} {a b : Int} (h : EqM n a b) (k : Int) : EqM n (k * a) (k * b) := by
  obtain ⟨x, hx⟩ := h
  exact ⟨k * x, by rw [← Int.mul_sub, hx, Int.mul_left_comm]⟩
theorem Eqv.to {n : Nat} {a b : Int} (h : Eqv a b) (hn : n ≤ 64) : EqM n a b := by
  refine Int.dvd_trans ?_ h
  have : (2 : Int) ^ 64 = 2 ^ n * 2 ^ (64 - n) := by rw [← Int.pow_add]; congr 1; omega
  exact ⟨_, this⟩
theorem EqM.symm {n : Nat} {a b : Int} (h : EqM n a b) : EqM n b a := by
  obtain ⟨x, hx⟩ := h
  exact ⟨-x, by rw [Int.mul_neg]; omega⟩

theorem EqM.mod {n : Nat} {a b : Int} (h : EqM n a b) : a % 2 ^ n = b % 2 ^ n := by
  obtain ⟨x, hx⟩ := h
  have : a = b + 2 ^ n * x := by omega
  rw [this, Int.add_mul_emod_self_left]

theorem EqM.wrap {k : IntKind} {a b : Int} (h : EqM k.bits a b) : k.wrap a = k.wrap b := by
  unfold IntKind.wrap
  rw [h.mod]

/-- A number near zero, the same up to multiples of 2^n. -/
def balK (n : Nat) (k : Int) : Int := let m := k % 2 ^ n; cond (decide (2 ^ (n - 1) ≤ m)) (m - 2 ^ n) m

theorem balK_ok (n : Nat) (k : Int) : EqM n k (balK n k) := by
  have h := Int.mul_ediv_add_emod k (2 ^ n : Int)
  unfold balK
  simp only
  cases decide ((2 : Int) ^ (n - 1) ≤ k % 2 ^ n) with
  | true => exact ⟨k / 2 ^ n + 1, by rw [cond_true, Int.mul_add]; omega⟩
  | false => exact ⟨k / 2 ^ n, by rw [_root_.cond_false]; omega⟩

def balGr (n : Nat) (g : Gr) : Gr := g.foldr (fun q r => let k := balK n q.2; cond (decide (k = 0)) r ((q.1, k) :: r)) []

theorem balGr_ok (n : Nat) (x : Int) : ∀ g, EqM n (grVal x g) (grVal x (balGr n g))
  | [] => .refl _
  | q :: r => by
    have ih := balGr_ok n x r
    have hk := balK_ok n q.2
    have h1 : EqM n (q.2 * (x / 2 ^ q.1)) (balK n q.2 * (x / 2 ^ q.1)) := by
      rw [Int.mul_comm, Int.mul_comm (balK n q.2)]
      exact hk.mul _
    simp only [balGr, List.foldr_cons, grVal] at ih ⊢
    cases hd : decide (balK n q.2 = 0) with
    | true =>
      simp only [decide_eq_true_eq] at hd
      rw [hd, Int.zero_mul] at h1
      have := h1.add ih
      rw [Int.zero_add] at this
      exact this
    | false => exact h1.add ih

/-- Up to multiples of 2^n, what was taken so before being taken as it is. -/
def redGs (n : Nat) : List (Sx × Gr) → Lf
  | [] => (0, [])
  | p :: r =>
    let t := redGs n r
    match p.1, p.2 with
    | .conv k y, [(0, c)] => cond (Nat.ble n k.bits) (addLf (scale c (unSx y)) t) (addLf (0, [p]) t)
    | _, _ => addLf (0, [p]) t

theorem redGs_ok (ρ : Env) {n : Nat} (hn : n ≤ 64) : ∀ l, EqM n (gsVal ρ l) (lfVal ρ (redGs n l))
  | [] => .refl _
  | p :: r => by
    have ih := redGs_ok ρ hn r
    have one : EqM n (gsVal ρ (p :: r)) (lfVal ρ (addLf (0, [p]) (redGs n r))) := by
      rw [addLf_val]
      simp only [gsVal, lfVal, Int.add_zero, Int.zero_add]
      exact (EqM.refl _).add ih
    simp only [redGs]
    split
    · rename_i k y c h1 h2
      cases hb : Nat.ble n k.bits with
      | false => exact one
      | true =>
        rw [cond_true, addLf_val, scale_val]
        refine EqM.add ?_ ih
        rw [h1, h2]
        simp only [grVal, den, Int.add_zero, Int.pow_zero, Int.ediv_one]
        refine EqM.mul ?_ c
        have hw : EqM n (k.wrap (den ρ y).i) (den ρ y).i := by
          refine Int.dvd_trans ?_ (wrap_bits k _)
          have hle := Nat.le_of_ble_eq_true hb
          have : (2 : Int) ^ k.bits = 2 ^ n * 2 ^ (k.bits - n) := by rw [← Int.pow_add]; congr 1; omega
          exact ⟨_, this⟩
        exact hw.trans ((unSx_ok ρ y).to hn)
    · exact one

def balGs (n : Nat) (l : List (Sx × Gr)) : List (Sx × Gr) := l.foldr (fun p r => mrg p.1 (balGr n p.2) r) []

theorem balGs_ok (ρ : Env) (n : Nat) : ∀ l, EqM n (gsVal ρ l) (gsVal ρ (balGs n l))
  | [] => .refl _
  | p :: r => by
    have ih := balGs_ok ρ n r
    simp only [balGs, List.foldr_cons, mrg_val, gsVal] at ih ⊢
    exact (balGr_ok n _ p.2).add ih

def redM (n : Nat) (f : Lf) : Lf := let t := redGs n (balGs n f.2); (balK n (f.1 + t.1), balGs n t.2)

theorem redM_ok (ρ : Env) {n : Nat} (hn : n ≤ 64) (f : Lf) : EqM n (lfVal ρ f) (lfVal ρ (redM n f)) := by
  have h1 := (balGs_ok ρ n f.2).trans (redGs_ok ρ hn (balGs n f.2))
  have h2 := balGs_ok ρ n (redGs n (balGs n f.2)).2
  have h3 := balK_ok n (f.1 + (redGs n (balGs n f.2)).1)
  have h4 := (EqM.refl (n := n) f.1).add h1
  have h5 := h3.add h2
  simp only [lfVal, redM] at *
  refine h4.trans ?_
  rw [← Int.add_assoc]
  exact h5

def unsg : IntKind → IntKind
  | .i8 => .u8
  | .i16 => .u16
  | .i32 => .u32
  | .i64 => .u64
  | k => k

theorem unsg_ok (k : IntKind) : (unsg k).signed = false ∧ (unsg k).bits = k.bits := by cases k <;> decide

theorem bits_le (k : IntKind) : k.bits ≤ 64 := by cases k <;> decide

theorem wrap_mod {k : IntKind} (hk : k.signed = false) (n : Int) : k.wrap n = n % 2 ^ k.bits := by
  unfold IntKind.wrap
  simp [hk]

/-- A form modulo a power of two: k is unsigned. -/
def modU (fs : Facts) (k : IntKind) (g : Lf) : Option Lf :=
  cond (inR (ivLf fs g) k.min k.max) (some g)
    (match quoG fs g k.bits with
     | some q => some (subLf g (scale (2 ^ k.bits) q))
     | none => cond (shOk g.2) (some (0, [(.conv k (toSx g), [(0, 1)])])) none)

theorem modU_ok {ρ : Env} {fs : Facts} (hf : FactsOk ρ fs) {k : IntKind} (hk : k.signed = false) {g r : Lf} (h : modU fs k g = some r) : lfVal ρ r = lfVal ρ g % 2 ^ k.bits := by
  unfold modU at h
  rw [← wrap_mod hk]
  cases h1 : inR (ivLf fs g) k.min k.max with
  | true =>
    rw [h1] at h
    simp only [cond_true, Option.some.injEq] at h
    subst h
    have := inR_ok (ivLf_ok hf g) h1
    rw [wrap_id this.1 this.2]
  | false =>
    rw [h1, _root_.cond_false] at h
    split at h
    · rename_i q hq
      simp only [Option.some.injEq] at h
      subst h
      rw [subLf_val, scale_val, ← quoG_ok hf hq, wrap_mod hk, Int.emod_def]
    · cases h4 : shOk g.2 with
      | true =>
        rw [h4] at h
        simp only [cond_true, Option.some.injEq] at h
        subst h
        rw [atom_val]
        simp only [den]
        exact ((toSx_eqv h4).to (bits_le k)).wrap
      | false => rw [h4] at h; simp at h

/-- A form and a multiple of 2^n, so that it lies near k's numbers. -/
def nearK (fs : Facts) (k : IntKind) (f : Lf) : Lf := match (ivLf fs f).1 with
  | some l => (f.1 - 2 ^ k.bits * ((l - k.min) / 2 ^ k.bits), f.2)
  | none => f

theorem nearK_ok (ρ : Env) (fs : Facts) (k : IntKind) (f : Lf) : k.wrap (lfVal ρ (nearK fs k f)) = k.wrap (lfVal ρ f) := by
  unfold nearK
  split
  · rename_i l _
    refine EqM.wrap ⟨-((l - k.min) / 2 ^ k.bits), ?_⟩
    simp only [lfVal, Int.mul_neg]
    omega
  · rfl

/-- A form taken as a number of a kind. -/
def modK (fs : Facts) (k : IntKind) (f : Lf) (e : Sx) : Lf :=
  cond (inR (ivLf fs f) k.min k.max) f
   (cond (inR (ivLf fs (nearK fs k f)) k.min k.max) (nearK fs k f)
    (match modU fs (unsg k) (redM k.bits f) with
     | some u => match k.signed with
       | false => u
       | true => match quoP fs u (k.bits - 1) with
         | some q => subLf u (scale (2 ^ k.bits) q)
         | none => (0, [(e, [(0, 1)])])
     | none => (0, [(e, [(0, 1)])])))

theorem wrap_signed {k : IntKind} (hk : k.signed = true) (n : Int) : k.wrap n = n % 2 ^ k.bits - 2 ^ k.bits * (n % 2 ^ k.bits / 2 ^ (k.bits - 1)) := by
  have hp : (2 : Int) ^ k.bits = 2 ^ (k.bits - 1) * 2 := by cases k <;> simp [IntKind.bits]
  have h0 := Int.emod_nonneg n (Int.ne_of_gt (two_pos k.bits))
  have h1 := Int.emod_lt_of_pos n (two_pos k.bits)
  unfold IntKind.wrap
  simp only [hk, Bool.true_and, decide_eq_true_eq]
  generalize n % 2 ^ k.bits = m at *
  have hq := two_pos (k.bits - 1)
  generalize (2 : Int) ^ (k.bits - 1) = h at *
  rw [hp] at h1 ⊢
  split
  · have : m / h = 1 := by
      have e : m = (m - h) + 1 * h := by omega
      rw [e, Int.add_mul_ediv_right _ _ (Int.ne_of_gt hq), Int.ediv_eq_zero_of_lt (by omega) (by omega)]
      rfl
    rw [this]; omega
  · have : m / h = 0 := Int.ediv_eq_zero_of_lt h0 (by omega)
    rw [this]; omega

theorem modK_ok {ρ : Env} {fs : Facts} (hf : FactsOk ρ fs) {k : IntKind} {f : Lf} {e : Sx} (he : (den ρ e).i = k.wrap (lfVal ρ f)) : lfVal ρ (modK fs k f e) = k.wrap (lfVal ρ f) := by
  have at_ : lfVal ρ (0, [(e, [(0, 1)])]) = k.wrap (lfVal ρ f) := by rw [atom_val, he]
  unfold modK
  cases h1 : inR (ivLf fs f) k.min k.max with
  | true =>
    have := inR_ok (ivLf_ok hf f) h1
    rw [cond_true, wrap_id this.1 this.2]
  | false =>
    rw [_root_.cond_false]
    cases h2 : inR (ivLf fs (nearK fs k f)) k.min k.max with
    | true =>
      have := inR_ok (ivLf_ok hf (nearK fs k f)) h2
      rw [cond_true, ← nearK_ok ρ fs k f, wrap_id this.1 this.2]
    | false =>
    rw [_root_.cond_false]
    have hr := redM_ok ρ (bits_le k) f
    split
    · rename_i u hu
      have hv := modU_ok hf (unsg_ok k).1 hu
      rw [(unsg_ok k).2, ← hr.mod] at hv
      split
      · rename_i hs
        rw [hv, wrap_mod hs]
      · rename_i hs
        split
        · rename_i q hq
          rw [subLf_val, scale_val, ← quoP_ok hf hq, hv, wrap_signed hs]
        · exact at_
    · exact at_
end Go.Proofs.Ytgpijioodocplaa
