/- Tests that are known from what was tested ahead, or from ranges, are left out. -/
import Derived.Test.YtgpijioodocplaaSyRun
set_option linter.unusedVariables false
set_option linter.unusedSectionVars false
set_option linter.unusedSimpArgs false
namespace Go.Proofs.Ytgpijioodocplaa
open Go Go.RowKit

abbrev Facts := List (Sx × Bool)

def FactsOk (ρ : Env) (fs : Facts) : Prop := ∀ p, p ∈ fs → (den ρ p.1).b = p.2

def known : Facts → Sx → Option Bool
  | [], _ => none
  | (a, b) :: r, e => cond (Sx.beq a e) (some b) (known r e)

theorem known_ok {ρ : Env} {e : Sx} {b : Bool} : ∀ {fs : Facts}, FactsOk ρ fs → known fs e = some b → (den ρ e).b = b
  | [], _, h => by simp [known] at h
  | (a, c) :: r, hf, h => by
    simp only [known] at h
    cases hb : Sx.beq a e with
    | true =>
      rw [hb] at h
      simp only [cond_true, Option.some.injEq] at h
      subst h
      rw [← Sx.beq_eq hb]
      exact hf (a, c) (List.mem_cons_self ..)
    | false => rw [hb] at h; exact known_ok (fun p hp => hf p (List.mem_cons_of_mem _ hp)) h

/-- Bounds: of a whole number. -/
abbrev Iv := Option Int × Option Int

def Iv.has (v : Iv) (n : Int) : Prop := (∀ l, v.1 = some l → l ≤ n) ∧ (∀ h, v.2 = some h → n ≤ h)

def maxO : Option Int → Int → Option Int
  | none, n => some n
  | some m, n => some (cond (decide (m ≤ n)) n m)
def minO : Option Int → Int → Option Int
  | none, n => some n
  | some m, n => some (cond (decide (n ≤ m)) n m)

def atLeast (v : Iv) (n : Int) : Iv := (maxO v.1 n, v.2)
def atMost (v : Iv) (n : Int) : Iv := (v.1, minO v.2 n)

theorem atLeast_ok {v : Iv} {n x : Int} (h : v.has x) (hn : n ≤ x) : (atLeast v n).has x := by
  refine ⟨fun l hl => ?_, h.2⟩
  simp only [atLeast] at hl
  cases hv : v.1 with
  | none => rw [hv] at hl; simp only [maxO, Option.some.injEq] at hl; omega
  | some m =>
    rw [hv] at hl
    have := h.1 m hv
    simp only [maxO, Option.some.injEq] at hl
    cases hd : decide (m ≤ n) <;> rw [hd] at hl <;> simp only [cond_true, _root_.cond_false] at hl <;> omega

theorem atMost_ok {v : Iv} {n x : Int} (h : v.has x) (hn : x ≤ n) : (atMost v n).has x := by
  refine ⟨h.1, fun l hl => ?_⟩
  simp only [atMost] at hl
  cases hv : v.2 with
  | none => rw [hv] at hl; simp only [minO, Option.some.injEq] at hl; omega
  | some m =>
    rw [hv] at hl
    have := h.2 m hv
    simp only [minO, Option.some.injEq] at hl
    cases hd : decide (n ≤ m) <;> rw [hd] at hl <;> simp only [cond_true, _root_.cond_false] at hl <;> omega

/-- A number that is not n. -/
def notN (v : Iv) (n : Int) : Iv :=
  (match v.1 with | some l => some (cond (decide (l = n)) (n + 1) l) | none => none, match v.2 with | some l => some (cond (decide (l = n)) (n - 1) l) | none => none)

theorem notN_ok {v : Iv} {n x : Int} (h : v.has x) (hn : x ≠ n) : (notN v n).has x := by
  refine ⟨fun l hl => ?_, fun l hl => ?_⟩
  · simp only [notN] at hl
    cases hv : v.1 with
    | none => rw [hv] at hl; simp at hl
    | some m =>
      rw [hv] at hl
      have := h.1 m hv
      simp only [Option.some.injEq] at hl
      cases hd : decide (m = n) <;> rw [hd] at hl <;> simp only [cond_true, _root_.cond_false, decide_eq_true_eq] at hl hd <;> omega
  · simp only [notN] at hl
    cases hv : v.2 with
    | none => rw [hv] at hl; simp at hl
    | some m =>
      rw [hv] at hl
      have := h.2 m hv
      simp only [Option.some.injEq] at hl
      cases hd : decide (m = n) <;> rw [hd] at hl <;> simp only [cond_true, _root_.cond_false, decide_eq_true_eq] at hl hd <;> omega

def cut (op : BinOp) (n : Int) (b : Bool) (v : Iv) : Iv :=
  match op, b with
  | .eql, true => atMost (atLeast v n) n
  | .neq, false => atMost (atLeast v n) n
  | .eql, false => notN v n
  | .neq, true => notN v n
  | .lss, true => atMost v (n - 1)
  | .lss, false => atLeast v n
  | .leq, true => atMost v n
  | .leq, false => atLeast v (n + 1)
  | .gtr, true => atLeast v (n + 1)
  | .gtr, false => atMost v n
  | .geq, true => atLeast v n
  | .geq, false => atMost v (n - 1)
  | _, _ => v

theorem cut_ok {op : BinOp} {n x : Int} {b : Bool} {v : Iv} (h : v.has x) (hc : cmpI op x n = b) : (cut op n b v).has x := by
  subst hc
  cases op <;> simp only [cmpI] at * <;> try exact h
  case eql =>
    by_cases hx : x = n
    · subst hx; simp only [BEq.rfl, cut]; exact atMost_ok (atLeast_ok h (Int.le_refl _)) (Int.le_refl _)
    · have : (x == n) = false := by simpa using hx
      rw [this]; exact notN_ok h hx
  case neq =>
    by_cases hx : x = n
    · subst hx; simp only [bne_self_eq_false, cut]; exact atMost_ok (atLeast_ok h (Int.le_refl _)) (Int.le_refl _)
    · have : (x != n) = true := by simpa using hx
      rw [this]; exact notN_ok h hx
  case lss =>
    by_cases hx : x < n
    · rw [decide_eq_true hx]; exact atMost_ok h (by omega)
    · rw [decide_eq_false hx]; exact atLeast_ok h (by omega)
  case leq =>
    by_cases hx : x ≤ n
    · rw [decide_eq_true hx]; exact atMost_ok h (by omega)
    · rw [decide_eq_false hx]; exact atLeast_ok h (by omega)
  case gtr =>
    by_cases hx : x > n
    · rw [decide_eq_true hx]; exact atLeast_ok h (by omega)
    · rw [decide_eq_false hx]; exact atMost_ok h (by omega)
  case geq =>
    by_cases hx : x ≥ n
    · rw [decide_eq_true hx]; exact atLeast_ok h (by omega)
    · rw [decide_eq_false hx]; exact atMost_ok h (by omega)

def cutBy (e : Sx) : Facts → Iv → Iv
  | [], v => v
  | (.cmp op a (.lit n), b) :: r, v => cond (Sx.beq a e) (cut op n b (cutBy e r v)) (cutBy e r v)
  | _ :: r, v => cutBy e r v

theorem cutBy_ok {ρ : Env} {e : Sx} {v : Iv} (h : v.has (den ρ e).i) : ∀ {fs : Facts}, FactsOk ρ fs → (cutBy e fs v).has (den ρ e).i := by
  intro fs hf
  induction fs with
  | nil => exact h
  | cons p r ih =>
    have hr := ih fun q hq => hf q (List.mem_cons_of_mem _ hq)
    obtain ⟨x, b⟩ := p
    unfold cutBy
    split
    · rename_i heq; cases heq
    · rename_i op a n b' r' heq
      simp only [List.cons.injEq, Prod.mk.injEq] at heq
      obtain ⟨⟨rfl, rfl⟩, rfl⟩ := heq
      cases hb : Sx.beq a e with
      | false => exact hr
      | true =>
        have := Sx.beq_eq hb
        subst this
        exact cut_ok hr (hf _ (List.mem_cons_self ..))
    · rename_i heq
      simp only [List.cons.injEq] at heq
      obtain ⟨_, rfl⟩ := heq
      exact hr

def inKind (k : IntKind) (l h : Int) : Bool := decide (k.min ≤ l) && decide (h ≤ k.max)

def full (k : IntKind) : Iv := (some k.min, some k.max)

def fitK (k : IntKind) (l h : Int) : Iv := cond (inKind k l h) (some l, some h) (full k)

theorem wrap_range (k : IntKind) (n : Int) : k.min ≤ k.wrap n ∧ k.wrap n ≤ k.max := by
  cases k <;> simp [IntKind.wrap, IntKind.min, IntKind.max, IntKind.signed, IntKind.bits] <;> (try split) <;> omega

theorem wrap_id {k : IntKind} {n : Int} (h1 : k.min ≤ n) (h2 : n ≤ k.max) : k.wrap n = n := by
  cases k <;> simp [IntKind.min, IntKind.max, IntKind.signed, IntKind.bits] at h1 h2 <;> simp [IntKind.wrap, IntKind.signed, IntKind.bits] <;> (try split) <;> omega

theorem full_ok (k : IntKind) (n : Int) : (full k).has (k.wrap n) :=
  ⟨fun l hl => by simp only [full, Option.some.injEq] at hl; subst hl; exact (wrap_range k n).1, fun l hl => by simp only [full, Option.some.injEq] at hl; subst hl; exact (wrap_range k n).2⟩

theorem fitK_ok {k : IntKind} {l h n : Int} (h1 : l ≤ n) (h2 : n ≤ h) : (fitK k l h).has (k.wrap n) := by
  unfold fitK
  cases hk : inKind k l h with
  | false => exact full_ok k n
  | true =>
    simp only [inKind, Bool.and_eq_true, decide_eq_true_eq] at hk
    rw [wrap_id (by omega) (by omega)]
    exact ⟨fun x hx => by simp only [cond_true, Option.some.injEq] at hx; omega, fun x hx => by simp only [cond_true, Option.some.injEq] at hx; omega⟩

def rngBin (op : BinOp) (k : IntKind) (a b : Iv) : Iv :=
  match op with
  | .add => match a, b with
    | (some l1, some h1), (some l2, some h2) => fitK k (l1 + l2) (h1 + h2)
    | _, _ => full k
  | .sub => match a, b with
    | (some l1, some h1), (some l2, some h2) => fitK k (l1 - h2) (h1 - l2)
    | _, _ => full k
  | .rem => match a with
    | (some l, some h) => cond (decide (0 ≤ l)) (some 0, some h) (none, none)
    | _ => (none, none)
  | .shr => match a with
    | (some l, some h) => cond (decide (0 ≤ l)) (some 0, some h) (none, none)
    | _ => (none, none)
  | .mul => full k
  | .quo => full k
  | .and => full k
  | .or => full k
  | .xor => full k
  | .andNot => full k
  | .shl => full k
  | _ => (none, none)

theorem none_ok (n : Int) : Iv.has (none, none) n := ⟨fun l hl => by simp at hl, fun l hl => by simp at hl⟩

theorem rngBin_ok {op : BinOp} {k : IntKind} {a b : Iv} {x y : Int} (ha : a.has x) (hb : b.has y) : (rngBin op k a b).has (binI op k x y) := by
  obtain ⟨a1, a2⟩ := a
  obtain ⟨b1, b2⟩ := b
  cases op <;> simp only [rngBin, binI]
  case add =>
    split
    · rename_i l1 h1 l2 h2 e1 e2
      simp only [Prod.mk.injEq] at e1 e2
      obtain ⟨rfl, rfl⟩ := e1
      obtain ⟨rfl, rfl⟩ := e2
      have := ha.1 _ rfl; have := ha.2 _ rfl; have := hb.1 _ rfl; have := hb.2 _ rfl
      exact fitK_ok (by omega) (by omega)
    · exact full_ok ..
  case sub =>
    split
    · rename_i l1 h1 l2 h2 e1 e2
      simp only [Prod.mk.injEq] at e1 e2
      obtain ⟨rfl, rfl⟩ := e1
      obtain ⟨rfl, rfl⟩ := e2
      have := ha.1 _ rfl; have := ha.2 _ rfl; have := hb.1 _ rfl; have := hb.2 _ rfl
      exact fitK_ok (by omega) (by omega)
    · exact full_ok ..
  case rem =>
    split
    · rename_i l h e1
      simp only [Prod.mk.injEq] at e1
      obtain ⟨rfl, rfl⟩ := e1
      have h1 := ha.1 _ rfl; have h2 := ha.2 _ rfl
      cases hd : decide (0 ≤ l) with
      | false => exact none_ok _
      | true =>
        simp only [decide_eq_true_eq] at hd
        have g1 : 0 ≤ x.tmod y := Int.tmod_nonneg y (by omega)
        have g2 : x.tmod y ≤ x := by
          have h3 := Int.natAbs_tmod x y
          have h4 := Nat.mod_le x.natAbs y.natAbs
          omega
        exact ⟨fun l hl => by simp only [cond_true, Option.some.injEq] at hl; omega, fun l hl => by simp only [cond_true, Option.some.injEq] at hl; omega⟩
    · exact none_ok _
  case shr =>
    split
    · rename_i l h e1
      simp only [Prod.mk.injEq] at e1
      obtain ⟨rfl, rfl⟩ := e1
      have h1 := ha.1 _ rfl; have h2 := ha.2 _ rfl
      cases hd : decide (0 ≤ l) with
      | false => exact none_ok _
      | true =>
        simp only [decide_eq_true_eq] at hd
        have hp : (0 : Int) < 2 ^ (min y.toNat k.bits) := Int.pow_pos (by omega)
        have e : x.fdiv (2 ^ (min y.toNat k.bits)) = x / (2 ^ (min y.toNat k.bits)) := Int.fdiv_eq_ediv_of_nonneg _ (by omega)
        rw [e]
        have g1 : 0 ≤ x / (2 ^ (min y.toNat k.bits)) := Int.ediv_nonneg (by omega) (by omega)
        have g2 : x / (2 ^ (min y.toNat k.bits)) ≤ x := Int.ediv_le_self _ (by omega)
        exact ⟨fun l hl => by simp only [cond_true, Option.some.injEq] at hl; omega, fun l hl => by simp only [cond_true, Option.some.injEq] at hl; omega⟩
    · exact none_ok _
  case mul | quo | and | or | xor | andNot | shl => exact full_ok ..
  all_goals exact none_ok _

def rng (fs : Facts) : Sx → Iv
  | .lit n => (some n, some n)
  | .var i => cutBy (.var i) fs (none, none)
  | .bin op k a b => cutBy (.bin op k a b) fs (rngBin op k (rng fs a) (rng fs b))
  | .conv k a => cutBy (.conv k a) fs (match rng fs a with
    | (some l, some h) => fitK k l h
    | _ => full k)
  | .at_ a i => cutBy (.at_ a i) fs (some 0, some 255)
  | .len a => cutBy (.len a) fs (some 0, none)
  | e => cutBy e fs (none, none)

theorem rng_ok {ρ : Env} {fs : Facts} (hf : FactsOk ρ fs) : ∀ (e : Sx), (rng fs e).has (den ρ e).i := by
  intro e
  induction e with
  | lit n => exact ⟨fun l hl => by simp only [rng, Option.some.injEq] at hl; subst hl; exact Int.le_refl _, fun l hl => by simp only [rng, Option.some.injEq] at hl; subst hl; exact Int.le_refl _⟩
  | bin op k a b iha ihb => exact cutBy_ok (rngBin_ok iha ihb) hf
  | conv k a iha =>
    refine cutBy_ok ?_ hf
    split
    · rename_i l h heq
      rw [heq] at iha
      exact fitK_ok (iha.1 _ rfl) (iha.2 _ rfl)
    · exact full_ok ..
  | at_ a i _ _ =>
    refine cutBy_ok ?_ hf
    simp only [den]
    generalize ((den ρ a).s[(den ρ i).i.toNat]?.getD 0) = u
    have := u.toNat_lt
    exact ⟨fun l hl => by simp only [Option.some.injEq] at hl; omega, fun l hl => by simp only [Option.some.injEq] at hl; omega⟩
  | len a _ =>
    refine cutBy_ok ?_ hf
    simp only [den]
    exact ⟨fun l hl => by simp only [Option.some.injEq] at hl; omega, fun l hl => by simp at hl⟩
  | _ => exact cutBy_ok (none_ok _) hf

def ltO : Option Int → Option Int → Bool
  | some a, some b => decide (a < b)
  | _, _ => false
def leO : Option Int → Option Int → Bool
  | some a, some b => decide (a ≤ b)
  | _, _ => false

/-- A comparison that bounds tell. -/
def decCmp (op : BinOp) (a b : Iv) : Option Bool :=
  match op with
  | .eql => cond (ltO a.2 b.1 || ltO b.2 a.1) (some false) (cond (leO a.2 b.1 && leO b.2 a.1) (some true) none)
  | .neq => cond (ltO a.2 b.1 || ltO b.2 a.1) (some true) (cond (leO a.2 b.1 && leO b.2 a.1) (some false) none)
  | .lss => cond (ltO a.2 b.1) (some true) (cond (leO b.2 a.1) (some false) none)
  | .leq => cond (leO a.2 b.1) (some true) (cond (ltO b.2 a.1) (some false) none)
  | .gtr => cond (ltO b.2 a.1) (some true) (cond (leO a.2 b.1) (some false) none)
  | .geq => cond (leO b.2 a.1) (some true) (cond (ltO a.2 b.1) (some false) none)
  | _ => none

theorem ltO_ok {a b : Iv} {x y : Int} (ha : a.has x) (hb : b.has y) (h : ltO a.2 b.1 = true) : x < y := by
  cases h2 : a.2 with
  | none => rw [h2] at h; simp [ltO] at h
  | some p =>
    cases h1 : b.1 with
    | none => rw [h1, h2] at h; simp [ltO] at h
    | some q => rw [h1, h2] at h; simp only [ltO, decide_eq_true_eq] at h; have := ha.2 _ h2; have := hb.1 _ h1; omega

theorem leO_ok {a b : Iv} {x y : Int} (ha : a.has x) (hb : b.has y) (h : leO a.2 b.1 = true) : x ≤ y := by
  cases h2 : a.2 with
  | none => rw [h2] at h; simp [leO] at h
  | some p =>
    cases h1 : b.1 with
    | none => rw [h1, h2] at h; simp [leO] at h
    | some q => rw [h1, h2] at h; simp only [leO, decide_eq_true_eq] at h; have := ha.2 _ h2; have := hb.1 _ h1; omega

theorem cond_some {c : Bool} {x : Bool} {y : Option Bool} {b : Bool} (h : cond c (some x) y = some b) : (c = true ∧ x = b) ∨ (c = false ∧ y = some b) := by
  cases c <;> simp_all

theorem decCmp_ok {op : BinOp} {a b : Iv} {x y : Int} {r : Bool} (ha : a.has x) (hb : b.has y) (h : decCmp op a b = some r) : cmpI op x y = r := by
  cases op <;> simp only [decCmp] at h <;> simp only [cmpI]
  case eql =>
    rcases cond_some h with ⟨h1, rfl⟩ | ⟨_, h⟩
    · simp only [Bool.or_eq_true] at h1
      rcases h1 with h1 | h1
      · have := ltO_ok ha hb h1; simp; omega
      · have := ltO_ok hb ha h1; simp; omega
    · rcases cond_some h with ⟨h1, rfl⟩ | ⟨_, h⟩
      · simp only [Bool.and_eq_true] at h1
        have := leO_ok ha hb h1.1; have := leO_ok hb ha h1.2
        simp; omega
      · simp at h
  case neq =>
    rcases cond_some h with ⟨h1, rfl⟩ | ⟨_, h⟩
    · simp only [Bool.or_eq_true] at h1
      rcases h1 with h1 | h1
      · have := ltO_ok ha hb h1; simp; omega
      · have := ltO_ok hb ha h1; simp; omega
    · rcases cond_some h with ⟨h1, rfl⟩ | ⟨_, h⟩
      · simp only [Bool.and_eq_true] at h1
        have := leO_ok ha hb h1.1; have := leO_ok hb ha h1.2
        simp; omega
      · simp at h
  case lss =>
    rcases cond_some h with ⟨h1, rfl⟩ | ⟨_, h⟩
    · have := ltO_ok ha hb h1; simp; omega
    · rcases cond_some h with ⟨h1, rfl⟩ | ⟨_, h⟩
      · have := leO_ok hb ha h1; simp; omega
      · simp at h
  case leq =>
    rcases cond_some h with ⟨h1, rfl⟩ | ⟨_, h⟩
    · have := leO_ok ha hb h1; simp; omega
    · rcases cond_some h with ⟨h1, rfl⟩ | ⟨_, h⟩
      · have := ltO_ok hb ha h1; simp; omega
      · simp at h
  case gtr =>
    rcases cond_some h with ⟨h1, rfl⟩ | ⟨_, h⟩
    · have := ltO_ok hb ha h1; simp; omega
    · rcases cond_some h with ⟨h1, rfl⟩ | ⟨_, h⟩
      · have := leO_ok ha hb h1; simp; omega
      · simp at h
  case geq =>
    rcases cond_some h with ⟨h1, rfl⟩ | ⟨_, h⟩
    · have := leO_ok hb ha h1; simp; omega
    · rcases cond_some h with ⟨h1, rfl⟩ | ⟨_, h⟩
      · have := ltO_ok ha hb h1; simp; omega
      · simp at h
  all_goals simp at h

def orElse (a : Option Bool) (b : Option Bool) : Option Bool := match a with | some x => some x | none => b

def and3 : Option Bool → Option Bool → Option Bool
  | some false, _ => some false
  | _, some false => some false
  | some true, some true => some true
  | _, _ => none

def eq3 : Option Bool → Option Bool → Option Bool
  | some a, some b => some (a == b)
  | _, _ => none

def decB (fs : Facts) : Sx → Option Bool
  | .lb b => some b
  | .not a => (decB fs a).map (!·)
  | .and a b => orElse (known fs (.and a b)) (and3 (decB fs a) (decB fs b))
  | .eqb a b => orElse (known fs (.eqb a b)) (cond (Sx.beq a b) (some true) (eq3 (decB fs a) (decB fs b)))
  | .cmp op a b => orElse (known fs (.cmp op a b)) (orElse (decCmp op (rng fs a) (rng fs b)) (cond (Sx.beq a b) (some (cmpI op 0 0)) none))
  | .cmps op (.ls a) (.ls b) => some (cmpS op a b)
  | .cmps op a b => orElse (known fs (.cmps op a b)) (cond (decide (op = .eql) && Sx.beq a b) (some true) none)
  | e => known fs e

theorem orElse_ok {a b : Option Bool} {x : Bool} (h : orElse a b = some x) : a = some x ∨ b = some x := by
  cases a with
  | none => exact .inr h
  | some y => exact .inl h

theorem cmpI_self (op : BinOp) (x : Int) : cmpI op x x = cmpI op 0 0 := by cases op <;> simp [cmpI]

theorem decB_ok {ρ : Env} {fs : Facts} (hf : FactsOk ρ fs) : ∀ (e : Sx) {b : Bool}, decB fs e = some b → (den ρ e).b = b := by
  intro e
  induction e with
  | lb c => intro b h; simpa [decB, den] using h
  | not a ih =>
    intro b h
    simp only [decB, Option.map_eq_some_iff] at h
    obtain ⟨c, hc, rfl⟩ := h
    simp [den, ih hc]
  | and x y ih1 ih2 =>
    intro b h
    simp only [decB] at h
    rcases orElse_ok h with h | h
    · exact known_ok hf h
    · unfold and3 at h
      split at h
      · rename_i h1; simp only [Option.some.injEq] at h; subst h; simp [den, ih1 h1]
      · rename_i h1 _; simp only [Option.some.injEq] at h; subst h; simp [den, ih2 h1]
      · rename_i h1 h2; simp only [Option.some.injEq] at h; subst h; simp [den, ih1 h1, ih2 h2]
      · simp at h
  | eqb x y ih1 ih2 =>
    intro b h
    simp only [decB] at h
    rcases orElse_ok h with h | h
    · exact known_ok hf h
    · rcases cond_some h with ⟨h1, rfl⟩ | ⟨_, h⟩
      · rw [Sx.beq_eq h1]; simp [den]
      · unfold eq3 at h
        split at h
        · rename_i h1 h2; simp only [Option.some.injEq] at h; subst h; simp [den, ih1 h1, ih2 h2]
        · simp at h
  | cmp op x y _ _ =>
    intro b h
    simp only [decB] at h
    rcases orElse_ok h with h | h
    · exact known_ok hf h
    · rcases orElse_ok h with h | h
      · exact decCmp_ok (rng_ok hf x) (rng_ok hf y) h
      · rcases cond_some h with ⟨h1, rfl⟩ | ⟨_, h⟩
        · rw [Sx.beq_eq h1]; exact cmpI_self op _
        · simp at h
  | cmps op x y _ _ =>
    intro b h
    unfold decB at h
    split at h
    all_goals first
      | (rename_i heq; simp only [Sx.cmps.injEq] at heq; obtain ⟨rfl, rfl, rfl⟩ := heq; simp only [Option.some.injEq] at h; subst h; rfl)
      | (rename_i hne heq; simp only [Sx.cmps.injEq] at heq; obtain ⟨rfl, rfl, rfl⟩ := heq
         rcases orElse_ok h with h | h
         · exact known_ok hf h
         · rcases cond_some h with ⟨h1, rfl⟩ | ⟨_, h⟩
           · simp only [Bool.and_eq_true, decide_eq_true_eq] at h1
             obtain ⟨rfl, h1⟩ := h1
             rw [Sx.beq_eq h1]; simp [den, cmpS]
           · simp at h)
      | exact known_ok hf h
      | (rename_i heq; cases heq)
  | _ => intro b h; exact known_ok hf (by simpa [decB] using h)

def addFact : Sx → Bool → Facts → Facts
  | .not a, b, fs => addFact a (!b) fs
  | .and a c, true, fs => addFact a true (addFact c true fs)
  | e, b, fs => (e, b) :: fs

theorem addFact_ok {ρ : Env} : ∀ (e : Sx) {b : Bool} {fs : Facts}, FactsOk ρ fs → (den ρ e).b = b → FactsOk ρ (addFact e b fs) := by
  have base : ∀ (e : Sx) {b : Bool} {fs : Facts}, FactsOk ρ fs → (den ρ e).b = b → FactsOk ρ ((e, b) :: fs) := fun e b fs hf he p hp => by
    rcases List.mem_cons.1 hp with rfl | hp
    · exact he
    · exact hf p hp
  intro e
  induction e with
  | not a ih => intro b fs hf he; exact ih hf (by rw [← he]; simp [den])
  | and x y ih1 ih2 =>
    intro b fs hf he
    cases b with
    | true =>
      simp only [den, Bool.and_eq_true] at he
      exact ih1 (ih2 hf he.2) he.1
    | false => exact base _ hf he
  | _ => intro b fs hf he; exact base _ hf he

def prune (fs : Facts) : Out → Out
  | .fail => .fail
  | .leaf r => .leaf r
  | .sel e a b => match decB fs e with
    | some true => prune fs a
    | some false => prune fs b
    | none => .sel e (prune (addFact e true fs) a) (prune (addFact e false fs) b)

theorem prune_ok {ρ : Env} : ∀ (o : Out) {fs : Facts}, FactsOk ρ fs → outV ρ (prune fs o) = outV ρ o
  | .fail, _, _ => rfl
  | .leaf r, _, _ => rfl
  | .sel e a b, fs, hf => by
    simp only [prune]
    split
    · rename_i h
      rw [prune_ok a hf]
      simp [outV, decB_ok hf e h]
    · rename_i h
      rw [prune_ok b hf]
      simp [outV, decB_ok hf e h]
    · simp only [outV]
      cases hb : (den ρ e).b with
      | true => simp only [cond_true]; exact prune_ok a (addFact_ok e hf hb)
      | false => simp only [_root_.cond_false]; exact prune_ok b (addFact_ok e hf hb)

/-- A run's outcome, written out. -/
@[irreducible] def RunIs (C : Ctx) (d : Nat) (fs : Facts) (f : FuncId) (args : List AV) (o : Out) : Prop := prune fs (runOut C d f args) = o

theorem RunIs.mk {C : Ctx} {d : Nat} {fs : Facts} {f : FuncId} {args : List AV} {o : Out} (h : RunIs C d fs f args o = (o = o)) : RunIs C d fs f args o := h ▸ rfl

theorem RunIs.calls {ρ : Env} {C : Ctx} {d : Nat} {fs : Facts} {f : FuncId} {args : List AV} {o : Out} {R : AV} (h : RunIs C d fs f args o) (hs : Summ ρ C) (hf : FactsOk ρ fs) (hv : outV ρ o = some R) :
    CallsTo C f (concs ρ args) R := by
  unfold RunIs at h
  refine run_calls hs (d := d) ?_
  rw [← prune_ok _ hf, h, hv]
end Go.Proofs.Ytgpijioodocplaa
