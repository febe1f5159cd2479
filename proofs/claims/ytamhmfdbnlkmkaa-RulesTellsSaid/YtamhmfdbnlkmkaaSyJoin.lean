/- Runs in which ways that come together again are joined: values that hang on a test. -/
import Derived.Test.YtamhmfdbnlkmkaaSyHoare2
import Derived.Test.YtamhmfdbnlkmkaaSyChain
import Derived.Test.YtamhmfdbnlkmkaaSyTab
set_option linter.unusedVariables false
set_option linter.unusedSimpArgs false
namespace Go.Proofs.Ytamhmfdbnlkmkaa
open Go Go.RowKit

/-! ### values that hang on a test -/
def iteF : Nat → List Value → Value := fun _ l => match l with
  | [.bool b, x, y] => cond b x y
  | _ => undef

def andX (a b : Sx) : Sx := match a with
  | .lb true => b
  | .lb false => .lb false
  | _ => match b with
    | .lb true => a
    | .lb false => .lb false
    | _ => .and a b
def notX (a : Sx) : Sx := match a with
  | .lb b => .lb (!b)
  | .not a => a
  | _ => .not a
def orX (a b : Sx) : Sx := notX (andX (notX a) (notX b))

theorem andX_den (ρ : Env) (a b : Sx) : (den ρ (andX a b)).b = ((den ρ a).b && (den ρ b).b) := by
  unfold andX
  split
  · simp [den]
  · simp [den]
  · split
    · simp [den]
    · simp [den]
    · rfl
theorem notX_den (ρ : Env) (a : Sx) : (den ρ (notX a)).b = !(den ρ a).b := by
  unfold notX
  split
  · rfl
  · simp [den]
  · rfl
theorem orX_den (ρ : Env) (a b : Sx) : (den ρ (orX a b)).b = ((den ρ a).b || (den ρ b).b) := by
  simp only [orX, notX_den, andX_den]
  cases (den ρ a).b <;> cases (den ρ b).b <;> rfl

/-- Is a number one of its kind? -/
def wrX (k : IntKind) : Sx → Bool
  | .lit n => decide (k.min ≤ n) && decide (n ≤ k.max)
  | .bin .add k' _ _ => decide (k = k')
  | _ => false

theorem wrX_ok {ρ : Env} {k : IntKind} {e : Sx} (h : wrX k e = true) : k.wrap (den ρ e).i = (den ρ e).i := by
  unfold wrX at h
  split at h
  · simp only [Bool.and_eq_true, decide_eq_true_eq] at h
    exact wrap_id h.1 h.2
  · simp only [decide_eq_true_eq] at h
    subst h
    simp only [den, binI]
    exact EqM.wrap (wrap_bits k _)
  · cases h

def iteN (k : IntKind) (g a b : Sx) : Sx := .app 1000 (.arg .bool g (.arg (.int k) a (.arg (.int k) b .nil)))

/-- The one or the other. -/
def iteX (t : STy) (g a b : Sx) : Sx := match t with
  | .bool => orX (andX g a) (andX (notX g) b)
  | .int k => match a with
    | .bin .add k' x (.lit c) => cond (decide (k' = k) && Sx.beq x b && wrX k b) (.bin .add k b (iteN k g (.lit c) (.lit 0))) (iteN k g a b)
    | a => iteN k g a b
  | t => .app 1000 (.arg .bool g (.arg t a (.arg t b .nil)))

theorem iteN_val {ρ : Env} (hF : ρ.F = iteF) (k : IntKind) (g a b : Sx) : (den ρ (iteN k g a b)).i = cond (den ρ g).b (den ρ a).i (den ρ b).i := by
  simp only [iteN, den, STy.val, hF, iteF]
  cases (den ρ g).b <;> rfl

theorem iteX_val {ρ : Env} (hF : ρ.F = iteF) (t : STy) (g a b : Sx) : t.val (den ρ (iteX t g a b)) = cond (den ρ g).b (t.val (den ρ a)) (t.val (den ρ b)) := by
  cases t with
  | bool =>
    simp only [STy.val, iteX, orX_den, andX_den, notX_den]
    cases (den ρ g).b <;> cases (den ρ a).b <;> cases (den ρ b).b <;> rfl
  | int k =>
    have base : (STy.int k).val (den ρ (iteN k g a b)) = cond (den ρ g).b ((STy.int k).val (den ρ a)) ((STy.int k).val (den ρ b)) := by
      simp only [STy.val, iteN_val hF]
      cases (den ρ g).b <;> rfl
    simp only [iteX]
    split
    · rename_i k' x c
      cases hc : (decide (k' = k) && Sx.beq x b && wrX k b) with
      | false => exact base
      | true =>
        simp only [Bool.and_eq_true, decide_eq_true_eq] at hc
        obtain ⟨⟨rfl, hx⟩, hw⟩ := hc
        have hx := Sx.beq_eq hx
        subst hx
        have h1 := iteN_val hF k' g (.lit c) (.lit 0)
        have hw := wrX_ok (ρ := ρ) hw
        simp only [cond_true, STy.val, den, binI, h1]
        cases (den ρ g).b with
        | true => rfl
        | false =>
          simp only [_root_.cond_false]
          rw [Int.add_zero, hw]
    · exact base
  | str =>
    simp only [STy.val, iteX, den, hF, iteF]
    cases (den ρ g).b <;> rfl

mutual
/-- A value that is the one or the other. -/
def jv (g : Sx) : AV → AV → Option AV
  | .agg a, .agg b => (jvs g a b).map .agg
  | .tuple a, .tuple b => (jvs g a b).map .tuple
  | x, y => cond (sameA x y) (some x) (match asSx x, asSx y with
    | some (t, a), some (t', b) => cond (decide (t = t')) (some (.tc (.sy t (iteX t g a b)))) none
    | _, _ => none)
def jvs (g : Sx) : List AV → List AV → Option (List AV)
  | [], [] => some []
  | a :: r, b :: q => match jv g a b, jvs g r q with
    | some x, some l => some (x :: l)
    | _, _ => none
  | _, _ => none
end

theorem asSx_concJ (ρ : Env) {a : AV} {p : STy × Sx} (h : asSx a = some p) : conc ρ a = .tc (.sc (p.1.val (den ρ p.2))) := by
  cases a with
  | tc c => simp only [conc, concT_asSx (t := p.1) (e := p.2) h]
  | _ => simp [asSx] at h

theorem jv_flat {ρ : Env} (hF : ρ.F = iteF) {g : Sx} {x y z : AV} (h : cond (sameA x y) (some x) (match asSx x, asSx y with
    | some (t, a), some (t', b) => cond (decide (t = t')) (some (.tc (.sy t (iteX t g a b)))) none
    | _, _ => none) = some z) : conc ρ z = cond (den ρ g).b (conc ρ x) (conc ρ y) := by
  cases hs : sameA x y with
  | true =>
    rw [hs] at h
    simp only [cond_true, Option.some.injEq] at h
    subst h
    rw [sameA_eq hs]
    cases (den ρ g).b <;> rfl
  | false =>
    rw [hs] at h
    simp only [_root_.cond_false] at h
    split at h
    · rename_i t a t' b h1 h2
      cases ht : decide (t = t') with
      | false => rw [ht] at h; cases h
      | true =>
        rw [ht] at h
        simp only [decide_eq_true_eq] at ht
        subst ht
        simp only [cond_true, Option.some.injEq] at h
        subst h
        rw [asSx_concJ ρ h1, asSx_concJ ρ h2]
        simp only [conc, concT, iteX_val hF]
        cases (den ρ g).b <;> rfl
    · cases h

mutual
theorem jv_ok {ρ : Env} (hF : ρ.F = iteF) {g : Sx} : ∀ (x y : AV) {z : AV}, jv g x y = some z → conc ρ z = cond (den ρ g).b (conc ρ x) (conc ρ y)
  | .agg a, y, z, h => by
    cases y
    case agg b =>
      simp only [jv, Option.map_eq_some_iff] at h
      obtain ⟨l, hl, rfl⟩ := h
      have := jvs_ok hF a b hl
      simp only [conc, this]
      cases (den ρ g).b <;> rfl
    all_goals exact jv_flat hF (by simpa only [jv] using h)
  | .tuple a, y, z, h => by
    cases y
    case tuple b =>
      simp only [jv, Option.map_eq_some_iff] at h
      obtain ⟨l, hl, rfl⟩ := h
      have := jvs_ok hF a b hl
      simp only [conc, this]
      cases (den ρ g).b <;> rfl
    all_goals exact jv_flat hF (by simpa only [jv] using h)
  | .tc _, y, z, h => jv_flat hF (by simpa only [jv] using h)
  | .any, y, z, h => jv_flat hF (by simpa only [jv] using h)
  | .ptr .., y, z, h => jv_flat hF (by simpa only [jv] using h)
  | .vptr .., y, z, h => jv_flat hF (by simpa only [jv] using h)
  | .slice .., y, z, h => jv_flat hF (by simpa only [jv] using h)
  | .map _, y, z, h => jv_flat hF (by simpa only [jv] using h)
  | .func .., y, z, h => jv_flat hF (by simpa only [jv] using h)
theorem jvs_ok {ρ : Env} (hF : ρ.F = iteF) {g : Sx} : ∀ (x y : List AV) {z : List AV}, jvs g x y = some z → concs ρ z = cond (den ρ g).b (concs ρ x) (concs ρ y)
  | [], [], z, h => by
    simp only [jvs, Option.some.injEq] at h
    subst h
    cases (den ρ g).b <;> rfl
  | a :: r, b :: q, z, h => by
    simp only [jvs] at h
    split at h
    · rename_i x l h1 h2
      simp only [Option.some.injEq] at h
      subst h
      simp only [concs, jv_ok hF a b h1, jvs_ok hF r q h2]
      cases (den ρ g).b <;> rfl
    · cases h
  | [], _ :: _, z, h => by simp [jvs] at h
  | _ :: _, [], z, h => by simp [jvs] at h
end

/-- Temporaries; what does not go together is forgotten. -/
def jT (g : Sx) : Tmps → Tmps → Option Tmps
  | [], [] => some []
  | a :: r, b :: q => match jT g r q with
    | some l => some ((match jv g a b with | some x => x | none => .any) :: l)
    | none => none
  | _, _ => none

theorem jT_ok {ρ : Env} (hF : ρ.F = iteF) {g : Sx} : ∀ {x y z : Tmps}, jT g x y = some z → weak (cond (den ρ g).b (concs ρ x) (concs ρ y)) (concs ρ z)
  | [], [], z, h => by
    simp only [jT, Option.some.injEq] at h
    subst h
    cases (den ρ g).b <;> trivial
  | a :: r, b :: q, z, h => by
    simp only [jT] at h
    split at h
    · rename_i l hl
      simp only [Option.some.injEq] at h
      subst h
      have ih := jT_ok hF hl
      cases hj : jv g a b with
      | none =>
        cases hb : (den ρ g).b <;> rw [hb] at ih <;> exact ⟨.inl rfl, ih⟩
      | some x =>
        have h1 := jv_ok hF a b hj
        cases hb : (den ρ g).b <;> rw [hb] at ih h1 <;> exact ⟨.inr h1.symm, ih⟩
    · cases h
  | [], _ :: _, z, h => by simp [jT] at h
  | _ :: _, [], z, h => by simp [jT] at h

/-- Memory: each object the one or the other, cell by cell. -/
def jO (g : Sx) : AObj → AObj → Option AObj
  | .tcells s a, .tcells s' b => cond (sameA (.tc (.sl s a)) (.tc (.sl s' b))) (some (.tcells s a)) (cond (decide (s = s')) ((match mapO2 (jvs g) (a.map tcs) (b.map tcs) with
    | some rows => (mapO asTC rows).map (.tcells s)
    | none => none)) none)
  | .cells s a, .cells s' b => cond (decide (s = s')) ((mapO2 (jvs g) a b).map (.cells s)) none
  | .map [], .map [] => some (.map [])
  | _, _ => none
where
  mapO2 {α β : Type} (f : α → α → Option β) : List α → List α → Option (List β)
    | [], [] => some []
    | a :: r, b :: q => match f a b, mapO2 f r q with
      | some x, some l => some (x :: l)
      | _, _ => none
    | _, _ => none

theorem mapO2_ok {ρ : Env} (hF : ρ.F = iteF) {g : Sx} : ∀ {a b z : List (List AV)}, jO.mapO2 (jvs g) a b = some z → z.map (concs ρ) = cond (den ρ g).b (a.map (concs ρ)) (b.map (concs ρ))
  | [], [], z, h => by
    simp only [jO.mapO2, Option.some.injEq] at h
    subst h
    cases (den ρ g).b <;> rfl
  | a :: r, b :: q, z, h => by
    simp only [jO.mapO2] at h
    split at h
    · rename_i x l h1 h2
      simp only [Option.some.injEq] at h
      subst h
      have i1 := jvs_ok hF a b h1
      have i2 := mapO2_ok hF h2
      simp only [List.map_cons, i1, i2]
      cases (den ρ g).b <;> rfl
    · cases h
  | [], _ :: _, z, h => by simp [jO.mapO2] at h
  | _ :: _, [], z, h => by simp [jO.mapO2] at h

theorem asTC_eq : ∀ {r : List AV} {l : List TC}, asTC r = some l → r = tcs l
  | [], l, h => by simp only [asTC, Option.some.injEq] at h; subst h; rfl
  | a :: r, l, h => by
    cases a <;> simp only [asTC, reduceCtorEq, Option.map_eq_some_iff] at h
    obtain ⟨q, hq, rfl⟩ := h
    rw [asTC_eq hq]
    rfl

theorem mapO_asTC : ∀ {rows : List (List AV)} {l : List (List TC)}, mapO asTC rows = some l → rows = l.map tcs
  | [], l, h => by simp only [mapO, Option.some.injEq] at h; subst h; rfl
  | r :: rows, l, h => by
    simp only [mapO] at h
    split at h
    · rename_i b q h1 h2
      simp only [Option.some.injEq] at h
      subst h
      rw [List.map_cons, asTC_eq h1, mapO_asTC h2]
    · cases h

theorem tcsE_inj {a b : List (List TC)} (h : a.map tcs = b.map tcs) : a = b := map_inj (fun _ _ h => tcs_inj h) h

theorem jO_ok {ρ : Env} (hF : ρ.F = iteF) {g : Sx} {x y z : AObj} (h : jO g x y = some z) : concO ρ z = cond (den ρ g).b (concO ρ x) (concO ρ y) := by
  unfold jO at h
  split at h
  · rename_i s a s' b
    cases hs : sameA (.tc (.sl s a)) (.tc (.sl s' b)) with
    | true =>
      rw [hs] at h
      simp only [cond_true, Option.some.injEq] at h
      subst h
      have := sameA_eq hs
      simp only [AV.tc.injEq, TC.sl.injEq] at this
      obtain ⟨rfl, rfl⟩ := this
      cases (den ρ g).b <;> rfl
    | false =>
      rw [hs] at h
      simp only [_root_.cond_false] at h
      cases hd : decide (s = s') with
      | false => rw [hd] at h; cases h
      | true =>
        rw [hd] at h
        simp only [decide_eq_true_eq] at hd
        subst hd
        simp only [cond_true] at h
        split at h
        · rename_i rows hr
          simp only [Option.map_eq_some_iff] at h
          obtain ⟨l, hl, rfl⟩ := h
          have h1 := mapO2_ok hF hr
          rw [mapO_asTC hl] at h1
          have e : ∀ el : List (List TC), (el.map tcs).map (concs ρ) = (concE ρ el).map tcs := fun el => (concE_tcs ρ el).symm
          rw [e, e, e] at h1
          simp only [concO]
          cases hb : (den ρ g).b <;> rw [hb] at h1 <;> simp only [cond_true, _root_.cond_false] at h1 ⊢ <;> rw [tcsE_inj h1]
        · cases h
  · rename_i s a s' b
    cases hd : decide (s = s') with
    | false => rw [hd] at h; cases h
    | true =>
      rw [hd] at h
      simp only [decide_eq_true_eq] at hd
      subst hd
      simp only [cond_true, Option.map_eq_some_iff] at h
      obtain ⟨l, hl, rfl⟩ := h
      have h1 := mapO2_ok hF hl
      simp only [concO]
      cases hb : (den ρ g).b <;> rw [hb] at h1 <;> simp only [cond_true, _root_.cond_false] at h1 ⊢ <;> rw [h1]
  · simp only [Option.some.injEq] at h
    subst h
    cases (den ρ g).b <;> rfl
  · cases h

def jH (g : Sx) : Heap → Heap → Option Heap
  | [], [] => some []
  | a :: r, b :: q => match jO g a b, jH g r q with
    | some x, some l => some (x :: l)
    | _, _ => none
  | _, _ => none

theorem jH_ok {ρ : Env} (hF : ρ.F = iteF) {g : Sx} : ∀ {x y z : Heap}, jH g x y = some z → concH ρ z = cond (den ρ g).b (concH ρ x) (concH ρ y)
  | [], [], z, h => by
    simp only [jH, Option.some.injEq] at h
    subst h
    cases (den ρ g).b <;> rfl
  | a :: r, b :: q, z, h => by
    simp only [jH] at h
    split at h
    · rename_i x l h1 h2
      simp only [Option.some.injEq] at h
      subst h
      have i1 := jO_ok hF h1
      have i2 := jH_ok hF h2
      simp only [concH] at i2
      simp only [concH, List.map_cons, i1, i2]
      cases (den ρ g).b <;> rfl
    · cases h
  | [], _ :: _, z, h => by simp [jH] at h
  | _ :: _, [], z, h => by simp [jH] at h

/-! ### states -/
structure JS where
  g : Sx
  e : AEx
  T : Tmps
  H : Heap

def sameE_ (a b : AEx) : Bool := decide (encE a = encE b)

/-- The one or the other, by a test; told where 'g' holds. -/
def jOne (sel g : Sx) (s t : JS) : Option JS := cond (sameE_ s.e t.e) (match jT sel s.T t.T, jH sel s.H t.H with
  | some T, some H => some ⟨g, s.e, T, H⟩
  | _, _ => none) none

/-- What code comes to: one of these. -/
def Comes (ρ : Env) (F : JS → Prop) (L : List JS) : Prop := (∃ s ∈ L, (den ρ s.g).b = true) ∧ ∀ s ∈ L, (den ρ s.g).b = true → F s

/-- May objects from n on be forgotten? -/
def lowS (n : Nat) (s : JS) : Bool := s.T.all (lowA 4 n) && (s.H.take n).all (lowObj n)

/-- What is told of a state holds of one that tells less. -/
structure Lax (ρ : Env) (F : JS → Prop) : Prop where
  lax : ∀ s t : JS, s.e = t.e → weak (concs ρ s.T) (concs ρ t.T) → concH ρ s.H = concH ρ t.H → F s → F t
  cut : ∀ (s : JS) (n : Nat), lowS n s = true → n ≤ s.H.length → F s → F { s with H := s.H.take n }

/-- A state that forgets objects from n on. -/
def cutS (n : Nat) (s : JS) : JS := { s with T := s.T.map fun a => cond (lowA 4 n a) a .any, H := s.H.take n }

def jCut (sel g : Sx) (s t : JS) : Nat → Option JS
  | 0 => jOne sel g (cutS 0 s) (cutS 0 t)
  | n + 1 => match cond (((s.H.take (n + 1)).all (lowObj (n + 1))) && ((t.H.take (n + 1)).all (lowObj (n + 1)))) (jOne sel g (cutS (n + 1) s) (cutS (n + 1) t)) none with
    | some u => some u
    | none => jCut sel g s t n

/-- The one or the other; what only one of them has made is forgotten. -/
def jS (sel g : Sx) (s t : JS) : Option JS := cond (sameE_ s.e t.e) (match jOne sel g s t with
  | some u => some u
  | none => jCut sel g s t (min s.H.length t.H.length)) none

theorem jOne_ok {ρ : Env} (hF : ρ.F = iteF) {F : JS → Prop} (hl : Lax ρ F) {sel g : Sx} {s t u : JS} (h : jOne sel g s t = some u) : u.g = g ∧ ((den ρ sel).b = true → F s → F u) ∧ ((den ρ sel).b = false → F t → F u) := by
  unfold jOne at h
  cases he : sameE_ s.e t.e with
  | false => rw [he] at h; cases h
  | true =>
    rw [he] at h
    simp only [sameE_, decide_eq_true_eq] at he
    have he := encE_inj he
    simp only [cond_true] at h
    split at h
    · rename_i T H h1 h2
      simp only [Option.some.injEq] at h
      subst h
      have q1 := jT_ok hF h1
      have q2 := jH_ok hF h2
      refine ⟨rfl, fun hb hs => ?_, fun hb hs => ?_⟩
      · rw [hb] at q1 q2
        exact hl.lax s _ rfl q1 q2.symm hs
      · rw [hb] at q1 q2
        exact hl.lax t _ he.symm q1 q2.symm hs
    · cases h

theorem weak_cut (ρ : Env) (n : Nat) : ∀ T : Tmps, weak (concs ρ T) (concs ρ (T.map fun a => cond (lowA 4 n a) a .any))
  | [] => trivial
  | a :: T => by
    refine ⟨?_, weak_cut ρ n T⟩
    show conc ρ (cond (lowA 4 n a) a .any) = .any ∨ conc ρ a = conc ρ (cond (lowA 4 n a) a .any)
    cases lowA 4 n a with
    | true => exact .inr rfl
    | false => exact .inl rfl

theorem cutS_ok {ρ : Env} {F : JS → Prop} (hl : Lax ρ F) {n : Nat} {s : JS} (hn : n ≤ s.H.length) (hL : (s.H.take n).all (lowObj n) = true) (h : F s) : F (cutS n s) := by
  have h1 : F { s with T := s.T.map fun a => cond (lowA 4 n a) a .any } := hl.lax s _ rfl (weak_cut ρ n s.T) rfl h
  refine hl.cut { s with T := s.T.map fun a => cond (lowA 4 n a) a .any } n ?_ hn h1
  simp only [lowS, Bool.and_eq_true]
  refine ⟨List.all_eq_true.2 fun x hx => ?_, hL⟩
  obtain ⟨a, _, rfl⟩ := List.mem_map.1 hx
  cases ha : lowA 4 n a with
  | true => exact ha
  | false => rfl

theorem jCut_ok {ρ : Env} (hF : ρ.F = iteF) {F : JS → Prop} (hl : Lax ρ F) {sel g : Sx} {s t u : JS} : ∀ {n : Nat}, n ≤ s.H.length → n ≤ t.H.length → jCut sel g s t n = some u → u.g = g ∧ ((den ρ sel).b = true → F s → F u) ∧ ((den ρ sel).b = false → F t → F u)
  | 0, _, _, h => by
    simp only [jCut] at h
    obtain ⟨h1, h2, h3⟩ := jOne_ok hF hl h
    exact ⟨h1, fun hb hs => h2 hb (cutS_ok hl (Nat.zero_le _) rfl hs), fun hb hs => h3 hb (cutS_ok hl (Nat.zero_le _) rfl hs)⟩
  | n + 1, hs, ht, h => by
    simp only [jCut] at h
    split at h
    · rename_i v hv
      simp only [Option.some.injEq] at h
      subst h
      cases hc : (((s.H.take (n + 1)).all (lowObj (n + 1))) && ((t.H.take (n + 1)).all (lowObj (n + 1)))) with
      | false => rw [hc] at hv; cases hv
      | true =>
        rw [hc] at hv
        simp only [Bool.and_eq_true] at hc
        obtain ⟨h1, h2, h3⟩ := jOne_ok hF hl hv
        exact ⟨h1, fun hb hx => h2 hb (cutS_ok hl hs hc.1 hx), fun hb hx => h3 hb (cutS_ok hl ht hc.2 hx)⟩
    · exact jCut_ok hF hl (by omega) (by omega) h

theorem jS_ok {ρ : Env} (hF : ρ.F = iteF) {F : JS → Prop} (hl : Lax ρ F) {sel g : Sx} {s t u : JS} (h : jS sel g s t = some u) : u.g = g ∧ ((den ρ sel).b = true → F s → F u) ∧ ((den ρ sel).b = false → F t → F u) := by
  unfold jS at h
  cases he : sameE_ s.e t.e with
  | false => rw [he] at h; cases h
  | true =>
    rw [he] at h
    simp only [cond_true] at h
    split at h
    · rename_i v hv
      simp only [Option.some.injEq] at h
      subst h
      exact jOne_ok hF hl hv
    · exact jCut_ok hF hl (Nat.min_le_left ..) (Nat.min_le_right ..) h

/-- A state put to others: joined with one of its kind, by its own guard. -/
def putJ (s : JS) : List JS → List JS
  | [] => [s]
  | t :: r => match jS s.g (orX s.g t.g) s t with
    | some u => u :: r
    | none => t :: putJ s r

theorem putJ_ok {ρ : Env} (hF : ρ.F = iteF) {F : JS → Prop} (hl : Lax ρ F) {s : JS} (hs : (den ρ s.g).b = true → F s) : ∀ {L : List JS}, (∀ t ∈ L, (den ρ t.g).b = true → F t) →
    ((∃ t ∈ putJ s L, (den ρ t.g).b = true) ↔ ((den ρ s.g).b = true ∨ ∃ t ∈ L, (den ρ t.g).b = true)) ∧ ∀ t ∈ putJ s L, (den ρ t.g).b = true → F t
  | [], _ => by
    simp only [putJ, List.mem_cons, List.not_mem_nil, or_false, exists_eq_left, false_and, exists_false]
    exact ⟨by simp, fun t ht => by subst ht; exact hs⟩
  | t :: r, h => by
    simp only [putJ]
    split
    · rename_i u hu
      obtain ⟨g1, g2, g3⟩ := jS_ok hF hl hu
      have gd : (den ρ u.g).b = ((den ρ s.g).b || (den ρ t.g).b) := by rw [g1, orX_den]
      refine ⟨?_, fun x hx hb => ?_⟩
      · simp only [List.mem_cons, exists_eq_or_imp, gd, Bool.or_eq_true, or_assoc]
      · rcases List.mem_cons.1 hx with rfl | hx
        · cases hb2 : (den ρ s.g).b with
          | true => exact g2 hb2 (hs hb2)
          | false =>
            rw [gd, hb2] at hb
            exact g3 hb2 (h t (List.mem_cons_self ..) (by simpa using hb))
        · exact h x (List.mem_cons_of_mem _ hx) hb
    · obtain ⟨i1, i2⟩ := putJ_ok hF hl hs (L := r) fun x hx => h x (List.mem_cons_of_mem _ hx)
      refine ⟨?_, fun x hx hb => ?_⟩
      · simp only [List.mem_cons, exists_eq_or_imp, i1]
        constructor
        · rintro (h | h | h)
          · exact .inr (.inl h)
          · exact .inl h
          · exact .inr (.inr h)
        · rintro (h | h | h)
          · exact .inr (.inl h)
          · exact .inl h
          · exact .inr (.inr h)
      · rcases List.mem_cons.1 hx with rfl | hx
        · exact h x (List.mem_cons_self ..) hb
        · exact i2 x hx hb

/-- A test's two ways: joined by the test. -/
def selJ (e : Sx) : List JS → List JS → List JS
  | [], B => B.map fun t => { t with g := andX (notX e) t.g }
  | s :: A, B => match pick s B with
    | some (u, B') => u :: selJ e A B'
    | none => { s with g := andX e s.g } :: selJ e A B
where
  pick (s : JS) : List JS → Option (JS × List JS)
    | [] => none
    | t :: r => match jS e (iteX .bool e s.g t.g) s t with
      | some u => some (u, r)
      | none => match pick s r with
        | some (u, r') => some (u, t :: r')
        | none => none

theorem ite_den (ρ : Env) (e a b : Sx) : (den ρ (iteX .bool e a b)).b = cond (den ρ e).b (den ρ a).b (den ρ b).b := by
  simp only [iteX, orX_den, andX_den, notX_den]
  cases (den ρ e).b <;> cases (den ρ a).b <;> cases (den ρ b).b <;> rfl

theorem pick_ok {ρ : Env} (hF : ρ.F = iteF) {F : JS → Prop} (hl : Lax ρ F) {e : Sx} {s : JS} : ∀ {B : List JS} {u : JS} {B' : List JS}, selJ.pick e s B = some (u, B') →
    ∃ t, t ∈ B ∧ (∀ x, x ∈ B ↔ x = t ∨ x ∈ B') ∧ (den ρ u.g).b = cond (den ρ e).b (den ρ s.g).b (den ρ t.g).b ∧ ((den ρ e).b = true → F s → F u) ∧ ((den ρ e).b = false → F t → F u)
  | [], u, B', h => by simp [selJ.pick] at h
  | t :: r, u, B', h => by
    simp only [selJ.pick] at h
    split at h
    · rename_i v hv
      simp only [Option.some.injEq, Prod.mk.injEq] at h
      obtain ⟨rfl, rfl⟩ := h
      obtain ⟨g1, g2, g3⟩ := jS_ok hF hl hv
      exact ⟨t, List.mem_cons_self .., fun x => List.mem_cons, by rw [g1, ite_den], g2, g3⟩
    · split at h
      · rename_i v r' hr
        simp only [Option.some.injEq, Prod.mk.injEq] at h
        obtain ⟨rfl, rfl⟩ := h
        obtain ⟨t', h1, h2, h3⟩ := pick_ok hF hl hr
        refine ⟨t', List.mem_cons_of_mem _ h1, fun x => ?_, h3⟩
        rw [List.mem_cons, h2, List.mem_cons]
        constructor
        · rintro (h | h | h) <;> simp [h]
        · rintro (h | h | h) <;> simp [h]
      · cases h

theorem selJ_ok {ρ : Env} (hF : ρ.F = iteF) {F : JS → Prop} (hl : Lax ρ F) {e : Sx} : ∀ {A B : List JS}, ((den ρ e).b = true → Comes ρ F A) → ((den ρ e).b = false → Comes ρ F B) →
    ((den ρ e).b = true → ∀ s ∈ A, (den ρ s.g).b = true → F s) → Comes ρ F (selJ e A B) := by
  intro A
  suffices key : ∀ {A B : List JS}, ((den ρ e).b = true → ∀ s ∈ A, (den ρ s.g).b = true → F s) → ((den ρ e).b = false → ∀ s ∈ B, (den ρ s.g).b = true → F s) →
      ((∃ u ∈ selJ e A B, (den ρ u.g).b = true) ↔ cond (den ρ e).b (∃ s ∈ A, (den ρ s.g).b = true) (∃ s ∈ B, (den ρ s.g).b = true)) ∧ ∀ u ∈ selJ e A B, (den ρ u.g).b = true → F u by
    intro B h1 h2 _
    obtain ⟨k1, k2⟩ := key (A := A) (B := B) (fun h => (h1 h).2) (fun h => (h2 h).2)
    refine ⟨k1.2 ?_, k2⟩
    cases hb : (den ρ e).b with
    | true => exact (h1 hb).1
    | false => exact (h2 hb).1
  intro A
  induction A with
  | nil =>
    intro B h1 h2
    simp only [selJ, List.mem_map, List.not_mem_nil, false_and, exists_false]
    refine ⟨?_, ?_⟩
    · constructor
      · rintro ⟨u, ⟨t, ht, rfl⟩, hb⟩
        simp only [andX_den, notX_den, Bool.and_eq_true, Bool.not_eq_true'] at hb
        rw [hb.1]
        exact ⟨t, ht, hb.2⟩
      · intro h
        cases hb : (den ρ e).b with
        | true => rw [hb] at h; exact h.elim
        | false =>
          rw [hb] at h
          obtain ⟨t, ht, h⟩ := h
          exact ⟨_, ⟨t, ht, rfl⟩, by simp only [andX_den, notX_den, hb, h]; rfl⟩
    · rintro u ⟨t, ht, rfl⟩ hb
      simp only [andX_den, notX_den, Bool.and_eq_true, Bool.not_eq_true'] at hb
      exact hl.lax t _ rfl (by
        have key : ∀ l : List AV, weak l l := fun l => by
          induction l with
          | nil => trivial
          | cons a l ih => exact ⟨.inr rfl, ih⟩
        exact key _) rfl (h2 hb.1 t ht hb.2)
  | cons s A ih =>
    intro B h1 h2
    simp only [selJ]
    split
    · rename_i u B' hp
      obtain ⟨t, t1, t2, t3, t4, t5⟩ := pick_ok hF hl hp
      obtain ⟨i1, i2⟩ := ih (B := B') (fun h x hx => h1 h x (List.mem_cons_of_mem _ hx)) (fun h x hx => h2 h x ((t2 x).2 (.inr hx)))
      refine ⟨?_, fun x hx hb => ?_⟩
      · simp only [List.mem_cons, exists_eq_or_imp, i1, t3]
        cases hb : (den ρ e).b with
        | true => simp only [cond_true]
        | false =>
          simp only [_root_.cond_false]
          constructor
          · rintro (h | ⟨x, hx, h⟩)
            · exact ⟨t, t1, h⟩
            · exact ⟨x, (t2 x).2 (.inr hx), h⟩
          · rintro ⟨x, hx, h⟩
            rcases (t2 x).1 hx with rfl | hx
            · exact .inl h
            · exact .inr ⟨x, hx, h⟩
      · rcases List.mem_cons.1 hx with rfl | hx
        · cases he : (den ρ e).b with
          | true =>
            rw [t3, he] at hb
            exact t4 he (h1 he s (List.mem_cons_self ..) hb)
          | false =>
            rw [t3, he] at hb
            exact t5 he (h2 he t t1 hb)
        · exact i2 x hx hb
    · obtain ⟨i1, i2⟩ := ih (B := B) (fun h x hx => h1 h x (List.mem_cons_of_mem _ hx)) h2
      refine ⟨?_, fun x hx hb => ?_⟩
      · simp only [List.mem_cons, exists_eq_or_imp, i1, andX_den]
        cases hb : (den ρ e).b with
        | true => simp
        | false => simp
      · rcases List.mem_cons.1 hx with rfl | hx
        · simp only [andX_den, Bool.and_eq_true] at hb
          refine hl.lax s _ rfl ?_ rfl (h1 hb.1 s (List.mem_cons_self ..) hb.2)
          have key : ∀ l : List AV, weak l l := fun l => by
            induction l with
            | nil => trivial
            | cons a l ih => exact ⟨.inr rfl, ih⟩
          exact key _
        · exact i2 x hx hb

/-- One state alone is come to whatever holds; of two, the second where the first is not. -/
def tidyJ : List JS → List JS
  | [s] => [{ s with g := .lb true }]
  | [s, t] => [s, { t with g := notX s.g }]
  | L => L

theorem weak_refl : ∀ l : List AV, weak l l
  | [] => trivial
  | _ :: l => ⟨.inr rfl, weak_refl l⟩

theorem tidyJ_ok {ρ : Env} {F : JS → Prop} (hl : Lax ρ F) {L : List JS} (h : Comes ρ F L) : Comes ρ F (tidyJ L) := by
  unfold tidyJ
  split
  · rename_i s
    obtain ⟨⟨x, hx, hb⟩, h2⟩ := h
    simp only [List.mem_cons, List.not_mem_nil, or_false] at hx
    subst hx
    refine ⟨⟨_, List.mem_cons_self .., rfl⟩, fun u hu _ => ?_⟩
    simp only [List.mem_cons, List.not_mem_nil, or_false] at hu
    subst hu
    exact hl.lax x _ rfl (weak_refl _) rfl (h2 x (List.mem_cons_self ..) hb)
  · rename_i s t
    obtain ⟨⟨x, hx, hb⟩, h2⟩ := h
    cases hs : (den ρ s.g).b with
    | true =>
      refine ⟨⟨s, List.mem_cons_self .., hs⟩, fun u hu hb => ?_⟩
      simp only [List.mem_cons, List.not_mem_nil, or_false] at hu
      rcases hu with rfl | rfl
      · exact h2 u (List.mem_cons_self ..) hb
      · simp only [notX_den, hs] at hb
        cases hb
    | false =>
      have ht : x = t := by
        simp only [List.mem_cons, List.not_mem_nil, or_false] at hx
        rcases hx with rfl | rfl
        · rw [hs] at hb; cases hb
        · rfl
      subst ht
      refine ⟨⟨{ x with g := notX s.g }, by simp, by simp only [notX_den, hs]; rfl⟩, fun u hu hb2 => ?_⟩
      simp only [List.mem_cons, List.not_mem_nil, or_false] at hu
      rcases hu with rfl | rfl
      · rw [hs] at hb2; cases hb2
      · exact hl.lax x _ rfl (weak_refl _) rfl (h2 x (by simp) hb)
  · exact h
end Go.Proofs.Ytamhmfdbnlkmkaa
