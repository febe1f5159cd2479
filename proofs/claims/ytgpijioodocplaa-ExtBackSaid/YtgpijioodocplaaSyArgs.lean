/- Arguments that are structs of scalars: what they are, as values. -/
import Derived.Test.YtgpijioodocplaaSyTrue
import Derived.ChangeShapes
import Derived.ChangeArms
import Derived.RowKit
set_option linter.unusedVariables false
namespace Go.Proofs.Ytgpijioodocplaa
open Go Go.RowKit

variable {H : Type} {P : Program} {w : World}

/-- Values of kinds. -/
def Typed : List STy → List Value → Prop
  | [], [] => True
  | .int k :: ts, v :: vs => (∃ n, v = .int k n ∧ k.min ≤ n ∧ n ≤ k.max) ∧ Typed ts vs
  | .bool :: ts, v :: vs => (∃ b, v = .bool b) ∧ Typed ts vs
  | .str :: ts, v :: vs => (∃ s, v = .string s ∧ s.size ≤ maxLen) ∧ Typed ts vs
  | _, _ => False

/-- A type's kind, if it is a scalar's. -/
def kindOf (P : Program) (t : TypeId) : Option STy :=
  match P.underlying t with
  | some (.int k) => some (.int k)
  | some .bool => some .bool
  | some .string => some .str
  | _ => none

/-- The kinds of fields that stand one behind the other. -/
def flatKinds (P : Program) : List Field → Nat → Option (List STy)
  | [], _ => some []
  | f :: r, i => match decide (f.offset = i) && decide (P.cellsOf f.type = 1), kindOf P f.type, flatKinds P r (i + 1) with
    | true, some k, some l => some (k :: l)
    | _, _, _ => none

theorem one_typed {enc : TypeId × Value → H} {spare : Nat → Bool} {held : Bool} {fuel : Nat} {t : TypeId} {cs : List Value} {x : DataW H × List MemPlace} {k : STy} (hk : kindOf P t = some k)
    (h : DataW.trod enc P w 0 spare held fuel t cs = some x) : ∃ v, cs = [v] ∧ Typed [k] [v] := by
  unfold kindOf at hk
  split at hk
  · rename_i kk hu
    simp only [Option.some.injEq] at hk
    subst hk
    obtain ⟨n, rfl, _, hw⟩ := DataW.trod_int hu h
    simp only [Lit.wf, Bool.and_eq_true, decide_eq_true_eq] at hw
    exact ⟨_, rfl, ⟨n, rfl, hw.1, hw.2⟩, trivial⟩
  · rename_i hu
    simp only [Option.some.injEq] at hk
    subst hk
    obtain ⟨b, rfl, _⟩ := DataW.trod_bool hu h
    exact ⟨_, rfl, ⟨b, rfl⟩, trivial⟩
  · rename_i hu
    simp only [Option.some.injEq] at hk
    subst hk
    obtain ⟨s, rfl, _, hs⟩ := DataW.trod_string hu h
    exact ⟨_, rfl, ⟨s, rfl, hs⟩, trivial⟩
  · cases hk

theorem Typed.cons {k : STy} {ks : List STy} {v : Value} {vs : List Value} (h : Typed [k] [v]) (hr : Typed ks vs) : Typed (k :: ks) (v :: vs) := by
  cases k <;> exact ⟨h.1, hr⟩

theorem flat_typed {enc : TypeId × Value → H} {spare : Nat → Bool} {held : Bool} {fuel : Nat} {cs : List Value} {xs : List (DataW H × List MemPlace)} : ∀ {fs : List Field} {i : Nat} {ks : List STy},
    flatKinds P fs i = some ks → (∀ (j : Nat) (f : Field), fs[j]? = some f → ∃ x, DataW.trod enc P w 0 spare held fuel f.type ((cs.drop f.offset).take (P.cellsOf f.type)) = some x) →
    cs.length = i + fs.length → Typed ks (cs.drop i)
  | [], i, ks, hk, hf, hl => by
    simp only [flatKinds, Option.some.injEq] at hk
    subst hk
    have : cs.drop i = [] := List.drop_eq_nil_of_le (by simp at hl; omega)
    rw [this]; trivial
  | f :: r, i, ks, hk, hf, hl => by
    simp only [flatKinds] at hk
    split at hk
    · rename_i k l h1 h2 h3
      simp only [Option.some.injEq] at hk
      subst hk
      simp only [Bool.and_eq_true, decide_eq_true_eq] at h1
      obtain ⟨x, hx⟩ := hf 0 f rfl
      obtain ⟨v, hv, ht⟩ := one_typed h2 hx
      rw [h1.1, h1.2] at hv
      have hr := flat_typed (xs := xs) h3 (fun j g hg => hf (j + 1) g (by simpa using hg)) (by simp at hl; omega)
      have hlt : i < cs.length := by simp at hl; omega
      rw [List.drop_eq_getElem_cons hlt] at hv ⊢
      simp only [List.take_succ_cons, List.take_zero, List.cons.injEq, and_true] at hv
      rw [hv]
      exact ht.cons hr
    · cases hk

/-- A struct of scalars. -/
theorem open_flat {enc : TypeId × Value → H} {spare : Nat → Bool} {held : Bool} {r : Reach} {b0 : Nat} {t : TypeId} {v : Value} {d : DataW H} {ps : List MemPlace} {fs : Array Field} {ks : List STy} (ht : P.underlying t = some (.struct fs))
    (hk : flatKinds P fs.toList 0 = some ks) (hc : P.cellsOf t = fs.size) (hval : Value.okWide P w r b0 t v) (hd : DataW.Trod enc P w 0 spare held t v d ps) : ∃ l : List Value, v = .agg l.toArray ∧ Typed ks l := by
  unfold Value.okWide at hval
  rw [ht] at hval
  obtain ⟨cs, rfl, _, _⟩ := hval
  obtain ⟨fuel, hf⟩ := hd
  obtain ⟨xs, n, _, _, h1, h2, h3⟩ := DataW.trod_struct ht hf
  refine ⟨cs.toList, by simp, ?_⟩
  have hcells : (Value.agg cs).cells.toList = cs.toList := rfl
  rw [hcells] at h1 h3
  have := flat_typed (xs := xs) (cs := cs.toList) hk (fun j f hj => by
    have hj' : fs[j]? = some f := by simpa using hj
    have hlt : j < xs.length := by rw [h2]; exact (Array.getElem?_eq_some_iff.1 hj').1
    exact ⟨xs[j], by rw [h3 j f hj']; exact List.getElem?_eq_getElem hlt⟩) (by rw [h1, hc]; simp)
  simpa using this

theorem one_world {enc : TypeId × Value → H} {w' : World} {b b' : Nat} {sp sp' : Nat → Bool} {held held' : Bool} {fuel : Nat} {t : TypeId} {cs : List Value} {k : STy} (hk : kindOf P t = some k) :
    DataW.trod enc P w b sp held fuel t cs = DataW.trod enc P w' b' sp' held' fuel t cs := by
  cases fuel with
  | zero => rfl
  | succ n =>
    unfold kindOf at hk
    split at hk
    · rename_i hu; unfold DataW.trod; rw [hu]; simp only
      cases cs with
      | nil => rfl
      | cons v r => cases v <;> cases r <;> rfl
    · rename_i hu; unfold DataW.trod; rw [hu]; simp only
      cases cs with
      | nil => rfl
      | cons v r => cases v <;> cases r <;> rfl
    · rename_i hu; unfold DataW.trod; rw [hu]; simp only
      cases cs with
      | nil => rfl
      | cons v r => cases v <;> cases r <;> rfl
    · cases hk

theorem flatKinds_mem : ∀ {fs : List Field} {i : Nat} {ks : List STy}, flatKinds P fs i = some ks → ∀ f, f ∈ fs → ∃ k, kindOf P f.type = some k
  | [], _, _, _, f, hf => by cases hf
  | g :: r, i, ks, hk, f, hf => by
    simp only [flatKinds] at hk
    split at hk
    · rename_i k l h1 h2 h3
      rcases List.mem_cons.1 hf with rfl | hf
      · exact ⟨k, h2⟩
      · exact flatKinds_mem h3 f hf
    · cases hk

theorem mapM_same {α β : Type} {f g : α → Option β} : ∀ (l : List α), (∀ a, a ∈ l → f a = g a) → l.mapM f = l.mapM g
  | [], _ => rfl
  | a :: r, h => by
    simp only [List.mapM_cons, h a (List.mem_cons_self ..), mapM_same r fun x hx => h x (List.mem_cons_of_mem _ hx)]

/-- A struct of scalars reads the same in any world. -/
theorem flat_world {enc : TypeId × Value → H} {w' : World} {b b' : Nat} {sp sp' : Nat → Bool} {held held' : Bool} {t : TypeId} {v : Value} {d : DataW H} {ps : List MemPlace} {fs : Array Field} {ks : List STy} (ht : P.underlying t = some (.struct fs))
    (hk : flatKinds P fs.toList 0 = some ks) (hd : DataW.Trod enc P w b sp held t v d ps) : DataW.Trod enc P w' b' sp' held' t v d ps := by
  obtain ⟨fuel, hf⟩ := hd
  refine ⟨fuel, ?_⟩
  cases fuel with
  | zero => simp [DataW.trod] at hf
  | succ n =>
    unfold DataW.trod at hf ⊢
    rw [ht] at hf ⊢
    simp only at hf ⊢
    rw [← hf]
    rw [mapM_same fs.toList fun f hm => by
      obtain ⟨k, hk'⟩ := flatKinds_mem hk f hm
      exact one_world (w' := w) (b' := b) (sp' := sp) (held' := held) hk']

/-- A struct of scalars, as it lies. -/
theorem relA_scs [Obs] (Pb : Nat → Prop) (μ : Mu) (w : World) (vs : Array Value) : Rel Pb μ w (.agg (scs vs.toList)) (.agg vs) := .agg _ _ (rel_scs Pb μ w vs).1 (rel_scs Pb μ w vs).2

/-- Functions that stand for nothing. -/
def FF0 : Nat → List Value → Value := fun _ _ => undef
end Go.Proofs.Ytgpijioodocplaa
