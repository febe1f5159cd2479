/- What a run comes to is one thing: for these values of the variables it hands on one value, whatever is done with it. -/
import Derived.Test.YtgpijioodocplaaSyCode
set_option linter.unusedVariables false
set_option linter.unusedSectionVars false
set_option linter.unusedSimpArgs false
namespace Go.Proofs.Ytgpijioodocplaa
open Go Go.RowKit
variable [Obs]

def Det {α : Type} (f : (α → Out) → Out) : Prop := ∀ k : α → Out, Ok (f k) → ∃ x, Ok (k x) ∧ ∀ k' : α → Out, Ok (k' x) → Ok (f k')
def Det2 {α β : Type} (f : (α → β → Out) → Out) : Prop := ∀ k : α → β → Out, Ok (f k) → ∃ x y, Ok (k x y) ∧ ∀ k' : α → β → Out, Ok (k' x y) → Ok (f k')
def Det3 {α β γ : Type} (f : (α → β → γ → Out) → Out) : Prop := ∀ k : α → β → γ → Out, Ok (f k) → ∃ x y z, Ok (k x y z) ∧ ∀ k' : α → β → γ → Out, Ok (k' x y z) → Ok (f k')

theorem det_k {α : Type} (x : α) : Det (fun k => k x) := fun k h => ⟨x, h, fun _ h' => h'⟩
theorem det_fail {α : Type} : Det (fun _ : α → Out => .fail) := fun k h => h.elim
theorem det_cond {α : Type} {c : Bool} {f g : (α → Out) → Out} (hf : Det f) (hg : Det g) : Det (fun k => cond c (f k) (g k)) := by
  cases c
  · exact hg
  · exact hf
theorem det_sel {α : Type} {e : Sx} {f g : (α → Out) → Out} (hf : Det f) (hg : Det g) : Det (fun k => .sel e (f k) (g k)) := by
  intro k h
  rcases sel_ok h with ⟨he, h⟩ | ⟨he, h⟩
  · obtain ⟨x, h1, h2⟩ := hf k h
    exact ⟨x, h1, fun k' h' => by show cond (dv e).b _ _; rw [he]; exact h2 k' h'⟩
  · obtain ⟨x, h1, h2⟩ := hg k h
    exact ⟨x, h1, fun k' h' => by show cond (dv e).b _ _; rw [he]; exact h2 k' h'⟩
theorem det_bind {α β : Type} {f : (α → Out) → Out} {g : α → (β → Out) → Out} (hf : Det f) (hg : ∀ x, Det (g x)) : Det (fun k => f fun x => g x k) := by
  intro k h
  obtain ⟨x, h1, h2⟩ := hf _ h
  obtain ⟨y, h3, h4⟩ := hg x k h1
  exact ⟨y, h3, fun k' h' => h2 _ (h4 k' h')⟩
theorem det_of {α : Type} {f g : (α → Out) → Out} (h : ∀ k, f k = g k) (hg : Det g) : Det f := by
  have : f = g := funext h
  rw [this]; exact hg

theorem det2_k {α β : Type} (x : α) (y : β) : Det2 (fun k => k x y) := fun k h => ⟨x, y, h, fun _ h' => h'⟩
theorem det2_fail {α β : Type} : Det2 (fun _ : α → β → Out => .fail) := fun k h => h.elim
theorem det2_cond {α β : Type} {c : Bool} {f g : (α → β → Out) → Out} (hf : Det2 f) (hg : Det2 g) : Det2 (fun k => cond c (f k) (g k)) := by
  cases c
  · exact hg
  · exact hf
theorem det2_bind {α β γ : Type} {f : (α → Out) → Out} {g : α → (β → γ → Out) → Out} (hf : Det f) (hg : ∀ x, Det2 (g x)) : Det2 (fun k => f fun x => g x k) := by
  intro k h
  obtain ⟨x, h1, h2⟩ := hf _ h
  obtain ⟨y, z, h3, h4⟩ := hg x k h1
  exact ⟨y, z, h3, fun k' h' => h2 _ (h4 k' h')⟩

section
variable {C : Ctx} {H : Heap} {T : Look}

theorem det_condA {α : Type} {c : AV} {f g : (α → Out) → Out} (hf : Det f) (hg : Det g) : Det (fun k => condA c (f k) (g k)) := by
  unfold condA
  cases c with
  | tc c => cases c with
    | sc v => cases v <;> first | exact det_cond hf hg | exact det_fail
    | sl s el => exact det_fail
    | sy t e => cases t <;> first | exact det_sel hf hg | exact det_fail
  | _ => exact det_fail

theorem det_enumA {e : Sx} : ∀ (n i : Nat), Det (fun k => enumA e k i n)
  | 0, i => det_fail
  | n + 1, i => det_sel (det_k _) (det_enumA n (i + 1))

theorem det_withIdx {x : AV} {n : Nat} : Det (withIdx x n) := by
  unfold withIdx
  cases x with
  | tc c => cases c with
    | sc v => cases v <;> first | exact det_k _ | exact det_fail
    | sl s el => exact det_fail
    | sy t e => cases t <;> first | exact det_enumA _ _ | exact det_fail
  | _ => exact det_fail

theorem det_intOp {op : BinOp} {kx ky : IntKind} {a b : Sx} : Det (intOp op kx a ky b) := by
  unfold intOp
  cases op <;> first | exact det_sel det_fail (det_k _) | exact det_cond (det_sel det_fail (det_k _)) det_fail | exact det_cond (det_k _) det_fail

theorem det_strOp {op : BinOp} {a b : Sx} : Det (strOp op a b) := by
  unfold strOp
  cases op <;> first | exact det_k _ | exact det_fail

theorem det_boolOp {op : BinOp} {a b : Sx} : Det (boolOp op a b) := by
  unfold boolOp
  cases op <;> first | exact det_k _ | exact det_fail

theorem det_symOp {o : Oper} : Det (symOp C o T) := by
  intro k h
  unfold symOp at h ⊢
  split at h
  all_goals first | exact h.elim | skip
  all_goals (repeat' (split at h))
  all_goals first
    | exact h.elim
    | exact ⟨_, h, fun _ h' => h'⟩
    | exact det_intOp k h
    | exact det_strOp k h
    | exact det_boolOp k h
    | exact det_sel (f := fun _ => .fail) det_fail (det_sel (det_k _) det_fail) k h
    | exact det_sel (f := fun _ => .fail) det_fail (det_sel (det_sel (det_k _) det_fail) det_fail) k h

theorem det_genOp {o : Oper} : Det (genOp C o T) := by
  intro k h
  unfold genOp at h ⊢
  split at h
  · exact det_symOp k h
  · split at h
    · exact ⟨_, h, fun _ h' => h'⟩
    · exact h.elim

theorem det_eqNil {t : TypeDesc} {x y : AV} : Det (eqNil t x y) := by
  intro k h
  unfold eqNil at h ⊢
  (repeat' (split at h))
  all_goals first
    | exact h.elim
    | exact ⟨_, h, fun _ h' => h'⟩

theorem det_loadA {t : TI} {a : AV} : Det (loadA H t a) := by
  intro k h
  unfold loadA at h ⊢
  split at h
  · split at h
    · obtain ⟨hc, h⟩ := cond_false h
      simp only [hc, cond_true]
      (repeat' (split at h)) <;> first | exact h.elim | exact ⟨_, h, fun _ h' => h'⟩
    · obtain ⟨hc, h⟩ := cond_false h
      simp only [hc, cond_true]
      (repeat' (split at h)) <;> first | exact h.elim | exact ⟨_, h, fun _ h' => h'⟩
    · exact h.elim
  · (repeat' (split at h)) <;> first | exact h.elim | exact ⟨_, h, fun _ h' => h'⟩
  · exact h.elim

theorem det_indexA {t : TI} {e : Option TI} {x i : AV} : Det (indexA t e x i) := by
  intro k h
  unfold indexA at h ⊢
  (repeat' (split at h))
  all_goals first
    | exact h.elim
    | exact det_bind det_withIdx (fun n => det_cond (det_k _) det_fail) k h

theorem det_fieldAddrA {t : TI} {x : AV} {fd : Nat} : Det (fieldAddrA C t x fd) := by
  intro k h
  unfold fieldAddrA at h ⊢
  split at h
  · split at h
    · split at h
      · obtain ⟨hc, h⟩ := cond_false h
        simp only [hc, cond_true]
        (repeat' (split at h)) <;> first | exact h.elim | exact ⟨_, h, fun _ h' => h'⟩
      · exact h.elim
    · exact h.elim
  · exact h.elim

theorem det_partA {t : TI} {cs : List AV} {off : Nat} : Det (partA t cs off) := by
  intro k h
  unfold partA at h ⊢
  (repeat' (split at h)) <;> first | exact h.elim | exact ⟨_, h, fun _ h' => h'⟩

theorem det_fieldA {t : TI} {x : AV} {fd : Nat} : Det (fieldA C t x fd) := by
  intro k h
  unfold fieldA at h ⊢
  (repeat' (split at h)) <;> first | exact h.elim | exact det_partA k h

theorem det_boundA {d : Int} {x : Option AV} : Det (boundA d x) := by
  intro k h
  unfold boundA at h ⊢
  (repeat' (split at h)) <;> first | exact h.elim | exact ⟨_, h, fun _ h' => h'⟩

theorem det_sliceA {t et : TI} {x : AV} {lo hi mx : Option AV} : Det (sliceA t et x lo hi mx) := by
  intro k h
  unfold sliceA at h ⊢
  (repeat' (split at h))
  all_goals first
    | exact h.elim
    | exact det_bind det_boundA (fun _ => det_bind det_boundA fun _ => det_cond (det_k _) det_fail) k h
    | exact det_bind det_boundA (fun _ => det_bind det_boundA fun _ => det_bind det_boundA fun _ => det_cond (det_k _) det_fail) k h

theorem det_lenA {x : AV} : Det (lenA x) := by
  intro k h
  unfold lenA at h ⊢
  (repeat' (split at h)) <;> first | exact h.elim | exact ⟨_, h, fun _ h' => h'⟩

theorem det_capA {x : AV} : Det (capA x) := by
  intro k h
  unfold capA at h ⊢
  (repeat' (split at h)) <;> first | exact h.elim | exact ⟨_, h, fun _ h' => h'⟩

theorem det_aggOp {op : BinOp} {e : Sx} : Det (aggOp op e) := by
  intro k h
  unfold aggOp at h ⊢
  (repeat' (split at h)) <;> first | exact h.elim | exact ⟨_, h, fun _ h' => h'⟩

theorem det_bytesStr {s d : TypeId} {x : AV} : Det (bytesStr C H s d x) := by
  intro k h
  unfold bytesStr at h ⊢
  split at h
  · split at h
    · split at h
      · obtain ⟨hc, h⟩ := cond_false h
        simp only [hc, cond_true]
        split at h
        · exact ⟨_, h, fun _ h' => h'⟩
        · exact h.elim
      · exact h.elim
    · exact h.elim
  · exact h.elim

theorem det_qop {o : Oper} : Det (qop C o T H) := by
  intro k h
  unfold qop at h ⊢
  split at h
  all_goals (repeat' (split at h))
  all_goals first
    | exact h.elim
    | exact ⟨_, h, fun _ h' => h'⟩
    | exact det_condA (det_k _) (det_k _) k h
    | exact det_loadA k h
    | exact det_fieldAddrA k h
    | exact det_fieldA k h
    | exact det_indexA k h
    | exact det_genOp k h
    | exact det_symOp k h
    | exact det_sliceA k h
    | exact det_lenA k h
    | exact det_capA k h
    | exact det_bytesStr k h
    | exact det_aggOp k h
    | exact det_bind det_eqNil (fun b => det_k _) k h
    | exact det_cond det_genOp det_fail k h

theorem det_buildA {t : TI} {ps : List (Nat × AV)} : Det (buildA C t ps) := by
  intro k h
  unfold buildA at h ⊢
  split at h
  · obtain ⟨hc, h⟩ := cond_false h
    simp only [hc, cond_true]
    (repeat' (split at h)) <;> first | exact h.elim | exact ⟨_, h, fun _ h' => h'⟩
  · (repeat' (split at h)) <;> first | exact h.elim | exact ⟨_, h, fun _ h' => h'⟩
  · exact h.elim

theorem det_buildSliceA {t : TI} {n : Nat} {ps : List (Nat × AV)} : Det2 (buildSliceA C t n ps H) := by
  intro k h
  unfold buildSliceA at h ⊢
  split at h
  · split at h
    · split at h
      · obtain ⟨hc, h⟩ := cond_false h
        simp only [hc, cond_true]
        split at h
        · exact ⟨_, _, h, fun _ h' => h'⟩
        · exact h.elim
      · exact h.elim
    · exact h.elim
  · exact h.elim

theorem det_allocA {t : TI} {cs : List AV} : Det2 (allocA t cs H) := by
  unfold allocA
  exact det2_cond (det2_k _ _) det2_fail

theorem det_storeA {t : TI} {a v : AV} : Det (storeA t a v H) := by
  intro k h
  unfold storeA at h ⊢
  split at h
  · split at h
    · obtain ⟨hc, h⟩ := cond_false h
      simp only [hc, cond_true]
      split at h
      · exact h.elim
      · obtain ⟨hc2, h⟩ := cond_false h
        simp only [hc2, cond_true]
        split at h <;> exact ⟨_, h, fun _ h' => h'⟩
    · obtain ⟨hc, h⟩ := cond_false h
      simp only [hc, cond_true]
      split at h
      · exact h.elim
      · obtain ⟨hc2, h⟩ := cond_false h
        simp only [hc2, cond_true]
        exact ⟨_, h, fun _ h' => h'⟩
    · exact h.elim
  · exact h.elim

theorem det_makeSliceA {t : TI} {l c : AV} : Det2 (makeSliceA C t l c H) := by
  intro k h
  unfold makeSliceA at h ⊢
  (repeat' (split at h)) <;> first | exact h.elim | exact det2_cond (det2_k _ _) det2_fail k h

theorem det_srcRows {et : TI} {zs : Bool} {z : List TC} {x : AV} : Det (srcRows H et zs z x) := by
  intro k h
  unfold srcRows at h ⊢
  (repeat' (split at h)) <;> first | exact h.elim | exact ⟨_, h, fun _ h' => h'⟩ | exact det_cond (det_k _) det_fail k h

theorem det_appendA {et : TI} {s : AV} {rows : List (List AV)} : Det2 (appendA et s rows H) := by
  intro k h
  unfold appendA at h ⊢
  (repeat' (split at h))
  all_goals first
    | exact h.elim
    | exact ⟨_, _, h, fun _ h' => h'⟩
    | exact det2_cond (det2_k _ _) det2_fail k h
    | exact det2_cond (det2_cond (det2_k _ _) (det2_cond (det2_k _ _) (det2_cond (det2_k _ _) det2_fail))) det2_fail k h

theorem det_findA {key : Value} : ∀ (es : List (Value × AV)) (i : Nat), Det (findA key es i)
  | [], i => det_k _
  | (q, v) :: r, i => by
    intro k h
    unfold findA at h ⊢
    split at h
    · exact det_cond (det_k _) (det_findA r (i + 1)) k h
    · exact h.elim

theorem det_lookDone {ok : Bool} {z : Value} {x : Option (Nat × AV)} : Det (fun k => lookDone ok z k x) := by
  intro k h
  simp only [lookDone] at h ⊢
  (repeat' (split at h)) <;> exact ⟨_, h, fun _ h' => h'⟩

theorem det_lookIn {m : AV} {kv : Value} : Det (lookIn m H kv) := by
  intro k h
  unfold lookIn at h ⊢
  (repeat' (split at h)) <;> first | exact h.elim | exact ⟨_, h, fun _ h' => h'⟩ | exact det_findA _ _ k h

theorem det_lookupA {t : TI} {m key : AV} {ok : Bool} : Det (lookupA C t m key ok H) := by
  intro k h
  unfold lookupA at h ⊢
  split at h
  · split at h
    · obtain ⟨hc, h⟩ := cond_false h
      simp only [hc, cond_true]
      split at h
      · exact det_bind det_lookIn (fun x => det_lookDone) k h
      · exact h.elim
    · exact h.elim
  · exact h.elim

theorem det_mapUpdateA {t : TI} {m key v : AV} : Det (mapUpdateA C t m key v H) := by
  intro k h
  unfold mapUpdateA at h ⊢
  split at h
  · split at h
    · obtain ⟨hc, h⟩ := cond_false h
      simp only [hc, cond_true]
      refine det_bind (det_findA _ _) (fun x => ?_) k h
      cases x with
      | none => exact det_k _
      | some p => exact det_k _
    · exact h.elim
  · exact h.elim
end

theorem det_externA {as : List AV} : Det (externA as) := by
  intro k h
  unfold externA at h ⊢
  (repeat' (split at h)) <;> first | exact h.elim | exact ⟨_, h, fun _ h' => h'⟩

def DetC (call : Caller) : Prop := ∀ f args H, Det2 (call f args H)

section
variable {C : Ctx} {H : Heap} {T : Look} {call : Caller}

theorem det_callPure (hc : DetC call) {f : FuncId} {args : List AV} : Det (callPure call f args) := by
  intro k h
  unfold callPure at h ⊢
  obtain ⟨r, H', h1, h2⟩ := hc f args [] _ h
  split at h1
  · rename_i t ht
    exact ⟨t, h1, fun k' h' => h2 _ (by simp only [ht]; exact h')⟩
  · exact h1.elim

theorem det_callT (hc : DetC call) {f : FuncId} {args : List AV} : Det (callT C call f args) := by
  intro k h
  unfold callT at h ⊢
  (repeat' (split at h)) <;> first | exact h.elim | exact ⟨_, h, fun _ h' => h'⟩ | exact det_callPure hc k h

theorem det_callA (hc : DetC call) {f : FuncId} {args : List AV} : Det2 (callA C call f args H) := by
  intro k h
  unfold callA at h ⊢
  split at h
  · split at h
    · exact det2_bind (det_callT hc) (fun r => det2_k r H) k h
    · cases hflt : C.flat f with
      | false =>
        rw [hflt] at h
        exact hc _ _ _ k h
      | true =>
        rw [hflt] at h
        simp only [_root_.cond_true] at h ⊢
        split at h
        · exact det2_bind (det_callT hc) (fun r => det2_cond (det2_k r H) det2_fail) k h
        · exact h.elim
  · exact hc _ _ _ k h

theorem aopF_eq {o : Oper} {k : AV → Heap → Out} : aopF C call o T H k = aop C call o T H k := rfl

theorem det_aop (hc : DetC call) {o : Oper} : Det2 (aop C call o T H) := by
  intro k h
  unfold aop at h ⊢
  split at h
  all_goals (repeat' (split at h))
  all_goals first
    | exact h.elim
    | exact ⟨_, _, h, fun _ h' => h'⟩
    | exact det_allocA k h
    | exact det2_bind det_buildA (fun v => det2_k v H) k h
    | exact det_buildSliceA k h
    | exact det2_bind det_storeA (fun H' => det2_k undefA H') k h
    | exact det_makeSliceA k h
    | exact det2_bind det_lookupA (fun v => det2_k v H) k h
    | exact det2_bind det_mapUpdateA (fun H' => det2_k undefA H') k h
    | exact det2_cond (det2_bind det_srcRows fun rows => det_appendA) det2_fail k h
    | exact det2_cond (det_callA hc) (det2_cond (det2_bind det_externA fun v => det2_k v H) det2_fail) k h
    | exact det2_bind det_qop (fun v => det2_k v H) k h
end
end Go.Proofs.Ytgpijioodocplaa
