/- The evaluator: SyDet, SyCongr, SyTree, SyDet2, SyRegion, SyRegion2 laid together. -/
import Derived.Test.YtamhmfdbnlkmkaaMg4
import Derived.Scope
import Derived.Orders
import Derived.Still
/- What a run comes to is one thing: for these values of the variables it hands on one value, whatever is done with it. -/
set_option linter.unusedVariables false
set_option linter.unusedSectionVars false
set_option linter.unusedSimpArgs false
namespace Go.Proofs.Ytamhmfdbnlkmkaa
open Go Go.RowKit
variable [Obs]

def Det {α : Type} (f : (α → Out) → Out) : Prop := ∀ k : α → Out, Ok (f k) → ∃ x, Ok (k x) ∧ ∀ k' : α → Out, Ok (k' x) → Ok (f k')
def Det2 {α β : Type} (f : (α → β → Out) → Out) : Prop := ∀ k : α → β → Out, Ok (f k) → ∃ x y, Ok (k x y) ∧ ∀ k' : α → β → Out, Ok (k' x y) → Ok (f k')
def Det3 {α β γ : Type} (f : (α → β → γ → Out) → Out) : Prop := ∀ k : α → β → γ → Out, Ok (f k) → ∃ x y z, Ok (k x y z) ∧ ∀ k' : α → β → γ → Out, Ok (k' x y z) → Ok (f k')

theorem det_k {α : Type} (x : α) : Det (fun k => k x) := fun k h => ⟨x, h, fun _ h' => h'⟩
theorem det_fail {α : Type} : Det (fun _ : α → Out => .fail) := fun k h => h.elim
theorem det_cond {α : Type} {c : Bool} {f g : (α → Out) → Out} (hf : Det f) (hg : Det g) : Det (fun k => cond c (f k) (g k)) := by
  cases c
  · exact hg
  · exact hf
theorem det_sel {α : Type} {e : Sx} {f g : (α → Out) → Out} (hf : Det f) (hg : Det g) : Det (fun k => .sel e (f k) (g k)) := by
  intro k h
  rcases sel_ok h with ⟨he, h⟩ | ⟨he, h⟩
  · obtain ⟨x, h1, h2⟩ := hf k h
    exact ⟨x, h1, fun k' h' => by show cond (dv e).b _ _; rw [he]; exact h2 k' h'⟩
  · obtain ⟨x, h1, h2⟩ := hg k h
    exact ⟨x, h1, fun k' h' => by show cond (dv e).b _ _; rw [he]; exact h2 k' h'⟩
theorem det_bind {α β : Type} {f : (α → Out) → Out} {g : α → (β → Out) → Out} (hf : Det f) (hg : ∀ x, Det (g x)) : Det (fun k => f fun x => g x k) := by
  intro k h
  obtain ⟨x, h1, h2⟩ := hf _ h
  obtain ⟨y, h3, h4⟩ := hg x k h1
  exact ⟨y, h3, fun k' h' => h2 _ (h4 k' h')⟩
theorem det_of {α : Type} {f g : (α → Out) → Out} (h : ∀ k, f k = g k) (hg : Det g) : Det f := by
  have : f = g := funext h
  rw [this]; exact hg

theorem det2_k {α β : Type} (x : α) (y : β) : Det2 (fun k => k x y) := fun k h => ⟨x, y, h, fun _ h' => h'⟩
theorem det2_fail {α β : Type} : Det2 (fun _ : α → β → Out => .fail) := fun k h => h.elim
theorem det2_cond {α β : Type} {c : Bool} {f g : (α → β → Out) → Out} (hf : Det2 f) (hg : Det2 g) : Det2 (fun k => cond c (f k) (g k)) := by
  cases c
  · exact hg
  · exact hf
theorem det2_bind {α β γ : Type} {f : (α → Out) → Out} {g : α → (β → γ → Out) → Out} (hf : Det f) (hg : ∀ x, Det2 (g x)) : Det2 (fun k => f fun x => g x k) := by
  intro k h
  obtain ⟨x, h1, h2⟩ := hf _ h
  obtain ⟨y, z, h3, h4⟩ := hg x k h1
  exact ⟨y, z, h3, fun k' h' => h2 _ (h4 k' h')⟩

section
variable {C : Ctx} {H : Heap} {T : Look}

theorem det_condA {α : Type} {c : AV} {f g : (α → Out) → Out} (hf : Det f) (hg : Det g) : Det (fun k => condA c (f k) (g k)) := by
  unfold condA
  cases c with
  | tc c => cases c with
    | sc v => cases v <;> first | exact det_cond hf hg | exact det_fail
    | sl s el => exact det_fail
    | sy t e => cases t <;> first | exact det_sel hf hg | exact det_fail
  | _ => exact det_fail

theorem det_enumA {e : Sx} : ∀ (n i : Nat), Det (fun k => enumA e k i n)
  | 0, i => det_fail
  | n + 1, i => det_sel (det_k _) (det_enumA n (i + 1))

theorem det_withIdx {x : AV} {n : Nat} : Det (withIdx x n) := by
  unfold withIdx
  cases x with
  | tc c => cases c with
    | sc v => cases v <;> first | exact det_k _ | exact det_fail
    | sl s el => exact det_fail
    | sy t e => cases t <;> first | exact det_enumA _ _ | exact det_fail
  | _ => exact det_fail

theorem det_intOp {op : BinOp} {kx ky : IntKind} {a b : Sx} : Det (intOp op kx a ky b) := by
  unfold intOp
  cases op <;> first | exact det_sel det_fail (det_k _) | exact det_cond (det_sel det_fail (det_k _)) det_fail | exact det_cond (det_k _) det_fail

theorem det_strOp {op : BinOp} {a b : Sx} : Det (strOp op a b) := by
  unfold strOp
  cases op <;> first | exact det_k _ | exact det_fail

theorem det_boolOp {op : BinOp} {a b : Sx} : Det (boolOp op a b) := by
  unfold boolOp
  cases op <;> first | exact det_k _ | exact det_fail

theorem det_symOp {o : Oper} : Det (symOp C o T) := by
  intro k h
  unfold symOp at h ⊢
  split at h
  all_goals first | exact h.elim | skip
  all_goals (repeat' (split at h))
  all_goals first
    | exact h.elim
    | exact ⟨_, h, fun _ h' => h'⟩
    | exact det_intOp k h
    | exact det_strOp k h
    | exact det_boolOp k h
    | exact det_sel (det_k _) (det_k _) k h
    | exact det_sel (f := fun _ => .fail) det_fail (det_sel (det_k _) det_fail) k h
    | exact det_sel (f := fun _ => .fail) det_fail (det_sel (det_sel (det_k _) det_fail) det_fail) k h

theorem det_genOp {o : Oper} : Det (genOp C o T) := by
  intro k h
  unfold genOp at h ⊢
  split at h
  · exact det_symOp k h
  · split at h
    · exact ⟨_, h, fun _ h' => h'⟩
    · exact h.elim

theorem det_eqNil {t : TypeDesc} {x y : AV} : Det (eqNil t x y) := by
  intro k h
  unfold eqNil at h ⊢
  (repeat' (split at h))
  all_goals first
    | exact h.elim
    | exact ⟨_, h, fun _ h' => h'⟩

theorem det_loadA {t : TI} {a : AV} : Det (loadA H t a) := by
  intro k h
  unfold loadA at h ⊢
  split at h
  · split at h
    · obtain ⟨hc, h⟩ := cond_false h
      simp only [hc, cond_true]
      (repeat' (split at h)) <;> first | exact h.elim | exact ⟨_, h, fun _ h' => h'⟩
    · obtain ⟨hc, h⟩ := cond_false h
      simp only [hc, cond_true]
      (repeat' (split at h)) <;> first | exact h.elim | exact ⟨_, h, fun _ h' => h'⟩
    · exact h.elim
  · (repeat' (split at h)) <;> first | exact h.elim | exact ⟨_, h, fun _ h' => h'⟩
  · exact h.elim

theorem det_indexA {t : TI} {e : Option TI} {x i : AV} : Det (indexA t e x i) := by
  intro k h
  unfold indexA at h ⊢
  (repeat' (split at h))
  all_goals first
    | exact h.elim
    | exact det_bind det_withIdx (fun n => det_cond (det_k _) det_fail) k h

theorem det_fieldAddrA {t : TI} {x : AV} {fd : Nat} : Det (fieldAddrA C t x fd) := by
  intro k h
  unfold fieldAddrA at h ⊢
  split at h
  · split at h
    · split at h
      · obtain ⟨hc, h⟩ := cond_false h
        simp only [hc, cond_true]
        (repeat' (split at h)) <;> first | exact h.elim | exact ⟨_, h, fun _ h' => h'⟩
      · exact h.elim
    · exact h.elim
  · exact h.elim

theorem det_partA {t : TI} {cs : List AV} {off : Nat} : Det (partA t cs off) := by
  intro k h
  unfold partA at h ⊢
  (repeat' (split at h)) <;> first | exact h.elim | exact ⟨_, h, fun _ h' => h'⟩

theorem det_fieldA {t : TI} {x : AV} {fd : Nat} : Det (fieldA C t x fd) := by
  intro k h
  unfold fieldA at h ⊢
  (repeat' (split at h)) <;> first | exact h.elim | exact det_partA k h

theorem det_boundA {d : Int} {x : Option AV} : Det (boundA d x) := by
  intro k h
  unfold boundA at h ⊢
  (repeat' (split at h)) <;> first | exact h.elim | exact ⟨_, h, fun _ h' => h'⟩

theorem det_sliceA {t et : TI} {x : AV} {lo hi mx : Option AV} : Det (sliceA t et x lo hi mx) := by
  intro k h
  unfold sliceA at h ⊢
  (repeat' (split at h))
  all_goals first
    | exact h.elim
    | exact det_bind det_boundA (fun _ => det_bind det_boundA fun _ => det_cond (det_k _) det_fail) k h
    | exact det_bind det_boundA (fun _ => det_bind det_boundA fun _ => det_bind det_boundA fun _ => det_cond (det_k _) det_fail) k h

theorem det_lenA {x : AV} : Det (lenA x) := by
  intro k h
  unfold lenA at h ⊢
  (repeat' (split at h)) <;> first | exact h.elim | exact ⟨_, h, fun _ h' => h'⟩

theorem det_capA {x : AV} : Det (capA x) := by
  intro k h
  unfold capA at h ⊢
  (repeat' (split at h)) <;> first | exact h.elim | exact ⟨_, h, fun _ h' => h'⟩

theorem det_aggOp {op : BinOp} {e : Sx} : Det (aggOp op e) := by
  intro k h
  unfold aggOp at h ⊢
  (repeat' (split at h)) <;> first | exact h.elim | exact ⟨_, h, fun _ h' => h'⟩

theorem det_bytesStr {s d : TypeId} {x : AV} : Det (bytesStr C H s d x) := by
  intro k h
  unfold bytesStr at h ⊢
  split at h
  · split at h
    · split at h
      · obtain ⟨hc, h⟩ := cond_false h
        simp only [hc, cond_true]
        split at h
        · exact ⟨_, h, fun _ h' => h'⟩
        · exact h.elim
      · exact h.elim
    · exact h.elim
  · exact h.elim

theorem det_qop {o : Oper} : Det (qop C o T H) := by
  intro k h
  unfold qop at h ⊢
  split at h
  all_goals (repeat' (split at h))
  all_goals first
    | exact h.elim
    | exact ⟨_, h, fun _ h' => h'⟩
    | exact det_condA (det_k _) (det_k _) k h
    | exact det_loadA k h
    | exact det_fieldAddrA k h
    | exact det_fieldA k h
    | exact det_indexA k h
    | exact det_genOp k h
    | exact det_symOp k h
    | exact det_sliceA k h
    | exact det_lenA k h
    | exact det_capA k h
    | exact det_bytesStr k h
    | exact det_aggOp k h
    | exact det_bind det_eqNil (fun b => det_k _) k h
    | exact det_cond det_genOp det_fail k h

theorem det_buildA {t : TI} {ps : List (Nat × AV)} : Det (buildA C t ps) := by
  intro k h
  unfold buildA at h ⊢
  split at h
  · obtain ⟨hc, h⟩ := cond_false h
    simp only [hc, cond_true]
    (repeat' (split at h)) <;> first | exact h.elim | exact ⟨_, h, fun _ h' => h'⟩
  · (repeat' (split at h)) <;> first | exact h.elim | exact ⟨_, h, fun _ h' => h'⟩
  · exact h.elim

theorem det_buildSliceA {t : TI} {n : Nat} {ps : List (Nat × AV)} : Det2 (buildSliceA C t n ps H) := by
  intro k h
  unfold buildSliceA at h ⊢
  split at h
  · split at h
    · split at h
      · obtain ⟨hc, h⟩ := cond_false h
        simp only [hc, cond_true]
        split at h
        · exact ⟨_, _, h, fun _ h' => h'⟩
        · exact h.elim
      · exact h.elim
    · exact h.elim
  · exact h.elim

theorem det_allocA {t : TI} {cs : List AV} : Det2 (allocA t cs H) := by
  unfold allocA
  exact det2_cond (det2_k _ _) det2_fail

theorem det_storeA {t : TI} {a v : AV} : Det (storeA t a v H) := by
  intro k h
  unfold storeA at h ⊢
  split at h
  · split at h
    · obtain ⟨hc, h⟩ := cond_false h
      simp only [hc, cond_true]
      split at h
      · exact h.elim
      · obtain ⟨hc2, h⟩ := cond_false h
        simp only [hc2, cond_true]
        split at h <;> exact ⟨_, h, fun _ h' => h'⟩
    · obtain ⟨hc, h⟩ := cond_false h
      simp only [hc, cond_true]
      split at h
      · exact h.elim
      · obtain ⟨hc2, h⟩ := cond_false h
        simp only [hc2, cond_true]
        exact ⟨_, h, fun _ h' => h'⟩
    · exact h.elim
  · exact h.elim

theorem det_makeSliceA {t : TI} {l c : AV} : Det2 (makeSliceA C t l c H) := by
  intro k h
  unfold makeSliceA at h ⊢
  (repeat' (split at h)) <;> first | exact h.elim | exact det2_cond (det2_k _ _) det2_fail k h

theorem det_srcRows {et : TI} {zs : Bool} {z : List TC} {x : AV} : Det (srcRows H et zs z x) := by
  intro k h
  unfold srcRows at h ⊢
  (repeat' (split at h)) <;> first | exact h.elim | exact ⟨_, h, fun _ h' => h'⟩ | exact det_cond (det_k _) det_fail k h

theorem det_appendA {et : TI} {s : AV} {rows : List (List AV)} : Det2 (appendA et s rows H) := by
  intro k h
  unfold appendA at h ⊢
  (repeat' (split at h))
  all_goals first
    | exact h.elim
    | exact ⟨_, _, h, fun _ h' => h'⟩
    | exact det2_cond (det2_k _ _) det2_fail k h
    | exact det2_cond (det2_cond (det2_k _ _) (det2_cond (det2_k _ _) (det2_cond (det2_k _ _) det2_fail))) det2_fail k h

theorem det_findA {key : Value} : ∀ (es : List (Value × AV)) (i : Nat), Det (findA key es i)
  | [], i => det_k _
  | (q, v) :: r, i => by
    intro k h
    unfold findA at h ⊢
    split at h
    · exact det_cond (det_k _) (det_findA r (i + 1)) k h
    · exact h.elim

theorem det_lookDone {ok : Bool} {z : Value} {x : Option (Nat × AV)} : Det (fun k => lookDone ok z k x) := by
  intro k h
  simp only [lookDone] at h ⊢
  (repeat' (split at h)) <;> exact ⟨_, h, fun _ h' => h'⟩

theorem det_lookIn {m : AV} {kv : Value} : Det (lookIn m H kv) := by
  intro k h
  unfold lookIn at h ⊢
  (repeat' (split at h)) <;> first | exact h.elim | exact ⟨_, h, fun _ h' => h'⟩ | exact det_findA _ _ k h

theorem det_lookupA {t : TI} {m key : AV} {ok : Bool} : Det (lookupA C t m key ok H) := by
  intro k h
  unfold lookupA at h ⊢
  split at h
  · split at h
    · obtain ⟨hc, h⟩ := cond_false h
      simp only [hc, cond_true]
      split at h
      · exact det_bind det_lookIn (fun x => det_lookDone) k h
      · exact h.elim
    · exact h.elim
  · exact h.elim

theorem det_mapUpdateA {t : TI} {m key v : AV} : Det (mapUpdateA C t m key v H) := by
  intro k h
  unfold mapUpdateA at h ⊢
  split at h
  · split at h
    · obtain ⟨hc, h⟩ := cond_false h
      simp only [hc, cond_true]
      refine det_bind (det_findA _ _) (fun x => ?_) k h
      cases x with
      | none => exact det_k _
      | some p => exact det_k _
    · exact h.elim
  · exact h.elim
end

theorem det_externA {as : List AV} : Det (externA as) := by
  intro k h
  unfold externA at h ⊢
  (repeat' (split at h)) <;> first | exact h.elim | exact ⟨_, h, fun _ h' => h'⟩

def DetC (call : Caller) : Prop := ∀ f args H, Det2 (call f args H)

section
variable {C : Ctx} {H : Heap} {T : Look} {call : Caller}

theorem det_callPure (hc : DetC call) {f : FuncId} {args : List AV} : Det (callPure call f args) := by
  intro k h
  unfold callPure at h ⊢
  obtain ⟨r, H', h1, h2⟩ := hc f args [] _ h
  split at h1
  · rename_i t ht
    exact ⟨t, h1, fun k' h' => h2 _ (by simp only [ht]; exact h')⟩
  · exact h1.elim

theorem det_callT (hc : DetC call) {f : FuncId} {args : List AV} : Det (callT C call f args) := by
  intro k h
  unfold callT at h ⊢
  (repeat' (split at h)) <;> first | exact h.elim | exact ⟨_, h, fun _ h' => h'⟩ | exact det_callPure hc k h

theorem det_callA (hc : DetC call) {f : FuncId} {args : List AV} : Det2 (callA C call f args H) := by
  intro k h
  unfold callA at h ⊢
  split at h
  · split at h
    · exact det2_bind (det_callT hc) (fun r => det2_k r H) k h
    · cases hflt : C.flat f with
      | false =>
        rw [hflt] at h
        exact hc _ _ _ k h
      | true =>
        rw [hflt] at h
        simp only [_root_.cond_true] at h ⊢
        split at h
        · exact det2_bind (det_callT hc) (fun r => det2_cond (det2_k r H) det2_fail) k h
        · exact h.elim
  · exact hc _ _ _ k h

theorem aopF_eq {o : Oper} {k : AV → Heap → Out} : aopF C call o T H k = aop C call o T H k := rfl

theorem det_aop (hc : DetC call) {o : Oper} : Det2 (aop C call o T H) := by
  intro k h
  unfold aop at h ⊢
  split at h
  all_goals (repeat' (split at h))
  all_goals first
    | exact h.elim
    | exact ⟨_, _, h, fun _ h' => h'⟩
    | exact det_allocA k h
    | exact det2_bind det_buildA (fun v => det2_k v H) k h
    | exact det_buildSliceA k h
    | exact det2_bind det_storeA (fun H' => det2_k undefA H') k h
    | exact det_makeSliceA k h
    | exact det2_bind det_lookupA (fun v => det2_k v H) k h
    | exact det2_bind det_mapUpdateA (fun H' => det2_k undefA H') k h
    | exact det2_cond (det2_bind det_srcRows fun rows => det_appendA) det2_fail k h
    | exact det2_cond (det_callA hc) (det2_cond (det2_bind det_externA fun v => det2_k v H) det2_fail) k h
    | exact det2_bind det_qop (fun v => det2_k v H) k h
end
end Go.Proofs.Ytamhmfdbnlkmkaa

/- What an operation comes to hangs on its operands alone. -/
set_option linter.unusedVariables false
set_option linter.unusedSectionVars false
set_option linter.unusedSimpArgs false
namespace Go.Proofs.Ytamhmfdbnlkmkaa
open Go Go.RowKit

section
variable {C : Ctx} {H : Heap} {T T' : Look} {call : Caller}

theorem mapO_congr {α β : Type} {f g : α → Option β} : ∀ (l : List α), (∀ x, x ∈ l → f x = g x) → mapO f l = mapO g l
  | [], _ => rfl
  | a :: r, h => by
    simp only [mapO]
    rw [h a (List.mem_cons_self ..), mapO_congr r fun x hx => h x (List.mem_cons_of_mem _ hx)]

theorem map_ev {xs : Array Operand} (h : ∀ x ∈ xs, ev C T x = ev C T' x) : xs.toList.map (ev C T) = xs.toList.map (ev C T') :=
  List.map_congr_left fun x hx => h x (by simpa using hx)

theorem map_parts {ps : Array (Nat × Operand)} (h : ∀ x ∈ ps.toList.map (·.2), ev C T x = ev C T' x) : (ps.toList.map fun p => (p.1, ev C T p.2)) = ps.toList.map fun p => (p.1, ev C T' p.2) :=
  List.map_congr_left fun p hp => by rw [h p.2 (List.mem_map.2 ⟨p, hp, rfl⟩)]

theorem symOp_congr {o : Oper} (h : ∀ x ∈ o.op.operands, ev C T x = ev C T' x) : symOp C o T = symOp C o T' := by
  funext k
  obtain ⟨dst, op, type, pos, after, guard⟩ := o
  cases op
  case binOp op t x y ty =>
    have hx := h x (by simp [Op.operands]); have hy := h y (by simp [Op.operands])
    simp only [symOp, hx, hy]
  case unOp op t x => have hx := h x (by simp [Op.operands]); simp only [symOp, hx]
  case convert s d x => have hx := h x (by simp [Op.operands]); simp only [symOp, hx]
  case index t x i => have hx := h x (by simp [Op.operands]); have hi := h i (by simp [Op.operands]); simp only [symOp, hx, hi]
  case slice t x lo hi mx =>
    have hx := h x (by simp [Op.operands])
    have hlo : lo.map (ev C T) = lo.map (ev C T') := by
      cases lo with
      | none => rfl
      | some l => have := h l (by simp [Op.operands]); simp [this]
    have hhi : (hi.map fun h => asSx (ev C T h)) = hi.map fun h => asSx (ev C T' h) := by
      cases hi with
      | none => rfl
      | some l => have := h l (by simp [Op.operands]); simp [this]
    cases mx with
    | none => simp only [symOp, hx, hlo, hhi]
    | some m => rfl
  case call c =>
    obtain ⟨callee, args, argTypes⟩ := c
    cases callee with
    | value f => rfl
    | invoke r m => rfl
    | builtin b =>
      cases b
      case len =>
        simp only [symOp]
        split
        · rename_i x t ha ht
          have hx := h x (by simp [Op.operands, Call.operands, ← Array.mem_toList_iff, ha])
          rw [hx]
        · rfl
      case min =>
        simp only [symOp]
        split
        · rename_i x y ha
          have hx := h x (by simp [Op.operands, Call.operands, ← Array.mem_toList_iff, ha])
          have hy := h y (by simp [Op.operands, Call.operands, ← Array.mem_toList_iff, ha])
          rw [hx, hy]
        · rfl
      case max =>
        simp only [symOp]
        split
        · rename_i x y ha
          have hx := h x (by simp [Op.operands, Call.operands, ← Array.mem_toList_iff, ha])
          have hy := h y (by simp [Op.operands, Call.operands, ← Array.mem_toList_iff, ha])
          rw [hx, hy]
        · rfl
      all_goals rfl
  all_goals rfl

theorem genOp_congr {o : Oper} (hs : ∀ cs b, o.op ≠ .select cs b) (h : ∀ x ∈ o.op.operands, ev C T x = ev C T' x) : genOp C o T = genOp C o T' := by
  funext k
  unfold genOp
  rw [mapO_congr (f := fun x => toVal (ev C T x)) (g := fun x => toVal (ev C T' x)) _ fun x hx => by rw [h x (by simpa using hx)], symOp_congr h,
    execOp_congr (ρ := fun x => (toVal (ev C T x)).getD undef) (ρ' := fun x => (toVal (ev C T' x)).getD undef) o hs fun x hx => by rw [h x hx]]

theorem qop_congr {o : Oper} (hs : ∀ cs b, o.op ≠ .select cs b) (h : ∀ x ∈ o.op.operands, ev C T x = ev C T' x) : qop C o T H = qop C o T' H := by
  funext k
  have hg := genOp_congr hs h
  have hy := symOp_congr h
  obtain ⟨dst, op, type, pos, after, guard⟩ := o
  cases op
  case move x => have hx := h x (by simp [Op.operands]); simp only [qop, hx]
  case assign x => have hx := h x (by simp [Op.operands]); simp only [qop, hx]
  case pick c a b =>
    have hc := h c (by simp [Op.operands]); have ha := h a (by simp [Op.operands]); have hb := h b (by simp [Op.operands])
    simp only [qop, hc, ha, hb]
  case load t x => have hx := h x (by simp [Op.operands]); simp only [qop, hx]
  case nilCheck x => have hx := h x (by simp [Op.operands]); simp only [qop, hx]
  case fieldAddr t x f => have hx := h x (by simp [Op.operands]); simp only [qop, hx]
  case field t x f => have hx := h x (by simp [Op.operands]); simp only [qop, hx]
  case indexAddr t x i => have hx := h x (by simp [Op.operands]); have hi := h i (by simp [Op.operands]); simp only [qop, hx, hi]
  case extract x i => have hx := h x (by simp [Op.operands]); simp only [qop, hx]
  case convert s d x => have hx := h x (by simp [Op.operands]); simp only [qop, hx, hg, hy]
  case makeFunc fn a b =>
    simp only [qop, map_ev (xs := a) fun x hx => h x (by simp [Op.operands, hx]), map_ev (xs := b) fun x hx => h x (by simp [Op.operands, hx])]
  case slice t x lo hi mx =>
    have hx := h x (by simp [Op.operands])
    have hm : ∀ (z : Option Operand), (∀ y, z = some y → y ∈ (Op.slice t x lo hi mx).operands) → z.map (ev C T) = z.map (ev C T') := fun z hz => by
      cases z with
      | none => rfl
      | some l => have := h l (hz l rfl); simp [this]
    simp only [qop, hx, hg, hy, hm lo (fun y hy => by subst hy; simp [Op.operands]), hm hi (fun y hy => by subst hy; simp [Op.operands]), hm mx (fun y hy => by subst hy; simp [Op.operands])]
  case binOp op t x y ty =>
    have hx := h x (by simp [Op.operands]); have hyy := h y (by simp [Op.operands])
    simp only [qop, hx, hyy, hg, hy]
  case call c =>
    obtain ⟨callee, args, argTypes⟩ := c
    cases callee with
    | value f => simp only [qop, hg]
    | invoke r m => simp only [qop, hg]
    | builtin b =>
      cases b
      case len =>
        simp only [qop]
        split
        · rename_i x ha
          have hx := h x (by simp [Op.operands, Call.operands, ← Array.mem_toList_iff, ha])
          rw [hx, hg, hy]
        · rfl
      case cap =>
        simp only [qop]
        split
        · rename_i x ha
          have hx := h x (by simp [Op.operands, Call.operands, ← Array.mem_toList_iff, ha])
          rw [hx, hg, hy]
        · rfl
      all_goals simp only [qop, hg]
  all_goals simp only [qop, hg]

theorem aop_congr {o : Oper} (hs : ∀ cs b, o.op ≠ .select cs b) (h : ∀ x ∈ o.op.operands, ev C T x = ev C T' x) : aop C call o T H = aop C call o T' H := by
  funext k
  have hq := qop_congr (H := H) hs h
  obtain ⟨dst, op, type, pos, after, guard⟩ := o
  cases op
  case box t x => have hx := h x (by simp [Op.operands]); simp only [aop, hx]
  case build t ps => simp only [aop, map_parts (ps := ps) fun x hx => h x (by simpa [Op.operands] using hx)]
  case buildSlice t n ps => simp only [aop, map_parts (ps := ps) fun x hx => h x (by simpa [Op.operands] using hx)]
  case store t x y => have hx := h x (by simp [Op.operands]); have hy := h y (by simp [Op.operands]); simp only [aop, hx, hy]
  case makeSlice t x y => have hx := h x (by simp [Op.operands]); have hy := h y (by simp [Op.operands]); simp only [aop, hx, hy]
  case lookup t x i ok => have hx := h x (by simp [Op.operands]); have hy := h i (by simp [Op.operands]); simp only [aop, hx, hy]
  case mapUpdate t x y z => have hx := h x (by simp [Op.operands]); have hy := h y (by simp [Op.operands]); have hz := h z (by simp [Op.operands]); simp only [aop, hx, hy, hz]
  case insert t x y z => have hx := h x (by simp [Op.operands]); have hy := h y (by simp [Op.operands]); have hz := h z (by simp [Op.operands]); simp only [aop, hx, hy, hz]
  case call c =>
    obtain ⟨callee, args, argTypes⟩ := c
    cases callee with
    | value f =>
      have hf := h f (by simp [Op.operands, Call.operands])
      simp only [aop, hf, map_ev (xs := args) fun x hx => h x (by simp [Op.operands, Call.operands, hx])]
    | invoke r m => simp only [aop, hq]
    | builtin b =>
      cases b
      case append =>
        simp only [aop]
        split
        · rename_i s x st xt ha ht
          have hx := h x (by simp [Op.operands, Call.operands, ← Array.mem_toList_iff, ha])
          have hss := h s (by simp [Op.operands, Call.operands, ← Array.mem_toList_iff, ha])
          rw [hx, hss]
        · rfl
      all_goals simp only [aop, hq]
  all_goals simp only [aop, hq]

theorem aopQ_congr {o : Oper} (hs : ∀ cs b, o.op ≠ .select cs b) (h : ∀ x ∈ o.op.operands, ev C T x = ev C T' x) : aopQ C call o T H = aopQ C call o T' H := by
  funext k
  have hq := aop_congr (call := call) (H := H) hs h
  obtain ⟨dst, op, type, pos, after, guard⟩ := o
  cases op
  case buildSlice t n ps => simp only [aopQ, map_parts (ps := ps) fun x hx => h x (by simpa [Op.operands] using hx)]
  all_goals simp only [aopQ, hq]

theorem quietO_congr {o : Oper} (h : ∀ x ∈ o.op.operands, ev C T x = ev C T' x) : quietO C o T = quietO C o T' := by
  obtain ⟨dst, op, type, pos, after, guard⟩ := o
  cases op
  case call c =>
    obtain ⟨callee, args, argTypes⟩ := c
    cases callee with
    | value f =>
      have hf := h f (by simp [Op.operands, Call.operands])
      simp only [quietO, hf, map_ev (xs := args) fun x hx => h x (by simp [Op.operands, Call.operands, hx])]
    | invoke r m => rfl
    | builtin b => cases b <;> rfl
  case buildSlice t n ps => simp only [quietO, map_parts (ps := ps) fun x hx => h x (by simpa [Op.operands] using hx)]
  all_goals rfl

/-- A quiet operation leaves memory as it is. -/
theorem quiet_heap {o : Oper} (h : quietO C o T = true) (hb : ∀ t n ps, o.op ≠ .buildSlice t n ps) (k : AV → Heap → Out) : aop C call o T H k = aopQ C call o T H fun v => k v H := by
  obtain ⟨dst, op, type, pos, after, guard⟩ := o
  cases op
  case alloc t => simp [quietO] at h
  case box t x => simp [quietO] at h
  case store t x y => simp [quietO] at h
  case makeSlice t x y => simp [quietO] at h
  case makeMap t x => simp [quietO] at h
  case mapUpdate t x y z => simp [quietO] at h
  case insert t x y z => simp [quietO] at h
  case buildSlice t n ps => exact absurd rfl (hb t n ps)
  case call c =>
    obtain ⟨callee, args, argTypes⟩ := c
    cases callee with
    | value f =>
      simp only [quietO] at h
      simp only [aop, aopQ]
      split at h
      · rename_i g as htg
        simp only [Bool.and_eq_true] at h
        split
        · simp only [callA, h.1, h.2]
        · rfl
      · cases h
    | invoke r m => rfl
    | builtin b => cases b <;> first | (simp [quietO] at h; done) | rfl
  all_goals rfl

/-- One that reads no memory hangs on none. -/
theorem still_heap {o : Oper} (h : quietO C o T = true) (hr : readsO o = false) (H' : Heap) : aopQ C call o T H = aopQ C call o T H' := by
  funext k
  obtain ⟨dst, op, type, pos, after, guard⟩ := o
  cases op
  case alloc t => simp [quietO] at h
  case box t x => simp [quietO] at h
  case store t x y => simp [quietO] at h
  case makeSlice t x y => simp [quietO] at h
  case makeMap t x => simp [quietO] at h
  case mapUpdate t x y z => simp [quietO] at h
  case insert t x y z => simp [quietO] at h
  case load t x => simp [readsO] at hr
  case lookup t x i ok => simp [readsO] at hr
  case convert s d x => simp [readsO] at hr
  case call c =>
    obtain ⟨callee, args, argTypes⟩ := c
    cases callee with
    | value f =>
      simp only [quietO] at h
      simp only [aop, aopQ]
      split at h
      · rename_i g as htg
        simp only [Bool.and_eq_true] at h
        split
        · simp only [callA, h.1, h.2]
        · rfl
      · cases h
    | invoke r m => rfl
    | builtin b => cases b <;> first | (simp [quietO] at h; done) | rfl
  all_goals rfl
end
end Go.Proofs.Ytamhmfdbnlkmkaa

/- The same abstract values; slices that nobody writes, as trees. -/
set_option linter.unusedVariables false
set_option linter.unusedSectionVars false
set_option linter.unusedSimpArgs false
namespace Go.Proofs.Ytamhmfdbnlkmkaa
open Go Go.RowKit

theorem Sx.beq_eq : ∀ {a b : Sx}, Sx.beq a b = true → a = b := by
  intro a
  induction a with
  | ls s =>
    intro b h
    cases b <;> simp [Sx.beq] at h
    rename_i s'
    congr 1
    cases s; cases s'
    simp only [ByteArray.mk.injEq]
    exact h
  | var i => intro b h; cases b <;> simp_all [Sx.beq]
  | lit i => intro b h; cases b <;> simp_all [Sx.beq]
  | lb i => intro b h; cases b <;> simp_all [Sx.beq]
  | nil => intro b h; cases b <;> simp_all [Sx.beq]
  | bin o k x y i1 i2 => intro b h; cases b <;> simp [Sx.beq] at h; obtain ⟨⟨⟨rfl, rfl⟩, h1⟩, h2⟩ := h; rw [i1 h1, i2 h2]
  | cmp o x y i1 i2 => intro b h; cases b <;> simp [Sx.beq] at h; obtain ⟨⟨rfl, h1⟩, h2⟩ := h; rw [i1 h1, i2 h2]
  | cmps o x y i1 i2 => intro b h; cases b <;> simp [Sx.beq] at h; obtain ⟨⟨rfl, h1⟩, h2⟩ := h; rw [i1 h1, i2 h2]
  | eqb x y i1 i2 => intro b h; cases b <;> simp [Sx.beq] at h; obtain ⟨h1, h2⟩ := h; rw [i1 h1, i2 h2]
  | conv k x i1 => intro b h; cases b <;> simp [Sx.beq] at h; obtain ⟨rfl, h1⟩ := h; rw [i1 h1]
  | not x i1 => intro b h; cases b <;> simp [Sx.beq] at h; rw [i1 h]
  | and x y i1 i2 => intro b h; cases b <;> simp [Sx.beq] at h; obtain ⟨h1, h2⟩ := h; rw [i1 h1, i2 h2]
  | len x i1 => intro b h; cases b <;> simp [Sx.beq] at h; rw [i1 h]
  | at_ x y i1 i2 => intro b h; cases b <;> simp [Sx.beq] at h; obtain ⟨h1, h2⟩ := h; rw [i1 h1, i2 h2]
  | sub x y z i1 i2 i3 => intro b h; cases b <;> simp [Sx.beq] at h; obtain ⟨⟨h1, h2⟩, h3⟩ := h; rw [i1 h1, i2 h2, i3 h3]
  | cat x y i1 i2 => intro b h; cases b <;> simp [Sx.beq] at h; obtain ⟨h1, h2⟩ := h; rw [i1 h1, i2 h2]
  | idx x y i1 i2 => intro b h; cases b <;> simp [Sx.beq] at h; obtain ⟨h1, h2⟩ := h; rw [i1 h1, i2 h2]
  | app f x i1 => intro b h; cases b <;> simp [Sx.beq] at h; obtain ⟨rfl, h1⟩ := h; rw [i1 h1]
  | arg t x y i1 i2 => intro b h; cases b <;> simp [Sx.beq] at h; obtain ⟨⟨rfl, h1⟩, h2⟩ := h; rw [i1 h1, i2 h2]

theorem bytes_eq {a b : ByteArray} (h : a.data.toList = b.data.toList) : a = b := by
  cases a; cases b
  simp only [ByteArray.mk.injEq]
  exact Array.toList_inj.1 h

theorem sameV_eq {a b : Value} (h : sameV a b = true) : a = b := by
  unfold sameV at h
  split at h
  · simp only [Bool.and_eq_true, decide_eq_true_eq] at h; rw [h.1, h.2]
  · simp only [beq_iff_eq] at h; rw [h]
  · simp only [decide_eq_true_eq] at h; rw [bytes_eq h]
  · simp only [Bool.and_eq_true, decide_eq_true_eq] at h; rw [h.1, h.2]
  · rfl
  · rfl
  · rfl
  · cases h

mutual
theorem sameT_eq : ∀ {a b : TC}, sameT a b = true → a = b
  | .sc v, .sc u, h => by simp only [sameT] at h; rw [sameV_eq h]
  | .sy t e, .sy t' e', h => by simp only [sameT, Bool.and_eq_true, decide_eq_true_eq] at h; rw [h.1, Sx.beq_eq h.2]
  | .sl s el, .sl s' el', h => by simp only [sameT, Bool.and_eq_true, decide_eq_true_eq] at h; rw [h.1, sameE_eq h.2]
  | .sc _, .sy .., h => by simp [sameT] at h
  | .sc _, .sl .., h => by simp [sameT] at h
  | .sy .., .sc _, h => by simp [sameT] at h
  | .sy .., .sl .., h => by simp [sameT] at h
  | .sl .., .sc _, h => by simp [sameT] at h
  | .sl .., .sy .., h => by simp [sameT] at h
theorem sameR_eq : ∀ {a b : List TC}, sameR a b = true → a = b
  | [], [], _ => rfl
  | x :: r, y :: q, h => by simp only [sameR, Bool.and_eq_true] at h; rw [sameT_eq h.1, sameR_eq h.2]
  | [], _ :: _, h => by simp [sameR] at h
  | _ :: _, [], h => by simp [sameR] at h
theorem sameE_eq : ∀ {a b : List (List TC)}, sameE a b = true → a = b
  | [], [], _ => rfl
  | x :: r, y :: q, h => by simp only [sameE, Bool.and_eq_true] at h; rw [sameR_eq h.1, sameE_eq h.2]
  | [], _ :: _, h => by simp [sameE] at h
  | _ :: _, [], h => by simp [sameE] at h
end

mutual
theorem sameA_eq : ∀ {a b : AV}, sameA a b = true → a = b
  | .tc a, b, h => by
    cases b <;> simp [sameA] at h
    rw [sameT_eq h]
  | .agg a, b, h => by
    cases b <;> simp [sameA] at h
    rw [sameAs_eq h]
  | .tuple a, b, h => by
    cases b <;> simp [sameA] at h
    rw [sameAs_eq h]
  | .ptr .., b, h => by
    cases b <;> simp [sameA] at h
    simp only [AV.ptr.injEq]; omega
  | .slice .., b, h => by
    cases b <;> simp [sameA] at h
    obtain ⟨⟨⟨⟨⟨⟨rfl, rfl⟩, rfl⟩, rfl⟩, rfl⟩, rfl⟩, rfl⟩ := h
    rfl
  | .map o, b, h => by
    cases b <;> simp [sameA] at h
    rw [h]
  | .any, b, h => by cases b <;> simp [sameA] at h
  | .vptr .., b, h => by cases b <;> simp [sameA] at h
  | .func .., b, h => by cases b <;> simp [sameA] at h
theorem sameAs_eq : ∀ {a b : List AV}, sameAs a b = true → a = b
  | [], [], _ => rfl
  | x :: r, y :: q, h => by simp only [sameAs, Bool.and_eq_true] at h; rw [sameA_eq h.1, sameAs_eq h.2]
  | [], _ :: _, h => by simp [sameAs] at h
  | _ :: _, [], h => by simp [sameAs] at h
end

section
variable [Obs]
variable {C : Ctx} {Pb : Nat → Prop} {μ : Mu} {B0 : Nat} {w : World} {T : Look} {H : Heap} {a : Act} {call : Caller}

theorem same_alloc (w : World) (x : Obj) : Same w (w.alloc x) := fun b hb => get_alloc_old x hb

theorem size_alloc (w : World) (x : Obj) : (w.alloc x).heap.size = w.heap.size + 1 := by show (w.heap.push _).size = _; simp

theorem below_alloc (hB : B0 ≤ w.heap.size) (x : Obj) : Below B0 w (w.alloc x) :=
  ⟨rfl, rfl, rfl, by rw [size_alloc]; omega, fun b hb => get_alloc_old x (Nat.lt_of_lt_of_le hb hB)⟩

theorem buildTree_ok {t : TypeId} {ti : TI} {n : Nat} {ps : List (Nat × AV)} {vs : Array (Nat × Value)} {k : AV → Out} (ht : tinfo C t = some ti) (h : buildTreeA C ti n ps k)
    (hp : PartsRel Pb μ w ps vs.toList) (hH : HeapRel Pb μ B0 w H) : ∃ r, k r ∧ ∃ v w' Pb', (Instr.buildSlice t n vs).run C.P w = .ok v w' ∧ Rel Pb' μ w' r v ∧ HeapRel Pb' μ B0 w' H ∧ Goes Pb μ B0 w H.length Pb' μ w' H.length := by
  obtain ⟨i, hi, hd, _, _, _, _⟩ := tinfo_ok ht
  unfold buildTreeA at h
  split at h
  · rename_i e hu
    rw [hu] at hd
    split at h
    · rename_i et hte
      obtain ⟨ie, hie, _, hse, _⟩ := tinfo_ok hte
      split at h
      · rename_i z hz
        have hcf := cond_false h; clear h; obtain ⟨hc, h⟩ := hcf
        simp only [Bool.and_eq_true, decide_eq_true_eq] at hc
        obtain ⟨⟨⟨c1, c2⟩, c3⟩, c4⟩ := hc
        obtain ⟨zv, h1, h2, _, _⟩ := zeroCellsA_ok (Pb := Pb) (μ := μ) (w := w) hte hz
        split at h
        · rename_i rows hrows
          split at h
          · rename_i l hl
            have hlt := mapTC_ok hl
            have hz0 := zero_rows n h2 c3 c2 c4
            obtain ⟨vals', g1, g2, g3⟩ := fillRows_ok hrows hp hz0
            rw [List.length_replicate] at g3
            have hll : l.length = n := by rw [← g3, ← hlt, List.length_map]
            refine ⟨_, h, .slice (some ⟨w.heap.size, 0, none⟩) n n, w.alloc (.cells vals' e), fun b => Pb b ∨ b = w.heap.size, ?_, ?_, ?_, ?_⟩
            · have e0 : ∀ f : Nat → Value, (Array.range 0).map f = #[] := fun f => by simp
              simp only [Instr.buildSlice, Sem.run_bind, run_underlying hd, Result.andThen, run_size hie, ← hse]
              rw [if_neg (by omega)]
              by_cases h0 : n * et.size = 0
              · simp only [h0, e0] at g1
                simp only [h0, if_true, Sem.run_bind, Sem.run_pure, Result.andThen, e0, g1, newRow, run_newObj_alloc]
              · simp only [h0, if_false, Sem.run_bind, Sem.run_pure, Result.andThen, h1, g1, newRow, run_newObj_alloc]
            · have hget : ∀ (i f : Nat) (r : List TC) (c : TC), l[i]? = some r → r[f]? = some c → ∃ v, vals'[i * et.size + f]? = some v ∧ v.oneCell' = true ∧ Rel Pb μ w (.tc c) v := fun i f r c hi hf =>
                g2.cells i f (tcs r) (.tc c) (by rw [← hlt, List.getElem?_map, hi]; rfl) (by simp [tcs, hf])
              have hrt := RT.sl (Pb := fun b => Pb b ∨ b = w.heap.size) (w := w.alloc (.cells vals' e)) et.size w.heap.size 0 n l (fun i f => vals'[i * et.size + f]?.getD undef) (by omega) (fun _ => .inr rfl)
                (fun r hr => by
                  obtain ⟨i, hi⟩ := List.mem_iff_getElem?.1 hr
                  have := g2.rowl (tcs r) (List.mem_of_getElem? (i := i) (by rw [← hlt, List.getElem?_map, hi]; rfl))
                  simpa [tcs] using this)
                (fun i f r c hi hf => by
                  obtain ⟨v, q1, q2, _⟩ := hget i f r c hi hf
                  simp only [q1, Option.getD_some]
                  refine ⟨?_, q2⟩
                  simp only [World.cell?, get_alloc_new]
                  simpa using q1)
                (fun i f r c hi hf => by
                  obtain ⟨v, q1, _, q3⟩ := hget i f r c hi hf
                  simp only [q1, Option.getD_some]
                  cases q3 with
                  | tc _ _ q3 => exact q3.mono (fun b hb => .inl hb) (fun b hb => get_alloc_old _ (hH.pb b hb)))
              rw [hll] at hrt
              exact .tc _ _ hrt
            · refine hH.same (same_alloc w _) (by rw [size_alloc]; omega) (fun b hb => .inl hb) (fun b hb => ?_)
              rcases hb with hb | hb
              · exact .inl hb
              · exact .inr ⟨Nat.le_of_eq hb.symm, by rw [hb, size_alloc]; omega⟩
            · exact ⟨fun b hb => .inl hb, fun _ _ _ h => h, ⟨fun b hb => get_alloc_old _ (hH.pb b hb), size_alloc_mono w _⟩, below_alloc hH.base _, Nat.le_refl _, fun b hb => hb.imp id fun h => Nat.le_of_eq h.symm⟩
          · exact h.elim
        · exact h.elim
      · exact h.elim
    · exact h.elim
  · exact h.elim

theorem det_buildTreeA {t : TI} {n : Nat} {ps : List (Nat × AV)} : Det (buildTreeA C t n ps) := by
  intro k h
  unfold buildTreeA at h ⊢
  split at h
  · split at h
    · split at h
      · obtain ⟨hc, h⟩ := cond_false h
        simp only [hc, cond_true]
        split at h
        · split at h
          · exact ⟨_, h, fun _ h' => h'⟩
          · exact h.elim
        · exact h.elim
      · exact h.elim
    · exact h.elim
  · exact h.elim

theorem det_aopQ (hc : DetC call) {o : Oper} : Det (aopQ C call o T H) := by
  intro k h
  unfold aopQ at h ⊢
  split at h
  · split at h
    · exact det_buildTreeA k h
    · exact h.elim
  · obtain ⟨x, y, h1, h2⟩ := det_aop hc _ h
    exact ⟨x, h1, fun k' h' => h2 _ h'⟩

/-- What is told of a quiet operation holds. -/
theorem aopQ_ok (hc : CallOk C call) (hsm : SummOk C) {o : Oper} {k : AV → Out} {Q : Exit → Act → World → Prop} (hq : quietO C o T = true) (h : aopQ C call o T H k) (hT : RelF Pb μ w T a.tmps)
    (hH : HeapRel Pb μ B0 w H) (hG : GlobRel C Pb μ w) {okO : Out} (hok : Ok okO) : o.wp C.P a w (After Pb μ B0 w H a o (fun r H' => @ite Out (H' = H) (Classical.propDecidable _) (k r) .fail)) Q := by
  classical
  by_cases hb : ∀ t n ps, o.op ≠ .buildSlice t n ps
  · refine aop_ok hc hsm ?_ hT hH hG
    rw [quiet_heap hq hb]
    simpa using h
  · obtain ⟨dst, op, type, pos, after, guard⟩ := o
    have : ∃ t n ps, op = .buildSlice t n ps := by
      refine Classical.byContradiction fun hn => hb fun t n ps he => hn ⟨t, n, ps, he⟩
    obtain ⟨t, n, ps, rfl⟩ := this
    simp only [aopQ] at h
    split at h
    · rename_i ti ht
      obtain ⟨r, h1, v, w', Pb', h2, h3, h4, h5⟩ := buildTree_ok ht h (parts_rel hT hG ps) hH
      exact wp_of_hres rfl ⟨r, H, v, w', Pb', μ, by simpa using h1, h2, h3, h4, h5⟩
    · exact h.elim
end
end Go.Proofs.Ytamhmfdbnlkmkaa

/- What a run of code comes to is one thing. -/
set_option linter.unusedVariables false
set_option linter.unusedSectionVars false
set_option linter.unusedSimpArgs false
namespace Go.Proofs.Ytamhmfdbnlkmkaa
open Go Go.RowKit
variable [Obs]

theorem det3_k {α β γ : Type} (x : α) (y : β) (z : γ) : Det3 (fun k => k x y z) := fun k h => ⟨x, y, z, h, fun _ h' => h'⟩
theorem det3_fail {α β γ : Type} : Det3 (fun _ : α → β → γ → Out => .fail) := fun k h => h.elim
theorem det3_cond {α β γ : Type} {c : Bool} {f g : (α → β → γ → Out) → Out} (hf : Det3 f) (hg : Det3 g) : Det3 (fun k => cond c (f k) (g k)) := by
  cases c
  · exact hg
  · exact hf
theorem det3_sel {α β γ : Type} {e : Sx} {f g : (α → β → γ → Out) → Out} (hf : Det3 f) (hg : Det3 g) : Det3 (fun k => .sel e (f k) (g k)) := by
  intro k h
  rcases sel_ok h with ⟨he, h⟩ | ⟨he, h⟩
  · obtain ⟨x, y, z, h1, h2⟩ := hf k h
    exact ⟨x, y, z, h1, fun k' h' => by show cond (dv e).b _ _; rw [he]; exact h2 k' h'⟩
  · obtain ⟨x, y, z, h1, h2⟩ := hg k h
    exact ⟨x, y, z, h1, fun k' h' => by show cond (dv e).b _ _; rw [he]; exact h2 k' h'⟩
theorem det3_condA {α β γ : Type} {c : AV} {f g : (α → β → γ → Out) → Out} (hf : Det3 f) (hg : Det3 g) : Det3 (fun k => condA c (f k) (g k)) := by
  unfold condA
  cases c with
  | tc c => cases c with
    | sc v => cases v <;> first | exact det3_cond hf hg | exact det3_fail
    | sl s el => exact det3_fail
    | sy t e => cases t <;> first | exact det3_sel hf hg | exact det3_fail
  | _ => exact det3_fail
theorem det3_guard {α β γ : Type} {g : AV × Bool} {f h : (α → β → γ → Out) → Out} (hf : Det3 f) (hg : Det3 h) : Det3 (fun k => guardA g (f k) (h k)) := by
  obtain ⟨c, w⟩ := g
  cases w
  · exact det3_condA hg hf
  · exact det3_condA hf hg
theorem det3_bind1 {α β γ δ : Type} {f : (α → Out) → Out} {g : α → (β → γ → δ → Out) → Out} (hf : Det f) (hg : ∀ x, Det3 (g x)) : Det3 (fun k => f fun x => g x k) := by
  intro k h
  obtain ⟨x, h1, h2⟩ := hf _ h
  obtain ⟨y, z, u, h3, h4⟩ := hg x k h1
  exact ⟨y, z, u, h3, fun k' h' => h2 _ (h4 k' h')⟩
theorem det3_bind2 {α α' β γ δ : Type} {f : (α → α' → Out) → Out} {g : α → α' → (β → γ → δ → Out) → Out} (hf : Det2 f) (hg : ∀ x x', Det3 (g x x')) : Det3 (fun k => f fun x x' => g x x' k) := by
  intro k h
  obtain ⟨x, x', h1, h2⟩ := hf _ h
  obtain ⟨y, z, u, h3, h4⟩ := hg x x' k h1
  exact ⟨y, z, u, h3, fun k' h' => h2 _ (h4 k' h')⟩
theorem det3_bind3 {α α' α'' β γ δ : Type} {f : (α → α' → α'' → Out) → Out} {g : α → α' → α'' → (β → γ → δ → Out) → Out} (hf : Det3 f) (hg : ∀ x x' x'', Det3 (g x x' x'')) : Det3 (fun k => f fun x x' x'' => g x x' x'' k) := by
  intro k h
  obtain ⟨x, x', x'', h1, h2⟩ := hf _ h
  obtain ⟨y, z, u, h3, h4⟩ := hg x x' x'' k h1
  exact ⟨y, z, u, h3, fun k' h' => h2 _ (h4 k' h')⟩
theorem det2_bind3 {α α' α'' β γ : Type} {f : (α → α' → α'' → Out) → Out} {g : α → α' → α'' → (β → γ → Out) → Out} (hf : Det3 f) (hg : ∀ x x' x'', Det2 (g x x' x'')) : Det2 (fun k => f fun x x' x'' => g x x' x'' k) := by
  intro k h
  obtain ⟨x, x', x'', h1, h2⟩ := hf _ h
  obtain ⟨y, z, h3, h4⟩ := hg x x' x'' k h1
  exact ⟨y, z, h3, fun k' h' => h2 _ (h4 k' h')⟩
theorem det2_guard {α β : Type} {g : AV × Bool} {f h : (α → β → Out) → Out} (hf : Det2 f) (hg : Det2 h) : Det2 (fun k => guardA g (f k) (h k)) := by
  have key : ∀ {c : AV} {f h : (α → β → Out) → Out}, Det2 f → Det2 h → Det2 (fun k => condA c (f k) (h k)) := by
    intro c f h hf hg k hh
    have f3 : Det3 (fun k : α → β → Unit → Out => f fun x y => k x y ()) := fun k hk => by
      obtain ⟨x, y, h1, h2⟩ := hf _ hk
      exact ⟨x, y, (), h1, fun k' h' => h2 _ h'⟩
    have g3 : Det3 (fun k : α → β → Unit → Out => h fun x y => k x y ()) := fun k hk => by
      obtain ⟨x, y, h1, h2⟩ := hg _ hk
      exact ⟨x, y, (), h1, fun k' h' => h2 _ h'⟩
    obtain ⟨x, y, _, h1, h2⟩ := det3_condA (c := c) f3 g3 (fun x y _ => k x y) hh
    exact ⟨x, y, h1, fun k' h' => h2 (fun x y _ => k' x y) h'⟩
  obtain ⟨c, w⟩ := g
  cases w
  · exact key hg hf
  · exact key hf hg
theorem det2_bind2 {α α' β γ : Type} {f : (α → α' → Out) → Out} {g : α → α' → (β → γ → Out) → Out} (hf : Det2 f) (hg : ∀ x x', Det2 (g x x')) : Det2 (fun k => f fun x x' => g x x' k) := by
  intro k h
  obtain ⟨x, x', h1, h2⟩ := hf _ h
  obtain ⟨y, z, h3, h4⟩ := hg x x' k h1
  exact ⟨y, z, h3, fun k' h' => h2 _ (h4 k' h')⟩

section
variable {C : Ctx} {call : Caller}

theorem det2_putL {M : Nat} {L : Lc} {T : Tmps} {dst : Option Tmp} {v : AV} {α β : Type} {f : Lc → Tmps → (α → β → Out) → Out} (hf : ∀ L T, Det2 (f L T)) : Det2 (fun k => putL M L T dst v fun L T => f L T k) := by
  intro k h
  unfold putL at h ⊢
  cases dst with
  | none => exact hf _ _ k h
  | some d =>
    simp only [setK_eq] at h ⊢
    exact det2_cond (hf _ _) (hf _ _) k h

theorem det_aops (hc : DetC call) {M : Nat} {ops : Array Oper} : ∀ (l : List Oper) {L : Lc} {T : Tmps} {H : Heap}, Det2 (aops C call M ops l L T H)
  | [], L, T, H => det2_k T H
  | o :: r, L, T, H => by
    intro k h
    simp only [aops, aopF_eq] at h ⊢
    split at h
    · exact h.elim
    · exact det2_guard (det2_bind2 (det_aop hc) fun v H' => det2_putL fun L T => det_aops hc r) (det2_putL fun L T => det_aops hc r) k h

theorem det_runD (hc : DetC call) {ops : Array Oper} : ∀ (l : List Oper) {T : Tmps} {H : Heap} {ks : List Kd} {hs : List Heap}, Det3 (runD C call ops l T H ks hs)
  | [], T, H, ks, hs => det3_k _ _ _
  | o :: r, T, H, ks, hs => by
    intro k h
    simp only [runD, putK_eq] at h ⊢
    split at h
    · exact h.elim
    · exact det3_guard (det3_cond (det3_bind1 (det_aopQ hc) fun v => det_runD hc r) (det3_bind2 (det_aop hc) fun v H' => det_runD hc r)) (det_runD hc r) k h

theorem det_checkAt (hc : DetC call) {o : Oper} {T : Look} {v : AV} {α β : Type} {f : (α → β → Out) → Out} (hf : Det2 f) : ∀ (hs : List Heap), Det2 (fun k => checkAt C call o T v hs (f k))
  | [] => hf
  | H :: r => det2_bind (det_aopQ hc) fun u => det2_cond (det_checkAt hc hf r) det2_fail

theorem det_checksD (hc : DetC call) {ms : List Nat} {T : Tmps} {ks : List Kd} {hl : List Heap} {α β : Type} {f : (α → β → Out) → Out} (hf : Det2 f) : ∀ (l : List (Oper × Kd)) (i : Nat), Det2 (fun k => checksD C call ms T ks hl l i (f k))
  | [], i => hf
  | (o, kd) :: r, i => by
    intro k h
    simp only [checksD] at h ⊢
    split at h
    · split at h
      · exact det_checkAt hc (det_checksD hc hf r (i + 1)) _ k h
      · exact h.elim
      · exact det_checksD hc hf r (i + 1) k h
    · exact det_checksD hc hf r (i + 1) k h

theorem det_aopsD (hc : DetC call) {M : Nat} {ops : Array Oper} {T : Tmps} {H : Heap} : Det2 (aopsD C call M ops T H) := by
  unfold aopsD
  refine det2_cond (det2_bind3 (det_runD hc _) fun T' ks hs => ?_) det2_fail
  cases hs with
  | nil => exact det2_fail
  | cons H' r => cases r with
    | nil => exact det2_k _ _
    | cons H2 r => exact det2_cond (det_checksD hc (det2_k _ _) _ _) det2_fail

theorem det_iter {body : Tmps → Heap → (AEx → Tmps → Heap → Out) → Out} {sl : List Tmp} {n0 : Nat} {sym : Bool} (hb : ∀ T H, Det3 (body T H)) : ∀ (n : Nat) {T : Tmps} {H : Heap}, Det3 (iter body sl n0 sym n T H)
  | 0, T, H => det3_fail
  | n + 1, T, H => by
    intro k h
    simp only [iter] at h ⊢
    refine det3_bind3 (hb _ _) (fun e T2 H2 => ?_) k h
    cases e with
    | normal => exact det_iter hb n
    | exit id => exact det3_k _ _ _
    | goto l => exact det3_k _ _ _
    | ret => exact det3_k _ _ _

theorem det_iterS {body : Option Nat → Tmps → Heap → (AEx → Tmps → Heap → Out) → Out} {has : Nat → Bool} (hb : ∀ m T H, Det3 (body m T H)) : ∀ (n : Nat) {m : Option Nat} {T : Tmps} {H : Heap}, Det3 (iterS body has n m T H)
  | 0, m, T, H => det3_fail
  | n + 1, m, T, H => by
    intro k h
    simp only [iterS] at h ⊢
    refine det3_bind3 (hb _ _ _) (fun e T2 H2 => ?_) k h
    cases e with
    | goto l => exact det3_cond (det_iterS hb n) (det3_k _ _ _)
    | normal => exact det3_k _ _ _
    | exit id => exact det3_k _ _ _
    | ret => exact det3_k _ _ _

theorem det_seq {f : (AEx → Tmps → Heap → Out) → Out} {g : Tmps → Heap → (AEx → Tmps → Heap → Out) → Out} (hf : Det3 f) (hg : ∀ T H, Det3 (g T H)) :
    Det3 (fun K => f fun e T' H' => match e with | .normal => g T' H' K | e => K e T' H') := by
  refine det3_bind3 hf fun e T2 H2 => ?_
  cases e with
  | normal => exact hg _ _
  | exit id => exact det3_k _ _ _
  | goto l => exact det3_k _ _ _
  | ret => exact det3_k _ _ _

theorem det_acodeM (hc : DetC call) (nm : Array String) (M : Nat) : ∀ (c : Code) (m : Option Nat) (T : Tmps) (H : Heap), Det3 (acodeM C call nm M c m T H)
  | .skip, none, T, H => det3_k _ _ _
  | .label _, none, T, H => det3_k _ _ _
  | .region _ ops draw, none, T, H => by
    cases draw with
    | false =>
      intro k h
      simp only [acodeM] at h ⊢
      obtain ⟨x, y, h1, h2⟩ := det_aops hc _ _ h
      exact ⟨_, x, y, h1, fun k' h' => h2 (fun x y => k' .normal x y) h'⟩
    | true =>
      intro k h
      simp only [acodeM] at h ⊢
      obtain ⟨hcc, h⟩ := cond_false h
      obtain ⟨x, y, h1, h2⟩ := det_aopsD hc _ h
      exact ⟨_, x, y, h1, fun k' h' => by rw [hcc]; exact h2 (fun x y => k' .normal x y) h'⟩
  | .seq a b, none, T, H => det_seq (det_acodeM hc nm M a none T H) (det_acodeM hc nm M b none)
  | .seq a b, some l, T, H => by
    simp only [acodeM]
    cases hasL l a with
    | true => exact det_seq (det_acodeM hc nm M a (some l) T H) (det_acodeM hc nm M b none)
    | false => exact det_acodeM hc nm M b (some l) T H
  | .label l', some l, T, H => det3_cond (det3_k _ _ _) det3_fail
  | .cond c a b, none, T, H => det3_condA (det_acodeM hc nm M a none T H) (det_acodeM hc nm M b none T H)
  | .block id b, none, T, H => by
    simp only [acodeM]
    refine det3_bind3 (det_acodeM hc nm M b none T H) fun e T2 H2 => ?_
    cases e with
    | exit id' => exact det3_cond (det3_k _ _ _) (det3_k _ _ _)
    | normal => exact det3_k _ _ _
    | goto l => exact det3_k _ _ _
    | ret => exact det3_k _ _ _
  | .loop b, none, T, H => det_iter (det_acodeM hc nm M b none) _
  | .scope b, none, T, H => det_iterS (det_acodeM hc nm M b) _
  | .exit id, none, T, H => det3_k _ _ _
  | .ret, none, T, H => det3_k _ _ _
  | .goto l, none, T, H => det3_k _ _ _
  | .rangeFunc .., none, T, H => det3_fail
  | .refuse _, none, T, H => det3_fail
  | .skip, some _, T, H => det3_fail
  | .region .., some _, T, H => det3_fail
  | .cond .., some _, T, H => det3_fail
  | .block .., some _, T, H => det3_fail
  | .loop _, some _, T, H => det3_fail
  | .scope _, some _, T, H => det3_fail
  | .exit _, some _, T, H => det3_fail
  | .ret, some _, T, H => det3_fail
  | .goto _, some _, T, H => det3_fail
  | .rangeFunc .., some _, T, H => det3_fail
  | .refuse _, some _, T, H => det3_fail

theorem det_results {T : Tmps} {H : Heap} : ∀ (l : List ResultVar) (acc : List AV), Det (fun k => resultsA.go C T H k l acc)
  | [], acc => by
    intro k h
    simp only [resultsA.go] at h ⊢
    split at h <;> exact ⟨_, h, fun _ h' => h'⟩
  | .tmp t :: r, acc => det_results r _
  | .cell a t :: r, acc => by
    intro k h
    simp only [resultsA.go] at h ⊢
    split at h
    · exact det_bind det_loadA (fun v => det_results r (v :: acc)) k h
    · exact h.elim

theorem det_acall : ∀ d, DetC (acall C d)
  | 0 => fun f args H => det2_fail
  | d + 1 => fun f args H => by
    intro k h
    simp only [acall] at h ⊢
    split at h
    · exact h.elim
    · split at h
      · exact h.elim
      · obtain ⟨hcc, h⟩ := cond_false h
        rw [hcc]
        refine det2_bind3 (det_acodeM (det_acall d) _ _ _ _ _ _) (fun e T2 H2 => ?_) k h
        cases e with
        | normal => exact det2_bind (det_results _ _) fun v => det2_k v H2
        | ret => exact det2_bind (det_results _ _) fun v => det2_k v H2
        | exit id => exact det2_fail
        | goto l => exact det2_fail
end
end Go.Proofs.Ytamhmfdbnlkmkaa

/- Regions: what is told of those that draw their order holds in each order. -/
set_option linter.unusedVariables false
set_option linter.unusedSectionVars false
set_option linter.unusedSimpArgs false
namespace Go.Proofs.Ytamhmfdbnlkmkaa
open Go Go.RowKit
variable [Obs]

/-- Where a walk began. -/
structure Entry where
  Pb : Nat → Prop
  μ : Mu
  w : World
  n : Nat
  M : Nat

section
variable {C : Ctx} {E : Entry} {Pb : Nat → Prop} {μ : Mu} {B0 : Nat} {w : World} {T : Tmps} {H : Heap} {a : Act}

/-- Temporaries that one region alone uses are told by no list beyond it. -/
def LocT (M : Nat) (T : Tmps) : Prop := ∀ d, isLoc M d = true → T[d]? = some .any

theorem LocT.put {M : Nat} {T : Tmps} (h : LocT M T) {dst : Option Tmp} {v : AV} (hd : ∀ d, dst = some d → isLoc M d = false) : LocT M (put T dst v) := fun d hl => by
  cases dst with
  | none => exact h d hl
  | some e =>
    have hne : e ≠ d := fun he => by rw [he] at hd; rw [hd d rfl] at hl; cases hl
    simp only [Go.Proofs.Ytamhmfdbnlkmkaa.put]
    rw [List.getElem?_set_ne hne]
    exact h d hl

structure SR (C : Ctx) (E : Entry) (Pb : Nat → Prop) (μ : Mu) (B0 : Nat) (w : World) (T : Tmps) (H : Heap) (a : Act) : Prop where
  tm : RelL Pb μ w T a.tmps
  hp : HeapRel Pb μ B0 w H
  gl : GlobRel C Pb μ w
  df : a.defers = []
  go : Goes E.Pb E.μ B0 E.w E.n Pb μ w H.length
  dom : ∀ o ver b, E.μ o ver = some b → o < E.n
  lo : LocT E.M T

def exOf : AEx → Exit
  | .normal => .normal
  | .exit id => .exit id
  | .goto l => .goto l
  | .ret => .ret

/-- What holds behind a piece of code. -/
def Post (C : Ctx) (E : Entry) (B0 : Nat) (K : AEx → Tmps → Heap → Out) : Exit → Act → World → Prop :=
  fun e a w => ∃ x T H Pb μ, exOf x = e ∧ K x T H ∧ SR C E Pb μ B0 w T H a

theorem put_defers (a : Act) (dst : Option Tmp) (v : Value) : (a.put dst v).defers = a.defers := by cases dst <;> rfl

theorem SR.after {o : Oper} {k : AV → Heap → Out} {a' : Act} {w' : World} (h : SR C E Pb μ B0 w T H a) (hd : ∀ d, o.dst = some d → isLoc E.M d = false) (ha : After Pb μ B0 w H a o k a' w') :
    ∃ r H' Pb' μ', k r H' ∧ SR C E Pb' μ' B0 w' (put T o.dst r) H' a' := by
  obtain ⟨r, H', v, Pb', μ', h1, rfl, h3, h4, h5⟩ := ha
  refine ⟨r, H', Pb', μ', h1, ?_, h4, h.gl.goes h5, by rw [put_defers]; exact h.df, h.go.trans h5, h.dom, h.lo.put hd⟩
  exact (h.tm.mono h5.pb h5.mu h5.ext).put o.dst h3

theorem SR.undef (h : SR C E Pb μ B0 w T H a) (dst : Option Tmp) (hd : ∀ d, dst = some d → isLoc E.M d = false) : SR C E Pb μ B0 w (put T dst undefA) H (a.put dst undef) :=
  ⟨h.tm.put dst (Rel.of_sc ..), h.hp, h.gl, by rw [put_defers]; exact h.df, h.go, h.dom, h.lo.put hd⟩

theorem lookL_cons (t : Nat) (v : AV) (r : Lc) (n : Nat) (d : AV) : lookL (.cons t v r) n d = if t = n then v else lookL r n d := by
  show cond (Nat.beq t n) v (lookL r n d) = _
  by_cases h : t = n
  · subst h; rw [if_pos rfl, Nat.beq_refl]; rfl
  · rw [if_neg h]
    have : Nat.beq t n = false := by
      cases hb : Nat.beq t n with
      | false => rfl
      | true => exact absurd (Nat.eq_of_beq_eq_true hb) h
    rw [this]; rfl

/-- Inside a region. -/
structure SRL (C : Ctx) (E : Entry) (Pb : Nat → Prop) (μ : Mu) (B0 : Nat) (w : World) (L : Lc) (T : Tmps) (H : Heap) (a : Act) : Prop where
  sr : SR C E Pb μ B0 w T H a
  lf : RelF Pb μ w (lk L T) a.tmps
  ll : ∀ t x, isLoc E.M t = false → lookL L t x = x

theorem SRL.begin (h : SR C E Pb μ B0 w T H a) : SRL C E Pb μ B0 w .nil T H a := ⟨h, h.tm.look, fun _ _ _ => rfl⟩

theorem SRL.putL {L : Lc} {dst : Option Tmp} {r : AV} {v : Value} {f : Lc → Tmps → Out} (h : SRL C E Pb μ B0 w L T H a) (hr : Rel Pb μ w r v) (hf : Ok (putL E.M L T dst r f)) :
    ∃ L' T', Ok (f L' T') ∧ SRL C E Pb μ B0 w L' T' H (a.put dst v) := by
  cases dst with
  | none => exact ⟨L, T, hf, h⟩
  | some d =>
    have hsz : T.length = a.tmps.size := h.sr.tm.1
    simp only [Go.Proofs.Ytamhmfdbnlkmkaa.putL, setK_eq] at hf
    have others : ∀ t, t ≠ d → (a.put (some d) v).tmps.getD t undef = a.tmps.getD t undef := fun t ht => by
      simp [Act.put, Array.getElem?_setIfInBounds_ne (Ne.symm ht)]
    rcases cond_split hf with ⟨hl, hf⟩ | ⟨hl, hf⟩
    · have hT := h.sr.lo d hl
      have hd : d < a.tmps.size := by rw [← hsz]; exact lt_of_get hT
      refine ⟨_, _, hf, ⟨⟨by simp [Act.put, hsz], fun i x u hi hu => ?_⟩, h.sr.hp, h.sr.gl, h.sr.df, h.sr.go, h.sr.dom, h.sr.lo⟩, fun t => ?_, fun t x ht => ?_⟩
      · by_cases hid : i = d
        · subst hid
          rw [hT] at hi
          simp only [Option.some.injEq] at hi
          subst hi
          exact .any _
        · refine h.sr.tm.2 i x u hi ?_
          simpa [Act.put, Array.getElem?_setIfInBounds_ne (Ne.symm hid)] using hu
      · simp only [lk, lookL_cons]
        by_cases htd : t = d
        · subst htd
          rw [if_pos rfl]
          have : (a.put (some t) v).tmps.getD t undef = v := by simp [Act.put, hd]
          rw [this]; exact hr
        · rw [if_neg (Ne.symm htd), others t htd]
          exact h.lf t
      · rw [lookL_cons, if_neg (fun he => by rw [he] at hl; rw [hl] at ht; cases ht)]
        exact h.ll t x ht
    · have hp := (h.sr.tm.put (some d) hr)
      refine ⟨_, _, hf, ⟨hp, h.sr.hp, h.sr.gl, h.sr.df, h.sr.go, h.sr.dom, h.sr.lo.put (dst := some d) (v := r) fun e he => by cases he; exact hl⟩, fun t => ?_, h.ll⟩
      by_cases htd : t = d
      · subst htd
        simp only [lk]
        rw [h.ll t _ hl]
        exact hp.look t
      · rw [others t htd]
        have := h.lf t
        simp only [lk] at this ⊢
        have e : getL (T.set d r) t = getL T t := by
          rw [getL_eq, getL_eq]
          simp [List.getD_eq_getElem?_getD, List.getElem?_set_ne (Ne.symm htd)]
        rw [e]
        exact this

theorem SRL.after {o : Oper} {k : AV → Heap → Out} {a' : Act} {w' : World} {L : Lc} (h : SRL C E Pb μ B0 w L T H a) (ha : After Pb μ B0 w H a o k a' w') :
    ∃ r H' v Pb' μ', k r H' ∧ a' = a.put o.dst v ∧ Rel Pb' μ' w' r v ∧ SRL C E Pb' μ' B0 w' L T H' a := by
  obtain ⟨r, H', v, Pb', μ', h1, rfl, h3, h4, h5⟩ := ha
  exact ⟨r, H', v, Pb', μ', h1, rfl, h3, ⟨h.sr.tm.mono h5.pb h5.mu h5.ext, h4, h.sr.gl.goes h5, h.sr.df, h.sr.go.trans h5, h.sr.dom, h.sr.lo⟩, h.lf.mono h5.pb h5.mu h5.ext, h.ll⟩

theorem aops_ok {call : Caller} (hc : CallOk C call) (hsm : SummOk C) {ops : Array Oper} {K : Tmps → Heap → Out} {Q : Exit → Act → World → Prop}
    (hQ : ∀ T H Pb μ a w, K T H → SR C E Pb μ B0 w T H a → Q .normal a w) : ∀ (l : List Oper) {L : Lc} {T : Tmps} {H : Heap} {Pb : Nat → Prop} {μ : Mu} {a : Act} {w : World},
    aops C call E.M ops l L T H K → SRL C E Pb μ B0 w L T H a → wpList C.P ops Q l a w
  | [], L, T, H, Pb, μ, a, w, h, hs => hQ T H Pb μ a w h hs.sr
  | o :: r, L, T, H, Pb, μ, a, w, h, hs => by
    simp only [aops, aopF_eq] at h
    split at h
    · exact h.elim
    · rename_i g hb
      refine wpList_step fun K' hK' => ?_
      have hgd := guardA_ok hb hs.lf h
      clear h
      rcases hgd with ⟨hw, h⟩ | ⟨hw, h⟩ <;> rw [hw]
      · rw [if_pos rfl]
        refine Oper.wp_mono (fun a' w' ha => ?_) (aop_ok hc hsm h hs.lf hs.sr.hp hs.sr.gl)
        obtain ⟨x, H', v, Pb', μ', h1, rfl, h3, h4⟩ := hs.after ha
        obtain ⟨L', T', h5, h6⟩ := h4.putL h3 h1
        exact hK' _ _ (aops_ok hc hsm hQ r h5 h6)
      · rw [if_neg (by simp)]
        obtain ⟨L', T', h5, h6⟩ := hs.putL (v := undef) (Rel.of_sc ..) h
        exact hK' _ _ (aops_ok hc hsm hQ r h5 h6)

theorem SR.below {w' : World} (h : SR C E Pb μ B0 w T H a) (hb : Below w.heap.size w w') : SR C E Pb μ B0 w' T H a := by
  have hsame := same_of_below hb
  have hext : Ext Pb w w' := ⟨fun b hb => hsame b (h.hp.pb b hb), fun b n ⟨c, ty, fr, h1, h2⟩ => ⟨c, ty, fr, hsame.get h1, h2⟩⟩
  have hgo : Goes Pb μ B0 w H.length Pb μ w' H.length := ⟨fun _ h => h, fun _ _ _ h => h, hext, hb.mono h.hp.base, Nat.le_refl _, fun _ h => .inl h⟩
  exact ⟨h.tm.mono hgo.pb hgo.mu hext, h.hp.same hsame hb.size (fun _ h => h) (fun _ h => .inl h), h.gl.goes hgo, h.df, h.go.trans hgo, h.dom, h.lo⟩

theorem below_drew (w : World) : Below w.heap.size w { w with drawn := w.drawn + 1 } := ⟨rfl, rfl, rfl, Nat.le_refl _, fun _ _ => rfl⟩

/-! ### a region that draws its order -/

/-- A guard's answer. -/
def GB (g : AV × Bool) (b : Bool) : Prop := ∀ y n : Out, Ok (cond b y n) → Ok (guardA g y n)

theorem guard_split {g : AV × Bool} {y n : Out} (h : Ok (guardA g y n)) : (GB g true ∧ Ok y) ∨ (GB g false ∧ Ok n) := by
  have key : ∀ (c : AV) (x z : Out), Ok (condA c x z) → ((∀ x' z' : Out, Ok x' → Ok (condA c x' z')) ∧ Ok x) ∨ ((∀ x' z' : Out, Ok z' → Ok (condA c x' z')) ∧ Ok z) := by
    intro c x z h
    unfold condA at h ⊢
    split at h
    · rename_i b
      cases b
      · exact .inr ⟨fun _ _ h => h, h⟩
      · exact .inl ⟨fun _ _ h => h, h⟩
    · rename_i e
      rcases sel_ok h with ⟨he, h⟩ | ⟨he, h⟩
      · exact .inl ⟨fun _ _ h => by show cond (dv e).b _ _; rw [he]; exact h, h⟩
      · exact .inr ⟨fun _ _ h => by show cond (dv e).b _ _; rw [he]; exact h, h⟩
    · exact h.elim
  obtain ⟨c, want⟩ := g
  cases want with
  | true => exact (key c y n h).imp (fun h => ⟨fun y' n' hy => h.1 y' n' hy, h.2⟩) (fun h => ⟨fun y' n' hy => h.1 y' n' hy, h.2⟩)
  | false => exact (key c n y h).symm.imp (fun h => ⟨fun y' n' hy => h.1 n' y' hy, h.2⟩) (fun h => ⟨fun y' n' hy => h.1 n' y' hy, h.2⟩)

theorem GB.wanted {ops : Array Oper} {o : Oper} {g : AV × Bool} {b : Bool} {okO : Out} (hok : Ok okO) (h : GB g b) (hw : wantedA ops o (getL T) = some g) (hT : RelL Pb μ w T a.tmps) : Region.wanted o (yielded ops a.tmps) = b := by
  cases b with
  | true => exact (guardA_ok hw hT.look (h okO .fail hok)).elim And.left (fun h => h.2.elim)
  | false => exact (guardA_ok hw hT.look (h .fail okO hok)).elim (fun h => h.2.elim) And.left

/-- What is known of an operation that came up. -/
structure Rc where
  v : AV
  kd : Kd

def ChainR (C : Ctx) (call : Caller) (ops : Array Oper) : List Oper → List Rc → Tmps → Heap → Nat → Tmps → List Heap → Prop
  | [], [], T, H, _, Tf, Hl => Tf = T ∧ Hl = [H]
  | o :: l, r :: rs, T, H, n, Tf, Hl => ∃ g, wantedA ops o (getL T) = some g ∧ match r.kd with
    | .no => GB g false ∧ r.v = undefA ∧ ChainR C call ops l rs (put T o.dst r.v) H n Tf Hl
    | .quiet => GB g true ∧ quietO C o (getL T) = true ∧ (∀ k' : AV → Out, Ok (k' r.v) → Ok (aopQ C call o (getL T) H k')) ∧ ChainR C call ops l rs (put T o.dst r.v) H n Tf Hl
    | .loud p => p = n ∧ GB g true ∧ ∃ H' Hl', Hl = H :: Hl' ∧ (∀ k' : AV → Heap → Out, Ok (k' r.v H') → Ok (aop C call o (getL T) H k')) ∧ ChainR C call ops l rs (put T o.dst r.v) H' (n + 1) Tf Hl'
  | _, _, _, _, _, _, _ => False

theorem runD_ok {call : Caller} (hd : DetC call) {ops : Array Oper} : ∀ (l : List Oper) {T : Tmps} {H : Heap} {ks : List Kd} {hs : List Heap} {K : Tmps → List Kd → List Heap → Out}, Ok (runD C call ops l T H ks hs K) →
    ∃ rs Tf Hl, ChainR C call ops l rs T H hs.length Tf Hl ∧ Ok (K Tf ((rs.map Rc.kd).reverse ++ ks) (Hl.reverse ++ hs))
  | [], T, H, ks, hs, K, h => ⟨[], T, [H], ⟨rfl, rfl⟩, h⟩
  | o :: l, T, H, ks, hs, K, h => by
    simp only [runD, putK_eq] at h
    split at h
    · exact h.elim
    · rename_i g hg
      rcases guard_split h with ⟨hb, h⟩ | ⟨hb, h⟩
      · rcases cond_split h with ⟨hq, h⟩ | ⟨hq, h⟩
        · obtain ⟨v, h1, h2⟩ := det_aopQ hd _ h
          obtain ⟨rs, Tf, Hl, h3, h4⟩ := runD_ok hd l h1
          exact ⟨⟨v, .quiet⟩ :: rs, Tf, Hl, ⟨g, hg, hb, hq, h2, h3⟩, by simpa using h4⟩
        · obtain ⟨v, H', h1, h2⟩ := det_aop hd _ h
          obtain ⟨rs, Tf, Hl, h3, h4⟩ := runD_ok hd l h1
          exact ⟨⟨v, .loud hs.length⟩ :: rs, Tf, H :: Hl, ⟨g, hg, rfl, hb, H', Hl, rfl, h2, h3⟩, by simpa using h4⟩
      · obtain ⟨rs, Tf, Hl, h3, h4⟩ := runD_ok hd l h
        exact ⟨⟨undefA, .no⟩ :: rs, Tf, Hl, ⟨g, hg, hb, rfl, h3⟩, by simpa using h4⟩

theorem getD_put (T : Tmps) (dst : Option Tmp) (v : AV) (t : Tmp) : (put T dst v).getD t undefA = if dst = some t then (if t < T.length then v else undefA) else T.getD t undefA := by
  cases dst with
  | none => simp [put]
  | some d =>
    simp only [put, List.getD_eq_getElem?_getD, List.getElem?_set, Option.some.injEq]
    by_cases hd : d = t
    · subst hd
      by_cases hl : d < T.length <;> simp [hl]
    · simp [hd]

theorem len_put (T : Tmps) (dst : Option Tmp) (v : AV) : (put T dst v).length = T.length := by cases dst <;> simp [put]

theorem chain_len {call : Caller} {ops : Array Oper} : ∀ (l : List Oper) {rs : List Rc} {T : Tmps} {H : Heap} {n : Nat} {Tf : Tmps} {Hl : List Heap}, ChainR C call ops l rs T H n Tf Hl → rs.length = l.length ∧ Tf.length = T.length ∧ Hl ≠ []
  | [], [], _, _, _, _, _, h => by obtain ⟨rfl, rfl⟩ := h; simp
  | o :: l, r :: rs, T, H, n, Tf, Hl, h => by
    obtain ⟨g, hg, h⟩ := h
    obtain ⟨v, kd⟩ := r
    cases kd with
    | no => obtain ⟨_, _, h⟩ := h; have := chain_len l h; rw [len_put] at this; simp [this]
    | quiet => obtain ⟨_, _, _, h⟩ := h; have := chain_len l h; rw [len_put] at this; simp [this]
    | loud p => obtain ⟨_, _, H', Hl', rfl, _, h⟩ := h; have := chain_len l h; rw [len_put] at this; simp [this]
  | [], _ :: _, _, _, _, _, _, h => h.elim
  | _ :: _, [], _, _, _, _, _, h => h.elim

/-- A temporary that nobody writes any more. -/
theorem chain_keep {call : Caller} {ops : Array Oper} {t : Tmp} : ∀ (l : List Oper) {rs : List Rc} {T : Tmps} {H : Heap} {n : Nat} {Tf : Tmps} {Hl : List Heap}, ChainR C call ops l rs T H n Tf Hl → (∀ o, o ∈ l → o.dst ≠ some t) → Tf.getD t undefA = T.getD t undefA
  | [], [], _, _, _, _, _, h, _ => by obtain ⟨rfl, rfl⟩ := h; rfl
  | o :: l, r :: rs, T, H, n, Tf, Hl, h, hn => by
    have hne := hn o (List.mem_cons_self ..)
    have hn' := fun o ho => hn o (List.mem_cons_of_mem _ ho)
    have hp : ∀ v, (put T o.dst v).getD t undefA = T.getD t undefA := fun v => by rw [getD_put, if_neg hne]
    obtain ⟨g, hg, h⟩ := h
    obtain ⟨v, kd⟩ := r
    cases kd with
    | no => obtain ⟨_, _, h⟩ := h; rw [chain_keep l h hn', hp]
    | quiet => obtain ⟨_, _, _, h⟩ := h; rw [chain_keep l h hn', hp]
    | loud p => obtain ⟨_, _, H', Hl', rfl, _, h⟩ := h; rw [chain_keep l h hn', hp]
  | [], _ :: _, _, _, _, _, _, h, _ => h.elim
  | _ :: _, [], _, _, _, _, _, h, _ => h.elim

/-- What is known of operation number i. -/
structure Known (C : Ctx) (call : Caller) (ops : Array Oper) (o : Oper) (r : Rc) (Ti : Tmps) (n : Nat) (Hl : List Heap) : Prop where
  g : ∃ g, wantedA ops o (getL Ti) = some g ∧ GB g (match r.kd with | .no => false | _ => true)
  no : r.kd = .no → r.v = undefA
  quiet : r.kd = .quiet → quietO C o (getL Ti) = true ∧ ∃ (m : Nat) (H : Heap), Hl[m]? = some H ∧ ∀ k' : AV → Out, Ok (k' r.v) → Ok (aopQ C call o (getL Ti) H k')
  loud : ∀ p, r.kd = .loud p → n ≤ p ∧ ∃ H H' : Heap, Hl[p - n]? = some H ∧ Hl[p - n + 1]? = some H' ∧ ∀ k' : AV → Heap → Out, Ok (k' r.v H') → Ok (aop C call o (getL Ti) H k')

theorem chain_head {call : Caller} {ops : Array Oper} : ∀ (l : List Oper) {rs : List Rc} {T : Tmps} {H : Heap} {n : Nat} {Tf : Tmps} {Hl : List Heap}, ChainR C call ops l rs T H n Tf Hl → Hl[0]? = some H
  | [], [], _, _, _, _, _, h => by obtain ⟨rfl, rfl⟩ := h; rfl
  | o :: l, r :: rs, T, H, n, Tf, Hl, h => by
    obtain ⟨g, hg, h⟩ := h
    obtain ⟨v, kd⟩ := r
    cases kd with
    | no => obtain ⟨_, _, h⟩ := h; exact chain_head l h
    | quiet => obtain ⟨_, _, _, h⟩ := h; exact chain_head l h
    | loud p => obtain ⟨_, _, H', Hl', rfl, _, h⟩ := h; rfl
  | [], _ :: _, _, _, _, _, _, h => h.elim
  | _ :: _, [], _, _, _, _, _, h => h.elim

/-- How many turned memory. -/
theorem chain_louds {call : Caller} {ops : Array Oper} : ∀ (l : List Oper) {rs : List Rc} {T : Tmps} {H : Heap} {n : Nat} {Tf : Tmps} {Hl : List Heap}, ChainR C call ops l rs T H n Tf Hl →
    ∀ p, n ≤ p → p + 1 < n + Hl.length → ∃ (i : Nat) (v : AV), rs[i]? = some ⟨v, .loud p⟩
  | [], [], _, _, n, _, _, h, p, h1, h2 => by obtain ⟨rfl, rfl⟩ := h; simp at h2; omega
  | o :: l, r :: rs, T, H, n, Tf, Hl, h, p, h1, h2 => by
    obtain ⟨g, hg, h⟩ := h
    obtain ⟨v, kd⟩ := r
    cases kd with
    | no => obtain ⟨_, _, h⟩ := h; obtain ⟨i, u, hi⟩ := chain_louds l h p h1 h2; exact ⟨i + 1, u, by simpa using hi⟩
    | quiet => obtain ⟨_, _, _, h⟩ := h; obtain ⟨i, u, hi⟩ := chain_louds l h p h1 h2; exact ⟨i + 1, u, by simpa using hi⟩
    | loud q =>
      obtain ⟨rfl, _, H', Hl', rfl, _, h⟩ := h
      by_cases hp : p = q
      · subst hp; exact ⟨0, v, rfl⟩
      · obtain ⟨i, u, hi⟩ := chain_louds l h p (by omega) (by simp at h2; omega); exact ⟨i + 1, u, by simpa using hi⟩
  | [], _ :: _, _, _, _, _, _, h, _, _, _ => h.elim
  | _ :: _, [], _, _, _, _, _, h, _, _, _ => h.elim

theorem chain_get {call : Caller} {ops : Array Oper} : ∀ (l : List Oper) {rs : List Rc} {T : Tmps} {H : Heap} {n : Nat} {Tf : Tmps} {Hl : List Heap}, ChainR C call ops l rs T H n Tf Hl →
    ∀ (i : Nat) (o : Oper), l[i]? = some o → ∃ (r : Rc) (Ti : Tmps), rs[i]? = some r ∧ Known C call ops o r Ti n Hl ∧ Ti.length = T.length ∧
      (∀ t, (∀ (j : Nat) (p : Oper), i ≤ j → l[j]? = some p → p.dst ≠ some t) → Tf.getD t undefA = Ti.getD t undefA) ∧
      (∀ d, o.dst = some d → (∀ (j : Nat) (p : Oper), i < j → l[j]? = some p → p.dst ≠ some d) → Tf.getD d undefA = if d < T.length then r.v else undefA) ∧
      (∀ t, (∀ (j : Nat) (p : Oper), j < i → l[j]? = some p → p.dst ≠ some t) → Ti.getD t undefA = T.getD t undefA)
  | [], [], _, _, _, _, _, h, i, o, hi => by simp at hi
  | o :: l, r :: rs, T, H, n, Tf, Hl, h, 0, o', hi => by
    simp only [List.getElem?_cons_zero, Option.some.injEq] at hi
    subst hi
    have hc := h
    have hhead := chain_head (o :: l) hc
    obtain ⟨g, hg, h⟩ := h
    obtain ⟨v, kd⟩ := r
    have keep : ∀ {H2 n2 Hl2}, ChainR C call ops l rs (put T o.dst v) H2 n2 Tf Hl2 → ∀ d, o.dst = some d → (∀ (j : Nat) (p : Oper), 0 < j → (o :: l)[j]? = some p → p.dst ≠ some d) → Tf.getD d undefA = if d < T.length then v else undefA := fun {H2 n2 Hl2} hch d hd hno => by
      rw [chain_keep l hch fun p hp => ?_, getD_put, if_pos hd]
      obtain ⟨j, hj⟩ := List.mem_iff_getElem?.1 hp
      exact hno (j + 1) p (by omega) (by simpa using hj)
    refine ⟨⟨v, kd⟩, T, rfl, ?_, rfl, fun t ht => chain_keep (o :: l) hc fun p hp => ?_, ?_, fun t _ => rfl⟩
    · cases kd with
      | no => obtain ⟨h1, h2, h3⟩ := h; exact ⟨⟨g, hg, h1⟩, fun _ => h2, fun hh => (by cases hh), fun p hh => (by cases hh)⟩
      | quiet => obtain ⟨h1, h2, h3, h4⟩ := h; exact ⟨⟨g, hg, h1⟩, fun hh => (by cases hh), fun _ => ⟨h2, 0, H, hhead, h3⟩, fun p hh => (by cases hh)⟩
      | loud q =>
        obtain ⟨rfl, h1, H', Hl', rfl, h2, h3⟩ := h
        refine ⟨⟨g, hg, h1⟩, fun hh => (by cases hh), fun hh => (by cases hh), fun p hh => ?_⟩
        simp only [Kd.loud.injEq] at hh
        subst hh
        exact ⟨Nat.le_refl _, H, H', by simp, by simpa using chain_head l h3, h2⟩
    · obtain ⟨j, hj⟩ := List.mem_iff_getElem?.1 hp
      exact ht j p (Nat.zero_le _) hj
    · cases kd with
      | no => exact keep h.2.2
      | quiet => exact keep h.2.2.2
      | loud q => obtain ⟨_, _, H', Hl', _, _, h3⟩ := h; exact keep h3
  | o :: l, r :: rs, T, H, n, Tf, Hl, h, i + 1, o', hi => by
    simp only [List.getElem?_cons_succ] at hi
    obtain ⟨g, hg, h⟩ := h
    have key : ∀ {H2 n2 Hl2}, n ≤ n2 → (∀ (m : Nat) (H : Heap), Hl2[m]? = some H → Hl[m + (n2 - n)]? = some H) → ChainR C call ops l rs (put T o.dst r.v) H2 n2 Tf Hl2 → ∃ (r' : Rc) (Ti : Tmps), (r :: rs)[i + 1]? = some r' ∧ Known C call ops o' r' Ti n Hl ∧ Ti.length = T.length ∧
        (∀ t, (∀ (j : Nat) (p : Oper), i + 1 ≤ j → (o :: l)[j]? = some p → p.dst ≠ some t) → Tf.getD t undefA = Ti.getD t undefA) ∧
        (∀ d, o'.dst = some d → (∀ (j : Nat) (p : Oper), i + 1 < j → (o :: l)[j]? = some p → p.dst ≠ some d) → Tf.getD d undefA = if d < T.length then r'.v else undefA) ∧
        (∀ t, (∀ (j : Nat) (p : Oper), j < i + 1 → (o :: l)[j]? = some p → p.dst ≠ some t) → Ti.getD t undefA = T.getD t undefA) := fun {H2 n2 Hl2} hn hHl hch => by
      obtain ⟨r', Ti, h1, h2, h3, h4, h5, h6⟩ := chain_get l hch i o' hi
      rw [len_put] at h3 h5
      refine ⟨r', Ti, by simpa using h1, ⟨h2.g, h2.no, fun hq => ?_, fun p hp => ?_⟩, h3, fun t ht => h4 t fun j p hj hp => ht (j + 1) p (by omega) (by simpa using hp), fun d hd hno => h5 d hd fun j p hj hp => hno (j + 1) p (by omega) (by simpa using hp), fun t ht => by rw [h6 t fun j p hj hp => ht (j + 1) p (by omega) (by simpa using hp), getD_put, if_neg (ht 0 o (by omega) rfl)]⟩
      · obtain ⟨q1, m, H, q2, q3⟩ := h2.quiet hq
        exact ⟨q1, _, H, hHl m H q2, q3⟩
      · obtain ⟨q1, H, H', q2, q3, q4⟩ := h2.loud p hp
        refine ⟨by omega, H, H', ?_, ?_, q4⟩
        · have := hHl _ _ q2; rwa [show p - n2 + (n2 - n) = p - n by omega] at this
        · have := hHl _ _ q3; rwa [show p - n2 + 1 + (n2 - n) = p - n + 1 by omega] at this
    obtain ⟨v, kd⟩ := r
    cases kd with
    | no => exact key (Nat.le_refl _) (fun m H h => by simpa using h) h.2.2
    | quiet => exact key (Nat.le_refl _) (fun m H h => by simpa using h) h.2.2.2
    | loud p =>
      obtain ⟨_, _, H', Hl', rfl, _, h3⟩ := h
      exact key (n2 := n + 1) (by omega) (fun m H h => by simpa [Nat.add_sub_cancel_left] using h) h3
  | [], _ :: _, _, _, _, _, _, h, _, _, _ => h.elim
  | _ :: _, [], _, _, _, _, _, h, _, _, _ => h.elim
end
end Go.Proofs.Ytamhmfdbnlkmkaa

/- A region that draws its order: one run in the text's order serves each order. -/
set_option linter.unusedVariables false
set_option linter.unusedSectionVars false
set_option linter.unusedSimpArgs false
namespace Go.Proofs.Ytamhmfdbnlkmkaa
open Go Go.RowKit
variable [Obs]
section
variable {C : Ctx} {E : Entry} {Pb : Nat → Prop} {μ : Mu} {B0 : Nat} {w : World} {T : Tmps} {H : Heap} {a : Act} {call : Caller} {ops : Array Oper}

theorem all_zipIdx {α : Type} {l : List α} {f : α × Nat → Bool} (h : l.zipIdx.all f = true) {i : Nat} {x : α} (hi : l[i]? = some x) : f (x, i) = true :=
  List.all_eq_true.1 h (x, i) (List.mk_mem_zipIdx_iff_getElem?.2 hi)

theorem mem_preds {o : Oper} {j : Nat} : j ∈ preds o ↔ ∃ e ∈ o.after, Region.binds .any e = true ∧ e.on = j := by
  unfold preds
  rw [List.mem_filterMap]
  constructor
  · rintro ⟨e, he, h⟩
    cases hb : Region.binds .any e with
    | true => rw [hb] at h; simp only [cond_true, Option.some.injEq] at h; exact ⟨e, by simpa using he, hb, h⟩
    | false => rw [hb] at h; simp at h
  · rintro ⟨e, he, hb, rfl⟩
    exact ⟨e, by simpa using he, by rw [hb]; rfl⟩

structure OpsOk (ops : Array Oper) : Prop where
  sel : ∀ (j : Nat) (o : Oper) cs b, ops[j]? = some o → o.op ≠ .select cs b
  lt : ∀ (i : Nat) (o : Oper), ops[i]? = some o → ∀ j ∈ preds o, j < i
  look : ∀ (i : Nat) (o : Oper) (j : Nat) (p : Oper) (d : Tmp), ops[i]? = some o → ops[j]? = some p → p.dst = some d → d ∈ o.looksAt ops → j ∈ preds o ∨ (readsO o = false ∧ i ∈ preds p)
  dist : ∀ (i : Nat) (o : Oper) (j : Nat) (p : Oper) (d : Tmp), ops[i]? = some o → ops[j]? = some p → o.dst = some d → p.dst = some d → i = j

theorem okOps_spec (h : okOps ops = true) : OpsOk ops := by
  simp only [okOps, Bool.and_eq_true] at h
  obtain ⟨h1, h2⟩ := h
  have key : ∀ {i : Nat} {o : Oper}, ops[i]? = some o → (∀ j ∈ preds o, j < i) ∧ ∀ {j : Nat} {p : Oper}, ops[j]? = some p → okPair ops i o j p = true := fun {i o} hi => by
    have := all_zipIdx h2 (i := i) (x := o) (by simpa using hi)
    simp only [Bool.and_eq_true] at this
    obtain ⟨g1, g2⟩ := this
    exact ⟨fun j hj => by simpa using List.all_eq_true.1 g1 j hj, fun {j p} hj => all_zipIdx g2 (i := j) (x := p) (by simpa using hj)⟩
  refine ⟨Region.noSelect_spec h1, fun i o hi => (key hi).1, fun i o j p d hi hj hd hl => ?_, fun i o j p d hi hj hd hd' => ?_⟩
  · have := (key hi).2 hj
    simp only [okPair, dstIn, hd, Bool.and_eq_true, Bool.or_eq_true, Bool.not_eq_true', List.contains_iff_mem] at this
    rcases this.1 with (h | h) | h
    · have hh : (o.looksAt ops).contains d = true := by simpa using hl
      rw [hh] at h; cases h
    · exact .inl h.2
    · exact .inr ⟨h.1.1, h.2⟩
  · have := (key hi).2 hj
    simp only [okPair, hd, hd', Bool.and_eq_true, Bool.or_eq_true, decide_eq_true_eq, decide_true, Bool.not_true] at this
    rcases this.2 with h | h
    · exact h
    · cases h

/-! ### all that an operation waits for -/

theorem maskOf_bit {ms : List Nat} {j : Nat} : ∀ {l : List Nat}, Nat.testBit (maskOf ms l) j = true → ∃ k ∈ l, j = k ∨ Nat.testBit (ms.getD k 0) j = true := by
  have key : ∀ (l : List Nat) (s : Nat), Nat.testBit (l.foldl (fun s j => Nat.lor s (Nat.lor (2 ^ j) (ms.getD j 0))) s) j = true → Nat.testBit s j = true ∨ ∃ k ∈ l, j = k ∨ Nat.testBit (ms.getD k 0) j = true := by
    intro l
    induction l with
    | nil => intro s h; exact .inl h
    | cons a l ih =>
      intro s h
      rcases ih _ h with h | ⟨k, hk, h⟩
      · have h2 : Nat.testBit (s ||| (2 ^ a ||| ms.getD a 0)) j = true := h
        rw [Nat.testBit_or, Nat.testBit_or, Bool.or_eq_true, Bool.or_eq_true] at h2
        rcases h2 with h2 | h2 | h2
        · exact .inl h2
        · rw [Nat.testBit_two_pow] at h2
          exact .inr ⟨a, List.mem_cons_self .., .inl (by simp only [decide_eq_true_eq] at h2; exact h2.symm)⟩
        · exact .inr ⟨a, List.mem_cons_self .., .inr h2⟩
      · exact .inr ⟨k, List.mem_cons_of_mem _ hk, h⟩
  intro l h
  rcases key l 0 h with h | h
  · simp at h
  · exact h

theorem masks_get : ∀ (l : List Oper) (ms : List Nat), (∀ (i : Nat), i < ms.length → (masks l ms)[i]? = ms[i]?) ∧ (masks l ms).length = ms.length + l.length ∧
    ∀ (i : Nat) (o : Oper), l[i]? = some o → ∃ ms', (masks l ms)[ms.length + i]? = some (maskOf ms' (preds o)) ∧ ms'.length = ms.length + i ∧ ∀ k, k < ms'.length → ms'[k]? = (masks l ms)[k]?
  | [], ms => ⟨fun _ _ => rfl, by simp [masks], fun i o h => by simp at h⟩
  | o :: r, ms => by
    obtain ⟨h1, h2, h3⟩ := masks_get r (ms ++ [maskOf ms (preds o)])
    simp only [List.length_append, List.length_singleton] at h1 h2 h3
    refine ⟨fun i hi => ?_, by simp only [masks, h2, List.length_cons]; omega, fun i o' hi => ?_⟩
    · simp only [masks]
      rw [h1 i (by omega), List.getElem?_append_left hi]
    · cases i with
      | zero =>
        simp only [List.getElem?_cons_zero, Option.some.injEq] at hi
        subst hi
        refine ⟨ms, ?_, by simp, fun k hk => ?_⟩
        · simp only [masks, Nat.add_zero]
          rw [h1 _ (by omega)]
          simp
        · simp only [masks]
          rw [h1 k (by omega), List.getElem?_append_left hk]
      | succ i =>
        obtain ⟨ms', q1, q2, q3⟩ := h3 i o' (by simpa using hi)
        exact ⟨ms', by simpa only [masks, Nat.add_assoc, Nat.add_comm 1 i] using q1, by omega, q3⟩

theorem mask_bit {i j : Nat} {o : Oper} (ho : ops[i]? = some o) (hok : OpsOk ops) (h : Nat.testBit ((masks ops.toList []).getD i 0) j = true) : ∃ k ∈ preds o, j = k ∨ Nat.testBit ((masks ops.toList []).getD k 0) j = true := by
  obtain ⟨_, _, h3⟩ := masks_get ops.toList []
  obtain ⟨ms', q1, q2, q3⟩ := h3 i o (by simpa using ho)
  simp only [List.length_nil, Nat.zero_add] at q1 q2
  rw [List.getD_eq_getElem?_getD, q1] at h
  obtain ⟨k, hk, h⟩ := maskOf_bit h
  refine ⟨k, hk, h.imp id fun h => ?_⟩
  have hki := hok.lt i o ho k hk
  rw [List.getD_eq_getElem?_getD, q3 k (by omega)] at h
  rwa [List.getD_eq_getElem?_getD]

/-- What has come up holds all that it waits for. -/
theorem closed_all {S : Nat → Prop} (hok : OpsOk ops) (hc : ∀ (i : Nat) (o : Oper), ops[i]? = some o → S i → ∀ j ∈ preds o, S j) (hlt : ∀ i, S i → i < ops.size) : ∀ (i j : Nat), S i → Nat.testBit ((masks ops.toList []).getD i 0) j = true → S j := by
  intro i
  induction i using Nat.strongRecOn with
  | _ i ih =>
    intro j hi hb
    have ho : ops[i]? = some (ops[i]'(hlt i hi)) := Array.getElem?_eq_getElem _
    obtain ⟨k, hk, h⟩ := mask_bit ho hok hb
    have hSk := hc i _ ho hi k hk
    rcases h with rfl | h
    · exact hSk
    · exact ih k (hok.lt i _ ho k hk) j hSk h

/-! ### bounds of memories -/

theorem loD_le {ks : List Kd} {m n : Nat} (h : ∀ (j : Nat) (q : Nat), Nat.testBit m j = true → ks[j]? = some (.loud q) → q + 1 ≤ n) : loD ks m ≤ n := by
  unfold loD
  have key : ∀ (l : List (Kd × Nat)) (a : Nat), a ≤ n → (∀ x ∈ l, ∀ q, x.1 = .loud q → Nat.testBit m x.2 = true → q + 1 ≤ n) → l.foldl (fun (a : Nat) (x : Kd × Nat) => match x.1 with | .loud q => cond (Nat.testBit m x.2) (max a (q + 1)) a | _ => a) a ≤ n := by
    intro l
    induction l with
    | nil => intro a ha _; exact ha
    | cons x l ih =>
      intro a ha hl
      refine ih _ ?_ fun x' hx' => hl x' (List.mem_cons_of_mem _ hx')
      dsimp only
      split
      · rename_i q hq
        cases hb : Nat.testBit m x.2 with
        | true =>
          have := hl x (List.mem_cons_self ..) q hq hb
          simp only [cond_true]; omega
        | false => exact ha
      · exact ha
  refine key _ 0 (Nat.zero_le _) fun x hx q hq hb => ?_
  obtain ⟨k, i⟩ := x
  simp only at hq hb
  subst hq
  exact h i q hb (List.mk_mem_zipIdx_iff_getElem?.1 hx)

theorem le_hiD {ms : List Nat} {ks : List Kd} {i m n : Nat} (hn : m ≤ n) (h : ∀ (j : Nat) (q : Nat), ks[j]? = some (.loud q) → Nat.testBit (ms.getD j 0) i = true → m ≤ q) : m ≤ hiD ms ks i n := by
  unfold hiD
  have key : ∀ (l : List (Nat × Kd)) (a : Nat), m ≤ a → (∀ x ∈ l, ∀ q, x.2 = .loud q → Nat.testBit x.1 i = true → m ≤ q) →
      m ≤ l.foldl (fun (a : Nat) (x : Nat × Kd) => match x.2 with | .loud q => cond (Nat.testBit x.1 i) (min a q) a | _ => a) a := by
    intro l
    induction l with
    | nil => intro a ha _; exact ha
    | cons x l ih =>
      intro a ha hl
      refine ih _ ?_ fun x' hx' => hl x' (List.mem_cons_of_mem _ hx')
      dsimp only
      split
      · rename_i q hq
        cases hb : Nat.testBit x.1 i with
        | true =>
          have := hl x (List.mem_cons_self ..) q hq hb
          simp only [cond_true]; omega
        | false => exact ha
      · exact ha
  refine key _ n hn fun x hx q hq hb => ?_
  obtain ⟨j, hj⟩ := List.mem_iff_getElem?.1 hx
  rw [List.getElem?_zip_eq_some] at hj
  exact h j q (by rw [hj.2, hq]) (by rw [List.getD_eq_getElem?_getD, hj.1]; exact hb)

theorem checkAt_ok (hd : DetC call) {T : Look} {o : Oper} {v : AV} : ∀ {hs : List Heap} {k : Out}, Ok (checkAt C call o T v hs k) → Ok k ∧ ∀ H, H ∈ hs → ∀ k' : AV → Out, Ok (k' v) → Ok (aopQ C call o T H k')
  | [], k, h => ⟨h, fun H hH => by cases hH⟩
  | H :: r, k, h => by
    simp only [checkAt] at h
    obtain ⟨u, h1, h2⟩ := det_aopQ hd _ h
    obtain ⟨hs, h1⟩ := cond_false h1
    have := sameA_eq hs
    subst this
    obtain ⟨h3, h4⟩ := checkAt_ok hd h1
    exact ⟨h3, fun H' hH' => (List.mem_cons.1 hH').elim (fun e => e ▸ h2) (h4 H')⟩

theorem checksD_ok (hd : DetC call) {ms : List Nat} {ks : List Kd} {hl : List Heap} : ∀ {l : List (Oper × Kd)} {i : Nat} {k : Out}, Ok (checksD C call ms T ks hl l i k) → Ok k ∧
    ∀ (j : Nat) (o : Oper), l[j]? = some (o, .quiet) → readsO o = true → ∃ d, o.dst = some d ∧ ∀ m, loD ks (ms.getD (i + j) 0) ≤ m → m ≤ hiD ms ks (i + j) hl.length → ∀ H, hl[m]? = some H → ∀ k' : AV → Out, Ok (k' (T.getD d undefA)) → Ok (aopQ C call o (getL T) H k')
  | [], i, k, h => ⟨h, fun j o hj => by simp at hj⟩
  | (o, kd) :: r, i, k, h => by
    have skip : Ok (checksD C call ms T ks hl r (i + 1) k) → (∀ o', (o, kd) = (o', Kd.quiet) → readsO o' = true → ∃ d, o'.dst = some d ∧ ∀ m, loD ks (ms.getD i 0) ≤ m → m ≤ hiD ms ks i hl.length → ∀ H, hl[m]? = some H → ∀ k' : AV → Out, Ok (k' (T.getD d undefA)) → Ok (aopQ C call o' (getL T) H k')) →
        Ok k ∧ ∀ (j : Nat) (o' : Oper), ((o, kd) :: r)[j]? = some (o', .quiet) → readsO o' = true → ∃ d, o'.dst = some d ∧ ∀ m, loD ks (ms.getD (i + j) 0) ≤ m → m ≤ hiD ms ks (i + j) hl.length → ∀ H, hl[m]? = some H → ∀ k' : AV → Out, Ok (k' (T.getD d undefA)) → Ok (aopQ C call o' (getL T) H k') := fun h h0 => by
      obtain ⟨h1, h2⟩ := checksD_ok hd h
      refine ⟨h1, fun j o' hj hr => ?_⟩
      cases j with
      | zero => simp only [List.getElem?_cons_zero, Option.some.injEq] at hj; exact h0 o' hj hr
      | succ j => have := h2 j o' (by simpa using hj) hr; rwa [show i + 1 + j = i + (j + 1) by omega] at this
    simp only [checksD] at h
    split at h
    · split at h
      · rename_i d hrd hdst
        obtain ⟨h1, h2⟩ := checkAt_ok hd h
        refine skip h1 fun o' ho' hr => ?_
        simp only [Prod.mk.injEq] at ho'
        obtain ⟨rfl, _⟩ := ho'
        refine ⟨d, hdst, fun m hm1 hm2 H hH => h2 H ?_⟩
        refine List.mem_iff_getElem?.2 ⟨m - loD ks (ms.getD i 0), ?_⟩
        rw [List.getElem?_drop, List.getElem?_take, show loD ks (ms.getD i 0) + (m - loD ks (ms.getD i 0)) = m by omega, if_pos (by omega)]
        exact hH
      · exact h.elim
      · rename_i hrd
        refine skip h fun o' ho' hr => ?_
        simp only [Prod.mk.injEq] at ho'
        rw [ho'.1] at hrd
        rw [hrd] at hr; cases hr
    · rename_i hne
      refine skip h fun o' ho' hr => ?_
      simp only [Prod.mk.injEq] at ho'
      exact absurd ho'.2 hne

theorem chain_uniq : ∀ (l : List Oper) {rs : List Rc} {T : Tmps} {H : Heap} {n : Nat} {Tf : Tmps} {Hl : List Heap}, ChainR C call ops l rs T H n Tf Hl →
    (∀ (i : Nat) (u : AV) (p : Nat), rs[i]? = some ⟨u, .loud p⟩ → n ≤ p ∧ p + 1 < n + Hl.length) ∧ ∀ (i j : Nat) (u v : AV) (p : Nat), rs[i]? = some ⟨u, .loud p⟩ → rs[j]? = some ⟨v, .loud p⟩ → i = j
  | [], [], _, _, _, _, _, h => ⟨fun i u p hi => by simp at hi, fun i j u v p hi => by simp at hi⟩
  | o :: l, r :: rs, T, H, n, Tf, Hl, h => by
    obtain ⟨g, hg, h⟩ := h
    obtain ⟨v, kd⟩ := r
    have same : ∀ {H2}, (∀ p, kd ≠ .loud p) → ChainR C call ops l rs (put T o.dst v) H2 n Tf Hl → (∀ (i : Nat) (u : AV) (p : Nat), ((⟨v, kd⟩ : Rc) :: rs)[i]? = some ⟨u, .loud p⟩ → n ≤ p ∧ p + 1 < n + Hl.length) ∧ ∀ (i j : Nat) (u v' : AV) (p : Nat), ((⟨v, kd⟩ : Rc) :: rs)[i]? = some ⟨u, .loud p⟩ → ((⟨v, kd⟩ : Rc) :: rs)[j]? = some ⟨v', .loud p⟩ → i = j := fun {H2} hk hc => by
      obtain ⟨h1, h2⟩ := chain_uniq l hc
      have pos : ∀ {i : Nat} {u : AV} {p : Nat}, ((⟨v, kd⟩ : Rc) :: rs)[i]? = some ⟨u, .loud p⟩ → ∃ i', i = i' + 1 ∧ rs[i']? = some ⟨u, .loud p⟩ := fun {i u p} hi => by
        cases i with
        | zero => simp only [List.getElem?_cons_zero, Option.some.injEq, Rc.mk.injEq] at hi; exact absurd hi.2 (hk p)
        | succ i => exact ⟨i, rfl, by simpa using hi⟩
      refine ⟨fun i u p hi => ?_, fun i j u v' p hi hj => ?_⟩
      · obtain ⟨i', _, hi'⟩ := pos hi; exact h1 i' u p hi'
      · obtain ⟨i', rfl, hi'⟩ := pos hi; obtain ⟨j', rfl, hj'⟩ := pos hj; rw [h2 i' j' u v' p hi' hj']
    cases kd with
    | no => exact same (fun p hp => by cases hp) h.2.2
    | quiet => exact same (fun p hp => by cases hp) h.2.2.2
    | loud q =>
      obtain ⟨rfl, _, H', Hl', rfl, _, h3⟩ := h
      obtain ⟨h1, h2⟩ := chain_uniq l h3
      have hl0 := (chain_len l h3).2.2
      have hpos : 0 < Hl'.length := List.length_pos_iff.2 hl0
      refine ⟨fun i u p hi => ?_, fun i j u v' p hi hj => ?_⟩
      · cases i with
        | zero => simp only [List.getElem?_cons_zero, Option.some.injEq, Rc.mk.injEq, Kd.loud.injEq] at hi; obtain ⟨_, rfl⟩ := hi; simp; omega
        | succ i => have := h1 i u p (by simpa using hi); simp; omega
      · cases i with
        | zero =>
          simp only [List.getElem?_cons_zero, Option.some.injEq, Rc.mk.injEq, Kd.loud.injEq] at hi
          obtain ⟨_, rfl⟩ := hi
          cases j with
          | zero => rfl
          | succ j => have := h1 j v' q (by simpa using hj); omega
        | succ i =>
          cases j with
          | zero =>
            simp only [List.getElem?_cons_zero, Option.some.injEq, Rc.mk.injEq, Kd.loud.injEq] at hj
            obtain ⟨_, rfl⟩ := hj
            have := h1 i u q (by simpa using hi); omega
          | succ j => rw [h2 i j u v' p (by simpa using hi) (by simpa using hj)]
  | [], _ :: _, _, _, _, _, _, h => h.elim
  | _ :: _, [], _, _, _, _, _, h => h.elim

theorem ev_agree {T T' : Tmps} {o : Oper} (h : ∀ d, d ∈ o.looksAt ops → T.getD d undefA = T'.getD d undefA) : ∀ x ∈ o.op.operands, ev C (getL T) x = ev C (getL T') x := fun x hx => by
  cases x with
  | tmp t =>
    show getL T t = getL T' t
    rw [getL_eq, getL_eq]
    exact h t (List.mem_append_left _ (List.mem_filterMap.2 ⟨.tmp t, by simpa using hx, rfl⟩))
  | const v => rfl
  | global g => rfl
  | func f => rfl

theorem wanted_agree {T T' : Tmps} {o : Oper} (h : ∀ d, d ∈ o.looksAt ops → T.getD d undefA = T'.getD d undefA) : wantedA ops o (getL T) = wantedA ops o (getL T') := by
  unfold wantedA
  simp only [getL_eq]
  cases hg : o.guard with
  | none => rfl
  | some gw =>
    obtain ⟨g, want⟩ := gw
    cases hd : (ops[g]?).bind (·.dst) with
    | none => simp only [hd]
    | some d =>
      simp only [hd]
      rw [h d (by simp [Oper.looksAt, hg, hd])]

/-- How far a drawn order has come. -/
structure InvD (ops : Array Oper) (rs : List Rc) (T0 Tf : Tmps) (Hl : List Heap) (listed : Array Bool) (m : Nat) (T : Tmps) : Prop where
  size : listed.size = ops.size
  closed : ∀ (i : Nat) (o : Oper), ops[i]? = some o → listed.getD i false = true → ∀ j ∈ preds o, listed.getD j false = true
  louds : ∀ (i : Nat) (v : AV) (p : Nat), rs[i]? = some ⟨v, .loud p⟩ → (listed.getD i false = true ↔ p < m)
  le : m < Hl.length
  len : T.length = T0.length
  inn : ∀ (i : Nat) (o : Oper) (d : Tmp), ops[i]? = some o → listed.getD i false = true → o.dst = some d → T.getD d undefA = Tf.getD d undefA
  out : ∀ d, (∀ (i : Nat) (o : Oper), ops[i]? = some o → listed.getD i false = true → o.dst ≠ some d) → T.getD d undefA = T0.getD d undefA

theorem getD_set_self {listed : Array Bool} {i : Nat} (h : i < listed.size) (d : Bool) : (listed.setIfInBounds i true).getD i d = true := by
  simp [h]

theorem InvD.step {rs : List Rc} {T0 Tf : Tmps} {Hl : List Heap} {listed : Array Bool} {m m' : Nat} {T : Tmps} (hv : InvD ops rs T0 Tf Hl listed m T) {i : Nat} {o : Oper} (hi : ops[i]? = some o) (hun : listed.getD i true = false)
    (hready : ∀ j ∈ preds o, listed.getD j false = true) {u : AV} (hu : ∀ d, o.dst = some d → (if d < T0.length then u else undefA) = Tf.getD d undefA) (hm' : m' < Hl.length) (hmm : m ≤ m')
    (hloud : ∀ (j : Nat) (v : AV) (p : Nat), rs[j]? = some ⟨v, .loud p⟩ → ((j = i ∧ p < m') ∨ (j ≠ i ∧ (p < m' → p < m)))) (hself : ∀ (v : AV) (p : Nat), rs[i]? = some ⟨v, .loud p⟩ → p < m') :
    InvD ops rs T0 Tf Hl (listed.setIfInBounds i true) m' (put T o.dst u) := by
  have hlt : i < listed.size := by rw [hv.size]; exact (Array.getElem?_eq_some_iff.1 hi).1
  have hset : ∀ j, (listed.setIfInBounds i true).getD j false = true ↔ j = i ∨ listed.getD j false = true := fun j => by
    by_cases hji : j = i
    · subst hji; simp only [getD_set_self hlt, true_or]
    · rw [getD_set_ne false (Ne.symm hji)]; simp [hji]
  refine ⟨by simpa using hv.size, fun j p hj hl k hk => ?_, fun j v p hj => ?_, hm', by rw [len_put, hv.len], fun j p d hj hl hd => ?_, fun d hno => ?_⟩
  · rw [hset]
    rcases (hset j).1 hl with rfl | hl
    · rw [hi] at hj
      simp only [Option.some.injEq] at hj
      subst hj
      exact .inr (hready k hk)
    · exact .inr (hv.closed j p hj hl k hk)
  · rw [hset]
    constructor
    · rintro (rfl | h)
      · exact hself v p hj
      · exact Nat.lt_of_lt_of_le ((hv.louds j v p hj).1 h) hmm
    · intro hp
      rcases hloud j v p hj with ⟨h, _⟩ | ⟨_, h⟩
      · exact .inl h
      · exact .inr ((hv.louds j v p hj).2 (h hp))
  · rw [getD_put, hv.len]
    by_cases hdo : o.dst = some d
    · rw [if_pos hdo]; exact hu d hdo
    · rw [if_neg hdo]
      rcases (hset j).1 hl with rfl | hl
      · rw [hi] at hj
        simp only [Option.some.injEq] at hj
        subst hj
        exact absurd hd hdo
      · exact hv.inn j p d hj hl hd
  · have hdo : o.dst ≠ some d := hno i o hi ((hset i).2 (.inl rfl))
    rw [getD_put, if_neg hdo]
    exact hv.out d fun j p hj hl => hno j p hj ((hset j).2 (.inr hl))

theorem countP_lt {α : Type} {p q : α → Bool} : ∀ {l : List α} {x : α}, x ∈ l → (∀ y, q y = true → p y = true) → p x = true → q x = false → l.countP q < l.countP p
  | y :: l, x, hx, hqp, hp, hq => by
    have hle : l.countP q ≤ l.countP p := List.countP_mono_left fun y _ => hqp y
    simp only [List.countP_cons]
    rcases List.mem_cons.1 hx with rfl | hx
    · simp [hp, hq]; omega
    · have := countP_lt hx hqp hp hq
      have hy := hqp y
      cases hqy : q y <;> cases hpy : p y <;> simp_all <;> omega

theorem ready_all {listed : Array Bool} (hok : OpsOk ops) (hs : listed.size = ops.size) (h : Region.ready .any ops listed = []) : ∀ i, i < ops.size → listed.getD i false = true := by
  intro i
  induction i using Nat.strongRecOn with
  | _ i ih =>
    intro hi
    cases hl : listed.getD i false with
    | true => rfl
    | false =>
      have ho : ops[i]? = some ops[i] := Array.getElem?_eq_getElem hi
      have : i ∈ Region.ready .any ops listed := mem_ready.2 ⟨by simp [hs, hi] at hl ⊢; exact hl, _, ho, fun e he hb => ih e.on (hok.lt i _ ho e.on (mem_preds.2 ⟨e, he, hb, rfl⟩)) (Nat.lt_trans (hok.lt i _ ho e.on (mem_preds.2 ⟨e, he, hb, rfl⟩)) hi)⟩
      rw [h] at this
      cases this

theorem wpAny_region (hc : CallOk C call) (hsm : SummOk C) (hok : OpsOk ops) (hnl : ∀ (i : Nat) (o : Oper), ops[i]? = some o → ∀ d, o.dst = some d → isLoc E.M d = false) {rs : List Rc} {T0 Tf : Tmps} {H0 : Heap} {Hl : List Heap} (hch : ChainR C call ops ops.toList rs T0 H0 0 Tf Hl)
    {okO : Out} (hO : Ok okO)
    (hwait : ∀ (i : Nat) (o : Oper) (v : AV) (p : Nat), ops[i]? = some o → rs[i]? = some ⟨v, .loud (p + 1)⟩ → ∃ j u, Nat.testBit ((masks ops.toList []).getD i 0) j = true ∧ rs[j]? = some ⟨u, .loud p⟩)
    (hread : ∀ (i : Nat) (o : Oper) (v : AV), ops[i]? = some o → rs[i]? = some ⟨v, .quiet⟩ → readsO o = true → Hl.length = 1 ∨ ∃ d, o.dst = some d ∧ ∀ m, loD (rs.map Rc.kd) ((masks ops.toList []).getD i 0) ≤ m → m ≤ hiD (masks ops.toList []) (rs.map Rc.kd) i Hl.length → ∀ H, Hl[m]? = some H → ∀ k' : AV → Out, Ok (k' (Tf.getD d undefA)) → Ok (aopQ C call o (getL Tf) H k'))
    {Q : Exit → Act → World → Prop} (hQ : ∀ H, Hl[Hl.length - 1]? = some H → ∀ Pb μ a w, SR C E Pb μ B0 w Tf H a → Q .normal a w) :
    ∀ (fuel : Nat) (listed : Array Bool) (a : Act) (w : World) (Pb : Nat → Prop) (μ : Mu) (T : Tmps) (m : Nat) (H : Heap), InvD ops rs T0 Tf Hl listed m T → Hl[m]? = some H → SR C E Pb μ B0 w T H a →
      (List.range ops.size).countP (fun i => !listed.getD i false) ≤ fuel → wpAny C.P .any ops Q fuel listed a w := by
  classical
  obtain ⟨hrl, hTf, hHl⟩ := chain_len _ hch
  obtain ⟨hpos, huq⟩ := chain_uniq _ hch
  have hend : ∀ {listed : Array Bool} {a : Act} {w : World} {Pb : Nat → Prop} {μ : Mu} {T : Tmps} {m : Nat} {H : Heap}, InvD ops rs T0 Tf Hl listed m T → Hl[m]? = some H → SR C E Pb μ B0 w T H a → (∀ i, i < ops.size → listed.getD i false = true) → Q .normal a w := by
    intro listed a w Pb μ T m H hv hH hs hall
    have hm : m = Hl.length - 1 := by
      refine Classical.byContradiction fun hne => ?_
      have hle := hv.le
      obtain ⟨i, v, hi⟩ := chain_louds _ hch m (Nat.zero_le _) (by omega)
      have hil : i < ops.size := by have := lt_of_get hi; rw [hrl] at this; simpa using this
      have := (hv.louds i v m hi).1 (hall i hil)
      omega
    have hT : T = Tf := by
      refine List.ext_getElem? fun t => ?_
      have hg : T.getD t undefA = Tf.getD t undefA := by
        by_cases hex : ∃ (i : Nat) (o : Oper), ops[i]? = some o ∧ o.dst = some t
        · obtain ⟨i, o, hi, hd⟩ := hex
          exact hv.inn i o t hi (hall i (Array.getElem?_eq_some_iff.1 hi).1) hd
        · rw [hv.out t fun i o hi _ hd => hex ⟨i, o, hi, hd⟩, chain_keep _ hch fun o ho hd => ?_]
          obtain ⟨i, hi⟩ := List.mem_iff_getElem?.1 ho
          exact hex ⟨i, o, by simpa using hi, hd⟩
      have hl : T.length = Tf.length := by rw [hv.len, hTf]
      rcases Nat.lt_or_ge t T.length with h | h
      · rw [List.getElem?_eq_getElem h, List.getElem?_eq_getElem (by omega)]
        simp only [List.getD_eq_getElem?_getD, List.getElem?_eq_getElem h, List.getElem?_eq_getElem (show t < Tf.length by omega), Option.getD_some] at hg
        rw [hg]
      · rw [List.getElem?_eq_none h, List.getElem?_eq_none (by omega)]
    subst hT
    exact hQ H (by rw [← hm]; exact hH) Pb μ a w hs
  intro fuel
  induction fuel with
  | zero =>
    intro listed a w Pb μ T m H hv hH hs hf
    have hall : ∀ i, i < ops.size → listed.getD i false = true := fun i hi => by
      have h0 : (List.range ops.size).countP (fun i => !listed.getD i false) = 0 := by omega
      rw [List.countP_eq_zero] at h0
      simpa using h0 i (List.mem_range.2 hi)
    refine ⟨?_, hend hv hH hs hall⟩
    refine List.eq_nil_iff_forall_not_mem.2 fun i hi => ?_
    obtain ⟨h1, o, ho, _⟩ := mem_ready.1 hi
    have hil := (Array.getElem?_eq_some_iff.1 ho).1
    have := hall i hil
    simp [hv.size, hil] at h1 this
    rw [h1] at this; cases this
  | succ fuel ih =>
    intro listed a w Pb μ T m H hv hH hs hf
    refine ⟨fun h => hend hv hH hs (ready_all hok hv.size h), fun i hi => ?_⟩
    obtain ⟨hun, o, ho, hpre⟩ := mem_ready.1 hi
    have hready : ∀ j ∈ preds o, listed.getD j false = true := fun j hj => by
      obtain ⟨e, he, hb, rfl⟩ := mem_preds.1 hj
      exact hpre e he hb
    have hil := (Array.getElem?_eq_some_iff.1 ho).1
    have hclosed := closed_all (S := fun i => listed.getD i false = true) hok hv.closed fun i hi => by
      rcases Nat.lt_or_ge i listed.size with h | h
      · rw [← hv.size]; exact h
      · simp [Array.getElem?_eq_none h] at hi
    have hbits : ∀ j, Nat.testBit ((masks ops.toList []).getD i 0) j = true → listed.getD j false = true := fun j hj => by
      obtain ⟨k, hk, h⟩ := mask_bit ho hok hj
      rcases h with rfl | h
      · exact hready _ hk
      · exact hclosed k j (hready k hk) h
    have hun' : listed.getD i false = false := by simp [hv.size, hil] at hun ⊢; exact hun
    obtain ⟨r, Ti, hr, hk, hTi, hag, hval, hold⟩ := chain_get _ hch i o (by simpa using ho)
    -- what it looks at is as it was in the text's order
    have hTfa : readsO o = true → ∀ d, d ∈ o.looksAt ops → T.getD d undefA = Tf.getD d undefA := fun hrd d hd => by
      by_cases hex : ∃ (j : Nat) (p : Oper), ops[j]? = some p ∧ p.dst = some d
      · obtain ⟨j, p, hj, hpd⟩ := hex
        rcases hok.look i o j p d ho hj hpd hd with h | h
        · exact hv.inn j p d hj (hready j h) hpd
        · rw [h.1] at hrd; cases hrd
      · rw [hv.out d fun j p hj _ hpd => hex ⟨j, p, hj, hpd⟩, chain_keep _ hch fun p hp hpd => ?_]
        obtain ⟨j, hj⟩ := List.mem_iff_getElem?.1 hp
        exact hex ⟨j, p, by simpa using hj, hpd⟩
    have hTia : ∀ d, d ∈ o.looksAt ops → T.getD d undefA = Ti.getD d undefA := fun d hd => by
      by_cases hex : ∃ (j : Nat) (p : Oper), ops[j]? = some p ∧ p.dst = some d
      · obtain ⟨j, p, hj, hpd⟩ := hex
        rcases hok.look i o j p d ho hj hpd hd with h | h
        · rw [hv.inn j p d hj (hready j h) hpd]
          refine hag d fun j' p' hj' hp' hpd' => ?_
          have e1 := hok.dist j p j' p' d hj (by simpa using hp') hpd hpd'
          have e2 := hok.lt i o ho j h
          omega
        · have e2 := hok.lt j p hj i h.2
          rw [hv.out d fun j' p' hj' hl' hpd' => ?_, hold d fun j' p' hj' hp' hpd' => ?_]
          · have e1 := hok.dist j p j' p' d hj (by simpa using hp') hpd hpd'
            omega
          · have e1 := hok.dist j p j' p' d hj hj' hpd hpd'
            subst e1
            rw [hj] at hj'
            simp only [Option.some.injEq] at hj'
            subst hj'
            have := hv.closed j p hj hl' i h.2
            rw [hun'] at this; cases this
      · rw [hv.out d fun j p hj _ hpd => hex ⟨j, p, hj, hpd⟩, hold d fun j p hj hp hpd => hex ⟨j, p, by simpa using hp, hpd⟩]
    have hsel := fun cs b => hok.sel i o cs b ho
    have hev := ev_agree (C := C) hTia
    have hwa := wanted_agree (ops := ops) hTia
    have hvals : ∀ d, o.dst = some d → (if d < T0.length then r.v else undefA) = Tf.getD d undefA := fun d hd => (hval d hd fun j p hj hp hpd => by
      have := hok.dist i o j p d ho (by simpa using hp) hd hpd
      omega).symm
    have hcount : (List.range ops.size).countP (fun j => !(listed.setIfInBounds i true).getD j false) ≤ fuel := by
      have hlt : i < listed.size := by rw [hv.size]; exact hil
      have := countP_lt (p := fun j => !listed.getD j false) (q := fun j => !(listed.setIfInBounds i true).getD j false) (List.mem_range.2 hil) (fun y hy => by
        by_cases hyi : i = y
        · subst hyi; rw [getD_set_self hlt] at hy; cases hy
        · rw [getD_set_ne false hyi] at hy; exact hy) (by simp only [hun', Bool.not_false]) (by simp only [getD_set_self hlt, Bool.not_true])
      omega
    obtain ⟨g, hg, hgb⟩ := hk.g
    rw [← hwa] at hg
    have hwanted := hgb.wanted hO hg hs.tm
    unfold wpOp
    simp only [ho]
    -- an operation that turns no memory
    have notLoud : (∀ p, r.kd ≠ .loud p) → (∀ (j : Nat) (v : AV) (p : Nat), rs[j]? = some ⟨v, .loud p⟩ → ((j = i ∧ p < m) ∨ (j ≠ i ∧ (p < m → p < m)))) ∧ ∀ (v : AV) (p : Nat), rs[i]? = some ⟨v, .loud p⟩ → p < m := fun hn =>
      ⟨fun j v p hj => .inr ⟨fun hji => by subst hji; rw [hr] at hj; simp only [Option.some.injEq] at hj; subst hj; exact hn p rfl, id⟩, fun v p hj => by rw [hr] at hj; simp only [Option.some.injEq] at hj; subst hj; exact absurd rfl (hn p)⟩
    obtain ⟨rv, kd⟩ := r
    cases kd with
    | no =>
      simp only at hwanted
      rw [hwanted, if_neg (by simp)]
      obtain rfl : rv = undefA := hk.no rfl
      obtain ⟨n1, n2⟩ := notLoud (fun p hp => by cases hp)
      exact ih _ _ _ _ _ _ m H (hv.step ho hun hready hvals hv.le (Nat.le_refl _) n1 n2) hH (hs.undef o.dst (hnl i o ho)) hcount
    | quiet =>
      simp only at hwanted
      rw [hwanted, if_pos rfl]
      left
      obtain ⟨hq, m0, Hm0, hm0, hrun⟩ := hk.quiet rfl
      have hqT : quietO C o (getL T) = true := by rw [quietO_congr hev]; exact hq
      obtain ⟨n1, n2⟩ := notLoud (fun p hp => by cases hp)
      -- its value in this memory
      have hu : ∃ u, (∀ d, o.dst = some d → (if d < T0.length then u else undefA) = Tf.getD d undefA) ∧ ∀ k' : AV → Out, Ok (k' u) → Ok (aopQ C call o (getL T) H k') := by
        cases hrd : readsO o with
        | false => exact ⟨rv, hvals, fun k' hk' => by rw [aopQ_congr hsel hev, still_heap hq hrd Hm0]; exact hrun k' hk'⟩
        | true =>
          rcases hread i o rv ho hr hrd with h1 | ⟨d, hd, hchk⟩
          · have e1 : m = 0 := by have := hv.le; omega
            have e2 : m0 = 0 := by have := lt_of_get hm0; omega
            subst e1; subst e2
            rw [hm0] at hH
            simp only [Option.some.injEq] at hH
            subst hH
            exact ⟨rv, hvals, fun k' hk' => by rw [aopQ_congr hsel hev]; exact hrun k' hk'⟩
          · refine ⟨Tf.getD d undefA, fun d' hd' => ?_, fun k' hk' => ?_⟩
            · rw [hd] at hd'
              simp only [Option.some.injEq] at hd'
              subst hd'
              by_cases hlt : d < List.length T0
              · rw [if_pos hlt]
              · rw [if_neg hlt, List.getD_eq_getElem?_getD, List.getElem?_eq_none (l := Tf) (i := d) (by rw [hTf]; exact Nat.le_of_not_lt hlt)]; rfl
            · rw [aopQ_congr hsel (ev_agree (C := C) (hTfa hrd))]
              refine hchk m (loD_le fun j q hj hq => ?_) (le_hiD (Nat.le_of_lt hv.le) fun j q hq hpi => ?_) H hH k' hk'
              · rw [List.getElem?_map, Option.map_eq_some_iff] at hq
                obtain ⟨⟨x, kx⟩, hx, rfl⟩ := hq
                have := (hv.louds j x q hx).1 (hbits j hj)
                omega
              · rw [List.getElem?_map, Option.map_eq_some_iff] at hq
                obtain ⟨⟨x, kx⟩, hx, hkx⟩ := hq
                simp only at hkx
                subst hkx
                refine Nat.le_of_not_lt fun hlt => ?_
                have := hclosed j i ((hv.louds j x q hx).2 hlt) hpi
                rw [hun'] at this; cases this
      obtain ⟨u, hu1, hu2⟩ := hu
      refine Oper.wp_mono (fun a' w' ha => ?_) (aopQ_ok (Pb := Pb) (μ := μ) (B0 := B0) hc hsm hqT (hu2 (fun r => if r = u then okO else .fail) (by simpa using hO)) hs.tm.look hs.hp hs.gl hO)
      obtain ⟨r', H', Pb', μ', h1, h2⟩ := hs.after (hnl i o ho) ha
      by_cases hHH : H' = H
      · rw [if_pos hHH] at h1
        by_cases hru : r' = u
        · subst hru; subst hHH
          exact ih _ _ _ _ _ _ m H' (hv.step ho hun hready hu1 hv.le (Nat.le_refl _) n1 n2) hH h2 hcount
        · rw [if_neg hru] at h1; exact h1.elim
      · rw [if_neg hHH] at h1; exact h1.elim
    | loud p =>
      simp only at hwanted
      rw [hwanted, if_pos rfl]
      left
      obtain ⟨_, Hp, Hp', hp1, hp2, hrun⟩ := hk.loud p rfl
      simp only [Nat.sub_zero] at hp1 hp2
      have hpm : p = m := by
        have hle : m ≤ p := Nat.le_of_not_lt fun hlt => by
          have := (hv.louds i rv p hr).2 hlt
          rw [hun'] at this; cases this
        cases p with
        | zero => omega
        | succ q =>
          obtain ⟨j, u, hj, hju⟩ := hwait i o rv q ho hr
          have := (hv.louds j u q hju).1 (hbits j hj)
          omega
      subst hpm
      rw [hp1] at hH
      simp only [Option.some.injEq] at hH
      subst hH
      refine Oper.wp_mono (fun a' w' ha => ?_) (aop_ok (Pb := Pb) (μ := μ) (B0 := B0) hc hsm (by rw [aop_congr hsel hev]; exact hrun (fun r H2 => if r = rv ∧ H2 = Hp' then okO else .fail) (by simpa using hO)) hs.tm.look hs.hp hs.gl)
      obtain ⟨r', H', Pb', μ', h1, h2⟩ := hs.after (hnl i o ho) ha
      by_cases hcc : r' = rv ∧ H' = Hp'
      · obtain ⟨rfl, rfl⟩ := hcc
        refine ih _ _ _ _ _ _ (p + 1) H' (hv.step ho hun hready hvals (lt_of_get hp2) (Nat.le_succ _) (fun j v q hj => ?_) fun v q hj => ?_) hp2 h2 hcount
        · by_cases hji : j = i
          · subst hji
            rw [hr] at hj
            simp only [Option.some.injEq, Rc.mk.injEq, Kd.loud.injEq] at hj
            exact .inl ⟨rfl, by omega⟩
          · refine .inr ⟨hji, fun hq => ?_⟩
            have : q ≠ p := fun hqp => by subst hqp; exact hji (huq j i v r' q hj hr)
            omega
        · rw [hr] at hj
          simp only [Option.some.injEq, Rc.mk.injEq, Kd.loud.injEq] at hj
          omega
      · rw [if_neg hcc] at h1; exact h1.elim

/-- **What is told of a region that draws its order holds.** -/
theorem aopsD_ok (hc : CallOk C call) (hd : DetC call) (hsm : SummOk C) {K : Tmps → Heap → Out} {Q : Exit → Act → World → Prop} (h : Ok (aopsD C call E.M ops T H K))
    (hQ : ∀ T H Pb μ a w, K T H → SR C E Pb μ B0 w T H a → Q .normal a w) (hs : SR C E Pb μ B0 w T H a) : wpAny C.P .any ops Q ops.size (Array.replicate ops.size false) a w := by
  unfold aopsD at h
  obtain ⟨hoo, h⟩ := cond_false h
  simp only [Bool.and_eq_true] at hoo
  have hok := okOps_spec hoo.1
  have hnl : ∀ (i : Nat) (o : Oper), ops[i]? = some o → ∀ d, o.dst = some d → isLoc E.M d = false := fun i o hi d hd => by
    have := List.all_eq_true.1 hoo.2 o (by rw [Array.mem_toList_iff]; exact Array.mem_of_getElem? hi)
    rw [hd] at this
    simpa using this
  obtain ⟨rs, Tf, Hl, hch, hK⟩ := runD_ok hd _ h
  simp only [List.append_nil, List.length_nil] at hch hK
  obtain ⟨hrl, hTf, hHl⟩ := chain_len _ hch
  have h0 := chain_head _ hch
  have hinv : InvD ops rs T Tf Hl (Array.replicate ops.size false) 0 T := by
    have hno : ∀ i, (Array.replicate ops.size false).getD i false = false := fun i => by
      by_cases hi : i < ops.size <;> simp [hi]
    exact ⟨by simp, fun i o _ hl => (by rw [hno] at hl; cases hl), fun i v p hi => (by rw [hno]; simp), List.length_pos_iff.2 hHl, rfl, fun i o d _ hl => (by rw [hno] at hl; cases hl), fun d _ => rfl⟩
  have hcnt : (List.range ops.size).countP (fun i => !(Array.replicate ops.size false).getD i false) ≤ ops.size := by
    have := List.countP_le_length (p := fun i => !(Array.replicate ops.size false).getD i false) (l := List.range ops.size)
    simpa using this
  -- the last memory
  have last : ∀ {H' r}, Hl.reverse = H' :: r → Hl[Hl.length - 1]? = some H' := fun {H' r} he => by
    have hp := List.length_pos_iff.2 hHl
    have h3 : Hl.reverse[0]? = some H' := by rw [he]; rfl
    rw [List.getElem?_reverse hp, Nat.sub_zero] at h3
    exact h3
  have one : ∀ {H'}, Hl.length = 1 → Hl[Hl.length - 1]? = some H' → (∀ (i : Nat) (v : AV) (p : Nat), rs[i]? = some ⟨v, .loud p⟩ → False) := fun {H'} hl _ i v p hi => by
    have := (chain_uniq _ hch).1 i v p hi
    omega
  split at hK
  · exact hK.elim
  · rename_i H' he
    have hl := last he
    have hlen : Hl.length = 1 := by have := congrArg List.length he; simpa using this
    refine wpAny_region hc hsm hok hnl hch (okO := K Tf H') hK (fun i o v p hi hr => (one hlen hl i v _ hr).elim) (fun i o v hi hr hrd => .inl hlen) (fun H2 hH2 Pb μ a w hs => ?_) ops.size _ a w Pb μ T 0 H hinv h0 hs hcnt
    rw [hl] at hH2
    simp only [Option.some.injEq] at hH2
    subst hH2
    exact hQ _ _ _ _ _ _ hK hs
  · rename_i H' r hne he
    have hl := last he
    obtain ⟨hcd, hK⟩ := cond_false hK
    rw [List.reverse_reverse, List.reverse_reverse] at hK
    rw [List.reverse_reverse] at hcd
    obtain ⟨hK, hchk⟩ := checksD_ok hd hK
    have hzip : ∀ {i : Nat} {o : Oper} {x : Rc}, ops[i]? = some o → rs[i]? = some x → (ops.toList.zip (rs.map Rc.kd))[i]? = some (o, x.kd) := fun {i o x} hi hx => by
      rw [List.getElem?_zip_eq_some]
      exact ⟨by simpa using hi, by rw [List.getElem?_map, hx]; rfl⟩
    refine wpAny_region hc hsm hok hnl hch (okO := K Tf H') hK (fun i o v p hi hr => ?_) (fun i o v hi hr hrd => .inr ?_) (fun H2 hH2 Pb μ a w hs => ?_) ops.size _ a w Pb μ T 0 H hinv h0 hs hcnt
    · have hml : (masks ops.toList [])[i]? = some ((masks ops.toList []).getD i 0) := by
        have hlen := (masks_get ops.toList []).2.1
        have hil := (Array.getElem?_eq_some_iff.1 hi).1
        rw [List.getD_eq_getElem?_getD, List.getElem?_eq_getElem (by rw [hlen]; simpa using hil)]; rfl
      have hz : ((masks ops.toList []).zip (rs.map Rc.kd))[i]? = some ((masks ops.toList []).getD i 0, .loud (p + 1)) := by
        rw [List.getElem?_zip_eq_some]
        exact ⟨hml, by rw [List.getElem?_map, hr]; rfl⟩
      have := List.all_eq_true.1 hcd _ (List.mem_of_getElem? hz)
      simp only at this
      obtain ⟨⟨kx, j⟩, hj, hjk⟩ := List.any_eq_true.1 this
      have hj' := List.mk_mem_zipIdx_iff_getElem?.1 hj
      split at hjk
      · rename_i q hq
        simp only at hq
        subst hq
        rw [List.getElem?_map, Option.map_eq_some_iff] at hj'
        obtain ⟨⟨u, ku⟩, hx, hku⟩ := hj'
        simp only at hku
        subst hku
        simp only [Bool.and_eq_true, decide_eq_true_eq] at hjk
        obtain ⟨rfl, hb⟩ := hjk
        exact ⟨j, u, hb, hx⟩
      · cases hjk
    · have := hchk i o (hzip hi hr) hrd
      rwa [Nat.zero_add] at this
    · rw [hl] at hH2
      simp only [Option.some.injEq] at hH2
      subst hH2
      exact hQ _ _ _ _ _ _ hK hs
end
end Go.Proofs.Ytamhmfdbnlkmkaa

