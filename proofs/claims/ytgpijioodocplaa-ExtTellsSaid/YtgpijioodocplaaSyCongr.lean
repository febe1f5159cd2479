/- What an operation comes to hangs on its operands alone. -/
import Derived.Test.YtgpijioodocplaaSyDet
set_option linter.unusedVariables false
set_option linter.unusedSectionVars false
set_option linter.unusedSimpArgs false
namespace Go.Proofs.Ytgpijioodocplaa
open Go Go.RowKit

section
variable {C : Ctx} {H : Heap} {T T' : Look} {call : Caller}

theorem mapO_congr {α β : Type} {f g : α → Option β} : ∀ (l : List α), (∀ x, x ∈ l → f x = g x) → mapO f l = mapO g l
  | [], _ => rfl
  | a :: r, h => by
    simp only [mapO]
    rw [h a (List.mem_cons_self ..), mapO_congr r fun x hx => h x (List.mem_cons_of_mem _ hx)]

theorem map_ev {xs : Array Operand} (h : ∀ x ∈ xs, ev C T x = ev C T' x) : xs.toList.map (ev C T) = xs.toList.map (ev C T') :=
  List.map_congr_left fun x hx => h x (by simpa using hx)

theorem map_parts {ps : Array (Nat × Operand)} (h : ∀ x ∈ ps.toList.map (·.2), ev C T x = ev C T' x) : (ps.toList.map fun p => (p.1, ev C T p.2)) = ps.toList.map fun p => (p.1, ev C T' p.2) :=
  List.map_congr_left fun p hp => by rw [h p.2 (List.mem_map.2 ⟨p, hp, rfl⟩)]

theorem symOp_congr {o : Oper} (h : ∀ x ∈ o.op.operands, ev C T x = ev C T' x) : symOp C o T = symOp C o T' := by
  funext k
  obtain ⟨dst, op, type, pos, after, guard⟩ := o
  cases op
  case binOp op t x y ty =>
    have hx := h x (by simp [Op.operands]); have hy := h y (by simp [Op.operands])
    simp only [symOp, hx, hy]
  case unOp op t x => have hx := h x (by simp [Op.operands]); simp only [symOp, hx]
  case convert s d x => have hx := h x (by simp [Op.operands]); simp only [symOp, hx]
  case index t x i => have hx := h x (by simp [Op.operands]); have hi := h i (by simp [Op.operands]); simp only [symOp, hx, hi]
  case slice t x lo hi mx =>
    have hx := h x (by simp [Op.operands])
    have hlo : lo.map (ev C T) = lo.map (ev C T') := by
      cases lo with
      | none => rfl
      | some l => have := h l (by simp [Op.operands]); simp [this]
    have hhi : (hi.map fun h => asSx (ev C T h)) = hi.map fun h => asSx (ev C T' h) := by
      cases hi with
      | none => rfl
      | some l => have := h l (by simp [Op.operands]); simp [this]
    cases mx with
    | none => simp only [symOp, hx, hlo, hhi]
    | some m => rfl
  case call c =>
    obtain ⟨callee, args, argTypes⟩ := c
    cases callee with
    | value f => rfl
    | invoke r m => rfl
    | builtin b =>
      cases b
      case len =>
        simp only [symOp]
        split
        · rename_i x t ha ht
          have hx := h x (by simp [Op.operands, Call.operands, ← Array.mem_toList_iff, ha])
          rw [hx]
        · rfl
      all_goals rfl
  all_goals rfl

theorem genOp_congr {o : Oper} (hs : ∀ cs b, o.op ≠ .select cs b) (h : ∀ x ∈ o.op.operands, ev C T x = ev C T' x) : genOp C o T = genOp C o T' := by
  funext k
  unfold genOp
  rw [mapO_congr (f := fun x => toVal (ev C T x)) (g := fun x => toVal (ev C T' x)) _ fun x hx => by rw [h x (by simpa using hx)], symOp_congr h,
    execOp_congr (ρ := fun x => (toVal (ev C T x)).getD undef) (ρ' := fun x => (toVal (ev C T' x)).getD undef) o hs fun x hx => by rw [h x hx]]

theorem qop_congr {o : Oper} (hs : ∀ cs b, o.op ≠ .select cs b) (h : ∀ x ∈ o.op.operands, ev C T x = ev C T' x) : qop C o T H = qop C o T' H := by
  funext k
  have hg := genOp_congr hs h
  have hy := symOp_congr h
  obtain ⟨dst, op, type, pos, after, guard⟩ := o
  cases op
  case move x => have hx := h x (by simp [Op.operands]); simp only [qop, hx]
  case assign x => have hx := h x (by simp [Op.operands]); simp only [qop, hx]
  case pick c a b =>
    have hc := h c (by simp [Op.operands]); have ha := h a (by simp [Op.operands]); have hb := h b (by simp [Op.operands])
    simp only [qop, hc, ha, hb]
  case load t x => have hx := h x (by simp [Op.operands]); simp only [qop, hx]
  case nilCheck x => have hx := h x (by simp [Op.operands]); simp only [qop, hx]
  case fieldAddr t x f => have hx := h x (by simp [Op.operands]); simp only [qop, hx]
  case field t x f => have hx := h x (by simp [Op.operands]); simp only [qop, hx]
  case indexAddr t x i => have hx := h x (by simp [Op.operands]); have hi := h i (by simp [Op.operands]); simp only [qop, hx, hi]
  case extract x i => have hx := h x (by simp [Op.operands]); simp only [qop, hx]
  case convert s d x => have hx := h x (by simp [Op.operands]); simp only [qop, hx, hg, hy]
  case makeFunc fn a b =>
    simp only [qop, map_ev (xs := a) fun x hx => h x (by simp [Op.operands, hx]), map_ev (xs := b) fun x hx => h x (by simp [Op.operands, hx])]
  case slice t x lo hi mx =>
    have hx := h x (by simp [Op.operands])
    have hm : ∀ (z : Option Operand), (∀ y, z = some y → y ∈ (Op.slice t x lo hi mx).operands) → z.map (ev C T) = z.map (ev C T') := fun z hz => by
      cases z with
      | none => rfl
      | some l => have := h l (hz l rfl); simp [this]
    simp only [qop, hx, hg, hy, hm lo (fun y hy => by subst hy; simp [Op.operands]), hm hi (fun y hy => by subst hy; simp [Op.operands]), hm mx (fun y hy => by subst hy; simp [Op.operands])]
  case binOp op t x y ty =>
    have hx := h x (by simp [Op.operands]); have hyy := h y (by simp [Op.operands])
    simp only [qop, hx, hyy, hg, hy]
  case call c =>
    obtain ⟨callee, args, argTypes⟩ := c
    cases callee with
    | value f => simp only [qop, hg]
    | invoke r m => simp only [qop, hg]
    | builtin b =>
      cases b
      case len =>
        simp only [qop]
        split
        · rename_i x ha
          have hx := h x (by simp [Op.operands, Call.operands, ← Array.mem_toList_iff, ha])
          rw [hx, hg, hy]
        · rfl
      case cap =>
        simp only [qop]
        split
        · rename_i x ha
          have hx := h x (by simp [Op.operands, Call.operands, ← Array.mem_toList_iff, ha])
          rw [hx, hg, hy]
        · rfl
      all_goals simp only [qop, hg]
  all_goals simp only [qop, hg]

theorem aop_congr {o : Oper} (hs : ∀ cs b, o.op ≠ .select cs b) (h : ∀ x ∈ o.op.operands, ev C T x = ev C T' x) : aop C call o T H = aop C call o T' H := by
  funext k
  have hq := qop_congr (H := H) hs h
  obtain ⟨dst, op, type, pos, after, guard⟩ := o
  cases op
  case box t x => have hx := h x (by simp [Op.operands]); simp only [aop, hx]
  case build t ps => simp only [aop, map_parts (ps := ps) fun x hx => h x (by simpa [Op.operands] using hx)]
  case buildSlice t n ps => simp only [aop, map_parts (ps := ps) fun x hx => h x (by simpa [Op.operands] using hx)]
  case store t x y => have hx := h x (by simp [Op.operands]); have hy := h y (by simp [Op.operands]); simp only [aop, hx, hy]
  case makeSlice t x y => have hx := h x (by simp [Op.operands]); have hy := h y (by simp [Op.operands]); simp only [aop, hx, hy]
  case lookup t x i ok => have hx := h x (by simp [Op.operands]); have hy := h i (by simp [Op.operands]); simp only [aop, hx, hy]
  case mapUpdate t x y z => have hx := h x (by simp [Op.operands]); have hy := h y (by simp [Op.operands]); have hz := h z (by simp [Op.operands]); simp only [aop, hx, hy, hz]
  case insert t x y z => have hx := h x (by simp [Op.operands]); have hy := h y (by simp [Op.operands]); have hz := h z (by simp [Op.operands]); simp only [aop, hx, hy, hz]
  case call c =>
    obtain ⟨callee, args, argTypes⟩ := c
    cases callee with
    | value f =>
      have hf := h f (by simp [Op.operands, Call.operands])
      simp only [aop, hf, map_ev (xs := args) fun x hx => h x (by simp [Op.operands, Call.operands, hx])]
    | invoke r m => simp only [aop, hq]
    | builtin b =>
      cases b
      case append =>
        simp only [aop]
        split
        · rename_i s x st xt ha ht
          have hx := h x (by simp [Op.operands, Call.operands, ← Array.mem_toList_iff, ha])
          have hss := h s (by simp [Op.operands, Call.operands, ← Array.mem_toList_iff, ha])
          rw [hx, hss]
        · rfl
      all_goals simp only [aop, hq]
  all_goals simp only [aop, hq]

theorem aopQ_congr {o : Oper} (hs : ∀ cs b, o.op ≠ .select cs b) (h : ∀ x ∈ o.op.operands, ev C T x = ev C T' x) : aopQ C call o T H = aopQ C call o T' H := by
  funext k
  have hq := aop_congr (call := call) (H := H) hs h
  obtain ⟨dst, op, type, pos, after, guard⟩ := o
  cases op
  case buildSlice t n ps => simp only [aopQ, map_parts (ps := ps) fun x hx => h x (by simpa [Op.operands] using hx)]
  all_goals simp only [aopQ, hq]

theorem quietO_congr {o : Oper} (h : ∀ x ∈ o.op.operands, ev C T x = ev C T' x) : quietO C o T = quietO C o T' := by
  obtain ⟨dst, op, type, pos, after, guard⟩ := o
  cases op
  case call c =>
    obtain ⟨callee, args, argTypes⟩ := c
    cases callee with
    | value f =>
      have hf := h f (by simp [Op.operands, Call.operands])
      simp only [quietO, hf, map_ev (xs := args) fun x hx => h x (by simp [Op.operands, Call.operands, hx])]
    | invoke r m => rfl
    | builtin b => cases b <;> rfl
  all_goals rfl

/-- A quiet operation leaves memory as it is. -/
theorem quiet_heap {o : Oper} (h : quietO C o T = true) (hb : ∀ t n ps, o.op ≠ .buildSlice t n ps) (k : AV → Heap → Out) : aop C call o T H k = aopQ C call o T H fun v => k v H := by
  obtain ⟨dst, op, type, pos, after, guard⟩ := o
  cases op
  case alloc t => simp [quietO] at h
  case box t x => simp [quietO] at h
  case store t x y => simp [quietO] at h
  case makeSlice t x y => simp [quietO] at h
  case makeMap t x => simp [quietO] at h
  case mapUpdate t x y z => simp [quietO] at h
  case insert t x y z => simp [quietO] at h
  case buildSlice t n ps => exact absurd rfl (hb t n ps)
  case call c =>
    obtain ⟨callee, args, argTypes⟩ := c
    cases callee with
    | value f =>
      simp only [quietO] at h
      simp only [aop, aopQ]
      split at h
      · rename_i g as htg
        simp only [Bool.and_eq_true] at h
        split
        · simp only [callA, h.1, h.2]
        · rfl
      · cases h
    | invoke r m => rfl
    | builtin b => cases b <;> first | (simp [quietO] at h; done) | rfl
  all_goals rfl

/-- One that reads no memory hangs on none. -/
theorem still_heap {o : Oper} (h : quietO C o T = true) (hr : readsO o = false) (H' : Heap) : aopQ C call o T H = aopQ C call o T H' := by
  funext k
  obtain ⟨dst, op, type, pos, after, guard⟩ := o
  cases op
  case alloc t => simp [quietO] at h
  case box t x => simp [quietO] at h
  case store t x y => simp [quietO] at h
  case makeSlice t x y => simp [quietO] at h
  case makeMap t x => simp [quietO] at h
  case mapUpdate t x y z => simp [quietO] at h
  case insert t x y z => simp [quietO] at h
  case load t x => simp [readsO] at hr
  case lookup t x i ok => simp [readsO] at hr
  case convert s d x => simp [readsO] at hr
  case call c =>
    obtain ⟨callee, args, argTypes⟩ := c
    cases callee with
    | value f =>
      simp only [quietO] at h
      simp only [aop, aopQ]
      split at h
      · rename_i g as htg
        simp only [Bool.and_eq_true] at h
        split
        · simp only [callA, h.1, h.2]
        · rfl
      · cases h
    | invoke r m => rfl
    | builtin b => cases b <;> first | (simp [quietO] at h; done) | rfl
  all_goals rfl
end
end Go.Proofs.Ytgpijioodocplaa
