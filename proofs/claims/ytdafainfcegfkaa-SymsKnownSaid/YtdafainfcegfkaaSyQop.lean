/- All quiet operations in one. -/
import Derived.Test.YtdafainfcegfkaaSyQuiet3
import Derived.Test.YtdafainfcegfkaaSyEq
set_option linter.unusedVariables false
set_option linter.unusedSectionVars false
set_option linter.unusedSimpArgs false
namespace Go.Proofs.Ytdafainfcegfkaa
open Go Go.RowKit
variable [Obs]

section
variable {C : Ctx} {Pb : Nat → Prop} {μ : Mu} {B0 : Nat} {w : World} {T : Tmps} {H : Heap} {a : Act}

theorem QOp.of_sym {o : Oper} {k : AV → Out} (hT : RelL Pb μ w T a.tmps) (hG : GlobRel C Pb μ w) (h : symOp C o T k) : QOp C Pb μ w a o k := by
  obtain ⟨r, v, h1, hr, h2⟩ := symOp_ok h hT hG
  exact ⟨r, v, h1, hr, fun w' _ => h2 w'⟩

theorem qop_ok {o : Oper} {k : AV → Out} (h : qop C o T H k) (hT : RelL Pb μ w T a.tmps) (hH : HeapRel Pb μ B0 w H) (hG : GlobRel C Pb μ w) : QOp C Pb μ w a o k := by
  obtain ⟨dst, op, type, pos, after, guard⟩ := o
  cases op
  case move x => exact ⟨_, _, h, ev_ok hT hG x, fun w' _ => rfl⟩
  case assign x => exact ⟨_, _, h, ev_ok hT hG x, fun w' _ => rfl⟩
  case pick c x y =>
    simp only [qop] at h
    rcases condA_ok h (ev_ok hT hG c) with ⟨hv, hy⟩ | ⟨hv, hy⟩
    · exact ⟨_, _, hy, ev_ok hT hG x, fun w' _ => by simp [execOp, hv, asBool]⟩
    · exact ⟨_, _, hy, ev_ok hT hG y, fun w' _ => by simp [execOp, hv, asBool]⟩
  case load t x =>
    simp only [qop] at h
    split at h
    · rename_i ti ht
      exact QOp.of_sem rfl (loadA_ok ht h (ev_ok hT hG x) hH)
    · exact h.elim
  case nilCheck x =>
    simp only [qop] at h
    have hx := ev_ok hT hG x
    split at h
    · rename_i o s i f ver he
      rw [he] at hx
      refine ⟨_, a.eval x, h, hx, fun w' _ => ?_⟩
      simp only [execOp]
      generalize a.eval x = u at hx ⊢
      cases hx with
      | ptr => rfl
    · rename_i s el i f he
      rw [he] at hx
      refine ⟨_, a.eval x, h, hx, fun w' _ => ?_⟩
      simp only [execOp]
      generalize a.eval x = u at hx ⊢
      cases hx with
      | vptr => rfl
    · rename_i fn first cap he
      rw [he] at hx
      split at h
      · rename_i g
        refine ⟨_, a.eval x, h, hx, fun w' _ => ?_⟩
        simp only [execOp]
        generalize a.eval x = u at hx ⊢
        cases hx with
        | func => rfl
      · exact h.elim
    · rename_i v he
      rw [he] at hx
      split at h
      · rename_i fn first cap
        split at h
        · rename_i g
          have hv := hx.sc_eq
          refine ⟨_, a.eval x, h, hx, fun w' _ => ?_⟩
          simp only [execOp, hv]
          rfl
        · exact h.elim
      · exact h.elim
    · exact h.elim
  case fieldAddr t x fd =>
    simp only [qop] at h
    split at h
    · rename_i ti ht
      exact QOp.of_sem rfl (fieldAddrA_ok ht h (ev_ok hT hG x))
    · exact h.elim
  case field t x fd =>
    simp only [qop] at h
    split at h
    · rename_i ti ht
      exact QOp.of_sem rfl (fieldA_ok ht h (ev_ok hT hG x))
    · exact h.elim
  case indexAddr t x i =>
    simp only [qop] at h
    split at h
    · rename_i ti ht
      split at h
      · rename_i e hu
        exact QOp.of_sem rfl (indexA_ok ht (.inl hu) h (ev_ok hT hG x) (ev_ok hT hG i))
      · rename_i n e hu
        exact QOp.of_sem rfl (indexA_ok ht (.inr ⟨n, hu⟩) h (ev_ok hT hG x) (ev_ok hT hG i))
      · exact h.elim
    · exact h.elim
  case slice t x lo hi mx =>
    simp only [qop] at h
    split at h
    · exact QOp.of_gen (by simp) hT hG h
    · exact QOp.of_sym hT hG h
    · split at h
      · rename_i ti ht
        split at h
        · rename_i e hu
          split at h
          · rename_i et hte
            exact QOp.of_sem rfl (sliceA_ok ht hu hte h (ev_ok hT hG x) (optRel_map hT hG lo) (optRel_map hT hG hi) (optRel_map hT hG mx))
          · exact h.elim
        · exact h.elim
      · exact h.elim
  case extract x i =>
    simp only [qop] at h
    have hx := ev_ok hT hG x
    split at h
    · rename_i vs he
      rw [he] at hx
      split at h
      · rename_i r hr
        generalize hu : a.eval x = u at hx
        cases hx with
        | tuple _ us hl hh =>
          obtain ⟨v, hv, hR⟩ := RelL.get ⟨hl, hh⟩ hr
          refine ⟨r, v, h, hR, fun w' _ => ?_⟩
          simp [execOp, hu, Instr.extract, hv]
      · exact h.elim
    · exact h.elim
  case makeFunc fn first cap =>
    simp only [qop] at h
    have h1 := relL_map hT hG first
    have h2 := relL_map hT hG cap
    exact ⟨_, _, h, .func fn _ _ _ _ h1.1 h2.1 h1.2 h2.2, fun w' _ => rfl⟩
  case binOp op t x y yt =>
    simp only [qop] at h
    have hx := ev_ok hT hG x
    have hy := ev_ok hT hG y
    split at h
    · exact QOp.of_gen (by simp) hT hG h
    · split at h
      · exact QOp.of_sym hT hG h
      split at h
      · rename_i e he
        obtain ⟨r, v, h1, h2, h3⟩ := aggOp_ok (ox := x) (oy := y) he h hx hy
        exact ⟨r, v, h1, h2, fun w' _ => by simp only [execOp]; rw [Sem.run_bind, h3 w']; rfl⟩
      split at h
      · rename_i ti ht
        obtain ⟨b, h1, h2, h3, h4, h5⟩ := eqNil_ok ht h hx hy
        refine ⟨_, .bool b, h1, Rel.of_sc .., fun w' _ => ?_⟩
        simp only [execOp, Sem.run_bind, eqGuard_nil w' h4, Result.andThen]
        have hb : binOp .eql t (a.eval x) (a.eval y) = (do pure (.bool (← Op.equal t (a.eval x) (a.eval y)))) := by
          generalize a.eval x = u at h4 ⊢
          generalize a.eval y = v at h5 ⊢
          cases u <;> simp [refV] at h4 <;> cases v <;> simp [nilV] at h5 <;> rfl
        rw [hb]
        simp [h2 w']
      · rename_i ti ht
        obtain ⟨b, h1, h2, h3, h4, h5⟩ := eqNil_ok ht h hx hy
        refine ⟨_, .bool (!b), h1, Rel.of_sc .., fun w' _ => ?_⟩
        simp only [execOp, Sem.run_bind, eqGuard_nil w' h4, Result.andThen]
        have hb : binOp .neq t (a.eval x) (a.eval y) = (do pure (.bool (!(← Op.equal t (a.eval x) (a.eval y))))) := by
          generalize a.eval x = u at h4 ⊢
          generalize a.eval y = v at h5 ⊢
          cases u <;> simp [refV] at h4 <;> cases v <;> simp [nilV] at h5 <;> rfl
        rw [hb]
        simp [h2 w']
      · exact h.elim
  case call c =>
    obtain ⟨callee, args, argTypes⟩ := c
    cases callee
    case builtin b =>
      have gen : genOk (.call { callee := .builtin b, args, argTypes }) = true → genOp C ⟨dst, .call { callee := .builtin b, args, argTypes }, type, pos, after, guard⟩ T k →
          QOp C Pb μ w a ⟨dst, .call { callee := .builtin b, args, argTypes }, type, pos, after, guard⟩ k := fun _ hg => QOp.of_gen (by simp) hT hG hg
      cases b
      case len =>
        simp only [qop] at h
        split at h
        · rename_i x hargs
          split at h
          · exact QOp.of_gen (by simp) hT hG h
          · exact QOp.of_sym hT hG h
          · split at h
            · rename_i t hts
              split at h
              · rename_i ti ht
                split at h
                · rename_i e hu
                  have ha : args = #[x] := by rw [← Array.toList_inj]; exact hargs
                  have hb : argTypes = #[t] := by rw [← Array.toList_inj]; exact hts
                  subst ha; subst hb
                  exact QOp.of_sem (s := Builtin.len_ #[t] type #[a.eval x]) (by simp [execOp, resolve, invoke, builtin]) (lenA_ok ht hu h (ev_ok hT hG x))
                · exact h.elim
              · exact h.elim
            · exact h.elim
        · exact h.elim
      case cap =>
        simp only [qop] at h
        split at h
        · rename_i x hargs
          split at h
          · exact QOp.of_gen (by simp) hT hG h
          · exact QOp.of_sym hT hG h
          · split at h
            · rename_i t hts
              split at h
              · rename_i ti ht
                split at h
                · rename_i e hu
                  have ha : args = #[x] := by rw [← Array.toList_inj]; exact hargs
                  have hb : argTypes = #[t] := by rw [← Array.toList_inj]; exact hts
                  subst ha; subst hb
                  exact QOp.of_sem (s := Builtin.cap_ #[t] type #[a.eval x]) (by simp [execOp, resolve, invoke, builtin]) (capA_ok ht hu h (ev_ok hT hG x))
                · exact h.elim
              · exact h.elim
            · exact h.elim
        · exact h.elim
      case min => exact gen rfl (by simpa [qop, genOk] using h)
      case max => exact gen rfl (by simpa [qop, genOk] using h)
      all_goals simp [qop, genOk] at h
    all_goals simp [qop, genOk] at h
  case unOp => exact QOp.of_gen (by simp) hT hG (by simpa [qop, genOk] using h)
  case convert => exact QOp.of_gen (by simp) hT hG (by simpa [qop, genOk] using h)
  case index => exact QOp.of_gen (by simp) hT hG (by simpa [qop, genOk] using h)
  case makeInterface => exact QOp.of_gen (by simp) hT hG (by simpa [qop, genOk] using h)
  all_goals simp [qop, genOk] at h
end
end Go.Proofs.Ytdafainfcegfkaa
