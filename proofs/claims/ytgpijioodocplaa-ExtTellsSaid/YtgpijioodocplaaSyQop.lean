/- All quiet operations in one. -/
import Derived.Laws.IdiomStrings
import Derived.Laws.BytesArg
import Derived.Test.YtgpijioodocplaaSyQuiet3
import Derived.Test.YtgpijioodocplaaSyEq
set_option linter.unusedVariables false
set_option linter.unusedSectionVars false
set_option linter.unusedSimpArgs false
namespace Go.Proofs.Ytgpijioodocplaa
open Go Go.RowKit
variable [Obs]

section
variable {C : Ctx} {Pb : Nat → Prop} {μ : Mu} {B0 : Nat} {w : World} {T : Look} {H : Heap} {a : Act}

theorem QOp.of_sym {o : Oper} {k : AV → Out} (hT : RelF Pb μ w T a.tmps) (hG : GlobRel C Pb μ w) (h : symOp C o T k) : QOp C Pb μ w a o k := by
  obtain ⟨r, v, h1, hr, h2⟩ := symOp_ok h hT hG
  exact ⟨r, v, h1, hr, fun w' _ => h2 w'⟩

theorem byteT_ok {r : List TC} {b : UInt8} (h : byteT r = some b) : r = [.sc (.int .u8 (b.toNat : Int))] := by
  unfold byteT at h
  split at h
  · rename_i n
    cases hc : decide (0 ≤ n) && decide (n < 256) with
    | false => rw [hc] at h; simp at h
    | true =>
      rw [hc] at h
      simp only [Bool.and_eq_true, decide_eq_true_eq] at hc
      simp only [cond_true, Option.some.injEq] at h
      subst h
      congr 2
      have : n.toNat.toUInt8.toNat = n.toNat := by
        rw [Nat.toUInt8, UInt8.toNat_ofNat']
        exact Nat.mod_eq_of_lt (by omega)
      rw [this]
      congr 1
      omega
  · cases h

/-- Bytes that lie one behind the other are a string. -/
theorem bytes_run {src dst e : TypeId} {el : List (List TC)} {l : List UInt8} {b off cap : Nat} (hl : mapO byteT el = some l) (hs : C.P.underlying src = some (.slice e)) (he : C.P.underlying e = some (.int .u8)) (hd : C.P.underlying dst = some .string)
    (hc : ∀ (i : Nat) (r : List TC) (c : TC), el[i]? = some r → r[0]? = some c → ∃ v, w.cell? ⟨b, off + i, none⟩ = some v ∧ Rel Pb μ w (.tc c) v) (w' : World) (hw : Same w w') :
    (convert src dst (.slice (some ⟨b, off, none⟩) el.length cap)).run C.P w' = .ok (.string ⟨l.toArray⟩) w' := by
  obtain ⟨m1, m2⟩ := mapO_ok hl
  rw [← m1]
  refine run_convert_bytes_back w' src dst e _ cap l hs he hd fun j hj => ?_
  have hje : j < el.length := by omega
  obtain ⟨y, p1, p2⟩ := m2 j _ (List.getElem?_eq_getElem hje)
  have hr := byteT_ok p2
  obtain ⟨v, g1, g2⟩ := hc j _ (.sc (.int .u8 (y.toNat : Int))) (List.getElem?_eq_getElem hje) (by rw [hr]; rfl)
  obtain rfl := g2.sc_eq
  rw [List.getElem?_eq_getElem hj] at p1
  simp only [Option.some.injEq] at p1
  rw [p1]
  have := hw.cell g1
  by_cases h0 : j = 0
  · subst h0; simpa [Addr.add] using this
  · simpa [Addr.add, h0] using this

theorem bytesStr_ok {src dst : TypeId} {x : AV} {u : Value} {k : AV → Out} (h : bytesStr C H src dst x k) (hx : Rel Pb μ w x u) (hH : HeapRel Pb μ B0 w H) :
    ∃ r v, k r ∧ Rel Pb μ w r v ∧ ∀ w', Same w w' → (convert src dst u).run C.P w' = .ok v w' := by
  unfold bytesStr at h
  split at h
  · rename_i ts td hts htd
    obtain ⟨_, _, hds, _⟩ := tinfo_ok hts
    obtain ⟨_, _, hdd, _⟩ := tinfo_ok htd
    split at h
    · rename_i e hu
      rw [hu] at hds
      split at h
      · rename_i te hte
        obtain ⟨_, _, hde, _⟩ := tinfo_ok hte
        obtain ⟨hcc, h⟩ := cond_false h
        simp only [Bool.and_eq_true] at hcc
        have h8 : te.under = .int .u8 := by
          have := hcc.1
          unfold isU8 at this
          split at this
          · assumption
          · cases this
        have hst : td.under = .string := by
          have := hcc.2
          unfold isStr at this
          split at this
          · assumption
          · cases this
        rw [h8] at hde
        rw [hst] at hdd
        split at h
        · rename_i l hl
          refine ⟨_, .string ⟨l.toArray⟩, h, Rel.of_sc .., ?_⟩
          unfold bytesOf at hl
          split at hl
          · rename_i s el
            cases hs1 : decide (s = 1) with
            | false => rw [hs1] at hl; simp at hl
            | true =>
              rw [hs1] at hl
              simp only [decide_eq_true_eq] at hs1
              subst hs1
              simp only [cond_true] at hl
              cases hx with
              | tc _ _ hx =>
                cases hx with
                | nil s =>
                  intro w' _
                  simp only [mapO, Option.some.injEq] at hl
                  subst hl
                  exact run_convert_bytes_nil w' src e hds hde 0 0 dst hdd
                | sl s b o cap el g h1 h2 h3 h4 h5 =>
                  intro w' hw'
                  refine bytes_run (Pb := Pb) (μ := μ) hl hds hde hdd (fun i r c hi hr => ?_) w' hw'
                  have := h4 i 0 r c hi hr
                  simp only [Nat.mul_one, Nat.add_zero] at this
                  exact ⟨_, this.1, .tc _ _ (h5 i 0 r c hi hr)⟩
          · rename_i o s i len cap ex ver
            split at hl
            · rename_i s' el ho
              cases hcx : decide (s = 1) && decide (s' = 1) && decide (ver = el.length) && decide (i + len ≤ el.length) with
              | false => rw [hcx] at hl; simp at hl
              | true =>
                rw [hcx] at hl
                simp only [Bool.and_eq_true, decide_eq_true_eq] at hcx
                obtain ⟨⟨⟨rfl, rfl⟩, rfl⟩, hle⟩ := hcx
                simp only [cond_true] at hl
                cases hx with
                | slice _ _ _ _ _ _ _ b off c hb q1 q2 q3 q4 q5 =>
                  obtain ⟨b', hb', _, _, hR⟩ := hH.obj o _ ho
                  rw [hb] at hb'
                  simp only [Option.some.injEq] at hb'
                  subst hb'
                  obtain ⟨_, cc, ty, fr, r2, _, _, r5⟩ := hR
                  have hlen : ((el.drop i).take len).length = len := by simp; omega
                  intro w' hw'
                  have := bytes_run (Pb := Pb) (μ := μ) (w := w) (b := b) (off := off) (cap := c) hl hds hde hdd (fun j r x hj hr => ?_) w' hw'
                  · rw [hlen] at this; exact this
                  · have hjl : j < len := by
                      rcases Nat.lt_or_ge j len with h | h
                      · exact h
                      · rw [List.getElem?_eq_none (by omega)] at hj; cases hj
                    have hoff : off = i * 1 := q5.resolve_left (by omega)
                    rw [List.getElem?_take_of_lt hjl, List.getElem?_drop] at hj
                    obtain ⟨v, g1, _, g3⟩ := r5 (i + j) 0 (tcs r) (.tc x) (by rw [List.getElem?_map, hj]; rfl) (by simp [tcs, hr])
                    refine ⟨v, ?_, g3⟩
                    simp only [World.cell?, r2]
                    rw [hoff]
                    simpa using g1
            · cases hl
          · cases hl
        · exact h.elim
      · exact h.elim
    · exact h.elim
  · exact h.elim

theorem qop_ok {o : Oper} {k : AV → Out} (h : qop C o T H k) (hT : RelF Pb μ w T a.tmps) (hH : HeapRel Pb μ B0 w H) (hG : GlobRel C Pb μ w) : QOp C Pb μ w a o k := by
  obtain ⟨dst, op, type, pos, after, guard⟩ := o
  cases op
  case move x => exact ⟨_, _, h, ev_ok hT hG x, fun w' _ => rfl⟩
  case assign x => exact ⟨_, _, h, ev_ok hT hG x, fun w' _ => rfl⟩
  case pick c x y =>
    simp only [qop] at h
    rcases condA_ok h (ev_ok hT hG c) with ⟨hv, hy⟩ | ⟨hv, hy⟩
    · exact ⟨_, _, hy, ev_ok hT hG x, fun w' _ => by simp [execOp, hv, asBool]⟩
    · exact ⟨_, _, hy, ev_ok hT hG y, fun w' _ => by simp [execOp, hv, asBool]⟩
  case convert src dst x =>
    simp only [qop] at h
    split at h
    · exact QOp.of_gen (fun cs b he => by cases he) hT hG h
    · exact QOp.of_sym hT hG h
    · exact QOp.of_sem rfl (bytesStr_ok h (ev_ok hT hG x) hH)
  case load t x =>
    simp only [qop] at h
    split at h
    · rename_i ti ht
      exact QOp.of_sem rfl (loadA_ok ht h (ev_ok hT hG x) hH)
    · exact h.elim
  case nilCheck x =>
    simp only [qop] at h
    have hx := ev_ok hT hG x
    split at h
    · rename_i o s i f ver he
      rw [he] at hx
      refine ⟨_, a.eval x, h, hx, fun w' _ => ?_⟩
      simp only [execOp]
      generalize a.eval x = u at hx ⊢
      cases hx with
      | ptr => rfl
    · rename_i s el i f he
      rw [he] at hx
      refine ⟨_, a.eval x, h, hx, fun w' _ => ?_⟩
      simp only [execOp]
      generalize a.eval x = u at hx ⊢
      cases hx with
      | vptr => rfl
    · rename_i fn first cap he
      rw [he] at hx
      split at h
      · rename_i g
        refine ⟨_, a.eval x, h, hx, fun w' _ => ?_⟩
        simp only [execOp]
        generalize a.eval x = u at hx ⊢
        cases hx with
        | func => rfl
      · exact h.elim
    · rename_i v he
      rw [he] at hx
      split at h
      · rename_i fn first cap
        split at h
        · rename_i g
          have hv := hx.sc_eq
          refine ⟨_, a.eval x, h, hx, fun w' _ => ?_⟩
          simp only [execOp, hv]
          rfl
        · exact h.elim
      · exact h.elim
    · exact h.elim
  case fieldAddr t x fd =>
    simp only [qop] at h
    split at h
    · rename_i ti ht
      exact QOp.of_sem rfl (fieldAddrA_ok ht h (ev_ok hT hG x))
    · exact h.elim
  case field t x fd =>
    simp only [qop] at h
    split at h
    · rename_i ti ht
      exact QOp.of_sem rfl (fieldA_ok ht h (ev_ok hT hG x))
    · exact h.elim
  case indexAddr t x i =>
    simp only [qop] at h
    split at h
    · rename_i ti ht
      split at h
      · rename_i e hu
        exact QOp.of_sem rfl (indexA_ok ht (.inl hu) h (ev_ok hT hG x) (ev_ok hT hG i))
      · rename_i n e hu
        exact QOp.of_sem rfl (indexA_ok ht (.inr ⟨n, hu⟩) h (ev_ok hT hG x) (ev_ok hT hG i))
      · exact h.elim
    · exact h.elim
  case slice t x lo hi mx =>
    simp only [qop] at h
    split at h
    · exact QOp.of_gen (by simp) hT hG h
    · exact QOp.of_sym hT hG h
    · split at h
      · rename_i ti ht
        split at h
        · rename_i e hu
          split at h
          · rename_i et hte
            exact QOp.of_sem rfl (sliceA_ok ht hu hte h (ev_ok hT hG x) (optRel_map hT hG lo) (optRel_map hT hG hi) (optRel_map hT hG mx))
          · exact h.elim
        · exact h.elim
      · exact h.elim
  case extract x i =>
    simp only [qop] at h
    have hx := ev_ok hT hG x
    split at h
    · rename_i vs he
      rw [he] at hx
      split at h
      · rename_i r hr
        generalize hu : a.eval x = u at hx
        cases hx with
        | tuple _ us hl hh =>
          obtain ⟨v, hv, hR⟩ := RelL.get ⟨hl, hh⟩ hr
          refine ⟨r, v, h, hR, fun w' _ => ?_⟩
          simp [execOp, hu, Instr.extract, hv]
      · exact h.elim
    · exact h.elim
  case makeFunc fn first cap =>
    simp only [qop] at h
    have h1 := relL_map hT hG first
    have h2 := relL_map hT hG cap
    exact ⟨_, _, h, .func fn _ _ _ _ h1.1 h2.1 h1.2 h2.2, fun w' _ => rfl⟩
  case binOp op t x y yt =>
    simp only [qop] at h
    have hx := ev_ok hT hG x
    have hy := ev_ok hT hG y
    split at h
    · rename_i e he
      obtain ⟨r, v, h1, h2, h3⟩ := aggOp_ok (ox := x) (oy := y) he h hx hy
      exact ⟨r, v, h1, h2, fun w' _ => by simp only [execOp]; rw [Sem.run_bind, h3 w']; rfl⟩
    split at h
    · exact QOp.of_gen (by simp) hT hG h
    · split at h
      · exact QOp.of_sym hT hG h
      split at h
      · rename_i ti ht
        obtain ⟨b, h1, h2, h3, h4, h5⟩ := eqNil_ok ht h hx hy
        refine ⟨_, .bool b, h1, Rel.of_sc .., fun w' _ => ?_⟩
        simp only [execOp, Sem.run_bind, eqGuard_nil w' h4, Result.andThen]
        have hb : binOp .eql t (a.eval x) (a.eval y) = (do pure (.bool (← Op.equal t (a.eval x) (a.eval y)))) := by
          generalize a.eval x = u at h4 ⊢
          generalize a.eval y = v at h5 ⊢
          cases u <;> simp [refV] at h4 <;> cases v <;> simp [nilV] at h5 <;> rfl
        rw [hb]
        simp [h2 w']
      · rename_i ti ht
        obtain ⟨b, h1, h2, h3, h4, h5⟩ := eqNil_ok ht h hx hy
        refine ⟨_, .bool (!b), h1, Rel.of_sc .., fun w' _ => ?_⟩
        simp only [execOp, Sem.run_bind, eqGuard_nil w' h4, Result.andThen]
        have hb : binOp .neq t (a.eval x) (a.eval y) = (do pure (.bool (!(← Op.equal t (a.eval x) (a.eval y))))) := by
          generalize a.eval x = u at h4 ⊢
          generalize a.eval y = v at h5 ⊢
          cases u <;> simp [refV] at h4 <;> cases v <;> simp [nilV] at h5 <;> rfl
        rw [hb]
        simp [h2 w']
      · exact h.elim
  case call c =>
    obtain ⟨callee, args, argTypes⟩ := c
    cases callee
    case builtin b =>
      have gen : genOk (.call { callee := .builtin b, args, argTypes }) = true → genOp C ⟨dst, .call { callee := .builtin b, args, argTypes }, type, pos, after, guard⟩ T k →
          QOp C Pb μ w a ⟨dst, .call { callee := .builtin b, args, argTypes }, type, pos, after, guard⟩ k := fun _ hg => QOp.of_gen (by simp) hT hG hg
      cases b
      case len =>
        simp only [qop] at h
        split at h
        · rename_i x hargs
          split at h
          · exact QOp.of_gen (by simp) hT hG h
          · exact QOp.of_sym hT hG h
          · split at h
            · rename_i t hts
              split at h
              · rename_i ti ht
                split at h
                · rename_i e hu
                  have ha : args = #[x] := by rw [← Array.toList_inj]; exact hargs
                  have hb : argTypes = #[t] := by rw [← Array.toList_inj]; exact hts
                  subst ha; subst hb
                  exact QOp.of_sem (s := Builtin.len_ #[t] type #[a.eval x]) (by simp [execOp, resolve, invoke, builtin]) (lenA_ok ht hu h (ev_ok hT hG x))
                · exact h.elim
              · exact h.elim
            · exact h.elim
        · exact h.elim
      case cap =>
        simp only [qop] at h
        split at h
        · rename_i x hargs
          split at h
          · exact QOp.of_gen (by simp) hT hG h
          · exact QOp.of_sym hT hG h
          · split at h
            · rename_i t hts
              split at h
              · rename_i ti ht
                split at h
                · rename_i e hu
                  have ha : args = #[x] := by rw [← Array.toList_inj]; exact hargs
                  have hb : argTypes = #[t] := by rw [← Array.toList_inj]; exact hts
                  subst ha; subst hb
                  exact QOp.of_sem (s := Builtin.cap_ #[t] type #[a.eval x]) (by simp [execOp, resolve, invoke, builtin]) (capA_ok ht hu h (ev_ok hT hG x))
                · exact h.elim
              · exact h.elim
            · exact h.elim
        · exact h.elim
      case min => exact gen rfl (by simpa [qop, genOk] using h)
      case max => exact gen rfl (by simpa [qop, genOk] using h)
      all_goals simp [qop, genOk] at h
    all_goals simp [qop, genOk] at h
  case unOp => exact QOp.of_gen (by simp) hT hG (by simpa [qop, genOk] using h)
  case index => exact QOp.of_gen (by simp) hT hG (by simpa [qop, genOk] using h)
  case makeInterface => exact QOp.of_gen (by simp) hT hG (by simpa [qop, genOk] using h)
  all_goals simp [qop, genOk] at h
end
end Go.Proofs.Ytgpijioodocplaa
