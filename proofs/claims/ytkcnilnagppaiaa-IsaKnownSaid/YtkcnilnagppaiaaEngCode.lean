/- Code: what the evaluator tells of it holds. -/
import Derived.Test.YtkcnilnagppaiaaEngCall
import Derived.Tactics
import Derived.Deep.Quiet
set_option linter.unusedVariables false
set_option linter.unusedSimpArgs false
namespace Go.Proofs.Ytkcnilnagppaiaa
open Go Go.RowKit

section
variable {C : Ctx} {Pb : Nat → Prop} {μ : Mu} {B0 : Nat} {w : World} {T : Tmps} {H : Heap} {a : Act}

theorem relL_append {l1 l2 : List AV} {v1 v2 : Array Value} (h1 : RelL Pb μ w l1 v1) (h2 : RelL Pb μ w l2 v2) : RelL Pb μ w (l1 ++ l2) (v1 ++ v2) := by
  refine ⟨by rw [List.length_append, Array.size_append, h1.1, h2.1], fun i x v hi hv => ?_⟩
  rcases Nat.lt_or_ge i l1.length with h | h
  · rw [List.getElem?_append_left h] at hi
    rw [Array.getElem?_append_left (by rw [← h1.1]; exact h)] at hv
    exact h1.2 i x v hi hv
  · rw [List.getElem?_append_right h] at hi
    rw [Array.getElem?_append_right (by rw [← h1.1]; exact h), ← h1.1] at hv
    exact h2.2 _ x v hi hv

theorem target_ok {f : AV} {fv : Value} {args as : List AV} {argv : Array Value} {g : FuncId} (h : target f args = some (g, as)) (hf : Rel Pb μ w f fv) (ha : RelL Pb μ w args argv) :
    ∃ first cap, fv = .func (.func g) first cap ∧ RelL Pb μ w as (first ++ argv ++ cap) := by
  unfold target at h
  split at h
  · simp only [Option.some.injEq, Prod.mk.injEq] at h
    obtain ⟨rfl, rfl⟩ := h
    obtain rfl := hf.sc_eq
    exact ⟨_, _, rfl, relL_append (relL_append (rel_scs ..) ha) (rel_scs ..)⟩
  · simp only [Option.some.injEq, Prod.mk.injEq] at h
    obtain ⟨rfl, rfl⟩ := h
    cases hf with
    | func _ _ _ vf vc h1 h2 h3 h4 => exact ⟨_, _, rfl, relL_append (relL_append ⟨h1, h3⟩ ha) ⟨h2, h4⟩⟩
  · cases h

theorem run_enter {P : Program} {g : FuncId} {fn : Func} {o : Oper} {f : Operand} {args : Array Operand} {ats : Array TypeId} {first cap : Array Value} (hop : o.op = .call { callee := .value f, args := args, argTypes := ats })
    (hfn : P.funcs[g]? = some fn) (he : entered fn = true) (hf : a.eval f = .func (.func g) first cap) (w : World) : (execOp a.eval o).run P w = .ok (.enter g (first ++ args.map a.eval ++ cap)) w := by
  obtain ⟨dst, op, type, pos, after, guard⟩ := o
  simp only at hop
  subst hop
  simp only [entered, Bool.and_eq_true, Bool.not_eq_true'] at he
  obtain ⟨h1, h2⟩ := he
  have h3 : fn.body.isNone = false := by cases hb : fn.body <;> simp_all
  simp only [execOp, resolve, hf, Deferred.ofValue, Sem.run_bind, Sem.run_pure, Result.andThen, invoke, callFunc, run_program, hfn, h2, h3]
  rfl

/-- What is told of an operation, whatever becomes of it. -/
def After (Pb : Nat → Prop) (μ : Mu) (B0 : Nat) (w : World) (H : Heap) (a : Act) (o : Oper) (k : AV → Heap → Prop) (a' : Act) (w' : World) : Prop :=
  ∃ r H' v Pb' μ', k r H' ∧ a' = a.put o.dst v ∧ Rel Pb' μ' w' r v ∧ HeapRel Pb' μ' B0 w' H' ∧ Goes Pb μ B0 w H.length Pb' μ' w' H'.length

theorem wp_of_hres {o : Oper} {k : AV → Heap → Prop} {s : Sem Value} {Q : Exit → Act → World → Prop} (he : execOp a.eval o = (do pure (.value (← s)))) (h : HRes C Pb μ B0 w H k s) :
    o.wp C.P a w (After Pb μ B0 w H a o k) Q := by
  obtain ⟨r, H', v, w', Pb', μ', h1, h2, h3, h4, h5⟩ := h
  unfold Oper.wp
  rw [he]
  simp only [Sem.run_bind, h2, Result.andThen, Sem.run_pure, Oper.upon]
  exact ⟨r, H', v, Pb', μ', h1, rfl, h3, h4, h5⟩

theorem wp_of_skip {o : Oper} {k : AV → Heap → Prop} {s : Sem Unit} {Q : Exit → Act → World → Prop} (he : execOp a.eval o = (do s; pure .skip))
    (h : ∃ H' w' Pb' μ', k undefA H' ∧ s.run C.P w = .ok () w' ∧ HeapRel Pb' μ' B0 w' H' ∧ Goes Pb μ B0 w H.length Pb' μ' w' H'.length) : o.wp C.P a w (After Pb μ B0 w H a o k) Q := by
  obtain ⟨H', w', Pb', μ', h1, h2, h4, h5⟩ := h
  unfold Oper.wp
  rw [he]
  simp only [Sem.run_bind, h2, Result.andThen, Sem.run_pure, Oper.upon]
  exact ⟨undefA, H', undef, Pb', μ', h1, rfl, Rel.of_sc .., h4, h5⟩

theorem wp_of_qop {o : Oper} {k : AV → Heap → Prop} {Q : Exit → Act → World → Prop} (hH : HeapRel Pb μ B0 w H) (h : QOp C Pb μ w a o fun r => k r H) : o.wp C.P a w (After Pb μ B0 w H a o k) Q := by
  obtain ⟨r, v, h1, h2, h3⟩ := h
  unfold Oper.wp
  rw [h3 w (Same.refl w)]
  exact ⟨r, H, v, Pb, μ, h1, rfl, h2, hH, Goes.refl ..⟩

theorem HeapRel.same {Pb' : Nat → Prop} {w' : World} (hH : HeapRel Pb μ B0 w H) (hs : Same w w') (hsz : w.heap.size ≤ w'.heap.size) (hp : ∀ b, Pb b → Pb' b) (hn : ∀ b, Pb' b → Pb b ∨ (w.heap.size ≤ b ∧ b < w'.heap.size)) :
    HeapRel Pb' μ B0 w' H := by
  have hext : Ext Pb w w' := ⟨fun b hb => hs b (hH.pb b hb), fun b n ⟨c, ty, fr, h1, h2⟩ => ⟨c, ty, fr, hs.get h1, h2⟩⟩
  refine ⟨hH.dom, fun o obj ho => (hH.obj o obj ho).mono hp (fun _ _ _ h => h) hext fun b hb => ?_, hH.inj, fun b hb => ?_, Nat.le_trans hH.base hsz⟩
  · obtain ⟨b', h1, h2, h3, h4⟩ := (hH.obj o obj ho).block
    rw [hb] at h1
    simp only [Option.some.injEq] at h1
    subst h1
    refine ⟨fun hp' => ?_, hs b h4⟩
    rcases hn b hp' with h | h
    · exact h3 h
    · omega
  · rcases hn b hb with h | h
    · exact Nat.lt_of_lt_of_le (hH.pb b h) hsz
    · exact h.2

/-- What a world that goes on above B says of one that went on below it. -/
theorem same_of_below {w' : World} (h : Below w.heap.size w w') : Same w w' := fun b hb => h.block b hb

theorem callA_ok {call : Caller} (hc : CallOk C call) (hs : SummOk C) {g : FuncId} {as : List AV} {vs : Array Value} {k : AV → Heap → Prop} (h : callA C call g as H k) (hv : RelL Pb μ w as vs) (hH : HeapRel Pb μ B0 w H)
    (hG : GlobRel C Pb μ w) : Calls C.P g vs w fun e w' => ∃ r H' v Pb' μ', k r H' ∧ e = .returned v ∧ Rel Pb' μ' w' r v ∧ HeapRel Pb' μ' B0 w' H' ∧ Goes Pb μ B0 w H.length Pb' μ' w' H'.length := by
  have farw : ∀ {w' : World}, Below w.heap.size w w' → ∀ b, Far Pb w.heap.size w' b → Pb b ∨ (w.heap.size ≤ b ∧ b < w'.heap.size) := fun _ b hb => hb
  have stays : ∀ {w' : World}, Below w.heap.size w w' → HeapRel (Far Pb w.heap.size w') μ B0 w' H ∧ Goes Pb μ B0 w H.length (Far Pb w.heap.size w') μ w' H.length := fun {w'} hb => by
    have hsm := same_of_below hb
    refine ⟨hH.same hsm hb.size (fun b h => .inl h) (fun b h => h), fun b h => .inl h, fun _ _ _ h => h, ⟨fun b h => hsm b (hH.pb b h), fun b n ⟨c, ty, fr, h1, h2⟩ => ⟨c, ty, fr, hsm.get h1, h2⟩⟩, hb.mono hH.base, Nat.le_refl _, fun b h => h.imp id And.left⟩
  unfold callA at h
  split at h
  · split at h
    · rename_i hall
      have hv' : RelL Pb noMu w as vs := ⟨hv.1, fun i x v hi hx => rel_tree (List.all_eq_true.1 hall x (List.mem_of_getElem? hi)) (hv.2 i x v hi hx)⟩
      refine (callT_ok hc hs h Pb w vs hH.pb hv' (globRel_mu hG)).mono fun e w' ⟨r, v, h1, h2, h3, h4⟩ => ?_
      obtain ⟨s1, s2⟩ := stays h4
      exact ⟨r, H, v, _, μ, h1, h2, h3.mono (fun _ h => h) (fun o ver b h => by cases h) ⟨fun _ _ => rfl, fun _ _ h => h⟩, s1, s2⟩
    · split at h
      · rename_i as' has
        obtain ⟨m1, m2⟩ := mapO_ok has
        have hv' : RelL (Far Pb B0 w) noMu w as' vs := ⟨by rw [m1]; exact hv.1, fun i x v hi hx => by
          have hil : i < as.length := by have := lt_of_get hi; omega
          have hi' := List.getElem?_eq_getElem hil
          obtain ⟨y, p1, p2⟩ := m2 i _ hi'
          rw [hi] at p1
          simp only [Option.some.injEq] at p1
          subst p1
          exact fzA_ok hH p2 (hv.2 i _ v hi' hx)⟩
        refine (callT_ok hc hs h (Far Pb B0 w) w vs (fun b hb => hb.elim (hH.pb b) And.right) hv' ((globRel_mu hG).mono (fun b h => .inl h) (fun _ _ _ h => h) (Ext.refl ..))).mono fun e w' ⟨r, v, h1, h2, h3, h4⟩ => ?_
        split at h1
        · rename_i u hu
          have := toVal_ok r hu h3
          subst this
          obtain ⟨s1, s2⟩ := stays h4
          exact ⟨_, H, v, _, μ, h1, h2, rel_ofRes .., s1, s2⟩
        · exact h1.elim
      · exact h.elim
  · exact hc _ _ _ _ h Pb μ B0 w vs hv hH hG

theorem aop_ok {call : Caller} (hc : CallOk C call) (hsm : SummOk C) {o : Oper} {k : AV → Heap → Prop} {Q : Exit → Act → World → Prop} (h : aop C call o T H k) (hT : RelL Pb μ w T a.tmps) (hH : HeapRel Pb μ B0 w H) (hG : GlobRel C Pb μ w) :
    o.wp C.P a w (After Pb μ B0 w H a o k) Q := by
  have quiet : qop C o T H (fun v => k v H) → o.wp C.P a w (After Pb μ B0 w H a o k) Q := fun h => wp_of_qop hH (qop_ok h hT hH hG)
  obtain ⟨dst, op, type, pos, after, guard⟩ := o
  cases op
  case alloc t =>
    simp only [aop] at h
    split at h
    · rename_i ti ht
      split at h
      · rename_i z hz
        exact wp_of_hres rfl (alloc_ok ht hz h hH)
      · exact h.elim
    · exact h.elim
  case box t x =>
    simp only [aop] at h
    split at h
    · rename_i ti cs ht hcs
      exact wp_of_hres rfl (box_ok ht (ev_ok hT hG x) hcs h hH)
    · exact h.elim
  case build t parts =>
    simp only [aop] at h
    split at h
    · rename_i ti ht
      obtain ⟨r, v, h1, h2, h3⟩ := build_ok ht h (parts_rel hT hG parts)
      exact wp_of_hres rfl ⟨r, H, v, w, Pb, μ, h1, h3 w (Same.refl w), h2, hH, Goes.refl ..⟩
    · exact h.elim
  case buildSlice t n parts =>
    simp only [aop] at h
    split at h
    · rename_i ti ht
      exact wp_of_hres rfl (buildSlice_ok ht h (parts_rel hT hG parts) hH)
    · exact h.elim
  case store t x y =>
    simp only [aop] at h
    split at h
    · rename_i ti ht
      exact wp_of_skip rfl (storeA_ok ht h (ev_ok hT hG x) (ev_ok hT hG y) hH)
    · exact h.elim
  case makeSlice t l c =>
    simp only [aop] at h
    split at h
    · rename_i ti ht
      exact wp_of_hres rfl (makeSlice_ok ht h (ev_ok hT hG l) (ev_ok hT hG c) hH)
    · exact h.elim
  case makeMap t r =>
    simp only [aop] at h
    split at h
    · exact wp_of_hres rfl (makeMap_ok (C := C) h hH)
    · exact h.elim
  case lookup t x i ok =>
    simp only [aop] at h
    split at h
    · rename_i ti ht
      obtain ⟨r, v, h1, h2, h3⟩ := lookupA_ok ht h (ev_ok hT hG x) (ev_ok hT hG i) hH
      exact wp_of_hres rfl ⟨r, H, v, w, Pb, μ, h1, h3, h2, hH, Goes.refl ..⟩
    · exact h.elim
  case mapUpdate t m key x =>
    simp only [aop] at h
    split at h
    · rename_i ti ht
      exact wp_of_skip rfl (mapUpdateA_ok ht h (ev_ok hT hG m) (ev_ok hT hG key) (ev_ok hT hG x) hH)
    · exact h.elim
  case call c =>
    obtain ⟨callee, args, argTypes⟩ := c
    cases callee
    case builtin b =>
      cases b
      case append =>
        simp only [aop] at h
        split at h
        · rename_i s x st xt hargs hts
          have ha : args = #[s, x] := by rw [← Array.toList_inj]; exact hargs
          have hb : argTypes = #[st, xt] := by rw [← Array.toList_inj]; exact hts
          subst ha; subst hb
          split at h
          · rename_i sti xti hst hxt
            split at h
            · rename_i e hu
              split at h
              · rename_i et hte
                split at h
                · rename_i z hz
                  have hcf := cond_false h; clear h; obtain ⟨hcc, h⟩ := hcf
                  simp only [Bool.and_eq_true, decide_eq_true_eq] at hcc
                  exact wp_of_hres (s := Builtin.append_ #[st, xt] type #[a.eval s, a.eval x]) (by simp [execOp, resolve, invoke, builtin])
                    (append_ok hst hxt hu hte hz hcc.1 hcc.2 h (ev_ok hT hG s) (ev_ok hT hG x) hH)
                · exact h.elim
              · exact h.elim
            · exact h.elim
          · exact h.elim
        · exact h.elim
      all_goals exact quiet h
    case value f =>
      simp only [aop] at h
      split at h
      · rename_i g as htg
        split at h
        · rename_i fn hfn
          have hcf := cond_false h; clear h; obtain ⟨hen, h⟩ := hcf
          obtain ⟨first, cap, hfv, hR⟩ := target_ok htg (ev_ok hT hG f) (relL_map hT hG args)
          unfold Oper.wp
          rw [run_enter rfl hfn hen hfv w]
          simp only [Oper.upon]
          refine (callA_ok hc hsm h hR hH hG).mono fun e w' ⟨r, H', v, Pb', μ', h1, h2, h3, h4, h5⟩ => ?_
          subst h2
          exact ⟨r, H', v, Pb', μ', h1, rfl, h3, h4, h5⟩
        · exact h.elim
      · exact h.elim
    all_goals exact quiet h
  all_goals exact quiet h

theorem wantedA_ok {ops : Array Oper} {o : Oper} {b : Bool} (h : wantedA ops o T = some b) (hT : RelL Pb μ w T a.tmps) : Region.wanted o (yielded ops a.tmps) = b := by
  unfold wantedA at h
  unfold Region.wanted
  cases hg : o.guard with
  | none => rw [hg] at h; simpa using h
  | some jw =>
    obtain ⟨j, want⟩ := jw
    rw [hg] at h
    simp only at h ⊢
    unfold yielded
    cases hd : (ops[j]?).bind (·.dst) with
    | none => rw [hd] at h; simp at h; simp [← h]
    | some d =>
      rw [hd] at h
      simp only [Option.bind_some] at h ⊢
      by_cases hlt : d < a.tmps.size
      · have hv : a.tmps[d]? = some a.tmps[d] := Array.getElem?_eq_getElem hlt
        have hR := hT.getD d
        have hget : a.tmps.getD d undef = a.tmps[d] := by simp [hlt]
        rw [hget] at hR
        rw [hv]
        split at h
        · rename_i b' he
          rw [he] at hR
          have := hR.sc_eq
          simp only [Option.some.injEq] at h
          rw [this, ← h]
          cases b' <;> cases want <;> rfl
        · cases h
        · rename_i hnb hna
          simp only [Option.some.injEq] at h
          subst h
          generalize hx : T.getD d undefA = x at *
          generalize a.tmps[d] = v at *
          cases hR with
          | tc c v hR =>
            cases hR with
            | sc v => cases v <;> first | rfl | exact absurd rfl (hnb _)
            | nil => rfl
            | sl => rfl
          | any => exact absurd rfl hna
          | agg => rfl
          | tuple => rfl
          | ptr => rfl
          | vptr => rfl
          | slice => rfl
          | map => rfl
          | func => rfl
      · have hv : a.tmps[d]? = none := Array.getElem?_eq_none (Nat.le_of_not_lt hlt)
        have hT' : T.getD d undefA = undefA := by
          have hle : T.length ≤ d := by rw [show T.length = a.tmps.size from hT.1]; exact Nat.le_of_not_lt hlt
          simp [List.getD, List.getElem?_eq_none hle]
        rw [hT'] at h
        simp only [undefA, Option.some.injEq] at h
        rw [hv, ← h]
        rfl
end
end Go.Proofs.Ytkcnilnagppaiaa
