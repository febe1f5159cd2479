/- Code: what the evaluator tells of it holds. -/
import Derived.Test.YtgpijioodocplaaSyCall
import Derived.Tactics
import Derived.Deep.Quiet
set_option linter.unusedVariables false
set_option linter.unusedSectionVars false
set_option linter.unusedSimpArgs false
namespace Go.Proofs.Ytgpijioodocplaa
open Go Go.RowKit
variable [Obs]

section
variable {C : Ctx} {Pb : Nat → Prop} {μ : Mu} {B0 : Nat} {w : World} {T : Look} {H : Heap} {a : Act}

theorem relL_append {l1 l2 : List AV} {v1 v2 : Array Value} (h1 : RelL Pb μ w l1 v1) (h2 : RelL Pb μ w l2 v2) : RelL Pb μ w (l1 ++ l2) (v1 ++ v2) := by
  refine ⟨by rw [List.length_append, Array.size_append, h1.1, h2.1], fun i x v hi hv => ?_⟩
  rcases Nat.lt_or_ge i l1.length with h | h
  · rw [List.getElem?_append_left h] at hi
    rw [Array.getElem?_append_left (by rw [← h1.1]; exact h)] at hv
    exact h1.2 i x v hi hv
  · rw [List.getElem?_append_right h] at hi
    rw [Array.getElem?_append_right (by rw [← h1.1]; exact h), ← h1.1] at hv
    exact h2.2 _ x v hi hv

theorem target_ok {f : AV} {fv : Value} {args as : List AV} {argv : Array Value} {g : FuncId} (h : target f args = some (g, as)) (hf : Rel Pb μ w f fv) (ha : RelL Pb μ w args argv) :
    ∃ first cap, fv = .func (.func g) first cap ∧ RelL Pb μ w as (first ++ argv ++ cap) := by
  unfold target at h
  split at h
  · simp only [Option.some.injEq, Prod.mk.injEq] at h
    obtain ⟨rfl, rfl⟩ := h
    obtain rfl := hf.sc_eq
    exact ⟨_, _, rfl, relL_append (relL_append (rel_scs ..) ha) (rel_scs ..)⟩
  · simp only [Option.some.injEq, Prod.mk.injEq] at h
    obtain ⟨rfl, rfl⟩ := h
    cases hf with
    | func _ _ _ vf vc h1 h2 h3 h4 => exact ⟨_, _, rfl, relL_append (relL_append ⟨h1, h3⟩ ha) ⟨h2, h4⟩⟩
  · cases h

theorem run_enter {P : Program} {g : FuncId} {fn : Func} {o : Oper} {f : Operand} {args : Array Operand} {ats : Array TypeId} {first cap : Array Value} (hop : o.op = .call { callee := .value f, args := args, argTypes := ats })
    (hfn : P.funcs[g]? = some fn) (he : entered fn = true) (hf : a.eval f = .func (.func g) first cap) (w : World) : (execOp a.eval o).run P w = .ok (.enter g (first ++ args.map a.eval ++ cap)) w := by
  obtain ⟨dst, op, type, pos, after, guard⟩ := o
  simp only at hop
  subst hop
  simp only [entered, Bool.and_eq_true, Bool.not_eq_true'] at he
  obtain ⟨h1, h2⟩ := he
  have h3 : fn.body.isNone = false := by cases hb : fn.body <;> simp_all
  simp only [execOp, resolve, hf, Deferred.ofValue, Sem.run_bind, Sem.run_pure, Result.andThen, invoke, callFunc, run_program, hfn, h2, h3]
  rfl

theorem idxB_eq : ∀ (l : List UInt8) (c : UInt8) (n : Nat), idxB l c n = if Go.Lib.indexByte l c = -1 then -1 else Go.Lib.indexByte l c + n
  | [], c, n => rfl
  | b :: l, c, n => by
    have ih := idxB_eq l c (n + 1)
    have hge := Go.Lib.indexByte_ge l c
    simp only [idxB, Go.Lib.indexByte]
    by_cases hb : (b == c) = true
    · simp [hb]
    · have hb' : (b == c) = false := by simpa using hb
      simp only [hb', _root_.cond_false, ih, Bool.false_eq_true, if_false, beq_iff_eq]
      by_cases h : Go.Lib.indexByte l c = -1
      · simp [h]
      · rw [if_neg h, if_neg h, if_neg (by omega)]; omega

theorem isIdx_ok {fn : Func} (h : isIdx fn = true) : fn.body.isNone = true ∧ fn.name = "internal/bytealg.IndexByteString" ∧ fn.origin = "" := by
  simpa [isIdx, Bool.and_eq_true, and_assoc] using h

theorem find_idx {fn : Func} (h1 : fn.name = "internal/bytealg.IndexByteString") (h2 : fn.origin = "") : Extern.findNext fn = none ∧ Extern.find fn = some Extern.BytealgIndexByte.indexByte := by
  constructor
  · unfold Extern.findNext
    rw [h1, h2]
    rfl
  · unfold Extern.find
    rw [h1, h2]
    rfl

theorem run_extern {P : Program} {g : FuncId} {fn : Func} {o : Oper} {f : Operand} {args : Array Operand} {ats : Array TypeId} {first cap : Array Value} {v : Value} {w : World} (hop : o.op = .call { callee := .value f, args := args, argTypes := ats })
    (he : isIdx fn = true) (hfn : P.funcs[g]? = some fn) (hf : a.eval f = .func (.func g) first cap) (hr : (Extern.BytealgIndexByte.indexByte (first ++ args.map a.eval ++ cap)).run P w = .ok v w) : (execOp a.eval o).run P w = .ok (.value v) w := by
  obtain ⟨dst, op, type, pos, after, guard⟩ := o
  simp only at hop
  subst hop
  obtain ⟨h1, h2, h3⟩ := isIdx_ok he
  have h4 : (fn.name == "runtime.NumGoroutine") = false := by rw [h2]; rfl
  obtain ⟨h5, h6⟩ := find_idx h2 h3
  simp only [execOp, resolve, hf, Deferred.ofValue, Sem.run_bind, Sem.run_pure, Result.andThen, invoke, callFunc, run_program, hfn, h4, h1, h5, h6, Bool.false_eq_true, if_false, if_true]
  simp only [mark, Sem.run, Sem.run_bind, Result.andThen, hr, Sem.run_pure]

theorem extern_ok {g : FuncId} {fn : Func} {as : List AV} {vs : Array Value} {k : AV → Out} (he : isIdx fn = true) (hfn : C.P.funcs[g]? = some fn) (h : externA as k) (hv : RelL Pb μ w as vs) :
    ∃ r v, k r ∧ Rel Pb μ w r v ∧ ∀ w', (Extern.BytealgIndexByte.indexByte vs).run C.P w' = .ok v w' := by
  unfold externA at h
  split at h
  · rename_i x y
    obtain ⟨u, v, rfl⟩ : ∃ u v, vs = #[u, v] := by
      have h2 : vs.toList.length = 2 := by rw [Array.length_toList, ← hv.1]; rfl
      match hl : vs.toList, h2 with
      | [u, v], _ => exact ⟨u, v, by rw [← Array.toList_inj, hl]⟩
    have hx := hv.2 0 x u rfl rfl
    have hy := hv.2 1 y v rfl rfl
    split at h
    · rename_i s n h1 h2
      obtain rfl := asSx_ok h1 hx
      obtain rfl := asSx_ok h2 hy
      refine ⟨_, _, h, Rel.of_sc .., fun w' => ?_⟩
      simp only [STy.val, den]
      rw [Go.Lib.run_indexByteString, idxB_eq]
      congr 2
      have := Go.Lib.indexByte_ge s.data.toList n.toNat.toUInt8
      split <;> omega
    · rename_i a b _ h1 h2
      obtain rfl := asSx_ok h1 hx
      obtain rfl := asSx_ok h2 hy
      refine ⟨_, _, h, Rel.of_sy .., fun w' => ?_⟩
      simp only [STy.val, den]
      rw [Go.Lib.run_indexByteString]
    · exact h.elim
  · exact h.elim

/-- What is told of an operation, whatever becomes of it. -/
def After (Pb : Nat → Prop) (μ : Mu) (B0 : Nat) (w : World) (H : Heap) (a : Act) (o : Oper) (k : AV → Heap → Out) (a' : Act) (w' : World) : Prop :=
  ∃ r H' v Pb' μ', k r H' ∧ a' = a.put o.dst v ∧ Rel Pb' μ' w' r v ∧ HeapRel Pb' μ' B0 w' H' ∧ Goes Pb μ B0 w H.length Pb' μ' w' H'.length

theorem wp_of_hres {o : Oper} {k : AV → Heap → Out} {s : Sem Value} {Q : Exit → Act → World → Prop} (he : execOp a.eval o = (do pure (.value (← s)))) (h : HRes C Pb μ B0 w H k s) :
    o.wp C.P a w (After Pb μ B0 w H a o k) Q := by
  obtain ⟨r, H', v, w', Pb', μ', h1, h2, h3, h4, h5⟩ := h
  unfold Oper.wp
  rw [he]
  simp only [Sem.run_bind, h2, Result.andThen, Sem.run_pure, Oper.upon]
  exact ⟨r, H', v, Pb', μ', h1, rfl, h3, h4, h5⟩

theorem wp_of_skip {o : Oper} {k : AV → Heap → Out} {s : Sem Unit} {Q : Exit → Act → World → Prop} (he : execOp a.eval o = (do s; pure .skip))
    (h : ∃ H' w' Pb' μ', k undefA H' ∧ s.run C.P w = .ok () w' ∧ HeapRel Pb' μ' B0 w' H' ∧ Goes Pb μ B0 w H.length Pb' μ' w' H'.length) : o.wp C.P a w (After Pb μ B0 w H a o k) Q := by
  obtain ⟨H', w', Pb', μ', h1, h2, h4, h5⟩ := h
  unfold Oper.wp
  rw [he]
  simp only [Sem.run_bind, h2, Result.andThen, Sem.run_pure, Oper.upon]
  exact ⟨undefA, H', undef, Pb', μ', h1, rfl, Rel.of_sc .., h4, h5⟩

theorem wp_of_qop {o : Oper} {k : AV → Heap → Out} {Q : Exit → Act → World → Prop} (hH : HeapRel Pb μ B0 w H) (h : QOp C Pb μ w a o fun r => k r H) : o.wp C.P a w (After Pb μ B0 w H a o k) Q := by
  obtain ⟨r, v, h1, h2, h3⟩ := h
  unfold Oper.wp
  rw [h3 w (Same.refl w)]
  exact ⟨r, H, v, Pb, μ, h1, rfl, h2, hH, Goes.refl ..⟩

theorem HeapRel.same {Pb' : Nat → Prop} {w' : World} (hH : HeapRel Pb μ B0 w H) (hs : Same w w') (hsz : w.heap.size ≤ w'.heap.size) (hp : ∀ b, Pb b → Pb' b) (hn : ∀ b, Pb' b → Pb b ∨ (w.heap.size ≤ b ∧ b < w'.heap.size)) :
    HeapRel Pb' μ B0 w' H := by
  have hext : Ext Pb w w' := ⟨fun b hb => hs b (hH.pb b hb), fun b n ⟨c, ty, fr, h1, h2⟩ => ⟨c, ty, fr, hs.get h1, h2⟩⟩
  refine ⟨hH.dom, fun o obj ho => (hH.obj o obj ho).mono hp (fun _ _ _ h => h) hext fun b hb => ?_, hH.inj, fun b hb => ?_, Nat.le_trans hH.base hsz⟩
  · obtain ⟨b', h1, h2, h3, h4⟩ := (hH.obj o obj ho).block
    rw [hb] at h1
    simp only [Option.some.injEq] at h1
    subst h1
    refine ⟨fun hp' => ?_, hs b h4⟩
    rcases hn b hp' with h | h
    · exact h3 h
    · omega
  · rcases hn b hb with h | h
    · exact Nat.lt_of_lt_of_le (hH.pb b h) hsz
    · exact h.2

/-- What a world that goes on above B says of one that went on below it. -/
theorem same_of_below {w' : World} (h : Below w.heap.size w w') : Same w w' := fun b hb => h.block b hb

mutual
theorem flatA_rel {Pb Pb' : Nat → Prop} {μ μ' : Mu} {w w' : World} : ∀ (r : AV) {v : Value}, flatA r = true → Rel Pb μ w r v → Rel Pb' μ' w' r v
  | .tc (.sc u), v, _, h => by rw [h.sc_eq]; exact Rel.of_sc ..
  | .tc (.sy t e), v, _, h => by cases h with | tc _ _ h => cases h; exact Rel.of_sy ..
  | .tc (.sl _ _), _, h, _ => by simp [flatA] at h
  | .agg cs, v, hf, h => by
    cases h with
    | agg _ vs hl hh =>
      exact .agg _ _ hl fun i x u hi hu => flatAs_rel cs (vs := vs) (by simpa [flatA] using hf) hh i x u hi hu
  | .tuple cs, v, hf, h => by
    cases h with
    | tuple _ vs hl hh =>
      exact .tuple _ _ hl fun i x u hi hu => flatAs_rel cs (vs := vs) (by simpa [flatA] using hf) hh i x u hi hu
  | .any, _, h, _ => by simp [flatA] at h
  | .ptr .., _, h, _ => by simp [flatA] at h
  | .vptr .., _, h, _ => by simp [flatA] at h
  | .slice .., _, h, _ => by simp [flatA] at h
  | .map _, _, h, _ => by simp [flatA] at h
  | .func .., _, h, _ => by simp [flatA] at h
theorem flatAs_rel {Pb Pb' : Nat → Prop} {μ μ' : Mu} {w w' : World} : ∀ (cs : List AV) {vs : Array Value}, flatA.flatAs cs = true →
    (∀ (i : Nat) (a : AV) (v : Value), cs[i]? = some a → vs[i]? = some v → Rel Pb μ w a v) → ∀ (i : Nat) (a : AV) (v : Value), cs[i]? = some a → vs[i]? = some v → Rel Pb' μ' w' a v
  | [], _, _, _ => fun i a v hi => by simp at hi
  | a :: r, vs, hf, hh => fun i x v hi hv => by
    simp only [flatA.flatAs, Bool.and_eq_true] at hf
    cases i with
    | zero =>
      simp only [List.getElem?_cons_zero, Option.some.injEq] at hi
      subst hi
      exact flatA_rel a hf.1 (hh 0 a v rfl hv)
    | succ i =>
      refine flatAs_rel r (vs := vs.extract 1 vs.size) hf.2 (fun j y u hj hu => hh (j + 1) y u (by simpa using hj) ?_) i x v (by simpa using hi) ?_
      · rw [Array.getElem?_extract] at hu
        split at hu
        · rw [Nat.add_comm]; exact hu
        · cases hu
      · rw [Array.getElem?_extract]
        have hlt : i + 1 < vs.size := by
          rcases Nat.lt_or_ge (i + 1) vs.size with h | h
          · exact h
          · simp [Array.getElem?_eq_none h] at hv
        rw [if_pos (by omega), Nat.add_comm]; exact hv
end

mutual
/-- The value of what is made of scalars alone. -/
def valA : AV → Value
  | .tc (.sc u) => u
  | .tc (.sy t e) => t.val (dv e)
  | .agg cs => .agg (valAs cs).toArray
  | .tuple cs => .tuple (valAs cs).toArray
  | _ => undef
def valAs : List AV → List Value
  | [] => []
  | a :: r => valA a :: valAs r
end

theorem valAs_get : ∀ (cs : List AV) (i : Nat), (valAs cs)[i]? = cs[i]?.map valA
  | [], i => by simp [valAs]
  | a :: r, 0 => by simp [valAs]
  | a :: r, i + 1 => by simp [valAs, valAs_get r i]

theorem valAs_len : ∀ (cs : List AV), (valAs cs).length = cs.length
  | [] => rfl
  | a :: r => by simp [valAs, valAs_len r]

mutual
theorem flatA_eq : ∀ (r : AV) {v : Value}, flatA r = true → Rel Pb μ w r v → v = valA r
  | .tc (.sc u), v, _, h => h.sc_eq
  | .tc (.sy t e), v, _, h => by cases h with | tc _ _ h => cases h; rfl
  | .tc (.sl _ _), _, h, _ => by simp [flatA] at h
  | .agg cs, v, hf, h => by
    cases h with
    | agg _ vs hl hh =>
      rw [valA, ← flatAs_eq cs (vs := vs.toList) (by simpa [flatA] using hf) (by simpa using hl) fun i x u hi hu => hh i x u hi (by simpa using hu)]
  | .tuple cs, v, hf, h => by
    cases h with
    | tuple _ vs hl hh =>
      rw [valA, ← flatAs_eq cs (vs := vs.toList) (by simpa [flatA] using hf) (by simpa using hl) fun i x u hi hu => hh i x u hi (by simpa using hu)]
  | .any, _, h, _ => by simp [flatA] at h
  | .ptr .., _, h, _ => by simp [flatA] at h
  | .vptr .., _, h, _ => by simp [flatA] at h
  | .slice .., _, h, _ => by simp [flatA] at h
  | .map _, _, h, _ => by simp [flatA] at h
  | .func .., _, h, _ => by simp [flatA] at h
theorem flatAs_eq : ∀ (cs : List AV) {vs : List Value}, flatA.flatAs cs = true → cs.length = vs.length →
    (∀ (i : Nat) (a : AV) (v : Value), cs[i]? = some a → vs[i]? = some v → Rel Pb μ w a v) → vs = valAs cs
  | [], vs, _, hl, _ => List.length_eq_zero_iff.1 hl.symm
  | a :: r, vs, hf, hl, hh => by
    cases vs with
    | nil => simp at hl
    | cons v vs =>
      simp only [flatA.flatAs, Bool.and_eq_true] at hf
      rw [valAs, ← flatA_eq a hf.1 (hh 0 a v rfl rfl), ← flatAs_eq r (vs := vs) hf.2 (by simpa using hl) fun i x u hi hu => hh (i + 1) x u (by simpa using hi) (by simpa using hu)]
end

mutual
theorem flatA_val : ∀ (r : AV), flatA r = true → Rel Pb μ w r (valA r)
  | .tc (.sc u), _ => Rel.of_sc ..
  | .tc (.sy t e), _ => Rel.of_sy ..
  | .tc (.sl _ _), h => by simp [flatA] at h
  | .agg cs, hf => .agg _ _ (by simp [valAs_len]) fun i x u hi hu => flatAs_val cs (by simpa [flatA] using hf) i x u hi (by simpa using hu)
  | .tuple cs, hf => .tuple _ _ (by simp [valAs_len]) fun i x u hi hu => flatAs_val cs (by simpa [flatA] using hf) i x u hi (by simpa using hu)
  | .any, h => by simp [flatA] at h
  | .ptr .., h => by simp [flatA] at h
  | .vptr .., h => by simp [flatA] at h
  | .slice .., h => by simp [flatA] at h
  | .map _, h => by simp [flatA] at h
  | .func .., h => by simp [flatA] at h
theorem flatAs_val : ∀ (cs : List AV), flatA.flatAs cs = true → ∀ (i : Nat) (a : AV) (v : Value), cs[i]? = some a → (valAs cs)[i]? = some v → Rel Pb μ w a v
  | [], _ => fun i a v hi => by simp at hi
  | a :: r, hf => fun i x v hi hv => by
    simp only [flatA.flatAs, Bool.and_eq_true] at hf
    cases i with
    | zero =>
      simp only [List.getElem?_cons_zero, Option.some.injEq, valAs] at hi hv
      subst hi; subst hv
      exact flatA_val a hf.1
    | succ i => exact flatAs_val r hf.2 i x v (by simpa using hi) (by simpa [valAs] using hv)
end

theorem callA_ok {call : Caller} (hc : CallOk C call) (hs : SummOk C) {g : FuncId} {as : List AV} {vs : Array Value} {k : AV → Heap → Out} (h : callA C call g as H k) (hv : RelL Pb μ w as vs) (hH : HeapRel Pb μ B0 w H)
    (hG : GlobRel C Pb μ w) : Calls C.P g vs w fun e w' => ∃ r H' v Pb' μ', k r H' ∧ e = .returned v ∧ Rel Pb' μ' w' r v ∧ HeapRel Pb' μ' B0 w' H' ∧ Goes Pb μ B0 w H.length Pb' μ' w' H'.length := by
  have farw : ∀ {w' : World}, Below w.heap.size w w' → ∀ b, Far Pb w.heap.size w' b → Pb b ∨ (w.heap.size ≤ b ∧ b < w'.heap.size) := fun _ b hb => hb
  have stays : ∀ {w' : World}, Below w.heap.size w w' → HeapRel (Far Pb w.heap.size w') μ B0 w' H ∧ Goes Pb μ B0 w H.length (Far Pb w.heap.size w') μ w' H.length := fun {w'} hb => by
    have hsm := same_of_below hb
    refine ⟨hH.same hsm hb.size (fun b h => .inl h) (fun b h => h), fun b h => .inl h, fun _ _ _ h => h, ⟨fun b h => hsm b (hH.pb b h), fun b n ⟨c, ty, fr, h1, h2⟩ => ⟨c, ty, fr, hsm.get h1, h2⟩⟩, hb.mono hH.base, Nat.le_refl _, fun b h => h.imp id And.left⟩
  unfold callA at h
  split at h
  · split at h
    · rename_i hall
      have hv' : RelL Pb noMu w as vs := ⟨hv.1, fun i x v hi hx => rel_tree (List.all_eq_true.1 hall x (List.mem_of_getElem? hi)) (hv.2 i x v hi hx)⟩
      refine (callT_ok hc hs h Pb w vs hH.pb hv' (globRel_mu hG)).mono fun e w' ⟨r, v, h1, h2, h3, h4⟩ => ?_
      obtain ⟨s1, s2⟩ := stays h4
      exact ⟨r, H, v, _, μ, h1, h2, h3.mono (fun _ h => h) (fun o ver b h => by cases h) ⟨fun _ _ => rfl, fun _ _ h => h⟩, s1, s2⟩
    · by_cases hflt : C.flat g = true
      case neg =>
        simp only [Bool.not_eq_true] at hflt
        rw [hflt, _root_.cond_false] at h
        exact hc _ _ _ _ h Pb μ B0 w vs hv hH hG
      rw [hflt, _root_.cond_true] at h
      split at h
      · rename_i as' has
        obtain ⟨m1, m2⟩ := mapO_ok has
        have hv' : RelL (Far Pb B0 w) noMu w as' vs := ⟨by rw [m1]; exact hv.1, fun i x v hi hx => by
          have hil : i < as.length := by have := lt_of_get hi; omega
          have hi' := List.getElem?_eq_getElem hil
          obtain ⟨y, p1, p2⟩ := m2 i _ hi'
          rw [hi] at p1
          simp only [Option.some.injEq] at p1
          subst p1
          exact fzA_ok hH p2 (hv.2 i _ v hi' hx)⟩
        refine (callT_ok hc hs h (Far Pb B0 w) w vs (fun b hb => hb.elim (hH.pb b) And.right) hv' ((globRel_mu hG).mono (fun b h => .inl h) (fun _ _ _ h => h) (Ext.refl ..))).mono fun e w' ⟨r, v, h1, h2, h3, h4⟩ => ?_
        obtain ⟨hfl, h1'⟩ := cond_false h1
        obtain ⟨s1, s2⟩ := stays h4
        exact ⟨_, H, v, _, μ, h1', h2, flatA_rel r hfl h3, s1, s2⟩
      · exact h.elim
  · exact hc _ _ _ _ h Pb μ B0 w vs hv hH hG

theorem aop_ok {call : Caller} (hc : CallOk C call) (hsm : SummOk C) {o : Oper} {k : AV → Heap → Out} {Q : Exit → Act → World → Prop} (h : aop C call o T H k) (hT : RelF Pb μ w T a.tmps) (hH : HeapRel Pb μ B0 w H) (hG : GlobRel C Pb μ w) :
    o.wp C.P a w (After Pb μ B0 w H a o k) Q := by
  have quiet : qop C o T H (fun v => k v H) → o.wp C.P a w (After Pb μ B0 w H a o k) Q := fun h => wp_of_qop hH (qop_ok h hT hH hG)
  obtain ⟨dst, op, type, pos, after, guard⟩ := o
  cases op
  case alloc t =>
    simp only [aop] at h
    split at h
    · rename_i ti ht
      split at h
      · rename_i z hz
        exact wp_of_hres rfl (alloc_ok ht hz h hH)
      · exact h.elim
    · exact h.elim
  case box t x =>
    simp only [aop] at h
    split at h
    · rename_i ti cs ht hcs
      exact wp_of_hres rfl (box_ok ht (ev_ok hT hG x) hcs h hH)
    · exact h.elim
  case build t parts =>
    simp only [aop] at h
    split at h
    · rename_i ti ht
      obtain ⟨r, v, h1, h2, h3⟩ := build_ok ht h (parts_rel hT hG parts)
      exact wp_of_hres rfl ⟨r, H, v, w, Pb, μ, h1, h3 w (Same.refl w), h2, hH, Goes.refl ..⟩
    · exact h.elim
  case buildSlice t n parts =>
    simp only [aop] at h
    split at h
    · rename_i ti ht
      exact wp_of_hres rfl (buildSlice_ok ht h (parts_rel hT hG parts) hH)
    · exact h.elim
  case store t x y =>
    simp only [aop] at h
    split at h
    · rename_i ti ht
      exact wp_of_skip rfl (storeA_ok ht h (ev_ok hT hG x) (ev_ok hT hG y) hH)
    · exact h.elim
  case makeSlice t l c =>
    simp only [aop] at h
    split at h
    · rename_i ti ht
      exact wp_of_hres rfl (makeSlice_ok ht h (ev_ok hT hG l) (ev_ok hT hG c) hH)
    · exact h.elim
  case makeMap t r =>
    simp only [aop] at h
    split at h
    · exact wp_of_hres rfl (makeMap_ok (C := C) h hH)
    · exact h.elim
  case lookup t x i ok =>
    simp only [aop] at h
    split at h
    · rename_i ti ht
      obtain ⟨r, v, h1, h2, h3⟩ := lookupA_ok ht h (ev_ok hT hG x) (ev_ok hT hG i) hH
      exact wp_of_hres rfl ⟨r, H, v, w, Pb, μ, h1, h3, h2, hH, Goes.refl ..⟩
    · exact h.elim
  case mapUpdate t m key x =>
    simp only [aop] at h
    split at h
    · rename_i ti ht
      exact wp_of_skip rfl (mapUpdateA_ok ht h (ev_ok hT hG m) (ev_ok hT hG key) (ev_ok hT hG x) hH)
    · exact h.elim
  case insert t m key x =>
    simp only [aop] at h
    split at h
    · rename_i ti ht
      exact wp_of_skip rfl (mapUpdateA_ok ht h (ev_ok hT hG m) (ev_ok hT hG key) (ev_ok hT hG x) hH)
    · exact h.elim
  case call c =>
    obtain ⟨callee, args, argTypes⟩ := c
    cases callee
    case builtin b =>
      cases b
      case append =>
        simp only [aop] at h
        split at h
        · rename_i s x st xt hargs hts
          have ha : args = #[s, x] := by rw [← Array.toList_inj]; exact hargs
          have hb : argTypes = #[st, xt] := by rw [← Array.toList_inj]; exact hts
          subst ha; subst hb
          split at h
          · rename_i sti xti hst hxt
            split at h
            · rename_i e hu
              split at h
              · rename_i et hte
                split at h
                · rename_i z hz
                  have hcf := cond_false h; clear h; obtain ⟨hcc, h⟩ := hcf
                  simp only [Bool.and_eq_true, decide_eq_true_eq] at hcc
                  exact wp_of_hres (s := Builtin.append_ #[st, xt] type #[a.eval s, a.eval x]) (by simp [execOp, resolve, invoke, builtin])
                    (append_ok hst hxt hu hte hz hcc.1 hcc.2 h (ev_ok hT hG s) (ev_ok hT hG x) hH)
                · exact h.elim
              · exact h.elim
            · exact h.elim
          · exact h.elim
        · exact h.elim
      all_goals exact quiet h
    case value f =>
      simp only [aop] at h
      split at h
      · rename_i g as htg
        split at h
        · rename_i fn hfn
          obtain ⟨first, cap, hfv, hR⟩ := target_ok htg (ev_ok hT hG f) (relL_map hT hG args)
          rcases cond_split h with ⟨hen, h⟩ | ⟨_, h⟩
          case inr =>
            obtain ⟨hix, h⟩ := cond_false h
            obtain ⟨r, v, h1, h2, h3⟩ := extern_ok hix hfn h hR
            unfold Oper.wp
            rw [run_extern rfl hix hfn hfv (h3 w)]
            exact ⟨r, H, v, Pb, μ, h1, rfl, h2, hH, Goes.refl ..⟩
          unfold Oper.wp
          rw [run_enter rfl hfn hen hfv w]
          simp only [Oper.upon]
          refine (callA_ok hc hsm h hR hH hG).mono fun e w' ⟨r, H', v, Pb', μ', h1, h2, h3, h4, h5⟩ => ?_
          subst h2
          exact ⟨r, H', v, Pb', μ', h1, rfl, h3, h4, h5⟩
        · exact h.elim
      · exact h.elim
    all_goals exact quiet h
  all_goals exact quiet h

theorem wantedA_ok {ops : Array Oper} {o : Oper} {g : AV × Bool} (h : wantedA ops o T = some g) (hT : RelF Pb μ w T a.tmps) :
    ∃ v, Rel Pb μ w g.1 v ∧ ∀ b, v = .bool b → Region.wanted o (yielded ops a.tmps) = (b == g.2) := by
  unfold wantedA at h
  unfold Region.wanted
  cases hg : o.guard with
  | none =>
    rw [hg] at h
    simp only [Option.some.injEq] at h
    subst h
    exact ⟨.bool true, Rel.of_sc .., fun b hb => by cases hb; rfl⟩
  | some jw =>
    obtain ⟨j, want⟩ := jw
    rw [hg] at h
    simp only at h ⊢
    unfold yielded
    cases hd : (ops[j]?).bind (·.dst) with
    | none =>
      rw [hd] at h
      simp only [Option.some.injEq] at h
      subst h
      exact ⟨.bool false, Rel.of_sc .., fun b hb => by cases hb; rfl⟩
    | some d =>
      rw [hd] at h
      simp only [Option.bind_some] at h ⊢
      by_cases hlt : d < a.tmps.size
      · have hv : a.tmps[d]? = some a.tmps[d] := Array.getElem?_eq_getElem hlt
        have hR := hT d
        have hget : a.tmps.getD d undef = a.tmps[d] := by simp [hlt]
        rw [hget] at hR
        rw [hv]
        split at h
        · rename_i b' he
          rw [he] at hR
          have := hR.sc_eq
          simp only [Option.some.injEq] at h
          subst h
          exact ⟨_, Rel.of_sc .., fun b hb => by cases hb; rw [this]; cases b' <;> cases want <;> rfl⟩
        · rename_i e he
          rw [he] at hR
          simp only [Option.some.injEq] at h
          subst h
          exact ⟨_, hR, fun b hb => by rw [hb]; cases b <;> cases want <;> rfl⟩
        · cases h
        · rename_i hnb hns hna
          simp only [Option.some.injEq] at h
          subst h
          refine ⟨.bool false, Rel.of_sc .., fun b hb => ?_⟩
          cases hb
          generalize hx : T d = x at *
          generalize a.tmps[d] = v at *
          cases hR with
          | tc c v hR =>
            cases hR with
            | sc v => cases v <;> first | rfl | exact absurd rfl (hnb _)
            | sy t e => cases t <;> first | rfl | exact absurd rfl (hns _)
            | nil => rfl
            | sl => rfl
          | any => exact absurd rfl hna
          | agg => rfl
          | tuple => rfl
          | ptr => rfl
          | vptr => rfl
          | slice => rfl
          | map => rfl
          | func => rfl
      · have hv : a.tmps[d]? = none := Array.getElem?_eq_none (Nat.le_of_not_lt hlt)
        have hR := hT d
        have hget : a.tmps.getD d undef = undef := by simp [hlt]
        rw [hget] at hR
        rw [hv]
        split at h
        · rename_i b' he
          rw [he] at hR
          have := hR.sc_eq
          cases this
        · rename_i e he
          rw [he] at hR
          generalize hu : undef = u at hR
          cases hR with
          | tc _ _ hR => cases hR; cases hu
        · cases h
        · simp only [Option.some.injEq] at h
          subst h
          exact ⟨.bool false, Rel.of_sc .., fun b hb => by cases hb; rfl⟩

theorem guardA_ok {ops : Array Oper} {o : Oper} {g : AV × Bool} {yes no : Out} (h : wantedA ops o T = some g) (hT : RelF Pb μ w T a.tmps) (hg : Ok (guardA g yes no)) :
    (Region.wanted o (yielded ops a.tmps) = true ∧ yes) ∨ (Region.wanted o (yielded ops a.tmps) = false ∧ no) := by
  obtain ⟨v, hv, hw⟩ := wantedA_ok h hT
  obtain ⟨c, want⟩ := g
  cases want with
  | true =>
    rcases condA_ok hg hv with ⟨rfl, hy⟩ | ⟨rfl, hy⟩
    · exact .inl ⟨hw _ rfl, hy⟩
    · exact .inr ⟨hw _ rfl, hy⟩
  | false =>
    rcases condA_ok hg hv with ⟨rfl, hy⟩ | ⟨rfl, hy⟩
    · exact .inr ⟨hw _ rfl, hy⟩
    · exact .inl ⟨hw _ rfl, hy⟩
end
end Go.Proofs.Ytgpijioodocplaa
