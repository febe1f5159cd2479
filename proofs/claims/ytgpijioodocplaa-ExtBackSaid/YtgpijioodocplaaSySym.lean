/- Operations of scalars that are known by an expression: what the evaluator tells of them holds. -/
import Derived.Test.YtgpijioodocplaaSyRel
import Derived.Laws.Entries
import Derived.Orders
set_option linter.unusedVariables false
set_option linter.unusedSectionVars false
set_option linter.unusedSimpArgs false
namespace Go.Proofs.Ytgpijioodocplaa
open Go Go.RowKit
variable [Obs]

theorem mapO_ok {α β : Type} {f : α → Option β} : ∀ {l : List α} {r : List β}, mapO f l = some r →
    r.length = l.length ∧ ∀ (i : Nat) (x : α), l[i]? = some x → ∃ y, r[i]? = some y ∧ f x = some y
  | [], r, h => by simp only [mapO, Option.some.injEq] at h; subst h; exact ⟨rfl, fun i x hi => by simp at hi⟩
  | a :: l, r, h => by
    simp only [mapO] at h
    split at h
    · rename_i b l' hb hl
      simp only [Option.some.injEq] at h
      subst h
      obtain ⟨h1, h2⟩ := mapO_ok hl
      refine ⟨by simp [h1], fun i x hi => ?_⟩
      cases i with
      | zero => simp only [List.getElem?_cons_zero, Option.some.injEq] at hi; subst hi; exact ⟨b, rfl, hb⟩
      | succ i => exact h2 i x (by simpa using hi)
    · simp at h

theorem mapO_mem {α β : Type} {f : α → Option β} {l : List α} {r : List β} (h : mapO f l = some r) (x : α) (hx : x ∈ l) : ∃ y, f x = some y := by
  obtain ⟨i, hi⟩ := List.mem_iff_getElem?.1 hx
  obtain ⟨y, _, hy⟩ := (mapO_ok h).2 i x hi
  exact ⟨y, hy⟩

theorem pureRun_ok {α : Type} {P : Program} (s : Sem α) {x : α} (h : pureRun P s = some x) (w : World) : s.run P w = .ok x w := by
  induction s with
  | pure a => simp only [pureRun, Option.some.injEq] at h; subst h; rfl
  | program k ih => simp only [pureRun] at h; simp only [Sem.run]; exact ih P h
  | mark m k ih => simp only [pureRun] at h; simp only [Sem.run]; exact ih h
  | _ => simp [pureRun] at h

def GlobRel (C : Ctx) (Pb : Nat → Prop) (μ : Mu) (w : World) : Prop :=
  ∀ (ob : Obs) g s el, C.glob g = some (s, el) → @Rel ob Pb μ w (.vptr s el 0 0) (.pointer (some ⟨g, 0, none⟩))

section
variable {C : Ctx} {Pb : Nat → Prop} {μ : Mu} {B0 : Nat} {w : World} {T : Look} {H : Heap} {a : Act}

theorem ev_ok (hT : RelF Pb μ w T a.tmps) (hG : GlobRel C Pb μ w) (x : Operand) : Rel Pb μ w (ev C T x) (a.eval x) := by
  cases x with
  | tmp t => exact hT t
  | const v => exact rel_ofVal ..
  | global g =>
    simp only [ev, Act.eval]
    split
    · rename_i s el h; exact hG _ g s el h
    · exact .any _
  | func f => exact Rel.of_sc ..

theorem tinfo_ok {t : TypeId} {ti : TI} (h : tinfo C t = some ti) : ∃ i, C.P.info? t = some i ∧ C.P.underlying t = some ti.under ∧ ti.size = i.size ∧ ti.bytes = i.bytes ∧ ti.zero = i.zero ∧
    ti.agg = aggD ti.under := by
  unfold tinfo at h
  split at h
  · rename_i i d hi hd
    simp only [Option.some.injEq] at h
    subst h
    exact ⟨i, hi, hd, rfl, rfl, rfl, rfl⟩
  · simp at h

theorem cond_false {b : Bool} {p : Out} (h : Ok (cond b p .fail)) : b = true ∧ p := by
  cases b
  · exact h.elim
  · exact ⟨rfl, h⟩

theorem cond_split {b : Bool} {p q : Out} (h : Ok (cond b p q)) : (b = true ∧ p) ∨ (b = false ∧ q) := by
  cases b
  · exact .inr ⟨rfl, h⟩
  · exact .inl ⟨rfl, h⟩

theorem asSx_ok {x : AV} {t : STy} {e : Sx} {v : Value} (h : asSx x = some (t, e)) (hx : Rel Pb μ w x v) : v = t.val (dv e) := by
  unfold asSx at h
  split at h
  · simp only [Option.some.injEq, Prod.mk.injEq] at h; obtain ⟨rfl, rfl⟩ := h; rw [hx.sc_eq]; rfl
  · simp only [Option.some.injEq, Prod.mk.injEq] at h; obtain ⟨rfl, rfl⟩ := h; rw [hx.sc_eq]; rfl
  · simp only [Option.some.injEq, Prod.mk.injEq] at h; obtain ⟨rfl, rfl⟩ := h; rw [hx.sc_eq]; rfl
  · simp only [Option.some.injEq, Prod.mk.injEq] at h; obtain ⟨rfl, rfl⟩ := h
    cases hx with | tc _ _ h => cases h; rfl
  · simp at h

theorem Rel.of_sy (Pb : Nat → Prop) (μ : Mu) (w : World) (t : STy) (e : Sx) : Rel Pb μ w (.sy t e) (t.val (dv e)) := .tc _ _ (.sy t e)

theorem sel_no {e : Sx} {b : Out} (h : Ok (.sel e .fail b)) : (dv e).b = false ∧ b := by
  rcases sel_ok h with ⟨_, h⟩ | h
  · exact h.elim
  · exact h

theorem sel_yes {e : Sx} {a : Out} (h : Ok (.sel e a .fail)) : (dv e).b = true ∧ a := by
  rcases sel_ok h with h | ⟨_, h⟩
  · exact h
  · exact h.elim

theorem condA_ok {c : AV} {x y : Out} {v : Value} (h : Ok (condA c x y)) (hx : Rel Pb μ w c v) : (v = .bool true ∧ x) ∨ (v = .bool false ∧ y) := by
  unfold condA at h
  split at h
  · rename_i b
    have := hx.sc_eq
    cases b with
    | true => exact .inl ⟨this, h⟩
    | false => exact .inr ⟨this, h⟩
  · rename_i e
    have hv : v = .bool (dv e).b := by cases hx with | tc _ _ h => cases h; rfl
    rcases sel_ok h with ⟨hb, h⟩ | ⟨hb, h⟩
    · exact .inl ⟨by rw [hv, hb], h⟩
    · exact .inr ⟨by rw [hv, hb], h⟩
  · exact h.elim

theorem enumA_ok {e : Sx} {k : Int → Out} : ∀ {n i : Nat}, Ok (enumA e k i n) → k (dv e).i
  | 0, i, h => h.elim
  | n + 1, i, h => by
    rcases sel_ok h with ⟨hb, h⟩ | ⟨_, h⟩
    · have : (dv e).i = i := by
        have := hb
        simp only [dv, den, cmpI, beq_iff_eq] at this
        exact this
      rw [this]; exact h
    · exact enumA_ok h

theorem withIdx_ok {idx : AV} {n : Nat} {k : Int → Out} {v : Value} (h : Ok (withIdx idx n k)) (hx : Rel Pb μ w idx v) : ∃ kk z, v = .int kk z ∧ k z := by
  unfold withIdx at h
  split at h
  · rename_i kk m
    exact ⟨kk, m, hx.sc_eq, h⟩
  · rename_i kk e
    exact ⟨kk, (dv e).i, by cases hx with | tc _ _ h => cases h; rfl, enumA_ok h⟩
  · exact h.elim

theorem mkCmp_ok (ρ : Env) {op : BinOp} (h : op ∈ [BinOp.eql, .neq, .lss, .leq, .gtr, .geq]) (a b : Sx) : (den ρ (mkCmp op a b)).b = cmpI op (den ρ a).i (den ρ b).i := by
  have hn : ∀ x y : Int, (!(x == y)) = (x != y) := fun x y => rfl
  unfold mkCmp
  simp only [List.mem_cons, List.not_mem_nil, or_false] at h
  split
  · rcases h with rfl | rfl | rfl | rfl | rfl | rfl <;> simp only [den, cmpI] <;> first | rfl | (simp only [Bool.beq_comm, bne, BEq.comm]) | skip
    all_goals first | (rw [Bool.eq_iff_iff]; simp; try omega) | skip
    all_goals exact ⟨fun h => h.symm, fun h => h.symm⟩
  · rcases h with rfl | rfl | rfl | rfl | rfl | rfl <;> simp only [den, cmpI] <;> rfl

theorem intOp_ok {op : BinOp} {kx ky : IntKind} {x y : Sx} {k : AV → Out} {ty : TypeId} (h : Ok (intOp op kx x ky y k)) :
    ∃ t e, Ok (k (.sy t e)) ∧ ∀ P w', (binOp op ty (.int kx (dv x).i) (.int ky (dv y).i)).run P w' = .ok (t.val (dv e)) w' := by
  cases op <;> simp only [intOp] at h
  case shl | shr =>
    obtain ⟨hb, h1⟩ := sel_no h
    clear h
    refine ⟨_, _, h1, fun P w' => ?_⟩
    have hb' : ¬ (den Obs.ρ y).i < 0 := fun hn => by
      have h3 : (dv (.cmp .lss y (.lit 0))).b = true := decide_eq_true hn
      rw [hb] at h3
      cases h3
    simp only [dv, binOp, Op.shift, if_neg hb']
    rfl
  case quo | rem =>
    obtain ⟨hk, h1⟩ := cond_false h
    clear h
    simp only [decide_eq_true_eq] at hk
    subst hk
    obtain ⟨hb, h2⟩ := sel_no h1
    clear h1
    refine ⟨_, _, h2, fun P w' => ?_⟩
    have hb' : ¬ (den Obs.ρ y).i = 0 := by simpa [dv, den, cmpI] using hb
    simp only [dv, binOp, Op.intDiv, if_neg hb', ne_eq, not_true_eq_false, if_false]
    rfl
  case eql =>
    obtain ⟨hk, h1⟩ := cond_false h
    clear h
    simp only [decide_eq_true_eq] at hk
    subst hk
    refine ⟨_, _, h1, fun P w' => ?_⟩
    simp only [dv, binOp, ne_eq, not_true_eq_false, if_false, STy.val, mkCmp_ok _ (op := .eql) (by simp)]
    rfl
  case neq =>
    obtain ⟨hk, h1⟩ := cond_false h
    clear h
    simp only [decide_eq_true_eq] at hk
    subst hk
    refine ⟨_, _, h1, fun P w' => ?_⟩
    simp only [dv, binOp, ne_eq, not_true_eq_false, if_false, STy.val, mkCmp_ok _ (op := .neq) (by simp)]
    rfl
  case lss =>
    obtain ⟨hk, h1⟩ := cond_false h
    clear h
    simp only [decide_eq_true_eq] at hk
    subst hk
    refine ⟨_, _, h1, fun P w' => ?_⟩
    simp only [dv, binOp, ne_eq, not_true_eq_false, if_false, STy.val, mkCmp_ok _ (op := .lss) (by simp)]
    rfl
  case leq =>
    obtain ⟨hk, h1⟩ := cond_false h
    clear h
    simp only [decide_eq_true_eq] at hk
    subst hk
    refine ⟨_, _, h1, fun P w' => ?_⟩
    simp only [dv, binOp, ne_eq, not_true_eq_false, if_false, STy.val, mkCmp_ok _ (op := .leq) (by simp)]
    rfl
  case gtr =>
    obtain ⟨hk, h1⟩ := cond_false h
    clear h
    simp only [decide_eq_true_eq] at hk
    subst hk
    refine ⟨_, _, h1, fun P w' => ?_⟩
    simp only [dv, binOp, ne_eq, not_true_eq_false, if_false, STy.val, mkCmp_ok _ (op := .gtr) (by simp)]
    rfl
  case geq =>
    obtain ⟨hk, h1⟩ := cond_false h
    clear h
    simp only [decide_eq_true_eq] at hk
    subst hk
    refine ⟨_, _, h1, fun P w' => ?_⟩
    simp only [dv, binOp, ne_eq, not_true_eq_false, if_false, STy.val, mkCmp_ok _ (op := .geq) (by simp)]
    rfl
  all_goals
    obtain ⟨hk, h1⟩ := cond_false h
    clear h
    simp only [decide_eq_true_eq] at hk
    subst hk
    refine ⟨_, _, h1, fun P w' => ?_⟩
    simp only [dv, binOp, ne_eq, not_true_eq_false, if_false]
    rfl

theorem strOp_ok {op : BinOp} {x y : Sx} {k : AV → Out} {ty : TypeId} (h : Ok (strOp op x y k)) :
    ∃ t e, Ok (k (.sy t e)) ∧ ∀ P w', (binOp op ty (.string (dv x).s) (.string (dv y).s)).run P w' = .ok (t.val (dv e)) w' := by
  cases op <;> simp only [strOp] at h
  case eql | neq | lss | leq | gtr | geq => exact ⟨_, _, h, fun P w' => rfl⟩
  all_goals exact h.elim

theorem eqGuard_val {P : Program} {op : BinOp} {t : TypeId} {x y : Operand} (s u : STy) (d e : Den) (w : World) : (eqGuard op t x y (s.val d) (u.val e)).run P w = .ok () w := by
  cases op <;> cases s <;> cases u <;> rfl

theorem run_sliceBound {P : Program} {kk : IntKind} {n : Int} {y : Nat} {code : BoundsCode} (h0 : 0 ≤ n) (h1 : n ≤ y) (w : World) :
    (Instr.sliceBound (.int kk n) y code).run P w = .ok n.toNat w := by
  simp [Instr.sliceBound, asIntOf, h0, h1]

theorem run_sliceBounds {P : Program} {isS : Bool} {len cap : Nat} {lo hi : Option Value} {l h : Int}
    (hlo : (lo = none ∧ l = 0) ∨ ∃ kk, lo = some (.int kk l)) (hhi : (hi = none ∧ h = len) ∨ ∃ kk, hi = some (.int kk h))
    (h0 : 0 ≤ l) (h1 : l ≤ h) (h2 : h ≤ cap) (w : World) :
    (Instr.sliceBounds isS len cap lo hi none).run P w = .ok (l.toNat, h.toNat, cap) w := by
  have e1 : ((h.toNat : Nat) : Int) = h := by omega
  have hb1 := fun (kk : IntKind) code => run_sliceBound (P := P) (kk := kk) (code := code) (y := cap) (by omega : (0 : Int) ≤ h) (by omega) w
  have hb2 := fun (kk : IntKind) code => run_sliceBound (P := P) (kk := kk) (code := code) (y := h.toNat) h0 (by omega) w
  rcases hlo with ⟨rfl, rfl⟩ | ⟨k1, rfl⟩ <;> rcases hhi with ⟨rfl, rfl⟩ | ⟨k2, rfl⟩ <;>
    simp [Instr.sliceBounds, hb1, hb2] <;> first | rfl | (have := hb2 k1; simp at this; simp [this]) | skip

theorem binOp_bool {P : Program} {op : BinOp} {t : TypeId} {ti : TI} (ht : tinfo C t = some ti) (hb : ti.under = .bool) (hP : P = C.P) (x y : Bool) (w' : World) :
    (binOp .eql t (.bool x) (.bool y)).run P w' = .ok (.bool (x == y)) w' ∧ (binOp .neq t (.bool x) (.bool y)).run P w' = .ok (.bool (!(x == y))) w' := by
  subst hP
  obtain ⟨i, h1, h2, _⟩ := tinfo_ok ht
  rw [hb] at h2
  have e1 : (Op.equal t (.bool x) (.bool y)).run C.P w' = .ok (x == y) w' := by
    unfold Op.equal Op.maxDepth Op.equalIn
    simp only [Sem.run_bind, run_underlying h2, Result.andThen]
    rfl
  constructor
  · show (do pure (Value.bool (← Op.equal t (.bool x) (.bool y))) : Sem Value).run C.P w' = _
    rw [Sem.run_bind, e1]; rfl
  · show (do pure (Value.bool (!(← Op.equal t (.bool x) (.bool y)))) : Sem Value).run C.P w' = _
    rw [Sem.run_bind, e1]; rfl

theorem symOp_ok {o : Oper} {k : AV → Out} (h : Ok (symOp C o T k)) (hT : RelF Pb μ w T a.tmps) (hG : GlobRel C Pb μ w) :
    ∃ r v, k r ∧ Rel Pb μ w r v ∧ ∀ w', (execOp a.eval o).run C.P w' = .ok (.value v) w' := by
  unfold symOp at h
  split at h
  · rename_i op t x y p hop
    have main : ∃ t' e, Ok (k (.sy t' e)) ∧ ∀ w', (do eqGuard op t x y (a.eval x) (a.eval y); binOp op t (a.eval x) (a.eval y) : Sem Value).run C.P w' = .ok (t'.val (dv e)) w' := by
      split at h
      · rename_i kx ax ky ay hx hy
        have e1 := asSx_ok hx (ev_ok hT hG x)
        have e2 := asSx_ok hy (ev_ok hT hG y)
        obtain ⟨t', e, h1, h2⟩ := intOp_ok (ty := t) h
        refine ⟨t', e, h1, fun w' => ?_⟩
        rw [e1, e2]
        simp only [Sem.run_bind, eqGuard_val, Result.andThen]
        exact h2 _ _
      · rename_i ax ay hx hy
        have e1 := asSx_ok hx (ev_ok hT hG x)
        have e2 := asSx_ok hy (ev_ok hT hG y)
        obtain ⟨t', e, h1, h2⟩ := strOp_ok (ty := t) h
        refine ⟨t', e, h1, fun w' => ?_⟩
        rw [e1, e2]
        simp only [Sem.run_bind, eqGuard_val, Result.andThen]
        exact h2 _ _
      · rename_i ax ay hx hy
        have e1 := asSx_ok hx (ev_ok hT hG x)
        have e2 := asSx_ok hy (ev_ok hT hG y)
        split at h
        · rename_i ti hti
          split at h
          · rename_i hu
            have hb := fun w' => binOp_bool (op := op) hti hu rfl (dv ax).b (dv ay).b w'
            unfold boolOp at h
            split at h
            · refine ⟨_, _, h, fun w' => ?_⟩
              rw [e1, e2]
              simp only [Sem.run_bind, eqGuard_val, Result.andThen]
              exact (hb w').1
            · refine ⟨_, _, h, fun w' => ?_⟩
              rw [e1, e2]
              simp only [Sem.run_bind, eqGuard_val, Result.andThen]
              exact (hb w').2
            · exact h.elim
          · exact h.elim
        · exact h.elim
      · exact h.elim
    obtain ⟨t', e, h1, h2⟩ := main
    refine ⟨_, _, h1, Rel.of_sy .., fun w' => ?_⟩
    have he : execOp a.eval o = (do pure (.value (← (do eqGuard op t x y (a.eval x) (a.eval y); binOp op t (a.eval x) (a.eval y) : Sem Value)))) := by unfold execOp; rw [hop]
    rw [he, Sem.run_bind, h2 w']
    rfl
  · rename_i op t x hop
    have main : ∃ t' e, Ok (k (.sy t' e)) ∧ ∀ w', (Op.unary op (a.eval x)).run C.P w' = .ok (t'.val (dv e)) w' := by
      split at h
      · rename_i kx ax hx
        exact ⟨_, _, h, fun w' => by rw [asSx_ok hx (ev_ok hT hG x)]; rfl⟩
      · rename_i kx ax hx
        refine ⟨_, _, h, fun w' => ?_⟩
        rw [asSx_ok hx (ev_ok hT hG x)]
        cases kx <;> rfl
      · rename_i ax hx
        exact ⟨_, _, h, fun w' => by rw [asSx_ok hx (ev_ok hT hG x)]; rfl⟩
      · exact h.elim
    obtain ⟨t', e, h1, h2⟩ := main
    refine ⟨_, _, h1, Rel.of_sy .., fun w' => ?_⟩
    have he : execOp a.eval o = (do pure (.value (← Op.unary op (a.eval x)))) := by unfold execOp; rw [hop]
    rw [he, Sem.run_bind, h2 w']
    rfl
  · rename_i src dst x hop
    split at h
    · rename_i si td t ax hs hd hx
      obtain ⟨i1, _, hu1, _⟩ := tinfo_ok hs
      obtain ⟨i2, _, hu2, _⟩ := tinfo_ok hd
      have hv := asSx_ok hx (ev_ok hT hG x)
      have he : execOp a.eval o = (do pure (.value (← convert src dst (a.eval x)))) := by unfold execOp; rw [hop]
      split at h
      · rename_i kd ks hdu
        rw [hdu] at hu2
        refine ⟨_, _, h, Rel.of_sy .., fun w' => ?_⟩
        rw [he, hv]
        simp [convert, underlying, hu1, hu2, STy.val, Conv.intToInt, dv, den]
      · rename_i hdu
        rw [hdu] at hu2
        refine ⟨_, _, h, Rel.of_sy .., fun w' => ?_⟩
        rw [he, hv]
        simp [convert, underlying, hu1, hu2, STy.val]
      · exact h.elim
    · exact h.elim
  · rename_i t x i hop
    split at h
    · rename_i ti ax kb bx hti hx hi
      obtain ⟨_, _, hu, _⟩ := tinfo_ok hti
      have hv := asSx_ok hx (ev_ok hT hG x)
      have hiv := asSx_ok hi (ev_ok hT hG i)
      split at h
      · rename_i hs
        rw [hs] at hu
        obtain ⟨hb, h1⟩ := sel_no h
        obtain ⟨hb2, h2⟩ := sel_yes h1
        have hb' : 0 ≤ (den Obs.ρ bx).i := Int.not_lt.1 fun hn => by
          have h3 : (dv (.cmp .lss bx (.lit 0))).b = true := decide_eq_true hn
          rw [hb] at h3
          cases h3
        have hb3 : (den Obs.ρ bx).i < ((den Obs.ρ ax).s.size : Int) := of_decide_eq_true hb2
        have hlt : (den Obs.ρ bx).i.toNat < (den Obs.ρ ax).s.size := by omega
        refine ⟨_, _, h2, Rel.of_sy .., fun w' => ?_⟩
        have he : execOp a.eval o = (do pure (.value (← Instr.index t (a.eval x) (a.eval i)))) := by unfold execOp; rw [hop]
        rw [he, hv, hiv]
        simp [Instr.index, asIntOf, run_underlying hu, STy.val, dv, den, hb', hlt]
      · exact h.elim
    · exact h.elim
  · rename_i args argTypes hop
    split at h
    · rename_i x t hargs hts
      split at h
      · rename_i ti ax hti hx
        obtain ⟨_, _, hu, _⟩ := tinfo_ok hti
        have hv := asSx_ok hx (ev_ok hT hG x)
        split at h
        · rename_i hs
          rw [hs] at hu
          refine ⟨_, _, h, Rel.of_sy .., fun w' => ?_⟩
          have ha : args = #[x] := by rw [← Array.toList_inj]; exact hargs
          have hb : argTypes = #[t] := by rw [← Array.toList_inj]; exact hts
          subst ha; subst hb
          have he : execOp a.eval o = (do pure (.value (← Builtin.len_ #[t] o.type #[a.eval x]))) := by unfold execOp; rw [hop]; simp [resolve, invoke, builtin]
          rw [he, hv]
          simp [Builtin.len_, run_underlying hu, STy.val, goInt, dv, den]
        · exact h.elim
      · exact h.elim
    · exact h.elim
  · rename_i t x lo hi hop
    have he : execOp a.eval o = (do pure (.value (← Instr.sliceAt t (a.eval x) (lo.map a.eval) (hi.map a.eval) none))) := by unfold execOp; rw [hop]; rfl
    split at h
    · rename_i ti ax kl lx hti hx hl
      obtain ⟨_, _, hu, _⟩ := tinfo_ok hti
      have hv := asSx_ok hx (ev_ok hT hG x)
      have hlo : (lo.map a.eval = none ∧ (dv lx).i = 0) ∨ ∃ kk, lo.map a.eval = some (.int kk (dv lx).i) := by
        cases lo with
        | none =>
          simp only [Option.map_none, Option.getD_none, asSx, Option.some.injEq, Prod.mk.injEq] at hl
          obtain ⟨_, rfl⟩ := hl
          exact .inl ⟨rfl, rfl⟩
        | some l =>
          simp only [Option.map_some, Option.getD_some] at hl
          exact .inr ⟨kl, by rw [Option.map_some, asSx_ok hl (ev_ok hT hG l)]; rfl⟩
      split at h
      · rename_i hs
        rw [hs] at hu
        split at h
        · rename_i hnone
          obtain ⟨hb, h1⟩ := sel_no h
          obtain ⟨hb2, h2⟩ := sel_yes h1
          have hn : hi = none := by cases hi <;> simp_all
          subst hn
          have g1 : 0 ≤ (dv lx).i := Int.not_lt.1 fun hn => by
            have h3 : (dv (.cmp .lss lx (.lit 0))).b = true := decide_eq_true hn
            rw [hb] at h3
            cases h3
          have g2 : (dv lx).i ≤ ((dv ax).s.size : Int) := of_decide_eq_true hb2
          refine ⟨_, _, h2, Rel.of_sy .., fun w' => ?_⟩
          rw [he, hv]
          have hr := run_sliceBounds (P := C.P) (isS := false) (len := (dv ax).s.size) (cap := (dv ax).s.size) (hi := none) hlo (.inl ⟨rfl, rfl⟩) g1 g2 (by omega) w'
          simp only [STy.val, Option.map_none, Instr.sliceAt, Instr.slice, Sem.run_bind, run_underlying hu, Result.andThen, Option.isSome_none, Bool.false_eq_true, if_false, Sem.run_pure, hr]
          rfl
        · rename_i kh hx2 hsome
          obtain ⟨hb, h1⟩ := sel_no h
          obtain ⟨hb2, h2⟩ := sel_yes h1
          obtain ⟨hb3, h3⟩ := sel_yes h2
          cases hi with
          | none => simp at hsome
          | some hiO =>
            simp only [Option.map_some, Option.some.injEq] at hsome
            have hhv := asSx_ok hsome (ev_ok hT hG hiO)
            have g1 : 0 ≤ (dv lx).i := Int.not_lt.1 fun hn => by
              have h3 : (dv (.cmp .lss lx (.lit 0))).b = true := decide_eq_true hn
              rw [hb] at h3
              cases h3
            have g2 : (dv lx).i ≤ (dv hx2).i := of_decide_eq_true hb2
            have g3 : (dv hx2).i ≤ ((dv ax).s.size : Int) := of_decide_eq_true hb3
            refine ⟨_, _, h3, Rel.of_sy .., fun w' => ?_⟩
            rw [he, hv]
            have hr := run_sliceBounds (P := C.P) (isS := false) (len := (dv ax).s.size) (cap := (dv ax).s.size) (hi := (some hiO).map a.eval) hlo (.inr ⟨kh, by rw [Option.map_some, hhv]; rfl⟩) g1 g2 g3 w'
            simp only [STy.val, Instr.sliceAt, Instr.slice, Sem.run_bind, run_underlying hu, Result.andThen, Option.isSome_none, Bool.false_eq_true, if_false, Sem.run_pure, hr]
            rfl
        · exact h.elim
      · exact h.elim
    · exact h.elim
  · exact h.elim
end
end Go.Proofs.Ytgpijioodocplaa
