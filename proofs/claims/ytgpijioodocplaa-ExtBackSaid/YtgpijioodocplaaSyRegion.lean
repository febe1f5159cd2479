/- Regions: what is told of those that draw their order holds in each order. -/
import Derived.Test.YtgpijioodocplaaSyTree
import Derived.Scope
import Derived.Orders
set_option linter.unusedVariables false
set_option linter.unusedSectionVars false
set_option linter.unusedSimpArgs false
namespace Go.Proofs.Ytgpijioodocplaa
open Go Go.RowKit
variable [Obs]

/-- Where a walk began. -/
structure Entry where
  Pb : Nat → Prop
  μ : Mu
  w : World
  n : Nat
  M : Nat

section
variable {C : Ctx} {E : Entry} {Pb : Nat → Prop} {μ : Mu} {B0 : Nat} {w : World} {T : Tmps} {H : Heap} {a : Act}

/-- Temporaries that one region alone uses are told by no list beyond it. -/
def LocT (M : Nat) (T : Tmps) : Prop := ∀ d, isLoc M d = true → T[d]? = some .any

theorem LocT.put {M : Nat} {T : Tmps} (h : LocT M T) {dst : Option Tmp} {v : AV} (hd : ∀ d, dst = some d → isLoc M d = false) : LocT M (put T dst v) := fun d hl => by
  cases dst with
  | none => exact h d hl
  | some e =>
    have hne : e ≠ d := fun he => by rw [he] at hd; rw [hd d rfl] at hl; cases hl
    simp only [Go.Proofs.Ytgpijioodocplaa.put]
    rw [List.getElem?_set_ne hne]
    exact h d hl

structure SR (C : Ctx) (E : Entry) (Pb : Nat → Prop) (μ : Mu) (B0 : Nat) (w : World) (T : Tmps) (H : Heap) (a : Act) : Prop where
  tm : RelL Pb μ w T a.tmps
  hp : HeapRel Pb μ B0 w H
  gl : GlobRel C Pb μ w
  df : a.defers = []
  go : Goes E.Pb E.μ B0 E.w E.n Pb μ w H.length
  dom : ∀ o ver b, E.μ o ver = some b → o < E.n
  lo : LocT E.M T

def exOf : AEx → Exit
  | .normal => .normal
  | .exit id => .exit id
  | .goto l => .goto l
  | .ret => .ret

/-- What holds behind a piece of code. -/
def Post (C : Ctx) (E : Entry) (B0 : Nat) (K : AEx → Tmps → Heap → Out) : Exit → Act → World → Prop :=
  fun e a w => ∃ x T H Pb μ, exOf x = e ∧ K x T H ∧ SR C E Pb μ B0 w T H a

theorem put_defers (a : Act) (dst : Option Tmp) (v : Value) : (a.put dst v).defers = a.defers := by cases dst <;> rfl

theorem SR.after {o : Oper} {k : AV → Heap → Out} {a' : Act} {w' : World} (h : SR C E Pb μ B0 w T H a) (hd : ∀ d, o.dst = some d → isLoc E.M d = false) (ha : After Pb μ B0 w H a o k a' w') :
    ∃ r H' Pb' μ', k r H' ∧ SR C E Pb' μ' B0 w' (put T o.dst r) H' a' := by
  obtain ⟨r, H', v, Pb', μ', h1, rfl, h3, h4, h5⟩ := ha
  refine ⟨r, H', Pb', μ', h1, ?_, h4, h.gl.goes h5, by rw [put_defers]; exact h.df, h.go.trans h5, h.dom, h.lo.put hd⟩
  exact (h.tm.mono h5.pb h5.mu h5.ext).put o.dst h3

theorem SR.undef (h : SR C E Pb μ B0 w T H a) (dst : Option Tmp) (hd : ∀ d, dst = some d → isLoc E.M d = false) : SR C E Pb μ B0 w (put T dst undefA) H (a.put dst undef) :=
  ⟨h.tm.put dst (Rel.of_sc ..), h.hp, h.gl, by rw [put_defers]; exact h.df, h.go, h.dom, h.lo.put hd⟩

theorem lookL_cons (t : Nat) (v : AV) (r : Lc) (n : Nat) (d : AV) : lookL (.cons t v r) n d = if t = n then v else lookL r n d := by
  show cond (Nat.beq t n) v (lookL r n d) = _
  by_cases h : t = n
  · subst h; rw [if_pos rfl, Nat.beq_refl]; rfl
  · rw [if_neg h]
    have : Nat.beq t n = false := by
      cases hb : Nat.beq t n with
      | false => rfl
      | true => exact absurd (Nat.eq_of_beq_eq_true hb) h
    rw [this]; rfl

/-- Inside a region. -/
structure SRL (C : Ctx) (E : Entry) (Pb : Nat → Prop) (μ : Mu) (B0 : Nat) (w : World) (L : Lc) (T : Tmps) (H : Heap) (a : Act) : Prop where
  sr : SR C E Pb μ B0 w T H a
  lf : RelF Pb μ w (lk L T) a.tmps
  ll : ∀ t x, isLoc E.M t = false → lookL L t x = x

theorem SRL.begin (h : SR C E Pb μ B0 w T H a) : SRL C E Pb μ B0 w .nil T H a := ⟨h, h.tm.look, fun _ _ _ => rfl⟩

theorem SRL.putL {L : Lc} {dst : Option Tmp} {r : AV} {v : Value} {f : Lc → Tmps → Out} (h : SRL C E Pb μ B0 w L T H a) (hr : Rel Pb μ w r v) (hf : Ok (putL E.M L T dst r f)) :
    ∃ L' T', Ok (f L' T') ∧ SRL C E Pb μ B0 w L' T' H (a.put dst v) := by
  cases dst with
  | none => exact ⟨L, T, hf, h⟩
  | some d =>
    have hsz : T.length = a.tmps.size := h.sr.tm.1
    simp only [Go.Proofs.Ytgpijioodocplaa.putL, setK_eq] at hf
    have others : ∀ t, t ≠ d → (a.put (some d) v).tmps.getD t undef = a.tmps.getD t undef := fun t ht => by
      simp [Act.put, Array.getElem?_setIfInBounds_ne (Ne.symm ht)]
    rcases cond_split hf with ⟨hl, hf⟩ | ⟨hl, hf⟩
    · have hT := h.sr.lo d hl
      have hd : d < a.tmps.size := by rw [← hsz]; exact lt_of_get hT
      refine ⟨_, _, hf, ⟨⟨by simp [Act.put, hsz], fun i x u hi hu => ?_⟩, h.sr.hp, h.sr.gl, h.sr.df, h.sr.go, h.sr.dom, h.sr.lo⟩, fun t => ?_, fun t x ht => ?_⟩
      · by_cases hid : i = d
        · subst hid
          rw [hT] at hi
          simp only [Option.some.injEq] at hi
          subst hi
          exact .any _
        · refine h.sr.tm.2 i x u hi ?_
          simpa [Act.put, Array.getElem?_setIfInBounds_ne (Ne.symm hid)] using hu
      · simp only [lk, lookL_cons]
        by_cases htd : t = d
        · subst htd
          rw [if_pos rfl]
          have : (a.put (some t) v).tmps.getD t undef = v := by simp [Act.put, hd]
          rw [this]; exact hr
        · rw [if_neg (Ne.symm htd), others t htd]
          exact h.lf t
      · rw [lookL_cons, if_neg (fun he => by rw [he] at hl; rw [hl] at ht; cases ht)]
        exact h.ll t x ht
    · have hp := (h.sr.tm.put (some d) hr)
      refine ⟨_, _, hf, ⟨hp, h.sr.hp, h.sr.gl, h.sr.df, h.sr.go, h.sr.dom, h.sr.lo.put (dst := some d) (v := r) fun e he => by cases he; exact hl⟩, fun t => ?_, h.ll⟩
      by_cases htd : t = d
      · subst htd
        simp only [lk]
        rw [h.ll t _ hl]
        exact hp.look t
      · rw [others t htd]
        have := h.lf t
        simp only [lk] at this ⊢
        have e : getL (T.set d r) t = getL T t := by
          rw [getL_eq, getL_eq]
          simp [List.getD_eq_getElem?_getD, List.getElem?_set_ne (Ne.symm htd)]
        rw [e]
        exact this

theorem SRL.after {o : Oper} {k : AV → Heap → Out} {a' : Act} {w' : World} {L : Lc} (h : SRL C E Pb μ B0 w L T H a) (ha : After Pb μ B0 w H a o k a' w') :
    ∃ r H' v Pb' μ', k r H' ∧ a' = a.put o.dst v ∧ Rel Pb' μ' w' r v ∧ SRL C E Pb' μ' B0 w' L T H' a := by
  obtain ⟨r, H', v, Pb', μ', h1, rfl, h3, h4, h5⟩ := ha
  exact ⟨r, H', v, Pb', μ', h1, rfl, h3, ⟨h.sr.tm.mono h5.pb h5.mu h5.ext, h4, h.sr.gl.goes h5, h.sr.df, h.sr.go.trans h5, h.sr.dom, h.sr.lo⟩, h.lf.mono h5.pb h5.mu h5.ext, h.ll⟩

theorem aops_ok {call : Caller} (hc : CallOk C call) (hsm : SummOk C) {ops : Array Oper} {K : Tmps → Heap → Out} {Q : Exit → Act → World → Prop}
    (hQ : ∀ T H Pb μ a w, K T H → SR C E Pb μ B0 w T H a → Q .normal a w) : ∀ (l : List Oper) {L : Lc} {T : Tmps} {H : Heap} {Pb : Nat → Prop} {μ : Mu} {a : Act} {w : World},
    aops C call E.M ops l L T H K → SRL C E Pb μ B0 w L T H a → wpList C.P ops Q l a w
  | [], L, T, H, Pb, μ, a, w, h, hs => hQ T H Pb μ a w h hs.sr
  | o :: r, L, T, H, Pb, μ, a, w, h, hs => by
    simp only [aops, aopF_eq] at h
    split at h
    · exact h.elim
    · rename_i g hb
      refine wpList_step fun K' hK' => ?_
      have hgd := guardA_ok hb hs.lf h
      clear h
      rcases hgd with ⟨hw, h⟩ | ⟨hw, h⟩ <;> rw [hw]
      · rw [if_pos rfl]
        refine Oper.wp_mono (fun a' w' ha => ?_) (aop_ok hc hsm h hs.lf hs.sr.hp hs.sr.gl)
        obtain ⟨x, H', v, Pb', μ', h1, rfl, h3, h4⟩ := hs.after ha
        obtain ⟨L', T', h5, h6⟩ := h4.putL h3 h1
        exact hK' _ _ (aops_ok hc hsm hQ r h5 h6)
      · rw [if_neg (by simp)]
        obtain ⟨L', T', h5, h6⟩ := hs.putL (v := undef) (Rel.of_sc ..) h
        exact hK' _ _ (aops_ok hc hsm hQ r h5 h6)

theorem SR.below {w' : World} (h : SR C E Pb μ B0 w T H a) (hb : Below w.heap.size w w') : SR C E Pb μ B0 w' T H a := by
  have hsame := same_of_below hb
  have hext : Ext Pb w w' := ⟨fun b hb => hsame b (h.hp.pb b hb), fun b n ⟨c, ty, fr, h1, h2⟩ => ⟨c, ty, fr, hsame.get h1, h2⟩⟩
  have hgo : Goes Pb μ B0 w H.length Pb μ w' H.length := ⟨fun _ h => h, fun _ _ _ h => h, hext, hb.mono h.hp.base, Nat.le_refl _, fun _ h => .inl h⟩
  exact ⟨h.tm.mono hgo.pb hgo.mu hext, h.hp.same hsame hb.size (fun _ h => h) (fun _ h => .inl h), h.gl.goes hgo, h.df, h.go.trans hgo, h.dom, h.lo⟩

theorem below_drew (w : World) : Below w.heap.size w { w with drawn := w.drawn + 1 } := ⟨rfl, rfl, rfl, Nat.le_refl _, fun _ _ => rfl⟩

/-! ### a region that draws its order -/

/-- A guard's answer. -/
def GB (g : AV × Bool) (b : Bool) : Prop := ∀ y n : Out, Ok (cond b y n) → Ok (guardA g y n)

theorem guard_split {g : AV × Bool} {y n : Out} (h : Ok (guardA g y n)) : (GB g true ∧ Ok y) ∨ (GB g false ∧ Ok n) := by
  have key : ∀ (c : AV) (x z : Out), Ok (condA c x z) → ((∀ x' z' : Out, Ok x' → Ok (condA c x' z')) ∧ Ok x) ∨ ((∀ x' z' : Out, Ok z' → Ok (condA c x' z')) ∧ Ok z) := by
    intro c x z h
    unfold condA at h ⊢
    split at h
    · rename_i b
      cases b
      · exact .inr ⟨fun _ _ h => h, h⟩
      · exact .inl ⟨fun _ _ h => h, h⟩
    · rename_i e
      rcases sel_ok h with ⟨he, h⟩ | ⟨he, h⟩
      · exact .inl ⟨fun _ _ h => by show cond (dv e).b _ _; rw [he]; exact h, h⟩
      · exact .inr ⟨fun _ _ h => by show cond (dv e).b _ _; rw [he]; exact h, h⟩
    · exact h.elim
  obtain ⟨c, want⟩ := g
  cases want with
  | true => exact (key c y n h).imp (fun h => ⟨fun y' n' hy => h.1 y' n' hy, h.2⟩) (fun h => ⟨fun y' n' hy => h.1 y' n' hy, h.2⟩)
  | false => exact (key c n y h).symm.imp (fun h => ⟨fun y' n' hy => h.1 n' y' hy, h.2⟩) (fun h => ⟨fun y' n' hy => h.1 n' y' hy, h.2⟩)

theorem GB.wanted {ops : Array Oper} {o : Oper} {g : AV × Bool} {b : Bool} {okO : Out} (hok : Ok okO) (h : GB g b) (hw : wantedA ops o (getL T) = some g) (hT : RelL Pb μ w T a.tmps) : Region.wanted o (yielded ops a.tmps) = b := by
  cases b with
  | true => exact (guardA_ok hw hT.look (h okO .fail hok)).elim And.left (fun h => h.2.elim)
  | false => exact (guardA_ok hw hT.look (h .fail okO hok)).elim (fun h => h.2.elim) And.left

/-- What is known of an operation that came up. -/
structure Rc where
  v : AV
  kd : Kd

def ChainR (C : Ctx) (call : Caller) (ops : Array Oper) : List Oper → List Rc → Tmps → Heap → Nat → Tmps → List Heap → Prop
  | [], [], T, H, _, Tf, Hl => Tf = T ∧ Hl = [H]
  | o :: l, r :: rs, T, H, n, Tf, Hl => ∃ g, wantedA ops o (getL T) = some g ∧ match r.kd with
    | .no => GB g false ∧ r.v = undefA ∧ ChainR C call ops l rs (put T o.dst r.v) H n Tf Hl
    | .quiet => GB g true ∧ quietO C o (getL T) = true ∧ (∀ k' : AV → Out, Ok (k' r.v) → Ok (aopQ C call o (getL T) H k')) ∧ ChainR C call ops l rs (put T o.dst r.v) H n Tf Hl
    | .loud p => p = n ∧ GB g true ∧ ∃ H' Hl', Hl = H :: Hl' ∧ (∀ k' : AV → Heap → Out, Ok (k' r.v H') → Ok (aop C call o (getL T) H k')) ∧ ChainR C call ops l rs (put T o.dst r.v) H' (n + 1) Tf Hl'
  | _, _, _, _, _, _, _ => False

theorem runD_ok {call : Caller} (hd : DetC call) {ops : Array Oper} : ∀ (l : List Oper) {T : Tmps} {H : Heap} {ks : List Kd} {hs : List Heap} {K : Tmps → List Kd → List Heap → Out}, Ok (runD C call ops l T H ks hs K) →
    ∃ rs Tf Hl, ChainR C call ops l rs T H hs.length Tf Hl ∧ Ok (K Tf ((rs.map Rc.kd).reverse ++ ks) (Hl.reverse ++ hs))
  | [], T, H, ks, hs, K, h => ⟨[], T, [H], ⟨rfl, rfl⟩, h⟩
  | o :: l, T, H, ks, hs, K, h => by
    simp only [runD, putK_eq] at h
    split at h
    · exact h.elim
    · rename_i g hg
      rcases guard_split h with ⟨hb, h⟩ | ⟨hb, h⟩
      · rcases cond_split h with ⟨hq, h⟩ | ⟨hq, h⟩
        · obtain ⟨v, h1, h2⟩ := det_aopQ hd _ h
          obtain ⟨rs, Tf, Hl, h3, h4⟩ := runD_ok hd l h1
          exact ⟨⟨v, .quiet⟩ :: rs, Tf, Hl, ⟨g, hg, hb, hq, h2, h3⟩, by simpa using h4⟩
        · obtain ⟨v, H', h1, h2⟩ := det_aop hd _ h
          obtain ⟨rs, Tf, Hl, h3, h4⟩ := runD_ok hd l h1
          exact ⟨⟨v, .loud hs.length⟩ :: rs, Tf, H :: Hl, ⟨g, hg, rfl, hb, H', Hl, rfl, h2, h3⟩, by simpa using h4⟩
      · obtain ⟨rs, Tf, Hl, h3, h4⟩ := runD_ok hd l h
        exact ⟨⟨undefA, .no⟩ :: rs, Tf, Hl, ⟨g, hg, hb, rfl, h3⟩, by simpa using h4⟩

theorem getD_put (T : Tmps) (dst : Option Tmp) (v : AV) (t : Tmp) : (put T dst v).getD t undefA = if dst = some t then (if t < T.length then v else undefA) else T.getD t undefA := by
  cases dst with
  | none => simp [put]
  | some d =>
    simp only [put, List.getD_eq_getElem?_getD, List.getElem?_set, Option.some.injEq]
    by_cases hd : d = t
    · subst hd
      by_cases hl : d < T.length <;> simp [hl]
    · simp [hd]

theorem len_put (T : Tmps) (dst : Option Tmp) (v : AV) : (put T dst v).length = T.length := by cases dst <;> simp [put]

theorem chain_len {call : Caller} {ops : Array Oper} : ∀ (l : List Oper) {rs : List Rc} {T : Tmps} {H : Heap} {n : Nat} {Tf : Tmps} {Hl : List Heap}, ChainR C call ops l rs T H n Tf Hl → rs.length = l.length ∧ Tf.length = T.length ∧ Hl ≠ []
  | [], [], _, _, _, _, _, h => by obtain ⟨rfl, rfl⟩ := h; simp
  | o :: l, r :: rs, T, H, n, Tf, Hl, h => by
    obtain ⟨g, hg, h⟩ := h
    obtain ⟨v, kd⟩ := r
    cases kd with
    | no => obtain ⟨_, _, h⟩ := h; have := chain_len l h; rw [len_put] at this; simp [this]
    | quiet => obtain ⟨_, _, _, h⟩ := h; have := chain_len l h; rw [len_put] at this; simp [this]
    | loud p => obtain ⟨_, _, H', Hl', rfl, _, h⟩ := h; have := chain_len l h; rw [len_put] at this; simp [this]
  | [], _ :: _, _, _, _, _, _, h => h.elim
  | _ :: _, [], _, _, _, _, _, h => h.elim

/-- A temporary that nobody writes any more. -/
theorem chain_keep {call : Caller} {ops : Array Oper} {t : Tmp} : ∀ (l : List Oper) {rs : List Rc} {T : Tmps} {H : Heap} {n : Nat} {Tf : Tmps} {Hl : List Heap}, ChainR C call ops l rs T H n Tf Hl → (∀ o, o ∈ l → o.dst ≠ some t) → Tf.getD t undefA = T.getD t undefA
  | [], [], _, _, _, _, _, h, _ => by obtain ⟨rfl, rfl⟩ := h; rfl
  | o :: l, r :: rs, T, H, n, Tf, Hl, h, hn => by
    have hne := hn o (List.mem_cons_self ..)
    have hn' := fun o ho => hn o (List.mem_cons_of_mem _ ho)
    have hp : ∀ v, (put T o.dst v).getD t undefA = T.getD t undefA := fun v => by rw [getD_put, if_neg hne]
    obtain ⟨g, hg, h⟩ := h
    obtain ⟨v, kd⟩ := r
    cases kd with
    | no => obtain ⟨_, _, h⟩ := h; rw [chain_keep l h hn', hp]
    | quiet => obtain ⟨_, _, _, h⟩ := h; rw [chain_keep l h hn', hp]
    | loud p => obtain ⟨_, _, H', Hl', rfl, _, h⟩ := h; rw [chain_keep l h hn', hp]
  | [], _ :: _, _, _, _, _, _, h, _ => h.elim
  | _ :: _, [], _, _, _, _, _, h, _ => h.elim

/-- What is known of operation number i. -/
structure Known (C : Ctx) (call : Caller) (ops : Array Oper) (o : Oper) (r : Rc) (Ti : Tmps) (n : Nat) (Hl : List Heap) : Prop where
  g : ∃ g, wantedA ops o (getL Ti) = some g ∧ GB g (match r.kd with | .no => false | _ => true)
  no : r.kd = .no → r.v = undefA
  quiet : r.kd = .quiet → quietO C o (getL Ti) = true ∧ ∃ (m : Nat) (H : Heap), Hl[m]? = some H ∧ ∀ k' : AV → Out, Ok (k' r.v) → Ok (aopQ C call o (getL Ti) H k')
  loud : ∀ p, r.kd = .loud p → n ≤ p ∧ ∃ H H' : Heap, Hl[p - n]? = some H ∧ Hl[p - n + 1]? = some H' ∧ ∀ k' : AV → Heap → Out, Ok (k' r.v H') → Ok (aop C call o (getL Ti) H k')

theorem chain_head {call : Caller} {ops : Array Oper} : ∀ (l : List Oper) {rs : List Rc} {T : Tmps} {H : Heap} {n : Nat} {Tf : Tmps} {Hl : List Heap}, ChainR C call ops l rs T H n Tf Hl → Hl[0]? = some H
  | [], [], _, _, _, _, _, h => by obtain ⟨rfl, rfl⟩ := h; rfl
  | o :: l, r :: rs, T, H, n, Tf, Hl, h => by
    obtain ⟨g, hg, h⟩ := h
    obtain ⟨v, kd⟩ := r
    cases kd with
    | no => obtain ⟨_, _, h⟩ := h; exact chain_head l h
    | quiet => obtain ⟨_, _, _, h⟩ := h; exact chain_head l h
    | loud p => obtain ⟨_, _, H', Hl', rfl, _, h⟩ := h; rfl
  | [], _ :: _, _, _, _, _, _, h => h.elim
  | _ :: _, [], _, _, _, _, _, h => h.elim

/-- How many turned memory. -/
theorem chain_louds {call : Caller} {ops : Array Oper} : ∀ (l : List Oper) {rs : List Rc} {T : Tmps} {H : Heap} {n : Nat} {Tf : Tmps} {Hl : List Heap}, ChainR C call ops l rs T H n Tf Hl →
    ∀ p, n ≤ p → p + 1 < n + Hl.length → ∃ (i : Nat) (v : AV), rs[i]? = some ⟨v, .loud p⟩
  | [], [], _, _, n, _, _, h, p, h1, h2 => by obtain ⟨rfl, rfl⟩ := h; simp at h2; omega
  | o :: l, r :: rs, T, H, n, Tf, Hl, h, p, h1, h2 => by
    obtain ⟨g, hg, h⟩ := h
    obtain ⟨v, kd⟩ := r
    cases kd with
    | no => obtain ⟨_, _, h⟩ := h; obtain ⟨i, u, hi⟩ := chain_louds l h p h1 h2; exact ⟨i + 1, u, by simpa using hi⟩
    | quiet => obtain ⟨_, _, _, h⟩ := h; obtain ⟨i, u, hi⟩ := chain_louds l h p h1 h2; exact ⟨i + 1, u, by simpa using hi⟩
    | loud q =>
      obtain ⟨rfl, _, H', Hl', rfl, _, h⟩ := h
      by_cases hp : p = q
      · subst hp; exact ⟨0, v, rfl⟩
      · obtain ⟨i, u, hi⟩ := chain_louds l h p (by omega) (by simp at h2; omega); exact ⟨i + 1, u, by simpa using hi⟩
  | [], _ :: _, _, _, _, _, _, h, _, _, _ => h.elim
  | _ :: _, [], _, _, _, _, _, h, _, _, _ => h.elim

theorem chain_get {call : Caller} {ops : Array Oper} : ∀ (l : List Oper) {rs : List Rc} {T : Tmps} {H : Heap} {n : Nat} {Tf : Tmps} {Hl : List Heap}, ChainR C call ops l rs T H n Tf Hl →
    ∀ (i : Nat) (o : Oper), l[i]? = some o → ∃ (r : Rc) (Ti : Tmps), rs[i]? = some r ∧ Known C call ops o r Ti n Hl ∧ Ti.length = T.length ∧
      (∀ t, (∀ (j : Nat) (p : Oper), i ≤ j → l[j]? = some p → p.dst ≠ some t) → Tf.getD t undefA = Ti.getD t undefA) ∧
      (∀ d, o.dst = some d → (∀ (j : Nat) (p : Oper), i < j → l[j]? = some p → p.dst ≠ some d) → Tf.getD d undefA = if d < T.length then r.v else undefA) ∧
      (∀ t, (∀ (j : Nat) (p : Oper), j < i → l[j]? = some p → p.dst ≠ some t) → Ti.getD t undefA = T.getD t undefA)
  | [], [], _, _, _, _, _, h, i, o, hi => by simp at hi
  | o :: l, r :: rs, T, H, n, Tf, Hl, h, 0, o', hi => by
    simp only [List.getElem?_cons_zero, Option.some.injEq] at hi
    subst hi
    have hc := h
    have hhead := chain_head (o :: l) hc
    obtain ⟨g, hg, h⟩ := h
    obtain ⟨v, kd⟩ := r
    have keep : ∀ {H2 n2 Hl2}, ChainR C call ops l rs (put T o.dst v) H2 n2 Tf Hl2 → ∀ d, o.dst = some d → (∀ (j : Nat) (p : Oper), 0 < j → (o :: l)[j]? = some p → p.dst ≠ some d) → Tf.getD d undefA = if d < T.length then v else undefA := fun {H2 n2 Hl2} hch d hd hno => by
      rw [chain_keep l hch fun p hp => ?_, getD_put, if_pos hd]
      obtain ⟨j, hj⟩ := List.mem_iff_getElem?.1 hp
      exact hno (j + 1) p (by omega) (by simpa using hj)
    refine ⟨⟨v, kd⟩, T, rfl, ?_, rfl, fun t ht => chain_keep (o :: l) hc fun p hp => ?_, ?_, fun t _ => rfl⟩
    · cases kd with
      | no => obtain ⟨h1, h2, h3⟩ := h; exact ⟨⟨g, hg, h1⟩, fun _ => h2, fun hh => (by cases hh), fun p hh => (by cases hh)⟩
      | quiet => obtain ⟨h1, h2, h3, h4⟩ := h; exact ⟨⟨g, hg, h1⟩, fun hh => (by cases hh), fun _ => ⟨h2, 0, H, hhead, h3⟩, fun p hh => (by cases hh)⟩
      | loud q =>
        obtain ⟨rfl, h1, H', Hl', rfl, h2, h3⟩ := h
        refine ⟨⟨g, hg, h1⟩, fun hh => (by cases hh), fun hh => (by cases hh), fun p hh => ?_⟩
        simp only [Kd.loud.injEq] at hh
        subst hh
        exact ⟨Nat.le_refl _, H, H', by simp, by simpa using chain_head l h3, h2⟩
    · obtain ⟨j, hj⟩ := List.mem_iff_getElem?.1 hp
      exact ht j p (Nat.zero_le _) hj
    · cases kd with
      | no => exact keep h.2.2
      | quiet => exact keep h.2.2.2
      | loud q => obtain ⟨_, _, H', Hl', _, _, h3⟩ := h; exact keep h3
  | o :: l, r :: rs, T, H, n, Tf, Hl, h, i + 1, o', hi => by
    simp only [List.getElem?_cons_succ] at hi
    obtain ⟨g, hg, h⟩ := h
    have key : ∀ {H2 n2 Hl2}, n ≤ n2 → (∀ (m : Nat) (H : Heap), Hl2[m]? = some H → Hl[m + (n2 - n)]? = some H) → ChainR C call ops l rs (put T o.dst r.v) H2 n2 Tf Hl2 → ∃ (r' : Rc) (Ti : Tmps), (r :: rs)[i + 1]? = some r' ∧ Known C call ops o' r' Ti n Hl ∧ Ti.length = T.length ∧
        (∀ t, (∀ (j : Nat) (p : Oper), i + 1 ≤ j → (o :: l)[j]? = some p → p.dst ≠ some t) → Tf.getD t undefA = Ti.getD t undefA) ∧
        (∀ d, o'.dst = some d → (∀ (j : Nat) (p : Oper), i + 1 < j → (o :: l)[j]? = some p → p.dst ≠ some d) → Tf.getD d undefA = if d < T.length then r'.v else undefA) ∧
        (∀ t, (∀ (j : Nat) (p : Oper), j < i + 1 → (o :: l)[j]? = some p → p.dst ≠ some t) → Ti.getD t undefA = T.getD t undefA) := fun {H2 n2 Hl2} hn hHl hch => by
      obtain ⟨r', Ti, h1, h2, h3, h4, h5, h6⟩ := chain_get l hch i o' hi
      rw [len_put] at h3 h5
      refine ⟨r', Ti, by simpa using h1, ⟨h2.g, h2.no, fun hq => ?_, fun p hp => ?_⟩, h3, fun t ht => h4 t fun j p hj hp => ht (j + 1) p (by omega) (by simpa using hp), fun d hd hno => h5 d hd fun j p hj hp => hno (j + 1) p (by omega) (by simpa using hp), fun t ht => by rw [h6 t fun j p hj hp => ht (j + 1) p (by omega) (by simpa using hp), getD_put, if_neg (ht 0 o (by omega) rfl)]⟩
      · obtain ⟨q1, m, H, q2, q3⟩ := h2.quiet hq
        exact ⟨q1, _, H, hHl m H q2, q3⟩
      · obtain ⟨q1, H, H', q2, q3, q4⟩ := h2.loud p hp
        refine ⟨by omega, H, H', ?_, ?_, q4⟩
        · have := hHl _ _ q2; rwa [show p - n2 + (n2 - n) = p - n by omega] at this
        · have := hHl _ _ q3; rwa [show p - n2 + 1 + (n2 - n) = p - n + 1 by omega] at this
    obtain ⟨v, kd⟩ := r
    cases kd with
    | no => exact key (Nat.le_refl _) (fun m H h => by simpa using h) h.2.2
    | quiet => exact key (Nat.le_refl _) (fun m H h => by simpa using h) h.2.2.2
    | loud p =>
      obtain ⟨_, _, H', Hl', rfl, _, h3⟩ := h
      exact key (n2 := n + 1) (by omega) (fun m H h => by simpa [Nat.add_sub_cancel_left] using h) h3
  | [], _ :: _, _, _, _, _, _, h, _, _, _ => h.elim
  | _ :: _, [], _, _, _, _, _, h, _, _, _ => h.elim
end
end Go.Proofs.Ytgpijioodocplaa
