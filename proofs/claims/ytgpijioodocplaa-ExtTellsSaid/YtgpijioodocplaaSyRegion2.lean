/- A region that draws its order: one run in the text's order serves each order. -/
import Derived.Test.YtgpijioodocplaaSyRegion
import Derived.Still
set_option linter.unusedVariables false
set_option linter.unusedSectionVars false
set_option linter.unusedSimpArgs false
namespace Go.Proofs.Ytgpijioodocplaa
open Go Go.RowKit
variable [Obs]
section
variable {C : Ctx} {E : Entry} {Pb : Nat → Prop} {μ : Mu} {B0 : Nat} {w : World} {T : Tmps} {H : Heap} {a : Act} {call : Caller} {ops : Array Oper}

theorem all_zipIdx {α : Type} {l : List α} {f : α × Nat → Bool} (h : l.zipIdx.all f = true) {i : Nat} {x : α} (hi : l[i]? = some x) : f (x, i) = true :=
  List.all_eq_true.1 h (x, i) (List.mk_mem_zipIdx_iff_getElem?.2 hi)

theorem mem_preds {o : Oper} {j : Nat} : j ∈ preds o ↔ ∃ e ∈ o.after, Region.binds .any e = true ∧ e.on = j := by
  unfold preds
  rw [List.mem_filterMap]
  constructor
  · rintro ⟨e, he, h⟩
    cases hb : Region.binds .any e with
    | true => rw [hb] at h; simp only [cond_true, Option.some.injEq] at h; exact ⟨e, by simpa using he, hb, h⟩
    | false => rw [hb] at h; simp at h
  · rintro ⟨e, he, hb, rfl⟩
    exact ⟨e, by simpa using he, by rw [hb]; rfl⟩

structure OpsOk (ops : Array Oper) : Prop where
  sel : ∀ (j : Nat) (o : Oper) cs b, ops[j]? = some o → o.op ≠ .select cs b
  lt : ∀ (i : Nat) (o : Oper), ops[i]? = some o → ∀ j ∈ preds o, j < i
  look : ∀ (i : Nat) (o : Oper) (j : Nat) (p : Oper) (d : Tmp), ops[i]? = some o → ops[j]? = some p → p.dst = some d → d ∈ o.looksAt ops → j ∈ preds o ∨ (readsO o = false ∧ i ∈ preds p)
  dist : ∀ (i : Nat) (o : Oper) (j : Nat) (p : Oper) (d : Tmp), ops[i]? = some o → ops[j]? = some p → o.dst = some d → p.dst = some d → i = j

theorem okOps_spec (h : okOps ops = true) : OpsOk ops := by
  simp only [okOps, Bool.and_eq_true] at h
  obtain ⟨h1, h2⟩ := h
  have key : ∀ {i : Nat} {o : Oper}, ops[i]? = some o → (∀ j ∈ preds o, j < i) ∧ ∀ {j : Nat} {p : Oper}, ops[j]? = some p → okPair ops i o j p = true := fun {i o} hi => by
    have := all_zipIdx h2 (i := i) (x := o) (by simpa using hi)
    simp only [Bool.and_eq_true] at this
    obtain ⟨g1, g2⟩ := this
    exact ⟨fun j hj => by simpa using List.all_eq_true.1 g1 j hj, fun {j p} hj => all_zipIdx g2 (i := j) (x := p) (by simpa using hj)⟩
  refine ⟨Region.noSelect_spec h1, fun i o hi => (key hi).1, fun i o j p d hi hj hd hl => ?_, fun i o j p d hi hj hd hd' => ?_⟩
  · have := (key hi).2 hj
    simp only [okPair, dstIn, hd, Bool.and_eq_true, Bool.or_eq_true, Bool.not_eq_true', List.contains_iff_mem] at this
    rcases this.1 with (h | h) | h
    · have hh : (o.looksAt ops).contains d = true := by simpa using hl
      rw [hh] at h; cases h
    · exact .inl h.2
    · exact .inr ⟨h.1.1, h.2⟩
  · have := (key hi).2 hj
    simp only [okPair, hd, hd', Bool.and_eq_true, Bool.or_eq_true, decide_eq_true_eq, decide_true, Bool.not_true] at this
    rcases this.2 with h | h
    · exact h
    · cases h

/-! ### all that an operation waits for -/

theorem maskOf_bit {ms : List Nat} {j : Nat} : ∀ {l : List Nat}, Nat.testBit (maskOf ms l) j = true → ∃ k ∈ l, j = k ∨ Nat.testBit (ms.getD k 0) j = true := by
  have key : ∀ (l : List Nat) (s : Nat), Nat.testBit (l.foldl (fun s j => Nat.lor s (Nat.lor (2 ^ j) (ms.getD j 0))) s) j = true → Nat.testBit s j = true ∨ ∃ k ∈ l, j = k ∨ Nat.testBit (ms.getD k 0) j = true := by
    intro l
    induction l with
    | nil => intro s h; exact .inl h
    | cons a l ih =>
      intro s h
      rcases ih _ h with h | ⟨k, hk, h⟩
      · have h2 : Nat.testBit (s ||| (2 ^ a ||| ms.getD a 0)) j = true := h
        rw [Nat.testBit_or, Nat.testBit_or, Bool.or_eq_true, Bool.or_eq_true] at h2
        rcases h2 with h2 | h2 | h2
        · exact .inl h2
        · rw [Nat.testBit_two_pow] at h2
          exact .inr ⟨a, List.mem_cons_self .., .inl (by simp only [decide_eq_true_eq] at h2; exact h2.symm)⟩
        · exact .inr ⟨a, List.mem_cons_self .., .inr h2⟩
      · exact .inr ⟨k, List.mem_cons_of_mem _ hk, h⟩
  intro l h
  rcases key l 0 h with h | h
  · simp at h
  · exact h

theorem masks_get : ∀ (l : List Oper) (ms : List Nat), (∀ (i : Nat), i < ms.length → (masks l ms)[i]? = ms[i]?) ∧ (masks l ms).length = ms.length + l.length ∧
    ∀ (i : Nat) (o : Oper), l[i]? = some o → ∃ ms', (masks l ms)[ms.length + i]? = some (maskOf ms' (preds o)) ∧ ms'.length = ms.length + i ∧ ∀ k, k < ms'.length → ms'[k]? = (masks l ms)[k]?
  | [], ms => ⟨fun _ _ => rfl, by simp [masks], fun i o h => by simp at h⟩
  | o :: r, ms => by
    obtain ⟨h1, h2, h3⟩ := masks_get r (ms ++ [maskOf ms (preds o)])
    simp only [List.length_append, List.length_singleton] at h1 h2 h3
    refine ⟨fun i hi => ?_, by simp only [masks, h2, List.length_cons]; omega, fun i o' hi => ?_⟩
    · simp only [masks]
      rw [h1 i (by omega), List.getElem?_append_left hi]
    · cases i with
      | zero =>
        simp only [List.getElem?_cons_zero, Option.some.injEq] at hi
        subst hi
        refine ⟨ms, ?_, by simp, fun k hk => ?_⟩
        · simp only [masks, Nat.add_zero]
          rw [h1 _ (by omega)]
          simp
        · simp only [masks]
          rw [h1 k (by omega), List.getElem?_append_left hk]
      | succ i =>
        obtain ⟨ms', q1, q2, q3⟩ := h3 i o' (by simpa using hi)
        exact ⟨ms', by simpa only [masks, Nat.add_assoc, Nat.add_comm 1 i] using q1, by omega, q3⟩

theorem mask_bit {i j : Nat} {o : Oper} (ho : ops[i]? = some o) (hok : OpsOk ops) (h : Nat.testBit ((masks ops.toList []).getD i 0) j = true) : ∃ k ∈ preds o, j = k ∨ Nat.testBit ((masks ops.toList []).getD k 0) j = true := by
  obtain ⟨_, _, h3⟩ := masks_get ops.toList []
  obtain ⟨ms', q1, q2, q3⟩ := h3 i o (by simpa using ho)
  simp only [List.length_nil, Nat.zero_add] at q1 q2
  rw [List.getD_eq_getElem?_getD, q1] at h
  obtain ⟨k, hk, h⟩ := maskOf_bit h
  refine ⟨k, hk, h.imp id fun h => ?_⟩
  have hki := hok.lt i o ho k hk
  rw [List.getD_eq_getElem?_getD, q3 k (by omega)] at h
  rwa [List.getD_eq_getElem?_getD]

/-- What has come up holds all that it waits for. -/
theorem closed_all {S : Nat → Prop} (hok : OpsOk ops) (hc : ∀ (i : Nat) (o : Oper), ops[i]? = some o → S i → ∀ j ∈ preds o, S j) (hlt : ∀ i, S i → i < ops.size) : ∀ (i j : Nat), S i → Nat.testBit ((masks ops.toList []).getD i 0) j = true → S j := by
  intro i
  induction i using Nat.strongRecOn with
  | _ i ih =>
    intro j hi hb
    have ho : ops[i]? = some (ops[i]'(hlt i hi)) := Array.getElem?_eq_getElem _
    obtain ⟨k, hk, h⟩ := mask_bit ho hok hb
    have hSk := hc i _ ho hi k hk
    rcases h with rfl | h
    · exact hSk
    · exact ih k (hok.lt i _ ho k hk) j hSk h

/-! ### bounds of memories -/

theorem loD_le {ks : List Kd} {m n : Nat} (h : ∀ (j : Nat) (q : Nat), Nat.testBit m j = true → ks[j]? = some (.loud q) → q + 1 ≤ n) : loD ks m ≤ n := by
  unfold loD
  have key : ∀ (l : List (Kd × Nat)) (a : Nat), a ≤ n → (∀ x ∈ l, ∀ q, x.1 = .loud q → Nat.testBit m x.2 = true → q + 1 ≤ n) → l.foldl (fun (a : Nat) (x : Kd × Nat) => match x.1 with | .loud q => cond (Nat.testBit m x.2) (max a (q + 1)) a | _ => a) a ≤ n := by
    intro l
    induction l with
    | nil => intro a ha _; exact ha
    | cons x l ih =>
      intro a ha hl
      refine ih _ ?_ fun x' hx' => hl x' (List.mem_cons_of_mem _ hx')
      dsimp only
      split
      · rename_i q hq
        cases hb : Nat.testBit m x.2 with
        | true =>
          have := hl x (List.mem_cons_self ..) q hq hb
          simp only [cond_true]; omega
        | false => exact ha
      · exact ha
  refine key _ 0 (Nat.zero_le _) fun x hx q hq hb => ?_
  obtain ⟨k, i⟩ := x
  simp only at hq hb
  subst hq
  exact h i q hb (List.mk_mem_zipIdx_iff_getElem?.1 hx)

theorem le_hiD {ms : List Nat} {ks : List Kd} {i m n : Nat} (hn : m ≤ n) (h : ∀ (j : Nat) (q : Nat), ks[j]? = some (.loud q) → Nat.testBit (ms.getD j 0) i = true → m ≤ q) : m ≤ hiD ms ks i n := by
  unfold hiD
  have key : ∀ (l : List (Nat × Kd)) (a : Nat), m ≤ a → (∀ x ∈ l, ∀ q, x.2 = .loud q → Nat.testBit x.1 i = true → m ≤ q) →
      m ≤ l.foldl (fun (a : Nat) (x : Nat × Kd) => match x.2 with | .loud q => cond (Nat.testBit x.1 i) (min a q) a | _ => a) a := by
    intro l
    induction l with
    | nil => intro a ha _; exact ha
    | cons x l ih =>
      intro a ha hl
      refine ih _ ?_ fun x' hx' => hl x' (List.mem_cons_of_mem _ hx')
      dsimp only
      split
      · rename_i q hq
        cases hb : Nat.testBit x.1 i with
        | true =>
          have := hl x (List.mem_cons_self ..) q hq hb
          simp only [cond_true]; omega
        | false => exact ha
      · exact ha
  refine key _ n hn fun x hx q hq hb => ?_
  obtain ⟨j, hj⟩ := List.mem_iff_getElem?.1 hx
  rw [List.getElem?_zip_eq_some] at hj
  exact h j q (by rw [hj.2, hq]) (by rw [List.getD_eq_getElem?_getD, hj.1]; exact hb)

theorem checkAt_ok (hd : DetC call) {T : Look} {o : Oper} {v : AV} : ∀ {hs : List Heap} {k : Out}, Ok (checkAt C call o T v hs k) → Ok k ∧ ∀ H, H ∈ hs → ∀ k' : AV → Out, Ok (k' v) → Ok (aopQ C call o T H k')
  | [], k, h => ⟨h, fun H hH => by cases hH⟩
  | H :: r, k, h => by
    simp only [checkAt] at h
    obtain ⟨u, h1, h2⟩ := det_aopQ hd _ h
    obtain ⟨hs, h1⟩ := cond_false h1
    have := sameA_eq hs
    subst this
    obtain ⟨h3, h4⟩ := checkAt_ok hd h1
    exact ⟨h3, fun H' hH' => (List.mem_cons.1 hH').elim (fun e => e ▸ h2) (h4 H')⟩

theorem checksD_ok (hd : DetC call) {ms : List Nat} {ks : List Kd} {hl : List Heap} : ∀ {l : List (Oper × Kd)} {i : Nat} {k : Out}, Ok (checksD C call ms T ks hl l i k) → Ok k ∧
    ∀ (j : Nat) (o : Oper), l[j]? = some (o, .quiet) → readsO o = true → ∃ d, o.dst = some d ∧ ∀ m, loD ks (ms.getD (i + j) 0) ≤ m → m ≤ hiD ms ks (i + j) hl.length → ∀ H, hl[m]? = some H → ∀ k' : AV → Out, Ok (k' (T.getD d undefA)) → Ok (aopQ C call o (getL T) H k')
  | [], i, k, h => ⟨h, fun j o hj => by simp at hj⟩
  | (o, kd) :: r, i, k, h => by
    have skip : Ok (checksD C call ms T ks hl r (i + 1) k) → (∀ o', (o, kd) = (o', Kd.quiet) → readsO o' = true → ∃ d, o'.dst = some d ∧ ∀ m, loD ks (ms.getD i 0) ≤ m → m ≤ hiD ms ks i hl.length → ∀ H, hl[m]? = some H → ∀ k' : AV → Out, Ok (k' (T.getD d undefA)) → Ok (aopQ C call o' (getL T) H k')) →
        Ok k ∧ ∀ (j : Nat) (o' : Oper), ((o, kd) :: r)[j]? = some (o', .quiet) → readsO o' = true → ∃ d, o'.dst = some d ∧ ∀ m, loD ks (ms.getD (i + j) 0) ≤ m → m ≤ hiD ms ks (i + j) hl.length → ∀ H, hl[m]? = some H → ∀ k' : AV → Out, Ok (k' (T.getD d undefA)) → Ok (aopQ C call o' (getL T) H k') := fun h h0 => by
      obtain ⟨h1, h2⟩ := checksD_ok hd h
      refine ⟨h1, fun j o' hj hr => ?_⟩
      cases j with
      | zero => simp only [List.getElem?_cons_zero, Option.some.injEq] at hj; exact h0 o' hj hr
      | succ j => have := h2 j o' (by simpa using hj) hr; rwa [show i + 1 + j = i + (j + 1) by omega] at this
    simp only [checksD] at h
    split at h
    · split at h
      · rename_i d hrd hdst
        obtain ⟨h1, h2⟩ := checkAt_ok hd h
        refine skip h1 fun o' ho' hr => ?_
        simp only [Prod.mk.injEq] at ho'
        obtain ⟨rfl, _⟩ := ho'
        refine ⟨d, hdst, fun m hm1 hm2 H hH => h2 H ?_⟩
        refine List.mem_iff_getElem?.2 ⟨m - loD ks (ms.getD i 0), ?_⟩
        rw [List.getElem?_drop, List.getElem?_take, show loD ks (ms.getD i 0) + (m - loD ks (ms.getD i 0)) = m by omega, if_pos (by omega)]
        exact hH
      · exact h.elim
      · rename_i hrd
        refine skip h fun o' ho' hr => ?_
        simp only [Prod.mk.injEq] at ho'
        rw [ho'.1] at hrd
        rw [hrd] at hr; cases hr
    · rename_i hne
      refine skip h fun o' ho' hr => ?_
      simp only [Prod.mk.injEq] at ho'
      exact absurd ho'.2 hne

theorem chain_uniq : ∀ (l : List Oper) {rs : List Rc} {T : Tmps} {H : Heap} {n : Nat} {Tf : Tmps} {Hl : List Heap}, ChainR C call ops l rs T H n Tf Hl →
    (∀ (i : Nat) (u : AV) (p : Nat), rs[i]? = some ⟨u, .loud p⟩ → n ≤ p ∧ p + 1 < n + Hl.length) ∧ ∀ (i j : Nat) (u v : AV) (p : Nat), rs[i]? = some ⟨u, .loud p⟩ → rs[j]? = some ⟨v, .loud p⟩ → i = j
  | [], [], _, _, _, _, _, h => ⟨fun i u p hi => by simp at hi, fun i j u v p hi => by simp at hi⟩
  | o :: l, r :: rs, T, H, n, Tf, Hl, h => by
    obtain ⟨g, hg, h⟩ := h
    obtain ⟨v, kd⟩ := r
    have same : ∀ {H2}, (∀ p, kd ≠ .loud p) → ChainR C call ops l rs (put T o.dst v) H2 n Tf Hl → (∀ (i : Nat) (u : AV) (p : Nat), ((⟨v, kd⟩ : Rc) :: rs)[i]? = some ⟨u, .loud p⟩ → n ≤ p ∧ p + 1 < n + Hl.length) ∧ ∀ (i j : Nat) (u v' : AV) (p : Nat), ((⟨v, kd⟩ : Rc) :: rs)[i]? = some ⟨u, .loud p⟩ → ((⟨v, kd⟩ : Rc) :: rs)[j]? = some ⟨v', .loud p⟩ → i = j := fun {H2} hk hc => by
      obtain ⟨h1, h2⟩ := chain_uniq l hc
      have pos : ∀ {i : Nat} {u : AV} {p : Nat}, ((⟨v, kd⟩ : Rc) :: rs)[i]? = some ⟨u, .loud p⟩ → ∃ i', i = i' + 1 ∧ rs[i']? = some ⟨u, .loud p⟩ := fun {i u p} hi => by
        cases i with
        | zero => simp only [List.getElem?_cons_zero, Option.some.injEq, Rc.mk.injEq] at hi; exact absurd hi.2 (hk p)
        | succ i => exact ⟨i, rfl, by simpa using hi⟩
      refine ⟨fun i u p hi => ?_, fun i j u v' p hi hj => ?_⟩
      · obtain ⟨i', _, hi'⟩ := pos hi; exact h1 i' u p hi'
      · obtain ⟨i', rfl, hi'⟩ := pos hi; obtain ⟨j', rfl, hj'⟩ := pos hj; rw [h2 i' j' u v' p hi' hj']
    cases kd with
    | no => exact same (fun p hp => by cases hp) h.2.2
    | quiet => exact same (fun p hp => by cases hp) h.2.2.2
    | loud q =>
      obtain ⟨rfl, _, H', Hl', rfl, _, h3⟩ := h
      obtain ⟨h1, h2⟩ := chain_uniq l h3
      have hl0 := (chain_len l h3).2.2
      have hpos : 0 < Hl'.length := List.length_pos_iff.2 hl0
      refine ⟨fun i u p hi => ?_, fun i j u v' p hi hj => ?_⟩
      · cases i with
        | zero => simp only [List.getElem?_cons_zero, Option.some.injEq, Rc.mk.injEq, Kd.loud.injEq] at hi; obtain ⟨_, rfl⟩ := hi; simp; omega
        | succ i => have := h1 i u p (by simpa using hi); simp; omega
      · cases i with
        | zero =>
          simp only [List.getElem?_cons_zero, Option.some.injEq, Rc.mk.injEq, Kd.loud.injEq] at hi
          obtain ⟨_, rfl⟩ := hi
          cases j with
          | zero => rfl
          | succ j => have := h1 j v' q (by simpa using hj); omega
        | succ i =>
          cases j with
          | zero =>
            simp only [List.getElem?_cons_zero, Option.some.injEq, Rc.mk.injEq, Kd.loud.injEq] at hj
            obtain ⟨_, rfl⟩ := hj
            have := h1 i u q (by simpa using hi); omega
          | succ j => rw [h2 i j u v' p (by simpa using hi) (by simpa using hj)]
  | [], _ :: _, _, _, _, _, _, h => h.elim
  | _ :: _, [], _, _, _, _, _, h => h.elim

theorem ev_agree {T T' : Tmps} {o : Oper} (h : ∀ d, d ∈ o.looksAt ops → T.getD d undefA = T'.getD d undefA) : ∀ x ∈ o.op.operands, ev C (getL T) x = ev C (getL T') x := fun x hx => by
  cases x with
  | tmp t =>
    show getL T t = getL T' t
    rw [getL_eq, getL_eq]
    exact h t (List.mem_append_left _ (List.mem_filterMap.2 ⟨.tmp t, by simpa using hx, rfl⟩))
  | const v => rfl
  | global g => rfl
  | func f => rfl

theorem wanted_agree {T T' : Tmps} {o : Oper} (h : ∀ d, d ∈ o.looksAt ops → T.getD d undefA = T'.getD d undefA) : wantedA ops o (getL T) = wantedA ops o (getL T') := by
  unfold wantedA
  simp only [getL_eq]
  cases hg : o.guard with
  | none => rfl
  | some gw =>
    obtain ⟨g, want⟩ := gw
    cases hd : (ops[g]?).bind (·.dst) with
    | none => simp only [hd]
    | some d =>
      simp only [hd]
      rw [h d (by simp [Oper.looksAt, hg, hd])]

/-- How far a drawn order has come. -/
structure InvD (ops : Array Oper) (rs : List Rc) (T0 Tf : Tmps) (Hl : List Heap) (listed : Array Bool) (m : Nat) (T : Tmps) : Prop where
  size : listed.size = ops.size
  closed : ∀ (i : Nat) (o : Oper), ops[i]? = some o → listed.getD i false = true → ∀ j ∈ preds o, listed.getD j false = true
  louds : ∀ (i : Nat) (v : AV) (p : Nat), rs[i]? = some ⟨v, .loud p⟩ → (listed.getD i false = true ↔ p < m)
  le : m < Hl.length
  len : T.length = T0.length
  inn : ∀ (i : Nat) (o : Oper) (d : Tmp), ops[i]? = some o → listed.getD i false = true → o.dst = some d → T.getD d undefA = Tf.getD d undefA
  out : ∀ d, (∀ (i : Nat) (o : Oper), ops[i]? = some o → listed.getD i false = true → o.dst ≠ some d) → T.getD d undefA = T0.getD d undefA

theorem getD_set_self {listed : Array Bool} {i : Nat} (h : i < listed.size) (d : Bool) : (listed.setIfInBounds i true).getD i d = true := by
  simp [h]

theorem InvD.step {rs : List Rc} {T0 Tf : Tmps} {Hl : List Heap} {listed : Array Bool} {m m' : Nat} {T : Tmps} (hv : InvD ops rs T0 Tf Hl listed m T) {i : Nat} {o : Oper} (hi : ops[i]? = some o) (hun : listed.getD i true = false)
    (hready : ∀ j ∈ preds o, listed.getD j false = true) {u : AV} (hu : ∀ d, o.dst = some d → (if d < T0.length then u else undefA) = Tf.getD d undefA) (hm' : m' < Hl.length) (hmm : m ≤ m')
    (hloud : ∀ (j : Nat) (v : AV) (p : Nat), rs[j]? = some ⟨v, .loud p⟩ → ((j = i ∧ p < m') ∨ (j ≠ i ∧ (p < m' → p < m)))) (hself : ∀ (v : AV) (p : Nat), rs[i]? = some ⟨v, .loud p⟩ → p < m') :
    InvD ops rs T0 Tf Hl (listed.setIfInBounds i true) m' (put T o.dst u) := by
  have hlt : i < listed.size := by rw [hv.size]; exact (Array.getElem?_eq_some_iff.1 hi).1
  have hset : ∀ j, (listed.setIfInBounds i true).getD j false = true ↔ j = i ∨ listed.getD j false = true := fun j => by
    by_cases hji : j = i
    · subst hji; simp only [getD_set_self hlt, true_or]
    · rw [getD_set_ne false (Ne.symm hji)]; simp [hji]
  refine ⟨by simpa using hv.size, fun j p hj hl k hk => ?_, fun j v p hj => ?_, hm', by rw [len_put, hv.len], fun j p d hj hl hd => ?_, fun d hno => ?_⟩
  · rw [hset]
    rcases (hset j).1 hl with rfl | hl
    · rw [hi] at hj
      simp only [Option.some.injEq] at hj
      subst hj
      exact .inr (hready k hk)
    · exact .inr (hv.closed j p hj hl k hk)
  · rw [hset]
    constructor
    · rintro (rfl | h)
      · exact hself v p hj
      · exact Nat.lt_of_lt_of_le ((hv.louds j v p hj).1 h) hmm
    · intro hp
      rcases hloud j v p hj with ⟨h, _⟩ | ⟨_, h⟩
      · exact .inl h
      · exact .inr ((hv.louds j v p hj).2 (h hp))
  · rw [getD_put, hv.len]
    by_cases hdo : o.dst = some d
    · rw [if_pos hdo]; exact hu d hdo
    · rw [if_neg hdo]
      rcases (hset j).1 hl with rfl | hl
      · rw [hi] at hj
        simp only [Option.some.injEq] at hj
        subst hj
        exact absurd hd hdo
      · exact hv.inn j p d hj hl hd
  · have hdo : o.dst ≠ some d := hno i o hi ((hset i).2 (.inl rfl))
    rw [getD_put, if_neg hdo]
    exact hv.out d fun j p hj hl => hno j p hj ((hset j).2 (.inr hl))

theorem countP_lt {α : Type} {p q : α → Bool} : ∀ {l : List α} {x : α}, x ∈ l → (∀ y, q y = true → p y = true) → p x = true → q x = false → l.countP q < l.countP p
  | y :: l, x, hx, hqp, hp, hq => by
    have hle : l.countP q ≤ l.countP p := List.countP_mono_left fun y _ => hqp y
    simp only [List.countP_cons]
    rcases List.mem_cons.1 hx with rfl | hx
    · simp [hp, hq]; omega
    · have := countP_lt hx hqp hp hq
      have hy := hqp y
      cases hqy : q y <;> cases hpy : p y <;> simp_all <;> omega

theorem ready_all {listed : Array Bool} (hok : OpsOk ops) (hs : listed.size = ops.size) (h : Region.ready .any ops listed = []) : ∀ i, i < ops.size → listed.getD i false = true := by
  intro i
  induction i using Nat.strongRecOn with
  | _ i ih =>
    intro hi
    cases hl : listed.getD i false with
    | true => rfl
    | false =>
      have ho : ops[i]? = some ops[i] := Array.getElem?_eq_getElem hi
      have : i ∈ Region.ready .any ops listed := mem_ready.2 ⟨by simp [hs, hi] at hl ⊢; exact hl, _, ho, fun e he hb => ih e.on (hok.lt i _ ho e.on (mem_preds.2 ⟨e, he, hb, rfl⟩)) (Nat.lt_trans (hok.lt i _ ho e.on (mem_preds.2 ⟨e, he, hb, rfl⟩)) hi)⟩
      rw [h] at this
      cases this

theorem wpAny_region (hc : CallOk C call) (hsm : SummOk C) (hok : OpsOk ops) (hnl : ∀ (i : Nat) (o : Oper), ops[i]? = some o → ∀ d, o.dst = some d → isLoc E.M d = false) {rs : List Rc} {T0 Tf : Tmps} {H0 : Heap} {Hl : List Heap} (hch : ChainR C call ops ops.toList rs T0 H0 0 Tf Hl)
    {okO : Out} (hO : Ok okO)
    (hwait : ∀ (i : Nat) (o : Oper) (v : AV) (p : Nat), ops[i]? = some o → rs[i]? = some ⟨v, .loud (p + 1)⟩ → ∃ j u, Nat.testBit ((masks ops.toList []).getD i 0) j = true ∧ rs[j]? = some ⟨u, .loud p⟩)
    (hread : ∀ (i : Nat) (o : Oper) (v : AV), ops[i]? = some o → rs[i]? = some ⟨v, .quiet⟩ → readsO o = true → Hl.length = 1 ∨ ∃ d, o.dst = some d ∧ ∀ m, loD (rs.map Rc.kd) ((masks ops.toList []).getD i 0) ≤ m → m ≤ hiD (masks ops.toList []) (rs.map Rc.kd) i Hl.length → ∀ H, Hl[m]? = some H → ∀ k' : AV → Out, Ok (k' (Tf.getD d undefA)) → Ok (aopQ C call o (getL Tf) H k'))
    {Q : Exit → Act → World → Prop} (hQ : ∀ H, Hl[Hl.length - 1]? = some H → ∀ Pb μ a w, SR C E Pb μ B0 w Tf H a → Q .normal a w) :
    ∀ (fuel : Nat) (listed : Array Bool) (a : Act) (w : World) (Pb : Nat → Prop) (μ : Mu) (T : Tmps) (m : Nat) (H : Heap), InvD ops rs T0 Tf Hl listed m T → Hl[m]? = some H → SR C E Pb μ B0 w T H a →
      (List.range ops.size).countP (fun i => !listed.getD i false) ≤ fuel → wpAny C.P .any ops Q fuel listed a w := by
  classical
  obtain ⟨hrl, hTf, hHl⟩ := chain_len _ hch
  obtain ⟨hpos, huq⟩ := chain_uniq _ hch
  have hend : ∀ {listed : Array Bool} {a : Act} {w : World} {Pb : Nat → Prop} {μ : Mu} {T : Tmps} {m : Nat} {H : Heap}, InvD ops rs T0 Tf Hl listed m T → Hl[m]? = some H → SR C E Pb μ B0 w T H a → (∀ i, i < ops.size → listed.getD i false = true) → Q .normal a w := by
    intro listed a w Pb μ T m H hv hH hs hall
    have hm : m = Hl.length - 1 := by
      refine Classical.byContradiction fun hne => ?_
      have hle := hv.le
      obtain ⟨i, v, hi⟩ := chain_louds _ hch m (Nat.zero_le _) (by omega)
      have hil : i < ops.size := by have := lt_of_get hi; rw [hrl] at this; simpa using this
      have := (hv.louds i v m hi).1 (hall i hil)
      omega
    have hT : T = Tf := by
      refine List.ext_getElem? fun t => ?_
      have hg : T.getD t undefA = Tf.getD t undefA := by
        by_cases hex : ∃ (i : Nat) (o : Oper), ops[i]? = some o ∧ o.dst = some t
        · obtain ⟨i, o, hi, hd⟩ := hex
          exact hv.inn i o t hi (hall i (Array.getElem?_eq_some_iff.1 hi).1) hd
        · rw [hv.out t fun i o hi _ hd => hex ⟨i, o, hi, hd⟩, chain_keep _ hch fun o ho hd => ?_]
          obtain ⟨i, hi⟩ := List.mem_iff_getElem?.1 ho
          exact hex ⟨i, o, by simpa using hi, hd⟩
      have hl : T.length = Tf.length := by rw [hv.len, hTf]
      rcases Nat.lt_or_ge t T.length with h | h
      · rw [List.getElem?_eq_getElem h, List.getElem?_eq_getElem (by omega)]
        simp only [List.getD_eq_getElem?_getD, List.getElem?_eq_getElem h, List.getElem?_eq_getElem (show t < Tf.length by omega), Option.getD_some] at hg
        rw [hg]
      · rw [List.getElem?_eq_none h, List.getElem?_eq_none (by omega)]
    subst hT
    exact hQ H (by rw [← hm]; exact hH) Pb μ a w hs
  intro fuel
  induction fuel with
  | zero =>
    intro listed a w Pb μ T m H hv hH hs hf
    have hall : ∀ i, i < ops.size → listed.getD i false = true := fun i hi => by
      have h0 : (List.range ops.size).countP (fun i => !listed.getD i false) = 0 := by omega
      rw [List.countP_eq_zero] at h0
      simpa using h0 i (List.mem_range.2 hi)
    refine ⟨?_, hend hv hH hs hall⟩
    refine List.eq_nil_iff_forall_not_mem.2 fun i hi => ?_
    obtain ⟨h1, o, ho, _⟩ := mem_ready.1 hi
    have hil := (Array.getElem?_eq_some_iff.1 ho).1
    have := hall i hil
    simp [hv.size, hil] at h1 this
    rw [h1] at this; cases this
  | succ fuel ih =>
    intro listed a w Pb μ T m H hv hH hs hf
    refine ⟨fun h => hend hv hH hs (ready_all hok hv.size h), fun i hi => ?_⟩
    obtain ⟨hun, o, ho, hpre⟩ := mem_ready.1 hi
    have hready : ∀ j ∈ preds o, listed.getD j false = true := fun j hj => by
      obtain ⟨e, he, hb, rfl⟩ := mem_preds.1 hj
      exact hpre e he hb
    have hil := (Array.getElem?_eq_some_iff.1 ho).1
    have hclosed := closed_all (S := fun i => listed.getD i false = true) hok hv.closed fun i hi => by
      rcases Nat.lt_or_ge i listed.size with h | h
      · rw [← hv.size]; exact h
      · simp [Array.getElem?_eq_none h] at hi
    have hbits : ∀ j, Nat.testBit ((masks ops.toList []).getD i 0) j = true → listed.getD j false = true := fun j hj => by
      obtain ⟨k, hk, h⟩ := mask_bit ho hok hj
      rcases h with rfl | h
      · exact hready _ hk
      · exact hclosed k j (hready k hk) h
    have hun' : listed.getD i false = false := by simp [hv.size, hil] at hun ⊢; exact hun
    obtain ⟨r, Ti, hr, hk, hTi, hag, hval, hold⟩ := chain_get _ hch i o (by simpa using ho)
    -- what it looks at is as it was in the text's order
    have hTfa : readsO o = true → ∀ d, d ∈ o.looksAt ops → T.getD d undefA = Tf.getD d undefA := fun hrd d hd => by
      by_cases hex : ∃ (j : Nat) (p : Oper), ops[j]? = some p ∧ p.dst = some d
      · obtain ⟨j, p, hj, hpd⟩ := hex
        rcases hok.look i o j p d ho hj hpd hd with h | h
        · exact hv.inn j p d hj (hready j h) hpd
        · rw [h.1] at hrd; cases hrd
      · rw [hv.out d fun j p hj _ hpd => hex ⟨j, p, hj, hpd⟩, chain_keep _ hch fun p hp hpd => ?_]
        obtain ⟨j, hj⟩ := List.mem_iff_getElem?.1 hp
        exact hex ⟨j, p, by simpa using hj, hpd⟩
    have hTia : ∀ d, d ∈ o.looksAt ops → T.getD d undefA = Ti.getD d undefA := fun d hd => by
      by_cases hex : ∃ (j : Nat) (p : Oper), ops[j]? = some p ∧ p.dst = some d
      · obtain ⟨j, p, hj, hpd⟩ := hex
        rcases hok.look i o j p d ho hj hpd hd with h | h
        · rw [hv.inn j p d hj (hready j h) hpd]
          refine hag d fun j' p' hj' hp' hpd' => ?_
          have e1 := hok.dist j p j' p' d hj (by simpa using hp') hpd hpd'
          have e2 := hok.lt i o ho j h
          omega
        · have e2 := hok.lt j p hj i h.2
          rw [hv.out d fun j' p' hj' hl' hpd' => ?_, hold d fun j' p' hj' hp' hpd' => ?_]
          · have e1 := hok.dist j p j' p' d hj (by simpa using hp') hpd hpd'
            omega
          · have e1 := hok.dist j p j' p' d hj hj' hpd hpd'
            subst e1
            rw [hj] at hj'
            simp only [Option.some.injEq] at hj'
            subst hj'
            have := hv.closed j p hj hl' i h.2
            rw [hun'] at this; cases this
      · rw [hv.out d fun j p hj _ hpd => hex ⟨j, p, hj, hpd⟩, hold d fun j p hj hp hpd => hex ⟨j, p, by simpa using hp, hpd⟩]
    have hsel := fun cs b => hok.sel i o cs b ho
    have hev := ev_agree (C := C) hTia
    have hwa := wanted_agree (ops := ops) hTia
    have hvals : ∀ d, o.dst = some d → (if d < T0.length then r.v else undefA) = Tf.getD d undefA := fun d hd => (hval d hd fun j p hj hp hpd => by
      have := hok.dist i o j p d ho (by simpa using hp) hd hpd
      omega).symm
    have hcount : (List.range ops.size).countP (fun j => !(listed.setIfInBounds i true).getD j false) ≤ fuel := by
      have hlt : i < listed.size := by rw [hv.size]; exact hil
      have := countP_lt (p := fun j => !listed.getD j false) (q := fun j => !(listed.setIfInBounds i true).getD j false) (List.mem_range.2 hil) (fun y hy => by
        by_cases hyi : i = y
        · subst hyi; rw [getD_set_self hlt] at hy; cases hy
        · rw [getD_set_ne false hyi] at hy; exact hy) (by simp only [hun', Bool.not_false]) (by simp only [getD_set_self hlt, Bool.not_true])
      omega
    obtain ⟨g, hg, hgb⟩ := hk.g
    rw [← hwa] at hg
    have hwanted := hgb.wanted hO hg hs.tm
    unfold wpOp
    simp only [ho]
    -- an operation that turns no memory
    have notLoud : (∀ p, r.kd ≠ .loud p) → (∀ (j : Nat) (v : AV) (p : Nat), rs[j]? = some ⟨v, .loud p⟩ → ((j = i ∧ p < m) ∨ (j ≠ i ∧ (p < m → p < m)))) ∧ ∀ (v : AV) (p : Nat), rs[i]? = some ⟨v, .loud p⟩ → p < m := fun hn =>
      ⟨fun j v p hj => .inr ⟨fun hji => by subst hji; rw [hr] at hj; simp only [Option.some.injEq] at hj; subst hj; exact hn p rfl, id⟩, fun v p hj => by rw [hr] at hj; simp only [Option.some.injEq] at hj; subst hj; exact absurd rfl (hn p)⟩
    obtain ⟨rv, kd⟩ := r
    cases kd with
    | no =>
      simp only at hwanted
      rw [hwanted, if_neg (by simp)]
      obtain rfl : rv = undefA := hk.no rfl
      obtain ⟨n1, n2⟩ := notLoud (fun p hp => by cases hp)
      exact ih _ _ _ _ _ _ m H (hv.step ho hun hready hvals hv.le (Nat.le_refl _) n1 n2) hH (hs.undef o.dst (hnl i o ho)) hcount
    | quiet =>
      simp only at hwanted
      rw [hwanted, if_pos rfl]
      left
      obtain ⟨hq, m0, Hm0, hm0, hrun⟩ := hk.quiet rfl
      have hqT : quietO C o (getL T) = true := by rw [quietO_congr hev]; exact hq
      obtain ⟨n1, n2⟩ := notLoud (fun p hp => by cases hp)
      -- its value in this memory
      have hu : ∃ u, (∀ d, o.dst = some d → (if d < T0.length then u else undefA) = Tf.getD d undefA) ∧ ∀ k' : AV → Out, Ok (k' u) → Ok (aopQ C call o (getL T) H k') := by
        cases hrd : readsO o with
        | false => exact ⟨rv, hvals, fun k' hk' => by rw [aopQ_congr hsel hev, still_heap hq hrd Hm0]; exact hrun k' hk'⟩
        | true =>
          rcases hread i o rv ho hr hrd with h1 | ⟨d, hd, hchk⟩
          · have e1 : m = 0 := by have := hv.le; omega
            have e2 : m0 = 0 := by have := lt_of_get hm0; omega
            subst e1; subst e2
            rw [hm0] at hH
            simp only [Option.some.injEq] at hH
            subst hH
            exact ⟨rv, hvals, fun k' hk' => by rw [aopQ_congr hsel hev]; exact hrun k' hk'⟩
          · refine ⟨Tf.getD d undefA, fun d' hd' => ?_, fun k' hk' => ?_⟩
            · rw [hd] at hd'
              simp only [Option.some.injEq] at hd'
              subst hd'
              by_cases hlt : d < List.length T0
              · rw [if_pos hlt]
              · rw [if_neg hlt, List.getD_eq_getElem?_getD, List.getElem?_eq_none (l := Tf) (i := d) (by rw [hTf]; exact Nat.le_of_not_lt hlt)]; rfl
            · rw [aopQ_congr hsel (ev_agree (C := C) (hTfa hrd))]
              refine hchk m (loD_le fun j q hj hq => ?_) (le_hiD (Nat.le_of_lt hv.le) fun j q hq hpi => ?_) H hH k' hk'
              · rw [List.getElem?_map, Option.map_eq_some_iff] at hq
                obtain ⟨⟨x, kx⟩, hx, rfl⟩ := hq
                have := (hv.louds j x q hx).1 (hbits j hj)
                omega
              · rw [List.getElem?_map, Option.map_eq_some_iff] at hq
                obtain ⟨⟨x, kx⟩, hx, hkx⟩ := hq
                simp only at hkx
                subst hkx
                refine Nat.le_of_not_lt fun hlt => ?_
                have := hclosed j i ((hv.louds j x q hx).2 hlt) hpi
                rw [hun'] at this; cases this
      obtain ⟨u, hu1, hu2⟩ := hu
      refine Oper.wp_mono (fun a' w' ha => ?_) (aopQ_ok (Pb := Pb) (μ := μ) (B0 := B0) hc hsm hqT (hu2 (fun r => if r = u then okO else .fail) (by simpa using hO)) hs.tm.look hs.hp hs.gl hO)
      obtain ⟨r', H', Pb', μ', h1, h2⟩ := hs.after (hnl i o ho) ha
      by_cases hHH : H' = H
      · rw [if_pos hHH] at h1
        by_cases hru : r' = u
        · subst hru; subst hHH
          exact ih _ _ _ _ _ _ m H' (hv.step ho hun hready hu1 hv.le (Nat.le_refl _) n1 n2) hH h2 hcount
        · rw [if_neg hru] at h1; exact h1.elim
      · rw [if_neg hHH] at h1; exact h1.elim
    | loud p =>
      simp only at hwanted
      rw [hwanted, if_pos rfl]
      left
      obtain ⟨_, Hp, Hp', hp1, hp2, hrun⟩ := hk.loud p rfl
      simp only [Nat.sub_zero] at hp1 hp2
      have hpm : p = m := by
        have hle : m ≤ p := Nat.le_of_not_lt fun hlt => by
          have := (hv.louds i rv p hr).2 hlt
          rw [hun'] at this; cases this
        cases p with
        | zero => omega
        | succ q =>
          obtain ⟨j, u, hj, hju⟩ := hwait i o rv q ho hr
          have := (hv.louds j u q hju).1 (hbits j hj)
          omega
      subst hpm
      rw [hp1] at hH
      simp only [Option.some.injEq] at hH
      subst hH
      refine Oper.wp_mono (fun a' w' ha => ?_) (aop_ok (Pb := Pb) (μ := μ) (B0 := B0) hc hsm (by rw [aop_congr hsel hev]; exact hrun (fun r H2 => if r = rv ∧ H2 = Hp' then okO else .fail) (by simpa using hO)) hs.tm.look hs.hp hs.gl)
      obtain ⟨r', H', Pb', μ', h1, h2⟩ := hs.after (hnl i o ho) ha
      by_cases hcc : r' = rv ∧ H' = Hp'
      · obtain ⟨rfl, rfl⟩ := hcc
        refine ih _ _ _ _ _ _ (p + 1) H' (hv.step ho hun hready hvals (lt_of_get hp2) (Nat.le_succ _) (fun j v q hj => ?_) fun v q hj => ?_) hp2 h2 hcount
        · by_cases hji : j = i
          · subst hji
            rw [hr] at hj
            simp only [Option.some.injEq, Rc.mk.injEq, Kd.loud.injEq] at hj
            exact .inl ⟨rfl, by omega⟩
          · refine .inr ⟨hji, fun hq => ?_⟩
            have : q ≠ p := fun hqp => by subst hqp; exact hji (huq j i v r' q hj hr)
            omega
        · rw [hr] at hj
          simp only [Option.some.injEq, Rc.mk.injEq, Kd.loud.injEq] at hj
          omega
      · rw [if_neg hcc] at h1; exact h1.elim

/-- **What is told of a region that draws its order holds.** -/
theorem aopsD_ok (hc : CallOk C call) (hd : DetC call) (hsm : SummOk C) {K : Tmps → Heap → Out} {Q : Exit → Act → World → Prop} (h : Ok (aopsD C call E.M ops T H K))
    (hQ : ∀ T H Pb μ a w, K T H → SR C E Pb μ B0 w T H a → Q .normal a w) (hs : SR C E Pb μ B0 w T H a) : wpAny C.P .any ops Q ops.size (Array.replicate ops.size false) a w := by
  unfold aopsD at h
  obtain ⟨hoo, h⟩ := cond_false h
  simp only [Bool.and_eq_true] at hoo
  have hok := okOps_spec hoo.1
  have hnl : ∀ (i : Nat) (o : Oper), ops[i]? = some o → ∀ d, o.dst = some d → isLoc E.M d = false := fun i o hi d hd => by
    have := List.all_eq_true.1 hoo.2 o (by rw [Array.mem_toList_iff]; exact Array.mem_of_getElem? hi)
    rw [hd] at this
    simpa using this
  obtain ⟨rs, Tf, Hl, hch, hK⟩ := runD_ok hd _ h
  simp only [List.append_nil, List.length_nil] at hch hK
  obtain ⟨hrl, hTf, hHl⟩ := chain_len _ hch
  have h0 := chain_head _ hch
  have hinv : InvD ops rs T Tf Hl (Array.replicate ops.size false) 0 T := by
    have hno : ∀ i, (Array.replicate ops.size false).getD i false = false := fun i => by
      by_cases hi : i < ops.size <;> simp [hi]
    exact ⟨by simp, fun i o _ hl => (by rw [hno] at hl; cases hl), fun i v p hi => (by rw [hno]; simp), List.length_pos_iff.2 hHl, rfl, fun i o d _ hl => (by rw [hno] at hl; cases hl), fun d _ => rfl⟩
  have hcnt : (List.range ops.size).countP (fun i => !(Array.replicate ops.size false).getD i false) ≤ ops.size := by
    have := List.countP_le_length (p := fun i => !(Array.replicate ops.size false).getD i false) (l := List.range ops.size)
    simpa using this
  -- the last memory
  have last : ∀ {H' r}, Hl.reverse = H' :: r → Hl[Hl.length - 1]? = some H' := fun {H' r} he => by
    have hp := List.length_pos_iff.2 hHl
    have h3 : Hl.reverse[0]? = some H' := by rw [he]; rfl
    rw [List.getElem?_reverse hp, Nat.sub_zero] at h3
    exact h3
  have one : ∀ {H'}, Hl.length = 1 → Hl[Hl.length - 1]? = some H' → (∀ (i : Nat) (v : AV) (p : Nat), rs[i]? = some ⟨v, .loud p⟩ → False) := fun {H'} hl _ i v p hi => by
    have := (chain_uniq _ hch).1 i v p hi
    omega
  split at hK
  · exact hK.elim
  · rename_i H' he
    have hl := last he
    have hlen : Hl.length = 1 := by have := congrArg List.length he; simpa using this
    refine wpAny_region hc hsm hok hnl hch (okO := K Tf H') hK (fun i o v p hi hr => (one hlen hl i v _ hr).elim) (fun i o v hi hr hrd => .inl hlen) (fun H2 hH2 Pb μ a w hs => ?_) ops.size _ a w Pb μ T 0 H hinv h0 hs hcnt
    rw [hl] at hH2
    simp only [Option.some.injEq] at hH2
    subst hH2
    exact hQ _ _ _ _ _ _ hK hs
  · rename_i H' r hne he
    have hl := last he
    obtain ⟨hcd, hK⟩ := cond_false hK
    rw [List.reverse_reverse, List.reverse_reverse] at hK
    rw [List.reverse_reverse] at hcd
    obtain ⟨hK, hchk⟩ := checksD_ok hd hK
    have hzip : ∀ {i : Nat} {o : Oper} {x : Rc}, ops[i]? = some o → rs[i]? = some x → (ops.toList.zip (rs.map Rc.kd))[i]? = some (o, x.kd) := fun {i o x} hi hx => by
      rw [List.getElem?_zip_eq_some]
      exact ⟨by simpa using hi, by rw [List.getElem?_map, hx]; rfl⟩
    refine wpAny_region hc hsm hok hnl hch (okO := K Tf H') hK (fun i o v p hi hr => ?_) (fun i o v hi hr hrd => .inr ?_) (fun H2 hH2 Pb μ a w hs => ?_) ops.size _ a w Pb μ T 0 H hinv h0 hs hcnt
    · have hml : (masks ops.toList [])[i]? = some ((masks ops.toList []).getD i 0) := by
        have hlen := (masks_get ops.toList []).2.1
        have hil := (Array.getElem?_eq_some_iff.1 hi).1
        rw [List.getD_eq_getElem?_getD, List.getElem?_eq_getElem (by rw [hlen]; simpa using hil)]; rfl
      have hz : ((masks ops.toList []).zip (rs.map Rc.kd))[i]? = some ((masks ops.toList []).getD i 0, .loud (p + 1)) := by
        rw [List.getElem?_zip_eq_some]
        exact ⟨hml, by rw [List.getElem?_map, hr]; rfl⟩
      have := List.all_eq_true.1 hcd _ (List.mem_of_getElem? hz)
      simp only at this
      obtain ⟨⟨kx, j⟩, hj, hjk⟩ := List.any_eq_true.1 this
      have hj' := List.mk_mem_zipIdx_iff_getElem?.1 hj
      split at hjk
      · rename_i q hq
        simp only at hq
        subst hq
        rw [List.getElem?_map, Option.map_eq_some_iff] at hj'
        obtain ⟨⟨u, ku⟩, hx, hku⟩ := hj'
        simp only at hku
        subst hku
        simp only [Bool.and_eq_true, decide_eq_true_eq] at hjk
        obtain ⟨rfl, hb⟩ := hjk
        exact ⟨j, u, hb, hx⟩
      · cases hjk
    · have := hchk i o (hzip hi hr) hrd
      rwa [Nat.zero_add] at this
    · rw [hl] at hH2
      simp only [Option.some.injEq] at hH2
      subst hH2
      exact hQ _ _ _ _ _ _ hK hs
end
end Go.Proofs.Ytgpijioodocplaa
