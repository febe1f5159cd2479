/- What a run of code comes to is one thing. -/
import Derived.Test.YtgpijioodocplaaSyTree
set_option linter.unusedVariables false
set_option linter.unusedSectionVars false
set_option linter.unusedSimpArgs false
namespace Go.Proofs.Ytgpijioodocplaa
open Go Go.RowKit
variable [Obs]

theorem det3_k {α β γ : Type} (x : α) (y : β) (z : γ) : Det3 (fun k => k x y z) := fun k h => ⟨x, y, z, h, fun _ h' => h'⟩
theorem det3_fail {α β γ : Type} : Det3 (fun _ : α → β → γ → Out => .fail) := fun k h => h.elim
theorem det3_cond {α β γ : Type} {c : Bool} {f g : (α → β → γ → Out) → Out} (hf : Det3 f) (hg : Det3 g) : Det3 (fun k => cond c (f k) (g k)) := by
  cases c
  · exact hg
  · exact hf
theorem det3_sel {α β γ : Type} {e : Sx} {f g : (α → β → γ → Out) → Out} (hf : Det3 f) (hg : Det3 g) : Det3 (fun k => .sel e (f k) (g k)) := by
  intro k h
  rcases sel_ok h with ⟨he, h⟩ | ⟨he, h⟩
  · obtain ⟨x, y, z, h1, h2⟩ := hf k h
    exact ⟨x, y, z, h1, fun k' h' => by show cond (dv e).b _ _; rw [he]; exact h2 k' h'⟩
  · obtain ⟨x, y, z, h1, h2⟩ := hg k h
    exact ⟨x, y, z, h1, fun k' h' => by show cond (dv e).b _ _; rw [he]; exact h2 k' h'⟩
theorem det3_condA {α β γ : Type} {c : AV} {f g : (α → β → γ → Out) → Out} (hf : Det3 f) (hg : Det3 g) : Det3 (fun k => condA c (f k) (g k)) := by
  unfold condA
  cases c with
  | tc c => cases c with
    | sc v => cases v <;> first | exact det3_cond hf hg | exact det3_fail
    | sl s el => exact det3_fail
    | sy t e => cases t <;> first | exact det3_sel hf hg | exact det3_fail
  | _ => exact det3_fail
theorem det3_guard {α β γ : Type} {g : AV × Bool} {f h : (α → β → γ → Out) → Out} (hf : Det3 f) (hg : Det3 h) : Det3 (fun k => guardA g (f k) (h k)) := by
  obtain ⟨c, w⟩ := g
  cases w
  · exact det3_condA hg hf
  · exact det3_condA hf hg
theorem det3_bind1 {α β γ δ : Type} {f : (α → Out) → Out} {g : α → (β → γ → δ → Out) → Out} (hf : Det f) (hg : ∀ x, Det3 (g x)) : Det3 (fun k => f fun x => g x k) := by
  intro k h
  obtain ⟨x, h1, h2⟩ := hf _ h
  obtain ⟨y, z, u, h3, h4⟩ := hg x k h1
  exact ⟨y, z, u, h3, fun k' h' => h2 _ (h4 k' h')⟩
theorem det3_bind2 {α α' β γ δ : Type} {f : (α → α' → Out) → Out} {g : α → α' → (β → γ → δ → Out) → Out} (hf : Det2 f) (hg : ∀ x x', Det3 (g x x')) : Det3 (fun k => f fun x x' => g x x' k) := by
  intro k h
  obtain ⟨x, x', h1, h2⟩ := hf _ h
  obtain ⟨y, z, u, h3, h4⟩ := hg x x' k h1
  exact ⟨y, z, u, h3, fun k' h' => h2 _ (h4 k' h')⟩
theorem det3_bind3 {α α' α'' β γ δ : Type} {f : (α → α' → α'' → Out) → Out} {g : α → α' → α'' → (β → γ → δ → Out) → Out} (hf : Det3 f) (hg : ∀ x x' x'', Det3 (g x x' x'')) : Det3 (fun k => f fun x x' x'' => g x x' x'' k) := by
  intro k h
  obtain ⟨x, x', x'', h1, h2⟩ := hf _ h
  obtain ⟨y, z, u, h3, h4⟩ := hg x x' x'' k h1
  exact ⟨y, z, u, h3, fun k' h' => h2 _ (h4 k' h')⟩
theorem det2_bind3 {α α' α'' β γ : Type} {f : (α → α' → α'' → Out) → Out} {g : α → α' → α'' → (β → γ → Out) → Out} (hf : Det3 f) (hg : ∀ x x' x'', Det2 (g x x' x'')) : Det2 (fun k => f fun x x' x'' => g x x' x'' k) := by
  intro k h
  obtain ⟨x, x', x'', h1, h2⟩ := hf _ h
  obtain ⟨y, z, h3, h4⟩ := hg x x' x'' k h1
  exact ⟨y, z, h3, fun k' h' => h2 _ (h4 k' h')⟩
theorem det2_guard {α β : Type} {g : AV × Bool} {f h : (α → β → Out) → Out} (hf : Det2 f) (hg : Det2 h) : Det2 (fun k => guardA g (f k) (h k)) := by
  have key : ∀ {c : AV} {f h : (α → β → Out) → Out}, Det2 f → Det2 h → Det2 (fun k => condA c (f k) (h k)) := by
    intro c f h hf hg k hh
    have f3 : Det3 (fun k : α → β → Unit → Out => f fun x y => k x y ()) := fun k hk => by
      obtain ⟨x, y, h1, h2⟩ := hf _ hk
      exact ⟨x, y, (), h1, fun k' h' => h2 _ h'⟩
    have g3 : Det3 (fun k : α → β → Unit → Out => h fun x y => k x y ()) := fun k hk => by
      obtain ⟨x, y, h1, h2⟩ := hg _ hk
      exact ⟨x, y, (), h1, fun k' h' => h2 _ h'⟩
    obtain ⟨x, y, _, h1, h2⟩ := det3_condA (c := c) f3 g3 (fun x y _ => k x y) hh
    exact ⟨x, y, h1, fun k' h' => h2 (fun x y _ => k' x y) h'⟩
  obtain ⟨c, w⟩ := g
  cases w
  · exact key hg hf
  · exact key hf hg
theorem det2_bind2 {α α' β γ : Type} {f : (α → α' → Out) → Out} {g : α → α' → (β → γ → Out) → Out} (hf : Det2 f) (hg : ∀ x x', Det2 (g x x')) : Det2 (fun k => f fun x x' => g x x' k) := by
  intro k h
  obtain ⟨x, x', h1, h2⟩ := hf _ h
  obtain ⟨y, z, h3, h4⟩ := hg x x' k h1
  exact ⟨y, z, h3, fun k' h' => h2 _ (h4 k' h')⟩

section
variable {C : Ctx} {call : Caller}

theorem det2_putL {M : Nat} {L : Lc} {T : Tmps} {dst : Option Tmp} {v : AV} {α β : Type} {f : Lc → Tmps → (α → β → Out) → Out} (hf : ∀ L T, Det2 (f L T)) : Det2 (fun k => putL M L T dst v fun L T => f L T k) := by
  intro k h
  unfold putL at h ⊢
  cases dst with
  | none => exact hf _ _ k h
  | some d =>
    simp only [setK_eq] at h ⊢
    exact det2_cond (hf _ _) (hf _ _) k h

theorem det_aops (hc : DetC call) {M : Nat} {ops : Array Oper} : ∀ (l : List Oper) {L : Lc} {T : Tmps} {H : Heap}, Det2 (aops C call M ops l L T H)
  | [], L, T, H => det2_k T H
  | o :: r, L, T, H => by
    intro k h
    simp only [aops, aopF_eq] at h ⊢
    split at h
    · exact h.elim
    · exact det2_guard (det2_bind2 (det_aop hc) fun v H' => det2_putL fun L T => det_aops hc r) (det2_putL fun L T => det_aops hc r) k h

theorem det_runD (hc : DetC call) {ops : Array Oper} : ∀ (l : List Oper) {T : Tmps} {H : Heap} {ks : List Kd} {hs : List Heap}, Det3 (runD C call ops l T H ks hs)
  | [], T, H, ks, hs => det3_k _ _ _
  | o :: r, T, H, ks, hs => by
    intro k h
    simp only [runD, putK_eq] at h ⊢
    split at h
    · exact h.elim
    · exact det3_guard (det3_cond (det3_bind1 (det_aopQ hc) fun v => det_runD hc r) (det3_bind2 (det_aop hc) fun v H' => det_runD hc r)) (det_runD hc r) k h

theorem det_checkAt (hc : DetC call) {o : Oper} {T : Look} {v : AV} {α β : Type} {f : (α → β → Out) → Out} (hf : Det2 f) : ∀ (hs : List Heap), Det2 (fun k => checkAt C call o T v hs (f k))
  | [] => hf
  | H :: r => det2_bind (det_aopQ hc) fun u => det2_cond (det_checkAt hc hf r) det2_fail

theorem det_checksD (hc : DetC call) {ms : List Nat} {T : Tmps} {ks : List Kd} {hl : List Heap} {α β : Type} {f : (α → β → Out) → Out} (hf : Det2 f) : ∀ (l : List (Oper × Kd)) (i : Nat), Det2 (fun k => checksD C call ms T ks hl l i (f k))
  | [], i => hf
  | (o, kd) :: r, i => by
    intro k h
    simp only [checksD] at h ⊢
    split at h
    · split at h
      · exact det_checkAt hc (det_checksD hc hf r (i + 1)) _ k h
      · exact h.elim
      · exact det_checksD hc hf r (i + 1) k h
    · exact det_checksD hc hf r (i + 1) k h

theorem det_aopsD (hc : DetC call) {M : Nat} {ops : Array Oper} {T : Tmps} {H : Heap} : Det2 (aopsD C call M ops T H) := by
  unfold aopsD
  refine det2_cond (det2_bind3 (det_runD hc _) fun T' ks hs => ?_) det2_fail
  cases hs with
  | nil => exact det2_fail
  | cons H' r => cases r with
    | nil => exact det2_k _ _
    | cons H2 r => exact det2_cond (det_checksD hc (det2_k _ _) _ _) det2_fail

theorem det_iter {body : Tmps → Heap → (AEx → Tmps → Heap → Out) → Out} {sl : List Tmp} {n0 : Nat} {sym : Bool} (hb : ∀ T H, Det3 (body T H)) : ∀ (n : Nat) {T : Tmps} {H : Heap}, Det3 (iter body sl n0 sym n T H)
  | 0, T, H => det3_fail
  | n + 1, T, H => by
    intro k h
    simp only [iter] at h ⊢
    refine det3_bind3 (hb _ _) (fun e T2 H2 => ?_) k h
    cases e with
    | normal => exact det_iter hb n
    | exit id => exact det3_k _ _ _
    | goto l => exact det3_k _ _ _
    | ret => exact det3_k _ _ _

theorem det_iterS {body : Option Nat → Tmps → Heap → (AEx → Tmps → Heap → Out) → Out} {has : Nat → Bool} (hb : ∀ m T H, Det3 (body m T H)) : ∀ (n : Nat) {m : Option Nat} {T : Tmps} {H : Heap}, Det3 (iterS body has n m T H)
  | 0, m, T, H => det3_fail
  | n + 1, m, T, H => by
    intro k h
    simp only [iterS] at h ⊢
    refine det3_bind3 (hb _ _ _) (fun e T2 H2 => ?_) k h
    cases e with
    | goto l => exact det3_cond (det_iterS hb n) (det3_k _ _ _)
    | normal => exact det3_k _ _ _
    | exit id => exact det3_k _ _ _
    | ret => exact det3_k _ _ _

theorem det_seq {f : (AEx → Tmps → Heap → Out) → Out} {g : Tmps → Heap → (AEx → Tmps → Heap → Out) → Out} (hf : Det3 f) (hg : ∀ T H, Det3 (g T H)) :
    Det3 (fun K => f fun e T' H' => match e with | .normal => g T' H' K | e => K e T' H') := by
  refine det3_bind3 hf fun e T2 H2 => ?_
  cases e with
  | normal => exact hg _ _
  | exit id => exact det3_k _ _ _
  | goto l => exact det3_k _ _ _
  | ret => exact det3_k _ _ _

theorem det_acodeM (hc : DetC call) (nm : Array String) (M : Nat) : ∀ (c : Code) (m : Option Nat) (T : Tmps) (H : Heap), Det3 (acodeM C call nm M c m T H)
  | .skip, none, T, H => det3_k _ _ _
  | .label _, none, T, H => det3_k _ _ _
  | .region _ ops draw, none, T, H => by
    cases draw with
    | false =>
      intro k h
      simp only [acodeM] at h ⊢
      obtain ⟨x, y, h1, h2⟩ := det_aops hc _ _ h
      exact ⟨_, x, y, h1, fun k' h' => h2 (fun x y => k' .normal x y) h'⟩
    | true =>
      intro k h
      simp only [acodeM] at h ⊢
      obtain ⟨hcc, h⟩ := cond_false h
      obtain ⟨x, y, h1, h2⟩ := det_aopsD hc _ h
      exact ⟨_, x, y, h1, fun k' h' => by rw [hcc]; exact h2 (fun x y => k' .normal x y) h'⟩
  | .seq a b, none, T, H => det_seq (det_acodeM hc nm M a none T H) (det_acodeM hc nm M b none)
  | .seq a b, some l, T, H => by
    simp only [acodeM]
    cases hasL l a with
    | true => exact det_seq (det_acodeM hc nm M a (some l) T H) (det_acodeM hc nm M b none)
    | false => exact det_acodeM hc nm M b (some l) T H
  | .label l', some l, T, H => det3_cond (det3_k _ _ _) det3_fail
  | .cond c a b, none, T, H => det3_condA (det_acodeM hc nm M a none T H) (det_acodeM hc nm M b none T H)
  | .block id b, none, T, H => by
    simp only [acodeM]
    refine det3_bind3 (det_acodeM hc nm M b none T H) fun e T2 H2 => ?_
    cases e with
    | exit id' => exact det3_cond (det3_k _ _ _) (det3_k _ _ _)
    | normal => exact det3_k _ _ _
    | goto l => exact det3_k _ _ _
    | ret => exact det3_k _ _ _
  | .loop b, none, T, H => det_iter (det_acodeM hc nm M b none) _
  | .scope b, none, T, H => det_iterS (det_acodeM hc nm M b) _
  | .exit id, none, T, H => det3_k _ _ _
  | .ret, none, T, H => det3_k _ _ _
  | .goto l, none, T, H => det3_k _ _ _
  | .rangeFunc .., none, T, H => det3_fail
  | .refuse _, none, T, H => det3_fail
  | .skip, some _, T, H => det3_fail
  | .region .., some _, T, H => det3_fail
  | .cond .., some _, T, H => det3_fail
  | .block .., some _, T, H => det3_fail
  | .loop _, some _, T, H => det3_fail
  | .scope _, some _, T, H => det3_fail
  | .exit _, some _, T, H => det3_fail
  | .ret, some _, T, H => det3_fail
  | .goto _, some _, T, H => det3_fail
  | .rangeFunc .., some _, T, H => det3_fail
  | .refuse _, some _, T, H => det3_fail

theorem det_results {T : Tmps} {H : Heap} : ∀ (l : List ResultVar) (acc : List AV), Det (fun k => resultsA.go C T H k l acc)
  | [], acc => by
    intro k h
    simp only [resultsA.go] at h ⊢
    split at h <;> exact ⟨_, h, fun _ h' => h'⟩
  | .tmp t :: r, acc => det_results r _
  | .cell a t :: r, acc => by
    intro k h
    simp only [resultsA.go] at h ⊢
    split at h
    · exact det_bind det_loadA (fun v => det_results r (v :: acc)) k h
    · exact h.elim

theorem det_acall : ∀ d, DetC (acall C d)
  | 0 => fun f args H => det2_fail
  | d + 1 => fun f args H => by
    intro k h
    simp only [acall] at h ⊢
    split at h
    · exact h.elim
    · split at h
      · exact h.elim
      · obtain ⟨hcc, h⟩ := cond_false h
        rw [hcc]
        refine det2_bind3 (det_acodeM (det_acall d) _ _ _ _ _ _) (fun e T2 H2 => ?_) k h
        cases e with
        | normal => exact det2_bind (det_results _ _) fun v => det2_k v H2
        | ret => exact det2_bind (det_results _ _) fun v => det2_k v H2
        | exit id => exact det2_fail
        | goto l => exact det2_fail
end
end Go.Proofs.Ytgpijioodocplaa
