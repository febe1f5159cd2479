/- Regions, loops, functions: what the evaluator tells of them holds. -/
import Derived.Test.YtgpijioodocplaaSyRegion2
import Derived.Test.YtgpijioodocplaaSyDet2
import Derived.Scope
set_option linter.unusedVariables false
set_option linter.unusedSectionVars false
set_option linter.unusedSimpArgs false
namespace Go.Proofs.Ytgpijioodocplaa
open Go Go.RowKit
variable [Obs]
section
variable {C : Ctx} {E : Entry} {Pb : Nat → Prop} {μ : Mu} {B0 : Nat} {w : World} {T : Tmps} {H : Heap} {a : Act}

/-! ### what a round forgets -/

theorem scrub_ok : ∀ (l : List Tmp) {T : Tmps}, RelL Pb μ w T a.tmps → RelL Pb μ w (scrub l T) a.tmps
  | [], _, h => h
  | t :: l, T, h => by
    refine scrub_ok l (T := T.set t .any) ⟨by simp [h.1], fun i x v hi hv => ?_⟩
    rw [List.getElem?_set] at hi
    by_cases hti : t = i
    · subst hti
      have : t < T.length := by
        rcases Nat.lt_or_ge t a.tmps.size with h' | h'
        · rw [h.1]; exact h'
        · simp [Array.getElem?_eq_none h'] at hv
      simp [this] at hi
      subst hi
      exact .any _
    · simp only [hti, if_false] at hi
      exact h.2 i x v hi hv

theorem scrub_loc {M : Nat} : ∀ (l : List Tmp) {T : Tmps}, LocT M T → LocT M (scrub l T)
  | [], _, h => h
  | t :: l, T, h => by
    refine scrub_loc l (T := T.set t .any) fun d hd => ?_
    have := h d hd
    by_cases htd : t = d
    · subst htd
      rw [List.getElem?_set_self (lt_of_get this)]
    · rw [List.getElem?_set_ne htd]; exact this

def muTo (n : Nat) (μ : Mu) : Mu := fun o ver => if o < n then μ o ver else none

theorem muTo_sub {n : Nat} {o ver b : Nat} (h : muTo n μ o ver = some b) : o < n ∧ μ o ver = some b := by
  unfold muTo at h
  split at h
  · exact ⟨by assumption, h⟩
  · cases h

theorem low_rel {n : Nat} : ∀ (d : Nat) {x : AV} {v : Value}, lowA d n x = true → Rel Pb μ w x v → Rel Pb (muTo n μ) w x v
  | d, .tc c, v, _, h => rel_tc_mu h
  | d, .any, v, _, h => .any _
  | d, .vptr s el i f, v, _, h => by
    cases h with | vptr _ _ _ b off _ g h1 h2 h3 h4 => exact .vptr _ _ _ b off _ g h1 h2 h3 h4
  | d, .ptr o s i f ver, v, hl, h => by
    have hlt : o < n := by cases d <;> simpa [lowA] using hl
    cases h with | ptr _ _ _ _ _ b hb => exact .ptr _ _ _ _ _ b (by simp [muTo, hlt, hb])
  | d, .slice o s i len cap ex ver, v, hl, h => by
    have hlt : o < n := by cases d <;> simpa [lowA] using hl
    cases h with | slice _ _ _ _ _ _ _ b off c hb h1 h2 h3 h4 h5 => exact .slice _ _ _ _ _ _ _ b off c (by simp [muTo, hlt, hb]) h1 h2 h3 h4 h5
  | d, .map o, v, hl, h => by
    have hlt : o < n := by cases d <;> simpa [lowA] using hl
    cases h with | map _ b hb => exact .map _ b (by simp [muTo, hlt, hb])
  | 0, .agg cs, v, hl, h => by simp [lowA] at hl
  | 0, .tuple cs, v, hl, h => by simp [lowA] at hl
  | 0, .func fn f c, v, hl, h => by simp [lowA] at hl
  | d + 1, .agg cs, v, hl, h => by
    simp only [lowA] at hl
    cases h with | agg _ vs h1 h2 => exact .agg _ _ h1 fun i x u hi hu => low_rel d (List.all_eq_true.1 hl x (List.mem_of_getElem? hi)) (h2 i x u hi hu)
  | d + 1, .tuple cs, v, hl, h => by
    simp only [lowA] at hl
    cases h with | tuple _ vs h1 h2 => exact .tuple _ _ h1 fun i x u hi hu => low_rel d (List.all_eq_true.1 hl x (List.mem_of_getElem? hi)) (h2 i x u hi hu)
  | d + 1, .func fn f c, v, hl, h => by
    simp only [lowA, Bool.and_eq_true] at hl
    cases h with | func _ _ _ vf vc h1 h2 h3 h4 => exact .func _ _ _ vf vc h1 h2 (fun i x u hi hu => low_rel d (List.all_eq_true.1 hl.1 x (List.mem_of_getElem? hi)) (h3 i x u hi hu)) (fun i x u hi hu => low_rel d (List.all_eq_true.1 hl.2 x (List.mem_of_getElem? hi)) (h4 i x u hi hu))

theorem trunc_ok {n0 : Nat} (h : SR C E Pb μ B0 w T H a) (hn : E.n ≤ n0) (hn' : n0 ≤ H.length) : ∃ μ', SR C E Pb μ' B0 w T (trunc n0 T H) a := by
  unfold trunc
  split
  · rename_i hc
    simp only [Bool.and_eq_true] at hc
    obtain ⟨h1, h2⟩ := hc
    have hget : ∀ o obj, (H.take n0)[o]? = some obj → o < n0 ∧ H[o]? = some obj := fun o obj ho => by
      rw [List.getElem?_take] at ho
      split at ho
      · exact ⟨by assumption, ho⟩
      · cases ho
    have hgl := h.gl
    refine ⟨muTo n0 μ, ⟨h.tm.1, fun i x v hi hv => low_rel 4 (List.all_eq_true.1 h1 x (List.mem_of_getElem? hi)) (h.tm.2 i x v hi hv)⟩, ⟨fun o ver b ho => ?_, fun o obj ho => ?_, fun o o' obj obj' b ho ho' hm hm' => ?_, h.hp.pb, h.hp.base⟩,
      (fun ob g s el hg => by
        have hx := hgl ob g s el hg
        letI := ob
        exact low_rel (Pb := Pb) (μ := μ) 0 rfl hx), h.df, ?_, h.dom, h.lo⟩
    · obtain ⟨hlt, hm⟩ := muTo_sub ho
      obtain ⟨obj, g1, g2⟩ := h.hp.dom _ _ _ hm
      exact ⟨obj, by rw [List.getElem?_take_of_lt hlt]; exact g1, g2⟩
    · obtain ⟨hlt, ho2⟩ := hget o obj ho
      have hlow := List.all_eq_true.1 h2 obj (List.mem_of_getElem? ho)
      have hob := h.hp.obj o obj ho2
      have hcr : ∀ {b s : Nat} {el : List (List AV)}, (∀ r, r ∈ el → r.all (lowA 4 n0) = true) → CellsRel Pb μ w b s el → CellsRel Pb (muTo n0 μ) w b s el := fun {b s el} hall ⟨q1, c, ty, fr, q2, q3, q4, q5⟩ =>
        ⟨q1, c, ty, fr, q2, q3, q4, fun i f r x hi hf => by
          obtain ⟨v, z1, z2, z3⟩ := q5 i f r x hi hf
          exact ⟨v, z1, z2, low_rel 4 (List.all_eq_true.1 (hall r (List.mem_of_getElem? hi)) x (List.mem_of_getElem? hf)) z3⟩⟩
      cases obj with
      | tcells s el =>
        obtain ⟨b, q1, q2, q3, q4⟩ := hob
        refine ⟨b, by simp [muTo, hlt, q1], q2, q3, hcr (fun r hr => ?_) q4⟩
        obtain ⟨r', _, rfl⟩ := List.mem_map.1 hr
        rw [List.all_eq_true]
        intro x hx
        simp only [tcs, List.mem_map] at hx
        obtain ⟨c, _, rfl⟩ := hx
        rfl
      | cells s el =>
        obtain ⟨b, q1, q2, q3, q4⟩ := hob
        exact ⟨b, by simp [muTo, hlt, q1], q2, q3, hcr (fun r hr => List.all_eq_true.1 hlow r hr) q4⟩
      | map es =>
        obtain ⟨b, q1, q2, q3, es', clock, q4, q5, q6⟩ := hob
        refine ⟨b, by simp [muTo, hlt, q1], q2, q3, es', clock, q4, q5, fun i e e' hi he => ⟨(q6 i e e' hi he).1, ?_⟩⟩
        exact low_rel 4 (List.all_eq_true.1 hlow e (List.mem_of_getElem? hi)) (q6 i e e' hi he).2
    · exact h.hp.inj o o' obj obj' b (hget _ _ ho).2 (hget _ _ ho').2 (muTo_sub hm).2 (muTo_sub hm').2
    · refine ⟨h.go.pb, fun o ver b ho => ?_, h.go.ext, h.go.below, by simp; omega, h.go.new⟩
      have := h.dom o ver b ho
      simp [muTo, show o < n0 by omega, h.go.mu o ver b ho]
  · exact ⟨μ, h⟩

theorem exists_least {p : Nat → Prop} (h : ∃ n, p n) : ∃ n, p n ∧ ∀ m, p m → n ≤ m := by
  obtain ⟨n, hn⟩ := h
  induction n using Nat.strongRecOn with
  | _ n ih =>
    by_cases hx : ∃ m, m < n ∧ p m
    · obtain ⟨m, h1, h2⟩ := hx
      exact ih m h1 h2
    · refine ⟨n, hn, fun m hm => ?_⟩
      rcases Nat.lt_or_ge m n with h | h
      · exact absurd ⟨m, h, hm⟩ hx
      · exact h

theorem wp_iter {body : Tmps → Heap → (AEx → Tmps → Heap → Out) → Out} {c : Code} {sl : List Tmp} {n0 : Nat} {sym : Bool} {K : AEx → Tmps → Heap → Out}
    (hbody : ∀ T H K Pb μ a w, body T H K → SR C E Pb μ B0 w T H a → n0 ≤ H.length → c.wp C.P (fun e a' w' => ∃ x T' H' Pb' μ', exOf x = e ∧ K x T' H' ∧ SR C E Pb' μ' B0 w' T' H' a' ∧ n0 ≤ H'.length) a w) (hn : E.n ≤ n0)
    {n : Nat} (h : iter body sl n0 sym n T H K) (hs : SR C E Pb μ B0 w T H a) (hlen : n0 ≤ H.length) : (Code.loop c).wp C.P (Post C E B0 K) a w := by
  classical
  let Inv : Nat → Act → World → Prop := fun n a w => ∃ T H Pb μ, iter body sl n0 sym n T H K ∧ SR C E Pb μ B0 w T H a ∧ n0 ≤ H.length
  let ms : Act → World → Nat := fun a w => if h : ∃ n, Inv n a w then Classical.choose (exists_least h) else 0
  refine wp_loop (fun a w => ∃ n, Inv n a w) ms ⟨n, T, H, Pb, μ, h, hs, hlen⟩ fun a w hI => ?_
  have hms : ms a w = Classical.choose (exists_least hI) := dif_pos hI
  obtain ⟨T, H, Pb, μ, hi, hsr, hl⟩ := (Classical.choose_spec (exists_least hI)).1
  rw [← hms] at hi
  cases hm : ms a w with
  | zero => rw [hm] at hi; exact hi.elim
  | succ m =>
    rw [hm] at hi
    simp only [iter] at hi
    have hs1 : SR C E Pb μ B0 w (roundT sym sl T) H a := by
      cases sym
      · exact hsr
      · exact { hsr with tm := scrub_ok sl hsr.tm, lo := scrub_loc sl hsr.lo }
    obtain ⟨μ', hs2, hl2⟩ : ∃ μ', SR C E Pb μ' B0 w (roundT sym sl T) (roundH sym n0 (roundT sym sl T) H) a ∧ n0 ≤ (roundH sym n0 (roundT sym sl T) H).length := by
      cases sym
      · exact ⟨μ, hs1, hl⟩
      · obtain ⟨μ', h'⟩ := trunc_ok hs1 hn hl
        refine ⟨μ', h', ?_⟩
        simp only [roundH, trunc]
        split
        · simp; omega
        · exact hl
    refine wp_mono (hbody _ _ _ _ _ _ _ hi hs2 hl2) fun e a' w' ⟨x, T', H', Pb', μ'', h1, h2, h3, h4⟩ => ?_
    subst h1
    cases x with
    | normal =>
      have hI' : ∃ n, Inv n a' w' := ⟨m, T', H', Pb', μ'', h2, h3, h4⟩
      refine ⟨hI', ?_⟩
      have : ms a' w' = Classical.choose (exists_least hI') := dif_pos hI'
      rw [this]
      exact Nat.lt_succ_of_le ((Classical.choose_spec (exists_least hI')).2 m ⟨T', H', Pb', μ'', h2, h3, h4⟩)
    | exit id => exact ⟨.exit id, T', H', Pb', μ'', rfl, h2, h3⟩
    | goto l => exact ⟨.goto l, T', H', Pb', μ'', rfl, h2, h3⟩
    | ret => exact ⟨.ret, T', H', Pb', μ'', rfl, h2, h3⟩

theorem SR.len (h : SR C E Pb μ B0 w T H a) : E.n ≤ H.length := h.go.len

theorem hasL_find (l : Nat) : ∀ c : Code, hasL l c = (findLabel c l).isSome
  | .seq a b => by
    simp only [hasL, findLabel, hasL_find l a, hasL_find l b]
    cases findLabel a l <;> simp
  | .label l' => by simp only [hasL, findLabel]; cases l' == l <;> rfl
  | .skip => rfl
  | .region .. => rfl
  | .cond .. => rfl
  | .block .. => rfl
  | .loop _ => rfl
  | .rangeFunc .. => rfl
  | .exit _ => rfl
  | .scope _ => rfl
  | .goto _ => rfl
  | .ret => rfl
  | .refuse _ => rfl

/-- A piece of code that is run inside a scope. -/
def InScope (P : Program) (c rest : Code) (Q : Exit → Act → World → Prop) (a : Act) (w : World) : Prop :=
  ∀ (b : Frame) (k : List Item) (cs : List Frame), ∃ e a' w', Q e a' w' ∧ Arrives P (lone (b.at a (.code rest :: .inScope c :: k)) cs w) b k cs e a' w'

/-- What holds behind a round of a scope: by a goto to a label of its own it goes on there. -/
def ScopeQ (P : Program) (c : Code) (Q : Exit → Act → World → Prop) : Exit → Act → World → Prop
  | .goto l, a, w => match findLabel c l with
    | some rest => InScope P c rest Q a w
    | none => Q (.goto l) a w
  | e, a, w => Q e a w

theorem inScope_of_wp {P : Program} {c rest : Code} {Q : Exit → Act → World → Prop} {a : Act} {w : World} (h : rest.wp P (ScopeQ P c Q) a w) : InScope P c rest Q a w := by
  intro b k cs
  obtain ⟨e, a₁, w₁, hq, harr⟩ := h b (.inScope c :: k) cs
  cases e with
  | normal => exact ⟨.normal, a₁, w₁, hq, Steps.trans harr (.one step_inScope)⟩
  | exit id => exact ⟨.exit id, a₁, w₁, hq, fun k' hk => harr k' (by simp [exitTo, hk])⟩
  | goto l =>
    simp only [ScopeQ] at hq
    split at hq
    · rename_i rest' hf
      obtain ⟨e₂, a₂, w₂, hq₂, harr₂⟩ := hq b k cs
      exact ⟨e₂, a₂, w₂, hq₂, .of_steps (harr _ (by simp [gotoIn, hf])) harr₂⟩
    · rename_i hf
      exact ⟨.goto l, a₁, w₁, hq, fun k' hk => harr k' (by simp [gotoIn, hf, hk])⟩
  | ret => exact ⟨_, a₁, w₁, hq, harr⟩
  | panic ch => exact ⟨_, a₁, w₁, hq, harr⟩
  | outgrown => exact ⟨_, a₁, w₁, hq, harr⟩

theorem wp_scope_in {P : Program} {c : Code} {Q : Exit → Act → World → Prop} {a : Act} {w : World} (h : InScope P c c Q a w) : (Code.scope c).wp P Q a w := by
  intro b k cs
  obtain ⟨e, a₁, w₁, hq, harr⟩ := h b k cs
  exact ⟨e, a₁, w₁, hq, .of_steps (.one step_scope) harr⟩

/-- What is told of code from its begin on, or from a label on. -/
def RunsM (C : Ctx) (E : Entry) (B0 : Nat) (K : AEx → Tmps → Heap → Out) (c : Code) (a : Act) (w : World) : Option Nat → Prop
  | none => c.wp C.P (Post C E B0 K) a w
  | some l => ∃ rest, findLabel c l = some rest ∧ rest.wp C.P (Post C E B0 K) a w

theorem iterS_ok {b : Code} {body : Option Nat → Tmps → Heap → (AEx → Tmps → Heap → Out) → Out} {K : AEx → Tmps → Heap → Out}
    (hbody : ∀ m T H K Pb μ a w, body m T H K → SR C E Pb μ B0 w T H a → RunsM C E B0 K b a w m) :
    ∀ (n : Nat) (m : Option Nat) {T H Pb μ a w}, iterS body (fun l => hasL l b) n m T H K → SR C E Pb μ B0 w T H a →
      match m with
      | none => InScope C.P b b (Post C E B0 K) a w
      | some l => ∃ rest, findLabel b l = some rest ∧ InScope C.P b rest (Post C E B0 K) a w
  | 0, m, T, H, Pb, μ, a, w, h, hs => h.elim
  | n + 1, m, T, H, Pb, μ, a, w, h, hs => by
    simp only [iterS] at h
    have hb := hbody _ _ _ _ _ _ _ _ h hs
    have key : ∀ {e : Exit} {a' : Act} {w' : World}, Post C E B0 (fun e T2 H2 => match e with
        | .goto l => cond (hasL l b) (iterS body (fun l => hasL l b) n (some l) T2 H2 K) (K (.goto l) T2 H2)
        | e => K e T2 H2) e a' w' → ScopeQ C.P b (Post C E B0 K) e a' w' := by
      rintro _ a' w' ⟨x, T', H', Pb', μ', rfl, hk, hs'⟩
      cases x with
      | normal => exact ⟨.normal, T', H', Pb', μ', rfl, hk, hs'⟩
      | exit id => exact ⟨.exit id, T', H', Pb', μ', rfl, hk, hs'⟩
      | ret => exact ⟨.ret, T', H', Pb', μ', rfl, hk, hs'⟩
      | goto l =>
        simp only [exOf, ScopeQ]
        have hfl := hasL_find l b
        rcases cond_split hk with ⟨hh, hk⟩ | ⟨hh, hk⟩
        · have ih := iterS_ok hbody n (some l) hk hs'
          simp only at ih
          obtain ⟨rest, h1, h2⟩ := ih
          rw [h1]
          exact h2
        · rw [hh] at hfl
          cases hf : findLabel b l with
          | some r => rw [hf] at hfl; simp at hfl
          | none => exact ⟨.goto l, T', H', Pb', μ', rfl, hk, hs'⟩
    cases m with
    | none => exact inScope_of_wp (wp_mono hb fun e a' w' hp => key hp)
    | some l =>
      obtain ⟨rest, h1, h2⟩ := hb
      exact ⟨rest, h1, inScope_of_wp (wp_mono h2 fun e a' w' hp => key hp)⟩

theorem wp_seq_post {call : Caller} {nm : Array String} {x y : Code} {K : AEx → Tmps → Heap → Out}
    (hx : x.wp C.P (Post C E B0 (fun e T' H' => match e with
      | .normal => acodeM C call nm E.M y none T' H' K
      | e => K e T' H')) a w)
    (hy : ∀ {T' H' Pb' μ' a' w'}, acodeM C call nm E.M y none T' H' K → SR C E Pb' μ' B0 w' T' H' a' → y.wp C.P (Post C E B0 K) a' w') : (Code.seq x y).wp C.P (Post C E B0 K) a w := by
  refine wp_seq (wp_mono hx fun e a' w' hp => ?_)
  obtain ⟨e', T', H', Pb', μ', rfl, hk, hs'⟩ := hp
  cases e' with
  | normal => exact hy hk hs'
  | exit id => exact ⟨.exit id, T', H', Pb', μ', rfl, hk, hs'⟩
  | goto l => exact ⟨.goto l, T', H', Pb', μ', rfl, hk, hs'⟩
  | ret => exact ⟨.ret, T', H', Pb', μ', rfl, hk, hs'⟩

/-- The heap never gets shorter than it was where the walk began. -/
theorem acodeM_ok {call : Caller} (hc : CallOk C call) (hd : DetC call) (hsm : SummOk C) (nm : Array String) : ∀ (c : Code) (m : Option Nat) {E : Entry} {T : Tmps} {H : Heap} {K : AEx → Tmps → Heap → Out} {Pb : Nat → Prop} {μ : Mu} {a : Act} {w : World},
    acodeM C call nm E.M c m T H K → SR C E Pb μ B0 w T H a → RunsM C E B0 K c a w m
  | .skip, none, E, T, H, K, Pb, μ, a, w, h, hs => wp_skip ⟨.normal, T, H, Pb, μ, rfl, h, hs⟩
  | .label l, none, E, T, H, K, Pb, μ, a, w, h, hs => wp_label ⟨.normal, T, H, Pb, μ, rfl, h, hs⟩
  | .region id ops draw, none, E, T, H, K, Pb, μ, a, w, h, hs => by
    simp only [acodeM] at h
    cases draw with
    | false => exact wp_region_list (aops_ok hc hsm (fun T H Pb μ a w h hs => ⟨.normal, T, H, Pb, μ, rfl, h, hs⟩) ops.toList h (SRL.begin hs))
    | true =>
      have hcf := cond_false h; clear h; obtain ⟨hcc, h⟩ := hcf
      exact wp_region_any hcc (aopsD_ok (E := E) hc hd hsm h (fun T H Pb μ a w hk hs => ⟨.normal, T, H, Pb, μ, rfl, hk, hs⟩) (hs.below (below_drew w)))
  | .seq x y, none, E, T, H, K, Pb, μ, a, w, h, hs => by
    simp only [acodeM] at h
    exact wp_seq_post (acodeM_ok hc hd hsm nm x none h hs) fun hk hs' => acodeM_ok hc hd hsm nm y none hk hs'
  | .seq x y, some l, E, T, H, K, Pb, μ, a, w, h, hs => by
    simp only [acodeM] at h
    have hfl := hasL_find l x
    split at h
    · rename_i hh
      obtain ⟨rest, h1, h2⟩ := acodeM_ok hc hd hsm nm x (some l) h hs
      exact ⟨.seq rest y, by simp only [findLabel, h1], wp_seq_post h2 fun hk hs' => acodeM_ok hc hd hsm nm y none hk hs'⟩
    · rename_i hh
      obtain ⟨rest, h1, h2⟩ := acodeM_ok hc hd hsm nm y (some l) h hs
      rw [hh] at hfl
      cases hf : findLabel x l with
      | some r => rw [hf] at hfl; simp at hfl
      | none => exact ⟨rest, by simp only [findLabel, hf, h1], h2⟩
  | .label l', some l, E, T, H, K, Pb, μ, a, w, h, hs => by
    simp only [acodeM] at h
    obtain ⟨h1, h2⟩ := cond_false h
    exact ⟨.skip, by simp only [findLabel, h1]; rfl, wp_skip ⟨.normal, T, H, Pb, μ, rfl, h2, hs⟩⟩
  | .cond c x y, none, E, T, H, K, Pb, μ, a, w, h, hs => by
    simp only [acodeM] at h
    rcases condA_ok h (ev_ok hs.tm.look hs.gl c) with ⟨hv, hy⟩ | ⟨hv, hy⟩
    · exact wp_cond hv (acodeM_ok hc hd hsm nm x none hy hs)
    · exact wp_cond hv (acodeM_ok hc hd hsm nm y none hy hs)
  | .block id b, none, E, T, H, K, Pb, μ, a, w, h, hs => by
    simp only [acodeM] at h
    refine wp_block (wp_mono (acodeM_ok hc hd hsm nm b none h hs) fun e a' w' hp => ?_)
    obtain ⟨e', T', H', Pb', μ', rfl, hk, hs'⟩ := hp
    cases e' with
    | normal => exact ⟨.normal, T', H', Pb', μ', rfl, hk, hs'⟩
    | exit id' =>
      simp only [exOf, Exit.inBlock]
      rcases cond_split hk with ⟨hid, hk⟩ | ⟨hid, hk⟩
      · simp only [decide_eq_true_eq] at hid
        rw [if_pos hid]
        exact ⟨.normal, T', H', Pb', μ', rfl, hk, hs'⟩
      · simp only [decide_eq_false_iff_not] at hid
        rw [if_neg hid]
        exact ⟨.exit id', T', H', Pb', μ', rfl, hk, hs'⟩
    | goto l => exact ⟨.goto l, T', H', Pb', μ', rfl, hk, hs'⟩
    | ret => exact ⟨.ret, T', H', Pb', μ', rfl, hk, hs'⟩
  | .loop b, none, E, T, H, K, Pb, μ, a, w, h, hs => by
    simp only [acodeM] at h
    -- inside, the walk may be said to begin where the loop does: no object that was there goes
    let E2 : Entry := ⟨Pb, μ, w, H.length, E.M⟩
    have hs2 : SR C E2 Pb μ B0 w T H a := { hs with go := Goes.refl .., dom := fun o ver b ho => by obtain ⟨obj, g, _⟩ := hs.hp.dom _ _ _ ho; exact lt_of_get g }
    have := wp_iter (C := C) (E := E2) (B0 := B0) (c := b) (K := K) (n0 := H.length) (fun T1 H1 K1 Pb1 μ1 a1 w1 hb1 hs1 hl1 => by
      have := acodeM_ok (E := E2) hc hd hsm nm b none hb1 hs1
      refine wp_mono this fun e a' w' ⟨x, T', H', Pb', μ', g1, g2, g3⟩ => ⟨x, T', H', Pb', μ', g1, g2, g3, g3.len⟩) (Nat.le_refl _) h hs2 (Nat.le_refl _)
    refine wp_mono this fun e a' w' ⟨x, T', H', Pb', μ', g1, g2, g3⟩ => ⟨x, T', H', Pb', μ', g1, g2, { g3 with go := hs.go.trans g3.go, dom := hs.dom }⟩
  | .scope b, none, E, T, H, K, Pb, μ, a, w, h, hs => by
    simp only [acodeM] at h
    exact wp_scope_in (iterS_ok (C := C) (E := E) (B0 := B0) (b := b) (fun m T1 H1 K1 Pb1 μ1 a1 w1 hb1 hs1 => acodeM_ok hc hd hsm nm b m hb1 hs1) C.L none h hs)
  | .exit id, none, E, T, H, K, Pb, μ, a, w, h, hs => wp_exit ⟨.exit id, T, H, Pb, μ, rfl, h, hs⟩
  | .ret, none, E, T, H, K, Pb, μ, a, w, h, hs => wp_ret ⟨.ret, T, H, Pb, μ, rfl, h, hs⟩
  | .goto l, none, E, T, H, K, Pb, μ, a, w, h, hs => wp_goto ⟨.goto l, T, H, Pb, μ, rfl, h, hs⟩
  | .rangeFunc .., none, E, T, H, K, Pb, μ, a, w, h, hs => by simp [acodeM] at h
  | .refuse _, none, E, T, H, K, Pb, μ, a, w, h, hs => by simp [acodeM] at h
  | .skip, some _, E, T, H, K, Pb, μ, a, w, h, hs => by simp [acodeM] at h
  | .region .., some _, E, T, H, K, Pb, μ, a, w, h, hs => by simp [acodeM] at h
  | .cond .., some _, E, T, H, K, Pb, μ, a, w, h, hs => by simp [acodeM] at h
  | .block .., some _, E, T, H, K, Pb, μ, a, w, h, hs => by simp [acodeM] at h
  | .loop _, some _, E, T, H, K, Pb, μ, a, w, h, hs => by simp [acodeM] at h
  | .scope _, some _, E, T, H, K, Pb, μ, a, w, h, hs => by simp [acodeM] at h
  | .exit _, some _, E, T, H, K, Pb, μ, a, w, h, hs => by simp [acodeM] at h
  | .ret, some _, E, T, H, K, Pb, μ, a, w, h, hs => by simp [acodeM] at h
  | .goto _, some _, E, T, H, K, Pb, μ, a, w, h, hs => by simp [acodeM] at h
  | .rangeFunc .., some _, E, T, H, K, Pb, μ, a, w, h, hs => by simp [acodeM] at h
  | .refuse _, some _, E, T, H, K, Pb, μ, a, w, h, hs => by simp [acodeM] at h

theorem acode_ok {call : Caller} (hc : CallOk C call) (hd : DetC call) (hsm : SummOk C) (nm : Array String) (c : Code) {E : Entry} {T : Tmps} {H : Heap} {K : AEx → Tmps → Heap → Out} {Pb : Nat → Prop} {μ : Mu} {a : Act} {w : World}
    (h : acode C call nm E.M c T H K) (hs : SR C E Pb μ B0 w T H a) : c.wp C.P (Post C E B0 K) a w := acodeM_ok hc hd hsm nm c none h hs

def resOne (a : Act) : ResultVar → Sem Value
  | .tmp t => pure (a.tmps.getD t undef)
  | .cell p t => do loadVar t (← asAddr (a.tmps.getD p undef))

theorem resultsA_go {k : AV → Out} (hT : RelL Pb μ w T a.tmps) (hH : HeapRel Pb μ B0 w H) : ∀ (l : List ResultVar) {acc : List AV} {vacc : List Value}, resultsA.go C T H k l acc →
    acc.length = vacc.length → (∀ (i : Nat) (x : AV) (v : Value), acc[i]? = some x → vacc[i]? = some v → Rel Pb μ w x v) →
    ∃ (vs : List Value) (x : AV) (v : Value), (l.mapM (resOne a)).run C.P w = .ok vs w ∧
      v = (match vacc.reverse ++ vs with | [v] => v | l => .tuple l.toArray) ∧ k x ∧ Rel Pb μ w x v
  | [], acc, vacc, h, hl, hr => by
    refine ⟨[], ?_⟩
    simp only [resultsA.go] at h
    split at h
    · rename_i x
      obtain ⟨v, rfl⟩ : ∃ v, vacc = [v] := by
        cases vacc with
        | nil => simp at hl
        | cons v r => cases r with
          | nil => exact ⟨v, rfl⟩
          | cons _ _ => simp at hl
      exact ⟨x, v, rfl, rfl, h, hr 0 x v rfl rfl⟩
    · rename_i hne
      refine ⟨.tuple acc.reverse, .tuple vacc.reverse.toArray, rfl, ?_, h, .tuple _ _ (by simp [hl]) fun i x v hi hv => ?_⟩
      · simp only [List.append_nil]
        split
        · rename_i v hv
          exfalso
          have : acc.length = 1 := by rw [hl, ← List.length_reverse, hv]; rfl
          match acc, this with
          | [x], _ => exact hne x rfl
        · rfl
      · simp only [List.getElem?_toArray] at hv
        have h1 := lt_of_get hi
        have h2 := lt_of_get hv
        simp only [List.length_reverse] at h1 h2
        rw [List.getElem?_reverse h1] at hi
        rw [List.getElem?_reverse h2, ← hl] at hv
        exact hr _ x v hi hv
  | .tmp t :: r, acc, vacc, h, hl, hr => by
    simp only [resultsA.go] at h
    obtain ⟨vs, x, v, h1, h2, h3⟩ := resultsA_go hT hH r (vacc := a.tmps.getD t undef :: vacc) h (by simp [hl]) (fun i x v hi hv => by
      cases i with
      | zero => simp only [List.getElem?_cons_zero, Option.some.injEq] at hi hv; subst hi; subst hv; exact hT.getD t
      | succ i => exact hr i x v (by simpa using hi) (by simpa using hv))
    refine ⟨a.tmps.getD t undef :: vs, x, v, ?_, by simpa using h2, h3⟩
    simp only [List.mapM_cons, Sem.run_bind, resOne, Sem.run_pure, Result.andThen, h1]
  | .cell p t :: r, acc, vacc, h, hl, hr => by
    simp only [resultsA.go] at h
    split at h
    · rename_i ti ht
      have hp := hT.getD p
      obtain ⟨y, u, g1, g2, g3⟩ := loadA_ok ht h hp hH
      obtain ⟨vs, x, v, h1, h2, h3⟩ := resultsA_go hT hH r (vacc := u :: vacc) g1 (by simp [hl]) (fun i x v hi hv => by
        cases i with
        | zero => simp only [List.getElem?_cons_zero, Option.some.injEq] at hi hv; subst hi; subst hv; exact g2
        | succ i => exact hr i x v (by simpa using hi) (by simpa using hv))
      refine ⟨u :: vs, x, v, ?_, by simpa using h2, h3⟩
      have hld := g3 w (Same.refl w)
      have hptr : ∃ q, a.tmps.getD p undef = .pointer (some q) := by
        generalize T.getD p undefA = z at h hp
        generalize a.tmps.getD p undef = y at hp
        cases hp <;> first | exact ⟨_, rfl⟩ | (simp [loadA] at h)
      obtain ⟨q, hq⟩ := hptr
      rw [hq] at hld
      have hld' : (loadVar t q).run C.P w = .ok u w := by simpa [Instr.loadAt, Instr.sureAddr] using hld
      simp only [List.mapM_cons, Sem.run_bind, resOne, hq, asAddr, Sem.run_pure, Result.andThen, hld', h1]
    · exact h.elim

theorem resultsA_ok {fn : Func} {k : AV → Out} (h : resultsA C fn T H k) (hT : RelL Pb μ w T a.tmps) (hH : HeapRel Pb μ B0 w H) : ∃ x v, (results fn a.tmps).run C.P w = .ok v w ∧ k x ∧ Rel Pb μ w x v := by
  obtain ⟨vs, x, v, h1, h2, h3, h4⟩ := resultsA_go hT hH fn.results.toList (vacc := []) h rfl (fun i x v hi => by simp at hi)
  refine ⟨x, v, ?_, h3, h4⟩
  have e : results fn a.tmps = (do
      let vs ← fn.results.mapM (resOne a)
      pure (if h : vs.size = 1 then vs[0] else .tuple vs)) := by
    unfold results
    have : (fun x => match x with
        | ResultVar.tmp t => (pure (a.tmps.getD t undef) : Sem Value)
        | ResultVar.cell p t => do loadVar t (← asAddr (a.tmps.getD p undef))) = resOne a := by funext x; cases x <;> rfl
    rw [← this]
    rfl
  rw [e, Array.mapM_eq_mapM_toList]
  simp only [Sem.run_bind, Sem.run_map, h1, Result.andThen, Sem.run_pure]
  congr 1
  rw [h2]
  simp only [List.reverse_nil, List.nil_append]
  match vs with
  | [] => rfl
  | [u] => rfl
  | u :: v :: r => simp

theorem acall_ok (hsm : SummOk C) : ∀ d, CallOk C (acall C d)
  | 0 => fun f args H k h => h.elim
  | d + 1 => fun f args H k h Pb μ B0 w vs hv hH hG => by
    simp only [acall] at h
    split at h
    · exact h.elim
    · rename_i fn hfn
      split at h
      · exact h.elim
      · rename_i c hb
        obtain ⟨hmask, h⟩ := cond_false h
        simp only [Bool.and_eq_true, decide_eq_true_eq] at hmask
        obtain ⟨hm1, hm2⟩ := hmask
        let E : Entry := ⟨Pb, μ, w, H.length, locMask fn c⟩
        have hs : SR C E Pb μ B0 w (initT (locMask fn c) args fn.ntmps) H { tmps := vs ++ Array.replicate (fn.ntmps - vs.size) undef, defers := [] } := by
          refine ⟨relL_append hv ⟨by simp [hv.1], fun i x v hi hx => ?_⟩, hH, hG, rfl, Goes.refl .., fun o ver b ho => by obtain ⟨obj, g, _⟩ := hH.dom _ _ _ ho; exact lt_of_get g, fun d hd => ?_⟩
          · rw [List.getElem?_map, Option.map_eq_some_iff] at hi
            obtain ⟨j, _, rfl⟩ := hi
            rw [Array.getElem?_replicate] at hx
            split at hx
            · simp only [Option.some.injEq] at hx
              subst hx
              cases isLoc (locMask fn c) j
              · exact Rel.of_sc ..
              · exact .any _
            · cases hx
          · -- a temporary of one region is no argument
            have h1 : d < fn.ntmps := by
              refine Nat.lt_of_not_le fun hle => ?_
              have := Nat.testBit_lt_two_pow (x := locMask fn c) (i := d) (Nat.lt_of_lt_of_le hm1 (Nat.pow_le_pow_right (by omega) hle))
              have hd' : Nat.testBit (locMask fn c) d = true := hd
              rw [this] at hd'; cases hd'
            have h2 : args.length ≤ d := by
              refine Nat.le_of_not_lt fun hlt => ?_
              have h3 := Nat.testBit_mod_two_pow (locMask fn c) args.length d
              have h4 : locMask fn c % 2 ^ args.length = 0 := hm2
              rw [h4] at h3
              have hd' : Nat.testBit (locMask fn c) d = true := hd
              rw [hd'] at h3
              simp [hlt] at h3
            show (initT (locMask fn c) args fn.ntmps)[d]? = some .any
            unfold initT
            rw [List.getElem?_append_right h2, List.getElem?_map, List.getElem?_range' (by omega)]
            have e : args.length + 1 * (d - args.length) = d := by omega
            simp only [Option.map_some, e]
            rw [show isLoc (locMask fn c) d = true from hd]
            rfl
        refine calls_of_wp hfn hb (wp_mono (acode_ok (E := E) (acall_ok hsm d) (det_acall d) hsm fn.tmpNames c h hs) fun e a' w' hp => ?_)
        obtain ⟨x, T', H', Pb', μ', rfl, hk, hs'⟩ := hp
        cases x with
        | normal =>
          obtain ⟨y, v, g1, g2, g3⟩ := resultsA_ok hk hs'.tm hs'.hp
          exact ⟨hs'.df, v, g1, y, H', v, Pb', μ', g2, rfl, g3, hs'.hp, hs'.go⟩
        | ret =>
          obtain ⟨y, v, g1, g2, g3⟩ := resultsA_ok hk hs'.tm hs'.hp
          exact ⟨hs'.df, v, g1, y, H', v, Pb', μ', g2, rfl, g3, hs'.hp, hs'.go⟩
        | exit id => exact hk.elim
        | goto l => exact hk.elim

/-- **What the evaluator tells of a call of trees holds of the model.** -/
theorem eval_ok (hsm : SummOk C) {d : Nat} {f : FuncId} {args : List AV} {k : AV → Out} (h : callPure (acall C d) f args k) : TreeCall C f args (fun r => Ok (k r)) := by
  intro Pb w vs h1 h2 h3
  refine (acall_ok hsm d f args [] _ h Pb noMu w.heap.size w vs h2 (heapRel_nil h1) h3).mono fun e w' ⟨r, H', v, Pb', μ', e1, e2, e3, e4, e5⟩ => ?_
  split at e1
  · rename_i t ht
    refine ⟨t, v, e1, e2, (fzR_ok e4 ht e3).mono (fun b hb => ?_) (fun _ _ _ h => h) ⟨fun _ _ => rfl, fun _ _ h => h⟩, e5.below⟩
    rcases hb with hb | hb
    · rcases e5.new b hb with h | h
      · exact .inl h
      · exact .inr ⟨h, e4.pb b hb⟩
    · exact .inr hb
  · exact e1.elim
end
end Go.Proofs.Ytgpijioodocplaa
