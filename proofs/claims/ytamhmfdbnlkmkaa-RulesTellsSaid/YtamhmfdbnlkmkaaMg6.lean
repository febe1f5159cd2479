/- The evaluator: SyAll, SyRun, SyPrune, SyLaw laid together. -/
import Derived.Test.YtamhmfdbnlkmkaaMg5
import Derived.Scope
import Derived.KernelRfl
/- Regions, loops, functions: what the evaluator tells of them holds. -/
set_option linter.unusedVariables false
set_option linter.unusedSectionVars false
set_option linter.unusedSimpArgs false
namespace Go.Proofs.Ytamhmfdbnlkmkaa
open Go Go.RowKit
variable [Obs]
section
variable {C : Ctx} {E : Entry} {Pb : Nat → Prop} {μ : Mu} {B0 : Nat} {w : World} {T : Tmps} {H : Heap} {a : Act}

/-! ### what a round forgets -/

theorem scrub_ok : ∀ (l : List Tmp) {T : Tmps}, RelL Pb μ w T a.tmps → RelL Pb μ w (scrub l T) a.tmps
  | [], _, h => h
  | t :: l, T, h => by
    refine scrub_ok l (T := T.set t .any) ⟨by simp [h.1], fun i x v hi hv => ?_⟩
    rw [List.getElem?_set] at hi
    by_cases hti : t = i
    · subst hti
      have : t < T.length := by
        rcases Nat.lt_or_ge t a.tmps.size with h' | h'
        · rw [h.1]; exact h'
        · simp [Array.getElem?_eq_none h'] at hv
      simp [this] at hi
      subst hi
      exact .any _
    · simp only [hti, if_false] at hi
      exact h.2 i x v hi hv

theorem scrub_loc {M : Nat} : ∀ (l : List Tmp) {T : Tmps}, LocT M T → LocT M (scrub l T)
  | [], _, h => h
  | t :: l, T, h => by
    refine scrub_loc l (T := T.set t .any) fun d hd => ?_
    have := h d hd
    by_cases htd : t = d
    · subst htd
      rw [List.getElem?_set_self (lt_of_get this)]
    · rw [List.getElem?_set_ne htd]; exact this

def muTo (n : Nat) (μ : Mu) : Mu := fun o ver => if o < n then μ o ver else none

theorem muTo_sub {n : Nat} {o ver b : Nat} (h : muTo n μ o ver = some b) : o < n ∧ μ o ver = some b := by
  unfold muTo at h
  split at h
  · exact ⟨by assumption, h⟩
  · cases h

theorem low_rel {n : Nat} : ∀ (d : Nat) {x : AV} {v : Value}, lowA d n x = true → Rel Pb μ w x v → Rel Pb (muTo n μ) w x v
  | d, .tc c, v, _, h => rel_tc_mu h
  | d, .any, v, _, h => .any _
  | d, .vptr s el i f, v, _, h => by
    cases h with | vptr _ _ _ b off _ g h1 h2 h3 h4 => exact .vptr _ _ _ b off _ g h1 h2 h3 h4
  | d, .ptr o s i f ver, v, hl, h => by
    have hlt : o < n := by cases d <;> simpa [lowA] using hl
    cases h with | ptr _ _ _ _ _ b hb => exact .ptr _ _ _ _ _ b (by simp [muTo, hlt, hb])
  | d, .slice o s i len cap ex ver, v, hl, h => by
    have hlt : o < n := by cases d <;> simpa [lowA] using hl
    cases h with | slice _ _ _ _ _ _ _ b off c hb h1 h2 h3 h4 h5 => exact .slice _ _ _ _ _ _ _ b off c (by simp [muTo, hlt, hb]) h1 h2 h3 h4 h5
  | d, .map o, v, hl, h => by
    have hlt : o < n := by cases d <;> simpa [lowA] using hl
    cases h with | map _ b hb => exact .map _ b (by simp [muTo, hlt, hb])
  | 0, .agg cs, v, hl, h => by simp [lowA] at hl
  | 0, .tuple cs, v, hl, h => by simp [lowA] at hl
  | 0, .func fn f c, v, hl, h => by simp [lowA] at hl
  | d + 1, .agg cs, v, hl, h => by
    simp only [lowA] at hl
    cases h with | agg _ vs h1 h2 => exact .agg _ _ h1 fun i x u hi hu => low_rel d (List.all_eq_true.1 hl x (List.mem_of_getElem? hi)) (h2 i x u hi hu)
  | d + 1, .tuple cs, v, hl, h => by
    simp only [lowA] at hl
    cases h with | tuple _ vs h1 h2 => exact .tuple _ _ h1 fun i x u hi hu => low_rel d (List.all_eq_true.1 hl x (List.mem_of_getElem? hi)) (h2 i x u hi hu)
  | d + 1, .func fn f c, v, hl, h => by
    simp only [lowA, Bool.and_eq_true] at hl
    cases h with | func _ _ _ vf vc h1 h2 h3 h4 => exact .func _ _ _ vf vc h1 h2 (fun i x u hi hu => low_rel d (List.all_eq_true.1 hl.1 x (List.mem_of_getElem? hi)) (h3 i x u hi hu)) (fun i x u hi hu => low_rel d (List.all_eq_true.1 hl.2 x (List.mem_of_getElem? hi)) (h4 i x u hi hu))

theorem trunc_ok {n0 : Nat} (h : SR C E Pb μ B0 w T H a) (hn : E.n ≤ n0) (hn' : n0 ≤ H.length) : ∃ μ', SR C E Pb μ' B0 w T (trunc n0 T H) a := by
  unfold trunc
  split
  · rename_i hc
    simp only [Bool.and_eq_true] at hc
    obtain ⟨h1, h2⟩ := hc
    have hget : ∀ o obj, (H.take n0)[o]? = some obj → o < n0 ∧ H[o]? = some obj := fun o obj ho => by
      rw [List.getElem?_take] at ho
      split at ho
      · exact ⟨by assumption, ho⟩
      · cases ho
    have hgl := h.gl
    refine ⟨muTo n0 μ, ⟨h.tm.1, fun i x v hi hv => low_rel 4 (List.all_eq_true.1 h1 x (List.mem_of_getElem? hi)) (h.tm.2 i x v hi hv)⟩, ⟨fun o ver b ho => ?_, fun o obj ho => ?_, fun o o' obj obj' b ho ho' hm hm' => ?_, h.hp.pb, h.hp.base⟩,
      (fun ob g s el hg => by
        have hx := hgl ob g s el hg
        letI := ob
        exact low_rel (Pb := Pb) (μ := μ) 0 rfl hx), h.df, ?_, h.dom, h.lo⟩
    · obtain ⟨hlt, hm⟩ := muTo_sub ho
      obtain ⟨obj, g1, g2⟩ := h.hp.dom _ _ _ hm
      exact ⟨obj, by rw [List.getElem?_take_of_lt hlt]; exact g1, g2⟩
    · obtain ⟨hlt, ho2⟩ := hget o obj ho
      have hlow := List.all_eq_true.1 h2 obj (List.mem_of_getElem? ho)
      have hob := h.hp.obj o obj ho2
      have hcr : ∀ {b s : Nat} {el : List (List AV)}, (∀ r, r ∈ el → r.all (lowA 4 n0) = true) → CellsRel Pb μ w b s el → CellsRel Pb (muTo n0 μ) w b s el := fun {b s el} hall ⟨q1, c, ty, fr, q2, q3, q4, q5⟩ =>
        ⟨q1, c, ty, fr, q2, q3, q4, fun i f r x hi hf => by
          obtain ⟨v, z1, z2, z3⟩ := q5 i f r x hi hf
          exact ⟨v, z1, z2, low_rel 4 (List.all_eq_true.1 (hall r (List.mem_of_getElem? hi)) x (List.mem_of_getElem? hf)) z3⟩⟩
      cases obj with
      | tcells s el =>
        obtain ⟨b, q1, q2, q3, q4⟩ := hob
        refine ⟨b, by simp [muTo, hlt, q1], q2, q3, hcr (fun r hr => ?_) q4⟩
        obtain ⟨r', _, rfl⟩ := List.mem_map.1 hr
        rw [List.all_eq_true]
        intro x hx
        simp only [tcs, List.mem_map] at hx
        obtain ⟨c, _, rfl⟩ := hx
        rfl
      | cells s el =>
        obtain ⟨b, q1, q2, q3, q4⟩ := hob
        exact ⟨b, by simp [muTo, hlt, q1], q2, q3, hcr (fun r hr => List.all_eq_true.1 hlow r hr) q4⟩
      | map es =>
        obtain ⟨b, q1, q2, q3, es', clock, q4, q5, q6⟩ := hob
        refine ⟨b, by simp [muTo, hlt, q1], q2, q3, es', clock, q4, q5, fun i e e' hi he => ⟨(q6 i e e' hi he).1, ?_⟩⟩
        exact low_rel 4 (List.all_eq_true.1 hlow e (List.mem_of_getElem? hi)) (q6 i e e' hi he).2
    · exact h.hp.inj o o' obj obj' b (hget _ _ ho).2 (hget _ _ ho').2 (muTo_sub hm).2 (muTo_sub hm').2
    · refine ⟨h.go.pb, fun o ver b ho => ?_, h.go.ext, h.go.below, by simp; omega, h.go.new⟩
      have := h.dom o ver b ho
      simp [muTo, show o < n0 by omega, h.go.mu o ver b ho]
  · exact ⟨μ, h⟩

theorem exists_least {p : Nat → Prop} (h : ∃ n, p n) : ∃ n, p n ∧ ∀ m, p m → n ≤ m := by
  obtain ⟨n, hn⟩ := h
  induction n using Nat.strongRecOn with
  | _ n ih =>
    by_cases hx : ∃ m, m < n ∧ p m
    · obtain ⟨m, h1, h2⟩ := hx
      exact ih m h1 h2
    · refine ⟨n, hn, fun m hm => ?_⟩
      rcases Nat.lt_or_ge m n with h | h
      · exact absurd ⟨m, h, hm⟩ hx
      · exact h

theorem wp_iter {body : Tmps → Heap → (AEx → Tmps → Heap → Out) → Out} {c : Code} {sl : List Tmp} {n0 : Nat} {sym : Bool} {K : AEx → Tmps → Heap → Out}
    (hbody : ∀ T H K Pb μ a w, body T H K → SR C E Pb μ B0 w T H a → n0 ≤ H.length → c.wp C.P (fun e a' w' => ∃ x T' H' Pb' μ', exOf x = e ∧ K x T' H' ∧ SR C E Pb' μ' B0 w' T' H' a' ∧ n0 ≤ H'.length) a w) (hn : E.n ≤ n0)
    {n : Nat} (h : iter body sl n0 sym n T H K) (hs : SR C E Pb μ B0 w T H a) (hlen : n0 ≤ H.length) : (Code.loop c).wp C.P (Post C E B0 K) a w := by
  classical
  let Inv : Nat → Act → World → Prop := fun n a w => ∃ T H Pb μ, iter body sl n0 sym n T H K ∧ SR C E Pb μ B0 w T H a ∧ n0 ≤ H.length
  let ms : Act → World → Nat := fun a w => if h : ∃ n, Inv n a w then Classical.choose (exists_least h) else 0
  refine wp_loop (fun a w => ∃ n, Inv n a w) ms ⟨n, T, H, Pb, μ, h, hs, hlen⟩ fun a w hI => ?_
  have hms : ms a w = Classical.choose (exists_least hI) := dif_pos hI
  obtain ⟨T, H, Pb, μ, hi, hsr, hl⟩ := (Classical.choose_spec (exists_least hI)).1
  rw [← hms] at hi
  cases hm : ms a w with
  | zero => rw [hm] at hi; exact hi.elim
  | succ m =>
    rw [hm] at hi
    simp only [iter] at hi
    have hs1 : SR C E Pb μ B0 w (roundT sym sl T) H a := by
      cases sym
      · exact hsr
      · exact { hsr with tm := scrub_ok sl hsr.tm, lo := scrub_loc sl hsr.lo }
    obtain ⟨μ', hs2, hl2⟩ : ∃ μ', SR C E Pb μ' B0 w (roundT sym sl T) (roundH sym n0 (roundT sym sl T) H) a ∧ n0 ≤ (roundH sym n0 (roundT sym sl T) H).length := by
      cases sym
      · exact ⟨μ, hs1, hl⟩
      · obtain ⟨μ', h'⟩ := trunc_ok hs1 hn hl
        refine ⟨μ', h', ?_⟩
        simp only [roundH, trunc]
        split
        · simp; omega
        · exact hl
    refine wp_mono (hbody _ _ _ _ _ _ _ hi hs2 hl2) fun e a' w' ⟨x, T', H', Pb', μ'', h1, h2, h3, h4⟩ => ?_
    subst h1
    cases x with
    | normal =>
      have hI' : ∃ n, Inv n a' w' := ⟨m, T', H', Pb', μ'', h2, h3, h4⟩
      refine ⟨hI', ?_⟩
      have : ms a' w' = Classical.choose (exists_least hI') := dif_pos hI'
      rw [this]
      exact Nat.lt_succ_of_le ((Classical.choose_spec (exists_least hI')).2 m ⟨T', H', Pb', μ'', h2, h3, h4⟩)
    | exit id => exact ⟨.exit id, T', H', Pb', μ'', rfl, h2, h3⟩
    | goto l => exact ⟨.goto l, T', H', Pb', μ'', rfl, h2, h3⟩
    | ret => exact ⟨.ret, T', H', Pb', μ'', rfl, h2, h3⟩

theorem SR.len (h : SR C E Pb μ B0 w T H a) : E.n ≤ H.length := h.go.len

theorem hasL_find (l : Nat) : ∀ c : Code, hasL l c = (findLabel c l).isSome
  | .seq a b => by
    simp only [hasL, findLabel, hasL_find l a, hasL_find l b]
    cases findLabel a l <;> simp
  | .label l' => by simp only [hasL, findLabel]; cases l' == l <;> rfl
  | .skip => rfl
  | .region .. => rfl
  | .cond .. => rfl
  | .block .. => rfl
  | .loop _ => rfl
  | .rangeFunc .. => rfl
  | .exit _ => rfl
  | .scope _ => rfl
  | .goto _ => rfl
  | .ret => rfl
  | .refuse _ => rfl

/-- A piece of code that is run inside a scope. -/
def InScope (P : Program) (c rest : Code) (Q : Exit → Act → World → Prop) (a : Act) (w : World) : Prop :=
  ∀ (b : Frame) (k : List Item) (cs : List Frame), ∃ e a' w', Q e a' w' ∧ Arrives P (lone (b.at a (.code rest :: .inScope c :: k)) cs w) b k cs e a' w'

/-- What holds behind a round of a scope: by a goto to a label of its own it goes on there. -/
def ScopeQ (P : Program) (c : Code) (Q : Exit → Act → World → Prop) : Exit → Act → World → Prop
  | .goto l, a, w => match findLabel c l with
    | some rest => InScope P c rest Q a w
    | none => Q (.goto l) a w
  | e, a, w => Q e a w

theorem inScope_of_wp {P : Program} {c rest : Code} {Q : Exit → Act → World → Prop} {a : Act} {w : World} (h : rest.wp P (ScopeQ P c Q) a w) : InScope P c rest Q a w := by
  intro b k cs
  obtain ⟨e, a₁, w₁, hq, harr⟩ := h b (.inScope c :: k) cs
  cases e with
  | normal => exact ⟨.normal, a₁, w₁, hq, Steps.trans harr (.one step_inScope)⟩
  | exit id => exact ⟨.exit id, a₁, w₁, hq, fun k' hk => harr k' (by simp [exitTo, hk])⟩
  | goto l =>
    simp only [ScopeQ] at hq
    split at hq
    · rename_i rest' hf
      obtain ⟨e₂, a₂, w₂, hq₂, harr₂⟩ := hq b k cs
      exact ⟨e₂, a₂, w₂, hq₂, .of_steps (harr _ (by simp [gotoIn, hf])) harr₂⟩
    · rename_i hf
      exact ⟨.goto l, a₁, w₁, hq, fun k' hk => harr k' (by simp [gotoIn, hf, hk])⟩
  | ret => exact ⟨_, a₁, w₁, hq, harr⟩
  | panic ch => exact ⟨_, a₁, w₁, hq, harr⟩
  | outgrown => exact ⟨_, a₁, w₁, hq, harr⟩

theorem wp_scope_in {P : Program} {c : Code} {Q : Exit → Act → World → Prop} {a : Act} {w : World} (h : InScope P c c Q a w) : (Code.scope c).wp P Q a w := by
  intro b k cs
  obtain ⟨e, a₁, w₁, hq, harr⟩ := h b k cs
  exact ⟨e, a₁, w₁, hq, .of_steps (.one step_scope) harr⟩

/-- What is told of code from its begin on, or from a label on. -/
def RunsM (C : Ctx) (E : Entry) (B0 : Nat) (K : AEx → Tmps → Heap → Out) (c : Code) (a : Act) (w : World) : Option Nat → Prop
  | none => c.wp C.P (Post C E B0 K) a w
  | some l => ∃ rest, findLabel c l = some rest ∧ rest.wp C.P (Post C E B0 K) a w

theorem iterS_ok {b : Code} {body : Option Nat → Tmps → Heap → (AEx → Tmps → Heap → Out) → Out} {K : AEx → Tmps → Heap → Out}
    (hbody : ∀ m T H K Pb μ a w, body m T H K → SR C E Pb μ B0 w T H a → RunsM C E B0 K b a w m) :
    ∀ (n : Nat) (m : Option Nat) {T H Pb μ a w}, iterS body (fun l => hasL l b) n m T H K → SR C E Pb μ B0 w T H a →
      match m with
      | none => InScope C.P b b (Post C E B0 K) a w
      | some l => ∃ rest, findLabel b l = some rest ∧ InScope C.P b rest (Post C E B0 K) a w
  | 0, m, T, H, Pb, μ, a, w, h, hs => h.elim
  | n + 1, m, T, H, Pb, μ, a, w, h, hs => by
    simp only [iterS] at h
    have hb := hbody _ _ _ _ _ _ _ _ h hs
    have key : ∀ {e : Exit} {a' : Act} {w' : World}, Post C E B0 (fun e T2 H2 => match e with
        | .goto l => cond (hasL l b) (iterS body (fun l => hasL l b) n (some l) T2 H2 K) (K (.goto l) T2 H2)
        | e => K e T2 H2) e a' w' → ScopeQ C.P b (Post C E B0 K) e a' w' := by
      rintro _ a' w' ⟨x, T', H', Pb', μ', rfl, hk, hs'⟩
      cases x with
      | normal => exact ⟨.normal, T', H', Pb', μ', rfl, hk, hs'⟩
      | exit id => exact ⟨.exit id, T', H', Pb', μ', rfl, hk, hs'⟩
      | ret => exact ⟨.ret, T', H', Pb', μ', rfl, hk, hs'⟩
      | goto l =>
        simp only [exOf, ScopeQ]
        have hfl := hasL_find l b
        rcases cond_split hk with ⟨hh, hk⟩ | ⟨hh, hk⟩
        · have ih := iterS_ok hbody n (some l) hk hs'
          simp only at ih
          obtain ⟨rest, h1, h2⟩ := ih
          rw [h1]
          exact h2
        · rw [hh] at hfl
          cases hf : findLabel b l with
          | some r => rw [hf] at hfl; simp at hfl
          | none => exact ⟨.goto l, T', H', Pb', μ', rfl, hk, hs'⟩
    cases m with
    | none => exact inScope_of_wp (wp_mono hb fun e a' w' hp => key hp)
    | some l =>
      obtain ⟨rest, h1, h2⟩ := hb
      exact ⟨rest, h1, inScope_of_wp (wp_mono h2 fun e a' w' hp => key hp)⟩

theorem wp_seq_post {call : Caller} {nm : Array String} {x y : Code} {K : AEx → Tmps → Heap → Out}
    (hx : x.wp C.P (Post C E B0 (fun e T' H' => match e with
      | .normal => acodeM C call nm E.M y none T' H' K
      | e => K e T' H')) a w)
    (hy : ∀ {T' H' Pb' μ' a' w'}, acodeM C call nm E.M y none T' H' K → SR C E Pb' μ' B0 w' T' H' a' → y.wp C.P (Post C E B0 K) a' w') : (Code.seq x y).wp C.P (Post C E B0 K) a w := by
  refine wp_seq (wp_mono hx fun e a' w' hp => ?_)
  obtain ⟨e', T', H', Pb', μ', rfl, hk, hs'⟩ := hp
  cases e' with
  | normal => exact hy hk hs'
  | exit id => exact ⟨.exit id, T', H', Pb', μ', rfl, hk, hs'⟩
  | goto l => exact ⟨.goto l, T', H', Pb', μ', rfl, hk, hs'⟩
  | ret => exact ⟨.ret, T', H', Pb', μ', rfl, hk, hs'⟩

/-- The heap never gets shorter than it was where the walk began. -/
theorem acodeM_ok {call : Caller} (hc : CallOk C call) (hd : DetC call) (hsm : SummOk C) (nm : Array String) : ∀ (c : Code) (m : Option Nat) {E : Entry} {T : Tmps} {H : Heap} {K : AEx → Tmps → Heap → Out} {Pb : Nat → Prop} {μ : Mu} {a : Act} {w : World},
    acodeM C call nm E.M c m T H K → SR C E Pb μ B0 w T H a → RunsM C E B0 K c a w m
  | .skip, none, E, T, H, K, Pb, μ, a, w, h, hs => wp_skip ⟨.normal, T, H, Pb, μ, rfl, h, hs⟩
  | .label l, none, E, T, H, K, Pb, μ, a, w, h, hs => wp_label ⟨.normal, T, H, Pb, μ, rfl, h, hs⟩
  | .region id ops draw, none, E, T, H, K, Pb, μ, a, w, h, hs => by
    simp only [acodeM] at h
    cases draw with
    | false => exact wp_region_list (aops_ok hc hsm (fun T H Pb μ a w h hs => ⟨.normal, T, H, Pb, μ, rfl, h, hs⟩) ops.toList h (SRL.begin hs))
    | true =>
      have hcf := cond_false h; clear h; obtain ⟨hcc, h⟩ := hcf
      exact wp_region_any hcc (aopsD_ok (E := E) hc hd hsm h (fun T H Pb μ a w hk hs => ⟨.normal, T, H, Pb, μ, rfl, hk, hs⟩) (hs.below (below_drew w)))
  | .seq x y, none, E, T, H, K, Pb, μ, a, w, h, hs => by
    simp only [acodeM] at h
    exact wp_seq_post (acodeM_ok hc hd hsm nm x none h hs) fun hk hs' => acodeM_ok hc hd hsm nm y none hk hs'
  | .seq x y, some l, E, T, H, K, Pb, μ, a, w, h, hs => by
    simp only [acodeM] at h
    have hfl := hasL_find l x
    split at h
    · rename_i hh
      obtain ⟨rest, h1, h2⟩ := acodeM_ok hc hd hsm nm x (some l) h hs
      exact ⟨.seq rest y, by simp only [findLabel, h1], wp_seq_post h2 fun hk hs' => acodeM_ok hc hd hsm nm y none hk hs'⟩
    · rename_i hh
      obtain ⟨rest, h1, h2⟩ := acodeM_ok hc hd hsm nm y (some l) h hs
      rw [hh] at hfl
      cases hf : findLabel x l with
      | some r => rw [hf] at hfl; simp at hfl
      | none => exact ⟨rest, by simp only [findLabel, hf, h1], h2⟩
  | .label l', some l, E, T, H, K, Pb, μ, a, w, h, hs => by
    simp only [acodeM] at h
    obtain ⟨h1, h2⟩ := cond_false h
    exact ⟨.skip, by simp only [findLabel, h1]; rfl, wp_skip ⟨.normal, T, H, Pb, μ, rfl, h2, hs⟩⟩
  | .cond c x y, none, E, T, H, K, Pb, μ, a, w, h, hs => by
    simp only [acodeM] at h
    rcases condA_ok h (ev_ok hs.tm.look hs.gl c) with ⟨hv, hy⟩ | ⟨hv, hy⟩
    · exact wp_cond hv (acodeM_ok hc hd hsm nm x none hy hs)
    · exact wp_cond hv (acodeM_ok hc hd hsm nm y none hy hs)
  | .block id b, none, E, T, H, K, Pb, μ, a, w, h, hs => by
    simp only [acodeM] at h
    refine wp_block (wp_mono (acodeM_ok hc hd hsm nm b none h hs) fun e a' w' hp => ?_)
    obtain ⟨e', T', H', Pb', μ', rfl, hk, hs'⟩ := hp
    cases e' with
    | normal => exact ⟨.normal, T', H', Pb', μ', rfl, hk, hs'⟩
    | exit id' =>
      simp only [exOf, Exit.inBlock]
      rcases cond_split hk with ⟨hid, hk⟩ | ⟨hid, hk⟩
      · simp only [decide_eq_true_eq] at hid
        rw [if_pos hid]
        exact ⟨.normal, T', H', Pb', μ', rfl, hk, hs'⟩
      · simp only [decide_eq_false_iff_not] at hid
        rw [if_neg hid]
        exact ⟨.exit id', T', H', Pb', μ', rfl, hk, hs'⟩
    | goto l => exact ⟨.goto l, T', H', Pb', μ', rfl, hk, hs'⟩
    | ret => exact ⟨.ret, T', H', Pb', μ', rfl, hk, hs'⟩
  | .loop b, none, E, T, H, K, Pb, μ, a, w, h, hs => by
    simp only [acodeM] at h
    -- inside, the walk may be said to begin where the loop does: no object that was there goes
    let E2 : Entry := ⟨Pb, μ, w, H.length, E.M⟩
    have hs2 : SR C E2 Pb μ B0 w T H a := { hs with go := Goes.refl .., dom := fun o ver b ho => by obtain ⟨obj, g, _⟩ := hs.hp.dom _ _ _ ho; exact lt_of_get g }
    have := wp_iter (C := C) (E := E2) (B0 := B0) (c := b) (K := K) (n0 := H.length) (fun T1 H1 K1 Pb1 μ1 a1 w1 hb1 hs1 hl1 => by
      have := acodeM_ok (E := E2) hc hd hsm nm b none hb1 hs1
      refine wp_mono this fun e a' w' ⟨x, T', H', Pb', μ', g1, g2, g3⟩ => ⟨x, T', H', Pb', μ', g1, g2, g3, g3.len⟩) (Nat.le_refl _) h hs2 (Nat.le_refl _)
    refine wp_mono this fun e a' w' ⟨x, T', H', Pb', μ', g1, g2, g3⟩ => ⟨x, T', H', Pb', μ', g1, g2, { g3 with go := hs.go.trans g3.go, dom := hs.dom }⟩
  | .scope b, none, E, T, H, K, Pb, μ, a, w, h, hs => by
    simp only [acodeM] at h
    exact wp_scope_in (iterS_ok (C := C) (E := E) (B0 := B0) (b := b) (fun m T1 H1 K1 Pb1 μ1 a1 w1 hb1 hs1 => acodeM_ok hc hd hsm nm b m hb1 hs1) C.L none h hs)
  | .exit id, none, E, T, H, K, Pb, μ, a, w, h, hs => wp_exit ⟨.exit id, T, H, Pb, μ, rfl, h, hs⟩
  | .ret, none, E, T, H, K, Pb, μ, a, w, h, hs => wp_ret ⟨.ret, T, H, Pb, μ, rfl, h, hs⟩
  | .goto l, none, E, T, H, K, Pb, μ, a, w, h, hs => wp_goto ⟨.goto l, T, H, Pb, μ, rfl, h, hs⟩
  | .rangeFunc .., none, E, T, H, K, Pb, μ, a, w, h, hs => by simp [acodeM] at h
  | .refuse _, none, E, T, H, K, Pb, μ, a, w, h, hs => by simp [acodeM] at h
  | .skip, some _, E, T, H, K, Pb, μ, a, w, h, hs => by simp [acodeM] at h
  | .region .., some _, E, T, H, K, Pb, μ, a, w, h, hs => by simp [acodeM] at h
  | .cond .., some _, E, T, H, K, Pb, μ, a, w, h, hs => by simp [acodeM] at h
  | .block .., some _, E, T, H, K, Pb, μ, a, w, h, hs => by simp [acodeM] at h
  | .loop _, some _, E, T, H, K, Pb, μ, a, w, h, hs => by simp [acodeM] at h
  | .scope _, some _, E, T, H, K, Pb, μ, a, w, h, hs => by simp [acodeM] at h
  | .exit _, some _, E, T, H, K, Pb, μ, a, w, h, hs => by simp [acodeM] at h
  | .ret, some _, E, T, H, K, Pb, μ, a, w, h, hs => by simp [acodeM] at h
  | .goto _, some _, E, T, H, K, Pb, μ, a, w, h, hs => by simp [acodeM] at h
  | .rangeFunc .., some _, E, T, H, K, Pb, μ, a, w, h, hs => by simp [acodeM] at h
  | .refuse _, some _, E, T, H, K, Pb, μ, a, w, h, hs => by simp [acodeM] at h

theorem acode_ok {call : Caller} (hc : CallOk C call) (hd : DetC call) (hsm : SummOk C) (nm : Array String) (c : Code) {E : Entry} {T : Tmps} {H : Heap} {K : AEx → Tmps → Heap → Out} {Pb : Nat → Prop} {μ : Mu} {a : Act} {w : World}
    (h : acode C call nm E.M c T H K) (hs : SR C E Pb μ B0 w T H a) : c.wp C.P (Post C E B0 K) a w := acodeM_ok hc hd hsm nm c none h hs

def resOne (a : Act) : ResultVar → Sem Value
  | .tmp t => pure (a.tmps.getD t undef)
  | .cell p t => do loadVar t (← asAddr (a.tmps.getD p undef))

theorem resultsA_go {k : AV → Out} (hT : RelL Pb μ w T a.tmps) (hH : HeapRel Pb μ B0 w H) : ∀ (l : List ResultVar) {acc : List AV} {vacc : List Value}, resultsA.go C T H k l acc →
    acc.length = vacc.length → (∀ (i : Nat) (x : AV) (v : Value), acc[i]? = some x → vacc[i]? = some v → Rel Pb μ w x v) →
    ∃ (vs : List Value) (x : AV) (v : Value), (l.mapM (resOne a)).run C.P w = .ok vs w ∧
      v = (match vacc.reverse ++ vs with | [v] => v | l => .tuple l.toArray) ∧ k x ∧ Rel Pb μ w x v
  | [], acc, vacc, h, hl, hr => by
    refine ⟨[], ?_⟩
    simp only [resultsA.go] at h
    split at h
    · rename_i x
      obtain ⟨v, rfl⟩ : ∃ v, vacc = [v] := by
        cases vacc with
        | nil => simp at hl
        | cons v r => cases r with
          | nil => exact ⟨v, rfl⟩
          | cons _ _ => simp at hl
      exact ⟨x, v, rfl, rfl, h, hr 0 x v rfl rfl⟩
    · rename_i hne
      refine ⟨.tuple acc.reverse, .tuple vacc.reverse.toArray, rfl, ?_, h, .tuple _ _ (by simp [hl]) fun i x v hi hv => ?_⟩
      · simp only [List.append_nil]
        split
        · rename_i v hv
          exfalso
          have : acc.length = 1 := by rw [hl, ← List.length_reverse, hv]; rfl
          match acc, this with
          | [x], _ => exact hne x rfl
        · rfl
      · simp only [List.getElem?_toArray] at hv
        have h1 := lt_of_get hi
        have h2 := lt_of_get hv
        simp only [List.length_reverse] at h1 h2
        rw [List.getElem?_reverse h1] at hi
        rw [List.getElem?_reverse h2, ← hl] at hv
        exact hr _ x v hi hv
  | .tmp t :: r, acc, vacc, h, hl, hr => by
    simp only [resultsA.go] at h
    obtain ⟨vs, x, v, h1, h2, h3⟩ := resultsA_go hT hH r (vacc := a.tmps.getD t undef :: vacc) h (by simp [hl]) (fun i x v hi hv => by
      cases i with
      | zero => simp only [List.getElem?_cons_zero, Option.some.injEq] at hi hv; subst hi; subst hv; exact hT.getD t
      | succ i => exact hr i x v (by simpa using hi) (by simpa using hv))
    refine ⟨a.tmps.getD t undef :: vs, x, v, ?_, by simpa using h2, h3⟩
    simp only [List.mapM_cons, Sem.run_bind, resOne, Sem.run_pure, Result.andThen, h1]
  | .cell p t :: r, acc, vacc, h, hl, hr => by
    simp only [resultsA.go] at h
    split at h
    · rename_i ti ht
      have hp := hT.getD p
      obtain ⟨y, u, g1, g2, g3⟩ := loadA_ok ht h hp hH
      obtain ⟨vs, x, v, h1, h2, h3⟩ := resultsA_go hT hH r (vacc := u :: vacc) g1 (by simp [hl]) (fun i x v hi hv => by
        cases i with
        | zero => simp only [List.getElem?_cons_zero, Option.some.injEq] at hi hv; subst hi; subst hv; exact g2
        | succ i => exact hr i x v (by simpa using hi) (by simpa using hv))
      refine ⟨u :: vs, x, v, ?_, by simpa using h2, h3⟩
      have hld := g3 w (Same.refl w)
      have hptr : ∃ q, a.tmps.getD p undef = .pointer (some q) := by
        generalize T.getD p undefA = z at h hp
        generalize a.tmps.getD p undef = y at hp
        cases hp <;> first | exact ⟨_, rfl⟩ | (simp [loadA] at h)
      obtain ⟨q, hq⟩ := hptr
      rw [hq] at hld
      have hld' : (loadVar t q).run C.P w = .ok u w := by simpa [Instr.loadAt, Instr.sureAddr] using hld
      simp only [List.mapM_cons, Sem.run_bind, resOne, hq, asAddr, Sem.run_pure, Result.andThen, hld', h1]
    · exact h.elim

theorem resultsA_ok {fn : Func} {k : AV → Out} (h : resultsA C fn T H k) (hT : RelL Pb μ w T a.tmps) (hH : HeapRel Pb μ B0 w H) : ∃ x v, (results fn a.tmps).run C.P w = .ok v w ∧ k x ∧ Rel Pb μ w x v := by
  obtain ⟨vs, x, v, h1, h2, h3, h4⟩ := resultsA_go hT hH fn.results.toList (vacc := []) h rfl (fun i x v hi => by simp at hi)
  refine ⟨x, v, ?_, h3, h4⟩
  have e : results fn a.tmps = (do
      let vs ← fn.results.mapM (resOne a)
      pure (if h : vs.size = 1 then vs[0] else .tuple vs)) := by
    unfold results
    have : (fun x => match x with
        | ResultVar.tmp t => (pure (a.tmps.getD t undef) : Sem Value)
        | ResultVar.cell p t => do loadVar t (← asAddr (a.tmps.getD p undef))) = resOne a := by funext x; cases x <;> rfl
    rw [← this]
    rfl
  rw [e, Array.mapM_eq_mapM_toList]
  simp only [Sem.run_bind, Sem.run_map, h1, Result.andThen, Sem.run_pure]
  congr 1
  rw [h2]
  simp only [List.reverse_nil, List.nil_append]
  match vs with
  | [] => rfl
  | [u] => rfl
  | u :: v :: r => simp

theorem acall_ok (hsm : SummOk C) : ∀ d, CallOk C (acall C d)
  | 0 => fun f args H k h => h.elim
  | d + 1 => fun f args H k h Pb μ B0 w vs hv hH hG => by
    simp only [acall] at h
    split at h
    · exact h.elim
    · rename_i fn hfn
      split at h
      · exact h.elim
      · rename_i c hb
        obtain ⟨hmask, h⟩ := cond_false h
        simp only [Bool.and_eq_true, decide_eq_true_eq] at hmask
        obtain ⟨hm1, hm2⟩ := hmask
        let E : Entry := ⟨Pb, μ, w, H.length, locMask fn c⟩
        have hs : SR C E Pb μ B0 w (initT (locMask fn c) args fn.ntmps) H { tmps := vs ++ Array.replicate (fn.ntmps - vs.size) undef, defers := [] } := by
          refine ⟨relL_append hv ⟨by simp [hv.1], fun i x v hi hx => ?_⟩, hH, hG, rfl, Goes.refl .., fun o ver b ho => by obtain ⟨obj, g, _⟩ := hH.dom _ _ _ ho; exact lt_of_get g, fun d hd => ?_⟩
          · rw [List.getElem?_map, Option.map_eq_some_iff] at hi
            obtain ⟨j, _, rfl⟩ := hi
            rw [Array.getElem?_replicate] at hx
            split at hx
            · simp only [Option.some.injEq] at hx
              subst hx
              cases isLoc (locMask fn c) j
              · exact Rel.of_sc ..
              · exact .any _
            · cases hx
          · -- a temporary of one region is no argument
            have h1 : d < fn.ntmps := by
              refine Nat.lt_of_not_le fun hle => ?_
              have := Nat.testBit_lt_two_pow (x := locMask fn c) (i := d) (Nat.lt_of_lt_of_le hm1 (Nat.pow_le_pow_right (by omega) hle))
              have hd' : Nat.testBit (locMask fn c) d = true := hd
              rw [this] at hd'; cases hd'
            have h2 : args.length ≤ d := by
              refine Nat.le_of_not_lt fun hlt => ?_
              have h3 := Nat.testBit_mod_two_pow (locMask fn c) args.length d
              have h4 : locMask fn c % 2 ^ args.length = 0 := hm2
              rw [h4] at h3
              have hd' : Nat.testBit (locMask fn c) d = true := hd
              rw [hd'] at h3
              simp [hlt] at h3
            show (initT (locMask fn c) args fn.ntmps)[d]? = some .any
            unfold initT
            rw [List.getElem?_append_right h2, List.getElem?_map, List.getElem?_range' (by omega)]
            have e : args.length + 1 * (d - args.length) = d := by omega
            simp only [Option.map_some, e]
            rw [show isLoc (locMask fn c) d = true from hd]
            rfl
        refine calls_of_wp hfn hb (wp_mono (acode_ok (E := E) (acall_ok hsm d) (det_acall d) hsm fn.tmpNames c h hs) fun e a' w' hp => ?_)
        obtain ⟨x, T', H', Pb', μ', rfl, hk, hs'⟩ := hp
        cases x with
        | normal =>
          obtain ⟨y, v, g1, g2, g3⟩ := resultsA_ok hk hs'.tm hs'.hp
          exact ⟨hs'.df, v, g1, y, H', v, Pb', μ', g2, rfl, g3, hs'.hp, hs'.go⟩
        | ret =>
          obtain ⟨y, v, g1, g2, g3⟩ := resultsA_ok hk hs'.tm hs'.hp
          exact ⟨hs'.df, v, g1, y, H', v, Pb', μ', g2, rfl, g3, hs'.hp, hs'.go⟩
        | exit id => exact hk.elim
        | goto l => exact hk.elim

/-- **What the evaluator tells of a call of trees holds of the model.** -/
theorem eval_ok (hsm : SummOk C) {d : Nat} {f : FuncId} {args : List AV} {k : AV → Out} (h : callPure (acall C d) f args k) : TreeCall C f args (fun r => Ok (k r)) := by
  intro Pb w vs h1 h2 h3
  refine (acall_ok hsm d f args [] _ h Pb noMu w.heap.size w vs h2 (heapRel_nil h1) h3).mono fun e w' ⟨r, H', v, Pb', μ', e1, e2, e3, e4, e5⟩ => ?_
  split at e1
  · rename_i t ht
    refine ⟨t, v, e1, e2, (fzR_ok e4 ht e3).mono (fun b hb => ?_) (fun _ _ _ h => h) ⟨fun _ _ => rfl, fun _ _ h => h⟩, e5.below⟩
    rcases hb with hb | hb
    · rcases e5.new b hb with h | h
      · exact .inl h
      · exact .inr ⟨h, e4.pb b hb⟩
    · exact .inr hb
  · exact e1.elim
end
end Go.Proofs.Ytamhmfdbnlkmkaa

/- Runs over expressions: what they tell for any values of the variables. -/
set_option linter.unusedVariables false
set_option linter.unusedSectionVars false
set_option linter.unusedSimpArgs false
namespace Go.Proofs.Ytamhmfdbnlkmkaa
open Go Go.RowKit

/-! ### values for the variables -/
mutual
def concT (ρ : Env) : TC → TC
  | .sc v => .sc v
  | .sy t e => .sc (t.val (den ρ e))
  | .sl s el => .sl s (concE ρ el)
def concR (ρ : Env) : List TC → List TC
  | [] => []
  | c :: r => concT ρ c :: concR ρ r
def concE (ρ : Env) : List (List TC) → List (List TC)
  | [] => []
  | c :: r => concR ρ c :: concE ρ r
end

theorem concR_get (ρ : Env) : ∀ (l : List TC) (i : Nat), (concR ρ l)[i]? = l[i]?.map (concT ρ)
  | [], i => by simp [concR]
  | a :: r, 0 => by simp [concR]
  | a :: r, i + 1 => by simp [concR, concR_get ρ r i]

theorem concE_get (ρ : Env) : ∀ (l : List (List TC)) (i : Nat), (concE ρ l)[i]? = l[i]?.map (concR ρ)
  | [], i => by simp [concE]
  | a :: r, 0 => by simp [concE]
  | a :: r, i + 1 => by simp [concE, concE_get ρ r i]

theorem concR_len (ρ : Env) : ∀ (l : List TC), (concR ρ l).length = l.length
  | [] => rfl
  | a :: r => by simp [concR, concR_len ρ r]

theorem concE_len (ρ : Env) : ∀ (l : List (List TC)), (concE ρ l).length = l.length
  | [] => rfl
  | a :: r => by simp [concE, concE_len ρ r]

mutual
def conc (ρ : Env) : AV → AV
  | .tc c => .tc (concT ρ c)
  | .any => .any
  | .agg cs => .agg (concs ρ cs)
  | .tuple cs => .tuple (concs ρ cs)
  | .ptr o s i f ver => .ptr o s i f ver
  | .vptr s el i f => .vptr s (concE ρ el) i f
  | .slice o s i len cap ex ver => .slice o s i len cap ex ver
  | .map o => .map o
  | .func fn a b => .func fn (concs ρ a) (concs ρ b)
def concs (ρ : Env) : List AV → List AV
  | [] => []
  | a :: r => conc ρ a :: concs ρ r
end

theorem concs_get (ρ : Env) : ∀ (l : List AV) (i : Nat), (concs ρ l)[i]? = l[i]?.map (conc ρ)
  | [], i => by simp [concs]
  | a :: r, 0 => by simp [concs]
  | a :: r, i + 1 => by simp [concs, concs_get ρ r i]

theorem concs_len (ρ : Env) : ∀ (l : List AV), (concs ρ l).length = l.length
  | [] => rfl
  | a :: r => by simp [concs, concs_len ρ r]

section
variable {ρ : Env} {Q : AV → Prop} {ob : Obs} {Pb : Nat → Prop} {μ : Mu} {w : World}

theorem RT.conc {c : TC} {v : Value} (h : @RT ⟨ρ, Q⟩ Pb w c v) : @RT ob Pb w (concT ρ c) v := by
  induction h with
  | sc v => exact @RT.sc ob _ _ _
  | sy t e => exact @RT.sc ob _ _ _
  | nil s => exact @RT.nil ob _ _ _
  | sl s b o cap el g hl hb hs hc hr ih =>
    have key : ∀ (i f : Nat) (r : List TC) (c : TC), (concE ρ el)[i]? = some r → r[f]? = some c → ∃ r' c', el[i]? = some r' ∧ r'[f]? = some c' ∧ c = concT ρ c' := fun i f r c hi hf => by
      rw [concE_get, Option.map_eq_some_iff] at hi
      obtain ⟨r', hr', rfl⟩ := hi
      rw [concR_get, Option.map_eq_some_iff] at hf
      obtain ⟨c', hc', rfl⟩ := hf
      exact ⟨r', c', hr', hc', rfl⟩
    have hsl := @RT.sl ob Pb w s b o cap (concE ρ el) g (by rw [concE_len]; exact hl) (fun hne => hb fun h0 => hne (by rw [h0]; rfl))
      (fun r hr => by
        obtain ⟨i, hi⟩ := List.mem_iff_getElem?.1 hr
        rw [concE_get, Option.map_eq_some_iff] at hi
        obtain ⟨r', hr', rfl⟩ := hi
        rw [concR_len]; exact hs r' (List.mem_of_getElem? hr'))
      (fun i f r c hi hf => by
        obtain ⟨r', c', h1, h2, rfl⟩ := key i f r c hi hf
        exact hc i f r' c' h1 h2)
      (fun i f r c hi hf => by
        obtain ⟨r', c', h1, h2, rfl⟩ := key i f r c hi hf
        exact ih i f r' c' h1 h2)
    rw [concE_len] at hsl
    exact hsl

theorem RT.unconc {c' : TC} {v : Value} (h : @RT ob Pb w c' v) : ∀ {c : TC}, concT ρ c = c' → @RT ⟨ρ, Q⟩ Pb w c v := by
  letI : Obs := ⟨ρ, Q⟩
  induction h with
  | sc v =>
    intro c hc
    cases c with
    | sc u => simp only [concT, TC.sc.injEq] at hc; subst hc; exact .sc _
    | sy t e => simp only [concT, TC.sc.injEq] at hc; subst hc; exact .sy t e
    | sl s el => simp [concT] at hc
  | sy t e =>
    intro c hc
    cases c <;> simp [concT] at hc
  | nil s =>
    intro c hc
    cases c with
    | sc u => simp [concT] at hc
    | sy t e => simp [concT] at hc
    | sl s' el =>
      simp only [concT, TC.sl.injEq] at hc
      obtain ⟨rfl, h2⟩ := hc
      cases el with
      | nil => exact .nil _
      | cons a r => simp [concE] at h2
  | sl s b o cap el g hl hb hs hc hr ih =>
    intro c hcc
    cases c with
    | sc u => simp [concT] at hcc
    | sy t e => simp [concT] at hcc
    | sl s' el' =>
      simp only [concT, TC.sl.injEq] at hcc
      obtain ⟨rfl, rfl⟩ := hcc
      rw [concE_len] at hl ⊢
      refine .sl s' b o cap el' g hl (fun hne => hb fun h0 => hne ?_) (fun r hr => ?_) (fun i f r c hi hf => ?_) (fun i f r c hi hf => ?_)
      · cases el' with
        | nil => rfl
        | cons a r => simp [concE] at h0
      · obtain ⟨i, hi⟩ := List.mem_iff_getElem?.1 hr
        have := hs (concR ρ r) (List.mem_of_getElem? (i := i) (by rw [concE_get, hi]; rfl))
        rw [concR_len] at this
        exact this
      · exact hc i f (concR ρ r) (concT ρ c) (by rw [concE_get, hi]; rfl) (by rw [concR_get, hf]; rfl)
      · exact ih i f (concR ρ r) (concT ρ c) (by rw [concE_get, hi]; rfl) (by rw [concR_get, hf]; rfl) rfl

theorem Rel.conc {a : AV} {v : Value} (h : @Rel ⟨ρ, Q⟩ Pb μ w a v) : @Rel ob Pb μ w (conc ρ a) v := by
  have gets : ∀ {l : List AV} {i : Nat} {x : AV}, (concs ρ l)[i]? = some x → ∃ y, l[i]? = some y ∧ x = Go.Proofs.Ytamhmfdbnlkmkaa.conc ρ y := fun {l i x} hi => by
    rw [concs_get, Option.map_eq_some_iff] at hi
    obtain ⟨y, h1, h2⟩ := hi
    exact ⟨y, h1, h2.symm⟩
  induction h with
  | tc c v h => exact @Rel.tc ob _ _ _ _ _ h.conc
  | any v => exact @Rel.any ob _ _ _ _
  | agg cs vs hl h ih =>
    refine @Rel.agg ob _ _ _ _ _ (by rw [concs_len]; exact hl) fun i x u hi hu => ?_
    obtain ⟨y, h1, rfl⟩ := gets hi
    exact ih i y u h1 hu
  | tuple cs vs hl h ih =>
    refine @Rel.tuple ob _ _ _ _ _ (by rw [concs_len]; exact hl) fun i x u hi hu => ?_
    obtain ⟨y, h1, rfl⟩ := gets hi
    exact ih i y u h1 hu
  | ptr o s i f ver b h => exact @Rel.ptr ob _ _ _ o s i f ver b h
  | vptr s i f b off el g hb hs hc hr =>
    have key : ∀ (i f : Nat) (r : List TC) (c : TC), (concE ρ el)[i]? = some r → r[f]? = some c → ∃ r' c', el[i]? = some r' ∧ r'[f]? = some c' ∧ c = concT ρ c' := fun i f r c hi hf => by
      rw [concE_get, Option.map_eq_some_iff] at hi
      obtain ⟨r', hr', rfl⟩ := hi
      rw [concR_get, Option.map_eq_some_iff] at hf
      obtain ⟨c', hc', rfl⟩ := hf
      exact ⟨r', c', hr', hc', rfl⟩
    refine @Rel.vptr ob _ _ _ s i f b off (concE ρ el) g (fun hne => hb fun h0 => hne (by rw [h0]; rfl)) (fun r hr => ?_) (fun i f r c hi hf => ?_) (fun i f r c hi hf => ?_)
    · obtain ⟨i, hi⟩ := List.mem_iff_getElem?.1 hr
      rw [concE_get, Option.map_eq_some_iff] at hi
      obtain ⟨r', hr', rfl⟩ := hi
      rw [concR_len]; exact hs r' (List.mem_of_getElem? hr')
    · obtain ⟨r', c', h1, h2, rfl⟩ := key i f r c hi hf
      exact hc i f r' c' h1 h2
    · obtain ⟨r', c', h1, h2, rfl⟩ := key i f r c hi hf
      exact (hr i f r' c' h1 h2).conc
  | slice o s i len cap ex ver b off c h h1 h2 h3 h4 h5 => exact @Rel.slice ob _ _ _ o s i len cap ex ver b off c h h1 h2 h3 h4 h5
  | map o b h => exact @Rel.map ob _ _ _ o b h
  | func fn first cap vf vc hl hl' h h' ih ih' =>
    refine @Rel.func ob _ _ _ _ _ _ _ _ (by rw [concs_len]; exact hl) (by rw [concs_len]; exact hl') (fun i x u hi hu => ?_) (fun i x u hi hu => ?_)
    · obtain ⟨y, h1, rfl⟩ := gets hi
      exact ih i y u h1 hu
    · obtain ⟨y, h1, rfl⟩ := gets hi
      exact ih' i y u h1 hu

theorem Rel.unconc {a' : AV} {v : Value} (h : @Rel ob Pb μ w a' v) : ∀ {a : AV}, Go.Proofs.Ytamhmfdbnlkmkaa.conc ρ a = a' → @Rel ⟨ρ, Q⟩ Pb μ w a v := by
  letI : Obs := ⟨ρ, Q⟩
  have gets : ∀ {l : List AV} {i : Nat} {x : AV}, l[i]? = some x → (concs ρ l)[i]? = some (Go.Proofs.Ytamhmfdbnlkmkaa.conc ρ x) := fun {l i x} hi => by rw [concs_get, hi]; rfl
  induction h with
  | tc c v h =>
    intro a ha
    cases a <;> simp only [Go.Proofs.Ytamhmfdbnlkmkaa.conc, AV.tc.injEq, reduceCtorEq] at ha
    exact .tc _ _ (h.unconc ha)
  | any v =>
    intro a ha
    cases a <;> simp only [Go.Proofs.Ytamhmfdbnlkmkaa.conc, reduceCtorEq] at ha
    exact .any _
  | agg cs vs hl h ih =>
    intro a ha
    cases a <;> simp only [Go.Proofs.Ytamhmfdbnlkmkaa.conc, AV.agg.injEq, reduceCtorEq] at ha
    subst ha
    rw [concs_len] at hl
    exact .agg _ _ hl fun i x u hi hu => ih i _ u (gets hi) hu rfl
  | tuple cs vs hl h ih =>
    intro a ha
    cases a <;> simp only [Go.Proofs.Ytamhmfdbnlkmkaa.conc, AV.tuple.injEq, reduceCtorEq] at ha
    subst ha
    rw [concs_len] at hl
    exact .tuple _ _ hl fun i x u hi hu => ih i _ u (gets hi) hu rfl
  | ptr o s i f ver b h =>
    intro a ha
    cases a <;> simp only [Go.Proofs.Ytamhmfdbnlkmkaa.conc, AV.ptr.injEq, reduceCtorEq] at ha
    obtain ⟨rfl, rfl, rfl, rfl, rfl⟩ := ha
    exact .ptr _ _ _ _ _ b h
  | vptr s i f b off el g hb hs hc hr =>
    intro a ha
    cases a <;> simp only [Go.Proofs.Ytamhmfdbnlkmkaa.conc, AV.vptr.injEq, reduceCtorEq] at ha
    rename_i s' el' i' f'
    obtain ⟨rfl, rfl, rfl, rfl⟩ := ha
    refine .vptr _ _ _ b off el' g (fun hne => hb fun h0 => hne ?_) (fun r hr => ?_) (fun i f r c hi hf => ?_) (fun i f r c hi hf => ?_)
    · cases el' with
      | nil => rfl
      | cons a r => simp [concE] at h0
    · obtain ⟨i, hi⟩ := List.mem_iff_getElem?.1 hr
      have := hs (concR ρ r) (List.mem_of_getElem? (i := i) (by rw [concE_get, hi]; rfl))
      rw [concR_len] at this
      exact this
    · exact hc i f (concR ρ r) (concT ρ c) (by rw [concE_get, hi]; rfl) (by rw [concR_get, hf]; rfl)
    · exact (hr i f (concR ρ r) (concT ρ c) (by rw [concE_get, hi]; rfl) (by rw [concR_get, hf]; rfl)).unconc rfl
  | slice o s i len cap ex ver b off c h h1 h2 h3 h4 h5 =>
    intro a ha
    cases a <;> simp only [Go.Proofs.Ytamhmfdbnlkmkaa.conc, AV.slice.injEq, reduceCtorEq] at ha
    obtain ⟨rfl, rfl, rfl, rfl, rfl, rfl, rfl⟩ := ha
    exact .slice _ _ _ _ _ _ _ b off c h h1 h2 h3 h4 h5
  | map o b h =>
    intro a ha
    cases a <;> simp only [Go.Proofs.Ytamhmfdbnlkmkaa.conc, AV.map.injEq, reduceCtorEq] at ha
    subst ha
    exact .map _ b h
  | func fn first cap vf vc hl hl' h h' ih ih' =>
    intro a ha
    cases a <;> simp only [Go.Proofs.Ytamhmfdbnlkmkaa.conc, AV.func.injEq, reduceCtorEq] at ha
    obtain ⟨rfl, rfl, rfl⟩ := ha
    rw [concs_len] at hl hl'
    exact .func _ _ _ _ _ hl hl' (fun i x u hi hu => ih i _ u (gets hi) hu rfl) (fun i x u hi hu => ih' i _ u (gets hi) hu rfl)

/-! ### contracts -/

/-- A call of values without variables tells one value, in any world. -/
def CallsTo (C : Ctx) (f : FuncId) (args : List AV) (r : AV) : Prop := ∀ ob : Obs, @TreeCall ob C f args (· = r)

theorem CallsTo.tree {C : Ctx} {f : FuncId} {args : List AV} {r : AV} (h : CallsTo C f (concs ρ args) (Go.Proofs.Ytamhmfdbnlkmkaa.conc ρ r)) : @TreeCall ⟨ρ, Q⟩ C f args (· = r) := by
  intro Pb w vs h1 h2 h3
  refine (h ⟨ρ, Q⟩ Pb w vs h1 ⟨by rw [concs_len]; exact h2.1, fun i x v hi hv => ?_⟩ h3).mono fun e w' ⟨r', v, e1, e2, e3, e4⟩ => ⟨r, v, rfl, e2, ?_, e4⟩
  · rw [concs_get, Option.map_eq_some_iff] at hi
    obtain ⟨y, hy, rfl⟩ := hi
    exact (h2.2 i y v hy hv).conc
  · subst e1
    exact e3.unconc rfl

theorem TreeCall.calls {C : Ctx} {f : FuncId} {args : List AV} {R : AV} (h : @TreeCall ⟨ρ, Q⟩ C f args (fun r => Go.Proofs.Ytamhmfdbnlkmkaa.conc ρ r = R)) : CallsTo C f (concs ρ args) R := by
  intro ob Pb w vs h1 h2 h3
  refine (h Pb w vs h1 ⟨by rw [← concs_len ρ]; exact h2.1, fun i x v hi hv => ?_⟩ h3).mono fun e w' ⟨r', v, e1, e2, e3, e4⟩ => ⟨R, v, rfl, e2, ?_, e4⟩
  · exact (h2.2 i (Go.Proofs.Ytamhmfdbnlkmkaa.conc ρ x) v (by rw [concs_get, hi]; rfl) hv).unconc rfl
  · subst e1
    exact e3.conc
end

/-! ### runs -/

/-- What a run comes to. -/
def runOut (C : Ctx) (d : Nat) (f : FuncId) (args : List AV) : Out := callPure (acall C d) f args .leaf

/-- The value that is told, for values of the variables. -/
def outV (ρ : Env) : Out → Option AV
  | .fail => none
  | .leaf r => some (conc ρ r)
  | .sel e a b => cond (den ρ e).b (outV ρ a) (outV ρ b)

/-- Summaries that hold, for values of the variables. -/
def Summ (ρ : Env) (C : Ctx) : Prop := ∀ f g args r, C.summ f = some g → g args = some r → CallsTo C f (concs ρ args) (conc ρ r)

theorem ok_outV {ρ : Env} {R : AV} : ∀ {o : Out}, outV ρ o = some R → @Ok ⟨ρ, fun r => conc ρ r = R⟩ o
  | .fail, h => by simp [outV] at h
  | .leaf r, h => by
    show conc ρ r = R
    simpa [outV] using h
  | .sel e a b, h => by
    letI : Obs := ⟨ρ, fun r => conc ρ r = R⟩
    show cond (den ρ e).b (Ok a) (Ok b)
    simp only [outV] at h
    cases hb : (den ρ e).b with
    | true => rw [hb] at h; exact ok_outV h
    | false => rw [hb] at h; exact ok_outV h

theorem run_calls {ρ : Env} {C : Ctx} {d : Nat} {f : FuncId} {args : List AV} {R : AV} (hs : Summ ρ C) (h : outV ρ (runOut C d f args) = some R) : CallsTo C f (concs ρ args) R := by
  letI : Obs := ⟨ρ, fun r => conc ρ r = R⟩
  have h1 := ok_outV h
  exact TreeCall.calls (eval_ok (fun f g as r hf hg => (hs f g as r hf hg).tree) h1)
end Go.Proofs.Ytamhmfdbnlkmkaa

/- Tests that are known from what was tested ahead, or from ranges, are left out. -/
set_option linter.unusedVariables false
set_option linter.unusedSectionVars false
set_option linter.unusedSimpArgs false
namespace Go.Proofs.Ytamhmfdbnlkmkaa
open Go Go.RowKit

abbrev Facts := List (Sx × Bool)

def FactsOk (ρ : Env) (fs : Facts) : Prop := ∀ p, p ∈ fs → (den ρ p.1).b = p.2

def known : Facts → Sx → Option Bool
  | [], _ => none
  | (a, b) :: r, e => cond (Sx.beq a e) (some b) (known r e)

theorem known_ok {ρ : Env} {e : Sx} {b : Bool} : ∀ {fs : Facts}, FactsOk ρ fs → known fs e = some b → (den ρ e).b = b
  | [], _, h => by simp [known] at h
  | (a, c) :: r, hf, h => by
    simp only [known] at h
    cases hb : Sx.beq a e with
    | true =>
      rw [hb] at h
      simp only [cond_true, Option.some.injEq] at h
      subst h
      rw [← Sx.beq_eq hb]
      exact hf (a, c) (List.mem_cons_self ..)
    | false => rw [hb] at h; exact known_ok (fun p hp => hf p (List.mem_cons_of_mem _ hp)) h

/-- Bounds: of a whole number. -/
abbrev Iv := Option Int × Option Int

def Iv.has (v : Iv) (n : Int) : Prop := (∀ l, v.1 = some l → l ≤ n) ∧ (∀ h, v.2 = some h → n ≤ h)

def maxO : Option Int → Int → Option Int
  | none, n => some n
  | some m, n => some (cond (decide (m ≤ n)) n m)
def minO : Option Int → Int → Option Int
  | none, n => some n
  | some m, n => some (cond (decide (n ≤ m)) n m)

def atLeast (v : Iv) (n : Int) : Iv := (maxO v.1 n, v.2)
def atMost (v : Iv) (n : Int) : Iv := (v.1, minO v.2 n)

theorem atLeast_ok {v : Iv} {n x : Int} (h : v.has x) (hn : n ≤ x) : (atLeast v n).has x := by
  refine ⟨fun l hl => ?_, h.2⟩
  simp only [atLeast] at hl
  cases hv : v.1 with
  | none => rw [hv] at hl; simp only [maxO, Option.some.injEq] at hl; omega
  | some m =>
    rw [hv] at hl
    have := h.1 m hv
    simp only [maxO, Option.some.injEq] at hl
    cases hd : decide (m ≤ n) <;> rw [hd] at hl <;> simp only [cond_true, _root_.cond_false] at hl <;> omega

theorem atMost_ok {v : Iv} {n x : Int} (h : v.has x) (hn : x ≤ n) : (atMost v n).has x := by
  refine ⟨h.1, fun l hl => ?_⟩
  simp only [atMost] at hl
  cases hv : v.2 with
  | none => rw [hv] at hl; simp only [minO, Option.some.injEq] at hl; omega
  | some m =>
    rw [hv] at hl
    have := h.2 m hv
    simp only [minO, Option.some.injEq] at hl
    cases hd : decide (n ≤ m) <;> rw [hd] at hl <;> simp only [cond_true, _root_.cond_false] at hl <;> omega

/-- A number that is not n. -/
def notN (v : Iv) (n : Int) : Iv :=
  (match v.1 with | some l => some (cond (decide (l = n)) (n + 1) l) | none => none, match v.2 with | some l => some (cond (decide (l = n)) (n - 1) l) | none => none)

theorem notN_ok {v : Iv} {n x : Int} (h : v.has x) (hn : x ≠ n) : (notN v n).has x := by
  refine ⟨fun l hl => ?_, fun l hl => ?_⟩
  · simp only [notN] at hl
    cases hv : v.1 with
    | none => rw [hv] at hl; simp at hl
    | some m =>
      rw [hv] at hl
      have := h.1 m hv
      simp only [Option.some.injEq] at hl
      cases hd : decide (m = n) <;> rw [hd] at hl <;> simp only [cond_true, _root_.cond_false, decide_eq_true_eq] at hl hd <;> omega
  · simp only [notN] at hl
    cases hv : v.2 with
    | none => rw [hv] at hl; simp at hl
    | some m =>
      rw [hv] at hl
      have := h.2 m hv
      simp only [Option.some.injEq] at hl
      cases hd : decide (m = n) <;> rw [hd] at hl <;> simp only [cond_true, _root_.cond_false, decide_eq_true_eq] at hl hd <;> omega

def cut (op : BinOp) (n : Int) (b : Bool) (v : Iv) : Iv :=
  match op, b with
  | .eql, true => atMost (atLeast v n) n
  | .neq, false => atMost (atLeast v n) n
  | .eql, false => notN v n
  | .neq, true => notN v n
  | .lss, true => atMost v (n - 1)
  | .lss, false => atLeast v n
  | .leq, true => atMost v n
  | .leq, false => atLeast v (n + 1)
  | .gtr, true => atLeast v (n + 1)
  | .gtr, false => atMost v n
  | .geq, true => atLeast v n
  | .geq, false => atMost v (n - 1)
  | _, _ => v

theorem cut_ok {op : BinOp} {n x : Int} {b : Bool} {v : Iv} (h : v.has x) (hc : cmpI op x n = b) : (cut op n b v).has x := by
  subst hc
  cases op <;> simp only [cmpI] at * <;> try exact h
  case eql =>
    by_cases hx : x = n
    · subst hx; simp only [BEq.rfl, cut]; exact atMost_ok (atLeast_ok h (Int.le_refl _)) (Int.le_refl _)
    · have : (x == n) = false := by simpa using hx
      rw [this]; exact notN_ok h hx
  case neq =>
    by_cases hx : x = n
    · subst hx; simp only [bne_self_eq_false, cut]; exact atMost_ok (atLeast_ok h (Int.le_refl _)) (Int.le_refl _)
    · have : (x != n) = true := by simpa using hx
      rw [this]; exact notN_ok h hx
  case lss =>
    by_cases hx : x < n
    · rw [decide_eq_true hx]; exact atMost_ok h (by omega)
    · rw [decide_eq_false hx]; exact atLeast_ok h (by omega)
  case leq =>
    by_cases hx : x ≤ n
    · rw [decide_eq_true hx]; exact atMost_ok h (by omega)
    · rw [decide_eq_false hx]; exact atLeast_ok h (by omega)
  case gtr =>
    by_cases hx : x > n
    · rw [decide_eq_true hx]; exact atLeast_ok h (by omega)
    · rw [decide_eq_false hx]; exact atMost_ok h (by omega)
  case geq =>
    by_cases hx : x ≥ n
    · rw [decide_eq_true hx]; exact atLeast_ok h (by omega)
    · rw [decide_eq_false hx]; exact atMost_ok h (by omega)

def cutBy (e : Sx) : Facts → Iv → Iv
  | [], v => v
  | (.cmp op a (.lit n), b) :: r, v => cond (Sx.beq a e) (cut op n b (cutBy e r v)) (cutBy e r v)
  | _ :: r, v => cutBy e r v

theorem cutBy_ok {ρ : Env} {e : Sx} {v : Iv} (h : v.has (den ρ e).i) : ∀ {fs : Facts}, FactsOk ρ fs → (cutBy e fs v).has (den ρ e).i := by
  intro fs hf
  induction fs with
  | nil => exact h
  | cons p r ih =>
    have hr := ih fun q hq => hf q (List.mem_cons_of_mem _ hq)
    obtain ⟨x, b⟩ := p
    unfold cutBy
    split
    · rename_i heq; cases heq
    · rename_i op a n b' r' heq
      simp only [List.cons.injEq, Prod.mk.injEq] at heq
      obtain ⟨⟨rfl, rfl⟩, rfl⟩ := heq
      cases hb : Sx.beq a e with
      | false => exact hr
      | true =>
        have := Sx.beq_eq hb
        subst this
        exact cut_ok hr (hf _ (List.mem_cons_self ..))
    · rename_i heq
      simp only [List.cons.injEq] at heq
      obtain ⟨_, rfl⟩ := heq
      exact hr

def inKind (k : IntKind) (l h : Int) : Bool := decide (k.min ≤ l) && decide (h ≤ k.max)

def full (k : IntKind) : Iv := (some k.min, some k.max)

def fitK (k : IntKind) (l h : Int) : Iv := cond (inKind k l h) (some l, some h) (full k)

theorem wrap_range (k : IntKind) (n : Int) : k.min ≤ k.wrap n ∧ k.wrap n ≤ k.max := by
  cases k <;> simp [IntKind.wrap, IntKind.min, IntKind.max, IntKind.signed, IntKind.bits] <;> (try split) <;> omega

theorem wrap_id {k : IntKind} {n : Int} (h1 : k.min ≤ n) (h2 : n ≤ k.max) : k.wrap n = n := by
  cases k <;> simp [IntKind.min, IntKind.max, IntKind.signed, IntKind.bits] at h1 h2 <;> simp [IntKind.wrap, IntKind.signed, IntKind.bits] <;> (try split) <;> omega

theorem full_ok (k : IntKind) (n : Int) : (full k).has (k.wrap n) :=
  ⟨fun l hl => by simp only [full, Option.some.injEq] at hl; subst hl; exact (wrap_range k n).1, fun l hl => by simp only [full, Option.some.injEq] at hl; subst hl; exact (wrap_range k n).2⟩

theorem fitK_ok {k : IntKind} {l h n : Int} (h1 : l ≤ n) (h2 : n ≤ h) : (fitK k l h).has (k.wrap n) := by
  unfold fitK
  cases hk : inKind k l h with
  | false => exact full_ok k n
  | true =>
    simp only [inKind, Bool.and_eq_true, decide_eq_true_eq] at hk
    rw [wrap_id (by omega) (by omega)]
    exact ⟨fun x hx => by simp only [cond_true, Option.some.injEq] at hx; omega, fun x hx => by simp only [cond_true, Option.some.injEq] at hx; omega⟩

def rngBin (op : BinOp) (k : IntKind) (a b : Iv) : Iv :=
  match op with
  | .add => match a, b with
    | (some l1, some h1), (some l2, some h2) => fitK k (l1 + l2) (h1 + h2)
    | _, _ => full k
  | .sub => match a, b with
    | (some l1, some h1), (some l2, some h2) => fitK k (l1 - h2) (h1 - l2)
    | _, _ => full k
  | .rem => match a with
    | (some l, some h) => cond (decide (0 ≤ l)) (some 0, some h) (none, none)
    | _ => (none, none)
  | .shr => match a with
    | (some l, some h) => cond (decide (0 ≤ l)) (some 0, some h) (none, none)
    | _ => (none, none)
  | .mul => full k
  | .quo => full k
  | .and => full k
  | .or => full k
  | .xor => full k
  | .andNot => full k
  | .shl => full k
  | _ => (none, none)

theorem none_ok (n : Int) : Iv.has (none, none) n := ⟨fun l hl => by simp at hl, fun l hl => by simp at hl⟩

theorem rngBin_ok {op : BinOp} {k : IntKind} {a b : Iv} {x y : Int} (ha : a.has x) (hb : b.has y) : (rngBin op k a b).has (binI op k x y) := by
  obtain ⟨a1, a2⟩ := a
  obtain ⟨b1, b2⟩ := b
  cases op <;> simp only [rngBin, binI]
  case add =>
    split
    · rename_i l1 h1 l2 h2 e1 e2
      simp only [Prod.mk.injEq] at e1 e2
      obtain ⟨rfl, rfl⟩ := e1
      obtain ⟨rfl, rfl⟩ := e2
      have := ha.1 _ rfl; have := ha.2 _ rfl; have := hb.1 _ rfl; have := hb.2 _ rfl
      exact fitK_ok (by omega) (by omega)
    · exact full_ok ..
  case sub =>
    split
    · rename_i l1 h1 l2 h2 e1 e2
      simp only [Prod.mk.injEq] at e1 e2
      obtain ⟨rfl, rfl⟩ := e1
      obtain ⟨rfl, rfl⟩ := e2
      have := ha.1 _ rfl; have := ha.2 _ rfl; have := hb.1 _ rfl; have := hb.2 _ rfl
      exact fitK_ok (by omega) (by omega)
    · exact full_ok ..
  case rem =>
    split
    · rename_i l h e1
      simp only [Prod.mk.injEq] at e1
      obtain ⟨rfl, rfl⟩ := e1
      have h1 := ha.1 _ rfl; have h2 := ha.2 _ rfl
      cases hd : decide (0 ≤ l) with
      | false => exact none_ok _
      | true =>
        simp only [decide_eq_true_eq] at hd
        have g1 : 0 ≤ x.tmod y := Int.tmod_nonneg y (by omega)
        have g2 : x.tmod y ≤ x := by
          have h3 := Int.natAbs_tmod x y
          have h4 := Nat.mod_le x.natAbs y.natAbs
          omega
        exact ⟨fun l hl => by simp only [cond_true, Option.some.injEq] at hl; omega, fun l hl => by simp only [cond_true, Option.some.injEq] at hl; omega⟩
    · exact none_ok _
  case shr =>
    split
    · rename_i l h e1
      simp only [Prod.mk.injEq] at e1
      obtain ⟨rfl, rfl⟩ := e1
      have h1 := ha.1 _ rfl; have h2 := ha.2 _ rfl
      cases hd : decide (0 ≤ l) with
      | false => exact none_ok _
      | true =>
        simp only [decide_eq_true_eq] at hd
        have hp : (0 : Int) < 2 ^ (min y.toNat k.bits) := Int.pow_pos (by omega)
        have e : x.fdiv (2 ^ (min y.toNat k.bits)) = x / (2 ^ (min y.toNat k.bits)) := Int.fdiv_eq_ediv_of_nonneg _ (by omega)
        rw [e]
        have g1 : 0 ≤ x / (2 ^ (min y.toNat k.bits)) := Int.ediv_nonneg (by omega) (by omega)
        have g2 : x / (2 ^ (min y.toNat k.bits)) ≤ x := Int.ediv_le_self _ (by omega)
        exact ⟨fun l hl => by simp only [cond_true, Option.some.injEq] at hl; omega, fun l hl => by simp only [cond_true, Option.some.injEq] at hl; omega⟩
    · exact none_ok _
  case mul | quo | and | or | xor | andNot | shl => exact full_ok ..
  all_goals exact none_ok _

def rng (fs : Facts) : Sx → Iv
  | .lit n => (some n, some n)
  | .var i => cutBy (.var i) fs (none, none)
  | .bin op k a b => cutBy (.bin op k a b) fs (rngBin op k (rng fs a) (rng fs b))
  | .conv k a => cutBy (.conv k a) fs (match rng fs a with
    | (some l, some h) => fitK k l h
    | _ => full k)
  | .at_ a i => cutBy (.at_ a i) fs (some 0, some 255)
  | .len a => cutBy (.len a) fs (some 0, none)
  | e => cutBy e fs (none, none)

theorem rng_ok {ρ : Env} {fs : Facts} (hf : FactsOk ρ fs) : ∀ (e : Sx), (rng fs e).has (den ρ e).i := by
  intro e
  induction e with
  | lit n => exact ⟨fun l hl => by simp only [rng, Option.some.injEq] at hl; subst hl; exact Int.le_refl _, fun l hl => by simp only [rng, Option.some.injEq] at hl; subst hl; exact Int.le_refl _⟩
  | bin op k a b iha ihb => exact cutBy_ok (rngBin_ok iha ihb) hf
  | conv k a iha =>
    refine cutBy_ok ?_ hf
    split
    · rename_i l h heq
      rw [heq] at iha
      exact fitK_ok (iha.1 _ rfl) (iha.2 _ rfl)
    · exact full_ok ..
  | at_ a i _ _ =>
    refine cutBy_ok ?_ hf
    simp only [den]
    generalize ((den ρ a).s[(den ρ i).i.toNat]?.getD 0) = u
    have := u.toNat_lt
    exact ⟨fun l hl => by simp only [Option.some.injEq] at hl; omega, fun l hl => by simp only [Option.some.injEq] at hl; omega⟩
  | len a _ =>
    refine cutBy_ok ?_ hf
    simp only [den]
    exact ⟨fun l hl => by simp only [Option.some.injEq] at hl; omega, fun l hl => by simp at hl⟩
  | _ => exact cutBy_ok (none_ok _) hf

def ltO : Option Int → Option Int → Bool
  | some a, some b => decide (a < b)
  | _, _ => false
def leO : Option Int → Option Int → Bool
  | some a, some b => decide (a ≤ b)
  | _, _ => false

/-- A comparison that bounds tell. -/
def decCmp (op : BinOp) (a b : Iv) : Option Bool :=
  match op with
  | .eql => cond (ltO a.2 b.1 || ltO b.2 a.1) (some false) (cond (leO a.2 b.1 && leO b.2 a.1) (some true) none)
  | .neq => cond (ltO a.2 b.1 || ltO b.2 a.1) (some true) (cond (leO a.2 b.1 && leO b.2 a.1) (some false) none)
  | .lss => cond (ltO a.2 b.1) (some true) (cond (leO b.2 a.1) (some false) none)
  | .leq => cond (leO a.2 b.1) (some true) (cond (ltO b.2 a.1) (some false) none)
  | .gtr => cond (ltO b.2 a.1) (some true) (cond (leO a.2 b.1) (some false) none)
  | .geq => cond (leO b.2 a.1) (some true) (cond (ltO a.2 b.1) (some false) none)
  | _ => none

theorem ltO_ok {a b : Iv} {x y : Int} (ha : a.has x) (hb : b.has y) (h : ltO a.2 b.1 = true) : x < y := by
  cases h2 : a.2 with
  | none => rw [h2] at h; simp [ltO] at h
  | some p =>
    cases h1 : b.1 with
    | none => rw [h1, h2] at h; simp [ltO] at h
    | some q => rw [h1, h2] at h; simp only [ltO, decide_eq_true_eq] at h; have := ha.2 _ h2; have := hb.1 _ h1; omega

theorem leO_ok {a b : Iv} {x y : Int} (ha : a.has x) (hb : b.has y) (h : leO a.2 b.1 = true) : x ≤ y := by
  cases h2 : a.2 with
  | none => rw [h2] at h; simp [leO] at h
  | some p =>
    cases h1 : b.1 with
    | none => rw [h1, h2] at h; simp [leO] at h
    | some q => rw [h1, h2] at h; simp only [leO, decide_eq_true_eq] at h; have := ha.2 _ h2; have := hb.1 _ h1; omega

theorem cond_some {c : Bool} {x : Bool} {y : Option Bool} {b : Bool} (h : cond c (some x) y = some b) : (c = true ∧ x = b) ∨ (c = false ∧ y = some b) := by
  cases c <;> simp_all

theorem decCmp_ok {op : BinOp} {a b : Iv} {x y : Int} {r : Bool} (ha : a.has x) (hb : b.has y) (h : decCmp op a b = some r) : cmpI op x y = r := by
  cases op <;> simp only [decCmp] at h <;> simp only [cmpI]
  case eql =>
    rcases cond_some h with ⟨h1, rfl⟩ | ⟨_, h⟩
    · simp only [Bool.or_eq_true] at h1
      rcases h1 with h1 | h1
      · have := ltO_ok ha hb h1; simp; omega
      · have := ltO_ok hb ha h1; simp; omega
    · rcases cond_some h with ⟨h1, rfl⟩ | ⟨_, h⟩
      · simp only [Bool.and_eq_true] at h1
        have := leO_ok ha hb h1.1; have := leO_ok hb ha h1.2
        simp; omega
      · simp at h
  case neq =>
    rcases cond_some h with ⟨h1, rfl⟩ | ⟨_, h⟩
    · simp only [Bool.or_eq_true] at h1
      rcases h1 with h1 | h1
      · have := ltO_ok ha hb h1; simp; omega
      · have := ltO_ok hb ha h1; simp; omega
    · rcases cond_some h with ⟨h1, rfl⟩ | ⟨_, h⟩
      · simp only [Bool.and_eq_true] at h1
        have := leO_ok ha hb h1.1; have := leO_ok hb ha h1.2
        simp; omega
      · simp at h
  case lss =>
    rcases cond_some h with ⟨h1, rfl⟩ | ⟨_, h⟩
    · have := ltO_ok ha hb h1; simp; omega
    · rcases cond_some h with ⟨h1, rfl⟩ | ⟨_, h⟩
      · have := leO_ok hb ha h1; simp; omega
      · simp at h
  case leq =>
    rcases cond_some h with ⟨h1, rfl⟩ | ⟨_, h⟩
    · have := leO_ok ha hb h1; simp; omega
    · rcases cond_some h with ⟨h1, rfl⟩ | ⟨_, h⟩
      · have := ltO_ok hb ha h1; simp; omega
      · simp at h
  case gtr =>
    rcases cond_some h with ⟨h1, rfl⟩ | ⟨_, h⟩
    · have := ltO_ok hb ha h1; simp; omega
    · rcases cond_some h with ⟨h1, rfl⟩ | ⟨_, h⟩
      · have := leO_ok ha hb h1; simp; omega
      · simp at h
  case geq =>
    rcases cond_some h with ⟨h1, rfl⟩ | ⟨_, h⟩
    · have := leO_ok hb ha h1; simp; omega
    · rcases cond_some h with ⟨h1, rfl⟩ | ⟨_, h⟩
      · have := ltO_ok ha hb h1; simp; omega
      · simp at h
  all_goals simp at h

def orElse (a : Option Bool) (b : Option Bool) : Option Bool := match a with | some x => some x | none => b

def and3 : Option Bool → Option Bool → Option Bool
  | some false, _ => some false
  | _, some false => some false
  | some true, some true => some true
  | _, _ => none

def eq3 : Option Bool → Option Bool → Option Bool
  | some a, some b => some (a == b)
  | _, _ => none

def decB (fs : Facts) : Sx → Option Bool
  | .lb b => some b
  | .not a => (decB fs a).map (!·)
  | .and a b => orElse (known fs (.and a b)) (and3 (decB fs a) (decB fs b))
  | .eqb a b => orElse (known fs (.eqb a b)) (cond (Sx.beq a b) (some true) (eq3 (decB fs a) (decB fs b)))
  | .cmp op a b => orElse (known fs (.cmp op a b)) (orElse (decCmp op (rng fs a) (rng fs b)) (cond (Sx.beq a b) (some (cmpI op 0 0)) none))
  | .cmps op (.ls a) (.ls b) => some (cmpS op a b)
  | .cmps op a b => orElse (known fs (.cmps op a b)) (cond (decide (op = .eql) && Sx.beq a b) (some true) none)
  | e => known fs e

theorem orElse_ok {a b : Option Bool} {x : Bool} (h : orElse a b = some x) : a = some x ∨ b = some x := by
  cases a with
  | none => exact .inr h
  | some y => exact .inl h

theorem cmpI_self (op : BinOp) (x : Int) : cmpI op x x = cmpI op 0 0 := by cases op <;> simp [cmpI]

theorem decB_ok {ρ : Env} {fs : Facts} (hf : FactsOk ρ fs) : ∀ (e : Sx) {b : Bool}, decB fs e = some b → (den ρ e).b = b := by
  intro e
  induction e with
  | lb c => intro b h; simpa [decB, den] using h
  | not a ih =>
    intro b h
    simp only [decB, Option.map_eq_some_iff] at h
    obtain ⟨c, hc, rfl⟩ := h
    simp [den, ih hc]
  | and x y ih1 ih2 =>
    intro b h
    simp only [decB] at h
    rcases orElse_ok h with h | h
    · exact known_ok hf h
    · unfold and3 at h
      split at h
      · rename_i h1; simp only [Option.some.injEq] at h; subst h; simp [den, ih1 h1]
      · rename_i h1 _; simp only [Option.some.injEq] at h; subst h; simp [den, ih2 h1]
      · rename_i h1 h2; simp only [Option.some.injEq] at h; subst h; simp [den, ih1 h1, ih2 h2]
      · simp at h
  | eqb x y ih1 ih2 =>
    intro b h
    simp only [decB] at h
    rcases orElse_ok h with h | h
    · exact known_ok hf h
    · rcases cond_some h with ⟨h1, rfl⟩ | ⟨_, h⟩
      · rw [Sx.beq_eq h1]; simp [den]
      · unfold eq3 at h
        split at h
        · rename_i h1 h2; simp only [Option.some.injEq] at h; subst h; simp [den, ih1 h1, ih2 h2]
        · simp at h
  | cmp op x y _ _ =>
    intro b h
    simp only [decB] at h
    rcases orElse_ok h with h | h
    · exact known_ok hf h
    · rcases orElse_ok h with h | h
      · exact decCmp_ok (rng_ok hf x) (rng_ok hf y) h
      · rcases cond_some h with ⟨h1, rfl⟩ | ⟨_, h⟩
        · rw [Sx.beq_eq h1]; exact cmpI_self op _
        · simp at h
  | cmps op x y _ _ =>
    intro b h
    unfold decB at h
    split at h
    all_goals first
      | (rename_i heq; simp only [Sx.cmps.injEq] at heq; obtain ⟨rfl, rfl, rfl⟩ := heq; simp only [Option.some.injEq] at h; subst h; rfl)
      | (rename_i hne heq; simp only [Sx.cmps.injEq] at heq; obtain ⟨rfl, rfl, rfl⟩ := heq
         rcases orElse_ok h with h | h
         · exact known_ok hf h
         · rcases cond_some h with ⟨h1, rfl⟩ | ⟨_, h⟩
           · simp only [Bool.and_eq_true, decide_eq_true_eq] at h1
             obtain ⟨rfl, h1⟩ := h1
             rw [Sx.beq_eq h1]; simp [den, cmpS]
           · simp at h)
      | exact known_ok hf h
      | (rename_i heq; cases heq)
  | _ => intro b h; exact known_ok hf (by simpa [decB] using h)

def addFact : Sx → Bool → Facts → Facts
  | .not a, b, fs => addFact a (!b) fs
  | .and a c, true, fs => addFact a true (addFact c true fs)
  | e, b, fs => (e, b) :: fs

theorem addFact_ok {ρ : Env} : ∀ (e : Sx) {b : Bool} {fs : Facts}, FactsOk ρ fs → (den ρ e).b = b → FactsOk ρ (addFact e b fs) := by
  have base : ∀ (e : Sx) {b : Bool} {fs : Facts}, FactsOk ρ fs → (den ρ e).b = b → FactsOk ρ ((e, b) :: fs) := fun e b fs hf he p hp => by
    rcases List.mem_cons.1 hp with rfl | hp
    · exact he
    · exact hf p hp
  intro e
  induction e with
  | not a ih => intro b fs hf he; exact ih hf (by rw [← he]; simp [den])
  | and x y ih1 ih2 =>
    intro b fs hf he
    cases b with
    | true =>
      simp only [den, Bool.and_eq_true] at he
      exact ih1 (ih2 hf he.2) he.1
    | false => exact base _ hf he
  | _ => intro b fs hf he; exact base _ hf he

def prune (fs : Facts) : Out → Out
  | .fail => .fail
  | .leaf r => .leaf r
  | .sel e a b => match decB fs e with
    | some true => prune fs a
    | some false => prune fs b
    | none => .sel e (prune (addFact e true fs) a) (prune (addFact e false fs) b)

theorem prune_ok {ρ : Env} : ∀ (o : Out) {fs : Facts}, FactsOk ρ fs → outV ρ (prune fs o) = outV ρ o
  | .fail, _, _ => rfl
  | .leaf r, _, _ => rfl
  | .sel e a b, fs, hf => by
    simp only [prune]
    split
    · rename_i h
      rw [prune_ok a hf]
      simp [outV, decB_ok hf e h]
    · rename_i h
      rw [prune_ok b hf]
      simp [outV, decB_ok hf e h]
    · simp only [outV]
      cases hb : (den ρ e).b with
      | true => simp only [cond_true]; exact prune_ok a (addFact_ok e hf hb)
      | false => simp only [_root_.cond_false]; exact prune_ok b (addFact_ok e hf hb)

/-- A run's outcome, written out. -/
@[irreducible] def RunIs (C : Ctx) (d : Nat) (fs : Facts) (f : FuncId) (args : List AV) (o : Out) : Prop := prune fs (runOut C d f args) = o

theorem RunIs.mk {C : Ctx} {d : Nat} {fs : Facts} {f : FuncId} {args : List AV} {o : Out} (h : RunIs C d fs f args o = (o = o)) : RunIs C d fs f args o := h ▸ rfl

theorem RunIs.calls {ρ : Env} {C : Ctx} {d : Nat} {fs : Facts} {f : FuncId} {args : List AV} {o : Out} {R : AV} (h : RunIs C d fs f args o) (hs : Summ ρ C) (hf : FactsOk ρ fs) (hv : outV ρ o = some R) :
    CallsTo C f (concs ρ args) R := by
  unfold RunIs at h
  refine run_calls hs (d := d) ?_
  rw [← prune_ok _ hf, h, hv]
end Go.Proofs.Ytamhmfdbnlkmkaa

/- From runs to laws: contexts, summaries one by one, a law that answers true. -/
set_option linter.unusedVariables false
namespace Go.Proofs.Ytamhmfdbnlkmkaa
open Go Go.RowKit

def base (P : Program) : Ctx := { P := P, L := 4294967296, pure := fun _ => false, glob := fun _ => none, sym := false, summ := fun _ => none }

theorem summ_none (ρ : Env) (P : Program) : Summ ρ (base P) := fun f g args r h => by simp [base] at h

/-- Summaries of functions of trees: one by one. -/
def sum1 (f : FuncId) (g : List AV → Option AV) (rest : FuncId → Option (List AV → Option AV)) : FuncId → Option (List AV → Option AV) :=
  fun x => match decide (x = f) with | true => some g | false => rest x

/-- A summary more: what it tells was found with the ones before. -/
theorem summ_cons {ρ : Env} {C : Ctx} (hs : Summ ρ C) {f : FuncId} {g : List AV → Option AV} {p q : FuncId → Bool} (hg : ∀ args r, g args = some r → CallsTo C f (concs ρ args) (conc ρ r)) :
    Summ ρ { C with summ := sum1 f g C.summ, pure := p, flat := q } := by
  intro x g' args r h hr
  simp only [sum1] at h
  split at h
  · rename_i hx
    simp only [decide_eq_true_eq] at hx
    simp only [Option.some.injEq] at h
    subst h; subst hx
    exact hg args r hr
  · exact hs x g' args r h hr

/-- Which functions are pure does not matter. -/
theorem Summ.pure {ρ : Env} {C : Ctx} (hs : Summ ρ C) (p q : FuncId → Bool) : Summ ρ { C with pure := p, flat := q } := fun f g args r h hr => hs f g args r h hr

/-- A contract hangs on no summaries. -/
theorem CallsTo.of {C C' : Ctx} {f : FuncId} {args : List AV} {r : AV} (h : CallsTo C f args r) (hp : C'.P = C.P) (hg : C'.glob = C.glob) : CallsTo C' f args r := by
  intro ob Pb w vs h1 h2 h3
  have := h ob Pb w vs h1 h2 (fun o g s el hh => h3 o g s el (by rw [hg]; exact hh))
  rw [hp]
  exact this

/-- A summary that is told at some arguments. -/
def tabF (l : List (List AV × AV)) (args : List AV) : Option AV :=
  match l with
  | [] => none
  | p :: r => match sameAs p.1 args with | true => some p.2 | false => tabF r args

theorem tabF_ok {ρ : Env} {C : Ctx} {f : FuncId} : ∀ {l : List (List AV × AV)}, (∀ p ∈ l, CallsTo C f (concs ρ p.1) (conc ρ p.2)) → ∀ args r, tabF l args = some r → CallsTo C f (concs ρ args) (conc ρ r)
  | [], _, args, r, h => by simp [tabF] at h
  | p :: l, hl, args, r, h => by
    simp only [tabF] at h
    split at h
    · rename_i hs
      simp only [Option.some.injEq] at h
      subst h
      rw [← sameAs_eq hs]
      exact hl p (List.mem_cons_self ..)
    · exact tabF_ok (fun q hq => hl q (List.mem_cons_of_mem _ hq)) args r h

/-- A law that answers true: its walk, out of a contract. -/
theorem walk_of {C : Ctx} {f : FuncId} {args : List AV} {vs : Array Value} {w : World} (hg : C.glob = fun _ => none) (h : CallsTo C f args (.sc (.bool true)))
    (hv : ∀ ob : Obs, @RelL ob (fun b => b < w.heap.size) noMu w args vs) : Calls C.P f vs w fun e w' => e = .returned (.bool true) ∧ Below w.heap.size w w' := by
  letI ob : Obs := ⟨⟨fun _ => 0, fun _ => false, fun _ => ByteArray.empty, fun _ _ => undef⟩, fun _ => True⟩
  refine (h ob (fun b => b < w.heap.size) w vs (fun _ h => h) (hv ob) (fun o g s el hh => by rw [hg] at hh; cases hh)).mono fun e w' ⟨r, v, hr, he, hR, hB⟩ => ?_
  subst hr
  have := hR.sc_eq
  subst this
  exact ⟨he, hB⟩

/-- An environment of no use. -/
def ρ0 : Env := ⟨fun _ => 0, fun _ => false, fun _ => ByteArray.empty, fun _ _ => undef⟩

/-- A law without parameters. -/
theorem walk_closed {C : Ctx} {d : Nat} {f : FuncId} (h : RunIs C d [] f [] (.leaf (.sc (.bool true)))) (hs : Summ ρ0 C) (hg : C.glob = fun _ => none) (w : World) :
    Calls C.P f #[] w fun e w' => e = .returned (.bool true) ∧ Below w.heap.size w w' :=
  walk_of hg (h.calls (R := .sc (.bool true)) hs (fun p hp => by simp at hp) rfl) fun ob => ⟨rfl, fun i a v hi => by simp [concs] at hi⟩
end Go.Proofs.Ytamhmfdbnlkmkaa

