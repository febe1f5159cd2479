/- Regions, loops, functions: what the evaluator tells of them holds. -/
import Derived.Test.YtkcnilnagppaiaaEngCode
import Derived.Scope
set_option linter.unusedVariables false
set_option linter.unusedSimpArgs false
namespace Go.Proofs.Ytkcnilnagppaiaa
open Go Go.RowKit

/-- Where a walk began. -/
structure Entry where
  Pb : Nat → Prop
  μ : Mu
  w : World
  n : Nat

section
variable {C : Ctx} {E : Entry} {Pb : Nat → Prop} {μ : Mu} {B0 : Nat} {w : World} {T : Tmps} {H : Heap} {a : Act}

structure SR (C : Ctx) (E : Entry) (Pb : Nat → Prop) (μ : Mu) (B0 : Nat) (w : World) (T : Tmps) (H : Heap) (a : Act) : Prop where
  tm : RelL Pb μ w T a.tmps
  hp : HeapRel Pb μ B0 w H
  gl : GlobRel C Pb μ w
  df : a.defers = []
  go : Goes E.Pb E.μ B0 E.w E.n Pb μ w H.length
  dom : ∀ o ver b, E.μ o ver = some b → o < E.n

def exOf : AEx → Exit
  | .normal => .normal
  | .exit id => .exit id
  | .goto l => .goto l
  | .ret => .ret

/-- What holds behind a piece of code. -/
def Post (C : Ctx) (E : Entry) (B0 : Nat) (K : AEx → Tmps → Heap → Prop) : Exit → Act → World → Prop :=
  fun e a w => ∃ x T H Pb μ, exOf x = e ∧ K x T H ∧ SR C E Pb μ B0 w T H a

theorem put_defers (a : Act) (dst : Option Tmp) (v : Value) : (a.put dst v).defers = a.defers := by cases dst <;> rfl

theorem SR.after {o : Oper} {k : AV → Heap → Prop} {a' : Act} {w' : World} (h : SR C E Pb μ B0 w T H a) (ha : After Pb μ B0 w H a o k a' w') :
    ∃ r H' Pb' μ', k r H' ∧ SR C E Pb' μ' B0 w' (put T o.dst r) H' a' := by
  obtain ⟨r, H', v, Pb', μ', h1, rfl, h3, h4, h5⟩ := ha
  refine ⟨r, H', Pb', μ', h1, ?_, h4, h.gl.goes h5, by rw [put_defers]; exact h.df, h.go.trans h5, h.dom⟩
  exact (h.tm.mono h5.pb h5.mu h5.ext).put o.dst h3

theorem SR.undef (h : SR C E Pb μ B0 w T H a) (dst : Option Tmp) : SR C E Pb μ B0 w (put T dst undefA) H (a.put dst undef) :=
  ⟨h.tm.put dst (Rel.of_sc ..), h.hp, h.gl, by rw [put_defers]; exact h.df, h.go, h.dom⟩

theorem aops_ok {call : Caller} (hc : CallOk C call) (hsm : SummOk C) {ops : Array Oper} {K : Tmps → Heap → Prop} {Q : Exit → Act → World → Prop}
    (hQ : ∀ T H Pb μ a w, K T H → SR C E Pb μ B0 w T H a → Q .normal a w) : ∀ (l : List Oper) {T : Tmps} {H : Heap} {Pb : Nat → Prop} {μ : Mu} {a : Act} {w : World},
    aops C call ops l T H K → SR C E Pb μ B0 w T H a → wpList C.P ops Q l a w
  | [], T, H, Pb, μ, a, w, h, hs => hQ T H Pb μ a w h hs
  | o :: r, T, H, Pb, μ, a, w, h, hs => by
    simp only [aops] at h
    split at h
    · exact h.elim
    · rename_i b hb
      have hw := wantedA_ok hb hs.tm
      refine wpList_step fun K' hK' => ?_
      rw [hw]
      rcases cond_split h with ⟨rfl, h⟩ | ⟨rfl, h⟩
      · rw [if_pos rfl]
        refine Oper.wp_mono (fun a' w' ha => ?_) (aop_ok hc hsm h hs.tm hs.hp hs.gl)
        obtain ⟨v, H', Pb', μ', h1, h2⟩ := hs.after ha
        exact hK' _ _ (aops_ok hc hsm hQ r h1 h2)
      · rw [if_neg (by simp)]
        exact hK' _ _ (aops_ok hc hsm hQ r h (hs.undef o.dst))

theorem aopsQ_ok (hsm : SummOk C) {ops : Array Oper} (hH : HeapRel Pb μ B0 w H) (hG : GlobRel C Pb μ w) {K : Tmps → Prop} {Q : Act → Prop}
    (hQ : ∀ T a, K T → RelL Pb μ w T a.tmps → a.defers = [] → Q a) : ∀ (l : List Oper) {T : Tmps} {a : Act},
    aopsQ C ops l T H K → RelL Pb μ w T a.tmps → a.defers = [] → wpQuiet C.P ops (fun w' => Below w.heap.size w w') Q l a
  | [], T, a, h, hT, hd => hQ T a h hT hd
  | o :: r, T, a, h, hT, hd => by
    simp only [aopsQ] at h
    split at h
    · exact h.elim
    · rename_i b hb
      have hw := wantedA_ok hb hT
      unfold wpQuiet
      rw [hw]
      rcases cond_split h with ⟨rfl, h⟩ | ⟨rfl, h⟩
      · rw [if_pos rfl]
        have quiet : qop C o T H (fun v => aopsQ C ops r (put T o.dst v) H K) → o.quiet C.P a (fun w' => Below w.heap.size w w') (wpQuiet C.P ops (fun w' => Below w.heap.size w w') Q r) := fun h => by
          obtain ⟨x, v, h1, h2, h3⟩ := qop_ok h hT hH hG
          refine ⟨v, fun w' hw' => ?_, aopsQ_ok hsm hH hG hQ r h1 (hT.put o.dst h2) (by rw [put_defers]; exact hd)⟩
          unfold Oper.quietAt
          rw [h3 w' (same_of_below hw')]
          exact ⟨rfl, rfl⟩
        split at h
        · rename_i f args ats hop
          split at h
          · rename_i g as htg
            split at h
            · rename_i fn sm as' hfn hsum has
              have hcf := cond_false h; clear h; obtain ⟨hen, h⟩ := hcf
              split at h
              · rename_i v hv
                split at h
                · rename_i u hu
                  obtain ⟨first, cap, hfv, hR⟩ := target_ok htg (ev_ok hT hG f) (relL_map hT hG args)
                  refine ⟨u, fun w' hw' => ?_, aopsQ_ok hsm hH hG hQ r h (hT.put o.dst (rel_ofRes ..)) (by rw [put_defers]; exact hd)⟩
                  unfold Oper.quietAt
                  rw [run_enter hop hfn hen hfv w']
                  refine ⟨rfl, ?_⟩
                  obtain ⟨m1, m2⟩ := mapO_ok has
                  have hsame := same_of_below hw'
                  have hext : Ext (Far Pb B0 w) w w' := ⟨fun b hb => hsame b (hb.elim (hH.pb b) And.right), fun b n ⟨c, ty, fr, h1, h2⟩ => ⟨c, ty, fr, hsame.get h1, h2⟩⟩
                  have hv' : RelL (Far Pb B0 w) noMu w' as' (first ++ args.map a.eval ++ cap) := ⟨by rw [m1]; exact hR.1, fun i x v hi hx => by
                    have hil : i < as.length := by have := lt_of_get hi; omega
                    have hi' := List.getElem?_eq_getElem hil
                    obtain ⟨y, p1, p2⟩ := m2 i _ hi'
                    rw [hi] at p1
                    simp only [Option.some.injEq] at p1
                    subst p1
                    exact (fzA_ok hH p2 (hR.2 i _ v hi' hx)).mono (fun _ h => h) (fun _ _ _ h => h) hext⟩
                  refine (hsm g sm as' v hsum hv (Far Pb B0 w) w' _ (fun b hb => ?_) hv' ((globRel_mu hG).mono (fun b h => .inl h) (fun _ _ _ h => h) ⟨fun b hb => hsame b (hH.pb b hb), hext.size⟩)).mono
                    fun e w'' ⟨r', x, e1, e2, e3, e4⟩ => ?_
                  · have := hw'.size
                    have : b < w.heap.size := hb.elim (hH.pb b) And.right
                    omega
                  · subst e1
                    have := toVal_ok _ hu e3
                    subst this
                    exact ⟨e2, hw'.trans (e4.mono hw'.size)⟩
                · exact h.elim
              · exact h.elim
            · exact h.elim
          · exact h.elim
        · exact quiet h
      · rw [if_neg (by simp)]
        exact aopsQ_ok hsm hH hG hQ r h (hT.put o.dst (Rel.of_sc ..)) (by rw [put_defers]; exact hd)

theorem SR.below {w' : World} (h : SR C E Pb μ B0 w T H a) (hb : Below w.heap.size w w') : SR C E Pb μ B0 w' T H a := by
  have hsame := same_of_below hb
  have hext : Ext Pb w w' := ⟨fun b hb => hsame b (h.hp.pb b hb), fun b n ⟨c, ty, fr, h1, h2⟩ => ⟨c, ty, fr, hsame.get h1, h2⟩⟩
  have hgo : Goes Pb μ B0 w H.length Pb μ w' H.length := ⟨fun _ h => h, fun _ _ _ h => h, hext, hb.mono h.hp.base, Nat.le_refl _, fun _ h => .inl h⟩
  exact ⟨h.tm.mono hgo.pb hgo.mu hext, h.hp.same hsame hb.size (fun _ h => h) (fun _ h => .inl h), h.gl.goes hgo, h.df, h.go.trans hgo, h.dom⟩

theorem below_drew (w : World) : Below w.heap.size w { w with drawn := w.drawn + 1 } := ⟨rfl, rfl, rfl, Nat.le_refl _, fun _ _ => rfl⟩

/-! ### what a round forgets -/

theorem scrub_ok : ∀ (l : List Tmp) {T : Tmps}, RelL Pb μ w T a.tmps → RelL Pb μ w (scrub l T) a.tmps
  | [], _, h => h
  | t :: l, T, h => by
    refine scrub_ok l (T := T.set t .any) ⟨by simp [h.1], fun i x v hi hv => ?_⟩
    rw [List.getElem?_set] at hi
    by_cases hti : t = i
    · subst hti
      have : t < T.length := by
        rcases Nat.lt_or_ge t a.tmps.size with h' | h'
        · rw [h.1]; exact h'
        · simp [Array.getElem?_eq_none h'] at hv
      simp [this] at hi
      subst hi
      exact .any _
    · simp only [hti, if_false] at hi
      exact h.2 i x v hi hv

def muTo (n : Nat) (μ : Mu) : Mu := fun o ver => if o < n then μ o ver else none

theorem muTo_sub {n : Nat} {o ver b : Nat} (h : muTo n μ o ver = some b) : o < n ∧ μ o ver = some b := by
  unfold muTo at h
  split at h
  · exact ⟨by assumption, h⟩
  · cases h

theorem low_rel {n : Nat} : ∀ (d : Nat) {x : AV} {v : Value}, lowA d n x = true → Rel Pb μ w x v → Rel Pb (muTo n μ) w x v
  | d, .tc c, v, _, h => rel_tc_mu h
  | d, .any, v, _, h => .any _
  | d, .vptr s el i f, v, _, h => by
    cases h with | vptr _ _ _ b off _ g h1 h2 h3 h4 => exact .vptr _ _ _ b off _ g h1 h2 h3 h4
  | d, .ptr o s i f ver, v, hl, h => by
    have hlt : o < n := by cases d <;> simpa [lowA] using hl
    cases h with | ptr _ _ _ _ _ b hb => exact .ptr _ _ _ _ _ b (by simp [muTo, hlt, hb])
  | d, .slice o s i len cap ex ver, v, hl, h => by
    have hlt : o < n := by cases d <;> simpa [lowA] using hl
    cases h with | slice _ _ _ _ _ _ _ b off c hb h1 h2 h3 h4 h5 => exact .slice _ _ _ _ _ _ _ b off c (by simp [muTo, hlt, hb]) h1 h2 h3 h4 h5
  | d, .map o, v, hl, h => by
    have hlt : o < n := by cases d <;> simpa [lowA] using hl
    cases h with | map _ b hb => exact .map _ b (by simp [muTo, hlt, hb])
  | 0, .agg cs, v, hl, h => by simp [lowA] at hl
  | 0, .tuple cs, v, hl, h => by simp [lowA] at hl
  | 0, .func fn f c, v, hl, h => by simp [lowA] at hl
  | d + 1, .agg cs, v, hl, h => by
    simp only [lowA] at hl
    cases h with | agg _ vs h1 h2 => exact .agg _ _ h1 fun i x u hi hu => low_rel d (List.all_eq_true.1 hl x (List.mem_of_getElem? hi)) (h2 i x u hi hu)
  | d + 1, .tuple cs, v, hl, h => by
    simp only [lowA] at hl
    cases h with | tuple _ vs h1 h2 => exact .tuple _ _ h1 fun i x u hi hu => low_rel d (List.all_eq_true.1 hl x (List.mem_of_getElem? hi)) (h2 i x u hi hu)
  | d + 1, .func fn f c, v, hl, h => by
    simp only [lowA, Bool.and_eq_true] at hl
    cases h with | func _ _ _ vf vc h1 h2 h3 h4 => exact .func _ _ _ vf vc h1 h2 (fun i x u hi hu => low_rel d (List.all_eq_true.1 hl.1 x (List.mem_of_getElem? hi)) (h3 i x u hi hu)) (fun i x u hi hu => low_rel d (List.all_eq_true.1 hl.2 x (List.mem_of_getElem? hi)) (h4 i x u hi hu))

theorem trunc_ok {n0 : Nat} (h : SR C E Pb μ B0 w T H a) (hn : E.n ≤ n0) (hn' : n0 ≤ H.length) : ∃ μ', SR C E Pb μ' B0 w T (trunc n0 T H) a := by
  unfold trunc
  split
  · rename_i hc
    simp only [Bool.and_eq_true] at hc
    obtain ⟨h1, h2⟩ := hc
    have hget : ∀ o obj, (H.take n0)[o]? = some obj → o < n0 ∧ H[o]? = some obj := fun o obj ho => by
      rw [List.getElem?_take] at ho
      split at ho
      · exact ⟨by assumption, ho⟩
      · cases ho
    refine ⟨muTo n0 μ, ⟨h.tm.1, fun i x v hi hv => low_rel 4 (List.all_eq_true.1 h1 x (List.mem_of_getElem? hi)) (h.tm.2 i x v hi hv)⟩, ⟨fun o ver b ho => ?_, fun o obj ho => ?_, fun o o' obj obj' b ho ho' hm hm' => ?_, h.hp.pb, h.hp.base⟩,
      fun g s el hg => low_rel (Pb := Pb) (μ := μ) 0 rfl (h.gl g s el hg), h.df, ?_, h.dom⟩
    · obtain ⟨hlt, hm⟩ := muTo_sub ho
      obtain ⟨obj, g1, g2⟩ := h.hp.dom _ _ _ hm
      exact ⟨obj, by rw [List.getElem?_take_of_lt hlt]; exact g1, g2⟩
    · obtain ⟨hlt, ho2⟩ := hget o obj ho
      have hlow := List.all_eq_true.1 h2 obj (List.mem_of_getElem? ho)
      have hob := h.hp.obj o obj ho2
      have hcr : ∀ {b s : Nat} {el : List (List AV)}, (∀ r, r ∈ el → r.all (lowA 4 n0) = true) → CellsRel Pb μ w b s el → CellsRel Pb (muTo n0 μ) w b s el := fun {b s el} hall ⟨q1, c, ty, fr, q2, q3, q4, q5⟩ =>
        ⟨q1, c, ty, fr, q2, q3, q4, fun i f r x hi hf => by
          obtain ⟨v, z1, z2, z3⟩ := q5 i f r x hi hf
          exact ⟨v, z1, z2, low_rel 4 (List.all_eq_true.1 (hall r (List.mem_of_getElem? hi)) x (List.mem_of_getElem? hf)) z3⟩⟩
      cases obj with
      | tcells s el =>
        obtain ⟨b, q1, q2, q3, q4⟩ := hob
        refine ⟨b, by simp [muTo, hlt, q1], q2, q3, hcr (fun r hr => ?_) q4⟩
        obtain ⟨r', _, rfl⟩ := List.mem_map.1 hr
        rw [List.all_eq_true]
        intro x hx
        simp only [tcs, List.mem_map] at hx
        obtain ⟨c, _, rfl⟩ := hx
        rfl
      | cells s el =>
        obtain ⟨b, q1, q2, q3, q4⟩ := hob
        exact ⟨b, by simp [muTo, hlt, q1], q2, q3, hcr (fun r hr => List.all_eq_true.1 hlow r hr) q4⟩
      | map es =>
        obtain ⟨b, q1, q2, q3, es', clock, q4, q5, q6⟩ := hob
        refine ⟨b, by simp [muTo, hlt, q1], q2, q3, es', clock, q4, q5, fun i e e' hi he => ⟨(q6 i e e' hi he).1, ?_⟩⟩
        exact low_rel 4 (List.all_eq_true.1 hlow e (List.mem_of_getElem? hi)) (q6 i e e' hi he).2
    · exact h.hp.inj o o' obj obj' b (hget _ _ ho).2 (hget _ _ ho').2 (muTo_sub hm).2 (muTo_sub hm').2
    · refine ⟨h.go.pb, fun o ver b ho => ?_, h.go.ext, h.go.below, by simp; omega, h.go.new⟩
      have := h.dom o ver b ho
      simp [muTo, show o < n0 by omega, h.go.mu o ver b ho]
  · exact ⟨μ, h⟩

theorem exists_least {p : Nat → Prop} (h : ∃ n, p n) : ∃ n, p n ∧ ∀ m, p m → n ≤ m := by
  obtain ⟨n, hn⟩ := h
  induction n using Nat.strongRecOn with
  | _ n ih =>
    by_cases hx : ∃ m, m < n ∧ p m
    · obtain ⟨m, h1, h2⟩ := hx
      exact ih m h1 h2
    · refine ⟨n, hn, fun m hm => ?_⟩
      rcases Nat.lt_or_ge m n with h | h
      · exact absurd ⟨m, h, hm⟩ hx
      · exact h

theorem wp_iter {body : Tmps → Heap → (AEx → Tmps → Heap → Prop) → Prop} {c : Code} {sl : List Tmp} {n0 : Nat} {sym : Bool} {K : AEx → Tmps → Heap → Prop}
    (hbody : ∀ T H K Pb μ a w, body T H K → SR C E Pb μ B0 w T H a → n0 ≤ H.length → c.wp C.P (fun e a' w' => ∃ x T' H' Pb' μ', exOf x = e ∧ K x T' H' ∧ SR C E Pb' μ' B0 w' T' H' a' ∧ n0 ≤ H'.length) a w) (hn : E.n ≤ n0)
    {n : Nat} (h : iter body sl n0 sym n T H K) (hs : SR C E Pb μ B0 w T H a) (hlen : n0 ≤ H.length) : (Code.loop c).wp C.P (Post C E B0 K) a w := by
  classical
  let Inv : Nat → Act → World → Prop := fun n a w => ∃ T H Pb μ, iter body sl n0 sym n T H K ∧ SR C E Pb μ B0 w T H a ∧ n0 ≤ H.length
  let ms : Act → World → Nat := fun a w => if h : ∃ n, Inv n a w then Classical.choose (exists_least h) else 0
  refine wp_loop (fun a w => ∃ n, Inv n a w) ms ⟨n, T, H, Pb, μ, h, hs, hlen⟩ fun a w hI => ?_
  have hms : ms a w = Classical.choose (exists_least hI) := dif_pos hI
  obtain ⟨T, H, Pb, μ, hi, hsr, hl⟩ := (Classical.choose_spec (exists_least hI)).1
  rw [← hms] at hi
  cases hm : ms a w with
  | zero => rw [hm] at hi; exact hi.elim
  | succ m =>
    rw [hm] at hi
    simp only [iter] at hi
    have hs1 : SR C E Pb μ B0 w (roundT sym sl T) H a := by
      cases sym
      · exact hsr
      · exact { hsr with tm := scrub_ok sl hsr.tm }
    obtain ⟨μ', hs2, hl2⟩ : ∃ μ', SR C E Pb μ' B0 w (roundT sym sl T) (roundH sym n0 (roundT sym sl T) H) a ∧ n0 ≤ (roundH sym n0 (roundT sym sl T) H).length := by
      cases sym
      · exact ⟨μ, hs1, hl⟩
      · obtain ⟨μ', h'⟩ := trunc_ok hs1 hn hl
        refine ⟨μ', h', ?_⟩
        simp only [roundH, trunc]
        split
        · simp; omega
        · exact hl
    refine wp_mono (hbody _ _ _ _ _ _ _ hi hs2 hl2) fun e a' w' ⟨x, T', H', Pb', μ'', h1, h2, h3, h4⟩ => ?_
    subst h1
    cases x with
    | normal =>
      have hI' : ∃ n, Inv n a' w' := ⟨m, T', H', Pb', μ'', h2, h3, h4⟩
      refine ⟨hI', ?_⟩
      have : ms a' w' = Classical.choose (exists_least hI') := dif_pos hI'
      rw [this]
      exact Nat.lt_succ_of_le ((Classical.choose_spec (exists_least hI')).2 m ⟨T', H', Pb', μ'', h2, h3, h4⟩)
    | exit id => exact ⟨.exit id, T', H', Pb', μ'', rfl, h2, h3⟩
    | goto l => exact ⟨.goto l, T', H', Pb', μ'', rfl, h2, h3⟩
    | ret => exact ⟨.ret, T', H', Pb', μ'', rfl, h2, h3⟩

theorem SR.len (h : SR C E Pb μ B0 w T H a) : E.n ≤ H.length := h.go.len

/-- The heap never gets shorter than it was where the walk began. -/
theorem acode_ok {call : Caller} (hc : CallOk C call) (hsm : SummOk C) (nm : Array String) : ∀ (c : Code) {E : Entry} {T : Tmps} {H : Heap} {K : AEx → Tmps → Heap → Prop} {Pb : Nat → Prop} {μ : Mu} {a : Act} {w : World},
    acode C call nm c T H K → SR C E Pb μ B0 w T H a → c.wp C.P (Post C E B0 K) a w
  | .skip, E, T, H, K, Pb, μ, a, w, h, hs => wp_skip ⟨.normal, T, H, Pb, μ, rfl, h, hs⟩
  | .label l, E, T, H, K, Pb, μ, a, w, h, hs => wp_label ⟨.normal, T, H, Pb, μ, rfl, h, hs⟩
  | .region id ops draw, E, T, H, K, Pb, μ, a, w, h, hs => by
    simp only [acode] at h
    cases draw with
    | false => exact wp_region_list (aops_ok hc hsm (fun T H Pb μ a w h hs => ⟨.normal, T, H, Pb, μ, rfl, h, hs⟩) ops.toList h hs)
    | true =>
      have hcf := cond_false h; clear h; obtain ⟨hcc, h⟩ := hcf
      simp only [Bool.and_eq_true] at hcc
      refine wp_region_quiet (C := fun w' => Below w.heap.size w w') hcc.2 hcc.1 (below_drew w) ?_
      refine aopsQ_ok hsm hs.hp hs.gl (fun T' a' hk hT' hd w' hw' => ?_) ops.toList h hs.tm hs.df
      exact ⟨.normal, T', H, Pb, μ, rfl, hk, SR.below { hs with tm := hT', df := hd } hw'⟩
  | .seq x y, E, T, H, K, Pb, μ, a, w, h, hs => by
    refine wp_seq (wp_mono (acode_ok hc hsm nm x h hs) fun e a' w' hp => ?_)
    obtain ⟨e', T', H', Pb', μ', rfl, hk, hs'⟩ := hp
    cases e' with
    | normal => exact acode_ok hc hsm nm y hk hs'
    | exit id => exact ⟨.exit id, T', H', Pb', μ', rfl, hk, hs'⟩
    | goto l => exact ⟨.goto l, T', H', Pb', μ', rfl, hk, hs'⟩
    | ret => exact ⟨.ret, T', H', Pb', μ', rfl, hk, hs'⟩
  | .cond c x y, E, T, H, K, Pb, μ, a, w, h, hs => by
    simp only [acode] at h
    split at h
    · rename_i t he
      have hR := ev_ok hs.tm hs.gl c
      rw [he] at hR
      have hv := hR.sc_eq
      refine wp_cond hv ?_
      rcases cond_split h with ⟨rfl, h⟩ | ⟨rfl, h⟩
      · exact acode_ok hc hsm nm x h hs
      · exact acode_ok hc hsm nm y h hs
    · exact h.elim
  | .block id b, E, T, H, K, Pb, μ, a, w, h, hs => by
    refine wp_block (wp_mono (acode_ok hc hsm nm b h hs) fun e a' w' hp => ?_)
    obtain ⟨e', T', H', Pb', μ', rfl, hk, hs'⟩ := hp
    cases e' with
    | normal => exact ⟨.normal, T', H', Pb', μ', rfl, hk, hs'⟩
    | exit id' =>
      simp only [exOf, Exit.inBlock]
      rcases cond_split hk with ⟨hid, hk⟩ | ⟨hid, hk⟩
      · simp only [decide_eq_true_eq] at hid
        rw [if_pos hid]
        exact ⟨.normal, T', H', Pb', μ', rfl, hk, hs'⟩
      · simp only [decide_eq_false_iff_not] at hid
        rw [if_neg hid]
        exact ⟨.exit id', T', H', Pb', μ', rfl, hk, hs'⟩
    | goto l => exact ⟨.goto l, T', H', Pb', μ', rfl, hk, hs'⟩
    | ret => exact ⟨.ret, T', H', Pb', μ', rfl, hk, hs'⟩
  | .loop b, E, T, H, K, Pb, μ, a, w, h, hs => by
    -- inside, the walk may be said to begin where the loop does: no object that was there goes
    let E2 : Entry := ⟨Pb, μ, w, H.length⟩
    have hs2 : SR C E2 Pb μ B0 w T H a := { hs with go := Goes.refl .., dom := fun o ver b ho => by obtain ⟨obj, g, _⟩ := hs.hp.dom _ _ _ ho; exact lt_of_get g }
    have := wp_iter (C := C) (E := E2) (B0 := B0) (c := b) (K := K) (n0 := H.length) (fun T1 H1 K1 Pb1 μ1 a1 w1 hb1 hs1 hl1 => by
      have := acode_ok (E := E2) hc hsm nm b hb1 hs1
      refine wp_mono this fun e a' w' ⟨x, T', H', Pb', μ', g1, g2, g3⟩ => ⟨x, T', H', Pb', μ', g1, g2, g3, g3.len⟩) (Nat.le_refl _) h hs2 (Nat.le_refl _)
    refine wp_mono this fun e a' w' ⟨x, T', H', Pb', μ', g1, g2, g3⟩ => ⟨x, T', H', Pb', μ', g1, g2, { g3 with go := hs.go.trans g3.go, dom := hs.dom }⟩
  | .exit id, E, T, H, K, Pb, μ, a, w, h, hs => wp_exit ⟨.exit id, T, H, Pb, μ, rfl, h, hs⟩
  | .ret, E, T, H, K, Pb, μ, a, w, h, hs => wp_ret ⟨.ret, T, H, Pb, μ, rfl, h, hs⟩
  | .goto l, E, T, H, K, Pb, μ, a, w, h, hs => wp_goto ⟨.goto l, T, H, Pb, μ, rfl, h, hs⟩
  | .scope b, E, T, H, K, Pb, μ, a, w, h, hs => by simp [acode] at h
  | .rangeFunc .., E, T, H, K, Pb, μ, a, w, h, hs => by simp [acode] at h
  | .refuse _, E, T, H, K, Pb, μ, a, w, h, hs => by simp [acode] at h

def resOne (a : Act) : ResultVar → Sem Value
  | .tmp t => pure (a.tmps.getD t undef)
  | .cell p t => do loadVar t (← asAddr (a.tmps.getD p undef))

theorem resultsA_go {k : AV → Prop} (hT : RelL Pb μ w T a.tmps) (hH : HeapRel Pb μ B0 w H) : ∀ (l : List ResultVar) {acc : List AV} {vacc : List Value}, resultsA.go C T H k l acc →
    acc.length = vacc.length → (∀ (i : Nat) (x : AV) (v : Value), acc[i]? = some x → vacc[i]? = some v → Rel Pb μ w x v) →
    ∃ (vs : List Value) (x : AV) (v : Value), (l.mapM (resOne a)).run C.P w = .ok vs w ∧
      v = (match vacc.reverse ++ vs with | [v] => v | l => .tuple l.toArray) ∧ k x ∧ Rel Pb μ w x v
  | [], acc, vacc, h, hl, hr => by
    refine ⟨[], ?_⟩
    simp only [resultsA.go] at h
    split at h
    · rename_i x
      obtain ⟨v, rfl⟩ : ∃ v, vacc = [v] := by
        cases vacc with
        | nil => simp at hl
        | cons v r => cases r with
          | nil => exact ⟨v, rfl⟩
          | cons _ _ => simp at hl
      exact ⟨x, v, rfl, rfl, h, hr 0 x v rfl rfl⟩
    · rename_i hne
      refine ⟨.tuple acc.reverse, .tuple vacc.reverse.toArray, rfl, ?_, h, .tuple _ _ (by simp [hl]) fun i x v hi hv => ?_⟩
      · simp only [List.append_nil]
        split
        · rename_i v hv
          exfalso
          have : acc.length = 1 := by rw [hl, ← List.length_reverse, hv]; rfl
          match acc, this with
          | [x], _ => exact hne x rfl
        · rfl
      · simp only [List.getElem?_toArray] at hv
        have h1 := lt_of_get hi
        have h2 := lt_of_get hv
        simp only [List.length_reverse] at h1 h2
        rw [List.getElem?_reverse h1] at hi
        rw [List.getElem?_reverse h2, ← hl] at hv
        exact hr _ x v hi hv
  | .tmp t :: r, acc, vacc, h, hl, hr => by
    simp only [resultsA.go] at h
    obtain ⟨vs, x, v, h1, h2, h3⟩ := resultsA_go hT hH r (vacc := a.tmps.getD t undef :: vacc) h (by simp [hl]) (fun i x v hi hv => by
      cases i with
      | zero => simp only [List.getElem?_cons_zero, Option.some.injEq] at hi hv; subst hi; subst hv; exact hT.getD t
      | succ i => exact hr i x v (by simpa using hi) (by simpa using hv))
    refine ⟨a.tmps.getD t undef :: vs, x, v, ?_, by simpa using h2, h3⟩
    simp only [List.mapM_cons, Sem.run_bind, resOne, Sem.run_pure, Result.andThen, h1]
  | .cell p t :: r, acc, vacc, h, hl, hr => by
    simp only [resultsA.go] at h
    split at h
    · rename_i ti ht
      have hp := hT.getD p
      obtain ⟨y, u, g1, g2, g3⟩ := loadA_ok ht h hp hH
      obtain ⟨vs, x, v, h1, h2, h3⟩ := resultsA_go hT hH r (vacc := u :: vacc) g1 (by simp [hl]) (fun i x v hi hv => by
        cases i with
        | zero => simp only [List.getElem?_cons_zero, Option.some.injEq] at hi hv; subst hi; subst hv; exact g2
        | succ i => exact hr i x v (by simpa using hi) (by simpa using hv))
      refine ⟨u :: vs, x, v, ?_, by simpa using h2, h3⟩
      have hld := g3 w (Same.refl w)
      have hptr : ∃ q, a.tmps.getD p undef = .pointer (some q) := by
        generalize T.getD p undefA = z at h hp
        generalize a.tmps.getD p undef = y at hp
        cases hp <;> first | exact ⟨_, rfl⟩ | (simp [loadA] at h)
      obtain ⟨q, hq⟩ := hptr
      rw [hq] at hld
      have hld' : (loadVar t q).run C.P w = .ok u w := by simpa [Instr.loadAt, Instr.sureAddr] using hld
      simp only [List.mapM_cons, Sem.run_bind, resOne, hq, asAddr, Sem.run_pure, Result.andThen, hld', h1]
    · exact h.elim

theorem resultsA_ok {fn : Func} {k : AV → Prop} (h : resultsA C fn T H k) (hT : RelL Pb μ w T a.tmps) (hH : HeapRel Pb μ B0 w H) : ∃ x v, (results fn a.tmps).run C.P w = .ok v w ∧ k x ∧ Rel Pb μ w x v := by
  obtain ⟨vs, x, v, h1, h2, h3, h4⟩ := resultsA_go hT hH fn.results.toList (vacc := []) h rfl (fun i x v hi => by simp at hi)
  refine ⟨x, v, ?_, h3, h4⟩
  have e : results fn a.tmps = (do
      let vs ← fn.results.mapM (resOne a)
      pure (if h : vs.size = 1 then vs[0] else .tuple vs)) := by
    unfold results
    have : (fun x => match x with
        | ResultVar.tmp t => (pure (a.tmps.getD t undef) : Sem Value)
        | ResultVar.cell p t => do loadVar t (← asAddr (a.tmps.getD p undef))) = resOne a := by funext x; cases x <;> rfl
    rw [← this]
    rfl
  rw [e, Array.mapM_eq_mapM_toList]
  simp only [Sem.run_bind, Sem.run_map, h1, Result.andThen, Sem.run_pure]
  congr 1
  rw [h2]
  simp only [List.reverse_nil, List.nil_append]
  match vs with
  | [] => rfl
  | [u] => rfl
  | u :: v :: r => simp

theorem acall_ok (hsm : SummOk C) : ∀ d, CallOk C (acall C d)
  | 0 => fun f args H k h => h.elim
  | d + 1 => fun f args H k h Pb μ B0 w vs hv hH hG => by
    simp only [acall] at h
    split at h
    · exact h.elim
    · rename_i fn hfn
      split at h
      · exact h.elim
      · rename_i c hb
        let E : Entry := ⟨Pb, μ, w, H.length⟩
        have hs : SR C E Pb μ B0 w (args ++ List.replicate (fn.ntmps - args.length) undefA) H { tmps := vs ++ Array.replicate (fn.ntmps - vs.size) undef, defers := [] } := by
          refine ⟨relL_append hv ⟨by simp [hv.1], fun i x v hi hx => ?_⟩, hH, hG, rfl, Goes.refl .., fun o ver b ho => by obtain ⟨obj, g, _⟩ := hH.dom _ _ _ ho; exact lt_of_get g⟩
          rw [List.getElem?_replicate] at hi
          rw [Array.getElem?_replicate] at hx
          split at hi
          · split at hx
            · simp only [Option.some.injEq] at hi hx
              subst hi; subst hx
              exact Rel.of_sc ..
            · cases hx
          · cases hi
        refine calls_of_wp hfn hb (wp_mono (acode_ok (E := E) (acall_ok hsm d) hsm fn.tmpNames c h hs) fun e a' w' hp => ?_)
        obtain ⟨x, T', H', Pb', μ', rfl, hk, hs'⟩ := hp
        cases x with
        | normal =>
          obtain ⟨y, v, g1, g2, g3⟩ := resultsA_ok hk hs'.tm hs'.hp
          exact ⟨hs'.df, v, g1, y, H', v, Pb', μ', g2, rfl, g3, hs'.hp, hs'.go⟩
        | ret =>
          obtain ⟨y, v, g1, g2, g3⟩ := resultsA_ok hk hs'.tm hs'.hp
          exact ⟨hs'.df, v, g1, y, H', v, Pb', μ', g2, rfl, g3, hs'.hp, hs'.go⟩
        | exit id => exact hk.elim
        | goto l => exact hk.elim

/-- **What the evaluator tells of a call of trees holds of the model.** -/
theorem eval_ok (hsm : SummOk C) {d : Nat} {f : FuncId} {args : List AV} {k : AV → Prop} (h : callPure (acall C d) f args k) : TreeCall C f args k := by
  intro Pb w vs h1 h2 h3
  refine (acall_ok hsm d f args [] _ h Pb noMu w.heap.size w vs h2 (heapRel_nil h1) h3).mono fun e w' ⟨r, H', v, Pb', μ', e1, e2, e3, e4, e5⟩ => ?_
  split at e1
  · rename_i t ht
    refine ⟨t, v, e1, e2, (fzR_ok e4 ht e3).mono (fun b hb => ?_) (fun _ _ _ h => h) ⟨fun _ _ => rfl, fun _ _ h => h⟩, e5.below⟩
    rcases hb with hb | hb
    · rcases e5.new b hb with h | h
      · exact .inl h
      · exact .inr ⟨h, e4.pb b hb⟩
    · exact .inr hb
  · exact e1.elim

/-- A run that tells this tree. -/
@[irreducible] def Runs (C : Ctx) (d : Nat) (f : FuncId) (args : List AV) (r : AV) : Prop := callPure (acall C d) f args (· = r)

theorem Runs.mk {d : Nat} {f : FuncId} {args : List AV} {r : AV} (h : Runs C d f args r = (r = r)) : Runs C d f args r := h ▸ rfl

theorem Runs.tree (hsm : SummOk C) {d : Nat} {f : FuncId} {args : List AV} {r : AV} (h : Runs C d f args r) : TreeCall C f args (· = r) := by
  unfold Runs at h
  exact eval_ok hsm h
end
end Go.Proofs.Ytkcnilnagppaiaa
