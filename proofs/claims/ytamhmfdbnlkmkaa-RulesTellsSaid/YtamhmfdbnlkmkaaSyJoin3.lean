/- Runs in which ways that come together again are joined: what is told of calls. -/
import Derived.Test.YtamhmfdbnlkmkaaSyJoin2
set_option linter.unusedVariables false
set_option linter.unusedSimpArgs false
namespace Go.Proofs.Ytamhmfdbnlkmkaa
open Go Go.RowKit

section
variable {C : Ctx} {ρ : Env} {d : Nat} {nm : Array String}

/-- What a fragment comes to. -/
abbrev FJ (C : Ctx) (ρ : Env) (c : Code) (T : Tmps) (H : Heap) (s : JS) : Prop := FragH C c (concs ρ T) (concH ρ H) (exOf s.e) (concs ρ s.T) (concH ρ s.H)

theorem norm_eq {e : AEx} (h : isNorm e = true) : e = .normal := by cases e <;> simp_all [isNorm]

theorem exOf_ne {e : AEx} (h : isNorm e = false) : exOf e ≠ .normal := by cases e <;> simp_all [isNorm, exOf]

theorem loopJ_ok (hF : ρ.F = iteF) {b : Code} {body : Tmps → Heap → Facts → Option (List JS)} (hb : ∀ T H fs L, FactsOk ρ fs → body T H fs = some L → Comes ρ (FJ C ρ b T H) L) :
    ∀ {m : Nat} {T : Tmps} {H : Heap} {fs : Facts} {L : List JS}, FactsOk ρ fs → loopJ body m T H fs = some L → Comes ρ (fun s => s.e ≠ .normal ∧ ∃ n, FragHR C b n (concs ρ T) (concH ρ H) (exOf s.e) (concs ρ s.T) (concH ρ s.H)) L
  | 0, _, _, _, _, _, h => by simp [loopJ] at h
  | m + 1, T, H, fs, L, hf, h => by
    simp only [loopJ] at h
    split at h
    · cases h
    · rename_i A hA
      simp only [Option.map_eq_some_iff] at h
      obtain ⟨L0, h0, rfl⟩ := h
      refine tidyJ_ok FragHR.lax (seqJ_comes hF FragHR.lax (fun s X hX hn hg hs => ?_) (fun s hn hs => ?_) h0 (hb T H fs A hf hA))
      · obtain ⟨i1, i2⟩ := loopJ_ok hF hb (factG_ok hf hg) hX
        refine ⟨i1, fun t ht hb => ?_⟩
        obtain ⟨j1, n, j2⟩ := i2 t ht hb
        have hs : FragH C b (concs ρ T) (concH ρ H) .normal (concs ρ s.T) (concH ρ s.H) := by
          have := norm_eq hn
          simp only [FJ, this, exOf] at hs
          exact hs
        exact ⟨j1, n + 1, FragHR.step hs j2⟩
      · refine ⟨fun he => ?_, 1, FragHR.exit hs (exOf_ne hn)⟩
        rw [he] at hn
        cases hn

theorem blockJ_ok (hF : ρ.F = iteF) {id : Nat} {b : Code} {T : Tmps} {H : Heap} {L : List JS} (h : Comes ρ (FJ C ρ b T H) L) : Comes ρ (FJ C ρ (.block id b) T H) (blockJ id L) := by
  obtain ⟨⟨s, hs, hb⟩, h2⟩ := h
  have key : ∀ t ∈ L.map (fun s => { s with e := match s.e with | .exit id' => cond (decide (id' = id)) .normal (.exit id') | e => e }), (den ρ t.g).b = true → FJ C ρ (.block id b) T H t := fun t ht hb => by
    obtain ⟨s, hs, rfl⟩ := List.mem_map.1 ht
    have hs := h2 s hs hb
    simp only [FJ] at hs ⊢
    cases he : s.e with
    | exit id' =>
      rw [he] at hs
      show FragH C _ _ _ (exOf (cond (decide (id' = id)) .normal (.exit id'))) _ _
      cases hd : decide (id' = id) with
      | true =>
        simp only [decide_eq_true_eq] at hd
        subst hd
        exact FragH.block hs
      | false =>
        simp only [decide_eq_false_iff_not] at hd
        exact FragH.block1 hs (fun h => hd (by simpa [exOf] using h))
    | normal => rw [he] at hs; exact FragH.block1 hs (fun h => by cases h)
    | ret => rw [he] at hs; exact FragH.block1 hs (fun h => by cases h)
    | goto l => rw [he] at hs; exact FragH.block1 hs (fun h => by cases h)
  obtain ⟨g1, g2⟩ := foldr_putJ hF FragH.lax key (Y := []) (fun t ht => by cases ht)
  exact ⟨g1.2 (.inl ⟨_, List.mem_map_of_mem hs, hb⟩), g2⟩

theorem FragH.condJ (hs : Summ ρ C) {c : Operand} {a b : Code} {T : Tmps} {H : Heap} {e : Exit} {T' : Tmps} {H' : Heap} {v : AV} {t : Bool} (hv : ev C (getL T) c = v) (ht : v = .tc (.sc (.bool t)) ∨ ∃ x, v = .tc (.sy .bool x) ∧ (den ρ x).b = t)
    (h : FragH C (match t with | true => a | false => b) (concs ρ T) (concH ρ H) e T' H') : FragH C (.cond c a b) (concs ρ T) (concH ρ H) e T' H' := by
  intro ob E B0 Pb μ ac w hM hn hsr
  letI ob2 : Obs := ⟨ρ, fun r => r = .tc (.sc (.bool t))⟩
  have hs2 : SR C E Pb μ B0 w T H ac := SR.unconcH hM hsr
  have hx := ev_ok hs2.tm.look hs2.gl c
  rw [hv] at hx
  have h1 : Ok (condA v (.leaf (.tc (.sc (.bool true)))) (.leaf (.tc (.sc (.bool false))))) := by
    rcases ht with rfl | ⟨x, rfl, hq⟩
    · cases t <;> exact rfl
    · show cond (den ρ x).b _ _
      rw [hq]
      cases t <;> exact rfl
  rcases condA_ok h1 hx with ⟨hv, hy⟩ | ⟨hv, hy⟩
  · have : t = true := by
      have hy : (AV.tc (.sc (.bool true))) = .tc (.sc (.bool t)) := hy
      simpa using hy.symm
    subst this
    exact wp_cond hv (h ob E B0 Pb μ ac w hM hn hsr)
  · have : t = false := by
      have hy : (AV.tc (.sc (.bool false))) = .tc (.sc (.bool t)) := hy
      simpa using hy.symm
    subst this
    exact wp_cond hv (h ob E B0 Pb μ ac w hM hn hsr)

theorem jcode_ok (hF : ρ.F = iteF) (hs : Summ ρ C) : ∀ {n : Nat} {c : Code} {T : Tmps} {H : Heap} {fs : Facts} {L : List JS}, FactsOk ρ fs → jcode C d nm n c T H fs = some L → Comes ρ (FJ C ρ c T H) L := by
  intro n
  induction n with
  | zero => intro c T H fs L hf h; simp [jcode] at h
  | succ n ih =>
    intro c T H fs L hf h
    have leaf : leafJ (fragOutH C d nm c T H) fs = some L → Comes ρ (FJ C ρ c T H) L := fun h => leafJ_ok hF FragH.lax hf h fun e T' H' g hr => fragH_calls hs hr
    cases c with
    | seq a b =>
      simp only [jcode] at h
      split at h
      · cases h
      · rename_i A hA
        simp only [Option.map_eq_some_iff] at h
        obtain ⟨L0, h0, rfl⟩ := h
        refine tidyJ_ok FragH.lax (seqJ_comes hF FragH.lax (fun s X hX hn hg hx => ?_) (fun s hn hx => ?_) h0 (ih hf hA))
        · obtain ⟨i1, i2⟩ := ih (factG_ok hf hg) hX
          refine ⟨i1, fun t ht hb => ?_⟩
          have hx : FragH C a (concs ρ T) (concH ρ H) .normal (concs ρ s.T) (concH ρ s.H) := by
            have := norm_eq hn
            simp only [FJ, this, exOf] at hx
            exact hx
          exact FragH.seq hx (i2 t ht hb)
        · exact FragH.seq1 hx (exOf_ne hn)
    | cond c a b =>
      simp only [jcode] at h
      split at h
      · rename_i hv
        have := ih hf h
        exact ⟨this.1, fun s hs2 hb => FragH.condJ (t := true) hs hv (.inl rfl) (this.2 s hs2 hb)⟩
      · rename_i hv
        have := ih hf h
        exact ⟨this.1, fun s hs2 hb => FragH.condJ (t := false) hs hv (.inl rfl) (this.2 s hs2 hb)⟩
      · rename_i e hv
        split at h
        · rename_i hk
          have hb := triI_ok hF hf hk
          have := ih hf h
          exact ⟨this.1, fun s hs2 hb2 => FragH.condJ (t := true) hs hv (.inr ⟨e, rfl, hb⟩) (this.2 s hs2 hb2)⟩
        · rename_i hk
          have hb := triI_ok hF hf hk
          have := ih hf h
          exact ⟨this.1, fun s hs2 hb2 => FragH.condJ (t := false) hs hv (.inr ⟨e, rfl, hb⟩) (this.2 s hs2 hb2)⟩
        · split at h
          · rename_i A B hA hB
            simp only [Option.some.injEq] at h
            subst h
            have h1 : (den ρ e).b = true → Comes ρ (FJ C ρ (.cond c a b) T H) A := fun hb => by
              have := ih (factN_ok e hf hb) hA
              exact ⟨this.1, fun s hs2 hb2 => FragH.condJ (t := true) hs hv (.inr ⟨e, rfl, hb⟩) (this.2 s hs2 hb2)⟩
            have h2 : (den ρ e).b = false → Comes ρ (FJ C ρ (.cond c a b) T H) B := fun hb => by
              have := ih (factN_ok e hf hb) hB
              exact ⟨this.1, fun s hs2 hb2 => FragH.condJ (t := false) hs hv (.inr ⟨e, rfl, hb⟩) (this.2 s hs2 hb2)⟩
            exact tidyJ_ok FragH.lax (selJ_ok hF FragH.lax h1 h2 fun hb => (h1 hb).2)
          · cases h
      · cases h
    | block id b =>
      simp only [jcode, Option.map_eq_some_iff] at h
      obtain ⟨L0, h0, rfl⟩ := h
      exact tidyJ_ok FragH.lax (blockJ_ok hF (ih hf h0))
    | loop b =>
      simp only [jcode] at h
      have := loopJ_ok (C := C) (b := b) hF (fun T H fs L hf h => ih hf h) hf h
      exact ⟨this.1, fun s hs2 hb => (this.2 s hs2 hb).2.elim fun n hn => hn.loop⟩
    | _ => exact leaf (by simpa only [jcode] using h)

/-! ### calls -/

theorem FragH.callsJ {f : FuncId} {fn : Func} {c : Code} {args : List AV} {e : Exit} {T' : Tmps} {H' : Heap} {r t : AV} (hfn : C.P.funcs[f]? = some fn) (hb : fn.body = some c)
    (h : FragH C c (initT 0 (Go.Proofs.Ytamhmfdbnlkmkaa.concs ρ args) fn.ntmps) [] e (Go.Proofs.Ytamhmfdbnlkmkaa.concs ρ T') (Go.Proofs.Ytamhmfdbnlkmkaa.concH ρ H'))
    (he : e = .normal ∨ e = .ret) (hr : resultsA C fn T' H' .leaf = .leaf r) (ht : fzR H' r = some t) : CallsTo C f (Go.Proofs.Ytamhmfdbnlkmkaa.concs ρ args) (Go.Proofs.Ytamhmfdbnlkmkaa.conc ρ t) := by
  intro ob Pb w vs h1 h2 h3
  let E : Entry := ⟨Pb, noMu, w, 0, 0⟩
  have hs : @SR ob C E Pb noMu w.heap.size w (initT 0 (Go.Proofs.Ytamhmfdbnlkmkaa.concs ρ args) fn.ntmps) [] { tmps := vs ++ Array.replicate (fn.ntmps - vs.size) undef, defers := [] } := by
    refine @SR.mk ob _ _ _ _ _ _ _ _ _ (relL_append h2 ⟨by simp [h2.1], fun i x v hi hx => ?_⟩) (heapRel_nil h1) h3 rfl (@Goes.refl ob ..) (fun o ver b ho => by simp [E, noMu] at ho) fun d hd => by simp [isLoc, E] at hd
    rw [List.getElem?_map, Option.map_eq_some_iff] at hi
    obtain ⟨j, _, rfl⟩ := hi
    rw [Array.getElem?_replicate] at hx
    split at hx
    · simp only [Option.some.injEq] at hx
      subst hx
      cases isLoc 0 j
      · exact Rel.of_sc ..
      · exact .any _
    · cases hx
  refine calls_of_wp hfn hb (wp_mono (h ob E w.heap.size Pb noMu _ w rfl rfl hs) fun x a' w' ⟨hx, Pb', μ', hs'⟩ => ?_)
  letI ob2 : Obs := ⟨ρ, fun x => x = r⟩
  have hs2 : @SR ob2 C E Pb' μ' w.heap.size w' T' H' a' := SR.unconcH rfl hs'
  have hk : Ok (resultsA C fn T' H' .leaf) := by rw [hr]; rfl
  obtain ⟨y, v, g1, g2, g3⟩ := resultsA_ok hk hs2.tm hs2.hp
  have g2' : y = r := g2
  subst g2'
  have g4 := (fzR_ok hs2.hp ht g3).mono (Pb' := Far Pb w.heap.size w') (μ' := noMu) (w' := w') (fun b hb => by
    rcases hb with hb | hb
    · rcases hs2.go.new b hb with h | h
      · exact .inl h
      · exact .inr ⟨h, hs2.hp.pb b hb⟩
    · exact .inr hb) (fun _ _ _ h => h) ⟨fun _ _ => rfl, fun _ _ h => h⟩
  have fin : a'.defers = [] ∧ ∃ v, (results fn a'.tmps).run C.P w' = .ok v w' ∧ ∃ r v', r = Go.Proofs.Ytamhmfdbnlkmkaa.conc ρ t ∧ Ending.returned v = .returned v' ∧ @Rel ob (Far Pb w.heap.size w') noMu w' r v' ∧ Below w.heap.size w w' :=
    ⟨hs2.df, v, g1, _, v, rfl, rfl, g4.conc, hs2.go.below⟩
  subst hx
  rcases he with rfl | rfl
  · exact fin
  · exact fin

/-- What a state tells. -/
def valS (C : Ctx) (fn : Func) (s : JS) : Option AV := match s.e with
  | .normal => match resultsA C fn s.T s.H .leaf with
    | .leaf r => fzR s.H r
    | _ => none
  | .ret => match resultsA C fn s.T s.H .leaf with
    | .leaf r => fzR s.H r
    | _ => none
  | _ => none

/-- What states tell: the one or the other. -/
def valJ (C : Ctx) (fn : Func) : List JS → Option AV
  | [] => none
  | [s] => valS C fn s
  | s :: r => match valS C fn s, valJ C fn r with
    | some a, some b => jv s.g a b
    | _, _ => none

theorem valJ_ok (hF : ρ.F = iteF) {fn : Func} : ∀ {L : List JS} {v : AV}, valJ C fn L = some v → (∃ s ∈ L, (den ρ s.g).b = true) → ∃ s ∈ L, (den ρ s.g).b = true ∧ ∃ x, valS C fn s = some x ∧ conc ρ x = conc ρ v
  | [], v, h, _ => by simp [valJ] at h
  | [s], v, h, ⟨t, ht, hb⟩ => by
    simp only [List.mem_cons, List.not_mem_nil, or_false] at ht
    subst ht
    exact ⟨t, List.mem_cons_self .., hb, v, h, rfl⟩
  | s :: u :: r, v, h, ⟨t, ht, hb⟩ => by
    simp only [valJ] at h
    split at h
    · rename_i a b ha hb2
      have hj := jv_ok hF a b h
      cases hs : (den ρ s.g).b with
      | true =>
        rw [hs] at hj
        exact ⟨s, List.mem_cons_self .., hs, a, ha, hj.symm⟩
      | false =>
        rw [hs] at hj
        have : ∃ x ∈ u :: r, (den ρ x.g).b = true := by
          rcases List.mem_cons.1 ht with rfl | ht
          · rw [hs] at hb; cases hb
          · exact ⟨t, ht, hb⟩
        obtain ⟨x, hx, h1, y, h2, h3⟩ := valJ_ok hF hb2 this
        exact ⟨x, List.mem_cons_of_mem _ hx, h1, y, h2, by rw [h3]; exact hj.symm⟩
    · cases h

/-- A function's run, its ways joined. -/
def jfun (C : Ctx) (d n : Nat) (fs : Facts) (f : FuncId) (args : List AV) : Option AV := match C.P.funcs[f]? with
  | none => none
  | some fn => match fn.body with
    | none => none
    | some c => match jcode C d fn.tmpNames n c (initT 0 args fn.ntmps) [] fs with
      | none => none
      | some L => valJ C fn L

theorem concs_app (ρ : Env) : ∀ (a b : List AV), concs ρ (a ++ b) = concs ρ a ++ concs ρ b
  | [], b => rfl
  | x :: a, b => by simp only [List.cons_append, concs, concs_app ρ a b]

theorem concs_undef (ρ : Env) : ∀ n : Nat, concs ρ (List.replicate n undefA) = List.replicate n undefA
  | 0 => rfl
  | n + 1 => by simp only [List.replicate_succ, concs, concs_undef ρ n]; rfl

theorem initT_conc (ρ : Env) (args : List AV) (n : Nat) : concs ρ (initT 0 args n) = initT 0 (concs ρ args) n := by
  rw [initT_eq, initT_eq, concs_app, concs_len, concs_undef]

theorem jfun_ok (hF : ρ.F = iteF) (hs : Summ ρ C) {d n : Nat} {fs : Facts} {f : FuncId} {args : List AV} {r : AV} (hf : FactsOk ρ fs) (h : jfun C d n fs f args = some r) : CallsTo C f (concs ρ args) (conc ρ r) := by
  unfold jfun at h
  split at h
  · cases h
  · rename_i fn hfn
    split at h
    · cases h
    · rename_i c hb
      split at h
      · cases h
      · rename_i L hL
        obtain ⟨h1, h2⟩ := jcode_ok hF hs hf hL
        obtain ⟨s, hs1, hs2, x, hx, hv⟩ := valJ_ok hF h h1
        have hfr := h2 s hs1 hs2
        simp only [FJ, initT_conc] at hfr
        rw [← hv]
        unfold valS at hx
        split at hx
        · rename_i he
          split at hx
          · rename_i r0 hr
            exact FragH.callsJ hfn hb hfr (.inl (by rw [he]; rfl)) hr hx
          · cases hx
        · rename_i he
          split at hx
          · rename_i r0 hr
            exact FragH.callsJ hfn hb hfr (.inr (by rw [he]; rfl)) hr hx
          · cases hx
        · cases hx

/-- A context in which calls of functions are told by joined runs. -/
def jctx (C : Ctx) (d n : Nat) (fs : Facts) (f : FuncId) : Ctx := { C with summ := sum1 f (jfun C d n fs f) C.summ, pure := fun g => cond (g == f) true (C.pure g) }

theorem jctx_ok (hF : ρ.F = iteF) (hs : Summ ρ C) {d n : Nat} {fs : Facts} {f : FuncId} (hf : FactsOk ρ fs) : Summ ρ (jctx C d n fs f) :=
  summ_cons (C := C) (q := C.flat) hs fun args r h => jfun_ok hF hs hf h

/-- A joined run whose answer is what is said. -/
def JTrue (C : Ctx) (d n : Nat) (fs : Facts) (f : FuncId) (args : List AV) : Bool := match jfun C d n fs f args with
  | some (.tc (.sc (.bool true))) => true
  | some (.tc (.sy .bool e)) => knowI 40 e true fs
  | _ => false

theorem JTrue.calls (hF : ρ.F = iteF) (hs : Summ ρ C) {d n : Nat} {fs : Facts} {f : FuncId} {args : List AV} (hf : FactsOk ρ fs) (h : JTrue C d n fs f args = true) : CallsTo C f (concs ρ args) (.sc (.bool true)) := by
  unfold JTrue at h
  split at h
  · rename_i hj
    exact jfun_ok hF hs hf hj
  · rename_i e hj
    have := jfun_ok hF hs hf hj
    simp only [conc, concT, STy.val, knowI_ok hF hf h] at this
    exact this
  · cases h
end
end Go.Proofs.Ytamhmfdbnlkmkaa
