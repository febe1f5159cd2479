/- Code as contracts over states without variables: fragments by runs, loops by induction. -/
import Derived.Test.YtamhmfdbnlkmkaaSySpec
import Derived.Test.YtamhmfdbnlkmkaaMg6
import Derived.LoopN
set_option linter.unusedVariables false
namespace Go.Proofs.Ytamhmfdbnlkmkaa
open Go Go.RowKit

/-- What code turns a state of temporaries into; there is no memory that it knows. -/
def FragTo (C : Ctx) (c : Code) (T : Tmps) (e : Exit) (T' : Tmps) : Prop :=
  ∀ (ob : Obs) (E : Entry) (B0 : Nat) (Pb : Nat → Prop) (μ : Mu) (a : Act) (w : World), E.M = 0 → @SR ob C E Pb μ B0 w T [] a → c.wp C.P (fun x a' w' => x = e ∧ ∃ Pb' μ', @SR ob C E Pb' μ' B0 w' T' [] a') a w

def encE : AEx → Int
  | .normal => 0
  | .ret => 1
  | .exit id => 2 + 2 * (id : Int)
  | .goto l => 3 + 2 * (l : Int)

theorem encE_inj : ∀ {a b : AEx}, encE a = encE b → a = b := by
  intro a b h
  cases a <;> cases b <;> simp only [encE] at h <;> first
    | rfl
    | (congr 1; omega)
    | omega

def encS (e : AEx) (T : Tmps) : AV := .tuple [.tc (.sc (.int .i64 (encE e))), .agg T]

theorem encS_inj {e e' : AEx} {T T' : Tmps} (h : encS e T = encS e' T') : e = e' ∧ T = T' := by
  simp only [encS, AV.tuple.injEq, List.cons.injEq, AV.tc.injEq, TC.sc.injEq, Value.int.injEq, true_and, AV.agg.injEq, and_true] at h
  exact ⟨encE_inj h.1, h.2⟩

/-- A fragment's run. -/
def fragOut (C : Ctx) (d : Nat) (nm : Array String) (c : Code) (T : Tmps) : Out :=
  acodeM C (acall C d) nm 0 c none T [] fun e T' H' => match H' with | [] => .leaf (encS e T') | _ => .fail

/-- The leaf that is come to. -/
def rawV (ρ : Env) : Out → Option AV
  | .fail => none
  | .leaf r => some r
  | .sel e a b => cond (den ρ e).b (rawV ρ a) (rawV ρ b)

theorem ok_rawV {ρ : Env} {R : AV} : ∀ {o : Out}, rawV ρ o = some R → @Ok ⟨ρ, fun r => r = R⟩ o
  | .fail, h => by simp [rawV] at h
  | .leaf r, h => by
    show r = R
    simpa [rawV] using h
  | .sel e a b, h => by
    letI : Obs := ⟨ρ, fun r => r = R⟩
    show cond (den ρ e).b (Ok a) (Ok b)
    simp only [rawV] at h
    cases hb : (den ρ e).b with
    | true => rw [hb] at h; exact ok_rawV h
    | false => rw [hb] at h; exact ok_rawV h

section
variable {ob ob' : Obs} {C : Ctx} {E : Entry} {Pb : Nat → Prop} {μ : Mu} {B0 : Nat} {w : World} {T : Tmps} {a : Act} {ρ : Env} {Q : AV → Prop}

theorem SR.unconcs (hM : E.M = 0) (h : @SR ob C E Pb μ B0 w (concs ρ T) [] a) : @SR ⟨ρ, Q⟩ C E Pb μ B0 w T [] a := by
  obtain ⟨tm, ⟨hdom, _, _, hpb, hbase⟩, gl, df, go, dom, lo⟩ := h
  refine @SR.mk ⟨ρ, Q⟩ _ _ _ _ _ _ _ _ _ ⟨by rw [← concs_len ρ]; exact tm.1, fun i x v hi hv => ?_⟩ (@HeapRel.mk ⟨ρ, Q⟩ _ _ _ _ _ (fun o ver b h => ?_) (fun o obj ho => by simp at ho) (fun o o' obj obj' b ho => by simp at ho) hpb hbase) gl df go dom (fun d hd => ?_)
  · exact (tm.2 i (Go.Proofs.Ytamhmfdbnlkmkaa.conc ρ x) v (by rw [concs_get, hi]; rfl) hv).unconc rfl
  · obtain ⟨obj, h1, _⟩ := hdom o ver b h
    simp at h1
  · rw [hM] at hd; simp [isLoc] at hd

theorem SR.concs (hM : E.M = 0) (h : @SR ⟨ρ, Q⟩ C E Pb μ B0 w T [] a) : @SR ob C E Pb μ B0 w (Go.Proofs.Ytamhmfdbnlkmkaa.concs ρ T) [] a := by
  obtain ⟨tm, ⟨hdom, _, _, hpb, hbase⟩, gl, df, go, dom, lo⟩ := h
  refine @SR.mk ob _ _ _ _ _ _ _ _ _ ⟨by rw [concs_len]; exact tm.1, fun i x v hi hv => ?_⟩ (@HeapRel.mk ob _ _ _ _ _ (fun o ver b h => ?_) (fun o obj ho => by simp at ho) (fun o o' obj obj' b ho => by simp at ho) hpb hbase) gl df go dom (fun d hd => ?_)
  · rw [concs_get, Option.map_eq_some_iff] at hi
    obtain ⟨y, hy, rfl⟩ := hi
    exact (tm.2 i y v hy hv).conc
  · obtain ⟨obj, h1, _⟩ := hdom o ver b h
    simp at h1
  · rw [hM] at hd; simp [isLoc] at hd

/-- Whatever stands in a temporary. -/
def weak : Tmps → Tmps → Prop
  | [], [] => True
  | x :: r, y :: q => (y = .any ∨ x = y) ∧ weak r q
  | _, _ => False

theorem weak_rel {l : Tmps} : ∀ {l q : Tmps}, weak l q → l.length = q.length ∧ ∀ (i : Nat) (y : AV), q[i]? = some y → y = .any ∨ l[i]? = some y
  | [], [], _ => ⟨rfl, fun i y h => by simp at h⟩
  | x :: r, y :: q, h => by
    obtain ⟨h1, h2⟩ := weak_rel (l := l) h.2
    refine ⟨by simp [h1], fun i z hz => ?_⟩
    cases i with
    | zero =>
      simp only [List.getElem?_cons_zero, Option.some.injEq] at hz ⊢
      subst hz
      exact h.1.imp id id
    | succ i => exact h2 i z (by simpa using hz)
  | [], _ :: _, h => h.elim
  | _ :: _, [], h => h.elim

theorem SR.weaken {T' : Tmps} (hM : E.M = 0) (h : @SR ob C E Pb μ B0 w T [] a) (hw : weak T T') : @SR ob C E Pb μ B0 w T' [] a := by
  obtain ⟨h1, h2⟩ := weak_rel (l := []) hw
  refine { h with tm := ⟨by rw [← h1]; exact h.tm.1, fun i x v hi hv => ?_⟩, lo := fun d hd => by rw [hM] at hd; simp [isLoc] at hd }
  rcases h2 i x hi with rfl | h3
  · exact .any _
  · exact h.tm.2 i x v h3 hv

end

theorem FragTo.weaken {C : Ctx} {c : Code} {T T' T'' : Tmps} {e : Exit} (h : FragTo C c T e T') (hw : weak T' T'') : FragTo C c T e T'' := by
  intro ob E B0 Pb μ a w hM hs
  refine wp_mono (h ob E B0 Pb μ a w hM hs) fun x a' w' ⟨h1, Pb', μ', h2⟩ => ⟨h1, Pb', μ', ?_⟩
  letI := ob
  exact h2.weaken hM hw

theorem frag_calls {ρ : Env} {C : Ctx} (hs : Summ ρ C) {d : Nat} {nm : Array String} {c : Code} {T T' : Tmps} {e : AEx} (h : rawV ρ (fragOut C d nm c T) = some (encS e T')) : FragTo C c (concs ρ T) (exOf e) (concs ρ T') := by
  intro ob E B0 Pb μ a w hM hsr
  letI ob2 : Obs := ⟨ρ, fun r => r = encS e T'⟩
  have hsm : SummOk C := fun f g as r hf hg => (hs f g as r hf hg).tree
  have h1 := ok_rawV h
  have hs2 : SR C E Pb μ B0 w T [] a := SR.unconcs hM hsr
  have h2 : acode C (acall C d) nm E.M c T [] fun e T' H' => match H' with | [] => .leaf (encS e T') | _ => .fail := by
    show Ok (acodeM C (acall C d) nm E.M c none T [] fun e T' H' => match H' with | [] => .leaf (encS e T') | _ => .fail)
    rw [hM]
    exact h1
  refine wp_mono (acode_ok (acall_ok hsm d) (det_acall d) hsm nm c h2 hs2) fun x a' w' hp => ?_
  obtain ⟨x, T1, H1, Pb', μ', rfl, hk, hs'⟩ := hp
  cases H1 with
  | cons _ _ => exact hk.elim
  | nil =>
    obtain ⟨rfl, rfl⟩ := encS_inj (show encS x T1 = encS e T' from hk)
    exact ⟨rfl, Pb', μ', hs'.concs hM⟩

/-! ### runs of fragments, as trees of tests tell them -/

def patN (fs : Facts) : List AV → List AV → Bool
  | [], [] => true
  | a :: r, p :: q => both (match p with | .any => true | p => sameN fs a p) (patN fs r q)
  | _, _ => false

theorem patN_ok {ρ : Env} {fs : Facts} (hf : FactsOk ρ fs) : ∀ {l q : List AV}, patN fs l q = true → weak (concs ρ l) (concs ρ q)
  | [], [], _ => trivial
  | a :: r, p :: q, h => by
    obtain ⟨h1, h2⟩ := both_ok h
    refine ⟨?_, patN_ok hf h2⟩
    split at h1
    · exact .inl rfl
    · exact .inr (sameN_ok hf _ _ h1)
  | [], _ :: _, h => by cases h
  | _ :: _, [], h => by cases h

def patS (fs : Facts) (r R : AV) : Bool := match r, R with
  | .tuple [.tc (.sc (.int k n)), .agg T], .tuple [.tc (.sc (.int k' m)), .agg P] => cond (decide (k = k') && decide (n = m)) (patN fs T P) false
  | _, _ => false

def specF (r : AV) : Out → Facts → Bool
  | .fail, _ => false
  | .leaf R, fs => patS fs r R
  | .sel e a b, fs => test both e fs (specF r a) (specF r b)

def isF (O : Out) : Out → Facts → Bool
  | .fail, _ => false
  | .leaf r, fs => specF r O fs
  | .sel e a b, fs => test both e fs (isF O a) (isF O b)

theorem cond_both {a b : Bool} (h : (cond a b false) = true) : a = true ∧ b = true := by cases a <;> simp_all

theorem specF_ok {ρ : Env} {r : AV} {e : AEx} {P : Tmps} : ∀ (O : Out) {fs : Facts}, FactsOk ρ fs → specF r O fs = true → rawV ρ O = some (encS e P) → ∃ T, r = encS e T ∧ weak (concs ρ T) (concs ρ P)
  | .fail, _, _, h, _ => by simp [specF] at h
  | .leaf R, fs, hf, h, hv => by
    simp only [rawV, Option.some.injEq] at hv
    subst hv
    simp only [specF] at h
    unfold patS at h
    split at h
    · rename_i k n T k' m P' heq
      simp only [encS, AV.tuple.injEq, List.cons.injEq, AV.tc.injEq, TC.sc.injEq, Value.int.injEq, AV.agg.injEq, and_true] at heq
      obtain ⟨⟨rfl, rfl⟩, rfl⟩ := heq
      obtain ⟨h1, h2⟩ := cond_both h
      simp only [Bool.and_eq_true, decide_eq_true_eq] at h1
      obtain ⟨rfl, rfl⟩ := h1
      exact ⟨T, rfl, patN_ok hf h2⟩
    · cases h
  | .sel x a b, fs, hf, h, hv => by
    have := test_ok x hf h
    simp only [rawV] at hv
    cases hb : (den ρ x).b with
    | true =>
      obtain ⟨fs', hf', h'⟩ := this.1 hb
      rw [hb] at hv
      exact specF_ok a hf' h' hv
    | false =>
      obtain ⟨fs', hf', h'⟩ := this.2 hb
      rw [hb] at hv
      exact specF_ok b hf' h' hv

theorem isF_ok {ρ : Env} {O : Out} {e : AEx} {P : Tmps} (hv : rawV ρ O = some (encS e P)) : ∀ (o : Out) {fs : Facts}, FactsOk ρ fs → isF O o fs = true → ∃ T, rawV ρ o = some (encS e T) ∧ weak (concs ρ T) (concs ρ P)
  | .fail, _, _, h => by simp [isF] at h
  | .leaf r, _, hf, h => by
    obtain ⟨T, h1, h2⟩ := specF_ok O hf h hv
    exact ⟨T, by rw [rawV, h1], h2⟩
  | .sel x a b, fs, hf, h => by
    have := test_ok x hf h
    simp only [rawV]
    cases hb : (den ρ x).b with
    | true =>
      obtain ⟨fs', hf', h'⟩ := this.1 hb
      exact isF_ok hv a hf' h'
    | false =>
      obtain ⟨fs', hf', h'⟩ := this.2 hb
      exact isF_ok hv b hf' h'

/-- A fragment does what a tree of tests says. -/
@[irreducible] def FragIs (C : Ctx) (d : Nat) (fs : Facts) (nm : Array String) (c : Code) (T : Tmps) (O : Out) : Prop := isF O (fragOut C d nm c T) fs = true

theorem FragIs.mk {C : Ctx} {d : Nat} {fs : Facts} {nm : Array String} {c : Code} {T : Tmps} {O : Out} (h : isF O (fragOut C d nm c T) fs = true) : FragIs C d fs nm c T O := by unfold FragIs; exact h

theorem FragIs.to {ρ : Env} {C : Ctx} {d : Nat} {fs : Facts} {nm : Array String} {c : Code} {T P : Tmps} {O : Out} {e : AEx} (h : FragIs C d fs nm c T O) (hs : Summ ρ C) (hf : FactsOk ρ fs) (hv : rawV ρ O = some (encS e P)) :
    FragTo C c (concs ρ T) (exOf e) (concs ρ P) := by
  unfold FragIs at h
  obtain ⟨T', h1, h2⟩ := isF_ok hv _ hf h
  exact (frag_calls hs h1).weaken h2

/-! ### pieces of code -/
section
variable {C : Ctx} {x y b : Code} {T T1 T2 : Tmps} {e : Exit}

theorem FragTo.seq (h1 : FragTo C x T .normal T1) (h2 : FragTo C y T1 e T2) : FragTo C (.seq x y) T e T2 := by
  intro ob E B0 Pb μ a w hM hs
  refine wp_seq (wp_mono (h1 ob E B0 Pb μ a w hM hs) fun x a' w' ⟨hx, Pb', μ', h⟩ => ?_)
  subst hx
  exact h2 ob E B0 Pb' μ' a' w' hM h

theorem FragTo.seq1 (h1 : FragTo C x T e T1) (he : e ≠ .normal) : FragTo C (.seq x y) T e T1 := by
  intro ob E B0 Pb μ a w hM hs
  refine wp_seq (wp_mono (h1 ob E B0 Pb μ a w hM hs) fun x a' w' ⟨hx, Pb', μ', h⟩ => ?_)
  subst hx
  cases x with
  | normal => exact absurd rfl he
  | _ => exact ⟨rfl, Pb', μ', h⟩

theorem FragTo.block {id : Nat} (h1 : FragTo C b T (.exit id) T1) : FragTo C (.block id b) T .normal T1 := by
  intro ob E B0 Pb μ a w hM hs
  refine wp_block (wp_mono (h1 ob E B0 Pb μ a w hM hs) fun x a' w' ⟨hx, Pb', μ', h⟩ => ?_)
  subst hx
  simp only [Exit.inBlock, if_true]
  exact ⟨trivial, Pb', μ', h⟩

theorem FragTo.block1 {id : Nat} (h1 : FragTo C b T e T1) (he : e ≠ .exit id) : FragTo C (.block id b) T e T1 := by
  intro ob E B0 Pb μ a w hM hs
  refine wp_block (wp_mono (h1 ob E B0 Pb μ a w hM hs) fun x a' w' ⟨hx, Pb', μ', h⟩ => ?_)
  subst hx
  cases x with
  | exit id' =>
    have hne : id' ≠ id := fun h => he (by rw [h])
    simp only [Exit.inBlock, hne, if_false]
    exact ⟨trivial, Pb', μ', h⟩
  | _ => exact ⟨rfl, Pb', μ', h⟩

/-- A loop: n rounds, and one that leaves it. -/
theorem FragTo.loop (n : Nat) (S : Nat → Tmps) (hr : ∀ k, k < n → FragTo C b (S k) .normal (S (k + 1))) (hn : FragTo C b (S n) e T1) (he : e ≠ .normal) : FragTo C (.loop b) (S 0) e T1 := by
  intro ob E B0 Pb μ a w hM hs
  have key : ∀ (m k : Nat), k + m = n → ∀ (Pb : Nat → Prop) (μ : Mu) (a : Act) (w : World), @SR ob C E Pb μ B0 w (S k) [] a →
      Code.rounds C.P b (fun x a' w' => x = e ∧ ∃ Pb' μ', @SR ob C E Pb' μ' B0 w' T1 [] a') (m + 1) a w := by
    intro m
    induction m with
    | zero =>
      intro k hk Pb μ a w hs
      rw [show k = n by omega] at hs
      refine wp_mono (hn ob E B0 Pb μ a w hM hs) fun x a' w' ⟨hx, Pb', μ', h⟩ => ?_
      subst hx
      cases x with
      | normal => exact absurd rfl he
      | _ => exact ⟨rfl, Pb', μ', h⟩
    | succ m ih =>
      intro k hk Pb μ a w hs
      refine wp_mono (hr k (by omega) ob E B0 Pb μ a w hM hs) fun x a' w' ⟨hx, Pb', μ', h⟩ => ?_
      subst hx
      exact ih (k + 1) (by omega) Pb' μ' a' w' h
  exact wp_loop_rounds (n + 1) (key n 0 (by omega) Pb μ a w hs)

end

theorem Rel.swap {ob ob' : Obs} {Pb : Nat → Prop} {μ : Mu} {w : World} {ρ : Env} {x : AV} {v : Value} (h : @Rel ob Pb μ w (Go.Proofs.Ytamhmfdbnlkmkaa.conc ρ x) v) : @Rel ob' Pb μ w (Go.Proofs.Ytamhmfdbnlkmkaa.conc ρ x) v := by
  have h1 : @Rel ⟨ρ, fun _ => True⟩ Pb μ w x v := h.unconc rfl
  exact h1.conc

/-- A call, by its body. -/
theorem FragTo.calls {ρ : Env} {C : Ctx} {f : FuncId} {fn : Func} {c : Code} {args : List AV} {e : Exit} {T' : Tmps} {r t : AV} (hfn : C.P.funcs[f]? = some fn) (hb : fn.body = some c) (h : FragTo C c (initT 0 (Go.Proofs.Ytamhmfdbnlkmkaa.concs ρ args) fn.ntmps) e T')
    (he : e = .normal ∨ e = .ret) (hr : resultsA C fn T' [] .leaf = .leaf r) (ht : fzR [] r = some (conc ρ t)) : CallsTo C f (concs ρ args) (conc ρ t) := by
  intro ob Pb w vs h1 h2 h3
  letI ob2 : Obs := ⟨ob.ρ, fun x => x = r⟩
  let E : Entry := ⟨Pb, noMu, w, 0, 0⟩
  have h2' : @RelL ob2 Pb noMu w (concs ρ args) vs := ⟨h2.1, fun i x v hi hv => by
    have hi' := hi
    rw [concs_get, Option.map_eq_some_iff] at hi'
    obtain ⟨y, _, rfl⟩ := hi'
    exact (h2.2 i _ v hi hv).swap⟩
  have hs : @SR ob2 C E Pb noMu w.heap.size w (initT 0 (concs ρ args) fn.ntmps) [] { tmps := vs ++ Array.replicate (fn.ntmps - vs.size) undef, defers := [] } := by
    refine @SR.mk ob2 _ _ _ _ _ _ _ _ _ (relL_append h2' ⟨by simp [h2.1], fun i x v hi hx => ?_⟩) (heapRel_nil h1) h3 rfl (@Goes.refl ob2 ..) (fun o ver b ho => by simp [E, noMu] at ho) fun d hd => by simp [isLoc, E] at hd
    rw [List.getElem?_map, Option.map_eq_some_iff] at hi
    obtain ⟨j, _, rfl⟩ := hi
    rw [Array.getElem?_replicate] at hx
    split at hx
    · simp only [Option.some.injEq] at hx
      subst hx
      cases isLoc 0 j
      · exact Rel.of_sc ..
      · exact .any _
    · cases hx
  refine calls_of_wp hfn hb (wp_mono (h ob2 E w.heap.size Pb noMu _ w rfl hs) fun x a' w' ⟨hx, Pb', μ', hs'⟩ => ?_)
  have hk : Ok (resultsA C fn T' [] .leaf) := by rw [hr]; rfl
  obtain ⟨y, v, g1, g2, g3⟩ := resultsA_ok hk hs'.tm hs'.hp
  have g2' : y = r := g2
  subst g2'
  have g4 := (fzR_ok hs'.hp ht g3).mono (Pb' := Far Pb w.heap.size w') (μ' := noMu) (w' := w') (fun b hb => by
    rcases hb with hb | hb
    · rcases hs'.go.new b hb with h | h
      · exact .inl h
      · exact .inr ⟨h, hs'.hp.pb b hb⟩
    · exact .inr hb) (fun _ _ _ h => h) ⟨fun _ _ => rfl, fun _ _ h => h⟩
  have fin : a'.defers = [] ∧ ∃ v, (results fn a'.tmps).run C.P w' = .ok v w' ∧ ∃ r v', r = conc ρ t ∧ Ending.returned v = .returned v' ∧ @Rel ob (Far Pb w.heap.size w') noMu w' r v' ∧ Below w.heap.size w w' :=
    ⟨hs'.df, v, g1, _, v, rfl, rfl, g4.swap, hs'.go.below⟩
  subst hx
  rcases he with rfl | rfl
  · exact fin
  · exact fin
end Go.Proofs.Ytamhmfdbnlkmkaa
