/- Code as contracts over states without variables, with memory that it knows. -/
import Derived.Test.YtamhmfdbnlkmkaaSyHoare
set_option linter.unusedVariables false
namespace Go.Proofs.Ytamhmfdbnlkmkaa
open Go Go.RowKit

def concO (ρ : Env) : AObj → AObj
  | .tcells s el => .tcells s (concE ρ el)
  | .cells s el => .cells s (el.map (concs ρ))
  | .map es => .map (es.map fun e => (e.1, conc ρ e.2))
def concH (ρ : Env) (H : Heap) : Heap := H.map (concO ρ)

theorem concO_len (ρ : Env) (o : AObj) : (concO ρ o).len = o.len := by
  cases o <;> simp [concO, AObj.len, concE_len]

theorem concs_tcs (ρ : Env) : ∀ r : List TC, concs ρ (tcs r) = tcs (concR ρ r)
  | [] => rfl
  | c :: r => by
    have := concs_tcs ρ r
    simp only [tcs] at this
    simp only [tcs, List.map_cons, concs, concR, conc, this]

theorem concE_tcs (ρ : Env) (el : List (List TC)) : (concE ρ el).map tcs = (el.map tcs).map (concs ρ) := by
  refine List.ext_getElem? fun i => ?_
  simp only [List.getElem?_map, concE_get, Option.map_map]
  cases el[i]? with
  | none => rfl
  | some r => simp [concs_tcs]

section
variable {ob : Obs} {C : Ctx} {E : Entry} {Pb : Nat → Prop} {μ : Mu} {B0 : Nat} {w : World} {T : Tmps} {H : Heap} {a : Act} {ρ : Env} {Q : AV → Prop}

theorem CellsRel.unconc {b s : Nat} {el : List (List AV)} (h : @CellsRel ob Pb μ w b s (el.map (Go.Proofs.Ytamhmfdbnlkmkaa.concs ρ))) : @CellsRel ⟨ρ, Q⟩ Pb μ w b s el := by
  obtain ⟨h1, c, ty, fr, h2, h3, h4, h5⟩ := h
  refine @CellsRel.mk ⟨ρ, Q⟩ _ _ _ _ _ _ (fun r hr => ?_) ⟨c, ty, fr, h2, h3, by simpa using h4, fun i f r x hi hf => ?_⟩
  · have := h1 (Go.Proofs.Ytamhmfdbnlkmkaa.concs ρ r) (List.mem_map_of_mem hr)
    rwa [concs_len] at this
  · obtain ⟨v, q1, q2, q3⟩ := h5 i f (Go.Proofs.Ytamhmfdbnlkmkaa.concs ρ r) (Go.Proofs.Ytamhmfdbnlkmkaa.conc ρ x) (by rw [List.getElem?_map, hi]; rfl) (by rw [concs_get, hf]; rfl)
    exact ⟨v, q1, q2, q3.unconc rfl⟩

theorem CellsRel.conc {b s : Nat} {el : List (List AV)} (h : @CellsRel ⟨ρ, Q⟩ Pb μ w b s el) : @CellsRel ob Pb μ w b s (el.map (Go.Proofs.Ytamhmfdbnlkmkaa.concs ρ)) := by
  obtain ⟨h1, c, ty, fr, h2, h3, h4, h5⟩ := h
  refine @CellsRel.mk ob _ _ _ _ _ _ (fun r hr => ?_) ⟨c, ty, fr, h2, h3, by simpa using h4, fun i f r x hi hf => ?_⟩
  · obtain ⟨r0, hr0, rfl⟩ := List.mem_map.1 hr
    rw [concs_len]
    exact h1 r0 hr0
  · rw [List.getElem?_map, Option.map_eq_some_iff] at hi
    obtain ⟨r0, hi, rfl⟩ := hi
    rw [concs_get, Option.map_eq_some_iff] at hf
    obtain ⟨x0, hf, rfl⟩ := hf
    obtain ⟨v, q1, q2, q3⟩ := h5 i f r0 x0 hi hf
    exact ⟨v, q1, q2, q3.conc⟩

theorem ObjRel.unconc {o : Nat} {obj : AObj} (h : @ObjRel ob Pb μ B0 w o (concO ρ obj)) : @ObjRel ⟨ρ, Q⟩ Pb μ B0 w o obj := by
  cases obj with
  | tcells s el =>
    obtain ⟨b, h1, h2, h3, h4⟩ := h
    rw [concE_len] at h1
    rw [concE_tcs] at h4
    exact ⟨b, h1, h2, h3, h4.unconc⟩
  | cells s el =>
    obtain ⟨b, h1, h2, h3, h4⟩ := h
    rw [List.length_map] at h1
    exact ⟨b, h1, h2, h3, h4.unconc⟩
  | map es =>
    obtain ⟨b, h1, h2, h3, es', clock, h4, h5, h6⟩ := h
    refine ⟨b, h1, h2, h3, @MapRel.mk ⟨ρ, Q⟩ _ _ _ _ _ ⟨es', clock, h4, by simpa using h5, fun i e e' hi he => ?_⟩⟩
    obtain ⟨q1, q2⟩ := h6 i (e.1, Go.Proofs.Ytamhmfdbnlkmkaa.conc ρ e.2) e' (by rw [List.getElem?_map, hi]; rfl) he
    exact ⟨q1, q2.unconc rfl⟩

theorem ObjRel.conc {o : Nat} {obj : AObj} (h : @ObjRel ⟨ρ, Q⟩ Pb μ B0 w o obj) : @ObjRel ob Pb μ B0 w o (concO ρ obj) := by
  cases obj with
  | tcells s el =>
    obtain ⟨b, h1, h2, h3, h4⟩ := h
    refine ⟨b, by rw [concE_len]; exact h1, h2, h3, ?_⟩
    rw [concE_tcs]
    exact h4.conc
  | cells s el =>
    obtain ⟨b, h1, h2, h3, h4⟩ := h
    exact ⟨b, by rw [List.length_map]; exact h1, h2, h3, h4.conc⟩
  | map es =>
    obtain ⟨b, h1, h2, h3, es', clock, h4, h5, h6⟩ := h
    refine ⟨b, h1, h2, h3, @MapRel.mk ob _ _ _ _ _ ⟨es', clock, h4, by simpa using h5, fun i e e' hi he => ?_⟩⟩
    rw [List.getElem?_map, Option.map_eq_some_iff] at hi
    obtain ⟨e0, hi, rfl⟩ := hi
    obtain ⟨q1, q2⟩ := h6 i e0 e' hi he
    exact ⟨q1, q2.conc⟩

theorem SR.unconcH (hM : E.M = 0) (h : @SR ob C E Pb μ B0 w (Go.Proofs.Ytamhmfdbnlkmkaa.concs ρ T) (concH ρ H) a) : @SR ⟨ρ, Q⟩ C E Pb μ B0 w T H a := by
  obtain ⟨tm, ⟨hdom, hobj, hinj, hpb, hbase⟩, gl, df, go, dom, lo⟩ := h
  have hg : ∀ {o : Nat} {obj : AObj}, H[o]? = some obj → (concH ρ H)[o]? = some (concO ρ obj) := fun ho => by simp only [concH]; rw [List.getElem?_map, ho]; rfl
  refine @SR.mk ⟨ρ, Q⟩ _ _ _ _ _ _ _ _ _ ⟨by rw [← concs_len ρ]; exact tm.1, fun i x v hi hv => ?_⟩ (@HeapRel.mk ⟨ρ, Q⟩ _ _ _ _ _ (fun o ver b h => ?_) (fun o obj ho => (hobj o _ (hg ho)).unconc) (fun o o' obj obj' b ho ho' hm hm' => ?_) hpb hbase) gl df ?_ dom (fun d hd => ?_)
  · exact (tm.2 i (Go.Proofs.Ytamhmfdbnlkmkaa.conc ρ x) v (by rw [concs_get, hi]; rfl) hv).unconc rfl
  · obtain ⟨obj, h1, h2⟩ := hdom o ver b h
    simp only [concH] at h1
    rw [List.getElem?_map, Option.map_eq_some_iff] at h1
    obtain ⟨obj0, h1, rfl⟩ := h1
    exact ⟨obj0, h1, by rw [concO_len] at h2; exact h2⟩
  · exact hinj o o' _ _ b (hg ho) (hg ho') (by rw [concO_len]; exact hm) (by rw [concO_len]; exact hm')
  · simpa [concH] using go
  · rw [hM] at hd; simp [isLoc] at hd

theorem SR.concH (hM : E.M = 0) (h : @SR ⟨ρ, Q⟩ C E Pb μ B0 w T H a) : @SR ob C E Pb μ B0 w (Go.Proofs.Ytamhmfdbnlkmkaa.concs ρ T) (Go.Proofs.Ytamhmfdbnlkmkaa.concH ρ H) a := by
  obtain ⟨tm, ⟨hdom, hobj, hinj, hpb, hbase⟩, gl, df, go, dom, lo⟩ := h
  have hg : ∀ {o : Nat} {obj : AObj}, (Go.Proofs.Ytamhmfdbnlkmkaa.concH ρ H)[o]? = some obj → ∃ obj0, H[o]? = some obj0 ∧ obj = concO ρ obj0 := fun {o obj} ho => by
    simp only [Go.Proofs.Ytamhmfdbnlkmkaa.concH] at ho
    rw [List.getElem?_map, Option.map_eq_some_iff] at ho
    obtain ⟨obj0, h1, h2⟩ := ho
    exact ⟨obj0, h1, h2.symm⟩
  refine @SR.mk ob _ _ _ _ _ _ _ _ _ ⟨by rw [concs_len]; exact tm.1, fun i x v hi hv => ?_⟩ (@HeapRel.mk ob _ _ _ _ _ (fun o ver b h => ?_) (fun o obj ho => ?_) (fun o o' obj obj' b ho ho' hm hm' => ?_) hpb hbase) gl df ?_ dom (fun d hd => ?_)
  · rw [concs_get, Option.map_eq_some_iff] at hi
    obtain ⟨y, hy, rfl⟩ := hi
    exact (tm.2 i y v hy hv).conc
  · obtain ⟨obj, h1, h2⟩ := hdom o ver b h
    exact ⟨concO ρ obj, by simp only [Go.Proofs.Ytamhmfdbnlkmkaa.concH]; rw [List.getElem?_map, h1]; rfl, by rw [concO_len]; exact h2⟩
  · obtain ⟨obj0, h1, rfl⟩ := hg ho
    exact (hobj o obj0 h1).conc
  · obtain ⟨o1, h1, rfl⟩ := hg ho
    obtain ⟨o2, h2, rfl⟩ := hg ho'
    rw [concO_len] at hm hm'
    exact hinj o o' o1 o2 b h1 h2 hm hm'
  · simpa [Go.Proofs.Ytamhmfdbnlkmkaa.concH] using go
  · rw [hM] at hd; simp [isLoc] at hd

theorem SR.weakenH {T' : Tmps} (hM : E.M = 0) (h : @SR ob C E Pb μ B0 w T H a) (hw : weak T T') : @SR ob C E Pb μ B0 w T' H a := by
  obtain ⟨h1, h2⟩ := weak_rel (l := []) hw
  refine { h with tm := ⟨by rw [← h1]; exact h.tm.1, fun i x v hi hv => ?_⟩, lo := fun d hd => by rw [hM] at hd; simp [isLoc] at hd }
  rcases h2 i x hi with rfl | h3
  · exact .any _
  · exact h.tm.2 i x v h3 hv
end

/-! ### states as values -/
def encO : AObj → AV
  | .tcells s el => .tuple [.tc (.sc (.int .i64 0)), .tc (.sc (.int .i64 s)), .agg (el.map fun r => .agg (tcs r))]
  | .cells s el => .tuple [.tc (.sc (.int .i64 1)), .tc (.sc (.int .i64 s)), .agg (el.map .agg)]
  | .map es => .tuple [.tc (.sc (.int .i64 2)), .tc (.sc (.int .i64 0)), .agg (es.map fun e => .tuple [.tc (.sc e.1), e.2])]

theorem map_inj {α β : Type} {f : α → β} (hf : ∀ a b, f a = f b → a = b) : ∀ {l m : List α}, l.map f = m.map f → l = m
  | [], [], _ => rfl
  | [], _ :: _, h => by simp at h
  | _ :: _, [], h => by simp at h
  | a :: l, b :: m, h => by
    simp only [List.map_cons, List.cons.injEq] at h
    rw [hf a b h.1, map_inj hf h.2]

theorem tcs_inj {r q : List TC} (h : tcs r = tcs q) : r = q := map_inj (fun c d hc => by simpa using hc) h

theorem encO_inj {a b : AObj} (h : encO a = encO b) : a = b := by
  cases a with
  | tcells s el => cases b with
    | tcells s' el' =>
      simp only [encO, AV.tuple.injEq, List.cons.injEq, AV.tc.injEq, TC.sc.injEq, Value.int.injEq, AV.agg.injEq, and_true, true_and] at h
      obtain ⟨h1, h2⟩ := h
      rw [Int.ofNat_inj.1 h1, map_inj (fun r q hr => tcs_inj (by simpa using hr)) h2]
    | cells s' el' => simp [encO] at h
    | map es => simp [encO] at h
  | cells s el => cases b with
    | tcells s' el' => simp [encO] at h
    | cells s' el' =>
      simp only [encO, AV.tuple.injEq, List.cons.injEq, AV.tc.injEq, TC.sc.injEq, Value.int.injEq, AV.agg.injEq, and_true, true_and] at h
      obtain ⟨h1, h2⟩ := h
      rw [Int.ofNat_inj.1 h1, map_inj (fun r q hr => by simpa using hr) h2]
    | map es => simp [encO] at h
  | map es => cases b with
    | tcells s' el' => simp [encO] at h
    | cells s' el' => simp [encO] at h
    | map es' =>
      simp only [encO, AV.tuple.injEq, List.cons.injEq, AV.agg.injEq, and_true, true_and] at h
      rw [map_inj (fun r q hr => by
        simp only [AV.tuple.injEq, List.cons.injEq, AV.tc.injEq, TC.sc.injEq, and_true] at hr
        exact Prod.ext hr.1 hr.2) h]

theorem concs_map {α : Type} (ρ : Env) (f : α → AV) : ∀ l : List α, concs ρ (l.map f) = l.map fun x => conc ρ (f x)
  | [] => rfl
  | a :: l => by simp only [List.map_cons, concs, concs_map ρ f l]

theorem concE_map (ρ : Env) : ∀ el : List (List TC), concE ρ el = el.map (concR ρ)
  | [] => rfl
  | a :: l => by simp only [concE, List.map_cons, concE_map ρ l]

theorem conc_encO (ρ : Env) (o : AObj) : conc ρ (encO o) = encO (concO ρ o) := by
  cases o with
  | tcells s el =>
    simp only [encO, concO, conc, concs, concT, concs_map, concs_tcs, concE_map, List.map_map]
    rfl
  | cells s el =>
    simp only [encO, concO, conc, concs, concT, concs_map, List.map_map]
    rfl
  | map es =>
    simp only [encO, concO, conc, concs, concT, concs_map, List.map_map]
    rfl

def encSH (e : AEx) (T : Tmps) (H : Heap) : AV := .tuple [.tc (.sc (.int .i64 (encE e))), .agg T, .agg (H.map encO)]

theorem encSH_inj {e e' : AEx} {T T' : Tmps} {H H' : Heap} (h : encSH e T H = encSH e' T' H') : e = e' ∧ T = T' ∧ H = H' := by
  simp only [encSH, AV.tuple.injEq, List.cons.injEq, AV.tc.injEq, TC.sc.injEq, Value.int.injEq, true_and, AV.agg.injEq, and_true] at h
  exact ⟨encE_inj h.1, h.2.1, map_inj (fun _ _ h => encO_inj h) h.2.2⟩

/-- A fragment's run, with memory. -/
def fragOutH (C : Ctx) (d : Nat) (nm : Array String) (c : Code) (T : Tmps) (H : Heap) : Out := acodeM C (acall C d) nm 0 c none T H fun e T' H' => .leaf (encSH e T' H')

mutual
/-- The same, under facts; what leads to memory as it is written. -/
def matN (fs : Facts) : AV → AV → Bool
  | .tc c, .tc d => sameTN fs c d
  | .agg a, .agg b => matNs fs a b
  | .tuple a, .tuple b => matNs fs a b
  | a, b => sameA a b
def matNs (fs : Facts) : List AV → List AV → Bool
  | [], [] => true
  | a :: r, b :: q => both (matN fs a b) (matNs fs r q)
  | _, _ => false
end

mutual
theorem matN_ok {ρ : Env} {fs : Facts} (hf : FactsOk ρ fs) : ∀ (a b : AV), matN fs a b = true → conc ρ a = conc ρ b
  | .tc c, b, h => by
    cases b <;> simp only [matN] at h
    · simp only [conc, sameTN_ok hf h]
    all_goals rw [sameA_eq h]
  | .agg a, b, h => by
    cases b <;> simp only [matN] at h
    case agg b => simp only [conc, matNs_ok hf _ _ h]
    all_goals rw [sameA_eq h]
  | .tuple a, b, h => by
    cases b <;> simp only [matN] at h
    case tuple b => simp only [conc, matNs_ok hf _ _ h]
    all_goals rw [sameA_eq h]
  | .any, b, h => by cases b <;> simp only [matN] at h <;> rw [sameA_eq h]
  | .ptr .., b, h => by cases b <;> simp only [matN] at h <;> rw [sameA_eq h]
  | .vptr .., b, h => by cases b <;> simp only [matN] at h <;> rw [sameA_eq h]
  | .slice .., b, h => by cases b <;> simp only [matN] at h <;> rw [sameA_eq h]
  | .map _, b, h => by cases b <;> simp only [matN] at h <;> rw [sameA_eq h]
  | .func .., b, h => by cases b <;> simp only [matN] at h <;> rw [sameA_eq h]
theorem matNs_ok {ρ : Env} {fs : Facts} (hf : FactsOk ρ fs) : ∀ (a b : List AV), matNs fs a b = true → concs ρ a = concs ρ b
  | [], [], _ => rfl
  | [], _ :: _, h => by simp [matNs] at h
  | _ :: _, [], h => by simp [matNs] at h
  | a :: r, b :: q, h => by
    simp only [matNs] at h
    obtain ⟨h1, h2⟩ := both_ok h
    simp only [concs, matN_ok hf a b h1, matNs_ok hf r q h2]
end

/-- Temporaries without those of which nothing is said. -/
def wkT : Tmps → Tmps → Tmps
  | x :: r, p :: q => (match p with | .any => .any | _ => x) :: wkT r q
  | l, _ => l

def patT (fs : Facts) : List AV → List AV → Bool
  | [], [] => true
  | a :: r, p :: q => both (match p with | .any => true | p => matN fs a p) (patT fs r q)
  | _, _ => false

theorem patT_ok {ρ : Env} {fs : Facts} (hf : FactsOk ρ fs) : ∀ {l q : List AV}, patT fs l q = true → weak l (wkT l q) ∧ concs ρ (wkT l q) = concs ρ q
  | [], [], _ => ⟨trivial, rfl⟩
  | a :: r, p :: q, h => by
    obtain ⟨h1, h2⟩ := both_ok h
    obtain ⟨g1, g2⟩ := patT_ok hf h2
    refine ⟨⟨?_, g1⟩, ?_⟩
    · cases p <;> first | exact .inl rfl | exact .inr rfl
    · simp only [wkT, concs, g2]
      congr 1
      cases p <;> first | rfl | exact matN_ok hf _ _ h1
  | [], _ :: _, h => by cases h
  | _ :: _, [], h => by cases h

def patSH (fs : Facts) (r R : AV) : Bool := match r, R with
  | .tuple [.tc (.sc (.int k n)), .agg T, .agg hs], .tuple [.tc (.sc (.int k' m)), .agg P, .agg ps] =>
    cond (decide (k = k') && decide (n = m) && Nat.ble ps.length hs.length) (both (patT fs T P) (both ((wkT T P).all (lowA 4 ps.length)) (both ((hs.take ps.length).all (lowA 7 ps.length)) (matNs fs (hs.take ps.length) ps)))) false
  | _, _ => false

def specH (r : AV) : Out → Facts → Bool
  | .fail, _ => false
  | .leaf R, fs => patSH fs r R
  | .sel e a b, fs => test both e fs (specH r a) (specH r b)

def isH (O : Out) : Out → Facts → Bool
  | .fail, _ => false
  | .leaf r, fs => specH r O fs
  | .sel e a b, fs => test both e fs (isH O a) (isH O b)

theorem specH_ok {ρ : Env} {r R : AV} : ∀ (O : Out) {fs : Facts}, FactsOk ρ fs → specH r O fs = true → rawV ρ O = some R → ∃ fs', FactsOk ρ fs' ∧ patSH fs' r R = true
  | .fail, _, _, h, _ => by simp [specH] at h
  | .leaf R', fs, hf, h, hv => by
    simp only [rawV, Option.some.injEq] at hv
    subst hv
    exact ⟨fs, hf, h⟩
  | .sel x a b, fs, hf, h, hv => by
    have := test_ok x hf h
    simp only [rawV] at hv
    cases hb : (den ρ x).b with
    | true =>
      obtain ⟨fs', hf', h'⟩ := this.1 hb
      rw [hb] at hv
      exact specH_ok a hf' h' hv
    | false =>
      obtain ⟨fs', hf', h'⟩ := this.2 hb
      rw [hb] at hv
      exact specH_ok b hf' h' hv

theorem isH_ok {ρ : Env} {O : Out} {R : AV} (hv : rawV ρ O = some R) : ∀ (o : Out) {fs : Facts}, FactsOk ρ fs → isH O o fs = true → ∃ r fs', rawV ρ o = some r ∧ FactsOk ρ fs' ∧ patSH fs' r R = true
  | .fail, _, _, h => by simp [isH] at h
  | .leaf r, _, hf, h => by
    obtain ⟨fs', h1, h2⟩ := specH_ok O hf h hv
    exact ⟨r, fs', rfl, h1, h2⟩
  | .sel x a b, fs, hf, h => by
    have := test_ok x hf h
    simp only [rawV]
    cases hb : (den ρ x).b with
    | true =>
      obtain ⟨fs', hf', h'⟩ := this.1 hb
      exact isH_ok hv a hf' h'
    | false =>
      obtain ⟨fs', hf', h'⟩ := this.2 hb
      exact isH_ok hv b hf' h'

/-- What code turns a state into. -/
def FragH (C : Ctx) (c : Code) (T : Tmps) (H : Heap) (e : Exit) (T' : Tmps) (H' : Heap) : Prop :=
  ∀ (ob : Obs) (E : Entry) (B0 : Nat) (Pb : Nat → Prop) (μ : Mu) (a : Act) (w : World), E.M = 0 → E.n = 0 → @SR ob C E Pb μ B0 w T H a → c.wp C.P (fun x a' w' => x = e ∧ ∃ Pb' μ', @SR ob C E Pb' μ' B0 w' T' H' a') a w

theorem lowO_ok {n : Nat} {o : AObj} (h : lowA 7 n (encO o) = true) : lowObj n o = true := by
  cases o with
  | tcells s el => rfl
  | cells s el =>
    simp only [encO, lowA, List.all_cons, List.all_nil, Bool.and_true, Bool.true_and, List.all_map, Function.comp_def] at h
    simp only [lowObj]
    exact h
  | map es =>
    simp only [encO, lowA, List.all_cons, List.all_nil, Bool.and_true, Bool.true_and, List.all_map, Function.comp_def] at h
    simp only [lowObj]
    exact h

/-- A fragment does what a tree of tests says. -/
@[irreducible] def FragHIs (C : Ctx) (d : Nat) (fs : Facts) (nm : Array String) (c : Code) (T : Tmps) (H : Heap) (O : Out) : Prop := isH O (fragOutH C d nm c T H) fs = true

theorem FragHIs.mk {C : Ctx} {d : Nat} {fs : Facts} {nm : Array String} {c : Code} {T : Tmps} {H : Heap} {O : Out} (h : isH O (fragOutH C d nm c T H) fs = true) : FragHIs C d fs nm c T H O := by unfold FragHIs; exact h

theorem FragHIs.to {ρ : Env} {C : Ctx} {d : Nat} {fs : Facts} {nm : Array String} {c : Code} {T P : Tmps} {H PH : Heap} {O : Out} {e : AEx} (h : FragHIs C d fs nm c T H O) (hs : Summ ρ C) (hf : FactsOk ρ fs) (hv : rawV ρ O = some (encSH e P PH)) :
    FragH C c (concs ρ T) (concH ρ H) (exOf e) (concs ρ P) (concH ρ PH) := by
  unfold FragHIs at h
  obtain ⟨r, fs', h1, hf', h2⟩ := isH_ok hv _ hf h
  intro ob E B0 Pb μ a w hM hn hsr
  letI ob2 : Obs := ⟨ρ, fun x => x = r⟩
  have hsm : SummOk C := fun f g as r hf hg => (hs f g as r hf hg).tree
  have h3 := ok_rawV h1
  have hs2 : SR C E Pb μ B0 w T H a := SR.unconcH hM hsr
  have h4 : acode C (acall C d) nm E.M c T H fun e T' H' => .leaf (encSH e T' H') := by
    show Ok (acodeM C (acall C d) nm E.M c none T H fun e T' H' => .leaf (encSH e T' H'))
    rw [hM]
    exact h3
  refine wp_mono (acode_ok (acall_ok hsm d) (det_acall d) hsm nm c h4 hs2) fun x a' w' hp => ?_
  obtain ⟨x, T1, H1, Pb', μ', rfl, hk, hs'⟩ := hp
  have hr : encSH x T1 H1 = r := hk
  subst hr
  simp only [patSH, encSH] at h2
  obtain ⟨g1, g2⟩ := cond_both h2
  simp only [Bool.and_eq_true, decide_eq_true_eq, true_and] at g1
  obtain ⟨g3, g4⟩ := g1
  have ge := encE_inj g3
  subst ge
  have g4 := Nat.le_of_ble_eq_true g4
  simp only [List.length_map] at g2 g4
  obtain ⟨g5, g2⟩ := both_ok g2
  obtain ⟨g6, g2⟩ := both_ok g2
  obtain ⟨g7, g8⟩ := both_ok g2
  obtain ⟨p1, p2⟩ := patT_ok hf' g5
  have hs3 := hs'.weakenH hM p1
  have hlow : ((wkT T1 P).all (lowA 4 PH.length) && (H1.take PH.length).all (lowObj PH.length)) = true := by
    rw [Bool.and_eq_true]
    refine ⟨g6, List.all_eq_true.2 fun o ho => ?_⟩
    rw [← List.map_take, List.all_map] at g7
    exact lowO_ok (List.all_eq_true.1 g7 o ho)
  obtain ⟨μ2, hs4⟩ := trunc_ok (n0 := PH.length) hs3 (by rw [hn]; exact Nat.zero_le _) g4
  unfold trunc at hs4
  rw [if_pos hlow] at hs4
  have hc := hs4.concH (ob := ob) hM
  rw [p2] at hc
  have e2 : concH ρ (H1.take PH.length) = concH ρ PH := by
    have := matNs_ok hf' _ _ g8
    rw [← List.map_take, concs_map, concs_map] at this
    simp only [conc_encO] at this
    refine map_inj (f := encO) (fun _ _ h => encO_inj h) ?_
    simp only [concH, List.map_map]
    exact this
  rw [e2] at hc
  exact ⟨rfl, Pb', μ2, hc⟩

/-! ### pieces of code -/
section
variable {C : Ctx} {x y b : Code} {T T1 T2 : Tmps} {H H1 H2 : Heap} {e : Exit}

theorem FragH.seq (h1 : FragH C x T H .normal T1 H1) (h2 : FragH C y T1 H1 e T2 H2) : FragH C (.seq x y) T H e T2 H2 := by
  intro ob E B0 Pb μ a w hM hn hs
  refine wp_seq (wp_mono (h1 ob E B0 Pb μ a w hM hn hs) fun x a' w' ⟨hx, Pb', μ', h⟩ => ?_)
  subst hx
  exact h2 ob E B0 Pb' μ' a' w' hM hn h

theorem FragH.seq1 (h1 : FragH C x T H e T1 H1) (he : e ≠ .normal) : FragH C (.seq x y) T H e T1 H1 := by
  intro ob E B0 Pb μ a w hM hn hs
  refine wp_seq (wp_mono (h1 ob E B0 Pb μ a w hM hn hs) fun x a' w' ⟨hx, Pb', μ', h⟩ => ?_)
  subst hx
  cases x with
  | normal => exact absurd rfl he
  | _ => exact ⟨rfl, Pb', μ', h⟩

theorem FragH.block {id : Nat} (h1 : FragH C b T H (.exit id) T1 H1) : FragH C (.block id b) T H .normal T1 H1 := by
  intro ob E B0 Pb μ a w hM hn hs
  refine wp_block (wp_mono (h1 ob E B0 Pb μ a w hM hn hs) fun x a' w' ⟨hx, Pb', μ', h⟩ => ?_)
  subst hx
  simp only [Exit.inBlock, if_true]
  exact ⟨trivial, Pb', μ', h⟩

theorem FragH.block1 {id : Nat} (h1 : FragH C b T H e T1 H1) (he : e ≠ .exit id) : FragH C (.block id b) T H e T1 H1 := by
  intro ob E B0 Pb μ a w hM hn hs
  refine wp_block (wp_mono (h1 ob E B0 Pb μ a w hM hn hs) fun x a' w' ⟨hx, Pb', μ', h⟩ => ?_)
  subst hx
  cases x with
  | exit id' =>
    have hne : id' ≠ id := fun h => he (by rw [h])
    simp only [Exit.inBlock, hne, if_false]
    exact ⟨trivial, Pb', μ', h⟩
  | _ => exact ⟨rfl, Pb', μ', h⟩

theorem FragH.loop (n : Nat) (S : Nat → Tmps) (G : Nat → Heap) (hr : ∀ k, k < n → FragH C b (S k) (G k) .normal (S (k + 1)) (G (k + 1))) (hl : FragH C b (S n) (G n) e T1 H1) (he : e ≠ .normal) : FragH C (.loop b) (S 0) (G 0) e T1 H1 := by
  intro ob E B0 Pb μ a w hM hn hs
  have key : ∀ (m k : Nat), k + m = n → ∀ (Pb : Nat → Prop) (μ : Mu) (a : Act) (w : World), @SR ob C E Pb μ B0 w (S k) (G k) a →
      Code.rounds C.P b (fun x a' w' => x = e ∧ ∃ Pb' μ', @SR ob C E Pb' μ' B0 w' T1 H1 a') (m + 1) a w := by
    intro m
    induction m with
    | zero =>
      intro k hk Pb μ a w hs
      rw [show k = n by omega] at hs
      refine wp_mono (hl ob E B0 Pb μ a w hM hn hs) fun x a' w' ⟨hx, Pb', μ', h⟩ => ?_
      subst hx
      cases x with
      | normal => exact absurd rfl he
      | _ => exact ⟨rfl, Pb', μ', h⟩
    | succ m ih =>
      intro k hk Pb μ a w hs
      refine wp_mono (hr k (by omega) ob E B0 Pb μ a w hM hn hs) fun x a' w' ⟨hx, Pb', μ', h⟩ => ?_
      subst hx
      exact ih (k + 1) (by omega) Pb' μ' a' w' h
  exact wp_loop_rounds (n + 1) (key n 0 (by omega) Pb μ a w hs)
end

/-- A call, by its body. -/
theorem FragH.calls {ρ : Env} {C : Ctx} {f : FuncId} {fn : Func} {c : Code} {args : List AV} {e : Exit} {T' : Tmps} {H' : Heap} {r t : AV} (hfn : C.P.funcs[f]? = some fn) (hb : fn.body = some c)
    (h : FragH C c (initT 0 (Go.Proofs.Ytamhmfdbnlkmkaa.concs ρ args) fn.ntmps) [] e T' H')
    (he : e = .normal ∨ e = .ret) (hr : resultsA C fn T' H' .leaf = .leaf r) (ht : fzR H' r = some (conc ρ t)) : CallsTo C f (concs ρ args) (conc ρ t) := by
  intro ob Pb w vs h1 h2 h3
  letI ob2 : Obs := ⟨ob.ρ, fun x => x = r⟩
  let E : Entry := ⟨Pb, noMu, w, 0, 0⟩
  have h2' : @RelL ob2 Pb noMu w (concs ρ args) vs := ⟨h2.1, fun i x v hi hv => by
    have hi' := hi
    rw [concs_get, Option.map_eq_some_iff] at hi'
    obtain ⟨y, _, rfl⟩ := hi'
    exact (h2.2 i _ v hi hv).swap⟩
  have hs : @SR ob2 C E Pb noMu w.heap.size w (initT 0 (concs ρ args) fn.ntmps) [] { tmps := vs ++ Array.replicate (fn.ntmps - vs.size) undef, defers := [] } := by
    refine @SR.mk ob2 _ _ _ _ _ _ _ _ _ (relL_append h2' ⟨by simp [h2.1], fun i x v hi hx => ?_⟩) (heapRel_nil h1) h3 rfl (@Goes.refl ob2 ..) (fun o ver b ho => by simp [E, noMu] at ho) fun d hd => by simp [isLoc, E] at hd
    rw [List.getElem?_map, Option.map_eq_some_iff] at hi
    obtain ⟨j, _, rfl⟩ := hi
    rw [Array.getElem?_replicate] at hx
    split at hx
    · simp only [Option.some.injEq] at hx
      subst hx
      cases isLoc 0 j
      · exact Rel.of_sc ..
      · exact .any _
    · cases hx
  refine calls_of_wp hfn hb (wp_mono (h ob2 E w.heap.size Pb noMu _ w rfl rfl hs) fun x a' w' ⟨hx, Pb', μ', hs'⟩ => ?_)
  have hk : Ok (resultsA C fn T' H' .leaf) := by rw [hr]; rfl
  obtain ⟨y, v, g1, g2, g3⟩ := resultsA_ok hk hs'.tm hs'.hp
  have g2' : y = r := g2
  subst g2'
  have g4 := (fzR_ok hs'.hp ht g3).mono (Pb' := Far Pb w.heap.size w') (μ' := noMu) (w' := w') (fun b hb => by
    rcases hb with hb | hb
    · rcases hs'.go.new b hb with h | h
      · exact .inl h
      · exact .inr ⟨h, hs'.hp.pb b hb⟩
    · exact .inr hb) (fun _ _ _ h => h) ⟨fun _ _ => rfl, fun _ _ h => h⟩
  have fin : a'.defers = [] ∧ ∃ v, (results fn a'.tmps).run C.P w' = .ok v w' ∧ ∃ r v', r = conc ρ t ∧ Ending.returned v = .returned v' ∧ @Rel ob (Far Pb w.heap.size w') noMu w' r v' ∧ Below w.heap.size w w' :=
    ⟨hs'.df, v, g1, _, v, rfl, rfl, g4.swap, hs'.go.below⟩
  subst hx
  rcases he with rfl | rfl
  · exact fin
  · exact fin
end Go.Proofs.Ytamhmfdbnlkmkaa
