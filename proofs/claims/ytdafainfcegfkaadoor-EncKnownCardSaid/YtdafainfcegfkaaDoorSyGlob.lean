/- Package variables whose values are known: what a row lists. -/
import Derived.Test.YtdafainfcegfkaaDoorSyLaw
import Derived.Test.YtdafainfcegfkaaDoorSyRead
import Derived.ProofKit
import Derived.ChangeVars
import Derived.MakeChecks
import Derived.LaidHandle
set_option linter.unusedVariables false
namespace Go.Proofs.YtdafainfcegfkaaDoor
open Go Go.RowKit

def globAt : List (Nat × List TC) → Nat → Option (Nat × List (List TC))
  | [], _ => none
  | x :: r, g => match decide (x.1 = g) with | true => some (x.2.length, [x.2]) | false => globAt r g

theorem globAt_mem : ∀ {L : List (Nat × List TC)} {g s el}, globAt L g = some (s, el) → ∃ l, (g, l) ∈ L ∧ s = l.length ∧ el = [l]
  | [], g, s, el, h => by simp [globAt] at h
  | x :: r, g, s, el, h => by
    simp only [globAt] at h
    split at h
    · rename_i hx
      simp only [decide_eq_true_eq] at hx
      simp only [Option.some.injEq, Prod.mk.injEq] at h
      exact ⟨x.2, by rw [← hx]; exact List.mem_cons_self .., h.1.symm, h.2.symm⟩
    · obtain ⟨l, h1, h2⟩ := globAt_mem h
      exact ⟨l, List.mem_cons_of_mem _ h1, h2⟩

/-- What is listed is what is known. -/
def GlobOk (P : Program) (lst : List (String × DataW Unit)) : List (Nat × List TC) → Prop
  | [] => True
  | x :: r => (∃ n d, (n, d) ∈ lst ∧ P.globalNamed n = some x.1 ∧ ((P.globals[x.1]?).map (·.type)).bind (fun t => tcD P 8 t d) = some x.2) ∧ GlobOk P lst r

theorem GlobOk.mem {P : Program} {lst : List (String × DataW Unit)} : ∀ {L : List (Nat × List TC)}, GlobOk P lst L → ∀ x ∈ L, ∃ n d t, (n, d) ∈ lst ∧ P.globalNamed n = some x.1 ∧ (P.globals[x.1]?).map (·.type) = some t ∧ tcD P 8 t d = some x.2
  | [], _, x, hx => by cases hx
  | y :: r, h, x, hx => by
    rcases List.mem_cons.1 hx with rfl | hx
    · obtain ⟨⟨n, d, h1, h2, h3⟩, _⟩ := h
      obtain ⟨t, h4, h5⟩ := Option.bind_eq_some_iff.1 h3
      exact ⟨n, d, t, h1, h2, h4, h5⟩
    · exact GlobOk.mem h.2 x hx

theorem laidVars_mem {P : Program} {w : World} : ∀ {lst : List (String × DataW Unit)} {ps : List MemPlace}, DataW.LaidVars P w lst ps → ∀ n d, (n, d) ∈ lst →
    ∃ g t cs fuel p, P.globalNamed n = some g ∧ (P.globals[g]?).map (·.type) = some t ∧ w.var? P n = some cs ∧ DataW.trod (fun _ => ()) P w 0 (fun _ => true) false fuel t cs.toList = some (d, p)
  | [], ps, _, n, d, h => by cases h
  | (m, e) :: r, ps, h, n, d, hm => by
    obtain ⟨g, t, cs, fuel, p, q, h1, h2, h3, h4, h5, _⟩ := h
    rcases List.mem_cons.1 hm with hh | hm
    · simp only [Prod.mk.injEq] at hh
      obtain ⟨rfl, rfl⟩ := hh
      exact ⟨g, t, cs, fuel, p, h1, h2, h3, h4⟩
    · exact laidVars_mem h5 n d hm

theorem globRel_of_laid {C : Ctx} {L : List (Nat × List TC)} {lst : List (String × DataW Unit)} {w : World} {ps : List MemPlace} (hg : C.glob = globAt L) (hok : GlobOk C.P lst L)
    (hl : DataW.LaidVars C.P w lst ps) : GlobRel C (fun b => b < w.heap.size) noMu w := by
  intro ob g s el hgl
  rw [hg] at hgl
  obtain ⟨l, hm, rfl, rfl⟩ := globAt_mem hgl
  obtain ⟨n, d, t, hnd, h1, h2, h3⟩ := hok.mem _ hm
  obtain ⟨g', t', cs, fuel, p, k1, k2, k3, k4⟩ := laidVars_mem hl n d hnd
  simp only at h1 h2 h3
  obtain rfl : g' = g := Option.some.inj (k1.symm.trans h1)
  obtain rfl : t' = t := Option.some.inj (k2.symm.trans h2)
  obtain ⟨hlen, hR⟩ := read_ok (Pb := fun b => b < w.heap.size) (fun b h => h) fuel 8 k4 h3
  have hheap : ∃ a b, w.heap[g']? = some (.cells cs a b) := by
    unfold World.var? at k3
    rw [k1] at k3
    simp only [Option.bind_some] at k3
    split at k3
    · rename_i c a b hh
      simp only [Option.some.injEq] at k3
      subst k3
      exact ⟨a, b, hh⟩
    · cases k3
  obtain ⟨a, b, hheap⟩ := hheap
  have hcell : ∀ f, w.cell? ⟨g', f, none⟩ = cs[f]? := fun f => by simp [World.cell?, hheap]
  have key : ∀ (i f : Nat) (r : List TC) (c : TC), [l][i]? = some r → r[f]? = some c → ∃ v, w.cell? ⟨g', 0 + i * l.length + f, none⟩ = some v ∧ @RT ob (fun b => b < w.heap.size) w c v ∧ v.oneCell' = true := by
    intro i f r c hi hf
    cases i with
    | succ i => simp at hi
    | zero =>
      simp only [List.getElem?_cons_zero, Option.some.injEq] at hi
      subst hi
      have hfl : f < cs.toList.length := Nat.lt_of_lt_of_le (List.getElem?_eq_some_iff.1 hf).1 hlen
      have hv : cs.toList[f]? = some (cs.toList[f]) := List.getElem?_eq_getElem hfl
      refine ⟨cs.toList[f], ?_, hR ob f c _ hf hv⟩
      rw [show 0 + 0 * l.length + f = f by omega, hcell, ← hv]
      simp
  have := @Rel.vptr ob (fun b => b < w.heap.size) noMu w l.length 0 0 g' 0 [l] (fun i f => (w.cell? ⟨g', 0 + i * l.length + f, none⟩).getD .nilFunc)
    (fun _ => (Array.getElem?_eq_some_iff.1 hheap).1) (fun r hr => by simp only [List.mem_singleton] at hr; rw [hr])
    (fun i f r c hi hf => by
      obtain ⟨v, h1, h2, h3⟩ := key i f r c hi hf
      rw [h1]
      exact ⟨rfl, h3⟩)
    (fun i f r c hi hf => by
      obtain ⟨v, h1, h2, h3⟩ := key i f r c hi hf
      rw [h1]
      exact h2)
  simpa using this

/-- Contracts found with no variables known serve with some. -/
theorem Summ.glob {ρ : Env} {C : Ctx} (hs : Summ ρ C) (hg : C.glob = fun _ => none) (G : Nat → Option (Nat × List (List TC))) : Summ ρ { C with glob := G } := by
  intro f g args r h hr
  have := hs f g args r h hr
  intro ob Pb w vs h1 h2 h3
  exact this ob Pb w vs h1 h2 (fun o g s el hh => by rw [hg] at hh; cases hh)

/-- A law without parameters, some variables being known. -/
theorem walk_laid {C : Ctx} {L : List (Nat × List TC)} {lst : List (String × DataW Unit)} {d : Nat} {f : FuncId} (h : RunIs C d [] f [] (.leaf (.sc (.bool true)))) (hs : Summ ρ0 C) (hg : C.glob = globAt L)
    (hok : GlobOk C.P lst L) (hplain : (lst.all fun x => x.2.handleName?.isNone) = true) (w : World) (hL : laidMetH C.P lst w) :
    Calls C.P f #[] w fun e w' => e = .returned (.bool true) ∧ Below w.heap.size w w' := by
  rw [Go.MakeChecks.laidMetH_plain _ _ _ hplain] at hL
  obtain ⟨ps, hV, _⟩ := hL
  letI ob : Obs := ⟨⟨fun _ => 0, fun _ => false, fun _ => ByteArray.empty, fun _ _ => undef⟩, fun _ => True⟩
  have hc := h.calls (R := .sc (.bool true)) hs (fun p hp => by simp at hp) rfl
  refine (hc ob (fun b => b < w.heap.size) w #[] (fun _ h => h) ⟨rfl, fun i a v hi => by simp [concs] at hi⟩ (globRel_of_laid hg hok hV)).mono fun e w' ⟨r, v, hr, he, hR, hB⟩ => ?_
  subst hr
  have := hR.sc_eq
  subst this
  exact ⟨he, hB⟩
end Go.Proofs.YtdafainfcegfkaaDoor
