/- From runs to laws: contexts, summaries one by one, a law that answers true. -/
import Derived.Test.YtgpijioodocplaaSyPrune
import Derived.KernelRfl
set_option linter.unusedVariables false
namespace Go.Proofs.Ytgpijioodocplaa
open Go Go.RowKit

def base (P : Program) : Ctx := { P := P, L := 4294967296, pure := fun _ => false, glob := fun _ => none, sym := false, summ := fun _ => none }

theorem summ_none (ρ : Env) (P : Program) : Summ ρ (base P) := fun f g args r h => by simp [base] at h

/-- Summaries of functions of trees: one by one. -/
def sum1 (f : FuncId) (g : List AV → Option AV) (rest : FuncId → Option (List AV → Option AV)) : FuncId → Option (List AV → Option AV) :=
  fun x => match decide (x = f) with | true => some g | false => rest x

/-- A summary more: what it tells was found with the ones before. -/
theorem summ_cons {ρ : Env} {C : Ctx} (hs : Summ ρ C) {f : FuncId} {g : List AV → Option AV} {p q : FuncId → Bool} (hg : ∀ args r, g args = some r → CallsTo C f (concs ρ args) (conc ρ r)) :
    Summ ρ { C with summ := sum1 f g C.summ, pure := p, flat := q } := by
  intro x g' args r h hr
  simp only [sum1] at h
  split at h
  · rename_i hx
    simp only [decide_eq_true_eq] at hx
    simp only [Option.some.injEq] at h
    subst h; subst hx
    exact hg args r hr
  · exact hs x g' args r h hr

/-- Which functions are pure does not matter. -/
theorem Summ.pure {ρ : Env} {C : Ctx} (hs : Summ ρ C) (p q : FuncId → Bool) : Summ ρ { C with pure := p, flat := q } := fun f g args r h hr => hs f g args r h hr

/-- A contract hangs on no summaries. -/
theorem CallsTo.of {C C' : Ctx} {f : FuncId} {args : List AV} {r : AV} (h : CallsTo C f args r) (hp : C'.P = C.P) (hg : C'.glob = C.glob) : CallsTo C' f args r := by
  intro ob Pb w vs h1 h2 h3
  have := h ob Pb w vs h1 h2 (fun o g s el hh => h3 o g s el (by rw [hg]; exact hh))
  rw [hp]
  exact this

/-- A summary that is told at some arguments. -/
def tabF (l : List (List AV × AV)) (args : List AV) : Option AV :=
  match l with
  | [] => none
  | p :: r => match sameAs p.1 args with | true => some p.2 | false => tabF r args

theorem tabF_ok {ρ : Env} {C : Ctx} {f : FuncId} : ∀ {l : List (List AV × AV)}, (∀ p ∈ l, CallsTo C f (concs ρ p.1) (conc ρ p.2)) → ∀ args r, tabF l args = some r → CallsTo C f (concs ρ args) (conc ρ r)
  | [], _, args, r, h => by simp [tabF] at h
  | p :: l, hl, args, r, h => by
    simp only [tabF] at h
    split at h
    · rename_i hs
      simp only [Option.some.injEq] at h
      subst h
      rw [← sameAs_eq hs]
      exact hl p (List.mem_cons_self ..)
    · exact tabF_ok (fun q hq => hl q (List.mem_cons_of_mem _ hq)) args r h

/-- A law that answers true: its walk, out of a contract. -/
theorem walk_of {C : Ctx} {f : FuncId} {args : List AV} {vs : Array Value} {w : World} (hg : C.glob = fun _ => none) (h : CallsTo C f args (.sc (.bool true)))
    (hv : ∀ ob : Obs, @RelL ob (fun b => b < w.heap.size) noMu w args vs) : Calls C.P f vs w fun e w' => e = .returned (.bool true) ∧ Below w.heap.size w w' := by
  letI ob : Obs := ⟨⟨fun _ => 0, fun _ => false, fun _ => ByteArray.empty, fun _ _ => undef⟩, fun _ => True⟩
  refine (h ob (fun b => b < w.heap.size) w vs (fun _ h => h) (hv ob) (fun o g s el hh => by rw [hg] at hh; cases hh)).mono fun e w' ⟨r, v, hr, he, hR, hB⟩ => ?_
  subst hr
  have := hR.sc_eq
  subst this
  exact ⟨he, hB⟩

/-- An environment of no use. -/
def ρ0 : Env := ⟨fun _ => 0, fun _ => false, fun _ => ByteArray.empty, fun _ _ => undef⟩

/-- A law without parameters. -/
theorem walk_closed {C : Ctx} {d : Nat} {f : FuncId} (h : RunIs C d [] f [] (.leaf (.sc (.bool true)))) (hs : Summ ρ0 C) (hg : C.glob = fun _ => none) (w : World) :
    Calls C.P f #[] w fun e w' => e = .returned (.bool true) ∧ Below w.heap.size w w' :=
  walk_of hg (h.calls (R := .sc (.bool true)) hs (fun p hp => by simp at hp) rfl) fun ob => ⟨rfl, fun i a v hi => by simp [concs] at hi⟩
end Go.Proofs.Ytgpijioodocplaa
