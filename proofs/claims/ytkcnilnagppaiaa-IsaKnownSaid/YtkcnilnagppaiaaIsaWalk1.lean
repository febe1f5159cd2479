/- The law IsaKnown: its walk, by a run. -/
import Derived.Test.YtkcnilnagppaiaaIsaOf0
set_option linter.unusedVariables false
namespace Go.Proofs.Ytkcnilnagppaiaa
open Go Go.RowKit

noncomputable def C2 : Ctx := { C1 with pure := fun f => match f with | 18 => true | 10 => true | 9 => true | 14 => true | 8 => true | 7 => true | _ => false }
theorem C2_ok : SummOk C2 := C1_ok

/-- A law that answers true, by a run of trees. -/
theorem walk_of {C : Ctx} {f : FuncId} {args : List AV} {vs : Array Value} {w : World} (hg : C.glob = fun _ => none) (h : TreeCall C f args (· = .sc (.bool true)))
    (hv : RelL (fun b => b < w.heap.size) noMu w args vs) : Calls C.P f vs w fun e w' => e = .returned (.bool true) ∧ Below w.heap.size w w' := by
  refine (h (fun b => b < w.heap.size) w vs (fun _ h => h) hv (fun g s el hh => by rw [hg] at hh; cases hh)).mono fun e w' ⟨r, v, hr, he, hR, hB⟩ => ?_
  subst hr
  have := hR.sc_eq
  subst this
  exact ⟨he, hB⟩

theorem known_run : Runs C2 12 4 [] (.sc (.bool true)) := .mk (by kernel_rfl)

theorem known_walk (w : World) : Calls Try.prog 4 #[] w fun e w' => e = .returned (.bool true) ∧ Below w.heap.size w w' :=
  walk_of (C := C2) rfl (known_run.tree C2_ok) ⟨rfl, fun i a v hi => by simp at hi⟩
end Go.Proofs.Ytkcnilnagppaiaa
