/- A context in which functions are told by tables. -/
import Derived.Test.YtamhmfdbnlkmkaaSySpec
set_option linter.unusedVariables false
namespace Go.Proofs.Ytamhmfdbnlkmkaa
open Go Go.RowKit

abbrev Tabs := List (FuncId × List (List AV × AV))

def sumsF (fs : Facts) : Tabs → (FuncId → Option (List AV → Option AV)) → FuncId → Option (List AV → Option AV)
  | [], rest => rest
  | p :: r, rest => sum1 p.1 (tabN fs p.2) (sumsF fs r rest)

def inTabs (f : FuncId) : Tabs → Bool
  | [] => false
  | p :: r => cond (p.1 == f) true (inTabs f r)

/-- The tables are told. -/
def ctxT (C : Ctx) (fs : Facts) (l : Tabs) : Ctx := { C with summ := sumsF fs l C.summ, pure := fun f => cond (inTabs f l) true (C.pure f) }

theorem ctxT_ok {ρ : Env} {C : Ctx} {fs : Facts} {l : Tabs} (hs : Summ ρ C) (hf : FactsOk ρ fs) (h : ∀ p ∈ l, ∀ q ∈ p.2, CallsTo C p.1 (concs ρ q.1) (conc ρ q.2)) : Summ ρ (ctxT C fs l) := by
  have key : ∀ (l : Tabs), (∀ p ∈ l, ∀ q ∈ p.2, CallsTo C p.1 (concs ρ q.1) (conc ρ q.2)) → ∀ f g args r, sumsF fs l C.summ f = some g → g args = some r → CallsTo C f (concs ρ args) (conc ρ r) := by
    intro l
    induction l with
    | nil => intro _ f g args r h1 h2; exact hs f g args r h1 h2
    | cons p l ih =>
      intro h f g args r h1 h2
      simp only [sumsF, sum1] at h1
      split at h1
      · rename_i hx
        simp only [decide_eq_true_eq] at hx
        simp only [Option.some.injEq] at h1
        subst h1; subst hx
        exact tabN_ok hf (h p (List.mem_cons_self ..)) args r h2
      · exact ih (fun q hq => h q (List.mem_cons_of_mem _ hq)) f g args r h1 h2
  intro f g args r h1 h2
  exact (key l h f g args r h1 h2).of rfl rfl
end Go.Proofs.Ytamhmfdbnlkmkaa
