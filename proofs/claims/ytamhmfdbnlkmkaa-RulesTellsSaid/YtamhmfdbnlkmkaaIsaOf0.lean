/- Contracts as summaries; the table is one. -/
import Derived.Test.YtamhmfdbnlkmkaaIsaTable
set_option linter.unusedVariables false
namespace Go.Proofs.Ytamhmfdbnlkmkaa
open Go

def tableS : List AV → Option AV
  | [] => some tableA
  | _ => none

noncomputable def C1 : Ctx := { base Try.prog with summ := sum1 73 tableS (base Try.prog).summ, pure := fun f => f == 73 }

theorem conc_table (ρ : Env) : conc ρ tableA = tableA := by rfl

theorem C1_ok (ρ : Env) : Summ ρ C1 := summ_cons (C := base Try.prog) (summ_none ρ _) fun args r h => by
  cases args with
  | nil =>
    simp only [tableS, Option.some.injEq] at h
    subst h
    exact table_run.calls (summ_none ρ _) (fun p hp => by simp at hp) (by rw [conc_table]; rw [outV]; rw [conc_table])
  | cons _ _ => simp [tableS] at h
end Go.Proofs.Ytamhmfdbnlkmkaa
