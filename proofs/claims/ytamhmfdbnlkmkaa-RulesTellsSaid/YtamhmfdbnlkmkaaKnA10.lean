/- A context in which what is awake is told. -/
import Derived.Test.YtamhmfdbnlkmkaaKnC
import Derived.Test.YtamhmfdbnlkmkaaKcRul
set_option linter.unusedVariables false
set_option maxRecDepth 100000
namespace Go.Proofs.Ytamhmfdbnlkmkaa
open Go Go.RowKit

theorem awake10_run : RunIs CK 24 [] 9 [] (.leaf (.sc (.bool true))) := .code codeRul_ok rfl (by kernel_rfl)
def awake10T : List (List AV × AV) := [([], .sc (.bool true))]
noncomputable def CA10 : Ctx := { CK with summ := sum1 9 (tabF awake10T) CK.summ }
theorem CA10_ok (ρ : Env) : Summ ρ CA10 := summ_cons (C := CK) (p := CK.pure) (q := CK.flat) (CK_ok ρ) (tabF_ok fun p hp => by
  simp only [awake10T, List.mem_cons, List.not_mem_nil, or_false] at hp
  subst hp
  exact awake10_run.calls (CK_ok ρ) (fun p hp => by simp at hp) rfl)

/-- The same; isa.Of makes memory that may be written. -/
noncomputable def CB10 : Ctx := { CA10 with pure := fun f => match f with
  | 38 => false
  | f => CK.pure f }
theorem CB10_ok (ρ : Env) : Summ ρ CB10 := (CA10_ok ρ).pure _ _
end Go.Proofs.Ytamhmfdbnlkmkaa
