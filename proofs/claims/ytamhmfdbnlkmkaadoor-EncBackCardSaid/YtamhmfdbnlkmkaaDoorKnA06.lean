/- A context in which what is awake is told. -/
import Derived.Test.YtamhmfdbnlkmkaaDoorKnC
import Derived.Test.YtamhmfdbnlkmkaaDoorMg8
import Derived.Test.YtamhmfdbnlkmkaaDoorKcEnc
set_option linter.unusedVariables false
set_option maxRecDepth 100000
namespace Go.Proofs.YtamhmfdbnlkmkaaDoor
open Go Go.RowKit

noncomputable def CG06 : Ctx := { CK with glob := globAt globEnc }
theorem CG06_ok (ρ : Env) : Summ ρ CG06 := Summ.glob (CK_ok ρ) rfl _

theorem awake06_run : RunIs CG06 24 [] 10 [] (.leaf (.sc (.bool true))) := .code codeEnc_ok rfl (by kernel_rfl)
def awake06T : List (List AV × AV) := [([], .sc (.bool true))]
noncomputable def CA06 : Ctx := { CG06 with summ := sum1 10 (tabF awake06T) CG06.summ }
theorem CA06_ok (ρ : Env) : Summ ρ CA06 := summ_cons (C := CG06) (p := CG06.pure) (q := CG06.flat) (CG06_ok ρ) (tabF_ok fun p hp => by
  simp only [awake06T, List.mem_cons, List.not_mem_nil, or_false] at hp
  subst hp
  exact awake06_run.calls (CG06_ok ρ) (fun p hp => by simp at hp) rfl)

/-- The same; isa.Of makes memory that may be written. -/
noncomputable def CB06 : Ctx := { CA06 with pure := fun f => match f with
  | 19 => false
  | f => CG06.pure f }
theorem CB06_ok (ρ : Env) : Summ ρ CB06 := (CA06_ok ρ).pure _ _
end Go.Proofs.YtamhmfdbnlkmkaaDoor
