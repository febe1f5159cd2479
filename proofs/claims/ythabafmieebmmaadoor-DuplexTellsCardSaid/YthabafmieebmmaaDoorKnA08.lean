/- A context in which what is awake is told. -/
import Derived.Test.YthabafmieebmmaaDoorKnC
import Derived.Test.YthabafmieebmmaaDoorMg8
import Derived.Test.YthabafmieebmmaaDoorKcDup
set_option linter.unusedVariables false
set_option maxRecDepth 100000
namespace Go.Proofs.YthabafmieebmmaaDoor
open Go Go.RowKit

noncomputable def CG08 : Ctx := { CK with glob := globAt globDup }
theorem CG08_ok (ρ : Env) : Summ ρ CG08 := Summ.glob (CK_ok ρ) rfl _

theorem awake08_run : RunIs CG08 24 [] 31 [] (.leaf (.sc (.bool true))) := .code codeDup_ok rfl (by kernel_rfl)
def awake08T : List (List AV × AV) := [([], .sc (.bool true))]
noncomputable def CA08 : Ctx := { CG08 with summ := sum1 31 (tabF awake08T) CG08.summ }
theorem CA08_ok (ρ : Env) : Summ ρ CA08 := summ_cons (C := CG08) (p := CG08.pure) (q := CG08.flat) (CG08_ok ρ) (tabF_ok fun p hp => by
  simp only [awake08T, List.mem_cons, List.not_mem_nil, or_false] at hp
  subst hp
  exact awake08_run.calls (CG08_ok ρ) (fun p hp => by simp at hp) rfl)

/-- The same; isa.Of makes memory that may be written. -/
noncomputable def CB08 : Ctx := { CA08 with pure := fun f => match f with
  | 42 => false
  | f => CG08.pure f }
theorem CB08_ok (ρ : Env) : Summ ρ CB08 := (CA08_ok ρ).pure _ _
end Go.Proofs.YthabafmieebmmaaDoor
