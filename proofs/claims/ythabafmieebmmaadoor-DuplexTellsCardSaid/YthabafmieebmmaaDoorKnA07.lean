/- A context in which what is awake is told. -/
import Derived.Test.YthabafmieebmmaaDoorKnC
import Derived.Test.YthabafmieebmmaaDoorMg8
import Derived.Test.YthabafmieebmmaaDoorKcSub
set_option linter.unusedVariables false
set_option maxRecDepth 100000
namespace Go.Proofs.YthabafmieebmmaaDoor
open Go Go.RowKit

noncomputable def CG07 : Ctx := { CK with glob := globAt globSub }
theorem CG07_ok (ρ : Env) : Summ ρ CG07 := Summ.glob (CK_ok ρ) rfl _

theorem awake07_run : RunIs CG07 24 [] 23 [] (.leaf (.sc (.bool true))) := .code codeSub_ok rfl (by kernel_rfl)
def awake07T : List (List AV × AV) := [([], .sc (.bool true))]
noncomputable def CA07 : Ctx := { CG07 with summ := sum1 23 (tabF awake07T) CG07.summ }
theorem CA07_ok (ρ : Env) : Summ ρ CA07 := summ_cons (C := CG07) (p := CG07.pure) (q := CG07.flat) (CG07_ok ρ) (tabF_ok fun p hp => by
  simp only [awake07T, List.mem_cons, List.not_mem_nil, or_false] at hp
  subst hp
  exact awake07_run.calls (CG07_ok ρ) (fun p hp => by simp at hp) rfl)

/-- The same; isa.Of makes memory that may be written. -/
noncomputable def CB07 : Ctx := { CA07 with pure := fun f => match f with
  | 42 => false
  | f => CG07.pure f }
theorem CB07_ok (ρ : Env) : Summ ρ CB07 := (CA07_ok ρ).pure _ _
end Go.Proofs.YthabafmieebmmaaDoor
