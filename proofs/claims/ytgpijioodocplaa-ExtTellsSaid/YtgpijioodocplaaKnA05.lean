/- A context in which what is awake is told. -/
import Derived.Test.YtgpijioodocplaaKnC
import Derived.Test.YtgpijioodocplaaKcExt
set_option linter.unusedVariables false
set_option maxRecDepth 100000
namespace Go.Proofs.Ytgpijioodocplaa
open Go Go.RowKit

theorem awake05_run : RunIs CK 24 [] 26 [] (.leaf (.sc (.bool true))) := .code codeExt_ok rfl (by kernel_rfl)
def awake05T : List (List AV × AV) := [([], .sc (.bool true))]
noncomputable def CA05 : Ctx := { CK with summ := sum1 26 (tabF awake05T) CK.summ }
theorem CA05_ok (ρ : Env) : Summ ρ CA05 := summ_cons (C := CK) (p := CK.pure) (q := CK.flat) (CK_ok ρ) (tabF_ok fun p hp => by
  simp only [awake05T, List.mem_cons, List.not_mem_nil, or_false] at hp
  subst hp
  exact awake05_run.calls (CK_ok ρ) (fun p hp => by simp at hp) rfl)

/-- The same; isa.Of makes memory that may be written. -/
noncomputable def CB05 : Ctx := { CA05 with pure := fun f => match f with
  | 10 => false
  | f => CK.pure f }
theorem CB05_ok (ρ : Env) : Summ ρ CB05 := (CA05_ok ρ).pure _ _
end Go.Proofs.Ytgpijioodocplaa
