/- A context in which what is awake is told. -/
import Derived.Test.YtgpijioodocplaaKnC
import Derived.Test.YtgpijioodocplaaKcIsa
set_option linter.unusedVariables false
set_option maxRecDepth 100000
namespace Go.Proofs.Ytgpijioodocplaa
open Go Go.RowKit

theorem awake03_run : RunIs CK 24 [] 11 [] (.leaf (.sc (.bool true))) := .code codeIsa_ok rfl (by kernel_rfl)
def awake03T : List (List AV × AV) := [([], .sc (.bool true))]
noncomputable def CA03 : Ctx := { CK with summ := sum1 11 (tabF awake03T) CK.summ }
theorem CA03_ok (ρ : Env) : Summ ρ CA03 := summ_cons (C := CK) (p := CK.pure) (q := CK.flat) (CK_ok ρ) (tabF_ok fun p hp => by
  simp only [awake03T, List.mem_cons, List.not_mem_nil, or_false] at hp
  subst hp
  exact awake03_run.calls (CK_ok ρ) (fun p hp => by simp at hp) rfl)

/-- The same; isa.Of makes memory that may be written. -/
noncomputable def CB03 : Ctx := { CA03 with pure := fun f => match f with
  | 10 => false
  | f => CK.pure f }
theorem CB03_ok (ρ : Env) : Summ ρ CB03 := (CA03_ok ρ).pure _ _
end Go.Proofs.Ytgpijioodocplaa
