/- The law EncWords: some of its runs. -/
import Derived.Test.YtgpijioodocplaaDoorKnEncWords0
set_option linter.unusedVariables false
set_option maxRecDepth 100000
namespace Go.Proofs.YtgpijioodocplaaDoor
open Go Go.RowKit

theorem encWords_run1 : RunsN (CW06 encWords_facts) 24 encWords_facts 3 encWords_args1 := .code codeEnc_ok rfl (by kernel_rfl)
theorem encWords_run5 : RunsN (CW06 encWords_facts) 24 encWords_facts 3 encWords_args5 := .code codeEnc_ok rfl (by kernel_rfl)
theorem encWords_run9 : RunsN (CW06 encWords_facts) 24 encWords_facts 3 encWords_args9 := .code codeEnc_ok rfl (by kernel_rfl)
theorem encWords_run13 : RunsN (CW06 encWords_facts) 24 encWords_facts 3 encWords_args13 := .code codeEnc_ok rfl (by kernel_rfl)
theorem encWords_run17 : RunsN (CW06 encWords_facts) 24 encWords_facts 3 encWords_args17 := .code codeEnc_ok rfl (by kernel_rfl)
theorem encWords_run21 : RunsN (CW06 encWords_facts) 24 encWords_facts 3 encWords_args21 := .code codeEnc_ok rfl (by kernel_rfl)
theorem encWords_run25 : RunsN (CW06 encWords_facts) 24 encWords_facts 3 encWords_args25 := .code codeEnc_ok rfl (by kernel_rfl)
theorem encWords_run29 : RunsN (CW06 encWords_facts) 24 encWords_facts 3 encWords_args29 := .code codeEnc_ok rfl (by kernel_rfl)
end Go.Proofs.YtgpijioodocplaaDoor
