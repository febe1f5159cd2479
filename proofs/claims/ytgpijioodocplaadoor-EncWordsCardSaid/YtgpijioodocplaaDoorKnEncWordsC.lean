/- The law EncWords: some of its runs. -/
import Derived.Test.YtgpijioodocplaaDoorKnEncWords0
set_option linter.unusedVariables false
set_option maxRecDepth 100000
namespace Go.Proofs.YtgpijioodocplaaDoor
open Go Go.RowKit

theorem encWords_run2 : RunsN (CW06 encWords_facts) 24 encWords_facts 3 encWords_args2 := .code codeEnc_ok rfl (by kernel_rfl)
theorem encWords_run6 : RunsN (CW06 encWords_facts) 24 encWords_facts 3 encWords_args6 := .code codeEnc_ok rfl (by kernel_rfl)
theorem encWords_run10 : RunsN (CW06 encWords_facts) 24 encWords_facts 3 encWords_args10 := .code codeEnc_ok rfl (by kernel_rfl)
theorem encWords_run14 : RunsN (CW06 encWords_facts) 24 encWords_facts 3 encWords_args14 := .code codeEnc_ok rfl (by kernel_rfl)
theorem encWords_run18 : RunsN (CW06 encWords_facts) 24 encWords_facts 3 encWords_args18 := .code codeEnc_ok rfl (by kernel_rfl)
theorem encWords_run22 : RunsN (CW06 encWords_facts) 24 encWords_facts 3 encWords_args22 := .code codeEnc_ok rfl (by kernel_rfl)
theorem encWords_run26 : RunsN (CW06 encWords_facts) 24 encWords_facts 3 encWords_args26 := .code codeEnc_ok rfl (by kernel_rfl)
end Go.Proofs.YtgpijioodocplaaDoor
