/- The law EncWords: some of its runs. -/
import Derived.Test.YtgpijioodocplaaDoorKnEncWords0
set_option linter.unusedVariables false
set_option maxRecDepth 100000
namespace Go.Proofs.YtgpijioodocplaaDoor
open Go Go.RowKit

theorem encWords_run3 : RunsN (CW06 encWords_facts) 24 encWords_facts 3 encWords_args3 := .code codeEnc_ok rfl (by kernel_rfl)
theorem encWords_run7 : RunsN (CW06 encWords_facts) 24 encWords_facts 3 encWords_args7 := .code codeEnc_ok rfl (by kernel_rfl)
theorem encWords_run11 : RunsN (CW06 encWords_facts) 24 encWords_facts 3 encWords_args11 := .code codeEnc_ok rfl (by kernel_rfl)
theorem encWords_run15 : RunsN (CW06 encWords_facts) 24 encWords_facts 3 encWords_args15 := .code codeEnc_ok rfl (by kernel_rfl)
theorem encWords_run19 : RunsN (CW06 encWords_facts) 24 encWords_facts 3 encWords_args19 := .code codeEnc_ok rfl (by kernel_rfl)
theorem encWords_run23 : RunsN (CW06 encWords_facts) 24 encWords_facts 3 encWords_args23 := .code codeEnc_ok rfl (by kernel_rfl)
end Go.Proofs.YtgpijioodocplaaDoor
