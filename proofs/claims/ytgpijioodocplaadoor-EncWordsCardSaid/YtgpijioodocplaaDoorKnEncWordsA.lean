/- The law EncWords: some of its runs. -/
import Derived.Test.YtgpijioodocplaaDoorKnEncWords0
set_option linter.unusedVariables false
set_option maxRecDepth 100000
namespace Go.Proofs.YtgpijioodocplaaDoor
open Go Go.RowKit

theorem encWords_runL : RunsN (CW06 encWords_factsL) 24 encWords_factsL 3 encWords_args := .code codeEnc_ok rfl (by kernel_rfl)
theorem encWords_run4 : RunsN (CW06 encWords_facts) 24 encWords_facts 3 encWords_args4 := .code codeEnc_ok rfl (by kernel_rfl)
theorem encWords_run8 : RunsN (CW06 encWords_facts) 24 encWords_facts 3 encWords_args8 := .code codeEnc_ok rfl (by kernel_rfl)
theorem encWords_run12 : RunsN (CW06 encWords_facts) 24 encWords_facts 3 encWords_args12 := .code codeEnc_ok rfl (by kernel_rfl)
theorem encWords_run16 : RunsN (CW06 encWords_facts) 24 encWords_facts 3 encWords_args16 := .code codeEnc_ok rfl (by kernel_rfl)
theorem encWords_run20 : RunsN (CW06 encWords_facts) 24 encWords_facts 3 encWords_args20 := .code codeEnc_ok rfl (by kernel_rfl)
theorem encWords_run24 : RunsN (CW06 encWords_facts) 24 encWords_facts 3 encWords_args24 := .code codeEnc_ok rfl (by kernel_rfl)
theorem encWords_run28 : RunsN (CW06 encWords_facts) 24 encWords_facts 3 encWords_args28 := .code codeEnc_ok rfl (by kernel_rfl)
theorem encWords_runG : RunsN (CW06 encWords_factsG) 24 encWords_factsG 3 encWords_args := .code codeEnc_ok rfl (by kernel_rfl)
end Go.Proofs.YtgpijioodocplaaDoor
