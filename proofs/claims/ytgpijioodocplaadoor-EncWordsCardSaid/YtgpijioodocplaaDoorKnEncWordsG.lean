/- The law EncWords: some of its runs. -/
import Derived.Test.YtgpijioodocplaaDoorKnEncWordsE
set_option linter.unusedVariables false
set_option maxRecDepth 100000
namespace Go.Proofs.YtgpijioodocplaaDoor
open Go Go.RowKit

theorem encWords_run31a : RunsN (CW06 encWords_factsa) 24 encWords_factsa 3 encWords_args31 := .code codeEnc_ok rfl (by kernel_rfl)
theorem encWords_run31b : RunsN (CW06 encWords_factsb) 24 encWords_factsb 3 encWords_args31 := .code codeEnc_ok rfl (by kernel_rfl)
theorem encWords_run31c : RunsN (CW06 encWords_factsc) 24 encWords_factsc 3 encWords_args31 := .code codeEnc_ok rfl (by kernel_rfl)
end Go.Proofs.YtgpijioodocplaaDoor
