/- The law EncInsts: some of its runs. -/
import Derived.Test.YtgpijioodocplaaDoorKnEncInsts0
set_option linter.unusedVariables false
set_option maxRecDepth 100000
namespace Go.Proofs.YtgpijioodocplaaDoor
open Go Go.RowKit

theorem encInsts_run27tp : RunsN (CV06 ((.cmp .leq (.var 6) (.lit 0), false) :: encInsts_factsV27)) 24 ((.cmp .leq (.var 6) (.lit 0), false) :: encInsts_factsV27) 5 (encInsts_argsV27 27 true) := .code codeEnc_ok rfl (by kernel_rfl)
end Go.Proofs.YtgpijioodocplaaDoor
