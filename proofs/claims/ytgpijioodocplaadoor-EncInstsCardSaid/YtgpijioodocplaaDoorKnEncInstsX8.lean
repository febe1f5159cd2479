/- The law EncInsts: some of its runs. -/
import Derived.Test.YtgpijioodocplaaDoorKnEncInsts0
set_option linter.unusedVariables false
set_option maxRecDepth 100000
namespace Go.Proofs.YtgpijioodocplaaDoor
open Go Go.RowKit

theorem encInsts_run31fq : RunsN (CV06 ((.cmp .leq (.var 8) (.lit 0), false) :: encInsts_factsV30)) 24 ((.cmp .leq (.var 8) (.lit 0), false) :: encInsts_factsV30) 5 (encInsts_argsV30 31 false) := .code codeEnc_ok rfl (by kernel_rfl)
end Go.Proofs.YtgpijioodocplaaDoor
