/- Small instructions: some runs. -/
import Derived.Test.YthabafmieebmmaaDoorKnS070
set_option linter.unusedVariables false
set_option maxRecDepth 100000
namespace Go.Proofs.YthabafmieebmmaaDoor
open Go Go.RowKit

theorem opT_run21 : RunsTo (CR07 rightF) 24 rightF 21 (opArgs 21) (opT 21) := .code codeSub_ok rfl (by kernel_rfl)
theorem opT_run23 : RunsTo (CR07 rightF) 24 rightF 21 (opArgs 23) (opT 23) := .code codeSub_ok rfl (by kernel_rfl)
end Go.Proofs.YthabafmieebmmaaDoor
