/- Small instructions: some runs. -/
import Derived.Test.YthabafmieebmmaaDoorKnS070
set_option linter.unusedVariables false
set_option maxRecDepth 100000
namespace Go.Proofs.YthabafmieebmmaaDoor
open Go Go.RowKit

theorem opT_run24 : RunsTo (CR07 rightF) 24 rightF 21 (opArgs 24) (opT 24) := .code codeSub_ok rfl (by kernel_rfl)
theorem opT_run26 : RunsTo (CR07 rightF) 24 rightF 21 (opArgs 26) (opT 26) := .code codeSub_ok rfl (by kernel_rfl)
end Go.Proofs.YthabafmieebmmaaDoor
