/- When an instruction may be: some runs. -/
import Derived.Test.YthabafmieebmmaaDoorKnR070
set_option linter.unusedVariables false
set_option maxRecDepth 100000
namespace Go.Proofs.YthabafmieebmmaaDoor
open Go Go.RowKit

theorem rightP1 : RunsIs CA07 24 rightF 24 (rightA 1) (.tc (.sy .bool (rightE 1 .var))) := .code codeSub_ok rfl (by kernel_rfl)
theorem rightP2 : RunsIs CA07 24 rightF 24 (rightA 2) (.tc (.sy .bool (rightE 2 .var))) := .code codeSub_ok rfl (by kernel_rfl)
theorem rightP3 : RunsIs CA07 24 rightF 24 (rightA 3) (.tc (.sy .bool (rightE 3 .var))) := .code codeSub_ok rfl (by kernel_rfl)
theorem rightP4 : RunsIs CA07 24 rightF 24 (rightA 4) (.tc (.sy .bool (rightE 4 .var))) := .code codeSub_ok rfl (by kernel_rfl)
theorem rightP5 : RunsIs CA07 24 rightF 24 (rightA 5) (.tc (.sy .bool (rightE 5 .var))) := .code codeSub_ok rfl (by kernel_rfl)
theorem rightP6 : RunsIs CA07 24 rightF 24 (rightA 6) (.tc (.sy .bool (rightE 6 .var))) := .code codeSub_ok rfl (by kernel_rfl)
theorem rightP7 : RunsIs CA07 24 rightF 24 (rightA 7) (.tc (.sy .bool (rightE 7 .var))) := .code codeSub_ok rfl (by kernel_rfl)
theorem rightP8 : RunsIs CA07 24 rightF 24 (rightA 8) (.tc (.sy .bool (rightE 8 .var))) := .code codeSub_ok rfl (by kernel_rfl)
theorem rightP9 : RunsIs CA07 24 rightF 24 (rightA 9) (.tc (.sy .bool (rightE 9 .var))) := .code codeSub_ok rfl (by kernel_rfl)
theorem rightP10 : RunsIs CA07 24 rightF 24 (rightA 10) (.tc (.sy .bool (rightE 10 .var))) := .code codeSub_ok rfl (by kernel_rfl)
theorem rightP11 : RunsIs CA07 24 rightF 24 (rightA 11) (.tc (.sy .bool (rightE 11 .var))) := .code codeSub_ok rfl (by kernel_rfl)
theorem rightP12 : RunsIs CA07 24 rightF 24 (rightA 12) (.tc (.sy .bool (rightE 12 .var))) := .code codeSub_ok rfl (by kernel_rfl)
theorem rightP13 : RunsIs CA07 24 rightF 24 (rightA 13) (.tc (.sy .bool (rightE 13 .var))) := .code codeSub_ok rfl (by kernel_rfl)
theorem rightP14 : RunsIs CA07 24 rightF 24 (rightA 14) (.tc (.sy .bool (rightE 14 .var))) := .code codeSub_ok rfl (by kernel_rfl)
theorem rightP15 : RunsIs CA07 24 rightF 24 (rightA 15) (.tc (.sy .bool (rightE 15 .var))) := .code codeSub_ok rfl (by kernel_rfl)
theorem rightP16 : RunsIs CA07 24 rightF 24 (rightA 16) (.tc (.sy .bool (rightE 16 .var))) := .code codeSub_ok rfl (by kernel_rfl)
end Go.Proofs.YthabafmieebmmaaDoor
