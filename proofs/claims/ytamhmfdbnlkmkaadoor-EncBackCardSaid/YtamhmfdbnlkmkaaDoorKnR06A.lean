/- When an instruction may be: some runs. -/
import Derived.Test.YtamhmfdbnlkmkaaDoorKnR060
set_option linter.unusedVariables false
set_option maxRecDepth 100000
namespace Go.Proofs.YtamhmfdbnlkmkaaDoor
open Go Go.RowKit

theorem rightP1 : RunsIs CX06 24 rightF 8 (rightA 1) (.tc (.sy .bool (rightE 1 .var))) := .code codeEnc_ok rfl (by kernel_rfl)
theorem rightP2 : RunsIs CX06 24 rightF 8 (rightA 2) (.tc (.sy .bool (rightE 2 .var))) := .code codeEnc_ok rfl (by kernel_rfl)
theorem rightP3 : RunsIs CX06 24 rightF 8 (rightA 3) (.tc (.sy .bool (rightE 3 .var))) := .code codeEnc_ok rfl (by kernel_rfl)
theorem rightP4 : RunsIs CX06 24 rightF 8 (rightA 4) (.tc (.sy .bool (rightE 4 .var))) := .code codeEnc_ok rfl (by kernel_rfl)
theorem rightP5 : RunsIs CX06 24 rightF 8 (rightA 5) (.tc (.sy .bool (rightE 5 .var))) := .code codeEnc_ok rfl (by kernel_rfl)
theorem rightP6 : RunsIs CX06 24 rightF 8 (rightA 6) (.tc (.sy .bool (rightE 6 .var))) := .code codeEnc_ok rfl (by kernel_rfl)
theorem rightP7 : RunsIs CX06 24 rightF 8 (rightA 7) (.tc (.sy .bool (rightE 7 .var))) := .code codeEnc_ok rfl (by kernel_rfl)
theorem rightP8 : RunsIs CX06 24 rightF 8 (rightA 8) (.tc (.sy .bool (rightE 8 .var))) := .code codeEnc_ok rfl (by kernel_rfl)
theorem rightP9 : RunsIs CX06 24 rightF 8 (rightA 9) (.tc (.sy .bool (rightE 9 .var))) := .code codeEnc_ok rfl (by kernel_rfl)
theorem rightP10 : RunsIs CX06 24 rightF 8 (rightA 10) (.tc (.sy .bool (rightE 10 .var))) := .code codeEnc_ok rfl (by kernel_rfl)
theorem rightP11 : RunsIs CX06 24 rightF 8 (rightA 11) (.tc (.sy .bool (rightE 11 .var))) := .code codeEnc_ok rfl (by kernel_rfl)
theorem rightP12 : RunsIs CX06 24 rightF 8 (rightA 12) (.tc (.sy .bool (rightE 12 .var))) := .code codeEnc_ok rfl (by kernel_rfl)
theorem rightP13 : RunsIs CX06 24 rightF 8 (rightA 13) (.tc (.sy .bool (rightE 13 .var))) := .code codeEnc_ok rfl (by kernel_rfl)
theorem rightP14 : RunsIs CX06 24 rightF 8 (rightA 14) (.tc (.sy .bool (rightE 14 .var))) := .code codeEnc_ok rfl (by kernel_rfl)
theorem rightP15 : RunsIs CX06 24 rightF 8 (rightA 15) (.tc (.sy .bool (rightE 15 .var))) := .code codeEnc_ok rfl (by kernel_rfl)
theorem rightP16 : RunsIs CX06 24 rightF 8 (rightA 16) (.tc (.sy .bool (rightE 16 .var))) := .code codeEnc_ok rfl (by kernel_rfl)
end Go.Proofs.YtamhmfdbnlkmkaaDoor
