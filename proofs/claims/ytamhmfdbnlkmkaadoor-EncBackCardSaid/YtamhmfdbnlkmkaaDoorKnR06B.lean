/- When an instruction may be: some runs. -/
import Derived.Test.YtamhmfdbnlkmkaaDoorKnR060
set_option linter.unusedVariables false
set_option maxRecDepth 100000
namespace Go.Proofs.YtamhmfdbnlkmkaaDoor
open Go Go.RowKit

theorem rightP17 : RunsIs CX06 24 rightF 8 (rightA 17) (.tc (.sy .bool (rightE 17 .var))) := .code codeEnc_ok rfl (by kernel_rfl)
theorem rightP18 : RunsIs CX06 24 rightF 8 (rightA 18) (.tc (.sy .bool (rightE 18 .var))) := .code codeEnc_ok rfl (by kernel_rfl)
theorem rightP19 : RunsIs CX06 24 rightF 8 (rightA 19) (.tc (.sy .bool (rightE 19 .var))) := .code codeEnc_ok rfl (by kernel_rfl)
theorem rightP20 : RunsIs CX06 24 rightF 8 (rightA 20) (.tc (.sy .bool (rightE 20 .var))) := .code codeEnc_ok rfl (by kernel_rfl)
theorem rightP21 : RunsIs CX06 24 rightF 8 (rightA 21) (.tc (.sy .bool (rightE 21 .var))) := .code codeEnc_ok rfl (by kernel_rfl)
theorem rightP22 : RunsIs CX06 24 rightF 8 (rightA 22) (.tc (.sy .bool (rightE 22 .var))) := .code codeEnc_ok rfl (by kernel_rfl)
theorem rightP23 : RunsIs CX06 24 rightF 8 (rightA 23) (.tc (.sy .bool (rightE 23 .var))) := .code codeEnc_ok rfl (by kernel_rfl)
theorem rightP24 : RunsIs CX06 24 rightF 8 (rightA 24) (.tc (.sy .bool (rightE 24 .var))) := .code codeEnc_ok rfl (by kernel_rfl)
theorem rightP25 : RunsIs CX06 24 rightF 8 (rightA 25) (.tc (.sy .bool (rightE 25 .var))) := .code codeEnc_ok rfl (by kernel_rfl)
theorem rightP26 : RunsIs CX06 24 rightF 8 (rightA 26) (.tc (.sy .bool (rightE 26 .var))) := .code codeEnc_ok rfl (by kernel_rfl)
theorem rightP27 : RunsIs CX06 24 rightF 8 (rightA 27) (.tc (.sy .bool (rightE 27 .var))) := .code codeEnc_ok rfl (by kernel_rfl)
theorem rightP28 : RunsIs CX06 24 rightF 8 (rightA 28) (.tc (.sy .bool (rightE 28 .var))) := .code codeEnc_ok rfl (by kernel_rfl)
theorem rightP29 : RunsIs CX06 24 rightF 8 (rightA 29) (.tc (.sy .bool (rightE 29 .var))) := .code codeEnc_ok rfl (by kernel_rfl)
theorem rightP30 : RunsIs CX06 24 rightF 8 (rightA 30) (.tc (.sy .bool (rightE 30 .var))) := .code codeEnc_ok rfl (by kernel_rfl)
theorem rightP31 : RunsIs CX06 24 rightF 8 (rightA 31) (.tc (.sy .bool (rightE 31 .var))) := .code codeEnc_ok rfl (by kernel_rfl)
end Go.Proofs.YtamhmfdbnlkmkaaDoor
