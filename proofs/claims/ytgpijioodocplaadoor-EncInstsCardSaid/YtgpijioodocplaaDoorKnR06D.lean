/- When an instruction may be: some runs. -/
import Derived.Test.YtgpijioodocplaaDoorKnR060
set_option linter.unusedVariables false
set_option maxRecDepth 100000
namespace Go.Proofs.YtgpijioodocplaaDoor
open Go Go.RowKit

theorem rightQ18 : RunsIs CX06 24 rightF 21 (rightA 18) (.tc (.sy .bool (rightE 18 .var))) := .code codeEnc_ok rfl (by kernel_rfl)
theorem rightQ19 : RunsIs CX06 24 rightF 21 (rightA 19) (.tc (.sy .bool (rightE 19 .var))) := .code codeEnc_ok rfl (by kernel_rfl)
theorem rightQ20 : RunsIs CX06 24 rightF 21 (rightA 20) (.tc (.sy .bool (rightE 20 .var))) := .code codeEnc_ok rfl (by kernel_rfl)
theorem rightQ21 : RunsIs CX06 24 rightF 21 (rightA 21) (.tc (.sy .bool (rightE 21 .var))) := .code codeEnc_ok rfl (by kernel_rfl)
theorem rightQ22 : RunsIs CX06 24 rightF 21 (rightA 22) (.tc (.sy .bool (rightE 22 .var))) := .code codeEnc_ok rfl (by kernel_rfl)
theorem rightQ23 : RunsIs CX06 24 rightF 21 (rightA 23) (.tc (.sy .bool (rightE 23 .var))) := .code codeEnc_ok rfl (by kernel_rfl)
theorem rightQ24 : RunsIs CX06 24 rightF 21 (rightA 24) (.tc (.sy .bool (rightE 24 .var))) := .code codeEnc_ok rfl (by kernel_rfl)
theorem rightQ25 : RunsIs CX06 24 rightF 21 (rightA 25) (.tc (.sy .bool (rightE 25 .var))) := .code codeEnc_ok rfl (by kernel_rfl)
theorem rightQ26 : RunsIs CX06 24 rightF 21 (rightA 26) (.tc (.sy .bool (rightE 26 .var))) := .code codeEnc_ok rfl (by kernel_rfl)
theorem rightQ27 : RunsIs CX06 24 rightF 21 (rightA 27) (.tc (.sy .bool (rightE 27 .var))) := .code codeEnc_ok rfl (by kernel_rfl)
theorem rightQ28 : RunsIs CX06 24 rightF 21 (rightA 28) (.tc (.sy .bool (rightE 28 .var))) := .code codeEnc_ok rfl (by kernel_rfl)
theorem rightQ29 : RunsIs CX06 24 rightF 21 (rightA 29) (.tc (.sy .bool (rightE 29 .var))) := .code codeEnc_ok rfl (by kernel_rfl)
theorem rightQ30 : RunsIs CX06 24 rightF 21 (rightA 30) (.tc (.sy .bool (rightE 30 .var))) := .code codeEnc_ok rfl (by kernel_rfl)
theorem rightQ31 : RunsIs CX06 24 rightF 21 (rightA 31) (.tc (.sy .bool (rightE 31 .var))) := .code codeEnc_ok rfl (by kernel_rfl)
end Go.Proofs.YtgpijioodocplaaDoor
