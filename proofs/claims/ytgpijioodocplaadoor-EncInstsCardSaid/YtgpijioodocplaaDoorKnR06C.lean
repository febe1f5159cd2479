/- When an instruction may be: some runs. -/
import Derived.Test.YtgpijioodocplaaDoorKnR060
set_option linter.unusedVariables false
set_option maxRecDepth 100000
namespace Go.Proofs.YtgpijioodocplaaDoor
open Go Go.RowKit

theorem rightQ2 : RunsIs CX06 24 rightF 21 (rightA 2) (.tc (.sy .bool (rightE 2 .var))) := .code codeEnc_ok rfl (by kernel_rfl)
theorem rightQ3 : RunsIs CX06 24 rightF 21 (rightA 3) (.tc (.sy .bool (rightE 3 .var))) := .code codeEnc_ok rfl (by kernel_rfl)
theorem rightQ4 : RunsIs CX06 24 rightF 21 (rightA 4) (.tc (.sy .bool (rightE 4 .var))) := .code codeEnc_ok rfl (by kernel_rfl)
theorem rightQ5 : RunsIs CX06 24 rightF 21 (rightA 5) (.tc (.sy .bool (rightE 5 .var))) := .code codeEnc_ok rfl (by kernel_rfl)
theorem rightQ6 : RunsIs CX06 24 rightF 21 (rightA 6) (.tc (.sy .bool (rightE 6 .var))) := .code codeEnc_ok rfl (by kernel_rfl)
theorem rightQ7 : RunsIs CX06 24 rightF 21 (rightA 7) (.tc (.sy .bool (rightE 7 .var))) := .code codeEnc_ok rfl (by kernel_rfl)
theorem rightQ8 : RunsIs CX06 24 rightF 21 (rightA 8) (.tc (.sy .bool (rightE 8 .var))) := .code codeEnc_ok rfl (by kernel_rfl)
theorem rightQ9 : RunsIs CX06 24 rightF 21 (rightA 9) (.tc (.sy .bool (rightE 9 .var))) := .code codeEnc_ok rfl (by kernel_rfl)
theorem rightQ10 : RunsIs CX06 24 rightF 21 (rightA 10) (.tc (.sy .bool (rightE 10 .var))) := .code codeEnc_ok rfl (by kernel_rfl)
theorem rightQ11 : RunsIs CX06 24 rightF 21 (rightA 11) (.tc (.sy .bool (rightE 11 .var))) := .code codeEnc_ok rfl (by kernel_rfl)
theorem rightQ12 : RunsIs CX06 24 rightF 21 (rightA 12) (.tc (.sy .bool (rightE 12 .var))) := .code codeEnc_ok rfl (by kernel_rfl)
theorem rightQ13 : RunsIs CX06 24 rightF 21 (rightA 13) (.tc (.sy .bool (rightE 13 .var))) := .code codeEnc_ok rfl (by kernel_rfl)
theorem rightQ14 : RunsIs CX06 24 rightF 21 (rightA 14) (.tc (.sy .bool (rightE 14 .var))) := .code codeEnc_ok rfl (by kernel_rfl)
theorem rightQ15 : RunsIs CX06 24 rightF 21 (rightA 15) (.tc (.sy .bool (rightE 15 .var))) := .code codeEnc_ok rfl (by kernel_rfl)
theorem rightQ16 : RunsIs CX06 24 rightF 21 (rightA 16) (.tc (.sy .bool (rightE 16 .var))) := .code codeEnc_ok rfl (by kernel_rfl)
theorem rightQ17 : RunsIs CX06 24 rightF 21 (rightA 17) (.tc (.sy .bool (rightE 17 .var))) := .code codeEnc_ok rfl (by kernel_rfl)
end Go.Proofs.YtgpijioodocplaaDoor
