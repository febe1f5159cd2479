/- When an instruction may be: some runs. -/
import Derived.Test.YtamhmfdbnlkmkaaKnR100
set_option linter.unusedVariables false
set_option maxRecDepth 100000
namespace Go.Proofs.Ytamhmfdbnlkmkaa
open Go Go.RowKit

theorem rightP1 : RunsIs CA10 24 rightF 14 (rightA 1) (.tc (.sy .bool (rightE 1 .var))) := .code codeRul_ok rfl (by kernel_rfl)
theorem rightP2 : RunsIs CA10 24 rightF 14 (rightA 2) (.tc (.sy .bool (rightE 2 .var))) := .code codeRul_ok rfl (by kernel_rfl)
theorem rightP3 : RunsIs CA10 24 rightF 14 (rightA 3) (.tc (.sy .bool (rightE 3 .var))) := .code codeRul_ok rfl (by kernel_rfl)
theorem rightP4 : RunsIs CA10 24 rightF 14 (rightA 4) (.tc (.sy .bool (rightE 4 .var))) := .code codeRul_ok rfl (by kernel_rfl)
theorem rightP5 : RunsIs CA10 24 rightF 14 (rightA 5) (.tc (.sy .bool (rightE 5 .var))) := .code codeRul_ok rfl (by kernel_rfl)
theorem rightP6 : RunsIs CA10 24 rightF 14 (rightA 6) (.tc (.sy .bool (rightE 6 .var))) := .code codeRul_ok rfl (by kernel_rfl)
theorem rightP7 : RunsIs CA10 24 rightF 14 (rightA 7) (.tc (.sy .bool (rightE 7 .var))) := .code codeRul_ok rfl (by kernel_rfl)
theorem rightP8 : RunsIs CA10 24 rightF 14 (rightA 8) (.tc (.sy .bool (rightE 8 .var))) := .code codeRul_ok rfl (by kernel_rfl)
theorem rightP9 : RunsIs CA10 24 rightF 14 (rightA 9) (.tc (.sy .bool (rightE 9 .var))) := .code codeRul_ok rfl (by kernel_rfl)
theorem rightP10 : RunsIs CA10 24 rightF 14 (rightA 10) (.tc (.sy .bool (rightE 10 .var))) := .code codeRul_ok rfl (by kernel_rfl)
theorem rightP11 : RunsIs CA10 24 rightF 14 (rightA 11) (.tc (.sy .bool (rightE 11 .var))) := .code codeRul_ok rfl (by kernel_rfl)
theorem rightP12 : RunsIs CA10 24 rightF 14 (rightA 12) (.tc (.sy .bool (rightE 12 .var))) := .code codeRul_ok rfl (by kernel_rfl)
theorem rightP13 : RunsIs CA10 24 rightF 14 (rightA 13) (.tc (.sy .bool (rightE 13 .var))) := .code codeRul_ok rfl (by kernel_rfl)
theorem rightP14 : RunsIs CA10 24 rightF 14 (rightA 14) (.tc (.sy .bool (rightE 14 .var))) := .code codeRul_ok rfl (by kernel_rfl)
theorem rightP15 : RunsIs CA10 24 rightF 14 (rightA 15) (.tc (.sy .bool (rightE 15 .var))) := .code codeRul_ok rfl (by kernel_rfl)
theorem rightP16 : RunsIs CA10 24 rightF 14 (rightA 16) (.tc (.sy .bool (rightE 16 .var))) := .code codeRul_ok rfl (by kernel_rfl)
theorem rightP17 : RunsIs CA10 24 rightF 14 (rightA 17) (.tc (.sy .bool (rightE 17 .var))) := .code codeRul_ok rfl (by kernel_rfl)
theorem rightP18 : RunsIs CA10 24 rightF 14 (rightA 18) (.tc (.sy .bool (rightE 18 .var))) := .code codeRul_ok rfl (by kernel_rfl)
theorem rightP19 : RunsIs CA10 24 rightF 14 (rightA 19) (.tc (.sy .bool (rightE 19 .var))) := .code codeRul_ok rfl (by kernel_rfl)
theorem rightP20 : RunsIs CA10 24 rightF 14 (rightA 20) (.tc (.sy .bool (rightE 20 .var))) := .code codeRul_ok rfl (by kernel_rfl)
theorem rightP21 : RunsIs CA10 24 rightF 14 (rightA 21) (.tc (.sy .bool (rightE 21 .var))) := .code codeRul_ok rfl (by kernel_rfl)
theorem rightP22 : RunsIs CA10 24 rightF 14 (rightA 22) (.tc (.sy .bool (rightE 22 .var))) := .code codeRul_ok rfl (by kernel_rfl)
theorem rightP23 : RunsIs CA10 24 rightF 14 (rightA 23) (.tc (.sy .bool (rightE 23 .var))) := .code codeRul_ok rfl (by kernel_rfl)
end Go.Proofs.Ytamhmfdbnlkmkaa
