/- When an instruction may be: some runs. -/
import Derived.Test.YtamhmfdbnlkmkaaKnR100
set_option linter.unusedVariables false
set_option maxRecDepth 100000
namespace Go.Proofs.Ytamhmfdbnlkmkaa
open Go Go.RowKit

theorem rightP24 : RunsIs CA10 24 rightF 14 (rightA 24) (.tc (.sy .bool (rightE 24 .var))) := .code codeRul_ok rfl (by kernel_rfl)
theorem rightP25 : RunsIs CA10 24 rightF 14 (rightA 25) (.tc (.sy .bool (rightE 25 .var))) := .code codeRul_ok rfl (by kernel_rfl)
theorem rightP26 : RunsIs CA10 24 rightF 14 (rightA 26) (.tc (.sy .bool (rightE 26 .var))) := .code codeRul_ok rfl (by kernel_rfl)
theorem rightP27 : RunsIs CA10 24 rightF 14 (rightA 27) (.tc (.sy .bool (rightE 27 .var))) := .code codeRul_ok rfl (by kernel_rfl)
theorem rightP28 : RunsIs CA10 24 rightF 14 (rightA 28) (.tc (.sy .bool (rightE 28 .var))) := .code codeRul_ok rfl (by kernel_rfl)
theorem rightP29 : RunsIs CA10 24 rightF 14 (rightA 29) (.tc (.sy .bool (rightE 29 .var))) := .code codeRul_ok rfl (by kernel_rfl)
theorem rightP30 : RunsIs CA10 24 rightF 14 (rightA 30) (.tc (.sy .bool (rightE 30 .var))) := .code codeRul_ok rfl (by kernel_rfl)
theorem rightP31 : RunsIs CA10 24 rightF 14 (rightA 31) (.tc (.sy .bool (rightE 31 .var))) := .code codeRul_ok rfl (by kernel_rfl)
theorem rightQ1 : RunsIs CA10 24 rightF 51 (rightA 1) (.tc (.sy .bool (rightE 1 .var))) := .code codeRul_ok rfl (by kernel_rfl)
theorem rightQ2 : RunsIs CA10 24 rightF 51 (rightA 2) (.tc (.sy .bool (rightE 2 .var))) := .code codeRul_ok rfl (by kernel_rfl)
theorem rightQ3 : RunsIs CA10 24 rightF 51 (rightA 3) (.tc (.sy .bool (rightE 3 .var))) := .code codeRul_ok rfl (by kernel_rfl)
theorem rightQ4 : RunsIs CA10 24 rightF 51 (rightA 4) (.tc (.sy .bool (rightE 4 .var))) := .code codeRul_ok rfl (by kernel_rfl)
theorem rightQ5 : RunsIs CA10 24 rightF 51 (rightA 5) (.tc (.sy .bool (rightE 5 .var))) := .code codeRul_ok rfl (by kernel_rfl)
theorem rightQ6 : RunsIs CA10 24 rightF 51 (rightA 6) (.tc (.sy .bool (rightE 6 .var))) := .code codeRul_ok rfl (by kernel_rfl)
theorem rightQ7 : RunsIs CA10 24 rightF 51 (rightA 7) (.tc (.sy .bool (rightE 7 .var))) := .code codeRul_ok rfl (by kernel_rfl)
theorem rightQ8 : RunsIs CA10 24 rightF 51 (rightA 8) (.tc (.sy .bool (rightE 8 .var))) := .code codeRul_ok rfl (by kernel_rfl)
theorem rightQ9 : RunsIs CA10 24 rightF 51 (rightA 9) (.tc (.sy .bool (rightE 9 .var))) := .code codeRul_ok rfl (by kernel_rfl)
theorem rightQ10 : RunsIs CA10 24 rightF 51 (rightA 10) (.tc (.sy .bool (rightE 10 .var))) := .code codeRul_ok rfl (by kernel_rfl)
theorem rightQ11 : RunsIs CA10 24 rightF 51 (rightA 11) (.tc (.sy .bool (rightE 11 .var))) := .code codeRul_ok rfl (by kernel_rfl)
theorem rightQ12 : RunsIs CA10 24 rightF 51 (rightA 12) (.tc (.sy .bool (rightE 12 .var))) := .code codeRul_ok rfl (by kernel_rfl)
theorem rightQ13 : RunsIs CA10 24 rightF 51 (rightA 13) (.tc (.sy .bool (rightE 13 .var))) := .code codeRul_ok rfl (by kernel_rfl)
theorem rightQ14 : RunsIs CA10 24 rightF 51 (rightA 14) (.tc (.sy .bool (rightE 14 .var))) := .code codeRul_ok rfl (by kernel_rfl)
theorem rightQ15 : RunsIs CA10 24 rightF 51 (rightA 15) (.tc (.sy .bool (rightE 15 .var))) := .code codeRul_ok rfl (by kernel_rfl)
end Go.Proofs.Ytamhmfdbnlkmkaa
