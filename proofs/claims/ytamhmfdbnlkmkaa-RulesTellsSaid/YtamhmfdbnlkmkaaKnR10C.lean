/- When an instruction may be: some runs. -/
import Derived.Test.YtamhmfdbnlkmkaaKnR100
set_option linter.unusedVariables false
set_option maxRecDepth 100000
namespace Go.Proofs.Ytamhmfdbnlkmkaa
open Go Go.RowKit

theorem rightQ16 : RunsIs CA10 24 rightF 51 (rightA 16) (.tc (.sy .bool (rightE 16 .var))) := .code codeRul_ok rfl (by kernel_rfl)
theorem rightQ17 : RunsIs CA10 24 rightF 51 (rightA 17) (.tc (.sy .bool (rightE 17 .var))) := .code codeRul_ok rfl (by kernel_rfl)
theorem rightQ18 : RunsIs CA10 24 rightF 51 (rightA 18) (.tc (.sy .bool (rightE 18 .var))) := .code codeRul_ok rfl (by kernel_rfl)
theorem rightQ19 : RunsIs CA10 24 rightF 51 (rightA 19) (.tc (.sy .bool (rightE 19 .var))) := .code codeRul_ok rfl (by kernel_rfl)
theorem rightQ20 : RunsIs CA10 24 rightF 51 (rightA 20) (.tc (.sy .bool (rightE 20 .var))) := .code codeRul_ok rfl (by kernel_rfl)
theorem rightQ21_0 : RunsIs CA10 24 rightG 51 (rightB 21 0) (.tc (.sy .bool (rightE 21 (immX 0)))) := .code codeRul_ok rfl (by kernel_rfl)
theorem rightQ21_1 : RunsIs CA10 24 rightG 51 (rightB 21 1) (.tc (.sy .bool (rightE 21 (immX 1)))) := .code codeRul_ok rfl (by kernel_rfl)
theorem rightQ21_2 : RunsIs CA10 24 rightG 51 (rightB 21 2) (.tc (.sy .bool (rightE 21 (immX 2)))) := .code codeRul_ok rfl (by kernel_rfl)
theorem rightQ21_3 : RunsIs CA10 24 rightG 51 (rightB 21 3) (.tc (.sy .bool (rightE 21 (immX 3)))) := .code codeRul_ok rfl (by kernel_rfl)
theorem rightQ22 : RunsIs CA10 24 rightF 51 (rightA 22) (.tc (.sy .bool (rightE 22 .var))) := .code codeRul_ok rfl (by kernel_rfl)
theorem rightQ23 : RunsIs CA10 24 rightF 51 (rightA 23) (.tc (.sy .bool (rightE 23 .var))) := .code codeRul_ok rfl (by kernel_rfl)
theorem rightQ24_0 : RunsIs CA10 24 rightG 51 (rightB 24 0) (.tc (.sy .bool (rightE 24 (immX 0)))) := .code codeRul_ok rfl (by kernel_rfl)
theorem rightQ24_1 : RunsIs CA10 24 rightG 51 (rightB 24 1) (.tc (.sy .bool (rightE 24 (immX 1)))) := .code codeRul_ok rfl (by kernel_rfl)
theorem rightQ24_2 : RunsIs CA10 24 rightG 51 (rightB 24 2) (.tc (.sy .bool (rightE 24 (immX 2)))) := .code codeRul_ok rfl (by kernel_rfl)
theorem rightQ24_3 : RunsIs CA10 24 rightG 51 (rightB 24 3) (.tc (.sy .bool (rightE 24 (immX 3)))) := .code codeRul_ok rfl (by kernel_rfl)
theorem rightQ25 : RunsIs CA10 24 rightF 51 (rightA 25) (.tc (.sy .bool (rightE 25 .var))) := .code codeRul_ok rfl (by kernel_rfl)
theorem rightQ26 : RunsIs CA10 24 rightF 51 (rightA 26) (.tc (.sy .bool (rightE 26 .var))) := .code codeRul_ok rfl (by kernel_rfl)
theorem rightQ27 : RunsIs CA10 24 rightF 51 (rightA 27) (.tc (.sy .bool (rightE 27 .var))) := .code codeRul_ok rfl (by kernel_rfl)
theorem rightQ28 : RunsIs CA10 24 rightF 51 (rightA 28) (.tc (.sy .bool (rightE 28 .var))) := .code codeRul_ok rfl (by kernel_rfl)
theorem rightQ29 : RunsIs CA10 24 rightF 51 (rightA 29) (.tc (.sy .bool (rightE 29 .var))) := .code codeRul_ok rfl (by kernel_rfl)
theorem rightQ30 : RunsIs CA10 24 rightF 51 (rightA 30) (.tc (.sy .bool (rightE 30 .var))) := .code codeRul_ok rfl (by kernel_rfl)
theorem rightQ31 : RunsIs CA10 24 rightF 51 (rightA 31) (.tc (.sy .bool (rightE 31 .var))) := .code codeRul_ok rfl (by kernel_rfl)
end Go.Proofs.Ytamhmfdbnlkmkaa
