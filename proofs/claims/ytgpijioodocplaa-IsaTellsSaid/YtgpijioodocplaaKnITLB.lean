/- The law IsaTells: lines. -/
import Derived.Test.YtgpijioodocplaaKnIT0
set_option linter.unusedVariables false
set_option linter.unusedSimpArgs false
set_option maxRecDepth 100000
namespace Go.Proofs.Ytgpijioodocplaa
open Go Go.RowKit

theorem line_run1 : RunIs CA03 24 [] 34 [i64v 1] (.leaf line1) := .code codeIsa_ok rfl (by kernel_rfl)
theorem line_run3 : RunIs CA03 24 [] 34 [i64v 3] (.leaf line3) := .code codeIsa_ok rfl (by kernel_rfl)
theorem line_run5 : RunIs CA03 24 [] 34 [i64v 5] (.leaf line5) := .code codeIsa_ok rfl (by kernel_rfl)
theorem line_run7 : RunIs CA03 24 [] 34 [i64v 7] (.leaf line7) := .code codeIsa_ok rfl (by kernel_rfl)
theorem line_run9 : RunIs CA03 24 [] 34 [i64v 9] (.leaf line9) := .code codeIsa_ok rfl (by kernel_rfl)
theorem line_run11 : RunIs CA03 24 [] 34 [i64v 11] (.leaf line11) := .code codeIsa_ok rfl (by kernel_rfl)
theorem line_run13 : RunIs CA03 24 [] 34 [i64v 13] (.leaf line13) := .code codeIsa_ok rfl (by kernel_rfl)
theorem line_run15 : RunIs CA03 24 [] 34 [i64v 15] (.leaf line15) := .code codeIsa_ok rfl (by kernel_rfl)
theorem line_run17 : RunIs CA03 24 [] 34 [i64v 17] (.leaf line17) := .code codeIsa_ok rfl (by kernel_rfl)
theorem line_run19 : RunIs CA03 24 [] 34 [i64v 19] (.leaf line19) := .code codeIsa_ok rfl (by kernel_rfl)
theorem line_run21 : RunIs CA03 24 [] 34 [i64v 21] (.leaf line21) := .code codeIsa_ok rfl (by kernel_rfl)
theorem line_run23 : RunIs CA03 24 [] 34 [i64v 23] (.leaf line23) := .code codeIsa_ok rfl (by kernel_rfl)
theorem line_run25 : RunIs CA03 24 [] 34 [i64v 25] (.leaf line25) := .code codeIsa_ok rfl (by kernel_rfl)
theorem line_run27 : RunIs CA03 24 [] 34 [i64v 27] (.leaf line27) := .code codeIsa_ok rfl (by kernel_rfl)
theorem line_run29 : RunIs CA03 24 [] 34 [i64v 29] (.leaf line29) := .code codeIsa_ok rfl (by kernel_rfl)
theorem line_run31 : RunIs CA03 24 [] 34 [i64v 31] (.leaf line31) := .code codeIsa_ok rfl (by kernel_rfl)
end Go.Proofs.Ytgpijioodocplaa
