/- The law IsaTells: lines. -/
import Derived.Test.YtgpijioodocplaaKnIT0
set_option linter.unusedVariables false
set_option linter.unusedSimpArgs false
set_option maxRecDepth 100000
namespace Go.Proofs.Ytgpijioodocplaa
open Go Go.RowKit

theorem line_run0 : RunIs CA03 24 [] 34 [i64v 0] (.leaf line0) := .code codeIsa_ok rfl (by kernel_rfl)
theorem line_run2 : RunIs CA03 24 [] 34 [i64v 2] (.leaf line2) := .code codeIsa_ok rfl (by kernel_rfl)
theorem line_run4 : RunIs CA03 24 [] 34 [i64v 4] (.leaf line4) := .code codeIsa_ok rfl (by kernel_rfl)
theorem line_run6 : RunIs CA03 24 [] 34 [i64v 6] (.leaf line6) := .code codeIsa_ok rfl (by kernel_rfl)
theorem line_run8 : RunIs CA03 24 [] 34 [i64v 8] (.leaf line8) := .code codeIsa_ok rfl (by kernel_rfl)
theorem line_run10 : RunIs CA03 24 [] 34 [i64v 10] (.leaf line10) := .code codeIsa_ok rfl (by kernel_rfl)
theorem line_run12 : RunIs CA03 24 [] 34 [i64v 12] (.leaf line12) := .code codeIsa_ok rfl (by kernel_rfl)
theorem line_run14 : RunIs CA03 24 [] 34 [i64v 14] (.leaf line14) := .code codeIsa_ok rfl (by kernel_rfl)
theorem line_run16 : RunIs CA03 24 [] 34 [i64v 16] (.leaf line16) := .code codeIsa_ok rfl (by kernel_rfl)
theorem line_run18 : RunIs CA03 24 [] 34 [i64v 18] (.leaf line18) := .code codeIsa_ok rfl (by kernel_rfl)
theorem line_run20 : RunIs CA03 24 [] 34 [i64v 20] (.leaf line20) := .code codeIsa_ok rfl (by kernel_rfl)
theorem line_run22 : RunIs CA03 24 [] 34 [i64v 22] (.leaf line22) := .code codeIsa_ok rfl (by kernel_rfl)
theorem line_run24 : RunIs CA03 24 [] 34 [i64v 24] (.leaf line24) := .code codeIsa_ok rfl (by kernel_rfl)
theorem line_run26 : RunIs CA03 24 [] 34 [i64v 26] (.leaf line26) := .code codeIsa_ok rfl (by kernel_rfl)
theorem line_run28 : RunIs CA03 24 [] 34 [i64v 28] (.leaf line28) := .code codeIsa_ok rfl (by kernel_rfl)
theorem line_run30 : RunIs CA03 24 [] 34 [i64v 30] (.leaf line30) := .code codeIsa_ok rfl (by kernel_rfl)
end Go.Proofs.Ytgpijioodocplaa
