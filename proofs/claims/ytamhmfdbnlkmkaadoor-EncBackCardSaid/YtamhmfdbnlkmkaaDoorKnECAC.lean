/- What words say: some runs. -/
import Derived.Test.YtamhmfdbnlkmkaaDoorKnEC0
set_option linter.unusedVariables false
set_option linter.unusedSimpArgs false
set_option maxRecDepth 100000
namespace Go.Proofs.YtamhmfdbnlkmkaaDoor
open Go Go.RowKit

theorem ebA_run1t : RunsCh (CV06 (ebF)) 24 (ebF) 6 (ebA 1 true) (kA true (ebT 1 true) (ebW 1 true)) := .code codeEnc_ok rfl (by kernel_rfl)
theorem ebA_run4t : RunsCh (CV06 (ebF)) 24 (ebF) 6 (ebA 4 true) (kA true (ebT 4 true) (ebW 4 true)) := .code codeEnc_ok rfl (by kernel_rfl)
theorem ebA_run7t : RunsCh (CV06 (ebF)) 24 (ebF) 6 (ebA 7 true) (kA true (ebT 7 true) (ebW 7 true)) := .code codeEnc_ok rfl (by kernel_rfl)
theorem ebA_run10t : RunsCh (CV06 (ebF)) 24 (ebF) 6 (ebA 10 true) (kA true (ebT 10 true) (ebW 10 true)) := .code codeEnc_ok rfl (by kernel_rfl)
theorem ebA_run13t : RunsCh (CV06 (ebF)) 24 (ebF) 6 (ebA 13 true) (kA true (ebT 13 true) (ebW 13 true)) := .code codeEnc_ok rfl (by kernel_rfl)
theorem ebA_run16t : RunsCh (CV06 (ebF)) 24 (ebF) 6 (ebA 16 true) (kA true (ebT 16 true) (ebW 16 true)) := .code codeEnc_ok rfl (by kernel_rfl)
theorem ebA_run19t : RunsCh (CV06 (ebF)) 24 (ebF) 6 (ebA 19 true) (kA true (ebT 19 true) (ebW 19 true)) := .code codeEnc_ok rfl (by kernel_rfl)
theorem ebA_run22t : RunsCh (CV06 (ebF)) 24 (ebF) 6 (ebA 22 true) (kA true (ebT 22 true) (ebW 22 true)) := .code codeEnc_ok rfl (by kernel_rfl)
theorem ebA_run26f : RunsCh (CV06 (ebF)) 24 (ebF) 6 (ebA 26 false) (kA false (ebT 26 false) (ebW 26 false)) := .code codeEnc_ok rfl (by kernel_rfl)
theorem ebA_run32f : RunsCh (CV06 (ebF)) 24 (ebF) 6 (ebA 32 false) (kA false (ebT 32 false) (ebW 32 false)) := .code codeEnc_ok rfl (by kernel_rfl)
theorem ebA_run35f : RunsCh (CV06 (ebF)) 24 (ebF) 6 (ebA 35 false) (kA false (ebT 35 false) (ebW 35 false)) := .code codeEnc_ok rfl (by kernel_rfl)
theorem ebA_run38f : RunsCh (CV06 (ebF)) 24 (ebF) 6 (ebA 38 false) (kA false (ebT 38 false) (ebW 38 false)) := .code codeEnc_ok rfl (by kernel_rfl)
theorem ebA_run41f : RunsCh (CV06 (ebF)) 24 (ebF) 6 (ebA 41 false) (kA false (ebT 41 false) (ebW 41 false)) := .code codeEnc_ok rfl (by kernel_rfl)
theorem ebA_run44f : RunsCh (CV06 (ebF)) 24 (ebF) 6 (ebA 44 false) (kA false (ebT 44 false) (ebW 44 false)) := .code codeEnc_ok rfl (by kernel_rfl)
theorem ebA_run47f : RunsCh (CV06 (ebF)) 24 (ebF) 6 (ebA 47 false) (kA false (ebT 47 false) (ebW 47 false)) := .code codeEnc_ok rfl (by kernel_rfl)
theorem ebA_run50f : RunsCh (CV06 (ebF)) 24 (ebF) 6 (ebA 50 false) (kA false (ebT 50 false) (ebW 50 false)) := .code codeEnc_ok rfl (by kernel_rfl)
theorem ebA_run53f : RunsCh (CV06 (ebF)) 24 (ebF) 6 (ebA 53 false) (kA false (ebT 53 false) (ebW 53 false)) := .code codeEnc_ok rfl (by kernel_rfl)
theorem ebA_run56f : RunsCh (CV06 (ebF)) 24 (ebF) 6 (ebA 56 false) (kA false (ebT 56 false) (ebW 56 false)) := .code codeEnc_ok rfl (by kernel_rfl)
theorem ebA_run59f : RunsCh (CV06 (ebF)) 24 (ebF) 6 (ebA 59 false) (kA false (ebT 59 false) (ebW 59 false)) := .code codeEnc_ok rfl (by kernel_rfl)
theorem ebA_run62f : RunsCh (CV06 (ebF)) 24 (ebF) 6 (ebA 62 false) (kA false (ebT 62 false) (ebW 62 false)) := .code codeEnc_ok rfl (by kernel_rfl)
end Go.Proofs.YtamhmfdbnlkmkaaDoor
