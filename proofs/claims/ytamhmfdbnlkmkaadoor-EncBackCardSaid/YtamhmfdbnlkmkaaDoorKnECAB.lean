/- What words say: some runs. -/
import Derived.Test.YtamhmfdbnlkmkaaDoorKnEC0
set_option linter.unusedVariables false
set_option linter.unusedSimpArgs false
set_option maxRecDepth 100000
namespace Go.Proofs.YtamhmfdbnlkmkaaDoor
open Go Go.RowKit

theorem ebA_run0f : RunsCh (CV06 (ebF)) 24 (ebF) 6 (ebA 0 false) (kA false (ebT 0 false) (ebW 0 false)) := .code codeEnc_ok rfl (by kernel_rfl)
theorem ebA_run3f : RunsCh (CV06 (ebF)) 24 (ebF) 6 (ebA 3 false) (kA false (ebT 3 false) (ebW 3 false)) := .code codeEnc_ok rfl (by kernel_rfl)
theorem ebA_run6f : RunsCh (CV06 (ebF)) 24 (ebF) 6 (ebA 6 false) (kA false (ebT 6 false) (ebW 6 false)) := .code codeEnc_ok rfl (by kernel_rfl)
theorem ebA_run9f : RunsCh (CV06 (ebF)) 24 (ebF) 6 (ebA 9 false) (kA false (ebT 9 false) (ebW 9 false)) := .code codeEnc_ok rfl (by kernel_rfl)
theorem ebA_run12f : RunsCh (CV06 (ebF)) 24 (ebF) 6 (ebA 12 false) (kA false (ebT 12 false) (ebW 12 false)) := .code codeEnc_ok rfl (by kernel_rfl)
theorem ebA_run15f : RunsCh (CV06 (ebF)) 24 (ebF) 6 (ebA 15 false) (kA false (ebT 15 false) (ebW 15 false)) := .code codeEnc_ok rfl (by kernel_rfl)
theorem ebA_run18f : RunsCh (CV06 (ebF)) 24 (ebF) 6 (ebA 18 false) (kA false (ebT 18 false) (ebW 18 false)) := .code codeEnc_ok rfl (by kernel_rfl)
theorem ebA_run21f : RunsCh (CV06 (ebF)) 24 (ebF) 6 (ebA 21 false) (kA false (ebT 21 false) (ebW 21 false)) := .code codeEnc_ok rfl (by kernel_rfl)
theorem ebA_run25f : RunsCh (CV06 (ebF)) 24 (ebF) 6 (ebA 25 false) (kA false (ebT 25 false) (ebW 25 false)) := .code codeEnc_ok rfl (by kernel_rfl)
theorem ebA_run32t : RunsCh (CV06 (ebF)) 24 (ebF) 6 (ebA 32 true) (kA true (ebT 32 true) (ebW 32 true)) := .code codeEnc_ok rfl (by kernel_rfl)
theorem ebA_run35t : RunsCh (CV06 (ebF)) 24 (ebF) 6 (ebA 35 true) (kA true (ebT 35 true) (ebW 35 true)) := .code codeEnc_ok rfl (by kernel_rfl)
theorem ebA_run38t : RunsCh (CV06 (ebF)) 24 (ebF) 6 (ebA 38 true) (kA true (ebT 38 true) (ebW 38 true)) := .code codeEnc_ok rfl (by kernel_rfl)
theorem ebA_run41t : RunsCh (CV06 (ebF)) 24 (ebF) 6 (ebA 41 true) (kA true (ebT 41 true) (ebW 41 true)) := .code codeEnc_ok rfl (by kernel_rfl)
theorem ebA_run44t : RunsCh (CV06 (ebF)) 24 (ebF) 6 (ebA 44 true) (kA true (ebT 44 true) (ebW 44 true)) := .code codeEnc_ok rfl (by kernel_rfl)
theorem ebA_run47t : RunsCh (CV06 (ebF)) 24 (ebF) 6 (ebA 47 true) (kA true (ebT 47 true) (ebW 47 true)) := .code codeEnc_ok rfl (by kernel_rfl)
theorem ebA_run50t : RunsCh (CV06 (ebF)) 24 (ebF) 6 (ebA 50 true) (kA true (ebT 50 true) (ebW 50 true)) := .code codeEnc_ok rfl (by kernel_rfl)
theorem ebA_run53t : RunsCh (CV06 (ebF)) 24 (ebF) 6 (ebA 53 true) (kA true (ebT 53 true) (ebW 53 true)) := .code codeEnc_ok rfl (by kernel_rfl)
theorem ebA_run56t : RunsCh (CV06 (ebF)) 24 (ebF) 6 (ebA 56 true) (kA true (ebT 56 true) (ebW 56 true)) := .code codeEnc_ok rfl (by kernel_rfl)
theorem ebA_run59t : RunsCh (CV06 (ebF)) 24 (ebF) 6 (ebA 59 true) (kA true (ebT 59 true) (ebW 59 true)) := .code codeEnc_ok rfl (by kernel_rfl)
theorem ebA_run62t : RunsCh (CV06 (ebF)) 24 (ebF) 6 (ebA 62 true) (kA true (ebT 62 true) (ebW 62 true)) := .code codeEnc_ok rfl (by kernel_rfl)
end Go.Proofs.YtamhmfdbnlkmkaaDoor
