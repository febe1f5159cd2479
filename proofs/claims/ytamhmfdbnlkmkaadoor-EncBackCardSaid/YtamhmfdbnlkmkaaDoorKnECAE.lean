/- What words say: some runs. -/
import Derived.Test.YtamhmfdbnlkmkaaDoorKnEC0
set_option linter.unusedVariables false
set_option linter.unusedSimpArgs false
set_option maxRecDepth 100000
namespace Go.Proofs.YtamhmfdbnlkmkaaDoor
open Go Go.RowKit

theorem ebA_run2t : RunsCh (CV06 (ebF)) 24 (ebF) 6 (ebA 2 true) (kA true (ebT 2 true) (ebW 2 true)) := .code codeEnc_ok rfl (by kernel_rfl)
theorem ebA_run5t : RunsCh (CV06 (ebF)) 24 (ebF) 6 (ebA 5 true) (kA true (ebT 5 true) (ebW 5 true)) := .code codeEnc_ok rfl (by kernel_rfl)
theorem ebA_run8t : RunsCh (CV06 (ebF)) 24 (ebF) 6 (ebA 8 true) (kA true (ebT 8 true) (ebW 8 true)) := .code codeEnc_ok rfl (by kernel_rfl)
theorem ebA_run11t : RunsCh (CV06 (ebF)) 24 (ebF) 6 (ebA 11 true) (kA true (ebT 11 true) (ebW 11 true)) := .code codeEnc_ok rfl (by kernel_rfl)
theorem ebA_run14t : RunsCh (CV06 (ebF)) 24 (ebF) 6 (ebA 14 true) (kA true (ebT 14 true) (ebW 14 true)) := .code codeEnc_ok rfl (by kernel_rfl)
theorem ebA_run17t : RunsCh (CV06 (ebF)) 24 (ebF) 6 (ebA 17 true) (kA true (ebT 17 true) (ebW 17 true)) := .code codeEnc_ok rfl (by kernel_rfl)
theorem ebA_run20t : RunsCh (CV06 (ebF)) 24 (ebF) 6 (ebA 20 true) (kA true (ebT 20 true) (ebW 20 true)) := .code codeEnc_ok rfl (by kernel_rfl)
theorem ebA_run23t : RunsCh (CV06 (ebF)) 24 (ebF) 6 (ebA 23 true) (kA true (ebT 23 true) (ebW 23 true)) := .code codeEnc_ok rfl (by kernel_rfl)
theorem ebA_run28f : RunsCh (CV06 (ebF)) 24 (ebF) 6 (ebA 28 false) (kA false (ebT 28 false) (ebW 28 false)) := .code codeEnc_ok rfl (by kernel_rfl)
theorem ebA_run33f : RunsCh (CV06 (ebF)) 24 (ebF) 6 (ebA 33 false) (kA false (ebT 33 false) (ebW 33 false)) := .code codeEnc_ok rfl (by kernel_rfl)
theorem ebA_run36f : RunsCh (CV06 (ebF)) 24 (ebF) 6 (ebA 36 false) (kA false (ebT 36 false) (ebW 36 false)) := .code codeEnc_ok rfl (by kernel_rfl)
theorem ebA_run39f : RunsCh (CV06 (ebF)) 24 (ebF) 6 (ebA 39 false) (kA false (ebT 39 false) (ebW 39 false)) := .code codeEnc_ok rfl (by kernel_rfl)
theorem ebA_run42f : RunsCh (CV06 (ebF)) 24 (ebF) 6 (ebA 42 false) (kA false (ebT 42 false) (ebW 42 false)) := .code codeEnc_ok rfl (by kernel_rfl)
theorem ebA_run45f : RunsCh (CV06 (ebF)) 24 (ebF) 6 (ebA 45 false) (kA false (ebT 45 false) (ebW 45 false)) := .code codeEnc_ok rfl (by kernel_rfl)
theorem ebA_run48f : RunsCh (CV06 (ebF)) 24 (ebF) 6 (ebA 48 false) (kA false (ebT 48 false) (ebW 48 false)) := .code codeEnc_ok rfl (by kernel_rfl)
theorem ebA_run51f : RunsCh (CV06 (ebF)) 24 (ebF) 6 (ebA 51 false) (kA false (ebT 51 false) (ebW 51 false)) := .code codeEnc_ok rfl (by kernel_rfl)
theorem ebA_run54f : RunsCh (CV06 (ebF)) 24 (ebF) 6 (ebA 54 false) (kA false (ebT 54 false) (ebW 54 false)) := .code codeEnc_ok rfl (by kernel_rfl)
theorem ebA_run57f : RunsCh (CV06 (ebF)) 24 (ebF) 6 (ebA 57 false) (kA false (ebT 57 false) (ebW 57 false)) := .code codeEnc_ok rfl (by kernel_rfl)
theorem ebA_run60f : RunsCh (CV06 (ebF)) 24 (ebF) 6 (ebA 60 false) (kA false (ebT 60 false) (ebW 60 false)) := .code codeEnc_ok rfl (by kernel_rfl)
theorem ebA_run63f : RunsCh (CV06 (ebF)) 24 (ebF) 6 (ebA 63 false) (kA false (ebT 63 false) (ebW 63 false)) := .code codeEnc_ok rfl (by kernel_rfl)
end Go.Proofs.YtamhmfdbnlkmkaaDoor
