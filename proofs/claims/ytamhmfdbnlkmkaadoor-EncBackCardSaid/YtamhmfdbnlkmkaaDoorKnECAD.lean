/- What words say: some runs. -/
import Derived.Test.YtamhmfdbnlkmkaaDoorKnEC0
set_option linter.unusedVariables false
set_option linter.unusedSimpArgs false
set_option maxRecDepth 100000
namespace Go.Proofs.YtamhmfdbnlkmkaaDoor
open Go Go.RowKit

theorem ebA_run1f : RunsCh (CV06 (ebF)) 24 (ebF) 6 (ebA 1 false) (kA false (ebT 1 false) (ebW 1 false)) := .code codeEnc_ok rfl (by kernel_rfl)
theorem ebA_run4f : RunsCh (CV06 (ebF)) 24 (ebF) 6 (ebA 4 false) (kA false (ebT 4 false) (ebW 4 false)) := .code codeEnc_ok rfl (by kernel_rfl)
theorem ebA_run7f : RunsCh (CV06 (ebF)) 24 (ebF) 6 (ebA 7 false) (kA false (ebT 7 false) (ebW 7 false)) := .code codeEnc_ok rfl (by kernel_rfl)
theorem ebA_run10f : RunsCh (CV06 (ebF)) 24 (ebF) 6 (ebA 10 false) (kA false (ebT 10 false) (ebW 10 false)) := .code codeEnc_ok rfl (by kernel_rfl)
theorem ebA_run13f : RunsCh (CV06 (ebF)) 24 (ebF) 6 (ebA 13 false) (kA false (ebT 13 false) (ebW 13 false)) := .code codeEnc_ok rfl (by kernel_rfl)
theorem ebA_run16f : RunsCh (CV06 (ebF)) 24 (ebF) 6 (ebA 16 false) (kA false (ebT 16 false) (ebW 16 false)) := .code codeEnc_ok rfl (by kernel_rfl)
theorem ebA_run19f : RunsCh (CV06 (ebF)) 24 (ebF) 6 (ebA 19 false) (kA false (ebT 19 false) (ebW 19 false)) := .code codeEnc_ok rfl (by kernel_rfl)
theorem ebA_run22f : RunsCh (CV06 (ebF)) 24 (ebF) 6 (ebA 22 false) (kA false (ebT 22 false) (ebW 22 false)) := .code codeEnc_ok rfl (by kernel_rfl)
theorem ebA_run28t : RunsCh (CV06 (ebF)) 24 (ebF) 6 (ebA 28 true) (kA true (ebT 28 true) (ebW 28 true)) := .code codeEnc_ok rfl (by kernel_rfl)
theorem ebA_run33t : RunsCh (CV06 (ebF)) 24 (ebF) 6 (ebA 33 true) (kA true (ebT 33 true) (ebW 33 true)) := .code codeEnc_ok rfl (by kernel_rfl)
theorem ebA_run36t : RunsCh (CV06 (ebF)) 24 (ebF) 6 (ebA 36 true) (kA true (ebT 36 true) (ebW 36 true)) := .code codeEnc_ok rfl (by kernel_rfl)
theorem ebA_run39t : RunsCh (CV06 (ebF)) 24 (ebF) 6 (ebA 39 true) (kA true (ebT 39 true) (ebW 39 true)) := .code codeEnc_ok rfl (by kernel_rfl)
theorem ebA_run42t : RunsCh (CV06 (ebF)) 24 (ebF) 6 (ebA 42 true) (kA true (ebT 42 true) (ebW 42 true)) := .code codeEnc_ok rfl (by kernel_rfl)
theorem ebA_run45t : RunsCh (CV06 (ebF)) 24 (ebF) 6 (ebA 45 true) (kA true (ebT 45 true) (ebW 45 true)) := .code codeEnc_ok rfl (by kernel_rfl)
theorem ebA_run48t : RunsCh (CV06 (ebF)) 24 (ebF) 6 (ebA 48 true) (kA true (ebT 48 true) (ebW 48 true)) := .code codeEnc_ok rfl (by kernel_rfl)
theorem ebA_run51t : RunsCh (CV06 (ebF)) 24 (ebF) 6 (ebA 51 true) (kA true (ebT 51 true) (ebW 51 true)) := .code codeEnc_ok rfl (by kernel_rfl)
theorem ebA_run54t : RunsCh (CV06 (ebF)) 24 (ebF) 6 (ebA 54 true) (kA true (ebT 54 true) (ebW 54 true)) := .code codeEnc_ok rfl (by kernel_rfl)
theorem ebA_run57t : RunsCh (CV06 (ebF)) 24 (ebF) 6 (ebA 57 true) (kA true (ebT 57 true) (ebW 57 true)) := .code codeEnc_ok rfl (by kernel_rfl)
theorem ebA_run60t : RunsCh (CV06 (ebF)) 24 (ebF) 6 (ebA 60 true) (kA true (ebT 60 true) (ebW 60 true)) := .code codeEnc_ok rfl (by kernel_rfl)
theorem ebA_run63t : RunsCh (CV06 (ebF)) 24 (ebF) 6 (ebA 63 true) (kA true (ebT 63 true) (ebW 63 true)) := .code codeEnc_ok rfl (by kernel_rfl)
end Go.Proofs.YtamhmfdbnlkmkaaDoor
