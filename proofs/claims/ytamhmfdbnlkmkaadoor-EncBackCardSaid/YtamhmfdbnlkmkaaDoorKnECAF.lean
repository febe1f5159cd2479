/- What words say: some runs. -/
import Derived.Test.YtamhmfdbnlkmkaaDoorKnEC0
set_option linter.unusedVariables false
set_option linter.unusedSimpArgs false
set_option maxRecDepth 100000
namespace Go.Proofs.YtamhmfdbnlkmkaaDoor
open Go Go.RowKit

theorem ebA_run2f : RunsCh (CV06 (ebF)) 24 (ebF) 6 (ebA 2 false) (kA false (ebT 2 false) (ebW 2 false)) := .code codeEnc_ok rfl (by kernel_rfl)
theorem ebA_run5f : RunsCh (CV06 (ebF)) 24 (ebF) 6 (ebA 5 false) (kA false (ebT 5 false) (ebW 5 false)) := .code codeEnc_ok rfl (by kernel_rfl)
theorem ebA_run8f : RunsCh (CV06 (ebF)) 24 (ebF) 6 (ebA 8 false) (kA false (ebT 8 false) (ebW 8 false)) := .code codeEnc_ok rfl (by kernel_rfl)
theorem ebA_run11f : RunsCh (CV06 (ebF)) 24 (ebF) 6 (ebA 11 false) (kA false (ebT 11 false) (ebW 11 false)) := .code codeEnc_ok rfl (by kernel_rfl)
theorem ebA_run14f : RunsCh (CV06 (ebF)) 24 (ebF) 6 (ebA 14 false) (kA false (ebT 14 false) (ebW 14 false)) := .code codeEnc_ok rfl (by kernel_rfl)
theorem ebA_run17f : RunsCh (CV06 (ebF)) 24 (ebF) 6 (ebA 17 false) (kA false (ebT 17 false) (ebW 17 false)) := .code codeEnc_ok rfl (by kernel_rfl)
theorem ebA_run20f : RunsCh (CV06 (ebF)) 24 (ebF) 6 (ebA 20 false) (kA false (ebT 20 false) (ebW 20 false)) := .code codeEnc_ok rfl (by kernel_rfl)
theorem ebA_run23f : RunsCh (CV06 (ebF)) 24 (ebF) 6 (ebA 23 false) (kA false (ebT 23 false) (ebW 23 false)) := .code codeEnc_ok rfl (by kernel_rfl)
theorem ebA_run29t : RunsCh (CV06 (ebF)) 24 (ebF) 6 (ebA 29 true) (kA true (ebT 29 true) (ebW 29 true)) := .code codeEnc_ok rfl (by kernel_rfl)
theorem ebA_run34t : RunsCh (CV06 (ebF)) 24 (ebF) 6 (ebA 34 true) (kA true (ebT 34 true) (ebW 34 true)) := .code codeEnc_ok rfl (by kernel_rfl)
theorem ebA_run37t : RunsCh (CV06 (ebF)) 24 (ebF) 6 (ebA 37 true) (kA true (ebT 37 true) (ebW 37 true)) := .code codeEnc_ok rfl (by kernel_rfl)
theorem ebA_run40t : RunsCh (CV06 (ebF)) 24 (ebF) 6 (ebA 40 true) (kA true (ebT 40 true) (ebW 40 true)) := .code codeEnc_ok rfl (by kernel_rfl)
theorem ebA_run43t : RunsCh (CV06 (ebF)) 24 (ebF) 6 (ebA 43 true) (kA true (ebT 43 true) (ebW 43 true)) := .code codeEnc_ok rfl (by kernel_rfl)
theorem ebA_run46t : RunsCh (CV06 (ebF)) 24 (ebF) 6 (ebA 46 true) (kA true (ebT 46 true) (ebW 46 true)) := .code codeEnc_ok rfl (by kernel_rfl)
theorem ebA_run49t : RunsCh (CV06 (ebF)) 24 (ebF) 6 (ebA 49 true) (kA true (ebT 49 true) (ebW 49 true)) := .code codeEnc_ok rfl (by kernel_rfl)
theorem ebA_run52t : RunsCh (CV06 (ebF)) 24 (ebF) 6 (ebA 52 true) (kA true (ebT 52 true) (ebW 52 true)) := .code codeEnc_ok rfl (by kernel_rfl)
theorem ebA_run55t : RunsCh (CV06 (ebF)) 24 (ebF) 6 (ebA 55 true) (kA true (ebT 55 true) (ebW 55 true)) := .code codeEnc_ok rfl (by kernel_rfl)
theorem ebA_run58t : RunsCh (CV06 (ebF)) 24 (ebF) 6 (ebA 58 true) (kA true (ebT 58 true) (ebW 58 true)) := .code codeEnc_ok rfl (by kernel_rfl)
theorem ebA_run61t : RunsCh (CV06 (ebF)) 24 (ebF) 6 (ebA 61 true) (kA true (ebT 61 true) (ebW 61 true)) := .code codeEnc_ok rfl (by kernel_rfl)
end Go.Proofs.YtamhmfdbnlkmkaaDoor
