/- What words say: some runs. -/
import Derived.Test.YtamhmfdbnlkmkaaDoorKnEC0
set_option linter.unusedVariables false
set_option linter.unusedSimpArgs false
set_option maxRecDepth 100000
namespace Go.Proofs.YtamhmfdbnlkmkaaDoor
open Go Go.RowKit

theorem ebA_run0t : RunsCh (CV06 (ebF)) 24 (ebF) 6 (ebA 0 true) (kA true (ebT 0 true) (ebW 0 true)) := .code codeEnc_ok rfl (by kernel_rfl)
theorem ebA_run3t : RunsCh (CV06 (ebF)) 24 (ebF) 6 (ebA 3 true) (kA true (ebT 3 true) (ebW 3 true)) := .code codeEnc_ok rfl (by kernel_rfl)
theorem ebA_run6t : RunsCh (CV06 (ebF)) 24 (ebF) 6 (ebA 6 true) (kA true (ebT 6 true) (ebW 6 true)) := .code codeEnc_ok rfl (by kernel_rfl)
theorem ebA_run9t : RunsCh (CV06 (ebF)) 24 (ebF) 6 (ebA 9 true) (kA true (ebT 9 true) (ebW 9 true)) := .code codeEnc_ok rfl (by kernel_rfl)
theorem ebA_run12t : RunsCh (CV06 (ebF)) 24 (ebF) 6 (ebA 12 true) (kA true (ebT 12 true) (ebW 12 true)) := .code codeEnc_ok rfl (by kernel_rfl)
theorem ebA_run15t : RunsCh (CV06 (ebF)) 24 (ebF) 6 (ebA 15 true) (kA true (ebT 15 true) (ebW 15 true)) := .code codeEnc_ok rfl (by kernel_rfl)
theorem ebA_run18t : RunsCh (CV06 (ebF)) 24 (ebF) 6 (ebA 18 true) (kA true (ebT 18 true) (ebW 18 true)) := .code codeEnc_ok rfl (by kernel_rfl)
theorem ebA_run21t : RunsCh (CV06 (ebF)) 24 (ebF) 6 (ebA 21 true) (kA true (ebT 21 true) (ebW 21 true)) := .code codeEnc_ok rfl (by kernel_rfl)
theorem ebA_run24f : RunsCh (CV06 (ebF)) 24 (ebF) 6 (ebA 24 false) (kA false (ebT 24 false) (ebW 24 false)) := .code codeEnc_ok rfl (by kernel_rfl)
theorem ebA_run29f : RunsCh (CV06 (ebF)) 24 (ebF) 6 (ebA 29 false) (kA false (ebT 29 false) (ebW 29 false)) := .code codeEnc_ok rfl (by kernel_rfl)
theorem ebA_run34f : RunsCh (CV06 (ebF)) 24 (ebF) 6 (ebA 34 false) (kA false (ebT 34 false) (ebW 34 false)) := .code codeEnc_ok rfl (by kernel_rfl)
theorem ebA_run37f : RunsCh (CV06 (ebF)) 24 (ebF) 6 (ebA 37 false) (kA false (ebT 37 false) (ebW 37 false)) := .code codeEnc_ok rfl (by kernel_rfl)
theorem ebA_run40f : RunsCh (CV06 (ebF)) 24 (ebF) 6 (ebA 40 false) (kA false (ebT 40 false) (ebW 40 false)) := .code codeEnc_ok rfl (by kernel_rfl)
theorem ebA_run43f : RunsCh (CV06 (ebF)) 24 (ebF) 6 (ebA 43 false) (kA false (ebT 43 false) (ebW 43 false)) := .code codeEnc_ok rfl (by kernel_rfl)
theorem ebA_run46f : RunsCh (CV06 (ebF)) 24 (ebF) 6 (ebA 46 false) (kA false (ebT 46 false) (ebW 46 false)) := .code codeEnc_ok rfl (by kernel_rfl)
theorem ebA_run49f : RunsCh (CV06 (ebF)) 24 (ebF) 6 (ebA 49 false) (kA false (ebT 49 false) (ebW 49 false)) := .code codeEnc_ok rfl (by kernel_rfl)
theorem ebA_run52f : RunsCh (CV06 (ebF)) 24 (ebF) 6 (ebA 52 false) (kA false (ebT 52 false) (ebW 52 false)) := .code codeEnc_ok rfl (by kernel_rfl)
theorem ebA_run55f : RunsCh (CV06 (ebF)) 24 (ebF) 6 (ebA 55 false) (kA false (ebT 55 false) (ebW 55 false)) := .code codeEnc_ok rfl (by kernel_rfl)
theorem ebA_run58f : RunsCh (CV06 (ebF)) 24 (ebF) 6 (ebA 58 false) (kA false (ebT 58 false) (ebW 58 false)) := .code codeEnc_ok rfl (by kernel_rfl)
theorem ebA_run61f : RunsCh (CV06 (ebF)) 24 (ebF) 6 (ebA 61 false) (kA false (ebT 61 false) (ebW 61 false)) := .code codeEnc_ok rfl (by kernel_rfl)
end Go.Proofs.YtamhmfdbnlkmkaaDoor
