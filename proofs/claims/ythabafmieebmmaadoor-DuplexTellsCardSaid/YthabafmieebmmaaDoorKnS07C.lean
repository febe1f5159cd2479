/- Small instructions: some runs. -/
import Derived.Test.YthabafmieebmmaaDoorKnS070
set_option linter.unusedVariables false
set_option maxRecDepth 100000
namespace Go.Proofs.YthabafmieebmmaaDoor
open Go Go.RowKit

theorem opT_run0 : RunsTo (CR07 rightF) 24 rightF 21 (opArgs 0) (.leaf noO) := .code codeSub_ok rfl (by kernel_rfl)
theorem opT_run1 : RunsTo (CR07 rightF) 24 rightF 21 (opArgs 1) (.leaf noO) := .code codeSub_ok rfl (by kernel_rfl)
theorem opT_run2 : RunsTo (CR07 rightF) 24 rightF 21 (opArgs 2) (opT 2) := .code codeSub_ok rfl (by kernel_rfl)
theorem opT_run3 : RunsTo (CR07 rightF) 24 rightF 21 (opArgs 3) (.leaf noO) := .code codeSub_ok rfl (by kernel_rfl)
theorem opT_run4 : RunsTo (CR07 rightF) 24 rightF 21 (opArgs 4) (.leaf noO) := .code codeSub_ok rfl (by kernel_rfl)
theorem opT_run5 : RunsTo (CR07 rightF) 24 rightF 21 (opArgs 5) (.leaf noO) := .code codeSub_ok rfl (by kernel_rfl)
theorem opT_run6 : RunsTo (CR07 rightF) 24 rightF 21 (opArgs 6) (.leaf noO) := .code codeSub_ok rfl (by kernel_rfl)
theorem opT_run7 : RunsTo (CR07 rightF) 24 rightF 21 (opArgs 7) (opT 7) := .code codeSub_ok rfl (by kernel_rfl)
theorem opT_run8 : RunsTo (CR07 rightF) 24 rightF 21 (opArgs 8) (opT 8) := .code codeSub_ok rfl (by kernel_rfl)
theorem opT_run9 : RunsTo (CR07 rightF) 24 rightF 21 (opArgs 9) (opT 9) := .code codeSub_ok rfl (by kernel_rfl)
theorem opT_run10 : RunsTo (CR07 rightF) 24 rightF 21 (opArgs 10) (.leaf noO) := .code codeSub_ok rfl (by kernel_rfl)
theorem opT_run11 : RunsTo (CR07 rightF) 24 rightF 21 (opArgs 11) (.leaf noO) := .code codeSub_ok rfl (by kernel_rfl)
theorem opT_run12 : RunsTo (CR07 rightF) 24 rightF 21 (opArgs 12) (.leaf noO) := .code codeSub_ok rfl (by kernel_rfl)
theorem opT_run13 : RunsTo (CR07 rightF) 24 rightF 21 (opArgs 13) (opT 13) := .code codeSub_ok rfl (by kernel_rfl)
theorem opT_run14 : RunsTo (CR07 rightF) 24 rightF 21 (opArgs 14) (.leaf noO) := .code codeSub_ok rfl (by kernel_rfl)
theorem opT_run15 : RunsTo (CR07 rightF) 24 rightF 21 (opArgs 15) (.leaf noO) := .code codeSub_ok rfl (by kernel_rfl)
theorem opT_run16 : RunsTo (CR07 rightF) 24 rightF 21 (opArgs 16) (.leaf noO) := .code codeSub_ok rfl (by kernel_rfl)
theorem opT_run17 : RunsTo (CR07 rightF) 24 rightF 21 (opArgs 17) (.leaf noO) := .code codeSub_ok rfl (by kernel_rfl)
theorem opT_run18 : RunsTo (CR07 rightF) 24 rightF 21 (opArgs 18) (.leaf noO) := .code codeSub_ok rfl (by kernel_rfl)
theorem opT_run19 : RunsTo (CR07 rightF) 24 rightF 21 (opArgs 19) (.leaf noO) := .code codeSub_ok rfl (by kernel_rfl)
theorem opT_run20 : RunsTo (CR07 rightF) 24 rightF 21 (opArgs 20) (.leaf noO) := .code codeSub_ok rfl (by kernel_rfl)
theorem opT_run22 : RunsTo (CR07 rightF) 24 rightF 21 (opArgs 22) (.leaf noO) := .code codeSub_ok rfl (by kernel_rfl)
theorem opT_run25 : RunsTo (CR07 rightF) 24 rightF 21 (opArgs 25) (.leaf noO) := .code codeSub_ok rfl (by kernel_rfl)
theorem opT_run27 : RunsTo (CR07 rightF) 24 rightF 21 (opArgs 27) (.leaf noO) := .code codeSub_ok rfl (by kernel_rfl)
theorem opT_run28 : RunsTo (CR07 rightF) 24 rightF 21 (opArgs 28) (.leaf noO) := .code codeSub_ok rfl (by kernel_rfl)
theorem opT_run29 : RunsTo (CR07 rightF) 24 rightF 21 (opArgs 29) (.leaf noO) := .code codeSub_ok rfl (by kernel_rfl)
theorem opT_run30 : RunsTo (CR07 rightF) 24 rightF 21 (opArgs 30) (.leaf noO) := .code codeSub_ok rfl (by kernel_rfl)
theorem opT_run31 : RunsTo (CR07 rightF) 24 rightF 21 (opArgs 31) (.leaf noO) := .code codeSub_ok rfl (by kernel_rfl)
theorem opT_runG : RunsTo (CR07 opG) 24 opG 21 opArgsG (.leaf noO) := .code codeSub_ok rfl (by kernel_rfl)
end Go.Proofs.YthabafmieebmmaaDoor
