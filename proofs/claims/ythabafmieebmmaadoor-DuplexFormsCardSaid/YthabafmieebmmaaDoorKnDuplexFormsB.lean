/- The law DuplexForms: some of its runs. -/
import Derived.Test.YthabafmieebmmaaDoorKnDuplexForms0
set_option linter.unusedVariables false
set_option linter.unusedSimpArgs false
set_option maxRecDepth 100000
namespace Go.Proofs.YthabafmieebmmaaDoor
open Go Go.RowKit

theorem duplexForms_rungt0 : RunsN (ctxT CA08 (gFgt 0) (gTabsK 0)) 24 (gFgt 0) 8 duplexForms_args := .code codeDup_ok rfl (by kernel_rfl)
theorem duplexForms_runlt2 : RunsN (ctxT CA08 (gFlt 2) (gTabsK 2)) 24 (gFlt 2) 8 duplexForms_args := .code codeDup_ok rfl (by kernel_rfl)
theorem duplexForms_rungt3 : RunsN (ctxT CA08 (gFgt 3) (gTabsK 3)) 24 (gFgt 3) 8 duplexForms_args := .code codeDup_ok rfl (by kernel_rfl)
theorem duplexForms_runeq : RunsN (ctxT CA08 gFx (gTabsE)) 24 gFx 8 duplexForms_args := .code codeDup_ok rfl (by kernel_rfl)
theorem duplexForms_runft : RunsN (ctxT CA08 gFx (gTabsN false true)) 24 gFx 8 duplexForms_args := .code codeDup_ok rfl (by kernel_rfl)
end Go.Proofs.YthabafmieebmmaaDoor
