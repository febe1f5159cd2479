/- The law DuplexForms: some of its runs. -/
import Derived.Test.YthabafmieebmmaaDoorKnDuplexForms0
set_option linter.unusedVariables false
set_option linter.unusedSimpArgs false
set_option maxRecDepth 100000
namespace Go.Proofs.YthabafmieebmmaaDoor
open Go Go.RowKit

theorem duplexForms_runlt0 : RunsN (ctxT CA08 (gFlt 0) (gTabsK 0)) 24 (gFlt 0) 8 duplexForms_args := .code codeDup_ok rfl (by kernel_rfl)
theorem duplexForms_rungt1 : RunsN (ctxT CA08 (gFgt 1) (gTabsK 1)) 24 (gFgt 1) 8 duplexForms_args := .code codeDup_ok rfl (by kernel_rfl)
theorem duplexForms_runlt3 : RunsN (ctxT CA08 (gFlt 3) (gTabsK 3)) 24 (gFlt 3) 8 duplexForms_args := .code codeDup_ok rfl (by kernel_rfl)
theorem duplexForms_rungt4 : RunsN (ctxT CA08 (gFgt 4) (gTabsK 4)) 24 (gFgt 4) 8 duplexForms_args := .code codeDup_ok rfl (by kernel_rfl)
theorem duplexForms_runtf : RunsN (ctxT CA08 gFx (gTabsN true false)) 24 gFx 8 duplexForms_args := .code codeDup_ok rfl (by kernel_rfl)
end Go.Proofs.YthabafmieebmmaaDoor
