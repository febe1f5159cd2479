/- The law DuplexForms: some of its runs. -/
import Derived.Test.YthabafmieebmmaaDoorKnDuplexForms0
set_option linter.unusedVariables false
set_option linter.unusedSimpArgs false
set_option maxRecDepth 100000
namespace Go.Proofs.YthabafmieebmmaaDoor
open Go Go.RowKit

theorem duplexForms_runlt1 : RunsN (ctxT CA08 (gFlt 1) (gTabsK 1)) 24 (gFlt 1) 8 duplexForms_args := .code codeDup_ok rfl (by kernel_rfl)
theorem duplexForms_rungt2 : RunsN (ctxT CA08 (gFgt 2) (gTabsK 2)) 24 (gFgt 2) 8 duplexForms_args := .code codeDup_ok rfl (by kernel_rfl)
theorem duplexForms_runlt4 : RunsN (ctxT CA08 (gFlt 4) (gTabsK 4)) 24 (gFlt 4) 8 duplexForms_args := .code codeDup_ok rfl (by kernel_rfl)
theorem duplexForms_runp : RunsN (ctxT CA08 gFp (gTabsP)) 24 gFp 8 duplexForms_args := .code codeDup_ok rfl (by kernel_rfl)
theorem duplexForms_runff : RunsN (ctxT CA08 gFx (gTabsN false false)) 24 gFx 8 duplexForms_args := .code codeDup_ok rfl (by kernel_rfl)
end Go.Proofs.YthabafmieebmmaaDoor
