/- The law DuplexBack: some of its runs. -/
import Derived.Test.YthabafmieebmmaaDoorKnDuplexBack0
set_option linter.unusedVariables false
set_option linter.unusedSimpArgs false
set_option maxRecDepth 100000
namespace Go.Proofs.YthabafmieebmmaaDoor
open Go Go.RowKit

theorem duplexBack_runlt1 : RunsN (ctxT CA08 (dFlt 1) (dTabsK 1)) 24 (dFlt 1) 7 (dArgsK 1) := .code codeDup_ok rfl (by kernel_rfl)
theorem duplexBack_rungt2 : RunsN (ctxT CA08 (dFgt 2) (dTabsK 2)) 24 (dFgt 2) 7 (dArgsK 2) := .code codeDup_ok rfl (by kernel_rfl)
theorem duplexBack_runlt4 : RunsN (ctxT CA08 (dFlt 4) (dTabsK 4)) 24 (dFlt 4) 7 (dArgsK 4) := .code codeDup_ok rfl (by kernel_rfl)
theorem duplexBack_runtf : RunsN (ctxT CA08 duplexBack_facts (dTabsN true false)) 24 duplexBack_facts 7 duplexBack_args := .code codeDup_ok rfl (by kernel_rfl)
end Go.Proofs.YthabafmieebmmaaDoor
