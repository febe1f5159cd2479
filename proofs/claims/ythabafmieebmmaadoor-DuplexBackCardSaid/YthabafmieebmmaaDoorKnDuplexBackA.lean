/- The law DuplexBack: some of its runs. -/
import Derived.Test.YthabafmieebmmaaDoorKnDuplexBack0
set_option linter.unusedVariables false
set_option linter.unusedSimpArgs false
set_option maxRecDepth 100000
namespace Go.Proofs.YthabafmieebmmaaDoor
open Go Go.RowKit

theorem duplexBack_runlt0 : RunsN (ctxT CA08 (dFlt 0) (dTabsK 0)) 24 (dFlt 0) 7 (dArgsK 0) := .code codeDup_ok rfl (by kernel_rfl)
theorem duplexBack_rungt1 : RunsN (ctxT CA08 (dFgt 1) (dTabsK 1)) 24 (dFgt 1) 7 (dArgsK 1) := .code codeDup_ok rfl (by kernel_rfl)
theorem duplexBack_runlt3 : RunsN (ctxT CA08 (dFlt 3) (dTabsK 3)) 24 (dFlt 3) 7 (dArgsK 3) := .code codeDup_ok rfl (by kernel_rfl)
theorem duplexBack_rungt4 : RunsN (ctxT CA08 (dFgt 4) (dTabsK 4)) 24 (dFgt 4) 7 (dArgsK 4) := .code codeDup_ok rfl (by kernel_rfl)
theorem duplexBack_runft : RunsN (ctxT CA08 duplexBack_facts (dTabsN false true)) 24 duplexBack_facts 7 duplexBack_args := .code codeDup_ok rfl (by kernel_rfl)
end Go.Proofs.YthabafmieebmmaaDoor
