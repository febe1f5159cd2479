/- The law DuplexTells: some of its runs. -/
import Derived.Test.YthabafmieebmmaaDoorKnDuplexTells0
set_option linter.unusedVariables false
set_option linter.unusedSimpArgs false
set_option maxRecDepth 100000
namespace Go.Proofs.YthabafmieebmmaaDoor
open Go Go.RowKit

theorem duplexTells_runlt0 : RunsN (ctxT CA08 (tK 0 ++ tFlt) (tTabsK)) 24 (tK 0 ++ tFlt) 6 duplexTells_args := .code codeDup_ok rfl (by kernel_rfl)
theorem duplexTells_rungt1 : RunsN (ctxT CA08 (tK 1 ++ tFgt) (tTabsK)) 24 (tK 1 ++ tFgt) 6 duplexTells_args := .code codeDup_ok rfl (by kernel_rfl)
theorem duplexTells_runlt3 : RunsN (ctxT CA08 (tK 3 ++ tFlt) (tTabsK)) 24 (tK 3 ++ tFlt) 6 duplexTells_args := .code codeDup_ok rfl (by kernel_rfl)
theorem duplexTells_rungt4 : RunsN (ctxT CA08 (tK 4 ++ tFgt) (tTabsK)) 24 (tK 4 ++ tFgt) 6 duplexTells_args := .code codeDup_ok rfl (by kernel_rfl)
end Go.Proofs.YthabafmieebmmaaDoor
