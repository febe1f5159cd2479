/- The law DuplexTells: some of its runs. -/
import Derived.Test.YthabafmieebmmaaDoorKnDuplexTells0
set_option linter.unusedVariables false
set_option linter.unusedSimpArgs false
set_option maxRecDepth 100000
namespace Go.Proofs.YthabafmieebmmaaDoor
open Go Go.RowKit

theorem duplexTells_rungt0 : RunsN (ctxT CA08 (tK 0 ++ tFgt) (tTabsK)) 24 (tK 0 ++ tFgt) 6 duplexTells_args := .code codeDup_ok rfl (by kernel_rfl)
theorem duplexTells_runlt2 : RunsN (ctxT CA08 (tK 2 ++ tFlt) (tTabsK)) 24 (tK 2 ++ tFlt) 6 duplexTells_args := .code codeDup_ok rfl (by kernel_rfl)
theorem duplexTells_rungt3 : RunsN (ctxT CA08 (tK 3 ++ tFgt) (tTabsK)) 24 (tK 3 ++ tFgt) 6 duplexTells_args := .code codeDup_ok rfl (by kernel_rfl)
theorem duplexTells_runlt5 : RunsN (ctxT CA08 (tK 5 ++ tFlt) (tTabsK)) 24 (tK 5 ++ tFlt) 6 duplexTells_args := .code codeDup_ok rfl (by kernel_rfl)
end Go.Proofs.YthabafmieebmmaaDoor
