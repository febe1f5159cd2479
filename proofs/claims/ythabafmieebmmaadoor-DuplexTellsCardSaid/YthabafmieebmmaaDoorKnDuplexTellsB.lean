/- The law DuplexTells: some of its runs. -/
import Derived.Test.YthabafmieebmmaaDoorKnDuplexTells0
set_option linter.unusedVariables false
set_option linter.unusedSimpArgs false
set_option maxRecDepth 100000
namespace Go.Proofs.YthabafmieebmmaaDoor
open Go Go.RowKit

theorem duplexTells_runeq : RunsN (ctxT CA08 tF (tTabsE)) 24 tF 6 duplexTells_args := .code codeDup_ok rfl (by kernel_rfl)
theorem duplexTells_runlt1 : RunsN (ctxT CA08 (tK 1 ++ tFlt) (tTabsK)) 24 (tK 1 ++ tFlt) 6 duplexTells_args := .code codeDup_ok rfl (by kernel_rfl)
theorem duplexTells_rungt2 : RunsN (ctxT CA08 (tK 2 ++ tFgt) (tTabsK)) 24 (tK 2 ++ tFgt) 6 duplexTells_args := .code codeDup_ok rfl (by kernel_rfl)
theorem duplexTells_runlt4 : RunsN (ctxT CA08 (tK 4 ++ tFlt) (tTabsK)) 24 (tK 4 ++ tFlt) 6 duplexTells_args := .code codeDup_ok rfl (by kernel_rfl)
theorem duplexTells_rungt5 : RunsN (ctxT CA08 (tK 5 ++ tFgt) (tTabsK)) 24 (tK 5 ++ tFgt) 6 duplexTells_args := .code codeDup_ok rfl (by kernel_rfl)
end Go.Proofs.YthabafmieebmmaaDoor
