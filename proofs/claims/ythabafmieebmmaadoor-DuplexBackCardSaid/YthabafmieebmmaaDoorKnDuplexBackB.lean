/- The law DuplexBack: some of its runs. -/
import Derived.Test.YthabafmieebmmaaDoorKnDuplexBack0
set_option linter.unusedVariables false
set_option linter.unusedSimpArgs false
set_option maxRecDepth 100000
namespace Go.Proofs.YthabafmieebmmaaDoor
open Go Go.RowKit

theorem duplexBack_rungt0 : RunsN (ctxT CA08 (dFgt 0) (dTabsK 0)) 24 (dFgt 0) 7 (dArgsK 0) := .code codeDup_ok rfl (by kernel_rfl)
theorem duplexBack_runlt2 : RunsN (ctxT CA08 (dFlt 2) (dTabsK 2)) 24 (dFlt 2) 7 (dArgsK 2) := .code codeDup_ok rfl (by kernel_rfl)
theorem duplexBack_rungt3 : RunsN (ctxT CA08 (dFgt 3) (dTabsK 3)) 24 (dFgt 3) 7 (dArgsK 3) := .code codeDup_ok rfl (by kernel_rfl)
theorem duplexBack_runeq : RunsN (ctxT CA08 dFeq (dTabsE)) 24 dFeq 7 duplexBack_argsE := .code codeDup_ok rfl (by kernel_rfl)
theorem duplexBack_runff : RunsN (ctxT CA08 duplexBack_facts (dTabsN false false)) 24 duplexBack_facts 7 duplexBack_args := .code codeDup_ok rfl (by kernel_rfl)
end Go.Proofs.YthabafmieebmmaaDoor
