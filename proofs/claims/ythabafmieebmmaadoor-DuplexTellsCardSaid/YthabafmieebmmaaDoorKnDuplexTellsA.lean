/- The law DuplexTells: some of its runs. -/
import Derived.Test.YthabafmieebmmaaDoorKnDuplexTells0
set_option linter.unusedVariables false
set_option linter.unusedSimpArgs false
set_option maxRecDepth 100000
namespace Go.Proofs.YthabafmieebmmaaDoor
open Go Go.RowKit

theorem duplexTells_runp : RunsN (ctxT CA08 tFp (tTabsP)) 24 tFp 6 duplexTells_args := .code codeDup_ok rfl (by kernel_rfl)
theorem duplexTells_runtf : RunsN (ctxT CA08 tF (tTabsN true false)) 24 tF 6 duplexTells_args := .code codeDup_ok rfl (by kernel_rfl)
theorem duplexTells_runft : RunsN (ctxT CA08 tF (tTabsN false true)) 24 tF 6 duplexTells_args := .code codeDup_ok rfl (by kernel_rfl)
theorem duplexTells_runff : RunsN (ctxT CA08 tF (tTabsN false false)) 24 tF 6 duplexTells_args := .code codeDup_ok rfl (by kernel_rfl)
end Go.Proofs.YthabafmieebmmaaDoor
