/- The law IsaTells: some of its runs. -/
import Derived.Test.YtgpijioodocplaaKnIsaTells0
set_option linter.unusedVariables false
set_option linter.unusedSimpArgs false
set_option maxRecDepth 100000
namespace Go.Proofs.Ytgpijioodocplaa
open Go Go.RowKit

theorem isaTells_run0 : RunsN (ctxT CJ03 isaTells_facts (itTabs (u8v 0))) 24 isaTells_facts 4 (itArgs 0) := .code codeIsa_ok rfl (by kernel_rfl)
theorem isaTells_run2 : RunsN (ctxT CJ03 isaTells_facts (itTabs (u8v 2))) 24 isaTells_facts 4 (itArgs 2) := .code codeIsa_ok rfl (by kernel_rfl)
theorem isaTells_run4 : RunsN (ctxT CJ03 isaTells_facts (itTabs (u8v 4))) 24 isaTells_facts 4 (itArgs 4) := .code codeIsa_ok rfl (by kernel_rfl)
theorem isaTells_run6 : RunsN (ctxT CJ03 isaTells_facts (itTabs (u8v 6))) 24 isaTells_facts 4 (itArgs 6) := .code codeIsa_ok rfl (by kernel_rfl)
theorem isaTells_run8 : RunsN (ctxT CJ03 isaTells_facts (itTabs (u8v 8))) 24 isaTells_facts 4 (itArgs 8) := .code codeIsa_ok rfl (by kernel_rfl)
theorem isaTells_run10 : RunsN (ctxT CJ03 isaTells_facts (itTabs (u8v 10))) 24 isaTells_facts 4 (itArgs 10) := .code codeIsa_ok rfl (by kernel_rfl)
theorem isaTells_run12 : RunsN (ctxT CJ03 isaTells_facts (itTabs (u8v 12))) 24 isaTells_facts 4 (itArgs 12) := .code codeIsa_ok rfl (by kernel_rfl)
theorem isaTells_run14 : RunsN (ctxT CJ03 isaTells_facts (itTabs (u8v 14))) 24 isaTells_facts 4 (itArgs 14) := .code codeIsa_ok rfl (by kernel_rfl)
theorem isaTells_run16 : RunsN (ctxT CJ03 isaTells_facts (itTabs (u8v 16))) 24 isaTells_facts 4 (itArgs 16) := .code codeIsa_ok rfl (by kernel_rfl)
theorem isaTells_run18 : RunsN (ctxT CJ03 isaTells_facts (itTabs (u8v 18))) 24 isaTells_facts 4 (itArgs 18) := .code codeIsa_ok rfl (by kernel_rfl)
theorem isaTells_run20 : RunsN (ctxT CJ03 isaTells_facts (itTabs (u8v 20))) 24 isaTells_facts 4 (itArgs 20) := .code codeIsa_ok rfl (by kernel_rfl)
theorem isaTells_run22 : RunsN (ctxT CJ03 isaTells_facts (itTabs (u8v 22))) 24 isaTells_facts 4 (itArgs 22) := .code codeIsa_ok rfl (by kernel_rfl)
theorem isaTells_run24 : RunsN (ctxT CJ03 isaTells_facts (itTabs (u8v 24))) 24 isaTells_facts 4 (itArgs 24) := .code codeIsa_ok rfl (by kernel_rfl)
theorem isaTells_run26 : RunsN (ctxT CJ03 isaTells_facts (itTabs (u8v 26))) 24 isaTells_facts 4 (itArgs 26) := .code codeIsa_ok rfl (by kernel_rfl)
theorem isaTells_run28 : RunsN (ctxT CJ03 isaTells_facts (itTabs (u8v 28))) 24 isaTells_facts 4 (itArgs 28) := .code codeIsa_ok rfl (by kernel_rfl)
theorem isaTells_run30 : RunsN (ctxT CJ03 isaTells_facts (itTabs (u8v 30))) 24 isaTells_facts 4 (itArgs 30) := .code codeIsa_ok rfl (by kernel_rfl)
theorem isaTells_runG : RunsN (ctxT CJ03 itG (itTabs (.tc (.sy (.int .u8) (.var 0))))) 24 itG 4 isaTells_args := .code codeIsa_ok rfl (by kernel_rfl)
end Go.Proofs.Ytgpijioodocplaa
