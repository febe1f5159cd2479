/- The law IsaTells: some of its runs. -/
import Derived.Test.YtgpijioodocplaaKnIsaTells0
set_option linter.unusedVariables false
set_option linter.unusedSimpArgs false
set_option maxRecDepth 100000
namespace Go.Proofs.Ytgpijioodocplaa
open Go Go.RowKit

theorem isaTells_run1 : RunsN (ctxT CJ03 isaTells_facts (itTabs (u8v 1))) 24 isaTells_facts 4 (itArgs 1) := .code codeIsa_ok rfl (by kernel_rfl)
theorem isaTells_run3 : RunsN (ctxT CJ03 isaTells_facts (itTabs (u8v 3))) 24 isaTells_facts 4 (itArgs 3) := .code codeIsa_ok rfl (by kernel_rfl)
theorem isaTells_run5 : RunsN (ctxT CJ03 isaTells_facts (itTabs (u8v 5))) 24 isaTells_facts 4 (itArgs 5) := .code codeIsa_ok rfl (by kernel_rfl)
theorem isaTells_run7 : RunsN (ctxT CJ03 isaTells_facts (itTabs (u8v 7))) 24 isaTells_facts 4 (itArgs 7) := .code codeIsa_ok rfl (by kernel_rfl)
theorem isaTells_run9 : RunsN (ctxT CJ03 isaTells_facts (itTabs (u8v 9))) 24 isaTells_facts 4 (itArgs 9) := .code codeIsa_ok rfl (by kernel_rfl)
theorem isaTells_run11 : RunsN (ctxT CJ03 isaTells_facts (itTabs (u8v 11))) 24 isaTells_facts 4 (itArgs 11) := .code codeIsa_ok rfl (by kernel_rfl)
theorem isaTells_run13 : RunsN (ctxT CJ03 isaTells_facts (itTabs (u8v 13))) 24 isaTells_facts 4 (itArgs 13) := .code codeIsa_ok rfl (by kernel_rfl)
theorem isaTells_run15 : RunsN (ctxT CJ03 isaTells_facts (itTabs (u8v 15))) 24 isaTells_facts 4 (itArgs 15) := .code codeIsa_ok rfl (by kernel_rfl)
theorem isaTells_run17 : RunsN (ctxT CJ03 isaTells_facts (itTabs (u8v 17))) 24 isaTells_facts 4 (itArgs 17) := .code codeIsa_ok rfl (by kernel_rfl)
theorem isaTells_run19 : RunsN (ctxT CJ03 isaTells_facts (itTabs (u8v 19))) 24 isaTells_facts 4 (itArgs 19) := .code codeIsa_ok rfl (by kernel_rfl)
theorem isaTells_run21 : RunsN (ctxT CJ03 isaTells_facts (itTabs (u8v 21))) 24 isaTells_facts 4 (itArgs 21) := .code codeIsa_ok rfl (by kernel_rfl)
theorem isaTells_run23 : RunsN (ctxT CJ03 isaTells_facts (itTabs (u8v 23))) 24 isaTells_facts 4 (itArgs 23) := .code codeIsa_ok rfl (by kernel_rfl)
theorem isaTells_run25 : RunsN (ctxT CJ03 isaTells_facts (itTabs (u8v 25))) 24 isaTells_facts 4 (itArgs 25) := .code codeIsa_ok rfl (by kernel_rfl)
theorem isaTells_run27 : RunsN (ctxT CJ03 isaTells_facts (itTabs (u8v 27))) 24 isaTells_facts 4 (itArgs 27) := .code codeIsa_ok rfl (by kernel_rfl)
theorem isaTells_run29 : RunsN (ctxT CJ03 isaTells_facts (itTabs (u8v 29))) 24 isaTells_facts 4 (itArgs 29) := .code codeIsa_ok rfl (by kernel_rfl)
theorem isaTells_run31 : RunsN (ctxT CJ03 isaTells_facts (itTabs (u8v 31))) 24 isaTells_facts 4 (itArgs 31) := .code codeIsa_ok rfl (by kernel_rfl)
end Go.Proofs.Ytgpijioodocplaa
