/- The law ExtTells: some of its runs. -/
import Derived.Test.YtgpijioodocplaaKnExtTells0
set_option linter.unusedVariables false
set_option maxRecDepth 100000
namespace Go.Proofs.Ytgpijioodocplaa
open Go Go.RowKit

theorem extTells_runL : RunsN CX05 24 ((.cmp .leq (.var 0) (.lit 0), true) :: extTells_facts) 6 extTells_args := .code codeExt_ok rfl (by kernel_rfl)
theorem extTells_run1 : RunsN CX05 24 ((.cmp .eql (.var 0) (.lit 1), true) :: extTells_facts) 6 extTells_args := .code codeExt_ok rfl (by kernel_rfl)
theorem extTells_run2 : RunsN CX05 24 ((.cmp .eql (.var 0) (.lit 2), true) :: extTells_facts) 6 extTells_args := .code codeExt_ok rfl (by kernel_rfl)
theorem extTells_run3 : RunsN CX05 24 ((.cmp .eql (.var 0) (.lit 3), true) :: extTells_facts) 6 extTells_args := .code codeExt_ok rfl (by kernel_rfl)
theorem extTells_run4 : RunsN CX05 24 ((.cmp .eql (.var 0) (.lit 4), true) :: extTells_facts) 6 extTells_args := .code codeExt_ok rfl (by kernel_rfl)
theorem extTells_run5 : RunsN CX05 24 ((.cmp .eql (.var 0) (.lit 5), true) :: extTells_facts) 6 extTells_args := .code codeExt_ok rfl (by kernel_rfl)
theorem extTells_run6 : RunsN CX05 24 ((.cmp .eql (.var 0) (.lit 6), true) :: extTells_facts) 6 extTells_args := .code codeExt_ok rfl (by kernel_rfl)
theorem extTells_run7 : RunsN CX05 24 ((.cmp .eql (.var 0) (.lit 7), true) :: extTells_facts) 6 extTells_args := .code codeExt_ok rfl (by kernel_rfl)
theorem extTells_run8 : RunsN CX05 24 ((.cmp .eql (.var 0) (.lit 8), true) :: extTells_facts) 6 extTells_args := .code codeExt_ok rfl (by kernel_rfl)
theorem extTells_run9 : RunsN CX05 24 ((.cmp .eql (.var 0) (.lit 9), true) :: extTells_facts) 6 extTells_args := .code codeExt_ok rfl (by kernel_rfl)
theorem extTells_run10 : RunsN CX05 24 ((.cmp .eql (.var 0) (.lit 10), true) :: extTells_facts) 6 extTells_args := .code codeExt_ok rfl (by kernel_rfl)
theorem extTells_run11 : RunsN CX05 24 ((.cmp .eql (.var 0) (.lit 11), true) :: extTells_facts) 6 extTells_args := .code codeExt_ok rfl (by kernel_rfl)
theorem extTells_run12 : RunsN CX05 24 ((.cmp .eql (.var 0) (.lit 12), true) :: extTells_facts) 6 extTells_args := .code codeExt_ok rfl (by kernel_rfl)
theorem extTells_run13 : RunsN CX05 24 ((.cmp .eql (.var 0) (.lit 13), true) :: extTells_facts) 6 extTells_args := .code codeExt_ok rfl (by kernel_rfl)
theorem extTells_run14 : RunsN CX05 24 ((.cmp .eql (.var 0) (.lit 14), true) :: extTells_facts) 6 extTells_args := .code codeExt_ok rfl (by kernel_rfl)
theorem extTells_run15 : RunsN CX05 24 ((.cmp .eql (.var 0) (.lit 15), true) :: extTells_facts) 6 extTells_args := .code codeExt_ok rfl (by kernel_rfl)
theorem extTells_run16 : RunsN CX05 24 ((.cmp .eql (.var 0) (.lit 16), true) :: extTells_facts) 6 extTells_args := .code codeExt_ok rfl (by kernel_rfl)
end Go.Proofs.Ytgpijioodocplaa
