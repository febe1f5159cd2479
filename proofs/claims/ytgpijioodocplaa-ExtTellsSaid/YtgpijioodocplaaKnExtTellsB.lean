/- The law ExtTells: some of its runs. -/
import Derived.Test.YtgpijioodocplaaKnExtTells0
set_option linter.unusedVariables false
set_option maxRecDepth 100000
namespace Go.Proofs.Ytgpijioodocplaa
open Go Go.RowKit

theorem extTells_run17 : RunsN CX05 24 ((.cmp .eql (.var 0) (.lit 17), true) :: extTells_facts) 6 extTells_args := .code codeExt_ok rfl (by kernel_rfl)
theorem extTells_run18 : RunsN CX05 24 ((.cmp .eql (.var 0) (.lit 18), true) :: extTells_facts) 6 extTells_args := .code codeExt_ok rfl (by kernel_rfl)
theorem extTells_run19 : RunsN CX05 24 ((.cmp .eql (.var 0) (.lit 19), true) :: extTells_facts) 6 extTells_args := .code codeExt_ok rfl (by kernel_rfl)
theorem extTells_run20 : RunsN CX05 24 ((.cmp .eql (.var 0) (.lit 20), true) :: extTells_facts) 6 extTells_args := .code codeExt_ok rfl (by kernel_rfl)
theorem extTells_run21 : RunsN CX05 24 ((.cmp .eql (.var 0) (.lit 21), true) :: extTells_facts) 6 extTells_args := .code codeExt_ok rfl (by kernel_rfl)
theorem extTells_run22 : RunsN CX05 24 ((.cmp .eql (.var 0) (.lit 22), true) :: extTells_facts) 6 extTells_args := .code codeExt_ok rfl (by kernel_rfl)
theorem extTells_run23 : RunsN CX05 24 ((.cmp .eql (.var 0) (.lit 23), true) :: extTells_facts) 6 extTells_args := .code codeExt_ok rfl (by kernel_rfl)
theorem extTells_run24 : RunsN CX05 24 ((.cmp .eql (.var 0) (.lit 24), true) :: extTells_facts) 6 extTells_args := .code codeExt_ok rfl (by kernel_rfl)
theorem extTells_run25 : RunsN CX05 24 ((.cmp .eql (.var 0) (.lit 25), true) :: extTells_facts) 6 extTells_args := .code codeExt_ok rfl (by kernel_rfl)
theorem extTells_run26 : RunsN CX05 24 ((.cmp .eql (.var 0) (.lit 26), true) :: extTells_facts) 6 extTells_args := .code codeExt_ok rfl (by kernel_rfl)
theorem extTells_run27 : RunsN CX05 24 ((.cmp .eql (.var 0) (.lit 27), true) :: extTells_facts) 6 extTells_args := .code codeExt_ok rfl (by kernel_rfl)
theorem extTells_run28 : RunsN CX05 24 ((.cmp .eql (.var 0) (.lit 28), true) :: extTells_facts) 6 extTells_args := .code codeExt_ok rfl (by kernel_rfl)
theorem extTells_run29 : RunsN CX05 24 ((.cmp .eql (.var 0) (.lit 29), true) :: extTells_facts) 6 extTells_args := .code codeExt_ok rfl (by kernel_rfl)
theorem extTells_run30 : RunsN CX05 24 ((.cmp .eql (.var 0) (.lit 30), true) :: extTells_facts) 6 extTells_args := .code codeExt_ok rfl (by kernel_rfl)
theorem extTells_run31 : RunsN CX05 24 ((.cmp .eql (.var 0) (.lit 31), true) :: extTells_facts) 6 extTells_args := .code codeExt_ok rfl (by kernel_rfl)
theorem extTells_runG : RunsN CX05 24 ((.cmp .leq (.var 0) (.lit 31), false) :: extTells_facts) 6 extTells_args := .code codeExt_ok rfl (by kernel_rfl)
end Go.Proofs.Ytgpijioodocplaa
