/- The law ExtBack: some of its runs. -/
import Derived.Test.YtgpijioodocplaaKnExtBack0
set_option linter.unusedVariables false
set_option maxRecDepth 100000
namespace Go.Proofs.Ytgpijioodocplaa
open Go Go.RowKit

theorem extBack_run17 : RunsN CX05 24 ((.cmp .eql (.var 3) (.lit 17), true) :: extBack_facts) 9 extBack_args := .code codeExt_ok rfl (by kernel_rfl)
theorem extBack_run18 : RunsN CX05 24 ((.cmp .eql (.var 3) (.lit 18), true) :: extBack_facts) 9 extBack_args := .code codeExt_ok rfl (by kernel_rfl)
theorem extBack_run19 : RunsN CX05 24 ((.cmp .eql (.var 3) (.lit 19), true) :: extBack_facts) 9 extBack_args := .code codeExt_ok rfl (by kernel_rfl)
theorem extBack_run20 : RunsN CX05 24 ((.cmp .eql (.var 3) (.lit 20), true) :: extBack_facts) 9 extBack_args := .code codeExt_ok rfl (by kernel_rfl)
theorem extBack_run21 : RunsN CX05 24 ((.cmp .eql (.var 3) (.lit 21), true) :: extBack_facts) 9 extBack_args := .code codeExt_ok rfl (by kernel_rfl)
theorem extBack_run22 : RunsN CX05 24 ((.cmp .eql (.var 3) (.lit 22), true) :: extBack_facts) 9 extBack_args := .code codeExt_ok rfl (by kernel_rfl)
theorem extBack_run23 : RunsN CX05 24 ((.cmp .eql (.var 3) (.lit 23), true) :: extBack_facts) 9 extBack_args := .code codeExt_ok rfl (by kernel_rfl)
theorem extBack_run24 : RunsN CX05 24 ((.cmp .eql (.var 3) (.lit 24), true) :: extBack_facts) 9 extBack_args := .code codeExt_ok rfl (by kernel_rfl)
theorem extBack_run25 : RunsN CX05 24 ((.cmp .eql (.var 3) (.lit 25), true) :: extBack_facts) 9 extBack_args := .code codeExt_ok rfl (by kernel_rfl)
theorem extBack_run26 : RunsN CX05 24 ((.cmp .eql (.var 3) (.lit 26), true) :: extBack_facts) 9 extBack_args := .code codeExt_ok rfl (by kernel_rfl)
theorem extBack_run27 : RunsN CX05 24 ((.cmp .eql (.var 3) (.lit 27), true) :: extBack_facts) 9 extBack_args := .code codeExt_ok rfl (by kernel_rfl)
theorem extBack_run28 : RunsN CX05 24 ((.cmp .eql (.var 3) (.lit 28), true) :: extBack_facts) 9 extBack_args := .code codeExt_ok rfl (by kernel_rfl)
theorem extBack_run29 : RunsN CX05 24 ((.cmp .eql (.var 3) (.lit 29), true) :: extBack_facts) 9 extBack_args := .code codeExt_ok rfl (by kernel_rfl)
theorem extBack_run30 : RunsN CX05 24 ((.cmp .eql (.var 3) (.lit 30), true) :: extBack_facts) 9 extBack_args := .code codeExt_ok rfl (by kernel_rfl)
theorem extBack_run31 : RunsN CX05 24 ((.cmp .eql (.var 3) (.lit 31), true) :: extBack_facts) 9 extBack_args := .code codeExt_ok rfl (by kernel_rfl)
theorem extBack_runG : RunsN CX05 24 ((.cmp .leq (.var 3) (.lit 31), false) :: extBack_facts) 9 extBack_args := .code codeExt_ok rfl (by kernel_rfl)
end Go.Proofs.Ytgpijioodocplaa
