/- The law ExtBack: some of its runs. -/
import Derived.Test.YtgpijioodocplaaKnExtBack0
set_option linter.unusedVariables false
set_option maxRecDepth 100000
namespace Go.Proofs.Ytgpijioodocplaa
open Go Go.RowKit

theorem extBack_runL : RunsN CX05 24 ((.cmp .leq (.var 3) (.lit 0), true) :: extBack_facts) 9 extBack_args := .code codeExt_ok rfl (by kernel_rfl)
theorem extBack_run1 : RunsN CX05 24 ((.cmp .eql (.var 3) (.lit 1), true) :: extBack_facts) 9 extBack_args := .code codeExt_ok rfl (by kernel_rfl)
theorem extBack_run2 : RunsN CX05 24 ((.cmp .eql (.var 3) (.lit 2), true) :: extBack_facts) 9 extBack_args := .code codeExt_ok rfl (by kernel_rfl)
theorem extBack_run3 : RunsN CX05 24 ((.cmp .eql (.var 3) (.lit 3), true) :: extBack_facts) 9 extBack_args := .code codeExt_ok rfl (by kernel_rfl)
theorem extBack_run4 : RunsN CX05 24 ((.cmp .eql (.var 3) (.lit 4), true) :: extBack_facts) 9 extBack_args := .code codeExt_ok rfl (by kernel_rfl)
theorem extBack_run5 : RunsN CX05 24 ((.cmp .eql (.var 3) (.lit 5), true) :: extBack_facts) 9 extBack_args := .code codeExt_ok rfl (by kernel_rfl)
theorem extBack_run6 : RunsN CX05 24 ((.cmp .eql (.var 3) (.lit 6), true) :: extBack_facts) 9 extBack_args := .code codeExt_ok rfl (by kernel_rfl)
theorem extBack_run7 : RunsN CX05 24 ((.cmp .eql (.var 3) (.lit 7), true) :: extBack_facts) 9 extBack_args := .code codeExt_ok rfl (by kernel_rfl)
theorem extBack_run8 : RunsN CX05 24 ((.cmp .eql (.var 3) (.lit 8), true) :: extBack_facts) 9 extBack_args := .code codeExt_ok rfl (by kernel_rfl)
theorem extBack_run9 : RunsN CX05 24 ((.cmp .eql (.var 3) (.lit 9), true) :: extBack_facts) 9 extBack_args := .code codeExt_ok rfl (by kernel_rfl)
theorem extBack_run10 : RunsN CX05 24 ((.cmp .eql (.var 3) (.lit 10), true) :: extBack_facts) 9 extBack_args := .code codeExt_ok rfl (by kernel_rfl)
theorem extBack_run11 : RunsN CX05 24 ((.cmp .eql (.var 3) (.lit 11), true) :: extBack_facts) 9 extBack_args := .code codeExt_ok rfl (by kernel_rfl)
theorem extBack_run12 : RunsN CX05 24 ((.cmp .eql (.var 3) (.lit 12), true) :: extBack_facts) 9 extBack_args := .code codeExt_ok rfl (by kernel_rfl)
theorem extBack_run13 : RunsN CX05 24 ((.cmp .eql (.var 3) (.lit 13), true) :: extBack_facts) 9 extBack_args := .code codeExt_ok rfl (by kernel_rfl)
theorem extBack_run14 : RunsN CX05 24 ((.cmp .eql (.var 3) (.lit 14), true) :: extBack_facts) 9 extBack_args := .code codeExt_ok rfl (by kernel_rfl)
theorem extBack_run15 : RunsN CX05 24 ((.cmp .eql (.var 3) (.lit 15), true) :: extBack_facts) 9 extBack_args := .code codeExt_ok rfl (by kernel_rfl)
theorem extBack_run16 : RunsN CX05 24 ((.cmp .eql (.var 3) (.lit 16), true) :: extBack_facts) 9 extBack_args := .code codeExt_ok rfl (by kernel_rfl)
end Go.Proofs.Ytgpijioodocplaa
