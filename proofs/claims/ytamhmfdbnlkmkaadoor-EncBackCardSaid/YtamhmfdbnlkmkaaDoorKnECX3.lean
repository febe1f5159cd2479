/- What words say: some runs. -/
import Derived.Test.YtamhmfdbnlkmkaaDoorKnEC0
set_option linter.unusedVariables false
set_option linter.unusedSimpArgs false
set_option maxRecDepth 100000
namespace Go.Proofs.YtamhmfdbnlkmkaaDoor
open Go Go.RowKit

theorem ebA_run25tp : RunsCh (CV06 ((.cmp .leq (.var 8) (.lit 0), false) :: ebF24)) 24 ((.cmp .leq (.var 8) (.lit 0), false) :: ebF24) 6 (ebA24 25 true) (kA true (ebT24 25 true) (ebW24 25 true)) := .code codeEnc_ok rfl (by kernel_rfl)
theorem ebA_run26tq : RunsCh (CV06 ((.cmp .leq (.var 7) (.lit 0), false) :: (.cmp .leq (.var 8) (.lit 0), true) :: ebF24)) 24 ((.cmp .leq (.var 7) (.lit 0), false) :: (.cmp .leq (.var 8) (.lit 0), true) :: ebF24) 6 (ebA24 26 true) (kA true (ebT24 26 true) (ebW24 26 true)) := .code codeEnc_ok rfl (by kernel_rfl)
theorem ebA_run27tr : RunsCh (CV06 ((.cmp .leq (.var 0) (.lit 255), true) :: (.cmp .leq (.var 5) (.lit 0), true) :: (.cmp .leq (.var 6) (.lit 0), true) :: ebF27)) 24 ((.cmp .leq (.var 0) (.lit 255), true) :: (.cmp .leq (.var 5) (.lit 0), true) :: (.cmp .leq (.var 6) (.lit 0), true) :: ebF27) 6 (ebA27 27 true) (kA true (ebT27 27 true) (ebW27 27 true)) := .code codeEnc_ok rfl (by kernel_rfl)
theorem ebA_run30tp : RunsCh (CV06 ((.cmp .leq (.var 7) (.lit 0), false) :: ebF30)) 24 ((.cmp .leq (.var 7) (.lit 0), false) :: ebF30) 6 (ebA30 30 true) (kA true (ebT30 30 true) (ebW30 30 true)) := .code codeEnc_ok rfl (by kernel_rfl)
theorem ebA_run31tp : RunsCh (CV06 ((.cmp .leq (.var 7) (.lit 0), false) :: ebF30)) 24 ((.cmp .leq (.var 7) (.lit 0), false) :: ebF30) 6 (ebA30 31 true) (kA true (ebT30 31 true) (ebW30 31 true)) := .code codeEnc_ok rfl (by kernel_rfl)
theorem ebA_run31fq : RunsCh (CV06 ((.cmp .leq (.var 8) (.lit 0), false) :: ebF30)) 24 ((.cmp .leq (.var 8) (.lit 0), false) :: ebF30) 6 (ebA30 31 false) (kA false (ebT30 31 false) (ebW30 31 false)) := .code codeEnc_ok rfl (by kernel_rfl)
end Go.Proofs.YtamhmfdbnlkmkaaDoor
