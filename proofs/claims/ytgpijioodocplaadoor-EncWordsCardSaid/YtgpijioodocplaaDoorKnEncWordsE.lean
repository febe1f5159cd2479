/- The law EncWords: some of its runs. -/
import Derived.Test.YtgpijioodocplaaDoorKnEncWords0
set_option linter.unusedVariables false
set_option maxRecDepth 100000
namespace Go.Proofs.YtgpijioodocplaaDoor
open Go Go.RowKit

def encWords_way : Sx := (.cmp .eql (.bin .shr .i64 (.conv .u32 (.bin .add .i64 (.var 10) (.bin .mul .i64 (.var 11) (.lit (-1))))) (.lit 31)) (.lit 1))
def encWords_factsa : Facts := (.var 8, true) :: encWords_facts
def encWords_factsb : Facts := ((.cmp .eql (.bin .shr .i64 (.conv .u32 (.bin .add .i64 (.var 10) (.bin .mul .i64 (.var 11) (.lit (-1))))) (.lit 31)) (.lit 1)), true) :: (.var 8, false) :: encWords_facts
def encWords_factsc : Facts := ((.cmp .eql (.bin .shr .i64 (.conv .u32 (.bin .add .i64 (.var 10) (.bin .mul .i64 (.var 11) (.lit (-1))))) (.lit 31)) (.lit 1)), false) :: (.var 8, false) :: encWords_facts
theorem encWords_run30a : RunsN (CW06 encWords_factsa) 24 encWords_factsa 3 encWords_args30 := .code codeEnc_ok rfl (by kernel_rfl)
theorem encWords_run30b : RunsN (CW06 encWords_factsb) 24 encWords_factsb 3 encWords_args30 := .code codeEnc_ok rfl (by kernel_rfl)
theorem encWords_run30c : RunsN (CW06 encWords_factsc) 24 encWords_factsc 3 encWords_args30 := .code codeEnc_ok rfl (by kernel_rfl)
end Go.Proofs.YtgpijioodocplaaDoor
