/- The law EncMoves: some of its runs. -/
import Derived.Test.YtgpijioodocplaaDoorKnEncMoves0
set_option linter.unusedVariables false
set_option maxRecDepth 100000
namespace Go.Proofs.YtgpijioodocplaaDoor
open Go Go.RowKit

def encMoves_way : Sx := (.cmp .eql (.bin .shr .i64 (.conv .u32 (.bin .add .i64 (.var 10) (.bin .mul .i64 (.bin .shr .i64 (.var 11) (.lit 2)) (.lit (-4))))) (.lit 31)) (.lit 1))
def encMoves_factsa : Facts := (.var 8, true) :: encMoves_facts
def encMoves_factsb : Facts := ((.cmp .eql (.bin .shr .i64 (.conv .u32 (.bin .add .i64 (.var 10) (.bin .mul .i64 (.bin .shr .i64 (.var 11) (.lit 2)) (.lit (-4))))) (.lit 31)) (.lit 1)), true) :: (.var 8, false) :: encMoves_facts
def encMoves_factsc : Facts := ((.cmp .eql (.bin .shr .i64 (.conv .u32 (.bin .add .i64 (.var 10) (.bin .mul .i64 (.bin .shr .i64 (.var 11) (.lit 2)) (.lit (-4))))) (.lit 31)) (.lit 1)), false) :: (.var 8, false) :: encMoves_facts
end Go.Proofs.YtgpijioodocplaaDoor
