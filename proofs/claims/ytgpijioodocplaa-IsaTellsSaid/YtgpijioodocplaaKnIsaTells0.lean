/- The law IsaTells: runs of it. -/
import Derived.Test.YtgpijioodocplaaKnITA
import Derived.Test.YtgpijioodocplaaMg8
set_option linter.unusedVariables false
set_option linter.unusedSimpArgs false
set_option maxRecDepth 100000
namespace Go.Proofs.Ytgpijioodocplaa
open Go Go.RowKit

def isaTells_facts : Facts := [(.cmp .geq (.var 0) (.lit 0), true), (.cmp .leq (.var 0) (.lit 255), true), (.cmp .geq (.var 1) (.lit 0), true), (.cmp .leq (.var 1) (.lit 255), true), (.cmp .geq (.var 2) (.lit 0), true), (.cmp .leq (.var 2) (.lit 255), true)]
def isaTells_args : List AV := [.tc (.sy (.int .u8) (.var 0)), .tc (.sy (.int .u8) (.var 1)), .tc (.sy (.int .u8) (.var 2)), .tc (.sy .str (.var 3))]
def itArgs (c : Int) : List AV := [u8v c, .tc (.sy (.int .u8) (.var 1)), .tc (.sy (.int .u8) (.var 2)), .tc (.sy .str (.var 3))]
def itAt : AV := .tuple [.agg [.tc (.sy (.int .u8) (.var 8)), .tc (.sy (.int .i64) (.var 9)), .tc (.sy (.int .i64) (.var 10)), .tc (.sy .bool (.var 11)), .tc (.sy .bool (.var 12))], .tc (.sy (.int .i64) (.var 13)), .tc (.sy .bool (.var 14))]
def itBy : List (List AV × AV) := [([.tc (.sy .str (.var 3))], .tuple [.tc (.sy (.int .u8) (.var 4)), .tc (.sy .bool (.var 5))]), ([.tc (.sy .str (.sub (.var 3) (.lit 0) (.lit 100)))], .tuple [.tc (.sy (.int .u8) (.var 6)), .tc (.sy .bool (.var 7))])]
def itSl : List (List AV × AV) := [([.tc (.sy (.int .u8) (.var 2))], .tc (.sy (.int .u8) (.var 15)))]
def itTabs (op : AV) : Tabs := [(13, [([op, .tc (.sy (.int .u8) (.var 1))], itAt)]), (14, [([op, .tc (.sy (.int .u8) (.var 1))], itAt)]), (15, itBy), (16, itBy), (17, itSl), (18, itSl)]
def itG : Facts := (.cmp .geq (.var 0) (.lit 32), true) :: isaTells_facts
end Go.Proofs.Ytgpijioodocplaa
