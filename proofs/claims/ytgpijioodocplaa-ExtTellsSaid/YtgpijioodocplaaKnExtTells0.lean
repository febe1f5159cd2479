/- The law ExtTells: each leaf of its run is true. -/
import Derived.Test.YtgpijioodocplaaKnX05
import Derived.Test.YtgpijioodocplaaSyArgs
import Derived.Test.YtgpijioodocplaaSyLin4
import Derived.Test.YtgpijioodocplaaKcExt
set_option linter.unusedVariables false
set_option maxRecDepth 100000
namespace Go.Proofs.Ytgpijioodocplaa
open Go Go.RowKit

def extTells_facts : Facts := [(.cmp .geq (.var 0) (.lit 0), true), (.cmp .leq (.var 0) (.lit 255), true), (.cmp .geq (.var 1) (.lit 0), true), (.cmp .leq (.var 1) (.lit 255), true), (.cmp .geq (.var 2) (.lit 0), true), (.cmp .leq (.var 2) (.lit 255), true), (.cmp .geq (.var 3) (.lit 0), true), (.cmp .leq (.var 3) (.lit 255), true), (.cmp .geq (.var 4) (.lit 0), true), (.cmp .leq (.var 4) (.lit 255), true), (.cmp .geq (.var 5) (.lit 0), true), (.cmp .leq (.var 5) (.lit 255), true), (.cmp .geq (.var 6) (.lit 0), true), (.cmp .leq (.var 6) (.lit 255), true), (.cmp .geq (.var 9) (.lit 0), true), (.cmp .leq (.var 9) (.lit 65535), true), (.cmp .geq (.var 10) (.lit (-9223372036854775808)), true), (.cmp .leq (.var 10) (.lit 9223372036854775807), true), (.cmp .geq (.var 11) (.lit 0), true), (.cmp .leq (.var 11) (.lit 4294967295), true)]
def extTells_args : List AV := [.agg [.tc (.sy (.int .u8) (.var 0)), .tc (.sy (.int .u8) (.var 1)), .tc (.sy (.int .u8) (.var 2)), .tc (.sy (.int .u8) (.var 3)), .tc (.sy (.int .u8) (.var 4)), .tc (.sy (.int .u8) (.var 5)), .tc (.sy (.int .u8) (.var 6)), .tc (.sy .bool (.var 7)), .tc (.sy .bool (.var 8)), .tc (.sy (.int .u16) (.var 9)), .tc (.sy (.int .i64) (.var 10))], .tc (.sy (.int .u32) (.var 11))]
end Go.Proofs.Ytgpijioodocplaa
