/- The law ExtBack: each leaf of its run is true. -/
import Derived.Test.YtgpijioodocplaaKnX05
import Derived.Test.YtgpijioodocplaaSyArgs
import Derived.Test.YtgpijioodocplaaSyLin4
import Derived.Test.YtgpijioodocplaaKcExt
set_option linter.unusedVariables false
set_option maxRecDepth 100000
namespace Go.Proofs.Ytgpijioodocplaa
open Go Go.RowKit

def extBack_facts : Facts := [(.cmp .geq (.var 0) (.lit (-2147483648)), true), (.cmp .leq (.var 0) (.lit 2147483647), true), (.cmp .geq (.var 1) (.lit 0), true), (.cmp .leq (.var 1) (.lit 4294967295), true), (.cmp .geq (.var 2) (.lit 0), true), (.cmp .leq (.var 2) (.lit 4294967295), true), (.cmp .geq (.var 3) (.lit 0), true), (.cmp .leq (.var 3) (.lit 255), true), (.cmp .geq (.var 4) (.lit 0), true), (.cmp .leq (.var 4) (.lit 255), true), (.cmp .geq (.var 5) (.lit 0), true), (.cmp .leq (.var 5) (.lit 255), true), (.cmp .geq (.var 6) (.lit 0), true), (.cmp .leq (.var 6) (.lit 255), true), (.cmp .geq (.var 7) (.lit 0), true), (.cmp .leq (.var 7) (.lit 255), true), (.cmp .geq (.var 8) (.lit 0), true), (.cmp .leq (.var 8) (.lit 255), true), (.cmp .geq (.var 9) (.lit 0), true), (.cmp .leq (.var 9) (.lit 255), true), (.cmp .geq (.var 12) (.lit 0), true), (.cmp .leq (.var 12) (.lit 65535), true), (.cmp .geq (.var 13) (.lit (-9223372036854775808)), true), (.cmp .leq (.var 13) (.lit 9223372036854775807), true), (.cmp .geq (.var 14) (.lit 0), true), (.cmp .leq (.var 14) (.lit 4294967295), true)]
def extBack_args : List AV := [.tc (.sy (.int .i32) (.var 0)), .tc (.sy (.int .u32) (.var 1)), .tc (.sy (.int .u32) (.var 2)), .agg [.tc (.sy (.int .u8) (.var 3)), .tc (.sy (.int .u8) (.var 4)), .tc (.sy (.int .u8) (.var 5)), .tc (.sy (.int .u8) (.var 6)), .tc (.sy (.int .u8) (.var 7)), .tc (.sy (.int .u8) (.var 8)), .tc (.sy (.int .u8) (.var 9)), .tc (.sy .bool (.var 10)), .tc (.sy .bool (.var 11)), .tc (.sy (.int .u16) (.var 12)), .tc (.sy (.int .i64) (.var 13))], .tc (.sy (.int .u32) (.var 14))]
end Go.Proofs.Ytgpijioodocplaa
