/- Instructions: cells, as variables. -/
import Derived.Test.YtamhmfdbnlkmkaaKnA10
import Derived.Test.YtamhmfdbnlkmkaaSyChain
import Derived.Test.YtamhmfdbnlkmkaaSyTab
set_option linter.unusedVariables false
set_option linter.unusedSimpArgs false
set_option maxRecDepth 100000
namespace Go.Proofs.Ytamhmfdbnlkmkaa
open Go Go.RowKit

abbrev blV (b : Bool) : AV := .tc (.sc (.bool b))
abbrev inV (k : IntKind) (n : Int) : AV := .tc (.sc (.int k n))
/-- The cells of an instruction that variables from b on stand for. -/
def iA (b : Nat) : AV := .agg [.tc (.sy (.int .u8) (.var (b + 0))), .tc (.sy (.int .u8) (.var (b + 1))), .tc (.sy (.int .u8) (.var (b + 2))), .tc (.sy (.int .u8) (.var (b + 3))), .tc (.sy (.int .u8) (.var (b + 4))), .tc (.sy (.int .u8) (.var (b + 5))), .tc (.sy (.int .u8) (.var (b + 6))), .tc (.sy .bool (.var (b + 7))), .tc (.sy .bool (.var (b + 8))), .tc (.sy (.int .u16) (.var (b + 9))), .tc (.sy (.int .i64) (.var (b + 10)))]
/-- What is known of them. -/
def iF (b : Nat) : Facts := [(.cmp .geq (.var (b + 0)) (.lit (0)), true), (.cmp .leq (.var (b + 0)) (.lit 255), true), (.cmp .geq (.var (b + 1)) (.lit (0)), true), (.cmp .leq (.var (b + 1)) (.lit 255), true), (.cmp .geq (.var (b + 2)) (.lit (0)), true), (.cmp .leq (.var (b + 2)) (.lit 255), true), (.cmp .geq (.var (b + 3)) (.lit (0)), true), (.cmp .leq (.var (b + 3)) (.lit 255), true), (.cmp .geq (.var (b + 4)) (.lit (0)), true), (.cmp .leq (.var (b + 4)) (.lit 255), true), (.cmp .geq (.var (b + 5)) (.lit (0)), true), (.cmp .leq (.var (b + 5)) (.lit 255), true), (.cmp .geq (.var (b + 6)) (.lit (0)), true), (.cmp .leq (.var (b + 6)) (.lit 255), true), (.cmp .geq (.var (b + 9)) (.lit (0)), true), (.cmp .leq (.var (b + 9)) (.lit 65535), true), (.cmp .geq (.var (b + 10)) (.lit (-9223372036854775808)), true), (.cmp .leq (.var (b + 10)) (.lit 9223372036854775807), true)]
def shE (ρ : Env) (b : Nat) : Env := ⟨fun i => ρ.I (b + i), fun i => ρ.B (b + i), ρ.S, ρ.F⟩
end Go.Proofs.Ytamhmfdbnlkmkaa
