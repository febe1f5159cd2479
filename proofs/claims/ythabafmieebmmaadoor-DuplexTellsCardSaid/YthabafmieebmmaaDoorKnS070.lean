/- Small instructions: what they are run at, what they tell. -/
import Derived.Test.YthabafmieebmmaaDoorKnR07
import Derived.Test.YthabafmieebmmaaDoorSySpec
set_option linter.unusedVariables false
set_option maxRecDepth 100000
namespace Go.Proofs.YthabafmieebmmaaDoor
open Go Go.RowKit

def smallOk (e : Sx) : Sx := .not (.and (.not (.cmp .leq e (.lit 7))) (.not (.and (.cmp .geq e (.lit 16)) (.cmp .leq e (.lit 23)))))
def smallE (e : Sx) : Sx := .bin .add .i64 e (.bin .mul .i64 (.bin .shr .i64 e (.lit 4)) (.lit (-8)))
def greatE (e : Sx) : Sx := .bin .add .i64 e (.bin .mul .i64 (.bin .shr .i64 e (.lit 3)) (.lit 8))
def addE (a b : Sx) : Sx := .bin .add .i64 a b
def mulE (a : Sx) (n : Int) : Sx := .bin .mul .i64 a (.lit n)
/-- An instruction of an op and four fields. -/
def inA (op : Int) (d s t imm : Sx) : AV := .agg [.tc (.sc (.int .u8 op)), .tc (.sy (.int .u8) d), .tc (.sy (.int .u8) s), .tc (.sy (.int .u8) t), .tc (.sc (.int .u8 0)), .tc (.sc (.int .u8 0)), .tc (.sc (.int .u8 0)), .tc (.sc (.bool false)), .tc (.sc (.bool false)), .tc (.sc (.int .u16 0)), .tc (.sy (.int .i64) imm)]
def zeroI : AV := .tuple [inA 0 (.lit 0) (.lit 0) (.lit 0) (.lit 0), .tc (.sc (.bool false))]
def yesI (a : AV) : AV := .tuple [a, .tc (.sc (.bool true))]
/-- Of four bits at 7, four at 3, three; or of four and seven. -/
def sX2 (c : Int) : Sx := addE (mulE (.var 0) 128) (addE (mulE (.var 1) 8) (addE (.var 2) (.lit (c * 2048))))
def sX1 (c : Int) : Sx := addE (mulE (.var 0) 128) (addE (.var 3) (.lit (c * 2048)))
def twoS (c : Int) : Bool := decide (3 ≤ c) && decide (c ≤ 8)
def sX (c : Int) : Sx := cond (twoS c) (sX2 c) (sX1 c)
def smF : Facts := [(.cmp .geq (.var 0) (.lit 0), true), (.cmp .leq (.var 0) (.lit 15), true), (.cmp .geq (.var 1) (.lit 0), true), (.cmp .leq (.var 1) (.lit 15), true), (.cmp .geq (.var 2) (.lit 0), true), (.cmp .leq (.var 2) (.lit 7), true), (.cmp .geq (.var 3) (.lit 0), true), (.cmp .leq (.var 3) (.lit 127), true)]
def subA (c : Int) : AV := match c with
  | 1 => inA 8 (greatE (.var 0)) (.lit 0) (.lit 0) (.var 3)
  | 2 => inA 7 (greatE (.var 0)) (greatE (.var 0)) (.lit 0) (addE (.var 3) (mulE (.bin .shr .i64 (.var 3) (.lit 6)) (-128)))
  | 3 => inA 9 (greatE (.var 0)) (greatE (.var 1)) (.lit 0) (.lit 0)
  | 4 => inA 2 (greatE (.var 0)) (greatE (.var 0)) (greatE (.var 1)) (.lit 0)
  | 5 => inA 21 (greatE (.var 0)) (greatE (.var 1)) (.lit 0) (mulE (.var 2) 4)
  | 6 => inA 24 (.lit 0) (greatE (.var 0)) (greatE (.var 1)) (mulE (.var 2) 4)
  | 7 => inA 23 (greatE (.var 0)) (greatE (.var 1)) (.lit 0) (.var 2)
  | 8 => inA 26 (.lit 0) (greatE (.var 0)) (greatE (.var 1)) (.var 2)
  | 9 => inA 13 (.lit 0) (greatE (.var 0)) (.lit 0) (.var 3)
  | _ => inA 0 (.lit 0) (.lit 0) (.lit 0) (.lit 0)
def subI (c : Int) : Out := cond (decide (1 ≤ c) && decide (c ≤ 9)) (cond (decide (c = 3) || decide (c = 4)) (.sel (.cmp .eql (.var 2) (.lit 0)) (.leaf (yesI (subA c))) (.leaf zeroI)) (.leaf (yesI (subA c)))) (.leaf zeroI)
def opL (c : Int) : List Sx := match c with
  | 8 => [(.cmp .eql (.var 4) (.lit 0)), (.cmp .eql (.var 5) (.lit 0)), (.cmp .eql (.var 6) (.lit 0)), (.not (.var 7)), (.not (.var 8)), (.cmp .eql (.var 9) (.lit 0)), (smallOk (.var 1)), (.cmp .eql (.var 2) (.lit 0)), (.cmp .eql (.var 3) (.lit 0)), (.cmp .geq (.var 10) (.lit 0)), (.cmp .leq (.var 10) (.lit 127))]
  | 7 => [(.cmp .eql (.var 4) (.lit 0)), (.cmp .eql (.var 5) (.lit 0)), (.cmp .eql (.var 6) (.lit 0)), (.not (.var 7)), (.not (.var 8)), (.cmp .eql (.var 9) (.lit 0)), (smallOk (.var 1)), (.cmp .eql (.var 2) (.var 1)), (.cmp .eql (.var 3) (.lit 0)), (.cmp .geq (.var 10) (.lit (-64))), (.cmp .leq (.var 10) (.lit 63))]
  | 9 => [(.cmp .eql (.var 4) (.lit 0)), (.cmp .eql (.var 5) (.lit 0)), (.cmp .eql (.var 6) (.lit 0)), (.not (.var 7)), (.not (.var 8)), (.cmp .eql (.var 9) (.lit 0)), (smallOk (.var 1)), (smallOk (.var 2)), (.cmp .eql (.var 3) (.lit 0)), (.cmp .eql (.var 10) (.lit 0))]
  | 2 => [(.cmp .eql (.var 4) (.lit 0)), (.cmp .eql (.var 5) (.lit 0)), (.cmp .eql (.var 6) (.lit 0)), (.not (.var 7)), (.not (.var 8)), (.cmp .eql (.var 9) (.lit 0)), (smallOk (.var 1)), (.cmp .eql (.var 2) (.var 1)), (smallOk (.var 3)), (.cmp .eql (.var 10) (.lit 0))]
  | 21 => [(.cmp .eql (.var 4) (.lit 0)), (.cmp .eql (.var 5) (.lit 0)), (.cmp .eql (.var 6) (.lit 0)), (.not (.var 7)), (.not (.var 8)), (.cmp .eql (.var 9) (.lit 0)), (smallOk (.var 1)), (smallOk (.var 2)), (.cmp .eql (.var 3) (.lit 0)), (.cmp .geq (.var 10) (.lit 0)), (.cmp .leq (.var 10) (.lit 31)), (.cmp .eql (.bin .rem .i64 (.var 10) (.lit 4)) (.lit 0))]
  | 24 => [(.cmp .eql (.var 4) (.lit 0)), (.cmp .eql (.var 5) (.lit 0)), (.cmp .eql (.var 6) (.lit 0)), (.not (.var 7)), (.not (.var 8)), (.cmp .eql (.var 9) (.lit 0)), (smallOk (.var 2)), (smallOk (.var 3)), (.cmp .eql (.var 1) (.lit 0)), (.cmp .geq (.var 10) (.lit 0)), (.cmp .leq (.var 10) (.lit 31)), (.cmp .eql (.bin .rem .i64 (.var 10) (.lit 4)) (.lit 0))]
  | 23 => [(.cmp .eql (.var 4) (.lit 0)), (.cmp .eql (.var 5) (.lit 0)), (.cmp .eql (.var 6) (.lit 0)), (.not (.var 7)), (.not (.var 8)), (.cmp .eql (.var 9) (.lit 0)), (smallOk (.var 1)), (smallOk (.var 2)), (.cmp .eql (.var 3) (.lit 0)), (.cmp .geq (.var 10) (.lit 0)), (.cmp .leq (.var 10) (.lit 7))]
  | 26 => [(.cmp .eql (.var 4) (.lit 0)), (.cmp .eql (.var 5) (.lit 0)), (.cmp .eql (.var 6) (.lit 0)), (.not (.var 7)), (.not (.var 8)), (.cmp .eql (.var 9) (.lit 0)), (smallOk (.var 2)), (smallOk (.var 3)), (.cmp .eql (.var 1) (.lit 0)), (.cmp .geq (.var 10) (.lit 0)), (.cmp .leq (.var 10) (.lit 7))]
  | 13 => [(.cmp .eql (.var 4) (.lit 0)), (.cmp .eql (.var 5) (.lit 0)), (.cmp .eql (.var 6) (.lit 0)), (.not (.var 7)), (.not (.var 8)), (.cmp .eql (.var 9) (.lit 0)), (smallOk (.var 2)), (.cmp .eql (.var 1) (.lit 0)), (.cmp .eql (.var 3) (.lit 0)), (.cmp .geq (.var 10) (.lit 0)), (.cmp .leq (.var 10) (.lit 127))]
  | _ => [.lb false]
def conjE : List Sx → Sx
  | [] => .lb true
  | [e] => e
  | e :: r => .and e (conjE r)
def opW (c : Int) : Sx := match c with
  | 8 => addE (mulE (smallE (.var 1)) 128) (addE (.var 10) (.lit 2048))
  | 7 => addE (mulE (smallE (.var 1)) 128) (addE (.bin .and .u32 (.conv .u32 (.var 10)) (.lit 127)) (.lit 4096))
  | 9 => addE (mulE (smallE (.var 1)) 128) (addE (mulE (smallE (.var 2)) 8) (.lit 6144))
  | 2 => addE (mulE (smallE (.var 1)) 128) (addE (mulE (smallE (.var 3)) 8) (.lit 8192))
  | 21 => addE (mulE (smallE (.var 1)) 128) (addE (mulE (smallE (.var 2)) 8) (addE (.bin .shr .i64 (.var 10) (.lit 2)) (.lit 10240)))
  | 24 => addE (mulE (smallE (.var 2)) 128) (addE (mulE (smallE (.var 3)) 8) (addE (.bin .shr .i64 (.var 10) (.lit 2)) (.lit 12288)))
  | 23 => addE (mulE (smallE (.var 1)) 128) (addE (mulE (smallE (.var 2)) 8) (addE (.var 10) (.lit 14336)))
  | 26 => addE (mulE (smallE (.var 2)) 128) (addE (mulE (smallE (.var 3)) 8) (addE (.var 10) (.lit 16384)))
  | 13 => addE (mulE (smallE (.var 2)) 128) (addE (.var 10) (.lit 18432))
  | _ => .lit 0
def noO : AV := .tuple [.tc (.sc (.int .u16 0)), .tc (.sc (.bool false))]
def yesO (w : Sx) : AV := .tuple [.tc (.sy (.int .u16) w), .tc (.sc (.bool true))]
def opT (c : Int) : Out := .sel (conjE (opL c)) (.leaf (yesO (opW c))) (.leaf noO)
def opF (c : Int) : Facts := (opL c).map (fun e => (e, true)) ++ rightF
def opArgs (c : Int) : List AV := rightA c
def opG : Facts := (.cmp .geq (.var 0) (.lit 32), true) :: (.cmp .leq (.var 0) (.lit 255), true) :: rightF
def opArgsG : List AV := [.agg [.tc (.sy (.int .u8) (.var 0)), .tc (.sy (.int .u8) (.var 1)), .tc (.sy (.int .u8) (.var 2)), .tc (.sy (.int .u8) (.var 3)), .tc (.sy (.int .u8) (.var 4)), .tc (.sy (.int .u8) (.var 5)), .tc (.sy (.int .u8) (.var 6)), .tc (.sy .bool (.var 7)), .tc (.sy .bool (.var 8)), .tc (.sy (.int .u16) (.var 9)), .tc (.sy (.int .i64) (.var 10))]]
end Go.Proofs.YthabafmieebmmaaDoor
