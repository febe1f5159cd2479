/- The law DuplexBack: runs of it with what is told of small instructions. -/
import Derived.Test.YthabafmieebmmaaDoorKnD08
import Derived.Test.YthabafmieebmmaaDoorSyTab
import Derived.Test.YthabafmieebmmaaDoorMg8
import Derived.Test.YthabafmieebmmaaDoorRows
set_option linter.unusedVariables false
set_option linter.unusedSimpArgs false
set_option maxRecDepth 100000
namespace Go.Proofs.YthabafmieebmmaaDoor
open Go Go.RowKit

def duplexBack_facts : Facts := [(.cmp .geq (.var 0) (.lit 0), true), (.cmp .leq (.var 0) (.lit 255), true), (.cmp .geq (.var 1) (.lit 0), true), (.cmp .leq (.var 1) (.lit 255), true), (.cmp .geq (.var 2) (.lit 0), true), (.cmp .leq (.var 2) (.lit 255), true), (.cmp .geq (.var 3) (.lit 0), true), (.cmp .leq (.var 3) (.lit 255), true), (.cmp .geq (.var 4) (.lit 0), true), (.cmp .leq (.var 4) (.lit 255), true), (.cmp .geq (.var 5) (.lit 0), true), (.cmp .leq (.var 5) (.lit 255), true), (.cmp .geq (.var 6) (.lit 0), true), (.cmp .leq (.var 6) (.lit 255), true), (.cmp .geq (.var 9) (.lit 0), true), (.cmp .leq (.var 9) (.lit 65535), true), (.cmp .geq (.var 10) (.lit (-9223372036854775808)), true), (.cmp .leq (.var 10) (.lit 9223372036854775807), true), (.cmp .geq (.var 11) (.lit 0), true), (.cmp .leq (.var 11) (.lit 255), true), (.cmp .geq (.var 12) (.lit 0), true), (.cmp .leq (.var 12) (.lit 255), true), (.cmp .geq (.var 13) (.lit 0), true), (.cmp .leq (.var 13) (.lit 255), true), (.cmp .geq (.var 14) (.lit 0), true), (.cmp .leq (.var 14) (.lit 255), true), (.cmp .geq (.var 15) (.lit 0), true), (.cmp .leq (.var 15) (.lit 255), true), (.cmp .geq (.var 16) (.lit 0), true), (.cmp .leq (.var 16) (.lit 255), true), (.cmp .geq (.var 17) (.lit 0), true), (.cmp .leq (.var 17) (.lit 255), true), (.cmp .geq (.var 20) (.lit 0), true), (.cmp .leq (.var 20) (.lit 65535), true), (.cmp .geq (.var 21) (.lit (-9223372036854775808)), true), (.cmp .leq (.var 21) (.lit 9223372036854775807), true)]
def duplexBack_args : List AV := [.agg [.tc (.sy (.int .u8) (.var 0)), .tc (.sy (.int .u8) (.var 1)), .tc (.sy (.int .u8) (.var 2)), .tc (.sy (.int .u8) (.var 3)), .tc (.sy (.int .u8) (.var 4)), .tc (.sy (.int .u8) (.var 5)), .tc (.sy (.int .u8) (.var 6)), .tc (.sy .bool (.var 7)), .tc (.sy .bool (.var 8)), .tc (.sy (.int .u16) (.var 9)), .tc (.sy (.int .i64) (.var 10))], .agg [.tc (.sy (.int .u8) (.var 11)), .tc (.sy (.int .u8) (.var 12)), .tc (.sy (.int .u8) (.var 13)), .tc (.sy (.int .u8) (.var 14)), .tc (.sy (.int .u8) (.var 15)), .tc (.sy (.int .u8) (.var 16)), .tc (.sy (.int .u8) (.var 17)), .tc (.sy .bool (.var 18)), .tc (.sy .bool (.var 19)), .tc (.sy (.int .u16) (.var 20)), .tc (.sy (.int .i64) (.var 21))]]
def dA : AV := .agg [.tc (.sy (.int .u8) (.var 0)), .tc (.sy (.int .u8) (.var 1)), .tc (.sy (.int .u8) (.var 2)), .tc (.sy (.int .u8) (.var 3)), .tc (.sy (.int .u8) (.var 4)), .tc (.sy (.int .u8) (.var 5)), .tc (.sy (.int .u8) (.var 6)), .tc (.sy .bool (.var 7)), .tc (.sy .bool (.var 8)), .tc (.sy (.int .u16) (.var 9)), .tc (.sy (.int .i64) (.var 10))]
def dB : AV := .agg [.tc (.sy (.int .u8) (.var 11)), .tc (.sy (.int .u8) (.var 12)), .tc (.sy (.int .u8) (.var 13)), .tc (.sy (.int .u8) (.var 14)), .tc (.sy (.int .u8) (.var 15)), .tc (.sy (.int .u8) (.var 16)), .tc (.sy (.int .u8) (.var 17)), .tc (.sy .bool (.var 18)), .tc (.sy .bool (.var 19)), .tc (.sy (.int .u16) (.var 20)), .tc (.sy (.int .i64) (.var 21))]
def noOf : AV := .tuple [u16v 0, boolv false]
def dX : AV := u16E (.var 22)
def dY : AV := u16E (.var 23)
/-- Both have numbers: what is no field is nothing; the first k cells are the same. -/
def dP : AV := .agg [u8E (.var 0), u8E (.var 1), u8E (.var 2), u8E (.var 3), u8v 0, u8v 0, u8v 0, boolv false, boolv false, u16v 0, i64E (.var 10)]
def dQ (k : Nat) : AV := .agg [u8E (.var (cond (Nat.blt 0 k) 0 11)), u8E (.var (cond (Nat.blt 1 k) 1 12)), u8E (.var (cond (Nat.blt 2 k) 2 13)), u8E (.var (cond (Nat.blt 3 k) 3 14)), u8v 0, u8v 0, u8v 0, boolv false, boolv false, u16v 0, i64E (.var 21)]
def dTabsK (k : Nat) : Tabs := [
  (21, [([dP], .tuple [dX, boolv true]), ([dQ k], .tuple [dY, boolv true])]),
  (19, [([dX], .tuple [dP, boolv true]), ([dY], .tuple [dQ k, boolv true])]),
  (47, [([dP], .tc (.sy .bool (.var 24))), ([dQ k], .tc (.sy .bool (.var 25)))]),
  (50, [([dX, dY], u32E (.var 26)), ([dY, dX], u32E (.var 27))]),
  (46, [([u32E (.var 26)], u32E (addE (mulE (.var 22) 32768) (.var 23))), ([u32E (.var 27)], u32E (addE (mulE (.var 23) 32768) (.var 22)))]),
  (32, [([u32E (.var 26)], .tuple [u8E (.var 28), u32E (.var 29), u8v 0]), ([u32E (.var 27)], .tuple [u8E (.var 30), u32E (.var 31), u8v 0])])]
def cellA (k : Nat) : Nat := cond (Nat.blt k 4) k 10
def cellB (k : Nat) : Nat := cond (Nat.blt k 4) (k + 11) 21
def dArgsK (k : Nat) : List AV := [dP, dQ k]
def immR : Facts := [(.cmp .geq (.var 10) (.lit (-64)), true), (.cmp .leq (.var 10) (.lit 127), true), (.cmp .geq (.var 21) (.lit (-64)), true), (.cmp .leq (.var 21) (.lit 127), true)]

/-- Where both have one number, they are one. -/
def dTabsE : Tabs := [
  (21, [([dA], .tuple [dX, boolv true])]),
  (19, [([dX], .tuple [dA, boolv true]), ([dY], .tuple [dA, boolv true])]),
  (47, [([dA], .tc (.sy .bool (.var 24)))]),
  (50, [([dX, dX], u32E (.var 26))]),
  (46, [([u32E (.var 26)], u32E (addE (mulE (.var 22) 32768) (.var 23)))]),
  (32, [([u32E (.var 26)], .tuple [u8E (.var 28), u32E (.var 29), u8v 0])])]
/-- One has none. -/
def dTabsN (a b : Bool) : Tabs := [(21, [([dA], cond a (.tuple [dX, boolv true]) noOf), ([dB], cond b (.tuple [dY, boolv true]) noOf)])]
def xRng : Facts := [(.cmp .geq (.var 22) (.lit 0), true), (.cmp .leq (.var 22) (.lit 20479), true), (.cmp .geq (.var 23) (.lit 0), true), (.cmp .leq (.var 23) (.lit 20479), true)]
def wRng : Facts := [(.cmp .geq (.var 26) (.lit 0), true), (.cmp .leq (.var 26) (.lit 4294967295), true), (.cmp .geq (.var 27) (.lit 0), true), (.cmp .leq (.var 27) (.lit 4294967295), true)]
def dif (a b : Nat) : Sx := addE (.var a) (mulE (.var b) (-1))
def dF0 (k : Nat) : Facts := (.cmp .eql (dif (cellA k) (cellB k)) (.lit 0), false) :: (.cmp .eql (dif 26 27) (.lit 0), false) :: (immR ++ (wRng ++ (xRng ++ duplexBack_facts)))
def dFlt (k : Nat) : Facts := (.cmp .leq (dif 22 23) (.lit 0), true) :: (.cmp .leq (dif 22 23) (.lit (-1)), true) :: dF0 k
def dFgt (k : Nat) : Facts := (.cmp .leq (dif 22 23) (.lit (-1)), false) :: (.cmp .leq (dif 22 23) (.lit 0), false) :: dF0 k
def dFeq : Facts := xRng ++ duplexBack_facts
def duplexBack_argsE : List AV := [dA, dA]
end Go.Proofs.YthabafmieebmmaaDoor
