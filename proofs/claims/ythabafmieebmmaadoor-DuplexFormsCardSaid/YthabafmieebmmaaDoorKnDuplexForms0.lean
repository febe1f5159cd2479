/- The law DuplexForms: runs of it with what is told of small instructions. -/
import Derived.Test.YthabafmieebmmaaDoorKnD08
import Derived.Test.YthabafmieebmmaaDoorSyTab
import Derived.Test.YthabafmieebmmaaDoorMg8
import Derived.Test.YthabafmieebmmaaDoorRows
set_option linter.unusedVariables false
set_option linter.unusedSimpArgs false
set_option maxRecDepth 100000
namespace Go.Proofs.YthabafmieebmmaaDoor
open Go Go.RowKit

def duplexForms_facts : Facts := [(.cmp .geq (.var 0) (.lit 0), true), (.cmp .leq (.var 0) (.lit 4294967295), true)]
def duplexForms_args : List AV := [.tc (.sy (.int .u32) (.var 0))]
def gW : AV := u32E (.var 0)
def gV : AV := u32E (.var 13)
def gX : AV := u16E (.var 11)
def gY : AV := u16E (.var 12)
/-- Two instructions; the first k cells are the same. -/
def gA : AV := .agg [u8E (.var 1), u8E (.var 2), u8E (.var 3), u8E (.var 4), u8v 0, u8v 0, u8v 0, boolv false, boolv false, u16v 0, i64E (.var 5)]
def gB (k : Nat) : AV := .agg [u8E (.var (cond (Nat.blt 0 k) 1 6)), u8E (.var (cond (Nat.blt 1 k) 2 7)), u8E (.var (cond (Nat.blt 2 k) 3 8)), u8E (.var (cond (Nat.blt 3 k) 4 9)), u8v 0, u8v 0, u8v 0, boolv false, boolv false, u16v 0, i64E (.var 10)]
def gZ : AV := inV zero7
def gSum (x y : Nat) : AV := u32E (addE (mulE (.var x) 32768) (.var y))
/-- No duplex by its parse bits. -/
def gTabsP : Tabs := [(32, [([gW], .tuple [u8E (.var 17), u32E (.var 18), u8E (.var 16)])])]
def gFp : Facts := (.cmp .eql (.var 16) (.lit 0), false) :: (.cmp .geq (.var 16) (.lit 0), true) :: (.cmp .leq (.var 16) (.lit 3), true) :: duplexForms_facts
def gP0 : List (List AV × AV) := [([gW], .tuple [u8E (.var 17), u32E (.var 18), u8v 0])]
def xRng : Facts := [(.cmp .geq (.var 11) (.lit 0), true), (.cmp .leq (.var 11) (.lit 32767), true), (.cmp .geq (.var 12) (.lit 0), true), (.cmp .leq (.var 12) (.lit 32767), true)]
def gFx : Facts := xRng ++ duplexForms_facts
/-- One of the halves is none. -/
def gTabsN (a b : Bool) : Tabs := [(32, gP0), (46, [([gW], gSum 11 12)]), (19, [([gX], .tuple [cond a gA gZ, boolv a]), ([gY], .tuple [cond b (gB 0) gZ, boolv b])])]
/-- Both are some. -/
def gTabsK (k : Nat) : Tabs := [(32, [([gW], .tuple [u8E (.var 17), u32E (.var 18), u8v 0]), ([gV], .tuple [u8E (.var 19), u32E (.var 20), u8v 0])]), (46, [([gW], gSum 11 12), ([gV], gSum 12 11)]),
  (19, [([gX], .tuple [gA, boolv true]), ([gY], .tuple [gB k, boolv true])]), (21, [([gA], .tuple [gX, boolv true]), ([gB k], .tuple [gY, boolv true])]),
  (47, [([gA], .tc (.sy .bool (.var 14))), ([gB k], .tc (.sy .bool (.var 15)))]), (50, [([gX, gY], gW), ([gY, gX], gV)])]
/-- Both are the same. -/
def gTabsE : Tabs := [(32, gP0), (46, [([gW], gSum 11 12)]), (19, [([gX], .tuple [gA, boolv true]), ([gY], .tuple [gA, boolv true])]), (21, [([gA], .tuple [gX, boolv true])]),
  (47, [([gA], .tc (.sy .bool (.var 14)))]), (50, [([gX, gX], gW)])]
def dif (a b : Nat) : Sx := addE (.var a) (mulE (.var b) (-1))
def cellA (k : Nat) : Nat := k + 1
def cellB (k : Nat) : Nat := k + 6
def cRng : Facts := [(.cmp .geq (.var 1) (.lit 0), true), (.cmp .leq (.var 1) (.lit 255), true), (.cmp .geq (.var 2) (.lit 0), true), (.cmp .leq (.var 2) (.lit 255), true), (.cmp .geq (.var 3) (.lit 0), true), (.cmp .leq (.var 3) (.lit 255), true), (.cmp .geq (.var 4) (.lit 0), true), (.cmp .leq (.var 4) (.lit 255), true), (.cmp .geq (.var 5) (.lit (-64)), true), (.cmp .leq (.var 5) (.lit 127), true), (.cmp .geq (.var 6) (.lit 0), true), (.cmp .leq (.var 6) (.lit 255), true), (.cmp .geq (.var 7) (.lit 0), true), (.cmp .leq (.var 7) (.lit 255), true), (.cmp .geq (.var 8) (.lit 0), true), (.cmp .leq (.var 8) (.lit 255), true), (.cmp .geq (.var 9) (.lit 0), true), (.cmp .leq (.var 9) (.lit 255), true), (.cmp .geq (.var 10) (.lit (-64)), true), (.cmp .leq (.var 10) (.lit 127), true)]
def gF0 (k : Nat) : Facts := (.cmp .eql (dif (cellA k) (cellB k)) (.lit 0), false) :: (.cmp .eql (dif 0 13) (.lit 0), false) :: (.cmp .geq (.var 13) (.lit 0), true) :: (.cmp .leq (.var 13) (.lit 4294967295), true) :: (cRng ++ gFx)
def gFlt (k : Nat) : Facts := (.cmp .leq (dif 11 12) (.lit 0), true) :: (.cmp .leq (dif 11 12) (.lit (-1)), true) :: gF0 k
def gFgt (k : Nat) : Facts := (.cmp .leq (dif 11 12) (.lit (-1)), false) :: (.cmp .leq (dif 11 12) (.lit 0), false) :: gF0 k
end Go.Proofs.YthabafmieebmmaaDoor
