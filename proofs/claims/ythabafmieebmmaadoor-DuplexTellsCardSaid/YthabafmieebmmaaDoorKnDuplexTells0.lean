/- The law DuplexTells: runs of it with what is told of small instructions. -/
import Derived.Test.YthabafmieebmmaaDoorKnD08
import Derived.Test.YthabafmieebmmaaDoorKnS07F
import Derived.Test.YthabafmieebmmaaDoorSyTab
import Derived.Test.YthabafmieebmmaaDoorMg8
import Derived.Test.YthabafmieebmmaaDoorRows
set_option linter.unusedVariables false
set_option linter.unusedSimpArgs false
set_option maxRecDepth 100000
namespace Go.Proofs.YthabafmieebmmaaDoor
open Go Go.RowKit

def duplexTells_facts : Facts := [(.cmp .geq (.var 0) (.lit 0), true), (.cmp .leq (.var 0) (.lit 4294967295), true), (.cmp .geq (.var 1) (.lit 0), true), (.cmp .leq (.var 1) (.lit 255), true), (.cmp .geq (.var 2) (.lit 0), true), (.cmp .leq (.var 2) (.lit 255), true), (.cmp .geq (.var 3) (.lit 0), true), (.cmp .leq (.var 3) (.lit 255), true), (.cmp .geq (.var 4) (.lit 0), true), (.cmp .leq (.var 4) (.lit 255), true), (.cmp .geq (.var 5) (.lit 0), true), (.cmp .leq (.var 5) (.lit 255), true), (.cmp .geq (.var 6) (.lit 0), true), (.cmp .leq (.var 6) (.lit 255), true), (.cmp .geq (.var 7) (.lit 0), true), (.cmp .leq (.var 7) (.lit 255), true), (.cmp .geq (.var 10) (.lit 0), true), (.cmp .leq (.var 10) (.lit 65535), true), (.cmp .geq (.var 11) (.lit (-9223372036854775808)), true), (.cmp .leq (.var 11) (.lit 9223372036854775807), true), (.cmp .geq (.var 12) (.lit 0), true), (.cmp .leq (.var 12) (.lit 255), true), (.cmp .geq (.var 13) (.lit 0), true), (.cmp .leq (.var 13) (.lit 255), true), (.cmp .geq (.var 14) (.lit 0), true), (.cmp .leq (.var 14) (.lit 255), true), (.cmp .geq (.var 15) (.lit 0), true), (.cmp .leq (.var 15) (.lit 255), true), (.cmp .geq (.var 16) (.lit 0), true), (.cmp .leq (.var 16) (.lit 255), true), (.cmp .geq (.var 17) (.lit 0), true), (.cmp .leq (.var 17) (.lit 255), true), (.cmp .geq (.var 18) (.lit 0), true), (.cmp .leq (.var 18) (.lit 255), true), (.cmp .geq (.var 21) (.lit 0), true), (.cmp .leq (.var 21) (.lit 65535), true), (.cmp .geq (.var 22) (.lit (-9223372036854775808)), true), (.cmp .leq (.var 22) (.lit 9223372036854775807), true)]
def duplexTells_args : List AV := [.tc (.sy (.int .u32) (.var 0)), .agg [.tc (.sy (.int .u8) (.var 1)), .tc (.sy (.int .u8) (.var 2)), .tc (.sy (.int .u8) (.var 3)), .tc (.sy (.int .u8) (.var 4)), .tc (.sy (.int .u8) (.var 5)), .tc (.sy (.int .u8) (.var 6)), .tc (.sy (.int .u8) (.var 7)), .tc (.sy .bool (.var 8)), .tc (.sy .bool (.var 9)), .tc (.sy (.int .u16) (.var 10)), .tc (.sy (.int .i64) (.var 11))], .agg [.tc (.sy (.int .u8) (.var 12)), .tc (.sy (.int .u8) (.var 13)), .tc (.sy (.int .u8) (.var 14)), .tc (.sy (.int .u8) (.var 15)), .tc (.sy (.int .u8) (.var 16)), .tc (.sy (.int .u8) (.var 17)), .tc (.sy (.int .u8) (.var 18)), .tc (.sy .bool (.var 19)), .tc (.sy .bool (.var 20)), .tc (.sy (.int .u16) (.var 21)), .tc (.sy (.int .i64) (.var 22))]]
def ta : AV := .agg [.tc (.sy (.int .u8) (.var 1)), .tc (.sy (.int .u8) (.var 2)), .tc (.sy (.int .u8) (.var 3)), .tc (.sy (.int .u8) (.var 4)), .tc (.sy (.int .u8) (.var 5)), .tc (.sy (.int .u8) (.var 6)), .tc (.sy (.int .u8) (.var 7)), .tc (.sy .bool (.var 8)), .tc (.sy .bool (.var 9)), .tc (.sy (.int .u16) (.var 10)), .tc (.sy (.int .i64) (.var 11))]
def tb : AV := .agg [.tc (.sy (.int .u8) (.var 12)), .tc (.sy (.int .u8) (.var 13)), .tc (.sy (.int .u8) (.var 14)), .tc (.sy (.int .u8) (.var 15)), .tc (.sy (.int .u8) (.var 16)), .tc (.sy (.int .u8) (.var 17)), .tc (.sy (.int .u8) (.var 18)), .tc (.sy .bool (.var 19)), .tc (.sy .bool (.var 20)), .tc (.sy (.int .u16) (.var 21)), .tc (.sy (.int .i64) (.var 22))]
def boolE (i : Nat) : AV := .tc (.sy .bool (.var i))
def tW : AV := u32E (.var 0)
def tX : AV := u16E (.var 33)
def tY : AV := u16E (.var 34)
def tA : AV := .agg [u8E (.var 23), u8E (.var 24), u8E (.var 25), u8E (.var 26), u8v 0, u8v 0, u8v 0, boolv false, boolv false, u16v 0, i64E (.var 27)]
def tB : AV := .agg [u8E (.var 28), u8E (.var 29), u8E (.var 30), u8E (.var 31), u8v 0, u8v 0, u8v 0, boolv false, boolv false, u16v 0, i64E (.var 32)]
def tZ : AV := inV zero7
def tSum : AV := u32E (addE (mulE (.var 33) 32768) (.var 34))
def tOf : List (List AV × AV) := [([ta], .tuple [u16E (.var 35), boolE 49]), ([tb], .tuple [u16E (.var 36), boolE 50])]
def tRef : List (List AV × AV) := [([ta], .tuple [i64E (.var 35), boolE 49]), ([tb], .tuple [i64E (.var 36), boolE 50])]
def tSt : List (List AV × AV) := [([ta], boolE 39), ([tb], boolE 40)]
def tWd : List (List AV × AV) := [([u16E (.var 35), u16E (.var 36)], u32E (.var 42)), ([u16E (.var 36), u16E (.var 35)], u32E (.var 43))]
def tJn : List (List AV × AV) := [([i64E (.var 35), i64E (.var 36)], u32E (.var 42)), ([i64E (.var 36), i64E (.var 35)], u32E (.var 43))]
/-- Told in each case. -/
def tBase (of_ st wd : List (List AV × AV)) : Tabs := [(21, tOf ++ of_), (22, tRef), (47, tSt ++ st), (49, tSt ++ st), (50, tWd ++ wd), (51, tJn)]
def tHalf (a b : List AV × AV) (y : Nat) (p : AV) : Tabs := [(48, [([tW], .tuple [i64E (.var 33), i64E (.var y), p])]), (20, [([i64E (.var 33)], a.2), ([i64E (.var 34)], b.2)]), (19, [a, b]), (46, [([tW], tSum)])]
def tInA (a : AV) (ok : AV) : List AV × AV := ([tX], .tuple [a, ok])
def tInB (b : AV) (ok : AV) : List AV × AV := ([tY], .tuple [b, ok])
def tParts (p : AV) : Tabs := [(32, [([tW], .tuple [u8E (.var 44), u32E (.var 45), p])])]
def tTabsP : Tabs := tParts (u8E (.var 46)) ++ tHalf (tInA tA (boolE 47)) (tInB tB (boolE 48)) 34 (i64E (.var 46)) ++ tBase [] [] []
def tTabsN (a b : Bool) : Tabs := tParts (u8v 0) ++ tHalf (tInA (cond a tA tZ) (boolv a)) (tInB (cond b tB tZ) (boolv b)) 34 (i64v 0) ++ tBase [] (cond a [([tA], boolE 37)] []) []
def tTabsK : Tabs := tParts (u8v 0) ++ tHalf (tInA tA (boolv true)) (tInB tB (boolv true)) 34 (i64v 0) ++ tBase [([tA], .tuple [tX, boolv true]), ([tB], .tuple [tY, boolv true])] [([tA], boolE 37), ([tB], boolE 38)] [([tX, tY], tW), ([tY, tX], u32E (.var 41))]
def tTabsE : Tabs := tParts (u8v 0) ++ tHalf (tInA tA (boolv true)) (tInB tA (boolv true)) 33 (i64v 0) ++ tBase [([tA], .tuple [tX, boolv true])] [([tA], boolE 37)] [([tX, tX], tW)]
def dif (a b : Nat) : Sx := addE (.var a) (mulE (.var b) (-1))
def tR : Facts := [(.cmp .geq (.var 33) (.lit 0), true), (.cmp .leq (.var 33) (.lit 32767), true), (.cmp .geq (.var 34) (.lit 0), true), (.cmp .leq (.var 34) (.lit 32767), true), (.cmp .geq (.var 35) (.lit 0), true), (.cmp .leq (.var 35) (.lit 20479), true), (.cmp .geq (.var 36) (.lit 0), true), (.cmp .leq (.var 36) (.lit 20479), true)]
def tF : Facts := tR ++ duplexTells_facts
def tFp : Facts := (.cmp .eql (.var 46) (.lit 0), false) :: (.cmp .geq (.var 46) (.lit 0), true) :: (.cmp .leq (.var 46) (.lit 3), true) :: tF
def tF0 : Facts := (.cmp .eql (dif 0 41) (.lit 0), false) :: (.cmp .geq (.var 41) (.lit 0), true) :: (.cmp .leq (.var 41) (.lit 4294967295), true) :: tF
def tFlt : Facts := (.cmp .leq (dif 33 34) (.lit 0), true) :: (.cmp .leq (dif 33 34) (.lit (-1)), true) :: tF0
def tFgt : Facts := (.cmp .leq (dif 33 34) (.lit (-1)), false) :: (.cmp .leq (dif 33 34) (.lit 0), false) :: tF0
/-- Which of the two have numbers, which are stores. -/
def tK (k : Nat) : Facts := match k with
  | 0 => [(.var 49, false)]
  | 1 => [(.var 49, true), (.var 50, false)]
  | 2 => [(.var 49, true), (.var 50, true), (.var 39, false), (.var 40, false)]
  | 3 => [(.var 49, true), (.var 50, true), (.var 39, false), (.var 40, true)]
  | 4 => [(.var 49, true), (.var 50, true), (.var 39, true), (.var 40, false)]
  | _ => [(.var 49, true), (.var 50, true), (.var 39, true), (.var 40, true)]
end Go.Proofs.YthabafmieebmmaaDoor
