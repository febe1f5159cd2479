/- coxlessref07.Of: its loop, round by round. -/
import Derived.Test.YthabafmieebmmaaDoorKnS07R
import Derived.Test.YthabafmieebmmaaDoorSyTab
import Derived.Test.YthabafmieebmmaaDoorSyHoare2
set_option linter.unusedVariables false
set_option linter.unusedSimpArgs false
set_option maxRecDepth 100000
namespace Go.Proofs.YthabafmieebmmaaDoor
open Go Go.RowKit

def cL : Code → Code
  | .seq a _ => a
  | c => c
def cR : Code → Code
  | .seq _ b => b
  | c => c
def cB : Code → Code
  | .block _ b => b
  | .loop b => b
  | c => c
noncomputable def ofFn : Func := (XP.funcs[22]?).getD default
noncomputable def ofC : Code := ofFn.body.getD .skip
noncomputable def ofP : Code := cL ofC
noncomputable def ofQ : Code := cL (cL (cR ofC))
noncomputable def ofB : Code := cB (cB (cR (cL (cR ofC))))
noncomputable def ofE : Code := cR (cR ofC)
theorem ofFn_at : XP.funcs[22]? = some ofFn := by kernel_rfl
theorem ofFn_body : ofFn.body = some (.seq ofP (.seq (.seq ofQ (.block 0 (.loop ofB))) ofE)) := by kernel_rfl
theorem ofFn_res : ofFn.results.toList = [.tmp 2, .tmp 3] := by kernel_rfl
theorem ofFn_n : ofFn.ntmps = 23 := by kernel_rfl

abbrev i64V (n : Int) : AV := .tc (.sc (.int .i64 n))
def rIn : AV := .agg [.tc (.sy (.int .u8) (.var 0)), .tc (.sy (.int .u8) (.var 1)), .tc (.sy (.int .u8) (.var 2)), .tc (.sy (.int .u8) (.var 3)), .tc (.sy (.int .u8) (.var 4)), .tc (.sy (.int .u8) (.var 5)), .tc (.sy (.int .u8) (.var 6)), .tc (.sy .bool (.var 7)), .tc (.sy .bool (.var 8)), .tc (.sy (.int .u16) (.var 9)), .tc (.sy (.int .i64) (.var 10))]
def rHeap : Heap := [.tcells 11 [[.sy (.int .u8) (.var 0), .sy (.int .u8) (.var 1), .sy (.int .u8) (.var 2), .sy (.int .u8) (.var 3), .sy (.int .u8) (.var 4), .sy (.int .u8) (.var 5), .sy (.int .u8) (.var 6), .sy .bool (.var 7), .sy .bool (.var 8), .sy (.int .u16) (.var 9), .sy (.int .i64) (.var 10)]]]
def rA : AV := .agg [.tc (.sy (.int .u8) (.var 12)), .tc (.sy (.int .u8) (.var 13)), .tc (.sy (.int .u8) (.var 14)), .tc (.sy (.int .u8) (.var 15)), u8v 0, u8v 0, u8v 0, .tc (.sc (.bool false)), .tc (.sc (.bool false)), .tc (.sc (.int .u16 0)), .tc (.sy (.int .i64) (.var 16))]
def rT (s : AV) : Tmps := [.any, .ptr 0 11 0 0 1, .any, .any, s, .any, .any, .any, .any, .any, .any, .any, .any, .any, .any, .any, .any, .any, .any, .any, .any, .any, .any]
def rRet (a b : AV) : Tmps := [.any, .any, a, b, .any, .any, .any, .any, .any, .any, .any, .any, .any, .any, .any, .any, .any, .any, .any, .any, .any, .any, .any]
def rInit : Tmps := [rIn, undefA, undefA, undefA, undefA, undefA, undefA, undefA, undefA, undefA, undefA, undefA, undefA, undefA, undefA, undefA, undefA, undefA, undefA, undefA, undefA, undefA, undefA]
def rS : AV := .tc (.sy (.int .i64) (.var 11))
def rF : Facts := (.cmp .geq (.var 11) (.lit 0), true) :: (.cmp .leq (.var 11) (.lit 32767), true) :: (.cmp .geq (.var 12) (.lit 0), true) :: (.cmp .leq (.var 12) (.lit 255), true) :: (.cmp .geq (.var 13) (.lit 0), true) :: (.cmp .leq (.var 13) (.lit 255), true) :: (.cmp .geq (.var 14) (.lit 0), true) :: (.cmp .leq (.var 14) (.lit 255), true) :: (.cmp .geq (.var 15) (.lit 0), true) :: (.cmp .leq (.var 15) (.lit 255), true) :: (.cmp .geq (.var 16) (.lit (-64)), true) :: (.cmp .leq (.var 16) (.lit 127), true) :: inF
def rTabs (ok : Bool) : Tabs := [(20, [([rS], .tuple [cond ok rA (inV zero7), .tc (.sc (.bool ok))])])]
def rEq : Sx := conjE [.cmp .eql (.var 12) (.var 0), .cmp .eql (.var 13) (.var 1), .cmp .eql (.var 14) (.var 2), .cmp .eql (.var 15) (.var 3), .cmp .eql (.var 4) (.lit 0), .cmp .eql (.var 5) (.lit 0), .cmp .eql (.var 6) (.lit 0), .not (.var 7), .not (.var 8), .cmp .eql (.var 9) (.lit 0), .cmp .eql (.var 16) (.var 10)]
def rNext : Out := .leaf (encSH .normal (rT (.tc (.sy (.int .i64) (addE (.var 11) (.lit 1))))) rHeap)
def rHit : Out := .leaf (encSH .ret (rRet rS (.tc (.sc (.bool true)))) rHeap)
theorem ofP_run : FragHIs CA07 24 inF #[] ofP rInit [] (.leaf (encSH .normal (rT .any) rHeap)) := .mk (by kernel_rfl)
theorem ofQ_run : FragHIs CA07 24 inF #[] ofQ (rT .any) rHeap (.leaf (encSH .normal (rT (i64V 0)) rHeap)) := .mk (by kernel_rfl)
theorem ofB_end : FragHIs CA07 24 inF #[] ofB (rT (i64V 32768)) rHeap (.leaf (encSH (.exit 0) (rT (i64V 32768)) rHeap)) := .mk (by kernel_rfl)
theorem ofE_run : FragHIs CA07 24 inF #[] ofE (rT (i64V 32768)) rHeap (.leaf (encSH .ret (rRet (i64V 0) (.tc (.sc (.bool false)))) rHeap)) := .mk (by kernel_rfl)
theorem ofB_no : FragHIs (ctxT CA07 rF (rTabs false)) 24 rF #[] ofB (rT rS) rHeap rNext := .mk (by kernel_rfl)
theorem ofB_yes : FragHIs (ctxT CA07 rF (rTabs true)) 24 rF #[] ofB (rT rS) rHeap (.sel rEq rHit rNext) := .mk (by kernel_rfl)

end Go.Proofs.YthabafmieebmmaaDoor
