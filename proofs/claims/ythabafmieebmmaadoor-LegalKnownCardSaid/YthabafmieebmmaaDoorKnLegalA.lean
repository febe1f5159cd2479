/- Legal packets: the law's runs, one by one. -/
import Derived.Test.YthabafmieebmmaaDoorKnC
import Derived.Test.YthabafmieebmmaaDoorMg8
import Derived.Test.YthabafmieebmmaaDoorKcLegalKnown
import Derived.Test.YthabafmieebmmaaDoorRows
set_option linter.unusedVariables false
set_option maxRecDepth 100000
namespace Go.Proofs.YthabafmieebmmaaDoor
open Go Go.RowKit

noncomputable def CL0 : Ctx := { CK with glob := globAt globLegalKnown }
theorem CL0_ok (ρ : Env) : Summ ρ CL0 := Summ.glob (CK_ok ρ) rfl _

theorem legalAwake_run : RunIs CL0 60 [] 18 [] (.leaf (.sc (.bool true))) := .code codeLegalKnown_ok rfl (by kernel_rfl)
def legalCa0 : AV := .tc (.sl 11 [[.sc (.int .u8 2), .sc (.int .u8 1), .sc (.int .u8 2), .sc (.int .u8 3), .sc (.int .u8 0), .sc (.int .u8 0), .sc (.int .u8 0), .sc (.bool false), .sc (.bool false), .sc (.int .u16 0), .sc (.int .i64 0)], [.sc (.int .u8 8), .sc (.int .u8 0), .sc (.int .u8 0), .sc (.int .u8 0), .sc (.int .u8 0), .sc (.int .u8 0), .sc (.int .u8 0), .sc (.bool false), .sc (.bool false), .sc (.int .u16 0), .sc (.int .i64 0)], [.sc (.int .u8 8), .sc (.int .u8 1), .sc (.int .u8 0), .sc (.int .u8 0), .sc (.int .u8 0), .sc (.int .u8 0), .sc (.int .u8 0), .sc (.bool false), .sc (.bool false), .sc (.int .u16 0), .sc (.int .i64 0)]])
def legalCr0 : AV := .tuple [.tc (.sc (.int .i64 1)), .tc (.sc (.int .i64 2)), .tc (.sc (.bool true))]
theorem legalChoose0_run : RunIs CL0 60 [] 16 [legalCa0] (.leaf legalCr0) := .code codeLegalKnown_ok rfl (by kernel_rfl)
def legalCa1 : AV := .tc (.sl 11 [[.sc (.int .u8 21), .sc (.int .u8 0), .sc (.int .u8 0), .sc (.int .u8 0), .sc (.int .u8 0), .sc (.int .u8 0), .sc (.int .u8 0), .sc (.bool false), .sc (.bool false), .sc (.int .u16 0), .sc (.int .i64 0)], [.sc (.int .u8 8), .sc (.int .u8 1), .sc (.int .u8 0), .sc (.int .u8 0), .sc (.int .u8 0), .sc (.int .u8 0), .sc (.int .u8 0), .sc (.bool false), .sc (.bool false), .sc (.int .u16 0), .sc (.int .i64 0)], [.sc (.int .u8 8), .sc (.int .u8 2), .sc (.int .u8 0), .sc (.int .u8 0), .sc (.int .u8 0), .sc (.int .u8 0), .sc (.int .u8 0), .sc (.bool false), .sc (.bool false), .sc (.int .u16 0), .sc (.int .i64 0)], [.sc (.int .u8 23), .sc (.int .u8 3), .sc (.int .u8 0), .sc (.int .u8 0), .sc (.int .u8 0), .sc (.int .u8 0), .sc (.int .u8 0), .sc (.bool false), .sc (.bool false), .sc (.int .u16 0), .sc (.int .i64 0)]])
def legalCr1 : AV := .tuple [.tc (.sc (.int .i64 0)), .tc (.sc (.int .i64 3)), .tc (.sc (.bool true))]
theorem legalChoose1_run : RunIs CL0 60 [] 16 [legalCa1] (.leaf legalCr1) := .code codeLegalKnown_ok rfl (by kernel_rfl)
def legalCa2 : AV := .tc (.sl 11 [[.sc (.int .u8 8), .sc (.int .u8 0), .sc (.int .u8 0), .sc (.int .u8 0), .sc (.int .u8 0), .sc (.int .u8 0), .sc (.int .u8 0), .sc (.bool false), .sc (.bool false), .sc (.int .u16 0), .sc (.int .i64 0)], [.sc (.int .u8 1), .sc (.int .u8 0), .sc (.int .u8 0), .sc (.int .u8 0), .sc (.int .u8 0), .sc (.int .u8 0), .sc (.int .u8 0), .sc (.bool false), .sc (.bool false), .sc (.int .u16 0), .sc (.int .i64 0)]])
def legalCr2 : AV := .tuple [.tc (.sc (.int .i64 0)), .tc (.sc (.int .i64 0)), .tc (.sc (.bool false))]
theorem legalChoose2_run : RunIs CL0 60 [] 16 [legalCa2] (.leaf legalCr2) := .code codeLegalKnown_ok rfl (by kernel_rfl)
end Go.Proofs.YthabafmieebmmaaDoor
