/- isa.table tells the table. -/
import Derived.Test.YthabafmieebmmaaDoorIsaTab
import Derived.Test.YthabafmieebmmaaDoorProg
import Derived.Test.YthabafmieebmmaaDoorMg6
import Derived.Test.YthabafmieebmmaaDoorKcBase
namespace Go.Proofs.YthabafmieebmmaaDoor
open Go

theorem table_run : RunIs (base Tryd.prog) 8 [] 88 [] (.leaf tableA) := .fast rfl (by kernel_rfl)
end Go.Proofs.YthabafmieebmmaaDoor
