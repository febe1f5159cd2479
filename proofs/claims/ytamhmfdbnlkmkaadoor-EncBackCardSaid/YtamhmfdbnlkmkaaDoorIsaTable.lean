/- isa.table tells the table. -/
import Derived.Test.YtamhmfdbnlkmkaaDoorIsaTab
import Derived.Test.YtamhmfdbnlkmkaaDoorProg
import Derived.Test.YtamhmfdbnlkmkaaDoorMg6
import Derived.Test.YtamhmfdbnlkmkaaDoorKcBase
namespace Go.Proofs.YtamhmfdbnlkmkaaDoor
open Go

theorem table_run : RunIs (base Tryd.prog) 8 [] 65 [] (.leaf tableA) := .fast rfl (by kernel_rfl)
end Go.Proofs.YtamhmfdbnlkmkaaDoor
