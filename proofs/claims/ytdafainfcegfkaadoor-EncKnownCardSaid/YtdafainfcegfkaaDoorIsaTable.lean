/- isa.table tells the table. -/
import Derived.Test.YtdafainfcegfkaaDoorIsaTab
import Derived.Test.YtdafainfcegfkaaDoorProg
import Derived.Test.YtdafainfcegfkaaDoorSyLaw
import Derived.Test.YtdafainfcegfkaaDoorKcBase
namespace Go.Proofs.YtdafainfcegfkaaDoor
open Go

theorem table_run : RunIs (base Tryd.prog) 8 [] 79 [] (.leaf tableA) := .fast rfl (by kernel_rfl)
end Go.Proofs.YtdafainfcegfkaaDoor
