/- isa.table tells the table. -/
import Derived.Test.YthabafmieebmmaaGreatDoorIsaTab
import Derived.Test.YthabafmieebmmaaGreatDoorProg
import Derived.Test.YthabafmieebmmaaGreatDoorMg6
import Derived.Test.YthabafmieebmmaaGreatDoorKcBase
namespace Go.Proofs.YthabafmieebmmaaGreatDoor
open Go

theorem table_run : RunIs (base Tryz.prog) 8 [] 155 [] (.leaf tableA) := .fast rfl (by kernel_rfl)
end Go.Proofs.YthabafmieebmmaaGreatDoor
