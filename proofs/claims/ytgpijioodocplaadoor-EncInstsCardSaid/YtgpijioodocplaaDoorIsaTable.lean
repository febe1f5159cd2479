/- isa.table tells the table. -/
import Derived.Test.YtgpijioodocplaaDoorIsaTab
import Derived.Test.YtgpijioodocplaaDoorProg
import Derived.Test.YtgpijioodocplaaDoorMg6
import Derived.Test.YtgpijioodocplaaDoorKcBase
namespace Go.Proofs.YtgpijioodocplaaDoor
open Go

theorem table_run : RunIs (base Tryd.prog) 8 [] 57 [] (.leaf tableA) := .fast rfl (by kernel_rfl)
end Go.Proofs.YtgpijioodocplaaDoor
