/- isa.table tells the table. -/
import Derived.Test.YtgpijioodocplaaIsaTab
import Derived.Test.YtgpijioodocplaaProg
import Derived.Test.YtgpijioodocplaaMg6
import Derived.Test.YtgpijioodocplaaKcBase
namespace Go.Proofs.Ytgpijioodocplaa
open Go

theorem table_run : RunIs (base Try.prog) 8 [] 37 [] (.leaf tableA) := .fast rfl (by kernel_rfl)
end Go.Proofs.Ytgpijioodocplaa
