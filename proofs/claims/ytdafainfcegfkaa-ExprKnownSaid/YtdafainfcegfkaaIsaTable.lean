/- isa.table tells the table. -/
import Derived.Test.YtdafainfcegfkaaIsaTab
import Derived.Test.YtdafainfcegfkaaProg
import Derived.Test.YtdafainfcegfkaaSyLaw
import Derived.Test.YtdafainfcegfkaaKcBase
namespace Go.Proofs.Ytdafainfcegfkaa
open Go

theorem table_run : RunIs (base Try.prog) 8 [] 110 [] (.leaf tableA) := .fast rfl (by kernel_rfl)
end Go.Proofs.Ytdafainfcegfkaa
