/- isa.table tells the table. -/
import Derived.Test.YtamhmfdbnlkmkaaIsaTab
import Derived.Test.YtamhmfdbnlkmkaaProg
import Derived.Test.YtamhmfdbnlkmkaaMg6
import Derived.Test.YtamhmfdbnlkmkaaKcBase
namespace Go.Proofs.Ytamhmfdbnlkmkaa
open Go

theorem table_run : RunIs (base Try.prog) 8 [] 73 [] (.leaf tableA) := .fast rfl (by kernel_rfl)
end Go.Proofs.Ytamhmfdbnlkmkaa
