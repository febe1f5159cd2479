/- isa.table tells the table. -/
import Derived.Test.YtkcnilnagppaiaaIsaTab
import Derived.Test.YtkcnilnagppaiaaProg
import Derived.KernelRfl
namespace Go.Proofs.Ytkcnilnagppaiaa
open Go

def base (P : Program) : Ctx := { P := P, L := 4294967296, pure := fun _ => false, glob := fun _ => none, sym := false, summ := fun _ => none }

theorem table_run : Runs (base Try.prog) 8 18 [] tableA := .mk (by kernel_rfl)
end Go.Proofs.Ytkcnilnagppaiaa
