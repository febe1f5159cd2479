/- The law SymsKnown: its walk, by a run. -/
import Derived.Test.YtdafainfcegfkaaKnC
set_option linter.unusedVariables false
namespace Go.Proofs.Ytdafainfcegfkaa
open Go Go.RowKit

theorem symsKnown_run : RunIs CK 24 [] 4 [] (.leaf (.sc (.bool true))) := .mk (by kernel_rfl)

theorem symsKnown_walk (w : World) : Calls Try.prog 4 #[] w fun e w' => e = .returned (.bool true) ∧ Below w.heap.size w w' :=
  walk_closed (C := CK) symsKnown_run (CK_ok _) rfl w
end Go.Proofs.Ytdafainfcegfkaa
