/- The law ExtKnown: its walk, by a run. -/
import Derived.Test.YtdafainfcegfkaaKnC
set_option linter.unusedVariables false
namespace Go.Proofs.Ytdafainfcegfkaa
open Go Go.RowKit

theorem extKnown_run : RunIs CK 24 [] 5 [] (.leaf (.sc (.bool true))) := .mk (by kernel_rfl)

theorem extKnown_walk (w : World) : Calls Try.prog 5 #[] w fun e w' => e = .returned (.bool true) ∧ Below w.heap.size w w' :=
  walk_closed (C := CK) extKnown_run (CK_ok _) rfl w
end Go.Proofs.Ytdafainfcegfkaa
