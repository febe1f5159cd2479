/- The law LexKnown: its walk, by a run. -/
import Derived.Test.YtdafainfcegfkaaKnC
import Derived.Test.YtdafainfcegfkaaKcLexKnown
set_option linter.unusedVariables false
namespace Go.Proofs.Ytdafainfcegfkaa
open Go Go.RowKit

theorem lexKnown_run : RunIs CK 24 [] 3 [] (.leaf (.sc (.bool true))) := .code codeLexKnown_ok rfl (by kernel_rfl)

theorem lexKnown_walk (w : World) : Calls Try.prog 3 #[] w fun e w' => e = .returned (.bool true) ∧ Below w.heap.size w w' :=
  walk_closed (C := CK) lexKnown_run (CK_ok _) rfl w
end Go.Proofs.Ytdafainfcegfkaa
