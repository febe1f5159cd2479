/- The law RulesKnown: its walk, by a run. -/
import Derived.Test.YtdafainfcegfkaaKnC
import Derived.Test.YtdafainfcegfkaaKcRulesKnown
set_option linter.unusedVariables false
namespace Go.Proofs.Ytdafainfcegfkaa
open Go Go.RowKit

theorem rulesKnown_run : RunIs CK 24 [] 6 [] (.leaf (.sc (.bool true))) := .code codeRulesKnown_ok rfl (by kernel_rfl)

theorem rulesKnown_walk (w : World) : Calls Try.prog 6 #[] w fun e w' => e = .returned (.bool true) ∧ Below w.heap.size w w' :=
  walk_closed (C := CK) rulesKnown_run (CK_ok _) rfl w
end Go.Proofs.Ytdafainfcegfkaa
