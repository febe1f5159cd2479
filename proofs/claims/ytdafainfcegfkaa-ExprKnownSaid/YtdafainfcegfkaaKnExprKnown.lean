/- The law ExprKnown: its walk, by a run. -/
import Derived.Test.YtdafainfcegfkaaKnExprC
import Derived.Test.YtdafainfcegfkaaKcExprKnown
set_option linter.unusedVariables false
namespace Go.Proofs.Ytdafainfcegfkaa
open Go Go.RowKit

theorem exprKnown_run : RunIs CE 300 [] 7 [] (.leaf (.sc (.bool true))) := .code codeExprKnown_ok rfl (by kernel_rfl)

theorem exprKnown_walk (w : World) : Calls Try.prog 7 #[] w fun e w' => e = .returned (.bool true) ∧ Below w.heap.size w w' :=
  walk_closed (C := CE) exprKnown_run (CE_ok _) rfl w
end Go.Proofs.Ytdafainfcegfkaa
