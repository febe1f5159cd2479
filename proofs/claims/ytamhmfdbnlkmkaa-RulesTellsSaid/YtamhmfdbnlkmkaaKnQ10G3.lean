/- The law RulesTells: runs. -/
import Derived.Test.YtamhmfdbnlkmkaaKnQ10G0
set_option linter.unusedVariables false
set_option linter.unusedSimpArgs false
set_option maxRecDepth 100000
namespace Go.Proofs.Ytamhmfdbnlkmkaa
open Go Go.RowKit

theorem lw_0 : JTrueJ (ctxF CA10 (lT 0)) 24 60 [] 3 (lArgs 0) = true := by kernel_rfl
theorem lw_1 : JTrueJ (ctxF CA10 (lT 1)) 24 60 [] 3 (lArgs 1) = true := by kernel_rfl
theorem lw_2 : JTrueJ (ctxF CA10 (lT 2)) 24 60 [] 3 (lArgs 2) = true := by kernel_rfl
theorem lw_3 : JTrueJ (ctxF CA10 (lT 3)) 24 60 [] 3 (lArgs 3) = true := by kernel_rfl
theorem lw_4 : JTrueJ (ctxF CA10 (lT 4)) 24 60 [] 3 (lArgs 4) = true := by kernel_rfl
theorem lw_5 : JTrueJ (ctxF CA10 (lT 5)) 24 60 [] 3 (lArgs 5) = true := by kernel_rfl
theorem lw_6 : JTrueJ (ctxF CA10 (lT 6)) 24 60 [] 3 (lArgs 6) = true := by kernel_rfl
theorem lw_7 : JTrueJ (ctxF CA10 (lT 7)) 24 60 [] 3 (lArgs 7) = true := by kernel_rfl
theorem lw_8 : JTrueJ (ctxF CA10 (lT 8)) 24 60 [] 3 (lArgs 8) = true := by kernel_rfl
end Go.Proofs.Ytamhmfdbnlkmkaa
