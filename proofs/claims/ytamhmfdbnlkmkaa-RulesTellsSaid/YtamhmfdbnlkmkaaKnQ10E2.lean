/- Rules: what needs new values: some runs. -/
import Derived.Test.YtamhmfdbnlkmkaaKnQ10E0
set_option linter.unusedVariables false
set_option linter.unusedSimpArgs false
set_option maxRecDepth 100000
namespace Go.Proofs.Ytamhmfdbnlkmkaa
open Go Go.RowKit

theorem fhEnds2 : fhEnds 2 = true := by kernel_rfl
theorem fhRound2_0 : fhRound 2 0 = true := by kernel_rfl
theorem fhRound2_1 : fhRound 2 1 = true := by kernel_rfl
end Go.Proofs.Ytamhmfdbnlkmkaa
