/- Rules: what needs new values: some runs. -/
import Derived.Test.YtamhmfdbnlkmkaaKnQ10E0
set_option linter.unusedVariables false
set_option linter.unusedSimpArgs false
set_option maxRecDepth 100000
namespace Go.Proofs.Ytamhmfdbnlkmkaa
open Go Go.RowKit

theorem fhEnds3 : fhEnds 3 = true := by kernel_rfl
theorem fhRound3_0 : fhRound 3 0 = true := by kernel_rfl
theorem fhRound3_1 : fhRound 3 1 = true := by kernel_rfl
theorem fhRound3_2 : fhRound 3 2 = true := by kernel_rfl
end Go.Proofs.Ytamhmfdbnlkmkaa
