/- Rules: what needs new values: some runs. -/
import Derived.Test.YtamhmfdbnlkmkaaKnQ10E0
set_option linter.unusedVariables false
set_option linter.unusedSimpArgs false
set_option maxRecDepth 100000
namespace Go.Proofs.Ytamhmfdbnlkmkaa
open Go Go.RowKit

theorem fhEnds4 : fhEnds 4 = true := by kernel_rfl
theorem fhRound4_0 : fhRound 4 0 = true := by kernel_rfl
theorem fhRound4_1 : fhRound 4 1 = true := by kernel_rfl
theorem fhRound4_2 : fhRound 4 2 = true := by kernel_rfl
theorem fhRound4_3 : fhRound 4 3 = true := by kernel_rfl
end Go.Proofs.Ytamhmfdbnlkmkaa
