/- The law EncMoves: some of its runs. -/
import Derived.Test.YtgpijioodocplaaDoorKnEncMovesI
set_option linter.unusedVariables false
set_option maxRecDepth 100000
namespace Go.Proofs.YtgpijioodocplaaDoor
open Go Go.RowKit

theorem encMoves_run29a : RunsN (CW06 encMoves_factsa) 24 encMoves_factsa 4 encMoves_args29 := .code codeEnc_ok rfl (by kernel_rfl)
theorem encMoves_run29b : RunsN (CW06 encMoves_factsb) 24 encMoves_factsb 4 encMoves_args29 := .code codeEnc_ok rfl (by kernel_rfl)
theorem encMoves_run29c : RunsN (CW06 encMoves_factsc) 24 encMoves_factsc 4 encMoves_args29 := .code codeEnc_ok rfl (by kernel_rfl)
end Go.Proofs.YtgpijioodocplaaDoor
