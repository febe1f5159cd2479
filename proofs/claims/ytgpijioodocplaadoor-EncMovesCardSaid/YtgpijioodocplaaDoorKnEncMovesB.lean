/- The law EncMoves: some of its runs. -/
import Derived.Test.YtgpijioodocplaaDoorKnEncMoves0
set_option linter.unusedVariables false
set_option maxRecDepth 100000
namespace Go.Proofs.YtgpijioodocplaaDoor
open Go Go.RowKit

theorem encMoves_run1 : RunsN (CW06 encMoves_facts) 24 encMoves_facts 4 encMoves_args1 := .code codeEnc_ok rfl (by kernel_rfl)
theorem encMoves_run4 : RunsN (CW06 encMoves_facts) 24 encMoves_facts 4 encMoves_args4 := .code codeEnc_ok rfl (by kernel_rfl)
theorem encMoves_run7 : RunsN (CW06 encMoves_facts) 24 encMoves_facts 4 encMoves_args7 := .code codeEnc_ok rfl (by kernel_rfl)
theorem encMoves_run10 : RunsN (CW06 encMoves_facts) 24 encMoves_facts 4 encMoves_args10 := .code codeEnc_ok rfl (by kernel_rfl)
theorem encMoves_run13 : RunsN (CW06 encMoves_facts) 24 encMoves_facts 4 encMoves_args13 := .code codeEnc_ok rfl (by kernel_rfl)
theorem encMoves_run16 : RunsN (CW06 encMoves_facts) 24 encMoves_facts 4 encMoves_args16 := .code codeEnc_ok rfl (by kernel_rfl)
theorem encMoves_run19 : RunsN (CW06 encMoves_facts) 24 encMoves_facts 4 encMoves_args19 := .code codeEnc_ok rfl (by kernel_rfl)
theorem encMoves_run22 : RunsN (CW06 encMoves_facts) 24 encMoves_facts 4 encMoves_args22 := .code codeEnc_ok rfl (by kernel_rfl)
theorem encMoves_run25 : RunsN (CW06 encMoves_facts) 24 encMoves_facts 4 encMoves_args25 := .code codeEnc_ok rfl (by kernel_rfl)
theorem encMoves_run28 : RunsN (CW06 encMoves_facts) 24 encMoves_facts 4 encMoves_args28 := .code codeEnc_ok rfl (by kernel_rfl)
end Go.Proofs.YtgpijioodocplaaDoor
