/- The law EncMoves: some of its runs. -/
import Derived.Test.YtgpijioodocplaaDoorKnEncMoves0
set_option linter.unusedVariables false
set_option maxRecDepth 100000
namespace Go.Proofs.YtgpijioodocplaaDoor
open Go Go.RowKit

theorem encMoves_runL : RunsN (CW06 encMoves_factsL) 24 encMoves_factsL 4 encMoves_args := .code codeEnc_ok rfl (by kernel_rfl)
theorem encMoves_run3 : RunsN (CW06 encMoves_facts) 24 encMoves_facts 4 encMoves_args3 := .code codeEnc_ok rfl (by kernel_rfl)
theorem encMoves_run6 : RunsN (CW06 encMoves_facts) 24 encMoves_facts 4 encMoves_args6 := .code codeEnc_ok rfl (by kernel_rfl)
theorem encMoves_run9 : RunsN (CW06 encMoves_facts) 24 encMoves_facts 4 encMoves_args9 := .code codeEnc_ok rfl (by kernel_rfl)
theorem encMoves_run12 : RunsN (CW06 encMoves_facts) 24 encMoves_facts 4 encMoves_args12 := .code codeEnc_ok rfl (by kernel_rfl)
theorem encMoves_run15 : RunsN (CW06 encMoves_facts) 24 encMoves_facts 4 encMoves_args15 := .code codeEnc_ok rfl (by kernel_rfl)
theorem encMoves_run18 : RunsN (CW06 encMoves_facts) 24 encMoves_facts 4 encMoves_args18 := .code codeEnc_ok rfl (by kernel_rfl)
theorem encMoves_run21 : RunsN (CW06 encMoves_facts) 24 encMoves_facts 4 encMoves_args21 := .code codeEnc_ok rfl (by kernel_rfl)
theorem encMoves_run24 : RunsN (CW06 encMoves_facts) 24 encMoves_facts 4 encMoves_args24 := .code codeEnc_ok rfl (by kernel_rfl)
end Go.Proofs.YtgpijioodocplaaDoor
