/- The law EncMoves: some of its runs. -/
import Derived.Test.YtgpijioodocplaaDoorKnEncMoves0
set_option linter.unusedVariables false
set_option maxRecDepth 100000
namespace Go.Proofs.YtgpijioodocplaaDoor
open Go Go.RowKit

theorem encMoves_run2 : RunsN (CW06 encMoves_facts) 24 encMoves_facts 4 encMoves_args2 := .code codeEnc_ok rfl (by kernel_rfl)
theorem encMoves_run5 : RunsN (CW06 encMoves_facts) 24 encMoves_facts 4 encMoves_args5 := .code codeEnc_ok rfl (by kernel_rfl)
theorem encMoves_run8 : RunsN (CW06 encMoves_facts) 24 encMoves_facts 4 encMoves_args8 := .code codeEnc_ok rfl (by kernel_rfl)
theorem encMoves_run11 : RunsN (CW06 encMoves_facts) 24 encMoves_facts 4 encMoves_args11 := .code codeEnc_ok rfl (by kernel_rfl)
theorem encMoves_run14 : RunsN (CW06 encMoves_facts) 24 encMoves_facts 4 encMoves_args14 := .code codeEnc_ok rfl (by kernel_rfl)
theorem encMoves_run17 : RunsN (CW06 encMoves_facts) 24 encMoves_facts 4 encMoves_args17 := .code codeEnc_ok rfl (by kernel_rfl)
theorem encMoves_run20 : RunsN (CW06 encMoves_facts) 24 encMoves_facts 4 encMoves_args20 := .code codeEnc_ok rfl (by kernel_rfl)
theorem encMoves_run23 : RunsN (CW06 encMoves_facts) 24 encMoves_facts 4 encMoves_args23 := .code codeEnc_ok rfl (by kernel_rfl)
theorem encMoves_run26 : RunsN (CW06 encMoves_facts) 24 encMoves_facts 4 encMoves_args26 := .code codeEnc_ok rfl (by kernel_rfl)
theorem encMoves_runG : RunsN (CW06 encMoves_factsG) 24 encMoves_factsG 4 encMoves_args := .code codeEnc_ok rfl (by kernel_rfl)
end Go.Proofs.YtgpijioodocplaaDoor
