/- The law EncInsts: some of its runs. -/
import Derived.Test.YtgpijioodocplaaDoorKnEncInsts0
set_option linter.unusedVariables false
set_option maxRecDepth 100000
namespace Go.Proofs.YtgpijioodocplaaDoor
open Go Go.RowKit

theorem encInsts_run2t : RunsN (CV06 encInsts_factsV) 24 encInsts_factsV 5 (encInsts_argsV 2 true) := .code codeEnc_ok rfl (by kernel_rfl)
theorem encInsts_run7t : RunsN (CV06 encInsts_factsV) 24 encInsts_factsV 5 (encInsts_argsV 7 true) := .code codeEnc_ok rfl (by kernel_rfl)
theorem encInsts_run12t : RunsN (CV06 encInsts_factsV) 24 encInsts_factsV 5 (encInsts_argsV 12 true) := .code codeEnc_ok rfl (by kernel_rfl)
theorem encInsts_run17t : RunsN (CV06 encInsts_factsV) 24 encInsts_factsV 5 (encInsts_argsV 17 true) := .code codeEnc_ok rfl (by kernel_rfl)
theorem encInsts_run22t : RunsN (CV06 encInsts_factsV) 24 encInsts_factsV 5 (encInsts_argsV 22 true) := .code codeEnc_ok rfl (by kernel_rfl)
theorem encInsts_run27f : RunsN (CV06 encInsts_factsV27) 24 encInsts_factsV27 5 (encInsts_argsV27 27 false) := .code codeEnc_ok rfl (by kernel_rfl)
theorem encInsts_run34t : RunsN (CV06 encInsts_factsV) 24 encInsts_factsV 5 (encInsts_argsV 34 true) := .code codeEnc_ok rfl (by kernel_rfl)
theorem encInsts_run39t : RunsN (CV06 encInsts_factsV) 24 encInsts_factsV 5 (encInsts_argsV 39 true) := .code codeEnc_ok rfl (by kernel_rfl)
theorem encInsts_run44t : RunsN (CV06 encInsts_factsV) 24 encInsts_factsV 5 (encInsts_argsV 44 true) := .code codeEnc_ok rfl (by kernel_rfl)
theorem encInsts_run49t : RunsN (CV06 encInsts_factsV) 24 encInsts_factsV 5 (encInsts_argsV 49 true) := .code codeEnc_ok rfl (by kernel_rfl)
theorem encInsts_run54t : RunsN (CV06 encInsts_factsV) 24 encInsts_factsV 5 (encInsts_argsV 54 true) := .code codeEnc_ok rfl (by kernel_rfl)
theorem encInsts_run59t : RunsN (CV06 encInsts_factsV) 24 encInsts_factsV 5 (encInsts_argsV 59 true) := .code codeEnc_ok rfl (by kernel_rfl)
end Go.Proofs.YtgpijioodocplaaDoor
