/- The law EncInsts: some of its runs. -/
import Derived.Test.YtgpijioodocplaaDoorKnEncInsts0
set_option linter.unusedVariables false
set_option maxRecDepth 100000
namespace Go.Proofs.YtgpijioodocplaaDoor
open Go Go.RowKit

theorem encInsts_run2f : RunsN (CV06 encInsts_factsV) 24 encInsts_factsV 5 (encInsts_argsV 2 false) := .code codeEnc_ok rfl (by kernel_rfl)
theorem encInsts_run7f : RunsN (CV06 encInsts_factsV) 24 encInsts_factsV 5 (encInsts_argsV 7 false) := .code codeEnc_ok rfl (by kernel_rfl)
theorem encInsts_run12f : RunsN (CV06 encInsts_factsV) 24 encInsts_factsV 5 (encInsts_argsV 12 false) := .code codeEnc_ok rfl (by kernel_rfl)
theorem encInsts_run17f : RunsN (CV06 encInsts_factsV) 24 encInsts_factsV 5 (encInsts_argsV 17 false) := .code codeEnc_ok rfl (by kernel_rfl)
theorem encInsts_run22f : RunsN (CV06 encInsts_factsV) 24 encInsts_factsV 5 (encInsts_argsV 22 false) := .code codeEnc_ok rfl (by kernel_rfl)
theorem encInsts_run28t : RunsN (CV06 encInsts_factsV) 24 encInsts_factsV 5 (encInsts_argsV 28 true) := .code codeEnc_ok rfl (by kernel_rfl)
theorem encInsts_run34f : RunsN (CV06 encInsts_factsV) 24 encInsts_factsV 5 (encInsts_argsV 34 false) := .code codeEnc_ok rfl (by kernel_rfl)
theorem encInsts_run39f : RunsN (CV06 encInsts_factsV) 24 encInsts_factsV 5 (encInsts_argsV 39 false) := .code codeEnc_ok rfl (by kernel_rfl)
theorem encInsts_run44f : RunsN (CV06 encInsts_factsV) 24 encInsts_factsV 5 (encInsts_argsV 44 false) := .code codeEnc_ok rfl (by kernel_rfl)
theorem encInsts_run49f : RunsN (CV06 encInsts_factsV) 24 encInsts_factsV 5 (encInsts_argsV 49 false) := .code codeEnc_ok rfl (by kernel_rfl)
theorem encInsts_run54f : RunsN (CV06 encInsts_factsV) 24 encInsts_factsV 5 (encInsts_argsV 54 false) := .code codeEnc_ok rfl (by kernel_rfl)
theorem encInsts_run59f : RunsN (CV06 encInsts_factsV) 24 encInsts_factsV 5 (encInsts_argsV 59 false) := .code codeEnc_ok rfl (by kernel_rfl)
end Go.Proofs.YtgpijioodocplaaDoor
