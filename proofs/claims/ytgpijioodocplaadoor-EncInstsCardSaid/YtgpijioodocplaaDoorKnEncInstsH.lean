/- The law EncInsts: some of its runs. -/
import Derived.Test.YtgpijioodocplaaDoorKnEncInsts0
set_option linter.unusedVariables false
set_option maxRecDepth 100000
namespace Go.Proofs.YtgpijioodocplaaDoor
open Go Go.RowKit

theorem encInsts_run3f : RunsN (CV06 encInsts_factsV) 24 encInsts_factsV 5 (encInsts_argsV 3 false) := .code codeEnc_ok rfl (by kernel_rfl)
theorem encInsts_run8f : RunsN (CV06 encInsts_factsV) 24 encInsts_factsV 5 (encInsts_argsV 8 false) := .code codeEnc_ok rfl (by kernel_rfl)
theorem encInsts_run13f : RunsN (CV06 encInsts_factsV) 24 encInsts_factsV 5 (encInsts_argsV 13 false) := .code codeEnc_ok rfl (by kernel_rfl)
theorem encInsts_run18f : RunsN (CV06 encInsts_factsV) 24 encInsts_factsV 5 (encInsts_argsV 18 false) := .code codeEnc_ok rfl (by kernel_rfl)
theorem encInsts_run23f : RunsN (CV06 encInsts_factsV) 24 encInsts_factsV 5 (encInsts_argsV 23 false) := .code codeEnc_ok rfl (by kernel_rfl)
theorem encInsts_run29t : RunsN (CV06 encInsts_factsV) 24 encInsts_factsV 5 (encInsts_argsV 29 true) := .code codeEnc_ok rfl (by kernel_rfl)
theorem encInsts_run35f : RunsN (CV06 encInsts_factsV) 24 encInsts_factsV 5 (encInsts_argsV 35 false) := .code codeEnc_ok rfl (by kernel_rfl)
theorem encInsts_run40f : RunsN (CV06 encInsts_factsV) 24 encInsts_factsV 5 (encInsts_argsV 40 false) := .code codeEnc_ok rfl (by kernel_rfl)
theorem encInsts_run45f : RunsN (CV06 encInsts_factsV) 24 encInsts_factsV 5 (encInsts_argsV 45 false) := .code codeEnc_ok rfl (by kernel_rfl)
theorem encInsts_run50f : RunsN (CV06 encInsts_factsV) 24 encInsts_factsV 5 (encInsts_argsV 50 false) := .code codeEnc_ok rfl (by kernel_rfl)
theorem encInsts_run55f : RunsN (CV06 encInsts_factsV) 24 encInsts_factsV 5 (encInsts_argsV 55 false) := .code codeEnc_ok rfl (by kernel_rfl)
theorem encInsts_run60f : RunsN (CV06 encInsts_factsV) 24 encInsts_factsV 5 (encInsts_argsV 60 false) := .code codeEnc_ok rfl (by kernel_rfl)
end Go.Proofs.YtgpijioodocplaaDoor
