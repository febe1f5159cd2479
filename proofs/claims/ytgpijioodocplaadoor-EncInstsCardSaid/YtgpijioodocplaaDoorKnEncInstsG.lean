/- The law EncInsts: some of its runs. -/
import Derived.Test.YtgpijioodocplaaDoorKnEncInsts0
set_option linter.unusedVariables false
set_option maxRecDepth 100000
namespace Go.Proofs.YtgpijioodocplaaDoor
open Go Go.RowKit

theorem encInsts_run3t : RunsN (CV06 encInsts_factsV) 24 encInsts_factsV 5 (encInsts_argsV 3 true) := .code codeEnc_ok rfl (by kernel_rfl)
theorem encInsts_run8t : RunsN (CV06 encInsts_factsV) 24 encInsts_factsV 5 (encInsts_argsV 8 true) := .code codeEnc_ok rfl (by kernel_rfl)
theorem encInsts_run13t : RunsN (CV06 encInsts_factsV) 24 encInsts_factsV 5 (encInsts_argsV 13 true) := .code codeEnc_ok rfl (by kernel_rfl)
theorem encInsts_run18t : RunsN (CV06 encInsts_factsV) 24 encInsts_factsV 5 (encInsts_argsV 18 true) := .code codeEnc_ok rfl (by kernel_rfl)
theorem encInsts_run23t : RunsN (CV06 encInsts_factsV) 24 encInsts_factsV 5 (encInsts_argsV 23 true) := .code codeEnc_ok rfl (by kernel_rfl)
theorem encInsts_run28f : RunsN (CV06 encInsts_factsV) 24 encInsts_factsV 5 (encInsts_argsV 28 false) := .code codeEnc_ok rfl (by kernel_rfl)
theorem encInsts_run35t : RunsN (CV06 encInsts_factsV) 24 encInsts_factsV 5 (encInsts_argsV 35 true) := .code codeEnc_ok rfl (by kernel_rfl)
theorem encInsts_run40t : RunsN (CV06 encInsts_factsV) 24 encInsts_factsV 5 (encInsts_argsV 40 true) := .code codeEnc_ok rfl (by kernel_rfl)
theorem encInsts_run45t : RunsN (CV06 encInsts_factsV) 24 encInsts_factsV 5 (encInsts_argsV 45 true) := .code codeEnc_ok rfl (by kernel_rfl)
theorem encInsts_run50t : RunsN (CV06 encInsts_factsV) 24 encInsts_factsV 5 (encInsts_argsV 50 true) := .code codeEnc_ok rfl (by kernel_rfl)
theorem encInsts_run55t : RunsN (CV06 encInsts_factsV) 24 encInsts_factsV 5 (encInsts_argsV 55 true) := .code codeEnc_ok rfl (by kernel_rfl)
theorem encInsts_run60t : RunsN (CV06 encInsts_factsV) 24 encInsts_factsV 5 (encInsts_argsV 60 true) := .code codeEnc_ok rfl (by kernel_rfl)
end Go.Proofs.YtgpijioodocplaaDoor
