/- The law EncInsts: some of its runs. -/
import Derived.Test.YtgpijioodocplaaDoorKnEncInsts0
set_option linter.unusedVariables false
set_option maxRecDepth 100000
namespace Go.Proofs.YtgpijioodocplaaDoor
open Go Go.RowKit

theorem encInsts_run1t : RunsN (CV06 encInsts_factsV) 24 encInsts_factsV 5 (encInsts_argsV 1 true) := .code codeEnc_ok rfl (by kernel_rfl)
theorem encInsts_run6t : RunsN (CV06 encInsts_factsV) 24 encInsts_factsV 5 (encInsts_argsV 6 true) := .code codeEnc_ok rfl (by kernel_rfl)
theorem encInsts_run11t : RunsN (CV06 encInsts_factsV) 24 encInsts_factsV 5 (encInsts_argsV 11 true) := .code codeEnc_ok rfl (by kernel_rfl)
theorem encInsts_run16t : RunsN (CV06 encInsts_factsV) 24 encInsts_factsV 5 (encInsts_argsV 16 true) := .code codeEnc_ok rfl (by kernel_rfl)
theorem encInsts_run21t : RunsN (CV06 encInsts_factsV) 24 encInsts_factsV 5 (encInsts_argsV 21 true) := .code codeEnc_ok rfl (by kernel_rfl)

theorem encInsts_run33t : RunsN (CV06 encInsts_factsV) 24 encInsts_factsV 5 (encInsts_argsV 33 true) := .code codeEnc_ok rfl (by kernel_rfl)
theorem encInsts_run38t : RunsN (CV06 encInsts_factsV) 24 encInsts_factsV 5 (encInsts_argsV 38 true) := .code codeEnc_ok rfl (by kernel_rfl)
theorem encInsts_run43t : RunsN (CV06 encInsts_factsV) 24 encInsts_factsV 5 (encInsts_argsV 43 true) := .code codeEnc_ok rfl (by kernel_rfl)
theorem encInsts_run48t : RunsN (CV06 encInsts_factsV) 24 encInsts_factsV 5 (encInsts_argsV 48 true) := .code codeEnc_ok rfl (by kernel_rfl)
theorem encInsts_run53t : RunsN (CV06 encInsts_factsV) 24 encInsts_factsV 5 (encInsts_argsV 53 true) := .code codeEnc_ok rfl (by kernel_rfl)
theorem encInsts_run58t : RunsN (CV06 encInsts_factsV) 24 encInsts_factsV 5 (encInsts_argsV 58 true) := .code codeEnc_ok rfl (by kernel_rfl)
theorem encInsts_run63t : RunsN (CV06 encInsts_factsV) 24 encInsts_factsV 5 (encInsts_argsV 63 true) := .code codeEnc_ok rfl (by kernel_rfl)
end Go.Proofs.YtgpijioodocplaaDoor
