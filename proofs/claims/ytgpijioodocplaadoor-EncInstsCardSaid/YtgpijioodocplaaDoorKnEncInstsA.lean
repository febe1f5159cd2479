/- The law EncInsts: some of its runs. -/
import Derived.Test.YtgpijioodocplaaDoorKnEncInsts0
set_option linter.unusedVariables false
set_option maxRecDepth 100000
namespace Go.Proofs.YtgpijioodocplaaDoor
open Go Go.RowKit

theorem encInsts_run0t : RunsN (CV06 encInsts_factsV) 24 encInsts_factsV 5 (encInsts_argsV 0 true) := .code codeEnc_ok rfl (by kernel_rfl)
theorem encInsts_run5t : RunsN (CV06 encInsts_factsV) 24 encInsts_factsV 5 (encInsts_argsV 5 true) := .code codeEnc_ok rfl (by kernel_rfl)
theorem encInsts_run10t : RunsN (CV06 encInsts_factsV) 24 encInsts_factsV 5 (encInsts_argsV 10 true) := .code codeEnc_ok rfl (by kernel_rfl)
theorem encInsts_run15t : RunsN (CV06 encInsts_factsV) 24 encInsts_factsV 5 (encInsts_argsV 15 true) := .code codeEnc_ok rfl (by kernel_rfl)
theorem encInsts_run20t : RunsN (CV06 encInsts_factsV) 24 encInsts_factsV 5 (encInsts_argsV 20 true) := .code codeEnc_ok rfl (by kernel_rfl)

theorem encInsts_run32t : RunsN (CV06 encInsts_factsV) 24 encInsts_factsV 5 (encInsts_argsV 32 true) := .code codeEnc_ok rfl (by kernel_rfl)
theorem encInsts_run37t : RunsN (CV06 encInsts_factsV) 24 encInsts_factsV 5 (encInsts_argsV 37 true) := .code codeEnc_ok rfl (by kernel_rfl)
theorem encInsts_run42t : RunsN (CV06 encInsts_factsV) 24 encInsts_factsV 5 (encInsts_argsV 42 true) := .code codeEnc_ok rfl (by kernel_rfl)
theorem encInsts_run47t : RunsN (CV06 encInsts_factsV) 24 encInsts_factsV 5 (encInsts_argsV 47 true) := .code codeEnc_ok rfl (by kernel_rfl)
theorem encInsts_run52t : RunsN (CV06 encInsts_factsV) 24 encInsts_factsV 5 (encInsts_argsV 52 true) := .code codeEnc_ok rfl (by kernel_rfl)
theorem encInsts_run57t : RunsN (CV06 encInsts_factsV) 24 encInsts_factsV 5 (encInsts_argsV 57 true) := .code codeEnc_ok rfl (by kernel_rfl)
theorem encInsts_run62t : RunsN (CV06 encInsts_factsV) 24 encInsts_factsV 5 (encInsts_argsV 62 true) := .code codeEnc_ok rfl (by kernel_rfl)
end Go.Proofs.YtgpijioodocplaaDoor
