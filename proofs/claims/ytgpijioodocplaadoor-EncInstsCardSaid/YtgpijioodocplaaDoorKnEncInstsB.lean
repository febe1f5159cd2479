/- The law EncInsts: some of its runs. -/
import Derived.Test.YtgpijioodocplaaDoorKnEncInsts0
set_option linter.unusedVariables false
set_option maxRecDepth 100000
namespace Go.Proofs.YtgpijioodocplaaDoor
open Go Go.RowKit

theorem encInsts_run0f : RunsN (CV06 encInsts_factsV) 24 encInsts_factsV 5 (encInsts_argsV 0 false) := .code codeEnc_ok rfl (by kernel_rfl)
theorem encInsts_run5f : RunsN (CV06 encInsts_factsV) 24 encInsts_factsV 5 (encInsts_argsV 5 false) := .code codeEnc_ok rfl (by kernel_rfl)
theorem encInsts_run10f : RunsN (CV06 encInsts_factsV) 24 encInsts_factsV 5 (encInsts_argsV 10 false) := .code codeEnc_ok rfl (by kernel_rfl)
theorem encInsts_run15f : RunsN (CV06 encInsts_factsV) 24 encInsts_factsV 5 (encInsts_argsV 15 false) := .code codeEnc_ok rfl (by kernel_rfl)
theorem encInsts_run20f : RunsN (CV06 encInsts_factsV) 24 encInsts_factsV 5 (encInsts_argsV 20 false) := .code codeEnc_ok rfl (by kernel_rfl)
theorem encInsts_run25f : RunsN (CV06 encInsts_factsV) 24 encInsts_factsV 5 (encInsts_argsV 25 false) := .code codeEnc_ok rfl (by kernel_rfl)
theorem encInsts_run32f : RunsN (CV06 encInsts_factsV) 24 encInsts_factsV 5 (encInsts_argsV 32 false) := .code codeEnc_ok rfl (by kernel_rfl)
theorem encInsts_run37f : RunsN (CV06 encInsts_factsV) 24 encInsts_factsV 5 (encInsts_argsV 37 false) := .code codeEnc_ok rfl (by kernel_rfl)
theorem encInsts_run42f : RunsN (CV06 encInsts_factsV) 24 encInsts_factsV 5 (encInsts_argsV 42 false) := .code codeEnc_ok rfl (by kernel_rfl)
theorem encInsts_run47f : RunsN (CV06 encInsts_factsV) 24 encInsts_factsV 5 (encInsts_argsV 47 false) := .code codeEnc_ok rfl (by kernel_rfl)
theorem encInsts_run52f : RunsN (CV06 encInsts_factsV) 24 encInsts_factsV 5 (encInsts_argsV 52 false) := .code codeEnc_ok rfl (by kernel_rfl)
theorem encInsts_run57f : RunsN (CV06 encInsts_factsV) 24 encInsts_factsV 5 (encInsts_argsV 57 false) := .code codeEnc_ok rfl (by kernel_rfl)
theorem encInsts_run62f : RunsN (CV06 encInsts_factsV) 24 encInsts_factsV 5 (encInsts_argsV 62 false) := .code codeEnc_ok rfl (by kernel_rfl)
end Go.Proofs.YtgpijioodocplaaDoor
