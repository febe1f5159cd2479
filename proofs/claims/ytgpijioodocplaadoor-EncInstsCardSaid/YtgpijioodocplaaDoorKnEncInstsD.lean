/- The law EncInsts: some of its runs. -/
import Derived.Test.YtgpijioodocplaaDoorKnEncInsts0
set_option linter.unusedVariables false
set_option maxRecDepth 100000
namespace Go.Proofs.YtgpijioodocplaaDoor
open Go Go.RowKit

theorem encInsts_run1f : RunsN (CV06 encInsts_factsV) 24 encInsts_factsV 5 (encInsts_argsV 1 false) := .code codeEnc_ok rfl (by kernel_rfl)
theorem encInsts_run6f : RunsN (CV06 encInsts_factsV) 24 encInsts_factsV 5 (encInsts_argsV 6 false) := .code codeEnc_ok rfl (by kernel_rfl)
theorem encInsts_run11f : RunsN (CV06 encInsts_factsV) 24 encInsts_factsV 5 (encInsts_argsV 11 false) := .code codeEnc_ok rfl (by kernel_rfl)
theorem encInsts_run16f : RunsN (CV06 encInsts_factsV) 24 encInsts_factsV 5 (encInsts_argsV 16 false) := .code codeEnc_ok rfl (by kernel_rfl)
theorem encInsts_run21f : RunsN (CV06 encInsts_factsV) 24 encInsts_factsV 5 (encInsts_argsV 21 false) := .code codeEnc_ok rfl (by kernel_rfl)
theorem encInsts_run26f : RunsN (CV06 encInsts_factsV) 24 encInsts_factsV 5 (encInsts_argsV 26 false) := .code codeEnc_ok rfl (by kernel_rfl)
theorem encInsts_run33f : RunsN (CV06 encInsts_factsV) 24 encInsts_factsV 5 (encInsts_argsV 33 false) := .code codeEnc_ok rfl (by kernel_rfl)
theorem encInsts_run38f : RunsN (CV06 encInsts_factsV) 24 encInsts_factsV 5 (encInsts_argsV 38 false) := .code codeEnc_ok rfl (by kernel_rfl)
theorem encInsts_run43f : RunsN (CV06 encInsts_factsV) 24 encInsts_factsV 5 (encInsts_argsV 43 false) := .code codeEnc_ok rfl (by kernel_rfl)
theorem encInsts_run48f : RunsN (CV06 encInsts_factsV) 24 encInsts_factsV 5 (encInsts_argsV 48 false) := .code codeEnc_ok rfl (by kernel_rfl)
theorem encInsts_run53f : RunsN (CV06 encInsts_factsV) 24 encInsts_factsV 5 (encInsts_argsV 53 false) := .code codeEnc_ok rfl (by kernel_rfl)
theorem encInsts_run58f : RunsN (CV06 encInsts_factsV) 24 encInsts_factsV 5 (encInsts_argsV 58 false) := .code codeEnc_ok rfl (by kernel_rfl)
theorem encInsts_run63f : RunsN (CV06 encInsts_factsV) 24 encInsts_factsV 5 (encInsts_argsV 63 false) := .code codeEnc_ok rfl (by kernel_rfl)
end Go.Proofs.YtgpijioodocplaaDoor
