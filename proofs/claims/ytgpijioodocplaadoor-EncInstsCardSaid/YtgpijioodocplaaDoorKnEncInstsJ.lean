/- The law EncInsts: some of its runs. -/
import Derived.Test.YtgpijioodocplaaDoorKnEncInsts0
set_option linter.unusedVariables false
set_option maxRecDepth 100000
namespace Go.Proofs.YtgpijioodocplaaDoor
open Go Go.RowKit

theorem encInsts_run4f : RunsN (CV06 encInsts_factsV) 24 encInsts_factsV 5 (encInsts_argsV 4 false) := .code codeEnc_ok rfl (by kernel_rfl)
theorem encInsts_run9f : RunsN (CV06 encInsts_factsV) 24 encInsts_factsV 5 (encInsts_argsV 9 false) := .code codeEnc_ok rfl (by kernel_rfl)
theorem encInsts_run14f : RunsN (CV06 encInsts_factsV) 24 encInsts_factsV 5 (encInsts_argsV 14 false) := .code codeEnc_ok rfl (by kernel_rfl)
theorem encInsts_run19f : RunsN (CV06 encInsts_factsV) 24 encInsts_factsV 5 (encInsts_argsV 19 false) := .code codeEnc_ok rfl (by kernel_rfl)
theorem encInsts_run24f : RunsN (CV06 encInsts_factsV) 24 encInsts_factsV 5 (encInsts_argsV 24 false) := .code codeEnc_ok rfl (by kernel_rfl)
theorem encInsts_run30f : RunsN (CV06 encInsts_factsV30) 24 encInsts_factsV30 5 (encInsts_argsV30 30 false) := .code codeEnc_ok rfl (by kernel_rfl)
theorem encInsts_run36f : RunsN (CV06 encInsts_factsV) 24 encInsts_factsV 5 (encInsts_argsV 36 false) := .code codeEnc_ok rfl (by kernel_rfl)
theorem encInsts_run41f : RunsN (CV06 encInsts_factsV) 24 encInsts_factsV 5 (encInsts_argsV 41 false) := .code codeEnc_ok rfl (by kernel_rfl)
theorem encInsts_run46f : RunsN (CV06 encInsts_factsV) 24 encInsts_factsV 5 (encInsts_argsV 46 false) := .code codeEnc_ok rfl (by kernel_rfl)
theorem encInsts_run51f : RunsN (CV06 encInsts_factsV) 24 encInsts_factsV 5 (encInsts_argsV 51 false) := .code codeEnc_ok rfl (by kernel_rfl)
theorem encInsts_run56f : RunsN (CV06 encInsts_factsV) 24 encInsts_factsV 5 (encInsts_argsV 56 false) := .code codeEnc_ok rfl (by kernel_rfl)
theorem encInsts_run61f : RunsN (CV06 encInsts_factsV) 24 encInsts_factsV 5 (encInsts_argsV 61 false) := .code codeEnc_ok rfl (by kernel_rfl)
end Go.Proofs.YtgpijioodocplaaDoor
