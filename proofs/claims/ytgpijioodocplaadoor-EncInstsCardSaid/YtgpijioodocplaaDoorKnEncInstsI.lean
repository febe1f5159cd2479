/- The law EncInsts: some of its runs. -/
import Derived.Test.YtgpijioodocplaaDoorKnEncInsts0
set_option linter.unusedVariables false
set_option maxRecDepth 100000
namespace Go.Proofs.YtgpijioodocplaaDoor
open Go Go.RowKit

theorem encInsts_run4t : RunsN (CV06 encInsts_factsV) 24 encInsts_factsV 5 (encInsts_argsV 4 true) := .code codeEnc_ok rfl (by kernel_rfl)
theorem encInsts_run9t : RunsN (CV06 encInsts_factsV) 24 encInsts_factsV 5 (encInsts_argsV 9 true) := .code codeEnc_ok rfl (by kernel_rfl)
theorem encInsts_run14t : RunsN (CV06 encInsts_factsV) 24 encInsts_factsV 5 (encInsts_argsV 14 true) := .code codeEnc_ok rfl (by kernel_rfl)
theorem encInsts_run19t : RunsN (CV06 encInsts_factsV) 24 encInsts_factsV 5 (encInsts_argsV 19 true) := .code codeEnc_ok rfl (by kernel_rfl)

theorem encInsts_run29f : RunsN (CV06 encInsts_factsV) 24 encInsts_factsV 5 (encInsts_argsV 29 false) := .code codeEnc_ok rfl (by kernel_rfl)
theorem encInsts_run36t : RunsN (CV06 encInsts_factsV) 24 encInsts_factsV 5 (encInsts_argsV 36 true) := .code codeEnc_ok rfl (by kernel_rfl)
theorem encInsts_run41t : RunsN (CV06 encInsts_factsV) 24 encInsts_factsV 5 (encInsts_argsV 41 true) := .code codeEnc_ok rfl (by kernel_rfl)
theorem encInsts_run46t : RunsN (CV06 encInsts_factsV) 24 encInsts_factsV 5 (encInsts_argsV 46 true) := .code codeEnc_ok rfl (by kernel_rfl)
theorem encInsts_run51t : RunsN (CV06 encInsts_factsV) 24 encInsts_factsV 5 (encInsts_argsV 51 true) := .code codeEnc_ok rfl (by kernel_rfl)
theorem encInsts_run56t : RunsN (CV06 encInsts_factsV) 24 encInsts_factsV 5 (encInsts_argsV 56 true) := .code codeEnc_ok rfl (by kernel_rfl)
theorem encInsts_run61t : RunsN (CV06 encInsts_factsV) 24 encInsts_factsV 5 (encInsts_argsV 61 true) := .code codeEnc_ok rfl (by kernel_rfl)
end Go.Proofs.YtgpijioodocplaaDoor
