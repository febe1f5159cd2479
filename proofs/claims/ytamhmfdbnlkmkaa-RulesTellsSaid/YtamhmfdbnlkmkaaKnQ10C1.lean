/- Rules: whether two clash: some runs. -/
import Derived.Test.YtamhmfdbnlkmkaaKnQ10C0
set_option linter.unusedVariables false
set_option linter.unusedSimpArgs false
set_option maxRecDepth 100000
namespace Go.Proofs.Ytamhmfdbnlkmkaa
open Go Go.RowKit

theorem cl_000 : RunsCh (ctxF CA10 (cT 0 0 0)) 24 cF 12 [qA false 0, qA false 1] (kC 0 0 0) := .code codeRul_ok rfl (by kernel_rfl)
theorem cl_010 : RunsCh (ctxF CA10 (cT 0 1 0)) 24 cF 12 [qA false 0, qA false 1] (kC 0 1 0) := .code codeRul_ok rfl (by kernel_rfl)
theorem cl_020 : RunsCh (ctxF CA10 (cT 0 2 0)) 24 cF 12 [qA false 0, qA false 1] (kC 0 2 0) := .code codeRul_ok rfl (by kernel_rfl)
theorem cl_100 : RunsCh (ctxF CA10 (cT 1 0 0)) 24 cF 12 [qA false 0, qA false 1] (kC 1 0 0) := .code codeRul_ok rfl (by kernel_rfl)
theorem cl_112 : RunsCh (ctxF CA10 (cT 1 1 2)) 24 cF 12 [qA false 0, qA false 1] (kC 1 1 2) := .code codeRul_ok rfl (by kernel_rfl)
theorem cl_113 : RunsCh (ctxF CA10 (cT 1 1 3)) 24 cF 12 [qA false 0, qA false 1] (kC 1 1 3) := .code codeRul_ok rfl (by kernel_rfl)
theorem cl_120 : RunsCh (ctxF CA10 (cT 1 2 0)) 24 cF 12 [qA false 0, qA false 1] (kC 1 2 0) := .code codeRul_ok rfl (by kernel_rfl)
theorem cl_200 : RunsCh (ctxF CA10 (cT 2 0 0)) 24 cF 12 [qA false 0, qA false 1] (kC 2 0 0) := .code codeRul_ok rfl (by kernel_rfl)
theorem cl_210 : RunsCh (ctxF CA10 (cT 2 1 0)) 24 cF 12 [qA false 0, qA false 1] (kC 2 1 0) := .code codeRul_ok rfl (by kernel_rfl)
theorem cl_221 : RunsCh (ctxF CA10 (cT 2 2 1)) 24 cF 12 [qA false 0, qA false 1] (kC 2 2 1) := .code codeRul_ok rfl (by kernel_rfl)
theorem cl_222 : RunsCh (ctxF CA10 (cT 2 2 2)) 24 cF 12 [qA false 0, qA false 1] (kC 2 2 2) := .code codeRul_ok rfl (by kernel_rfl)
theorem cl_223 : RunsCh (ctxF CA10 (cT 2 2 3)) 24 cF 12 [qA false 0, qA false 1] (kC 2 2 3) := .code codeRul_ok rfl (by kernel_rfl)
end Go.Proofs.Ytamhmfdbnlkmkaa
