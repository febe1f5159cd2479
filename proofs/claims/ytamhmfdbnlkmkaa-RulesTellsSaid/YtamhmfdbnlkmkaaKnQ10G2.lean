/- Rules: what is wrong with a packet: a run. -/
import Derived.Test.YtamhmfdbnlkmkaaKnQ10G0
set_option linter.unusedVariables false
set_option linter.unusedSimpArgs false
set_option maxRecDepth 100000
namespace Go.Proofs.Ytamhmfdbnlkmkaa
open Go Go.RowKit

theorem gs_4 : RunsCh (ctxF CA10 (gT 4)) 24 [] 10 [gP 4] (kG (gT 4) 4) := .code codeRul_ok rfl (by kernel_rfl)
end Go.Proofs.Ytamhmfdbnlkmkaa
