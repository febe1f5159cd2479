/- Rules: what is wrong with a packet: some runs. -/
import Derived.Test.YtamhmfdbnlkmkaaKnQ10G0
set_option linter.unusedVariables false
set_option linter.unusedSimpArgs false
set_option maxRecDepth 100000
namespace Go.Proofs.Ytamhmfdbnlkmkaa
open Go Go.RowKit

theorem gs_1 : RunsCh (ctxF CA10 (gT 1)) 24 [] 10 [gP 1] (kG (gT 1) 1) := .code codeRul_ok rfl (by kernel_rfl)
theorem gs_2 : RunsCh (ctxF CA10 (gT 2)) 24 [] 10 [gP 2] (kG (gT 2) 2) := .code codeRul_ok rfl (by kernel_rfl)
theorem gs_3 : RunsCh (ctxF CA10 (gT 3)) 24 [] 10 [gP 3] (kG (gT 3) 3) := .code codeRul_ok rfl (by kernel_rfl)
theorem gu_1_0 : gSame 1 (gU 1 0) = true := by kernel_rfl
theorem gu_2_0 : gSame 2 (gU 2 0) = true := by kernel_rfl
theorem gu_2_1 : gSame 2 (gU 2 1) = true := by kernel_rfl
theorem gu_3_0 : gSame 3 (gU 3 0) = true := by kernel_rfl
theorem gu_3_1 : gSame 3 (gU 3 1) = true := by kernel_rfl
theorem gu_3_2 : gSame 3 (gU 3 2) = true := by kernel_rfl
theorem gu_4_0 : gSame 4 (gU 4 0) = true := by kernel_rfl
theorem gu_4_1 : gSame 4 (gU 4 1) = true := by kernel_rfl
theorem gu_4_2 : gSame 4 (gU 4 2) = true := by kernel_rfl
theorem gu_4_3 : gSame 4 (gU 4 3) = true := by kernel_rfl
theorem gv_0 : gSame 0 (qRows false (List.range 0) fun i => boX (.var (730 + i))) = true := by kernel_rfl
theorem gv_5 : gSame 5 (qRows false (List.range 5) fun i => boX (.var (730 + i))) = true := by kernel_rfl
theorem gv_6 : gSame 6 (qRows false (List.range 6) fun i => boX (.var (730 + i))) = true := by kernel_rfl
theorem gv_7 : gSame 7 (qRows false (List.range 7) fun i => boX (.var (730 + i))) = true := by kernel_rfl
theorem gv_8 : gSame 8 (qRows false (List.range 8) fun i => boX (.var (730 + i))) = true := by kernel_rfl
end Go.Proofs.Ytamhmfdbnlkmkaa
