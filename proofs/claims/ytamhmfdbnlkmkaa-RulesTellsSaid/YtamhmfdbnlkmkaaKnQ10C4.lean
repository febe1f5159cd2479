/- Rules: whether two clash: some runs. -/
import Derived.Test.YtamhmfdbnlkmkaaKnQ10C0
set_option linter.unusedVariables false
set_option linter.unusedSimpArgs false
set_option maxRecDepth 100000
namespace Go.Proofs.Ytamhmfdbnlkmkaa
open Go Go.RowKit

theorem cmt_01 : RunsCh (ctxF CA10 (mT true 0 1)) 24 (mF true) 12 [mC 0 0, mN true 1] (kM true 0 1) := .code codeRul_ok rfl (by kernel_rfl)
theorem cmf_02 : RunsCh (ctxF CA10 (mT false 0 2)) 24 (mF false) 12 [mC 0 0, mN false 2] (kM false 0 2) := .code codeRul_ok rfl (by kernel_rfl)
theorem cmt_04 : RunsCh (ctxF CA10 (mT true 0 4)) 24 (mF true) 12 [mC 0 0, mN true 4] (kM true 0 4) := .code codeRul_ok rfl (by kernel_rfl)
theorem cmf_05 : RunsCh (ctxF CA10 (mT false 0 5)) 24 (mF false) 12 [mC 0 0, mN false 5] (kM false 0 5) := .code codeRul_ok rfl (by kernel_rfl)
theorem cmt_11 : RunsCh (ctxF CA10 (mT true 1 1)) 24 (mF true) 12 [mC 1 0, mN true 1] (kM true 1 1) := .code codeRul_ok rfl (by kernel_rfl)
theorem cmf_12 : RunsCh (ctxF CA10 (mT false 1 2)) 24 (mF false) 12 [mC 1 0, mN false 2] (kM false 1 2) := .code codeRul_ok rfl (by kernel_rfl)
theorem cmt_14 : RunsCh (ctxF CA10 (mT true 1 4)) 24 (mF true) 12 [mC 1 0, mN true 4] (kM true 1 4) := .code codeRul_ok rfl (by kernel_rfl)
theorem cmf_15 : RunsCh (ctxF CA10 (mT false 1 5)) 24 (mF false) 12 [mC 1 0, mN false 5] (kM false 1 5) := .code codeRul_ok rfl (by kernel_rfl)
theorem cmt_21 : RunsCh (ctxF CA10 (mT true 2 1)) 24 (mF true) 12 [mC 2 0, mN true 1] (kM true 2 1) := .code codeRul_ok rfl (by kernel_rfl)
theorem cmf_22 : RunsCh (ctxF CA10 (mT false 2 2)) 24 (mF false) 12 [mC 2 0, mN false 2] (kM false 2 2) := .code codeRul_ok rfl (by kernel_rfl)
theorem cmt_24 : RunsCh (ctxF CA10 (mT true 2 4)) 24 (mF true) 12 [mC 2 0, mN true 4] (kM true 2 4) := .code codeRul_ok rfl (by kernel_rfl)
theorem cmf_25 : RunsCh (ctxF CA10 (mT false 2 5)) 24 (mF false) 12 [mC 2 0, mN false 5] (kM false 2 5) := .code codeRul_ok rfl (by kernel_rfl)
theorem cmt_31 : RunsCh (ctxF CA10 (mT true 3 1)) 24 (mF true) 12 [mC 3 0, mN true 1] (kM true 3 1) := .code codeRul_ok rfl (by kernel_rfl)
theorem cmf_32 : RunsCh (ctxF CA10 (mT false 3 2)) 24 (mF false) 12 [mC 3 0, mN false 2] (kM false 3 2) := .code codeRul_ok rfl (by kernel_rfl)
theorem cmt_34 : RunsCh (ctxF CA10 (mT true 3 4)) 24 (mF true) 12 [mC 3 0, mN true 4] (kM true 3 4) := .code codeRul_ok rfl (by kernel_rfl)
theorem cmf_35 : RunsCh (ctxF CA10 (mT false 3 5)) 24 (mF false) 12 [mC 3 0, mN false 5] (kM false 3 5) := .code codeRul_ok rfl (by kernel_rfl)
theorem cmt_41 : RunsCh (ctxF CA10 (mT true 4 1)) 24 (mF true) 12 [mC 4 0, mN true 1] (kM true 4 1) := .code codeRul_ok rfl (by kernel_rfl)
theorem cmf_42 : RunsCh (ctxF CA10 (mT false 4 2)) 24 (mF false) 12 [mC 4 0, mN false 2] (kM false 4 2) := .code codeRul_ok rfl (by kernel_rfl)
theorem cmt_44 : RunsCh (ctxF CA10 (mT true 4 4)) 24 (mF true) 12 [mC 4 0, mN true 4] (kM true 4 4) := .code codeRul_ok rfl (by kernel_rfl)
theorem cmf_45 : RunsCh (ctxF CA10 (mT false 4 5)) 24 (mF false) 12 [mC 4 0, mN false 5] (kM false 4 5) := .code codeRul_ok rfl (by kernel_rfl)
theorem cmt_51 : RunsCh (ctxF CA10 (mT true 5 1)) 24 (mF true) 12 [mC 5 0, mN true 1] (kM true 5 1) := .code codeRul_ok rfl (by kernel_rfl)
theorem cmf_52 : RunsCh (ctxF CA10 (mT false 5 2)) 24 (mF false) 12 [mC 5 0, mN false 2] (kM false 5 2) := .code codeRul_ok rfl (by kernel_rfl)
theorem cmt_54 : RunsCh (ctxF CA10 (mT true 5 4)) 24 (mF true) 12 [mC 5 0, mN true 4] (kM true 5 4) := .code codeRul_ok rfl (by kernel_rfl)
theorem cmf_55 : RunsCh (ctxF CA10 (mT false 5 5)) 24 (mF false) 12 [mC 5 0, mN false 5] (kM false 5 5) := .code codeRul_ok rfl (by kernel_rfl)
end Go.Proofs.Ytamhmfdbnlkmkaa
