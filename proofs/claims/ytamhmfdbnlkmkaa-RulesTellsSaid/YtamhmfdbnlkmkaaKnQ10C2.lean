/- Rules: whether two clash: some runs. -/
import Derived.Test.YtamhmfdbnlkmkaaKnQ10C0
set_option linter.unusedVariables false
set_option linter.unusedSimpArgs false
set_option maxRecDepth 100000
namespace Go.Proofs.Ytamhmfdbnlkmkaa
open Go Go.RowKit

theorem cmt_00 : RunsCh (ctxF CA10 (mT true 0 0)) 24 (mF true) 12 [mC 0 0, mN true 0] (kM true 0 0) := .code codeRul_ok rfl (by kernel_rfl)
theorem cmf_01 : RunsCh (ctxF CA10 (mT false 0 1)) 24 (mF false) 12 [mC 0 0, mN false 1] (kM false 0 1) := .code codeRul_ok rfl (by kernel_rfl)
theorem cmt_03 : RunsCh (ctxF CA10 (mT true 0 3)) 24 (mF true) 12 [mC 0 0, mN true 3] (kM true 0 3) := .code codeRul_ok rfl (by kernel_rfl)
theorem cmf_04 : RunsCh (ctxF CA10 (mT false 0 4)) 24 (mF false) 12 [mC 0 0, mN false 4] (kM false 0 4) := .code codeRul_ok rfl (by kernel_rfl)
theorem cmt_10 : RunsCh (ctxF CA10 (mT true 1 0)) 24 (mF true) 12 [mC 1 0, mN true 0] (kM true 1 0) := .code codeRul_ok rfl (by kernel_rfl)
theorem cmf_11 : RunsCh (ctxF CA10 (mT false 1 1)) 24 (mF false) 12 [mC 1 0, mN false 1] (kM false 1 1) := .code codeRul_ok rfl (by kernel_rfl)
theorem cmt_13 : RunsCh (ctxF CA10 (mT true 1 3)) 24 (mF true) 12 [mC 1 0, mN true 3] (kM true 1 3) := .code codeRul_ok rfl (by kernel_rfl)
theorem cmf_14 : RunsCh (ctxF CA10 (mT false 1 4)) 24 (mF false) 12 [mC 1 0, mN false 4] (kM false 1 4) := .code codeRul_ok rfl (by kernel_rfl)
theorem cmt_20 : RunsCh (ctxF CA10 (mT true 2 0)) 24 (mF true) 12 [mC 2 0, mN true 0] (kM true 2 0) := .code codeRul_ok rfl (by kernel_rfl)
theorem cmf_21 : RunsCh (ctxF CA10 (mT false 2 1)) 24 (mF false) 12 [mC 2 0, mN false 1] (kM false 2 1) := .code codeRul_ok rfl (by kernel_rfl)
theorem cmt_23 : RunsCh (ctxF CA10 (mT true 2 3)) 24 (mF true) 12 [mC 2 0, mN true 3] (kM true 2 3) := .code codeRul_ok rfl (by kernel_rfl)
theorem cmf_24 : RunsCh (ctxF CA10 (mT false 2 4)) 24 (mF false) 12 [mC 2 0, mN false 4] (kM false 2 4) := .code codeRul_ok rfl (by kernel_rfl)
theorem cmt_30 : RunsCh (ctxF CA10 (mT true 3 0)) 24 (mF true) 12 [mC 3 0, mN true 0] (kM true 3 0) := .code codeRul_ok rfl (by kernel_rfl)
theorem cmf_31 : RunsCh (ctxF CA10 (mT false 3 1)) 24 (mF false) 12 [mC 3 0, mN false 1] (kM false 3 1) := .code codeRul_ok rfl (by kernel_rfl)
theorem cmt_33 : RunsCh (ctxF CA10 (mT true 3 3)) 24 (mF true) 12 [mC 3 0, mN true 3] (kM true 3 3) := .code codeRul_ok rfl (by kernel_rfl)
theorem cmf_34 : RunsCh (ctxF CA10 (mT false 3 4)) 24 (mF false) 12 [mC 3 0, mN false 4] (kM false 3 4) := .code codeRul_ok rfl (by kernel_rfl)
theorem cmt_40 : RunsCh (ctxF CA10 (mT true 4 0)) 24 (mF true) 12 [mC 4 0, mN true 0] (kM true 4 0) := .code codeRul_ok rfl (by kernel_rfl)
theorem cmf_41 : RunsCh (ctxF CA10 (mT false 4 1)) 24 (mF false) 12 [mC 4 0, mN false 1] (kM false 4 1) := .code codeRul_ok rfl (by kernel_rfl)
theorem cmt_43 : RunsCh (ctxF CA10 (mT true 4 3)) 24 (mF true) 12 [mC 4 0, mN true 3] (kM true 4 3) := .code codeRul_ok rfl (by kernel_rfl)
theorem cmf_44 : RunsCh (ctxF CA10 (mT false 4 4)) 24 (mF false) 12 [mC 4 0, mN false 4] (kM false 4 4) := .code codeRul_ok rfl (by kernel_rfl)
theorem cmt_50 : RunsCh (ctxF CA10 (mT true 5 0)) 24 (mF true) 12 [mC 5 0, mN true 0] (kM true 5 0) := .code codeRul_ok rfl (by kernel_rfl)
theorem cmf_51 : RunsCh (ctxF CA10 (mT false 5 1)) 24 (mF false) 12 [mC 5 0, mN false 1] (kM false 5 1) := .code codeRul_ok rfl (by kernel_rfl)
theorem cmt_53 : RunsCh (ctxF CA10 (mT true 5 3)) 24 (mF true) 12 [mC 5 0, mN true 3] (kM true 5 3) := .code codeRul_ok rfl (by kernel_rfl)
theorem cmf_54 : RunsCh (ctxF CA10 (mT false 5 4)) 24 (mF false) 12 [mC 5 0, mN false 4] (kM false 5 4) := .code codeRul_ok rfl (by kernel_rfl)
end Go.Proofs.Ytamhmfdbnlkmkaa
