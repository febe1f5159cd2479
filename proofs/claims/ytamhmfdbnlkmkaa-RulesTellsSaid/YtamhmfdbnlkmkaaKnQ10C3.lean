/- Rules: whether two clash: some runs. -/
import Derived.Test.YtamhmfdbnlkmkaaKnQ10C0
set_option linter.unusedVariables false
set_option linter.unusedSimpArgs false
set_option maxRecDepth 100000
namespace Go.Proofs.Ytamhmfdbnlkmkaa
open Go Go.RowKit

theorem cmf_00 : RunsCh (ctxF CA10 (mT false 0 0)) 24 (mF false) 12 [mC 0 0, mN false 0] (kM false 0 0) := .code codeRul_ok rfl (by kernel_rfl)
theorem cmt_02 : RunsCh (ctxF CA10 (mT true 0 2)) 24 (mF true) 12 [mC 0 0, mN true 2] (kM true 0 2) := .code codeRul_ok rfl (by kernel_rfl)
theorem cmf_03 : RunsCh (ctxF CA10 (mT false 0 3)) 24 (mF false) 12 [mC 0 0, mN false 3] (kM false 0 3) := .code codeRul_ok rfl (by kernel_rfl)
theorem cmt_05 : RunsCh (ctxF CA10 (mT true 0 5)) 24 (mF true) 12 [mC 0 0, mN true 5] (kM true 0 5) := .code codeRul_ok rfl (by kernel_rfl)
theorem cmf_10 : RunsCh (ctxF CA10 (mT false 1 0)) 24 (mF false) 12 [mC 1 0, mN false 0] (kM false 1 0) := .code codeRul_ok rfl (by kernel_rfl)
theorem cmt_12 : RunsCh (ctxF CA10 (mT true 1 2)) 24 (mF true) 12 [mC 1 0, mN true 2] (kM true 1 2) := .code codeRul_ok rfl (by kernel_rfl)
theorem cmf_13 : RunsCh (ctxF CA10 (mT false 1 3)) 24 (mF false) 12 [mC 1 0, mN false 3] (kM false 1 3) := .code codeRul_ok rfl (by kernel_rfl)
theorem cmt_15 : RunsCh (ctxF CA10 (mT true 1 5)) 24 (mF true) 12 [mC 1 0, mN true 5] (kM true 1 5) := .code codeRul_ok rfl (by kernel_rfl)
theorem cmf_20 : RunsCh (ctxF CA10 (mT false 2 0)) 24 (mF false) 12 [mC 2 0, mN false 0] (kM false 2 0) := .code codeRul_ok rfl (by kernel_rfl)
theorem cmt_22 : RunsCh (ctxF CA10 (mT true 2 2)) 24 (mF true) 12 [mC 2 0, mN true 2] (kM true 2 2) := .code codeRul_ok rfl (by kernel_rfl)
theorem cmf_23 : RunsCh (ctxF CA10 (mT false 2 3)) 24 (mF false) 12 [mC 2 0, mN false 3] (kM false 2 3) := .code codeRul_ok rfl (by kernel_rfl)
theorem cmt_25 : RunsCh (ctxF CA10 (mT true 2 5)) 24 (mF true) 12 [mC 2 0, mN true 5] (kM true 2 5) := .code codeRul_ok rfl (by kernel_rfl)
theorem cmf_30 : RunsCh (ctxF CA10 (mT false 3 0)) 24 (mF false) 12 [mC 3 0, mN false 0] (kM false 3 0) := .code codeRul_ok rfl (by kernel_rfl)
theorem cmt_32 : RunsCh (ctxF CA10 (mT true 3 2)) 24 (mF true) 12 [mC 3 0, mN true 2] (kM true 3 2) := .code codeRul_ok rfl (by kernel_rfl)
theorem cmf_33 : RunsCh (ctxF CA10 (mT false 3 3)) 24 (mF false) 12 [mC 3 0, mN false 3] (kM false 3 3) := .code codeRul_ok rfl (by kernel_rfl)
theorem cmt_35 : RunsCh (ctxF CA10 (mT true 3 5)) 24 (mF true) 12 [mC 3 0, mN true 5] (kM true 3 5) := .code codeRul_ok rfl (by kernel_rfl)
theorem cmf_40 : RunsCh (ctxF CA10 (mT false 4 0)) 24 (mF false) 12 [mC 4 0, mN false 0] (kM false 4 0) := .code codeRul_ok rfl (by kernel_rfl)
theorem cmt_42 : RunsCh (ctxF CA10 (mT true 4 2)) 24 (mF true) 12 [mC 4 0, mN true 2] (kM true 4 2) := .code codeRul_ok rfl (by kernel_rfl)
theorem cmf_43 : RunsCh (ctxF CA10 (mT false 4 3)) 24 (mF false) 12 [mC 4 0, mN false 3] (kM false 4 3) := .code codeRul_ok rfl (by kernel_rfl)
theorem cmt_45 : RunsCh (ctxF CA10 (mT true 4 5)) 24 (mF true) 12 [mC 4 0, mN true 5] (kM true 4 5) := .code codeRul_ok rfl (by kernel_rfl)
theorem cmf_50 : RunsCh (ctxF CA10 (mT false 5 0)) 24 (mF false) 12 [mC 5 0, mN false 0] (kM false 5 0) := .code codeRul_ok rfl (by kernel_rfl)
theorem cmt_52 : RunsCh (ctxF CA10 (mT true 5 2)) 24 (mF true) 12 [mC 5 0, mN true 2] (kM true 5 2) := .code codeRul_ok rfl (by kernel_rfl)
theorem cmf_53 : RunsCh (ctxF CA10 (mT false 5 3)) 24 (mF false) 12 [mC 5 0, mN false 3] (kM false 5 3) := .code codeRul_ok rfl (by kernel_rfl)
theorem cmt_55 : RunsCh (ctxF CA10 (mT true 5 5)) 24 (mF true) 12 [mC 5 0, mN true 5] (kM true 5 5) := .code codeRul_ok rfl (by kernel_rfl)
end Go.Proofs.Ytamhmfdbnlkmkaa
