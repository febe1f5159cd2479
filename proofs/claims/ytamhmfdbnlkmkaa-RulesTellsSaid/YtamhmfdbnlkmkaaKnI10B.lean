/- What of an instruction is told: some runs. -/
import Derived.Test.YtamhmfdbnlkmkaaKnI100
set_option linter.unusedVariables false
set_option linter.unusedSimpArgs false
set_option maxRecDepth 100000
namespace Go.Proofs.Ytamhmfdbnlkmkaa
open Go Go.RowKit

theorem toldb15 : knowN (.cmp .leq (.var 1) (.lit 31)) true (addFact (rightE 15 .var) true rightF) = true := by kernel_rfl
theorem toldc16 : RunsIs CA10 24 rightF 16 (rightA 16) (inV .u8 2) := .code codeRul_ok rfl (by kernel_rfl)
theorem toldk16 : RunsIs CA10 24 rightF 52 [opV 16] (inV .u8 2) := .code codeRul_ok rfl (by kernel_rfl)
theorem toldw16 : RunsIs (ctxT CA10 rightF (yesT 16)) 24 rightF 17 (rightA 16) (.tuple [.tc (.sy (.int .u8) (.var 1)), blV true]) := .code codeRul_ok rfl (by kernel_rfl)
theorem toldv16 : RunsIs (ctxT CA10 rightF (yesT 16)) 24 rightF 35 (rightA 16) (.tuple [.tc (.sy (.int .u8) (.var 1)), blV true]) := .code codeRul_ok rfl (by kernel_rfl)
theorem toldp16 : RunsIs (ctxT CA10 rightF (yesT 16)) 24 rightF 15 (rightA 16) (.tuple [inV .u8 0, blV false]) := .code codeRul_ok rfl (by kernel_rfl)
theorem toldq16 : RunsIs (ctxT CA10 rightF (yesT 16)) 24 rightF 37 (rightA 16) (.tuple [inV .u8 0, blV false]) := .code codeRul_ok rfl (by kernel_rfl)
theorem toldm16 : knowN (.and (.var 7) (.not (.cmp .eql (.var 6) (.lit 0)))) false (addFact (rightE 16 .var) true rightF) = true := by kernel_rfl
theorem toldb16 : knowN (.cmp .leq (.var 1) (.lit 31)) true (addFact (rightE 16 .var) true rightF) = true := by kernel_rfl
theorem toldc17 : RunsIs CA10 24 rightF 16 (rightA 17) (inV .u8 2) := .code codeRul_ok rfl (by kernel_rfl)
theorem toldk17 : RunsIs CA10 24 rightF 52 [opV 17] (inV .u8 2) := .code codeRul_ok rfl (by kernel_rfl)
theorem toldw17 : RunsIs (ctxT CA10 rightF (yesT 17)) 24 rightF 17 (rightA 17) (.tuple [.tc (.sy (.int .u8) (.var 1)), blV true]) := .code codeRul_ok rfl (by kernel_rfl)
theorem toldv17 : RunsIs (ctxT CA10 rightF (yesT 17)) 24 rightF 35 (rightA 17) (.tuple [.tc (.sy (.int .u8) (.var 1)), blV true]) := .code codeRul_ok rfl (by kernel_rfl)
theorem toldp17 : RunsIs (ctxT CA10 rightF (yesT 17)) 24 rightF 15 (rightA 17) (.tuple [inV .u8 0, blV false]) := .code codeRul_ok rfl (by kernel_rfl)
theorem toldq17 : RunsIs (ctxT CA10 rightF (yesT 17)) 24 rightF 37 (rightA 17) (.tuple [inV .u8 0, blV false]) := .code codeRul_ok rfl (by kernel_rfl)
theorem toldm17 : knowN (.and (.var 7) (.not (.cmp .eql (.var 6) (.lit 0)))) false (addFact (rightE 17 .var) true rightF) = true := by kernel_rfl
theorem toldb17 : knowN (.cmp .leq (.var 1) (.lit 31)) true (addFact (rightE 17 .var) true rightF) = true := by kernel_rfl
theorem toldc18 : RunsIs CA10 24 rightF 16 (rightA 18) (inV .u8 2) := .code codeRul_ok rfl (by kernel_rfl)
theorem toldk18 : RunsIs CA10 24 rightF 52 [opV 18] (inV .u8 2) := .code codeRul_ok rfl (by kernel_rfl)
theorem toldw18 : RunsIs (ctxT CA10 rightF (yesT 18)) 24 rightF 17 (rightA 18) (.tuple [.tc (.sy (.int .u8) (.var 1)), blV true]) := .code codeRul_ok rfl (by kernel_rfl)
theorem toldv18 : RunsIs (ctxT CA10 rightF (yesT 18)) 24 rightF 35 (rightA 18) (.tuple [.tc (.sy (.int .u8) (.var 1)), blV true]) := .code codeRul_ok rfl (by kernel_rfl)
theorem toldp18 : RunsIs (ctxT CA10 rightF (yesT 18)) 24 rightF 15 (rightA 18) (.tuple [inV .u8 0, blV false]) := .code codeRul_ok rfl (by kernel_rfl)
theorem toldq18 : RunsIs (ctxT CA10 rightF (yesT 18)) 24 rightF 37 (rightA 18) (.tuple [inV .u8 0, blV false]) := .code codeRul_ok rfl (by kernel_rfl)
theorem toldm18 : knowN (.and (.var 7) (.not (.cmp .eql (.var 6) (.lit 0)))) false (addFact (rightE 18 .var) true rightF) = true := by kernel_rfl
theorem toldb18 : knowN (.cmp .leq (.var 1) (.lit 31)) true (addFact (rightE 18 .var) true rightF) = true := by kernel_rfl
theorem toldc19 : RunsIs CA10 24 rightF 16 (rightA 19) (inV .u8 2) := .code codeRul_ok rfl (by kernel_rfl)
theorem toldk19 : RunsIs CA10 24 rightF 52 [opV 19] (inV .u8 2) := .code codeRul_ok rfl (by kernel_rfl)
theorem toldw19 : RunsIs (ctxT CA10 rightF (yesT 19)) 24 rightF 17 (rightA 19) (.tuple [.tc (.sy (.int .u8) (.var 1)), blV true]) := .code codeRul_ok rfl (by kernel_rfl)
theorem toldv19 : RunsIs (ctxT CA10 rightF (yesT 19)) 24 rightF 35 (rightA 19) (.tuple [.tc (.sy (.int .u8) (.var 1)), blV true]) := .code codeRul_ok rfl (by kernel_rfl)
theorem toldp19 : RunsIs (ctxT CA10 rightF (yesT 19)) 24 rightF 15 (rightA 19) (.tuple [inV .u8 0, blV false]) := .code codeRul_ok rfl (by kernel_rfl)
theorem toldq19 : RunsIs (ctxT CA10 rightF (yesT 19)) 24 rightF 37 (rightA 19) (.tuple [inV .u8 0, blV false]) := .code codeRul_ok rfl (by kernel_rfl)
theorem toldm19 : knowN (.and (.var 7) (.not (.cmp .eql (.var 6) (.lit 0)))) false (addFact (rightE 19 .var) true rightF) = true := by kernel_rfl
theorem toldb19 : knowN (.cmp .leq (.var 1) (.lit 31)) true (addFact (rightE 19 .var) true rightF) = true := by kernel_rfl
theorem toldc20 : RunsIs CA10 24 rightF 16 (rightA 20) (inV .u8 2) := .code codeRul_ok rfl (by kernel_rfl)
theorem toldk20 : RunsIs CA10 24 rightF 52 [opV 20] (inV .u8 2) := .code codeRul_ok rfl (by kernel_rfl)
theorem toldw20 : RunsIs (ctxT CA10 rightF (yesT 20)) 24 rightF 17 (rightA 20) (.tuple [.tc (.sy (.int .u8) (.var 1)), blV true]) := .code codeRul_ok rfl (by kernel_rfl)
theorem toldv20 : RunsIs (ctxT CA10 rightF (yesT 20)) 24 rightF 35 (rightA 20) (.tuple [.tc (.sy (.int .u8) (.var 1)), blV true]) := .code codeRul_ok rfl (by kernel_rfl)
theorem toldp20 : RunsIs (ctxT CA10 rightF (yesT 20)) 24 rightF 15 (rightA 20) (.tuple [inV .u8 0, blV false]) := .code codeRul_ok rfl (by kernel_rfl)
theorem toldq20 : RunsIs (ctxT CA10 rightF (yesT 20)) 24 rightF 37 (rightA 20) (.tuple [inV .u8 0, blV false]) := .code codeRul_ok rfl (by kernel_rfl)
theorem toldm20 : knowN (.and (.var 7) (.not (.cmp .eql (.var 6) (.lit 0)))) false (addFact (rightE 20 .var) true rightF) = true := by kernel_rfl
theorem toldb20 : knowN (.cmp .leq (.var 1) (.lit 31)) true (addFact (rightE 20 .var) true rightF) = true := by kernel_rfl
theorem toldc21 : RunsIs CA10 24 rightF 16 (rightA 21) (inV .u8 3) := .code codeRul_ok rfl (by kernel_rfl)
theorem toldk21 : RunsIs CA10 24 rightF 52 [opV 21] (inV .u8 3) := .code codeRul_ok rfl (by kernel_rfl)
theorem toldw21 : RunsIs (ctxT CA10 rightF (yesT 21)) 24 rightF 17 (rightA 21) (.tuple [.tc (.sy (.int .u8) (.var 1)), blV true]) := .code codeRul_ok rfl (by kernel_rfl)
theorem toldv21 : RunsIs (ctxT CA10 rightF (yesT 21)) 24 rightF 35 (rightA 21) (.tuple [.tc (.sy (.int .u8) (.var 1)), blV true]) := .code codeRul_ok rfl (by kernel_rfl)
theorem toldp21 : RunsIs (ctxT CA10 rightF (yesT 21)) 24 rightF 15 (rightA 21) (.tuple [inV .u8 0, blV false]) := .code codeRul_ok rfl (by kernel_rfl)
theorem toldq21 : RunsIs (ctxT CA10 rightF (yesT 21)) 24 rightF 37 (rightA 21) (.tuple [inV .u8 0, blV false]) := .code codeRul_ok rfl (by kernel_rfl)
theorem toldm21 : knowN (.and (.var 7) (.not (.cmp .eql (.var 6) (.lit 0)))) false (addFact (rightE 21 .var) true rightF) = true := by kernel_rfl
theorem toldb21 : knowN (.cmp .leq (.var 1) (.lit 31)) true (addFact (rightE 21 .var) true rightF) = true := by kernel_rfl
theorem toldc22 : RunsIs CA10 24 rightF 16 (rightA 22) (inV .u8 3) := .code codeRul_ok rfl (by kernel_rfl)
theorem toldk22 : RunsIs CA10 24 rightF 52 [opV 22] (inV .u8 3) := .code codeRul_ok rfl (by kernel_rfl)
theorem toldw22 : RunsIs (ctxT CA10 rightF (yesT 22)) 24 rightF 17 (rightA 22) (.tuple [.tc (.sy (.int .u8) (.var 1)), blV true]) := .code codeRul_ok rfl (by kernel_rfl)
theorem toldv22 : RunsIs (ctxT CA10 rightF (yesT 22)) 24 rightF 35 (rightA 22) (.tuple [.tc (.sy (.int .u8) (.var 1)), blV true]) := .code codeRul_ok rfl (by kernel_rfl)
theorem toldp22 : RunsIs (ctxT CA10 rightF (yesT 22)) 24 rightF 15 (rightA 22) (.tuple [inV .u8 0, blV false]) := .code codeRul_ok rfl (by kernel_rfl)
theorem toldq22 : RunsIs (ctxT CA10 rightF (yesT 22)) 24 rightF 37 (rightA 22) (.tuple [inV .u8 0, blV false]) := .code codeRul_ok rfl (by kernel_rfl)
theorem toldm22 : knowN (.and (.var 7) (.not (.cmp .eql (.var 6) (.lit 0)))) false (addFact (rightE 22 .var) true rightF) = true := by kernel_rfl
theorem toldb22 : knowN (.cmp .leq (.var 1) (.lit 31)) true (addFact (rightE 22 .var) true rightF) = true := by kernel_rfl
theorem toldc23 : RunsIs CA10 24 rightF 16 (rightA 23) (inV .u8 3) := .code codeRul_ok rfl (by kernel_rfl)
theorem toldk23 : RunsIs CA10 24 rightF 52 [opV 23] (inV .u8 3) := .code codeRul_ok rfl (by kernel_rfl)
theorem toldw23 : RunsIs (ctxT CA10 rightF (yesT 23)) 24 rightF 17 (rightA 23) (.tuple [.tc (.sy (.int .u8) (.var 1)), blV true]) := .code codeRul_ok rfl (by kernel_rfl)
theorem toldv23 : RunsIs (ctxT CA10 rightF (yesT 23)) 24 rightF 35 (rightA 23) (.tuple [.tc (.sy (.int .u8) (.var 1)), blV true]) := .code codeRul_ok rfl (by kernel_rfl)
theorem toldp23 : RunsIs (ctxT CA10 rightF (yesT 23)) 24 rightF 15 (rightA 23) (.tuple [inV .u8 0, blV false]) := .code codeRul_ok rfl (by kernel_rfl)
theorem toldq23 : RunsIs (ctxT CA10 rightF (yesT 23)) 24 rightF 37 (rightA 23) (.tuple [inV .u8 0, blV false]) := .code codeRul_ok rfl (by kernel_rfl)
theorem toldm23 : knowN (.and (.var 7) (.not (.cmp .eql (.var 6) (.lit 0)))) false (addFact (rightE 23 .var) true rightF) = true := by kernel_rfl
theorem toldb23 : knowN (.cmp .leq (.var 1) (.lit 31)) true (addFact (rightE 23 .var) true rightF) = true := by kernel_rfl
theorem toldc24 : RunsIs CA10 24 rightF 16 (rightA 24) (inV .u8 4) := .code codeRul_ok rfl (by kernel_rfl)
theorem toldk24 : RunsIs CA10 24 rightF 52 [opV 24] (inV .u8 4) := .code codeRul_ok rfl (by kernel_rfl)
theorem toldw24 : RunsIs (ctxT CA10 rightF (yesT 24)) 24 rightF 17 (rightA 24) (.tuple [inV .u8 0, blV false]) := .code codeRul_ok rfl (by kernel_rfl)
theorem toldv24 : RunsIs (ctxT CA10 rightF (yesT 24)) 24 rightF 35 (rightA 24) (.tuple [inV .u8 0, blV false]) := .code codeRul_ok rfl (by kernel_rfl)
theorem toldp24 : RunsIs (ctxT CA10 rightF (yesT 24)) 24 rightF 15 (rightA 24) (.tuple [inV .u8 0, blV false]) := .code codeRul_ok rfl (by kernel_rfl)
theorem toldq24 : RunsIs (ctxT CA10 rightF (yesT 24)) 24 rightF 37 (rightA 24) (.tuple [inV .u8 0, blV false]) := .code codeRul_ok rfl (by kernel_rfl)
theorem toldm24 : knowN (.and (.var 7) (.not (.cmp .eql (.var 6) (.lit 0)))) false (addFact (rightE 24 .var) true rightF) = true := by kernel_rfl
theorem toldc25 : RunsIs CA10 24 rightF 16 (rightA 25) (inV .u8 4) := .code codeRul_ok rfl (by kernel_rfl)
theorem toldk25 : RunsIs CA10 24 rightF 52 [opV 25] (inV .u8 4) := .code codeRul_ok rfl (by kernel_rfl)
theorem toldw25 : RunsIs (ctxT CA10 rightF (yesT 25)) 24 rightF 17 (rightA 25) (.tuple [inV .u8 0, blV false]) := .code codeRul_ok rfl (by kernel_rfl)
theorem toldv25 : RunsIs (ctxT CA10 rightF (yesT 25)) 24 rightF 35 (rightA 25) (.tuple [inV .u8 0, blV false]) := .code codeRul_ok rfl (by kernel_rfl)
theorem toldp25 : RunsIs (ctxT CA10 rightF (yesT 25)) 24 rightF 15 (rightA 25) (.tuple [inV .u8 0, blV false]) := .code codeRul_ok rfl (by kernel_rfl)
theorem toldq25 : RunsIs (ctxT CA10 rightF (yesT 25)) 24 rightF 37 (rightA 25) (.tuple [inV .u8 0, blV false]) := .code codeRul_ok rfl (by kernel_rfl)
theorem toldm25 : knowN (.and (.var 7) (.not (.cmp .eql (.var 6) (.lit 0)))) false (addFact (rightE 25 .var) true rightF) = true := by kernel_rfl
theorem toldc26 : RunsIs CA10 24 rightF 16 (rightA 26) (inV .u8 4) := .code codeRul_ok rfl (by kernel_rfl)
theorem toldk26 : RunsIs CA10 24 rightF 52 [opV 26] (inV .u8 4) := .code codeRul_ok rfl (by kernel_rfl)
theorem toldw26 : RunsIs (ctxT CA10 rightF (yesT 26)) 24 rightF 17 (rightA 26) (.tuple [inV .u8 0, blV false]) := .code codeRul_ok rfl (by kernel_rfl)
theorem toldv26 : RunsIs (ctxT CA10 rightF (yesT 26)) 24 rightF 35 (rightA 26) (.tuple [inV .u8 0, blV false]) := .code codeRul_ok rfl (by kernel_rfl)
theorem toldp26 : RunsIs (ctxT CA10 rightF (yesT 26)) 24 rightF 15 (rightA 26) (.tuple [inV .u8 0, blV false]) := .code codeRul_ok rfl (by kernel_rfl)
theorem toldq26 : RunsIs (ctxT CA10 rightF (yesT 26)) 24 rightF 37 (rightA 26) (.tuple [inV .u8 0, blV false]) := .code codeRul_ok rfl (by kernel_rfl)
theorem toldm26 : knowN (.and (.var 7) (.not (.cmp .eql (.var 6) (.lit 0)))) false (addFact (rightE 26 .var) true rightF) = true := by kernel_rfl
theorem toldc27 : RunsIs CA10 24 rightF 16 (rightA 27) (inV .u8 5) := .code codeRul_ok rfl (by kernel_rfl)
theorem toldk27 : RunsIs CA10 24 rightF 52 [opV 27] (inV .u8 5) := .code codeRul_ok rfl (by kernel_rfl)
theorem toldw27 : RunsIs (ctxT CA10 rightF (yesT 27)) 24 rightF 17 (rightA 27) (.tuple [inV .u8 0, blV false]) := .code codeRul_ok rfl (by kernel_rfl)
theorem toldv27 : RunsIs (ctxT CA10 rightF (yesT 27)) 24 rightF 35 (rightA 27) (.tuple [inV .u8 0, blV false]) := .code codeRul_ok rfl (by kernel_rfl)
theorem toldp27 : RunsIs (ctxT CA10 rightF (yesT 27)) 24 rightF 15 (rightA 27) (.tuple [inV .u8 0, blV false]) := .code codeRul_ok rfl (by kernel_rfl)
theorem toldq27 : RunsIs (ctxT CA10 rightF (yesT 27)) 24 rightF 37 (rightA 27) (.tuple [inV .u8 0, blV false]) := .code codeRul_ok rfl (by kernel_rfl)
theorem toldm27 : knowN (.and (.var 7) (.not (.cmp .eql (.var 6) (.lit 0)))) false (addFact (rightE 27 .var) true rightF) = true := by kernel_rfl
theorem toldc28 : RunsIs CA10 24 rightF 16 (rightA 28) (inV .u8 5) := .code codeRul_ok rfl (by kernel_rfl)
theorem toldk28 : RunsIs CA10 24 rightF 52 [opV 28] (inV .u8 5) := .code codeRul_ok rfl (by kernel_rfl)
theorem toldw28 : RunsIs (ctxT CA10 rightF (yesT 28)) 24 rightF 17 (rightA 28) (.tuple [inV .u8 0, blV false]) := .code codeRul_ok rfl (by kernel_rfl)
theorem toldv28 : RunsIs (ctxT CA10 rightF (yesT 28)) 24 rightF 35 (rightA 28) (.tuple [inV .u8 0, blV false]) := .code codeRul_ok rfl (by kernel_rfl)
theorem toldp28 : RunsIs (ctxT CA10 rightF (yesT 28)) 24 rightF 15 (rightA 28) (.tuple [inV .u8 0, blV false]) := .code codeRul_ok rfl (by kernel_rfl)
theorem toldq28 : RunsIs (ctxT CA10 rightF (yesT 28)) 24 rightF 37 (rightA 28) (.tuple [inV .u8 0, blV false]) := .code codeRul_ok rfl (by kernel_rfl)
theorem toldm28 : knowN (.and (.var 7) (.not (.cmp .eql (.var 6) (.lit 0)))) false (addFact (rightE 28 .var) true rightF) = true := by kernel_rfl
theorem toldc29 : RunsIs CA10 24 rightF 16 (rightA 29) (inV .u8 5) := .code codeRul_ok rfl (by kernel_rfl)
theorem toldk29 : RunsIs CA10 24 rightF 52 [opV 29] (inV .u8 5) := .code codeRul_ok rfl (by kernel_rfl)
theorem toldw29 : RunsIs (ctxT CA10 rightF (yesT 29)) 24 rightF 17 (rightA 29) (.tuple [inV .u8 31, blV true]) := .code codeRul_ok rfl (by kernel_rfl)
theorem toldv29 : RunsIs (ctxT CA10 rightF (yesT 29)) 24 rightF 35 (rightA 29) (.tuple [inV .u8 31, blV true]) := .code codeRul_ok rfl (by kernel_rfl)
theorem toldp29 : RunsIs (ctxT CA10 rightF (yesT 29)) 24 rightF 15 (rightA 29) (.tuple [inV .u8 0, blV false]) := .code codeRul_ok rfl (by kernel_rfl)
theorem toldq29 : RunsIs (ctxT CA10 rightF (yesT 29)) 24 rightF 37 (rightA 29) (.tuple [inV .u8 0, blV false]) := .code codeRul_ok rfl (by kernel_rfl)
theorem toldm29 : knowN (.and (.var 7) (.not (.cmp .eql (.var 6) (.lit 0)))) false (addFact (rightE 29 .var) true rightF) = true := by kernel_rfl
theorem toldc30 : RunsIs CA10 24 rightF 16 (rightA 30) (inV .u8 6) := .code codeRul_ok rfl (by kernel_rfl)
theorem toldk30 : RunsIs CA10 24 rightF 52 [opV 30] (inV .u8 6) := .code codeRul_ok rfl (by kernel_rfl)
theorem toldw30 : RunsIs (ctxT CA10 rightF (yesT 30)) 24 rightF 17 (rightA 30) (.tuple [inV .u8 0, blV false]) := .code codeRul_ok rfl (by kernel_rfl)
theorem toldv30 : RunsIs (ctxT CA10 rightF (yesT 30)) 24 rightF 35 (rightA 30) (.tuple [inV .u8 0, blV false]) := .code codeRul_ok rfl (by kernel_rfl)
theorem toldp30 : RunsIs (ctxT CA10 rightF (yesT 30)) 24 rightF 15 (rightA 30) (.tuple [inV .u8 0, blV false]) := .code codeRul_ok rfl (by kernel_rfl)
theorem toldq30 : RunsIs (ctxT CA10 rightF (yesT 30)) 24 rightF 37 (rightA 30) (.tuple [inV .u8 0, blV false]) := .code codeRul_ok rfl (by kernel_rfl)
theorem toldm30 : knowN (.and (.var 7) (.not (.cmp .eql (.var 6) (.lit 0)))) false (addFact (rightE 30 .var) true rightF) = true := by kernel_rfl
theorem toldc31 : RunsIs CA10 24 rightF 16 (rightA 31) (inV .u8 6) := .code codeRul_ok rfl (by kernel_rfl)
theorem toldk31 : RunsIs CA10 24 rightF 52 [opV 31] (inV .u8 6) := .code codeRul_ok rfl (by kernel_rfl)
theorem toldw31 : RunsIs (ctxT CA10 rightF (yesT 31)) 24 rightF 17 (rightA 31) (.tuple [inV .u8 0, blV false]) := .code codeRul_ok rfl (by kernel_rfl)
theorem toldv31 : RunsIs (ctxT CA10 rightF (yesT 31)) 24 rightF 35 (rightA 31) (.tuple [inV .u8 0, blV false]) := .code codeRul_ok rfl (by kernel_rfl)
theorem toldp31 : RunsIs (ctxT CA10 rightF (yesT 31)) 24 rightF 15 (rightA 31) (.tuple [inV .u8 0, blV false]) := .code codeRul_ok rfl (by kernel_rfl)
theorem toldq31 : RunsIs (ctxT CA10 rightF (yesT 31)) 24 rightF 37 (rightA 31) (.tuple [inV .u8 0, blV false]) := .code codeRul_ok rfl (by kernel_rfl)
theorem toldm31 : knowN (.and (.var 7) (.not (.cmp .eql (.var 6) (.lit 0)))) false (addFact (rightE 31 .var) true rightF) = true := by kernel_rfl
theorem toldr0 : RunsIs CA10 24 rightF 14 (rightA 0) (blV false) := .code codeRul_ok rfl (by kernel_rfl)
theorem tolds0 : RunsIs CA10 24 rightF 51 (rightA 0) (blV false) := .code codeRul_ok rfl (by kernel_rfl)
theorem toldr : RunsIs CA10 24 anyF 14 [anyI] (blV false) := .code codeRul_ok rfl (by kernel_rfl)
theorem tolds : RunsIs CA10 24 anyF 51 [anyI] (blV false) := .code codeRul_ok rfl (by kernel_rfl)
theorem toldc : RunsIs CA10 24 anyF 16 [anyI] (inV .u8 0) := .code codeRul_ok rfl (by kernel_rfl)
theorem toldk : RunsIs CA10 24 anyF 52 [.tc (.sy (.int .u8) (.var 0))] (inV .u8 0) := .code codeRul_ok rfl (by kernel_rfl)
def noT : Tabs := [(14, [([anyI], blV false)]), (51, [([anyI], blV false)])]
def allF : Facts := (.cmp .geq (.var 0) (.lit 0), true) :: (.cmp .leq (.var 0) (.lit 255), true) :: rightF
theorem toldnw : RunsIs (ctxT CA10 allF noT) 24 allF 17 [anyI] (.tuple [inV .u8 0, blV false]) := .code codeRul_ok rfl (by kernel_rfl)
theorem toldnv : RunsIs (ctxT CA10 allF noT) 24 allF 35 [anyI] (.tuple [inV .u8 0, blV false]) := .code codeRul_ok rfl (by kernel_rfl)
theorem toldnp : RunsIs (ctxT CA10 allF noT) 24 allF 15 [anyI] (.tuple [inV .u8 0, blV false]) := .code codeRul_ok rfl (by kernel_rfl)
theorem toldnq : RunsIs (ctxT CA10 allF noT) 24 allF 37 [anyI] (.tuple [inV .u8 0, blV false]) := .code codeRul_ok rfl (by kernel_rfl)
end Go.Proofs.Ytamhmfdbnlkmkaa
