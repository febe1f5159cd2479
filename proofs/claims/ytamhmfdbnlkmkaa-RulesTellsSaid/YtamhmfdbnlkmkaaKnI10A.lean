/- What of an instruction is told: some runs. -/
import Derived.Test.YtamhmfdbnlkmkaaKnI100
set_option linter.unusedVariables false
set_option linter.unusedSimpArgs false
set_option maxRecDepth 100000
namespace Go.Proofs.Ytamhmfdbnlkmkaa
open Go Go.RowKit

theorem toldc0 : RunsIs CA10 24 rightF 16 (rightA 0) (inV .u8 0) := .code codeRul_ok rfl (by kernel_rfl)
theorem toldk0 : RunsIs CA10 24 rightF 52 [opV 0] (inV .u8 0) := .code codeRul_ok rfl (by kernel_rfl)
theorem toldc1 : RunsIs CA10 24 rightF 16 (rightA 1) (inV .u8 1) := .code codeRul_ok rfl (by kernel_rfl)
theorem toldk1 : RunsIs CA10 24 rightF 52 [opV 1] (inV .u8 1) := .code codeRul_ok rfl (by kernel_rfl)
theorem toldw1 : RunsIs (ctxT CA10 rightF (yesT 1)) 24 rightF 17 (rightA 1) (.tuple [inV .u8 0, blV false]) := .code codeRul_ok rfl (by kernel_rfl)
theorem toldv1 : RunsIs (ctxT CA10 rightF (yesT 1)) 24 rightF 35 (rightA 1) (.tuple [inV .u8 0, blV false]) := .code codeRul_ok rfl (by kernel_rfl)
theorem toldp1 : RunsIs (ctxT CA10 rightF (yesT 1)) 24 rightF 15 (rightA 1) (.tuple [inV .u8 0, blV false]) := .code codeRul_ok rfl (by kernel_rfl)
theorem toldq1 : RunsIs (ctxT CA10 rightF (yesT 1)) 24 rightF 37 (rightA 1) (.tuple [inV .u8 0, blV false]) := .code codeRul_ok rfl (by kernel_rfl)
theorem toldm1 : knowN (.and (.var 7) (.not (.cmp .eql (.var 6) (.lit 0)))) false (addFact (rightE 1 .var) true rightF) = true := by kernel_rfl
theorem toldc2 : RunsIs CA10 24 rightF 16 (rightA 2) (inV .u8 1) := .code codeRul_ok rfl (by kernel_rfl)
theorem toldk2 : RunsIs CA10 24 rightF 52 [opV 2] (inV .u8 1) := .code codeRul_ok rfl (by kernel_rfl)
theorem toldw2 : RunsIs (ctxT CA10 rightF (yesT 2)) 24 rightF 17 (rightA 2) (.tuple [.tc (.sy (.int .u8) (.var 1)), blV true]) := .code codeRul_ok rfl (by kernel_rfl)
theorem toldv2 : RunsIs (ctxT CA10 rightF (yesT 2)) 24 rightF 35 (rightA 2) (.tuple [.tc (.sy (.int .u8) (.var 1)), blV true]) := .code codeRul_ok rfl (by kernel_rfl)
theorem toldp2 : RunsIs (ctxT CA10 rightF (yesT 2)) 24 rightF 15 (rightA 2) (.tuple [inV .u8 0, blV false]) := .code codeRul_ok rfl (by kernel_rfl)
theorem toldq2 : RunsIs (ctxT CA10 rightF (yesT 2)) 24 rightF 37 (rightA 2) (.tuple [inV .u8 0, blV false]) := .code codeRul_ok rfl (by kernel_rfl)
theorem toldm2 : knowN (.and (.var 7) (.not (.cmp .eql (.var 6) (.lit 0)))) false (addFact (rightE 2 .var) true rightF) = true := by kernel_rfl
theorem toldb2 : knowN (.cmp .leq (.var 1) (.lit 31)) true (addFact (rightE 2 .var) true rightF) = true := by kernel_rfl
theorem toldc3 : RunsIs CA10 24 rightF 16 (rightA 3) (inV .u8 1) := .code codeRul_ok rfl (by kernel_rfl)
theorem toldk3 : RunsIs CA10 24 rightF 52 [opV 3] (inV .u8 1) := .code codeRul_ok rfl (by kernel_rfl)
theorem toldw3 : RunsIs (ctxT CA10 rightF (yesT 3)) 24 rightF 17 (rightA 3) (.tuple [.tc (.sy (.int .u8) (.var 1)), blV true]) := .code codeRul_ok rfl (by kernel_rfl)
theorem toldv3 : RunsIs (ctxT CA10 rightF (yesT 3)) 24 rightF 35 (rightA 3) (.tuple [.tc (.sy (.int .u8) (.var 1)), blV true]) := .code codeRul_ok rfl (by kernel_rfl)
theorem toldp3 : RunsIs (ctxT CA10 rightF (yesT 3)) 24 rightF 15 (rightA 3) (.tuple [inV .u8 0, blV false]) := .code codeRul_ok rfl (by kernel_rfl)
theorem toldq3 : RunsIs (ctxT CA10 rightF (yesT 3)) 24 rightF 37 (rightA 3) (.tuple [inV .u8 0, blV false]) := .code codeRul_ok rfl (by kernel_rfl)
theorem toldm3 : knowN (.and (.var 7) (.not (.cmp .eql (.var 6) (.lit 0)))) false (addFact (rightE 3 .var) true rightF) = true := by kernel_rfl
theorem toldb3 : knowN (.cmp .leq (.var 1) (.lit 31)) true (addFact (rightE 3 .var) true rightF) = true := by kernel_rfl
theorem toldc4 : RunsIs CA10 24 rightF 16 (rightA 4) (inV .u8 1) := .code codeRul_ok rfl (by kernel_rfl)
theorem toldk4 : RunsIs CA10 24 rightF 52 [opV 4] (inV .u8 1) := .code codeRul_ok rfl (by kernel_rfl)
theorem toldw4 : RunsIs (ctxT CA10 rightF (yesT 4)) 24 rightF 17 (rightA 4) (.tuple [.tc (.sy (.int .u8) (.var 1)), blV true]) := .code codeRul_ok rfl (by kernel_rfl)
theorem toldv4 : RunsIs (ctxT CA10 rightF (yesT 4)) 24 rightF 35 (rightA 4) (.tuple [.tc (.sy (.int .u8) (.var 1)), blV true]) := .code codeRul_ok rfl (by kernel_rfl)
theorem toldp4 : RunsIs (ctxT CA10 rightF (yesT 4)) 24 rightF 15 (rightA 4) (.tuple [inV .u8 0, blV false]) := .code codeRul_ok rfl (by kernel_rfl)
theorem toldq4 : RunsIs (ctxT CA10 rightF (yesT 4)) 24 rightF 37 (rightA 4) (.tuple [inV .u8 0, blV false]) := .code codeRul_ok rfl (by kernel_rfl)
theorem toldm4 : knowN (.and (.var 7) (.not (.cmp .eql (.var 6) (.lit 0)))) false (addFact (rightE 4 .var) true rightF) = true := by kernel_rfl
theorem toldb4 : knowN (.cmp .leq (.var 1) (.lit 31)) true (addFact (rightE 4 .var) true rightF) = true := by kernel_rfl
theorem toldc5 : RunsIs CA10 24 rightF 16 (rightA 5) (inV .u8 1) := .code codeRul_ok rfl (by kernel_rfl)
theorem toldk5 : RunsIs CA10 24 rightF 52 [opV 5] (inV .u8 1) := .code codeRul_ok rfl (by kernel_rfl)
theorem toldw5 : RunsIs (ctxT CA10 rightF (yesT 5)) 24 rightF 17 (rightA 5) (.tuple [.tc (.sy (.int .u8) (.var 1)), blV true]) := .code codeRul_ok rfl (by kernel_rfl)
theorem toldv5 : RunsIs (ctxT CA10 rightF (yesT 5)) 24 rightF 35 (rightA 5) (.tuple [.tc (.sy (.int .u8) (.var 1)), blV true]) := .code codeRul_ok rfl (by kernel_rfl)
theorem toldp5 : RunsIs (ctxT CA10 rightF (yesT 5)) 24 rightF 15 (rightA 5) (.tuple [inV .u8 0, blV false]) := .code codeRul_ok rfl (by kernel_rfl)
theorem toldq5 : RunsIs (ctxT CA10 rightF (yesT 5)) 24 rightF 37 (rightA 5) (.tuple [inV .u8 0, blV false]) := .code codeRul_ok rfl (by kernel_rfl)
theorem toldm5 : knowN (.and (.var 7) (.not (.cmp .eql (.var 6) (.lit 0)))) false (addFact (rightE 5 .var) true rightF) = true := by kernel_rfl
theorem toldb5 : knowN (.cmp .leq (.var 1) (.lit 31)) true (addFact (rightE 5 .var) true rightF) = true := by kernel_rfl
theorem toldc6 : RunsIs CA10 24 rightF 16 (rightA 6) (inV .u8 1) := .code codeRul_ok rfl (by kernel_rfl)
theorem toldk6 : RunsIs CA10 24 rightF 52 [opV 6] (inV .u8 1) := .code codeRul_ok rfl (by kernel_rfl)
theorem toldw6 : RunsIs (ctxT CA10 rightF (yesT 6)) 24 rightF 17 (rightA 6) (.tuple [.tc (.sy (.int .u8) (.var 1)), blV true]) := .code codeRul_ok rfl (by kernel_rfl)
theorem toldv6 : RunsIs (ctxT CA10 rightF (yesT 6)) 24 rightF 35 (rightA 6) (.tuple [.tc (.sy (.int .u8) (.var 1)), blV true]) := .code codeRul_ok rfl (by kernel_rfl)
theorem toldp6 : RunsIs (ctxT CA10 rightF (yesT 6)) 24 rightF 15 (rightA 6) (.tuple [inV .u8 0, blV false]) := .code codeRul_ok rfl (by kernel_rfl)
theorem toldq6 : RunsIs (ctxT CA10 rightF (yesT 6)) 24 rightF 37 (rightA 6) (.tuple [inV .u8 0, blV false]) := .code codeRul_ok rfl (by kernel_rfl)
theorem toldm6 : knowN (.and (.var 7) (.not (.cmp .eql (.var 6) (.lit 0)))) false (addFact (rightE 6 .var) true rightF) = true := by kernel_rfl
theorem toldb6 : knowN (.cmp .leq (.var 1) (.lit 31)) true (addFact (rightE 6 .var) true rightF) = true := by kernel_rfl
theorem toldc7 : RunsIs CA10 24 rightF 16 (rightA 7) (inV .u8 1) := .code codeRul_ok rfl (by kernel_rfl)
theorem toldk7 : RunsIs CA10 24 rightF 52 [opV 7] (inV .u8 1) := .code codeRul_ok rfl (by kernel_rfl)
theorem toldw7 : RunsIs (ctxT CA10 rightF (yesT 7)) 24 rightF 17 (rightA 7) (.tuple [.tc (.sy (.int .u8) (.var 1)), blV true]) := .code codeRul_ok rfl (by kernel_rfl)
theorem toldv7 : RunsIs (ctxT CA10 rightF (yesT 7)) 24 rightF 35 (rightA 7) (.tuple [.tc (.sy (.int .u8) (.var 1)), blV true]) := .code codeRul_ok rfl (by kernel_rfl)
theorem toldp7 : RunsIs (ctxT CA10 rightF (yesT 7)) 24 rightF 15 (rightA 7) (.tuple [inV .u8 0, blV false]) := .code codeRul_ok rfl (by kernel_rfl)
theorem toldq7 : RunsIs (ctxT CA10 rightF (yesT 7)) 24 rightF 37 (rightA 7) (.tuple [inV .u8 0, blV false]) := .code codeRul_ok rfl (by kernel_rfl)
theorem toldm7 : knowN (.and (.var 7) (.not (.cmp .eql (.var 6) (.lit 0)))) false (addFact (rightE 7 .var) true rightF) = true := by kernel_rfl
theorem toldb7 : knowN (.cmp .leq (.var 1) (.lit 31)) true (addFact (rightE 7 .var) true rightF) = true := by kernel_rfl
theorem toldc8 : RunsIs CA10 24 rightF 16 (rightA 8) (inV .u8 1) := .code codeRul_ok rfl (by kernel_rfl)
theorem toldk8 : RunsIs CA10 24 rightF 52 [opV 8] (inV .u8 1) := .code codeRul_ok rfl (by kernel_rfl)
theorem toldw8 : RunsIs (ctxT CA10 rightF (yesT 8)) 24 rightF 17 (rightA 8) (.tuple [.tc (.sy (.int .u8) (.var 1)), blV true]) := .code codeRul_ok rfl (by kernel_rfl)
theorem toldv8 : RunsIs (ctxT CA10 rightF (yesT 8)) 24 rightF 35 (rightA 8) (.tuple [.tc (.sy (.int .u8) (.var 1)), blV true]) := .code codeRul_ok rfl (by kernel_rfl)
theorem toldp8 : RunsIs (ctxT CA10 rightF (yesT 8)) 24 rightF 15 (rightA 8) (.tuple [inV .u8 0, blV false]) := .code codeRul_ok rfl (by kernel_rfl)
theorem toldq8 : RunsIs (ctxT CA10 rightF (yesT 8)) 24 rightF 37 (rightA 8) (.tuple [inV .u8 0, blV false]) := .code codeRul_ok rfl (by kernel_rfl)
theorem toldm8 : knowN (.and (.var 7) (.not (.cmp .eql (.var 6) (.lit 0)))) false (addFact (rightE 8 .var) true rightF) = true := by kernel_rfl
theorem toldb8 : knowN (.cmp .leq (.var 1) (.lit 31)) true (addFact (rightE 8 .var) true rightF) = true := by kernel_rfl
theorem toldc9 : RunsIs CA10 24 rightF 16 (rightA 9) (inV .u8 1) := .code codeRul_ok rfl (by kernel_rfl)
theorem toldk9 : RunsIs CA10 24 rightF 52 [opV 9] (inV .u8 1) := .code codeRul_ok rfl (by kernel_rfl)
theorem toldw9 : RunsIs (ctxT CA10 rightF (yesT 9)) 24 rightF 17 (rightA 9) (.tuple [.tc (.sy (.int .u8) (.var 1)), blV true]) := .code codeRul_ok rfl (by kernel_rfl)
theorem toldv9 : RunsIs (ctxT CA10 rightF (yesT 9)) 24 rightF 35 (rightA 9) (.tuple [.tc (.sy (.int .u8) (.var 1)), blV true]) := .code codeRul_ok rfl (by kernel_rfl)
theorem toldp9 : RunsIs (ctxT CA10 rightF (yesT 9)) 24 rightF 15 (rightA 9) (.tuple [inV .u8 0, blV false]) := .code codeRul_ok rfl (by kernel_rfl)
theorem toldq9 : RunsIs (ctxT CA10 rightF (yesT 9)) 24 rightF 37 (rightA 9) (.tuple [inV .u8 0, blV false]) := .code codeRul_ok rfl (by kernel_rfl)
theorem toldm9 : knowN (.and (.var 7) (.not (.cmp .eql (.var 6) (.lit 0)))) false (addFact (rightE 9 .var) true rightF) = true := by kernel_rfl
theorem toldb9 : knowN (.cmp .leq (.var 1) (.lit 31)) true (addFact (rightE 9 .var) true rightF) = true := by kernel_rfl
theorem toldc10 : RunsIs CA10 24 rightF 16 (rightA 10) (inV .u8 1) := .code codeRul_ok rfl (by kernel_rfl)
theorem toldk10 : RunsIs CA10 24 rightF 52 [opV 10] (inV .u8 1) := .code codeRul_ok rfl (by kernel_rfl)
theorem toldw10 : RunsIs (ctxT CA10 rightF (yesT 10)) 24 rightF 17 (rightA 10) (.tuple [inV .u8 0, blV false]) := .code codeRul_ok rfl (by kernel_rfl)
theorem toldv10 : RunsIs (ctxT CA10 rightF (yesT 10)) 24 rightF 35 (rightA 10) (.tuple [inV .u8 0, blV false]) := .code codeRul_ok rfl (by kernel_rfl)
theorem toldp10 : RunsIs (ctxT CA10 rightF (yesT 10)) 24 rightF 15 (rightA 10) (.tuple [.tc (.sy (.int .u8) (.var 1)), blV true]) := .code codeRul_ok rfl (by kernel_rfl)
theorem toldq10 : RunsIs (ctxT CA10 rightF (yesT 10)) 24 rightF 37 (rightA 10) (.tuple [.tc (.sy (.int .u8) (.var 1)), blV true]) := .code codeRul_ok rfl (by kernel_rfl)
theorem toldm10 : knowN (.and (.var 7) (.not (.cmp .eql (.var 6) (.lit 0)))) false (addFact (rightE 10 .var) true rightF) = true := by kernel_rfl
theorem toldb10 : knowN (.cmp .leq (.var 1) (.lit 3)) true (addFact (rightE 10 .var) true rightF) = true := by kernel_rfl
theorem toldc11 : RunsIs CA10 24 rightF 16 (rightA 11) (inV .u8 1) := .code codeRul_ok rfl (by kernel_rfl)
theorem toldk11 : RunsIs CA10 24 rightF 52 [opV 11] (inV .u8 1) := .code codeRul_ok rfl (by kernel_rfl)
theorem toldw11 : RunsIs (ctxT CA10 rightF (yesT 11)) 24 rightF 17 (rightA 11) (.tuple [inV .u8 0, blV false]) := .code codeRul_ok rfl (by kernel_rfl)
theorem toldv11 : RunsIs (ctxT CA10 rightF (yesT 11)) 24 rightF 35 (rightA 11) (.tuple [inV .u8 0, blV false]) := .code codeRul_ok rfl (by kernel_rfl)
theorem toldp11 : RunsIs (ctxT CA10 rightF (yesT 11)) 24 rightF 15 (rightA 11) (.tuple [.tc (.sy (.int .u8) (.var 1)), blV true]) := .code codeRul_ok rfl (by kernel_rfl)
theorem toldq11 : RunsIs (ctxT CA10 rightF (yesT 11)) 24 rightF 37 (rightA 11) (.tuple [.tc (.sy (.int .u8) (.var 1)), blV true]) := .code codeRul_ok rfl (by kernel_rfl)
theorem toldm11 : knowN (.and (.var 7) (.not (.cmp .eql (.var 6) (.lit 0)))) false (addFact (rightE 11 .var) true rightF) = true := by kernel_rfl
theorem toldb11 : knowN (.cmp .leq (.var 1) (.lit 3)) true (addFact (rightE 11 .var) true rightF) = true := by kernel_rfl
theorem toldc12 : RunsIs CA10 24 rightF 16 (rightA 12) (inV .u8 1) := .code codeRul_ok rfl (by kernel_rfl)
theorem toldk12 : RunsIs CA10 24 rightF 52 [opV 12] (inV .u8 1) := .code codeRul_ok rfl (by kernel_rfl)
theorem toldw12 : RunsIs (ctxT CA10 rightF (yesT 12)) 24 rightF 17 (rightA 12) (.tuple [inV .u8 0, blV false]) := .code codeRul_ok rfl (by kernel_rfl)
theorem toldv12 : RunsIs (ctxT CA10 rightF (yesT 12)) 24 rightF 35 (rightA 12) (.tuple [inV .u8 0, blV false]) := .code codeRul_ok rfl (by kernel_rfl)
theorem toldp12 : RunsIs (ctxT CA10 rightF (yesT 12)) 24 rightF 15 (rightA 12) (.tuple [.tc (.sy (.int .u8) (.var 1)), blV true]) := .code codeRul_ok rfl (by kernel_rfl)
theorem toldq12 : RunsIs (ctxT CA10 rightF (yesT 12)) 24 rightF 37 (rightA 12) (.tuple [.tc (.sy (.int .u8) (.var 1)), blV true]) := .code codeRul_ok rfl (by kernel_rfl)
theorem toldm12 : knowN (.and (.var 7) (.not (.cmp .eql (.var 6) (.lit 0)))) false (addFact (rightE 12 .var) true rightF) = true := by kernel_rfl
theorem toldb12 : knowN (.cmp .leq (.var 1) (.lit 3)) true (addFact (rightE 12 .var) true rightF) = true := by kernel_rfl
theorem toldc13 : RunsIs CA10 24 rightF 16 (rightA 13) (inV .u8 1) := .code codeRul_ok rfl (by kernel_rfl)
theorem toldk13 : RunsIs CA10 24 rightF 52 [opV 13] (inV .u8 1) := .code codeRul_ok rfl (by kernel_rfl)
theorem toldw13 : RunsIs (ctxT CA10 rightF (yesT 13)) 24 rightF 17 (rightA 13) (.tuple [inV .u8 0, blV false]) := .code codeRul_ok rfl (by kernel_rfl)
theorem toldv13 : RunsIs (ctxT CA10 rightF (yesT 13)) 24 rightF 35 (rightA 13) (.tuple [inV .u8 0, blV false]) := .code codeRul_ok rfl (by kernel_rfl)
theorem toldp13 : RunsIs (ctxT CA10 rightF (yesT 13)) 24 rightF 15 (rightA 13) (.tuple [.tc (.sy (.int .u8) (.var 1)), blV true]) := .code codeRul_ok rfl (by kernel_rfl)
theorem toldq13 : RunsIs (ctxT CA10 rightF (yesT 13)) 24 rightF 37 (rightA 13) (.tuple [.tc (.sy (.int .u8) (.var 1)), blV true]) := .code codeRul_ok rfl (by kernel_rfl)
theorem toldm13 : knowN (.and (.var 7) (.not (.cmp .eql (.var 6) (.lit 0)))) false (addFact (rightE 13 .var) true rightF) = true := by kernel_rfl
theorem toldb13 : knowN (.cmp .leq (.var 1) (.lit 3)) true (addFact (rightE 13 .var) true rightF) = true := by kernel_rfl
theorem toldc14 : RunsIs CA10 24 rightF 16 (rightA 14) (inV .u8 1) := .code codeRul_ok rfl (by kernel_rfl)
theorem toldk14 : RunsIs CA10 24 rightF 52 [opV 14] (inV .u8 1) := .code codeRul_ok rfl (by kernel_rfl)
theorem toldw14 : RunsIs (ctxT CA10 rightF (yesT 14)) 24 rightF 17 (rightA 14) (.tuple [.tc (.sy (.int .u8) (.var 1)), blV true]) := .code codeRul_ok rfl (by kernel_rfl)
theorem toldv14 : RunsIs (ctxT CA10 rightF (yesT 14)) 24 rightF 35 (rightA 14) (.tuple [.tc (.sy (.int .u8) (.var 1)), blV true]) := .code codeRul_ok rfl (by kernel_rfl)
theorem toldp14 : RunsIs (ctxT CA10 rightF (yesT 14)) 24 rightF 15 (rightA 14) (.tuple [inV .u8 0, blV false]) := .code codeRul_ok rfl (by kernel_rfl)
theorem toldq14 : RunsIs (ctxT CA10 rightF (yesT 14)) 24 rightF 37 (rightA 14) (.tuple [inV .u8 0, blV false]) := .code codeRul_ok rfl (by kernel_rfl)
theorem toldm14 : knowN (.and (.var 7) (.not (.cmp .eql (.var 6) (.lit 0)))) false (addFact (rightE 14 .var) true rightF) = true := by kernel_rfl
theorem toldb14 : knowN (.cmp .leq (.var 1) (.lit 31)) true (addFact (rightE 14 .var) true rightF) = true := by kernel_rfl
theorem toldc15 : RunsIs CA10 24 rightF 16 (rightA 15) (inV .u8 2) := .code codeRul_ok rfl (by kernel_rfl)
theorem toldk15 : RunsIs CA10 24 rightF 52 [opV 15] (inV .u8 2) := .code codeRul_ok rfl (by kernel_rfl)
theorem toldw15 : RunsIs (ctxT CA10 rightF (yesT 15)) 24 rightF 17 (rightA 15) (.tuple [.tc (.sy (.int .u8) (.var 1)), blV true]) := .code codeRul_ok rfl (by kernel_rfl)
theorem toldv15 : RunsIs (ctxT CA10 rightF (yesT 15)) 24 rightF 35 (rightA 15) (.tuple [.tc (.sy (.int .u8) (.var 1)), blV true]) := .code codeRul_ok rfl (by kernel_rfl)
theorem toldp15 : RunsIs (ctxT CA10 rightF (yesT 15)) 24 rightF 15 (rightA 15) (.tuple [inV .u8 0, blV false]) := .code codeRul_ok rfl (by kernel_rfl)
theorem toldq15 : RunsIs (ctxT CA10 rightF (yesT 15)) 24 rightF 37 (rightA 15) (.tuple [inV .u8 0, blV false]) := .code codeRul_ok rfl (by kernel_rfl)
theorem toldm15 : knowN (.and (.var 7) (.not (.cmp .eql (.var 6) (.lit 0)))) false (addFact (rightE 15 .var) true rightF) = true := by kernel_rfl
end Go.Proofs.Ytamhmfdbnlkmkaa
