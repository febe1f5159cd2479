/- Words of instructions: some runs. -/
import Derived.Test.YtamhmfdbnlkmkaaDoorKnEC0
set_option linter.unusedVariables false
set_option linter.unusedSimpArgs false
set_option maxRecDepth 100000
namespace Go.Proofs.YtamhmfdbnlkmkaaDoor
open Go Go.RowKit

theorem ebB_run3 : RunsCh (CV06 (addFact (rightE 3 .var) true ebBF)) 24 (addFact (rightE 3 .var) true ebBF) 7 [ebBI 3, ebBP] (kB (ebBI 3) ebBP (.var 8)) := .code codeEnc_ok rfl (by kernel_rfl)
theorem ebB_run7t : RunsCh (CV06 ((.var 8, true) :: addFact (rightE 7 .var) true ebBF)) 24 ((.var 8, true) :: addFact (rightE 7 .var) true ebBF) 7 [ebBI 7, ebBP] (kB (ebBI 7) ebBP (.var 8)) := .code codeEnc_ok rfl (by kernel_rfl)
theorem ebB_z7h : knowN (rightE 7 (immY 1 0)) false ((.var 8, false) :: ebZF 8192 9223372036854775807) = true := by kernel_rfl
theorem ebB_z8l : knowN (rightE 8 (immY 1 0)) false ((.var 8, false) :: ebZF (-9223372036854775808) (-8193)) = true := by kernel_rfl
theorem ebB_run11 : RunsCh (CV06 (addFact (rightE 11 .var) true ebBF)) 24 (addFact (rightE 11 .var) true ebBF) 7 [ebBI 11, ebBP] (kB (ebBI 11) ebBP (.var 8)) := .code codeEnc_ok rfl (by kernel_rfl)
theorem ebB_run13fp : RunsCh (CV06 ((.var 8, false) :: addFact (rightE 13 (immY 1 0)) true (ebZF 0 8191))) 24 ((.var 8, false) :: addFact (rightE 13 (immY 1 0)) true (ebZF 0 8191)) 7 [ebZI 13 (immY 1 0 10), ebBP] (kB (ebZI 13 (immY 1 0 10)) ebBP (.var 8)) := .code codeEnc_ok rfl (by kernel_rfl)
theorem ebB_run15 : RunsCh (CV06 (addFact (rightE 15 .var) true ebBF)) 24 (addFact (rightE 15 .var) true ebBF) 7 [ebBI 15, ebBP] (kB (ebBI 15) ebBP (.var 8)) := .code codeEnc_ok rfl (by kernel_rfl)
theorem ebB_run19 : RunsCh (CV06 (addFact (rightE 19 .var) true ebBF)) 24 (addFact (rightE 19 .var) true ebBF) 7 [ebBI 19, ebBP] (kB (ebBI 19) ebBP (.var 8)) := .code codeEnc_ok rfl (by kernel_rfl)
theorem ebB_run21fp : RunsCh (CV06 ((.var 8, false) :: addFact (rightE 21 (immY 4 0)) true (ebZF 0 2047))) 24 ((.var 8, false) :: addFact (rightE 21 (immY 4 0)) true (ebZF 0 2047)) 7 [ebZI 21 (immY 4 0 10), ebBP] (kB (ebZI 21 (immY 4 0 10)) ebBP (.var 8)) := .code codeEnc_ok rfl (by kernel_rfl)
theorem ebB_z21l : knowN (rightE 21 (immY 4 0)) false ((.var 8, false) :: ebZF (-2305843009213693952) (-2049)) = true := by kernel_rfl
theorem ebB_run22fp : RunsCh (CV06 ((.var 8, false) :: addFact (rightE 22 (immY 2 0)) true (ebZF 0 2047))) 24 ((.var 8, false) :: addFact (rightE 22 (immY 2 0)) true (ebZF 0 2047)) 7 [ebZI 22 (immY 2 0 10), ebBP] (kB (ebZI 22 (immY 2 0 10)) ebBP (.var 8)) := .code codeEnc_ok rfl (by kernel_rfl)
theorem ebB_run23t : RunsCh (CV06 ((.var 8, true) :: addFact (rightE 23 .var) true ebBF)) 24 ((.var 8, true) :: addFact (rightE 23 .var) true ebBF) 7 [ebBI 23, ebBP] (kB (ebBI 23) ebBP (.var 8)) := .code codeEnc_ok rfl (by kernel_rfl)
theorem ebB_z23h : knowN (rightE 23 (immY 1 0)) false ((.var 8, false) :: ebZF 2048 9223372036854775807) = true := by kernel_rfl
theorem ebB_run24tf : RunsCh (CV06 ((.var 8, true) :: (.var 7, false) :: addFact (rightE 24 .var) true ebBF)) 24 ((.var 8, true) :: (.var 7, false) :: addFact (rightE 24 .var) true ebBF) 7 [ebBI 24, ebBP] (kB (ebBI 24) ebBP (.var 8)) := .code codeEnc_ok rfl (by kernel_rfl)
theorem ebB_z24_2 : knowN (rightE 24 (immY 4 2)) false ((.var 8, false) :: ebZF (-2305843009213693952) 2305843009213693951) = true := by kernel_rfl
theorem ebB_run25tt : RunsCh (CV06 ((.var 8, true) :: (.var 7, true) :: addFact (rightE 25 .var) true ebBF)) 24 ((.var 8, true) :: (.var 7, true) :: addFact (rightE 25 .var) true ebBF) 7 [ebBI 25, ebBP] (kB (ebBI 25) ebBP (.var 8)) := .code codeEnc_ok rfl (by kernel_rfl)
theorem ebB_run25ffn : RunsCh (CV06 ((.var 8, false) :: (.var 7, false) :: addFact (rightE 25 (immY 2 (-8192))) true (ebZF 2048 4095))) 24 ((.var 8, false) :: (.var 7, false) :: addFact (rightE 25 (immY 2 (-8192))) true (ebZF 2048 4095)) 7 [ebZI 25 (immY 2 (-8192) 10), ebBP] (kB (ebZI 25 (immY 2 (-8192) 10)) ebBP (.var 8)) := .code codeEnc_ok rfl (by kernel_rfl)
theorem ebB_z25h : knowN (rightE 25 (immY 2 0)) false ((.var 8, false) :: ebZF 2048 4611686018427387903) = true := by kernel_rfl
theorem ebB_run26tf : RunsCh (CV06 ((.var 8, true) :: (.var 7, false) :: addFact (rightE 26 .var) true ebBF)) 24 ((.var 8, true) :: (.var 7, false) :: addFact (rightE 26 .var) true ebBF) 7 [ebBI 26, ebBP] (kB (ebBI 26) ebBP (.var 8)) := .code codeEnc_ok rfl (by kernel_rfl)
theorem ebB_z26h : knowN (rightE 26 (immY 1 0)) false ((.var 8, false) :: ebZF 2048 9223372036854775807) = true := by kernel_rfl
theorem ebB_z27_1 : RunsIs CX06 24 (ebZF (-536870912) 536870911) 9 [ebZI 27 (relX 1 10), ebBP] (blV false) := .code codeEnc_ok rfl (by kernel_rfl)
theorem ebB_z27h : RunsIs CX06 24 (ebZF 262144 536870911) 9 [ebZI 27 (relX 0 10), ebBP] (blV false) := .code codeEnc_ok rfl (by kernel_rfl)
theorem ebB_run29fn : RunsCh (CV06 ((.var 8, false) :: addFact (rightE 29 (relX 0)) true (ebZF (-8388608) (-1)))) 24 ((.var 8, false) :: addFact (rightE 29 (relX 0)) true (ebZF (-8388608) (-1))) 7 [ebZI 29 (relX 0 10), ebBP] (kB (ebZI 29 (relX 0 10)) ebBP (.var 8)) := .code codeEnc_ok rfl (by kernel_rfl)
theorem ebB_z29_3 : RunsIs CX06 24 (ebZF (-536870912) 536870911) 9 [ebZI 29 (relX 3 10), ebBP] (blV false) := .code codeEnc_ok rfl (by kernel_rfl)
theorem ebB_run30t : RunsCh (CV06 ((.var 8, true) :: addFact (rightE 30 relY) true (ebZF (-2147483648) 2147483647))) 24 ((.var 8, true) :: addFact (rightE 30 relY) true (ebZF (-2147483648) 2147483647)) 7 [ebZI 30 (relY 10), ebBP] (kB (ebZI 30 (relY 10)) ebBP (.var 8)) := .code codeEnc_ok rfl (by kernel_rfl)
theorem ebB_z30_2 : RunsIs CX06 24 (ebZF (-536870912) 536870911) 9 [ebZI 30 (relX 2 10), ebBP] (blV false) := .code codeEnc_ok rfl (by kernel_rfl)
theorem ebB_b30 : both (knowN (.cmp .geq (.var 10) (.lit 0)) true (addFact (rightE 30 .var) true ebBF)) (knowN (.cmp .leq (.var 10) (.lit 4294967295)) true (addFact (rightE 30 .var) true ebBF)) = true := by kernel_rfl
theorem ebB_z31_1 : RunsIs CX06 24 (ebZF (-536870912) 536870911) 9 [ebZI 31 (relX 1 10), ebBP] (blV false) := .code codeEnc_ok rfl (by kernel_rfl)
theorem ebB_z31h : RunsIs CX06 24 (ebZF 2048 536870911) 9 [ebZI 31 (relX 0 10), ebBP] (blV false) := .code codeEnc_ok rfl (by kernel_rfl)
end Go.Proofs.YtamhmfdbnlkmkaaDoor
