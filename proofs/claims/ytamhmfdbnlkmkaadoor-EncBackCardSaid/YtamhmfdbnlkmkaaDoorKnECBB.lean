/- Words of instructions: some runs. -/
import Derived.Test.YtamhmfdbnlkmkaaDoorKnEC0
set_option linter.unusedVariables false
set_option linter.unusedSimpArgs false
set_option maxRecDepth 100000
namespace Go.Proofs.YtamhmfdbnlkmkaaDoor
open Go Go.RowKit

theorem ebB_run2 : RunsCh (CV06 (addFact (rightE 2 .var) true ebBF)) 24 (addFact (rightE 2 .var) true ebBF) 7 [ebBI 2, ebBP] (kB (ebBI 2) ebBP (.var 8)) := .code codeEnc_ok rfl (by kernel_rfl)
theorem ebB_run6 : RunsCh (CV06 (addFact (rightE 6 .var) true ebBF)) 24 (addFact (rightE 6 .var) true ebBF) 7 [ebBI 6, ebBP] (kB (ebBI 6) ebBP (.var 8)) := .code codeEnc_ok rfl (by kernel_rfl)
theorem ebB_z7l : knowN (rightE 7 (immY 1 0)) false ((.var 8, false) :: ebZF (-9223372036854775808) (-8193)) = true := by kernel_rfl
theorem ebB_run8fp : RunsCh (CV06 ((.var 8, false) :: addFact (rightE 8 (immY 1 0)) true (ebZF 0 8191))) 24 ((.var 8, false) :: addFact (rightE 8 (immY 1 0)) true (ebZF 0 8191)) 7 [ebZI 8 (immY 1 0 10), ebBP] (kB (ebZI 8 (immY 1 0 10)) ebBP (.var 8)) := .code codeEnc_ok rfl (by kernel_rfl)
theorem ebB_run10 : RunsCh (CV06 (addFact (rightE 10 .var) true ebBF)) 24 (addFact (rightE 10 .var) true ebBF) 7 [ebBI 10, ebBP] (kB (ebBI 10) ebBP (.var 8)) := .code codeEnc_ok rfl (by kernel_rfl)
theorem ebB_run13fn : RunsCh (CV06 ((.var 8, false) :: addFact (rightE 13 (immY 1 (-16384))) true (ebZF 8192 16383))) 24 ((.var 8, false) :: addFact (rightE 13 (immY 1 (-16384))) true (ebZF 8192 16383)) 7 [ebZI 13 (immY 1 (-16384) 10), ebBP] (kB (ebZI 13 (immY 1 (-16384) 10)) ebBP (.var 8)) := .code codeEnc_ok rfl (by kernel_rfl)
theorem ebB_run14 : RunsCh (CV06 (addFact (rightE 14 .var) true ebBF)) 24 (addFact (rightE 14 .var) true ebBF) 7 [ebBI 14, ebBP] (kB (ebBI 14) ebBP (.var 8)) := .code codeEnc_ok rfl (by kernel_rfl)
theorem ebB_run18 : RunsCh (CV06 (addFact (rightE 18 .var) true ebBF)) 24 (addFact (rightE 18 .var) true ebBF) 7 [ebBI 18, ebBP] (kB (ebBI 18) ebBP (.var 8)) := .code codeEnc_ok rfl (by kernel_rfl)
theorem ebB_run21fn : RunsCh (CV06 ((.var 8, false) :: addFact (rightE 21 (immY 4 (-16384))) true (ebZF 2048 4095))) 24 ((.var 8, false) :: addFact (rightE 21 (immY 4 (-16384))) true (ebZF 2048 4095)) 7 [ebZI 21 (immY 4 (-16384) 10), ebBP] (kB (ebZI 21 (immY 4 (-16384) 10)) ebBP (.var 8)) := .code codeEnc_ok rfl (by kernel_rfl)
theorem ebB_z21_3 : knowN (rightE 21 (immY 4 3)) false ((.var 8, false) :: ebZF (-2305843009213693952) 2305843009213693951) = true := by kernel_rfl
theorem ebB_run22fn : RunsCh (CV06 ((.var 8, false) :: addFact (rightE 22 (immY 2 (-8192))) true (ebZF 2048 4095))) 24 ((.var 8, false) :: addFact (rightE 22 (immY 2 (-8192))) true (ebZF 2048 4095)) 7 [ebZI 22 (immY 2 (-8192) 10), ebBP] (kB (ebZI 22 (immY 2 (-8192) 10)) ebBP (.var 8)) := .code codeEnc_ok rfl (by kernel_rfl)
theorem ebB_z22h : knowN (rightE 22 (immY 2 0)) false ((.var 8, false) :: ebZF 2048 4611686018427387903) = true := by kernel_rfl
theorem ebB_z23l : knowN (rightE 23 (immY 1 0)) false ((.var 8, false) :: ebZF (-9223372036854775808) (-2049)) = true := by kernel_rfl
theorem ebB_run24ftp : RunsCh (CV06 ((.var 8, false) :: (.var 7, true) :: addFact (rightE 24 (immY 4 0)) true (ebZF 0 2047))) 24 ((.var 8, false) :: (.var 7, true) :: addFact (rightE 24 (immY 4 0)) true (ebZF 0 2047)) 7 [ebZI 24 (immY 4 0 10), ebBP] (kB (ebZI 24 (immY 4 0 10)) ebBP (.var 8)) := .code codeEnc_ok rfl (by kernel_rfl)
theorem ebB_z24_1 : knowN (rightE 24 (immY 4 1)) false ((.var 8, false) :: ebZF (-2305843009213693952) 2305843009213693951) = true := by kernel_rfl
theorem ebB_z24h : knowN (rightE 24 (immY 4 0)) false ((.var 8, false) :: ebZF 2048 2305843009213693951) = true := by kernel_rfl
theorem ebB_run25tf : RunsCh (CV06 ((.var 8, true) :: (.var 7, false) :: addFact (rightE 25 .var) true ebBF)) 24 ((.var 8, true) :: (.var 7, false) :: addFact (rightE 25 .var) true ebBF) 7 [ebBI 25, ebBP] (kB (ebBI 25) ebBP (.var 8)) := .code codeEnc_ok rfl (by kernel_rfl)
theorem ebB_z25l : knowN (rightE 25 (immY 2 0)) false ((.var 8, false) :: ebZF (-4611686018427387904) (-2049)) = true := by kernel_rfl
theorem ebB_run26ftp : RunsCh (CV06 ((.var 8, false) :: (.var 7, true) :: addFact (rightE 26 (immY 1 0)) true (ebZF 0 2047))) 24 ((.var 8, false) :: (.var 7, true) :: addFact (rightE 26 (immY 1 0)) true (ebZF 0 2047)) 7 [ebZI 26 (immY 1 0 10), ebBP] (kB (ebZI 26 (immY 1 0 10)) ebBP (.var 8)) := .code codeEnc_ok rfl (by kernel_rfl)
theorem ebB_z26l : knowN (rightE 26 (immY 1 0)) false ((.var 8, false) :: ebZF (-9223372036854775808) (-2049)) = true := by kernel_rfl
theorem ebB_run27fp : RunsCh (CV06 ((.var 8, false) :: addFact (rightE 27 (relX 0)) true (ebZF 0 262143))) 24 ((.var 8, false) :: addFact (rightE 27 (relX 0)) true (ebZF 0 262143)) 7 [ebZI 27 (relX 0 10), ebBP] (kB (ebZI 27 (relX 0 10)) ebBP (.var 8)) := .code codeEnc_ok rfl (by kernel_rfl)
theorem ebB_z27l : RunsIs CX06 24 (ebZF (-536870912) (-262145)) 9 [ebZI 27 (relX 0 10), ebBP] (blV false) := .code codeEnc_ok rfl (by kernel_rfl)
theorem ebB_run29t : RunsCh (CV06 ((.var 8, true) :: addFact (rightE 29 relY) true (ebZF (-2147483648) 2147483647))) 24 ((.var 8, true) :: addFact (rightE 29 relY) true (ebZF (-2147483648) 2147483647)) 7 [ebZI 29 (relY 10), ebBP] (kB (ebZI 29 (relY 10)) ebBP (.var 8)) := .code codeEnc_ok rfl (by kernel_rfl)
theorem ebB_z29_2 : RunsIs CX06 24 (ebZF (-536870912) 536870911) 9 [ebZI 29 (relX 2 10), ebBP] (blV false) := .code codeEnc_ok rfl (by kernel_rfl)
theorem ebB_b29 : both (knowN (.cmp .geq (.var 10) (.lit 0)) true (addFact (rightE 29 .var) true ebBF)) (knowN (.cmp .leq (.var 10) (.lit 4294967295)) true (addFact (rightE 29 .var) true ebBF)) = true := by kernel_rfl
theorem ebB_z30_1 : RunsIs CX06 24 (ebZF (-536870912) 536870911) 9 [ebZI 30 (relX 1 10), ebBP] (blV false) := .code codeEnc_ok rfl (by kernel_rfl)
theorem ebB_z30h : RunsIs CX06 24 (ebZF 2048 536870911) 9 [ebZI 30 (relX 0 10), ebBP] (blV false) := .code codeEnc_ok rfl (by kernel_rfl)
theorem ebB_run31fp : RunsCh (CV06 ((.var 8, false) :: addFact (rightE 31 (relX 0)) true (ebZF 0 2047))) 24 ((.var 8, false) :: addFact (rightE 31 (relX 0)) true (ebZF 0 2047)) 7 [ebZI 31 (relX 0 10), ebBP] (kB (ebZI 31 (relX 0 10)) ebBP (.var 8)) := .code codeEnc_ok rfl (by kernel_rfl)
theorem ebB_z31l : RunsIs CX06 24 (ebZF (-536870912) (-2049)) 9 [ebZI 31 (relX 0 10), ebBP] (blV false) := .code codeEnc_ok rfl (by kernel_rfl)
end Go.Proofs.YtamhmfdbnlkmkaaDoor
