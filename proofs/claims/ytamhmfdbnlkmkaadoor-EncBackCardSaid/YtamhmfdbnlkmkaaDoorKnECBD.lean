/- Words of instructions: some runs. -/
import Derived.Test.YtamhmfdbnlkmkaaDoorKnEC0
set_option linter.unusedVariables false
set_option linter.unusedSimpArgs false
set_option maxRecDepth 100000
namespace Go.Proofs.YtamhmfdbnlkmkaaDoor
open Go Go.RowKit

theorem ebB_run4 : RunsCh (CV06 (addFact (rightE 4 .var) true ebBF)) 24 (addFact (rightE 4 .var) true ebBF) 7 [ebBI 4, ebBP] (kB (ebBI 4) ebBP (.var 8)) := .code codeEnc_ok rfl (by kernel_rfl)
theorem ebB_run7fn : RunsCh (CV06 ((.var 8, false) :: addFact (rightE 7 (immY 1 (-16384))) true (ebZF 8192 16383))) 24 ((.var 8, false) :: addFact (rightE 7 (immY 1 (-16384))) true (ebZF 8192 16383)) 7 [ebZI 7 (immY 1 (-16384) 10), ebBP] (kB (ebZI 7 (immY 1 (-16384) 10)) ebBP (.var 8)) := .code codeEnc_ok rfl (by kernel_rfl)
theorem ebB_run8t : RunsCh (CV06 ((.var 8, true) :: addFact (rightE 8 .var) true ebBF)) 24 ((.var 8, true) :: addFact (rightE 8 .var) true ebBF) 7 [ebBI 8, ebBP] (kB (ebBI 8) ebBP (.var 8)) := .code codeEnc_ok rfl (by kernel_rfl)
theorem ebB_z8h : knowN (rightE 8 (immY 1 0)) false ((.var 8, false) :: ebZF 8192 9223372036854775807) = true := by kernel_rfl
theorem ebB_run12 : RunsCh (CV06 (addFact (rightE 12 .var) true ebBF)) 24 (addFact (rightE 12 .var) true ebBF) 7 [ebBI 12, ebBP] (kB (ebBI 12) ebBP (.var 8)) := .code codeEnc_ok rfl (by kernel_rfl)
theorem ebB_z13l : knowN (rightE 13 (immY 1 0)) false ((.var 8, false) :: ebZF (-9223372036854775808) (-8193)) = true := by kernel_rfl
theorem ebB_run16 : RunsCh (CV06 (addFact (rightE 16 .var) true ebBF)) 24 (addFact (rightE 16 .var) true ebBF) 7 [ebBI 16, ebBP] (kB (ebBI 16) ebBP (.var 8)) := .code codeEnc_ok rfl (by kernel_rfl)
theorem ebB_run20 : RunsCh (CV06 (addFact (rightE 20 .var) true ebBF)) 24 (addFact (rightE 20 .var) true ebBF) 7 [ebBI 20, ebBP] (kB (ebBI 20) ebBP (.var 8)) := .code codeEnc_ok rfl (by kernel_rfl)
theorem ebB_z21_1 : knowN (rightE 21 (immY 4 1)) false ((.var 8, false) :: ebZF (-2305843009213693952) 2305843009213693951) = true := by kernel_rfl
theorem ebB_z21h : knowN (rightE 21 (immY 4 0)) false ((.var 8, false) :: ebZF 2048 2305843009213693951) = true := by kernel_rfl
theorem ebB_z22_1 : knowN (rightE 22 (immY 2 1)) false ((.var 8, false) :: ebZF (-4611686018427387904) 4611686018427387903) = true := by kernel_rfl
theorem ebB_run23fn : RunsCh (CV06 ((.var 8, false) :: addFact (rightE 23 (immY 1 (-4096))) true (ebZF 2048 4095))) 24 ((.var 8, false) :: addFact (rightE 23 (immY 1 (-4096))) true (ebZF 2048 4095)) 7 [ebZI 23 (immY 1 (-4096) 10), ebBP] (kB (ebZI 23 (immY 1 (-4096) 10)) ebBP (.var 8)) := .code codeEnc_ok rfl (by kernel_rfl)
theorem ebB_run24tt : RunsCh (CV06 ((.var 8, true) :: (.var 7, true) :: addFact (rightE 24 .var) true ebBF)) 24 ((.var 8, true) :: (.var 7, true) :: addFact (rightE 24 .var) true ebBF) 7 [ebBI 24, ebBP] (kB (ebBI 24) ebBP (.var 8)) := .code codeEnc_ok rfl (by kernel_rfl)
theorem ebB_run24ffn : RunsCh (CV06 ((.var 8, false) :: (.var 7, false) :: addFact (rightE 24 (immY 4 (-16384))) true (ebZF 2048 4095))) 24 ((.var 8, false) :: (.var 7, false) :: addFact (rightE 24 (immY 4 (-16384))) true (ebZF 2048 4095)) 7 [ebZI 24 (immY 4 (-16384) 10), ebBP] (kB (ebZI 24 (immY 4 (-16384) 10)) ebBP (.var 8)) := .code codeEnc_ok rfl (by kernel_rfl)
theorem ebB_z24_3 : knowN (rightE 24 (immY 4 3)) false ((.var 8, false) :: ebZF (-2305843009213693952) 2305843009213693951) = true := by kernel_rfl
theorem ebB_run25ftn : RunsCh (CV06 ((.var 8, false) :: (.var 7, true) :: addFact (rightE 25 (immY 2 (-8192))) true (ebZF 2048 4095))) 24 ((.var 8, false) :: (.var 7, true) :: addFact (rightE 25 (immY 2 (-8192))) true (ebZF 2048 4095)) 7 [ebZI 25 (immY 2 (-8192) 10), ebBP] (kB (ebZI 25 (immY 2 (-8192) 10)) ebBP (.var 8)) := .code codeEnc_ok rfl (by kernel_rfl)
theorem ebB_run25ffp : RunsCh (CV06 ((.var 8, false) :: (.var 7, false) :: addFact (rightE 25 (immY 2 0)) true (ebZF 0 2047))) 24 ((.var 8, false) :: (.var 7, false) :: addFact (rightE 25 (immY 2 0)) true (ebZF 0 2047)) 7 [ebZI 25 (immY 2 0 10), ebBP] (kB (ebZI 25 (immY 2 0 10)) ebBP (.var 8)) := .code codeEnc_ok rfl (by kernel_rfl)
theorem ebB_run26tt : RunsCh (CV06 ((.var 8, true) :: (.var 7, true) :: addFact (rightE 26 .var) true ebBF)) 24 ((.var 8, true) :: (.var 7, true) :: addFact (rightE 26 .var) true ebBF) 7 [ebBI 26, ebBP] (kB (ebBI 26) ebBP (.var 8)) := .code codeEnc_ok rfl (by kernel_rfl)
theorem ebB_run26ffn : RunsCh (CV06 ((.var 8, false) :: (.var 7, false) :: addFact (rightE 26 (immY 1 (-4096))) true (ebZF 2048 4095))) 24 ((.var 8, false) :: (.var 7, false) :: addFact (rightE 26 (immY 1 (-4096))) true (ebZF 2048 4095)) 7 [ebZI 26 (immY 1 (-4096) 10), ebBP] (kB (ebZI 26 (immY 1 (-4096) 10)) ebBP (.var 8)) := .code codeEnc_ok rfl (by kernel_rfl)
theorem ebB_run27t : RunsCh (CV06 ((.var 8, true) :: addFact (rightE 27 relY) true (ebZF (-2147483648) 2147483647))) 24 ((.var 8, true) :: addFact (rightE 27 relY) true (ebZF (-2147483648) 2147483647)) 7 [ebZI 27 (relY 10), ebBP] (kB (ebZI 27 (relY 10)) ebBP (.var 8)) := .code codeEnc_ok rfl (by kernel_rfl)
theorem ebB_z27_2 : RunsIs CX06 24 (ebZF (-536870912) 536870911) 9 [ebZI 27 (relX 2 10), ebBP] (blV false) := .code codeEnc_ok rfl (by kernel_rfl)
theorem ebB_b27 : both (knowN (.cmp .geq (.var 10) (.lit 0)) true (addFact (rightE 27 .var) true ebBF)) (knowN (.cmp .leq (.var 10) (.lit 4294967295)) true (addFact (rightE 27 .var) true ebBF)) = true := by kernel_rfl
theorem ebB_run29fp : RunsCh (CV06 ((.var 8, false) :: addFact (rightE 29 (relX 0)) true (ebZF 0 8388607))) 24 ((.var 8, false) :: addFact (rightE 29 (relX 0)) true (ebZF 0 8388607)) 7 [ebZI 29 (relX 0 10), ebBP] (kB (ebZI 29 (relX 0 10)) ebBP (.var 8)) := .code codeEnc_ok rfl (by kernel_rfl)
theorem ebB_z29l : RunsIs CX06 24 (ebZF (-536870912) (-8388609)) 9 [ebZI 29 (relX 0 10), ebBP] (blV false) := .code codeEnc_ok rfl (by kernel_rfl)
theorem ebB_run30fn : RunsCh (CV06 ((.var 8, false) :: addFact (rightE 30 (relX 0)) true (ebZF (-2048) (-1)))) 24 ((.var 8, false) :: addFact (rightE 30 (relX 0)) true (ebZF (-2048) (-1))) 7 [ebZI 30 (relX 0 10), ebBP] (kB (ebZI 30 (relX 0 10)) ebBP (.var 8)) := .code codeEnc_ok rfl (by kernel_rfl)
theorem ebB_z30_3 : RunsIs CX06 24 (ebZF (-536870912) 536870911) 9 [ebZI 30 (relX 3 10), ebBP] (blV false) := .code codeEnc_ok rfl (by kernel_rfl)
theorem ebB_run31t : RunsCh (CV06 ((.var 8, true) :: addFact (rightE 31 relY) true (ebZF (-2147483648) 2147483647))) 24 ((.var 8, true) :: addFact (rightE 31 relY) true (ebZF (-2147483648) 2147483647)) 7 [ebZI 31 (relY 10), ebBP] (kB (ebZI 31 (relY 10)) ebBP (.var 8)) := .code codeEnc_ok rfl (by kernel_rfl)
theorem ebB_z31_2 : RunsIs CX06 24 (ebZF (-536870912) 536870911) 9 [ebZI 31 (relX 2 10), ebBP] (blV false) := .code codeEnc_ok rfl (by kernel_rfl)
theorem ebB_b31 : both (knowN (.cmp .geq (.var 10) (.lit 0)) true (addFact (rightE 31 .var) true ebBF)) (knowN (.cmp .leq (.var 10) (.lit 4294967295)) true (addFact (rightE 31 .var) true ebBF)) = true := by kernel_rfl
end Go.Proofs.YtamhmfdbnlkmkaaDoor
