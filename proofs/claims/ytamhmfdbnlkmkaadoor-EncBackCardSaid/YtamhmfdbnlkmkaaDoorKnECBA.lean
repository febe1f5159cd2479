/- Words of instructions: some runs. -/
import Derived.Test.YtamhmfdbnlkmkaaDoorKnEC0
set_option linter.unusedVariables false
set_option linter.unusedSimpArgs false
set_option maxRecDepth 100000
namespace Go.Proofs.YtamhmfdbnlkmkaaDoor
open Go Go.RowKit

theorem ebB_run0 : RunsIs CX06 24 ebBF 8 [ebBI 0] (blV false) := .code codeEnc_ok rfl (by kernel_rfl)
theorem ebB_run : RunsIs CX06 24 ebBG 8 [ebBJ] (blV false) := .code codeEnc_ok rfl (by kernel_rfl)
def ebN : Tabs := [(8, [([ebBJ], blV false)])]
theorem ebB_no : RunsIs (ctxT CX06 ebBK ebN) 24 ebBK 7 [ebBJ, ebBP] (.tuple [wV .u32 0, wV .u32 0, blV false]) := .code codeEnc_ok rfl (by kernel_rfl)
def ebM : Tabs := [(8, [([ebBJ], blV true)]), (9, [([ebBJ, ebBP], blV false)])]
theorem ebB_nf : RunsIs (ctxT CX06 ((.var 8, false) :: ebBK) ebM) 24 ((.var 8, false) :: ebBK) 7 [ebBJ, ebBP] (.tuple [wV .u32 0, wV .u32 0, blV false]) := .code codeEnc_ok rfl (by kernel_rfl)
theorem ebB_run1 : RunsCh (CV06 (addFact (rightE 1 .var) true ebBF)) 24 (addFact (rightE 1 .var) true ebBF) 7 [ebBI 1, ebBP] (kB (ebBI 1) ebBP (.var 8)) := .code codeEnc_ok rfl (by kernel_rfl)
theorem ebB_run5 : RunsCh (CV06 (addFact (rightE 5 .var) true ebBF)) 24 (addFact (rightE 5 .var) true ebBF) 7 [ebBI 5, ebBP] (kB (ebBI 5) ebBP (.var 8)) := .code codeEnc_ok rfl (by kernel_rfl)
theorem ebB_run7fp : RunsCh (CV06 ((.var 8, false) :: addFact (rightE 7 (immY 1 0)) true (ebZF 0 8191))) 24 ((.var 8, false) :: addFact (rightE 7 (immY 1 0)) true (ebZF 0 8191)) 7 [ebZI 7 (immY 1 0 10), ebBP] (kB (ebZI 7 (immY 1 0 10)) ebBP (.var 8)) := .code codeEnc_ok rfl (by kernel_rfl)
theorem ebB_run8fn : RunsCh (CV06 ((.var 8, false) :: addFact (rightE 8 (immY 1 (-16384))) true (ebZF 8192 16383))) 24 ((.var 8, false) :: addFact (rightE 8 (immY 1 (-16384))) true (ebZF 8192 16383)) 7 [ebZI 8 (immY 1 (-16384) 10), ebBP] (kB (ebZI 8 (immY 1 (-16384) 10)) ebBP (.var 8)) := .code codeEnc_ok rfl (by kernel_rfl)
theorem ebB_run9 : RunsCh (CV06 (addFact (rightE 9 .var) true ebBF)) 24 (addFact (rightE 9 .var) true ebBF) 7 [ebBI 9, ebBP] (kB (ebBI 9) ebBP (.var 8)) := .code codeEnc_ok rfl (by kernel_rfl)
theorem ebB_run13t : RunsCh (CV06 ((.var 8, true) :: addFact (rightE 13 .var) true ebBF)) 24 ((.var 8, true) :: addFact (rightE 13 .var) true ebBF) 7 [ebBI 13, ebBP] (kB (ebBI 13) ebBP (.var 8)) := .code codeEnc_ok rfl (by kernel_rfl)
theorem ebB_z13h : knowN (rightE 13 (immY 1 0)) false ((.var 8, false) :: ebZF 8192 9223372036854775807) = true := by kernel_rfl
theorem ebB_run17 : RunsCh (CV06 (addFact (rightE 17 .var) true ebBF)) 24 (addFact (rightE 17 .var) true ebBF) 7 [ebBI 17, ebBP] (kB (ebBI 17) ebBP (.var 8)) := .code codeEnc_ok rfl (by kernel_rfl)
theorem ebB_run21t : RunsCh (CV06 ((.var 8, true) :: addFact (rightE 21 .var) true ebBF)) 24 ((.var 8, true) :: addFact (rightE 21 .var) true ebBF) 7 [ebBI 21, ebBP] (kB (ebBI 21) ebBP (.var 8)) := .code codeEnc_ok rfl (by kernel_rfl)
theorem ebB_z21_2 : knowN (rightE 21 (immY 4 2)) false ((.var 8, false) :: ebZF (-2305843009213693952) 2305843009213693951) = true := by kernel_rfl
theorem ebB_run22t : RunsCh (CV06 ((.var 8, true) :: addFact (rightE 22 .var) true ebBF)) 24 ((.var 8, true) :: addFact (rightE 22 .var) true ebBF) 7 [ebBI 22, ebBP] (kB (ebBI 22) ebBP (.var 8)) := .code codeEnc_ok rfl (by kernel_rfl)
theorem ebB_z22l : knowN (rightE 22 (immY 2 0)) false ((.var 8, false) :: ebZF (-4611686018427387904) (-2049)) = true := by kernel_rfl
theorem ebB_run23fp : RunsCh (CV06 ((.var 8, false) :: addFact (rightE 23 (immY 1 0)) true (ebZF 0 2047))) 24 ((.var 8, false) :: addFact (rightE 23 (immY 1 0)) true (ebZF 0 2047)) 7 [ebZI 23 (immY 1 0 10), ebBP] (kB (ebZI 23 (immY 1 0 10)) ebBP (.var 8)) := .code codeEnc_ok rfl (by kernel_rfl)
theorem ebB_run24ftn : RunsCh (CV06 ((.var 8, false) :: (.var 7, true) :: addFact (rightE 24 (immY 4 (-16384))) true (ebZF 2048 4095))) 24 ((.var 8, false) :: (.var 7, true) :: addFact (rightE 24 (immY 4 (-16384))) true (ebZF 2048 4095)) 7 [ebZI 24 (immY 4 (-16384) 10), ebBP] (kB (ebZI 24 (immY 4 (-16384) 10)) ebBP (.var 8)) := .code codeEnc_ok rfl (by kernel_rfl)
theorem ebB_run24ffp : RunsCh (CV06 ((.var 8, false) :: (.var 7, false) :: addFact (rightE 24 (immY 4 0)) true (ebZF 0 2047))) 24 ((.var 8, false) :: (.var 7, false) :: addFact (rightE 24 (immY 4 0)) true (ebZF 0 2047)) 7 [ebZI 24 (immY 4 0 10), ebBP] (kB (ebZI 24 (immY 4 0 10)) ebBP (.var 8)) := .code codeEnc_ok rfl (by kernel_rfl)
theorem ebB_z24l : knowN (rightE 24 (immY 4 0)) false ((.var 8, false) :: ebZF (-2305843009213693952) (-2049)) = true := by kernel_rfl
theorem ebB_run25ftp : RunsCh (CV06 ((.var 8, false) :: (.var 7, true) :: addFact (rightE 25 (immY 2 0)) true (ebZF 0 2047))) 24 ((.var 8, false) :: (.var 7, true) :: addFact (rightE 25 (immY 2 0)) true (ebZF 0 2047)) 7 [ebZI 25 (immY 2 0 10), ebBP] (kB (ebZI 25 (immY 2 0 10)) ebBP (.var 8)) := .code codeEnc_ok rfl (by kernel_rfl)
theorem ebB_z25_1 : knowN (rightE 25 (immY 2 1)) false ((.var 8, false) :: ebZF (-4611686018427387904) 4611686018427387903) = true := by kernel_rfl
theorem ebB_run26ftn : RunsCh (CV06 ((.var 8, false) :: (.var 7, true) :: addFact (rightE 26 (immY 1 (-4096))) true (ebZF 2048 4095))) 24 ((.var 8, false) :: (.var 7, true) :: addFact (rightE 26 (immY 1 (-4096))) true (ebZF 2048 4095)) 7 [ebZI 26 (immY 1 (-4096) 10), ebBP] (kB (ebZI 26 (immY 1 (-4096) 10)) ebBP (.var 8)) := .code codeEnc_ok rfl (by kernel_rfl)
theorem ebB_run26ffp : RunsCh (CV06 ((.var 8, false) :: (.var 7, false) :: addFact (rightE 26 (immY 1 0)) true (ebZF 0 2047))) 24 ((.var 8, false) :: (.var 7, false) :: addFact (rightE 26 (immY 1 0)) true (ebZF 0 2047)) 7 [ebZI 26 (immY 1 0 10), ebBP] (kB (ebZI 26 (immY 1 0 10)) ebBP (.var 8)) := .code codeEnc_ok rfl (by kernel_rfl)
theorem ebB_run27fn : RunsCh (CV06 ((.var 8, false) :: addFact (rightE 27 (relX 0)) true (ebZF (-262144) (-1)))) 24 ((.var 8, false) :: addFact (rightE 27 (relX 0)) true (ebZF (-262144) (-1))) 7 [ebZI 27 (relX 0 10), ebBP] (kB (ebZI 27 (relX 0 10)) ebBP (.var 8)) := .code codeEnc_ok rfl (by kernel_rfl)
theorem ebB_z27_3 : RunsIs CX06 24 (ebZF (-536870912) 536870911) 9 [ebZI 27 (relX 3 10), ebBP] (blV false) := .code codeEnc_ok rfl (by kernel_rfl)
theorem ebB_run28 : RunsCh (CV06 (addFact (rightE 28 .var) true ebBF)) 24 (addFact (rightE 28 .var) true ebBF) 7 [ebBI 28, ebBP] (kB (ebBI 28) ebBP (.var 8)) := .code codeEnc_ok rfl (by kernel_rfl)
theorem ebB_z29_1 : RunsIs CX06 24 (ebZF (-536870912) 536870911) 9 [ebZI 29 (relX 1 10), ebBP] (blV false) := .code codeEnc_ok rfl (by kernel_rfl)
theorem ebB_z29h : RunsIs CX06 24 (ebZF 8388608 536870911) 9 [ebZI 29 (relX 0 10), ebBP] (blV false) := .code codeEnc_ok rfl (by kernel_rfl)
theorem ebB_run30fp : RunsCh (CV06 ((.var 8, false) :: addFact (rightE 30 (relX 0)) true (ebZF 0 2047))) 24 ((.var 8, false) :: addFact (rightE 30 (relX 0)) true (ebZF 0 2047)) 7 [ebZI 30 (relX 0 10), ebBP] (kB (ebZI 30 (relX 0 10)) ebBP (.var 8)) := .code codeEnc_ok rfl (by kernel_rfl)
theorem ebB_z30l : RunsIs CX06 24 (ebZF (-536870912) (-2049)) 9 [ebZI 30 (relX 0 10), ebBP] (blV false) := .code codeEnc_ok rfl (by kernel_rfl)
theorem ebB_run31fn : RunsCh (CV06 ((.var 8, false) :: addFact (rightE 31 (relX 0)) true (ebZF (-2048) (-1)))) 24 ((.var 8, false) :: addFact (rightE 31 (relX 0)) true (ebZF (-2048) (-1))) 7 [ebZI 31 (relX 0 10), ebBP] (kB (ebZI 31 (relX 0 10)) ebBP (.var 8)) := .code codeEnc_ok rfl (by kernel_rfl)
theorem ebB_z31_3 : RunsIs CX06 24 (ebZF (-536870912) 536870911) 9 [ebZI 31 (relX 3 10), ebBP] (blV false) := .code codeEnc_ok rfl (by kernel_rfl)
end Go.Proofs.YtamhmfdbnlkmkaaDoor
