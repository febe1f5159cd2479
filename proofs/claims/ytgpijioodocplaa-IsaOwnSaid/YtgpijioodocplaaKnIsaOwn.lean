/- The law IsaOwn: each leaf of its run is true. -/
import Derived.Test.YtgpijioodocplaaKnA03
import Derived.Test.YtgpijioodocplaaSyArgs
import Derived.Test.YtgpijioodocplaaSyLin4
import Derived.Test.YtgpijioodocplaaKcIsa
set_option linter.unusedVariables false
set_option maxRecDepth 100000
namespace Go.Proofs.Ytgpijioodocplaa
open Go Go.RowKit

def isaOwn_facts : Facts := [(.cmp .geq (.var 0) (.lit 0), true), (.cmp .leq (.var 0) (.lit 255), true), (.cmp .geq (.var 1) (.lit 0), true), (.cmp .leq (.var 1) (.lit 255), true)]
def isaOwn_args : List AV := [.tc (.sy (.int .u8) (.var 0)), .tc (.sy (.int .u8) (.var 1))]
theorem isaOwn_runL : RunsN CB03 24 ((.cmp .leq (.var 0) (.lit 0), true) :: isaOwn_facts) 3 isaOwn_args := .code codeIsa_ok rfl (by kernel_rfl)
theorem isaOwn_run1 : RunsN CB03 24 ((.cmp .eql (.var 0) (.lit 1), true) :: isaOwn_facts) 3 isaOwn_args := .code codeIsa_ok rfl (by kernel_rfl)
theorem isaOwn_run2 : RunsN CB03 24 ((.cmp .eql (.var 0) (.lit 2), true) :: isaOwn_facts) 3 isaOwn_args := .code codeIsa_ok rfl (by kernel_rfl)
theorem isaOwn_run3 : RunsN CB03 24 ((.cmp .eql (.var 0) (.lit 3), true) :: isaOwn_facts) 3 isaOwn_args := .code codeIsa_ok rfl (by kernel_rfl)
theorem isaOwn_run4 : RunsN CB03 24 ((.cmp .eql (.var 0) (.lit 4), true) :: isaOwn_facts) 3 isaOwn_args := .code codeIsa_ok rfl (by kernel_rfl)
theorem isaOwn_run5 : RunsN CB03 24 ((.cmp .eql (.var 0) (.lit 5), true) :: isaOwn_facts) 3 isaOwn_args := .code codeIsa_ok rfl (by kernel_rfl)
theorem isaOwn_run6 : RunsN CB03 24 ((.cmp .eql (.var 0) (.lit 6), true) :: isaOwn_facts) 3 isaOwn_args := .code codeIsa_ok rfl (by kernel_rfl)
theorem isaOwn_run7 : RunsN CB03 24 ((.cmp .eql (.var 0) (.lit 7), true) :: isaOwn_facts) 3 isaOwn_args := .code codeIsa_ok rfl (by kernel_rfl)
theorem isaOwn_run8 : RunsN CB03 24 ((.cmp .eql (.var 0) (.lit 8), true) :: isaOwn_facts) 3 isaOwn_args := .code codeIsa_ok rfl (by kernel_rfl)
theorem isaOwn_run9 : RunsN CB03 24 ((.cmp .eql (.var 0) (.lit 9), true) :: isaOwn_facts) 3 isaOwn_args := .code codeIsa_ok rfl (by kernel_rfl)
theorem isaOwn_run10 : RunsN CB03 24 ((.cmp .eql (.var 0) (.lit 10), true) :: isaOwn_facts) 3 isaOwn_args := .code codeIsa_ok rfl (by kernel_rfl)
theorem isaOwn_run11 : RunsN CB03 24 ((.cmp .eql (.var 0) (.lit 11), true) :: isaOwn_facts) 3 isaOwn_args := .code codeIsa_ok rfl (by kernel_rfl)
theorem isaOwn_run12 : RunsN CB03 24 ((.cmp .eql (.var 0) (.lit 12), true) :: isaOwn_facts) 3 isaOwn_args := .code codeIsa_ok rfl (by kernel_rfl)
theorem isaOwn_run13 : RunsN CB03 24 ((.cmp .eql (.var 0) (.lit 13), true) :: isaOwn_facts) 3 isaOwn_args := .code codeIsa_ok rfl (by kernel_rfl)
theorem isaOwn_run14 : RunsN CB03 24 ((.cmp .eql (.var 0) (.lit 14), true) :: isaOwn_facts) 3 isaOwn_args := .code codeIsa_ok rfl (by kernel_rfl)
theorem isaOwn_run15 : RunsN CB03 24 ((.cmp .eql (.var 0) (.lit 15), true) :: isaOwn_facts) 3 isaOwn_args := .code codeIsa_ok rfl (by kernel_rfl)
theorem isaOwn_run16 : RunsN CB03 24 ((.cmp .eql (.var 0) (.lit 16), true) :: isaOwn_facts) 3 isaOwn_args := .code codeIsa_ok rfl (by kernel_rfl)
theorem isaOwn_run17 : RunsN CB03 24 ((.cmp .eql (.var 0) (.lit 17), true) :: isaOwn_facts) 3 isaOwn_args := .code codeIsa_ok rfl (by kernel_rfl)
theorem isaOwn_run18 : RunsN CB03 24 ((.cmp .eql (.var 0) (.lit 18), true) :: isaOwn_facts) 3 isaOwn_args := .code codeIsa_ok rfl (by kernel_rfl)
theorem isaOwn_run19 : RunsN CB03 24 ((.cmp .eql (.var 0) (.lit 19), true) :: isaOwn_facts) 3 isaOwn_args := .code codeIsa_ok rfl (by kernel_rfl)
theorem isaOwn_run20 : RunsN CB03 24 ((.cmp .eql (.var 0) (.lit 20), true) :: isaOwn_facts) 3 isaOwn_args := .code codeIsa_ok rfl (by kernel_rfl)
theorem isaOwn_run21 : RunsN CB03 24 ((.cmp .eql (.var 0) (.lit 21), true) :: isaOwn_facts) 3 isaOwn_args := .code codeIsa_ok rfl (by kernel_rfl)
theorem isaOwn_run22 : RunsN CB03 24 ((.cmp .eql (.var 0) (.lit 22), true) :: isaOwn_facts) 3 isaOwn_args := .code codeIsa_ok rfl (by kernel_rfl)
theorem isaOwn_run23 : RunsN CB03 24 ((.cmp .eql (.var 0) (.lit 23), true) :: isaOwn_facts) 3 isaOwn_args := .code codeIsa_ok rfl (by kernel_rfl)
theorem isaOwn_run24 : RunsN CB03 24 ((.cmp .eql (.var 0) (.lit 24), true) :: isaOwn_facts) 3 isaOwn_args := .code codeIsa_ok rfl (by kernel_rfl)
theorem isaOwn_run25 : RunsN CB03 24 ((.cmp .eql (.var 0) (.lit 25), true) :: isaOwn_facts) 3 isaOwn_args := .code codeIsa_ok rfl (by kernel_rfl)
theorem isaOwn_run26 : RunsN CB03 24 ((.cmp .eql (.var 0) (.lit 26), true) :: isaOwn_facts) 3 isaOwn_args := .code codeIsa_ok rfl (by kernel_rfl)
theorem isaOwn_run27 : RunsN CB03 24 ((.cmp .eql (.var 0) (.lit 27), true) :: isaOwn_facts) 3 isaOwn_args := .code codeIsa_ok rfl (by kernel_rfl)
theorem isaOwn_run28 : RunsN CB03 24 ((.cmp .eql (.var 0) (.lit 28), true) :: isaOwn_facts) 3 isaOwn_args := .code codeIsa_ok rfl (by kernel_rfl)
theorem isaOwn_run29 : RunsN CB03 24 ((.cmp .eql (.var 0) (.lit 29), true) :: isaOwn_facts) 3 isaOwn_args := .code codeIsa_ok rfl (by kernel_rfl)
theorem isaOwn_run30 : RunsN CB03 24 ((.cmp .eql (.var 0) (.lit 30), true) :: isaOwn_facts) 3 isaOwn_args := .code codeIsa_ok rfl (by kernel_rfl)
theorem isaOwn_run31 : RunsN CB03 24 ((.cmp .eql (.var 0) (.lit 31), true) :: isaOwn_facts) 3 isaOwn_args := .code codeIsa_ok rfl (by kernel_rfl)
theorem isaOwn_runG : RunsN CB03 24 ((.cmp .leq (.var 0) (.lit 31), false) :: isaOwn_facts) 3 isaOwn_args := .code codeIsa_ok rfl (by kernel_rfl)

theorem isaOwn_calls {ρ : Env} (hs : Summ ρ CB03) (hf : FactsOk ρ isaOwn_facts) : CallsTo CB03 3 (concs ρ isaOwn_args) (.sc (.bool true)) := by
  have h : ρ.I 0 ≤ 0 ∨ ρ.I 0 = 1 ∨ ρ.I 0 = 2 ∨ ρ.I 0 = 3 ∨ ρ.I 0 = 4 ∨ ρ.I 0 = 5 ∨ ρ.I 0 = 6 ∨ ρ.I 0 = 7 ∨ ρ.I 0 = 8 ∨ ρ.I 0 = 9 ∨ ρ.I 0 = 10 ∨ ρ.I 0 = 11 ∨ ρ.I 0 = 12 ∨ ρ.I 0 = 13 ∨ ρ.I 0 = 14 ∨ ρ.I 0 = 15 ∨ ρ.I 0 = 16 ∨ ρ.I 0 = 17 ∨ ρ.I 0 = 18 ∨ ρ.I 0 = 19 ∨ ρ.I 0 = 20 ∨ ρ.I 0 = 21 ∨ ρ.I 0 = 22 ∨ ρ.I 0 = 23 ∨ ρ.I 0 = 24 ∨ ρ.I 0 = 25 ∨ ρ.I 0 = 26 ∨ ρ.I 0 = 27 ∨ ρ.I 0 = 28 ∨ ρ.I 0 = 29 ∨ ρ.I 0 = 30 ∨ ρ.I 0 = 31 ∨ 31 < ρ.I 0 := by omega
  rcases h with h | h | h | h | h | h | h | h | h | h | h | h | h | h | h | h | h | h | h | h | h | h | h | h | h | h | h | h | h | h | h | h | h
  · exact isaOwn_runL.calls hs (hf.cons (decide_eq_true h))
  · exact isaOwn_run1.calls hs (hf.cons (beq_iff_eq.2 h))
  · exact isaOwn_run2.calls hs (hf.cons (beq_iff_eq.2 h))
  · exact isaOwn_run3.calls hs (hf.cons (beq_iff_eq.2 h))
  · exact isaOwn_run4.calls hs (hf.cons (beq_iff_eq.2 h))
  · exact isaOwn_run5.calls hs (hf.cons (beq_iff_eq.2 h))
  · exact isaOwn_run6.calls hs (hf.cons (beq_iff_eq.2 h))
  · exact isaOwn_run7.calls hs (hf.cons (beq_iff_eq.2 h))
  · exact isaOwn_run8.calls hs (hf.cons (beq_iff_eq.2 h))
  · exact isaOwn_run9.calls hs (hf.cons (beq_iff_eq.2 h))
  · exact isaOwn_run10.calls hs (hf.cons (beq_iff_eq.2 h))
  · exact isaOwn_run11.calls hs (hf.cons (beq_iff_eq.2 h))
  · exact isaOwn_run12.calls hs (hf.cons (beq_iff_eq.2 h))
  · exact isaOwn_run13.calls hs (hf.cons (beq_iff_eq.2 h))
  · exact isaOwn_run14.calls hs (hf.cons (beq_iff_eq.2 h))
  · exact isaOwn_run15.calls hs (hf.cons (beq_iff_eq.2 h))
  · exact isaOwn_run16.calls hs (hf.cons (beq_iff_eq.2 h))
  · exact isaOwn_run17.calls hs (hf.cons (beq_iff_eq.2 h))
  · exact isaOwn_run18.calls hs (hf.cons (beq_iff_eq.2 h))
  · exact isaOwn_run19.calls hs (hf.cons (beq_iff_eq.2 h))
  · exact isaOwn_run20.calls hs (hf.cons (beq_iff_eq.2 h))
  · exact isaOwn_run21.calls hs (hf.cons (beq_iff_eq.2 h))
  · exact isaOwn_run22.calls hs (hf.cons (beq_iff_eq.2 h))
  · exact isaOwn_run23.calls hs (hf.cons (beq_iff_eq.2 h))
  · exact isaOwn_run24.calls hs (hf.cons (beq_iff_eq.2 h))
  · exact isaOwn_run25.calls hs (hf.cons (beq_iff_eq.2 h))
  · exact isaOwn_run26.calls hs (hf.cons (beq_iff_eq.2 h))
  · exact isaOwn_run27.calls hs (hf.cons (beq_iff_eq.2 h))
  · exact isaOwn_run28.calls hs (hf.cons (beq_iff_eq.2 h))
  · exact isaOwn_run29.calls hs (hf.cons (beq_iff_eq.2 h))
  · exact isaOwn_run30.calls hs (hf.cons (beq_iff_eq.2 h))
  · exact isaOwn_run31.calls hs (hf.cons (beq_iff_eq.2 h))
  · exact isaOwn_runG.calls hs (hf.cons (decide_eq_false (Int.not_le.2 h)))

theorem isaOwn_walk (a0 : Int) (w0 : IntKind.min .u8 ≤ a0 ∧ a0 ≤ IntKind.max .u8) (a1 : Int) (w1 : IntKind.min .u8 ≤ a1 ∧ a1 ≤ IntKind.max .u8) (w : World) : Calls Try.prog 3 #[.int .u8 a0, .int .u8 a1] w fun e w' => e = .returned (.bool true) ∧ Below w.heap.size w w' := by
  have hf : FactsOk ⟨fun i => [a0, a1].getD i 0, fun i => [false, false].getD i false, fun i => [ByteArray.empty, ByteArray.empty].getD i ByteArray.empty, FF0⟩ isaOwn_facts := by
    intro p hp
    simp only [isaOwn_facts, List.mem_cons, List.not_mem_nil, or_false] at hp
    rcases hp with rfl | rfl | rfl | rfl
    · exact decide_eq_true w0.1
    · exact decide_eq_true w0.2
    · exact decide_eq_true w1.1
    · exact decide_eq_true w1.2
  refine walk_of (C := CB03) rfl (isaOwn_calls (CB03_ok _) hf) fun ob => ?_
  refine ⟨rfl, fun i a v hi hv => ?_⟩
  match i, hi, hv with
  | 0, hi, hv =>
    obtain rfl := Option.some.inj hi
    obtain rfl := Option.some.inj hv
    exact .of_sc _ _ _ _
  | 1, hi, hv =>
    obtain rfl := Option.some.inj hi
    obtain rfl := Option.some.inj hv
    exact .of_sc _ _ _ _
  | k + 2, hi, _ => simp [concs, isaOwn_args] at hi
end Go.Proofs.Ytgpijioodocplaa
