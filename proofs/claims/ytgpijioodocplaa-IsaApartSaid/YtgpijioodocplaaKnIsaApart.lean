/- The law IsaApart: each leaf of its run is true. -/
import Derived.Test.YtgpijioodocplaaKnA03
import Derived.Test.YtgpijioodocplaaSyArgs
import Derived.Test.YtgpijioodocplaaSyLin4
import Derived.Test.YtgpijioodocplaaKcIsa
set_option linter.unusedVariables false
set_option maxRecDepth 100000
namespace Go.Proofs.Ytgpijioodocplaa
open Go Go.RowKit

def isaApart_facts : Facts := [(.cmp .geq (.var 0) (.lit 0), true), (.cmp .leq (.var 0) (.lit 255), true)]
def isaApart_args : List AV := [.tc (.sy (.int .u8) (.var 0))]
theorem isaApart_run : RunsN CA03 24 isaApart_facts 5 isaApart_args := .code codeIsa_ok rfl (by kernel_rfl)

theorem isaApart_calls {ρ : Env} (hs : Summ ρ CA03) (hf : FactsOk ρ isaApart_facts) : CallsTo CA03 5 (concs ρ isaApart_args) (.sc (.bool true)) := isaApart_run.calls hs hf

theorem isaApart_walk (a0 : Int) (w0 : IntKind.min .u8 ≤ a0 ∧ a0 ≤ IntKind.max .u8) (w : World) : Calls Try.prog 5 #[.int .u8 a0] w fun e w' => e = .returned (.bool true) ∧ Below w.heap.size w w' := by
  have hf : FactsOk ⟨fun i => [a0].getD i 0, fun i => [false].getD i false, fun i => [ByteArray.empty].getD i ByteArray.empty, FF0⟩ isaApart_facts := by
    intro p hp
    simp only [isaApart_facts, List.mem_cons, List.not_mem_nil, or_false] at hp
    rcases hp with rfl | rfl
    · exact decide_eq_true w0.1
    · exact decide_eq_true w0.2
  refine walk_of (C := CA03) rfl (isaApart_calls (CA03_ok _) hf) fun ob => ?_
  refine ⟨rfl, fun i a v hi hv => ?_⟩
  match i, hi, hv with
  | 0, hi, hv =>
    obtain rfl := Option.some.inj hi
    obtain rfl := Option.some.inj hv
    exact .of_sc _ _ _ _
  | k + 1, hi, _ => simp [concs, isaApart_args] at hi
end Go.Proofs.Ytgpijioodocplaa
