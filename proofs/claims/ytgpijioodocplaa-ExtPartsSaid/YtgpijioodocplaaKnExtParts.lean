/- The law ExtParts: each leaf of its run is true. -/
import Derived.Test.YtgpijioodocplaaKnX05
import Derived.Test.YtgpijioodocplaaSyArgs
import Derived.Test.YtgpijioodocplaaSyLin4
import Derived.Test.YtgpijioodocplaaKcExt
set_option linter.unusedVariables false
set_option maxRecDepth 100000
namespace Go.Proofs.Ytgpijioodocplaa
open Go Go.RowKit

def extParts_facts : Facts := [(.cmp .geq (.var 0) (.lit (-9223372036854775808)), true), (.cmp .leq (.var 0) (.lit 9223372036854775807), true), (.cmp .geq (.var 1) (.lit 0), true), (.cmp .leq (.var 1) (.lit 4294967295), true), (.cmp .geq (.var 2) (.lit 0), true), (.cmp .leq (.var 2) (.lit 4294967295), true), (.cmp .geq (.var 3) (.lit 0), true), (.cmp .leq (.var 3) (.lit 4294967295), true)]
def extParts_args : List AV := [.tc (.sy (.int .i64) (.var 0)), .tc (.sy (.int .u32) (.var 1)), .tc (.sy (.int .u32) (.var 2)), .tc (.sy (.int .u32) (.var 3))]
theorem extParts_run : RunsN CX05 24 extParts_facts 8 extParts_args := .code codeExt_ok rfl (by kernel_rfl)

theorem extParts_calls {ρ : Env} (hs : Summ ρ CX05) (hf : FactsOk ρ extParts_facts) : CallsTo CX05 8 (concs ρ extParts_args) (.sc (.bool true)) := extParts_run.calls hs hf

theorem extParts_walk (a0 : Int) (w0 : IntKind.min .i64 ≤ a0 ∧ a0 ≤ IntKind.max .i64) (a1 : Int) (w1 : IntKind.min .u32 ≤ a1 ∧ a1 ≤ IntKind.max .u32) (a2 : Int) (w2 : IntKind.min .u32 ≤ a2 ∧ a2 ≤ IntKind.max .u32) (a3 : Int) (w3 : IntKind.min .u32 ≤ a3 ∧ a3 ≤ IntKind.max .u32) (w : World) : Calls Try.prog 8 #[.int .i64 a0, .int .u32 a1, .int .u32 a2, .int .u32 a3] w fun e w' => e = .returned (.bool true) ∧ Below w.heap.size w w' := by
  have hf : FactsOk ⟨fun i => [a0, a1, a2, a3].getD i 0, fun i => [false, false, false, false].getD i false, fun i => [ByteArray.empty, ByteArray.empty, ByteArray.empty, ByteArray.empty].getD i ByteArray.empty, FF0⟩ extParts_facts := by
    intro p hp
    simp only [extParts_facts, List.mem_cons, List.not_mem_nil, or_false] at hp
    rcases hp with rfl | rfl | rfl | rfl | rfl | rfl | rfl | rfl
    · exact decide_eq_true w0.1
    · exact decide_eq_true w0.2
    · exact decide_eq_true w1.1
    · exact decide_eq_true w1.2
    · exact decide_eq_true w2.1
    · exact decide_eq_true w2.2
    · exact decide_eq_true w3.1
    · exact decide_eq_true w3.2
  refine walk_of (C := CX05) rfl (extParts_calls (CX05_ok _) hf) fun ob => ?_
  refine ⟨rfl, fun i a v hi hv => ?_⟩
  match i, hi, hv with
  | 0, hi, hv =>
    obtain rfl := Option.some.inj hi
    obtain rfl := Option.some.inj hv
    exact .of_sc _ _ _ _
  | 1, hi, hv =>
    obtain rfl := Option.some.inj hi
    obtain rfl := Option.some.inj hv
    exact .of_sc _ _ _ _
  | 2, hi, hv =>
    obtain rfl := Option.some.inj hi
    obtain rfl := Option.some.inj hv
    exact .of_sc _ _ _ _
  | 3, hi, hv =>
    obtain rfl := Option.some.inj hi
    obtain rfl := Option.some.inj hv
    exact .of_sc _ _ _ _
  | k + 4, hi, _ => simp [concs, extParts_args] at hi
end Go.Proofs.Ytgpijioodocplaa
