/- The law ExtTells: each leaf of its run is true. -/
import Derived.Test.YtgpijioodocplaaKnExtTellsA
import Derived.Test.YtgpijioodocplaaKnExtTellsB
set_option linter.unusedVariables false
set_option maxRecDepth 100000
namespace Go.Proofs.Ytgpijioodocplaa
open Go Go.RowKit


theorem extTells_calls {ρ : Env} (hs : Summ ρ CX05) (hf : FactsOk ρ extTells_facts) : CallsTo CX05 6 (concs ρ extTells_args) (.sc (.bool true)) := by
  have h : ρ.I 0 ≤ 0 ∨ ρ.I 0 = 1 ∨ ρ.I 0 = 2 ∨ ρ.I 0 = 3 ∨ ρ.I 0 = 4 ∨ ρ.I 0 = 5 ∨ ρ.I 0 = 6 ∨ ρ.I 0 = 7 ∨ ρ.I 0 = 8 ∨ ρ.I 0 = 9 ∨ ρ.I 0 = 10 ∨ ρ.I 0 = 11 ∨ ρ.I 0 = 12 ∨ ρ.I 0 = 13 ∨ ρ.I 0 = 14 ∨ ρ.I 0 = 15 ∨ ρ.I 0 = 16 ∨ ρ.I 0 = 17 ∨ ρ.I 0 = 18 ∨ ρ.I 0 = 19 ∨ ρ.I 0 = 20 ∨ ρ.I 0 = 21 ∨ ρ.I 0 = 22 ∨ ρ.I 0 = 23 ∨ ρ.I 0 = 24 ∨ ρ.I 0 = 25 ∨ ρ.I 0 = 26 ∨ ρ.I 0 = 27 ∨ ρ.I 0 = 28 ∨ ρ.I 0 = 29 ∨ ρ.I 0 = 30 ∨ ρ.I 0 = 31 ∨ 31 < ρ.I 0 := by omega
  rcases h with h | h | h | h | h | h | h | h | h | h | h | h | h | h | h | h | h | h | h | h | h | h | h | h | h | h | h | h | h | h | h | h | h
  · exact extTells_runL.calls hs (hf.cons (decide_eq_true h))
  · exact extTells_run1.calls hs (hf.cons (beq_iff_eq.2 h))
  · exact extTells_run2.calls hs (hf.cons (beq_iff_eq.2 h))
  · exact extTells_run3.calls hs (hf.cons (beq_iff_eq.2 h))
  · exact extTells_run4.calls hs (hf.cons (beq_iff_eq.2 h))
  · exact extTells_run5.calls hs (hf.cons (beq_iff_eq.2 h))
  · exact extTells_run6.calls hs (hf.cons (beq_iff_eq.2 h))
  · exact extTells_run7.calls hs (hf.cons (beq_iff_eq.2 h))
  · exact extTells_run8.calls hs (hf.cons (beq_iff_eq.2 h))
  · exact extTells_run9.calls hs (hf.cons (beq_iff_eq.2 h))
  · exact extTells_run10.calls hs (hf.cons (beq_iff_eq.2 h))
  · exact extTells_run11.calls hs (hf.cons (beq_iff_eq.2 h))
  · exact extTells_run12.calls hs (hf.cons (beq_iff_eq.2 h))
  · exact extTells_run13.calls hs (hf.cons (beq_iff_eq.2 h))
  · exact extTells_run14.calls hs (hf.cons (beq_iff_eq.2 h))
  · exact extTells_run15.calls hs (hf.cons (beq_iff_eq.2 h))
  · exact extTells_run16.calls hs (hf.cons (beq_iff_eq.2 h))
  · exact extTells_run17.calls hs (hf.cons (beq_iff_eq.2 h))
  · exact extTells_run18.calls hs (hf.cons (beq_iff_eq.2 h))
  · exact extTells_run19.calls hs (hf.cons (beq_iff_eq.2 h))
  · exact extTells_run20.calls hs (hf.cons (beq_iff_eq.2 h))
  · exact extTells_run21.calls hs (hf.cons (beq_iff_eq.2 h))
  · exact extTells_run22.calls hs (hf.cons (beq_iff_eq.2 h))
  · exact extTells_run23.calls hs (hf.cons (beq_iff_eq.2 h))
  · exact extTells_run24.calls hs (hf.cons (beq_iff_eq.2 h))
  · exact extTells_run25.calls hs (hf.cons (beq_iff_eq.2 h))
  · exact extTells_run26.calls hs (hf.cons (beq_iff_eq.2 h))
  · exact extTells_run27.calls hs (hf.cons (beq_iff_eq.2 h))
  · exact extTells_run28.calls hs (hf.cons (beq_iff_eq.2 h))
  · exact extTells_run29.calls hs (hf.cons (beq_iff_eq.2 h))
  · exact extTells_run30.calls hs (hf.cons (beq_iff_eq.2 h))
  · exact extTells_run31.calls hs (hf.cons (beq_iff_eq.2 h))
  · exact extTells_runG.calls hs (hf.cons (decide_eq_false (Int.not_le.2 h)))

theorem extTells_walk (a0 : Int) (w0 : IntKind.min .u8 ≤ a0 ∧ a0 ≤ IntKind.max .u8) (a1 : Int) (w1 : IntKind.min .u8 ≤ a1 ∧ a1 ≤ IntKind.max .u8) (a2 : Int) (w2 : IntKind.min .u8 ≤ a2 ∧ a2 ≤ IntKind.max .u8) (a3 : Int) (w3 : IntKind.min .u8 ≤ a3 ∧ a3 ≤ IntKind.max .u8) (a4 : Int) (w4 : IntKind.min .u8 ≤ a4 ∧ a4 ≤ IntKind.max .u8) (a5 : Int) (w5 : IntKind.min .u8 ≤ a5 ∧ a5 ≤ IntKind.max .u8) (a6 : Int) (w6 : IntKind.min .u8 ≤ a6 ∧ a6 ≤ IntKind.max .u8) (a7 : Bool) (a8 : Bool) (a9 : Int) (w9 : IntKind.min .u16 ≤ a9 ∧ a9 ≤ IntKind.max .u16) (a10 : Int) (w10 : IntKind.min .i64 ≤ a10 ∧ a10 ≤ IntKind.max .i64) (a11 : Int) (w11 : IntKind.min .u32 ≤ a11 ∧ a11 ≤ IntKind.max .u32) (w : World) : Calls Try.prog 6 #[.agg #[.int .u8 a0, .int .u8 a1, .int .u8 a2, .int .u8 a3, .int .u8 a4, .int .u8 a5, .int .u8 a6, .bool a7, .bool a8, .int .u16 a9, .int .i64 a10], .int .u32 a11] w fun e w' => e = .returned (.bool true) ∧ Below w.heap.size w w' := by
  have hf : FactsOk ⟨fun i => [a0, a1, a2, a3, a4, a5, a6, 0, 0, a9, a10, a11].getD i 0, fun i => [false, false, false, false, false, false, false, a7, a8, false, false, false].getD i false, fun i => [ByteArray.empty, ByteArray.empty, ByteArray.empty, ByteArray.empty, ByteArray.empty, ByteArray.empty, ByteArray.empty, ByteArray.empty, ByteArray.empty, ByteArray.empty, ByteArray.empty, ByteArray.empty].getD i ByteArray.empty, FF0⟩ extTells_facts := by
    intro p hp
    simp only [extTells_facts, List.mem_cons, List.not_mem_nil, or_false] at hp
    rcases hp with rfl | rfl | rfl | rfl | rfl | rfl | rfl | rfl | rfl | rfl | rfl | rfl | rfl | rfl | rfl | rfl | rfl | rfl | rfl | rfl
    · exact decide_eq_true w0.1
    · exact decide_eq_true w0.2
    · exact decide_eq_true w1.1
    · exact decide_eq_true w1.2
    · exact decide_eq_true w2.1
    · exact decide_eq_true w2.2
    · exact decide_eq_true w3.1
    · exact decide_eq_true w3.2
    · exact decide_eq_true w4.1
    · exact decide_eq_true w4.2
    · exact decide_eq_true w5.1
    · exact decide_eq_true w5.2
    · exact decide_eq_true w6.1
    · exact decide_eq_true w6.2
    · exact decide_eq_true w9.1
    · exact decide_eq_true w9.2
    · exact decide_eq_true w10.1
    · exact decide_eq_true w10.2
    · exact decide_eq_true w11.1
    · exact decide_eq_true w11.2
  refine walk_of (C := CX05) rfl (extTells_calls (CX05_ok _) hf) fun ob => ?_
  refine ⟨rfl, fun i a v hi hv => ?_⟩
  match i, hi, hv with
  | 0, hi, hv =>
    obtain rfl := Option.some.inj hi
    obtain rfl := Option.some.inj hv
    exact relA_scs _ _ _ #[.int .u8 a0, .int .u8 a1, .int .u8 a2, .int .u8 a3, .int .u8 a4, .int .u8 a5, .int .u8 a6, .bool a7, .bool a8, .int .u16 a9, .int .i64 a10]
  | 1, hi, hv =>
    obtain rfl := Option.some.inj hi
    obtain rfl := Option.some.inj hv
    exact .of_sc _ _ _ _
  | k + 2, hi, _ => simp [concs, extTells_args] at hi
end Go.Proofs.Ytgpijioodocplaa
