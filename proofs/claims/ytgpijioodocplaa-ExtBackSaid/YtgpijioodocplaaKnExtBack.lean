/- The law ExtBack: each leaf of its run is true. -/
import Derived.Test.YtgpijioodocplaaKnExtBackA
import Derived.Test.YtgpijioodocplaaKnExtBackB
set_option linter.unusedVariables false
set_option maxRecDepth 100000
namespace Go.Proofs.Ytgpijioodocplaa
open Go Go.RowKit


theorem extBack_calls {ρ : Env} (hs : Summ ρ CX05) (hf : FactsOk ρ extBack_facts) : CallsTo CX05 9 (concs ρ extBack_args) (.sc (.bool true)) := by
  have h : ρ.I 3 ≤ 0 ∨ ρ.I 3 = 1 ∨ ρ.I 3 = 2 ∨ ρ.I 3 = 3 ∨ ρ.I 3 = 4 ∨ ρ.I 3 = 5 ∨ ρ.I 3 = 6 ∨ ρ.I 3 = 7 ∨ ρ.I 3 = 8 ∨ ρ.I 3 = 9 ∨ ρ.I 3 = 10 ∨ ρ.I 3 = 11 ∨ ρ.I 3 = 12 ∨ ρ.I 3 = 13 ∨ ρ.I 3 = 14 ∨ ρ.I 3 = 15 ∨ ρ.I 3 = 16 ∨ ρ.I 3 = 17 ∨ ρ.I 3 = 18 ∨ ρ.I 3 = 19 ∨ ρ.I 3 = 20 ∨ ρ.I 3 = 21 ∨ ρ.I 3 = 22 ∨ ρ.I 3 = 23 ∨ ρ.I 3 = 24 ∨ ρ.I 3 = 25 ∨ ρ.I 3 = 26 ∨ ρ.I 3 = 27 ∨ ρ.I 3 = 28 ∨ ρ.I 3 = 29 ∨ ρ.I 3 = 30 ∨ ρ.I 3 = 31 ∨ 31 < ρ.I 3 := by omega
  rcases h with h | h | h | h | h | h | h | h | h | h | h | h | h | h | h | h | h | h | h | h | h | h | h | h | h | h | h | h | h | h | h | h | h
  · exact extBack_runL.calls hs (hf.cons (decide_eq_true h))
  · exact extBack_run1.calls hs (hf.cons (beq_iff_eq.2 h))
  · exact extBack_run2.calls hs (hf.cons (beq_iff_eq.2 h))
  · exact extBack_run3.calls hs (hf.cons (beq_iff_eq.2 h))
  · exact extBack_run4.calls hs (hf.cons (beq_iff_eq.2 h))
  · exact extBack_run5.calls hs (hf.cons (beq_iff_eq.2 h))
  · exact extBack_run6.calls hs (hf.cons (beq_iff_eq.2 h))
  · exact extBack_run7.calls hs (hf.cons (beq_iff_eq.2 h))
  · exact extBack_run8.calls hs (hf.cons (beq_iff_eq.2 h))
  · exact extBack_run9.calls hs (hf.cons (beq_iff_eq.2 h))
  · exact extBack_run10.calls hs (hf.cons (beq_iff_eq.2 h))
  · exact extBack_run11.calls hs (hf.cons (beq_iff_eq.2 h))
  · exact extBack_run12.calls hs (hf.cons (beq_iff_eq.2 h))
  · exact extBack_run13.calls hs (hf.cons (beq_iff_eq.2 h))
  · exact extBack_run14.calls hs (hf.cons (beq_iff_eq.2 h))
  · exact extBack_run15.calls hs (hf.cons (beq_iff_eq.2 h))
  · exact extBack_run16.calls hs (hf.cons (beq_iff_eq.2 h))
  · exact extBack_run17.calls hs (hf.cons (beq_iff_eq.2 h))
  · exact extBack_run18.calls hs (hf.cons (beq_iff_eq.2 h))
  · exact extBack_run19.calls hs (hf.cons (beq_iff_eq.2 h))
  · exact extBack_run20.calls hs (hf.cons (beq_iff_eq.2 h))
  · exact extBack_run21.calls hs (hf.cons (beq_iff_eq.2 h))
  · exact extBack_run22.calls hs (hf.cons (beq_iff_eq.2 h))
  · exact extBack_run23.calls hs (hf.cons (beq_iff_eq.2 h))
  · exact extBack_run24.calls hs (hf.cons (beq_iff_eq.2 h))
  · exact extBack_run25.calls hs (hf.cons (beq_iff_eq.2 h))
  · exact extBack_run26.calls hs (hf.cons (beq_iff_eq.2 h))
  · exact extBack_run27.calls hs (hf.cons (beq_iff_eq.2 h))
  · exact extBack_run28.calls hs (hf.cons (beq_iff_eq.2 h))
  · exact extBack_run29.calls hs (hf.cons (beq_iff_eq.2 h))
  · exact extBack_run30.calls hs (hf.cons (beq_iff_eq.2 h))
  · exact extBack_run31.calls hs (hf.cons (beq_iff_eq.2 h))
  · exact extBack_runG.calls hs (hf.cons (decide_eq_false (Int.not_le.2 h)))

theorem extBack_walk (a0 : Int) (w0 : IntKind.min .i32 ≤ a0 ∧ a0 ≤ IntKind.max .i32) (a1 : Int) (w1 : IntKind.min .u32 ≤ a1 ∧ a1 ≤ IntKind.max .u32) (a2 : Int) (w2 : IntKind.min .u32 ≤ a2 ∧ a2 ≤ IntKind.max .u32) (a3 : Int) (w3 : IntKind.min .u8 ≤ a3 ∧ a3 ≤ IntKind.max .u8) (a4 : Int) (w4 : IntKind.min .u8 ≤ a4 ∧ a4 ≤ IntKind.max .u8) (a5 : Int) (w5 : IntKind.min .u8 ≤ a5 ∧ a5 ≤ IntKind.max .u8) (a6 : Int) (w6 : IntKind.min .u8 ≤ a6 ∧ a6 ≤ IntKind.max .u8) (a7 : Int) (w7 : IntKind.min .u8 ≤ a7 ∧ a7 ≤ IntKind.max .u8) (a8 : Int) (w8 : IntKind.min .u8 ≤ a8 ∧ a8 ≤ IntKind.max .u8) (a9 : Int) (w9 : IntKind.min .u8 ≤ a9 ∧ a9 ≤ IntKind.max .u8) (a10 : Bool) (a11 : Bool) (a12 : Int) (w12 : IntKind.min .u16 ≤ a12 ∧ a12 ≤ IntKind.max .u16) (a13 : Int) (w13 : IntKind.min .i64 ≤ a13 ∧ a13 ≤ IntKind.max .i64) (a14 : Int) (w14 : IntKind.min .u32 ≤ a14 ∧ a14 ≤ IntKind.max .u32) (w : World) : Calls Try.prog 9 #[.int .i32 a0, .int .u32 a1, .int .u32 a2, .agg #[.int .u8 a3, .int .u8 a4, .int .u8 a5, .int .u8 a6, .int .u8 a7, .int .u8 a8, .int .u8 a9, .bool a10, .bool a11, .int .u16 a12, .int .i64 a13], .int .u32 a14] w fun e w' => e = .returned (.bool true) ∧ Below w.heap.size w w' := by
  have hf : FactsOk ⟨fun i => [a0, a1, a2, a3, a4, a5, a6, a7, a8, a9, 0, 0, a12, a13, a14].getD i 0, fun i => [false, false, false, false, false, false, false, false, false, false, a10, a11, false, false, false].getD i false, fun i => [ByteArray.empty, ByteArray.empty, ByteArray.empty, ByteArray.empty, ByteArray.empty, ByteArray.empty, ByteArray.empty, ByteArray.empty, ByteArray.empty, ByteArray.empty, ByteArray.empty, ByteArray.empty, ByteArray.empty, ByteArray.empty, ByteArray.empty].getD i ByteArray.empty, FF0⟩ extBack_facts := by
    intro p hp
    simp only [extBack_facts, List.mem_cons, List.not_mem_nil, or_false] at hp
    rcases hp with rfl | rfl | rfl | rfl | rfl | rfl | rfl | rfl | rfl | rfl | rfl | rfl | rfl | rfl | rfl | rfl | rfl | rfl | rfl | rfl | rfl | rfl | rfl | rfl | rfl | rfl
    · exact decide_eq_true w0.1
    · exact decide_eq_true w0.2
    · exact decide_eq_true w1.1
    · exact decide_eq_true w1.2
    · exact decide_eq_true w2.1
    · exact decide_eq_true w2.2
    · exact decide_eq_true w3.1
    · exact decide_eq_true w3.2
    · exact decide_eq_true w4.1
    · exact decide_eq_true w4.2
    · exact decide_eq_true w5.1
    · exact decide_eq_true w5.2
    · exact decide_eq_true w6.1
    · exact decide_eq_true w6.2
    · exact decide_eq_true w7.1
    · exact decide_eq_true w7.2
    · exact decide_eq_true w8.1
    · exact decide_eq_true w8.2
    · exact decide_eq_true w9.1
    · exact decide_eq_true w9.2
    · exact decide_eq_true w12.1
    · exact decide_eq_true w12.2
    · exact decide_eq_true w13.1
    · exact decide_eq_true w13.2
    · exact decide_eq_true w14.1
    · exact decide_eq_true w14.2
  refine walk_of (C := CX05) rfl (extBack_calls (CX05_ok _) hf) fun ob => ?_
  refine ⟨rfl, fun i a v hi hv => ?_⟩
  match i, hi, hv with
  | 0, hi, hv =>
    obtain rfl := Option.some.inj hi
    obtain rfl := Option.some.inj hv
    exact .of_sc _ _ _ _
  | 1, hi, hv =>
    obtain rfl := Option.some.inj hi
    obtain rfl := Option.some.inj hv
    exact .of_sc _ _ _ _
  | 2, hi, hv =>
    obtain rfl := Option.some.inj hi
    obtain rfl := Option.some.inj hv
    exact .of_sc _ _ _ _
  | 3, hi, hv =>
    obtain rfl := Option.some.inj hi
    obtain rfl := Option.some.inj hv
    exact relA_scs _ _ _ #[.int .u8 a3, .int .u8 a4, .int .u8 a5, .int .u8 a6, .int .u8 a7, .int .u8 a8, .int .u8 a9, .bool a10, .bool a11, .int .u16 a12, .int .i64 a13]
  | 4, hi, hv =>
    obtain rfl := Option.some.inj hi
    obtain rfl := Option.some.inj hv
    exact .of_sc _ _ _ _
  | k + 5, hi, _ => simp [concs, extBack_args] at hi
end Go.Proofs.Ytgpijioodocplaa
