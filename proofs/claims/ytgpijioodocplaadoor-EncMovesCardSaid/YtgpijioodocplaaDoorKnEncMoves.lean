/- The law EncMoves: each leaf of its run is true. -/
import Derived.Test.YtgpijioodocplaaDoorKnEncMovesA
import Derived.Test.YtgpijioodocplaaDoorKnEncMovesB
import Derived.Test.YtgpijioodocplaaDoorKnEncMovesC
import Derived.Test.YtgpijioodocplaaDoorKnEncMovesE
import Derived.Test.YtgpijioodocplaaDoorKnEncMovesF
import Derived.Test.YtgpijioodocplaaDoorKnEncMovesG
import Derived.Test.YtgpijioodocplaaDoorKnEncMovesH
set_option linter.unusedVariables false
set_option maxRecDepth 100000
namespace Go.Proofs.YtgpijioodocplaaDoor
open Go Go.RowKit

theorem encMoves_calls {ρ : Env} (hf : FactsOk ρ encMoves_facts) : CallsTo CX06 4 (concs ρ encMoves_args) (.sc (.bool true)) := by
  have h : ρ.I 0 ≤ 0 ∨ ρ.I 0 = 1 ∨ ρ.I 0 = 2 ∨ ρ.I 0 = 3 ∨ ρ.I 0 = 4 ∨ ρ.I 0 = 5 ∨ ρ.I 0 = 6 ∨ ρ.I 0 = 7 ∨ ρ.I 0 = 8 ∨ ρ.I 0 = 9 ∨ ρ.I 0 = 10 ∨ ρ.I 0 = 11 ∨ ρ.I 0 = 12 ∨ ρ.I 0 = 13 ∨ ρ.I 0 = 14 ∨ ρ.I 0 = 15 ∨ ρ.I 0 = 16 ∨ ρ.I 0 = 17 ∨ ρ.I 0 = 18 ∨ ρ.I 0 = 19 ∨ ρ.I 0 = 20 ∨ ρ.I 0 = 21 ∨ ρ.I 0 = 22 ∨ ρ.I 0 = 23 ∨ ρ.I 0 = 24 ∨ ρ.I 0 = 25 ∨ ρ.I 0 = 26 ∨ ρ.I 0 = 27 ∨ ρ.I 0 = 28 ∨ ρ.I 0 = 29 ∨ ρ.I 0 = 30 ∨ ρ.I 0 = 31 ∨ 31 < ρ.I 0 := by omega
  rcases h with h | h | h | h | h | h | h | h | h | h | h | h | h | h | h | h | h | h | h | h | h | h | h | h | h | h | h | h | h | h | h | h | h
  · have hf2 : FactsOk ρ encMoves_factsL := hf.cons (decide_eq_true h)
    exact (encMoves_runL.calls (CW06_ok hf2) hf2).of rfl rfl
  · have e : concs ρ encMoves_args = concs ρ encMoves_args1 := by simp only [encMoves_args, encMoves_args1, concs, conc, concT, STy.val, den, h]
    rw [e]
    exact (encMoves_run1.calls (CW06_ok hf) hf).of rfl rfl
  · have e : concs ρ encMoves_args = concs ρ encMoves_args2 := by simp only [encMoves_args, encMoves_args2, concs, conc, concT, STy.val, den, h]
    rw [e]
    exact (encMoves_run2.calls (CW06_ok hf) hf).of rfl rfl
  · have e : concs ρ encMoves_args = concs ρ encMoves_args3 := by simp only [encMoves_args, encMoves_args3, concs, conc, concT, STy.val, den, h]
    rw [e]
    exact (encMoves_run3.calls (CW06_ok hf) hf).of rfl rfl
  · have e : concs ρ encMoves_args = concs ρ encMoves_args4 := by simp only [encMoves_args, encMoves_args4, concs, conc, concT, STy.val, den, h]
    rw [e]
    exact (encMoves_run4.calls (CW06_ok hf) hf).of rfl rfl
  · have e : concs ρ encMoves_args = concs ρ encMoves_args5 := by simp only [encMoves_args, encMoves_args5, concs, conc, concT, STy.val, den, h]
    rw [e]
    exact (encMoves_run5.calls (CW06_ok hf) hf).of rfl rfl
  · have e : concs ρ encMoves_args = concs ρ encMoves_args6 := by simp only [encMoves_args, encMoves_args6, concs, conc, concT, STy.val, den, h]
    rw [e]
    exact (encMoves_run6.calls (CW06_ok hf) hf).of rfl rfl
  · have e : concs ρ encMoves_args = concs ρ encMoves_args7 := by simp only [encMoves_args, encMoves_args7, concs, conc, concT, STy.val, den, h]
    rw [e]
    exact (encMoves_run7.calls (CW06_ok hf) hf).of rfl rfl
  · have e : concs ρ encMoves_args = concs ρ encMoves_args8 := by simp only [encMoves_args, encMoves_args8, concs, conc, concT, STy.val, den, h]
    rw [e]
    exact (encMoves_run8.calls (CW06_ok hf) hf).of rfl rfl
  · have e : concs ρ encMoves_args = concs ρ encMoves_args9 := by simp only [encMoves_args, encMoves_args9, concs, conc, concT, STy.val, den, h]
    rw [e]
    exact (encMoves_run9.calls (CW06_ok hf) hf).of rfl rfl
  · have e : concs ρ encMoves_args = concs ρ encMoves_args10 := by simp only [encMoves_args, encMoves_args10, concs, conc, concT, STy.val, den, h]
    rw [e]
    exact (encMoves_run10.calls (CW06_ok hf) hf).of rfl rfl
  · have e : concs ρ encMoves_args = concs ρ encMoves_args11 := by simp only [encMoves_args, encMoves_args11, concs, conc, concT, STy.val, den, h]
    rw [e]
    exact (encMoves_run11.calls (CW06_ok hf) hf).of rfl rfl
  · have e : concs ρ encMoves_args = concs ρ encMoves_args12 := by simp only [encMoves_args, encMoves_args12, concs, conc, concT, STy.val, den, h]
    rw [e]
    exact (encMoves_run12.calls (CW06_ok hf) hf).of rfl rfl
  · have e : concs ρ encMoves_args = concs ρ encMoves_args13 := by simp only [encMoves_args, encMoves_args13, concs, conc, concT, STy.val, den, h]
    rw [e]
    exact (encMoves_run13.calls (CW06_ok hf) hf).of rfl rfl
  · have e : concs ρ encMoves_args = concs ρ encMoves_args14 := by simp only [encMoves_args, encMoves_args14, concs, conc, concT, STy.val, den, h]
    rw [e]
    exact (encMoves_run14.calls (CW06_ok hf) hf).of rfl rfl
  · have e : concs ρ encMoves_args = concs ρ encMoves_args15 := by simp only [encMoves_args, encMoves_args15, concs, conc, concT, STy.val, den, h]
    rw [e]
    exact (encMoves_run15.calls (CW06_ok hf) hf).of rfl rfl
  · have e : concs ρ encMoves_args = concs ρ encMoves_args16 := by simp only [encMoves_args, encMoves_args16, concs, conc, concT, STy.val, den, h]
    rw [e]
    exact (encMoves_run16.calls (CW06_ok hf) hf).of rfl rfl
  · have e : concs ρ encMoves_args = concs ρ encMoves_args17 := by simp only [encMoves_args, encMoves_args17, concs, conc, concT, STy.val, den, h]
    rw [e]
    exact (encMoves_run17.calls (CW06_ok hf) hf).of rfl rfl
  · have e : concs ρ encMoves_args = concs ρ encMoves_args18 := by simp only [encMoves_args, encMoves_args18, concs, conc, concT, STy.val, den, h]
    rw [e]
    exact (encMoves_run18.calls (CW06_ok hf) hf).of rfl rfl
  · have e : concs ρ encMoves_args = concs ρ encMoves_args19 := by simp only [encMoves_args, encMoves_args19, concs, conc, concT, STy.val, den, h]
    rw [e]
    exact (encMoves_run19.calls (CW06_ok hf) hf).of rfl rfl
  · have e : concs ρ encMoves_args = concs ρ encMoves_args20 := by simp only [encMoves_args, encMoves_args20, concs, conc, concT, STy.val, den, h]
    rw [e]
    exact (encMoves_run20.calls (CW06_ok hf) hf).of rfl rfl
  · have e : concs ρ encMoves_args = concs ρ encMoves_args21 := by simp only [encMoves_args, encMoves_args21, concs, conc, concT, STy.val, den, h]
    rw [e]
    exact (encMoves_run21.calls (CW06_ok hf) hf).of rfl rfl
  · have e : concs ρ encMoves_args = concs ρ encMoves_args22 := by simp only [encMoves_args, encMoves_args22, concs, conc, concT, STy.val, den, h]
    rw [e]
    exact (encMoves_run22.calls (CW06_ok hf) hf).of rfl rfl
  · have e : concs ρ encMoves_args = concs ρ encMoves_args23 := by simp only [encMoves_args, encMoves_args23, concs, conc, concT, STy.val, den, h]
    rw [e]
    exact (encMoves_run23.calls (CW06_ok hf) hf).of rfl rfl
  · have e : concs ρ encMoves_args = concs ρ encMoves_args24 := by simp only [encMoves_args, encMoves_args24, concs, conc, concT, STy.val, den, h]
    rw [e]
    exact (encMoves_run24.calls (CW06_ok hf) hf).of rfl rfl
  · have e : concs ρ encMoves_args = concs ρ encMoves_args25 := by simp only [encMoves_args, encMoves_args25, concs, conc, concT, STy.val, den, h]
    rw [e]
    exact (encMoves_run25.calls (CW06_ok hf) hf).of rfl rfl
  · have e : concs ρ encMoves_args = concs ρ encMoves_args26 := by simp only [encMoves_args, encMoves_args26, concs, conc, concT, STy.val, den, h]
    rw [e]
    exact (encMoves_run26.calls (CW06_ok hf) hf).of rfl rfl
  · have e : concs ρ encMoves_args = concs ρ encMoves_args27 := by simp only [encMoves_args, encMoves_args27, concs, conc, concT, STy.val, den, h]
    rw [e]
    cases hb : (den ρ (.var 8)).b with
    | true => exact (encMoves_run27a.calls (CW06_ok (hf.cons hb)) (hf.cons hb)).of rfl rfl
    | false => cases hw : (den ρ encMoves_way).b with
      | true => exact (encMoves_run27b.calls (CW06_ok ((hf.cons hb).cons hw)) ((hf.cons hb).cons hw)).of rfl rfl
      | false => exact (encMoves_run27c.calls (CW06_ok ((hf.cons hb).cons hw)) ((hf.cons hb).cons hw)).of rfl rfl
  · have e : concs ρ encMoves_args = concs ρ encMoves_args28 := by simp only [encMoves_args, encMoves_args28, concs, conc, concT, STy.val, den, h]
    rw [e]
    exact (encMoves_run28.calls (CW06_ok hf) hf).of rfl rfl
  · have e : concs ρ encMoves_args = concs ρ encMoves_args29 := by simp only [encMoves_args, encMoves_args29, concs, conc, concT, STy.val, den, h]
    rw [e]
    cases hb : (den ρ (.var 8)).b with
    | true => exact (encMoves_run29a.calls (CW06_ok (hf.cons hb)) (hf.cons hb)).of rfl rfl
    | false => cases hw : (den ρ encMoves_way).b with
      | true => exact (encMoves_run29b.calls (CW06_ok ((hf.cons hb).cons hw)) ((hf.cons hb).cons hw)).of rfl rfl
      | false => exact (encMoves_run29c.calls (CW06_ok ((hf.cons hb).cons hw)) ((hf.cons hb).cons hw)).of rfl rfl
  · have e : concs ρ encMoves_args = concs ρ encMoves_args30 := by simp only [encMoves_args, encMoves_args30, concs, conc, concT, STy.val, den, h]
    rw [e]
    cases hb : (den ρ (.var 8)).b with
    | true => exact (encMoves_run30a.calls (CW06_ok (hf.cons hb)) (hf.cons hb)).of rfl rfl
    | false => cases hw : (den ρ encMoves_way).b with
      | true => exact (encMoves_run30b.calls (CW06_ok ((hf.cons hb).cons hw)) ((hf.cons hb).cons hw)).of rfl rfl
      | false => exact (encMoves_run30c.calls (CW06_ok ((hf.cons hb).cons hw)) ((hf.cons hb).cons hw)).of rfl rfl
  · have e : concs ρ encMoves_args = concs ρ encMoves_args31 := by simp only [encMoves_args, encMoves_args31, concs, conc, concT, STy.val, den, h]
    rw [e]
    cases hb : (den ρ (.var 8)).b with
    | true => exact (encMoves_run31a.calls (CW06_ok (hf.cons hb)) (hf.cons hb)).of rfl rfl
    | false => cases hw : (den ρ encMoves_way).b with
      | true => exact (encMoves_run31b.calls (CW06_ok ((hf.cons hb).cons hw)) ((hf.cons hb).cons hw)).of rfl rfl
      | false => exact (encMoves_run31c.calls (CW06_ok ((hf.cons hb).cons hw)) ((hf.cons hb).cons hw)).of rfl rfl
  · have hf2 : FactsOk ρ encMoves_factsG := hf.cons (decide_eq_false (Int.not_le.2 h))
    exact (encMoves_runG.calls (CW06_ok hf2) hf2).of rfl rfl

theorem encMoves_glob : GlobOk Tryd.prog Rows.encMovesRow.laid globEnc := ⟨⟨"coxless/bits.codeAt", Rows.laid_coxless_bits_codeAt, .head _, by kernel_rfl, by kernel_rfl⟩, ⟨"coxless/bits.ends", Rows.laid_coxless_bits_ends, .tail _ (.head _), by kernel_rfl, by kernel_rfl⟩, ⟨"coxless/bits.parseAt", Rows.laid_coxless_bits_parseAt, .tail _ (.tail _ (.head _)), by kernel_rfl, by kernel_rfl⟩, trivial⟩

theorem encMoves_walk (a0 : Int) (w0 : IntKind.min .u8 ≤ a0 ∧ a0 ≤ IntKind.max .u8) (a1 : Int) (w1 : IntKind.min .u8 ≤ a1 ∧ a1 ≤ IntKind.max .u8) (a2 : Int) (w2 : IntKind.min .u8 ≤ a2 ∧ a2 ≤ IntKind.max .u8) (a3 : Int) (w3 : IntKind.min .u8 ≤ a3 ∧ a3 ≤ IntKind.max .u8) (a4 : Int) (w4 : IntKind.min .u8 ≤ a4 ∧ a4 ≤ IntKind.max .u8) (a5 : Int) (w5 : IntKind.min .u8 ≤ a5 ∧ a5 ≤ IntKind.max .u8) (a6 : Int) (w6 : IntKind.min .u8 ≤ a6 ∧ a6 ≤ IntKind.max .u8) (a7 : Bool) (a8 : Bool) (a9 : Int) (w9 : IntKind.min .u16 ≤ a9 ∧ a9 ≤ IntKind.max .u16) (a10 : Int) (w10 : IntKind.min .i64 ≤ a10 ∧ a10 ≤ IntKind.max .i64) (a11 : Int) (w11 : IntKind.min .u32 ≤ a11 ∧ a11 ≤ IntKind.max .u32) (a12 : Int) (w12 : IntKind.min .u32 ≤ a12 ∧ a12 ≤ IntKind.max .u32) (w : World) (hL : laidMetH Tryd.prog Rows.encMovesRow.laid w) : Calls Tryd.prog 4 #[.agg #[.int .u8 a0, .int .u8 a1, .int .u8 a2, .int .u8 a3, .int .u8 a4, .int .u8 a5, .int .u8 a6, .bool a7, .bool a8, .int .u16 a9, .int .i64 a10], .int .u32 a11, .int .u32 a12] w fun e w' => e = .returned (.bool true) ∧ Below w.heap.size w w' := by
  have hf : FactsOk ⟨fun i => [a0, a1, a2, a3, a4, a5, a6, 0, 0, a9, a10, a11, a12].getD i 0, fun i => [false, false, false, false, false, false, false, a7, a8, false, false, false, false].getD i false, fun i => [ByteArray.empty, ByteArray.empty, ByteArray.empty, ByteArray.empty, ByteArray.empty, ByteArray.empty, ByteArray.empty, ByteArray.empty, ByteArray.empty, ByteArray.empty, ByteArray.empty, ByteArray.empty, ByteArray.empty].getD i ByteArray.empty, FF0⟩ encMoves_facts := by
    intro p hp
    simp only [encMoves_facts, List.mem_cons, List.not_mem_nil, or_false] at hp
    rcases hp with rfl | rfl | rfl | rfl | rfl | rfl | rfl | rfl | rfl | rfl | rfl | rfl | rfl | rfl | rfl | rfl | rfl | rfl | rfl | rfl | rfl | rfl
    · exact decide_eq_true w0.1
    · exact decide_eq_true w0.2
    · exact decide_eq_true w1.1
    · exact decide_eq_true w1.2
    · exact decide_eq_true w2.1
    · exact decide_eq_true w2.2
    · exact decide_eq_true w3.1
    · exact decide_eq_true w3.2
    · exact decide_eq_true w4.1
    · exact decide_eq_true w4.2
    · exact decide_eq_true w5.1
    · exact decide_eq_true w5.2
    · exact decide_eq_true w6.1
    · exact decide_eq_true w6.2
    · exact decide_eq_true w9.1
    · exact decide_eq_true w9.2
    · exact decide_eq_true w10.1
    · exact decide_eq_true w10.2
    · exact decide_eq_true w11.1
    · exact decide_eq_true w11.2
    · exact decide_eq_true w12.1
    · exact decide_eq_true w12.2
  refine walk_laid_of (C := CX06) (encMoves_calls hf) rfl encMoves_glob (by kernel_rfl) w (fun ob => ?_) hL
  refine ⟨rfl, fun i a v hi hv => ?_⟩
  match i, hi, hv with
  | 0, hi, hv =>
    obtain rfl := Option.some.inj hi
    obtain rfl := Option.some.inj hv
    exact relA_scs _ _ _ #[.int .u8 a0, .int .u8 a1, .int .u8 a2, .int .u8 a3, .int .u8 a4, .int .u8 a5, .int .u8 a6, .bool a7, .bool a8, .int .u16 a9, .int .i64 a10]
  | 1, hi, hv =>
    obtain rfl := Option.some.inj hi
    obtain rfl := Option.some.inj hv
    exact .of_sc _ _ _ _
  | 2, hi, hv =>
    obtain rfl := Option.some.inj hi
    obtain rfl := Option.some.inj hv
    exact .of_sc _ _ _ _
  | k + 3, hi, _ => simp [concs, encMoves_args] at hi
end Go.Proofs.YtgpijioodocplaaDoor
