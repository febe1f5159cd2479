/- Small instructions: of any number, of any instruction, by plain functions. -/
import Derived.Test.YthabafmieebmmaaDoorKnS07A
import Derived.Test.YthabafmieebmmaaDoorKnS07B
import Derived.Test.YthabafmieebmmaaDoorKnS07C
import Derived.Test.YthabafmieebmmaaDoorKnS07D
import Derived.Test.YthabafmieebmmaaDoorKnS07E
import Derived.Test.YthabafmieebmmaaDoorKnS07P
import Derived.Test.YthabafmieebmmaaDoorSyHoare
set_option linter.unusedVariables false
set_option linter.unusedSimpArgs false
set_option maxRecDepth 100000
namespace Go.Proofs.YthabafmieebmmaaDoor
open Go Go.RowKit

abbrev u8v (n : Int) : AV := .tc (.sc (.int .u8 n))
def inV (i : I7) : AV := .agg [u8v i.op, u8v i.d, u8v i.s, u8v i.t, u8v 0, u8v 0, u8v 0, .tc (.sc (.bool false)), .tc (.sc (.bool false)), .tc (.sc (.int .u16 0)), .tc (.sc (.int .i64 i.imm))]
def zero7 : I7 := ⟨0, 0, 0, 0, 0⟩
def inR7 (s : Int) : AV := match inst7 s with
  | some i => .tuple [inV i, .tc (.sc (.bool true))]
  | none => .tuple [inV zero7, .tc (.sc (.bool false))]
def sEnv (s : Int) : Env := ints [s / 128 % 16, s / 8 % 16, s % 8, s % 128]

theorem sEnv_ok (s : Int) : FactsOk (sEnv s) smF := by
  intro p hp
  simp only [smF, List.mem_cons, List.not_mem_nil, or_false] at hp
  rcases hp with rfl | rfl | rfl | rfl | rfl | rfl | rfl | rfl
  all_goals (refine decide_eq_true ?_; simp only [den, sEnv, ints]; first | exact (by omega : 0 ≤ s / 128 % 16) | exact (by omega : s / 128 % 16 ≤ 15) | exact (by omega : 0 ≤ s / 8 % 16) | exact (by omega : s / 8 % 16 ≤ 15) | exact (by omega : 0 ≤ s % 8) | exact (by omega : s % 8 ≤ 7) | exact (by omega : 0 ≤ s % 128) | exact (by omega : s % 128 ≤ 127))

theorem w64 {n : Int} (h0 : -9223372036854775808 ≤ n) (h1 : n ≤ 9223372036854775807) : IntKind.i64.wrap n = n := wrap_id (k := .i64) h0 h1
theorem shr_i64 (a : Int) {k : Int} {m : Nat} {d : Int} (hm : min k.toNat (IntKind.bits .i64) = m) (hd : (2 : Int) ^ m = d) : binI .shr .i64 a k = a / d := by
  have hp : (0 : Int) ≤ 2 ^ m := Int.le_of_lt (two_pos m)
  simp only [binI, hm]
  rw [Int.fdiv_eq_ediv_of_nonneg _ hp, hd]

theorem sX_den {s c : Int} (hc : s / 2048 = c) (h0 : 0 ≤ s) (h1 : s ≤ 65535) : (den (sEnv s) (sX c)).i = s := by
  have e0 : (den (sEnv s) (.var 0)).i = s / 128 % 16 := rfl
  have e1 : (den (sEnv s) (.var 1)).i = s / 8 % 16 := rfl
  have e2 : (den (sEnv s) (.var 2)).i = s % 8 := rfl
  have e3 : (den (sEnv s) (.var 3)).i = s % 128 := rfl
  unfold sX
  cases twoS c with
  | true =>
    show IntKind.i64.wrap (IntKind.i64.wrap (s / 128 % 16 * 128) + IntKind.i64.wrap (IntKind.i64.wrap (s / 8 % 16 * 8) + IntKind.i64.wrap (s % 8 + c * 2048))) = s
    rw [w64 (n := s / 128 % 16 * 128) (by omega) (by omega), w64 (n := s / 8 % 16 * 8) (by omega) (by omega), w64 (n := s % 8 + c * 2048) (by omega) (by omega), w64 (n := s / 8 % 16 * 8 + (s % 8 + c * 2048)) (by omega) (by omega), w64 (by omega) (by omega)]
    omega
  | false =>
    show IntKind.i64.wrap (IntKind.i64.wrap (s / 128 % 16 * 128) + IntKind.i64.wrap (s % 128 + c * 2048)) = s
    rw [w64 (n := s / 128 % 16 * 128) (by omega) (by omega), w64 (n := s % 128 + c * 2048) (by omega) (by omega), w64 (by omega) (by omega)]
    omega

theorem den_great {ρ : Env} {e : Sx} (h0 : 0 ≤ (den ρ e).i) (h1 : (den ρ e).i ≤ 15) : (den ρ (greatE e)).i = gr (den ρ e).i := by
  show IntKind.i64.wrap ((den ρ e).i + IntKind.i64.wrap (binI .shr .i64 (den ρ e).i 3 * 8)) = _
  rw [shr_i64 (m := 3) (d := 8) _ (by decide) (by decide), w64 (n := (den ρ e).i / 8 * 8) (by omega) (by omega), w64 (by omega) (by omega)]
  rfl

theorem den_small {ρ : Env} {e : Sx} (h0 : 0 ≤ (den ρ e).i) (h1 : (den ρ e).i ≤ 255) : (den ρ (smallE e)).i = sm (den ρ e).i := by
  show IntKind.i64.wrap ((den ρ e).i + IntKind.i64.wrap (binI .shr .i64 (den ρ e).i 4 * (-8))) = _
  rw [shr_i64 (m := 4) (d := 16) _ (by decide) (by decide), w64 (n := (den ρ e).i / 16 * (-8)) (by omega) (by omega), w64 (by omega) (by omega)]
  unfold sm
  omega

theorem subR7_0 {s : Int} (hc : s / 2048 = 0) : outV (sEnv s) (subI 0) = some (inR7 s) := by
  simp only [inR7, inst7, hc, Int.reduceEq, if_false]
  rfl
theorem subR7_1 {s : Int} (hc : s / 2048 = 1) : outV (sEnv s) (subI 1) = some (inR7 s) := by
  have e0 : (den (sEnv s) (greatE (.var 0))).i = gr (s / 128 % 16) := den_great (e := .var 0) (by show 0 ≤ s / 128 % 16; omega) (by show s / 128 % 16 ≤ 15; omega)
  have e1 : (den (sEnv s) (greatE (.var 1))).i = gr (s / 8 % 16) := den_great (e := .var 1) (by show 0 ≤ s / 8 % 16; omega) (by show s / 8 % 16 ≤ 15; omega)
  have e2 : (den (sEnv s) (mulE (.var 2) 4)).i = s % 8 * 4 := w64 (n := s % 8 * 4) (by omega) (by omega)
  show some (conc (sEnv s) (yesI (subA 1))) = _
  simp only [inR7, inst7, hc, Int.reduceEq, if_false, if_true, subI, subA, yesI, inA, inV, outV, conc, concs, concT, STy.val, e0, e1, e2]
  rfl
theorem subR7_2 {s : Int} (hc : s / 2048 = 2) : outV (sEnv s) (subI 2) = some (inR7 s) := by
  have e0 : (den (sEnv s) (greatE (.var 0))).i = gr (s / 128 % 16) := den_great (e := .var 0) (by show 0 ≤ s / 128 % 16; omega) (by show s / 128 % 16 ≤ 15; omega)
  have e1 : (den (sEnv s) (greatE (.var 1))).i = gr (s / 8 % 16) := den_great (e := .var 1) (by show 0 ≤ s / 8 % 16; omega) (by show s / 8 % 16 ≤ 15; omega)
  have e2 : (den (sEnv s) (mulE (.var 2) 4)).i = s % 8 * 4 := w64 (n := s % 8 * 4) (by omega) (by omega)
  have e3 : (den (sEnv s) (addE (.var 3) (mulE (.bin .shr .i64 (.var 3) (.lit 6)) (-128)))).i = s % 128 - s % 128 / 64 * 128 := by
    show IntKind.i64.wrap (s % 128 + IntKind.i64.wrap (binI .shr .i64 (s % 128) 6 * (-128))) = _
    rw [shr_i64 (m := 6) (d := 64) _ (by decide) (by decide), w64 (n := s % 128 / 64 * (-128)) (by omega) (by omega), w64 (by omega) (by omega)]
    omega
  show some (conc (sEnv s) (yesI (subA 2))) = _
  simp only [inR7, inst7, hc, Int.reduceEq, if_false, if_true, subI, subA, yesI, inA, inV, outV, conc, concs, concT, STy.val, e0, e1, e2, e3]
  rfl
theorem subR7_3 {s : Int} (hc : s / 2048 = 3) : outV (sEnv s) (subI 3) = some (inR7 s) := by
  have e0 : (den (sEnv s) (greatE (.var 0))).i = gr (s / 128 % 16) := den_great (e := .var 0) (by show 0 ≤ s / 128 % 16; omega) (by show s / 128 % 16 ≤ 15; omega)
  have e1 : (den (sEnv s) (greatE (.var 1))).i = gr (s / 8 % 16) := den_great (e := .var 1) (by show 0 ≤ s / 8 % 16; omega) (by show s / 8 % 16 ≤ 15; omega)
  have e2 : (den (sEnv s) (mulE (.var 2) 4)).i = s % 8 * 4 := w64 (n := s % 8 * 4) (by omega) (by omega)
  by_cases h8 : s % 8 = 0
  · have hb : (den (sEnv s) (.cmp .eql (.var 2) (.lit 0))).b = true := by show (s % 8 == 0) = true; simpa using h8
    show cond (den (sEnv s) (.cmp .eql (.var 2) (.lit 0))).b (some (conc (sEnv s) (yesI (subA 3)))) _ = _
    rw [hb, cond_true]
    simp only [h8, inR7, inst7, hc, Int.reduceEq, if_false, if_true, subI, subA, yesI, inA, inV, outV, conc, concs, concT, STy.val, e0, e1, e2]
    rfl
  · have hb : (den (sEnv s) (.cmp .eql (.var 2) (.lit 0))).b = false := by show (s % 8 == 0) = false; simpa using h8
    show cond (den (sEnv s) (.cmp .eql (.var 2) (.lit 0))).b _ (some (conc (sEnv s) zeroI)) = _
    rw [hb, _root_.cond_false]
    simp only [inR7, inst7, hc, Int.reduceEq, if_false, if_true, h8]
    rfl
theorem subR7_4 {s : Int} (hc : s / 2048 = 4) : outV (sEnv s) (subI 4) = some (inR7 s) := by
  have e0 : (den (sEnv s) (greatE (.var 0))).i = gr (s / 128 % 16) := den_great (e := .var 0) (by show 0 ≤ s / 128 % 16; omega) (by show s / 128 % 16 ≤ 15; omega)
  have e1 : (den (sEnv s) (greatE (.var 1))).i = gr (s / 8 % 16) := den_great (e := .var 1) (by show 0 ≤ s / 8 % 16; omega) (by show s / 8 % 16 ≤ 15; omega)
  have e2 : (den (sEnv s) (mulE (.var 2) 4)).i = s % 8 * 4 := w64 (n := s % 8 * 4) (by omega) (by omega)
  by_cases h8 : s % 8 = 0
  · have hb : (den (sEnv s) (.cmp .eql (.var 2) (.lit 0))).b = true := by show (s % 8 == 0) = true; simpa using h8
    show cond (den (sEnv s) (.cmp .eql (.var 2) (.lit 0))).b (some (conc (sEnv s) (yesI (subA 4)))) _ = _
    rw [hb, cond_true]
    simp only [h8, inR7, inst7, hc, Int.reduceEq, if_false, if_true, subI, subA, yesI, inA, inV, outV, conc, concs, concT, STy.val, e0, e1, e2]
    rfl
  · have hb : (den (sEnv s) (.cmp .eql (.var 2) (.lit 0))).b = false := by show (s % 8 == 0) = false; simpa using h8
    show cond (den (sEnv s) (.cmp .eql (.var 2) (.lit 0))).b _ (some (conc (sEnv s) zeroI)) = _
    rw [hb, _root_.cond_false]
    simp only [inR7, inst7, hc, Int.reduceEq, if_false, if_true, h8]
    rfl
theorem subR7_5 {s : Int} (hc : s / 2048 = 5) : outV (sEnv s) (subI 5) = some (inR7 s) := by
  have e0 : (den (sEnv s) (greatE (.var 0))).i = gr (s / 128 % 16) := den_great (e := .var 0) (by show 0 ≤ s / 128 % 16; omega) (by show s / 128 % 16 ≤ 15; omega)
  have e1 : (den (sEnv s) (greatE (.var 1))).i = gr (s / 8 % 16) := den_great (e := .var 1) (by show 0 ≤ s / 8 % 16; omega) (by show s / 8 % 16 ≤ 15; omega)
  have e2 : (den (sEnv s) (mulE (.var 2) 4)).i = s % 8 * 4 := w64 (n := s % 8 * 4) (by omega) (by omega)
  show some (conc (sEnv s) (yesI (subA 5))) = _
  simp only [inR7, inst7, hc, Int.reduceEq, if_false, if_true, subI, subA, yesI, inA, inV, outV, conc, concs, concT, STy.val, e0, e1, e2]
  rfl
theorem subR7_6 {s : Int} (hc : s / 2048 = 6) : outV (sEnv s) (subI 6) = some (inR7 s) := by
  have e0 : (den (sEnv s) (greatE (.var 0))).i = gr (s / 128 % 16) := den_great (e := .var 0) (by show 0 ≤ s / 128 % 16; omega) (by show s / 128 % 16 ≤ 15; omega)
  have e1 : (den (sEnv s) (greatE (.var 1))).i = gr (s / 8 % 16) := den_great (e := .var 1) (by show 0 ≤ s / 8 % 16; omega) (by show s / 8 % 16 ≤ 15; omega)
  have e2 : (den (sEnv s) (mulE (.var 2) 4)).i = s % 8 * 4 := w64 (n := s % 8 * 4) (by omega) (by omega)
  show some (conc (sEnv s) (yesI (subA 6))) = _
  simp only [inR7, inst7, hc, Int.reduceEq, if_false, if_true, subI, subA, yesI, inA, inV, outV, conc, concs, concT, STy.val, e0, e1, e2]
  rfl
theorem subR7_7 {s : Int} (hc : s / 2048 = 7) : outV (sEnv s) (subI 7) = some (inR7 s) := by
  have e0 : (den (sEnv s) (greatE (.var 0))).i = gr (s / 128 % 16) := den_great (e := .var 0) (by show 0 ≤ s / 128 % 16; omega) (by show s / 128 % 16 ≤ 15; omega)
  have e1 : (den (sEnv s) (greatE (.var 1))).i = gr (s / 8 % 16) := den_great (e := .var 1) (by show 0 ≤ s / 8 % 16; omega) (by show s / 8 % 16 ≤ 15; omega)
  have e2 : (den (sEnv s) (mulE (.var 2) 4)).i = s % 8 * 4 := w64 (n := s % 8 * 4) (by omega) (by omega)
  show some (conc (sEnv s) (yesI (subA 7))) = _
  simp only [inR7, inst7, hc, Int.reduceEq, if_false, if_true, subI, subA, yesI, inA, inV, outV, conc, concs, concT, STy.val, e0, e1, e2]
  rfl
theorem subR7_8 {s : Int} (hc : s / 2048 = 8) : outV (sEnv s) (subI 8) = some (inR7 s) := by
  have e0 : (den (sEnv s) (greatE (.var 0))).i = gr (s / 128 % 16) := den_great (e := .var 0) (by show 0 ≤ s / 128 % 16; omega) (by show s / 128 % 16 ≤ 15; omega)
  have e1 : (den (sEnv s) (greatE (.var 1))).i = gr (s / 8 % 16) := den_great (e := .var 1) (by show 0 ≤ s / 8 % 16; omega) (by show s / 8 % 16 ≤ 15; omega)
  have e2 : (den (sEnv s) (mulE (.var 2) 4)).i = s % 8 * 4 := w64 (n := s % 8 * 4) (by omega) (by omega)
  show some (conc (sEnv s) (yesI (subA 8))) = _
  simp only [inR7, inst7, hc, Int.reduceEq, if_false, if_true, subI, subA, yesI, inA, inV, outV, conc, concs, concT, STy.val, e0, e1, e2]
  rfl
theorem subR7_9 {s : Int} (hc : s / 2048 = 9) : outV (sEnv s) (subI 9) = some (inR7 s) := by
  have e0 : (den (sEnv s) (greatE (.var 0))).i = gr (s / 128 % 16) := den_great (e := .var 0) (by show 0 ≤ s / 128 % 16; omega) (by show s / 128 % 16 ≤ 15; omega)
  have e1 : (den (sEnv s) (greatE (.var 1))).i = gr (s / 8 % 16) := den_great (e := .var 1) (by show 0 ≤ s / 8 % 16; omega) (by show s / 8 % 16 ≤ 15; omega)
  have e2 : (den (sEnv s) (mulE (.var 2) 4)).i = s % 8 * 4 := w64 (n := s % 8 * 4) (by omega) (by omega)
  show some (conc (sEnv s) (yesI (subA 9))) = _
  simp only [inR7, inst7, hc, Int.reduceEq, if_false, if_true, subI, subA, yesI, inA, inV, outV, conc, concs, concT, STy.val, e0, e1, e2]
  rfl
theorem subR7_10 {s : Int} (hc : s / 2048 = 10) : outV (sEnv s) (subI 10) = some (inR7 s) := by
  simp only [inR7, inst7, hc, Int.reduceEq, if_false]
  rfl
theorem subR7_11 {s : Int} (hc : s / 2048 = 11) : outV (sEnv s) (subI 11) = some (inR7 s) := by
  simp only [inR7, inst7, hc, Int.reduceEq, if_false]
  rfl
theorem subR7_12 {s : Int} (hc : s / 2048 = 12) : outV (sEnv s) (subI 12) = some (inR7 s) := by
  simp only [inR7, inst7, hc, Int.reduceEq, if_false]
  rfl
theorem subR7_13 {s : Int} (hc : s / 2048 = 13) : outV (sEnv s) (subI 13) = some (inR7 s) := by
  simp only [inR7, inst7, hc, Int.reduceEq, if_false]
  rfl
theorem subR7_14 {s : Int} (hc : s / 2048 = 14) : outV (sEnv s) (subI 14) = some (inR7 s) := by
  simp only [inR7, inst7, hc, Int.reduceEq, if_false]
  rfl
theorem subR7_15 {s : Int} (hc : s / 2048 = 15) : outV (sEnv s) (subI 15) = some (inR7 s) := by
  simp only [inR7, inst7, hc, Int.reduceEq, if_false]
  rfl
theorem subR7_16 {s : Int} (hc : s / 2048 = 16) : outV (sEnv s) (subI 16) = some (inR7 s) := by
  simp only [inR7, inst7, hc, Int.reduceEq, if_false]
  rfl
theorem subR7_17 {s : Int} (hc : s / 2048 = 17) : outV (sEnv s) (subI 17) = some (inR7 s) := by
  simp only [inR7, inst7, hc, Int.reduceEq, if_false]
  rfl
theorem subR7_18 {s : Int} (hc : s / 2048 = 18) : outV (sEnv s) (subI 18) = some (inR7 s) := by
  simp only [inR7, inst7, hc, Int.reduceEq, if_false]
  rfl
theorem subR7_19 {s : Int} (hc : s / 2048 = 19) : outV (sEnv s) (subI 19) = some (inR7 s) := by
  simp only [inR7, inst7, hc, Int.reduceEq, if_false]
  rfl
theorem subR7_20 {s : Int} (hc : s / 2048 = 20) : outV (sEnv s) (subI 20) = some (inR7 s) := by
  simp only [inR7, inst7, hc, Int.reduceEq, if_false]
  rfl
theorem subR7_21 {s : Int} (hc : s / 2048 = 21) : outV (sEnv s) (subI 21) = some (inR7 s) := by
  simp only [inR7, inst7, hc, Int.reduceEq, if_false]
  rfl
theorem subR7_22 {s : Int} (hc : s / 2048 = 22) : outV (sEnv s) (subI 22) = some (inR7 s) := by
  simp only [inR7, inst7, hc, Int.reduceEq, if_false]
  rfl
theorem subR7_23 {s : Int} (hc : s / 2048 = 23) : outV (sEnv s) (subI 23) = some (inR7 s) := by
  simp only [inR7, inst7, hc, Int.reduceEq, if_false]
  rfl
theorem subR7_24 {s : Int} (hc : s / 2048 = 24) : outV (sEnv s) (subI 24) = some (inR7 s) := by
  simp only [inR7, inst7, hc, Int.reduceEq, if_false]
  rfl
theorem subR7_25 {s : Int} (hc : s / 2048 = 25) : outV (sEnv s) (subI 25) = some (inR7 s) := by
  simp only [inR7, inst7, hc, Int.reduceEq, if_false]
  rfl
theorem subR7_26 {s : Int} (hc : s / 2048 = 26) : outV (sEnv s) (subI 26) = some (inR7 s) := by
  simp only [inR7, inst7, hc, Int.reduceEq, if_false]
  rfl
theorem subR7_27 {s : Int} (hc : s / 2048 = 27) : outV (sEnv s) (subI 27) = some (inR7 s) := by
  simp only [inR7, inst7, hc, Int.reduceEq, if_false]
  rfl
theorem subR7_28 {s : Int} (hc : s / 2048 = 28) : outV (sEnv s) (subI 28) = some (inR7 s) := by
  simp only [inR7, inst7, hc, Int.reduceEq, if_false]
  rfl
theorem subR7_29 {s : Int} (hc : s / 2048 = 29) : outV (sEnv s) (subI 29) = some (inR7 s) := by
  simp only [inR7, inst7, hc, Int.reduceEq, if_false]
  rfl
theorem subR7_30 {s : Int} (hc : s / 2048 = 30) : outV (sEnv s) (subI 30) = some (inR7 s) := by
  simp only [inR7, inst7, hc, Int.reduceEq, if_false]
  rfl
theorem subR7_31 {s : Int} (hc : s / 2048 = 31) : outV (sEnv s) (subI 31) = some (inR7 s) := by
  simp only [inR7, inst7, hc, Int.reduceEq, if_false]
  rfl

theorem sub_inst {s : Int} (h0 : 0 ≤ s) (h1 : s ≤ 65535) : CallsTo CA07 19 [.tc (.sc (.int .u16 s))] (inR7 s) ∧ CallsTo CA07 20 [.tc (.sc (.int .i64 s))] (inR7 s) := by
  have key : ∀ c : Int, s / 2048 = c → outV (sEnv s) (subI c) = some (inR7 s) → RunsTo (CR07 smF) 24 smF 19 [.tc (.sy (.int .u16) (sX c))] (subI c) → RunsTo (CR07 smF) 24 smF 20 [.tc (.sy (.int .i64) (sX c))] (subI c) →
      CallsTo CA07 19 [.tc (.sc (.int .u16 s))] (inR7 s) ∧ CallsTo CA07 20 [.tc (.sc (.int .i64 s))] (inR7 s) := fun c hc ho r1 r2 => by
    have e := sX_den hc h0 h1
    have q1 : concs (sEnv s) [.tc (.sy (.int .u16) (sX c))] = [.tc (.sc (.int .u16 s))] := by simp only [concs, conc, concT, STy.val, e]
    have q2 : concs (sEnv s) [.tc (.sy (.int .i64) (sX c))] = [.tc (.sc (.int .i64 s))] := by simp only [concs, conc, concT, STy.val, e]
    have c1 := r1.calls (CR07_ok (sEnv_ok s)) (sEnv_ok s) ho
    have c2 := r2.calls (CR07_ok (sEnv_ok s)) (sEnv_ok s) ho
    rw [q1] at c1
    rw [q2] at c2
    exact ⟨c1.of rfl rfl, c2.of rfl rfl⟩
  have h : s / 2048 = 0 ∨ s / 2048 = 1 ∨ s / 2048 = 2 ∨ s / 2048 = 3 ∨ s / 2048 = 4 ∨ s / 2048 = 5 ∨ s / 2048 = 6 ∨ s / 2048 = 7 ∨ s / 2048 = 8 ∨ s / 2048 = 9 ∨ s / 2048 = 10 ∨ s / 2048 = 11 ∨ s / 2048 = 12 ∨ s / 2048 = 13 ∨ s / 2048 = 14 ∨ s / 2048 = 15 ∨ s / 2048 = 16 ∨ s / 2048 = 17 ∨ s / 2048 = 18 ∨ s / 2048 = 19 ∨ s / 2048 = 20 ∨ s / 2048 = 21 ∨ s / 2048 = 22 ∨ s / 2048 = 23 ∨ s / 2048 = 24 ∨ s / 2048 = 25 ∨ s / 2048 = 26 ∨ s / 2048 = 27 ∨ s / 2048 = 28 ∨ s / 2048 = 29 ∨ s / 2048 = 30 ∨ s / 2048 = 31 := by omega
  rcases h with h | h | h | h | h | h | h | h | h | h | h | h | h | h | h | h | h | h | h | h | h | h | h | h | h | h | h | h | h | h | h | h
  · exact key 0 h (subR7_0 h) subI_run0 subJ_run0
  · exact key 1 h (subR7_1 h) subI_run1 subJ_run1
  · exact key 2 h (subR7_2 h) subI_run2 subJ_run2
  · exact key 3 h (subR7_3 h) subI_run3 subJ_run3
  · exact key 4 h (subR7_4 h) subI_run4 subJ_run4
  · exact key 5 h (subR7_5 h) subI_run5 subJ_run5
  · exact key 6 h (subR7_6 h) subI_run6 subJ_run6
  · exact key 7 h (subR7_7 h) subI_run7 subJ_run7
  · exact key 8 h (subR7_8 h) subI_run8 subJ_run8
  · exact key 9 h (subR7_9 h) subI_run9 subJ_run9
  · exact key 10 h (subR7_10 h) subI_run10 subJ_run10
  · exact key 11 h (subR7_11 h) subI_run11 subJ_run11
  · exact key 12 h (subR7_12 h) subI_run12 subJ_run12
  · exact key 13 h (subR7_13 h) subI_run13 subJ_run13
  · exact key 14 h (subR7_14 h) subI_run14 subJ_run14
  · exact key 15 h (subR7_15 h) subI_run15 subJ_run15
  · exact key 16 h (subR7_16 h) subI_run16 subJ_run16
  · exact key 17 h (subR7_17 h) subI_run17 subJ_run17
  · exact key 18 h (subR7_18 h) subI_run18 subJ_run18
  · exact key 19 h (subR7_19 h) subI_run19 subJ_run19
  · exact key 20 h (subR7_20 h) subI_run20 subJ_run20
  · exact key 21 h (subR7_21 h) subI_run21 subJ_run21
  · exact key 22 h (subR7_22 h) subI_run22 subJ_run22
  · exact key 23 h (subR7_23 h) subI_run23 subJ_run23
  · exact key 24 h (subR7_24 h) subI_run24 subJ_run24
  · exact key 25 h (subR7_25 h) subI_run25 subJ_run25
  · exact key 26 h (subR7_26 h) subI_run26 subJ_run26
  · exact key 27 h (subR7_27 h) subI_run27 subJ_run27
  · exact key 28 h (subR7_28 h) subI_run28 subJ_run28
  · exact key 29 h (subR7_29 h) subI_run29 subJ_run29
  · exact key 30 h (subR7_30 h) subI_run30 subJ_run30
  · exact key 31 h (subR7_31 h) subI_run31 subJ_run31

theorem den_u8 {n : Int} (ρ : Env) : conc ρ (u8v n) = u8v n := rfl

end Go.Proofs.YthabafmieebmmaaDoor
