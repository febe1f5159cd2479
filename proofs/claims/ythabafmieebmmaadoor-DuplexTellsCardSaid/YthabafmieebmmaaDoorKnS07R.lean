/- Small instructions: they are right; the way back. -/
import Derived.Test.YthabafmieebmmaaDoorKnS07O
set_option linter.unusedVariables false
set_option linter.unusedSimpArgs false
set_option maxRecDepth 100000
namespace Go.Proofs.YthabafmieebmmaaDoor
open Go Go.RowKit

theorem subA7_1 {s : Int} {i : I7} (hc : s / 2048 = 1) (h : inst7 s = some i) : conc (sEnv s) (subA 1) = inV i := by
  have e0 : (den (sEnv s) (greatE (.var 0))).i = gr (s / 128 % 16) := den_great (e := .var 0) (by show 0 ≤ s / 128 % 16; omega) (by show s / 128 % 16 ≤ 15; omega)
  have e1 : (den (sEnv s) (greatE (.var 1))).i = gr (s / 8 % 16) := den_great (e := .var 1) (by show 0 ≤ s / 8 % 16; omega) (by show s / 8 % 16 ≤ 15; omega)
  have e2 : (den (sEnv s) (mulE (.var 2) 4)).i = s % 8 * 4 := w64 (n := s % 8 * 4) (by omega) (by omega)
  simp only [inst7, hc, Int.reduceEq, if_false, if_true] at h
  obtain rfl := Option.some.inj h
  simp only [subA, inA, inV, conc, concs, concT, STy.val, e0, e1, e2]
  rfl

theorem right7_1 {s : Int} {i : I7} (hc : s / 2048 = 1) (h : inst7 s = some i) : CallsTo CA07 24 [inV i] (.sc (.bool true)) := by
  have hf := sEnv_ok s
  have e : [inV i] = concs (sEnv s) [subA 1] := by simp only [concs, subA7_1 hc h]
  rw [e]
  have c0 : s / 128 % 16 ≤ 7 ∨ 8 ≤ s / 128 % 16 := by omega
  rcases c0 with c0 | c0
  · exact ((subR_run1_0).calls (CR07_ok (FactsOk.cons (sEnv_ok s) (decide_eq_true c0))) (FactsOk.cons (sEnv_ok s) (decide_eq_true c0))).of rfl rfl
  · exact ((subR_run1_1).calls (CR07_ok (FactsOk.cons (sEnv_ok s) (decide_eq_true c0))) (FactsOk.cons (sEnv_ok s) (decide_eq_true c0))).of rfl rfl

theorem subA7_2 {s : Int} {i : I7} (hc : s / 2048 = 2) (h : inst7 s = some i) : conc (sEnv s) (subA 2) = inV i := by
  have e0 : (den (sEnv s) (greatE (.var 0))).i = gr (s / 128 % 16) := den_great (e := .var 0) (by show 0 ≤ s / 128 % 16; omega) (by show s / 128 % 16 ≤ 15; omega)
  have e1 : (den (sEnv s) (greatE (.var 1))).i = gr (s / 8 % 16) := den_great (e := .var 1) (by show 0 ≤ s / 8 % 16; omega) (by show s / 8 % 16 ≤ 15; omega)
  have e2 : (den (sEnv s) (mulE (.var 2) 4)).i = s % 8 * 4 := w64 (n := s % 8 * 4) (by omega) (by omega)
  have e3 : (den (sEnv s) (addE (.var 3) (mulE (.bin .shr .i64 (.var 3) (.lit 6)) (-128)))).i = s % 128 - s % 128 / 64 * 128 := by
    show IntKind.i64.wrap (s % 128 + IntKind.i64.wrap (binI .shr .i64 (s % 128) 6 * (-128))) = _
    rw [shr_i64 (m := 6) (d := 64) _ (by decide) (by decide), w64 (n := s % 128 / 64 * (-128)) (by omega) (by omega), w64 (by omega) (by omega)]
    omega
  simp only [inst7, hc, Int.reduceEq, if_false, if_true] at h
  obtain rfl := Option.some.inj h
  simp only [subA, inA, inV, conc, concs, concT, STy.val, e0, e1, e2, e3]
  rfl

theorem right7_2 {s : Int} {i : I7} (hc : s / 2048 = 2) (h : inst7 s = some i) : CallsTo CA07 24 [inV i] (.sc (.bool true)) := by
  have hf := sEnv_ok s
  have e : [inV i] = concs (sEnv s) [subA 2] := by simp only [concs, subA7_2 hc h]
  rw [e]
  have c0 : s / 128 % 16 ≤ 7 ∨ 8 ≤ s / 128 % 16 := by omega
  rcases c0 with c0 | c0
  · exact ((subR_run2_0).calls (CR07_ok (FactsOk.cons (sEnv_ok s) (decide_eq_true c0))) (FactsOk.cons (sEnv_ok s) (decide_eq_true c0))).of rfl rfl
  · exact ((subR_run2_1).calls (CR07_ok (FactsOk.cons (sEnv_ok s) (decide_eq_true c0))) (FactsOk.cons (sEnv_ok s) (decide_eq_true c0))).of rfl rfl

theorem subA7_3 {s : Int} {i : I7} (hc : s / 2048 = 3) (h : inst7 s = some i) : conc (sEnv s) (subA 3) = inV i := by
  have e0 : (den (sEnv s) (greatE (.var 0))).i = gr (s / 128 % 16) := den_great (e := .var 0) (by show 0 ≤ s / 128 % 16; omega) (by show s / 128 % 16 ≤ 15; omega)
  have e1 : (den (sEnv s) (greatE (.var 1))).i = gr (s / 8 % 16) := den_great (e := .var 1) (by show 0 ≤ s / 8 % 16; omega) (by show s / 8 % 16 ≤ 15; omega)
  have e2 : (den (sEnv s) (mulE (.var 2) 4)).i = s % 8 * 4 := w64 (n := s % 8 * 4) (by omega) (by omega)
  simp only [inst7, hc, Int.reduceEq, if_false, if_true] at h
  split at h
  case isFalse => cases h
  obtain rfl := Option.some.inj h
  simp only [subA, inA, inV, conc, concs, concT, STy.val, e0, e1, e2]
  rfl

theorem right7_3 {s : Int} {i : I7} (hc : s / 2048 = 3) (h : inst7 s = some i) : CallsTo CA07 24 [inV i] (.sc (.bool true)) := by
  have hf := sEnv_ok s
  have e : [inV i] = concs (sEnv s) [subA 3] := by simp only [concs, subA7_3 hc h]
  rw [e]
  have c0 : s / 128 % 16 ≤ 7 ∨ 8 ≤ s / 128 % 16 := by omega
  have c1 : s / 8 % 16 ≤ 7 ∨ 8 ≤ s / 8 % 16 := by omega
  rcases c0 with c0 | c0
  · rcases c1 with c1 | c1
    · exact ((subR_run3_0).calls (CR07_ok (FactsOk.cons (FactsOk.cons (sEnv_ok s) (decide_eq_true c1)) (decide_eq_true c0))) (FactsOk.cons (FactsOk.cons (sEnv_ok s) (decide_eq_true c1)) (decide_eq_true c0))).of rfl rfl
    · exact ((subR_run3_2).calls (CR07_ok (FactsOk.cons (FactsOk.cons (sEnv_ok s) (decide_eq_true c1)) (decide_eq_true c0))) (FactsOk.cons (FactsOk.cons (sEnv_ok s) (decide_eq_true c1)) (decide_eq_true c0))).of rfl rfl
  · rcases c1 with c1 | c1
    · exact ((subR_run3_1).calls (CR07_ok (FactsOk.cons (FactsOk.cons (sEnv_ok s) (decide_eq_true c1)) (decide_eq_true c0))) (FactsOk.cons (FactsOk.cons (sEnv_ok s) (decide_eq_true c1)) (decide_eq_true c0))).of rfl rfl
    · exact ((subR_run3_3).calls (CR07_ok (FactsOk.cons (FactsOk.cons (sEnv_ok s) (decide_eq_true c1)) (decide_eq_true c0))) (FactsOk.cons (FactsOk.cons (sEnv_ok s) (decide_eq_true c1)) (decide_eq_true c0))).of rfl rfl

theorem subA7_4 {s : Int} {i : I7} (hc : s / 2048 = 4) (h : inst7 s = some i) : conc (sEnv s) (subA 4) = inV i := by
  have e0 : (den (sEnv s) (greatE (.var 0))).i = gr (s / 128 % 16) := den_great (e := .var 0) (by show 0 ≤ s / 128 % 16; omega) (by show s / 128 % 16 ≤ 15; omega)
  have e1 : (den (sEnv s) (greatE (.var 1))).i = gr (s / 8 % 16) := den_great (e := .var 1) (by show 0 ≤ s / 8 % 16; omega) (by show s / 8 % 16 ≤ 15; omega)
  have e2 : (den (sEnv s) (mulE (.var 2) 4)).i = s % 8 * 4 := w64 (n := s % 8 * 4) (by omega) (by omega)
  simp only [inst7, hc, Int.reduceEq, if_false, if_true] at h
  split at h
  case isFalse => cases h
  obtain rfl := Option.some.inj h
  simp only [subA, inA, inV, conc, concs, concT, STy.val, e0, e1, e2]
  rfl

theorem right7_4 {s : Int} {i : I7} (hc : s / 2048 = 4) (h : inst7 s = some i) : CallsTo CA07 24 [inV i] (.sc (.bool true)) := by
  have hf := sEnv_ok s
  have e : [inV i] = concs (sEnv s) [subA 4] := by simp only [concs, subA7_4 hc h]
  rw [e]
  have c0 : s / 128 % 16 ≤ 7 ∨ 8 ≤ s / 128 % 16 := by omega
  have c1 : s / 8 % 16 ≤ 7 ∨ 8 ≤ s / 8 % 16 := by omega
  rcases c0 with c0 | c0
  · rcases c1 with c1 | c1
    · exact ((subR_run4_0).calls (CR07_ok (FactsOk.cons (FactsOk.cons (sEnv_ok s) (decide_eq_true c1)) (decide_eq_true c0))) (FactsOk.cons (FactsOk.cons (sEnv_ok s) (decide_eq_true c1)) (decide_eq_true c0))).of rfl rfl
    · exact ((subR_run4_2).calls (CR07_ok (FactsOk.cons (FactsOk.cons (sEnv_ok s) (decide_eq_true c1)) (decide_eq_true c0))) (FactsOk.cons (FactsOk.cons (sEnv_ok s) (decide_eq_true c1)) (decide_eq_true c0))).of rfl rfl
  · rcases c1 with c1 | c1
    · exact ((subR_run4_1).calls (CR07_ok (FactsOk.cons (FactsOk.cons (sEnv_ok s) (decide_eq_true c1)) (decide_eq_true c0))) (FactsOk.cons (FactsOk.cons (sEnv_ok s) (decide_eq_true c1)) (decide_eq_true c0))).of rfl rfl
    · exact ((subR_run4_3).calls (CR07_ok (FactsOk.cons (FactsOk.cons (sEnv_ok s) (decide_eq_true c1)) (decide_eq_true c0))) (FactsOk.cons (FactsOk.cons (sEnv_ok s) (decide_eq_true c1)) (decide_eq_true c0))).of rfl rfl

theorem subA7_5 {s : Int} {i : I7} (hc : s / 2048 = 5) (h : inst7 s = some i) : conc (sEnv s) (subA 5) = inV i := by
  have e0 : (den (sEnv s) (greatE (.var 0))).i = gr (s / 128 % 16) := den_great (e := .var 0) (by show 0 ≤ s / 128 % 16; omega) (by show s / 128 % 16 ≤ 15; omega)
  have e1 : (den (sEnv s) (greatE (.var 1))).i = gr (s / 8 % 16) := den_great (e := .var 1) (by show 0 ≤ s / 8 % 16; omega) (by show s / 8 % 16 ≤ 15; omega)
  have e2 : (den (sEnv s) (mulE (.var 2) 4)).i = s % 8 * 4 := w64 (n := s % 8 * 4) (by omega) (by omega)
  simp only [inst7, hc, Int.reduceEq, if_false, if_true] at h
  obtain rfl := Option.some.inj h
  simp only [subA, inA, inV, conc, concs, concT, STy.val, e0, e1, e2]
  rfl

theorem right7_5 {s : Int} {i : I7} (hc : s / 2048 = 5) (h : inst7 s = some i) : CallsTo CA07 24 [inV i] (.sc (.bool true)) := by
  have hf := sEnv_ok s
  have e : [inV i] = concs (sEnv s) [subA 5] := by simp only [concs, subA7_5 hc h]
  rw [e]
  have c0 : s / 128 % 16 ≤ 7 ∨ 8 ≤ s / 128 % 16 := by omega
  have c1 : s / 8 % 16 ≤ 7 ∨ 8 ≤ s / 8 % 16 := by omega
  rcases c0 with c0 | c0
  · rcases c1 with c1 | c1
    · exact ((subR_run5_0).calls (CR07_ok (FactsOk.cons (FactsOk.cons (sEnv_ok s) (decide_eq_true c1)) (decide_eq_true c0))) (FactsOk.cons (FactsOk.cons (sEnv_ok s) (decide_eq_true c1)) (decide_eq_true c0))).of rfl rfl
    · exact ((subR_run5_2).calls (CR07_ok (FactsOk.cons (FactsOk.cons (sEnv_ok s) (decide_eq_true c1)) (decide_eq_true c0))) (FactsOk.cons (FactsOk.cons (sEnv_ok s) (decide_eq_true c1)) (decide_eq_true c0))).of rfl rfl
  · rcases c1 with c1 | c1
    · exact ((subR_run5_1).calls (CR07_ok (FactsOk.cons (FactsOk.cons (sEnv_ok s) (decide_eq_true c1)) (decide_eq_true c0))) (FactsOk.cons (FactsOk.cons (sEnv_ok s) (decide_eq_true c1)) (decide_eq_true c0))).of rfl rfl
    · exact ((subR_run5_3).calls (CR07_ok (FactsOk.cons (FactsOk.cons (sEnv_ok s) (decide_eq_true c1)) (decide_eq_true c0))) (FactsOk.cons (FactsOk.cons (sEnv_ok s) (decide_eq_true c1)) (decide_eq_true c0))).of rfl rfl

theorem subA7_6 {s : Int} {i : I7} (hc : s / 2048 = 6) (h : inst7 s = some i) : conc (sEnv s) (subA 6) = inV i := by
  have e0 : (den (sEnv s) (greatE (.var 0))).i = gr (s / 128 % 16) := den_great (e := .var 0) (by show 0 ≤ s / 128 % 16; omega) (by show s / 128 % 16 ≤ 15; omega)
  have e1 : (den (sEnv s) (greatE (.var 1))).i = gr (s / 8 % 16) := den_great (e := .var 1) (by show 0 ≤ s / 8 % 16; omega) (by show s / 8 % 16 ≤ 15; omega)
  have e2 : (den (sEnv s) (mulE (.var 2) 4)).i = s % 8 * 4 := w64 (n := s % 8 * 4) (by omega) (by omega)
  simp only [inst7, hc, Int.reduceEq, if_false, if_true] at h
  obtain rfl := Option.some.inj h
  simp only [subA, inA, inV, conc, concs, concT, STy.val, e0, e1, e2]
  rfl

theorem right7_6 {s : Int} {i : I7} (hc : s / 2048 = 6) (h : inst7 s = some i) : CallsTo CA07 24 [inV i] (.sc (.bool true)) := by
  have hf := sEnv_ok s
  have e : [inV i] = concs (sEnv s) [subA 6] := by simp only [concs, subA7_6 hc h]
  rw [e]
  have c0 : s / 128 % 16 ≤ 7 ∨ 8 ≤ s / 128 % 16 := by omega
  have c1 : s / 8 % 16 ≤ 7 ∨ 8 ≤ s / 8 % 16 := by omega
  rcases c0 with c0 | c0
  · rcases c1 with c1 | c1
    · exact ((subR_run6_0).calls (CR07_ok (FactsOk.cons (FactsOk.cons (sEnv_ok s) (decide_eq_true c1)) (decide_eq_true c0))) (FactsOk.cons (FactsOk.cons (sEnv_ok s) (decide_eq_true c1)) (decide_eq_true c0))).of rfl rfl
    · exact ((subR_run6_2).calls (CR07_ok (FactsOk.cons (FactsOk.cons (sEnv_ok s) (decide_eq_true c1)) (decide_eq_true c0))) (FactsOk.cons (FactsOk.cons (sEnv_ok s) (decide_eq_true c1)) (decide_eq_true c0))).of rfl rfl
  · rcases c1 with c1 | c1
    · exact ((subR_run6_1).calls (CR07_ok (FactsOk.cons (FactsOk.cons (sEnv_ok s) (decide_eq_true c1)) (decide_eq_true c0))) (FactsOk.cons (FactsOk.cons (sEnv_ok s) (decide_eq_true c1)) (decide_eq_true c0))).of rfl rfl
    · exact ((subR_run6_3).calls (CR07_ok (FactsOk.cons (FactsOk.cons (sEnv_ok s) (decide_eq_true c1)) (decide_eq_true c0))) (FactsOk.cons (FactsOk.cons (sEnv_ok s) (decide_eq_true c1)) (decide_eq_true c0))).of rfl rfl

theorem subA7_7 {s : Int} {i : I7} (hc : s / 2048 = 7) (h : inst7 s = some i) : conc (sEnv s) (subA 7) = inV i := by
  have e0 : (den (sEnv s) (greatE (.var 0))).i = gr (s / 128 % 16) := den_great (e := .var 0) (by show 0 ≤ s / 128 % 16; omega) (by show s / 128 % 16 ≤ 15; omega)
  have e1 : (den (sEnv s) (greatE (.var 1))).i = gr (s / 8 % 16) := den_great (e := .var 1) (by show 0 ≤ s / 8 % 16; omega) (by show s / 8 % 16 ≤ 15; omega)
  have e2 : (den (sEnv s) (mulE (.var 2) 4)).i = s % 8 * 4 := w64 (n := s % 8 * 4) (by omega) (by omega)
  simp only [inst7, hc, Int.reduceEq, if_false, if_true] at h
  obtain rfl := Option.some.inj h
  simp only [subA, inA, inV, conc, concs, concT, STy.val, e0, e1, e2]
  rfl

theorem right7_7 {s : Int} {i : I7} (hc : s / 2048 = 7) (h : inst7 s = some i) : CallsTo CA07 24 [inV i] (.sc (.bool true)) := by
  have hf := sEnv_ok s
  have e : [inV i] = concs (sEnv s) [subA 7] := by simp only [concs, subA7_7 hc h]
  rw [e]
  have c0 : s / 128 % 16 ≤ 7 ∨ 8 ≤ s / 128 % 16 := by omega
  have c1 : s / 8 % 16 ≤ 7 ∨ 8 ≤ s / 8 % 16 := by omega
  rcases c0 with c0 | c0
  · rcases c1 with c1 | c1
    · exact ((subR_run7_0).calls (CR07_ok (FactsOk.cons (FactsOk.cons (sEnv_ok s) (decide_eq_true c1)) (decide_eq_true c0))) (FactsOk.cons (FactsOk.cons (sEnv_ok s) (decide_eq_true c1)) (decide_eq_true c0))).of rfl rfl
    · exact ((subR_run7_2).calls (CR07_ok (FactsOk.cons (FactsOk.cons (sEnv_ok s) (decide_eq_true c1)) (decide_eq_true c0))) (FactsOk.cons (FactsOk.cons (sEnv_ok s) (decide_eq_true c1)) (decide_eq_true c0))).of rfl rfl
  · rcases c1 with c1 | c1
    · exact ((subR_run7_1).calls (CR07_ok (FactsOk.cons (FactsOk.cons (sEnv_ok s) (decide_eq_true c1)) (decide_eq_true c0))) (FactsOk.cons (FactsOk.cons (sEnv_ok s) (decide_eq_true c1)) (decide_eq_true c0))).of rfl rfl
    · exact ((subR_run7_3).calls (CR07_ok (FactsOk.cons (FactsOk.cons (sEnv_ok s) (decide_eq_true c1)) (decide_eq_true c0))) (FactsOk.cons (FactsOk.cons (sEnv_ok s) (decide_eq_true c1)) (decide_eq_true c0))).of rfl rfl

theorem subA7_8 {s : Int} {i : I7} (hc : s / 2048 = 8) (h : inst7 s = some i) : conc (sEnv s) (subA 8) = inV i := by
  have e0 : (den (sEnv s) (greatE (.var 0))).i = gr (s / 128 % 16) := den_great (e := .var 0) (by show 0 ≤ s / 128 % 16; omega) (by show s / 128 % 16 ≤ 15; omega)
  have e1 : (den (sEnv s) (greatE (.var 1))).i = gr (s / 8 % 16) := den_great (e := .var 1) (by show 0 ≤ s / 8 % 16; omega) (by show s / 8 % 16 ≤ 15; omega)
  have e2 : (den (sEnv s) (mulE (.var 2) 4)).i = s % 8 * 4 := w64 (n := s % 8 * 4) (by omega) (by omega)
  simp only [inst7, hc, Int.reduceEq, if_false, if_true] at h
  obtain rfl := Option.some.inj h
  simp only [subA, inA, inV, conc, concs, concT, STy.val, e0, e1, e2]
  rfl

theorem right7_8 {s : Int} {i : I7} (hc : s / 2048 = 8) (h : inst7 s = some i) : CallsTo CA07 24 [inV i] (.sc (.bool true)) := by
  have hf := sEnv_ok s
  have e : [inV i] = concs (sEnv s) [subA 8] := by simp only [concs, subA7_8 hc h]
  rw [e]
  have c0 : s / 128 % 16 ≤ 7 ∨ 8 ≤ s / 128 % 16 := by omega
  have c1 : s / 8 % 16 ≤ 7 ∨ 8 ≤ s / 8 % 16 := by omega
  rcases c0 with c0 | c0
  · rcases c1 with c1 | c1
    · exact ((subR_run8_0).calls (CR07_ok (FactsOk.cons (FactsOk.cons (sEnv_ok s) (decide_eq_true c1)) (decide_eq_true c0))) (FactsOk.cons (FactsOk.cons (sEnv_ok s) (decide_eq_true c1)) (decide_eq_true c0))).of rfl rfl
    · exact ((subR_run8_2).calls (CR07_ok (FactsOk.cons (FactsOk.cons (sEnv_ok s) (decide_eq_true c1)) (decide_eq_true c0))) (FactsOk.cons (FactsOk.cons (sEnv_ok s) (decide_eq_true c1)) (decide_eq_true c0))).of rfl rfl
  · rcases c1 with c1 | c1
    · exact ((subR_run8_1).calls (CR07_ok (FactsOk.cons (FactsOk.cons (sEnv_ok s) (decide_eq_true c1)) (decide_eq_true c0))) (FactsOk.cons (FactsOk.cons (sEnv_ok s) (decide_eq_true c1)) (decide_eq_true c0))).of rfl rfl
    · exact ((subR_run8_3).calls (CR07_ok (FactsOk.cons (FactsOk.cons (sEnv_ok s) (decide_eq_true c1)) (decide_eq_true c0))) (FactsOk.cons (FactsOk.cons (sEnv_ok s) (decide_eq_true c1)) (decide_eq_true c0))).of rfl rfl

theorem subA7_9 {s : Int} {i : I7} (hc : s / 2048 = 9) (h : inst7 s = some i) : conc (sEnv s) (subA 9) = inV i := by
  have e0 : (den (sEnv s) (greatE (.var 0))).i = gr (s / 128 % 16) := den_great (e := .var 0) (by show 0 ≤ s / 128 % 16; omega) (by show s / 128 % 16 ≤ 15; omega)
  have e1 : (den (sEnv s) (greatE (.var 1))).i = gr (s / 8 % 16) := den_great (e := .var 1) (by show 0 ≤ s / 8 % 16; omega) (by show s / 8 % 16 ≤ 15; omega)
  have e2 : (den (sEnv s) (mulE (.var 2) 4)).i = s % 8 * 4 := w64 (n := s % 8 * 4) (by omega) (by omega)
  simp only [inst7, hc, Int.reduceEq, if_false, if_true] at h
  obtain rfl := Option.some.inj h
  simp only [subA, inA, inV, conc, concs, concT, STy.val, e0, e1, e2]
  rfl

theorem right7_9 {s : Int} {i : I7} (hc : s / 2048 = 9) (h : inst7 s = some i) : CallsTo CA07 24 [inV i] (.sc (.bool true)) := by
  have hf := sEnv_ok s
  have e : [inV i] = concs (sEnv s) [subA 9] := by simp only [concs, subA7_9 hc h]
  rw [e]
  have c0 : s / 128 % 16 ≤ 7 ∨ 8 ≤ s / 128 % 16 := by omega
  rcases c0 with c0 | c0
  · exact ((subR_run9_0).calls (CR07_ok (FactsOk.cons (sEnv_ok s) (decide_eq_true c0))) (FactsOk.cons (sEnv_ok s) (decide_eq_true c0))).of rfl rfl
  · exact ((subR_run9_1).calls (CR07_ok (FactsOk.cons (sEnv_ok s) (decide_eq_true c0))) (FactsOk.cons (sEnv_ok s) (decide_eq_true c0))).of rfl rfl

theorem inst7_code {s : Int} {i : I7} (h : inst7 s = some i) : 1 ≤ s / 2048 ∧ s / 2048 ≤ 9 := by
  unfold inst7 at h
  repeat' split at h
  all_goals first
    | (simp only [reduceCtorEq] at h; done)
    | omega

theorem right7 {s : Int} {i : I7} (h : inst7 s = some i) : CallsTo CA07 24 [inV i] (.sc (.bool true)) := by
  obtain ⟨h1, h2⟩ := inst7_code h
  have hc : s / 2048 = 1 ∨ s / 2048 = 2 ∨ s / 2048 = 3 ∨ s / 2048 = 4 ∨ s / 2048 = 5 ∨ s / 2048 = 6 ∨ s / 2048 = 7 ∨ s / 2048 = 8 ∨ s / 2048 = 9 := by omega
  rcases hc with hc | hc | hc | hc | hc | hc | hc | hc | hc
  · exact right7_1 hc h
  · exact right7_2 hc h
  · exact right7_3 hc h
  · exact right7_4 hc h
  · exact right7_5 hc h
  · exact right7_6 hc h
  · exact right7_7 hc h
  · exact right7_8 hc h
  · exact right7_9 hc h

/-- Bounds of a small instruction's cells. -/
theorem inst7_rng {s : Int} {i : I7} (h : inst7 s = some i) : (0 ≤ i.op ∧ i.op ≤ 255) ∧ (0 ≤ i.d ∧ i.d ≤ 255) ∧ (0 ≤ i.s ∧ i.s ≤ 255) ∧ (0 ≤ i.t ∧ i.t ≤ 255) ∧ (-64 ≤ i.imm ∧ i.imm ≤ 127) := by
  unfold inst7 at h
  have g1 : 0 ≤ gr (s / 128 % 16) ∧ gr (s / 128 % 16) ≤ 255 := by unfold gr; omega
  have g2 : 0 ≤ gr (s / 8 % 16) ∧ gr (s / 8 % 16) ≤ 255 := by unfold gr; omega
  repeat' split at h
  all_goals first
    | (simp only [reduceCtorEq] at h; done)
    | (simp only [Option.some.injEq] at h
       subst h
       simp only
       omega)

def iEnv (i : I7) : Env := ⟨fun k => [i.op, i.d, i.s, i.t, 0, 0, 0, 0, 0, 0, i.imm].getD k 0, fun _ => false, fun _ => ByteArray.empty, FF0⟩

theorem iEnv_ok {s : Int} {i : I7} (h : inst7 s = some i) : FactsOk (iEnv i) inF := by
  obtain ⟨h1, h2, h3, h4, h5⟩ := inst7_rng h
  intro p hp
  simp only [inF, rightF, List.mem_cons, List.not_mem_nil, or_false] at hp
  rcases hp with rfl | rfl | rfl | rfl | rfl | rfl | rfl | rfl | rfl | rfl | rfl | rfl | rfl | rfl | rfl | rfl | rfl | rfl
  · exact decide_eq_true h1.1
  · exact decide_eq_true h1.2
  · exact decide_eq_true h2.1
  · exact decide_eq_true h2.2
  · exact decide_eq_true h3.1
  · exact decide_eq_true h3.2
  · exact decide_eq_true h4.1
  · exact decide_eq_true h4.2
  · exact rfl
  · exact rfl
  · exact rfl
  · exact rfl
  · exact rfl
  · exact rfl
  · exact rfl
  · exact rfl
  · exact decide_eq_true (show i.imm ≥ -9223372036854775808 by omega)
  · exact decide_eq_true (show i.imm ≤ 9223372036854775807 by omega)

/-- The number of a small instruction. -/
theorem sub_of7 {s : Int} {i : I7} (h0 : 0 ≤ s) (h1 : s ≤ 65535) (h : inst7 s = some i) : CallsTo CA07 21 [inV i] (.tuple [.tc (.sc (.int .u16 s)), .tc (.sc (.bool true))]) := by
  have h2 := sub_of (iEnv_ok h)
  have e : of11 (iEnv i) = some s := by
    unfold of11
    rw [if_pos ⟨rfl, rfl, rfl, rfl, rfl, rfl⟩]
    exact (of_inst7 h0 h1 h).1
  rw [e] at h2
  exact h2

/-- The instruction of an instruction's number. -/
theorem sub_inst7 {ρ : Env} {x : Int} (h : of11 ρ = some x) : CallsTo CA07 19 [.tc (.sc (.int .u16 x))] (.tuple (concs ρ opArgsG ++ [.tc (.sc (.bool true))])) ∧ 0 ≤ x ∧ x ≤ 20479 := by
  unfold of11 at h
  split at h
  · rename_i hp
    obtain ⟨g1, g2, g3⟩ := inst_of7 h
    refine ⟨?_, g2, g3⟩
    have := (sub_inst (s := x) g2 (by omega)).1
    unfold inR7 at this
    rw [g1] at this
    obtain ⟨p1, p2, p3, p4, p5, p6⟩ := hp
    have e : concs ρ opArgsG = [inV (i7of ρ)] := by simp only [opArgsG, concs, conc, concT, STy.val, den, p1, p2, p3, p4, p5, p6]; rfl
    rw [e]
    exact this
  · cases h
end Go.Proofs.YthabafmieebmmaaDoor
