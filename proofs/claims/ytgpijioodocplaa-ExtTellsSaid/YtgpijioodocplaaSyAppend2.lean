/- append and copy, in one. -/
import Derived.Test.YtgpijioodocplaaSyAppend
set_option linter.unusedVariables false
set_option linter.unusedSectionVars false
set_option linter.unusedSimpArgs false
namespace Go.Proofs.Ytgpijioodocplaa
open Go Go.RowKit
variable [Obs]

section
variable {C : Ctx} {Pb : Nat → Prop} {μ : Mu} {B0 : Nat} {w : World} {T : Look} {H : Heap} {a : Act}

/-- What is appended: so many elements, these cells. -/
def AppSrc (P : Program) (w : World) (s : Nat) (dx : TypeDesc) (ie : TypeInfo) (zv x : Value) (n : Nat) (vals : Array Value) : Prop :=
  (isIntD dx = false ∧ ∀ w', Same w w' → (Builtin.lenOf x).run P w' = .ok n w' ∧ (Builtin.firstCells s n x).run P w' = .ok vals w') ∨
  (isIntD dx = true ∧ ∃ kk m, x = .int kk m ∧ 0 ≤ m ∧ m < 2 ^ 40 ∧ m * ie.bytes ≤ 2 ^ 48 ∧ n = m.toNat ∧ vals = (Array.range (n * s)).map (zv.cells[· % zv.cells.size]!))

theorem same_drew (w : World) : Same w (drewW w) := fun _ _ => rfl

theorem append_in {st xt e ty : TypeId} {dx : TypeDesc} {ie : TypeInfo} {zv x : Value} {n sLen sCap s : Nat} {vals : Array Value} {base : Option Addr} (hd : C.P.underlying st = some (.slice e)) (hdx : C.P.underlying xt = some dx)
    (hie : C.P.info? e = some ie) (hs : s = ie.size) (hz : ∀ w', (zeroValue e).run C.P w' = .ok zv w') (hzs : zv.cells.size = s) (hsrc : AppSrc C.P w s dx ie zv x n vals) (hfit : sLen + n ≤ sCap) :
    (Builtin.append_ #[st, xt] ty #[.slice base sLen sCap, x]).run C.P w =
      match base with
      | some a => ((storeCells (a.add (sLen * s)) vals.toList).run C.P w).andThen fun _ w' => .ok (.slice base (sLen + n) sCap) w'
      | none => .ok (.slice none (sLen + n) sCap) w := by
  subst hs
  rcases hsrc with ⟨hi, hx⟩ | ⟨hi, kk, m, rfl, h0, h1, h2, rfl, rfl⟩
  · obtain ⟨hl, hf⟩ := hx w (Same.refl w)
    cases dx <;> first | (simp only [isIntD, reduceCtorEq] at hi; done) | skip
    all_goals
      unfold Builtin.append_
      simp only [Sem.run_bind, run_underlying hd, run_underlying hdx, run_size hie, Result.andThen, List.getElem?_toArray, List.getElem?_cons_zero, List.getElem?_cons_succ, Sem.run_pure]
      rw [if_neg (by simp)]
      simp only [Sem.run_bind, hl, Result.andThen]
      rw [if_pos hfit]
      simp only [Sem.run_bind]
      rw [if_pos (show (!false) = true from rfl)]
      simp only [hf, Result.andThen]
      cases base
      · rfl
      · simp only [Sem.run_bind]; rfl
  · cases dx <;> first | (simp only [isIntD, reduceCtorEq] at hi; done) | skip
    have hw := i64_small h0 (by omega)
    unfold Builtin.append_
    simp only [Sem.run_bind, run_underlying hd, run_underlying hdx, run_size hie, Result.andThen, List.getElem?_toArray, List.getElem?_cons_zero, List.getElem?_cons_succ, Sem.run_pure]
    rw [if_pos trivial]
    simp only [Sem.run_bind, asInt, asIntOf, Sem.run_pure, Result.andThen, hw]
    rw [if_neg (by omega)]
    simp only [Sem.run_bind, run_info hie, Result.andThen]
    rw [if_neg (by omega)]
    simp only [Sem.run_bind, Sem.run_pure, Result.andThen]
    rw [if_pos hfit]
    simp only [Sem.run_bind]
    rw [if_neg (by simp)]
    by_cases hz0 : m.toNat * ie.size = 0
    · rw [if_pos hz0]
      have e0 : ∀ f : Nat → Value, (Array.range 0).map f = #[] := fun f => by simp
      simp only [Sem.run_pure, Result.andThen, hz0, e0]
      cases base
      · rfl
      · simp only [Sem.run_bind]; rfl
    · rw [if_neg hz0]
      simp only [Sem.run_bind, hz, Sem.run_pure, Result.andThen, Builtin.zeroCells, hzs]
      cases base
      · rfl
      · simp only [Sem.run_bind]; rfl

theorem append_new {st xt e ty : TypeId} {dx : TypeDesc} {ie : TypeInfo} {zv x : Value} {n sLen sCap s : Nat} {vals oldv : Array Value} {base : Option Addr} (hd : C.P.underlying st = some (.slice e)) (hdx : C.P.underlying xt = some dx)
    (hie : C.P.info? e = some ie) (hs : s = ie.size) (hz : ∀ w', (zeroValue e).run C.P w' = .ok zv w') (hzs : zv.cells.size = s) (hsrc : AppSrc C.P w s dx ie zv x n vals) (hfit : ¬ sLen + n ≤ sCap)
    (hold : ∀ w', Same w w' → (Builtin.firstCells s sLen (.slice base sLen sCap)).run C.P w' = .ok oldv w') (hb1 : (2 * (sLen + n) + 1000) * ie.bytes ≤ 2 ^ 48) (hb2 : sLen + n < 2 ^ 60) :
    ∃ newCap rest, sLen + n ≤ newCap ∧ rest.size = (newCap - (sLen + n)) * s ∧ (Builtin.append_ #[st, xt] ty #[.slice base sLen sCap, x]).run C.P w =
      .ok (.slice (some ⟨w.heap.size, 0, none⟩) (sLen + n) newCap) ((drewW w).alloc (.cells (oldv ++ vals ++ rest) e)) := by
  subst hs
  let newCap := (Question.appendCap (sLen + n) sCap e).cut (w.tape w.drawn (Question.appendCap (sLen + n) sCap e))
  have hnc : sLen + n ≤ newCap := by simp only [newCap, Question.cut]; exact Nat.le_add_right _ _
  have hmax : ¬ ((↑(sLen + n) : Int) > IntKind.i64.max) := by
    have : IntKind.i64.max = 2 ^ 63 - 1 := by decide
    rw [this]; omega
  have hnx : ¬ (Builtin.nextslicecap (sLen + n) sCap * ie.bytes > 2 ^ 48) := by
    have := nextslicecap_le (sLen + n) sCap (by omega)
    have := Nat.mul_le_mul_right ie.bytes this
    omega
  refine ⟨newCap, Builtin.zeroCells zv.cells (newCap - (sLen + n)), hnc, by simp [Builtin.zeroCells, hzs], ?_⟩
  have hch : (choose (Question.appendCap (sLen + n) sCap e)).run C.P w = .ok newCap (drewW w) := by
    rw [run_choose, if_neg (by simp [Question.forced])]
    rfl
  rcases hsrc with ⟨hi, hx⟩ | ⟨hi, kk, m, rfl, h0, h1, h2, rfl, rfl⟩
  · obtain ⟨hl, _⟩ := hx w (Same.refl w)
    obtain ⟨_, hf⟩ := hx (drewW w) (same_drew w)
    have ho := hold (drewW w) (same_drew w)
    cases dx <;> first | (simp only [isIntD, reduceCtorEq] at hi; done) | skip
    all_goals
      unfold Builtin.append_
      simp only [Sem.run_bind, run_underlying hd, run_underlying hdx, run_size hie, Result.andThen, List.getElem?_toArray, List.getElem?_cons_zero, List.getElem?_cons_succ, Sem.run_pure]
      rw [if_neg (by simp)]
      simp only [Sem.run_bind, hl, Result.andThen]
      rw [if_neg hfit]
      simp only [Sem.run_bind, run_info hie, Result.andThen]
      rw [if_neg (fun h => hmax h.1)]
      simp only [Sem.run_bind, run_info hie, Result.andThen]
      rw [if_neg hnx]
      simp only [Sem.run_bind, hch, Result.andThen, run_info hie, run_askRoom, ho]
      rw [if_pos (show (!false) = true from rfl)]
      simp only [hf, Result.andThen, hz, newRow, Sem.run_bind, run_newObj_alloc, Sem.run_pure]
      rfl
  · have ho := hold (drewW w) (same_drew w)
    cases dx <;> first | (simp only [isIntD, reduceCtorEq] at hi; done) | skip
    have hw := i64_small h0 (by omega)
    unfold Builtin.append_
    simp only [Sem.run_bind, run_underlying hd, run_underlying hdx, run_size hie, Result.andThen, List.getElem?_toArray, List.getElem?_cons_zero, List.getElem?_cons_succ, Sem.run_pure]
    rw [if_pos trivial]
    simp only [Sem.run_bind, asInt, asIntOf, Sem.run_pure, Result.andThen, hw]
    rw [if_neg (by omega)]
    simp only [Sem.run_bind, run_info hie, Result.andThen]
    rw [if_neg (by omega)]
    simp only [Sem.run_bind, Sem.run_pure, Result.andThen]
    rw [if_neg hfit]
    simp only [Sem.run_bind, run_info hie, Result.andThen]
    rw [if_neg (fun h => hmax h.1)]
    simp only [Sem.run_bind, run_info hie, Result.andThen]
    rw [if_neg hnx]
    simp only [Sem.run_bind, hch, Result.andThen, run_info hie, run_askRoom, ho]
    rw [if_neg (by simp)]
    by_cases hz0 : m.toNat * ie.size = 0
    · rw [if_pos hz0]
      have e0 : ∀ f : Nat → Value, (Array.range 0).map f = #[] := fun f => by simp
      simp only [Sem.run_pure, Result.andThen, hz0, e0, hz, newRow, Sem.run_bind, run_newObj_alloc]
      rfl
    · rw [if_neg hz0]
      simp only [Sem.run_bind, hz, Sem.run_pure, Result.andThen, Builtin.zeroCells, hzs, newRow, run_newObj_alloc]
      rfl
end
end Go.Proofs.Ytgpijioodocplaa
