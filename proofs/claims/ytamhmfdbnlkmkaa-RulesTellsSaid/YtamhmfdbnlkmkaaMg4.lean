/- The evaluator: SyAppend, SyAppend2, SyAppend3, SyCall, SyCode laid together. -/
import Derived.Test.YtamhmfdbnlkmkaaMg3
import Derived.Tactics
import Derived.Deep.Quiet
/- append and copy. -/
set_option linter.unusedVariables false
set_option linter.unusedSectionVars false
set_option linter.unusedSimpArgs false
namespace Go.Proofs.Ytamhmfdbnlkmkaa
open Go Go.RowKit
variable [Obs]

section
variable {C : Ctx} {Pb : Nat → Prop} {μ : Mu} {B0 : Nat} {w : World} {T : Look} {H : Heap} {a : Act}

/-- Rows that are read from where a value leads. -/
def Src (Pb : Nat → Prop) (μ : Mu) (w : World) (s : Nat) (x : Value) (rows : List (List AV)) : Prop :=
  (∀ (P : Program) w', (Builtin.lenOf x).run P w' = .ok rows.length w') ∧
    ∀ n, n ≤ rows.length → ∃ vals, RowsRel Pb μ w s (rows.take n) vals ∧ ∀ (P : Program) w', Same w w' → (Builtin.firstCells s n x).run P w' = .ok vals w'

theorem rowsRel_nil (s : Nat) : RowsRel Pb μ w s [] #[] := ⟨by simp, fun r hr => (by cases hr), fun i f r x hi => (by simp at hi)⟩

theorem src_nil (s n c : Nat) (hn : n = 0) : Src Pb μ w s (.slice none n c) [] :=
  ⟨fun P w' => by subst hn; rfl, fun n hn => ⟨#[], by simpa using rowsRel_nil s, fun P w' _ => rfl⟩⟩

/-- Rows of a slice, its cells being known. -/
theorem src_cells {s b x c : Nat} {rows : List (List AV)} (hs : 0 < s) (hrows : ∀ r, r ∈ rows → r.length = s)
    (hc : ∀ (i f : Nat) (r : List AV) (u : AV), rows[i]? = some r → r[f]? = some u → ∃ v, w.cell? ⟨b, x + i * s + f, none⟩ = some v ∧ v.oneCell' = true ∧ Rel Pb μ w u v) :
    Src Pb μ w s (.slice (some ⟨b, x, none⟩) rows.length c) rows :=
  ⟨fun P w' => rfl, fun n hn => by
    obtain ⟨vals, h1, h2⟩ := run_loadCells_rows hs hrows hn hc
    exact ⟨vals, h1, fun P w' hw' => h2 P w' hw'⟩⟩

theorem tree_cells {s b o : Nat} {el : List (List TC)} {g : Nat → Nat → Value}
    (hc : ∀ (i f : Nat) (r : List TC) (c : TC), el[i]? = some r → r[f]? = some c → w.cell? ⟨b, o + i * s + f, none⟩ = some (g i f) ∧ (g i f).oneCell' = true)
    (hr : ∀ (i f : Nat) (r : List TC) (c : TC), el[i]? = some r → r[f]? = some c → RT Pb w c (g i f)) :
    ∀ (i f : Nat) (r : List AV) (u : AV), (el.map tcs)[i]? = some r → r[f]? = some u → ∃ v, w.cell? ⟨b, o + i * s + f, none⟩ = some v ∧ v.oneCell' = true ∧ Rel Pb μ w u v := by
  intro i f r u hi hf
  simp only [List.getElem?_map, Option.map_eq_some_iff] at hi
  obtain ⟨r', hr', rfl⟩ := hi
  obtain ⟨c, hc', rfl⟩ := tcs_get hf
  exact ⟨g i f, (hc i f r' c hr' hc').1, (hc i f r' c hr' hc').2, .tc _ _ (hr i f r' c hr' hc')⟩

theorem obj_cells {b s i0 n : Nat} {el : List (List AV)} (hR : CellsRel Pb μ w b s el) :
    ∀ (i f : Nat) (r : List AV) (u : AV), ((el.drop i0).take n)[i]? = some r → r[f]? = some u → ∃ v, w.cell? ⟨b, i0 * s + i * s + f, none⟩ = some v ∧ v.oneCell' = true ∧ Rel Pb μ w u v := by
  intro i f r u hi hf
  rw [List.getElem?_take] at hi
  split at hi
  · rw [List.getElem?_drop] at hi
    obtain ⟨_, c, ty, fr, h2, _, _, h5⟩ := hR
    obtain ⟨v, q1, q2, q3⟩ := h5 _ f r u hi hf
    refine ⟨v, ?_, q2, q3⟩
    simp only [World.cell?, h2]
    rw [← Nat.add_mul]
    simpa using q1
  · cases hi

/-- Rows of a slice of an object. -/
theorem src_slice {o s i len cap ver : Nat} {ex : Bool} {v : Value} {obj : AObj} {el : List (List AV)} (hH : HeapRel Pb μ B0 w H) (ho : H[o]? = some obj) (hr : rowsOf obj = some el) (hs : sizeOfObj obj = s)
    (hver : ver = obj.len) (hle : i + len ≤ el.length) (hs0 : 0 < s) (hx : Rel Pb μ w (.slice o s i len cap ex ver) v) : Src Pb μ w s v ((el.drop i).take len) := by
  subst hver
  obtain ⟨_, b', hb', hB, hP, hR⟩ := (hH.obj o obj ho).rows hr
  rw [hs] at hR
  cases hx with
  | slice _ _ _ _ _ _ _ b off c hb h1 h2 h3 h4 h5 =>
    rw [hb] at hb'
    simp only [Option.some.injEq] at hb'
    subst hb'
    have hlen : ((el.drop i).take len).length = len := by simp; omega
    by_cases hl0 : len = 0
    · subst hl0
      simp only [List.take_zero]
      exact ⟨fun P w' => rfl, fun n hn => by
        have : n = 0 := by simpa using hn
        subst this
        exact ⟨#[], by simpa using rowsRel_nil s, fun P w' _ => by simp [Builtin.firstCells, loadCells, loadCellsFrom]⟩⟩
    · obtain rfl : off = i * s := h5.resolve_left (by omega)
      have := src_cells (Pb := Pb) (μ := μ) (w := w) (s := s) (b := b) (x := i * s) (c := c) (rows := (el.drop i).take len) hs0 (fun r hr => hR.rows r (List.mem_of_mem_drop (List.mem_of_mem_take hr))) (obj_cells hR)
      rwa [hlen] at this

theorem src_tree {s : Nat} {el : List (List TC)} {v : Value} (hs0 : 0 < s) (hx : Rel Pb μ w (.tc (.sl s el)) v) : Src Pb μ w s v (el.map tcs) := by
  cases hx with
  | tc _ _ hx =>
    cases hx with
    | nil => exact src_nil s 0 0 rfl
    | sl _ b o cap _ g hl hb hs hc hr =>
      have := src_cells (Pb := Pb) (μ := μ) (w := w) (s := s) (b := b) (x := o) (c := cap) (rows := el.map tcs) hs0 (fun r hr => by
        obtain ⟨r', hr', rfl⟩ := List.mem_map.1 hr
        simp [tcs, hs r' hr']) (tree_cells hc hr)
      simpa using this

theorem srcRows_ok {et : TI} {z : List TC} {x : AV} {v : Value} {k : List (List AV) → Out} (h : srcRows H et false z x k) (hx : Rel Pb μ w x v) (hH : HeapRel Pb μ B0 w H) (hs0 : 0 < et.size) :
    ∃ rows, k rows ∧ Src Pb μ w et.size v rows := by
  unfold srcRows at h
  simp only at h
  split at h
  · obtain rfl := hx.sc_eq
    exact ⟨[], h, src_nil _ _ _ rfl⟩
  · rename_i s' el
    have hcf := cond_false h; clear h; obtain ⟨hc, h⟩ := hcf
    simp only [decide_eq_true_eq] at hc
    subst hc
    exact ⟨_, h, src_tree hs0 hx⟩
  · rename_i o s' i len cap ex ver
    split at h
    · rename_i s2 el ho
      have hcf := cond_false h; clear h; obtain ⟨hc, h⟩ := hcf
      simp only [Bool.and_eq_true, decide_eq_true_eq] at hc
      obtain ⟨⟨⟨rfl, rfl⟩, hver⟩, hle⟩ := hc
      have := src_slice hH ho rfl rfl hver (by simpa using hle) hs0 hx
      refine ⟨_, h, ?_⟩
      rwa [← List.map_drop, ← List.map_take] at this
    · rename_i s2 el ho
      have hcf := cond_false h; clear h; obtain ⟨hc, h⟩ := hcf
      simp only [Bool.and_eq_true, decide_eq_true_eq] at hc
      obtain ⟨⟨⟨rfl, rfl⟩, hver⟩, hle⟩ := hc
      exact ⟨_, h, src_slice hH ho rfl rfl hver hle hs0 hx⟩
    · exact h.elim
  · exact h.elim

theorem nextslicecap_le (need old : Nat) (h : old < need) : Builtin.nextslicecap need old ≤ 2 * need + 1000 := by
  have grow : ∀ r c, c ≤ 2 * need + 1000 → Builtin.growBy need r c ≤ 2 * need + 1000 := by
    intro r
    induction r with
    | zero => intro c hc; exact hc
    | succ r ih =>
      intro c hc
      unfold Builtin.growBy
      split
      · exact hc
      · exact ih _ (by omega)
  unfold Builtin.nextslicecap
  split
  · omega
  · split
    · omega
    · exact grow 4 old (by omega)
end
end Go.Proofs.Ytamhmfdbnlkmkaa

/- append and copy, in one. -/
set_option linter.unusedVariables false
set_option linter.unusedSectionVars false
set_option linter.unusedSimpArgs false
namespace Go.Proofs.Ytamhmfdbnlkmkaa
open Go Go.RowKit
variable [Obs]

section
variable {C : Ctx} {Pb : Nat → Prop} {μ : Mu} {B0 : Nat} {w : World} {T : Look} {H : Heap} {a : Act}

/-- What is appended: so many elements, these cells. -/
def AppSrc (P : Program) (w : World) (s : Nat) (dx : TypeDesc) (ie : TypeInfo) (zv x : Value) (n : Nat) (vals : Array Value) : Prop :=
  (isIntD dx = false ∧ ∀ w', Same w w' → (Builtin.lenOf x).run P w' = .ok n w' ∧ (Builtin.firstCells s n x).run P w' = .ok vals w') ∨
  (isIntD dx = true ∧ ∃ kk m, x = .int kk m ∧ 0 ≤ m ∧ m < 2 ^ 40 ∧ m * ie.bytes ≤ 2 ^ 48 ∧ n = m.toNat ∧ vals = (Array.range (n * s)).map (zv.cells[· % zv.cells.size]!))

theorem same_drew (w : World) : Same w (drewW w) := fun _ _ => rfl

theorem append_in {st xt e ty : TypeId} {dx : TypeDesc} {ie : TypeInfo} {zv x : Value} {n sLen sCap s : Nat} {vals : Array Value} {base : Option Addr} (hd : C.P.underlying st = some (.slice e)) (hdx : C.P.underlying xt = some dx)
    (hie : C.P.info? e = some ie) (hs : s = ie.size) (hz : ∀ w', (zeroValue e).run C.P w' = .ok zv w') (hzs : zv.cells.size = s) (hsrc : AppSrc C.P w s dx ie zv x n vals) (hfit : sLen + n ≤ sCap) :
    (Builtin.append_ #[st, xt] ty #[.slice base sLen sCap, x]).run C.P w =
      match base with
      | some a => ((storeCells (a.add (sLen * s)) vals.toList).run C.P w).andThen fun _ w' => .ok (.slice base (sLen + n) sCap) w'
      | none => .ok (.slice none (sLen + n) sCap) w := by
  subst hs
  rcases hsrc with ⟨hi, hx⟩ | ⟨hi, kk, m, rfl, h0, h1, h2, rfl, rfl⟩
  · obtain ⟨hl, hf⟩ := hx w (Same.refl w)
    cases dx <;> first | (simp only [isIntD, reduceCtorEq] at hi; done) | skip
    all_goals
      unfold Builtin.append_
      simp only [Sem.run_bind, run_underlying hd, run_underlying hdx, run_size hie, Result.andThen, List.getElem?_toArray, List.getElem?_cons_zero, List.getElem?_cons_succ, Sem.run_pure]
      rw [if_neg (by simp)]
      simp only [Sem.run_bind, hl, Result.andThen]
      rw [if_pos hfit]
      simp only [Sem.run_bind]
      rw [if_pos (show (!false) = true from rfl)]
      simp only [hf, Result.andThen]
      cases base
      · rfl
      · simp only [Sem.run_bind]; rfl
  · cases dx <;> first | (simp only [isIntD, reduceCtorEq] at hi; done) | skip
    have hw := i64_small h0 (by omega)
    unfold Builtin.append_
    simp only [Sem.run_bind, run_underlying hd, run_underlying hdx, run_size hie, Result.andThen, List.getElem?_toArray, List.getElem?_cons_zero, List.getElem?_cons_succ, Sem.run_pure]
    rw [if_pos trivial]
    simp only [Sem.run_bind, asInt, asIntOf, Sem.run_pure, Result.andThen, hw]
    rw [if_neg (by omega)]
    simp only [Sem.run_bind, run_info hie, Result.andThen]
    rw [if_neg (by omega)]
    simp only [Sem.run_bind, Sem.run_pure, Result.andThen]
    rw [if_pos hfit]
    simp only [Sem.run_bind]
    rw [if_neg (by simp)]
    by_cases hz0 : m.toNat * ie.size = 0
    · rw [if_pos hz0]
      have e0 : ∀ f : Nat → Value, (Array.range 0).map f = #[] := fun f => by simp
      simp only [Sem.run_pure, Result.andThen, hz0, e0]
      cases base
      · rfl
      · simp only [Sem.run_bind]; rfl
    · rw [if_neg hz0]
      simp only [Sem.run_bind, hz, Sem.run_pure, Result.andThen, Builtin.zeroCells, hzs]
      cases base
      · rfl
      · simp only [Sem.run_bind]; rfl

theorem append_new {st xt e ty : TypeId} {dx : TypeDesc} {ie : TypeInfo} {zv x : Value} {n sLen sCap s : Nat} {vals oldv : Array Value} {base : Option Addr} (hd : C.P.underlying st = some (.slice e)) (hdx : C.P.underlying xt = some dx)
    (hie : C.P.info? e = some ie) (hs : s = ie.size) (hz : ∀ w', (zeroValue e).run C.P w' = .ok zv w') (hzs : zv.cells.size = s) (hsrc : AppSrc C.P w s dx ie zv x n vals) (hfit : ¬ sLen + n ≤ sCap)
    (hold : ∀ w', Same w w' → (Builtin.firstCells s sLen (.slice base sLen sCap)).run C.P w' = .ok oldv w') (hb1 : (2 * (sLen + n) + 1000) * ie.bytes ≤ 2 ^ 48) (hb2 : sLen + n < 2 ^ 60) :
    ∃ newCap rest, sLen + n ≤ newCap ∧ rest.size = (newCap - (sLen + n)) * s ∧ (Builtin.append_ #[st, xt] ty #[.slice base sLen sCap, x]).run C.P w =
      .ok (.slice (some ⟨w.heap.size, 0, none⟩) (sLen + n) newCap) ((drewW w).alloc (.cells (oldv ++ vals ++ rest) e)) := by
  subst hs
  let newCap := (Question.appendCap (sLen + n) sCap e).cut (w.tape w.drawn (Question.appendCap (sLen + n) sCap e))
  have hnc : sLen + n ≤ newCap := by simp only [newCap, Question.cut]; exact Nat.le_add_right _ _
  have hmax : ¬ ((↑(sLen + n) : Int) > IntKind.i64.max) := by
    have : IntKind.i64.max = 2 ^ 63 - 1 := by decide
    rw [this]; omega
  have hnx : ¬ (Builtin.nextslicecap (sLen + n) sCap * ie.bytes > 2 ^ 48) := by
    have := nextslicecap_le (sLen + n) sCap (by omega)
    have := Nat.mul_le_mul_right ie.bytes this
    omega
  refine ⟨newCap, Builtin.zeroCells zv.cells (newCap - (sLen + n)), hnc, by simp [Builtin.zeroCells, hzs], ?_⟩
  have hch : (choose (Question.appendCap (sLen + n) sCap e)).run C.P w = .ok newCap (drewW w) := by
    rw [run_choose, if_neg (by simp [Question.forced])]
    rfl
  rcases hsrc with ⟨hi, hx⟩ | ⟨hi, kk, m, rfl, h0, h1, h2, rfl, rfl⟩
  · obtain ⟨hl, _⟩ := hx w (Same.refl w)
    obtain ⟨_, hf⟩ := hx (drewW w) (same_drew w)
    have ho := hold (drewW w) (same_drew w)
    cases dx <;> first | (simp only [isIntD, reduceCtorEq] at hi; done) | skip
    all_goals
      unfold Builtin.append_
      simp only [Sem.run_bind, run_underlying hd, run_underlying hdx, run_size hie, Result.andThen, List.getElem?_toArray, List.getElem?_cons_zero, List.getElem?_cons_succ, Sem.run_pure]
      rw [if_neg (by simp)]
      simp only [Sem.run_bind, hl, Result.andThen]
      rw [if_neg hfit]
      simp only [Sem.run_bind, run_info hie, Result.andThen]
      rw [if_neg (fun h => hmax h.1)]
      simp only [Sem.run_bind, run_info hie, Result.andThen]
      rw [if_neg hnx]
      simp only [Sem.run_bind, hch, Result.andThen, run_info hie, run_askRoom, ho]
      rw [if_pos (show (!false) = true from rfl)]
      simp only [hf, Result.andThen, hz, newRow, Sem.run_bind, run_newObj_alloc, Sem.run_pure]
      rfl
  · have ho := hold (drewW w) (same_drew w)
    cases dx <;> first | (simp only [isIntD, reduceCtorEq] at hi; done) | skip
    have hw := i64_small h0 (by omega)
    unfold Builtin.append_
    simp only [Sem.run_bind, run_underlying hd, run_underlying hdx, run_size hie, Result.andThen, List.getElem?_toArray, List.getElem?_cons_zero, List.getElem?_cons_succ, Sem.run_pure]
    rw [if_pos trivial]
    simp only [Sem.run_bind, asInt, asIntOf, Sem.run_pure, Result.andThen, hw]
    rw [if_neg (by omega)]
    simp only [Sem.run_bind, run_info hie, Result.andThen]
    rw [if_neg (by omega)]
    simp only [Sem.run_bind, Sem.run_pure, Result.andThen]
    rw [if_neg hfit]
    simp only [Sem.run_bind, run_info hie, Result.andThen]
    rw [if_neg (fun h => hmax h.1)]
    simp only [Sem.run_bind, run_info hie, Result.andThen]
    rw [if_neg hnx]
    simp only [Sem.run_bind, hch, Result.andThen, run_info hie, run_askRoom, ho]
    rw [if_neg (by simp)]
    by_cases hz0 : m.toNat * ie.size = 0
    · rw [if_pos hz0]
      have e0 : ∀ f : Nat → Value, (Array.range 0).map f = #[] := fun f => by simp
      simp only [Sem.run_pure, Result.andThen, hz0, e0, hz, newRow, Sem.run_bind, run_newObj_alloc]
      rfl
    · rw [if_neg hz0]
      simp only [Sem.run_bind, hz, Sem.run_pure, Result.andThen, Builtin.zeroCells, hzs, newRow, run_newObj_alloc]
      rfl
end
end Go.Proofs.Ytamhmfdbnlkmkaa

/- append and copy hold. -/
set_option linter.unusedVariables false
set_option linter.unusedSectionVars false
set_option linter.unusedSimpArgs false
namespace Go.Proofs.Ytamhmfdbnlkmkaa
open Go Go.RowKit
variable [Obs]

section
variable {C : Ctx} {Pb : Nat → Prop} {μ : Mu} {B0 : Nat} {w : World} {T : Look} {H : Heap} {a : Act}

theorem mapTC_ok {el : List (List AV)} {t : List (List TC)} (ht : mapO asTC el = some t) : t.map tcs = el := by
  obtain ⟨h1, h2⟩ := mapO_ok ht
  apply List.ext_getElem?
  intro i
  cases hi : el[i]? with
  | none =>
    have : el.length ≤ i := by
      rcases Nat.lt_or_ge i el.length with h | h
      · rw [List.getElem?_eq_getElem h] at hi; cases hi
      · exact h
    rw [List.getElem?_eq_none (by simp; omega)]
  | some r =>
    obtain ⟨y, hy, hr⟩ := h2 i r hi
    rw [List.getElem?_map, hy, Option.map_some, asTC_ok hr]

theorem joinRows_ok {obj : AObj} {el rows : List (List AV)} (h : rowsOf obj = some el) :
    rowsOf (joinRows obj rows) = some (el ++ rows) ∧ sizeOfObj (joinRows obj rows) = sizeOfObj obj ∧ (joinRows obj rows).len = el.length + rows.length := by
  cases obj with
  | tcells s l =>
    simp only [rowsOf, Option.some.injEq] at h
    subst h
    simp only [joinRows]
    cases hm : mapO asTC rows with
    | none => exact ⟨rfl, rfl, by simp [AObj.len]⟩
    | some t =>
      have := mapTC_ok hm
      refine ⟨by simp [rowsOf, this], rfl, ?_⟩
      have hl := congrArg List.length this
      simp at hl
      simp [AObj.len, hl]
  | cells s l =>
    simp only [rowsOf, Option.some.injEq] at h
    subst h
    exact ⟨rfl, rfl, by simp [joinRows, AObj.len]⟩
  | map es => simp [rowsOf] at h

theorem setSpan_map {α β : Type} (f : α → β) (l cs : List α) (n : Nat) : (setSpan l n cs).map f = setSpan (l.map f) n (cs.map f) := by simp [setSpan]

theorem overRows_ok {obj : AObj} {el rows : List (List AV)} {at_ : Nat} (h : rowsOf obj = some el) (hle : at_ + rows.length ≤ el.length) :
    rowsOf (overRows obj at_ rows) = some (setSpan el at_ rows) ∧ sizeOfObj (overRows obj at_ rows) = sizeOfObj obj ∧ (overRows obj at_ rows).len = el.length := by
  cases obj with
  | tcells s l =>
    simp only [rowsOf, Option.some.injEq] at h
    subst h
    simp only [overRows]
    cases hm : mapO asTC rows with
    | none => exact ⟨rfl, rfl, by simp only [AObj.len]; exact setSpan_length hle⟩
    | some t =>
      have := mapTC_ok hm
      refine ⟨by simp [rowsOf, setSpan_map, this], rfl, ?_⟩
      have hl := congrArg List.length this
      simp at hl
      simp only [AObj.len]
      rw [setSpan_length (by simp at hle; omega)]
      simp
  | cells s l =>
    simp only [rowsOf, Option.some.injEq] at h
    subst h
    exact ⟨rfl, rfl, by simp only [overRows, AObj.len]; exact setSpan_length hle⟩
  | map es => simp [rowsOf] at h

theorem cutObj_ok {obj : AObj} {el : List (List AV)} {i n : Nat} (h : rowsOf obj = some el) :
    rowsOf (cutObj obj i n) = some ((el.drop i).take n) ∧ sizeOfObj (cutObj obj i n) = sizeOfObj obj := by
  cases obj with
  | tcells s l => simp only [rowsOf, Option.some.injEq] at h; subst h; simp [cutObj, rowsOf, sizeOfObj, List.map_drop, List.map_take]
  | cells s l => simp only [rowsOf, Option.some.injEq] at h; subst h; simp [cutObj, rowsOf, sizeOfObj]
  | map es => simp [rowsOf] at h

theorem rowsRel_append {s : Nat} {r1 r2 : List (List AV)} {v1 v2 : Array Value} (h1 : RowsRel Pb μ w s r1 v1) (h2 : RowsRel Pb μ w s r2 v2) : RowsRel Pb μ w s (r1 ++ r2) (v1 ++ v2) := by
  refine ⟨by rw [Array.size_append, h1.len, h2.len, List.length_append, Nat.add_mul], fun r hr => ?_, fun i f r x hi hf => ?_⟩
  · rcases List.mem_append.1 hr with h | h
    · exact h1.rowl r h
    · exact h2.rowl r h
  · rcases Nat.lt_or_ge i r1.length with h | h
    · rw [List.getElem?_append_left h] at hi
      obtain ⟨v, q1, q2, q3⟩ := h1.cells i f r x hi hf
      refine ⟨v, ?_, q2, q3⟩
      rw [Array.getElem?_append_left]
      · exact q1
      · rcases Nat.lt_or_ge (i * s + f) v1.size with h | h
        · exact h
        · simp [Array.getElem?_eq_none h] at q1
    · rw [List.getElem?_append_right h] at hi
      obtain ⟨v, q1, q2, q3⟩ := h2.cells _ f r x hi hf
      refine ⟨v, ?_, q2, q3⟩
      have hle := mul_le_rows (s := s) h
      rw [Array.getElem?_append_right (by rw [h1.len]; omega), h1.len]
      rw [Nat.sub_mul] at q1
      rw [show i * s + f - r1.length * s = i * s - r1.length * s + f by omega]
      exact q1

/-- What is appended: rows, and what the run reads. -/
theorem srcRows_app {et : TI} {e : TypeId} {ie : TypeInfo} {dx : TypeDesc} {z : List TC} {zv : Value} {x : AV} {xv : Value} {k : List (List AV) → Out} (h : srcRows H et (isIntD dx) z x k) (hx : Rel Pb μ w x xv)
    (hH : HeapRel Pb μ B0 w H) (hs0 : et.size ≠ 0) (hz : RelL Pb μ w (tcs z) zv.cells) (hbe : et.bytes = ie.bytes) :
    ∃ rows vals, k rows ∧ RowsRel Pb μ w et.size rows vals ∧ AppSrc C.P w et.size dx ie zv xv rows.length vals := by
  cases hi : isIntD dx with
  | false =>
    rw [hi] at h
    obtain ⟨rows, hk, hl, hf⟩ := srcRows_ok h hx hH (by omega)
    obtain ⟨vals, h1, h2⟩ := hf rows.length (Nat.le_refl _)
    rw [List.take_length] at h1
    exact ⟨rows, vals, hk, h1, .inl ⟨hi, fun w' hw' => ⟨hl C.P w', h2 C.P w' hw'⟩⟩⟩
  | true =>
    rw [hi] at h
    simp only [srcRows] at h
    split at h
    · rename_i n hn
      have hcf := cond_false h; clear h; obtain ⟨hc, h⟩ := hcf
      simp only [Bool.and_eq_true, decide_eq_true_eq] at hc
      obtain ⟨⟨⟨⟨c1, c2⟩, c3⟩, c4⟩, c5⟩ := hc
      obtain ⟨kk, rfl⟩ := intOf_ok hn hx
      refine ⟨_, _, h, zero_rows n.toNat hz c4 hs0 c5, .inr ⟨hi, kk, n, rfl, c1, c2, by rw [← hbe]; exact c3, by simp, by simp⟩⟩
    · exact h.elim

/-- An object goes to a new block, with rows behind its own. -/
theorem heap_move (hH : HeapRel Pb μ B0 w H) {o : Nat} {obj obj' : AObj} {rows : List (List AV)} {vals rest : Array Value} {s : Nat} (ho : H[o]? = some obj) (hlen : obj.len < obj'.len)
    (hR : RowsRel Pb μ w s rows vals) (hr : rowsOf obj' = some rows) (hs : sizeOfObj obj' = s) (hn : obj'.len = rows.length) (w1 : World) (hw1 : w1.heap = w.heap ∧ w1.os = w.os ∧ w1.tape = w.tape ∧ w1.output = w.output) (ty : TypeId) :
    ∃ μ', HeapRel Pb μ' B0 (w1.alloc (.cells (vals ++ rest) ty)) (H.set o obj') ∧ Goes Pb μ B0 w H.length Pb μ' (w1.alloc (.cells (vals ++ rest) ty)) (H.set o obj').length ∧ μ' o rows.length = some w.heap.size ∧
      sizeAt (w1.alloc (.cells (vals ++ rest) ty)) w.heap.size (vals.size + rest.size) := by
  obtain ⟨e1, e2, e3, e4⟩ := hw1
  have hlt : o < H.length := lt_of_get ho
  have hold : ∀ b, b < w.heap.size → (w1.alloc (.cells (vals ++ rest) ty)).heap[b]? = w.heap[b]? := fun b hb => by
    rw [get_alloc_old _ (by rw [e1]; exact hb), e1]
  have hnew : (w1.alloc (.cells (vals ++ rest) ty)).heap[w.heap.size]? = some (.cells (vals ++ rest) ty) := by
    have := get_alloc_new w1 (.cells (vals ++ rest) ty)
    rwa [e1] at this
  have := heap_put hH (o := o) (b' := w.heap.size) (obj' := obj') (H' := H.set o obj') (w' := w1.alloc (.cells (vals ++ rest) ty)) (by simp [hlt]) (fun o' ho' => by rw [List.getElem?_set]; simp [Ne.symm ho']) (by simp)
    (fun b _ hb => hold b hb) (.inl (Nat.le_refl _))
    (by
      rintro b n ⟨c', ty', fr', h1, h2⟩
      exact ⟨c', ty', fr', by rw [hold b (lt_of_heap h1)]; exact h1, h2⟩) (by simp [e1]) e2 e3 e4
    (fun x hx => by
      rw [ho] at hx
      simp only [Option.some.injEq] at hx
      subst hx
      refine ⟨by omega, fun y hy => ?_⟩
      obtain ⟨x, g1, g2⟩ := hH.dom _ _ _ hy
      rw [ho] at g1
      simp only [Option.some.injEq] at g1
      subst g1
      omega) (fun hp => Nat.lt_irrefl _ (hH.pb _ hp)) hH.base
    (fun hgo => objRel_rows hr hs (upd_same ..) hH.base (fun hp => Nat.lt_irrefl _ (hH.pb _ hp)) ⟨hR.rowl, _, ty, (0, 0), hnew, fun off _ => by
        have := frozen_new w1 (vals ++ rest) ty off
        rwa [e1] at this, by rw [Array.size_append, hR.len]; exact Nat.le_add_right _ _, fun i f r x hi hf => by
        obtain ⟨v, q1, q2, q3⟩ := hR.cells i f r x hi hf
        refine ⟨v, ?_, q2, q3.mono hgo.pb hgo.mu hgo.ext⟩
        rw [Array.getElem?_append_left]
        · exact q1
        · rcases Nat.lt_or_ge (i * s + f) vals.size with h | h
          · exact h
          · simp [Array.getElem?_eq_none h] at q1⟩)
  exact ⟨_, this.1, this.2, by rw [← hn]; exact upd_same .., _, ty, (0, 0), hnew, by simp⟩

theorem append_ok {st xt e ty : TypeId} {sti xti et : TI} {z : List TC} {x s : AV} {xv sv : Value} {k : AV → Heap → Out} (hst : tinfo C st = some sti) (hxt : tinfo C xt = some xti) (hu : sti.under = .slice e)
    (hte : tinfo C e = some et) (hz : zeroCellsA et = some z) (hzl : z.length = et.size) (hs0 : et.size ≠ 0) (h : srcRows H et (isIntD xti.under) z x fun rows => appendA et s rows H k)
    (hs : Rel Pb μ w s sv) (hx : Rel Pb μ w x xv) (hH : HeapRel Pb μ B0 w H) : HRes C Pb μ B0 w H k (Builtin.append_ #[st, xt] ty #[sv, xv]) := by
  obtain ⟨_, _, hds, _⟩ := tinfo_ok hst
  obtain ⟨_, _, hdx, _⟩ := tinfo_ok hxt
  obtain ⟨ie, hie, _, hse, hbe, _⟩ := tinfo_ok hte
  rw [hu] at hds
  obtain ⟨zv, hz1, hz2, hz3, _⟩ := zeroCellsA_ok (Pb := Pb) (μ := μ) (w := w) hte hz
  have hzs : zv.cells.size = et.size := by omega
  obtain ⟨rows, vals, h, hV, hA⟩ := srcRows_app (C := C) (e := e) h hx hH hs0 hz2 hbe
  have hvl : vals.toList.length = rows.length * et.size := by rw [Array.length_toList]; exact hV.len
  unfold appendA at h
  split at h
  · -- a nil slice
    obtain rfl := hs.sc_eq
    split at h
    · have hrun := append_in (C := C) (w := w) (ty := ty) (base := none) hds hdx hie hse hz1 hzs hA (sLen := 0) (sCap := 0) (by simp)
      simp only [List.length_nil, Nat.add_zero] at hrun
      exact ⟨_, _, _, w, Pb, μ, h, hrun, Rel.of_sc .., hH, Goes.refl ..⟩
    · rename_i hne
      have hcf := cond_false h; clear h; obtain ⟨hc, h⟩ := hcf
      simp only [Bool.and_eq_true, decide_eq_true_eq] at hc
      obtain ⟨⟨c1, c2⟩, c3⟩ := hc
      have hpos : 0 < rows.length := List.length_pos_iff.2 hne
      obtain ⟨newCap, rest, g1, g2, g3⟩ := append_new (C := C) (w := w) (ty := ty) (base := none) (oldv := #[]) hds hdx hie hse hz1 hzs hA (sLen := 0) (sCap := 0) (by omega) (fun w' _ => rfl) (by rw [← hbe]; simpa using c1) (by omega)
      simp only [Array.empty_append, Nat.zero_add] at g1 g2 g3
      obtain ⟨e1, e2, e3⟩ := rows_newCells (s := et.size) (el := rows)
      obtain ⟨μ', q1, q2, q3, q4⟩ := new_rows hH (rest := rest) hV e1 e2 e3 (drewW w) ⟨rfl, rfl, rfl, rfl⟩ e
      refine ⟨_, _, _, _, Pb, μ', h, g3, ?_, q1, q2⟩
      refine .slice _ _ _ _ _ _ _ w.heap.size 0 newCap q3 (Nat.le_refl _) g1 (fun h => by cases h) ?_ (.inr (by simp))
      rw [hV.len, g2] at q4
      rw [Nat.zero_add]
      have : rows.length * et.size + (newCap - rows.length) * et.size = newCap * et.size := by rw [← Nat.add_mul]; congr 1; omega
      rwa [this] at q4
  · rename_i o s' i len cap ex ver hq
    split at h
    · rename_i obj ho
      have hcf := cond_false h; clear h; obtain ⟨hc, h⟩ := hcf
      simp only [Bool.and_eq_true, decide_eq_true_eq] at hc
      obtain ⟨⟨⟨⟨⟨⟨c1, c2⟩, c3⟩, c4⟩, c5⟩, c6⟩, c7⟩ := hc
      subst c2
      subst c4
      obtain ⟨el, hel⟩ : ∃ el, rowsOf obj = some el := by cases obj <;> simp_all [rowsOf, sizeOfObj]
      have hob := hH.obj o obj ho
      obtain ⟨hell, b', hb', hB, hP, hR⟩ := hob.rows hel
      rw [c1] at hR
      have hrel := hs
      cases hs with
      | slice _ _ _ _ _ _ _ b off c hb hl1 hl2 hex hsz hoff =>
        rw [hb] at hb'
        simp only [Option.some.injEq] at hb'
        subst hb'
        -- the run, where there is room
        have inplace : ∀ (hfit : len + rows.length ≤ c) (at_ : Nat), (c ≠ 0 → off = i * et.size) → at_ = i + len → (rows ≠ [] → ∀ c' ty' fr', w.heap[b]? = some (.cells c' ty' fr') → (at_ + rows.length) * et.size ≤ c'.size) →
            (Builtin.append_ #[st, xt] ty #[.slice (some ⟨b, off, none⟩) len c, xv]).run C.P w = .ok (.slice (some ⟨b, off, none⟩) (len + rows.length) c) (w.setCells b (at_ * et.size) vals.toList) := by
          intro hfit at_ ho' hat hroom
          have hrun := append_in (C := C) (w := w) (ty := ty) (base := some ⟨b, off, none⟩) hds hdx hie hse hz1 hzs hA hfit
          rw [hrun]
          by_cases hne : rows = []
          · have hv0 : vals.toList = [] := by
              apply List.eq_nil_of_length_eq_zero
              rw [hvl, hne]; simp
            simp [hv0, storeCells, World.setCells]
          · have hpos : 0 < rows.length := List.length_pos_iff.2 hne
            have hoff' := ho' (by omega)
            obtain ⟨_, cc, ty2, fr2, r2, r3, _, r5⟩ := hR
            have hrm := hroom hne _ _ _ r2
            have hst := run_storeCells_cells (P := C.P) b (at_ * et.size) vals.toList 0 w (fun j hj => by
                simp only [World.cell?, r2]
                rw [hvl] at hj
                rw [Nat.add_mul] at hrm
                have : at_ * et.size + 0 + j < cc.size := by omega
                rw [Array.getElem?_eq_getElem this]
                rfl) (fun j hj => r3 _ (by
                rw [hvl] at hj
                rw [Nat.add_mul] at hrm
                omega)) (fun u hu => by
                rw [Array.mem_toList_iff] at hu
                obtain ⟨p, hp, rfl⟩ := Array.mem_iff_getElem.1 hu
                have hp' : p < rows.length * et.size := by rw [← hV.len]; exact hp
                have h1 : p / et.size < rows.length := Nat.div_lt_of_lt_mul (by rwa [Nat.mul_comm] at hp')
                have h2 := List.getElem?_eq_getElem h1
                have h3 := hV.rowl _ (List.mem_of_getElem? h2)
                have h4 : p % et.size < (rows[p / et.size]).length := by rw [h3]; exact Nat.mod_lt _ (by omega)
                obtain ⟨v, q1, q2, _⟩ := hV.cells _ _ _ _ h2 (List.getElem?_eq_getElem h4)
                have hpp : p / et.size * et.size + p % et.size = p := by rw [Nat.mul_comm]; exact Nat.div_add_mod p et.size
                rw [hpp, Array.getElem?_eq_getElem hp] at q1
                simp only [Option.some.injEq] at q1
                rw [q1]; exact q2)
            rw [Nat.add_zero] at hst
            have hadd : (⟨b, off, none⟩ : Addr).add (len * et.size) = ⟨b, at_ * et.size, none⟩ := by rw [add_at, hoff', hat, Nat.add_mul]
            simp only [hadd, hst, Result.andThen]
        have hcs := cond_split h; clear h; rcases hcs with ⟨hcA, h⟩ | ⟨hcA, h⟩
        · -- over cells that are there
          simp only [Bool.and_eq_true, decide_eq_true_eq] at hcA
          obtain ⟨a1, a2⟩ := hcA
          have hle : i + len + rows.length ≤ el.length := by omega
          obtain ⟨o1, o2, o3⟩ := overRows_ok (at_ := i + len) hel hle
          have hrun := inplace (by omega) (i + len) (fun hc0 => hoff.resolve_left hc0) rfl (fun _ c' ty' fr' hg => by
            obtain ⟨_, cc, ty2, fr2, r2, r3, r4, r5⟩ := hR
            rw [r2] at hg
            simp only [Option.some.injEq, Obj.cells.injEq] at hg
            obtain ⟨rfl, _, _⟩ := hg
            exact Nat.le_trans (mul_le_rows hle) r4)
          have hw := heap_write hH (at_ := (i + len) * et.size) (vs := vals.toList) ho hb hB hP (obj' := overRows obj (i + len) rows) (by rw [o3, hell]; exact Nat.le_refl _) o1 (by rw [o2, c1]) (fun μ' hμ hext =>
            over_cells hR hV rfl (fun j => setSpan_get hle j) (fun c' ty' fr' hg => by
              obtain ⟨_, cc, ty2, fr2, r2, r3, r4, r5⟩ := hR
              rw [r2] at hg
              simp only [Option.some.injEq, Obj.cells.injEq] at hg
              obtain ⟨rfl, _, _⟩ := hg
              exact Nat.le_trans (mul_le_rows hle) r4) (by rw [setSpan_length hle]; omega) (fun _ h => h) hμ hext)
          refine ⟨_, _, _, _, Pb, _, h, hrun, ?_, hw.1, hw.2⟩
          exact .slice _ _ _ _ _ _ _ b off c (hw.2.mu _ _ _ hb) a1 hl2 hex (hw.2.ext.size _ _ hsz) hoff
        · have hcs := cond_split h; clear h; rcases hcs with ⟨hcB, h⟩ | ⟨hcB, h⟩
          · -- its capacity is known, and too small
            simp only [Bool.and_eq_true, decide_eq_true_eq] at hcB
            obtain ⟨b1, b2⟩ := hcB
            obtain rfl := hex b1
            have hsrc := src_slice hH ho hel c1 rfl (by omega) (by omega) hrel
            have hlen : ((el.drop i).take len).length = len := by simp; omega
            obtain ⟨oldv, hO, hOr⟩ := hsrc.2 len (by omega)
            rw [List.take_of_length_le (by omega)] at hO
            obtain ⟨newCap, rest, g1, g2, g3⟩ := append_new (C := C) (w := w) (ty := ty) (base := some ⟨b, off, none⟩) (oldv := oldv) hds hdx hie hse hz1 hzs hA (sLen := len) (sCap := c) (by omega) (fun w' hw' => hOr C.P w' hw') (by rw [← hbe]; exact c6) c7
            obtain ⟨k1, k2⟩ := cutObj_ok (i := i) (n := len) hel
            obtain ⟨j1, j2, j3⟩ := joinRows_ok (rows := rows) k1
            have hJ := rowsRel_append hO hV
            obtain ⟨μ', q1, q2, q3, q4⟩ := new_rows hH (rest := rest) hJ j1 (by rw [j2, k2, c1]) (by rw [j3]; simp) (drewW w) ⟨rfl, rfl, rfl, rfl⟩ e
            have hjl : ((el.drop i).take len ++ rows).length = len + rows.length := by rw [List.length_append, hlen]
            rw [hjl] at q3
            refine ⟨_, _, _, _, Pb, μ', h, g3, ?_, q1, q2⟩
            refine .slice _ _ _ _ _ _ _ w.heap.size 0 newCap q3 (Nat.le_refl _) g1 (fun h => by cases h) ?_ (.inr (by simp))
            rw [hJ.len, hjl, g2] at q4
            rw [Nat.zero_add]
            have : (len + rows.length) * et.size + (newCap - (len + rows.length)) * et.size = newCap * et.size := by rw [← Nat.add_mul]; congr 1; omega
            rwa [this] at q4
          · -- it may go on in place, or in a new block
            have hcf := cond_false h; clear h; obtain ⟨hcC, h⟩ := hcf
            simp only [Bool.and_eq_true, decide_eq_true_eq, Bool.not_eq_true'] at hcC
            obtain ⟨⟨d1, d2⟩, d3⟩ := hcC
            subst d2
            obtain ⟨j1, j2, j3⟩ := joinRows_ok (rows := rows) hel
            have hlel : len = el.length := by omega
            by_cases hfit : len + rows.length ≤ c
            · have hroom : ∀ c' ty' fr', w.heap[b]? = some (.cells c' ty' fr') → (len + rows.length) * et.size ≤ c'.size := fun c' ty' fr' hg => by
                obtain ⟨cc, ty2, fr2, r2, r3⟩ := hsz
                rw [r2] at hg
                simp only [Option.some.injEq, Obj.cells.injEq] at hg
                obtain ⟨rfl, _, _⟩ := hg
                rw [Nat.zero_add] at r3
                exact Nat.le_trans (mul_le_rows hfit) r3
              have hrun := inplace hfit len (fun hc0 => hoff.resolve_left hc0) (by omega) (fun _ => hroom)
              have hw := heap_write hH (at_ := len * et.size) (vs := vals.toList) ho hb hB hP (obj' := joinRows obj rows) (by rw [j3]; omega) j1 (by rw [j2, c1]) (fun μ' hμ hext =>
                over_cells hR hV rfl (fun j => by
                  by_cases hj : j < el.length
                  · rw [List.getElem?_append_left hj, if_neg (by omega)]
                  · rw [List.getElem?_append_right (by omega)]
                    by_cases hj2 : j < len + rows.length
                    · rw [if_pos (by omega), hlel]
                    · rw [if_neg (by omega), List.getElem?_eq_none (by omega), List.getElem?_eq_none (by omega)]) hroom (by rw [List.length_append]; omega) (fun _ h => h) hμ hext)
              refine ⟨_, _, _, _, Pb, _, h, hrun, ?_, hw.1, hw.2⟩
              have hjl : (joinRows obj rows).len = len + rows.length := by rw [j3]; omega
              rw [hjl]
              exact .slice _ _ _ _ _ _ _ b off c (upd_same ..) (Nat.le_refl _) hfit (fun h => by cases h) (sizeAt_setCells vals.toList _ _ hsz) hoff
            · have hpos : 0 < rows.length := by omega
              have hsrc := src_slice hH ho hel c1 rfl (by omega) (by omega) hrel
              obtain ⟨oldv, hO, hOr⟩ := hsrc.2 len (by simp; omega)
              rw [List.drop_zero, List.take_of_length_le (l := el) (by omega), List.take_of_length_le (l := el) (by omega)] at hO
              obtain ⟨newCap, rest, g1, g2, g3⟩ := append_new (C := C) (w := w) (ty := ty) (base := some ⟨b, off, none⟩) (oldv := oldv) hds hdx hie hse hz1 hzs hA (sLen := len) (sCap := c) hfit (fun w' hw' => hOr C.P w' hw') (by rw [← hbe]; exact c6) c7
              have hJ := rowsRel_append hO hV
              have hjl : (el ++ rows).length = len + rows.length := by rw [List.length_append]; omega
              obtain ⟨μ', q1, q2, q3, q4⟩ := heap_move hH (rest := rest) ho (obj' := joinRows obj rows) (by rw [j3]; omega) hJ j1 (by rw [j2, c1]) (by rw [j3]; simp) (drewW w) ⟨rfl, rfl, rfl, rfl⟩ e
              rw [hjl] at q3
              refine ⟨_, _, _, _, Pb, μ', h, g3, ?_, q1, q2⟩
              refine .slice _ _ _ _ _ _ _ w.heap.size 0 newCap q3 (Nat.le_refl _) g1 (fun h => by cases h) ?_ (.inr (by simp))
              rw [hJ.len, hjl, g2] at q4
              rw [Nat.zero_add]
              have : (len + rows.length) * et.size + (newCap - (len + rows.length)) * et.size = newCap * et.size := by rw [← Nat.add_mul]; congr 1; omega
              rwa [this] at q4
    · exact h.elim
  · exact h.elim
end
end Go.Proofs.Ytamhmfdbnlkmkaa

/- Calls: what is told of trees. -/
set_option linter.unusedVariables false
set_option linter.unusedSectionVars false
set_option linter.unusedSimpArgs false
namespace Go.Proofs.Ytamhmfdbnlkmkaa
open Go Go.RowKit
variable [Obs]

def noMu : Mu := fun _ _ => none

section
variable {C : Ctx} {Pb : Nat → Prop} {μ : Mu} {B0 : Nat} {w : World} {T : Look} {H : Heap} {a : Act}

theorem heapRel_nil (hpb : ∀ b, Pb b → b < w.heap.size) : HeapRel Pb noMu w.heap.size w [] :=
  ⟨fun o ver b h => by simp [noMu] at h, fun o obj h => by simp at h, fun o o' obj obj' b h => by simp at h, hpb, Nat.le_refl _⟩

theorem rel_tc_mu {c : TC} {v : Value} {μ' : Mu} (h : Rel Pb μ w (.tc c) v) : Rel Pb μ' w (.tc c) v := by
  cases h with | tc _ _ h => exact .tc _ _ h

theorem rel_tree {x : AV} {v : Value} (hx : isTree x = true) (h : Rel Pb μ w x v) : Rel Pb noMu w x v := by
  cases x with
  | tc c => exact rel_tc_mu h
  | any => exact .any _
  | vptr s el i f => cases h with | vptr _ _ _ b off _ g h1 h2 h3 h4 => exact .vptr _ _ _ b off _ g h1 h2 h3 h4
  | agg cs =>
    cases h with
    | agg _ vs hl hh =>
      refine .agg _ _ hl fun i y u hi hu => ?_
      have h1 := hh i y u hi hu
      simp only [isTree] at hx
      have := List.all_eq_true.1 hx y (List.mem_of_getElem? hi)
      cases y with
      | tc c => exact rel_tc_mu h1
      | _ => simp [isTC] at this
  | _ => simp [isTree] at hx

theorem globRel_mu (h : GlobRel C Pb μ w) : GlobRel C Pb noMu w := fun ob g s el hg => by
  letI := ob
  exact rel_tree rfl (h ob g s el hg)

theorem GlobRel.mono {Pb' : Nat → Prop} {μ' : Mu} {w' : World} (h : GlobRel C Pb μ w) (hp : ∀ b, Pb b → Pb' b)
    (hμ : ∀ o ver b, μ o ver = some b → μ' o ver = some b) (hw : Ext Pb w w') : GlobRel C Pb' μ' w' := fun ob g s el hg => by
  letI := ob
  exact (h ob g s el hg).mono hp hμ hw

theorem GlobRel.goes {Pb' : Nat → Prop} {μ' : Mu} {w' : World} {n n' : Nat} (h : GlobRel C Pb μ w) (hg : Goes Pb μ B0 w n Pb' μ' w' n') : GlobRel C Pb' μ' w' := h.mono hg.pb hg.mu hg.ext

/-- Trees out of objects. -/
theorem fz_ok (hH : HeapRel Pb μ B0 w H) : ∀ (n : Nat) {x : AV} {v : Value} {c : TC}, fz H n x = some c → Rel Pb μ w x v → v.oneCell' = true ∨ x = .tc c → RT (fun b => Pb b ∨ (B0 ≤ b ∧ b < w.heap.size)) w c v
  | n, .tc c', v, c, h, hx, _ => by
    have : c' = c := by cases n <;> simpa [fz] using h
    subst this
    cases hx with
    | tc _ _ hx => exact hx.mono (fun b hb => .inl hb) (fun _ _ => rfl)
  | 0, .any, _, _, h, _, _ => by simp [fz] at h
  | 0, .agg _, _, _, h, _, _ => by simp [fz] at h
  | 0, .tuple _, _, _, h, _, _ => by simp [fz] at h
  | 0, .ptr .., _, _, h, _, _ => by simp [fz] at h
  | 0, .vptr .., _, _, h, _, _ => by simp [fz] at h
  | 0, .slice .., _, _, h, _, _ => by simp [fz] at h
  | 0, .map _, _, _, h, _, _ => by simp [fz] at h
  | 0, .func .., _, _, h, _, _ => by simp [fz] at h
  | n + 1, .any, _, _, h, _, _ => by simp [fz] at h
  | n + 1, .agg _, _, _, h, _, _ => by simp [fz] at h
  | n + 1, .tuple _, _, _, h, _, _ => by simp [fz] at h
  | n + 1, .ptr .., _, _, h, _, _ => by simp [fz] at h
  | n + 1, .vptr .., _, _, h, _, _ => by simp [fz] at h
  | n + 1, .map _, _, _, h, _, _ => by simp [fz] at h
  | n + 1, .func .., _, _, h, _, _ => by simp [fz] at h
  | n + 1, .slice o s i len cap ex ver, v, c, h, hx, _ => by
    -- rows of trees that memory holds
    have key : ∀ (obj : AObj) (el : List (List AV)) (tl : List (List TC)), H[o]? = some obj → rowsOf obj = some el → sizeOfObj obj = s → ver = obj.len → i + len ≤ el.length → tl.length = len →
        (∀ (j : Nat) (r : List TC), tl[j]? = some r → ∃ r', el[i + j]? = some r' ∧ r.length = r'.length ∧ ∀ (f : Nat) (y : TC), r[f]? = some y → ∃ z, r'[f]? = some z ∧ ∀ u, u.oneCell' = true → Rel Pb μ w z u → RT (fun b => Pb b ∨ (B0 ≤ b ∧ b < w.heap.size)) w y u) →
        RT (fun b => Pb b ∨ (B0 ≤ b ∧ b < w.heap.size)) w (.sl s tl) v := by
      intro obj el tl ho hr hs hver hle htl hrow
      subst hver
      have hob := hH.obj o obj ho
      obtain ⟨_, b', hb', hB, hP, hR⟩ := hob.rows hr
      have hbl := hob.block
      rw [hs] at hR
      cases hx with
      | slice _ _ _ _ _ _ _ b off cc hb h1 h2 h3 h4 h5 =>
        rw [hb] at hb'
        simp only [Option.some.injEq] at hb'
        subst hb'
        obtain ⟨r1, carr, ty, fr, r2, r3, r4, r5⟩ := hR
        have hblt : b < w.heap.size := lt_of_heap r2
        by_cases hl0 : len = 0
        · have : tl = [] := List.length_eq_zero_iff.1 (by omega)
          subst this
          subst hl0
          exact .sl s b off cc [] (fun _ _ => undef) (by simp) (fun h => absurd rfl h) (fun r hr => by cases hr) (fun i f r c hi => by simp at hi) (fun i f r c hi => by simp at hi)
        · obtain rfl : off = i * s := h5.resolve_left (by omega)
          have hget : ∀ (j f : Nat) (r : List TC) (y : TC), tl[j]? = some r → r[f]? = some y → ∃ u, w.cell? ⟨b, i * s + j * s + f, none⟩ = some u ∧ u.oneCell' = true ∧ RT (fun b => Pb b ∨ (B0 ≤ b ∧ b < w.heap.size)) w y u := by
            intro j f r y hj hf
            obtain ⟨r', g1, g2, g3⟩ := hrow j r hj
            obtain ⟨z, g4, g5⟩ := g3 f y hf
            obtain ⟨u, q1, q2, q3⟩ := r5 _ f r' z g1 g4
            refine ⟨u, ?_, q2, g5 u q2 q3⟩
            simp only [World.cell?, r2]
            rw [← Nat.add_mul]
            simpa using q1
          rw [← htl]
          refine .sl s b (i * s) cc tl (fun j f => (w.cell? ⟨b, i * s + j * s + f, none⟩).getD undef) (by omega) (fun _ => .inr ⟨hB, hblt⟩) (fun r hr => ?_) (fun j f r y hj hf => ?_) (fun j f r y hj hf => ?_)
          · obtain ⟨j, hj⟩ := List.mem_iff_getElem?.1 hr
            obtain ⟨r', g1, g2, _⟩ := hrow j r hj
            rw [g2]
            exact r1 r' (List.mem_of_getElem? g1)
          · obtain ⟨u, q1, q2, _⟩ := hget j f r y hj hf
            rw [q1]
            exact ⟨rfl, q2⟩
          · obtain ⟨u, q1, _, q3⟩ := hget j f r y hj hf
            rw [q1]
            exact q3
    simp only [fz] at h
    split at h
    · rename_i s' el ho
      split at h
      · rename_i hc
        obtain ⟨rfl, hver, hle⟩ := hc
        simp only [Option.some.injEq] at h
        subst h
        have hsub : ∀ j, (if i = 0 ∧ len = el.length then el else (el.drop i).take len)[j]? = if j < len then el[i + j]? else none := fun j => by
          split
          · rename_i hh
            obtain ⟨rfl, rfl⟩ := hh
            split
            · rw [Nat.zero_add]
            · rw [List.getElem?_eq_none (by omega)]
          · rw [List.getElem?_take]
            split
            · rw [List.getElem?_drop]
            · rfl
        refine key _ (el.map tcs) _ ho rfl rfl hver (by simpa using hle) ?_ fun j r hj => ?_
        · split
          · rename_i hh; exact hh.2.symm
          · simp; omega
        · rw [hsub] at hj
          split at hj
          · refine ⟨tcs r, by rw [List.getElem?_map, hj]; rfl, by simp [tcs], fun f y hf => ⟨.tc y, by simp [tcs, hf], fun u _ hu => ?_⟩⟩
            cases hu with
            | tc _ _ hu => exact hu.mono (fun b hb => .inl hb) (fun _ _ => rfl)
          · cases hj
      · cases h
    · rename_i s' el ho
      split at h
      · rename_i hc
        obtain ⟨rfl, hver, hle⟩ := hc
        simp only [Option.map_eq_some_iff] at h
        obtain ⟨tl, htl, rfl⟩ := h
        obtain ⟨m1, m2⟩ := mapO_ok htl
        have hlen : ((el.drop i).take len).length = len := by simp; omega
        refine key _ el tl ho rfl rfl hver hle (by rw [m1, hlen]) fun j r hj => ?_
        have hjl : j < len := by have := lt_of_get hj; omega
        have hex : ((el.drop i).take len)[j]? = some (el[i + j]'(by omega)) := by
          rw [List.getElem?_take_of_lt hjl, List.getElem?_drop, List.getElem?_eq_getElem]
        obtain ⟨r2, g1, g2⟩ := m2 j _ hex
        rw [hj] at g1
        simp only [Option.some.injEq] at g1
        subst g1
        obtain ⟨n1, n2⟩ := mapO_ok g2
        refine ⟨_, List.getElem?_eq_getElem _, n1, fun f y hf => ?_⟩
        have hfl : f < (el[i + j]'(by omega)).length := by have := lt_of_get hf; omega
        obtain ⟨y2, p1, p2⟩ := n2 f _ (List.getElem?_eq_getElem hfl)
        rw [hf] at p1
        simp only [Option.some.injEq] at p1
        subst p1
        exact ⟨_, List.getElem?_eq_getElem hfl, fun u hu hR => fz_ok hH n p2 hR (.inl hu)⟩
      · cases h
    · cases h

def Far (Pb : Nat → Prop) (B0 : Nat) (w : World) : Nat → Prop := fun b => Pb b ∨ (B0 ≤ b ∧ b < w.heap.size)

theorem fzA_ok (hH : HeapRel Pb μ B0 w H) {x y : AV} {v : Value} (h : fzA H x = some y) (hx : Rel Pb μ w x v) : Rel (Far Pb B0 w) noMu w y v := by
  have one : ∀ {x : AV} {c : TC}, fz H 8 x = some c → Rel Pb μ w x v → Rel (Far Pb B0 w) noMu w (.tc c) v := fun {x} {c} hf hR => by
    refine .tc _ _ (fz_ok hH 8 hf hR ?_)
    cases hR with
    | tc c' v hR => right; simp [fz] at hf; rw [hf]
    | slice => left; rfl
    | _ => simp [fz] at hf
  cases x with
  | agg cs =>
    simp only [fzA, Option.map_eq_some_iff] at h
    obtain ⟨l, hl, rfl⟩ := h
    obtain ⟨m1, m2⟩ := mapO_ok hl
    cases hx with
    | agg _ vs hlen hh =>
      refine .agg _ _ (by simp [tcs, m1, hlen]) fun i z u hz hu => ?_
      obtain ⟨c, hc, rfl⟩ := tcs_get hz
      have hil : i < cs.length := by have := lt_of_get hc; omega
      have hi := List.getElem?_eq_getElem hil
      obtain ⟨y, p1, p2⟩ := m2 i _ hi
      rw [hc] at p1
      simp only [Option.some.injEq] at p1
      subst p1
      have hR := hh i _ u hi hu
      refine .tc _ _ (fz_ok hH 8 p2 hR ?_)
      generalize cs[i] = e at p2 hR
      cases hR with
      | tc c' v hR => right; simp [fz] at p2; rw [p2]
      | slice => left; rfl
      | _ => simp [fz] at p2
  | tuple vs => simp [fzA] at h
  | any => simp only [fzA, Option.some.injEq] at h; subst h; exact .any _
  | vptr s el i f =>
    simp only [fzA, Option.some.injEq] at h
    subst h
    exact (rel_tree rfl hx).mono (fun b hb => .inl hb) (fun _ _ _ h => h) ⟨fun _ _ => rfl, fun _ _ h => h⟩
  | tc c =>
    simp only [fzA, Option.map_eq_some_iff] at h
    obtain ⟨c', hc', rfl⟩ := h
    exact one hc' hx
  | ptr o s i f ver => simp [fzA, fz] at h
  | slice o s i len cap ex ver =>
    simp only [fzA, Option.map_eq_some_iff] at h
    obtain ⟨c', hc', rfl⟩ := h
    exact one hc' hx
  | map o => simp [fzA, fz] at h
  | func fn f c => simp [fzA, fz] at h

theorem fzR_ok (hH : HeapRel Pb μ B0 w H) {x y : AV} {v : Value} (h : fzR H x = some y) (hx : Rel Pb μ w x v) : Rel (Far Pb B0 w) noMu w y v := by
  cases x with
  | tuple vs =>
    simp only [fzR, Option.map_eq_some_iff] at h
    obtain ⟨l, hl, rfl⟩ := h
    obtain ⟨m1, m2⟩ := mapO_ok hl
    cases hx with
    | tuple _ us hlen hh =>
      refine .tuple _ _ (by rw [m1, hlen]) fun i z u hz hu => ?_
      have hil : i < vs.length := by have := lt_of_get hz; omega
      have hi := List.getElem?_eq_getElem hil
      obtain ⟨y, p1, p2⟩ := m2 i _ hi
      rw [hz] at p1
      simp only [Option.some.injEq] at p1
      subst p1
      exact fzA_ok hH p2 (hh i _ u hi hu)
  | _ => exact fzA_ok hH (by simpa [fzR] using h) hx

/-- What a caller tells holds: of a call in any world that is as it says. -/
def CallOk (C : Ctx) (call : Caller) : Prop :=
  ∀ f args H k, call f args H k → ∀ (Pb : Nat → Prop) (μ : Mu) (B0 : Nat) (w : World) (vs : Array Value), RelL Pb μ w args vs → HeapRel Pb μ B0 w H → GlobRel C Pb μ w →
    Calls C.P f vs w fun e w' => ∃ r H' v Pb' μ', k r H' ∧ e = .returned v ∧ Rel Pb' μ' w' r v ∧ HeapRel Pb' μ' B0 w' H' ∧ Goes Pb μ B0 w H.length Pb' μ' w' H'.length

/-- What is told of a call of trees. -/
def TreeCall (C : Ctx) (f : FuncId) (args : List AV) (k : AV → Prop) : Prop :=
  ∀ (Pb : Nat → Prop) (w : World) (vs : Array Value), (∀ b, Pb b → b < w.heap.size) → RelL Pb noMu w args vs → GlobRel C Pb noMu w →
    Calls C.P f vs w fun e w' => ∃ r v, k r ∧ e = .returned v ∧ Rel (Far Pb w.heap.size w') noMu w' r v ∧ Below w.heap.size w w'

def SummOk (C : Ctx) : Prop := ∀ f g args r, C.summ f = some g → g args = some r → TreeCall C f args (· = r)

theorem callPure_ok {call : Caller} {f : FuncId} {args : List AV} {k : AV → Out} (hc : CallOk C call) (h : callPure call f args k) : TreeCall C f args (fun r => Ok (k r)) := by
  intro Pb w vs h1 h2 h3
  refine (hc _ _ _ _ h Pb noMu w.heap.size w vs h2 (heapRel_nil h1) h3).mono fun e w' ⟨r, H', v, Pb', μ', e1, e2, e3, e4, e5⟩ => ?_
  split at e1
  · rename_i t ht
    refine ⟨t, v, e1, e2, (fzR_ok e4 ht e3).mono (fun b hb => ?_) (fun _ _ _ h => h) ⟨fun _ _ => rfl, fun _ _ h => h⟩, e5.below⟩
    rcases hb with hb | hb
    · rcases e5.new b hb with h | h
      · exact .inl h
      · exact .inr ⟨h, e4.pb b hb⟩
    · exact .inr hb
  · exact e1.elim

theorem callT_ok {call : Caller} {f : FuncId} {args : List AV} {k : AV → Out} (hc : CallOk C call) (hs : SummOk C) (h : callT C call f args k) : TreeCall C f args (fun r => Ok (k r)) := by
  unfold callT at h
  split at h
  · rename_i g hg
    split at h
    · rename_i r hr
      intro Pb w vs h1 h2 h3
      refine (hs f g args r hg hr Pb w vs h1 h2 h3).mono fun e w' ⟨r', v, e1, e2, e3, e4⟩ => ?_
      subst e1
      exact ⟨_, v, h, e2, e3, e4⟩
    · exact callPure_ok hc h
  · exact callPure_ok hc h
end
end Go.Proofs.Ytamhmfdbnlkmkaa

/- Code: what the evaluator tells of it holds. -/
set_option linter.unusedVariables false
set_option linter.unusedSectionVars false
set_option linter.unusedSimpArgs false
namespace Go.Proofs.Ytamhmfdbnlkmkaa
open Go Go.RowKit
variable [Obs]

section
variable {C : Ctx} {Pb : Nat → Prop} {μ : Mu} {B0 : Nat} {w : World} {T : Look} {H : Heap} {a : Act}

theorem relL_append {l1 l2 : List AV} {v1 v2 : Array Value} (h1 : RelL Pb μ w l1 v1) (h2 : RelL Pb μ w l2 v2) : RelL Pb μ w (l1 ++ l2) (v1 ++ v2) := by
  refine ⟨by rw [List.length_append, Array.size_append, h1.1, h2.1], fun i x v hi hv => ?_⟩
  rcases Nat.lt_or_ge i l1.length with h | h
  · rw [List.getElem?_append_left h] at hi
    rw [Array.getElem?_append_left (by rw [← h1.1]; exact h)] at hv
    exact h1.2 i x v hi hv
  · rw [List.getElem?_append_right h] at hi
    rw [Array.getElem?_append_right (by rw [← h1.1]; exact h), ← h1.1] at hv
    exact h2.2 _ x v hi hv

theorem target_ok {f : AV} {fv : Value} {args as : List AV} {argv : Array Value} {g : FuncId} (h : target f args = some (g, as)) (hf : Rel Pb μ w f fv) (ha : RelL Pb μ w args argv) :
    ∃ first cap, fv = .func (.func g) first cap ∧ RelL Pb μ w as (first ++ argv ++ cap) := by
  unfold target at h
  split at h
  · simp only [Option.some.injEq, Prod.mk.injEq] at h
    obtain ⟨rfl, rfl⟩ := h
    obtain rfl := hf.sc_eq
    exact ⟨_, _, rfl, relL_append (relL_append (rel_scs ..) ha) (rel_scs ..)⟩
  · simp only [Option.some.injEq, Prod.mk.injEq] at h
    obtain ⟨rfl, rfl⟩ := h
    cases hf with
    | func _ _ _ vf vc h1 h2 h3 h4 => exact ⟨_, _, rfl, relL_append (relL_append ⟨h1, h3⟩ ha) ⟨h2, h4⟩⟩
  · cases h

theorem run_enter {P : Program} {g : FuncId} {fn : Func} {o : Oper} {f : Operand} {args : Array Operand} {ats : Array TypeId} {first cap : Array Value} (hop : o.op = .call { callee := .value f, args := args, argTypes := ats })
    (hfn : P.funcs[g]? = some fn) (he : entered fn = true) (hf : a.eval f = .func (.func g) first cap) (w : World) : (execOp a.eval o).run P w = .ok (.enter g (first ++ args.map a.eval ++ cap)) w := by
  obtain ⟨dst, op, type, pos, after, guard⟩ := o
  simp only at hop
  subst hop
  simp only [entered, Bool.and_eq_true, Bool.not_eq_true'] at he
  obtain ⟨h1, h2⟩ := he
  have h3 : fn.body.isNone = false := by cases hb : fn.body <;> simp_all
  simp only [execOp, resolve, hf, Deferred.ofValue, Sem.run_bind, Sem.run_pure, Result.andThen, invoke, callFunc, run_program, hfn, h2, h3]
  rfl

theorem idxB_eq : ∀ (l : List UInt8) (c : UInt8) (n : Nat), idxB l c n = if Go.Lib.indexByte l c = -1 then -1 else Go.Lib.indexByte l c + n
  | [], c, n => rfl
  | b :: l, c, n => by
    have ih := idxB_eq l c (n + 1)
    have hge := Go.Lib.indexByte_ge l c
    simp only [idxB, Go.Lib.indexByte]
    by_cases hb : (b == c) = true
    · simp [hb]
    · have hb' : (b == c) = false := by simpa using hb
      simp only [hb', _root_.cond_false, ih, Bool.false_eq_true, if_false, beq_iff_eq]
      by_cases h : Go.Lib.indexByte l c = -1
      · simp [h]
      · rw [if_neg h, if_neg h, if_neg (by omega)]; omega

theorem isIdx_ok {fn : Func} (h : isIdx fn = true) : fn.body.isNone = true ∧ fn.name = "internal/bytealg.IndexByteString" ∧ fn.origin = "" := by
  simpa [isIdx, Bool.and_eq_true, and_assoc] using h

theorem find_idx {fn : Func} (h1 : fn.name = "internal/bytealg.IndexByteString") (h2 : fn.origin = "") : Extern.findNext fn = none ∧ Extern.find fn = some Extern.BytealgIndexByte.indexByte := by
  constructor
  · unfold Extern.findNext
    rw [h1, h2]
    rfl
  · unfold Extern.find
    rw [h1, h2]
    rfl

theorem run_extern {P : Program} {g : FuncId} {fn : Func} {o : Oper} {f : Operand} {args : Array Operand} {ats : Array TypeId} {first cap : Array Value} {v : Value} {w : World} (hop : o.op = .call { callee := .value f, args := args, argTypes := ats })
    (he : isIdx fn = true) (hfn : P.funcs[g]? = some fn) (hf : a.eval f = .func (.func g) first cap) (hr : (Extern.BytealgIndexByte.indexByte (first ++ args.map a.eval ++ cap)).run P w = .ok v w) : (execOp a.eval o).run P w = .ok (.value v) w := by
  obtain ⟨dst, op, type, pos, after, guard⟩ := o
  simp only at hop
  subst hop
  obtain ⟨h1, h2, h3⟩ := isIdx_ok he
  have h4 : (fn.name == "runtime.NumGoroutine") = false := by rw [h2]; rfl
  obtain ⟨h5, h6⟩ := find_idx h2 h3
  simp only [execOp, resolve, hf, Deferred.ofValue, Sem.run_bind, Sem.run_pure, Result.andThen, invoke, callFunc, run_program, hfn, h4, h1, h5, h6, Bool.false_eq_true, if_false, if_true]
  simp only [mark, Sem.run, Sem.run_bind, Result.andThen, hr, Sem.run_pure]

theorem extern_ok {g : FuncId} {fn : Func} {as : List AV} {vs : Array Value} {k : AV → Out} (he : isIdx fn = true) (hfn : C.P.funcs[g]? = some fn) (h : externA as k) (hv : RelL Pb μ w as vs) :
    ∃ r v, k r ∧ Rel Pb μ w r v ∧ ∀ w', (Extern.BytealgIndexByte.indexByte vs).run C.P w' = .ok v w' := by
  unfold externA at h
  split at h
  · rename_i x y
    obtain ⟨u, v, rfl⟩ : ∃ u v, vs = #[u, v] := by
      have h2 : vs.toList.length = 2 := by rw [Array.length_toList, ← hv.1]; rfl
      match hl : vs.toList, h2 with
      | [u, v], _ => exact ⟨u, v, by rw [← Array.toList_inj, hl]⟩
    have hx := hv.2 0 x u rfl rfl
    have hy := hv.2 1 y v rfl rfl
    split at h
    · rename_i s n h1 h2
      obtain rfl := asSx_ok h1 hx
      obtain rfl := asSx_ok h2 hy
      refine ⟨_, _, h, Rel.of_sc .., fun w' => ?_⟩
      simp only [STy.val, den]
      rw [Go.Lib.run_indexByteString, idxB_eq]
      congr 2
      have := Go.Lib.indexByte_ge s.data.toList n.toNat.toUInt8
      split <;> omega
    · rename_i a b _ h1 h2
      obtain rfl := asSx_ok h1 hx
      obtain rfl := asSx_ok h2 hy
      refine ⟨_, _, h, Rel.of_sy .., fun w' => ?_⟩
      simp only [STy.val, den]
      rw [Go.Lib.run_indexByteString]
    · exact h.elim
  · exact h.elim

/-- What is told of an operation, whatever becomes of it. -/
def After (Pb : Nat → Prop) (μ : Mu) (B0 : Nat) (w : World) (H : Heap) (a : Act) (o : Oper) (k : AV → Heap → Out) (a' : Act) (w' : World) : Prop :=
  ∃ r H' v Pb' μ', k r H' ∧ a' = a.put o.dst v ∧ Rel Pb' μ' w' r v ∧ HeapRel Pb' μ' B0 w' H' ∧ Goes Pb μ B0 w H.length Pb' μ' w' H'.length

theorem wp_of_hres {o : Oper} {k : AV → Heap → Out} {s : Sem Value} {Q : Exit → Act → World → Prop} (he : execOp a.eval o = (do pure (.value (← s)))) (h : HRes C Pb μ B0 w H k s) :
    o.wp C.P a w (After Pb μ B0 w H a o k) Q := by
  obtain ⟨r, H', v, w', Pb', μ', h1, h2, h3, h4, h5⟩ := h
  unfold Oper.wp
  rw [he]
  simp only [Sem.run_bind, h2, Result.andThen, Sem.run_pure, Oper.upon]
  exact ⟨r, H', v, Pb', μ', h1, rfl, h3, h4, h5⟩

theorem wp_of_skip {o : Oper} {k : AV → Heap → Out} {s : Sem Unit} {Q : Exit → Act → World → Prop} (he : execOp a.eval o = (do s; pure .skip))
    (h : ∃ H' w' Pb' μ', k undefA H' ∧ s.run C.P w = .ok () w' ∧ HeapRel Pb' μ' B0 w' H' ∧ Goes Pb μ B0 w H.length Pb' μ' w' H'.length) : o.wp C.P a w (After Pb μ B0 w H a o k) Q := by
  obtain ⟨H', w', Pb', μ', h1, h2, h4, h5⟩ := h
  unfold Oper.wp
  rw [he]
  simp only [Sem.run_bind, h2, Result.andThen, Sem.run_pure, Oper.upon]
  exact ⟨undefA, H', undef, Pb', μ', h1, rfl, Rel.of_sc .., h4, h5⟩

theorem wp_of_qop {o : Oper} {k : AV → Heap → Out} {Q : Exit → Act → World → Prop} (hH : HeapRel Pb μ B0 w H) (h : QOp C Pb μ w a o fun r => k r H) : o.wp C.P a w (After Pb μ B0 w H a o k) Q := by
  obtain ⟨r, v, h1, h2, h3⟩ := h
  unfold Oper.wp
  rw [h3 w (Same.refl w)]
  exact ⟨r, H, v, Pb, μ, h1, rfl, h2, hH, Goes.refl ..⟩

theorem HeapRel.same {Pb' : Nat → Prop} {w' : World} (hH : HeapRel Pb μ B0 w H) (hs : Same w w') (hsz : w.heap.size ≤ w'.heap.size) (hp : ∀ b, Pb b → Pb' b) (hn : ∀ b, Pb' b → Pb b ∨ (w.heap.size ≤ b ∧ b < w'.heap.size)) :
    HeapRel Pb' μ B0 w' H := by
  have hext : Ext Pb w w' := ⟨fun b hb => hs b (hH.pb b hb), fun b n ⟨c, ty, fr, h1, h2⟩ => ⟨c, ty, fr, hs.get h1, h2⟩⟩
  refine ⟨hH.dom, fun o obj ho => (hH.obj o obj ho).mono hp (fun _ _ _ h => h) hext fun b hb => ?_, hH.inj, fun b hb => ?_, Nat.le_trans hH.base hsz⟩
  · obtain ⟨b', h1, h2, h3, h4⟩ := (hH.obj o obj ho).block
    rw [hb] at h1
    simp only [Option.some.injEq] at h1
    subst h1
    refine ⟨fun hp' => ?_, hs b h4⟩
    rcases hn b hp' with h | h
    · exact h3 h
    · omega
  · rcases hn b hb with h | h
    · exact Nat.lt_of_lt_of_le (hH.pb b h) hsz
    · exact h.2

/-- What a world that goes on above B says of one that went on below it. -/
theorem same_of_below {w' : World} (h : Below w.heap.size w w') : Same w w' := fun b hb => h.block b hb

mutual
theorem flatA_rel {Pb Pb' : Nat → Prop} {μ μ' : Mu} {w w' : World} : ∀ (r : AV) {v : Value}, flatA r = true → Rel Pb μ w r v → Rel Pb' μ' w' r v
  | .tc (.sc u), v, _, h => by rw [h.sc_eq]; exact Rel.of_sc ..
  | .tc (.sy t e), v, _, h => by cases h with | tc _ _ h => cases h; exact Rel.of_sy ..
  | .tc (.sl _ _), _, h, _ => by simp [flatA] at h
  | .agg cs, v, hf, h => by
    cases h with
    | agg _ vs hl hh =>
      exact .agg _ _ hl fun i x u hi hu => flatAs_rel cs (vs := vs) (by simpa [flatA] using hf) hh i x u hi hu
  | .tuple cs, v, hf, h => by
    cases h with
    | tuple _ vs hl hh =>
      exact .tuple _ _ hl fun i x u hi hu => flatAs_rel cs (vs := vs) (by simpa [flatA] using hf) hh i x u hi hu
  | .any, _, h, _ => by simp [flatA] at h
  | .ptr .., _, h, _ => by simp [flatA] at h
  | .vptr .., _, h, _ => by simp [flatA] at h
  | .slice .., _, h, _ => by simp [flatA] at h
  | .map _, _, h, _ => by simp [flatA] at h
  | .func .., _, h, _ => by simp [flatA] at h
theorem flatAs_rel {Pb Pb' : Nat → Prop} {μ μ' : Mu} {w w' : World} : ∀ (cs : List AV) {vs : Array Value}, flatA.flatAs cs = true →
    (∀ (i : Nat) (a : AV) (v : Value), cs[i]? = some a → vs[i]? = some v → Rel Pb μ w a v) → ∀ (i : Nat) (a : AV) (v : Value), cs[i]? = some a → vs[i]? = some v → Rel Pb' μ' w' a v
  | [], _, _, _ => fun i a v hi => by simp at hi
  | a :: r, vs, hf, hh => fun i x v hi hv => by
    simp only [flatA.flatAs, Bool.and_eq_true] at hf
    cases i with
    | zero =>
      simp only [List.getElem?_cons_zero, Option.some.injEq] at hi
      subst hi
      exact flatA_rel a hf.1 (hh 0 a v rfl hv)
    | succ i =>
      refine flatAs_rel r (vs := vs.extract 1 vs.size) hf.2 (fun j y u hj hu => hh (j + 1) y u (by simpa using hj) ?_) i x v (by simpa using hi) ?_
      · rw [Array.getElem?_extract] at hu
        split at hu
        · rw [Nat.add_comm]; exact hu
        · cases hu
      · rw [Array.getElem?_extract]
        have hlt : i + 1 < vs.size := by
          rcases Nat.lt_or_ge (i + 1) vs.size with h | h
          · exact h
          · simp [Array.getElem?_eq_none h] at hv
        rw [if_pos (by omega), Nat.add_comm]; exact hv
end

mutual
/-- The value of what is made of scalars alone. -/
def valA : AV → Value
  | .tc (.sc u) => u
  | .tc (.sy t e) => t.val (dv e)
  | .agg cs => .agg (valAs cs).toArray
  | .tuple cs => .tuple (valAs cs).toArray
  | _ => undef
def valAs : List AV → List Value
  | [] => []
  | a :: r => valA a :: valAs r
end

theorem valAs_get : ∀ (cs : List AV) (i : Nat), (valAs cs)[i]? = cs[i]?.map valA
  | [], i => by simp [valAs]
  | a :: r, 0 => by simp [valAs]
  | a :: r, i + 1 => by simp [valAs, valAs_get r i]

theorem valAs_len : ∀ (cs : List AV), (valAs cs).length = cs.length
  | [] => rfl
  | a :: r => by simp [valAs, valAs_len r]

mutual
theorem flatA_eq : ∀ (r : AV) {v : Value}, flatA r = true → Rel Pb μ w r v → v = valA r
  | .tc (.sc u), v, _, h => h.sc_eq
  | .tc (.sy t e), v, _, h => by cases h with | tc _ _ h => cases h; rfl
  | .tc (.sl _ _), _, h, _ => by simp [flatA] at h
  | .agg cs, v, hf, h => by
    cases h with
    | agg _ vs hl hh =>
      rw [valA, ← flatAs_eq cs (vs := vs.toList) (by simpa [flatA] using hf) (by simpa using hl) fun i x u hi hu => hh i x u hi (by simpa using hu)]
  | .tuple cs, v, hf, h => by
    cases h with
    | tuple _ vs hl hh =>
      rw [valA, ← flatAs_eq cs (vs := vs.toList) (by simpa [flatA] using hf) (by simpa using hl) fun i x u hi hu => hh i x u hi (by simpa using hu)]
  | .any, _, h, _ => by simp [flatA] at h
  | .ptr .., _, h, _ => by simp [flatA] at h
  | .vptr .., _, h, _ => by simp [flatA] at h
  | .slice .., _, h, _ => by simp [flatA] at h
  | .map _, _, h, _ => by simp [flatA] at h
  | .func .., _, h, _ => by simp [flatA] at h
theorem flatAs_eq : ∀ (cs : List AV) {vs : List Value}, flatA.flatAs cs = true → cs.length = vs.length →
    (∀ (i : Nat) (a : AV) (v : Value), cs[i]? = some a → vs[i]? = some v → Rel Pb μ w a v) → vs = valAs cs
  | [], vs, _, hl, _ => List.length_eq_zero_iff.1 hl.symm
  | a :: r, vs, hf, hl, hh => by
    cases vs with
    | nil => simp at hl
    | cons v vs =>
      simp only [flatA.flatAs, Bool.and_eq_true] at hf
      rw [valAs, ← flatA_eq a hf.1 (hh 0 a v rfl rfl), ← flatAs_eq r (vs := vs) hf.2 (by simpa using hl) fun i x u hi hu => hh (i + 1) x u (by simpa using hi) (by simpa using hu)]
end

mutual
theorem flatA_val : ∀ (r : AV), flatA r = true → Rel Pb μ w r (valA r)
  | .tc (.sc u), _ => Rel.of_sc ..
  | .tc (.sy t e), _ => Rel.of_sy ..
  | .tc (.sl _ _), h => by simp [flatA] at h
  | .agg cs, hf => .agg _ _ (by simp [valAs_len]) fun i x u hi hu => flatAs_val cs (by simpa [flatA] using hf) i x u hi (by simpa using hu)
  | .tuple cs, hf => .tuple _ _ (by simp [valAs_len]) fun i x u hi hu => flatAs_val cs (by simpa [flatA] using hf) i x u hi (by simpa using hu)
  | .any, h => by simp [flatA] at h
  | .ptr .., h => by simp [flatA] at h
  | .vptr .., h => by simp [flatA] at h
  | .slice .., h => by simp [flatA] at h
  | .map _, h => by simp [flatA] at h
  | .func .., h => by simp [flatA] at h
theorem flatAs_val : ∀ (cs : List AV), flatA.flatAs cs = true → ∀ (i : Nat) (a : AV) (v : Value), cs[i]? = some a → (valAs cs)[i]? = some v → Rel Pb μ w a v
  | [], _ => fun i a v hi => by simp at hi
  | a :: r, hf => fun i x v hi hv => by
    simp only [flatA.flatAs, Bool.and_eq_true] at hf
    cases i with
    | zero =>
      simp only [List.getElem?_cons_zero, Option.some.injEq, valAs] at hi hv
      subst hi; subst hv
      exact flatA_val a hf.1
    | succ i => exact flatAs_val r hf.2 i x v (by simpa using hi) (by simpa [valAs] using hv)
end

theorem callA_ok {call : Caller} (hc : CallOk C call) (hs : SummOk C) {g : FuncId} {as : List AV} {vs : Array Value} {k : AV → Heap → Out} (h : callA C call g as H k) (hv : RelL Pb μ w as vs) (hH : HeapRel Pb μ B0 w H)
    (hG : GlobRel C Pb μ w) : Calls C.P g vs w fun e w' => ∃ r H' v Pb' μ', k r H' ∧ e = .returned v ∧ Rel Pb' μ' w' r v ∧ HeapRel Pb' μ' B0 w' H' ∧ Goes Pb μ B0 w H.length Pb' μ' w' H'.length := by
  have farw : ∀ {w' : World}, Below w.heap.size w w' → ∀ b, Far Pb w.heap.size w' b → Pb b ∨ (w.heap.size ≤ b ∧ b < w'.heap.size) := fun _ b hb => hb
  have stays : ∀ {w' : World}, Below w.heap.size w w' → HeapRel (Far Pb w.heap.size w') μ B0 w' H ∧ Goes Pb μ B0 w H.length (Far Pb w.heap.size w') μ w' H.length := fun {w'} hb => by
    have hsm := same_of_below hb
    refine ⟨hH.same hsm hb.size (fun b h => .inl h) (fun b h => h), fun b h => .inl h, fun _ _ _ h => h, ⟨fun b h => hsm b (hH.pb b h), fun b n ⟨c, ty, fr, h1, h2⟩ => ⟨c, ty, fr, hsm.get h1, h2⟩⟩, hb.mono hH.base, Nat.le_refl _, fun b h => h.imp id And.left⟩
  unfold callA at h
  split at h
  · split at h
    · rename_i hall
      have hv' : RelL Pb noMu w as vs := ⟨hv.1, fun i x v hi hx => rel_tree (List.all_eq_true.1 hall x (List.mem_of_getElem? hi)) (hv.2 i x v hi hx)⟩
      refine (callT_ok hc hs h Pb w vs hH.pb hv' (globRel_mu hG)).mono fun e w' ⟨r, v, h1, h2, h3, h4⟩ => ?_
      obtain ⟨s1, s2⟩ := stays h4
      exact ⟨r, H, v, _, μ, h1, h2, h3.mono (fun _ h => h) (fun o ver b h => by cases h) ⟨fun _ _ => rfl, fun _ _ h => h⟩, s1, s2⟩
    · by_cases hflt : C.flat g = true
      case neg =>
        simp only [Bool.not_eq_true] at hflt
        rw [hflt, _root_.cond_false] at h
        exact hc _ _ _ _ h Pb μ B0 w vs hv hH hG
      rw [hflt, _root_.cond_true] at h
      split at h
      · rename_i as' has
        obtain ⟨m1, m2⟩ := mapO_ok has
        have hv' : RelL (Far Pb B0 w) noMu w as' vs := ⟨by rw [m1]; exact hv.1, fun i x v hi hx => by
          have hil : i < as.length := by have := lt_of_get hi; omega
          have hi' := List.getElem?_eq_getElem hil
          obtain ⟨y, p1, p2⟩ := m2 i _ hi'
          rw [hi] at p1
          simp only [Option.some.injEq] at p1
          subst p1
          exact fzA_ok hH p2 (hv.2 i _ v hi' hx)⟩
        refine (callT_ok hc hs h (Far Pb B0 w) w vs (fun b hb => hb.elim (hH.pb b) And.right) hv' ((globRel_mu hG).mono (fun b h => .inl h) (fun _ _ _ h => h) (Ext.refl ..))).mono fun e w' ⟨r, v, h1, h2, h3, h4⟩ => ?_
        obtain ⟨hfl, h1'⟩ := cond_false h1
        obtain ⟨s1, s2⟩ := stays h4
        exact ⟨_, H, v, _, μ, h1', h2, flatA_rel r hfl h3, s1, s2⟩
      · exact h.elim
  · exact hc _ _ _ _ h Pb μ B0 w vs hv hH hG

theorem aop_ok {call : Caller} (hc : CallOk C call) (hsm : SummOk C) {o : Oper} {k : AV → Heap → Out} {Q : Exit → Act → World → Prop} (h : aop C call o T H k) (hT : RelF Pb μ w T a.tmps) (hH : HeapRel Pb μ B0 w H) (hG : GlobRel C Pb μ w) :
    o.wp C.P a w (After Pb μ B0 w H a o k) Q := by
  have quiet : qop C o T H (fun v => k v H) → o.wp C.P a w (After Pb μ B0 w H a o k) Q := fun h => wp_of_qop hH (qop_ok h hT hH hG)
  obtain ⟨dst, op, type, pos, after, guard⟩ := o
  cases op
  case alloc t =>
    simp only [aop] at h
    split at h
    · rename_i ti ht
      split at h
      · rename_i z hz
        exact wp_of_hres rfl (alloc_ok ht hz h hH)
      · exact h.elim
    · exact h.elim
  case box t x =>
    simp only [aop] at h
    split at h
    · rename_i ti cs ht hcs
      exact wp_of_hres rfl (box_ok ht (ev_ok hT hG x) hcs h hH)
    · exact h.elim
  case build t parts =>
    simp only [aop] at h
    split at h
    · rename_i ti ht
      obtain ⟨r, v, h1, h2, h3⟩ := build_ok ht h (parts_rel hT hG parts)
      exact wp_of_hres rfl ⟨r, H, v, w, Pb, μ, h1, h3 w (Same.refl w), h2, hH, Goes.refl ..⟩
    · exact h.elim
  case buildSlice t n parts =>
    simp only [aop] at h
    split at h
    · rename_i ti ht
      exact wp_of_hres rfl (buildSlice_ok ht h (parts_rel hT hG parts) hH)
    · exact h.elim
  case store t x y =>
    simp only [aop] at h
    split at h
    · rename_i ti ht
      exact wp_of_skip rfl (storeA_ok ht h (ev_ok hT hG x) (ev_ok hT hG y) hH)
    · exact h.elim
  case makeSlice t l c =>
    simp only [aop] at h
    split at h
    · rename_i ti ht
      exact wp_of_hres rfl (makeSlice_ok ht h (ev_ok hT hG l) (ev_ok hT hG c) hH)
    · exact h.elim
  case makeMap t r =>
    simp only [aop] at h
    split at h
    · exact wp_of_hres rfl (makeMap_ok (C := C) h hH)
    · exact h.elim
  case lookup t x i ok =>
    simp only [aop] at h
    split at h
    · rename_i ti ht
      obtain ⟨r, v, h1, h2, h3⟩ := lookupA_ok ht h (ev_ok hT hG x) (ev_ok hT hG i) hH
      exact wp_of_hres rfl ⟨r, H, v, w, Pb, μ, h1, h3, h2, hH, Goes.refl ..⟩
    · exact h.elim
  case mapUpdate t m key x =>
    simp only [aop] at h
    split at h
    · rename_i ti ht
      exact wp_of_skip rfl (mapUpdateA_ok ht h (ev_ok hT hG m) (ev_ok hT hG key) (ev_ok hT hG x) hH)
    · exact h.elim
  case insert t m key x =>
    simp only [aop] at h
    split at h
    · rename_i ti ht
      exact wp_of_skip rfl (mapUpdateA_ok ht h (ev_ok hT hG m) (ev_ok hT hG key) (ev_ok hT hG x) hH)
    · exact h.elim
  case call c =>
    obtain ⟨callee, args, argTypes⟩ := c
    cases callee
    case builtin b =>
      cases b
      case append =>
        simp only [aop] at h
        split at h
        · rename_i s x st xt hargs hts
          have ha : args = #[s, x] := by rw [← Array.toList_inj]; exact hargs
          have hb : argTypes = #[st, xt] := by rw [← Array.toList_inj]; exact hts
          subst ha; subst hb
          split at h
          · rename_i sti xti hst hxt
            split at h
            · rename_i e hu
              split at h
              · rename_i et hte
                split at h
                · rename_i z hz
                  have hcf := cond_false h; clear h; obtain ⟨hcc, h⟩ := hcf
                  simp only [Bool.and_eq_true, decide_eq_true_eq] at hcc
                  exact wp_of_hres (s := Builtin.append_ #[st, xt] type #[a.eval s, a.eval x]) (by simp [execOp, resolve, invoke, builtin])
                    (append_ok hst hxt hu hte hz hcc.1 hcc.2 h (ev_ok hT hG s) (ev_ok hT hG x) hH)
                · exact h.elim
              · exact h.elim
            · exact h.elim
          · exact h.elim
        · exact h.elim
      all_goals exact quiet h
    case value f =>
      simp only [aop] at h
      split at h
      · rename_i g as htg
        split at h
        · rename_i fn hfn
          obtain ⟨first, cap, hfv, hR⟩ := target_ok htg (ev_ok hT hG f) (relL_map hT hG args)
          rcases cond_split h with ⟨hen, h⟩ | ⟨_, h⟩
          case inr =>
            obtain ⟨hix, h⟩ := cond_false h
            obtain ⟨r, v, h1, h2, h3⟩ := extern_ok hix hfn h hR
            unfold Oper.wp
            rw [run_extern rfl hix hfn hfv (h3 w)]
            exact ⟨r, H, v, Pb, μ, h1, rfl, h2, hH, Goes.refl ..⟩
          unfold Oper.wp
          rw [run_enter rfl hfn hen hfv w]
          simp only [Oper.upon]
          refine (callA_ok hc hsm h hR hH hG).mono fun e w' ⟨r, H', v, Pb', μ', h1, h2, h3, h4, h5⟩ => ?_
          subst h2
          exact ⟨r, H', v, Pb', μ', h1, rfl, h3, h4, h5⟩
        · exact h.elim
      · exact h.elim
    all_goals exact quiet h
  all_goals exact quiet h

theorem wantedA_ok {ops : Array Oper} {o : Oper} {g : AV × Bool} (h : wantedA ops o T = some g) (hT : RelF Pb μ w T a.tmps) :
    ∃ v, Rel Pb μ w g.1 v ∧ ∀ b, v = .bool b → Region.wanted o (yielded ops a.tmps) = (b == g.2) := by
  unfold wantedA at h
  unfold Region.wanted
  cases hg : o.guard with
  | none =>
    rw [hg] at h
    simp only [Option.some.injEq] at h
    subst h
    exact ⟨.bool true, Rel.of_sc .., fun b hb => by cases hb; rfl⟩
  | some jw =>
    obtain ⟨j, want⟩ := jw
    rw [hg] at h
    simp only at h ⊢
    unfold yielded
    cases hd : (ops[j]?).bind (·.dst) with
    | none =>
      rw [hd] at h
      simp only [Option.some.injEq] at h
      subst h
      exact ⟨.bool false, Rel.of_sc .., fun b hb => by cases hb; rfl⟩
    | some d =>
      rw [hd] at h
      simp only [Option.bind_some] at h ⊢
      by_cases hlt : d < a.tmps.size
      · have hv : a.tmps[d]? = some a.tmps[d] := Array.getElem?_eq_getElem hlt
        have hR := hT d
        have hget : a.tmps.getD d undef = a.tmps[d] := by simp [hlt]
        rw [hget] at hR
        rw [hv]
        split at h
        · rename_i b' he
          rw [he] at hR
          have := hR.sc_eq
          simp only [Option.some.injEq] at h
          subst h
          exact ⟨_, Rel.of_sc .., fun b hb => by cases hb; rw [this]; cases b' <;> cases want <;> rfl⟩
        · rename_i e he
          rw [he] at hR
          simp only [Option.some.injEq] at h
          subst h
          exact ⟨_, hR, fun b hb => by rw [hb]; cases b <;> cases want <;> rfl⟩
        · cases h
        · rename_i hnb hns hna
          simp only [Option.some.injEq] at h
          subst h
          refine ⟨.bool false, Rel.of_sc .., fun b hb => ?_⟩
          cases hb
          generalize hx : T d = x at *
          generalize a.tmps[d] = v at *
          cases hR with
          | tc c v hR =>
            cases hR with
            | sc v => cases v <;> first | rfl | exact absurd rfl (hnb _)
            | sy t e => cases t <;> first | rfl | exact absurd rfl (hns _)
            | nil => rfl
            | sl => rfl
          | any => exact absurd rfl hna
          | agg => rfl
          | tuple => rfl
          | ptr => rfl
          | vptr => rfl
          | slice => rfl
          | map => rfl
          | func => rfl
      · have hv : a.tmps[d]? = none := Array.getElem?_eq_none (Nat.le_of_not_lt hlt)
        have hR := hT d
        have hget : a.tmps.getD d undef = undef := by simp [hlt]
        rw [hget] at hR
        rw [hv]
        split at h
        · rename_i b' he
          rw [he] at hR
          have := hR.sc_eq
          cases this
        · rename_i e he
          rw [he] at hR
          generalize hu : undef = u at hR
          cases hR with
          | tc _ _ hR => cases hR; cases hu
        · cases h
        · simp only [Option.some.injEq] at h
          subst h
          exact ⟨.bool false, Rel.of_sc .., fun b hb => by cases hb; rfl⟩

theorem guardA_ok {ops : Array Oper} {o : Oper} {g : AV × Bool} {yes no : Out} (h : wantedA ops o T = some g) (hT : RelF Pb μ w T a.tmps) (hg : Ok (guardA g yes no)) :
    (Region.wanted o (yielded ops a.tmps) = true ∧ yes) ∨ (Region.wanted o (yielded ops a.tmps) = false ∧ no) := by
  obtain ⟨v, hv, hw⟩ := wantedA_ok h hT
  obtain ⟨c, want⟩ := g
  cases want with
  | true =>
    rcases condA_ok hg hv with ⟨rfl, hy⟩ | ⟨rfl, hy⟩
    · exact .inl ⟨hw _ rfl, hy⟩
    · exact .inr ⟨hw _ rfl, hy⟩
  | false =>
    rcases condA_ok hg hv with ⟨rfl, hy⟩ | ⟨rfl, hy⟩
    · exact .inr ⟨hw _ rfl, hy⟩
    · exact .inl ⟨hw _ rfl, hy⟩
end
end Go.Proofs.Ytamhmfdbnlkmkaa

