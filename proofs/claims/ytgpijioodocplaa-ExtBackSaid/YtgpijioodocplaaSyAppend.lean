/- append and copy. -/
import Derived.Test.YtgpijioodocplaaSyOps3
set_option linter.unusedVariables false
set_option linter.unusedSectionVars false
set_option linter.unusedSimpArgs false
namespace Go.Proofs.Ytgpijioodocplaa
open Go Go.RowKit
variable [Obs]

section
variable {C : Ctx} {Pb : Nat → Prop} {μ : Mu} {B0 : Nat} {w : World} {T : Look} {H : Heap} {a : Act}

/-- Rows that are read from where a value leads. -/
def Src (Pb : Nat → Prop) (μ : Mu) (w : World) (s : Nat) (x : Value) (rows : List (List AV)) : Prop :=
  (∀ (P : Program) w', (Builtin.lenOf x).run P w' = .ok rows.length w') ∧
    ∀ n, n ≤ rows.length → ∃ vals, RowsRel Pb μ w s (rows.take n) vals ∧ ∀ (P : Program) w', Same w w' → (Builtin.firstCells s n x).run P w' = .ok vals w'

theorem rowsRel_nil (s : Nat) : RowsRel Pb μ w s [] #[] := ⟨by simp, fun r hr => (by cases hr), fun i f r x hi => (by simp at hi)⟩

theorem src_nil (s n c : Nat) (hn : n = 0) : Src Pb μ w s (.slice none n c) [] :=
  ⟨fun P w' => by subst hn; rfl, fun n hn => ⟨#[], by simpa using rowsRel_nil s, fun P w' _ => rfl⟩⟩

/-- Rows of a slice, its cells being known. -/
theorem src_cells {s b x c : Nat} {rows : List (List AV)} (hs : 0 < s) (hrows : ∀ r, r ∈ rows → r.length = s)
    (hc : ∀ (i f : Nat) (r : List AV) (u : AV), rows[i]? = some r → r[f]? = some u → ∃ v, w.cell? ⟨b, x + i * s + f, none⟩ = some v ∧ v.oneCell' = true ∧ Rel Pb μ w u v) :
    Src Pb μ w s (.slice (some ⟨b, x, none⟩) rows.length c) rows :=
  ⟨fun P w' => rfl, fun n hn => by
    obtain ⟨vals, h1, h2⟩ := run_loadCells_rows hs hrows hn hc
    exact ⟨vals, h1, fun P w' hw' => h2 P w' hw'⟩⟩

theorem tree_cells {s b o : Nat} {el : List (List TC)} {g : Nat → Nat → Value}
    (hc : ∀ (i f : Nat) (r : List TC) (c : TC), el[i]? = some r → r[f]? = some c → w.cell? ⟨b, o + i * s + f, none⟩ = some (g i f) ∧ (g i f).oneCell' = true)
    (hr : ∀ (i f : Nat) (r : List TC) (c : TC), el[i]? = some r → r[f]? = some c → RT Pb w c (g i f)) :
    ∀ (i f : Nat) (r : List AV) (u : AV), (el.map tcs)[i]? = some r → r[f]? = some u → ∃ v, w.cell? ⟨b, o + i * s + f, none⟩ = some v ∧ v.oneCell' = true ∧ Rel Pb μ w u v := by
  intro i f r u hi hf
  simp only [List.getElem?_map, Option.map_eq_some_iff] at hi
  obtain ⟨r', hr', rfl⟩ := hi
  obtain ⟨c, hc', rfl⟩ := tcs_get hf
  exact ⟨g i f, (hc i f r' c hr' hc').1, (hc i f r' c hr' hc').2, .tc _ _ (hr i f r' c hr' hc')⟩

theorem obj_cells {b s i0 n : Nat} {el : List (List AV)} (hR : CellsRel Pb μ w b s el) :
    ∀ (i f : Nat) (r : List AV) (u : AV), ((el.drop i0).take n)[i]? = some r → r[f]? = some u → ∃ v, w.cell? ⟨b, i0 * s + i * s + f, none⟩ = some v ∧ v.oneCell' = true ∧ Rel Pb μ w u v := by
  intro i f r u hi hf
  rw [List.getElem?_take] at hi
  split at hi
  · rw [List.getElem?_drop] at hi
    obtain ⟨_, c, ty, fr, h2, _, _, h5⟩ := hR
    obtain ⟨v, q1, q2, q3⟩ := h5 _ f r u hi hf
    refine ⟨v, ?_, q2, q3⟩
    simp only [World.cell?, h2]
    rw [← Nat.add_mul]
    simpa using q1
  · cases hi

/-- Rows of a slice of an object. -/
theorem src_slice {o s i len cap ver : Nat} {ex : Bool} {v : Value} {obj : AObj} {el : List (List AV)} (hH : HeapRel Pb μ B0 w H) (ho : H[o]? = some obj) (hr : rowsOf obj = some el) (hs : sizeOfObj obj = s)
    (hver : ver = obj.len) (hle : i + len ≤ el.length) (hs0 : 0 < s) (hx : Rel Pb μ w (.slice o s i len cap ex ver) v) : Src Pb μ w s v ((el.drop i).take len) := by
  subst hver
  obtain ⟨_, b', hb', hB, hP, hR⟩ := (hH.obj o obj ho).rows hr
  rw [hs] at hR
  cases hx with
  | slice _ _ _ _ _ _ _ b off c hb h1 h2 h3 h4 h5 =>
    rw [hb] at hb'
    simp only [Option.some.injEq] at hb'
    subst hb'
    have hlen : ((el.drop i).take len).length = len := by simp; omega
    by_cases hl0 : len = 0
    · subst hl0
      simp only [List.take_zero]
      exact ⟨fun P w' => rfl, fun n hn => by
        have : n = 0 := by simpa using hn
        subst this
        exact ⟨#[], by simpa using rowsRel_nil s, fun P w' _ => by simp [Builtin.firstCells, loadCells, loadCellsFrom]⟩⟩
    · obtain rfl : off = i * s := h5.resolve_left (by omega)
      have := src_cells (Pb := Pb) (μ := μ) (w := w) (s := s) (b := b) (x := i * s) (c := c) (rows := (el.drop i).take len) hs0 (fun r hr => hR.rows r (List.mem_of_mem_drop (List.mem_of_mem_take hr))) (obj_cells hR)
      rwa [hlen] at this

theorem src_tree {s : Nat} {el : List (List TC)} {v : Value} (hs0 : 0 < s) (hx : Rel Pb μ w (.tc (.sl s el)) v) : Src Pb μ w s v (el.map tcs) := by
  cases hx with
  | tc _ _ hx =>
    cases hx with
    | nil => exact src_nil s 0 0 rfl
    | sl _ b o cap _ g hl hb hs hc hr =>
      have := src_cells (Pb := Pb) (μ := μ) (w := w) (s := s) (b := b) (x := o) (c := cap) (rows := el.map tcs) hs0 (fun r hr => by
        obtain ⟨r', hr', rfl⟩ := List.mem_map.1 hr
        simp [tcs, hs r' hr']) (tree_cells hc hr)
      simpa using this

theorem srcRows_ok {et : TI} {z : List TC} {x : AV} {v : Value} {k : List (List AV) → Out} (h : srcRows H et false z x k) (hx : Rel Pb μ w x v) (hH : HeapRel Pb μ B0 w H) (hs0 : 0 < et.size) :
    ∃ rows, k rows ∧ Src Pb μ w et.size v rows := by
  unfold srcRows at h
  simp only at h
  split at h
  · obtain rfl := hx.sc_eq
    exact ⟨[], h, src_nil _ _ _ rfl⟩
  · rename_i s' el
    have hcf := cond_false h; clear h; obtain ⟨hc, h⟩ := hcf
    simp only [decide_eq_true_eq] at hc
    subst hc
    exact ⟨_, h, src_tree hs0 hx⟩
  · rename_i o s' i len cap ex ver
    split at h
    · rename_i s2 el ho
      have hcf := cond_false h; clear h; obtain ⟨hc, h⟩ := hcf
      simp only [Bool.and_eq_true, decide_eq_true_eq] at hc
      obtain ⟨⟨⟨rfl, rfl⟩, hver⟩, hle⟩ := hc
      have := src_slice hH ho rfl rfl hver (by simpa using hle) hs0 hx
      refine ⟨_, h, ?_⟩
      rwa [← List.map_drop, ← List.map_take] at this
    · rename_i s2 el ho
      have hcf := cond_false h; clear h; obtain ⟨hc, h⟩ := hcf
      simp only [Bool.and_eq_true, decide_eq_true_eq] at hc
      obtain ⟨⟨⟨rfl, rfl⟩, hver⟩, hle⟩ := hc
      exact ⟨_, h, src_slice hH ho rfl rfl hver hle hs0 hx⟩
    · exact h.elim
  · exact h.elim

theorem nextslicecap_le (need old : Nat) (h : old < need) : Builtin.nextslicecap need old ≤ 2 * need + 1000 := by
  have grow : ∀ r c, c ≤ 2 * need + 1000 → Builtin.growBy need r c ≤ 2 * need + 1000 := by
    intro r
    induction r with
    | zero => intro c hc; exact hc
    | succ r ih =>
      intro c hc
      unfold Builtin.growBy
      split
      · exact hc
      · exact ih _ (by omega)
  unfold Builtin.nextslicecap
  split
  · omega
  · split
    · omega
    · exact grow 4 old (by omega)
end
end Go.Proofs.Ytgpijioodocplaa
