/- Rows of cells: written, read, joined. -/
import Derived.Test.YtgpijioodocplaaSyHeap
set_option linter.unusedVariables false
set_option linter.unusedSectionVars false
set_option linter.unusedSimpArgs false
namespace Go.Proofs.Ytgpijioodocplaa
open Go Go.RowKit
variable [Obs]

def setR (c : Array Value) (o : Nat) : List Value → Array Value
  | [] => c
  | v :: r => setR (c.setIfInBounds o v) (o + 1) r

theorem setR_size : ∀ (vs : List Value) (c : Array Value) (o : Nat), (setR c o vs).size = c.size
  | [], _, _ => rfl
  | v :: r, c, o => by simp [setR, setR_size r]

theorem setR_get : ∀ (vs : List Value) (c : Array Value) (o k : Nat), o + vs.length ≤ c.size →
    (setR c o vs)[k]? = if o ≤ k ∧ k < o + vs.length then vs[k - o]? else c[k]?
  | [], c, o, k, _ => by
    have : ¬ (o ≤ k ∧ k < o + ([] : List Value).length) := by simp
    rw [if_neg this]; rfl
  | v :: r, c, o, k, h => by
    simp only [List.length_cons] at h
    simp only [setR]
    rw [setR_get r _ (o + 1) k (by simp; omega)]
    by_cases h1 : k = o
    · subst h1
      rw [if_neg (by omega), if_pos (by simp), Array.getElem?_setIfInBounds]
      simp
      omega
    · by_cases h2 : o + 1 ≤ k ∧ k < o + 1 + r.length
      · rw [if_pos h2, if_pos (by simp; omega)]
        rw [show k - o = k - (o + 1) + 1 by omega, List.getElem?_cons_succ]
      · rw [if_neg h2, if_neg (by simp; omega), Array.getElem?_setIfInBounds, if_neg (by omega)]

theorem heap_setCell_self {w : World} {b o : Nat} {v : Value} {c : Array Value} {ty : TypeId} {fr : Nat × Nat} (h : w.heap[b]? = some (.cells c ty fr)) :
    (w.setCell ⟨b, o, none⟩ v).heap[b]? = some (.cells (c.setIfInBounds o v) ty fr) := by
  simp [World.setCell, Array.getElem?_modify, h]

theorem heap_setCells_self : ∀ (vs : List Value) {w : World} {b o : Nat} {c : Array Value} {ty : TypeId} {fr : Nat × Nat}, w.heap[b]? = some (.cells c ty fr) →
    (w.setCells b o vs).heap[b]? = some (.cells (setR c o vs) ty fr)
  | [], _, _, _, _, _, _, h => h
  | v :: r, _, _, _, _, _, _, h => heap_setCells_self r (heap_setCell_self h)

theorem heap_setCells_other : ∀ (vs : List Value) {w : World} {b o b' : Nat}, b' ≠ b → (w.setCells b o vs).heap[b']? = w.heap[b']?
  | [], _, _, _, _, _ => rfl
  | v :: r, w, b, o, b', h => by
    rw [World.setCells, heap_setCells_other r h, Below.heap_setCell _ _ _ _ h]

theorem size_setCells : ∀ (vs : List Value) {w : World} {b o : Nat}, (w.setCells b o vs).heap.size = w.heap.size
  | [], _, _, _ => rfl
  | _ :: r, w, b, o => by rw [World.setCells, size_setCells r]; simp [World.setCell]

theorem rest_setCells : ∀ (vs : List Value) {w : World} {b o : Nat}, (w.setCells b o vs).os = w.os ∧ (w.setCells b o vs).tape = w.tape ∧ (w.setCells b o vs).output = w.output
  | [], _, _, _ => ⟨rfl, rfl, rfl⟩
  | v :: r, w, b, o => by rw [World.setCells]; exact rest_setCells r (w := w.setCell ⟨b, o, none⟩ v)

theorem sizeAt_setCells (vs : List Value) {w : World} {b o : Nat} : ∀ b' n, sizeAt w b' n → sizeAt (w.setCells b o vs) b' n := by
  rintro b' n ⟨c, ty, fr, h1, h2⟩
  by_cases h : b' = b
  · subst h; exact ⟨_, ty, fr, heap_setCells_self vs h1, by rw [setR_size]; exact h2⟩
  · exact ⟨c, ty, fr, by rw [heap_setCells_other vs h]; exact h1, h2⟩

/-- Rows in an array, from its head on. -/
structure RowsRel (Pb : Nat → Prop) (μ : Mu) (w : World) (s : Nat) (rows : List (List AV)) (vals : Array Value) : Prop where
  len : vals.size = rows.length * s
  rowl : ∀ r, r ∈ rows → r.length = s
  cells : ∀ (i f : Nat) (r : List AV) (x : AV), rows[i]? = some r → r[f]? = some x → ∃ v, vals[i * s + f]? = some v ∧ v.oneCell' = true ∧ Rel Pb μ w x v

theorem mul_lt_rows {i j s f : Nat} (h : i < j) (hf : f < s) : i * s + f < j * s := by
  have : (i + 1) * s ≤ j * s := Nat.mul_le_mul_right s h
  rw [Nat.add_mul] at this
  omega

theorem mul_le_rows {i j s : Nat} (h : i ≤ j) : i * s ≤ j * s := Nat.mul_le_mul_right s h

section
variable {C : Ctx} {Pb : Nat → Prop} {μ : Mu} {B0 : Nat} {w : World} {H : Heap}

theorem RowsRel.mono {Pb' : Nat → Prop} {μ' : Mu} {w' : World} {s : Nat} {rows : List (List AV)} {vals : Array Value} (h : RowsRel Pb μ w s rows vals) (hp : ∀ b, Pb b → Pb' b)
    (hμ : ∀ o ver b, μ o ver = some b → μ' o ver = some b) (hw : Ext Pb w w') : RowsRel Pb' μ' w' s rows vals :=
  ⟨h.len, h.rowl, fun i f r x hi hf => by obtain ⟨v, h1, h2, h3⟩ := h.cells i f r x hi hf; exact ⟨v, h1, h2, h3.mono hp hμ hw⟩⟩

/-- Rows 'rows' are laid over rows 'el' from row 'at' on, or behind them. -/
theorem over_cells {b s at_ : Nat} {el rows el' : List (List AV)} {vals : Array Value} {w' : World} (hR : CellsRel Pb μ w b s el) (hV : RowsRel Pb μ w s rows vals)
    (hw' : w' = w.setCells b (at_ * s) vals.toList) (hget : ∀ i, el'[i]? = if at_ ≤ i ∧ i < at_ + rows.length then rows[i - at_]? else el[i]?)
    (hfit : ∀ (c : Array Value) ty fr, w.heap[b]? = some (.cells c ty fr) → (at_ + rows.length) * s ≤ c.size) (hle : el'.length = max el.length (at_ + rows.length))
    {Pb' : Nat → Prop} {μ' : Mu} (hp : ∀ b, Pb b → Pb' b) (hμ : ∀ o ver b, μ o ver = some b → μ' o ver = some b) (hext : Ext Pb w w') : CellsRel Pb' μ' w' b s el' := by
  obtain ⟨h1, c, ty, fr, h2, h3, h4, h5⟩ := hR
  have hfc := hfit c ty fr h2
  have hlen : vals.toList.length = rows.length * s := by rw [Array.length_toList]; exact hV.len
  have hin : at_ * s + vals.toList.length ≤ c.size := by rw [hlen, ← Nat.add_mul]; exact hfc
  refine ⟨fun r hr => ?_, setR c (at_ * s) vals.toList, ty, fr, by rw [hw']; exact heap_setCells_self _ h2, fun off ho => ?_, ?_, fun i f r x hi hf => ?_⟩
  · obtain ⟨i, hi⟩ := List.mem_iff_getElem?.1 hr
    rw [hget] at hi
    split at hi
    · exact hV.rowl r (List.mem_of_getElem? hi)
    · exact h1 r (List.mem_of_getElem? hi)
  · rw [setR_size] at ho
    rw [hw', World.frozen?_setCells]
    exact h3 off ho
  · rw [setR_size, hle]
    rcases Nat.le_total el.length (at_ + rows.length) with h | h
    · rw [Nat.max_eq_right h]; exact hfc
    · rw [Nat.max_eq_left h]; exact h4
  · have hflt : f < r.length := lt_of_get hf
    rw [setR_get _ _ _ _ hin, hlen]
    rw [hget] at hi
    by_cases hc : at_ ≤ i ∧ i < at_ + rows.length
    · rw [if_pos hc] at hi
      have hr := hV.rowl r (List.mem_of_getElem? hi)
      obtain ⟨v, q1, q2, q3⟩ := hV.cells _ f r x hi hf
      have e1 : i * s + f - at_ * s = (i - at_) * s + f := by
        have : at_ * s ≤ i * s := mul_le_rows hc.1
        rw [Nat.sub_mul]; omega
      have e2 : at_ * s ≤ i * s + f ∧ i * s + f < at_ * s + rows.length * s := by
        refine ⟨Nat.le_trans (mul_le_rows hc.1) (Nat.le_add_right _ _), ?_⟩
        rw [← Nat.add_mul]
        exact mul_lt_rows hc.2 (by omega)
      rw [if_pos e2, e1, Array.getElem?_toList]
      exact ⟨v, q1, q2, q3.mono hp hμ hext⟩
    · rw [if_neg hc] at hi
      have hr := h1 r (List.mem_of_getElem? hi)
      obtain ⟨v, q1, q2, q3⟩ := h5 i f r x hi hf
      have e2 : ¬ (at_ * s ≤ i * s + f ∧ i * s + f < at_ * s + rows.length * s) := by
        rw [← Nat.add_mul]
        rintro ⟨g1, g2⟩
        refine hc ⟨?_, ?_⟩
        · rcases Nat.lt_or_ge i at_ with h | h
          · have := mul_lt_rows h (by omega : f < s); omega
          · exact h
        · rcases Nat.lt_or_ge i (at_ + rows.length) with h | h
          · exact h
          · have := mul_le_rows (s := s) h; omega
      rw [if_neg e2]
      exact ⟨v, q1, q2, q3.mono hp hμ hext⟩

theorem setSpan_get {α : Type} {l cs : List α} {f : Nat} (h : f + cs.length ≤ l.length) (j : Nat) :
    (setSpan l f cs)[j]? = if f ≤ j ∧ j < f + cs.length then cs[j - f]? else l[j]? := by
  have hl : (l.take f).length = f := by simp; omega
  unfold setSpan
  rw [List.append_assoc]
  by_cases h1 : j < f
  · rw [List.getElem?_append_left (by omega), if_neg (by omega), List.getElem?_take_of_lt h1]
  · rw [List.getElem?_append_right (by omega), hl]
    by_cases h2 : j < f + cs.length
    · rw [List.getElem?_append_left (by omega), if_pos (by omega)]
    · rw [List.getElem?_append_right (by omega), if_neg (by omega), List.getElem?_drop]
      congr 1
      omega

theorem setSpan_length {α : Type} {l cs : List α} {f : Nat} (h : f + cs.length ≤ l.length) : (setSpan l f cs).length = l.length := by
  simp [setSpan]; omega

/-- Some cells of one row are written. -/
theorem store_cells {b s i f : Nat} {el : List (List AV)} {row cs : List AV} {vals : Array Value} {w' : World} (hR : CellsRel Pb μ w b s el) (hi : el[i]? = some row)
    (hf : f + cs.length ≤ row.length) (hV : RelL Pb μ w cs vals) (h1v : ∀ u, u ∈ vals → u.oneCell' = true) (hw' : w' = w.setCells b (i * s + f) vals.toList)
    {Pb' : Nat → Prop} {μ' : Mu} (hp : ∀ b, Pb b → Pb' b) (hμ : ∀ o ver b, μ o ver = some b → μ' o ver = some b) (hext : Ext Pb w w') : CellsRel Pb' μ' w' b s (el.set i (setSpan row f cs)) := by
  obtain ⟨h1, c, ty, fr, h2, h3, h4, h5⟩ := hR
  have hil : i < el.length := lt_of_get hi
  have hrow : row.length = s := h1 row (List.mem_of_getElem? hi)
  have hlen : vals.toList.length = cs.length := by rw [Array.length_toList]; exact hV.1.symm
  have hin : i * s + f + vals.toList.length ≤ c.size := by
    have : (i + 1) * s ≤ el.length * s := mul_le_rows hil
    rw [Nat.add_mul] at this
    omega
  refine ⟨fun r hr => ?_, setR c (i * s + f) vals.toList, ty, fr, by rw [hw']; exact heap_setCells_self _ h2, fun off ho => ?_, ?_, fun i' f' r x hi' hf' => ?_⟩
  · obtain ⟨j, hj⟩ := List.mem_iff_getElem?.1 hr
    rw [List.getElem?_set] at hj
    split at hj
    · simp [hil] at hj
      subst hj
      rw [setSpan_length hf, hrow]
    · exact h1 r (List.mem_of_getElem? hj)
  · rw [setR_size] at ho
    rw [hw', World.frozen?_setCells]
    exact h3 off ho
  · rw [setR_size, List.length_set]; exact h4
  · rw [setR_get _ _ _ _ hin, hlen]
    rw [List.getElem?_set] at hi'
    by_cases hii : i = i'
    · subst hii
      simp only [if_true, hil, Option.some.injEq] at hi'
      subst hi'
      rw [setSpan_get hf] at hf'
      by_cases hc : f ≤ f' ∧ f' < f + cs.length
      · rw [if_pos hc] at hf'
        rw [if_pos (by omega), show i * s + f' - (i * s + f) = f' - f by omega, Array.getElem?_toList]
        obtain ⟨v, hv, hRv⟩ := RelL.get hV hf'
        exact ⟨v, hv, h1v v (Array.mem_of_getElem? hv), hRv.mono hp hμ hext⟩
      · rw [if_neg hc] at hf'
        rw [if_neg (by omega)]
        obtain ⟨v, q1, q2, q3⟩ := h5 i f' row x hi hf'
        exact ⟨v, q1, q2, q3.mono hp hμ hext⟩
    · simp only [hii, if_false] at hi'
      obtain ⟨v, q1, q2, q3⟩ := h5 i' f' r x hi' hf'
      have hr := h1 r (List.mem_of_getElem? hi')
      have hf's : f' < s := by have := lt_of_get hf'; omega
      have : ¬ (i * s + f ≤ i' * s + f' ∧ i' * s + f' < i * s + f + cs.length) := by
        rcases Nat.lt_or_gt_of_ne hii with h | h
        · have := mul_lt_rows h (show s - 1 < s by omega); omega
        · have := mul_lt_rows h hf's; omega
      rw [if_neg this]
      exact ⟨v, q1, q2, q3.mono hp hμ hext⟩

/-- The heap law at a write into an object that is there. -/
theorem heap_write (hH : HeapRel Pb μ B0 w H) {o b at_ : Nat} {obj obj' : AObj} {vs : List Value} {s : Nat} {el' : List (List AV)} (ho : H[o]? = some obj) (hb : μ o obj.len = some b) (hB : B0 ≤ b) (hP : ¬ Pb b)
    (hlen : obj.len ≤ obj'.len) (hr : rowsOf obj' = some el') (hs : sizeOfObj obj' = s)
    (hcells : ∀ μ', (∀ o ver b, μ o ver = some b → μ' o ver = some b) → Ext Pb w (w.setCells b at_ vs) → CellsRel Pb μ' (w.setCells b at_ vs) b s el') :
    HeapRel Pb (upd μ o obj'.len b) B0 (w.setCells b at_ vs) (H.set o obj') ∧ Goes Pb μ B0 w H.length Pb (upd μ o obj'.len b) (w.setCells b at_ vs) (H.set o obj').length := by
  have hlt : o < H.length := lt_of_get ho
  refine heap_put hH (o := o) (b' := b) (by simp [hlt]) (fun o' ho' => by rw [List.getElem?_set]; simp [Ne.symm ho']) (by simp)
    (fun b1 h1 _ => heap_setCells_other vs h1) (.inr ⟨obj, ho, hb⟩) (sizeAt_setCells vs) (by rw [size_setCells]; exact Nat.le_refl _) (rest_setCells vs).1 (rest_setCells vs).2.1 (rest_setCells vs).2.2
    (fun x hx => ?_) hP hB (fun hgo => objRel_rows hr hs (upd_same ..) hB hP (hcells _ hgo.mu hgo.ext))
  rw [ho] at hx
  simp only [Option.some.injEq] at hx
  subst hx
  refine ⟨hlen, fun y hy => ?_⟩
  obtain ⟨obj2, g1, g2⟩ := hH.dom _ _ _ hy
  rw [ho] at g1
  simp only [Option.some.injEq] at g1
  subst g1
  have : obj'.len = obj.len := Nat.le_antisymm g2 hlen
  rw [this, hb] at hy
  simp only [Option.some.injEq] at hy
  exact hy.symm

/-- Rows of a block are read. -/
theorem run_loadCells_rows {b x s n : Nat} {rows : List (List AV)} (hs : 0 < s) (hrows : ∀ r, r ∈ rows → r.length = s) (hn : n ≤ rows.length)
    (hc : ∀ (i f : Nat) (r : List AV) (u : AV), rows[i]? = some r → r[f]? = some u → ∃ v, w.cell? ⟨b, x + i * s + f, none⟩ = some v ∧ v.oneCell' = true ∧ Rel Pb μ w u v) :
    ∃ vals, RowsRel Pb μ w s (rows.take n) vals ∧ ∀ (P : Program) (w' : World), Same w w' → (loadCells ⟨b, x, none⟩ (n * s)).run P w' = .ok vals w' := by
  let g : Nat → Value := fun p => (w.cell? ⟨b, x + p, none⟩).getD undef
  have hex : ∀ p, p < n * s → ∃ u v, (rows[p / s]?).bind (·[p % s]?) = some u ∧ w.cell? ⟨b, x + p, none⟩ = some v ∧ v.oneCell' = true ∧ Rel Pb μ w u v := by
    intro p hp
    have h1 : p / s < rows.length := Nat.lt_of_lt_of_le (Nat.div_lt_of_lt_mul (by rwa [Nat.mul_comm] at hp)) hn
    have h2 := List.getElem?_eq_getElem h1
    have h3 := hrows _ (List.mem_of_getElem? h2)
    have h4 : p % s < (rows[p / s]).length := by rw [h3]; exact Nat.mod_lt _ hs
    have h5 := List.getElem?_eq_getElem h4
    obtain ⟨v, q1, q2, q3⟩ := hc _ _ _ _ h2 h5
    refine ⟨_, v, by rw [h2]; exact h5, ?_, q2, q3⟩
    rw [← q1]
    have := Nat.div_add_mod p s
    rw [Nat.mul_comm] at this
    congr 2
    omega
  refine ⟨((List.range (n * s)).map g).toArray, ⟨?_, fun r hr => hrows r (List.mem_of_mem_take hr), fun i f r u hi hf => ?_⟩, fun P w' hw' => ?_⟩
  · simp [Nat.min_eq_left hn]
  · rw [List.getElem?_take] at hi
    split at hi
    · rename_i hin
      have hr := hrows r (List.mem_of_getElem? hi)
      have hfs : f < s := by have := lt_of_get hf; omega
      obtain ⟨v, q1, q2, q3⟩ := hc i f r u hi hf
      refine ⟨v, ?_, q2, q3⟩
      have hp : i * s + f < n * s := mul_lt_rows hin hfs
      simp [hp, g, ← Nat.add_assoc, q1]
    · cases hi
  · exact run_loadCells w' _ _ g fun j hj => by
      obtain ⟨u, v, _, h2, _, _⟩ := hex j hj
      rw [add_at, hw'.cell h2]
      simp [g, h2]
end
end Go.Proofs.Ytgpijioodocplaa
