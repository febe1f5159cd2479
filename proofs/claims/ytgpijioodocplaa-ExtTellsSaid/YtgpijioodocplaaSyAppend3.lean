/- append and copy hold. -/
import Derived.Test.YtgpijioodocplaaSyAppend2
set_option linter.unusedVariables false
set_option linter.unusedSectionVars false
set_option linter.unusedSimpArgs false
namespace Go.Proofs.Ytgpijioodocplaa
open Go Go.RowKit
variable [Obs]

section
variable {C : Ctx} {Pb : Nat → Prop} {μ : Mu} {B0 : Nat} {w : World} {T : Look} {H : Heap} {a : Act}

theorem mapTC_ok {el : List (List AV)} {t : List (List TC)} (ht : mapO asTC el = some t) : t.map tcs = el := by
  obtain ⟨h1, h2⟩ := mapO_ok ht
  apply List.ext_getElem?
  intro i
  cases hi : el[i]? with
  | none =>
    have : el.length ≤ i := by
      rcases Nat.lt_or_ge i el.length with h | h
      · rw [List.getElem?_eq_getElem h] at hi; cases hi
      · exact h
    rw [List.getElem?_eq_none (by simp; omega)]
  | some r =>
    obtain ⟨y, hy, hr⟩ := h2 i r hi
    rw [List.getElem?_map, hy, Option.map_some, asTC_ok hr]

theorem joinRows_ok {obj : AObj} {el rows : List (List AV)} (h : rowsOf obj = some el) :
    rowsOf (joinRows obj rows) = some (el ++ rows) ∧ sizeOfObj (joinRows obj rows) = sizeOfObj obj ∧ (joinRows obj rows).len = el.length + rows.length := by
  cases obj with
  | tcells s l =>
    simp only [rowsOf, Option.some.injEq] at h
    subst h
    simp only [joinRows]
    cases hm : mapO asTC rows with
    | none => exact ⟨rfl, rfl, by simp [AObj.len]⟩
    | some t =>
      have := mapTC_ok hm
      refine ⟨by simp [rowsOf, this], rfl, ?_⟩
      have hl := congrArg List.length this
      simp at hl
      simp [AObj.len, hl]
  | cells s l =>
    simp only [rowsOf, Option.some.injEq] at h
    subst h
    exact ⟨rfl, rfl, by simp [joinRows, AObj.len]⟩
  | map es => simp [rowsOf] at h

theorem setSpan_map {α β : Type} (f : α → β) (l cs : List α) (n : Nat) : (setSpan l n cs).map f = setSpan (l.map f) n (cs.map f) := by simp [setSpan]

theorem overRows_ok {obj : AObj} {el rows : List (List AV)} {at_ : Nat} (h : rowsOf obj = some el) (hle : at_ + rows.length ≤ el.length) :
    rowsOf (overRows obj at_ rows) = some (setSpan el at_ rows) ∧ sizeOfObj (overRows obj at_ rows) = sizeOfObj obj ∧ (overRows obj at_ rows).len = el.length := by
  cases obj with
  | tcells s l =>
    simp only [rowsOf, Option.some.injEq] at h
    subst h
    simp only [overRows]
    cases hm : mapO asTC rows with
    | none => exact ⟨rfl, rfl, by simp only [AObj.len]; exact setSpan_length hle⟩
    | some t =>
      have := mapTC_ok hm
      refine ⟨by simp [rowsOf, setSpan_map, this], rfl, ?_⟩
      have hl := congrArg List.length this
      simp at hl
      simp only [AObj.len]
      rw [setSpan_length (by simp at hle; omega)]
      simp
  | cells s l =>
    simp only [rowsOf, Option.some.injEq] at h
    subst h
    exact ⟨rfl, rfl, by simp only [overRows, AObj.len]; exact setSpan_length hle⟩
  | map es => simp [rowsOf] at h

theorem cutObj_ok {obj : AObj} {el : List (List AV)} {i n : Nat} (h : rowsOf obj = some el) :
    rowsOf (cutObj obj i n) = some ((el.drop i).take n) ∧ sizeOfObj (cutObj obj i n) = sizeOfObj obj := by
  cases obj with
  | tcells s l => simp only [rowsOf, Option.some.injEq] at h; subst h; simp [cutObj, rowsOf, sizeOfObj, List.map_drop, List.map_take]
  | cells s l => simp only [rowsOf, Option.some.injEq] at h; subst h; simp [cutObj, rowsOf, sizeOfObj]
  | map es => simp [rowsOf] at h

theorem rowsRel_append {s : Nat} {r1 r2 : List (List AV)} {v1 v2 : Array Value} (h1 : RowsRel Pb μ w s r1 v1) (h2 : RowsRel Pb μ w s r2 v2) : RowsRel Pb μ w s (r1 ++ r2) (v1 ++ v2) := by
  refine ⟨by rw [Array.size_append, h1.len, h2.len, List.length_append, Nat.add_mul], fun r hr => ?_, fun i f r x hi hf => ?_⟩
  · rcases List.mem_append.1 hr with h | h
    · exact h1.rowl r h
    · exact h2.rowl r h
  · rcases Nat.lt_or_ge i r1.length with h | h
    · rw [List.getElem?_append_left h] at hi
      obtain ⟨v, q1, q2, q3⟩ := h1.cells i f r x hi hf
      refine ⟨v, ?_, q2, q3⟩
      rw [Array.getElem?_append_left]
      · exact q1
      · rcases Nat.lt_or_ge (i * s + f) v1.size with h | h
        · exact h
        · simp [Array.getElem?_eq_none h] at q1
    · rw [List.getElem?_append_right h] at hi
      obtain ⟨v, q1, q2, q3⟩ := h2.cells _ f r x hi hf
      refine ⟨v, ?_, q2, q3⟩
      have hle := mul_le_rows (s := s) h
      rw [Array.getElem?_append_right (by rw [h1.len]; omega), h1.len]
      rw [Nat.sub_mul] at q1
      rw [show i * s + f - r1.length * s = i * s - r1.length * s + f by omega]
      exact q1

/-- What is appended: rows, and what the run reads. -/
theorem srcRows_app {et : TI} {e : TypeId} {ie : TypeInfo} {dx : TypeDesc} {z : List TC} {zv : Value} {x : AV} {xv : Value} {k : List (List AV) → Out} (h : srcRows H et (isIntD dx) z x k) (hx : Rel Pb μ w x xv)
    (hH : HeapRel Pb μ B0 w H) (hs0 : et.size ≠ 0) (hz : RelL Pb μ w (tcs z) zv.cells) (hbe : et.bytes = ie.bytes) :
    ∃ rows vals, k rows ∧ RowsRel Pb μ w et.size rows vals ∧ AppSrc C.P w et.size dx ie zv xv rows.length vals := by
  cases hi : isIntD dx with
  | false =>
    rw [hi] at h
    obtain ⟨rows, hk, hl, hf⟩ := srcRows_ok h hx hH (by omega)
    obtain ⟨vals, h1, h2⟩ := hf rows.length (Nat.le_refl _)
    rw [List.take_length] at h1
    exact ⟨rows, vals, hk, h1, .inl ⟨hi, fun w' hw' => ⟨hl C.P w', h2 C.P w' hw'⟩⟩⟩
  | true =>
    rw [hi] at h
    simp only [srcRows] at h
    split at h
    · rename_i n hn
      have hcf := cond_false h; clear h; obtain ⟨hc, h⟩ := hcf
      simp only [Bool.and_eq_true, decide_eq_true_eq] at hc
      obtain ⟨⟨⟨⟨c1, c2⟩, c3⟩, c4⟩, c5⟩ := hc
      obtain ⟨kk, rfl⟩ := intOf_ok hn hx
      refine ⟨_, _, h, zero_rows n.toNat hz c4 hs0 c5, .inr ⟨hi, kk, n, rfl, c1, c2, by rw [← hbe]; exact c3, by simp, by simp⟩⟩
    · exact h.elim

/-- An object goes to a new block, with rows behind its own. -/
theorem heap_move (hH : HeapRel Pb μ B0 w H) {o : Nat} {obj obj' : AObj} {rows : List (List AV)} {vals rest : Array Value} {s : Nat} (ho : H[o]? = some obj) (hlen : obj.len < obj'.len)
    (hR : RowsRel Pb μ w s rows vals) (hr : rowsOf obj' = some rows) (hs : sizeOfObj obj' = s) (hn : obj'.len = rows.length) (w1 : World) (hw1 : w1.heap = w.heap ∧ w1.os = w.os ∧ w1.tape = w.tape ∧ w1.output = w.output) (ty : TypeId) :
    ∃ μ', HeapRel Pb μ' B0 (w1.alloc (.cells (vals ++ rest) ty)) (H.set o obj') ∧ Goes Pb μ B0 w H.length Pb μ' (w1.alloc (.cells (vals ++ rest) ty)) (H.set o obj').length ∧ μ' o rows.length = some w.heap.size ∧
      sizeAt (w1.alloc (.cells (vals ++ rest) ty)) w.heap.size (vals.size + rest.size) := by
  obtain ⟨e1, e2, e3, e4⟩ := hw1
  have hlt : o < H.length := lt_of_get ho
  have hold : ∀ b, b < w.heap.size → (w1.alloc (.cells (vals ++ rest) ty)).heap[b]? = w.heap[b]? := fun b hb => by
    rw [get_alloc_old _ (by rw [e1]; exact hb), e1]
  have hnew : (w1.alloc (.cells (vals ++ rest) ty)).heap[w.heap.size]? = some (.cells (vals ++ rest) ty) := by
    have := get_alloc_new w1 (.cells (vals ++ rest) ty)
    rwa [e1] at this
  have := heap_put hH (o := o) (b' := w.heap.size) (obj' := obj') (H' := H.set o obj') (w' := w1.alloc (.cells (vals ++ rest) ty)) (by simp [hlt]) (fun o' ho' => by rw [List.getElem?_set]; simp [Ne.symm ho']) (by simp)
    (fun b _ hb => hold b hb) (.inl (Nat.le_refl _))
    (by
      rintro b n ⟨c', ty', fr', h1, h2⟩
      exact ⟨c', ty', fr', by rw [hold b (lt_of_heap h1)]; exact h1, h2⟩) (by simp [e1]) e2 e3 e4
    (fun x hx => by
      rw [ho] at hx
      simp only [Option.some.injEq] at hx
      subst hx
      refine ⟨by omega, fun y hy => ?_⟩
      obtain ⟨x, g1, g2⟩ := hH.dom _ _ _ hy
      rw [ho] at g1
      simp only [Option.some.injEq] at g1
      subst g1
      omega) (fun hp => Nat.lt_irrefl _ (hH.pb _ hp)) hH.base
    (fun hgo => objRel_rows hr hs (upd_same ..) hH.base (fun hp => Nat.lt_irrefl _ (hH.pb _ hp)) ⟨hR.rowl, _, ty, (0, 0), hnew, fun off _ => by
        have := frozen_new w1 (vals ++ rest) ty off
        rwa [e1] at this, by rw [Array.size_append, hR.len]; exact Nat.le_add_right _ _, fun i f r x hi hf => by
        obtain ⟨v, q1, q2, q3⟩ := hR.cells i f r x hi hf
        refine ⟨v, ?_, q2, q3.mono hgo.pb hgo.mu hgo.ext⟩
        rw [Array.getElem?_append_left]
        · exact q1
        · rcases Nat.lt_or_ge (i * s + f) vals.size with h | h
          · exact h
          · simp [Array.getElem?_eq_none h] at q1⟩)
  exact ⟨_, this.1, this.2, by rw [← hn]; exact upd_same .., _, ty, (0, 0), hnew, by simp⟩

theorem append_ok {st xt e ty : TypeId} {sti xti et : TI} {z : List TC} {x s : AV} {xv sv : Value} {k : AV → Heap → Out} (hst : tinfo C st = some sti) (hxt : tinfo C xt = some xti) (hu : sti.under = .slice e)
    (hte : tinfo C e = some et) (hz : zeroCellsA et = some z) (hzl : z.length = et.size) (hs0 : et.size ≠ 0) (h : srcRows H et (isIntD xti.under) z x fun rows => appendA et s rows H k)
    (hs : Rel Pb μ w s sv) (hx : Rel Pb μ w x xv) (hH : HeapRel Pb μ B0 w H) : HRes C Pb μ B0 w H k (Builtin.append_ #[st, xt] ty #[sv, xv]) := by
  obtain ⟨_, _, hds, _⟩ := tinfo_ok hst
  obtain ⟨_, _, hdx, _⟩ := tinfo_ok hxt
  obtain ⟨ie, hie, _, hse, hbe, _⟩ := tinfo_ok hte
  rw [hu] at hds
  obtain ⟨zv, hz1, hz2, hz3, _⟩ := zeroCellsA_ok (Pb := Pb) (μ := μ) (w := w) hte hz
  have hzs : zv.cells.size = et.size := by omega
  obtain ⟨rows, vals, h, hV, hA⟩ := srcRows_app (C := C) (e := e) h hx hH hs0 hz2 hbe
  have hvl : vals.toList.length = rows.length * et.size := by rw [Array.length_toList]; exact hV.len
  unfold appendA at h
  split at h
  · -- a nil slice
    obtain rfl := hs.sc_eq
    split at h
    · have hrun := append_in (C := C) (w := w) (ty := ty) (base := none) hds hdx hie hse hz1 hzs hA (sLen := 0) (sCap := 0) (by simp)
      simp only [List.length_nil, Nat.add_zero] at hrun
      exact ⟨_, _, _, w, Pb, μ, h, hrun, Rel.of_sc .., hH, Goes.refl ..⟩
    · rename_i hne
      have hcf := cond_false h; clear h; obtain ⟨hc, h⟩ := hcf
      simp only [Bool.and_eq_true, decide_eq_true_eq] at hc
      obtain ⟨⟨c1, c2⟩, c3⟩ := hc
      have hpos : 0 < rows.length := List.length_pos_iff.2 hne
      obtain ⟨newCap, rest, g1, g2, g3⟩ := append_new (C := C) (w := w) (ty := ty) (base := none) (oldv := #[]) hds hdx hie hse hz1 hzs hA (sLen := 0) (sCap := 0) (by omega) (fun w' _ => rfl) (by rw [← hbe]; simpa using c1) (by omega)
      simp only [Array.empty_append, Nat.zero_add] at g1 g2 g3
      obtain ⟨e1, e2, e3⟩ := rows_newCells (s := et.size) (el := rows)
      obtain ⟨μ', q1, q2, q3, q4⟩ := new_rows hH (rest := rest) hV e1 e2 e3 (drewW w) ⟨rfl, rfl, rfl, rfl⟩ e
      refine ⟨_, _, _, _, Pb, μ', h, g3, ?_, q1, q2⟩
      refine .slice _ _ _ _ _ _ _ w.heap.size 0 newCap q3 (Nat.le_refl _) g1 (fun h => by cases h) ?_ (.inr (by simp))
      rw [hV.len, g2] at q4
      rw [Nat.zero_add]
      have : rows.length * et.size + (newCap - rows.length) * et.size = newCap * et.size := by rw [← Nat.add_mul]; congr 1; omega
      rwa [this] at q4
  · rename_i o s' i len cap ex ver hq
    split at h
    · rename_i obj ho
      have hcf := cond_false h; clear h; obtain ⟨hc, h⟩ := hcf
      simp only [Bool.and_eq_true, decide_eq_true_eq] at hc
      obtain ⟨⟨⟨⟨⟨⟨c1, c2⟩, c3⟩, c4⟩, c5⟩, c6⟩, c7⟩ := hc
      subst c2
      subst c4
      obtain ⟨el, hel⟩ : ∃ el, rowsOf obj = some el := by cases obj <;> simp_all [rowsOf, sizeOfObj]
      have hob := hH.obj o obj ho
      obtain ⟨hell, b', hb', hB, hP, hR⟩ := hob.rows hel
      rw [c1] at hR
      have hrel := hs
      cases hs with
      | slice _ _ _ _ _ _ _ b off c hb hl1 hl2 hex hsz hoff =>
        rw [hb] at hb'
        simp only [Option.some.injEq] at hb'
        subst hb'
        -- the run, where there is room
        have inplace : ∀ (hfit : len + rows.length ≤ c) (at_ : Nat), (c ≠ 0 → off = i * et.size) → at_ = i + len → (rows ≠ [] → ∀ c' ty' fr', w.heap[b]? = some (.cells c' ty' fr') → (at_ + rows.length) * et.size ≤ c'.size) →
            (Builtin.append_ #[st, xt] ty #[.slice (some ⟨b, off, none⟩) len c, xv]).run C.P w = .ok (.slice (some ⟨b, off, none⟩) (len + rows.length) c) (w.setCells b (at_ * et.size) vals.toList) := by
          intro hfit at_ ho' hat hroom
          have hrun := append_in (C := C) (w := w) (ty := ty) (base := some ⟨b, off, none⟩) hds hdx hie hse hz1 hzs hA hfit
          rw [hrun]
          by_cases hne : rows = []
          · have hv0 : vals.toList = [] := by
              apply List.eq_nil_of_length_eq_zero
              rw [hvl, hne]; simp
            simp [hv0, storeCells, World.setCells]
          · have hpos : 0 < rows.length := List.length_pos_iff.2 hne
            have hoff' := ho' (by omega)
            obtain ⟨_, cc, ty2, fr2, r2, r3, _, r5⟩ := hR
            have hrm := hroom hne _ _ _ r2
            have hst := run_storeCells_cells (P := C.P) b (at_ * et.size) vals.toList 0 w (fun j hj => by
                simp only [World.cell?, r2]
                rw [hvl] at hj
                rw [Nat.add_mul] at hrm
                have : at_ * et.size + 0 + j < cc.size := by omega
                rw [Array.getElem?_eq_getElem this]
                rfl) (fun j hj => r3 _ (by
                rw [hvl] at hj
                rw [Nat.add_mul] at hrm
                omega)) (fun u hu => by
                rw [Array.mem_toList_iff] at hu
                obtain ⟨p, hp, rfl⟩ := Array.mem_iff_getElem.1 hu
                have hp' : p < rows.length * et.size := by rw [← hV.len]; exact hp
                have h1 : p / et.size < rows.length := Nat.div_lt_of_lt_mul (by rwa [Nat.mul_comm] at hp')
                have h2 := List.getElem?_eq_getElem h1
                have h3 := hV.rowl _ (List.mem_of_getElem? h2)
                have h4 : p % et.size < (rows[p / et.size]).length := by rw [h3]; exact Nat.mod_lt _ (by omega)
                obtain ⟨v, q1, q2, _⟩ := hV.cells _ _ _ _ h2 (List.getElem?_eq_getElem h4)
                have hpp : p / et.size * et.size + p % et.size = p := by rw [Nat.mul_comm]; exact Nat.div_add_mod p et.size
                rw [hpp, Array.getElem?_eq_getElem hp] at q1
                simp only [Option.some.injEq] at q1
                rw [q1]; exact q2)
            rw [Nat.add_zero] at hst
            have hadd : (⟨b, off, none⟩ : Addr).add (len * et.size) = ⟨b, at_ * et.size, none⟩ := by rw [add_at, hoff', hat, Nat.add_mul]
            simp only [hadd, hst, Result.andThen]
        have hcs := cond_split h; clear h; rcases hcs with ⟨hcA, h⟩ | ⟨hcA, h⟩
        · -- over cells that are there
          simp only [Bool.and_eq_true, decide_eq_true_eq] at hcA
          obtain ⟨a1, a2⟩ := hcA
          have hle : i + len + rows.length ≤ el.length := by omega
          obtain ⟨o1, o2, o3⟩ := overRows_ok (at_ := i + len) hel hle
          have hrun := inplace (by omega) (i + len) (fun hc0 => hoff.resolve_left hc0) rfl (fun _ c' ty' fr' hg => by
            obtain ⟨_, cc, ty2, fr2, r2, r3, r4, r5⟩ := hR
            rw [r2] at hg
            simp only [Option.some.injEq, Obj.cells.injEq] at hg
            obtain ⟨rfl, _, _⟩ := hg
            exact Nat.le_trans (mul_le_rows hle) r4)
          have hw := heap_write hH (at_ := (i + len) * et.size) (vs := vals.toList) ho hb hB hP (obj' := overRows obj (i + len) rows) (by rw [o3, hell]; exact Nat.le_refl _) o1 (by rw [o2, c1]) (fun μ' hμ hext =>
            over_cells hR hV rfl (fun j => setSpan_get hle j) (fun c' ty' fr' hg => by
              obtain ⟨_, cc, ty2, fr2, r2, r3, r4, r5⟩ := hR
              rw [r2] at hg
              simp only [Option.some.injEq, Obj.cells.injEq] at hg
              obtain ⟨rfl, _, _⟩ := hg
              exact Nat.le_trans (mul_le_rows hle) r4) (by rw [setSpan_length hle]; omega) (fun _ h => h) hμ hext)
          refine ⟨_, _, _, _, Pb, _, h, hrun, ?_, hw.1, hw.2⟩
          exact .slice _ _ _ _ _ _ _ b off c (hw.2.mu _ _ _ hb) a1 hl2 hex (hw.2.ext.size _ _ hsz) hoff
        · have hcs := cond_split h; clear h; rcases hcs with ⟨hcB, h⟩ | ⟨hcB, h⟩
          · -- its capacity is known, and too small
            simp only [Bool.and_eq_true, decide_eq_true_eq] at hcB
            obtain ⟨b1, b2⟩ := hcB
            obtain rfl := hex b1
            have hsrc := src_slice hH ho hel c1 rfl (by omega) (by omega) hrel
            have hlen : ((el.drop i).take len).length = len := by simp; omega
            obtain ⟨oldv, hO, hOr⟩ := hsrc.2 len (by omega)
            rw [List.take_of_length_le (by omega)] at hO
            obtain ⟨newCap, rest, g1, g2, g3⟩ := append_new (C := C) (w := w) (ty := ty) (base := some ⟨b, off, none⟩) (oldv := oldv) hds hdx hie hse hz1 hzs hA (sLen := len) (sCap := c) (by omega) (fun w' hw' => hOr C.P w' hw') (by rw [← hbe]; exact c6) c7
            obtain ⟨k1, k2⟩ := cutObj_ok (i := i) (n := len) hel
            obtain ⟨j1, j2, j3⟩ := joinRows_ok (rows := rows) k1
            have hJ := rowsRel_append hO hV
            obtain ⟨μ', q1, q2, q3, q4⟩ := new_rows hH (rest := rest) hJ j1 (by rw [j2, k2, c1]) (by rw [j3]; simp) (drewW w) ⟨rfl, rfl, rfl, rfl⟩ e
            have hjl : ((el.drop i).take len ++ rows).length = len + rows.length := by rw [List.length_append, hlen]
            rw [hjl] at q3
            refine ⟨_, _, _, _, Pb, μ', h, g3, ?_, q1, q2⟩
            refine .slice _ _ _ _ _ _ _ w.heap.size 0 newCap q3 (Nat.le_refl _) g1 (fun h => by cases h) ?_ (.inr (by simp))
            rw [hJ.len, hjl, g2] at q4
            rw [Nat.zero_add]
            have : (len + rows.length) * et.size + (newCap - (len + rows.length)) * et.size = newCap * et.size := by rw [← Nat.add_mul]; congr 1; omega
            rwa [this] at q4
          · -- it may go on in place, or in a new block
            have hcf := cond_false h; clear h; obtain ⟨hcC, h⟩ := hcf
            simp only [Bool.and_eq_true, decide_eq_true_eq, Bool.not_eq_true'] at hcC
            obtain ⟨⟨d1, d2⟩, d3⟩ := hcC
            subst d2
            obtain ⟨j1, j2, j3⟩ := joinRows_ok (rows := rows) hel
            have hlel : len = el.length := by omega
            by_cases hfit : len + rows.length ≤ c
            · have hroom : ∀ c' ty' fr', w.heap[b]? = some (.cells c' ty' fr') → (len + rows.length) * et.size ≤ c'.size := fun c' ty' fr' hg => by
                obtain ⟨cc, ty2, fr2, r2, r3⟩ := hsz
                rw [r2] at hg
                simp only [Option.some.injEq, Obj.cells.injEq] at hg
                obtain ⟨rfl, _, _⟩ := hg
                rw [Nat.zero_add] at r3
                exact Nat.le_trans (mul_le_rows hfit) r3
              have hrun := inplace hfit len (fun hc0 => hoff.resolve_left hc0) (by omega) (fun _ => hroom)
              have hw := heap_write hH (at_ := len * et.size) (vs := vals.toList) ho hb hB hP (obj' := joinRows obj rows) (by rw [j3]; omega) j1 (by rw [j2, c1]) (fun μ' hμ hext =>
                over_cells hR hV rfl (fun j => by
                  by_cases hj : j < el.length
                  · rw [List.getElem?_append_left hj, if_neg (by omega)]
                  · rw [List.getElem?_append_right (by omega)]
                    by_cases hj2 : j < len + rows.length
                    · rw [if_pos (by omega), hlel]
                    · rw [if_neg (by omega), List.getElem?_eq_none (by omega), List.getElem?_eq_none (by omega)]) hroom (by rw [List.length_append]; omega) (fun _ h => h) hμ hext)
              refine ⟨_, _, _, _, Pb, _, h, hrun, ?_, hw.1, hw.2⟩
              have hjl : (joinRows obj rows).len = len + rows.length := by rw [j3]; omega
              rw [hjl]
              exact .slice _ _ _ _ _ _ _ b off c (upd_same ..) (Nat.le_refl _) hfit (fun h => by cases h) (sizeAt_setCells vals.toList _ _ hsz) hoff
            · have hpos : 0 < rows.length := by omega
              have hsrc := src_slice hH ho hel c1 rfl (by omega) (by omega) hrel
              obtain ⟨oldv, hO, hOr⟩ := hsrc.2 len (by simp; omega)
              rw [List.drop_zero, List.take_of_length_le (l := el) (by omega), List.take_of_length_le (l := el) (by omega)] at hO
              obtain ⟨newCap, rest, g1, g2, g3⟩ := append_new (C := C) (w := w) (ty := ty) (base := some ⟨b, off, none⟩) (oldv := oldv) hds hdx hie hse hz1 hzs hA (sLen := len) (sCap := c) hfit (fun w' hw' => hOr C.P w' hw') (by rw [← hbe]; exact c6) c7
              have hJ := rowsRel_append hO hV
              have hjl : (el ++ rows).length = len + rows.length := by rw [List.length_append]; omega
              obtain ⟨μ', q1, q2, q3, q4⟩ := heap_move hH (rest := rest) ho (obj' := joinRows obj rows) (by rw [j3]; omega) hJ j1 (by rw [j2, c1]) (by rw [j3]; simp) (drewW w) ⟨rfl, rfl, rfl, rfl⟩ e
              rw [hjl] at q3
              refine ⟨_, _, _, _, Pb, μ', h, g3, ?_, q1, q2⟩
              refine .slice _ _ _ _ _ _ _ w.heap.size 0 newCap q3 (Nat.le_refl _) g1 (fun h => by cases h) ?_ (.inr (by simp))
              rw [hJ.len, hjl, g2] at q4
              rw [Nat.zero_add]
              have : (len + rows.length) * et.size + (newCap - (len + rows.length)) * et.size = newCap * et.size := by rw [← Nat.add_mul]; congr 1; omega
              rwa [this] at q4
    · exact h.elim
  · exact h.elim
end
end Go.Proofs.Ytgpijioodocplaa
