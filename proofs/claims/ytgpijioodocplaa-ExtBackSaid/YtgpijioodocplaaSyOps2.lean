/- Operations that make memory, or write, further: slices, stores, maps. -/
import Derived.Test.YtgpijioodocplaaSyOps
import Derived.Laws.BitsLemmas
set_option linter.unusedVariables false
set_option linter.unusedSectionVars false
set_option linter.unusedSimpArgs false
namespace Go.Proofs.Ytgpijioodocplaa
open Go Go.RowKit
variable [Obs]

section
variable {C : Ctx} {Pb : Nat → Prop} {μ : Mu} {B0 : Nat} {w : World} {T : Look} {H : Heap} {a : Act}

/-- One of the rows is another one. -/
theorem rowsRel_set {s i : Nat} {rows : List (List AV)} {vc : List AV} {vals : Array Value} {v : Array Value} (hR : RowsRel Pb μ w s rows vals) (hi : i < rows.length) (hl : vc.length = s)
    (hv : RelL Pb μ w vc v) (h1 : ∀ u, u ∈ v → u.oneCell' = true) : RowsRel Pb μ w s (rows.set i vc) (setR vals (i * s) v.toList) := by
  have hlen : v.toList.length = s := by rw [Array.length_toList, ← hv.1, hl]
  have hin : i * s + v.toList.length ≤ vals.size := by
    rw [hlen, hR.len]
    have := mul_le_rows (s := s) (show i + 1 ≤ rows.length from hi)
    rw [Nat.add_mul] at this
    omega
  refine ⟨by rw [setR_size, hR.len, List.length_set], fun r hr => ?_, fun j f r x hj hf => ?_⟩
  · rcases List.mem_or_eq_of_mem_set hr with h | h
    · exact hR.rowl r h
    · rw [h, hl]
  · rw [setR_get _ _ _ _ hin, hlen]
    rw [List.getElem?_set] at hj
    by_cases hij : i = j
    · subst hij
      simp only [if_true, hi, Option.some.injEq] at hj
      subst hj
      have hfs : f < s := by have := lt_of_get hf; omega
      rw [if_pos (by omega), show i * s + f - i * s = f by omega, Array.getElem?_toList]
      obtain ⟨u, hu, hRu⟩ := RelL.get hv hf
      exact ⟨u, hu, h1 u (Array.mem_of_getElem? hu), hRu⟩
    · simp only [hij, if_false] at hj
      obtain ⟨u, q1, q2, q3⟩ := hR.cells j f r x hj hf
      have hr := hR.rowl r (List.mem_of_getElem? hj)
      have hfs : f < s := by have := lt_of_get hf; omega
      have : ¬ (i * s ≤ j * s + f ∧ j * s + f < i * s + s) := by
        rcases Nat.lt_or_gt_of_ne hij with h | h
        · have := mul_le_rows (s := s) (show i + 1 ≤ j from h); rw [Nat.add_mul] at this; omega
        · have := mul_lt_rows h hfs; omega
      rw [if_neg this]
      exact ⟨u, q1, q2, q3⟩

theorem fillRows_ok {s : Nat} : ∀ {ps : List (Nat × AV)} {vs : List (Nat × Value)} {rows rows' : List (List AV)} {vals : Array Value},
    fillRows rows ps = some rows' → PartsRel Pb μ w ps vs → RowsRel Pb μ w s rows vals →
    ∃ vals', Instr.fill (fun i => some (i * s, s)) vals vs = some vals' ∧ RowsRel Pb μ w s rows' vals' ∧ rows'.length = rows.length
  | [], vs, rows, rows', vals, h, hp, hR => by
    have : vs = [] := List.length_eq_zero_iff.1 hp.1.symm
    subst this
    simp only [fillRows, Option.some.injEq] at h
    subst h
    exact ⟨vals, rfl, hR, rfl⟩
  | (i, x) :: ps, vs, rows, rows', vals, h, hp, hR => by
    obtain ⟨q, qs, rfl, hi, hRx, hps⟩ := hp.cons
    obtain ⟨j, v⟩ := q
    simp only at hi hRx
    subst hi
    simp only [fillRows] at h
    split at h
    · rename_i r vc hr hvc
      split at h
      · rename_i hcond
        obtain ⟨hl, hok⟩ := hcond
        have hil : i < rows.length := lt_of_get hr
        have hrs : r.length = s := hR.rowl r (List.mem_of_getElem? hr)
        have hrc := cellsOfA_ok hvc hRx
        obtain ⟨vals', h1, h2, h3⟩ := fillRows_ok h hps (rowsRel_set hR hil (by omega) hrc (all_one hrc hok))
        refine ⟨vals', ?_, h2, by rw [h3, List.length_set]⟩
        have hsz : v.cells.size = s := by rw [← hrc.1, hl, hrs]
        have hle : i * s + s ≤ vals.size := by
          rw [hR.len]
          have := mul_le_rows (s := s) (show i + 1 ≤ rows.length from hil)
          rw [Nat.add_mul] at this
          omega
        simp only [Instr.fill, hsz, fold_zip]
        rw [if_neg (by simp; omega)]
        exact h1
      · cases h
    · cases h

/-- Rows of zeros. -/
theorem zero_rows {z : List TC} {zv : Value} {s : Nat} (n : Nat) (hz : RelL Pb μ w (tcs z) zv.cells) (hl : z.length = s) (hs : s ≠ 0) (hok : (tcs z).all cellOk = true) :
    RowsRel Pb μ w s (List.replicate n (tcs z)) ((Array.range (n * s)).map (zv.cells[· % zv.cells.size]!)) := by
  have hsz : zv.cells.size = s := by rw [← hz.1, ← hl]; simp [tcs]
  refine ⟨by simp, fun r hr => ?_, fun i f r x hi hf => ?_⟩
  · rw [(List.mem_replicate.1 hr).2]; simp [tcs, hl]
  · rw [List.getElem?_replicate] at hi
    split at hi
    · rename_i hin
      simp only [Option.some.injEq] at hi
      subst hi
      have hfs : f < s := by have := lt_of_get hf; simpa [tcs, hl] using this
      obtain ⟨v, hv, hR⟩ := RelL.get hz hf
      have hp : i * s + f < n * s := mul_lt_rows hin hfs
      refine ⟨v, ?_, all_one hz hok v (Array.mem_of_getElem? hv), hR⟩
      rw [Array.getElem?_map, Array.getElem?_range, if_pos hp, Option.map_some, hsz]
      have : (i * s + f) % s = f := by rw [Nat.mul_comm, Nat.mul_add_mod]; exact Nat.mod_eq_of_lt hfs
      rw [this]
      simp [getElem!_def, hv]
    · cases hi

theorem buildSlice_ok {t : TypeId} {ti : TI} {n : Nat} {ps : List (Nat × AV)} {vs : Array (Nat × Value)} {k : AV → Heap → Out} (ht : tinfo C t = some ti) (h : buildSliceA C ti n ps H k)
    (hp : PartsRel Pb μ w ps vs.toList) (hH : HeapRel Pb μ B0 w H) : HRes C Pb μ B0 w H k (Instr.buildSlice t n vs) := by
  obtain ⟨i, hi, hd, _, _, _, _⟩ := tinfo_ok ht
  unfold buildSliceA at h
  split at h
  · rename_i e hu
    rw [hu] at hd
    split at h
    · rename_i et hte
      obtain ⟨ie, hie, _, hse, _⟩ := tinfo_ok hte
      split at h
      · rename_i z hz
        have hcf := cond_false h; clear h; obtain ⟨hc, h⟩ := hcf
        simp only [Bool.and_eq_true, decide_eq_true_eq] at hc
        obtain ⟨⟨⟨c1, c2⟩, c3⟩, c4⟩ := hc
        obtain ⟨zv, h1, h2, _, _⟩ := zeroCellsA_ok (Pb := Pb) (μ := μ) (w := w) hte hz
        split at h
        · rename_i rows hrows
          have hz0 := zero_rows n h2 c3 c2 c4
          obtain ⟨vals', g1, g2, g3⟩ := fillRows_ok hrows hp hz0
          obtain ⟨e1, e2, e3⟩ := rows_newCells (s := et.size) (el := rows)
          obtain ⟨μ', q1, q2, q3, q4⟩ := new_rows hH (rest := #[]) g2 e1 e2 e3 w ⟨rfl, rfl, rfl, rfl⟩ e
          rw [List.length_replicate] at g3
          rw [g3] at q3
          refine ⟨_, _, .slice (some ⟨w.heap.size, 0, none⟩) n n, _, Pb, μ', h, ?_, ?_, q1, q2⟩
          · have e0 : ∀ f : Nat → Value, (Array.range 0).map f = #[] := fun f => by simp
            simp only [Instr.buildSlice, Sem.run_bind, run_underlying hd, Result.andThen, run_size hie, ← hse]
            rw [if_neg (by omega)]
            by_cases h0 : n * et.size = 0
            · simp only [h0, e0] at g1
              simp only [h0, if_true, Sem.run_bind, Sem.run_pure, Result.andThen, e0, g1, newRow, run_newObj_alloc, Array.append_empty]
            · simp only [h0, if_false, Sem.run_bind, Sem.run_pure, Result.andThen, h1, g1, newRow, run_newObj_alloc, Array.append_empty]
          · simp only [Array.append_empty] at q3 ⊢
            refine .slice _ _ _ _ _ _ _ w.heap.size 0 n q3 (Nat.le_refl _) (Nat.le_refl _) (fun _ => rfl) ?_ (.inr (by simp))
            obtain ⟨cc, ty, fr, r1, r2⟩ := q4
            refine ⟨cc, ty, fr, by simpa using r1, ?_⟩
            rw [g2.len, g3] at r2
            simpa using r2
        · exact h.elim
      · exact h.elim
    · exact h.elim
  · exact h.elim

theorem i64_small {n : Int} (h0 : 0 ≤ n) (h1 : n < 2 ^ 63) : IntKind.i64.wrap n = n := by rw [IntKind.wrap_i64]; omega

theorem makeSlice_ok {t : TypeId} {ti : TI} {lx cx : AV} {lv cv : Value} {k : AV → Heap → Out} (ht : tinfo C t = some ti) (h : makeSliceA C ti lx cx H k)
    (hl : Rel Pb μ w lx lv) (hcx : Rel Pb μ w cx cv) (hH : HeapRel Pb μ B0 w H) : HRes C Pb μ B0 w H k (Instr.makeSlice t lv cv) := by
  obtain ⟨i, hi, hd, _, _, _, _⟩ := tinfo_ok ht
  unfold makeSliceA at h
  split at h
  · rename_i e l c hu hln hcn
    rw [hu] at hd
    obtain ⟨k1, rfl⟩ := intOf_ok hln hl
    obtain ⟨k2, rfl⟩ := intOf_ok hcn hcx
    split at h
    · rename_i et hte
      obtain ⟨ie, hie, _, hse, hbe, _⟩ := tinfo_ok hte
      split at h
      · rename_i z hz
        have hcf := cond_false h; clear h; obtain ⟨hc, h⟩ := hcf
        simp only [Bool.and_eq_true, decide_eq_true_eq] at hc
        obtain ⟨⟨⟨⟨⟨⟨c1, c2⟩, c3⟩, c4⟩, c5⟩, c6⟩, c7⟩ := hc
        obtain ⟨zv, h1, h2, _, _⟩ := zeroCellsA_ok (Pb := Pb) (μ := μ) (w := w) hte hz
        have hz0 := zero_rows c.toNat h2 c6 c5 c7
        obtain ⟨μ', q1, q2, q3, q4⟩ := new_rows hH (rest := #[]) hz0 (obj := .tcells et.size (List.replicate c.toNat z)) (by simp [rowsOf]) rfl (by simp [AObj.len]) w ⟨rfl, rfl, rfl, rfl⟩ e
        rw [List.length_replicate] at q3
        refine ⟨_, _, .slice (some ⟨w.heap.size, 0, none⟩) l.toNat c.toNat, _, Pb, μ', h, ?_, ?_, q1, q2⟩
        · have e0 : ∀ f : Nat → Value, (Array.range 0).map f = #[] := fun f => by simp
          have w1 := i64_small c1 (by omega)
          have w2 := i64_small (n := c) (by omega) c4
          simp only [Instr.makeSlice, Sem.run_bind, run_underlying hd, Result.andThen, asInt, asIntOf, Sem.run_pure, run_info hie, w1, w2]
          rw [if_neg (by rw [← hbe]; simp; omega)]
          simp only [Sem.run_bind, Sem.run_pure, Result.andThen, run_askRoom, run_size hie, ← hse]
          by_cases h0 : c.toNat * et.size = 0
          · simp only [h0, if_true, Sem.run_bind, Sem.run_pure, Result.andThen, e0, newRow, run_newObj_alloc, Array.append_empty]
          · simp only [h0, if_false, Sem.run_bind, Sem.run_pure, Result.andThen, h1, newRow, run_newObj_alloc, Array.append_empty]
        · simp only [Array.append_empty] at q3 ⊢
          refine .slice _ _ _ _ _ _ _ w.heap.size 0 c.toNat q3 (by omega) (Nat.le_refl _) (fun _ => rfl) ?_ (.inr (by simp))
          obtain ⟨cc, ty, fr, r1, r2⟩ := q4
          refine ⟨cc, ty, fr, by simpa using r1, ?_⟩
          simpa using r2
      · exact h.elim
    · exact h.elim
  · exact h.elim

theorem storeVar_run {t : TypeId} {ti : TI} (ht : tinfo C t = some ti) {v : Value} {b x : Nat} (hsz : v.cells.size = ti.size)
    (hc : ∀ j, j < v.cells.size → (w.cell? ⟨b, x + j, none⟩).isSome = true) (hf : ∀ j, j < v.cells.size → w.frozen? ⟨b, x + j, none⟩ = false) (h1 : ∀ u, u ∈ v.cells → u.oneCell' = true) :
    (storeVar t ⟨b, x, none⟩ v).run C.P w = .ok () (w.setCells b x v.cells.toList) := by
  obtain ⟨i, hi, hd, hs, _, _, _⟩ := tinfo_ok ht
  have := run_storeCells_cells (P := C.P) b x v.cells.toList 0 w (by simpa using hc) (by simpa using hf) (by simpa using h1)
  simp only [storeVar, Sem.run_bind, run_size hi, Result.andThen]
  rw [if_neg (by rw [hsz, hs]; simp)]
  simpa using this

theorem asTC_ok : ∀ {l : List AV} {t : List TC}, asTC l = some t → tcs t = l
  | [], t, h => by simp only [asTC, Option.some.injEq] at h; subst h; rfl
  | x :: r, t, h => by
    cases x with
    | tc c =>
      simp only [asTC, Option.map_eq_some_iff] at h
      obtain ⟨t', ht', rfl⟩ := h
      simp only [tcs, List.map_cons]
      rw [show t'.map AV.tc = r from asTC_ok ht']
    | _ => simp [asTC] at h

theorem tcs_setSpan (l c : List TC) (f : Nat) : tcs (setSpan l f c) = setSpan (tcs l) f (tcs c) := by simp [tcs, setSpan]

theorem storeA_ok {t : TypeId} {ti : TI} {x y : AV} {xv yv : Value} {k : Heap → Out} (ht : tinfo C t = some ti) (h : storeA ti x y H k) (hx : Rel Pb μ w x xv) (hy : Rel Pb μ w y yv) (hH : HeapRel Pb μ B0 w H) :
    ∃ H' w' Pb' μ', k H' ∧ (Instr.storeAt t xv yv).run C.P w = .ok () w' ∧ HeapRel Pb' μ' B0 w' H' ∧ Goes Pb μ B0 w H.length Pb' μ' w' H'.length := by
  unfold storeA at h
  split at h
  · rename_i o s i f ver cs hcs
    have hrc := cellsOfA_ok hcs hy
    cases hx with
    | ptr _ _ _ _ _ b hb =>
      -- one law for both kinds of objects
      have key : ∀ (obj obj' : AObj) (el : List (List AV)) (row : List AV), H[o]? = some obj → rowsOf obj = some el → sizeOfObj obj = s → ver = obj.len → cs.length = ti.size → cs.all cellOk = true →
          el[i]? = some row → f + cs.length ≤ row.length → rowsOf obj' = some (el.set i (setSpan row f cs)) → sizeOfObj obj' = s → obj'.len = obj.len → k (H.set o obj') →
          ∃ H' w' Pb' μ', k H' ∧ (Instr.storeAt t (.pointer (some ⟨b, i * s + f, none⟩)) yv).run C.P w = .ok () w' ∧ HeapRel Pb' μ' B0 w' H' ∧ Goes Pb μ B0 w H.length Pb' μ' w' H'.length := by
        intro obj obj' el row ho hr hs hver hcl hok hrow hfit hr' hs' hlen hk
        subst hver
        obtain ⟨_, b', hb', hB, hP, hR⟩ := (hH.obj o obj ho).rows hr
        rw [hb] at hb'
        simp only [Option.some.injEq] at hb'
        subst hb'
        rw [hs] at hR
        have hone := all_one hrc hok
        have := heap_write hH (at_ := i * s + f) (vs := yv.cells.toList) ho hb hB hP (by omega) hr' hs' (fun μ' hμ hext => store_cells hR hrow hfit hrc hone rfl (fun _ h => h) hμ hext)
        refine ⟨_, _, Pb, _, hk, ?_, this.1, this.2⟩
        obtain ⟨r1, c, ty, fr, r2, r3, r4, r5⟩ := hR
        have hrs : row.length = s := r1 row (List.mem_of_getElem? hrow)
        have hin : i * s + row.length ≤ c.size := by
          have := mul_le_rows (s := s) (show i + 1 ≤ el.length from lt_of_get hrow)
          rw [Nat.add_mul] at this
          omega
        have hcl' := hrc.1
        simp only [Instr.storeAt, Instr.sureAddr, Sem.run_bind, Sem.run_pure, Result.andThen]
        refine storeVar_run ht (by omega) (fun j hj => ?_) (fun j hj => r3 _ (by omega)) hone
        simp only [World.cell?, r2]
        have : i * s + f + j < c.size := by omega
        simp [this]
      split at h
      · rename_i s' el ho
        have hcf := cond_false h; clear h; obtain ⟨hc, h⟩ := hcf
        simp only [Bool.and_eq_true, decide_eq_true_eq] at hc
        obtain ⟨⟨⟨rfl, hver⟩, hcl⟩, hok⟩ := hc
        split at h
        · exact h.elim
        · rename_i row hrow
          have hcf := cond_false h; clear h; obtain ⟨hfit, h⟩ := hcf
          simp only [decide_eq_true_eq] at hfit
          have hrow' : (el.map tcs)[i]? = some (tcs row) := by rw [List.getElem?_map, hrow]; rfl
          split at h
          · rename_i c hcc
            have := asTC_ok hcc
            refine key _ (.tcells s' (el.set i (setSpan row f c))) _ (tcs row) ho rfl rfl hver hcl hok hrow' (by simpa [tcs] using hfit) ?_ rfl (by simp [AObj.len]) h
            simp only [rowsOf, List.map_set, tcs_setSpan, this]
          · exact key _ (.cells s' _) _ (tcs row) ho rfl rfl hver hcl hok hrow' (by simpa [tcs] using hfit) rfl rfl (by simp [AObj.len]) h
      · rename_i s' el ho
        have hcf := cond_false h; clear h; obtain ⟨hc, h⟩ := hcf
        simp only [Bool.and_eq_true, decide_eq_true_eq] at hc
        obtain ⟨⟨⟨rfl, hver⟩, hcl⟩, hok⟩ := hc
        split at h
        · exact h.elim
        · rename_i row hrow
          have hcf := cond_false h; clear h; obtain ⟨hfit, h⟩ := hcf
          simp only [decide_eq_true_eq] at hfit
          exact key _ (.cells s' _) _ row ho rfl rfl hver hcl hok hrow hfit rfl rfl (by simp [AObj.len]) h
      · exact h.elim
  · exact h.elim
end
end Go.Proofs.Ytgpijioodocplaa
