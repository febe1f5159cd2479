/- Operations that make memory, or write. -/
import Derived.Test.YtgpijioodocplaaSyRows
import Derived.Test.YtgpijioodocplaaSyQop
set_option linter.unusedVariables false
set_option linter.unusedSectionVars false
set_option linter.unusedSimpArgs false
namespace Go.Proofs.Ytgpijioodocplaa
open Go Go.RowKit
variable [Obs]

section
variable {C : Ctx} {Pb : Nat → Prop} {μ : Mu} {B0 : Nat} {w : World} {T : Look} {H : Heap} {a : Act}

/-- What is told of an operation: a value, a heap, a world. -/
def HRes (C : Ctx) (Pb : Nat → Prop) (μ : Mu) (B0 : Nat) (w : World) (H : Heap) (k : AV → Heap → Out) (s : Sem Value) : Prop :=
  ∃ r H' v w' Pb' μ', k r H' ∧ s.run C.P w = .ok v w' ∧ Rel Pb' μ' w' r v ∧ HeapRel Pb' μ' B0 w' H' ∧ Goes Pb μ B0 w H.length Pb' μ' w' H'.length

theorem scs_all {l : List Value} : tcs (l.map TC.sc) = scs l := by simp [tcs, scs]

theorem zeroCellsA_ok {t : TypeId} {ti : TI} {z : List TC} (ht : tinfo C t = some ti) (hz : zeroCellsA ti = some z) :
    ∃ zv, (∀ w', (zeroValue t).run C.P w' = .ok zv w') ∧ RelL Pb μ w (tcs z) zv.cells ∧ z.length = zv.cells.size ∧ ti.zero = some zv := by
  obtain ⟨i, hi, hd, hs, _, hzz, _⟩ := tinfo_ok ht
  simp only [zeroCellsA, Option.map_eq_some_iff] at hz
  obtain ⟨zv, hzv, rfl⟩ := hz
  refine ⟨zv, fun w' => ?_, ?_, by simp, hzv⟩
  · simp [zeroValue, run_info hi, ← hzz, hzv]
  · rw [scs_all]; exact rel_scs ..

theorem all_one {cs : List AV} {vs : Array Value} (h : RelL Pb μ w cs vs) (hok : cs.all cellOk = true) : ∀ u, u ∈ vs → u.oneCell' = true := by
  intro u hu
  obtain ⟨i, hi, rfl⟩ := Array.mem_iff_getElem.1 hu
  have hl' : i < cs.length := by rw [h.1]; exact hi
  exact cellOk_one (List.all_eq_true.1 hok _ (List.getElem_mem hl')) (h.2 i _ _ (List.getElem?_eq_getElem hl') (Array.getElem?_eq_getElem hi))

theorem rowsRel_one {cs : List AV} {vs : Array Value} {s : Nat} (h : RelL Pb μ w cs vs) (hl : cs.length = s) (hok : ∀ u, u ∈ vs → u.oneCell' = true) : RowsRel Pb μ w s [cs] vs := by
  refine ⟨by rw [← h.1, hl]; simp, fun r hr => by simp at hr; rw [hr, hl], fun i f r x hi hf => ?_⟩
  cases i with
  | zero =>
    simp at hi
    subst hi
    obtain ⟨v, hv, hR⟩ := RelL.get h hf
    exact ⟨v, by simpa using hv, hok v (Array.mem_of_getElem? hv), hR⟩
  | succ i => simp at hi

/-- A new row in a new block. -/
theorem new_rows (hH : HeapRel Pb μ B0 w H) {rows : List (List AV)} {vals rest : Array Value} {s : Nat} (hR : RowsRel Pb μ w s rows vals) {obj : AObj} (hr : rowsOf obj = some rows) (hs : sizeOfObj obj = s)
    (hn : obj.len = rows.length) (w1 : World) (hw1 : w1.heap = w.heap ∧ w1.os = w.os ∧ w1.tape = w.tape ∧ w1.output = w.output) (ty : TypeId) :
    ∃ μ', HeapRel Pb μ' B0 (w1.alloc (.cells (vals ++ rest) ty)) (H ++ [obj]) ∧ Goes Pb μ B0 w H.length Pb μ' (w1.alloc (.cells (vals ++ rest) ty)) (H ++ [obj]).length ∧ μ' H.length rows.length = some w.heap.size ∧
      sizeAt (w1.alloc (.cells (vals ++ rest) ty)) w.heap.size (vals.size + rest.size) := by
  have := heap_new hH hr hs w1 hw1 (vals ++ rest) ty hR.rowl (by rw [Array.size_append, hR.len]; exact Nat.le_add_right _ _) (fun i f r x hi hf => by
    obtain ⟨v, h1, h2, h3⟩ := hR.cells i f r x hi hf
    refine ⟨v, ?_, h2, h3⟩
    rw [Array.getElem?_append_left]
    · exact h1
    · rcases Nat.lt_or_ge (i * s + f) vals.size with h | h
      · exact h
      · simp [Array.getElem?_eq_none h] at h1)
  refine ⟨_, this.1, this.2, by rw [← hn]; exact upd_same .., ?_⟩
  have hg := get_alloc_new w1 (.cells (vals ++ rest) ty)
  rw [hw1.1] at hg
  exact ⟨_, ty, (0, 0), hg, by simp⟩

theorem allocA_ok {t : TypeId} {ti : TI} {cs : List AV} {v : Value} {k : AV → Heap → Out} (ht : tinfo C t = some ti) (h : allocA ti cs H k) (hH : HeapRel Pb μ B0 w H)
    (hv : RelL Pb μ w cs v.cells) : HRes C Pb μ B0 w H k (do pure (.pointer (some (← newVar t v)))) := by
  unfold allocA at h
  have hcf := cond_false h; clear h; obtain ⟨hc, h⟩ := hcf
  simp only [Bool.and_eq_true, decide_eq_true_eq] at hc
  obtain ⟨⟨h1, h2⟩, h3⟩ := hc
  obtain ⟨e1, e2, e3⟩ := rows_newCells (s := ti.size) (el := [cs])
  obtain ⟨μ', g1, g2, g3, _⟩ := new_rows hH (rest := #[]) (rowsRel_one hv h1 (all_one hv h3)) e1 e2 e3 w ⟨rfl, rfl, rfl, rfl⟩ t
  refine ⟨_, _, .pointer (some ⟨w.heap.size, 0, none⟩), _, Pb, μ', h, ?_, ?_, g1, g2⟩
  · simp only [newVar, newRow, Sem.run_bind, run_newObj_alloc, Result.andThen, Sem.run_pure, Array.append_empty]
  · have := Rel.ptr (Pb := Pb) (μ := μ') (w := w.alloc (.cells (v.cells ++ #[]) t)) H.length ti.size 0 0 1 w.heap.size g3
    simpa using this

theorem newVar_run (P : Program) (t : TypeId) (v : Value) (w : World) : (newVar t v).run P w = .ok ⟨w.heap.size, 0, none⟩ (w.alloc (.cells v.cells t)) := rfl

theorem alloc_ok {t : TypeId} {ti : TI} {z : List TC} {k : AV → Heap → Out} (ht : tinfo C t = some ti) (hz : zeroCellsA ti = some z) (h : allocA ti (tcs z) H k) (hH : HeapRel Pb μ B0 w H) :
    HRes C Pb μ B0 w H k (Instr.alloc t true (.tuple #[])) := by
  obtain ⟨zv, h1, h2, _, _⟩ := zeroCellsA_ok (Pb := Pb) (μ := μ) (w := w) ht hz
  obtain ⟨r, H', v, w', Pb', μ', g1, g2, g3⟩ := allocA_ok ht h hH h2
  refine ⟨r, H', v, w', Pb', μ', g1, ?_, g3⟩
  simp only [Instr.alloc, Sem.run_bind, h1, Result.andThen] at g2 ⊢
  exact g2

theorem box_ok {t : TypeId} {ti : TI} {x : AV} {v : Value} {cs : List AV} {k : AV → Heap → Out} (ht : tinfo C t = some ti) (hx : Rel Pb μ w x v) (hcs : cellsOfA x = some cs) (h : allocA ti cs H k)
    (hH : HeapRel Pb μ B0 w H) : HRes C Pb μ B0 w H k (Instr.box t v) := allocA_ok ht h hH (cellsOfA_ok hcs hx)

/-! ### values built of parts -/

theorem fold_zip_list (off : Nat) : ∀ (l : List Value) (k : Nat) (cells : Array Value),
    (l.zipIdx k).foldl (fun cs (p : Value × Nat) => cs.setIfInBounds (off + p.2) p.1) cells = setR cells (off + k) l
  | [], _, _ => rfl
  | a :: l, k, cells => by simp only [List.zipIdx_cons, List.foldl_cons, setR]; rw [fold_zip_list off l (k + 1)]; rfl

theorem fold_zip (off : Nat) (vc cells : Array Value) : vc.zipIdx.foldl (fun cs (c, j) => cs.setIfInBounds (off + j) c) cells = setR cells off vc.toList := by
  rw [← Array.foldl_toList, Array.toList_zipIdx]
  exact fold_zip_list off vc.toList 0 cells

/-- A list of parts, as values. -/
def PartsRel (Pb : Nat → Prop) (μ : Mu) (w : World) (ps : List (Nat × AV)) (vs : List (Nat × Value)) : Prop :=
  ps.length = vs.length ∧ ∀ (i : Nat) (p : Nat × AV) (q : Nat × Value), ps[i]? = some p → vs[i]? = some q → p.1 = q.1 ∧ Rel Pb μ w p.2 q.2

theorem parts_rel (hT : RelF Pb μ w T a.tmps) (hG : GlobRel C Pb μ w) (ps : Array (Nat × Operand)) :
    PartsRel Pb μ w (ps.toList.map fun p => (p.1, ev C T p.2)) (ps.map fun (i, x) => (i, a.eval x)).toList := by
  refine ⟨by simp, fun i p q hp hq => ?_⟩
  simp only [List.getElem?_map, Option.map_eq_some_iff, Array.toList_map] at hp hq
  obtain ⟨x, hx, rfl⟩ := hp
  obtain ⟨y, hy, rfl⟩ := hq
  rw [hx] at hy
  simp only [Option.some.injEq] at hy
  subst hy
  exact ⟨rfl, ev_ok hT hG _⟩

theorem PartsRel.cons {ps : List (Nat × AV)} {p : Nat × AV} {vs : List (Nat × Value)} (h : PartsRel Pb μ w (p :: ps) vs) :
    ∃ q qs, vs = q :: qs ∧ p.1 = q.1 ∧ Rel Pb μ w p.2 q.2 ∧ PartsRel Pb μ w ps qs := by
  obtain ⟨h1, h2⟩ := h
  cases vs with
  | nil => simp at h1
  | cons q qs =>
    have h0 := h2 0 p q rfl rfl
    exact ⟨q, qs, rfl, h0.1, h0.2, by simpa using h1, fun i p q hp hq => h2 (i + 1) p q (by simpa using hp) (by simpa using hq)⟩

theorem fillA_ok {place : Nat → Option (Nat × Nat)} : ∀ {ps : List (Nat × AV)} {vs : List (Nat × Value)} {cs cs' : List AV} {cells : Array Value},
    fillA place cs ps = some cs' → PartsRel Pb μ w ps vs → RelL Pb μ w cs cells → ∃ cells', Instr.fill place cells vs = some cells' ∧ RelL Pb μ w cs' cells'
  | [], vs, cs, cs', cells, h, hp, hc => by
    have : vs = [] := List.length_eq_zero_iff.1 hp.1.symm
    subst this
    simp only [fillA, Option.some.injEq] at h
    subst h
    exact ⟨cells, rfl, hc⟩
  | (i, x) :: ps, vs, cs, cs', cells, h, hp, hc => by
    obtain ⟨q, qs, rfl, hi, hR, hps⟩ := hp.cons
    obtain ⟨j, v⟩ := q
    simp only at hi hR
    subst hi
    simp only [fillA] at h
    split at h
    · rename_i off size vc hpl hvc
      split at h
      · rename_i hcond
        obtain ⟨hl1, hl2⟩ := hcond
        have hrc := cellsOfA_ok hvc hR
        have hstep : RelL Pb μ w (setSpan cs off vc) (setR cells off v.cells.toList) := by
          have hin : off + v.cells.toList.length ≤ cells.size := by rw [Array.length_toList, ← hrc.1, ← hc.1]; omega
          refine ⟨by rw [setSpan_length (by omega), setR_size, hc.1], fun k y u hy hu => ?_⟩
          rw [setSpan_get (by omega)] at hy
          rw [setR_get _ _ _ _ hin, Array.length_toList, ← hrc.1] at hu
          split at hy
          · rename_i hk
            rw [if_pos hk, Array.getElem?_toList] at hu
            exact hrc.2 _ y u hy hu
          · rename_i hk
            rw [if_neg hk] at hu
            exact hc.2 k y u hy hu
        obtain ⟨cells', h1, h2⟩ := fillA_ok h hps hstep
        refine ⟨cells', ?_, h2⟩
        have hsz : v.cells.size = size := by rw [← hrc.1, hl1]
        simp only [Instr.fill, hpl, hsz, fold_zip]
        have hcc := hc.1
        rw [if_neg (by simp; omega)]
        exact h1
      · cases h
    · cases h

theorem mapM_places {P : Program} (fs : List Field) (w : World) (g : Field → Nat) (hg : ∀ f, f ∈ fs → (sizeOf f.type).run P w = .ok (g f) w) :
    (fs.mapM fun (f : Field) => (do pure (f.offset, ← sizeOf f.type) : Sem (Nat × Nat))).run P w = .ok (fs.map fun f => (f.offset, g f)) w := by
  induction fs with
  | nil => rfl
  | cons f fs ih =>
    simp only [List.mapM_cons, Sem.run_bind, hg f (by simp), Result.andThen, Sem.run_pure, ih (fun x hx => hg x (by simp [hx])), List.map_cons]

theorem build_ok {t : TypeId} {ti : TI} {ps : List (Nat × AV)} {vs : Array (Nat × Value)} {k : AV → Out} (ht : tinfo C t = some ti) (h : buildA C ti ps k) (hp : PartsRel Pb μ w ps vs.toList) :
    Quiet C Pb μ w k (Instr.build t vs) := by
  obtain ⟨i, hi, hd, _, _, _, _⟩ := tinfo_ok ht
  unfold buildA at h
  split at h
  · rename_i z fs hz hu
    rw [hu] at hd
    have hcf := cond_false h; clear h; obtain ⟨hc, h⟩ := hcf
    obtain ⟨zv, h1, h2, _, _⟩ := zeroCellsA_ok (Pb := Pb) (μ := μ) (w := w) ht hz
    split at h
    · rename_i cs hcs
      let g : Field → Nat := fun f => ((tinfo C f.type).map (·.size)).getD 0
      have hg : ∀ f, f ∈ fs.toList → ∀ w', (sizeOf f.type).run C.P w' = .ok (g f) w' := fun f hf w' => by
        have := List.all_eq_true.1 hc f hf
        obtain ⟨ft, hft⟩ := Option.isSome_iff_exists.1 this
        obtain ⟨ii, hii, _, hs, _⟩ := tinfo_ok hft
        simp only [g, hft, Option.map_some, Option.getD_some, hs]
        exact run_size hii w'
      have hplace : (fun (i : Nat) => (fs[i]?).bind fun (f : Field) => (tinfo C f.type).map fun ft => (f.offset, ft.size)) = fun (i : Nat) => ((fs.map fun f => (f.offset, g f))[i]? : Option (Nat × Nat)) := by
        funext i
        rw [Array.getElem?_map]
        cases hfi : fs[i]? with
        | none => rfl
        | some f =>
          have := List.all_eq_true.1 hc f (by simpa using Array.mem_of_getElem? hfi)
          obtain ⟨ft, hft⟩ := Option.isSome_iff_exists.1 this
          simp [g, hft]
      rw [hplace] at hcs
      obtain ⟨cells', g1, g2⟩ := fillA_ok hcs hp h2
      refine ⟨_, .agg cells', h, .agg _ _ g2.1 g2.2, fun w' _ => ?_⟩
      have hm : (fs.mapM fun (f : Field) => (do pure (f.offset, ← sizeOf f.type) : Sem (Nat × Nat))).run C.P w' = .ok (fs.map fun f => (f.offset, g f)) w' := by
        rw [Array.mapM_eq_mapM_toList]
        simp only [Sem.run_map, mapM_places fs.toList w' g (fun f hf => hg f hf w'), Result.andThen]
        congr 1
        apply Array.ext'
        simp
      simp only [Instr.build, Sem.run_bind, h1, Result.andThen, run_underlying hd, hm, g1, Sem.run_pure]
    · exact h.elim
  · rename_i z n e hz hu
    rw [hu] at hd
    obtain ⟨zv, h1, h2, _, _⟩ := zeroCellsA_ok (Pb := Pb) (μ := μ) (w := w) ht hz
    split at h
    · rename_i et hte
      obtain ⟨ie, hie, _, hse, _⟩ := tinfo_ok hte
      split at h
      · rename_i cs hcs
        obtain ⟨cells', g1, g2⟩ := fillA_ok hcs hp h2
        rw [hse] at g1
        refine ⟨_, .agg cells', h, .agg _ _ g2.1 g2.2, fun w' _ => ?_⟩
        simp only [Instr.build, Sem.run_bind, h1, Result.andThen, run_underlying hd, run_size hie, g1, Sem.run_pure]
      · exact h.elim
    · exact h.elim
  · exact h.elim
end
end Go.Proofs.Ytgpijioodocplaa
