/- Operations that leave memory alone: what the evaluator tells of them holds. -/
import Derived.Test.YtgpijioodocplaaSySym
set_option linter.unusedVariables false
set_option linter.unusedSectionVars false
set_option linter.unusedSimpArgs false
namespace Go.Proofs.Ytgpijioodocplaa
open Go Go.RowKit
variable [Obs]

section
variable {C : Ctx} {Pb : Nat → Prop} {μ : Mu} {B0 : Nat} {w : World} {T : Look} {H : Heap} {a : Act}

theorem genOp_ok {o : Oper} {k : AV → Out} (h : genOp C o T k) (hs : ∀ cs b, o.op ≠ .select cs b) (hT : RelF Pb μ w T a.tmps) (hG : GlobRel C Pb μ w) :
    ∃ r v, k r ∧ Rel Pb μ w r v ∧ ∀ w', (execOp a.eval o).run C.P w' = .ok (.value v) w' := by
  unfold genOp at h
  split at h
  · exact symOp_ok h hT hG
  · rename_i l hl
    have hc : execOp a.eval o = execOp (fun x => (toVal (ev C T x)).getD undef) o := execOp_congr o hs fun x hx => by
      obtain ⟨y, hy⟩ := mapO_mem hl x (by simpa using hx)
      rw [hy, toVal_ok _ hy (ev_ok hT hG x)]
      rfl
    split at h
    · rename_i v hv
      exact ⟨_, v, h, rel_ofRes .., fun w' => by rw [hc]; exact pureRun_ok _ hv w'⟩
    · exact h.elim

/-- The blocks that were there are as they were. -/
def Same (w w' : World) : Prop := ∀ b, b < w.heap.size → w'.heap[b]? = w.heap[b]?

theorem Same.refl (w : World) : Same w w := fun _ _ => rfl

theorem Same.get {w w' : World} (h : Same w w') {b : Nat} {x : Obj} (hx : w.heap[b]? = some x) : w'.heap[b]? = some x := by
  rw [h b, hx]
  rcases Nat.lt_or_ge b w.heap.size with h | h
  · exact h
  · simp [Array.getElem?_eq_none h] at hx

theorem Same.cell {w w' : World} (h : Same w w') {p : Addr} {v : Value} (hv : w.cell? p = some v) : w'.cell? p = some v := by
  simp only [World.cell?] at hv ⊢
  split at hv
  · rename_i c ty fr hc
    rw [h.get hc]
    exact hv
  · simp at hv

theorem add_at (b x j : Nat) : (⟨b, x, none⟩ : Addr).add j = ⟨b, x + j, none⟩ := by unfold Addr.add; split <;> simp_all

theorem run_info {P : Program} {t : TypeId} {i : TypeInfo} (h : P.info? t = some i) (w : World) : (typeInfo t).run P w = .ok i w := by
  simp [typeInfo, program, Sem.run, h, pure, bind, Sem.bind]

theorem run_size {P : Program} {t : TypeId} {i : TypeInfo} (h : P.info? t = some i) (w : World) : (sizeOf t).run P w = .ok i.size w := by
  simp [sizeOf, run_info h]

theorem run_agg {P : Program} {t : TypeId} {d : TypeDesc} (h : P.underlying t = some d) (w : World) :
    (isAgg t).run P w = .ok (aggD d) w := by
  simp only [isAgg, Sem.run_bind, run_underlying h, Result.andThen]
  cases d <;> rfl

theorem run_loadVar_list {t : TypeId} {ti : TI} (ht : tinfo C t = some ti) (hagg : ti.agg = true) (b x : Nat) (cs : List Value) (hn : cs.length = ti.size)
    (h : ∀ j v, cs[j]? = some v → w.cell? ⟨b, x + j, none⟩ = some v) : (loadVar t ⟨b, x, none⟩).run C.P w = .ok (.agg cs.toArray) w := by
  obtain ⟨i, hi, hd, hs, _, _, ha⟩ := tinfo_ok ht
  have hl := run_loadCells_list (P := C.P) w ⟨b, x, none⟩ cs (fun j v hv => by rw [add_at]; exact h j v hv)
  rw [hn, hs] at hl
  rw [ha] at hagg
  simp [loadVar, run_agg hd, hagg, run_size hi, hl]

theorem run_loadVar_cell {t : TypeId} {ti : TI} (ht : tinfo C t = some ti) (hagg : ti.agg = false) (p : Addr) (v : Value)
    (h : w.cell? p = some v) : (loadVar t p).run C.P w = .ok v w := by
  obtain ⟨i, hi, hd, hs, _, _, ha⟩ := tinfo_ok ht
  rw [ha] at hagg
  simp [loadVar, run_agg hd, hagg, run_load, h]

theorem span_ok {α : Type} {l r : List α} {f n : Nat} (h : span l f n = some r) : r.length = n ∧ ∀ j, j < n → r[j]? = l[f + j]? := by
  unfold span at h
  dsimp only at h
  split at h
  · rename_i hl
    simp only [Option.some.injEq] at h
    subst h
    refine ⟨hl, fun j hj => ?_⟩
    rw [List.getElem?_take_of_lt hj, List.getElem?_drop]
  · simp at h

/-- Reading of rows: what the evaluator's rows tell, memory holds. -/
theorem load_rows {t : TypeId} {ti : TI} {el : List (List AV)} {i f : Nat} {b x s : Nat} {k : AV → Out} (ht : tinfo C t = some ti)
    (hr : ∀ r u j, el[i]? = some r → r[j]? = some u → ∃ v, w.cell? ⟨b, x + i * s + j, none⟩ = some v ∧ Rel Pb μ w u v)
    (h : Ok (match el[i]? with
      | none => .fail
      | some row => match ti.agg with
        | true => match span row f ti.size with | some r => k (.agg r) | none => .fail
        | false => match row[f]? with | some c => k c | none => .fail)) :
    ∃ r v, k r ∧ Rel Pb μ w r v ∧ ∀ w', Same w w' → (loadVar t ⟨b, x + i * s + f, none⟩).run C.P w' = .ok v w' := by
  split at h
  · exact h.elim
  · rename_i row hrow
    split at h
    · rename_i hagg
      split at h
      · rename_i r hsp
        obtain ⟨hlen, hget⟩ := span_ok hsp
        have hex : ∀ j, j < ti.size → ∃ u v, r[j]? = some u ∧ w.cell? ⟨b, x + i * s + f + j, none⟩ = some v ∧ Rel Pb μ w u v := fun j hj => by
          have h1 : r[j]? = some (r[j]'(by omega)) := List.getElem?_eq_getElem _
          rw [hget j hj] at h1
          obtain ⟨v, hv, hR⟩ := hr row _ (f + j) hrow h1
          exact ⟨_, v, by rw [hget j hj]; exact h1, by rw [← Nat.add_assoc] at hv; exact hv, hR⟩
        let g : Nat → Value := fun j => (w.cell? ⟨b, x + i * s + f + j, none⟩).getD undef
        refine ⟨.agg r, .agg ((List.range ti.size).map g).toArray, h, .agg _ _ (by simp [hlen]) fun j u v hu hv => ?_, fun w' hw' => ?_⟩
        · have hj : j < ti.size := by
            rcases Nat.lt_or_ge j r.length with h | h
            · omega
            · simp [List.getElem?_eq_none h] at hu
          obtain ⟨u', v', h1, h2, h3⟩ := hex j hj
          rw [hu] at h1
          simp only [Option.some.injEq] at h1
          subst h1
          simp [hj, g, h2] at hv
          subst hv
          exact h3
        · refine run_loadVar_list ht hagg b _ _ (by simp) fun j v hv => ?_
          have hj : j < ti.size := by
            rcases Nat.lt_or_ge j ti.size with h | h
            · exact h
            · simp [h] at hv
          obtain ⟨u', v', h1, h2, h3⟩ := hex j hj
          simp [hj, g, h2] at hv
          subst hv
          exact hw'.cell h2
      · exact h.elim
    · rename_i hagg
      split at h
      · rename_i c hc
        obtain ⟨v, hv, hR⟩ := hr row c f hrow hc
        exact ⟨c, v, h, hR, fun w' hw' => run_loadVar_cell ht hagg _ v (hw'.cell hv)⟩
      · exact h.elim

theorem tcs_get {l : List TC} {j : Nat} {u : AV} (h : (tcs l)[j]? = some u) : ∃ c, l[j]? = some c ∧ u = .tc c := by
  simp only [tcs, List.getElem?_map, Option.map_eq_some_iff] at h
  obtain ⟨c, hc, rfl⟩ := h
  exact ⟨c, hc, rfl⟩

/-- The trees' own form of a reading, as rows of values. -/
theorem tload_eq {ti : TI} {el : List (List TC)} {i f : Nat} {k : AV → Out}
    (h : Ok (match el[i]? with
      | none => .fail
      | some row => match ti.agg with
        | true => match span row f ti.size with | some r => k (.agg (tcs r)) | none => .fail
        | false => match row[f]? with | some c => k (.tc c) | none => .fail)) :
    Ok (match (el.map tcs)[i]? with
      | none => .fail
      | some row => match ti.agg with
        | true => match span row f ti.size with | some r => k (.agg r) | none => .fail
        | false => match row[f]? with | some c => k c | none => .fail) := by
  rw [List.getElem?_map]
  cases hi : el[i]? with
  | none => rw [hi] at h; exact h
  | some row =>
    rw [hi] at h
    simp only [Option.map_some] at h ⊢
    cases ha : ti.agg with
    | true =>
      rw [ha] at h
      simp only at h ⊢
      have : span (tcs row) f ti.size = (span row f ti.size).map tcs := by
        simp only [span, tcs, ← List.map_drop, ← List.map_take, List.length_map]
        split <;> rfl
      rw [this]
      cases hs : span row f ti.size with
      | none => rw [hs] at h; exact h
      | some r => rw [hs] at h; exact h
    | false =>
      rw [ha] at h
      simp only at h ⊢
      simp only [tcs, List.getElem?_map]
      cases hf : row[f]? with
      | none => rw [hf] at h; exact h
      | some c => rw [hf] at h; exact h

theorem rows_read {b s : Nat} {el : List (List AV)} (h : CellsRel Pb μ w b s el) (i : Nat) :
    ∀ r u j, el[i]? = some r → r[j]? = some u → ∃ v, w.cell? ⟨b, 0 + i * s + j, none⟩ = some v ∧ Rel Pb μ w u v := by
  intro r u j hi hj
  obtain ⟨_, c, ty, fr, h2, _, _, h5⟩ := h
  obtain ⟨v, q1, _, q3⟩ := h5 i j r u hi hj
  exact ⟨v, by simp [World.cell?, h2, q1], q3⟩

theorem loadA_ok {t : TypeId} {ti : TI} {x : AV} {v : Value} {k : AV → Out} (ht : tinfo C t = some ti) (h : loadA H ti x k) (hx : Rel Pb μ w x v) (hH : HeapRel Pb μ B0 w H) :
    ∃ r u, k r ∧ Rel Pb μ w r u ∧ ∀ w', Same w w' → (Instr.loadAt t v).run C.P w' = .ok u w' := by
  have sure : ∀ (p : Addr) (u : Value) (w' : World), (loadVar t p).run C.P w' = .ok u w' → (Instr.loadAt t (.pointer (some p))).run C.P w' = .ok u w' := fun p u w' hp => by
    simp [Instr.loadAt, Instr.sureAddr, hp]
  cases hx with
  | ptr o s i f ver b hb =>
    simp only [loadA] at h
    split at h
    · rename_i s' el ho
      have hcf := cond_false h; clear h; obtain ⟨hc, h⟩ := hcf
      simp only [Bool.and_eq_true, decide_eq_true_eq] at hc
      obtain ⟨rfl, rfl⟩ := hc
      obtain ⟨b', hb', _, _, hR⟩ := hH.obj o _ ho
      rw [hb] at hb'
      simp only [Option.some.injEq] at hb'
      subst hb'
      obtain ⟨r, u, h1, h2, h3⟩ := load_rows ht (rows_read hR i) (tload_eq h)
      simp only [Nat.zero_add] at h3
      exact ⟨r, u, h1, h2, fun w' hw' => sure _ _ _ (h3 w' hw')⟩
    · rename_i s' el ho
      have hcf := cond_false h; clear h; obtain ⟨hc, h⟩ := hcf
      simp only [Bool.and_eq_true, decide_eq_true_eq] at hc
      obtain ⟨rfl, rfl⟩ := hc
      obtain ⟨b', hb', _, _, hR⟩ := hH.obj o _ ho
      rw [hb] at hb'
      simp only [Option.some.injEq] at hb'
      subst hb'
      obtain ⟨r, u, h1, h2, h3⟩ := load_rows ht (rows_read hR i) h
      simp only [Nat.zero_add] at h3
      exact ⟨r, u, h1, h2, fun w' hw' => sure _ _ _ (h3 w' hw')⟩
    · exact h.elim
  | vptr s i f b off el g hb hs hc hr =>
    simp only [loadA] at h
    have hread : ∀ r u j, (el.map tcs)[i]? = some r → r[j]? = some u → ∃ v, w.cell? ⟨b, off + i * s + j, none⟩ = some v ∧ Rel Pb μ w u v := by
      intro r u j hi hj
      simp only [List.getElem?_map, Option.map_eq_some_iff] at hi
      obtain ⟨r', hr', rfl⟩ := hi
      obtain ⟨c, hc', rfl⟩ := tcs_get hj
      exact ⟨g i j, (hc i j r' c hr' hc').1, .tc _ _ (hr i j r' c hr' hc')⟩
    obtain ⟨r, u, h1, h2, h3⟩ := load_rows ht hread (tload_eq h)
    exact ⟨r, u, h1, h2, fun w' hw' => sure _ _ _ (h3 w' hw')⟩
  | _ => simp [loadA] at h
end
end Go.Proofs.Ytgpijioodocplaa
