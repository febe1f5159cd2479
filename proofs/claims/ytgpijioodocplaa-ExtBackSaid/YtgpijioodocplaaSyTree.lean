/- The same abstract values; slices that nobody writes, as trees. -/
import Derived.Test.YtgpijioodocplaaSyCongr
set_option linter.unusedVariables false
set_option linter.unusedSectionVars false
set_option linter.unusedSimpArgs false
namespace Go.Proofs.Ytgpijioodocplaa
open Go Go.RowKit

theorem Sx.beq_eq : ∀ {a b : Sx}, Sx.beq a b = true → a = b := by
  intro a
  induction a with
  | ls s =>
    intro b h
    cases b <;> simp [Sx.beq] at h
    rename_i s'
    congr 1
    cases s; cases s'
    simp only [ByteArray.mk.injEq]
    exact h
  | var i => intro b h; cases b <;> simp_all [Sx.beq]
  | lit i => intro b h; cases b <;> simp_all [Sx.beq]
  | lb i => intro b h; cases b <;> simp_all [Sx.beq]
  | nil => intro b h; cases b <;> simp_all [Sx.beq]
  | bin o k x y i1 i2 => intro b h; cases b <;> simp [Sx.beq] at h; obtain ⟨⟨⟨rfl, rfl⟩, h1⟩, h2⟩ := h; rw [i1 h1, i2 h2]
  | cmp o x y i1 i2 => intro b h; cases b <;> simp [Sx.beq] at h; obtain ⟨⟨rfl, h1⟩, h2⟩ := h; rw [i1 h1, i2 h2]
  | cmps o x y i1 i2 => intro b h; cases b <;> simp [Sx.beq] at h; obtain ⟨⟨rfl, h1⟩, h2⟩ := h; rw [i1 h1, i2 h2]
  | eqb x y i1 i2 => intro b h; cases b <;> simp [Sx.beq] at h; obtain ⟨h1, h2⟩ := h; rw [i1 h1, i2 h2]
  | conv k x i1 => intro b h; cases b <;> simp [Sx.beq] at h; obtain ⟨rfl, h1⟩ := h; rw [i1 h1]
  | not x i1 => intro b h; cases b <;> simp [Sx.beq] at h; rw [i1 h]
  | and x y i1 i2 => intro b h; cases b <;> simp [Sx.beq] at h; obtain ⟨h1, h2⟩ := h; rw [i1 h1, i2 h2]
  | len x i1 => intro b h; cases b <;> simp [Sx.beq] at h; rw [i1 h]
  | at_ x y i1 i2 => intro b h; cases b <;> simp [Sx.beq] at h; obtain ⟨h1, h2⟩ := h; rw [i1 h1, i2 h2]
  | sub x y z i1 i2 i3 => intro b h; cases b <;> simp [Sx.beq] at h; obtain ⟨⟨h1, h2⟩, h3⟩ := h; rw [i1 h1, i2 h2, i3 h3]
  | cat x y i1 i2 => intro b h; cases b <;> simp [Sx.beq] at h; obtain ⟨h1, h2⟩ := h; rw [i1 h1, i2 h2]
  | idx x y i1 i2 => intro b h; cases b <;> simp [Sx.beq] at h; obtain ⟨h1, h2⟩ := h; rw [i1 h1, i2 h2]
  | app f x i1 => intro b h; cases b <;> simp [Sx.beq] at h; obtain ⟨rfl, h1⟩ := h; rw [i1 h1]
  | arg t x y i1 i2 => intro b h; cases b <;> simp [Sx.beq] at h; obtain ⟨⟨rfl, h1⟩, h2⟩ := h; rw [i1 h1, i2 h2]

theorem bytes_eq {a b : ByteArray} (h : a.data.toList = b.data.toList) : a = b := by
  cases a; cases b
  simp only [ByteArray.mk.injEq]
  exact Array.toList_inj.1 h

theorem sameV_eq {a b : Value} (h : sameV a b = true) : a = b := by
  unfold sameV at h
  split at h
  · simp only [Bool.and_eq_true, decide_eq_true_eq] at h; rw [h.1, h.2]
  · simp only [beq_iff_eq] at h; rw [h]
  · simp only [decide_eq_true_eq] at h; rw [bytes_eq h]
  · simp only [Bool.and_eq_true, decide_eq_true_eq] at h; rw [h.1, h.2]
  · rfl
  · rfl
  · rfl
  · cases h

mutual
theorem sameT_eq : ∀ {a b : TC}, sameT a b = true → a = b
  | .sc v, .sc u, h => by simp only [sameT] at h; rw [sameV_eq h]
  | .sy t e, .sy t' e', h => by simp only [sameT, Bool.and_eq_true, decide_eq_true_eq] at h; rw [h.1, Sx.beq_eq h.2]
  | .sl s el, .sl s' el', h => by simp only [sameT, Bool.and_eq_true, decide_eq_true_eq] at h; rw [h.1, sameE_eq h.2]
  | .sc _, .sy .., h => by simp [sameT] at h
  | .sc _, .sl .., h => by simp [sameT] at h
  | .sy .., .sc _, h => by simp [sameT] at h
  | .sy .., .sl .., h => by simp [sameT] at h
  | .sl .., .sc _, h => by simp [sameT] at h
  | .sl .., .sy .., h => by simp [sameT] at h
theorem sameR_eq : ∀ {a b : List TC}, sameR a b = true → a = b
  | [], [], _ => rfl
  | x :: r, y :: q, h => by simp only [sameR, Bool.and_eq_true] at h; rw [sameT_eq h.1, sameR_eq h.2]
  | [], _ :: _, h => by simp [sameR] at h
  | _ :: _, [], h => by simp [sameR] at h
theorem sameE_eq : ∀ {a b : List (List TC)}, sameE a b = true → a = b
  | [], [], _ => rfl
  | x :: r, y :: q, h => by simp only [sameE, Bool.and_eq_true] at h; rw [sameR_eq h.1, sameE_eq h.2]
  | [], _ :: _, h => by simp [sameE] at h
  | _ :: _, [], h => by simp [sameE] at h
end

mutual
theorem sameA_eq : ∀ {a b : AV}, sameA a b = true → a = b
  | .tc a, b, h => by
    cases b <;> simp [sameA] at h
    rw [sameT_eq h]
  | .agg a, b, h => by
    cases b <;> simp [sameA] at h
    rw [sameAs_eq h]
  | .tuple a, b, h => by
    cases b <;> simp [sameA] at h
    rw [sameAs_eq h]
  | .ptr .., b, h => by
    cases b <;> simp [sameA] at h
    simp only [AV.ptr.injEq]; omega
  | .slice .., b, h => by
    cases b <;> simp [sameA] at h
    obtain ⟨⟨⟨⟨⟨⟨rfl, rfl⟩, rfl⟩, rfl⟩, rfl⟩, rfl⟩, rfl⟩ := h
    rfl
  | .map o, b, h => by
    cases b <;> simp [sameA] at h
    rw [h]
  | .any, b, h => by cases b <;> simp [sameA] at h
  | .vptr .., b, h => by cases b <;> simp [sameA] at h
  | .func .., b, h => by cases b <;> simp [sameA] at h
theorem sameAs_eq : ∀ {a b : List AV}, sameAs a b = true → a = b
  | [], [], _ => rfl
  | x :: r, y :: q, h => by simp only [sameAs, Bool.and_eq_true] at h; rw [sameA_eq h.1, sameAs_eq h.2]
  | [], _ :: _, h => by simp [sameAs] at h
  | _ :: _, [], h => by simp [sameAs] at h
end

section
variable [Obs]
variable {C : Ctx} {Pb : Nat → Prop} {μ : Mu} {B0 : Nat} {w : World} {T : Look} {H : Heap} {a : Act} {call : Caller}

theorem same_alloc (w : World) (x : Obj) : Same w (w.alloc x) := fun b hb => get_alloc_old x hb

theorem size_alloc (w : World) (x : Obj) : (w.alloc x).heap.size = w.heap.size + 1 := by show (w.heap.push _).size = _; simp

theorem below_alloc (hB : B0 ≤ w.heap.size) (x : Obj) : Below B0 w (w.alloc x) :=
  ⟨rfl, rfl, rfl, by rw [size_alloc]; omega, fun b hb => get_alloc_old x (Nat.lt_of_lt_of_le hb hB)⟩

theorem buildTree_ok {t : TypeId} {ti : TI} {n : Nat} {ps : List (Nat × AV)} {vs : Array (Nat × Value)} {k : AV → Out} (ht : tinfo C t = some ti) (h : buildTreeA C ti n ps k)
    (hp : PartsRel Pb μ w ps vs.toList) (hH : HeapRel Pb μ B0 w H) : ∃ r, k r ∧ ∃ v w' Pb', (Instr.buildSlice t n vs).run C.P w = .ok v w' ∧ Rel Pb' μ w' r v ∧ HeapRel Pb' μ B0 w' H ∧ Goes Pb μ B0 w H.length Pb' μ w' H.length := by
  obtain ⟨i, hi, hd, _, _, _, _⟩ := tinfo_ok ht
  unfold buildTreeA at h
  split at h
  · rename_i e hu
    rw [hu] at hd
    split at h
    · rename_i et hte
      obtain ⟨ie, hie, _, hse, _⟩ := tinfo_ok hte
      split at h
      · rename_i z hz
        have hcf := cond_false h; clear h; obtain ⟨hc, h⟩ := hcf
        simp only [Bool.and_eq_true, decide_eq_true_eq] at hc
        obtain ⟨⟨⟨c1, c2⟩, c3⟩, c4⟩ := hc
        obtain ⟨zv, h1, h2, _, _⟩ := zeroCellsA_ok (Pb := Pb) (μ := μ) (w := w) hte hz
        split at h
        · rename_i rows hrows
          split at h
          · rename_i l hl
            have hlt := mapTC_ok hl
            have hz0 := zero_rows n h2 c3 c2 c4
            obtain ⟨vals', g1, g2, g3⟩ := fillRows_ok hrows hp hz0
            rw [List.length_replicate] at g3
            have hll : l.length = n := by rw [← g3, ← hlt, List.length_map]
            refine ⟨_, h, .slice (some ⟨w.heap.size, 0, none⟩) n n, w.alloc (.cells vals' e), fun b => Pb b ∨ b = w.heap.size, ?_, ?_, ?_, ?_⟩
            · have e0 : ∀ f : Nat → Value, (Array.range 0).map f = #[] := fun f => by simp
              simp only [Instr.buildSlice, Sem.run_bind, run_underlying hd, Result.andThen, run_size hie, ← hse]
              rw [if_neg (by omega)]
              by_cases h0 : n * et.size = 0
              · simp only [h0, e0] at g1
                simp only [h0, if_true, Sem.run_bind, Sem.run_pure, Result.andThen, e0, g1, newRow, run_newObj_alloc]
              · simp only [h0, if_false, Sem.run_bind, Sem.run_pure, Result.andThen, h1, g1, newRow, run_newObj_alloc]
            · have hget : ∀ (i f : Nat) (r : List TC) (c : TC), l[i]? = some r → r[f]? = some c → ∃ v, vals'[i * et.size + f]? = some v ∧ v.oneCell' = true ∧ Rel Pb μ w (.tc c) v := fun i f r c hi hf =>
                g2.cells i f (tcs r) (.tc c) (by rw [← hlt, List.getElem?_map, hi]; rfl) (by simp [tcs, hf])
              have hrt := RT.sl (Pb := fun b => Pb b ∨ b = w.heap.size) (w := w.alloc (.cells vals' e)) et.size w.heap.size 0 n l (fun i f => vals'[i * et.size + f]?.getD undef) (by omega) (fun _ => .inr rfl)
                (fun r hr => by
                  obtain ⟨i, hi⟩ := List.mem_iff_getElem?.1 hr
                  have := g2.rowl (tcs r) (List.mem_of_getElem? (i := i) (by rw [← hlt, List.getElem?_map, hi]; rfl))
                  simpa [tcs] using this)
                (fun i f r c hi hf => by
                  obtain ⟨v, q1, q2, _⟩ := hget i f r c hi hf
                  simp only [q1, Option.getD_some]
                  refine ⟨?_, q2⟩
                  simp only [World.cell?, get_alloc_new]
                  simpa using q1)
                (fun i f r c hi hf => by
                  obtain ⟨v, q1, _, q3⟩ := hget i f r c hi hf
                  simp only [q1, Option.getD_some]
                  cases q3 with
                  | tc _ _ q3 => exact q3.mono (fun b hb => .inl hb) (fun b hb => get_alloc_old _ (hH.pb b hb)))
              rw [hll] at hrt
              exact .tc _ _ hrt
            · refine hH.same (same_alloc w _) (by rw [size_alloc]; omega) (fun b hb => .inl hb) (fun b hb => ?_)
              rcases hb with hb | hb
              · exact .inl hb
              · exact .inr ⟨Nat.le_of_eq hb.symm, by rw [hb, size_alloc]; omega⟩
            · exact ⟨fun b hb => .inl hb, fun _ _ _ h => h, ⟨fun b hb => get_alloc_old _ (hH.pb b hb), size_alloc_mono w _⟩, below_alloc hH.base _, Nat.le_refl _, fun b hb => hb.imp id fun h => Nat.le_of_eq h.symm⟩
          · exact h.elim
        · exact h.elim
      · exact h.elim
    · exact h.elim
  · exact h.elim

theorem det_buildTreeA {t : TI} {n : Nat} {ps : List (Nat × AV)} : Det (buildTreeA C t n ps) := by
  intro k h
  unfold buildTreeA at h ⊢
  split at h
  · split at h
    · split at h
      · obtain ⟨hc, h⟩ := cond_false h
        simp only [hc, cond_true]
        split at h
        · split at h
          · exact ⟨_, h, fun _ h' => h'⟩
          · exact h.elim
        · exact h.elim
      · exact h.elim
    · exact h.elim
  · exact h.elim

theorem det_aopQ (hc : DetC call) {o : Oper} : Det (aopQ C call o T H) := by
  intro k h
  unfold aopQ at h ⊢
  split at h
  · split at h
    · exact det_buildTreeA k h
    · exact h.elim
  · obtain ⟨x, y, h1, h2⟩ := det_aop hc _ h
    exact ⟨x, h1, fun k' h' => h2 _ h'⟩

/-- What is told of a quiet operation holds. -/
theorem aopQ_ok (hc : CallOk C call) (hsm : SummOk C) {o : Oper} {k : AV → Out} {Q : Exit → Act → World → Prop} (hq : quietO C o T = true) (h : aopQ C call o T H k) (hT : RelF Pb μ w T a.tmps)
    (hH : HeapRel Pb μ B0 w H) (hG : GlobRel C Pb μ w) {okO : Out} (hok : Ok okO) : o.wp C.P a w (After Pb μ B0 w H a o (fun r H' => @ite Out (H' = H) (Classical.propDecidable _) (k r) .fail)) Q := by
  classical
  by_cases hb : ∀ t n ps, o.op ≠ .buildSlice t n ps
  · refine aop_ok hc hsm ?_ hT hH hG
    rw [quiet_heap hq hb]
    simpa using h
  · obtain ⟨dst, op, type, pos, after, guard⟩ := o
    have : ∃ t n ps, op = .buildSlice t n ps := by
      refine Classical.byContradiction fun hn => hb fun t n ps he => hn ⟨t, n, ps, he⟩
    obtain ⟨t, n, ps, rfl⟩ := this
    simp only [aopQ] at h
    split at h
    · rename_i ti ht
      obtain ⟨r, h1, v, w', Pb', h2, h3, h4, h5⟩ := buildTree_ok ht h (parts_rel hT hG ps) hH
      exact wp_of_hres rfl ⟨r, H, v, w', Pb', μ, by simpa using h1, h2, h3, h4, h5⟩
    · exact h.elim
end
end Go.Proofs.Ytgpijioodocplaa
