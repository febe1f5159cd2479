/- The fast evaluator tells what the evaluator tells: structs and slices that are written out; structs compared; slices of slices. -/
import Derived.Test.YtdafainfcegfkaaSyFastOkB
set_option linter.unusedVariables false
set_option linter.unusedSectionVars false
set_option linter.unusedSimpArgs false
namespace Go.Proofs.Ytdafainfcegfkaa
open Go Go.RowKit

theorem appL_eq {α : Type} (x : α) : ∀ (l : List α), appL l x = l ++ [x]
  | [] => rfl
  | a :: r => by show a :: appL r x = _; rw [appL_eq x r]; rfl

theorem asTC_tcs : ∀ (z : List TC), asTC (tcs z) = some z
  | [] => rfl
  | c :: r => by show (asTC (tcs r)).map (c :: ·) = _; rw [asTC_tcs r]; rfl

theorem newCells_tcs (s : Nat) (z : List TC) : newCells s [tcs z] = .tcells s [z] := by
  simp only [newCells, mapO, asTC_tcs]

theorem newCells_tc (s : Nat) (c : TC) : newCells s [[.tc c]] = .tcells s [[c]] := newCells_tcs s [c]

theorem newCells_no (s : Nat) (v : AV) (h : asTC [v] = none) : newCells s [[v]] = .cells s [[v]] := by
  simp only [newCells, mapO, h]

section
variable {C : Ctx} {d : Nat} {T : Tmps} {H : Heap}

/-- The place of a field. -/
def placeF (C : Ctx) (fs : Array Field) (i : Nat) : Option (Nat × Nat) := (fs[i]?).bind fun f => (tinfo C f.type).map fun ft => (f.offset, ft.size)

theorem bpF_eq (hd : T.length ≤ 2 ^ d) {fs : Array Field} {k : List AV → Out} {z : Out} : ∀ {ps : List (Nat × Operand)} {l : List BP} {cs : List AV}, cPs (baseOf C) d fs ps = some l →
    (∀ r, fillA (placeF C fs) cs (ps.map fun p => (p.1, ev C (getL T) p.2)) = some r → k r = z) → bpF l (enc d T) cs k z = z
  | [], l, cs, hl, hk => by
    simp only [cPs, Option.some.injEq] at hl
    subst hl
    exact hk cs rfl
  | (i, x) :: ps, l, cs, hl, hk => by
    simp only [cPs] at hl
    split at hl
    · rename_i f hf
      split at hl
      · rename_i ft l' hft hl'
        simp only [Option.some.injEq] at hl
        subst hl
        have hp : placeF C fs i = some (f.offset, ft.size) := by
          have : tinfo C f.type = some ft := hft
          simp [placeF, hf, this]
        show cellsF (evF (cO (baseOf C) d x) (enc d T)) _ _ _ z = z
        rw [evF_cO hd]
        have fold : ∀ {vc : List AV} {cs' : List AV}, cellsOfA (ev C (getL T) x) = some vc → vc.length = ft.size → f.offset + ft.size ≤ cs.length → setSpan cs f.offset vc = cs' →
            ∀ r, fillA (placeF C fs) cs' (ps.map fun p => (p.1, ev C (getL T) p.2)) = some r → k r = z := fun {vc cs'} h1 h2 h3 h4 r hr => hk r (by
              simp only [List.map_cons, fillA, hp, h1]
              rw [if_pos ⟨h2, h3⟩, h4]; exact hr)
        refine cellsF_eq (fun c hc hok hcs => beq_rec (fun h1 => blt_rec (fun h2 => ?_) fun _ => rfl) fun _ => rfl) (fun hok hn hcs => beq_rec (fun h1 => blt_rec (fun h2 => ?_) fun _ => rfl) fun _ => rfl)
          (fun vc hc hcs => beq_rec (fun h1 => ble_rec (fun h2 => ?_) fun _ => rfl) fun _ => rfl)
        · rw [lenL_eq] at h2
          refine bpF_eq hd hl' (fold hcs (by rw [h1]; rfl) (by rw [h1]; exact h2) ?_)
          rw [hc, setSpan_one _ _ _ h2, setL_eq]
        · rw [lenL_eq] at h2
          refine bpF_eq hd hl' (fold hcs (by rw [h1]; rfl) (by rw [h1]; exact h2) ?_)
          rw [setSpan_one _ _ _ h2, setL_eq]
        · rw [lenL_eq] at h1 h2
          exact bpF_eq hd hl' (fold hcs h1 h2 rfl)
      · cases hl
    · cases hl

theorem rpF_eq (hd : T.length ≤ 2 ^ d) {es : Nat} {k : List (List AV) → Out} {z : Out} : ∀ {ps : List (Nat × Operand)} {rows : List (List AV)}, (∀ r ∈ rows, r.length = es) →
    (∀ r, fillRows rows (ps.map fun p => (p.1, ev C (getL T) p.2)) = some r → k r = z) → rpF (ps.map fun p => .mk p.1 es (cO (baseOf C) d p.2)) (enc d T) rows k z = z
  | [], rows, hr, hk => hk rows rfl
  | (i, x) :: ps, rows, hr, hk => by
    show cellsF (evF (cO (baseOf C) d x) (enc d T)) _ _ _ z = z
    rw [evF_cO hd]
    have fold : ∀ {vc : List AV}, cellsOfA (ev C (getL T) x) = some vc → vc.length = es → vc.all cellOk = true → i < rows.length →
        rpF (ps.map fun p => .mk p.1 es (cO (baseOf C) d p.2)) (enc d T) (setL rows i vc) k z = z := fun {vc} h1 h2 h3 h4 => by
      rw [setL_eq]
      refine rpF_eq hd (fun r hm => ?_) fun r hr' => hk r ?_
      · rcases List.mem_or_eq_of_mem_set hm with hm | hm
        · exact hr r hm
        · rw [hm]; exact h2
      · have hi : rows[i]? = some rows[i] := List.getElem?_eq_getElem h4
        simp only [List.map_cons, fillRows, hi, h1]
        rw [if_pos ⟨by rw [h2, hr _ (List.getElem_mem h4)], h3⟩]
        exact hr'
    refine cellsF_eq (fun c hc hok hcs => beq_rec (fun h1 => blt_rec (fun h2 => ?_) fun _ => rfl) fun _ => rfl) (fun hok hn hcs => beq_rec (fun h1 => blt_rec (fun h2 => ?_) fun _ => rfl) fun _ => rfl) (fun vc hc hcs => ?_)
    · rw [lenL_eq] at h2
      have := fold hcs (by rw [h1]; rfl) (by simp [hok]) h2
      rw [hc] at this
      exact this
    · rw [lenL_eq] at h2
      exact fold hcs (by rw [h1]; rfl) (by simp [hok]) h2
    · cases hall : allB okCell vc with
      | false => rfl
      | true =>
        rw [allB_eq okCell_eq] at hall
        exact beq_rec (fun h1 => blt_rec (fun h2 => fold hcs (by rw [← lenL_eq]; exact h1) hall (by rw [← lenL_eq]; exact h2)) fun _ => rfl) fun _ => rfl

/-! ### structs that are compared -/
theorem ekF_eq {t : TypeId} {ti : TI} {e : EK} (ht : tinfo C t = some ti) (he : (match ti.under with | .int _ => some EK.int | .bool => some .bool | .string => some .str | _ => none) = some e) {x y : AV} {k : Bool → Out} {z : Out}
    (hk : ∀ p b, eqCell C t x y = some p → constB p = some b → k b = z) : ekF e x y k z = z := by
  cases hu : ti.under <;> rw [hu] at he <;> simp only [Option.some.injEq, reduceCtorEq] at he
  case int kk =>
    subst he
    show vNum x _ _ z = z
    rcases vNum_cases x with ⟨kx, a, hx, h1⟩ | ⟨kx, f, hx, h1⟩ | h1
    · rw [h1]
      rcases vNum_cases y with ⟨ky, b, hy, h2⟩ | ⟨ky, f, hy, h2⟩ | h2
      · rw [h2]
        cases hkk : Nat.beq (kcode kx) (kcode ky) with
        | false => rfl
        | true =>
          have := kcode_inj hkk
          subst this
          refine hk (.cmp .eql (.lit b) (.lit a)) _ ?_ ?_
          · simp only [eqCell, ht, hx, hy, asSx, hu, decide_true]; rfl
          · rw [eqI_eq]; rfl
      · rw [h2]
      · rw [h2]
    · rw [h1]
    · rw [h1]
  case bool =>
    subst he
    show vB2 x _ z = z
    rcases vB2_cases x with ⟨a, hx, h1⟩ | h1
    · rw [h1]
      rcases vB2_cases y with ⟨b, hy, h2⟩ | h2
      · rw [h2]
        refine hk (.eqb (.lb a) (.lb b)) _ ?_ ?_
        · simp only [eqCell, ht, hx, hy, asSx, hu]
        · simp only [constB]; cases a <;> cases b <;> rfl
      · rw [h2]
    · rw [h1]
  case string =>
    subst he
    show vStr x _ z = z
    rcases vStr_cases x with ⟨a, hx, h1⟩ | h1
    · rw [h1]
      rcases vStr_cases y with ⟨b, hy, h2⟩ | h2
      · rw [h2]
        refine hk (.cmps .eql (.ls a) (.ls b)) _ ?_ ?_
        · simp only [eqCell, ht, hx, hy, asSx, hu]
        · rw [strEq_eq]; rfl
      · rw [h2]
    · rw [h1]

theorem efF_eq {xs ys : List AV} : ∀ {fs : List Field} {l : List EF} {k : Bool → Out} {z : Out}, cEF (baseOf C) fs = some l → (∀ e b, eqFieldsA C xs ys fs = some e → constB e = some b → k b = z) → efF l xs ys k z = z
  | [], l, k, z, hl, hk => by
    simp only [cEF, Option.some.injEq] at hl
    subst hl
    exact hk _ true rfl rfl
  | f :: fs, l, k, z, hl, hk => by
    simp only [cEF] at hl
    split at hl
    · cases hl
    · rename_i hn
      split at hl
      · rename_i ti l' ht hl'
        have ht' : tinfo C f.type = some ti := ht
        obtain ⟨e, he, rfl⟩ : ∃ e, (match ti.under with | .int _ => some EK.int | .bool => some .bool | .string => some .str | _ => none) = some e ∧ l = .mk f.offset e :: l' := by
          cases hu : ti.under <;> rw [hu] at hl <;> simp only [Option.some.injEq, reduceCtorEq] at hl <;> exact ⟨_, rfl, hl.symm⟩
        show nthL xs f.offset (fun x => nthL ys f.offset (fun y => ekF e x y (fun b => efF l' xs ys (fun c => k (@Bool.rec (fun _ => Bool) false c b)) z) z) z) z = z
        rw [nthL_eq]
        split
        · rename_i x hx
          rw [nthL_eq]
          split
          · rename_i y hy
            refine ekF_eq ht' he fun p b hp hb => efF_eq hl' fun q c hq hc => hk (.and p q) _ ?_ ?_
            · simp only [eqFieldsA, hn, hx, hy, hp, hq]
            · simp only [constB, hb, hc]; cases b <;> rfl
          · rfl
        · rfl
      · cases hl

theorem aggV_cases (v : AV) : (∃ cs, v = .agg cs ∧ ∀ f z, aggV v f z = f cs) ∨ (∀ f z, aggV v f z = z) := by
  cases v with
  | agg cs => exact .inl ⟨cs, rfl, fun _ _ => rfl⟩
  | _ => exact .inr fun _ _ => rfl

/-! ### a slice of a slice -/
theorem bndF_eq (hd : T.length ≤ 2 ^ d) {dflt : Int} {x : Option Operand} {k : Int → Out} {z : Out} (hk : ∀ n, (∀ k0 : Int → Out, boundA dflt (x.map (ev C (getL T))) k0 = k0 n) → k n = z) :
    bndF dflt (x.map (cO (baseOf C) d)) (enc d T) k z = z := by
  cases x with
  | none => exact hk dflt fun _ => rfl
  | some x =>
    show vNum (evF (cO (baseOf C) d x) (enc d T)) _ _ z = z
    rw [evF_cO hd]
    rcases vNum_cases (ev C (getL T) x) with ⟨kx, n, hx, h1⟩ | ⟨kx, f, hx, h1⟩ | h1
    · rw [h1]
      exact hk n fun k0 => by
        show (match intOf? (ev C (getL T) x) with | some n => k0 n | none => .fail) = _
        rw [hx]; rfl
    · rw [h1]
    · rw [h1]

theorem slV_eq (hd : T.length ≤ 2 ^ d) {ti et : TI} {e : TypeId} (hu : ti.under = .slice e) {v : AV} {lo hi : Option Operand} {k : AV → Out} {z : Out}
    (hz : (∀ u, v ≠ .tc (.sc u)) → (∀ t e, v ≠ .tc (.sy t e)) → z = sliceA ti et v (lo.map (ev C (getL T))) (hi.map (ev C (getL T))) none k) :
    slV v et.size (lo.map (cO (baseOf C) d)) (hi.map (cO (baseOf C) d)) (enc d T) k z = z := by
  cases v with
  | tc c =>
    cases c with
    | sl s el =>
      have hz' := hz (by simp) (by simp)
      show bndF (Int.ofNat (lenL el)) (hi.map (cO (baseOf C) d)) (enc d T) (fun h => bndF 0 (lo.map (cO (baseOf C) d)) (enc d T) (fun l => cond (leI 0 l && leI l h && leI h (Int.ofNat (lenL el)) && Nat.beq et.size s) (k (.tc (.sl s ((el.take h.toNat).drop l.toNat)))) z) z) z = z
      refine bndF_eq hd fun h hh => bndF_eq hd fun l hl => ?_
      rw [lenL_eq, leI_eq, leI_eq, leI_eq, beq_dec]
      cases hc : (decide (0 ≤ l) && decide (l ≤ h) && decide (h ≤ Int.ofNat el.length) && decide (et.size = s)) with
      | false => rfl
      | true =>
        rw [lenL_eq] at hh
        have hc' : (decide (0 ≤ l) && decide (l ≤ h) && decide (h ≤ (el.length : Int)) && decide (et.size = s)) = true := hc
        rw [hz']
        simp only [sliceA, hu]
        have hh' := fun k0 => hh k0
        show k _ = boundA (Int.ofNat el.length) _ _
        rw [hh', hl]
        simp only [hc', cond_true]
    | _ => rfl
  | slice o s i len cap ex ver =>
    have hz' := hz (by simp) (by simp)
    show bndF (Int.ofNat len) (hi.map (cO (baseOf C) d)) (enc d T) (fun h => bndF 0 (lo.map (cO (baseOf C) d)) (enc d T) (fun l => cond (leI 0 l && leI l h && leI h (Int.ofNat cap) && Nat.beq et.size s) (k (.slice o s (i + l.toNat) (h.toNat - l.toNat) (cap - l.toNat) ex ver)) z) z) z = z
    refine bndF_eq hd fun h hh => bndF_eq hd fun l hl => ?_
    rw [leI_eq, leI_eq, leI_eq, beq_dec]
    cases hc : (decide (0 ≤ l) && decide (l ≤ h) && decide (h ≤ Int.ofNat cap) && decide (et.size = s)) with
    | false => rfl
    | true =>
      have hc' : (decide (0 ≤ l) && decide (l ≤ h) && decide (h ≤ (cap : Int)) && decide (et.size = s)) = true := hc
      rw [hz']
      simp only [sliceA, hu]
      show k _ = boundA (Int.ofNat len) _ _
      rw [hh, hl]
      simp only [hc', cond_true]
  | _ => rfl
end
end Go.Proofs.Ytdafainfcegfkaa
