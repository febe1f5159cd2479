/- The fast evaluator tells what the evaluator tells: structs and slices that are written out; structs compared; slices of slices. -/
import Derived.Test.YtgpijioodocplaaSyFastOkB
set_option linter.unusedVariables false
set_option linter.unusedSectionVars false
set_option linter.unusedSimpArgs false
namespace Go.Proofs.Ytgpijioodocplaa
open Go Go.RowKit

theorem appL_eq {α : Type} (x : α) : ∀ (l : List α), appL l x = l ++ [x]
  | [] => rfl
  | a :: r => by show a :: appL r x = _; rw [appL_eq x r]; rfl

theorem asTC_tcs : ∀ (z : List TC), asTC (tcs z) = some z
  | [] => rfl
  | c :: r => by show (asTC (tcs r)).map (c :: ·) = _; rw [asTC_tcs r]; rfl

theorem newCells_tcs (s : Nat) (z : List TC) : newCells s [tcs z] = .tcells s [z] := by
  simp only [newCells, mapO, asTC_tcs]

theorem newCells_tc (s : Nat) (c : TC) : newCells s [[.tc c]] = .tcells s [[c]] := newCells_tcs s [c]

theorem newCells_no (s : Nat) (v : AV) (h : asTC [v] = none) : newCells s [[v]] = .cells s [[v]] := by
  simp only [newCells, mapO, h]

section
variable {σ : Type} {E : EnvO σ} (hE : EnvOk E) {C : Ctx} {T : Tmps} {H : Heap}

/-- The place of a field. -/
def placeF (C : Ctx) (fs : Array Field) (i : Nat) : Option (Nat × Nat) := (fs[i]?).bind fun f => (tinfo C f.type).map fun ft => (f.offset, ft.size)

include hE in
theorem bpF_eq (hd : T.length ≤ E.cap) {fs : Array Field} {k : List AV → Out} {z : Out} : ∀ {ps : List (Nat × Operand)} {l : List (BP σ)} {cs : List AV}, cPs E (baseOf C) fs ps = some l →
    (∀ r, fillA (placeF C fs) cs (ps.map fun p => (p.1, ev C (getL T) p.2)) = some r → k r = z) → bpF l (E.enc (getL T)) cs k z = z
  | [], l, cs, hl, hk => by
    simp only [cPs, Option.some.injEq] at hl
    subst hl
    exact hk cs rfl
  | (i, x) :: ps, l, cs, hl, hk => by
    simp only [cPs] at hl
    split at hl
    · rename_i f hf
      split at hl
      · rename_i ft l' hft hl'
        simp only [Option.some.injEq] at hl
        subst hl
        have hp : placeF C fs i = some (f.offset, ft.size) := by
          have : tinfo C f.type = some ft := hft
          simp [placeF, hf, this]
        show cellsF (cO E (baseOf C) x (E.enc (getL T))) _ _ _ z = z
        rw [evF_cO hE hd]
        have fold : ∀ {vc : List AV} {cs' : List AV}, cellsOfA (ev C (getL T) x) = some vc → vc.length = ft.size → f.offset + ft.size ≤ cs.length → setSpan cs f.offset vc = cs' →
            ∀ r, fillA (placeF C fs) cs' (ps.map fun p => (p.1, ev C (getL T) p.2)) = some r → k r = z := fun {vc cs'} h1 h2 h3 h4 r hr => hk r (by
              simp only [List.map_cons, fillA, hp, h1]
              rw [if_pos ⟨h2, h3⟩, h4]; exact hr)
        refine cellsF_eq (fun c hc hok hcs => beq_rec (fun h1 => blt_rec (fun h2 => ?_) fun _ => rfl) fun _ => rfl) (fun hok hn hcs => beq_rec (fun h1 => blt_rec (fun h2 => ?_) fun _ => rfl) fun _ => rfl)
          (fun vc hc hcs => beq_rec (fun h1 => ble_rec (fun h2 => ?_) fun _ => rfl) fun _ => rfl)
        · rw [lenL_eq] at h2
          refine bpF_eq hd hl' (fold hcs (by rw [h1]; rfl) (by rw [h1]; exact h2) ?_)
          rw [hc, setSpan_one _ _ _ h2, setL_eq]
        · rw [lenL_eq] at h2
          refine bpF_eq hd hl' (fold hcs (by rw [h1]; rfl) (by rw [h1]; exact h2) ?_)
          rw [setSpan_one _ _ _ h2, setL_eq]
        · rw [lenL_eq] at h1 h2
          exact bpF_eq hd hl' (fold hcs h1 h2 rfl)
      · cases hl
    · cases hl

include hE in
theorem rpF_eq (hd : T.length ≤ E.cap) {es : Nat} {k : List (List AV) → Out} {z : Out} : ∀ {ps : List (Nat × Operand)} {rows : List (List AV)}, (∀ r ∈ rows, r.length = es) →
    (∀ r, fillRows rows (ps.map fun p => (p.1, ev C (getL T) p.2)) = some r → k r = z) → rpF (ps.map fun p => .mk p.1 es (cO E (baseOf C) p.2)) (E.enc (getL T)) rows k z = z
  | [], rows, hr, hk => hk rows rfl
  | (i, x) :: ps, rows, hr, hk => by
    show cellsF (cO E (baseOf C) x (E.enc (getL T))) _ _ _ z = z
    rw [evF_cO hE hd]
    have fold : ∀ {vc : List AV}, cellsOfA (ev C (getL T) x) = some vc → vc.length = es → vc.all cellOk = true → i < rows.length →
        rpF (ps.map fun p => .mk p.1 es (cO E (baseOf C) p.2)) (E.enc (getL T)) (setL rows i vc) k z = z := fun {vc} h1 h2 h3 h4 => by
      rw [setL_eq]
      refine rpF_eq hd (fun r hm => ?_) fun r hr' => hk r ?_
      · rcases List.mem_or_eq_of_mem_set hm with hm | hm
        · exact hr r hm
        · rw [hm]; exact h2
      · have hi : rows[i]? = some rows[i] := List.getElem?_eq_getElem h4
        simp only [List.map_cons, fillRows, hi, h1]
        rw [if_pos ⟨by rw [h2, hr _ (List.getElem_mem h4)], h3⟩]
        exact hr'
    refine cellsF_eq (fun c hc hok hcs => beq_rec (fun h1 => blt_rec (fun h2 => ?_) fun _ => rfl) fun _ => rfl) (fun hok hn hcs => beq_rec (fun h1 => blt_rec (fun h2 => ?_) fun _ => rfl) fun _ => rfl) (fun vc hc hcs => ?_)
    · rw [lenL_eq] at h2
      have := fold hcs (by rw [h1]; rfl) (by simp [hok]) h2
      rw [hc] at this
      exact this
    · rw [lenL_eq] at h2
      exact fold hcs (by rw [h1]; rfl) (by simp [hok]) h2
    · cases hall : allB okCell vc with
      | false => rfl
      | true =>
        rw [allB_eq okCell_eq] at hall
        exact beq_rec (fun h1 => blt_rec (fun h2 => fold hcs (by rw [← lenL_eq]; exact h1) hall (by rw [← lenL_eq]; exact h2)) fun _ => rfl) fun _ => rfl

/-! ### structs that are compared -/
theorem ekF_eq {t : TypeId} {ti : TI} {e : EK} (ht : tinfo C t = some ti) (he : (match ti.under with | .int _ => some EK.int | .bool => some .bool | .string => some .str | _ => none) = some e) {x y : AV} {k : Bool → Out} {z : Out}
    (hk : ∀ p b, eqCell C t x y = some p → constB p = some b → k b = z) : ekF e x y k z = z := by
  cases hu : ti.under <;> rw [hu] at he <;> simp only [Option.some.injEq, reduceCtorEq] at he
  case int kk =>
    subst he
    show vNum x _ _ z = z
    rcases vNum_cases x with ⟨kx, a, hx, h1⟩ | ⟨kx, f, hx, h1⟩ | h1
    · rw [h1]
      rcases vNum_cases y with ⟨ky, b, hy, h2⟩ | ⟨ky, f, hy, h2⟩ | h2
      · rw [h2]
        cases hkk : Nat.beq (kcode kx) (kcode ky) with
        | false => rfl
        | true =>
          have := kcode_inj hkk
          subst this
          refine hk (.cmp .eql (.lit b) (.lit a)) _ ?_ ?_
          · simp only [eqCell, ht, hx, hy, asSx, hu, decide_true]; rfl
          · rw [eqI_eq]; rfl
      · rw [h2]
      · rw [h2]
    · rw [h1]
    · rw [h1]
  case bool =>
    subst he
    show vB2 x _ z = z
    rcases vB2_cases x with ⟨a, hx, h1⟩ | h1
    · rw [h1]
      rcases vB2_cases y with ⟨b, hy, h2⟩ | h2
      · rw [h2]
        refine hk (.eqb (.lb a) (.lb b)) _ ?_ ?_
        · simp only [eqCell, ht, hx, hy, asSx, hu]
        · simp only [constB]; cases a <;> cases b <;> rfl
      · rw [h2]
    · rw [h1]
  case string =>
    subst he
    show vStr x _ z = z
    rcases vStr_cases x with ⟨a, hx, h1⟩ | h1
    · rw [h1]
      rcases vStr_cases y with ⟨b, hy, h2⟩ | h2
      · rw [h2]
        refine hk (.cmps .eql (.ls a) (.ls b)) _ ?_ ?_
        · simp only [eqCell, ht, hx, hy, asSx, hu]
        · rw [strEq_eq]; rfl
      · rw [h2]
    · rw [h1]

theorem efF_eq {xs ys : List AV} : ∀ {fs : List Field} {l : List EF} {k : Bool → Out} {z : Out}, cEF (baseOf C) fs = some l → (∀ e b, eqFieldsA C xs ys fs = some e → constB e = some b → k b = z) → efF l xs ys k z = z
  | [], l, k, z, hl, hk => by
    simp only [cEF, Option.some.injEq] at hl
    subst hl
    exact hk _ true rfl rfl
  | f :: fs, l, k, z, hl, hk => by
    simp only [cEF] at hl
    split at hl
    · cases hl
    · rename_i hn
      split at hl
      · rename_i ti l' ht hl'
        have ht' : tinfo C f.type = some ti := ht
        obtain ⟨e, he, rfl⟩ : ∃ e, (match ti.under with | .int _ => some EK.int | .bool => some .bool | .string => some .str | _ => none) = some e ∧ l = .mk f.offset e :: l' := by
          cases hu : ti.under <;> rw [hu] at hl <;> simp only [Option.some.injEq, reduceCtorEq] at hl <;> exact ⟨_, rfl, hl.symm⟩
        show nthL xs f.offset (fun x => nthL ys f.offset (fun y => ekF e x y (fun b => efF l' xs ys (fun c => k (@Bool.rec (fun _ => Bool) false c b)) z) z) z) z = z
        rw [nthL_eq]
        split
        · rename_i x hx
          rw [nthL_eq]
          split
          · rename_i y hy
            refine ekF_eq ht' he fun p b hp hb => efF_eq hl' fun q c hq hc => hk (.and p q) _ ?_ ?_
            · simp only [eqFieldsA, hn, hx, hy, hp, hq]
            · simp only [constB, hb, hc]; cases b <;> rfl
          · rfl
        · rfl
      · cases hl

theorem aggV_cases (v : AV) : (∃ cs, v = .agg cs ∧ ∀ f z, aggV v f z = f cs) ∨ (∀ f z, aggV v f z = z) := by
  cases v with
  | agg cs => exact .inl ⟨cs, rfl, fun _ _ => rfl⟩
  | _ => exact .inr fun _ _ => rfl

/-! ### a slice of a slice -/
include hE in
theorem bndF_eq (hd : T.length ≤ E.cap) {dflt : Int} {x : Option Operand} {k : Int → Out} {z : Out} (hk : ∀ n, (∀ k0 : Int → Out, boundA dflt (x.map (ev C (getL T))) k0 = k0 n) → k n = z) :
    bndF dflt (x.map (cO E (baseOf C))) (E.enc (getL T)) k z = z := by
  cases x with
  | none => exact hk dflt fun _ => rfl
  | some x =>
    show vNum (cO E (baseOf C) x (E.enc (getL T))) _ _ z = z
    rw [evF_cO hE hd]
    rcases vNum_cases (ev C (getL T) x) with ⟨kx, n, hx, h1⟩ | ⟨kx, f, hx, h1⟩ | h1
    · rw [h1]
      exact hk n fun k0 => by
        show (match intOf? (ev C (getL T) x) with | some n => k0 n | none => .fail) = _
        rw [hx]; rfl
    · rw [h1]
    · rw [h1]

include hE in
theorem slV_eq (hd : T.length ≤ E.cap) {ti et : TI} {e : TypeId} (hu : ti.under = .slice e) {v : AV} {lo hi : Option Operand} {k : AV → Out} {z : Out}
    (hz : (∀ u, v ≠ .tc (.sc u)) → (∀ t e, v ≠ .tc (.sy t e)) → z = sliceA ti et v (lo.map (ev C (getL T))) (hi.map (ev C (getL T))) none k) :
    slV v et.size (lo.map (cO E (baseOf C))) (hi.map (cO E (baseOf C))) (E.enc (getL T)) k z = z := by
  cases v with
  | tc c =>
    cases c with
    | sl s el =>
      have hz' := hz (by simp) (by simp)
      show bndF (Int.ofNat (lenL el)) (hi.map (cO E (baseOf C))) (E.enc (getL T)) (fun h => bndF 0 (lo.map (cO E (baseOf C))) (E.enc (getL T)) (fun l => cond (leI 0 l && leI l h && leI h (Int.ofNat (lenL el)) && Nat.beq et.size s) (k (.tc (.sl s ((el.take h.toNat).drop l.toNat)))) z) z) z = z
      refine bndF_eq hE hd fun h hh => bndF_eq hE hd fun l hl => ?_
      rw [lenL_eq, leI_eq, leI_eq, leI_eq, beq_dec]
      cases hc : (decide (0 ≤ l) && decide (l ≤ h) && decide (h ≤ Int.ofNat el.length) && decide (et.size = s)) with
      | false => rfl
      | true =>
        rw [lenL_eq] at hh
        have hc' : (decide (0 ≤ l) && decide (l ≤ h) && decide (h ≤ (el.length : Int)) && decide (et.size = s)) = true := hc
        rw [hz']
        simp only [sliceA, hu]
        have hh' := fun k0 => hh k0
        show k _ = boundA (Int.ofNat el.length) _ _
        rw [hh', hl]
        simp only [hc', cond_true]
    | _ => rfl
  | slice o s i len cap ex ver =>
    have hz' := hz (by simp) (by simp)
    show bndF (Int.ofNat len) (hi.map (cO E (baseOf C))) (E.enc (getL T)) (fun h => bndF 0 (lo.map (cO E (baseOf C))) (E.enc (getL T)) (fun l => cond (leI 0 l && leI l h && leI h (Int.ofNat cap) && Nat.beq et.size s) (k (.slice o s (i + l.toNat) (h.toNat - l.toNat) (cap - l.toNat) ex ver)) z) z) z = z
    refine bndF_eq hE hd fun h hh => bndF_eq hE hd fun l hl => ?_
    rw [leI_eq, leI_eq, leI_eq, beq_dec]
    cases hc : (decide (0 ≤ l) && decide (l ≤ h) && decide (h ≤ Int.ofNat cap) && decide (et.size = s)) with
    | false => rfl
    | true =>
      have hc' : (decide (0 ≤ l) && decide (l ≤ h) && decide (h ≤ (cap : Int)) && decide (et.size = s)) = true := hc
      rw [hz']
      simp only [sliceA, hu]
      show k _ = boundA (Int.ofNat len) _ _
      rw [hh, hl]
      simp only [hc', cond_true]
  | _ => rfl

/-! ### a slice of a string -/
theorem dropF_eq {α : Type} : ∀ (l : List α) (n : Nat), dropF l n = l.drop n
  | [], n => by cases n <;> rfl
  | a :: r, 0 => rfl
  | a :: r, n + 1 => dropF_eq r n
theorem takeF_eq {α : Type} : ∀ (l : List α) (n : Nat), takeF l n = l.take n
  | [], n => by cases n <;> rfl
  | a :: r, 0 => rfl
  | a :: r, n + 1 => by show a :: takeF r n = _; rw [takeF_eq r n]; rfl

theorem extract_list (s : ByteArray) (l h : Nat) : s.extract l h = ⟨⟨(s.data.toList.take h).drop l⟩⟩ := by
  rw [ByteArray.ext_iff, ByteArray.data_extract, ← Array.toList_inj, Array.toList_extract]
  simp [List.extract_eq_take_drop, List.drop_take]

theorem pure_bound {P : Program} {kk : IntKind} {n : Int} {y : Nat} {code : BoundsCode} (h0 : 0 ≤ n) (h1 : n ≤ y) : pureRun P (Instr.sliceBound (.int kk n) y code) = some n.toNat := by
  unfold Instr.sliceBound
  rw [pureRun_bind]
  show (some (kk, n)).bind _ = _
  simp only [Option.bind_some]
  rw [if_pos ⟨h0, h1⟩]
  rfl

theorem pure_bounds {P : Program} {n : Nat} {lo hi : Option Value} {l h : Int} (hlo : (lo = none ∧ l = 0) ∨ ∃ kk, lo = some (.int kk l)) (hhi : (hi = none ∧ h = n) ∨ ∃ kk, hi = some (.int kk h)) (h0 : 0 ≤ l) (h1 : l ≤ h) (h2 : h ≤ n) :
    pureRun P (Instr.sliceBounds false n n lo hi none) = some (l.toNat, h.toNat, n) := by
  have e1 : ((h.toNat : Nat) : Int) = h := by omega
  have hb1 := fun (kk : IntKind) code => pure_bound (P := P) (kk := kk) (code := code) (y := n) (by omega : (0 : Int) ≤ h) (by omega)
  have hb2 := fun (kk : IntKind) code => pure_bound (P := P) (kk := kk) (code := code) (y := h.toNat) h0 (by omega)
  have hn : h = n → h.toNat = n := fun e => by omega
  unfold Instr.sliceBounds
  rw [pureRun_bind]
  show (some n).bind _ = _
  simp only [Option.bind_some]
  rcases hhi with ⟨rfl, rfl⟩ | ⟨k2, rfl⟩
  · rw [pureRun_bind]
    show (some n).bind _ = _
    simp only [Option.bind_some]
    rcases hlo with ⟨rfl, rfl⟩ | ⟨k1, rfl⟩
    · rfl
    · rw [pureRun_bind]
      have := hb2 k1
      rw [hn rfl] at this
      simp only [this, Option.bind_some]
      rfl
  · rw [pureRun_bind]
    simp only [hb1, Option.bind_some]
    rcases hlo with ⟨rfl, rfl⟩ | ⟨k1, rfl⟩
    · rfl
    · rw [pureRun_bind]
      simp only [hb2, Option.bind_some]
      rfl
end
end Go.Proofs.Ytgpijioodocplaa
