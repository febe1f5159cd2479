/- Maps. -/
import Derived.Test.YtgpijioodocplaaSyOps2
import Derived.MapKept
set_option linter.unusedVariables false
set_option linter.unusedSectionVars false
set_option linter.unusedSimpArgs false
namespace Go.Proofs.Ytgpijioodocplaa
open Go Go.RowKit
variable [Obs]

section
variable {C : Ctx} {Pb : Nat → Prop} {μ : Mu} {B0 : Nat} {w : World} {T : Look} {H : Heap} {a : Act}

/-- The heap law at an object that is a map: new, or written. -/
theorem heap_map (hH : HeapRel Pb μ B0 w H) {o b : Nat} {es : List (Value × AV)} {es' : Array MapEntry} {clock : Nat} {w' : World} {H' : Heap}
    (ho : H'[o]? = some (.map es)) (hother : ∀ o', o' ≠ o → H'[o']? = H[o']?) (hlen : H.length ≤ H'.length)
    (hb : w'.heap[b]? = some (.map es' clock)) (hblk : ∀ b', b' ≠ b → w'.heap[b']? = w.heap[b']?) (hsize : w.heap.size ≤ w'.heap.size)
    (hrest : w'.os = w.os ∧ w'.tape = w.tape ∧ w'.output = w.output)
    (hours : (w.heap.size ≤ b ∧ o = H.length) ∨ ∃ es0, H[o]? = some (.map es0) ∧ μ o 0 = some b) (hnc : ∀ c ty fr, w.heap[b]? ≠ some (.cells c ty fr))
    (hP : ¬ Pb b) (hB : B0 ≤ b) (hl : es.length = es'.size)
    (he : ∀ (i : Nat) (e : Value × AV) (e' : MapEntry), es[i]? = some e → es'[i]? = some e' → e'.key = e.1 ∧ Rel Pb μ w e.2 e'.val) :
    HeapRel Pb (upd μ o 0 b) B0 w' H' ∧ Goes Pb μ B0 w H.length Pb (upd μ o 0 b) w' H'.length := by
  have hsz : ∀ b' n, sizeAt w b' n → sizeAt w' b' n := by
    rintro b' n ⟨c, ty, fr, h1, h2⟩
    refine ⟨c, ty, fr, ?_, h2⟩
    rw [hblk b' ?_, h1]
    rintro rfl
    exact hnc _ _ _ h1
  refine heap_put hH (obj' := .map es) ho hother hlen (fun b1 h1 _ => hblk b1 h1) ?_ hsz hsize hrest.1 hrest.2.1 hrest.2.2 (fun x hx => ?_) hP hB (fun hgo => ?_)
  · rcases hours with h | ⟨es0, h1, h2⟩
    · exact .inl h.1
    · exact .inr ⟨_, h1, h2⟩
  · rcases hours with h | ⟨es0, h1, h2⟩
    · rw [h.2] at hx; simp at hx
    · rw [h1] at hx
      simp only [Option.some.injEq] at hx
      subst hx
      exact ⟨Nat.le_refl _, fun y hy => by
        have hy' : μ o 0 = some y := hy
        rw [h2] at hy'
        simp only [Option.some.injEq] at hy'
        exact hy'.symm⟩
  · refine ⟨b, upd_same .., hB, hP, es', clock, hb, hl, fun i e e' h1 h2 => ?_⟩
    obtain ⟨q1, q2⟩ := he i e e' h1 h2
    exact ⟨q1, q2.mono hgo.pb hgo.mu hgo.ext⟩

theorem makeMap_ok {t : TypeId} {k : AV → Heap → Out} (h : k (.map H.length) (H ++ [.map []])) (hH : HeapRel Pb μ B0 w H) : HRes C Pb μ B0 w H k (Instr.makeMap t none) := by
  have hnew : (w.alloc (.map #[] 0)).heap[w.heap.size]? = some (.map #[] 0) := get_alloc_new w _
  have := heap_map hH (o := H.length) (b := w.heap.size) (es := []) (es' := #[]) (clock := 0) (w' := w.alloc (.map #[] 0)) (H' := H ++ [.map []]) (by simp)
    (fun o' ho' => by
      rcases Nat.lt_or_ge o' H.length with h | h
      · rw [List.getElem?_append_left h]
      · rw [List.getElem?_eq_none h, List.getElem?_eq_none (by simp; omega)]) (by simp) hnew
    (fun b' hb' => by
      show (w.heap.push _)[b']? = _
      rw [Array.getElem?_push, if_neg hb']) (by simp) ⟨rfl, rfl, rfl⟩ (.inl ⟨Nat.le_refl _, rfl⟩) (fun c ty fr hh => by
      simp [Array.getElem?_eq_none (Nat.le_refl w.heap.size)] at hh) (fun hp => Nat.lt_irrefl _ (hH.pb _ hp)) hH.base rfl (fun i e e' h1 => by simp at h1)
  exact ⟨_, _, _, _, Pb, _, h, rfl, .map _ _ (upd_same ..), this.1, this.2⟩

theorem checkKey_scalar {P : Program} {kt : TypeId} {d : TypeDesc} {v : Value} (hd : P.underlying kt = some d) (h : scalarKey d v = true) (e : Bool) (n : Nat) (w : World) :
    (Instr.checkKey e (n + 1) kt v).run P w = .ok () w := by
  unfold Instr.checkKey
  simp only [Sem.run_bind, run_underlying hd, Result.andThen]
  cases d <;> cases v <;> simp_all [scalarKey]

theorem keyEq_same {d : TypeDesc} {kv q : Value} {b : Bool} (h : scalarKey d kv = true) (hk : keyEq kv q = some b) : Instr.sameNow d kv q = some b := by
  cases d <;> cases kv <;> simp_all [scalarKey] <;> cases q <;> simp_all [keyEq, Instr.sameNow]

theorem ba_beq (a b : ByteArray) : (a == b) = (a.data == b.data) := by
  cases a; cases b; rfl

theorem ba_beq_iff (a b : ByteArray) : (a == b) = true ↔ a = b := by
  rw [ba_beq, beq_iff_eq]
  constructor
  · intro h; cases a; cases b; simp at h; rw [h]
  · intro h; rw [h]

theorem keyEq_bits {kv q : Value} (hk : keyEq kv q = some true) (n : Nat) : Instr.sameBits n q kv = true := by
  cases kv <;> cases q <;> simp [keyEq] at hk <;> cases n <;> simp_all [Instr.sameBits, ba_beq_iff]

theorem findA_ok {d : TypeDesc} {kv : Value} (hs : scalarKey d kv = true) : ∀ {es : List (Value × AV)} {es' : List MapEntry} {i : Nat} {k : Option (Nat × AV) → Out}, findA kv es i k → es.length = es'.length →
    (∀ (i : Nat) (e : Value × AV) (e' : MapEntry), es[i]? = some e → es'[i]? = some e' → e'.key = e.1 ∧ Rel Pb μ w e.2 e'.val) →
    (k none ∧ Instr.findNow d kv es' i = some none) ∨
      ∃ j v v' q, k (some (i + j, v)) ∧ Instr.findNow d kv es' i = some (some (i + j, v')) ∧ Rel Pb μ w v v' ∧ j < es.length ∧ (es'[j]?).map (·.key) = some q ∧ keyEq kv q = some true
  | [], es', i, k, h, hl, _ => by
    have : es' = [] := List.length_eq_zero_iff.1 hl.symm
    subst this
    exact .inl ⟨h, rfl⟩
  | (q, v) :: r, es', i, k, h, hl, he => by
    cases es' with
    | nil => simp at hl
    | cons e' r' =>
      obtain ⟨h0, hR⟩ := he 0 (q, v) e' rfl rfl
      simp only at h0 hR
      simp only [findA] at h
      split at h
      · rename_i b hb
        have hsn := keyEq_same hs hb
        rcases cond_split h with ⟨rfl, h⟩ | ⟨rfl, h⟩
        · refine .inr ⟨0, v, e'.val, q, h, ?_, hR, by simp, by simp [h0], hb⟩
          simp [Instr.findNow, h0, hsn]
        · have hf : Instr.findNow d kv (e' :: r') i = Instr.findNow d kv r' (i + 1) := by simp [Instr.findNow, h0, hsn]
          rcases findA_ok hs h (by simpa using hl) (fun i e e' h1 h2 => he (i + 1) e e' (by simpa using h1) (by simpa using h2)) with ⟨h1, h2⟩ | ⟨j, v1, v', q', h1, h2, h3, h4, h5, h6⟩
          · exact .inl ⟨h1, by rw [hf]; exact h2⟩
          · refine .inr ⟨j + 1, v1, v', q', ?_, ?_, h3, by simp; exact h4, by simpa using h5, h6⟩
            · rw [show i + (j + 1) = i + 1 + j by omega]; exact h1
            · rw [hf, h2, show i + (j + 1) = i + 1 + j by omega]
      · exact h.elim

theorem run_findKey {P : Program} {kt : TypeId} {d : TypeDesc} {kv : Value} {es : List MapEntry} {r : Option (Nat × Value)} (hd : P.underlying kt = some d) (h : Instr.findNow d kv es 0 = some r) (w : World) :
    (Instr.findKey kt kv es).run P w = .ok r w := by
  simp [Instr.findKey, run_underlying hd, h]

theorem lookupA_ok {t : TypeId} {ti : TI} {m key : AV} {mv kv : Value} {ok : Bool} {k : AV → Out} (ht : tinfo C t = some ti) (h : lookupA C ti m key ok H k) (hm : Rel Pb μ w m mv) (hk : Rel Pb μ w key kv)
    (hH : HeapRel Pb μ B0 w H) : ∃ r v, k r ∧ Rel Pb μ w r v ∧ (Instr.lookup t mv kv ok).run C.P w = .ok v w := by
  obtain ⟨i, hi, hd, _, _, _, _⟩ := tinfo_ok ht
  unfold lookupA at h
  split at h
  · rename_i kt et kv' hu
    rw [hu] at hd
    obtain rfl := hk.sc_eq
    split at h
    · rename_i kti eti hkt het
      obtain ⟨ik, hik, hdk, _⟩ := tinfo_ok hkt
      have hcf := cond_false h; clear h; obtain ⟨hsc, h⟩ := hcf
      split at h
      · rename_i z hz
        obtain ⟨ie, hie, _, _, _, hze, _⟩ := tinfo_ok het
        have hzv : ∀ w', (zeroValue et).run C.P w' = .ok z w' := fun w' => by
          simp [zeroValue, run_info hie, ← hze, hz]
        have chk := fun (e : Bool) (n : Nat) (w' : World) => checkKey_scalar hdk hsc e n w'
        have fin : ∀ (es : List MapEntry), Instr.findNow kti.under kv es 0 = some none → lookDone ok z k none →
            ∃ r v, k r ∧ Rel Pb μ w r v ∧ (∀ {α : Type} (f : Value × Bool → Sem α), (do
              let x ← match ← Instr.findKey kt kv es with
                | some (_, v) => pure (v, true)
                | none => pure (← zeroValue et, false)
              f x : Sem α).run C.P w = (f (z, false)).run C.P w) ∧ v = (if ok then .tuple #[z, .bool false] else z) := fun es hf hkk => by
          cases ok with
          | true =>
            refine ⟨_, .tuple #[z, .bool false], hkk, .tuple _ _ rfl fun i x y hx hy => ?_, fun f => by simp [run_findKey hdk hf, hzv], rfl⟩
            match i with
            | 0 => simp at hx hy; subst hx; subst hy; exact rel_ofVal ..
            | 1 => simp at hx hy; subst hx; subst hy; exact Rel.of_sc ..
            | n + 2 => simp at hx
          | false => exact ⟨_, z, hkk, rel_ofVal .., fun f => by simp [run_findKey hdk hf, hzv], rfl⟩
        have fin2 : ∀ (es : List MapEntry) (j : Nat) (x : AV) (xv : Value), Instr.findNow kti.under kv es 0 = some (some (j, xv)) → Rel Pb μ w x xv → lookDone ok z k (some (j, x)) →
            ∃ r v, k r ∧ Rel Pb μ w r v ∧ (∀ {α : Type} (f : Value × Bool → Sem α), (do
              let x ← match ← Instr.findKey kt kv es with
                | some (_, v) => pure (v, true)
                | none => pure (← zeroValue et, false)
              f x : Sem α).run C.P w = (f (xv, true)).run C.P w) ∧ v = (if ok then .tuple #[xv, .bool true] else xv) := fun es j x xv hf hx hkk => by
          cases ok with
          | true =>
            refine ⟨_, .tuple #[xv, .bool true], hkk, .tuple _ _ rfl fun i p q hp hq => ?_, fun f => by simp [run_findKey hdk hf], rfl⟩
            match i with
            | 0 => simp at hp hq; subst hp; subst hq; exact hx
            | 1 => simp at hp hq; subst hp; subst hq; exact Rel.of_sc ..
            | n + 2 => simp at hp
          | false => exact ⟨_, xv, hkk, hx, fun f => by simp [run_findKey hdk hf], rfl⟩
        have look : ∀ (mm : Option Nat) (es : Array MapEntry) (x : Value × Bool), (mm = none ∧ es = #[] ∨ ∃ b clock, mm = some b ∧ w.heap[b]? = some (.map es clock)) →
            (∀ {α : Type} (f : Value × Bool → Sem α), (do
              let x ← match ← Instr.findKey kt kv es.toList with
                | some (_, v) => pure (v, true)
                | none => pure (← zeroValue et, false)
              f x : Sem α).run C.P w = (f x).run C.P w) → (Instr.lookup t (.map mm) kv ok).run C.P w = .ok (if ok then .tuple #[x.1, .bool x.2] else x.1) w := fun mm es x hmm hf => by
          rcases hmm with ⟨rfl, rfl⟩ | ⟨b, clock, rfl, hg⟩
          · simp only [Instr.lookup, Sem.run_bind, run_underlying hd, Result.andThen, Sem.run_pure]
            rw [chk _ 9999]
            have := hf (fun x => pure (if ok then .tuple #[x.1, .bool x.2] else x.1))
            simp only [Sem.run_bind, Sem.run_pure] at this
            exact this
          · simp only [Instr.lookup, Sem.run_bind, run_underlying hd, Result.andThen, MapKept.run_getObj_map hg, Sem.run_pure]
            rw [chk _ 9999]
            have := hf (fun x => pure (if ok then .tuple #[x.1, .bool x.2] else x.1))
            simp only [Sem.run_bind, Sem.run_pure] at this
            exact this
        unfold lookIn at h
        split at h
        · obtain rfl := hm.sc_eq
          obtain ⟨r, v, h1, h2, h3, h4⟩ := fin [] rfl h
          refine ⟨r, v, h1, h2, ?_⟩
          rw [h4]
          exact look none #[] (z, false) (.inl ⟨rfl, rfl⟩) h3
        · rename_i o
          cases hm with
          | map _ b hb =>
            split at h
            · rename_i es ho
              obtain ⟨b', hb', _, _, hM⟩ := hH.obj o _ ho
              rw [hb] at hb'
              simp only [Option.some.injEq] at hb'
              subst hb'
              obtain ⟨es', clock, hg, hl, he⟩ := hM
              rcases findA_ok (es' := es'.toList) hsc h (by simpa using hl) (fun i e e' h1 h2 => he i e e' h1 (by simpa using h2)) with ⟨h1, h2⟩ | ⟨j, v1, v', q, h1, h2, h3, _, _, _⟩
              · obtain ⟨r, v, g1, g2, g3, g4⟩ := fin _ h2 h1
                refine ⟨r, v, g1, g2, ?_⟩
                rw [g4]
                exact look (some b) es' (z, false) (.inr ⟨b, clock, rfl, hg⟩) g3
              · obtain ⟨r, v, g1, g2, g3, g4⟩ := fin2 _ _ v1 v' h2 h3 h1
                refine ⟨r, v, g1, g2, ?_⟩
                rw [g4]
                exact look (some b) es' (v', true) (.inr ⟨b, clock, rfl, hg⟩) g3
            · exact h.elim
        · exact h.elim
      · exact h.elim
    · exact h.elim
  · exact h.elim

theorem mapUpdateA_ok {t : TypeId} {ti : TI} {m key x : AV} {mv kv xv : Value} {k : Heap → Out} (ht : tinfo C t = some ti) (h : mapUpdateA C ti m key x H k) (hm : Rel Pb μ w m mv) (hk : Rel Pb μ w key kv) (hx : Rel Pb μ w x xv)
    (hH : HeapRel Pb μ B0 w H) : ∃ H' w' Pb' μ', k H' ∧ (Instr.mapUpdate t mv kv xv).run C.P w = .ok () w' ∧ HeapRel Pb' μ' B0 w' H' ∧ Goes Pb μ B0 w H.length Pb' μ' w' H'.length := by
  obtain ⟨i, hi, hd, _, _, _, _⟩ := tinfo_ok ht
  unfold mapUpdateA at h
  split at h
  · rename_i kt et kv' o hu
    rw [hu] at hd
    obtain rfl := hk.sc_eq
    cases hm with
    | map _ b hb =>
      split at h
      · rename_i kti es hkt ho
        obtain ⟨ik, hik, hdk, _⟩ := tinfo_ok hkt
        have hcf := cond_false h; clear h; obtain ⟨hsc, h⟩ := hcf
        obtain ⟨b', hb', hB, hP, hM⟩ := hH.obj o _ ho
        rw [hb] at hb'
        simp only [Option.some.injEq] at hb'
        subst hb'
        obtain ⟨es', clock, hg, hl, he⟩ := hM
        have hol : o < H.length := lt_of_get ho
        have hbl : b < w.heap.size := lt_of_heap hg
        have put : ∀ (es1 : List (Value × AV)) (es1' : Array MapEntry) (clock1 : Nat), es1.length = es1'.size →
            (∀ (i : Nat) (e : Value × AV) (e' : MapEntry), es1[i]? = some e → es1'[i]? = some e' → e'.key = e.1 ∧ Rel Pb μ w e.2 e'.val) →
            HeapRel Pb (upd μ o 0 b) B0 { w with heap := w.heap.setIfInBounds b (.map es1' clock1) } (H.set o (.map es1)) ∧
              Goes Pb μ B0 w H.length Pb (upd μ o 0 b) { w with heap := w.heap.setIfInBounds b (.map es1' clock1) } (H.set o (.map es1)).length := fun es1 es1' clock1 hl1 he1 =>
          heap_map hH (o := o) (b := b) (es := es1) (es' := es1') (clock := clock1) (by simp [hol]) (fun o' ho' => by rw [List.getElem?_set]; simp [Ne.symm ho']) (by simp)
            (by simp [hbl]) (fun b' hb' => by rw [Array.getElem?_setIfInBounds_ne (Ne.symm hb')]) (by simp) ⟨rfl, rfl, rfl⟩ (.inr ⟨es, ho, hb⟩) (fun c ty fr hh => by rw [hg] at hh; cases hh) hP hB hl1 he1
        rcases findA_ok (es' := es'.toList) hsc h (by simpa using hl) (fun i e e' h1 h2 => he i e e' h1 (by simpa using h2)) with ⟨h1, h2⟩ | ⟨j, v1, v', q, h1, h2, h3, h4, h5, h6⟩
        · have := put (es ++ [(kv, x)]) (es'.push { key := kv, val := xv, born := clock }) (clock + 1) (by simp [hl]) (fun i e e' g1 g2 => by
            rw [Array.getElem?_push] at g2
            by_cases hii : i = es'.size
            · rw [if_pos hii] at g2
              simp only [Option.some.injEq] at g2
              subst g2
              rw [hii, ← hl] at g1
              simp at g1
              subst g1
              exact ⟨rfl, hx⟩
            · rw [if_neg hii] at g2
              have : i < es.length := by
                rcases Nat.lt_or_ge i es'.size with hh | hh
                · omega
                · simp [Array.getElem?_eq_none hh] at g2
              rw [List.getElem?_append_left this] at g1
              exact he i e e' g1 g2)
          refine ⟨_, _, Pb, _, h1, ?_, this.1, this.2⟩
          simp only [Instr.mapUpdate, Sem.run_bind, run_underlying hdk, run_underlying hd, Result.andThen, MapKept.run_getObj_map hg]
          rw [checkKey_scalar hdk hsc false 9999]
          simp only [run_findKey hdk h2, MapKept.run_setObj_map _ hg]
        · simp only [Nat.zero_add] at h1 h2
          have := put (es.set j (kv, x)) (es'.modify j fun e => { e with key := kv, val := xv }) clock (by simp [hl]) (fun i e e' g1 g2 => by
            rw [Array.getElem?_modify] at g2
            rw [List.getElem?_set] at g1
            by_cases hij : j = i
            · subst hij
              simp only [if_true, h4, Option.some.injEq] at g1
              subst g1
              simp only [if_true, Option.map_eq_some_iff] at g2
              obtain ⟨e0, _, rfl⟩ := g2
              exact ⟨rfl, hx⟩
            · simp only [hij, if_false] at g1 g2
              exact he i e e' g1 g2)
          refine ⟨_, _, Pb, _, h1, ?_, this.1, this.2⟩
          have hq : ((es'[j]?).map (·.key)).getD kv = q := by
            rw [Array.getElem?_toList] at h5
            rw [h5]; rfl
          simp only [Instr.mapUpdate, Sem.run_bind, run_underlying hdk, run_underlying hd, Result.andThen, MapKept.run_getObj_map hg]
          rw [checkKey_scalar hdk hsc false 9999]
          simp only [run_findKey hdk h2, hq, Instr.keyThatStays, keyEq_bits h6, if_true]
          simp only [Sem.run_bind, Sem.run_pure, Result.andThen, MapKept.run_setObj_map _ hg]
      · exact h.elim
  · exact h.elim
end
end Go.Proofs.Ytgpijioodocplaa
