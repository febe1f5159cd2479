/- Arguments that are slices of structs of scalars. -/
import Derived.Test.YtamhmfdbnlkmkaaMg8
import Derived.Test.YtamhmfdbnlkmkaaMg6
import Derived.Carry
set_option linter.unusedVariables false
namespace Go.Proofs.Ytamhmfdbnlkmkaa
open Go Go.RowKit

section
variable {H : Type} {P : Program} {w : World} {Pb : Nat → Prop}

/-- The kinds of an element's cells. -/
def elKinds (P : Program) (e : TypeId) : Option (List STy) := match P.underlying e with
  | some (.struct fs) => match flatKinds P fs.toList 0, decide (P.cellsOf e = fs.size) with
    | some ks, true => some ks
    | _, _ => none
  | _ => match kindOf P e, decide (P.cellsOf e = 1) with
    | some k, true => some [k]
    | _, _ => none

theorem flatKinds_len : ∀ {fs : List Field} {i : Nat} {ks : List STy}, flatKinds P fs i = some ks → ks.length = fs.length
  | [], i, ks, h => by simp only [flatKinds, Option.some.injEq] at h; subst h; rfl
  | f :: r, i, ks, h => by
    simp only [flatKinds] at h
    split at h
    · rename_i k l h1 h2 h3
      simp only [Option.some.injEq] at h
      subst h
      simp [flatKinds_len h3]
    · cases h

theorem elKinds_len {e : TypeId} {ks : List STy} (h : elKinds P e = some ks) : ks.length = P.cellsOf e := by
  unfold elKinds at h
  split at h
  · split at h
    · rename_i ks' h1 h2
      simp only [Option.some.injEq] at h
      subst h
      simp only [decide_eq_true_eq] at h2
      rw [flatKinds_len h1, h2]
      simp
    · cases h
  · split at h
    · rename_i k h1 h2
      simp only [Option.some.injEq] at h
      subst h
      simp only [decide_eq_true_eq] at h2
      rw [h2]
      rfl
    · cases h

theorem el_typed {enc : TypeId × Value → H} {spare : Nat → Bool} {held : Bool} {fuel : Nat} {e : TypeId} {cs : List Value} {x : DataW H × List MemPlace} {ks : List STy} (hk : elKinds P e = some ks)
    (h : DataW.trod enc P w 0 spare held fuel e cs = some x) : Typed ks cs := by
  unfold elKinds at hk
  split at hk
  · rename_i fs hu
    split at hk
    · rename_i ks' h1 h2
      simp only [Option.some.injEq] at hk
      subst hk
      simp only [decide_eq_true_eq] at h2
      obtain ⟨xs, n, _, _, g1, g2, g3⟩ := DataW.trod_struct hu h
      have := flat_typed (xs := xs) (cs := cs) h1 (fun j f hj => by
        have hj' : fs[j]? = some f := by simpa using hj
        have hlt : j < xs.length := by rw [g2]; exact (Array.getElem?_eq_some_iff.1 hj').1
        exact ⟨xs[j], by rw [g3 j f hj']; exact List.getElem?_eq_getElem hlt⟩) (by rw [g1, h2]; simp)
      simpa using this
    · cases hk
  · split at hk
    · rename_i k h1 h2
      simp only [Option.some.injEq] at hk
      subst hk
      obtain ⟨v, rfl, ht⟩ := one_typed h1 h
      exact ht
    · cases hk

theorem Typed.len : ∀ {ks : List STy} {vs : List Value}, Typed ks vs → vs.length = ks.length
  | [], [], _ => rfl
  | [], _ :: _, h => h.elim
  | k :: ks, [], h => by cases k <;> exact h.elim
  | k :: ks, v :: vs, h => by
    have : Typed ks vs := by cases k <;> exact h.2
    simp [this.len]

theorem Typed.one : ∀ {ks : List STy} {vs : List Value}, Typed ks vs → ∀ v ∈ vs, v.oneCell' = true
  | [], [], _, v, hv => by cases hv
  | [], _ :: _, h, _, _ => h.elim
  | k :: ks, [], h, _, _ => by cases k <;> exact h.elim
  | k :: ks, u :: vs, h, v, hv => by
    have hr : Typed ks vs := by cases k <;> exact h.2
    rcases List.mem_cons.1 hv with rfl | hv
    · cases k with
      | int k => obtain ⟨⟨n, rfl, _⟩, _⟩ := h; rfl
      | bool => obtain ⟨⟨b, rfl⟩, _⟩ := h; rfl
      | str => obtain ⟨⟨s, rfl, _⟩, _⟩ := h; rfl
    · exact hr.one v hv

def rowsT (rows : List (List Value)) : List (List TC) := rows.map fun r => r.map TC.sc

theorem open_rows (hPb : ∀ b, b < w.heap.size → Pb b) {enc : TypeId × Value → H} {spare : Nat → Bool} {held : Bool} {fuel : Nat} {t e : TypeId} {v : Value} {x : DataW H × List MemPlace} {ks : List STy} (ht : P.underlying t = some (.slice e)) (hk : elKinds P e = some ks)
    (hpos : ks ≠ []) (h : DataW.trod enc P w 0 spare held fuel t [v] = some x) (hs : ∀ a len cap, v = .slice (some a) len cap → a.spot = none) :
    ∃ rows : List (List Value), (∀ r ∈ rows, Typed ks r) ∧ rows.length ≤ maxLen ∧ ∀ ob : Obs, @RT ob Pb w (.sl ks.length (rowsT rows)) v := by
  have hsz := elKinds_len hk
  have hpos' : 0 < ks.length := by cases ks with | nil => exact absurd rfl hpos | cons => simp
  rcases DataW.trod_slice ht h with ⟨hv, _⟩ | ⟨a, len, cap, elems, rest, n, _, hv, _, _, hlc, hmx, hlen, hel, _⟩
  · simp only [List.cons.injEq, and_true] at hv
    subst hv
    refine ⟨([] : List (List Value)), ?_, by simp, fun ob => .nil _⟩
    intro r hr
    cases hr
  · simp only [List.cons.injEq, and_true] at hv
    subst hv
    have hspot := hs a len cap rfl
    have key : ∀ i, i < len → ∃ cs, w.cells? 0 (a.add (i * ks.length)) ks.length = some cs ∧ Typed ks cs := fun i hi => by
      have := hel i hi
      have hlt : i < elems.length := by omega
      rw [List.getElem?_eq_getElem hlt, Option.bind_eq_some_iff] at this
      obtain ⟨cs, h1, h2⟩ := this
      rw [← hsz] at h1
      exact ⟨cs, h1, el_typed hk h2⟩
    obtain ⟨rowf, hrow⟩ : ∃ f : Nat → List Value, ∀ i, i < len → w.cells? 0 (a.add (i * ks.length)) ks.length = some (f i) ∧ Typed ks (f i) :=
      ⟨fun i => (w.cells? 0 (a.add (i * ks.length)) ks.length).getD [], fun i hi => by
        obtain ⟨cs, h1, h2⟩ := key i hi
        simp only [h1, Option.getD_some]
        exact ⟨trivial, h2⟩⟩
    have hget : ∀ (i : Nat) (r : List TC), (rowsT ((List.range len).map rowf))[i]? = some r → i < len ∧ r = (rowf i).map TC.sc := fun i r hi => by
      simp only [rowsT, List.map_map, List.getElem?_map, Option.map_eq_some_iff, Function.comp] at hi
      obtain ⟨j, hj, rfl⟩ := hi
      obtain ⟨h1, h2⟩ := List.getElem?_eq_some_iff.1 hj
      simp only [List.length_range] at h1
      simp only [List.getElem_range] at h2
      subst h2
      exact ⟨h1, rfl⟩
    have ha : a = ⟨a.block, a.off, none⟩ := by cases a; simp_all
    have hcell : ∀ (i f : Nat) (r : List TC) (c : TC), (rowsT ((List.range len).map rowf))[i]? = some r → r[f]? = some c → ∃ u, c = .sc u ∧ (rowf i)[f]? = some u ∧ w.cell? ⟨a.block, a.off + i * ks.length + f, none⟩ = some u ∧ u.oneCell' = true := fun i f r c hi hf => by
      obtain ⟨hlt, rfl⟩ := hget i r hi
      rw [List.getElem?_map, Option.map_eq_some_iff] at hf
      obtain ⟨u, hu, rfl⟩ := hf
      obtain ⟨h1, h2⟩ := hrow i hlt
      have hfl : f < ks.length := by rw [← h2.len]; exact (List.getElem?_eq_some_iff.1 hu).1
      obtain ⟨g1, g2⟩ := cells_get h1
      obtain ⟨v, g3, g4⟩ := g2 f hfl
      rw [hu] at g3
      obtain rfl := Option.some.inj g3
      rw [add_add a hspot, add_add _ rfl] at g4
      exact ⟨u, rfl, hu, g4, h2.one u (List.mem_of_getElem? hu)⟩
    refine ⟨(List.range len).map rowf, fun r hr => ?_, by simp; omega, fun ob => ?_⟩
    · obtain ⟨i, hi, rfl⟩ := List.mem_map.1 hr
      exact (hrow i (List.mem_range.1 hi)).2
    · have hl : (rowsT ((List.range len).map rowf)).length = len := by simp [rowsT]
      have e1 : (Value.slice (some a) len cap) = .slice (some ⟨a.block, a.off, none⟩) (rowsT ((List.range len).map rowf)).length cap := by rw [hl, ← ha]
      rw [e1]
      refine @RT.sl ob Pb w ks.length a.block a.off cap _ (fun i f => ((rowf i)[f]?).getD .nilFunc) (by omega) (fun hne => ?_) (fun r hr => ?_) (fun i f r c hi hf => ?_) (fun i f r c hi hf => ?_)
      · have hlp : 0 < len := by rw [← hl]; exact List.length_pos_iff.2 hne
        obtain ⟨h1, h2⟩ := hrow 0 hlp
        obtain ⟨g1, g2⟩ := cells_get h1
        obtain ⟨v, g3, g4⟩ := g2 0 hpos'
        rw [add_add a hspot, add_add _ rfl] at g4
        refine hPb _ ?_
        unfold World.cell? at g4
        cases hh : w.heap[a.block]? with
        | none => rw [hh] at g4; simp at g4
        | some o => exact (Array.getElem?_eq_some_iff.1 hh).1
      · obtain ⟨i, hi⟩ := List.getElem?_of_mem hr
        obtain ⟨hlt, rfl⟩ := hget i r hi
        rw [List.length_map]
        exact (hrow i hlt).2.len
      · obtain ⟨u, rfl, h1, h2, h3⟩ := hcell i f r c hi hf
        rw [h1]
        exact ⟨h2, h3⟩
      · obtain ⟨u, rfl, h1, h2, h3⟩ := hcell i f r c hi hf
        rw [h1]
        exact .sc u

theorem spot_of_cell_ok {r : Reach} {b0 : Nat} {t e : TypeId} {v : Value} (ht : P.underlying t = some (.slice e)) (h : Cell.okWide P w r b0 t v) : ∀ a len cap, v = .slice (some a) len cap → a.spot = none := by
  rintro a len cap rfl
  have h2 : Cell.ok P w r b0 t (.slice (some a) len cap) := by
    unfold Cell.okWide at h
    rw [ht] at h
    exact h
  unfold Cell.ok at h2
  rw [ht] at h2
  exact h2.2.2.2.1

theorem Typed.int {k : IntKind} {ks : List STy} {l : List Value} (h : Typed (.int k :: ks) l) : ∃ n r, l = .int k n :: r ∧ (k.min ≤ n ∧ n ≤ k.max) ∧ Typed ks r := by
  cases l with
  | nil => exact h.elim
  | cons v r => obtain ⟨⟨n, rfl, h1⟩, h2⟩ := h; exact ⟨n, r, rfl, h1, h2⟩

theorem Typed.bool {ks : List STy} {l : List Value} (h : Typed (.bool :: ks) l) : ∃ b r, l = .bool b :: r ∧ Typed ks r := by
  cases l with
  | nil => exact h.elim
  | cons v r => obtain ⟨⟨b, rfl⟩, h2⟩ := h; exact ⟨b, r, rfl, h2⟩

theorem Typed.nil' {l : List Value} (h : Typed [] l) : l = [] := by
  cases l with
  | nil => rfl
  | cons v r => exact h.elim

theorem concE_mapP (ρ : Env) : ∀ el : List (List TC), concE ρ el = el.map (concR ρ)
  | [] => rfl
  | a :: l => by simp only [concE, List.map_cons, concE_mapP ρ l]

theorem concR_sc (ρ : Env) : ∀ r : List Value, concR ρ (r.map TC.sc) = r.map TC.sc
  | [] => rfl
  | v :: r => by
    have := concR_sc ρ r
    simp only [List.map_cons, concR, this, concT]

theorem concE_rowsT (ρ : Env) (rows : List (List Value)) : concE ρ (rowsT rows) = rowsT rows := by
  rw [concE_mapP, rowsT, List.map_map]
  exact List.map_congr_left fun r _ => concR_sc ρ r

/-- A packet: a slice of structs of scalars, and four marks. -/
theorem open_packet (hPb : ∀ b, b < w.heap.size → Pb b) {enc : TypeId × Value → H} {spare : Nat → Bool} {held : Bool} {r : Reach} {b0 : Nat} {t e : TypeId} {v : Value} {d : DataW H} {ps : List MemPlace} {fs : Array Field} {g0 g1 g2 g3 g4 : Field} {ks : List STy} {ct : List TypeId}
    (ht : P.underlying t = some (.struct fs)) (hg0 : fs[0]? = some g0) (hg1 : fs[1]? = some g1) (hg2 : fs[2]? = some g2) (hg3 : fs[3]? = some g3) (hg4 : fs[4]? = some g4) (hc : P.cellsOf t = 5)
    (ho : g0.offset = 0 ∧ g1.offset = 1 ∧ g2.offset = 2 ∧ g3.offset = 3 ∧ g4.offset = 4) (hn : P.cellsOf g0.type = 1 ∧ P.cellsOf g1.type = 1 ∧ P.cellsOf g2.type = 1 ∧ P.cellsOf g3.type = 1 ∧ P.cellsOf g4.type = 1)
    (hs : P.underlying g0.type = some (.slice e)) (hk : elKinds P e = some ks) (hpos : ks ≠ []) (hb : kindOf P g1.type = some .bool ∧ kindOf P g2.type = some .bool ∧ kindOf P g3.type = some .bool ∧ kindOf P g4.type = some .bool)
    (hct : P.cellTypes P.depth t = some (g0.type :: ct)) (hval : Value.okWide P w r b0 t v) (hd : DataW.Trod enc P w 0 spare held t v d ps) :
    ∃ (rows : List (List Value)) (sv : Value) (c0 c1 c2 c3 : Bool), v = .agg #[sv, .bool c0, .bool c1, .bool c2, .bool c3] ∧ (∀ r ∈ rows, Typed ks r) ∧ rows.length ≤ maxLen ∧ ∀ ob : Obs, @RT ob Pb w (.sl ks.length (rowsT rows)) sv := by
  unfold Value.okWide at hval
  rw [ht] at hval
  obtain ⟨cs, rfl, _, hrow⟩ := hval
  obtain ⟨fuel, hf⟩ := hd
  obtain ⟨xs, n, _, _, h1, h2, h3⟩ := DataW.trod_struct ht hf
  have hcells : (Value.agg cs).cells.toList = cs.toList := rfl
  rw [hcells] at h1 h3
  obtain ⟨l, hl⟩ : ∃ l, l = cs.toList := ⟨_, rfl⟩
  rw [← hl] at h1 h3
  rw [hc] at h1
  match l, h1 with
  | [y0, y1, y2, y3, y4], _ =>
    have hsz : 4 < fs.size := (Array.getElem?_eq_some_iff.1 hg4).1
    have hx : ∀ i, i < 5 → ∃ x, xs[i]? = some x := fun i hi => ⟨xs[i]'(by omega), List.getElem?_eq_getElem (by omega)⟩
    have k0 := h3 0 g0 hg0
    have k1 := h3 1 g1 hg1
    have k2 := h3 2 g2 hg2
    have k3 := h3 3 g3 hg3
    have k4 := h3 4 g4 hg4
    rw [ho.1, hn.1] at k0
    rw [ho.2.1, hn.2.1] at k1
    rw [ho.2.2.1, hn.2.2.1] at k2
    rw [ho.2.2.2.1, hn.2.2.2.1] at k3
    rw [ho.2.2.2.2, hn.2.2.2.2] at k4
    obtain ⟨z0, hz0⟩ := hx 0 (by decide)
    obtain ⟨z1, hz1⟩ := hx 1 (by decide)
    obtain ⟨z2, hz2⟩ := hx 2 (by decide)
    obtain ⟨z3, hz3⟩ := hx 3 (by decide)
    obtain ⟨z4, hz4⟩ := hx 4 (by decide)
    rw [hz0] at k0
    rw [hz1] at k1
    rw [hz2] at k2
    rw [hz3] at k3
    rw [hz4] at k4
    simp only [List.drop_zero, List.take_succ_cons, List.take_zero, List.drop_succ_cons] at k0 k1 k2 k3 k4
    obtain ⟨u1, e1, t1⟩ := one_typed hb.1 k1
    obtain ⟨u2, e2, t2⟩ := one_typed hb.2.1 k2
    obtain ⟨u3, e3, t3⟩ := one_typed hb.2.2.1 k3
    obtain ⟨u4, e4, t4⟩ := one_typed hb.2.2.2 k4
    simp only [List.cons.injEq, and_true] at e1 e2 e3 e4
    subst e1 e2 e3 e4
    obtain ⟨⟨c0, rfl⟩, _⟩ := t1
    obtain ⟨⟨c1, rfl⟩, _⟩ := t2
    obtain ⟨⟨c2, rfl⟩, _⟩ := t3
    obtain ⟨⟨c3, rfl⟩, _⟩ := t4
    have hspot : ∀ a len cap, y0 = .slice (some a) len cap → a.spot = none := by
      obtain ⟨ts, hts, _, hall⟩ := hrow
      rw [hct] at hts
      obtain rfl := Option.some.inj hts
      have hy : cs[0]? = some y0 := by
        have : cs.toList[0]? = some y0 := by rw [← hl]; rfl
        simpa using this
      obtain ⟨u, hu, hok⟩ := hall 0 y0 hy
      simp only [Nat.zero_mod, List.getElem?_cons_zero, Option.some.injEq] at hu
      subst hu
      exact spot_of_cell_ok hs hok
    obtain ⟨rows, q1, q2, q3⟩ := open_rows hPb hs hk hpos k0 hspot
    refine ⟨rows, y0, c0, c1, c2, c3, ?_, q1, q2, q3⟩
    congr 1
    rw [← Array.toList_inj, ← hl]
end
end Go.Proofs.Ytamhmfdbnlkmkaa
