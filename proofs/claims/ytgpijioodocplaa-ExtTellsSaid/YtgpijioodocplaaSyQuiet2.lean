/- Operations that leave memory alone, further: places, parts, slices; and all of them in one. -/
import Derived.Test.YtgpijioodocplaaSyQuiet
set_option linter.unusedVariables false
set_option linter.unusedSectionVars false
set_option linter.unusedSimpArgs false
namespace Go.Proofs.Ytgpijioodocplaa
open Go Go.RowKit
variable [Obs]

section
variable {C : Ctx} {Pb : Nat → Prop} {μ : Mu} {B0 : Nat} {w : World} {T : Look} {H : Heap} {a : Act}

/-- What is told of a quiet operation: a value, in every world that has the old blocks. -/
def Quiet (C : Ctx) (Pb : Nat → Prop) (μ : Mu) (w : World) (k : AV → Out) (s : Sem Value) : Prop :=
  ∃ r v, k r ∧ Rel Pb μ w r v ∧ ∀ w', Same w w' → s.run C.P w' = .ok v w'

theorem intOf_ok {x : AV} {n : Int} {v : Value} (h : intOf? x = some n) (hx : Rel Pb μ w x v) : ∃ k, v = .int k n := by
  cases x with
  | tc c =>
    cases c with
    | sc u =>
      have := hx.sc_eq
      subst this
      cases v <;> simp_all [intOf?]
    | sl s el => simp [intOf?] at h
    | sy t e => simp [intOf?] at h
  | _ => simp [intOf?] at h

theorem indexA_ok {t e : TypeId} {ti : TI} {x ix : AV} {vx vi : Value} {k : AV → Out} (ht : tinfo C t = some ti)
    (he : ti.under = .slice e ∨ ∃ n, ti.under = .array n e) (h : indexA ti (tinfo C e) x ix k) (hx : Rel Pb μ w x vx) (hi : Rel Pb μ w ix vi) :
    Quiet C Pb μ w k (Instr.indexAt t vx vi) := by
  obtain ⟨i, hin, hd, _, _, _, _⟩ := tinfo_ok ht
  unfold indexA at h
  split at h
  · rename_i e' et hu hte
    have hee : e' = e := by rcases he with he | ⟨m, he⟩ <;> rw [he] at hu <;> simp at hu; exact hu.symm
    subst hee
    obtain ⟨ie, hie, _, hse, _⟩ := tinfo_ok hte
    rw [hu] at hd
    split at h
    · rename_i o s i0 len cap ex ver
      have hwi := withIdx_ok h hi; clear h; obtain ⟨kk, n, rfl, h⟩ := hwi
      have hcf := cond_false h; clear h; obtain ⟨hc, h⟩ := hcf
      simp only [Bool.and_eq_true, decide_eq_true_eq] at hc
      obtain ⟨⟨h0, h1⟩, rfl⟩ := hc
      cases hx with
      | slice _ _ _ _ _ _ _ b off c hb hl1 hl2 hex hsz hoff =>
        obtain rfl : off = i0 * et.size := by rcases hoff with h | h <;> omega
        refine ⟨_, _, h, .ptr _ _ _ _ _ b hb, fun w' _ => ?_⟩
        have e1 : (⟨b, i0 * et.size, none⟩ : Addr).add (n.toNat * ie.size) = ⟨b, (i0 + n.toNat) * et.size + 0, none⟩ := by
          rw [add_at, ← hse, Nat.add_mul]; rfl
        simp [Instr.indexAt, asIntOf, run_underlying hd, h0, h1, run_size hie, e1]
    · rename_i s el
      have hwi := withIdx_ok h hi; clear h; obtain ⟨kk, n, rfl, h⟩ := hwi
      have hcf := cond_false h; clear h; obtain ⟨hc, h⟩ := hcf
      simp only [Bool.and_eq_true, decide_eq_true_eq] at hc
      obtain ⟨⟨h0, h1⟩, rfl⟩ := hc
      cases hx with
      | tc _ _ hx =>
        cases hx with
        | nil => simp at h1; omega
        | sl _ b o cap _ g hl hb hs hc hr =>
          refine ⟨_, _, h, .vptr _ _ _ b o _ g hb hs hc hr, fun w' _ => ?_⟩
          have e1 : (⟨b, o, none⟩ : Addr).add (n.toNat * ie.size) = ⟨b, o + n.toNat * et.size + 0, none⟩ := by
            rw [add_at, ← hse]; rfl
          simp [Instr.indexAt, asIntOf, run_underlying hd, h0, h1, run_size hie, e1]
    · exact h.elim
  · rename_i len e' et hu hte
    have hee : e' = e := by rcases he with he | ⟨m, he⟩ <;> rw [he] at hu <;> simp at hu; exact hu.2.symm
    subst hee
    obtain ⟨ie, hie, _, hse, _⟩ := tinfo_ok hte
    rw [hu] at hd
    split at h
    · rename_i o s i0 f ver
      have hwi := withIdx_ok h hi; clear h; obtain ⟨kk, n, rfl, h⟩ := hwi
      have hcf := cond_false h; clear h; obtain ⟨hc, h⟩ := hcf
      simp only [Bool.and_eq_true, decide_eq_true_eq] at hc
      obtain ⟨h0, h1⟩ := hc
      cases hx with
      | ptr _ _ _ _ _ b hb =>
        refine ⟨_, _, h, .ptr _ _ _ _ _ b hb, fun w' _ => ?_⟩
        have e1 : (⟨b, i0 * s + f, none⟩ : Addr).add (n.toNat * ie.size) = ⟨b, i0 * s + (f + n.toNat * et.size), none⟩ := by
          rw [add_at, ← hse, Nat.add_assoc]
        simp [Instr.indexAt, asIntOf, run_underlying hd, h0, h1, run_size hie, e1, Instr.sureAddr]
    · rename_i s el i0 f
      have hwi := withIdx_ok h hi; clear h; obtain ⟨kk, n, rfl, h⟩ := hwi
      have hcf := cond_false h; clear h; obtain ⟨hc, h⟩ := hcf
      simp only [Bool.and_eq_true, decide_eq_true_eq] at hc
      obtain ⟨h0, h1⟩ := hc
      cases hx with
      | vptr _ _ _ b off _ g hb hs hc hr =>
        refine ⟨_, _, h, .vptr _ _ _ b off _ g hb hs hc hr, fun w' _ => ?_⟩
        have e1 : (⟨b, off + i0 * s + f, none⟩ : Addr).add (n.toNat * ie.size) = ⟨b, off + i0 * s + (f + n.toNat * et.size), none⟩ := by
          rw [add_at, ← hse, Nat.add_assoc]
        simp [Instr.indexAt, asIntOf, run_underlying hd, h0, h1, run_size hie, e1, Instr.sureAddr]
    · exact h.elim
  · exact h.elim

theorem fieldAddrA_ok {t : TypeId} {ti : TI} {x : AV} {vx : Value} {fd : Nat} {k : AV → Out} (ht : tinfo C t = some ti)
    (h : fieldAddrA C ti x fd k) (hx : Rel Pb μ w x vx) : Quiet C Pb μ w k (Instr.fieldAt t vx fd) := by
  obtain ⟨i, hin, hd, _, _, _, _⟩ := tinfo_ok ht
  unfold fieldAddrA at h
  split at h
  · rename_i fs hu
    rw [hu] at hd
    split at h
    · rename_i fl hfl
      split at h
      · rename_i ft hft
        have hcf := cond_false h; clear h; obtain ⟨hc, h⟩ := hcf
        simp only [decide_eq_true_eq] at hc
        obtain ⟨ift, hift, _, hsf, _⟩ := tinfo_ok hft
        rw [hsf] at hc
        split at h
        · rename_i o s i0 f ver
          cases hx with
          | ptr _ _ _ _ _ b hb =>
            refine ⟨_, _, h, .ptr _ _ _ _ _ b hb, fun w' _ => ?_⟩
            simp [Instr.fieldAt, run_underlying hd, hfl, Instr.sureAddr, fieldPlace, run_size hift, hc, add_at, Nat.add_assoc]
        · rename_i s el i0 f
          cases hx with
          | vptr _ _ _ b off _ g hb hs hc' hr =>
            refine ⟨_, _, h, .vptr _ _ _ b off _ g hb hs hc' hr, fun w' _ => ?_⟩
            simp [Instr.fieldAt, run_underlying hd, hfl, Instr.sureAddr, fieldPlace, run_size hift, hc, add_at, Nat.add_assoc]
        · exact h.elim
      · exact h.elim
    · exact h.elim
  · exact h.elim

theorem RelL.get {l : List AV} {vs : Array Value} (h : RelL Pb μ w l vs) {i : Nat} {x : AV} (hi : l[i]? = some x) : ∃ v, vs[i]? = some v ∧ Rel Pb μ w x v := by
  have hlt : i < l.length := by
    rcases Nat.lt_or_ge i l.length with h | h
    · exact h
    · simp [List.getElem?_eq_none h] at hi
  have hv : vs[i]? = some (vs[i]'(h.1 ▸ hlt)) := Array.getElem?_eq_getElem _
  exact ⟨_, hv, h.2 i _ _ hi hv⟩

theorem partA_ok {t : TypeId} {ti : TI} {cs : List AV} {vs : Array Value} {off : Nat} {k : AV → Out} (ht : tinfo C t = some ti)
    (h : partA ti cs off k) (hx : RelL Pb μ w cs vs) : Quiet C Pb μ w k (part t vs off) := by
  obtain ⟨i, hin, hd, hsz, _, _, ha⟩ := tinfo_ok ht
  unfold partA at h
  split at h
  · rename_i hagg
    split at h
    · rename_i r hsp
      obtain ⟨hlen, hget⟩ := span_ok hsp
      have hle : off + ti.size ≤ vs.size ∨ ti.size = 0 := by
        rcases Nat.eq_zero_or_pos ti.size with h0 | h0
        · exact .inr h0
        · left
          have h1 := hget (ti.size - 1) (by omega)
          rw [List.getElem?_eq_getElem (by omega)] at h1
          rcases Nat.lt_or_ge (off + (ti.size - 1)) cs.length with hh | hh
          · have := hx.1; omega
          · rw [List.getElem?_eq_none hh] at h1; cases h1
      refine ⟨_, .agg (vs.extract off (off + ti.size)), h, .agg _ _ ?_ ?_, fun w' _ => ?_⟩
      · rw [Array.size_extract, hlen]
        rcases hle with h | h
        · omega
        · omega
      · intro j u v hu hv
        have hj : j < ti.size := by
          rcases Nat.lt_or_ge j r.length with h | h
          · omega
          · simp [List.getElem?_eq_none h] at hu
        rw [hget j hj] at hu
        refine hx.2 (off + j) u v hu ?_
        rw [Array.getElem?_extract] at hv
        split at hv
        · exact hv
        · cases hv
      · rw [ha] at hagg
        simp [part, run_agg hd, hagg, run_size hin, hsz]
    · exact h.elim
  · rename_i hagg
    split at h
    · rename_i c hc
      obtain ⟨v, hv, hR⟩ := hx.get hc
      refine ⟨c, v, h, hR, fun w' _ => ?_⟩
      rw [ha] at hagg
      simp [part, run_agg hd, hagg, hv]
    · exact h.elim

theorem fieldA_ok {t : TypeId} {ti : TI} {x : AV} {vx : Value} {fd : Nat} {k : AV → Out} (ht : tinfo C t = some ti)
    (h : fieldA C ti x fd k) (hx : Rel Pb μ w x vx) : Quiet C Pb μ w k (Instr.field t vx fd) := by
  obtain ⟨i, hin, hd, _, _, _, _⟩ := tinfo_ok ht
  unfold fieldA at h
  split at h
  · rename_i fs cs hu
    rw [hu] at hd
    cases hx with
    | agg _ vs hl hh =>
      split at h
      · rename_i fl hfl
        split at h
        · rename_i ft hft
          obtain ⟨r, v, h1, h2, h3⟩ := partA_ok hft h ⟨hl, hh⟩
          refine ⟨r, v, h1, h2, fun w' hw' => ?_⟩
          simp [Instr.field, run_underlying hd, hfl, asAgg, h3 w' hw']
        · exact h.elim
      · exact h.elim
  · exact h.elim

/-- A bound of a slice: given, or the default. -/
theorem boundA_ok {d : Int} {x : Option AV} {vx : Option Value} {k : Int → Out} (h : boundA d x k)
    (hx : (x = none ∧ vx = none) ∨ ∃ a v, x = some a ∧ vx = some v ∧ Rel Pb μ w a v) :
    ∃ n, k n ∧ ((x = none ∧ vx = none ∧ n = d) ∨ ∃ kk, vx = some (.int kk n) ∧ x ≠ none) := by
  rcases hx with ⟨rfl, rfl⟩ | ⟨a, v, rfl, rfl, hR⟩
  · exact ⟨d, h, .inl ⟨rfl, rfl, rfl⟩⟩
  · simp only [boundA] at h
    split at h
    · rename_i n hn
      obtain ⟨kk, rfl⟩ := intOf_ok hn hR
      exact ⟨n, h, .inr ⟨kk, rfl, by simp⟩⟩
    · exact h.elim

theorem run_sliceBounds3 {P : Program} {len cap : Nat} {lo hi : Option Value} {l h m : Int} {k0 : IntKind}
    (hlo : (lo = none ∧ l = 0) ∨ ∃ kk, lo = some (.int kk l)) (hhi : ∃ kk, hi = some (.int kk h))
    (h0 : 0 ≤ l) (h1 : l ≤ h) (h2 : h ≤ m) (h3 : m ≤ cap) (w : World) :
    (Instr.sliceBounds true len cap lo hi (some (.int k0 m))).run P w = .ok (l.toNat, h.toNat, m.toNat) w := by
  have hb0 := fun code => run_sliceBound (P := P) (kk := k0) (code := code) (y := cap) (by omega : (0 : Int) ≤ m) (by omega) w
  have hb1 := fun (kk : IntKind) code => run_sliceBound (P := P) (kk := kk) (code := code) (y := m.toNat) (by omega : (0 : Int) ≤ h) (by omega) w
  have hb2 := fun (kk : IntKind) code => run_sliceBound (P := P) (kk := kk) (code := code) (y := h.toNat) h0 (by omega) w
  obtain ⟨k2, rfl⟩ := hhi
  rcases hlo with ⟨rfl, rfl⟩ | ⟨k1, rfl⟩ <;> simp [Instr.sliceBounds, hb0, hb1, hb2]
end
end Go.Proofs.Ytgpijioodocplaa
