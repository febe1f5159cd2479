/- Quiet operations, all of them in one. -/
import Derived.Test.YtgpijioodocplaaSyQuiet2
set_option linter.unusedVariables false
set_option linter.unusedSectionVars false
set_option linter.unusedSimpArgs false
namespace Go.Proofs.Ytgpijioodocplaa
open Go Go.RowKit
variable [Obs]

section
variable {C : Ctx} {Pb : Nat → Prop} {μ : Mu} {B0 : Nat} {w : World} {T : Look} {H : Heap} {a : Act}

def OptRel (Pb : Nat → Prop) (μ : Mu) (w : World) (x : Option AV) (v : Option Value) : Prop :=
  (x = none ∧ v = none) ∨ ∃ a u, x = some a ∧ v = some u ∧ Rel Pb μ w a u

theorem optRel_map (hT : RelF Pb μ w T a.tmps) (hG : GlobRel C Pb μ w) (x : Option Operand) : OptRel Pb μ w (x.map (ev C T)) (x.map a.eval) := by
  cases x with
  | none => exact .inl ⟨rfl, rfl⟩
  | some x => exact .inr ⟨_, _, rfl, rfl, ev_ok hT hG x⟩

theorem rt_sub {s b o cap : Nat} {el : List (List TC)} {g : Nat → Nat → Value} {l h : Nat} (hl : el.length ≤ cap) (hb : el ≠ [] → Pb b)
    (hs : ∀ r, r ∈ el → r.length = s)
    (hc : ∀ (i f : Nat) (r : List TC) (c : TC), el[i]? = some r → r[f]? = some c → w.cell? ⟨b, o + i * s + f, none⟩ = some (g i f) ∧ (g i f).oneCell' = true)
    (hr : ∀ (i f : Nat) (r : List TC) (c : TC), el[i]? = some r → r[f]? = some c → RT Pb w c (g i f)) (hlh : l ≤ h) (hh : h ≤ el.length) (off : Nat) (hoff : cap = l ∨ off = o + l * s) :
    RT Pb w (.sl s ((el.take h).drop l)) (.slice (some ⟨b, off, none⟩) (h - l) (cap - l)) := by
  have hlen : ((el.take h).drop l).length = h - l := by simp [Nat.min_eq_left hh]
  have hget : ∀ i, ((el.take h).drop l)[i]? = if l + i < h then el[l + i]? else none := fun i => by
    rw [List.getElem?_drop, List.getElem?_take]
  by_cases hcl : cap = l
  · have : (el.take h).drop l = [] := by
      apply List.eq_nil_of_length_eq_zero; omega
    rw [this]
    have h0 : h - l = 0 := by omega
    rw [h0]
    exact .sl s b off (cap - l) [] g (by simp) (fun h => absurd rfl h) (fun r hr => by cases hr) (fun i f r c hi => by simp at hi) (fun i f r c hi => by simp at hi)
  · obtain rfl := hoff.resolve_left hcl
    rw [← hlen]
    refine .sl s b (o + l * s) (cap - l) _ (fun i f => g (l + i) f) (by omega) (fun hne => hb ?_) (fun r hr => ?_) (fun i f r c hi hf => ?_) (fun i f r c hi hf => ?_)
    · rintro rfl; simp at hne
    · exact hs r (List.mem_of_mem_take (List.mem_of_mem_drop hr))
    · rw [hget] at hi
      split at hi
      · have := hc (l + i) f r c hi hf
        rw [Nat.add_mul, ← Nat.add_assoc o] at this
        exact this
      · cases hi
    · rw [hget] at hi
      split at hi
      · exact hr (l + i) f r c hi hf
      · cases hi

theorem sliceA_ok {t e : TypeId} {ti et : TI} {x : AV} {vx : Value} {lo hi mx : Option AV} {vlo vhi vmx : Option Value} {k : AV → Out} (ht : tinfo C t = some ti)
    (hu : ti.under = .slice e) (hte : tinfo C e = some et) (h : sliceA ti et x lo hi mx k) (hx : Rel Pb μ w x vx) (hlo : OptRel Pb μ w lo vlo) (hhi : OptRel Pb μ w hi vhi) (hmx : OptRel Pb μ w mx vmx) :
    Quiet C Pb μ w k (Instr.sliceAt t vx vlo vhi vmx) := by
  obtain ⟨i, hin, hd, _, _, _, _⟩ := tinfo_ok ht
  obtain ⟨ie, hie, _, hse, _⟩ := tinfo_ok hte
  rw [hu] at hd
  have pick : ∀ {d : Int} {x : Option AV} {v : Option Value} {n : Int}, ((x = none ∧ v = none ∧ n = d) ∨ ∃ kk, v = some (.int kk n) ∧ x ≠ none) → (v = none ∧ n = d) ∨ ∃ kk, v = some (.int kk n) :=
    fun h => h.imp (fun h => ⟨h.2.1, h.2.2⟩) (fun ⟨kk, h, _⟩ => ⟨kk, h⟩)
  unfold sliceA at h
  rw [hu] at h
  split at h
  · rename_i o s i0 len cap ex ver hq
    clear hq
    cases hx with
    | slice _ _ _ _ _ _ _ b off c hb hl1 hl2 hex hsz hoff =>
      split at h
      · obtain rfl : vmx = none := by rcases hmx with h | ⟨a, u, h, _⟩; exact h.2; cases h
        obtain ⟨hh, h, hhs⟩ := boundA_ok h hhi
        obtain ⟨ll, h, hls⟩ := boundA_ok h hlo
        have hcf := cond_false h; clear h; obtain ⟨hc, h⟩ := hcf
        simp only [Bool.and_eq_true, decide_eq_true_eq] at hc
        obtain ⟨⟨⟨h0, h1⟩, h2⟩, rfl⟩ := hc
        have hrun := fun w' => run_sliceBounds (P := C.P) (isS := true) (len := len) (cap := c) (pick hls) (pick hhs) h0 h1 (by omega) w'
        refine ⟨_, .slice (some ⟨b, if c = ll.toNat then off else off + ll.toNat * et.size, none⟩) (hh.toNat - ll.toNat) (c - ll.toNat), h, ?_, fun w' _ => ?_⟩
        · refine .slice _ _ _ _ _ _ _ b _ _ hb (by omega) (by omega) (fun he => by have := hex he; omega) ?_ ?_
          · rwa [show i0 + ll.toNat + (c - ll.toNat) = i0 + c by omega]
          · by_cases hcl : c = ll.toNat
            · left; omega
            · right
              rw [if_neg hcl, Nat.add_mul]
              rcases hoff with h | h
              · omega
              · rw [h]
        · simp only [Instr.sliceAt, Sem.run_bind, run_underlying hd, Result.andThen, Instr.slice, hrun, run_size hie]
          by_cases hcl : c = ll.toNat
          · simp [hcl]
          · simp [hcl, add_at, hse]
      · rename_i am
        obtain ⟨a', u, h', rfl, hRm⟩ : ∃ a' u, some am = some a' ∧ vmx = some u ∧ Rel Pb μ w a' u := by rcases hmx with h | h; cases h.1; exact h
        simp only [Option.some.injEq] at h'
        subst h'
        split at h
        · exact h.elim
        rename_i hv
        obtain ⟨mm, h, hms⟩ := boundA_ok h (.inr ⟨am, u, rfl, rfl, hRm⟩)
        obtain ⟨k0, hk0⟩ : ∃ k0, u = .int k0 mm := by
          rcases hms with h | ⟨kk, h, _⟩
          · cases h.1
          · simp only [Option.some.injEq] at h; exact ⟨kk, h⟩
        subst hk0
        obtain ⟨hh, h, hhs⟩ := boundA_ok h hhi
        obtain ⟨ll, h, hls⟩ := boundA_ok h hlo
        have hcf := cond_false h; clear h; obtain ⟨hc, h⟩ := hcf
        simp only [Bool.and_eq_true, decide_eq_true_eq] at hc
        obtain ⟨⟨⟨⟨h0, h1⟩, h2⟩, h3⟩, rfl⟩ := hc
        rcases hhs with ⟨hx0, _⟩ | ⟨kh, rfl, _⟩
        · cases hx0
        · have hrun := fun w' => run_sliceBounds3 (P := C.P) (len := len) (cap := c) (k0 := k0) (pick hls) ⟨kh, rfl⟩ h0 h1 h2 (by omega) w'
          refine ⟨_, .slice (some ⟨b, if mm.toNat = ll.toNat then off else off + ll.toNat * et.size, none⟩) (hh.toNat - ll.toNat) (mm.toNat - ll.toNat), h, ?_, fun w' _ => ?_⟩
          · refine .slice _ _ _ _ _ _ _ b _ _ hb (by omega) (by omega) (fun _ => rfl) ?_ ?_
            · obtain ⟨c', ty, fr, g1, g2⟩ := hsz
              refine ⟨c', ty, fr, g1, Nat.le_trans (Nat.mul_le_mul_right _ ?_) g2⟩
              omega
            · by_cases hcl : mm.toNat = ll.toNat
              · left; omega
              · right
                rw [if_neg hcl, Nat.add_mul]
                rcases hoff with h | h
                · omega
                · rw [h]
          · simp only [Instr.sliceAt, Sem.run_bind, run_underlying hd, Result.andThen, Instr.slice, hrun, run_size hie]
            by_cases hcl : mm.toNat = ll.toNat
            · simp [hcl]
            · simp [hcl, add_at, hse]
  · rename_i s el hq
    clear hq
    split at h
    · obtain rfl : vmx = none := by rcases hmx with h | ⟨a, u, h, _⟩; exact h.2; cases h
      obtain ⟨hh, h, hhs⟩ := boundA_ok h hhi
      obtain ⟨ll, h, hls⟩ := boundA_ok h hlo
      have hcf := cond_false h; clear h; obtain ⟨hc, h⟩ := hcf
      simp only [Bool.and_eq_true, decide_eq_true_eq] at hc
      obtain ⟨⟨⟨h0, h1⟩, h2⟩, rfl⟩ := hc
      cases hx with
      | tc _ _ hx =>
        cases hx with
        | nil =>
          simp only [List.length_nil] at h2 hhs
          have hh0 : hh = 0 := by omega
          have ll0 : ll = 0 := by omega
          subst hh0; subst ll0
          have hrun := fun w' => run_sliceBounds (P := C.P) (isS := true) (len := 0) (cap := 0) (pick hls) (by simpa using pick hhs) h0 h1 (by omega) w'
          refine ⟨_, .slice none 0 0, h, by simpa using Rel.tc _ _ (.nil _), fun w' _ => ?_⟩
          simp [Instr.sliceAt, run_underlying hd, Instr.slice, hrun, run_size hie]
        | sl _ b o cap _ g hl hb hs hc hr =>
          have hrun := fun w' => run_sliceBounds (P := C.P) (isS := true) (len := el.length) (cap := cap) (pick hls) (pick hhs) h0 h1 (by omega) w'
          refine ⟨_, .slice (some ⟨b, if cap = ll.toNat then o else o + ll.toNat * et.size, none⟩) (hh.toNat - ll.toNat) (cap - ll.toNat), h, .tc _ _ (rt_sub hl hb hs hc hr (by omega) (by omega) _ ?_), fun w' _ => ?_⟩
          · by_cases hcl : cap = ll.toNat
            · exact .inl hcl
            · right; rw [if_neg hcl]
          · simp only [Instr.sliceAt, Sem.run_bind, run_underlying hd, Result.andThen, Instr.slice, hrun, run_size hie]
            by_cases hcl : cap = ll.toNat
            · simp [hcl]
            · simp [hcl, add_at, hse]
    · exact h.elim
  · exact h.elim

theorem lenA_ok {t e ty : TypeId} {ti : TI} {x : AV} {vx : Value} {k : AV → Out} (ht : tinfo C t = some ti) (hu : ti.under = .slice e)
    (h : lenA x k) (hx : Rel Pb μ w x vx) : Quiet C Pb μ w k (Builtin.len_ #[t] ty #[vx]) := by
  obtain ⟨i, hin, hd, _, _, _, _⟩ := tinfo_ok ht
  rw [hu] at hd
  unfold lenA at h
  split at h
  · cases hx with
    | slice _ _ _ len _ _ _ b off c hb hl1 hl2 hex hsz hoff =>
      exact ⟨_, _, h, Rel.of_sc .., fun w' _ => by simp [Builtin.len_, run_underlying hd, goInt]⟩
  · cases hx with
    | tc _ _ hx =>
      cases hx with
      | nil => exact ⟨_, _, h, Rel.of_sc .., fun w' _ => by simp [Builtin.len_, run_underlying hd, goInt]⟩
      | sl => exact ⟨_, _, h, Rel.of_sc .., fun w' _ => by simp [Builtin.len_, run_underlying hd, goInt]⟩
  · exact h.elim

theorem capA_ok {t e ty : TypeId} {ti : TI} {x : AV} {vx : Value} {k : AV → Out} (ht : tinfo C t = some ti) (hu : ti.under = .slice e)
    (h : capA x k) (hx : Rel Pb μ w x vx) : Quiet C Pb μ w k (Builtin.cap_ #[t] ty #[vx]) := by
  obtain ⟨i, hin, hd, _, _, _, _⟩ := tinfo_ok ht
  rw [hu] at hd
  unfold capA at h
  split at h
  · cases hx with
    | slice _ _ _ len _ _ _ b off c hb hl1 hl2 hex hsz hoff =>
      obtain rfl := hex rfl
      exact ⟨_, _, h, Rel.of_sc .., fun w' _ => by simp [Builtin.cap_, run_underlying hd, goInt]⟩
  · exact h.elim

theorem run_equalIn_nil {P : Program} {t : TypeId} {d : TypeDesc} (hd : P.underlying t = some d) {vx vy : Value} (n : Nat) (w : World)
    (h : (∃ e a n c m q, d = .slice e ∧ vx = .slice (some a) n c ∧ vy = .slice none m q) ∨ (∃ k e r, d = .map k e ∧ vx = .map (some r) ∧ vy = .map none) ∨
      (∃ p r va fn f c, d = .func p r va ∧ vx = .func fn f c ∧ vy = .nilFunc) ∨ (∃ e a, d = .pointer e ∧ vx = .pointer (some a) ∧ vy = .pointer none)) :
    (Op.equalIn (n + 1) t vx vy).run P w = .ok false w := by
  rcases h with ⟨e, a, n, c, m, q, rfl, rfl, rfl⟩ | ⟨k, e, r, rfl, rfl, rfl⟩ | ⟨p, r, va, fn, f, c, rfl, rfl, rfl⟩ | ⟨e, a, rfl, rfl, rfl⟩ <;>
    simp [Op.equalIn, run_underlying hd]

theorem run_equal_nil {P : Program} {t : TypeId} {d : TypeDesc} (hd : P.underlying t = some d) {vx vy : Value} (w : World)
    (h : (∃ e a n c m q, d = .slice e ∧ vx = .slice (some a) n c ∧ vy = .slice none m q) ∨ (∃ k e r, d = .map k e ∧ vx = .map (some r) ∧ vy = .map none) ∨
      (∃ p r va fn f c, d = .func p r va ∧ vx = .func fn f c ∧ vy = .nilFunc) ∨ (∃ e a, d = .pointer e ∧ vx = .pointer (some a) ∧ vy = .pointer none)) :
    (Op.equal t vx vy).run P w = .ok false w := run_equalIn_nil hd 9999 w h

theorem run_equalIn_nils {P : Program} {t e : TypeId} (hd : P.underlying t = some (.slice e)) (d n c m q : Nat) (w : World) :
    (Op.equalIn (d + 1) t (.slice none n c) (.slice none m q)).run P w = .ok true w := by
  simp [Op.equalIn, run_underlying hd]

theorem run_equal_nils {P : Program} {t e : TypeId} (hd : P.underlying t = some (.slice e)) (n c m q : Nat) (w : World) :
    (Op.equal t (.slice none n c) (.slice none m q)).run P w = .ok true w := run_equalIn_nils hd 9999 n c m q w

def refV : Value → Bool
  | .slice .. | .map _ | .func .. | .pointer _ => true
  | _ => false

def nilV : Value → Bool
  | .slice .. | .map _ | .nilFunc | .pointer none => true
  | _ => false

/-- '==' and '!=' with nil: the run hands back a Bool that is told. -/
theorem eqNil_ok {t : TypeId} {ti : TI} {x y : AV} {vx vy : Value} {k : Bool → Out} (ht : tinfo C t = some ti)
    (h : eqNil ti.under x y k) (hx : Rel Pb μ w x vx) (hy : Rel Pb μ w y vy) :
    ∃ b, k b ∧ (∀ w', (Op.equal t vx vy).run C.P w' = .ok b w') ∧ (∀ n m j k, vx = .int n m → vy = .int j k → False) ∧
      refV vx = true ∧ nilV vy = true := by
  obtain ⟨i, hin, hd, _, _, _, _⟩ := tinfo_ok ht
  unfold eqNil at h
  split at h
  · rename_i e o s i0 len cap ex ver m q hu
    rw [hu] at hd
    obtain rfl := hy.sc_eq
    cases hx with
    | slice _ _ _ _ _ _ _ b off c hb hl1 hl2 hex hsz hoff =>
      cases len with
      | zero => exact h.elim
      | succ n => exact ⟨false, h, fun w' => run_equal_nil hd w' (.inl ⟨_, _, _, _, _, _, rfl, rfl, rfl⟩), by simp, rfl, rfl⟩
  · rename_i e s el m q hu
    rw [hu] at hd
    obtain rfl := hy.sc_eq
    cases hx with
    | tc _ _ hx =>
      cases hx with
      | nil => exact h.elim
      | sl _ b o cap _ g hl hb hs hc hr =>
        refine ⟨false, ?_, fun w' => run_equal_nil hd w' (.inl ⟨_, _, _, _, _, _, rfl, rfl, rfl⟩), by simp, rfl, rfl⟩
        cases el with
        | nil => exact h.elim
        | cons => exact h
  · rename_i k' e o hu
    rw [hu] at hd
    obtain rfl := hy.sc_eq
    cases hx with
    | map o b hb => exact ⟨false, h, fun w' => run_equal_nil hd w' (.inr (.inl ⟨_, _, _, rfl, rfl, rfl⟩)), by simp, rfl, rfl⟩
  · rename_i p r va fn f c hu
    rw [hu] at hd
    obtain rfl := hy.sc_eq
    cases hx with
    | func => exact ⟨false, h, fun w' => run_equal_nil hd w' (.inr (.inr (.inl ⟨_, _, _, _, _, _, rfl, rfl, rfl⟩))), by simp, rfl, rfl⟩
  · rename_i e o s i0 f ver hu
    rw [hu] at hd
    obtain rfl := hy.sc_eq
    cases hx with
    | ptr => exact ⟨false, h, fun w' => run_equal_nil hd w' (.inr (.inr (.inr ⟨_, _, rfl, rfl, rfl⟩))), by simp, rfl, rfl⟩
  · exact h.elim

theorem relL_map (hT : RelF Pb μ w T a.tmps) (hG : GlobRel C Pb μ w) (xs : Array Operand) : RelL Pb μ w (xs.toList.map (ev C T)) (xs.map a.eval) := by
  refine ⟨by simp, fun i x v hi hv => ?_⟩
  simp only [List.getElem?_map, Option.map_eq_some_iff, Array.getElem?_map, Array.getElem?_toList] at hi hv
  obtain ⟨p, hp, rfl⟩ := hi
  obtain ⟨q, hq, rfl⟩ := hv
  rw [hp] at hq
  simp only [Option.some.injEq] at hq
  subst hq
  exact ev_ok hT hG p

/-- A quiet operation: a value, in every world that has the old blocks. -/
def QOp (C : Ctx) (Pb : Nat → Prop) (μ : Mu) (w : World) (a : Act) (o : Oper) (k : AV → Out) : Prop :=
  ∃ r v, k r ∧ Rel Pb μ w r v ∧ ∀ w', Same w w' → (execOp a.eval o).run C.P w' = .ok (.value v) w'

theorem QOp.of_sem {o : Oper} {k : AV → Out} {s : Sem Value} (he : execOp a.eval o = (do pure (.value (← s)))) (h : Quiet C Pb μ w k s) : QOp C Pb μ w a o k := by
  obtain ⟨r, v, h1, h2, h3⟩ := h
  exact ⟨r, v, h1, h2, fun w' hw' => by rw [he]; simp [h3 w' hw']⟩

theorem QOp.of_gen {o : Oper} {k : AV → Out} (hs : ∀ cs b, o.op ≠ .select cs b) (hT : RelF Pb μ w T a.tmps) (hG : GlobRel C Pb μ w) (h : genOp C o T k) : QOp C Pb μ w a o k := by
  obtain ⟨r, v, h1, hr, h2⟩ := genOp_ok h hs hT hG
  exact ⟨r, v, h1, hr, fun w' _ => h2 w'⟩

theorem eqGuard_nil {P : Program} {op : BinOp} {t : TypeId} {x y : Operand} {vx vy : Value} (w : World)
    (hx : refV vx = true) : (eqGuard op t x y vx vy).run P w = .ok () w := by
  cases op <;> cases vx <;> simp_all [eqGuard, refV]
end
end Go.Proofs.Ytgpijioodocplaa
