/- Calls: what is told of trees. -/
import Derived.Test.YtgpijioodocplaaSyAppend3
set_option linter.unusedVariables false
set_option linter.unusedSectionVars false
set_option linter.unusedSimpArgs false
namespace Go.Proofs.Ytgpijioodocplaa
open Go Go.RowKit
variable [Obs]

def noMu : Mu := fun _ _ => none

section
variable {C : Ctx} {Pb : Nat → Prop} {μ : Mu} {B0 : Nat} {w : World} {T : Look} {H : Heap} {a : Act}

theorem heapRel_nil (hpb : ∀ b, Pb b → b < w.heap.size) : HeapRel Pb noMu w.heap.size w [] :=
  ⟨fun o ver b h => by simp [noMu] at h, fun o obj h => by simp at h, fun o o' obj obj' b h => by simp at h, hpb, Nat.le_refl _⟩

theorem rel_tc_mu {c : TC} {v : Value} {μ' : Mu} (h : Rel Pb μ w (.tc c) v) : Rel Pb μ' w (.tc c) v := by
  cases h with | tc _ _ h => exact .tc _ _ h

theorem rel_tree {x : AV} {v : Value} (hx : isTree x = true) (h : Rel Pb μ w x v) : Rel Pb noMu w x v := by
  cases x with
  | tc c => exact rel_tc_mu h
  | any => exact .any _
  | vptr s el i f => cases h with | vptr _ _ _ b off _ g h1 h2 h3 h4 => exact .vptr _ _ _ b off _ g h1 h2 h3 h4
  | agg cs =>
    cases h with
    | agg _ vs hl hh =>
      refine .agg _ _ hl fun i y u hi hu => ?_
      have h1 := hh i y u hi hu
      simp only [isTree] at hx
      have := List.all_eq_true.1 hx y (List.mem_of_getElem? hi)
      cases y with
      | tc c => exact rel_tc_mu h1
      | _ => simp [isTC] at this
  | _ => simp [isTree] at hx

theorem globRel_mu (h : GlobRel C Pb μ w) : GlobRel C Pb noMu w := fun ob g s el hg => by
  letI := ob
  exact rel_tree rfl (h ob g s el hg)

theorem GlobRel.mono {Pb' : Nat → Prop} {μ' : Mu} {w' : World} (h : GlobRel C Pb μ w) (hp : ∀ b, Pb b → Pb' b)
    (hμ : ∀ o ver b, μ o ver = some b → μ' o ver = some b) (hw : Ext Pb w w') : GlobRel C Pb' μ' w' := fun ob g s el hg => by
  letI := ob
  exact (h ob g s el hg).mono hp hμ hw

theorem GlobRel.goes {Pb' : Nat → Prop} {μ' : Mu} {w' : World} {n n' : Nat} (h : GlobRel C Pb μ w) (hg : Goes Pb μ B0 w n Pb' μ' w' n') : GlobRel C Pb' μ' w' := h.mono hg.pb hg.mu hg.ext

/-- Trees out of objects. -/
theorem fz_ok (hH : HeapRel Pb μ B0 w H) : ∀ (n : Nat) {x : AV} {v : Value} {c : TC}, fz H n x = some c → Rel Pb μ w x v → v.oneCell' = true ∨ x = .tc c → RT (fun b => Pb b ∨ (B0 ≤ b ∧ b < w.heap.size)) w c v
  | n, .tc c', v, c, h, hx, _ => by
    have : c' = c := by cases n <;> simpa [fz] using h
    subst this
    cases hx with
    | tc _ _ hx => exact hx.mono (fun b hb => .inl hb) (fun _ _ => rfl)
  | 0, .any, _, _, h, _, _ => by simp [fz] at h
  | 0, .agg _, _, _, h, _, _ => by simp [fz] at h
  | 0, .tuple _, _, _, h, _, _ => by simp [fz] at h
  | 0, .ptr .., _, _, h, _, _ => by simp [fz] at h
  | 0, .vptr .., _, _, h, _, _ => by simp [fz] at h
  | 0, .slice .., _, _, h, _, _ => by simp [fz] at h
  | 0, .map _, _, _, h, _, _ => by simp [fz] at h
  | 0, .func .., _, _, h, _, _ => by simp [fz] at h
  | n + 1, .any, _, _, h, _, _ => by simp [fz] at h
  | n + 1, .agg _, _, _, h, _, _ => by simp [fz] at h
  | n + 1, .tuple _, _, _, h, _, _ => by simp [fz] at h
  | n + 1, .ptr .., _, _, h, _, _ => by simp [fz] at h
  | n + 1, .vptr .., _, _, h, _, _ => by simp [fz] at h
  | n + 1, .map _, _, _, h, _, _ => by simp [fz] at h
  | n + 1, .func .., _, _, h, _, _ => by simp [fz] at h
  | n + 1, .slice o s i len cap ex ver, v, c, h, hx, _ => by
    -- rows of trees that memory holds
    have key : ∀ (obj : AObj) (el : List (List AV)) (tl : List (List TC)), H[o]? = some obj → rowsOf obj = some el → sizeOfObj obj = s → ver = obj.len → i + len ≤ el.length → tl.length = len →
        (∀ (j : Nat) (r : List TC), tl[j]? = some r → ∃ r', el[i + j]? = some r' ∧ r.length = r'.length ∧ ∀ (f : Nat) (y : TC), r[f]? = some y → ∃ z, r'[f]? = some z ∧ ∀ u, u.oneCell' = true → Rel Pb μ w z u → RT (fun b => Pb b ∨ (B0 ≤ b ∧ b < w.heap.size)) w y u) →
        RT (fun b => Pb b ∨ (B0 ≤ b ∧ b < w.heap.size)) w (.sl s tl) v := by
      intro obj el tl ho hr hs hver hle htl hrow
      subst hver
      have hob := hH.obj o obj ho
      obtain ⟨_, b', hb', hB, hP, hR⟩ := hob.rows hr
      have hbl := hob.block
      rw [hs] at hR
      cases hx with
      | slice _ _ _ _ _ _ _ b off cc hb h1 h2 h3 h4 h5 =>
        rw [hb] at hb'
        simp only [Option.some.injEq] at hb'
        subst hb'
        obtain ⟨r1, carr, ty, fr, r2, r3, r4, r5⟩ := hR
        have hblt : b < w.heap.size := lt_of_heap r2
        by_cases hl0 : len = 0
        · have : tl = [] := List.length_eq_zero_iff.1 (by omega)
          subst this
          subst hl0
          exact .sl s b off cc [] (fun _ _ => undef) (by simp) (fun h => absurd rfl h) (fun r hr => by cases hr) (fun i f r c hi => by simp at hi) (fun i f r c hi => by simp at hi)
        · obtain rfl : off = i * s := h5.resolve_left (by omega)
          have hget : ∀ (j f : Nat) (r : List TC) (y : TC), tl[j]? = some r → r[f]? = some y → ∃ u, w.cell? ⟨b, i * s + j * s + f, none⟩ = some u ∧ u.oneCell' = true ∧ RT (fun b => Pb b ∨ (B0 ≤ b ∧ b < w.heap.size)) w y u := by
            intro j f r y hj hf
            obtain ⟨r', g1, g2, g3⟩ := hrow j r hj
            obtain ⟨z, g4, g5⟩ := g3 f y hf
            obtain ⟨u, q1, q2, q3⟩ := r5 _ f r' z g1 g4
            refine ⟨u, ?_, q2, g5 u q2 q3⟩
            simp only [World.cell?, r2]
            rw [← Nat.add_mul]
            simpa using q1
          rw [← htl]
          refine .sl s b (i * s) cc tl (fun j f => (w.cell? ⟨b, i * s + j * s + f, none⟩).getD undef) (by omega) (fun _ => .inr ⟨hB, hblt⟩) (fun r hr => ?_) (fun j f r y hj hf => ?_) (fun j f r y hj hf => ?_)
          · obtain ⟨j, hj⟩ := List.mem_iff_getElem?.1 hr
            obtain ⟨r', g1, g2, _⟩ := hrow j r hj
            rw [g2]
            exact r1 r' (List.mem_of_getElem? g1)
          · obtain ⟨u, q1, q2, _⟩ := hget j f r y hj hf
            rw [q1]
            exact ⟨rfl, q2⟩
          · obtain ⟨u, q1, _, q3⟩ := hget j f r y hj hf
            rw [q1]
            exact q3
    simp only [fz] at h
    split at h
    · rename_i s' el ho
      split at h
      · rename_i hc
        obtain ⟨rfl, hver, hle⟩ := hc
        simp only [Option.some.injEq] at h
        subst h
        have hsub : ∀ j, (if i = 0 ∧ len = el.length then el else (el.drop i).take len)[j]? = if j < len then el[i + j]? else none := fun j => by
          split
          · rename_i hh
            obtain ⟨rfl, rfl⟩ := hh
            split
            · rw [Nat.zero_add]
            · rw [List.getElem?_eq_none (by omega)]
          · rw [List.getElem?_take]
            split
            · rw [List.getElem?_drop]
            · rfl
        refine key _ (el.map tcs) _ ho rfl rfl hver (by simpa using hle) ?_ fun j r hj => ?_
        · split
          · rename_i hh; exact hh.2.symm
          · simp; omega
        · rw [hsub] at hj
          split at hj
          · refine ⟨tcs r, by rw [List.getElem?_map, hj]; rfl, by simp [tcs], fun f y hf => ⟨.tc y, by simp [tcs, hf], fun u _ hu => ?_⟩⟩
            cases hu with
            | tc _ _ hu => exact hu.mono (fun b hb => .inl hb) (fun _ _ => rfl)
          · cases hj
      · cases h
    · rename_i s' el ho
      split at h
      · rename_i hc
        obtain ⟨rfl, hver, hle⟩ := hc
        simp only [Option.map_eq_some_iff] at h
        obtain ⟨tl, htl, rfl⟩ := h
        obtain ⟨m1, m2⟩ := mapO_ok htl
        have hlen : ((el.drop i).take len).length = len := by simp; omega
        refine key _ el tl ho rfl rfl hver hle (by rw [m1, hlen]) fun j r hj => ?_
        have hjl : j < len := by have := lt_of_get hj; omega
        have hex : ((el.drop i).take len)[j]? = some (el[i + j]'(by omega)) := by
          rw [List.getElem?_take_of_lt hjl, List.getElem?_drop, List.getElem?_eq_getElem]
        obtain ⟨r2, g1, g2⟩ := m2 j _ hex
        rw [hj] at g1
        simp only [Option.some.injEq] at g1
        subst g1
        obtain ⟨n1, n2⟩ := mapO_ok g2
        refine ⟨_, List.getElem?_eq_getElem _, n1, fun f y hf => ?_⟩
        have hfl : f < (el[i + j]'(by omega)).length := by have := lt_of_get hf; omega
        obtain ⟨y2, p1, p2⟩ := n2 f _ (List.getElem?_eq_getElem hfl)
        rw [hf] at p1
        simp only [Option.some.injEq] at p1
        subst p1
        exact ⟨_, List.getElem?_eq_getElem hfl, fun u hu hR => fz_ok hH n p2 hR (.inl hu)⟩
      · cases h
    · cases h

def Far (Pb : Nat → Prop) (B0 : Nat) (w : World) : Nat → Prop := fun b => Pb b ∨ (B0 ≤ b ∧ b < w.heap.size)

theorem fzA_ok (hH : HeapRel Pb μ B0 w H) {x y : AV} {v : Value} (h : fzA H x = some y) (hx : Rel Pb μ w x v) : Rel (Far Pb B0 w) noMu w y v := by
  have one : ∀ {x : AV} {c : TC}, fz H 8 x = some c → Rel Pb μ w x v → Rel (Far Pb B0 w) noMu w (.tc c) v := fun {x} {c} hf hR => by
    refine .tc _ _ (fz_ok hH 8 hf hR ?_)
    cases hR with
    | tc c' v hR => right; simp [fz] at hf; rw [hf]
    | slice => left; rfl
    | _ => simp [fz] at hf
  cases x with
  | agg cs =>
    simp only [fzA, Option.map_eq_some_iff] at h
    obtain ⟨l, hl, rfl⟩ := h
    obtain ⟨m1, m2⟩ := mapO_ok hl
    cases hx with
    | agg _ vs hlen hh =>
      refine .agg _ _ (by simp [tcs, m1, hlen]) fun i z u hz hu => ?_
      obtain ⟨c, hc, rfl⟩ := tcs_get hz
      have hil : i < cs.length := by have := lt_of_get hc; omega
      have hi := List.getElem?_eq_getElem hil
      obtain ⟨y, p1, p2⟩ := m2 i _ hi
      rw [hc] at p1
      simp only [Option.some.injEq] at p1
      subst p1
      have hR := hh i _ u hi hu
      refine .tc _ _ (fz_ok hH 8 p2 hR ?_)
      generalize cs[i] = e at p2 hR
      cases hR with
      | tc c' v hR => right; simp [fz] at p2; rw [p2]
      | slice => left; rfl
      | _ => simp [fz] at p2
  | tuple vs => simp [fzA] at h
  | any => simp only [fzA, Option.some.injEq] at h; subst h; exact .any _
  | vptr s el i f =>
    simp only [fzA, Option.some.injEq] at h
    subst h
    exact (rel_tree rfl hx).mono (fun b hb => .inl hb) (fun _ _ _ h => h) ⟨fun _ _ => rfl, fun _ _ h => h⟩
  | tc c =>
    simp only [fzA, Option.map_eq_some_iff] at h
    obtain ⟨c', hc', rfl⟩ := h
    exact one hc' hx
  | ptr o s i f ver => simp [fzA, fz] at h
  | slice o s i len cap ex ver =>
    simp only [fzA, Option.map_eq_some_iff] at h
    obtain ⟨c', hc', rfl⟩ := h
    exact one hc' hx
  | map o => simp [fzA, fz] at h
  | func fn f c => simp [fzA, fz] at h

theorem fzR_ok (hH : HeapRel Pb μ B0 w H) {x y : AV} {v : Value} (h : fzR H x = some y) (hx : Rel Pb μ w x v) : Rel (Far Pb B0 w) noMu w y v := by
  cases x with
  | tuple vs =>
    simp only [fzR, Option.map_eq_some_iff] at h
    obtain ⟨l, hl, rfl⟩ := h
    obtain ⟨m1, m2⟩ := mapO_ok hl
    cases hx with
    | tuple _ us hlen hh =>
      refine .tuple _ _ (by rw [m1, hlen]) fun i z u hz hu => ?_
      have hil : i < vs.length := by have := lt_of_get hz; omega
      have hi := List.getElem?_eq_getElem hil
      obtain ⟨y, p1, p2⟩ := m2 i _ hi
      rw [hz] at p1
      simp only [Option.some.injEq] at p1
      subst p1
      exact fzA_ok hH p2 (hh i _ u hi hu)
  | _ => exact fzA_ok hH (by simpa [fzR] using h) hx

/-- What a caller tells holds: of a call in any world that is as it says. -/
def CallOk (C : Ctx) (call : Caller) : Prop :=
  ∀ f args H k, call f args H k → ∀ (Pb : Nat → Prop) (μ : Mu) (B0 : Nat) (w : World) (vs : Array Value), RelL Pb μ w args vs → HeapRel Pb μ B0 w H → GlobRel C Pb μ w →
    Calls C.P f vs w fun e w' => ∃ r H' v Pb' μ', k r H' ∧ e = .returned v ∧ Rel Pb' μ' w' r v ∧ HeapRel Pb' μ' B0 w' H' ∧ Goes Pb μ B0 w H.length Pb' μ' w' H'.length

/-- What is told of a call of trees. -/
def TreeCall (C : Ctx) (f : FuncId) (args : List AV) (k : AV → Prop) : Prop :=
  ∀ (Pb : Nat → Prop) (w : World) (vs : Array Value), (∀ b, Pb b → b < w.heap.size) → RelL Pb noMu w args vs → GlobRel C Pb noMu w →
    Calls C.P f vs w fun e w' => ∃ r v, k r ∧ e = .returned v ∧ Rel (Far Pb w.heap.size w') noMu w' r v ∧ Below w.heap.size w w'

def SummOk (C : Ctx) : Prop := ∀ f g args r, C.summ f = some g → g args = some r → TreeCall C f args (· = r)

theorem callPure_ok {call : Caller} {f : FuncId} {args : List AV} {k : AV → Out} (hc : CallOk C call) (h : callPure call f args k) : TreeCall C f args (fun r => Ok (k r)) := by
  intro Pb w vs h1 h2 h3
  refine (hc _ _ _ _ h Pb noMu w.heap.size w vs h2 (heapRel_nil h1) h3).mono fun e w' ⟨r, H', v, Pb', μ', e1, e2, e3, e4, e5⟩ => ?_
  split at e1
  · rename_i t ht
    refine ⟨t, v, e1, e2, (fzR_ok e4 ht e3).mono (fun b hb => ?_) (fun _ _ _ h => h) ⟨fun _ _ => rfl, fun _ _ h => h⟩, e5.below⟩
    rcases hb with hb | hb
    · rcases e5.new b hb with h | h
      · exact .inl h
      · exact .inr ⟨h, e4.pb b hb⟩
    · exact .inr hb
  · exact e1.elim

theorem callT_ok {call : Caller} {f : FuncId} {args : List AV} {k : AV → Out} (hc : CallOk C call) (hs : SummOk C) (h : callT C call f args k) : TreeCall C f args (fun r => Ok (k r)) := by
  unfold callT at h
  split at h
  · rename_i g hg
    split at h
    · rename_i r hr
      intro Pb w vs h1 h2 h3
      refine (hs f g args r hg hr Pb w vs h1 h2 h3).mono fun e w' ⟨r', v, e1, e2, e3, e4⟩ => ?_
      subst e1
      exact ⟨_, v, h, e2, e3, e4⟩
    · exact callPure_ok hc h
  · exact callPure_ok hc h
end
end Go.Proofs.Ytgpijioodocplaa
