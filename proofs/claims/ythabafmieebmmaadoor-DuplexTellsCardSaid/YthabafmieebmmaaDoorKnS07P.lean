/- Small instructions: the plain law. -/
set_option linter.unusedSimpArgs false
namespace Go.Proofs.YthabafmieebmmaaDoor

/-- What varies in a small instruction. -/
structure I7 where
  op : Int
  d : Int
  s : Int
  t : Int
  imm : Int

def gr (a : Int) : Int := a + a / 8 * 8
def sm (r : Int) : Int := r - r / 16 * 8
def smOk (r : Int) : Prop := (0 ≤ r ∧ r ≤ 7) ∨ (16 ≤ r ∧ r ≤ 23)
instance (r : Int) : Decidable (smOk r) := by unfold smOk; infer_instance

/-- The instruction of a number. -/
def inst7 (s : Int) : Option I7 :=
  if s / 2048 = 1 then some ⟨8, gr (s / 128 % 16), 0, 0, s % 128⟩
  else if s / 2048 = 2 then some ⟨7, gr (s / 128 % 16), gr (s / 128 % 16), 0, s % 128 - s % 128 / 64 * 128⟩
  else if s / 2048 = 3 then (if s % 8 = 0 then some ⟨9, gr (s / 128 % 16), gr (s / 8 % 16), 0, 0⟩ else none)
  else if s / 2048 = 4 then (if s % 8 = 0 then some ⟨2, gr (s / 128 % 16), gr (s / 128 % 16), gr (s / 8 % 16), 0⟩ else none)
  else if s / 2048 = 5 then some ⟨21, gr (s / 128 % 16), gr (s / 8 % 16), 0, s % 8 * 4⟩
  else if s / 2048 = 6 then some ⟨24, 0, gr (s / 128 % 16), gr (s / 8 % 16), s % 8 * 4⟩
  else if s / 2048 = 7 then some ⟨23, gr (s / 128 % 16), gr (s / 8 % 16), 0, s % 8⟩
  else if s / 2048 = 8 then some ⟨26, 0, gr (s / 128 % 16), gr (s / 8 % 16), s % 8⟩
  else if s / 2048 = 9 then some ⟨13, 0, gr (s / 128 % 16), 0, s % 128⟩
  else none

/-- The number of an instruction. -/
def of7 (i : I7) : Option Int :=
  if i.op = 8 then (if smOk i.d ∧ i.s = 0 ∧ i.t = 0 ∧ 0 ≤ i.imm ∧ i.imm ≤ 127 then some (sm i.d * 128 + (i.imm + 2048)) else none)
  else if i.op = 7 then (if smOk i.d ∧ i.s = i.d ∧ i.t = 0 ∧ -64 ≤ i.imm ∧ i.imm ≤ 63 then some (sm i.d * 128 + (i.imm % 128 + 4096)) else none)
  else if i.op = 9 then (if smOk i.d ∧ smOk i.s ∧ i.t = 0 ∧ i.imm = 0 then some (sm i.d * 128 + (sm i.s * 8 + 6144)) else none)
  else if i.op = 2 then (if smOk i.d ∧ i.s = i.d ∧ smOk i.t ∧ i.imm = 0 then some (sm i.d * 128 + (sm i.t * 8 + 8192)) else none)
  else if i.op = 21 then (if smOk i.d ∧ smOk i.s ∧ i.t = 0 ∧ 0 ≤ i.imm ∧ i.imm ≤ 28 ∧ i.imm % 4 = 0 then some (sm i.d * 128 + (sm i.s * 8 + (i.imm / 4 + 10240))) else none)
  else if i.op = 24 then (if smOk i.s ∧ smOk i.t ∧ i.d = 0 ∧ 0 ≤ i.imm ∧ i.imm ≤ 28 ∧ i.imm % 4 = 0 then some (sm i.s * 128 + (sm i.t * 8 + (i.imm / 4 + 12288))) else none)
  else if i.op = 23 then (if smOk i.d ∧ smOk i.s ∧ i.t = 0 ∧ 0 ≤ i.imm ∧ i.imm ≤ 7 then some (sm i.d * 128 + (sm i.s * 8 + (i.imm + 14336))) else none)
  else if i.op = 26 then (if smOk i.s ∧ smOk i.t ∧ i.d = 0 ∧ 0 ≤ i.imm ∧ i.imm ≤ 7 then some (sm i.s * 128 + (sm i.t * 8 + (i.imm + 16384))) else none)
  else if i.op = 13 then (if smOk i.s ∧ i.d = 0 ∧ i.t = 0 ∧ 0 ≤ i.imm ∧ i.imm ≤ 127 then some (sm i.s * 128 + (i.imm + 18432)) else none)
  else none

theorem sm_gr {a : Int} (h0 : 0 ≤ a) (h1 : a ≤ 15) : smOk (gr a) ∧ sm (gr a) = a := by
  unfold smOk sm gr
  rcases (show a / 8 = 0 ∨ a / 8 = 1 by omega) with h | h
  · rw [h]; omega
  · rw [h]; omega

theorem gr_sm {r : Int} (h : smOk r) : gr (sm r) = r ∧ 0 ≤ sm r ∧ sm r ≤ 15 := by
  unfold smOk at h
  unfold sm gr
  rcases h with h | h
  · rw [show r / 16 = 0 by omega]; omega
  · rw [show r / 16 = 1 by omega]; omega

theorem of_inst7 {s : Int} {i : I7} (h0 : 0 ≤ s) (h1 : s ≤ 65535) (h : inst7 s = some i) : of7 i = some s ∧ s ≤ 20479 := by
  unfold inst7 at h
  have key : ∀ {p : Prop} [Decidable p] {x : Int}, p → x = s → (if p then some x else none) = some s := fun hp hx => by rw [if_pos hp, hx]
  obtain ⟨a1, a2⟩ := sm_gr (a := s / 128 % 16) (by omega) (by omega)
  obtain ⟨b1, b2⟩ := sm_gr (a := s / 8 % 16) (by omega) (by omega)
  repeat' split at h
  all_goals first
    | (simp only [reduceCtorEq] at h; done)
    | (simp only [Option.some.injEq] at h
       subst h
       refine ⟨?_, by omega⟩
       simp only [of7, if_true, Int.reduceEq, if_false, a2, b2]
       refine key ?_ ?_
       · simp only [a1, b1, true_and, and_true]
         try omega
       · omega)

theorem parts1 {a v k s : Int} (hk : s = a * 128 + (v + 2048 * k)) (a0 : 0 ≤ a) (a1 : a ≤ 15) (v0 : 0 ≤ v) (v1 : v ≤ 127) : s / 2048 = k ∧ s / 128 % 16 = a ∧ s % 128 = v := by omega
theorem parts2 {a b c k s : Int} (hk : s = a * 128 + (b * 8 + (c + 2048 * k))) (a0 : 0 ≤ a) (a1 : a ≤ 15) (b0 : 0 ≤ b) (b1 : b ≤ 15) (c0 : 0 ≤ c) (c1 : c ≤ 7) : s / 2048 = k ∧ s / 128 % 16 = a ∧ s / 8 % 16 = b ∧ s % 8 = c := by omega

theorem inst_of7 {s : Int} {i : I7} (h : of7 i = some s) : inst7 s = some i ∧ 0 ≤ s ∧ s ≤ 20479 := by
  obtain ⟨op, d, s', t, imm⟩ := i
  have key : ∀ {p : Prop} [Decidable p] {x : Int}, (if p then some x else none) = some s → p ∧ s = x := fun {p _ x} h => by
    split at h
    · rename_i hp; exact ⟨hp, by simpa using h.symm⟩
    · cases h
  by_cases e8 : op = 8
  · subst e8
    simp only [of7, if_true, Int.reduceEq, if_false] at h
    obtain ⟨⟨q1, q2, q3, q4, q5⟩, hs⟩ := key h
    obtain ⟨g1, g2, g3⟩ := gr_sm q1
    obtain ⟨p1, p2, p3⟩ := parts1 (a := sm d) (v := imm) (k := 1) (s := s) (by omega) g2 g3 (by omega) (by omega)
    refine ⟨?_, by omega, by omega⟩
    simp only [inst7, p1, p2, p3, if_true, Int.reduceEq, if_false, g1, Option.some.injEq, I7.mk.injEq, true_and, and_true]
    try omega
  by_cases e7 : op = 7
  · subst e7
    simp only [of7, if_true, Int.reduceEq, if_false] at h
    obtain ⟨⟨q1, q2, q3, q4, q5⟩, hs⟩ := key h
    obtain ⟨g1, g2, g3⟩ := gr_sm q1
    obtain ⟨p1, p2, p3⟩ := parts1 (a := sm d) (v := imm % 128) (k := 2) (s := s) (by omega) g2 g3 (by omega) (by omega)
    refine ⟨?_, by omega, by omega⟩
    simp only [inst7, p1, p2, p3, if_true, Int.reduceEq, if_false, g1, Option.some.injEq, I7.mk.injEq, true_and, and_true]
    try omega
  by_cases e9 : op = 9
  · subst e9
    simp only [of7, if_true, Int.reduceEq, if_false] at h
    obtain ⟨⟨q1, q2, q3, q4⟩, hs⟩ := key h
    obtain ⟨g1, g2, g3⟩ := gr_sm q1
    obtain ⟨g4, g5, g6⟩ := gr_sm q2
    obtain ⟨p1, p2, p3, p4⟩ := parts2 (a := sm d) (b := sm s') (c := 0) (k := 3) (s := s) (by omega) g2 g3 g5 g6 (by omega) (by omega)
    refine ⟨?_, by omega, by omega⟩
    simp only [inst7, p1, p2, p3, p4, if_true, Int.reduceEq, if_false, g1, g4, Option.some.injEq, I7.mk.injEq, true_and, and_true]
    try omega
  by_cases e2 : op = 2
  · subst e2
    simp only [of7, if_true, Int.reduceEq, if_false] at h
    obtain ⟨⟨q1, q2, q3, q4⟩, hs⟩ := key h
    obtain ⟨g1, g2, g3⟩ := gr_sm q1
    obtain ⟨g4, g5, g6⟩ := gr_sm q3
    obtain ⟨p1, p2, p3, p4⟩ := parts2 (a := sm d) (b := sm t) (c := 0) (k := 4) (s := s) (by omega) g2 g3 g5 g6 (by omega) (by omega)
    refine ⟨?_, by omega, by omega⟩
    simp only [inst7, p1, p2, p3, p4, if_true, Int.reduceEq, if_false, g1, g4, Option.some.injEq, I7.mk.injEq, true_and, and_true]
    try omega
  by_cases e21 : op = 21
  · subst e21
    simp only [of7, if_true, Int.reduceEq, if_false] at h
    obtain ⟨⟨q1, q2, q3, q4, q5, q6⟩, hs⟩ := key h
    obtain ⟨g1, g2, g3⟩ := gr_sm q1
    obtain ⟨g4, g5, g6⟩ := gr_sm q2
    obtain ⟨p1, p2, p3, p4⟩ := parts2 (a := sm d) (b := sm s') (c := imm / 4) (k := 5) (s := s) (by omega) g2 g3 g5 g6 (by omega) (by omega)
    refine ⟨?_, by omega, by omega⟩
    simp only [inst7, p1, p2, p3, p4, if_true, Int.reduceEq, if_false, g1, g4, Option.some.injEq, I7.mk.injEq, true_and, and_true]
    try omega
  by_cases e24 : op = 24
  · subst e24
    simp only [of7, if_true, Int.reduceEq, if_false] at h
    obtain ⟨⟨q1, q2, q3, q4, q5, q6⟩, hs⟩ := key h
    obtain ⟨g1, g2, g3⟩ := gr_sm q1
    obtain ⟨g4, g5, g6⟩ := gr_sm q2
    obtain ⟨p1, p2, p3, p4⟩ := parts2 (a := sm s') (b := sm t) (c := imm / 4) (k := 6) (s := s) (by omega) g2 g3 g5 g6 (by omega) (by omega)
    refine ⟨?_, by omega, by omega⟩
    simp only [inst7, p1, p2, p3, p4, if_true, Int.reduceEq, if_false, g1, g4, Option.some.injEq, I7.mk.injEq, true_and, and_true]
    try omega
  by_cases e23 : op = 23
  · subst e23
    simp only [of7, if_true, Int.reduceEq, if_false] at h
    obtain ⟨⟨q1, q2, q3, q4, q5⟩, hs⟩ := key h
    obtain ⟨g1, g2, g3⟩ := gr_sm q1
    obtain ⟨g4, g5, g6⟩ := gr_sm q2
    obtain ⟨p1, p2, p3, p4⟩ := parts2 (a := sm d) (b := sm s') (c := imm) (k := 7) (s := s) (by omega) g2 g3 g5 g6 (by omega) (by omega)
    refine ⟨?_, by omega, by omega⟩
    simp only [inst7, p1, p2, p3, p4, if_true, Int.reduceEq, if_false, g1, g4, Option.some.injEq, I7.mk.injEq, true_and, and_true]
    try omega
  by_cases e26 : op = 26
  · subst e26
    simp only [of7, if_true, Int.reduceEq, if_false] at h
    obtain ⟨⟨q1, q2, q3, q4, q5⟩, hs⟩ := key h
    obtain ⟨g1, g2, g3⟩ := gr_sm q1
    obtain ⟨g4, g5, g6⟩ := gr_sm q2
    obtain ⟨p1, p2, p3, p4⟩ := parts2 (a := sm s') (b := sm t) (c := imm) (k := 8) (s := s) (by omega) g2 g3 g5 g6 (by omega) (by omega)
    refine ⟨?_, by omega, by omega⟩
    simp only [inst7, p1, p2, p3, p4, if_true, Int.reduceEq, if_false, g1, g4, Option.some.injEq, I7.mk.injEq, true_and, and_true]
    try omega
  by_cases e13 : op = 13
  · subst e13
    simp only [of7, if_true, Int.reduceEq, if_false] at h
    obtain ⟨⟨q1, q2, q3, q4, q5⟩, hs⟩ := key h
    obtain ⟨g1, g2, g3⟩ := gr_sm q1
    obtain ⟨p1, p2, p3⟩ := parts1 (a := sm s') (v := imm) (k := 9) (s := s) (by omega) g2 g3 (by omega) (by omega)
    refine ⟨?_, by omega, by omega⟩
    simp only [inst7, p1, p2, p3, if_true, Int.reduceEq, if_false, g1, Option.some.injEq, I7.mk.injEq, true_and, and_true]
    try omega
  simp only [of7] at h
  rw [if_neg e8, if_neg e7, if_neg e9, if_neg e2, if_neg e21, if_neg e24, if_neg e23, if_neg e26, if_neg e13] at h
  cases h
end Go.Proofs.YthabafmieebmmaaDoor
