/- What of an instruction is told. -/
import Derived.Test.YtamhmfdbnlkmkaaKnI10A
import Derived.Test.YtamhmfdbnlkmkaaKnI10B
set_option linter.unusedVariables false
set_option linter.unusedSimpArgs false
set_option maxRecDepth 100000
namespace Go.Proofs.Ytamhmfdbnlkmkaa
open Go Go.RowKit

theorem iA_sh (ρ : Env) (b : Nat) : conc ρ (iA b) = conc (shE ρ b) anyI := rfl
theorem iF_right {ρ : Env} {b : Nat} (hf : FactsOk ρ (iF b)) : FactsOk (shE ρ b) rightF := fun p hp => by
  simp only [rightF, List.mem_cons, List.not_mem_nil, or_false] at hp
  rcases hp with rfl | rfl | rfl | rfl | rfl | rfl | rfl | rfl | rfl | rfl | rfl | rfl | rfl | rfl | rfl | rfl
  · exact hf (.cmp .geq (.var (b + 1)) (.lit (0)), true) (by simp [iF])
  · exact hf (.cmp .leq (.var (b + 1)) (.lit (255)), true) (by simp [iF])
  · exact hf (.cmp .geq (.var (b + 2)) (.lit (0)), true) (by simp [iF])
  · exact hf (.cmp .leq (.var (b + 2)) (.lit (255)), true) (by simp [iF])
  · exact hf (.cmp .geq (.var (b + 3)) (.lit (0)), true) (by simp [iF])
  · exact hf (.cmp .leq (.var (b + 3)) (.lit (255)), true) (by simp [iF])
  · exact hf (.cmp .geq (.var (b + 4)) (.lit (0)), true) (by simp [iF])
  · exact hf (.cmp .leq (.var (b + 4)) (.lit (255)), true) (by simp [iF])
  · exact hf (.cmp .geq (.var (b + 5)) (.lit (0)), true) (by simp [iF])
  · exact hf (.cmp .leq (.var (b + 5)) (.lit (255)), true) (by simp [iF])
  · exact hf (.cmp .geq (.var (b + 6)) (.lit (0)), true) (by simp [iF])
  · exact hf (.cmp .leq (.var (b + 6)) (.lit (255)), true) (by simp [iF])
  · exact hf (.cmp .geq (.var (b + 9)) (.lit (0)), true) (by simp [iF])
  · exact hf (.cmp .leq (.var (b + 9)) (.lit (65535)), true) (by simp [iF])
  · exact hf (.cmp .geq (.var (b + 10)) (.lit (-9223372036854775808)), true) (by simp [iF])
  · exact hf (.cmp .leq (.var (b + 10)) (.lit (9223372036854775807)), true) (by simp [iF])

/-- What may not be writes nothing. -/
theorem told_no {ρ : Env} (hf : FactsOk ρ allF) {cl : Int} (hc : 0 ≤ cl ∧ cl ≤ 6) {op : AV} (h1 : CallsTo CA10 14 [conc ρ anyI] (blV false)) (h2 : CallsTo CA10 51 [conc ρ anyI] (blV false))
    (h3 : CallsTo CA10 16 [conc ρ anyI] (inV .u8 cl)) (h4 : CallsTo CA10 52 [op] (inV .u8 cl)) : Told (conc ρ anyI) op false cl 0 false 0 false := by
  have hs : Summ ρ (ctxT CA10 allF noT) := ctxT_ok (CA10_ok ρ) hf fun p hp q hq => by
    simp only [noT, List.mem_cons, List.not_mem_nil, or_false] at hp
    rcases hp with rfl | rfl
    · simp only [List.mem_cons, List.not_mem_nil, or_false] at hq
      subst hq
      exact h1
    · simp only [List.mem_cons, List.not_mem_nil, or_false] at hq
      subst hq
      exact h2
  exact ⟨h1, h2, h3, h4, (toldnw.calls hs hf).of rfl rfl, (toldnv.calls hs hf).of rfl rfl, (toldnp.calls hs hf).of rfl rfl, (toldnq.calls hs hf).of rfl rfl, hc, by omega, by omega, (fun h => by cases h), (fun h => by cases h), fun h => by cases h.1⟩

theorem told_yes {ρ : Env} {c : Int} {x op : AV} {W P : AV} {cl w p : Int} {wo po : Bool} (hx : concs ρ (rightA c) = [x]) (hf : FactsOk ρ rightF) (hr : (den ρ (rightE c .var)).b = true)
    (r1 : CallsTo CA10 14 (concs ρ (rightA c)) (conc ρ (.tc (.sy .bool (rightE c .var))))) (r2 : CallsTo CA10 51 (concs ρ (rightA c)) (conc ρ (.tc (.sy .bool (rightE c .var)))))
    (h3 : CallsTo CA10 16 (concs ρ (rightA c)) (inV .u8 cl)) (h4 : CallsTo CA10 52 [op] (inV .u8 cl))
    (w1 : RunsIs (ctxT CA10 rightF (yesT c)) 24 rightF 17 (rightA c) W) (w2 : RunsIs (ctxT CA10 rightF (yesT c)) 24 rightF 35 (rightA c) W)
    (p1 : RunsIs (ctxT CA10 rightF (yesT c)) 24 rightF 15 (rightA c) P) (p2 : RunsIs (ctxT CA10 rightF (yesT c)) 24 rightF 37 (rightA c) P)
    (hW : conc ρ W = .tuple [inV .u8 w, blV wo]) (hP : conc ρ P = .tuple [inV .u8 p, blV po]) (hc : 0 ≤ cl ∧ cl ≤ 6) (hw : 0 ≤ w ∧ w ≤ 31) (hp : 0 ≤ p ∧ p ≤ 3) (h1 : ¬ (wo = true ∧ po = true)) : Told x op true cl w wo p po := by
  have e : conc ρ (.tc (.sy .bool (rightE c .var))) = blV true := by simp only [conc, concT, STy.val, hr]
  rw [e] at r1 r2
  have hs : Summ ρ (ctxT CA10 rightF (yesT c)) := ctxT_ok (CA10_ok ρ) hf fun p hp q hq => by
    simp only [yesT, List.mem_cons, List.not_mem_nil, or_false] at hp
    rcases hp with rfl | rfl
    · simp only [List.mem_cons, List.not_mem_nil, or_false] at hq
      subst hq
      exact r1
    · simp only [List.mem_cons, List.not_mem_nil, or_false] at hq
      subst hq
      exact r2
  rw [hx] at r1 r2 h3
  have a1 := (w1.calls hs hf).of (C' := CA10) rfl rfl
  have a2 := (w2.calls hs hf).of (C' := CA10) rfl rfl
  have a3 := (p1.calls hs hf).of (C' := CA10) rfl rfl
  have a4 := (p2.calls hs hf).of (C' := CA10) rfl rfl
  rw [hx, hW] at a1 a2
  rw [hx, hP] at a3 a4
  exact ⟨r1, r2, h3, h4, a1, a2, a3, a4, hc, hw, hp, fun _ => rfl, fun _ => rfl, h1⟩

theorem told_any {ρ : Env} {b : Nat} (hf : FactsOk ρ (iF b)) : ∃ rt cl w wo p po, Told (conc ρ (iA b)) (.tc (.sc (.int .u8 (ρ.I b)))) rt cl w wo p po ∧ (rt = true → ρ.B (b + 7) = true → ρ.I (b + 6) = 0) := by
  have h0 : 0 ≤ ρ.I (b + 0) := of_decide_eq_true (hf (.cmp .geq (.var (b + 0)) (.lit 0), true) (by simp [iF]))
  have h1 : ρ.I (b + 0) ≤ 255 := of_decide_eq_true (hf (.cmp .leq (.var (b + 0)) (.lit 255), true) (by simp [iF]))
  have d0 : 0 ≤ ρ.I (b + 1) := of_decide_eq_true (hf (.cmp .geq (.var (b + 1)) (.lit 0), true) (by simp [iF]))
  have hr := iF_right hf
  simp only [Nat.add_zero] at h0 h1
  have ha : FactsOk (shE ρ b) allF := FactsOk.cons (FactsOk.cons hr (decide_eq_true h1)) (decide_eq_true h0)
  have ex : ∀ c : Int, ρ.I b = c → concs (shE ρ b) (rightA c) = [conc ρ (iA b)] := fun c hc => by subst hc; rfl
  by_cases hc : ρ.I b ≤ 31
  case neg =>
    have hf2 : FactsOk (shE ρ b) anyF := FactsOk.cons (FactsOk.cons hr (decide_eq_true h1)) (decide_eq_true (show ρ.I b ≥ 32 by omega))
    exact ⟨_, _, _, _, _, _, told_no (ρ := shE ρ b) ha (cl := 0) (by omega) (toldr.calls (CA10_ok _) hf2) (tolds.calls (CA10_ok _) hf2) (toldc.calls (CA10_ok _) hf2) (toldk.calls (CA10_ok _) hf2), fun h => by cases h⟩
  have h : ρ.I b = 0 ∨ ρ.I b = 1 ∨ ρ.I b = 2 ∨ ρ.I b = 3 ∨ ρ.I b = 4 ∨ ρ.I b = 5 ∨ ρ.I b = 6 ∨ ρ.I b = 7 ∨ ρ.I b = 8 ∨ ρ.I b = 9 ∨ ρ.I b = 10 ∨ ρ.I b = 11 ∨ ρ.I b = 12 ∨ ρ.I b = 13 ∨ ρ.I b = 14 ∨ ρ.I b = 15 ∨ ρ.I b = 16 ∨ ρ.I b = 17 ∨ ρ.I b = 18 ∨ ρ.I b = 19 ∨ ρ.I b = 20 ∨ ρ.I b = 21 ∨ ρ.I b = 22 ∨ ρ.I b = 23 ∨ ρ.I b = 24 ∨ ρ.I b = 25 ∨ ρ.I b = 26 ∨ ρ.I b = 27 ∨ ρ.I b = 28 ∨ ρ.I b = 29 ∨ ρ.I b = 30 ∨ ρ.I b = 31 := by omega
  rcases h with h | h | h | h | h | h | h | h | h | h | h | h | h | h | h | h | h | h | h | h | h | h | h | h | h | h | h | h | h | h | h | h
  · have e := ex 0 h
    have r1 := toldr0.calls (CA10_ok _) hr
    have r2 := tolds0.calls (CA10_ok _) hr
    have r3 := toldc0.calls (CA10_ok _) hr
    have r4 := toldk0.calls (CA10_ok _) hr
    rw [e] at r1 r2 r3
    rw [h]
    exact ⟨_, _, _, _, _, _, told_no (ρ := shE ρ b) ha (cl := 0) (by omega) r1 r2 r3 r4, fun h => by cases h⟩
  · have e := ex 1 h
    have r1 := rightP_all 1 (by decide) (by decide) _ hr
    have r2 := rightQ_all 1 (by decide) (by decide) _ hr
    have r3 := toldc1.calls (CA10_ok _) hr
    have r4 := toldk1.calls (CA10_ok _) hr
    rw [h]
    cases hb : (den (shE ρ b) (rightE 1 .var)).b with
    | true =>
      have hf2 := addFact_ok (rightE 1 .var) hr hb
      have hm : ρ.B (b + 7) = true → ρ.I (b + 6) = 0 := fun hnew => by
        have hk := knowN_ok hf2 toldm1
        have e7 : (shE ρ b).B 7 = true := hnew
        simp only [den, e7, Bool.true_and, cmpI] at hk
        have e6 : (shE ρ b).I 6 = 0 := by simpa using hk
        exact e6
      exact ⟨_, _, _, _, _, _, told_yes (w := 0) (wo := false) (p := 0) (po := false) e hr hb r1 r2 r3 r4 toldw1 toldv1 toldp1 toldq1 rfl rfl (by omega) (by omega) (by omega) (by decide), fun _ hnew => hm hnew⟩
    | false =>
      have e2 : conc (shE ρ b) (.tc (.sy .bool (rightE 1 .var))) = blV false := by simp only [conc, concT, STy.val, hb]
      rw [e, e2] at r1 r2
      rw [e] at r3
      exact ⟨_, _, _, _, _, _, told_no (ρ := shE ρ b) ha (cl := 1) (by omega) r1 r2 r3 r4, fun h => by cases h⟩
  · have e := ex 2 h
    have r1 := rightP_all 2 (by decide) (by decide) _ hr
    have r2 := rightQ_all 2 (by decide) (by decide) _ hr
    have r3 := toldc2.calls (CA10_ok _) hr
    have r4 := toldk2.calls (CA10_ok _) hr
    rw [h]
    cases hb : (den (shE ρ b) (rightE 2 .var)).b with
    | true =>
      have hf2 := addFact_ok (rightE 2 .var) hr hb
      have hd : ρ.I (b + 1) ≤ 31 := of_decide_eq_true (knowN_ok hf2 toldb2)
      have hm : ρ.B (b + 7) = true → ρ.I (b + 6) = 0 := fun hnew => by
        have hk := knowN_ok hf2 toldm2
        have e7 : (shE ρ b).B 7 = true := hnew
        simp only [den, e7, Bool.true_and, cmpI] at hk
        have e6 : (shE ρ b).I 6 = 0 := by simpa using hk
        exact e6
      exact ⟨_, _, _, _, _, _, told_yes (w := (ρ.I (b + 1))) (wo := true) (p := 0) (po := false) e hr hb r1 r2 r3 r4 toldw2 toldv2 toldp2 toldq2 rfl rfl (by omega) (by omega) (by omega) (by decide), fun _ hnew => hm hnew⟩
    | false =>
      have e2 : conc (shE ρ b) (.tc (.sy .bool (rightE 2 .var))) = blV false := by simp only [conc, concT, STy.val, hb]
      rw [e, e2] at r1 r2
      rw [e] at r3
      exact ⟨_, _, _, _, _, _, told_no (ρ := shE ρ b) ha (cl := 1) (by omega) r1 r2 r3 r4, fun h => by cases h⟩
  · have e := ex 3 h
    have r1 := rightP_all 3 (by decide) (by decide) _ hr
    have r2 := rightQ_all 3 (by decide) (by decide) _ hr
    have r3 := toldc3.calls (CA10_ok _) hr
    have r4 := toldk3.calls (CA10_ok _) hr
    rw [h]
    cases hb : (den (shE ρ b) (rightE 3 .var)).b with
    | true =>
      have hf2 := addFact_ok (rightE 3 .var) hr hb
      have hd : ρ.I (b + 1) ≤ 31 := of_decide_eq_true (knowN_ok hf2 toldb3)
      have hm : ρ.B (b + 7) = true → ρ.I (b + 6) = 0 := fun hnew => by
        have hk := knowN_ok hf2 toldm3
        have e7 : (shE ρ b).B 7 = true := hnew
        simp only [den, e7, Bool.true_and, cmpI] at hk
        have e6 : (shE ρ b).I 6 = 0 := by simpa using hk
        exact e6
      exact ⟨_, _, _, _, _, _, told_yes (w := (ρ.I (b + 1))) (wo := true) (p := 0) (po := false) e hr hb r1 r2 r3 r4 toldw3 toldv3 toldp3 toldq3 rfl rfl (by omega) (by omega) (by omega) (by decide), fun _ hnew => hm hnew⟩
    | false =>
      have e2 : conc (shE ρ b) (.tc (.sy .bool (rightE 3 .var))) = blV false := by simp only [conc, concT, STy.val, hb]
      rw [e, e2] at r1 r2
      rw [e] at r3
      exact ⟨_, _, _, _, _, _, told_no (ρ := shE ρ b) ha (cl := 1) (by omega) r1 r2 r3 r4, fun h => by cases h⟩
  · have e := ex 4 h
    have r1 := rightP_all 4 (by decide) (by decide) _ hr
    have r2 := rightQ_all 4 (by decide) (by decide) _ hr
    have r3 := toldc4.calls (CA10_ok _) hr
    have r4 := toldk4.calls (CA10_ok _) hr
    rw [h]
    cases hb : (den (shE ρ b) (rightE 4 .var)).b with
    | true =>
      have hf2 := addFact_ok (rightE 4 .var) hr hb
      have hd : ρ.I (b + 1) ≤ 31 := of_decide_eq_true (knowN_ok hf2 toldb4)
      have hm : ρ.B (b + 7) = true → ρ.I (b + 6) = 0 := fun hnew => by
        have hk := knowN_ok hf2 toldm4
        have e7 : (shE ρ b).B 7 = true := hnew
        simp only [den, e7, Bool.true_and, cmpI] at hk
        have e6 : (shE ρ b).I 6 = 0 := by simpa using hk
        exact e6
      exact ⟨_, _, _, _, _, _, told_yes (w := (ρ.I (b + 1))) (wo := true) (p := 0) (po := false) e hr hb r1 r2 r3 r4 toldw4 toldv4 toldp4 toldq4 rfl rfl (by omega) (by omega) (by omega) (by decide), fun _ hnew => hm hnew⟩
    | false =>
      have e2 : conc (shE ρ b) (.tc (.sy .bool (rightE 4 .var))) = blV false := by simp only [conc, concT, STy.val, hb]
      rw [e, e2] at r1 r2
      rw [e] at r3
      exact ⟨_, _, _, _, _, _, told_no (ρ := shE ρ b) ha (cl := 1) (by omega) r1 r2 r3 r4, fun h => by cases h⟩
  · have e := ex 5 h
    have r1 := rightP_all 5 (by decide) (by decide) _ hr
    have r2 := rightQ_all 5 (by decide) (by decide) _ hr
    have r3 := toldc5.calls (CA10_ok _) hr
    have r4 := toldk5.calls (CA10_ok _) hr
    rw [h]
    cases hb : (den (shE ρ b) (rightE 5 .var)).b with
    | true =>
      have hf2 := addFact_ok (rightE 5 .var) hr hb
      have hd : ρ.I (b + 1) ≤ 31 := of_decide_eq_true (knowN_ok hf2 toldb5)
      have hm : ρ.B (b + 7) = true → ρ.I (b + 6) = 0 := fun hnew => by
        have hk := knowN_ok hf2 toldm5
        have e7 : (shE ρ b).B 7 = true := hnew
        simp only [den, e7, Bool.true_and, cmpI] at hk
        have e6 : (shE ρ b).I 6 = 0 := by simpa using hk
        exact e6
      exact ⟨_, _, _, _, _, _, told_yes (w := (ρ.I (b + 1))) (wo := true) (p := 0) (po := false) e hr hb r1 r2 r3 r4 toldw5 toldv5 toldp5 toldq5 rfl rfl (by omega) (by omega) (by omega) (by decide), fun _ hnew => hm hnew⟩
    | false =>
      have e2 : conc (shE ρ b) (.tc (.sy .bool (rightE 5 .var))) = blV false := by simp only [conc, concT, STy.val, hb]
      rw [e, e2] at r1 r2
      rw [e] at r3
      exact ⟨_, _, _, _, _, _, told_no (ρ := shE ρ b) ha (cl := 1) (by omega) r1 r2 r3 r4, fun h => by cases h⟩
  · have e := ex 6 h
    have r1 := rightP_all 6 (by decide) (by decide) _ hr
    have r2 := rightQ_all 6 (by decide) (by decide) _ hr
    have r3 := toldc6.calls (CA10_ok _) hr
    have r4 := toldk6.calls (CA10_ok _) hr
    rw [h]
    cases hb : (den (shE ρ b) (rightE 6 .var)).b with
    | true =>
      have hf2 := addFact_ok (rightE 6 .var) hr hb
      have hd : ρ.I (b + 1) ≤ 31 := of_decide_eq_true (knowN_ok hf2 toldb6)
      have hm : ρ.B (b + 7) = true → ρ.I (b + 6) = 0 := fun hnew => by
        have hk := knowN_ok hf2 toldm6
        have e7 : (shE ρ b).B 7 = true := hnew
        simp only [den, e7, Bool.true_and, cmpI] at hk
        have e6 : (shE ρ b).I 6 = 0 := by simpa using hk
        exact e6
      exact ⟨_, _, _, _, _, _, told_yes (w := (ρ.I (b + 1))) (wo := true) (p := 0) (po := false) e hr hb r1 r2 r3 r4 toldw6 toldv6 toldp6 toldq6 rfl rfl (by omega) (by omega) (by omega) (by decide), fun _ hnew => hm hnew⟩
    | false =>
      have e2 : conc (shE ρ b) (.tc (.sy .bool (rightE 6 .var))) = blV false := by simp only [conc, concT, STy.val, hb]
      rw [e, e2] at r1 r2
      rw [e] at r3
      exact ⟨_, _, _, _, _, _, told_no (ρ := shE ρ b) ha (cl := 1) (by omega) r1 r2 r3 r4, fun h => by cases h⟩
  · have e := ex 7 h
    have r1 := rightP_all 7 (by decide) (by decide) _ hr
    have r2 := rightQ_all 7 (by decide) (by decide) _ hr
    have r3 := toldc7.calls (CA10_ok _) hr
    have r4 := toldk7.calls (CA10_ok _) hr
    rw [h]
    cases hb : (den (shE ρ b) (rightE 7 .var)).b with
    | true =>
      have hf2 := addFact_ok (rightE 7 .var) hr hb
      have hd : ρ.I (b + 1) ≤ 31 := of_decide_eq_true (knowN_ok hf2 toldb7)
      have hm : ρ.B (b + 7) = true → ρ.I (b + 6) = 0 := fun hnew => by
        have hk := knowN_ok hf2 toldm7
        have e7 : (shE ρ b).B 7 = true := hnew
        simp only [den, e7, Bool.true_and, cmpI] at hk
        have e6 : (shE ρ b).I 6 = 0 := by simpa using hk
        exact e6
      exact ⟨_, _, _, _, _, _, told_yes (w := (ρ.I (b + 1))) (wo := true) (p := 0) (po := false) e hr hb r1 r2 r3 r4 toldw7 toldv7 toldp7 toldq7 rfl rfl (by omega) (by omega) (by omega) (by decide), fun _ hnew => hm hnew⟩
    | false =>
      have e2 : conc (shE ρ b) (.tc (.sy .bool (rightE 7 .var))) = blV false := by simp only [conc, concT, STy.val, hb]
      rw [e, e2] at r1 r2
      rw [e] at r3
      exact ⟨_, _, _, _, _, _, told_no (ρ := shE ρ b) ha (cl := 1) (by omega) r1 r2 r3 r4, fun h => by cases h⟩
  · have e := ex 8 h
    have r1 := rightP_all 8 (by decide) (by decide) _ hr
    have r2 := rightQ_all 8 (by decide) (by decide) _ hr
    have r3 := toldc8.calls (CA10_ok _) hr
    have r4 := toldk8.calls (CA10_ok _) hr
    rw [h]
    cases hb : (den (shE ρ b) (rightE 8 .var)).b with
    | true =>
      have hf2 := addFact_ok (rightE 8 .var) hr hb
      have hd : ρ.I (b + 1) ≤ 31 := of_decide_eq_true (knowN_ok hf2 toldb8)
      have hm : ρ.B (b + 7) = true → ρ.I (b + 6) = 0 := fun hnew => by
        have hk := knowN_ok hf2 toldm8
        have e7 : (shE ρ b).B 7 = true := hnew
        simp only [den, e7, Bool.true_and, cmpI] at hk
        have e6 : (shE ρ b).I 6 = 0 := by simpa using hk
        exact e6
      exact ⟨_, _, _, _, _, _, told_yes (w := (ρ.I (b + 1))) (wo := true) (p := 0) (po := false) e hr hb r1 r2 r3 r4 toldw8 toldv8 toldp8 toldq8 rfl rfl (by omega) (by omega) (by omega) (by decide), fun _ hnew => hm hnew⟩
    | false =>
      have e2 : conc (shE ρ b) (.tc (.sy .bool (rightE 8 .var))) = blV false := by simp only [conc, concT, STy.val, hb]
      rw [e, e2] at r1 r2
      rw [e] at r3
      exact ⟨_, _, _, _, _, _, told_no (ρ := shE ρ b) ha (cl := 1) (by omega) r1 r2 r3 r4, fun h => by cases h⟩
  · have e := ex 9 h
    have r1 := rightP_all 9 (by decide) (by decide) _ hr
    have r2 := rightQ_all 9 (by decide) (by decide) _ hr
    have r3 := toldc9.calls (CA10_ok _) hr
    have r4 := toldk9.calls (CA10_ok _) hr
    rw [h]
    cases hb : (den (shE ρ b) (rightE 9 .var)).b with
    | true =>
      have hf2 := addFact_ok (rightE 9 .var) hr hb
      have hd : ρ.I (b + 1) ≤ 31 := of_decide_eq_true (knowN_ok hf2 toldb9)
      have hm : ρ.B (b + 7) = true → ρ.I (b + 6) = 0 := fun hnew => by
        have hk := knowN_ok hf2 toldm9
        have e7 : (shE ρ b).B 7 = true := hnew
        simp only [den, e7, Bool.true_and, cmpI] at hk
        have e6 : (shE ρ b).I 6 = 0 := by simpa using hk
        exact e6
      exact ⟨_, _, _, _, _, _, told_yes (w := (ρ.I (b + 1))) (wo := true) (p := 0) (po := false) e hr hb r1 r2 r3 r4 toldw9 toldv9 toldp9 toldq9 rfl rfl (by omega) (by omega) (by omega) (by decide), fun _ hnew => hm hnew⟩
    | false =>
      have e2 : conc (shE ρ b) (.tc (.sy .bool (rightE 9 .var))) = blV false := by simp only [conc, concT, STy.val, hb]
      rw [e, e2] at r1 r2
      rw [e] at r3
      exact ⟨_, _, _, _, _, _, told_no (ρ := shE ρ b) ha (cl := 1) (by omega) r1 r2 r3 r4, fun h => by cases h⟩
  · have e := ex 10 h
    have r1 := rightP_all 10 (by decide) (by decide) _ hr
    have r2 := rightQ_all 10 (by decide) (by decide) _ hr
    have r3 := toldc10.calls (CA10_ok _) hr
    have r4 := toldk10.calls (CA10_ok _) hr
    rw [h]
    cases hb : (den (shE ρ b) (rightE 10 .var)).b with
    | true =>
      have hf2 := addFact_ok (rightE 10 .var) hr hb
      have hd : ρ.I (b + 1) ≤ 3 := of_decide_eq_true (knowN_ok hf2 toldb10)
      have hm : ρ.B (b + 7) = true → ρ.I (b + 6) = 0 := fun hnew => by
        have hk := knowN_ok hf2 toldm10
        have e7 : (shE ρ b).B 7 = true := hnew
        simp only [den, e7, Bool.true_and, cmpI] at hk
        have e6 : (shE ρ b).I 6 = 0 := by simpa using hk
        exact e6
      exact ⟨_, _, _, _, _, _, told_yes (w := 0) (wo := false) (p := (ρ.I (b + 1))) (po := true) e hr hb r1 r2 r3 r4 toldw10 toldv10 toldp10 toldq10 rfl rfl (by omega) (by omega) (by omega) (by decide), fun _ hnew => hm hnew⟩
    | false =>
      have e2 : conc (shE ρ b) (.tc (.sy .bool (rightE 10 .var))) = blV false := by simp only [conc, concT, STy.val, hb]
      rw [e, e2] at r1 r2
      rw [e] at r3
      exact ⟨_, _, _, _, _, _, told_no (ρ := shE ρ b) ha (cl := 1) (by omega) r1 r2 r3 r4, fun h => by cases h⟩
  · have e := ex 11 h
    have r1 := rightP_all 11 (by decide) (by decide) _ hr
    have r2 := rightQ_all 11 (by decide) (by decide) _ hr
    have r3 := toldc11.calls (CA10_ok _) hr
    have r4 := toldk11.calls (CA10_ok _) hr
    rw [h]
    cases hb : (den (shE ρ b) (rightE 11 .var)).b with
    | true =>
      have hf2 := addFact_ok (rightE 11 .var) hr hb
      have hd : ρ.I (b + 1) ≤ 3 := of_decide_eq_true (knowN_ok hf2 toldb11)
      have hm : ρ.B (b + 7) = true → ρ.I (b + 6) = 0 := fun hnew => by
        have hk := knowN_ok hf2 toldm11
        have e7 : (shE ρ b).B 7 = true := hnew
        simp only [den, e7, Bool.true_and, cmpI] at hk
        have e6 : (shE ρ b).I 6 = 0 := by simpa using hk
        exact e6
      exact ⟨_, _, _, _, _, _, told_yes (w := 0) (wo := false) (p := (ρ.I (b + 1))) (po := true) e hr hb r1 r2 r3 r4 toldw11 toldv11 toldp11 toldq11 rfl rfl (by omega) (by omega) (by omega) (by decide), fun _ hnew => hm hnew⟩
    | false =>
      have e2 : conc (shE ρ b) (.tc (.sy .bool (rightE 11 .var))) = blV false := by simp only [conc, concT, STy.val, hb]
      rw [e, e2] at r1 r2
      rw [e] at r3
      exact ⟨_, _, _, _, _, _, told_no (ρ := shE ρ b) ha (cl := 1) (by omega) r1 r2 r3 r4, fun h => by cases h⟩
  · have e := ex 12 h
    have r1 := rightP_all 12 (by decide) (by decide) _ hr
    have r2 := rightQ_all 12 (by decide) (by decide) _ hr
    have r3 := toldc12.calls (CA10_ok _) hr
    have r4 := toldk12.calls (CA10_ok _) hr
    rw [h]
    cases hb : (den (shE ρ b) (rightE 12 .var)).b with
    | true =>
      have hf2 := addFact_ok (rightE 12 .var) hr hb
      have hd : ρ.I (b + 1) ≤ 3 := of_decide_eq_true (knowN_ok hf2 toldb12)
      have hm : ρ.B (b + 7) = true → ρ.I (b + 6) = 0 := fun hnew => by
        have hk := knowN_ok hf2 toldm12
        have e7 : (shE ρ b).B 7 = true := hnew
        simp only [den, e7, Bool.true_and, cmpI] at hk
        have e6 : (shE ρ b).I 6 = 0 := by simpa using hk
        exact e6
      exact ⟨_, _, _, _, _, _, told_yes (w := 0) (wo := false) (p := (ρ.I (b + 1))) (po := true) e hr hb r1 r2 r3 r4 toldw12 toldv12 toldp12 toldq12 rfl rfl (by omega) (by omega) (by omega) (by decide), fun _ hnew => hm hnew⟩
    | false =>
      have e2 : conc (shE ρ b) (.tc (.sy .bool (rightE 12 .var))) = blV false := by simp only [conc, concT, STy.val, hb]
      rw [e, e2] at r1 r2
      rw [e] at r3
      exact ⟨_, _, _, _, _, _, told_no (ρ := shE ρ b) ha (cl := 1) (by omega) r1 r2 r3 r4, fun h => by cases h⟩
  · have e := ex 13 h
    have r1 := rightP_all 13 (by decide) (by decide) _ hr
    have r2 := rightQ_all 13 (by decide) (by decide) _ hr
    have r3 := toldc13.calls (CA10_ok _) hr
    have r4 := toldk13.calls (CA10_ok _) hr
    rw [h]
    cases hb : (den (shE ρ b) (rightE 13 .var)).b with
    | true =>
      have hf2 := addFact_ok (rightE 13 .var) hr hb
      have hd : ρ.I (b + 1) ≤ 3 := of_decide_eq_true (knowN_ok hf2 toldb13)
      have hm : ρ.B (b + 7) = true → ρ.I (b + 6) = 0 := fun hnew => by
        have hk := knowN_ok hf2 toldm13
        have e7 : (shE ρ b).B 7 = true := hnew
        simp only [den, e7, Bool.true_and, cmpI] at hk
        have e6 : (shE ρ b).I 6 = 0 := by simpa using hk
        exact e6
      exact ⟨_, _, _, _, _, _, told_yes (w := 0) (wo := false) (p := (ρ.I (b + 1))) (po := true) e hr hb r1 r2 r3 r4 toldw13 toldv13 toldp13 toldq13 rfl rfl (by omega) (by omega) (by omega) (by decide), fun _ hnew => hm hnew⟩
    | false =>
      have e2 : conc (shE ρ b) (.tc (.sy .bool (rightE 13 .var))) = blV false := by simp only [conc, concT, STy.val, hb]
      rw [e, e2] at r1 r2
      rw [e] at r3
      exact ⟨_, _, _, _, _, _, told_no (ρ := shE ρ b) ha (cl := 1) (by omega) r1 r2 r3 r4, fun h => by cases h⟩
  · have e := ex 14 h
    have r1 := rightP_all 14 (by decide) (by decide) _ hr
    have r2 := rightQ_all 14 (by decide) (by decide) _ hr
    have r3 := toldc14.calls (CA10_ok _) hr
    have r4 := toldk14.calls (CA10_ok _) hr
    rw [h]
    cases hb : (den (shE ρ b) (rightE 14 .var)).b with
    | true =>
      have hf2 := addFact_ok (rightE 14 .var) hr hb
      have hd : ρ.I (b + 1) ≤ 31 := of_decide_eq_true (knowN_ok hf2 toldb14)
      have hm : ρ.B (b + 7) = true → ρ.I (b + 6) = 0 := fun hnew => by
        have hk := knowN_ok hf2 toldm14
        have e7 : (shE ρ b).B 7 = true := hnew
        simp only [den, e7, Bool.true_and, cmpI] at hk
        have e6 : (shE ρ b).I 6 = 0 := by simpa using hk
        exact e6
      exact ⟨_, _, _, _, _, _, told_yes (w := (ρ.I (b + 1))) (wo := true) (p := 0) (po := false) e hr hb r1 r2 r3 r4 toldw14 toldv14 toldp14 toldq14 rfl rfl (by omega) (by omega) (by omega) (by decide), fun _ hnew => hm hnew⟩
    | false =>
      have e2 : conc (shE ρ b) (.tc (.sy .bool (rightE 14 .var))) = blV false := by simp only [conc, concT, STy.val, hb]
      rw [e, e2] at r1 r2
      rw [e] at r3
      exact ⟨_, _, _, _, _, _, told_no (ρ := shE ρ b) ha (cl := 1) (by omega) r1 r2 r3 r4, fun h => by cases h⟩
  · have e := ex 15 h
    have r1 := rightP_all 15 (by decide) (by decide) _ hr
    have r2 := rightQ_all 15 (by decide) (by decide) _ hr
    have r3 := toldc15.calls (CA10_ok _) hr
    have r4 := toldk15.calls (CA10_ok _) hr
    rw [h]
    cases hb : (den (shE ρ b) (rightE 15 .var)).b with
    | true =>
      have hf2 := addFact_ok (rightE 15 .var) hr hb
      have hd : ρ.I (b + 1) ≤ 31 := of_decide_eq_true (knowN_ok hf2 toldb15)
      have hm : ρ.B (b + 7) = true → ρ.I (b + 6) = 0 := fun hnew => by
        have hk := knowN_ok hf2 toldm15
        have e7 : (shE ρ b).B 7 = true := hnew
        simp only [den, e7, Bool.true_and, cmpI] at hk
        have e6 : (shE ρ b).I 6 = 0 := by simpa using hk
        exact e6
      exact ⟨_, _, _, _, _, _, told_yes (w := (ρ.I (b + 1))) (wo := true) (p := 0) (po := false) e hr hb r1 r2 r3 r4 toldw15 toldv15 toldp15 toldq15 rfl rfl (by omega) (by omega) (by omega) (by decide), fun _ hnew => hm hnew⟩
    | false =>
      have e2 : conc (shE ρ b) (.tc (.sy .bool (rightE 15 .var))) = blV false := by simp only [conc, concT, STy.val, hb]
      rw [e, e2] at r1 r2
      rw [e] at r3
      exact ⟨_, _, _, _, _, _, told_no (ρ := shE ρ b) ha (cl := 2) (by omega) r1 r2 r3 r4, fun h => by cases h⟩
  · have e := ex 16 h
    have r1 := rightP_all 16 (by decide) (by decide) _ hr
    have r2 := rightQ_all 16 (by decide) (by decide) _ hr
    have r3 := toldc16.calls (CA10_ok _) hr
    have r4 := toldk16.calls (CA10_ok _) hr
    rw [h]
    cases hb : (den (shE ρ b) (rightE 16 .var)).b with
    | true =>
      have hf2 := addFact_ok (rightE 16 .var) hr hb
      have hd : ρ.I (b + 1) ≤ 31 := of_decide_eq_true (knowN_ok hf2 toldb16)
      have hm : ρ.B (b + 7) = true → ρ.I (b + 6) = 0 := fun hnew => by
        have hk := knowN_ok hf2 toldm16
        have e7 : (shE ρ b).B 7 = true := hnew
        simp only [den, e7, Bool.true_and, cmpI] at hk
        have e6 : (shE ρ b).I 6 = 0 := by simpa using hk
        exact e6
      exact ⟨_, _, _, _, _, _, told_yes (w := (ρ.I (b + 1))) (wo := true) (p := 0) (po := false) e hr hb r1 r2 r3 r4 toldw16 toldv16 toldp16 toldq16 rfl rfl (by omega) (by omega) (by omega) (by decide), fun _ hnew => hm hnew⟩
    | false =>
      have e2 : conc (shE ρ b) (.tc (.sy .bool (rightE 16 .var))) = blV false := by simp only [conc, concT, STy.val, hb]
      rw [e, e2] at r1 r2
      rw [e] at r3
      exact ⟨_, _, _, _, _, _, told_no (ρ := shE ρ b) ha (cl := 2) (by omega) r1 r2 r3 r4, fun h => by cases h⟩
  · have e := ex 17 h
    have r1 := rightP_all 17 (by decide) (by decide) _ hr
    have r2 := rightQ_all 17 (by decide) (by decide) _ hr
    have r3 := toldc17.calls (CA10_ok _) hr
    have r4 := toldk17.calls (CA10_ok _) hr
    rw [h]
    cases hb : (den (shE ρ b) (rightE 17 .var)).b with
    | true =>
      have hf2 := addFact_ok (rightE 17 .var) hr hb
      have hd : ρ.I (b + 1) ≤ 31 := of_decide_eq_true (knowN_ok hf2 toldb17)
      have hm : ρ.B (b + 7) = true → ρ.I (b + 6) = 0 := fun hnew => by
        have hk := knowN_ok hf2 toldm17
        have e7 : (shE ρ b).B 7 = true := hnew
        simp only [den, e7, Bool.true_and, cmpI] at hk
        have e6 : (shE ρ b).I 6 = 0 := by simpa using hk
        exact e6
      exact ⟨_, _, _, _, _, _, told_yes (w := (ρ.I (b + 1))) (wo := true) (p := 0) (po := false) e hr hb r1 r2 r3 r4 toldw17 toldv17 toldp17 toldq17 rfl rfl (by omega) (by omega) (by omega) (by decide), fun _ hnew => hm hnew⟩
    | false =>
      have e2 : conc (shE ρ b) (.tc (.sy .bool (rightE 17 .var))) = blV false := by simp only [conc, concT, STy.val, hb]
      rw [e, e2] at r1 r2
      rw [e] at r3
      exact ⟨_, _, _, _, _, _, told_no (ρ := shE ρ b) ha (cl := 2) (by omega) r1 r2 r3 r4, fun h => by cases h⟩
  · have e := ex 18 h
    have r1 := rightP_all 18 (by decide) (by decide) _ hr
    have r2 := rightQ_all 18 (by decide) (by decide) _ hr
    have r3 := toldc18.calls (CA10_ok _) hr
    have r4 := toldk18.calls (CA10_ok _) hr
    rw [h]
    cases hb : (den (shE ρ b) (rightE 18 .var)).b with
    | true =>
      have hf2 := addFact_ok (rightE 18 .var) hr hb
      have hd : ρ.I (b + 1) ≤ 31 := of_decide_eq_true (knowN_ok hf2 toldb18)
      have hm : ρ.B (b + 7) = true → ρ.I (b + 6) = 0 := fun hnew => by
        have hk := knowN_ok hf2 toldm18
        have e7 : (shE ρ b).B 7 = true := hnew
        simp only [den, e7, Bool.true_and, cmpI] at hk
        have e6 : (shE ρ b).I 6 = 0 := by simpa using hk
        exact e6
      exact ⟨_, _, _, _, _, _, told_yes (w := (ρ.I (b + 1))) (wo := true) (p := 0) (po := false) e hr hb r1 r2 r3 r4 toldw18 toldv18 toldp18 toldq18 rfl rfl (by omega) (by omega) (by omega) (by decide), fun _ hnew => hm hnew⟩
    | false =>
      have e2 : conc (shE ρ b) (.tc (.sy .bool (rightE 18 .var))) = blV false := by simp only [conc, concT, STy.val, hb]
      rw [e, e2] at r1 r2
      rw [e] at r3
      exact ⟨_, _, _, _, _, _, told_no (ρ := shE ρ b) ha (cl := 2) (by omega) r1 r2 r3 r4, fun h => by cases h⟩
  · have e := ex 19 h
    have r1 := rightP_all 19 (by decide) (by decide) _ hr
    have r2 := rightQ_all 19 (by decide) (by decide) _ hr
    have r3 := toldc19.calls (CA10_ok _) hr
    have r4 := toldk19.calls (CA10_ok _) hr
    rw [h]
    cases hb : (den (shE ρ b) (rightE 19 .var)).b with
    | true =>
      have hf2 := addFact_ok (rightE 19 .var) hr hb
      have hd : ρ.I (b + 1) ≤ 31 := of_decide_eq_true (knowN_ok hf2 toldb19)
      have hm : ρ.B (b + 7) = true → ρ.I (b + 6) = 0 := fun hnew => by
        have hk := knowN_ok hf2 toldm19
        have e7 : (shE ρ b).B 7 = true := hnew
        simp only [den, e7, Bool.true_and, cmpI] at hk
        have e6 : (shE ρ b).I 6 = 0 := by simpa using hk
        exact e6
      exact ⟨_, _, _, _, _, _, told_yes (w := (ρ.I (b + 1))) (wo := true) (p := 0) (po := false) e hr hb r1 r2 r3 r4 toldw19 toldv19 toldp19 toldq19 rfl rfl (by omega) (by omega) (by omega) (by decide), fun _ hnew => hm hnew⟩
    | false =>
      have e2 : conc (shE ρ b) (.tc (.sy .bool (rightE 19 .var))) = blV false := by simp only [conc, concT, STy.val, hb]
      rw [e, e2] at r1 r2
      rw [e] at r3
      exact ⟨_, _, _, _, _, _, told_no (ρ := shE ρ b) ha (cl := 2) (by omega) r1 r2 r3 r4, fun h => by cases h⟩
  · have e := ex 20 h
    have r1 := rightP_all 20 (by decide) (by decide) _ hr
    have r2 := rightQ_all 20 (by decide) (by decide) _ hr
    have r3 := toldc20.calls (CA10_ok _) hr
    have r4 := toldk20.calls (CA10_ok _) hr
    rw [h]
    cases hb : (den (shE ρ b) (rightE 20 .var)).b with
    | true =>
      have hf2 := addFact_ok (rightE 20 .var) hr hb
      have hd : ρ.I (b + 1) ≤ 31 := of_decide_eq_true (knowN_ok hf2 toldb20)
      have hm : ρ.B (b + 7) = true → ρ.I (b + 6) = 0 := fun hnew => by
        have hk := knowN_ok hf2 toldm20
        have e7 : (shE ρ b).B 7 = true := hnew
        simp only [den, e7, Bool.true_and, cmpI] at hk
        have e6 : (shE ρ b).I 6 = 0 := by simpa using hk
        exact e6
      exact ⟨_, _, _, _, _, _, told_yes (w := (ρ.I (b + 1))) (wo := true) (p := 0) (po := false) e hr hb r1 r2 r3 r4 toldw20 toldv20 toldp20 toldq20 rfl rfl (by omega) (by omega) (by omega) (by decide), fun _ hnew => hm hnew⟩
    | false =>
      have e2 : conc (shE ρ b) (.tc (.sy .bool (rightE 20 .var))) = blV false := by simp only [conc, concT, STy.val, hb]
      rw [e, e2] at r1 r2
      rw [e] at r3
      exact ⟨_, _, _, _, _, _, told_no (ρ := shE ρ b) ha (cl := 2) (by omega) r1 r2 r3 r4, fun h => by cases h⟩
  · have e := ex 21 h
    have r1 := rightP_all 21 (by decide) (by decide) _ hr
    have r2 := rightQ_all 21 (by decide) (by decide) _ hr
    have r3 := toldc21.calls (CA10_ok _) hr
    have r4 := toldk21.calls (CA10_ok _) hr
    rw [h]
    cases hb : (den (shE ρ b) (rightE 21 .var)).b with
    | true =>
      have hf2 := addFact_ok (rightE 21 .var) hr hb
      have hd : ρ.I (b + 1) ≤ 31 := of_decide_eq_true (knowN_ok hf2 toldb21)
      have hm : ρ.B (b + 7) = true → ρ.I (b + 6) = 0 := fun hnew => by
        have hk := knowN_ok hf2 toldm21
        have e7 : (shE ρ b).B 7 = true := hnew
        simp only [den, e7, Bool.true_and, cmpI] at hk
        have e6 : (shE ρ b).I 6 = 0 := by simpa using hk
        exact e6
      exact ⟨_, _, _, _, _, _, told_yes (w := (ρ.I (b + 1))) (wo := true) (p := 0) (po := false) e hr hb r1 r2 r3 r4 toldw21 toldv21 toldp21 toldq21 rfl rfl (by omega) (by omega) (by omega) (by decide), fun _ hnew => hm hnew⟩
    | false =>
      have e2 : conc (shE ρ b) (.tc (.sy .bool (rightE 21 .var))) = blV false := by simp only [conc, concT, STy.val, hb]
      rw [e, e2] at r1 r2
      rw [e] at r3
      exact ⟨_, _, _, _, _, _, told_no (ρ := shE ρ b) ha (cl := 3) (by omega) r1 r2 r3 r4, fun h => by cases h⟩
  · have e := ex 22 h
    have r1 := rightP_all 22 (by decide) (by decide) _ hr
    have r2 := rightQ_all 22 (by decide) (by decide) _ hr
    have r3 := toldc22.calls (CA10_ok _) hr
    have r4 := toldk22.calls (CA10_ok _) hr
    rw [h]
    cases hb : (den (shE ρ b) (rightE 22 .var)).b with
    | true =>
      have hf2 := addFact_ok (rightE 22 .var) hr hb
      have hd : ρ.I (b + 1) ≤ 31 := of_decide_eq_true (knowN_ok hf2 toldb22)
      have hm : ρ.B (b + 7) = true → ρ.I (b + 6) = 0 := fun hnew => by
        have hk := knowN_ok hf2 toldm22
        have e7 : (shE ρ b).B 7 = true := hnew
        simp only [den, e7, Bool.true_and, cmpI] at hk
        have e6 : (shE ρ b).I 6 = 0 := by simpa using hk
        exact e6
      exact ⟨_, _, _, _, _, _, told_yes (w := (ρ.I (b + 1))) (wo := true) (p := 0) (po := false) e hr hb r1 r2 r3 r4 toldw22 toldv22 toldp22 toldq22 rfl rfl (by omega) (by omega) (by omega) (by decide), fun _ hnew => hm hnew⟩
    | false =>
      have e2 : conc (shE ρ b) (.tc (.sy .bool (rightE 22 .var))) = blV false := by simp only [conc, concT, STy.val, hb]
      rw [e, e2] at r1 r2
      rw [e] at r3
      exact ⟨_, _, _, _, _, _, told_no (ρ := shE ρ b) ha (cl := 3) (by omega) r1 r2 r3 r4, fun h => by cases h⟩
  · have e := ex 23 h
    have r1 := rightP_all 23 (by decide) (by decide) _ hr
    have r2 := rightQ_all 23 (by decide) (by decide) _ hr
    have r3 := toldc23.calls (CA10_ok _) hr
    have r4 := toldk23.calls (CA10_ok _) hr
    rw [h]
    cases hb : (den (shE ρ b) (rightE 23 .var)).b with
    | true =>
      have hf2 := addFact_ok (rightE 23 .var) hr hb
      have hd : ρ.I (b + 1) ≤ 31 := of_decide_eq_true (knowN_ok hf2 toldb23)
      have hm : ρ.B (b + 7) = true → ρ.I (b + 6) = 0 := fun hnew => by
        have hk := knowN_ok hf2 toldm23
        have e7 : (shE ρ b).B 7 = true := hnew
        simp only [den, e7, Bool.true_and, cmpI] at hk
        have e6 : (shE ρ b).I 6 = 0 := by simpa using hk
        exact e6
      exact ⟨_, _, _, _, _, _, told_yes (w := (ρ.I (b + 1))) (wo := true) (p := 0) (po := false) e hr hb r1 r2 r3 r4 toldw23 toldv23 toldp23 toldq23 rfl rfl (by omega) (by omega) (by omega) (by decide), fun _ hnew => hm hnew⟩
    | false =>
      have e2 : conc (shE ρ b) (.tc (.sy .bool (rightE 23 .var))) = blV false := by simp only [conc, concT, STy.val, hb]
      rw [e, e2] at r1 r2
      rw [e] at r3
      exact ⟨_, _, _, _, _, _, told_no (ρ := shE ρ b) ha (cl := 3) (by omega) r1 r2 r3 r4, fun h => by cases h⟩
  · have e := ex 24 h
    have r1 := rightP_all 24 (by decide) (by decide) _ hr
    have r2 := rightQ_all 24 (by decide) (by decide) _ hr
    have r3 := toldc24.calls (CA10_ok _) hr
    have r4 := toldk24.calls (CA10_ok _) hr
    rw [h]
    cases hb : (den (shE ρ b) (rightE 24 .var)).b with
    | true =>
      have hf2 := addFact_ok (rightE 24 .var) hr hb
      have hm : ρ.B (b + 7) = true → ρ.I (b + 6) = 0 := fun hnew => by
        have hk := knowN_ok hf2 toldm24
        have e7 : (shE ρ b).B 7 = true := hnew
        simp only [den, e7, Bool.true_and, cmpI] at hk
        have e6 : (shE ρ b).I 6 = 0 := by simpa using hk
        exact e6
      exact ⟨_, _, _, _, _, _, told_yes (w := 0) (wo := false) (p := 0) (po := false) e hr hb r1 r2 r3 r4 toldw24 toldv24 toldp24 toldq24 rfl rfl (by omega) (by omega) (by omega) (by decide), fun _ hnew => hm hnew⟩
    | false =>
      have e2 : conc (shE ρ b) (.tc (.sy .bool (rightE 24 .var))) = blV false := by simp only [conc, concT, STy.val, hb]
      rw [e, e2] at r1 r2
      rw [e] at r3
      exact ⟨_, _, _, _, _, _, told_no (ρ := shE ρ b) ha (cl := 4) (by omega) r1 r2 r3 r4, fun h => by cases h⟩
  · have e := ex 25 h
    have r1 := rightP_all 25 (by decide) (by decide) _ hr
    have r2 := rightQ_all 25 (by decide) (by decide) _ hr
    have r3 := toldc25.calls (CA10_ok _) hr
    have r4 := toldk25.calls (CA10_ok _) hr
    rw [h]
    cases hb : (den (shE ρ b) (rightE 25 .var)).b with
    | true =>
      have hf2 := addFact_ok (rightE 25 .var) hr hb
      have hm : ρ.B (b + 7) = true → ρ.I (b + 6) = 0 := fun hnew => by
        have hk := knowN_ok hf2 toldm25
        have e7 : (shE ρ b).B 7 = true := hnew
        simp only [den, e7, Bool.true_and, cmpI] at hk
        have e6 : (shE ρ b).I 6 = 0 := by simpa using hk
        exact e6
      exact ⟨_, _, _, _, _, _, told_yes (w := 0) (wo := false) (p := 0) (po := false) e hr hb r1 r2 r3 r4 toldw25 toldv25 toldp25 toldq25 rfl rfl (by omega) (by omega) (by omega) (by decide), fun _ hnew => hm hnew⟩
    | false =>
      have e2 : conc (shE ρ b) (.tc (.sy .bool (rightE 25 .var))) = blV false := by simp only [conc, concT, STy.val, hb]
      rw [e, e2] at r1 r2
      rw [e] at r3
      exact ⟨_, _, _, _, _, _, told_no (ρ := shE ρ b) ha (cl := 4) (by omega) r1 r2 r3 r4, fun h => by cases h⟩
  · have e := ex 26 h
    have r1 := rightP_all 26 (by decide) (by decide) _ hr
    have r2 := rightQ_all 26 (by decide) (by decide) _ hr
    have r3 := toldc26.calls (CA10_ok _) hr
    have r4 := toldk26.calls (CA10_ok _) hr
    rw [h]
    cases hb : (den (shE ρ b) (rightE 26 .var)).b with
    | true =>
      have hf2 := addFact_ok (rightE 26 .var) hr hb
      have hm : ρ.B (b + 7) = true → ρ.I (b + 6) = 0 := fun hnew => by
        have hk := knowN_ok hf2 toldm26
        have e7 : (shE ρ b).B 7 = true := hnew
        simp only [den, e7, Bool.true_and, cmpI] at hk
        have e6 : (shE ρ b).I 6 = 0 := by simpa using hk
        exact e6
      exact ⟨_, _, _, _, _, _, told_yes (w := 0) (wo := false) (p := 0) (po := false) e hr hb r1 r2 r3 r4 toldw26 toldv26 toldp26 toldq26 rfl rfl (by omega) (by omega) (by omega) (by decide), fun _ hnew => hm hnew⟩
    | false =>
      have e2 : conc (shE ρ b) (.tc (.sy .bool (rightE 26 .var))) = blV false := by simp only [conc, concT, STy.val, hb]
      rw [e, e2] at r1 r2
      rw [e] at r3
      exact ⟨_, _, _, _, _, _, told_no (ρ := shE ρ b) ha (cl := 4) (by omega) r1 r2 r3 r4, fun h => by cases h⟩
  · have e := ex 27 h
    have r1 := rightP_all 27 (by decide) (by decide) _ hr
    have r2 := rightQ_all 27 (by decide) (by decide) _ hr
    have r3 := toldc27.calls (CA10_ok _) hr
    have r4 := toldk27.calls (CA10_ok _) hr
    rw [h]
    cases hb : (den (shE ρ b) (rightE 27 .var)).b with
    | true =>
      have hf2 := addFact_ok (rightE 27 .var) hr hb
      have hm : ρ.B (b + 7) = true → ρ.I (b + 6) = 0 := fun hnew => by
        have hk := knowN_ok hf2 toldm27
        have e7 : (shE ρ b).B 7 = true := hnew
        simp only [den, e7, Bool.true_and, cmpI] at hk
        have e6 : (shE ρ b).I 6 = 0 := by simpa using hk
        exact e6
      exact ⟨_, _, _, _, _, _, told_yes (w := 0) (wo := false) (p := 0) (po := false) e hr hb r1 r2 r3 r4 toldw27 toldv27 toldp27 toldq27 rfl rfl (by omega) (by omega) (by omega) (by decide), fun _ hnew => hm hnew⟩
    | false =>
      have e2 : conc (shE ρ b) (.tc (.sy .bool (rightE 27 .var))) = blV false := by simp only [conc, concT, STy.val, hb]
      rw [e, e2] at r1 r2
      rw [e] at r3
      exact ⟨_, _, _, _, _, _, told_no (ρ := shE ρ b) ha (cl := 5) (by omega) r1 r2 r3 r4, fun h => by cases h⟩
  · have e := ex 28 h
    have r1 := rightP_all 28 (by decide) (by decide) _ hr
    have r2 := rightQ_all 28 (by decide) (by decide) _ hr
    have r3 := toldc28.calls (CA10_ok _) hr
    have r4 := toldk28.calls (CA10_ok _) hr
    rw [h]
    cases hb : (den (shE ρ b) (rightE 28 .var)).b with
    | true =>
      have hf2 := addFact_ok (rightE 28 .var) hr hb
      have hm : ρ.B (b + 7) = true → ρ.I (b + 6) = 0 := fun hnew => by
        have hk := knowN_ok hf2 toldm28
        have e7 : (shE ρ b).B 7 = true := hnew
        simp only [den, e7, Bool.true_and, cmpI] at hk
        have e6 : (shE ρ b).I 6 = 0 := by simpa using hk
        exact e6
      exact ⟨_, _, _, _, _, _, told_yes (w := 0) (wo := false) (p := 0) (po := false) e hr hb r1 r2 r3 r4 toldw28 toldv28 toldp28 toldq28 rfl rfl (by omega) (by omega) (by omega) (by decide), fun _ hnew => hm hnew⟩
    | false =>
      have e2 : conc (shE ρ b) (.tc (.sy .bool (rightE 28 .var))) = blV false := by simp only [conc, concT, STy.val, hb]
      rw [e, e2] at r1 r2
      rw [e] at r3
      exact ⟨_, _, _, _, _, _, told_no (ρ := shE ρ b) ha (cl := 5) (by omega) r1 r2 r3 r4, fun h => by cases h⟩
  · have e := ex 29 h
    have r1 := rightP_all 29 (by decide) (by decide) _ hr
    have r2 := rightQ_all 29 (by decide) (by decide) _ hr
    have r3 := toldc29.calls (CA10_ok _) hr
    have r4 := toldk29.calls (CA10_ok _) hr
    rw [h]
    cases hb : (den (shE ρ b) (rightE 29 .var)).b with
    | true =>
      have hf2 := addFact_ok (rightE 29 .var) hr hb
      have hm : ρ.B (b + 7) = true → ρ.I (b + 6) = 0 := fun hnew => by
        have hk := knowN_ok hf2 toldm29
        have e7 : (shE ρ b).B 7 = true := hnew
        simp only [den, e7, Bool.true_and, cmpI] at hk
        have e6 : (shE ρ b).I 6 = 0 := by simpa using hk
        exact e6
      exact ⟨_, _, _, _, _, _, told_yes (w := 31) (wo := true) (p := 0) (po := false) e hr hb r1 r2 r3 r4 toldw29 toldv29 toldp29 toldq29 rfl rfl (by omega) (by omega) (by omega) (by decide), fun _ hnew => hm hnew⟩
    | false =>
      have e2 : conc (shE ρ b) (.tc (.sy .bool (rightE 29 .var))) = blV false := by simp only [conc, concT, STy.val, hb]
      rw [e, e2] at r1 r2
      rw [e] at r3
      exact ⟨_, _, _, _, _, _, told_no (ρ := shE ρ b) ha (cl := 5) (by omega) r1 r2 r3 r4, fun h => by cases h⟩
  · have e := ex 30 h
    have r1 := rightP_all 30 (by decide) (by decide) _ hr
    have r2 := rightQ_all 30 (by decide) (by decide) _ hr
    have r3 := toldc30.calls (CA10_ok _) hr
    have r4 := toldk30.calls (CA10_ok _) hr
    rw [h]
    cases hb : (den (shE ρ b) (rightE 30 .var)).b with
    | true =>
      have hf2 := addFact_ok (rightE 30 .var) hr hb
      have hm : ρ.B (b + 7) = true → ρ.I (b + 6) = 0 := fun hnew => by
        have hk := knowN_ok hf2 toldm30
        have e7 : (shE ρ b).B 7 = true := hnew
        simp only [den, e7, Bool.true_and, cmpI] at hk
        have e6 : (shE ρ b).I 6 = 0 := by simpa using hk
        exact e6
      exact ⟨_, _, _, _, _, _, told_yes (w := 0) (wo := false) (p := 0) (po := false) e hr hb r1 r2 r3 r4 toldw30 toldv30 toldp30 toldq30 rfl rfl (by omega) (by omega) (by omega) (by decide), fun _ hnew => hm hnew⟩
    | false =>
      have e2 : conc (shE ρ b) (.tc (.sy .bool (rightE 30 .var))) = blV false := by simp only [conc, concT, STy.val, hb]
      rw [e, e2] at r1 r2
      rw [e] at r3
      exact ⟨_, _, _, _, _, _, told_no (ρ := shE ρ b) ha (cl := 6) (by omega) r1 r2 r3 r4, fun h => by cases h⟩
  · have e := ex 31 h
    have r1 := rightP_all 31 (by decide) (by decide) _ hr
    have r2 := rightQ_all 31 (by decide) (by decide) _ hr
    have r3 := toldc31.calls (CA10_ok _) hr
    have r4 := toldk31.calls (CA10_ok _) hr
    rw [h]
    cases hb : (den (shE ρ b) (rightE 31 .var)).b with
    | true =>
      have hf2 := addFact_ok (rightE 31 .var) hr hb
      have hm : ρ.B (b + 7) = true → ρ.I (b + 6) = 0 := fun hnew => by
        have hk := knowN_ok hf2 toldm31
        have e7 : (shE ρ b).B 7 = true := hnew
        simp only [den, e7, Bool.true_and, cmpI] at hk
        have e6 : (shE ρ b).I 6 = 0 := by simpa using hk
        exact e6
      exact ⟨_, _, _, _, _, _, told_yes (w := 0) (wo := false) (p := 0) (po := false) e hr hb r1 r2 r3 r4 toldw31 toldv31 toldp31 toldq31 rfl rfl (by omega) (by omega) (by omega) (by decide), fun _ hnew => hm hnew⟩
    | false =>
      have e2 : conc (shE ρ b) (.tc (.sy .bool (rightE 31 .var))) = blV false := by simp only [conc, concT, STy.val, hb]
      rw [e, e2] at r1 r2
      rw [e] at r3
      exact ⟨_, _, _, _, _, _, told_no (ρ := shE ρ b) ha (cl := 6) (by omega) r1 r2 r3 r4, fun h => by cases h⟩
end Go.Proofs.Ytamhmfdbnlkmkaa
