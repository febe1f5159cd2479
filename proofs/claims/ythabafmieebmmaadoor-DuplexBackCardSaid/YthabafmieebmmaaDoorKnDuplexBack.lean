/- The law DuplexBack: each leaf of its runs is true. -/
import Derived.Test.YthabafmieebmmaaDoorKnDuplexBackA
import Derived.Test.YthabafmieebmmaaDoorKnDuplexBackB
import Derived.Test.YthabafmieebmmaaDoorKnDuplexBackC
set_option linter.unusedVariables false
set_option linter.unusedSimpArgs false
set_option maxRecDepth 100000
namespace Go.Proofs.YthabafmieebmmaaDoor
open Go Go.RowKit


/-- What is told, as variables. -/
def dEnv (ρ : Env) (x y v28 v29 v30 v31 : Int) (s t : Bool) : Env := { ρ with I := fun k => match k with | 22 => x | 23 => y | 26 => wrd x y | 27 => wrd y x | 28 => v28 | 29 => v29 | 30 => v30 | 31 => v31 | k => ρ.I k, B := fun k => match k with | 24 => s | 25 => t | k => ρ.B k }
/-- The second one's cells. -/
def dEnvB (ρ : Env) : Env := ⟨fun i => ρ.I (i + 11), fun i => ρ.B (i + 11), ρ.S, ρ.F⟩

theorem same_inst {ρ ρ' : Env} {x : Int} (h : of11 ρ = some x) (h' : of11 ρ' = some x) : concs ρ opArgsG = concs ρ' opArgsG := by
  unfold of11 at h h'
  split at h
  · rename_i hp
    split at h'
    · rename_i hp'
      have e1 := (inst_of7 h).1
      have e2 := (inst_of7 h').1
      rw [e1] at e2
      simp only [Option.some.injEq, i7of, I7.mk.injEq] at e2
      obtain ⟨q1, q2, q3, q4, q5⟩ := e2
      obtain ⟨p1, p2, p3, p4, p5, p6⟩ := hp
      obtain ⟨r1, r2, r3, r4, r5, r6⟩ := hp'
      simp only [opArgsG, concs, conc, concT, STy.val, den, p1, p2, p3, p4, p5, p6, r1, r2, r3, r4, r5, r6, q1, q2, q3, q4, q5]
    · cases h'
  · cases h

theorem dA_facts {ρ : Env} (hf : FactsOk ρ duplexBack_facts) : FactsOk ρ inF ∧ FactsOk (dEnvB ρ) inF := by
  constructor
  · intro p hp
    refine hf p ?_
    simp only [inF, rightF, List.mem_cons, List.not_mem_nil, or_false] at hp
    rcases hp with rfl | rfl | rfl | rfl | rfl | rfl | rfl | rfl | rfl | rfl | rfl | rfl | rfl | rfl | rfl | rfl | rfl | rfl <;> simp [duplexBack_facts]
  · intro p hp
    simp only [inF, rightF, List.mem_cons, List.not_mem_nil, or_false] at hp
    have key : ∀ (op : BinOp) (i : Nat) (n : Int), ((.cmp op (.var (i + 11)) (.lit n), true) : Sx × Bool) ∈ duplexBack_facts → (den (dEnvB ρ) (.cmp op (.var i) (.lit n))).b = true := fun op i n hm => hf _ hm
    rcases hp with rfl | rfl | rfl | rfl | rfl | rfl | rfl | rfl | rfl | rfl | rfl | rfl | rfl | rfl | rfl | rfl | rfl | rfl
    all_goals exact key _ _ _ (by simp [duplexBack_facts])

theorem duplexBack_calls {ρ : Env} (hf : FactsOk ρ duplexBack_facts) : CallsTo CA08 7 (concs ρ duplexBack_args) (.sc (.bool true)) := by
  obtain ⟨ha, hb⟩ := dA_facts hf
  have oa := (sub_of ha).dup
  have ob := (sub_of hb).dup
  have sa := (store_calls ha).1
  have sb := (store_calls hb).1
  have fo : ∀ x y v28 v29 v30 v31 s t, FactsOk (dEnv ρ x y v28 v29 v30 v31 s t) duplexBack_facts := fun x y v28 v29 v30 v31 s t p hp => by
    have := hf p hp
    simp only [duplexBack_facts, List.mem_cons, List.not_mem_nil, or_false] at hp
    rcases hp with rfl | rfl | rfl | rfl | rfl | rfl | rfl | rfl | rfl | rfl | rfl | rfl | rfl | rfl | rfl | rfl | rfl | rfl | rfl | rfl | rfl | rfl | rfl | rfl | rfl | rfl | rfl | rfl | rfl | rfl | rfl | rfl | rfl | rfl | rfl | rfl <;> exact this
  have eA : ∀ x y v28 v29 v30 v31 s t, concs (dEnv ρ x y v28 v29 v30 v31 s t) [dA] = concs ρ opArgsG := fun _ _ _ _ _ _ _ _ => rfl
  have eB : ∀ x y v28 v29 v30 v31 s t, concs (dEnv ρ x y v28 v29 v30 v31 s t) [dB] = concs (dEnvB ρ) opArgsG := fun _ _ _ _ _ _ _ _ => rfl
  have eArgs : ∀ x y v28 v29 v30 v31 s t, concs ρ duplexBack_args = concs (dEnv ρ x y v28 v29 v30 v31 s t) duplexBack_args := fun _ _ _ _ _ _ _ _ => rfl
  -- one has none
  have none_ : ∀ (a b : Bool) (x y : Int), ofR (of11 ρ) = conc (dEnv ρ x y 0 0 0 0 false false) (cond a (.tuple [dX, boolv true]) noOf) → ofR (of11 (dEnvB ρ)) = conc (dEnv ρ x y 0 0 0 0 false false) (cond b (.tuple [dY, boolv true]) noOf) →
      RunsN (ctxT CA08 duplexBack_facts (dTabsN a b)) 24 duplexBack_facts 7 duplexBack_args → CallsTo CA08 7 (concs ρ duplexBack_args) (.sc (.bool true)) := fun a b x y h1 h2 hr => by
    rw [eArgs x y 0 0 0 0 false false]
    refine (hr.calls (ctxT_ok (CA08_ok _) (fo x y 0 0 0 0 false false) fun p hp q hq => ?_) (fo x y 0 0 0 0 false false)).of rfl rfl
    simp only [dTabsN, List.mem_cons, List.not_mem_nil, or_false] at hp
    subst hp
    simp only [List.mem_cons, List.not_mem_nil, or_false] at hq
    rcases hq with rfl | rfl
    · rw [h1] at oa; exact oa
    · rw [h2] at ob; exact ob
  cases hx : of11 ρ with
  | none =>
    cases hy : of11 (dEnvB ρ) with
    | none => exact none_ false false 0 0 (by rw [hx]; rfl) (by rw [hy]; rfl) duplexBack_runff
    | some y => exact none_ false true 0 y (by rw [hx]; rfl) (by rw [hy]; rfl) duplexBack_runft
  | some x =>
    cases hy : of11 (dEnvB ρ) with
    | none => exact none_ true false x 0 (by rw [hx]; rfl) (by rw [hy]; rfl) duplexBack_runtf
    | some y =>
      rw [hx] at oa
      rw [hy] at ob
      obtain ⟨ia, x0, x1⟩ := sub_inst7 hx
      obtain ⟨ib, y0, y1⟩ := sub_inst7 hy
      have w1 := word_calls x0 y0 (by omega) (by omega)
      have w2 := word_calls y0 x0 (by omega) (by omega)
      obtain ⟨r1, r2⟩ := wrd_le x0 y0 (by omega) (by omega)
      obtain ⟨r3, r4⟩ := wrd_le y0 x0 (by omega) (by omega)
      obtain ⟨t1, p1⟩ := thirty_wrd x0 y0 (by omega) (by omega)
      obtain ⟨t2, p2⟩ := thirty_wrd y0 x0 (by omega) (by omega)
      have th1 := thirty_calls r1 r2
      have th2 := thirty_calls r3 r4
      obtain ⟨v28, v29, pa1⟩ := parts_calls r1 r2
      obtain ⟨v30, v31, pa2⟩ := parts_calls r3 r4
      rw [t1] at th1
      rw [t2] at th2
      rw [p1] at pa1
      rw [p2] at pa2
      let ρ2 := dEnv ρ x y v28 v29 v30 v31 (isSt (ρ.I 0)) (isSt (ρ.I 11))
      have f2 : FactsOk ρ2 (xRng ++ duplexBack_facts) := fun p hp => by
        rcases List.mem_append.1 hp with hp | hp
        · simp only [xRng, List.mem_cons, List.not_mem_nil, or_false] at hp
          rcases hp with rfl | rfl | rfl | rfl
          · exact decide_eq_true x0
          · exact decide_eq_true x1
          · exact decide_eq_true y0
          · exact decide_eq_true y1
        · exact fo x y v28 v29 v30 v31 _ _ p hp
      have d1 : (den ρ2 (addE (mulE (.var 22) 32768) (.var 23))).i = x * 32768 + y := den_addW (den_mulW (n := 32768) (rfl : (den ρ2 (.var 22)).i = x) (by omega) (by omega)) (rfl : (den ρ2 (.var 23)).i = y) (by omega) (by omega)
      have d2 : (den ρ2 (addE (mulE (.var 23) 32768) (.var 22))).i = y * 32768 + x := den_addW (den_mulW (n := 32768) (rfl : (den ρ2 (.var 23)).i = y) (by omega) (by omega)) (rfl : (den ρ2 (.var 22)).i = x) (by omega) (by omega)
      have dd : (den ρ2 (dif 22 23)).i = x + y * (-1) := den_addW (rfl : (den ρ2 (.var 22)).i = x) (den_mulW (n := -1) (rfl : (den ρ2 (.var 23)).i = y) (by omega) (by omega)) (by omega) (by omega)
      have dw : (den ρ2 (dif 26 27)).i = wrd x y + wrd y x * (-1) := den_addW (rfl : (den ρ2 (.var 26)).i = wrd x y) (den_mulW (n := -1) (rfl : (den ρ2 (.var 27)).i = wrd y x) (by omega) (by omega)) (by omega) (by omega)
      have ne : x ≠ y → (den ρ2 (.cmp .eql (dif 26 27) (.lit 0))).b = false := fun hne => by
        show ((den ρ2 (dif 26 27)).i == 0) = false
        rw [dw, beq_eq_false_iff_ne]
        intro h
        exact hne (wrd_inj x0 y0 (by omega) (by omega) (by omega))
      have f4 : FactsOk ρ2 (wRng ++ (xRng ++ duplexBack_facts)) := fun p hp => by
        rcases List.mem_append.1 hp with hp | hp
        · simp only [wRng, List.mem_cons, List.not_mem_nil, or_false] at hp
          rcases hp with rfl | rfl | rfl | rfl
          · exact decide_eq_true r1
          · exact decide_eq_true r2
          · exact decide_eq_true r3
          · exact decide_eq_true r4
        · exact f2 p hp
      have e11 : of11 ρ = some x := hx
      have e12 : of11 (dEnvB ρ) = some y := hy
      have pa : plain11 ρ := by unfold of11 at hx; split at hx <;> first | assumption | cases hx
      have pb : plain11 (dEnvB ρ) := by unfold of11 at hy; split at hy <;> first | assumption | cases hy
      have ga : of7 (i7of ρ) = some x := by unfold of11 at hx; rw [if_pos pa] at hx; exact hx
      have gb : of7 (i7of (dEnvB ρ)) = some y := by unfold of11 at hy; rw [if_pos pb] at hy; exact hy
      have ra := inst7_rng (inst_of7 ga).1
      have rb := inst7_rng (inst_of7 gb).1
      have f5 : FactsOk ρ2 (immR ++ (wRng ++ (xRng ++ duplexBack_facts))) := fun p hp => by
        rcases List.mem_append.1 hp with hp | hp
        · simp only [immR, List.mem_cons, List.not_mem_nil, or_false] at hp
          rcases hp with rfl | rfl | rfl | rfl
          · exact decide_eq_true ra.2.2.2.2.1
          · exact decide_eq_true ra.2.2.2.2.2
          · exact decide_eq_true rb.2.2.2.2.1
          · exact decide_eq_true rb.2.2.2.2.2
        · exact f4 p hp
      have eP : concs ρ2 [dP] = concs ρ opArgsG := by
        obtain ⟨p1, p2, p3, p4, p5, p6⟩ := pa
        simp only [opArgsG, concs, conc, concT, STy.val, den, p1, p2, p3, p4, p5, p6]; rfl
      -- the first cell in which they are not the same
      have one : ∀ k : Nat, concs ρ2 [dQ k] = concs (dEnvB ρ) opArgsG → (den ρ2 (.cmp .eql (dif (cellA k) (cellB k)) (.lit 0))).b = false → x ≠ y →
          (RunsN (ctxT CA08 (dFlt k) (dTabsK k)) 24 (dFlt k) 7 (dArgsK k)) → (RunsN (ctxT CA08 (dFgt k) (dTabsK k)) 24 (dFgt k) 7 (dArgsK k)) →
          CallsTo CA08 7 (concs ρ duplexBack_args) (.sc (.bool true)) := fun k eQ hd hne rl rg => by
        have cP : conc ρ2 dP = conc ρ2 dA := (List.cons.inj (show [conc ρ2 dP] = [conc ρ2 dA] from eP)).1
        have cQ : conc ρ2 (dQ k) = conc ρ2 dB := (List.cons.inj (show [conc ρ2 (dQ k)] = [conc ρ2 dB] from eQ)).1
        have tabs : ∀ p ∈ dTabsK k, ∀ q ∈ p.2, CallsTo CA08 p.1 (concs ρ2 q.1) (conc ρ2 q.2) := fun p hp q hq => by
          simp only [dTabsK, List.mem_cons, List.not_mem_nil, or_false] at hp
          rcases hp with rfl | rfl | rfl | rfl | rfl | rfl
          all_goals
            simp only [List.mem_cons, List.not_mem_nil, or_false] at hq
            rcases hq with rfl | rfl
          · show CallsTo CA08 _ (concs ρ2 [dP]) _
            rw [eP]; exact oa
          · show CallsTo CA08 _ (concs ρ2 [dQ k]) _
            rw [eQ]; exact ob
          · show CallsTo CA08 _ _ (.tuple [conc ρ2 dP, boolv true])
            rw [cP]; exact ia.dup
          · show CallsTo CA08 _ _ (.tuple [conc ρ2 (dQ k), boolv true])
            rw [cQ]; exact ib.dup
          · show CallsTo CA08 _ (concs ρ2 [dP]) _
            rw [eP]; exact sa
          · show CallsTo CA08 _ (concs ρ2 [dQ k]) _
            rw [eQ]; exact sb
          · exact w1
          · exact w2
          · have e : conc ρ2 (u32E (addE (mulE (.var 22) 32768) (.var 23))) = u32v (x * 32768 + y) := by simp only [conc, concT, STy.val, d1]
            show CallsTo CA08 _ _ (conc ρ2 (u32E (addE (mulE (.var 22) 32768) (.var 23))))
            rw [e]
            exact th1
          · have e : conc ρ2 (u32E (addE (mulE (.var 23) 32768) (.var 22))) = u32v (y * 32768 + x) := by simp only [conc, concT, STy.val, d2]
            show CallsTo CA08 _ _ (conc ρ2 (u32E (addE (mulE (.var 23) 32768) (.var 22))))
            rw [e]
            exact th2
          · exact pa1
          · exact pa2
        have f6 : FactsOk ρ2 (dF0 k) := (f5.cons (ne hne)).cons hd
        have eAr : concs ρ duplexBack_args = concs ρ2 (dArgsK k) := by
          show [conc ρ2 dA, conc ρ2 dB] = [conc ρ2 dP, conc ρ2 (dQ k)]
          rw [cP, cQ]
        rw [eAr]
        rcases Int.lt_or_lt_of_ne hne with h | h
        · have f3 : FactsOk ρ2 (dFlt k) := (f6.cons (by show decide ((den ρ2 (dif 22 23)).i ≤ -1) = true; rw [dd]; exact decide_eq_true (by omega))).cons (by show decide ((den ρ2 (dif 22 23)).i ≤ 0) = true; rw [dd]; exact decide_eq_true (by omega))
          exact (rl.calls (ctxT_ok (CA08_ok _) f3 tabs) f3).of rfl rfl
        · have f3 : FactsOk ρ2 (dFgt k) := (f6.cons (by show decide ((den ρ2 (dif 22 23)).i ≤ 0) = false; rw [dd]; exact decide_eq_false (by omega))).cons (by show decide ((den ρ2 (dif 22 23)).i ≤ -1) = false; rw [dd]; exact decide_eq_false (by omega))
          exact (rg.calls (ctxT_ok (CA08_ok _) f3 tabs) f3).of rfl rfl
      have dz : ∀ {i j : Nat} {u v : Int}, (den ρ2 (.var i)).i = u → (den ρ2 (.var j)).i = v → -1000 ≤ u ∧ u ≤ 1000 → -1000 ≤ v ∧ v ≤ 1000 → u ≠ v → (den ρ2 (.cmp .eql (dif i j) (.lit 0))).b = false := fun {i j u v} hu hv h1 h2 hne => by
        have e : (den ρ2 (dif i j)).i = u + v * (-1) := den_addW hu (den_mulW (n := -1) hv (by omega) (by omega)) (by omega) (by omega)
        show ((den ρ2 (dif i j)).i == 0) = false
        rw [e, beq_eq_false_iff_ne]
        omega
      have ra' : (0 ≤ ρ.I 0 ∧ ρ.I 0 ≤ 255) ∧ (0 ≤ ρ.I 1 ∧ ρ.I 1 ≤ 255) ∧ (0 ≤ ρ.I 2 ∧ ρ.I 2 ≤ 255) ∧ (0 ≤ ρ.I 3 ∧ ρ.I 3 ≤ 255) ∧ (-64 ≤ ρ.I 10 ∧ ρ.I 10 ≤ 127) := ra
      have rb' : (0 ≤ ρ.I 11 ∧ ρ.I 11 ≤ 255) ∧ (0 ≤ ρ.I 12 ∧ ρ.I 12 ≤ 255) ∧ (0 ≤ ρ.I 13 ∧ ρ.I 13 ≤ 255) ∧ (0 ≤ ρ.I 14 ∧ ρ.I 14 ≤ 255) ∧ (-64 ≤ ρ.I 21 ∧ ρ.I 21 ≤ 127) := rb
      obtain ⟨pb1, pb2, pb3, pb4, pb5, pb6⟩ := pb
      have pb1' : ρ.I 15 = 0 := pb1
      have pb2' : ρ.I 16 = 0 := pb2
      have pb3' : ρ.I 17 = 0 := pb3
      have pb4' : ρ.B 18 = false := pb4
      have pb5' : ρ.B 19 = false := pb5
      have pb6' : ρ.I 20 = 0 := pb6
      by_cases hxy : x = y
      · subst hxy
        have e := same_inst hx hy
        have e2 : concs ρ duplexBack_args = concs ρ2 duplexBack_argsE := by
          show concs ρ opArgsG ++ concs (dEnvB ρ) opArgsG = concs ρ opArgsG ++ concs ρ opArgsG
          rw [e]
        rw [e2]
        refine (duplexBack_runeq.calls (ctxT_ok (CA08_ok _) f2 fun p hp q hq => ?_) f2).of rfl rfl
        simp only [dTabsE, List.mem_cons, List.not_mem_nil, or_false] at hp
        rcases hp with rfl | rfl | rfl | rfl | rfl | rfl
        all_goals simp only [List.mem_cons, List.not_mem_nil, or_false] at hq
        · subst hq; exact oa
        · rcases hq with rfl | rfl
          · exact ia.dup
          · exact ia.dup
        · subst hq; exact sa
        · subst hq; exact w1
        · subst hq
          have e2 : conc ρ2 (u32E (addE (mulE (.var 22) 32768) (.var 23))) = u32v (x * 32768 + x) := by simp only [conc, concT, STy.val, d1]
          show CallsTo CA08 _ _ (conc ρ2 (u32E (addE (mulE (.var 22) 32768) (.var 23))))
          rw [e2]
          exact th1
        · subst hq; exact pa1
      · have hne := hxy
        by_cases c0 : ρ.I 0 = ρ.I 11
        · by_cases c1 : ρ.I 1 = ρ.I 12
          · by_cases c2 : ρ.I 2 = ρ.I 13
            · by_cases c3 : ρ.I 3 = ρ.I 14
              · by_cases c4 : ρ.I 10 = ρ.I 21
                · exfalso
                  have : i7of ρ = i7of (dEnvB ρ) := by
                    show (⟨ρ.I 0, ρ.I 1, ρ.I 2, ρ.I 3, ρ.I 10⟩ : I7) = ⟨ρ.I 11, ρ.I 12, ρ.I 13, ρ.I 14, ρ.I 21⟩
                    rw [c0, c1, c2, c3, c4]
                  rw [this, gb] at ga
                  exact hne (Option.some.inj ga).symm
                · refine one 4 ?_ (dz (i := 10) (j := 21) (u := ρ.I 10) (v := ρ.I 21) rfl rfl ⟨by omega, by omega⟩ ⟨by omega, by omega⟩ c4) hne duplexBack_runlt4 duplexBack_rungt4
                  show [conc ρ2 (dQ 4)] = [conc ρ2 dB]
                  simp only [dQ, dB, conc, concs, concT, STy.val]
                  show [AV.agg [u8v (ρ.I 0), u8v (ρ.I 1), u8v (ρ.I 2), u8v (ρ.I 3), u8v 0, u8v 0, u8v 0, boolv false, boolv false, u16v 0, i64v (ρ.I 21)]] = [AV.agg [u8v (ρ.I 11), u8v (ρ.I 12), u8v (ρ.I 13), u8v (ρ.I 14), u8v (ρ.I 15), u8v (ρ.I 16), u8v (ρ.I 17), boolv (ρ.B 18), boolv (ρ.B 19), u16v (ρ.I 20), i64v (ρ.I 21)]]
                  rw [c0, c1, c2, c3, pb1', pb2', pb3', pb4', pb5', pb6']
              · refine one 3 ?_ (dz (i := 3) (j := 14) (u := ρ.I 3) (v := ρ.I 14) rfl rfl ⟨by omega, by omega⟩ ⟨by omega, by omega⟩ c3) hne duplexBack_runlt3 duplexBack_rungt3
                show [AV.agg [u8v (ρ.I 0), u8v (ρ.I 1), u8v (ρ.I 2), u8v (ρ.I 14), u8v 0, u8v 0, u8v 0, boolv false, boolv false, u16v 0, i64v (ρ.I 21)]] = [AV.agg [u8v (ρ.I 11), u8v (ρ.I 12), u8v (ρ.I 13), u8v (ρ.I 14), u8v (ρ.I 15), u8v (ρ.I 16), u8v (ρ.I 17), boolv (ρ.B 18), boolv (ρ.B 19), u16v (ρ.I 20), i64v (ρ.I 21)]]
                rw [c0, c1, c2, pb1', pb2', pb3', pb4', pb5', pb6']
            · refine one 2 ?_ (dz (i := 2) (j := 13) (u := ρ.I 2) (v := ρ.I 13) rfl rfl ⟨by omega, by omega⟩ ⟨by omega, by omega⟩ c2) hne duplexBack_runlt2 duplexBack_rungt2
              show [AV.agg [u8v (ρ.I 0), u8v (ρ.I 1), u8v (ρ.I 13), u8v (ρ.I 14), u8v 0, u8v 0, u8v 0, boolv false, boolv false, u16v 0, i64v (ρ.I 21)]] = [AV.agg [u8v (ρ.I 11), u8v (ρ.I 12), u8v (ρ.I 13), u8v (ρ.I 14), u8v (ρ.I 15), u8v (ρ.I 16), u8v (ρ.I 17), boolv (ρ.B 18), boolv (ρ.B 19), u16v (ρ.I 20), i64v (ρ.I 21)]]
              rw [c0, c1, pb1', pb2', pb3', pb4', pb5', pb6']
          · refine one 1 ?_ (dz (i := 1) (j := 12) (u := ρ.I 1) (v := ρ.I 12) rfl rfl ⟨by omega, by omega⟩ ⟨by omega, by omega⟩ c1) hne duplexBack_runlt1 duplexBack_rungt1
            show [AV.agg [u8v (ρ.I 0), u8v (ρ.I 12), u8v (ρ.I 13), u8v (ρ.I 14), u8v 0, u8v 0, u8v 0, boolv false, boolv false, u16v 0, i64v (ρ.I 21)]] = [AV.agg [u8v (ρ.I 11), u8v (ρ.I 12), u8v (ρ.I 13), u8v (ρ.I 14), u8v (ρ.I 15), u8v (ρ.I 16), u8v (ρ.I 17), boolv (ρ.B 18), boolv (ρ.B 19), u16v (ρ.I 20), i64v (ρ.I 21)]]
            rw [c0, pb1', pb2', pb3', pb4', pb5', pb6']
        · refine one 0 ?_ (dz (i := 0) (j := 11) (u := ρ.I 0) (v := ρ.I 11) rfl rfl ⟨by omega, by omega⟩ ⟨by omega, by omega⟩ c0) hne duplexBack_runlt0 duplexBack_rungt0
          show [AV.agg [u8v (ρ.I 11), u8v (ρ.I 12), u8v (ρ.I 13), u8v (ρ.I 14), u8v 0, u8v 0, u8v 0, boolv false, boolv false, u16v 0, i64v (ρ.I 21)]] = [AV.agg [u8v (ρ.I 11), u8v (ρ.I 12), u8v (ρ.I 13), u8v (ρ.I 14), u8v (ρ.I 15), u8v (ρ.I 16), u8v (ρ.I 17), boolv (ρ.B 18), boolv (ρ.B 19), u16v (ρ.I 20), i64v (ρ.I 21)]]
          rw [pb1', pb2', pb3', pb4', pb5', pb6']

theorem duplexBack_glob : GlobOk Tryd.prog Rows.duplexBackRow.laid globDup := ⟨⟨"coxless/bits.codeAt", Rows.laid_coxless_bits_codeAt, .head _, by kernel_rfl, by kernel_rfl⟩, ⟨"coxless/bits.ends", Rows.laid_coxless_bits_ends, .tail _ (.head _), by kernel_rfl, by kernel_rfl⟩, ⟨"coxless/bits.parseAt", Rows.laid_coxless_bits_parseAt, .tail _ (.tail _ (.head _)), by kernel_rfl, by kernel_rfl⟩, ⟨"coxless/bits.upper", Rows.laid_coxless_bits_upper, .tail _ (.tail _ (.tail _ (.head _))), by kernel_rfl, by kernel_rfl⟩, ⟨"coxless/sub.rows", Rows.laid_coxless_sub_rows, .tail _ (.tail _ (.tail _ (.tail _ (.head _)))), by kernel_rfl, by kernel_rfl⟩, trivial⟩

theorem duplexBack_walk (a0 : Int) (w0 : IntKind.min .u8 ≤ a0 ∧ a0 ≤ IntKind.max .u8) (a1 : Int) (w1 : IntKind.min .u8 ≤ a1 ∧ a1 ≤ IntKind.max .u8) (a2 : Int) (w2 : IntKind.min .u8 ≤ a2 ∧ a2 ≤ IntKind.max .u8) (a3 : Int) (w3 : IntKind.min .u8 ≤ a3 ∧ a3 ≤ IntKind.max .u8) (a4 : Int) (w4 : IntKind.min .u8 ≤ a4 ∧ a4 ≤ IntKind.max .u8) (a5 : Int) (w5 : IntKind.min .u8 ≤ a5 ∧ a5 ≤ IntKind.max .u8) (a6 : Int) (w6 : IntKind.min .u8 ≤ a6 ∧ a6 ≤ IntKind.max .u8) (a7 : Bool) (a8 : Bool) (a9 : Int) (w9 : IntKind.min .u16 ≤ a9 ∧ a9 ≤ IntKind.max .u16) (a10 : Int) (w10 : IntKind.min .i64 ≤ a10 ∧ a10 ≤ IntKind.max .i64) (a11 : Int) (w11 : IntKind.min .u8 ≤ a11 ∧ a11 ≤ IntKind.max .u8) (a12 : Int) (w12 : IntKind.min .u8 ≤ a12 ∧ a12 ≤ IntKind.max .u8) (a13 : Int) (w13 : IntKind.min .u8 ≤ a13 ∧ a13 ≤ IntKind.max .u8) (a14 : Int) (w14 : IntKind.min .u8 ≤ a14 ∧ a14 ≤ IntKind.max .u8) (a15 : Int) (w15 : IntKind.min .u8 ≤ a15 ∧ a15 ≤ IntKind.max .u8) (a16 : Int) (w16 : IntKind.min .u8 ≤ a16 ∧ a16 ≤ IntKind.max .u8) (a17 : Int) (w17 : IntKind.min .u8 ≤ a17 ∧ a17 ≤ IntKind.max .u8) (a18 : Bool) (a19 : Bool) (a20 : Int) (w20 : IntKind.min .u16 ≤ a20 ∧ a20 ≤ IntKind.max .u16) (a21 : Int) (w21 : IntKind.min .i64 ≤ a21 ∧ a21 ≤ IntKind.max .i64) (w : World) (hL : laidMetH Tryd.prog Rows.duplexBackRow.laid w) : Calls Tryd.prog 7 #[.agg #[.int .u8 a0, .int .u8 a1, .int .u8 a2, .int .u8 a3, .int .u8 a4, .int .u8 a5, .int .u8 a6, .bool a7, .bool a8, .int .u16 a9, .int .i64 a10], .agg #[.int .u8 a11, .int .u8 a12, .int .u8 a13, .int .u8 a14, .int .u8 a15, .int .u8 a16, .int .u8 a17, .bool a18, .bool a19, .int .u16 a20, .int .i64 a21]] w fun e w' => e = .returned (.bool true) ∧ Below w.heap.size w w' := by
  have hf : FactsOk ⟨fun i => [a0, a1, a2, a3, a4, a5, a6, 0, 0, a9, a10, a11, a12, a13, a14, a15, a16, a17, 0, 0, a20, a21].getD i 0, fun i => [false, false, false, false, false, false, false, a7, a8, false, false, false, false, false, false, false, false, false, a18, a19, false, false].getD i false, fun i => [ByteArray.empty, ByteArray.empty, ByteArray.empty, ByteArray.empty, ByteArray.empty, ByteArray.empty, ByteArray.empty, ByteArray.empty, ByteArray.empty, ByteArray.empty, ByteArray.empty, ByteArray.empty, ByteArray.empty, ByteArray.empty, ByteArray.empty, ByteArray.empty, ByteArray.empty, ByteArray.empty, ByteArray.empty, ByteArray.empty, ByteArray.empty, ByteArray.empty].getD i ByteArray.empty, FF0⟩ duplexBack_facts := by
    intro p hp
    simp only [duplexBack_facts, List.mem_cons, List.not_mem_nil, or_false] at hp
    rcases hp with rfl | rfl | rfl | rfl | rfl | rfl | rfl | rfl | rfl | rfl | rfl | rfl | rfl | rfl | rfl | rfl | rfl | rfl | rfl | rfl | rfl | rfl | rfl | rfl | rfl | rfl | rfl | rfl | rfl | rfl | rfl | rfl | rfl | rfl | rfl | rfl
    · exact decide_eq_true w0.1
    · exact decide_eq_true w0.2
    · exact decide_eq_true w1.1
    · exact decide_eq_true w1.2
    · exact decide_eq_true w2.1
    · exact decide_eq_true w2.2
    · exact decide_eq_true w3.1
    · exact decide_eq_true w3.2
    · exact decide_eq_true w4.1
    · exact decide_eq_true w4.2
    · exact decide_eq_true w5.1
    · exact decide_eq_true w5.2
    · exact decide_eq_true w6.1
    · exact decide_eq_true w6.2
    · exact decide_eq_true w9.1
    · exact decide_eq_true w9.2
    · exact decide_eq_true w10.1
    · exact decide_eq_true w10.2
    · exact decide_eq_true w11.1
    · exact decide_eq_true w11.2
    · exact decide_eq_true w12.1
    · exact decide_eq_true w12.2
    · exact decide_eq_true w13.1
    · exact decide_eq_true w13.2
    · exact decide_eq_true w14.1
    · exact decide_eq_true w14.2
    · exact decide_eq_true w15.1
    · exact decide_eq_true w15.2
    · exact decide_eq_true w16.1
    · exact decide_eq_true w16.2
    · exact decide_eq_true w17.1
    · exact decide_eq_true w17.2
    · exact decide_eq_true w20.1
    · exact decide_eq_true w20.2
    · exact decide_eq_true w21.1
    · exact decide_eq_true w21.2
  refine walk_laid_of (C := CA08) (duplexBack_calls hf) rfl duplexBack_glob (by kernel_rfl) w (fun ob => ?_) hL
  refine ⟨rfl, fun i a v hi hv => ?_⟩
  match i, hi, hv with
  | 0, hi, hv =>
    obtain rfl := Option.some.inj hi
    obtain rfl := Option.some.inj hv
    exact relA_scs _ _ _ #[.int .u8 a0, .int .u8 a1, .int .u8 a2, .int .u8 a3, .int .u8 a4, .int .u8 a5, .int .u8 a6, .bool a7, .bool a8, .int .u16 a9, .int .i64 a10]
  | 1, hi, hv =>
    obtain rfl := Option.some.inj hi
    obtain rfl := Option.some.inj hv
    exact relA_scs _ _ _ #[.int .u8 a11, .int .u8 a12, .int .u8 a13, .int .u8 a14, .int .u8 a15, .int .u8 a16, .int .u8 a17, .bool a18, .bool a19, .int .u16 a20, .int .i64 a21]
  | k + 2, hi, _ => simp [concs, duplexBack_args] at hi
end Go.Proofs.YthabafmieebmmaaDoor
