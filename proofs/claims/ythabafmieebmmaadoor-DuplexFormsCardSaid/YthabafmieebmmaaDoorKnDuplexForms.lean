/- The law DuplexForms: each leaf of its runs is true. -/
import Derived.Test.YthabafmieebmmaaDoorKnDuplexFormsA
import Derived.Test.YthabafmieebmmaaDoorKnDuplexFormsB
import Derived.Test.YthabafmieebmmaaDoorKnDuplexFormsC
set_option linter.unusedVariables false
set_option linter.unusedSimpArgs false
set_option maxRecDepth 100000
namespace Go.Proofs.YthabafmieebmmaaDoor
open Go Go.RowKit

/-- What is told, as variables. -/
def gEnv (ρ : Env) (i j : I7) (x y v pa v17 v18 v19 v20 : Int) (s t : Bool) : Env := { ρ with I := fun k => match k with | 0 => ρ.I 0 | 1 => i.op | 2 => i.d | 3 => i.s | 4 => i.t | 5 => i.imm | 6 => j.op | 7 => j.d | 8 => j.s | 9 => j.t | 10 => j.imm | 11 => x | 12 => y | 13 => v | 16 => pa | 17 => v17 | 18 => v18 | 19 => v19 | 20 => v20 | k => ρ.I k, B := fun k => match k with | 14 => s | 15 => t | k => ρ.B k }

/-- A small instruction's store. -/
theorem store7 {x : Int} {i : I7} (h : inst7 x = some i) : CallsTo CA08 47 [inV i] (boolv (isSt i.op)) := (store_calls (iEnv_ok h)).1

theorem sub_inst8 {s : Int} (h0 : 0 ≤ s) (h1 : s ≤ 65535) : CallsTo CA08 19 [u16v s] (inR7 s) := (sub_inst h0 h1).1.dup

theorem duplexForms_calls {ρ : Env} (hf : FactsOk ρ duplexForms_facts) : CallsTo CA08 8 (concs ρ duplexForms_args) (.sc (.bool true)) := by
  have h0 : 0 ≤ ρ.I 0 := of_decide_eq_true (hf (.cmp .geq (.var 0) (.lit 0), true) (by simp [duplexForms_facts]))
  have h1 : ρ.I 0 ≤ 4294967295 := of_decide_eq_true (hf (.cmp .leq (.var 0) (.lit 4294967295), true) (by simp [duplexForms_facts]))
  have fo : ∀ i j x y v pa v17 v18 v19 v20 s t, FactsOk (gEnv ρ i j x y v pa v17 v18 v19 v20 s t) duplexForms_facts := fun i j x y v pa v17 v18 v19 v20 s t p hp => by
    have := hf p hp
    simp only [duplexForms_facts, List.mem_cons, List.not_mem_nil, or_false] at hp
    rcases hp with rfl | rfl <;> exact this
  have eAr : ∀ i j x y v pa v17 v18 v19 v20 s t, concs ρ duplexForms_args = concs (gEnv ρ i j x y v pa v17 v18 v19 v20 s t) duplexForms_args := fun _ _ _ _ _ _ _ _ _ _ _ _ => rfl
  obtain ⟨v17, v18, pa1⟩ := parts_calls h0 h1
  have th1 := thirty_calls h0 h1
  by_cases hp : ρ.I 0 / 16384 % 4 = 0
  case neg =>
    let ρ2 := gEnv ρ zero7 zero7 0 0 0 (ρ.I 0 / 16384 % 4) v17 v18 0 0 false false
    have f2 : FactsOk ρ2 gFp := (((fo zero7 zero7 0 0 0 (ρ.I 0 / 16384 % 4) v17 v18 0 0 false false).cons (by show decide (ρ.I 0 / 16384 % 4 ≤ 3) = true; exact decide_eq_true (by omega))).cons (by show decide (ρ.I 0 / 16384 % 4 ≥ 0) = true; exact decide_eq_true (by omega))).cons (by show (ρ.I 0 / 16384 % 4 == 0) = false; rw [beq_eq_false_iff_ne]; exact hp)
    rw [eAr zero7 zero7 0 0 0 (ρ.I 0 / 16384 % 4) v17 v18 0 0 false false]
    refine (duplexForms_runp.calls (ctxT_ok (CA08_ok _) f2 fun p hp q hq => ?_) f2).of rfl rfl
    simp only [gTabsP, List.mem_cons, List.not_mem_nil, or_false] at hp
    subst hp
    simp only [List.mem_cons, List.not_mem_nil, or_false] at hq
    subst hq
    exact pa1
  have ht0 : 0 ≤ thirty (ρ.I 0) ∧ thirty (ρ.I 0) ≤ 1073741823 := by unfold thirty; omega
  have hw := wrd_thirty h0 h1 hp
  rw [hp] at pa1
  obtain ⟨x, hx⟩ : ∃ x, thirty (ρ.I 0) / 32768 = x := ⟨_, rfl⟩
  obtain ⟨y, hy⟩ : ∃ y, thirty (ρ.I 0) % 32768 = y := ⟨_, rfl⟩
  have x0 : 0 ≤ x := by omega
  have x1 : x ≤ 32767 := by omega
  have y0 : 0 ≤ y := by omega
  have y1 : y ≤ 32767 := by omega
  have ht : thirty (ρ.I 0) = x * 32768 + y := by omega
  rw [hx, hy] at hw
  rw [ht] at th1
  have ix := sub_inst8 x0 (by omega)
  have iy := sub_inst8 y0 (by omega)
  have fx : ∀ i j v pa v17 v18 v19 v20 s t, FactsOk (gEnv ρ i j x y v pa v17 v18 v19 v20 s t) gFx := fun i j v pa v17 v18 v19 v20 s t p hp => by
    rcases List.mem_append.1 hp with hp | hp
    · simp only [xRng, List.mem_cons, List.not_mem_nil, or_false] at hp
      rcases hp with rfl | rfl | rfl | rfl
      · exact decide_eq_true x0
      · exact decide_eq_true x1
      · exact decide_eq_true y0
      · exact decide_eq_true y1
    · exact fo i j x y v pa v17 v18 v19 v20 s t p hp
  have d1 : ∀ i j v pa v17 v18 v19 v20 s t, conc (gEnv ρ i j x y v pa v17 v18 v19 v20 s t) (gSum 11 12) = u32v (x * 32768 + y) := fun i j v pa v17 v18 v19 v20 s t => by
    have : (den (gEnv ρ i j x y v pa v17 v18 v19 v20 s t) (addE (mulE (.var 11) 32768) (.var 12))).i = x * 32768 + y := den_addW (den_mulW (n := 32768) (rfl : (den (gEnv ρ i j x y v pa v17 v18 v19 v20 s t) (.var 11)).i = x) (by omega) (by omega)) (rfl : (den (gEnv ρ i j x y v pa v17 v18 v19 v20 s t) (.var 12)).i = y) (by omega) (by omega)
    simp only [gSum, conc, concT, STy.val, this]
  have d2 : ∀ i j v pa v17 v18 v19 v20 s t, conc (gEnv ρ i j x y v pa v17 v18 v19 v20 s t) (gSum 12 11) = u32v (y * 32768 + x) := fun i j v pa v17 v18 v19 v20 s t => by
    have : (den (gEnv ρ i j x y v pa v17 v18 v19 v20 s t) (addE (mulE (.var 12) 32768) (.var 11))).i = y * 32768 + x := den_addW (den_mulW (n := 32768) (rfl : (den (gEnv ρ i j x y v pa v17 v18 v19 v20 s t) (.var 12)).i = y) (by omega) (by omega)) (rfl : (den (gEnv ρ i j x y v pa v17 v18 v19 v20 s t) (.var 11)).i = x) (by omega) (by omega)
    simp only [gSum, conc, concT, STy.val, this]
  -- one of the halves is none
  have none_ : ∀ (a b : Bool) (i j : I7), inR7 x = .tuple [cond a (inV i) (inV zero7), boolv a] → inR7 y = .tuple [cond b (inV j) (inV zero7), boolv b] →
      RunsN (ctxT CA08 gFx (gTabsN a b)) 24 gFx 8 duplexForms_args → CallsTo CA08 8 (concs ρ duplexForms_args) (.sc (.bool true)) := fun a b i j q1 q2 hr => by
    have f2 := fx i j 0 0 v17 v18 0 0 false false
    rw [eAr i j x y 0 0 v17 v18 0 0 false false]
    refine (hr.calls (ctxT_ok (CA08_ok _) f2 fun p hp q hq => ?_) f2).of rfl rfl
    simp only [gTabsN, List.mem_cons, List.not_mem_nil, or_false] at hp
    rcases hp with rfl | rfl | rfl
    · simp only [gP0, List.mem_cons, List.not_mem_nil, or_false] at hq
      subst hq
      exact pa1
    · simp only [List.mem_cons, List.not_mem_nil, or_false] at hq
      subst hq
      show CallsTo CA08 _ _ (conc _ (gSum 11 12))
      rw [d1]
      exact th1
    · simp only [List.mem_cons, List.not_mem_nil, or_false] at hq
      rcases hq with rfl | rfl
      · have e : conc (gEnv ρ i j x y 0 0 v17 v18 0 0 false false) (.tuple [cond a gA gZ, boolv a]) = inR7 x := by rw [q1]; cases a <;> rfl
        show CallsTo CA08 _ _ (conc (gEnv ρ i j x y 0 0 v17 v18 0 0 false false) (.tuple [cond a gA gZ, boolv a]))
        rw [e]
        exact ix
      · have e : conc (gEnv ρ i j x y 0 0 v17 v18 0 0 false false) (.tuple [cond b (gB 0) gZ, boolv b]) = inR7 y := by rw [q2]; cases b <;> rfl
        show CallsTo CA08 _ _ (conc (gEnv ρ i j x y 0 0 v17 v18 0 0 false false) (.tuple [cond b (gB 0) gZ, boolv b]))
        rw [e]
        exact iy
  cases ha : inst7 x with
  | none =>
    cases hb : inst7 y with
    | none => exact none_ false false zero7 zero7 (by unfold inR7; rw [ha]; rfl) (by unfold inR7; rw [hb]; rfl) duplexForms_runff
    | some j => exact none_ false true zero7 j (by unfold inR7; rw [ha]; rfl) (by unfold inR7; rw [hb]; rfl) duplexForms_runft
  | some i =>
    cases hb : inst7 y with
    | none => exact none_ true false i zero7 (by unfold inR7; rw [ha]; rfl) (by unfold inR7; rw [hb]; rfl) duplexForms_runtf
    | some j =>
      have ix' : CallsTo CA08 19 [u16v x] (.tuple [inV i, boolv true]) := by unfold inR7 at ix; rw [ha] at ix; exact ix
      have iy' : CallsTo CA08 19 [u16v y] (.tuple [inV j, boolv true]) := by unfold inR7 at iy; rw [hb] at iy; exact iy
      have oa := (sub_of7 x0 (by omega) ha).dup
      have ob := (sub_of7 y0 (by omega) hb).dup
      have sa := store7 ha
      have sb := store7 hb
      have w1 := word_calls x0 y0 x1 y1
      rw [hw] at w1
      have w2 := word_calls y0 x0 y1 x1
      obtain ⟨r3, r4⟩ := wrd_le y0 x0 y1 x1
      obtain ⟨t2, p2⟩ := thirty_wrd y0 x0 y1 x1
      have th2 := thirty_calls r3 r4
      obtain ⟨v19, v20, pa2⟩ := parts_calls r3 r4
      rw [t2] at th2
      rw [p2] at pa2
      have ra := inst7_rng ha
      have rb := inst7_rng hb
      let ρ2 := gEnv ρ i j x y (wrd y x) 0 v17 v18 v19 v20 (isSt i.op) (isSt j.op)
      have f2 : FactsOk ρ2 gFx := fx i j (wrd y x) 0 v17 v18 v19 v20 (isSt i.op) (isSt j.op)
      by_cases hxy : x = y
      · subst hxy
        rw [ha] at hb
        obtain rfl := Option.some.inj hb
        rw [eAr i i x x (wrd x x) 0 v17 v18 v19 v20 (isSt i.op) (isSt i.op)]
        refine (duplexForms_runeq.calls (ctxT_ok (CA08_ok _) f2 fun p hp q hq => ?_) f2).of rfl rfl
        simp only [gTabsE, List.mem_cons, List.not_mem_nil, or_false] at hp
        rcases hp with rfl | rfl | rfl | rfl | rfl | rfl
        · simp only [gP0, List.mem_cons, List.not_mem_nil, or_false] at hq
          subst hq
          exact pa1
        all_goals simp only [List.mem_cons, List.not_mem_nil, or_false] at hq
        · subst hq
          show CallsTo CA08 _ _ (conc _ (gSum 11 12))
          rw [d1]
          exact th1
        · rcases hq with rfl | rfl
          · exact ix'
          · exact ix'
        · subst hq; exact oa
        · subst hq; exact sa
        · subst hq; exact w1
      · have f4 : FactsOk ρ2 (cRng ++ gFx) := fun p hp => by
          rcases List.mem_append.1 hp with hp | hp
          · simp only [cRng, List.mem_cons, List.not_mem_nil, or_false] at hp
            rcases hp with rfl | rfl | rfl | rfl | rfl | rfl | rfl | rfl | rfl | rfl | rfl | rfl | rfl | rfl | rfl | rfl | rfl | rfl | rfl | rfl
            · exact decide_eq_true ra.1.1
            · exact decide_eq_true ra.1.2
            · exact decide_eq_true ra.2.1.1
            · exact decide_eq_true ra.2.1.2
            · exact decide_eq_true ra.2.2.1.1
            · exact decide_eq_true ra.2.2.1.2
            · exact decide_eq_true ra.2.2.2.1.1
            · exact decide_eq_true ra.2.2.2.1.2
            · exact decide_eq_true ra.2.2.2.2.1
            · exact decide_eq_true ra.2.2.2.2.2
            · exact decide_eq_true rb.1.1
            · exact decide_eq_true rb.1.2
            · exact decide_eq_true rb.2.1.1
            · exact decide_eq_true rb.2.1.2
            · exact decide_eq_true rb.2.2.1.1
            · exact decide_eq_true rb.2.2.1.2
            · exact decide_eq_true rb.2.2.2.1.1
            · exact decide_eq_true rb.2.2.2.1.2
            · exact decide_eq_true rb.2.2.2.2.1
            · exact decide_eq_true rb.2.2.2.2.2
          · exact f2 p hp
        have dz : ∀ {a b : Nat} {u v : Int}, (den ρ2 (.var a)).i = u → (den ρ2 (.var b)).i = v → -5000000000 ≤ u ∧ u ≤ 5000000000 → -5000000000 ≤ v ∧ v ≤ 5000000000 → (den ρ2 (dif a b)).i = u + v * (-1) := fun {a b u v} hu hv h1 h2 =>
          den_addW hu (den_mulW (n := -1) hv (by omega) (by omega)) (by omega) (by omega)
        have ne : ∀ {a b : Nat} {u v : Int}, (den ρ2 (.var a)).i = u → (den ρ2 (.var b)).i = v → -5000000000 ≤ u ∧ u ≤ 5000000000 → -5000000000 ≤ v ∧ v ≤ 5000000000 → u ≠ v → (den ρ2 (.cmp .eql (dif a b) (.lit 0))).b = false := fun {a b u v} hu hv h1 h2 hne => by
          show ((den ρ2 (dif a b)).i == 0) = false
          rw [dz hu hv h1 h2, beq_eq_false_iff_ne]
          omega
        have dd := dz (a := 11) (b := 12) (u := x) (v := y) rfl rfl ⟨by omega, by omega⟩ ⟨by omega, by omega⟩
        have nw : ρ.I 0 ≠ wrd y x := fun h => hxy (wrd_inj x0 y0 x1 y1 (by rw [hw]; exact h))
        have f5 : ∀ k, (den ρ2 (.cmp .eql (dif (cellA k) (cellB k)) (.lit 0))).b = false → FactsOk ρ2 (gF0 k) := fun k hd =>
          (((FactsOk.cons (e := .cmp .leq (.var 13) (.lit 4294967295)) (b := true) f4 (decide_eq_true r4)).cons (e := .cmp .geq (.var 13) (.lit 0)) (b := true) (decide_eq_true r3)).cons (ne (a := 0) (b := 13) (u := ρ.I 0) (v := wrd y x) rfl rfl ⟨by omega, by omega⟩ ⟨by omega, by omega⟩ nw)).cons hd
        have one : ∀ k : Nat, conc ρ2 (gB k) = inV j → (den ρ2 (.cmp .eql (dif (cellA k) (cellB k)) (.lit 0))).b = false →
            (RunsN (ctxT CA08 (gFlt k) (gTabsK k)) 24 (gFlt k) 8 duplexForms_args) → (RunsN (ctxT CA08 (gFgt k) (gTabsK k)) 24 (gFgt k) 8 duplexForms_args) →
            CallsTo CA08 8 (concs ρ duplexForms_args) (.sc (.bool true)) := fun k eB hd rl rg => by
          have tabs : ∀ p ∈ gTabsK k, ∀ q ∈ p.2, CallsTo CA08 p.1 (concs ρ2 q.1) (conc ρ2 q.2) := fun p hp q hq => by
            simp only [gTabsK, List.mem_cons, List.not_mem_nil, or_false] at hp
            rcases hp with rfl | rfl | rfl | rfl | rfl | rfl
            all_goals
              simp only [List.mem_cons, List.not_mem_nil, or_false] at hq
              rcases hq with rfl | rfl
            · exact pa1
            · exact pa2
            · show CallsTo CA08 _ _ (conc ρ2 (gSum 11 12))
              rw [show conc ρ2 (gSum 11 12) = u32v (x * 32768 + y) from d1 _ _ _ _ _ _ _ _ _ _]
              exact th1
            · show CallsTo CA08 _ _ (conc ρ2 (gSum 12 11))
              rw [show conc ρ2 (gSum 12 11) = u32v (y * 32768 + x) from d2 _ _ _ _ _ _ _ _ _ _]
              exact th2
            · exact ix'
            · show CallsTo CA08 _ _ (.tuple [conc ρ2 (gB k), boolv true])
              rw [eB]; exact iy'
            · exact oa
            · show CallsTo CA08 _ [conc ρ2 (gB k)] _
              rw [eB]; exact ob
            · exact sa
            · show CallsTo CA08 _ [conc ρ2 (gB k)] _
              rw [eB]; exact sb
            · exact w1
            · exact w2
          rw [eAr i j x y (wrd y x) 0 v17 v18 v19 v20 (isSt i.op) (isSt j.op)]
          rcases Int.lt_or_lt_of_ne hxy with h | h
          · have f3 : FactsOk ρ2 (gFlt k) := ((f5 k hd).cons (by show decide ((den ρ2 (dif 11 12)).i ≤ -1) = true; rw [dd]; exact decide_eq_true (by omega))).cons (by show decide ((den ρ2 (dif 11 12)).i ≤ 0) = true; rw [dd]; exact decide_eq_true (by omega))
            exact (rl.calls (ctxT_ok (CA08_ok _) f3 tabs) f3).of rfl rfl
          · have f3 : FactsOk ρ2 (gFgt k) := ((f5 k hd).cons (by show decide ((den ρ2 (dif 11 12)).i ≤ 0) = false; rw [dd]; exact decide_eq_false (by omega))).cons (by show decide ((den ρ2 (dif 11 12)).i ≤ -1) = false; rw [dd]; exact decide_eq_false (by omega))
            exact (rg.calls (ctxT_ok (CA08_ok _) f3 tabs) f3).of rfl rfl
        obtain ⟨i1, i2, i3, i4, i5⟩ := i
        obtain ⟨j1, j2, j3, j4, j5⟩ := j
        simp only at ra rb
        by_cases c0 : i1 = j1
        · by_cases c1 : i2 = j2
          · by_cases c2 : i3 = j3
            · by_cases c3 : i4 = j4
              · by_cases c4 : i5 = j5
                · exfalso
                  subst c0 c1 c2 c3 c4
                  have g1 := (of_inst7 x0 (by omega) ha).1
                  have g2 := (of_inst7 y0 (by omega) hb).1
                  rw [g1] at g2
                  exact hxy (Option.some.inj g2)
                · refine one 4 ?_ (ne (a := 5) (b := 10) (u := i5) (v := j5) rfl rfl ⟨by omega, by omega⟩ ⟨by omega, by omega⟩ c4) duplexForms_runlt4 duplexForms_rungt4
                  subst c0 c1 c2 c3
                  rfl
              · refine one 3 ?_ (ne (a := 4) (b := 9) (u := i4) (v := j4) rfl rfl ⟨by omega, by omega⟩ ⟨by omega, by omega⟩ c3) duplexForms_runlt3 duplexForms_rungt3
                subst c0 c1 c2
                rfl
            · refine one 2 ?_ (ne (a := 3) (b := 8) (u := i3) (v := j3) rfl rfl ⟨by omega, by omega⟩ ⟨by omega, by omega⟩ c2) duplexForms_runlt2 duplexForms_rungt2
              subst c0 c1
              rfl
          · refine one 1 ?_ (ne (a := 2) (b := 7) (u := i2) (v := j2) rfl rfl ⟨by omega, by omega⟩ ⟨by omega, by omega⟩ c1) duplexForms_runlt1 duplexForms_rungt1
            subst c0
            rfl
        · refine one 0 ?_ (ne (a := 1) (b := 6) (u := i1) (v := j1) rfl rfl ⟨by omega, by omega⟩ ⟨by omega, by omega⟩ c0) duplexForms_runlt0 duplexForms_rungt0
          rfl

theorem duplexForms_glob : GlobOk Tryd.prog Rows.duplexFormsRow.laid globDup := ⟨⟨"coxless/bits.codeAt", Rows.laid_coxless_bits_codeAt, .head _, by kernel_rfl, by kernel_rfl⟩, ⟨"coxless/bits.ends", Rows.laid_coxless_bits_ends, .tail _ (.head _), by kernel_rfl, by kernel_rfl⟩, ⟨"coxless/bits.parseAt", Rows.laid_coxless_bits_parseAt, .tail _ (.tail _ (.head _)), by kernel_rfl, by kernel_rfl⟩, ⟨"coxless/bits.upper", Rows.laid_coxless_bits_upper, .tail _ (.tail _ (.tail _ (.head _))), by kernel_rfl, by kernel_rfl⟩, ⟨"coxless/sub.rows", Rows.laid_coxless_sub_rows, .tail _ (.tail _ (.tail _ (.tail _ (.head _)))), by kernel_rfl, by kernel_rfl⟩, trivial⟩

theorem duplexForms_walk (a0 : Int) (w0 : IntKind.min .u32 ≤ a0 ∧ a0 ≤ IntKind.max .u32) (w : World) (hL : laidMetH Tryd.prog Rows.duplexFormsRow.laid w) : Calls Tryd.prog 8 #[.int .u32 a0] w fun e w' => e = .returned (.bool true) ∧ Below w.heap.size w w' := by
  have hf : FactsOk ⟨fun i => [a0].getD i 0, fun i => [false].getD i false, fun i => [ByteArray.empty].getD i ByteArray.empty, FF0⟩ duplexForms_facts := by
    intro p hp
    simp only [duplexForms_facts, List.mem_cons, List.not_mem_nil, or_false] at hp
    rcases hp with rfl | rfl
    · exact decide_eq_true w0.1
    · exact decide_eq_true w0.2
  refine walk_laid_of (C := CA08) (duplexForms_calls hf) rfl duplexForms_glob (by kernel_rfl) w (fun ob => ?_) hL
  refine ⟨rfl, fun i a v hi hv => ?_⟩
  match i, hi, hv with
  | 0, hi, hv =>
    obtain rfl := Option.some.inj hi
    obtain rfl := Option.some.inj hv
    exact .of_sc _ _ _ _
  | k + 1, hi, _ => simp [concs, duplexForms_args] at hi
end Go.Proofs.YthabafmieebmmaaDoor
