/- When an instruction may be: contexts in which it is told. -/
import Derived.Test.YtamhmfdbnlkmkaaKnR10A
import Derived.Test.YtamhmfdbnlkmkaaKnR10B
import Derived.Test.YtamhmfdbnlkmkaaKnR10C
set_option linter.unusedVariables false
set_option maxRecDepth 100000
namespace Go.Proofs.Ytamhmfdbnlkmkaa
open Go Go.RowKit

theorem asSx_conc (ρ : Env) {a : AV} {p : STy × Sx} (h : asSx a = some p) : conc ρ a = .tc (.sc (p.1.val (den ρ p.2))) := by
  cases a with
  | tc c => simp only [conc, concT_asSx (t := p.1) (e := p.2) h]
  | _ => simp [asSx] at h

theorem asSxs_concs (ρ : Env) : ∀ {l : List AV} {r : List (STy × Sx)}, mapO asSx l = some r → concs ρ l = r.map fun p => .tc (.sc (p.1.val (den ρ p.2)))
  | [], r, h => by simp only [mapO, Option.some.injEq] at h; subst h; rfl
  | a :: l, r, h => by
    simp only [mapO] at h
    split at h
    · rename_i b q h1 h2
      simp only [Option.some.injEq] at h
      subst h
      simp only [concs, asSx_conc ρ h1, asSxs_concs ρ h2, List.map_cons]
    · cases h

def selE (l : List Sx) (i : Nat) : Sx := l.getD i .nil
def rightS (fs : Facts) : List AV → Option AV
  | [.agg (.tc (.sc (.int .u8 c)) :: l)] => match mapO asSx l with
    | some [(.int .u8, e1), (.int .u8, e2), (.int .u8, e3), (.int .u8, e4), (.int .u8, e5), (.int .u8, e6), (.bool, e7), (.bool, e8), (.int .u16, e9), (.int .i64, e10)] => cond (decide (1 ≤ c) && decide (c ≤ 31) && (inR (ivLf fs (lin fs e1)) 0 255 && inR (ivLf fs (lin fs e2)) 0 255 && inR (ivLf fs (lin fs e3)) 0 255 && inR (ivLf fs (lin fs e4)) 0 255 && inR (ivLf fs (lin fs e5)) 0 255 && inR (ivLf fs (lin fs e6)) 0 255 && inR (ivLf fs (lin fs e9)) 0 65535 && inR (ivLf fs (lin fs e10)) (-9223372036854775808) 9223372036854775807)) (some (.tc (.sy .bool (rightE c (selE [.nil, e1, e2, e3, e4, e5, e6, e7, e8, e9, e10]))))) none
    | _ => none
  | _ => none

/-- Expressions' values, for variables. -/
def envE (ρ : Env) (l : List Sx) : Env := ⟨fun i => (den ρ (selE l i)).i, fun i => (den ρ (selE l i)).b, fun i => (den ρ (selE l i)).s, ρ.F⟩

theorem rightE_den (ρ : Env) (l : List Sx) (c : Int) : (den (envE ρ l) (rightE c .var)).b = (den ρ (rightE c (selE l))).b := by
  unfold rightE
  split <;> rfl

theorem right_calls {fs : Facts} {ρ : Env} (hf : FactsOk ρ fs) {C : Ctx} {f : FuncId} (h : ∀ c : Int, 1 ≤ c → c ≤ 31 → ∀ ρ, FactsOk ρ rightF → CallsTo C f (concs ρ (rightA c)) (conc ρ (.tc (.sy .bool (rightE c .var))))) {args : List AV} {r : AV}
    (hg : rightS fs args = some r) : CallsTo C f (concs ρ args) (conc ρ r) := by
  unfold rightS at hg
  split at hg
  · rename_i c l
    split at hg
    · rename_i e1 e2 e3 e4 e5 e6 e7 e8 e9 e10 hl
      cases hc : (decide (1 ≤ c) && decide (c ≤ 31) && (inR (ivLf fs (lin fs e1)) 0 255 && inR (ivLf fs (lin fs e2)) 0 255 && inR (ivLf fs (lin fs e3)) 0 255 && inR (ivLf fs (lin fs e4)) 0 255 && inR (ivLf fs (lin fs e5)) 0 255 && inR (ivLf fs (lin fs e6)) 0 255 && inR (ivLf fs (lin fs e9)) 0 65535 && inR (ivLf fs (lin fs e10)) (-9223372036854775808) 9223372036854775807)) with
      | false => rw [hc] at hg; cases hg
      | true =>
        rw [hc] at hg
        simp only [cond_true, Option.some.injEq] at hg
        subst hg
        simp only [Bool.and_eq_true, decide_eq_true_eq] at hc
        have hr := h c hc.1.1 hc.1.2 (envE ρ [.nil, e1, e2, e3, e4, e5, e6, e7, e8, e9, e10]) (by
          have key : ∀ {e : Sx} {a b : Int}, inR (ivLf fs (lin fs e)) a b = true → a ≤ (den ρ e).i ∧ (den ρ e).i ≤ b := fun {e a b} h => by
            have := inR_ok (ivLf_ok hf (lin fs e)) h
            rwa [lin_ok hf] at this
          have hx := hc.2
          intro p hp
          simp only [rightF, List.mem_cons, List.not_mem_nil, or_false] at hp
          rcases hp with rfl | rfl | rfl | rfl | rfl | rfl | rfl | rfl | rfl | rfl | rfl | rfl | rfl | rfl | rfl | rfl
          all_goals (refine decide_eq_true ?_; first
            | exact (key hx.1.1.1.1.1.1.1).1
            | exact (key hx.1.1.1.1.1.1.1).2
            | exact (key hx.1.1.1.1.1.1.2).1
            | exact (key hx.1.1.1.1.1.1.2).2
            | exact (key hx.1.1.1.1.1.2).1
            | exact (key hx.1.1.1.1.1.2).2
            | exact (key hx.1.1.1.1.2).1
            | exact (key hx.1.1.1.1.2).2
            | exact (key hx.1.1.1.2).1
            | exact (key hx.1.1.1.2).2
            | exact (key hx.1.1.2).1
            | exact (key hx.1.1.2).2
            | exact (key hx.1.2).1
            | exact (key hx.1.2).2
            | exact (key hx.2).1
            | exact (key hx.2).2))
        have q1 : concs ρ [.agg (.tc (.sc (.int .u8 c)) :: l)] = concs (envE ρ [.nil, e1, e2, e3, e4, e5, e6, e7, e8, e9, e10]) (rightA c) := by
          simp only [concs, conc, asSxs_concs ρ hl]
          rfl
        have q2 : conc ρ (.tc (.sy .bool (rightE c (selE [.nil, e1, e2, e3, e4, e5, e6, e7, e8, e9, e10])))) = conc (envE ρ [.nil, e1, e2, e3, e4, e5, e6, e7, e8, e9, e10]) (.tc (.sy .bool (rightE c .var))) := by
          simp only [conc, concT, STy.val, rightE_den]
        rw [q1, q2]
        exact hr
    · cases hg
  · cases hg

def immE (ρ : Env) : Env := { ρ with I := fun i => match i with | 11 => ρ.I 10 / 4 | i => ρ.I i }

theorem immE_ok {ρ : Env} (hf : FactsOk ρ rightF) : FactsOk (immE ρ) rightG ∧ (den (immE ρ) (immX (ρ.I 10 % 4) 10)).i = ρ.I 10 ∧ 0 ≤ ρ.I 10 % 4 ∧ ρ.I 10 % 4 ≤ 3 := by
  have h0 : ρ.I 10 ≥ -9223372036854775808 := of_decide_eq_true (hf (.cmp .geq (.var 10) (.lit (-9223372036854775808)), true) (by simp [rightF]))
  have h1 : ρ.I 10 ≤ 9223372036854775807 := of_decide_eq_true (hf (.cmp .leq (.var 10) (.lit 9223372036854775807), true) (by simp [rightF]))
  have k : ∀ {x : Int}, -9223372036854775808 ≤ x → x ≤ 9223372036854775807 → IntKind.i64.wrap x = x := fun {x} a b => wrap_id (k := .i64) a b
  refine ⟨fun p hp => ?_, ?_, by omega, by omega⟩
  · simp only [rightG, List.mem_cons, List.not_mem_nil, or_false] at hp
    rcases hp with rfl | rfl | rfl | rfl | rfl | rfl | rfl | rfl | rfl | rfl | rfl | rfl | rfl | rfl | rfl | rfl
    · exact decide_eq_true (show ρ.I 10 / 4 ≥ -2305843009213693952 by omega)
    · exact decide_eq_true (show ρ.I 10 / 4 ≤ 2305843009213693951 by omega)
    · exact hf (.cmp .geq (.var 1) (.lit (0)), true) (by simp [rightF])
    · exact hf (.cmp .leq (.var 1) (.lit (255)), true) (by simp [rightF])
    · exact hf (.cmp .geq (.var 2) (.lit (0)), true) (by simp [rightF])
    · exact hf (.cmp .leq (.var 2) (.lit (255)), true) (by simp [rightF])
    · exact hf (.cmp .geq (.var 3) (.lit (0)), true) (by simp [rightF])
    · exact hf (.cmp .leq (.var 3) (.lit (255)), true) (by simp [rightF])
    · exact hf (.cmp .geq (.var 4) (.lit (0)), true) (by simp [rightF])
    · exact hf (.cmp .leq (.var 4) (.lit (255)), true) (by simp [rightF])
    · exact hf (.cmp .geq (.var 5) (.lit (0)), true) (by simp [rightF])
    · exact hf (.cmp .leq (.var 5) (.lit (255)), true) (by simp [rightF])
    · exact hf (.cmp .geq (.var 6) (.lit (0)), true) (by simp [rightF])
    · exact hf (.cmp .leq (.var 6) (.lit (255)), true) (by simp [rightF])
    · exact hf (.cmp .geq (.var 9) (.lit (0)), true) (by simp [rightF])
    · exact hf (.cmp .leq (.var 9) (.lit (65535)), true) (by simp [rightF])
  · show IntKind.i64.wrap (IntKind.i64.wrap (ρ.I 10 / 4 * 4) + ρ.I 10 % 4) = ρ.I 10
    rw [k (x := ρ.I 10 / 4 * 4) (by omega) (by omega), k (by omega) (by omega)]
    omega

theorem rightQ21_calls {ρ : Env} (hf : FactsOk ρ rightF) : CallsTo CA10 51 (concs ρ (rightA 21)) (conc ρ (.tc (.sy .bool (rightE 21 .var)))) := by
  obtain ⟨h1, h2, h3, h4⟩ := immE_ok hf
  have key : ∀ r : Int, ρ.I 10 % 4 = r → RunsIs CA10 24 rightG 51 (rightB 21 r) (.tc (.sy .bool (rightE 21 (immX r)))) → CallsTo CA10 51 (concs ρ (rightA 21)) (conc ρ (.tc (.sy .bool (rightE 21 .var)))) := fun r hr hh => by
    subst hr
    have := hh.calls (CA10_ok _) h1
    have e1 : concs (immE ρ) (rightB 21 (ρ.I 10 % 4)) = concs ρ (rightA 21) := by
      simp only [rightB, rightA, concs, conc, concT, STy.val, h2]
      rfl
    have e2 : conc (immE ρ) (.tc (.sy .bool (rightE 21 (immX (ρ.I 10 % 4))))) = conc ρ (.tc (.sy .bool (rightE 21 .var))) := by
      simp only [conc, concT, STy.val, rightE, den, h2]
      rfl
    rw [e1, e2] at this
    exact this
  have h : ρ.I 10 % 4 = 0 ∨ ρ.I 10 % 4 = 1 ∨ ρ.I 10 % 4 = 2 ∨ ρ.I 10 % 4 = 3 := by omega
  rcases h with h | h | h | h
  · exact key 0 h rightQ21_0
  · exact key 1 h rightQ21_1
  · exact key 2 h rightQ21_2
  · exact key 3 h rightQ21_3

theorem rightQ24_calls {ρ : Env} (hf : FactsOk ρ rightF) : CallsTo CA10 51 (concs ρ (rightA 24)) (conc ρ (.tc (.sy .bool (rightE 24 .var)))) := by
  obtain ⟨h1, h2, h3, h4⟩ := immE_ok hf
  have key : ∀ r : Int, ρ.I 10 % 4 = r → RunsIs CA10 24 rightG 51 (rightB 24 r) (.tc (.sy .bool (rightE 24 (immX r)))) → CallsTo CA10 51 (concs ρ (rightA 24)) (conc ρ (.tc (.sy .bool (rightE 24 .var)))) := fun r hr hh => by
    subst hr
    have := hh.calls (CA10_ok _) h1
    have e1 : concs (immE ρ) (rightB 24 (ρ.I 10 % 4)) = concs ρ (rightA 24) := by
      simp only [rightB, rightA, concs, conc, concT, STy.val, h2]
      rfl
    have e2 : conc (immE ρ) (.tc (.sy .bool (rightE 24 (immX (ρ.I 10 % 4))))) = conc ρ (.tc (.sy .bool (rightE 24 .var))) := by
      simp only [conc, concT, STy.val, rightE, den, h2]
      rfl
    rw [e1, e2] at this
    exact this
  have h : ρ.I 10 % 4 = 0 ∨ ρ.I 10 % 4 = 1 ∨ ρ.I 10 % 4 = 2 ∨ ρ.I 10 % 4 = 3 := by omega
  rcases h with h | h | h | h
  · exact key 0 h rightQ24_0
  · exact key 1 h rightQ24_1
  · exact key 2 h rightQ24_2
  · exact key 3 h rightQ24_3

theorem rightP_all (c : Int) (h1 : 1 ≤ c) (h2 : c ≤ 31) (ρ : Env) (hf : FactsOk ρ rightF) : CallsTo CA10 14 (concs ρ (rightA c)) (conc ρ (.tc (.sy .bool (rightE c .var)))) := by
  have h : c = 1 ∨ c = 2 ∨ c = 3 ∨ c = 4 ∨ c = 5 ∨ c = 6 ∨ c = 7 ∨ c = 8 ∨ c = 9 ∨ c = 10 ∨ c = 11 ∨ c = 12 ∨ c = 13 ∨ c = 14 ∨ c = 15 ∨ c = 16 ∨ c = 17 ∨ c = 18 ∨ c = 19 ∨ c = 20 ∨ c = 21 ∨ c = 22 ∨ c = 23 ∨ c = 24 ∨ c = 25 ∨ c = 26 ∨ c = 27 ∨ c = 28 ∨ c = 29 ∨ c = 30 ∨ c = 31 := by omega
  rcases h with rfl | rfl | rfl | rfl | rfl | rfl | rfl | rfl | rfl | rfl | rfl | rfl | rfl | rfl | rfl | rfl | rfl | rfl | rfl | rfl | rfl | rfl | rfl | rfl | rfl | rfl | rfl | rfl | rfl | rfl | rfl
  · exact rightP1.calls (CA10_ok _) hf
  · exact rightP2.calls (CA10_ok _) hf
  · exact rightP3.calls (CA10_ok _) hf
  · exact rightP4.calls (CA10_ok _) hf
  · exact rightP5.calls (CA10_ok _) hf
  · exact rightP6.calls (CA10_ok _) hf
  · exact rightP7.calls (CA10_ok _) hf
  · exact rightP8.calls (CA10_ok _) hf
  · exact rightP9.calls (CA10_ok _) hf
  · exact rightP10.calls (CA10_ok _) hf
  · exact rightP11.calls (CA10_ok _) hf
  · exact rightP12.calls (CA10_ok _) hf
  · exact rightP13.calls (CA10_ok _) hf
  · exact rightP14.calls (CA10_ok _) hf
  · exact rightP15.calls (CA10_ok _) hf
  · exact rightP16.calls (CA10_ok _) hf
  · exact rightP17.calls (CA10_ok _) hf
  · exact rightP18.calls (CA10_ok _) hf
  · exact rightP19.calls (CA10_ok _) hf
  · exact rightP20.calls (CA10_ok _) hf
  · exact rightP21.calls (CA10_ok _) hf
  · exact rightP22.calls (CA10_ok _) hf
  · exact rightP23.calls (CA10_ok _) hf
  · exact rightP24.calls (CA10_ok _) hf
  · exact rightP25.calls (CA10_ok _) hf
  · exact rightP26.calls (CA10_ok _) hf
  · exact rightP27.calls (CA10_ok _) hf
  · exact rightP28.calls (CA10_ok _) hf
  · exact rightP29.calls (CA10_ok _) hf
  · exact rightP30.calls (CA10_ok _) hf
  · exact rightP31.calls (CA10_ok _) hf
theorem rightQ_all (c : Int) (h1 : 1 ≤ c) (h2 : c ≤ 31) (ρ : Env) (hf : FactsOk ρ rightF) : CallsTo CA10 51 (concs ρ (rightA c)) (conc ρ (.tc (.sy .bool (rightE c .var)))) := by
  have h : c = 1 ∨ c = 2 ∨ c = 3 ∨ c = 4 ∨ c = 5 ∨ c = 6 ∨ c = 7 ∨ c = 8 ∨ c = 9 ∨ c = 10 ∨ c = 11 ∨ c = 12 ∨ c = 13 ∨ c = 14 ∨ c = 15 ∨ c = 16 ∨ c = 17 ∨ c = 18 ∨ c = 19 ∨ c = 20 ∨ c = 21 ∨ c = 22 ∨ c = 23 ∨ c = 24 ∨ c = 25 ∨ c = 26 ∨ c = 27 ∨ c = 28 ∨ c = 29 ∨ c = 30 ∨ c = 31 := by omega
  rcases h with rfl | rfl | rfl | rfl | rfl | rfl | rfl | rfl | rfl | rfl | rfl | rfl | rfl | rfl | rfl | rfl | rfl | rfl | rfl | rfl | rfl | rfl | rfl | rfl | rfl | rfl | rfl | rfl | rfl | rfl | rfl
  · exact rightQ1.calls (CA10_ok _) hf
  · exact rightQ2.calls (CA10_ok _) hf
  · exact rightQ3.calls (CA10_ok _) hf
  · exact rightQ4.calls (CA10_ok _) hf
  · exact rightQ5.calls (CA10_ok _) hf
  · exact rightQ6.calls (CA10_ok _) hf
  · exact rightQ7.calls (CA10_ok _) hf
  · exact rightQ8.calls (CA10_ok _) hf
  · exact rightQ9.calls (CA10_ok _) hf
  · exact rightQ10.calls (CA10_ok _) hf
  · exact rightQ11.calls (CA10_ok _) hf
  · exact rightQ12.calls (CA10_ok _) hf
  · exact rightQ13.calls (CA10_ok _) hf
  · exact rightQ14.calls (CA10_ok _) hf
  · exact rightQ15.calls (CA10_ok _) hf
  · exact rightQ16.calls (CA10_ok _) hf
  · exact rightQ17.calls (CA10_ok _) hf
  · exact rightQ18.calls (CA10_ok _) hf
  · exact rightQ19.calls (CA10_ok _) hf
  · exact rightQ20.calls (CA10_ok _) hf
  · exact rightQ21_calls hf
  · exact rightQ22.calls (CA10_ok _) hf
  · exact rightQ23.calls (CA10_ok _) hf
  · exact rightQ24_calls hf
  · exact rightQ25.calls (CA10_ok _) hf
  · exact rightQ26.calls (CA10_ok _) hf
  · exact rightQ27.calls (CA10_ok _) hf
  · exact rightQ28.calls (CA10_ok _) hf
  · exact rightQ29.calls (CA10_ok _) hf
  · exact rightQ30.calls (CA10_ok _) hf
  · exact rightQ31.calls (CA10_ok _) hf
noncomputable def CR10_0 (fs : Facts) : Ctx := { CA10 with summ := sum1 14 (rightS fs) CA10.summ }
theorem CR10_0_ok {fs : Facts} {ρ : Env} (hf : FactsOk ρ fs) : Summ ρ (CR10_0 fs) := summ_cons (C := CA10) (p := CA10.pure) (q := CA10.flat) (CA10_ok ρ) fun args r h => right_calls hf rightP_all h
noncomputable def CR10 (fs : Facts) : Ctx := { CR10_0 fs with summ := sum1 51 (rightS fs) (CR10_0 fs).summ, pure := fun f => cond (f == 51) true (CA10.pure f) }
theorem CR10_ok {fs : Facts} {ρ : Env} (hf : FactsOk ρ fs) : Summ ρ (CR10 fs) := summ_cons (C := CR10_0 fs) (q := CA10.flat) (CR10_0_ok hf) fun args r h => (right_calls hf rightQ_all h).of rfl rfl
end Go.Proofs.Ytamhmfdbnlkmkaa
