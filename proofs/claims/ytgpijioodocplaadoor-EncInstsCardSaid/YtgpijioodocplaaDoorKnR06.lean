/- When an instruction may be: contexts in which it is told. -/
import Derived.Test.YtgpijioodocplaaDoorKnR06A
import Derived.Test.YtgpijioodocplaaDoorKnR06B
import Derived.Test.YtgpijioodocplaaDoorKnR06C
import Derived.Test.YtgpijioodocplaaDoorKnR06D
set_option linter.unusedVariables false
set_option maxRecDepth 100000
namespace Go.Proofs.YtgpijioodocplaaDoor
open Go Go.RowKit

theorem asSx_conc (ρ : Env) {a : AV} {p : STy × Sx} (h : asSx a = some p) : conc ρ a = .tc (.sc (p.1.val (den ρ p.2))) := by
  cases a with
  | tc c => simp only [conc, concT_asSx (t := p.1) (e := p.2) h]
  | _ => simp [asSx] at h

theorem asSxs_concs (ρ : Env) : ∀ {l : List AV} {r : List (STy × Sx)}, mapO asSx l = some r → concs ρ l = r.map fun p => .tc (.sc (p.1.val (den ρ p.2)))
  | [], r, h => by simp only [mapO, Option.some.injEq] at h; subst h; rfl
  | a :: l, r, h => by
    simp only [mapO] at h
    split at h
    · rename_i b q h1 h2
      simp only [Option.some.injEq] at h
      subst h
      simp only [concs, asSx_conc ρ h1, asSxs_concs ρ h2, List.map_cons]
    · cases h

def selE (l : List Sx) (i : Nat) : Sx := l.getD i .nil
def rightS (fs : Facts) : List AV → Option AV
  | [.agg (.tc (.sc (.int .u8 c)) :: l)] => match mapO asSx l with
    | some [(.int .u8, e1), (.int .u8, e2), (.int .u8, e3), (.int .u8, e4), (.int .u8, e5), (.int .u8, e6), (.bool, e7), (.bool, e8), (.int .u16, e9), (.int .i64, e10)] => cond (decide (1 ≤ c) && decide (c ≤ 31) && (inR (ivLf fs (lin fs e1)) 0 255 && inR (ivLf fs (lin fs e2)) 0 255 && inR (ivLf fs (lin fs e3)) 0 255 && inR (ivLf fs (lin fs e4)) 0 255 && inR (ivLf fs (lin fs e5)) 0 255 && inR (ivLf fs (lin fs e6)) 0 255 && inR (ivLf fs (lin fs e9)) 0 65535 && inR (ivLf fs (lin fs e10)) (-9223372036854775808) 9223372036854775807)) (some (.tc (.sy .bool (rightE c (selE [.nil, e1, e2, e3, e4, e5, e6, e7, e8, e9, e10]))))) none
    | _ => none
  | _ => none

/-- Expressions' values, for variables. -/
def envE (ρ : Env) (l : List Sx) : Env := ⟨fun i => (den ρ (selE l i)).i, fun i => (den ρ (selE l i)).b, fun i => (den ρ (selE l i)).s, ρ.F⟩

theorem rightE_den (ρ : Env) (l : List Sx) (c : Int) : (den (envE ρ l) (rightE c .var)).b = (den ρ (rightE c (selE l))).b := by
  unfold rightE
  split <;> rfl

theorem right_calls {fs : Facts} {ρ : Env} (hf : FactsOk ρ fs) {C : Ctx} {f : FuncId} (hC : ∀ ρ, Summ ρ C) (h : ∀ c : Int, 1 ≤ c → c ≤ 31 → RunsIs C 24 rightF f (rightA c) (.tc (.sy .bool (rightE c .var)))) {args : List AV} {r : AV}
    (hg : rightS fs args = some r) : CallsTo C f (concs ρ args) (conc ρ r) := by
  unfold rightS at hg
  split at hg
  · rename_i c l
    split at hg
    · rename_i e1 e2 e3 e4 e5 e6 e7 e8 e9 e10 hl
      cases hc : (decide (1 ≤ c) && decide (c ≤ 31) && (inR (ivLf fs (lin fs e1)) 0 255 && inR (ivLf fs (lin fs e2)) 0 255 && inR (ivLf fs (lin fs e3)) 0 255 && inR (ivLf fs (lin fs e4)) 0 255 && inR (ivLf fs (lin fs e5)) 0 255 && inR (ivLf fs (lin fs e6)) 0 255 && inR (ivLf fs (lin fs e9)) 0 65535 && inR (ivLf fs (lin fs e10)) (-9223372036854775808) 9223372036854775807)) with
      | false => rw [hc] at hg; cases hg
      | true =>
        rw [hc] at hg
        simp only [cond_true, Option.some.injEq] at hg
        subst hg
        simp only [Bool.and_eq_true, decide_eq_true_eq] at hc
        have hr := (h c hc.1.1 hc.1.2).calls (ρ := envE ρ [.nil, e1, e2, e3, e4, e5, e6, e7, e8, e9, e10]) (hC _) (by
          have key : ∀ {e : Sx} {a b : Int}, inR (ivLf fs (lin fs e)) a b = true → a ≤ (den ρ e).i ∧ (den ρ e).i ≤ b := fun {e a b} h => by
            have := inR_ok (ivLf_ok hf (lin fs e)) h
            rwa [lin_ok hf] at this
          have hx := hc.2
          intro p hp
          simp only [rightF, List.mem_cons, List.not_mem_nil, or_false] at hp
          rcases hp with rfl | rfl | rfl | rfl | rfl | rfl | rfl | rfl | rfl | rfl | rfl | rfl | rfl | rfl | rfl | rfl
          all_goals (refine decide_eq_true ?_; first
            | exact (key hx.1.1.1.1.1.1.1).1
            | exact (key hx.1.1.1.1.1.1.1).2
            | exact (key hx.1.1.1.1.1.1.2).1
            | exact (key hx.1.1.1.1.1.1.2).2
            | exact (key hx.1.1.1.1.1.2).1
            | exact (key hx.1.1.1.1.1.2).2
            | exact (key hx.1.1.1.1.2).1
            | exact (key hx.1.1.1.1.2).2
            | exact (key hx.1.1.1.2).1
            | exact (key hx.1.1.1.2).2
            | exact (key hx.1.1.2).1
            | exact (key hx.1.1.2).2
            | exact (key hx.1.2).1
            | exact (key hx.1.2).2
            | exact (key hx.2).1
            | exact (key hx.2).2))
        have q1 : concs ρ [.agg (.tc (.sc (.int .u8 c)) :: l)] = concs (envE ρ [.nil, e1, e2, e3, e4, e5, e6, e7, e8, e9, e10]) (rightA c) := by
          simp only [concs, conc, asSxs_concs ρ hl]
          rfl
        have q2 : conc ρ (.tc (.sy .bool (rightE c (selE [.nil, e1, e2, e3, e4, e5, e6, e7, e8, e9, e10])))) = conc (envE ρ [.nil, e1, e2, e3, e4, e5, e6, e7, e8, e9, e10]) (.tc (.sy .bool (rightE c .var))) := by
          simp only [conc, concT, STy.val, rightE_den]
        rw [q1, q2]
        exact hr
    · cases hg
  · cases hg
theorem rightP_all (c : Int) (h1 : 1 ≤ c) (h2 : c ≤ 31) : RunsIs CX06 24 rightF 13 (rightA c) (.tc (.sy .bool (rightE c .var))) := by
  have h : c = 1 ∨ c = 2 ∨ c = 3 ∨ c = 4 ∨ c = 5 ∨ c = 6 ∨ c = 7 ∨ c = 8 ∨ c = 9 ∨ c = 10 ∨ c = 11 ∨ c = 12 ∨ c = 13 ∨ c = 14 ∨ c = 15 ∨ c = 16 ∨ c = 17 ∨ c = 18 ∨ c = 19 ∨ c = 20 ∨ c = 21 ∨ c = 22 ∨ c = 23 ∨ c = 24 ∨ c = 25 ∨ c = 26 ∨ c = 27 ∨ c = 28 ∨ c = 29 ∨ c = 30 ∨ c = 31 := by omega
  rcases h with rfl | rfl | rfl | rfl | rfl | rfl | rfl | rfl | rfl | rfl | rfl | rfl | rfl | rfl | rfl | rfl | rfl | rfl | rfl | rfl | rfl | rfl | rfl | rfl | rfl | rfl | rfl | rfl | rfl | rfl | rfl
  · exact rightP1
  · exact rightP2
  · exact rightP3
  · exact rightP4
  · exact rightP5
  · exact rightP6
  · exact rightP7
  · exact rightP8
  · exact rightP9
  · exact rightP10
  · exact rightP11
  · exact rightP12
  · exact rightP13
  · exact rightP14
  · exact rightP15
  · exact rightP16
  · exact rightP17
  · exact rightP18
  · exact rightP19
  · exact rightP20
  · exact rightP21
  · exact rightP22
  · exact rightP23
  · exact rightP24
  · exact rightP25
  · exact rightP26
  · exact rightP27
  · exact rightP28
  · exact rightP29
  · exact rightP30
  · exact rightP31
theorem rightQ_all (c : Int) (h1 : 1 ≤ c) (h2 : c ≤ 31) : RunsIs CX06 24 rightF 21 (rightA c) (.tc (.sy .bool (rightE c .var))) := by
  have h : c = 1 ∨ c = 2 ∨ c = 3 ∨ c = 4 ∨ c = 5 ∨ c = 6 ∨ c = 7 ∨ c = 8 ∨ c = 9 ∨ c = 10 ∨ c = 11 ∨ c = 12 ∨ c = 13 ∨ c = 14 ∨ c = 15 ∨ c = 16 ∨ c = 17 ∨ c = 18 ∨ c = 19 ∨ c = 20 ∨ c = 21 ∨ c = 22 ∨ c = 23 ∨ c = 24 ∨ c = 25 ∨ c = 26 ∨ c = 27 ∨ c = 28 ∨ c = 29 ∨ c = 30 ∨ c = 31 := by omega
  rcases h with rfl | rfl | rfl | rfl | rfl | rfl | rfl | rfl | rfl | rfl | rfl | rfl | rfl | rfl | rfl | rfl | rfl | rfl | rfl | rfl | rfl | rfl | rfl | rfl | rfl | rfl | rfl | rfl | rfl | rfl | rfl
  · exact rightQ1
  · exact rightQ2
  · exact rightQ3
  · exact rightQ4
  · exact rightQ5
  · exact rightQ6
  · exact rightQ7
  · exact rightQ8
  · exact rightQ9
  · exact rightQ10
  · exact rightQ11
  · exact rightQ12
  · exact rightQ13
  · exact rightQ14
  · exact rightQ15
  · exact rightQ16
  · exact rightQ17
  · exact rightQ18
  · exact rightQ19
  · exact rightQ20
  · exact rightQ21
  · exact rightQ22
  · exact rightQ23
  · exact rightQ24
  · exact rightQ25
  · exact rightQ26
  · exact rightQ27
  · exact rightQ28
  · exact rightQ29
  · exact rightQ30
  · exact rightQ31
noncomputable def CR06_0 (fs : Facts) : Ctx := { CX06 with summ := sum1 13 (rightS fs) CX06.summ }
theorem CR06_0_ok {fs : Facts} {ρ : Env} (hf : FactsOk ρ fs) : Summ ρ (CR06_0 fs) := summ_cons (C := CX06) (p := CX06.pure) (q := CX06.flat) (CX06_ok ρ) fun args r h => right_calls hf CX06_ok rightP_all h
noncomputable def CR06 (fs : Facts) : Ctx := { CR06_0 fs with summ := sum1 21 (rightS fs) (CR06_0 fs).summ, pure := fun f => cond (f == 21) true (CX06.pure f) }
theorem CR06_ok {fs : Facts} {ρ : Env} (hf : FactsOk ρ fs) : Summ ρ (CR06 fs) := summ_cons (C := CR06_0 fs) (q := CX06.flat) (CR06_0_ok hf) fun args r h => (right_calls hf CX06_ok rightQ_all h).of rfl rfl
end Go.Proofs.YtgpijioodocplaaDoor
