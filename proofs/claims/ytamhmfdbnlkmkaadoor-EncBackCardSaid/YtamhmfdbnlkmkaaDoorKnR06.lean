/- When an instruction may be: contexts in which it is told. -/
import Derived.Test.YtamhmfdbnlkmkaaDoorKnR06A
import Derived.Test.YtamhmfdbnlkmkaaDoorKnR06B
set_option linter.unusedVariables false
set_option maxRecDepth 100000
namespace Go.Proofs.YtamhmfdbnlkmkaaDoor
open Go Go.RowKit

theorem asSx_conc (ρ : Env) {a : AV} {p : STy × Sx} (h : asSx a = some p) : conc ρ a = .tc (.sc (p.1.val (den ρ p.2))) := by
  cases a with
  | tc c => simp only [conc, concT_asSx (t := p.1) (e := p.2) h]
  | _ => simp [asSx] at h

theorem asSxs_concs (ρ : Env) : ∀ {l : List AV} {r : List (STy × Sx)}, mapO asSx l = some r → concs ρ l = r.map fun p => .tc (.sc (p.1.val (den ρ p.2)))
  | [], r, h => by simp only [mapO, Option.some.injEq] at h; subst h; rfl
  | a :: l, r, h => by
    simp only [mapO] at h
    split at h
    · rename_i b q h1 h2
      simp only [Option.some.injEq] at h
      subst h
      simp only [concs, asSx_conc ρ h1, asSxs_concs ρ h2, List.map_cons]
    · cases h

def selE (l : List Sx) (i : Nat) : Sx := l.getD i .nil
def rightS (fs : Facts) : List AV → Option AV
  | [.agg (.tc (.sc (.int .u8 c)) :: l)] => match mapO asSx l with
    | some [(.int .u8, e1), (.int .u8, e2), (.int .u8, e3), (.int .u8, e4), (.int .u8, e5), (.int .u8, e6), (.bool, e7), (.bool, e8), (.int .u16, e9), (.int .i64, e10)] => cond (decide (1 ≤ c) && decide (c ≤ 31) && (inR (ivLf fs (lin fs e1)) 0 255 && inR (ivLf fs (lin fs e2)) 0 255 && inR (ivLf fs (lin fs e3)) 0 255 && inR (ivLf fs (lin fs e4)) 0 255 && inR (ivLf fs (lin fs e5)) 0 255 && inR (ivLf fs (lin fs e6)) 0 255 && inR (ivLf fs (lin fs e9)) 0 65535 && inR (ivLf fs (lin fs e10)) (-9223372036854775808) 9223372036854775807)) (some (.tc (.sy .bool (rightE c (selE [.nil, e1, e2, e3, e4, e5, e6, e7, e8, e9, e10]))))) none
    | _ => none
  | _ => none

/-- Expressions' values, for variables. -/
def envE (ρ : Env) (l : List Sx) : Env := ⟨fun i => (den ρ (selE l i)).i, fun i => (den ρ (selE l i)).b, fun i => (den ρ (selE l i)).s, ρ.F⟩

theorem rightE_den (ρ : Env) (l : List Sx) (c : Int) : (den (envE ρ l) (rightE c .var)).b = (den ρ (rightE c (selE l))).b := by
  unfold rightE
  split <;> rfl

theorem right_calls {fs : Facts} {ρ : Env} (hf : FactsOk ρ fs) {C : Ctx} {f : FuncId} (h : ∀ c : Int, 1 ≤ c → c ≤ 31 → ∀ ρ, FactsOk ρ rightF → CallsTo C f (concs ρ (rightA c)) (conc ρ (.tc (.sy .bool (rightE c .var))))) {args : List AV} {r : AV}
    (hg : rightS fs args = some r) : CallsTo C f (concs ρ args) (conc ρ r) := by
  unfold rightS at hg
  split at hg
  · rename_i c l
    split at hg
    · rename_i e1 e2 e3 e4 e5 e6 e7 e8 e9 e10 hl
      cases hc : (decide (1 ≤ c) && decide (c ≤ 31) && (inR (ivLf fs (lin fs e1)) 0 255 && inR (ivLf fs (lin fs e2)) 0 255 && inR (ivLf fs (lin fs e3)) 0 255 && inR (ivLf fs (lin fs e4)) 0 255 && inR (ivLf fs (lin fs e5)) 0 255 && inR (ivLf fs (lin fs e6)) 0 255 && inR (ivLf fs (lin fs e9)) 0 65535 && inR (ivLf fs (lin fs e10)) (-9223372036854775808) 9223372036854775807)) with
      | false => rw [hc] at hg; cases hg
      | true =>
        rw [hc] at hg
        simp only [cond_true, Option.some.injEq] at hg
        subst hg
        simp only [Bool.and_eq_true, decide_eq_true_eq] at hc
        have hr := h c hc.1.1 hc.1.2 (envE ρ [.nil, e1, e2, e3, e4, e5, e6, e7, e8, e9, e10]) (by
          have key : ∀ {e : Sx} {a b : Int}, inR (ivLf fs (lin fs e)) a b = true → a ≤ (den ρ e).i ∧ (den ρ e).i ≤ b := fun {e a b} h => by
            have := inR_ok (ivLf_ok hf (lin fs e)) h
            rwa [lin_ok hf] at this
          have hx := hc.2
          intro p hp
          simp only [rightF, List.mem_cons, List.not_mem_nil, or_false] at hp
          rcases hp with rfl | rfl | rfl | rfl | rfl | rfl | rfl | rfl | rfl | rfl | rfl | rfl | rfl | rfl | rfl | rfl
          all_goals (refine decide_eq_true ?_; first
            | exact (key hx.1.1.1.1.1.1.1).1
            | exact (key hx.1.1.1.1.1.1.1).2
            | exact (key hx.1.1.1.1.1.1.2).1
            | exact (key hx.1.1.1.1.1.1.2).2
            | exact (key hx.1.1.1.1.1.2).1
            | exact (key hx.1.1.1.1.1.2).2
            | exact (key hx.1.1.1.1.2).1
            | exact (key hx.1.1.1.1.2).2
            | exact (key hx.1.1.1.2).1
            | exact (key hx.1.1.1.2).2
            | exact (key hx.1.1.2).1
            | exact (key hx.1.1.2).2
            | exact (key hx.1.2).1
            | exact (key hx.1.2).2
            | exact (key hx.2).1
            | exact (key hx.2).2))
        have q1 : concs ρ [.agg (.tc (.sc (.int .u8 c)) :: l)] = concs (envE ρ [.nil, e1, e2, e3, e4, e5, e6, e7, e8, e9, e10]) (rightA c) := by
          simp only [concs, conc, asSxs_concs ρ hl]
          rfl
        have q2 : conc ρ (.tc (.sy .bool (rightE c (selE [.nil, e1, e2, e3, e4, e5, e6, e7, e8, e9, e10])))) = conc (envE ρ [.nil, e1, e2, e3, e4, e5, e6, e7, e8, e9, e10]) (.tc (.sy .bool (rightE c .var))) := by
          simp only [conc, concT, STy.val, rightE_den]
        rw [q1, q2]
        exact hr
    · cases hg
  · cases hg
theorem rightP_all (c : Int) (h1 : 1 ≤ c) (h2 : c ≤ 31) (ρ : Env) (hf : FactsOk ρ rightF) : CallsTo CX06 8 (concs ρ (rightA c)) (conc ρ (.tc (.sy .bool (rightE c .var)))) := by
  have h : c = 1 ∨ c = 2 ∨ c = 3 ∨ c = 4 ∨ c = 5 ∨ c = 6 ∨ c = 7 ∨ c = 8 ∨ c = 9 ∨ c = 10 ∨ c = 11 ∨ c = 12 ∨ c = 13 ∨ c = 14 ∨ c = 15 ∨ c = 16 ∨ c = 17 ∨ c = 18 ∨ c = 19 ∨ c = 20 ∨ c = 21 ∨ c = 22 ∨ c = 23 ∨ c = 24 ∨ c = 25 ∨ c = 26 ∨ c = 27 ∨ c = 28 ∨ c = 29 ∨ c = 30 ∨ c = 31 := by omega
  rcases h with rfl | rfl | rfl | rfl | rfl | rfl | rfl | rfl | rfl | rfl | rfl | rfl | rfl | rfl | rfl | rfl | rfl | rfl | rfl | rfl | rfl | rfl | rfl | rfl | rfl | rfl | rfl | rfl | rfl | rfl | rfl
  · exact rightP1.calls (CX06_ok _) hf
  · exact rightP2.calls (CX06_ok _) hf
  · exact rightP3.calls (CX06_ok _) hf
  · exact rightP4.calls (CX06_ok _) hf
  · exact rightP5.calls (CX06_ok _) hf
  · exact rightP6.calls (CX06_ok _) hf
  · exact rightP7.calls (CX06_ok _) hf
  · exact rightP8.calls (CX06_ok _) hf
  · exact rightP9.calls (CX06_ok _) hf
  · exact rightP10.calls (CX06_ok _) hf
  · exact rightP11.calls (CX06_ok _) hf
  · exact rightP12.calls (CX06_ok _) hf
  · exact rightP13.calls (CX06_ok _) hf
  · exact rightP14.calls (CX06_ok _) hf
  · exact rightP15.calls (CX06_ok _) hf
  · exact rightP16.calls (CX06_ok _) hf
  · exact rightP17.calls (CX06_ok _) hf
  · exact rightP18.calls (CX06_ok _) hf
  · exact rightP19.calls (CX06_ok _) hf
  · exact rightP20.calls (CX06_ok _) hf
  · exact rightP21.calls (CX06_ok _) hf
  · exact rightP22.calls (CX06_ok _) hf
  · exact rightP23.calls (CX06_ok _) hf
  · exact rightP24.calls (CX06_ok _) hf
  · exact rightP25.calls (CX06_ok _) hf
  · exact rightP26.calls (CX06_ok _) hf
  · exact rightP27.calls (CX06_ok _) hf
  · exact rightP28.calls (CX06_ok _) hf
  · exact rightP29.calls (CX06_ok _) hf
  · exact rightP30.calls (CX06_ok _) hf
  · exact rightP31.calls (CX06_ok _) hf
noncomputable def CR06 (fs : Facts) : Ctx := { CX06 with summ := sum1 8 (rightS fs) CX06.summ }
theorem CR06_ok {fs : Facts} {ρ : Env} (hf : FactsOk ρ fs) : Summ ρ (CR06 fs) := summ_cons (C := CX06) (p := CX06.pure) (q := CX06.flat) (CX06_ok ρ) fun args r h => right_calls hf rightP_all h
end Go.Proofs.YtamhmfdbnlkmkaaDoor
