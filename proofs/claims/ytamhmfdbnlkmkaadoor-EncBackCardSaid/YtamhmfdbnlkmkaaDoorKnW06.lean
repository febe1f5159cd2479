/- Words and their fields: told by short expressions. -/
import Derived.Test.YtamhmfdbnlkmkaaDoorKnR06
set_option linter.unusedVariables false
set_option maxRecDepth 100000
namespace Go.Proofs.YtamhmfdbnlkmkaaDoor
open Go Go.RowKit

/-- An expression, short. -/
def simpE (fs : Facts) (e : Sx) : Sx := cond (exact fs (lin fs e)) (toSx (lin fs e)) e

theorem simpE_ok {ρ : Env} {fs : Facts} (hf : FactsOk ρ fs) (e : Sx) : (den ρ (simpE fs e)).i = (den ρ e).i := by
  unfold simpE
  cases h : exact fs (lin fs e) with
  | true => rw [cond_true, exact_ok hf h, lin_ok hf]
  | false => rfl

theorem asSx_sc {ρ : Env} {a : AV} {t : STy} {e : Sx} (h : asSx a = some (t, e)) : conc ρ a = .tc (.sc (t.val (den ρ e))) := asSx_conc ρ h

def putE (at_ n : Int) (w v : Sx) : Sx := .bin .or .u32 (.bin .andNot .u32 w (.lit ((2 ^ n.toNat - 1) * 2 ^ at_.toNat))) (.bin .shl .u32 (.bin .and .u32 v (.lit (2 ^ n.toNat - 1))) (.lit at_))
theorem put0_11 : RunsIs CX06 24 [] 23 [.tc (.sy (.int .u32) (.var 0)), .tc (.sc (.int .i64 0)), .tc (.sc (.int .i64 11)), .tc (.sy (.int .u32) (.var 1))] (.tc (.sy (.int .u32) (putE 0 11 (.var 0) (.var 1)))) := .code codeEnc_ok rfl (by kernel_rfl)
theorem put0_14 : RunsIs CX06 24 [] 23 [.tc (.sy (.int .u32) (.var 0)), .tc (.sc (.int .i64 0)), .tc (.sc (.int .i64 14)), .tc (.sy (.int .u32) (.var 1))] (.tc (.sy (.int .u32) (putE 0 14 (.var 0) (.var 1)))) := .code codeEnc_ok rfl (by kernel_rfl)
theorem put0_19 : RunsIs CX06 24 [] 23 [.tc (.sy (.int .u32) (.var 0)), .tc (.sc (.int .i64 0)), .tc (.sc (.int .i64 19)), .tc (.sy (.int .u32) (.var 1))] (.tc (.sy (.int .u32) (putE 0 19 (.var 0) (.var 1)))) := .code codeEnc_ok rfl (by kernel_rfl)
theorem put0_24 : RunsIs CX06 24 [] 23 [.tc (.sy (.int .u32) (.var 0)), .tc (.sc (.int .i64 0)), .tc (.sc (.int .i64 24)), .tc (.sy (.int .u32) (.var 1))] (.tc (.sy (.int .u32) (putE 0 24 (.var 0) (.var 1)))) := .code codeEnc_ok rfl (by kernel_rfl)
theorem put1_12 : RunsIs CX06 24 [] 23 [.tc (.sy (.int .u32) (.var 0)), .tc (.sc (.int .i64 1)), .tc (.sc (.int .i64 12)), .tc (.sy (.int .u32) (.var 1))] (.tc (.sy (.int .u32) (putE 1 12 (.var 0) (.var 1)))) := .code codeEnc_ok rfl (by kernel_rfl)
theorem put2_12 : RunsIs CX06 24 [] 23 [.tc (.sy (.int .u32) (.var 0)), .tc (.sc (.int .i64 2)), .tc (.sc (.int .i64 12)), .tc (.sy (.int .u32) (.var 1))] (.tc (.sy (.int .u32) (putE 2 12 (.var 0) (.var 1)))) := .code codeEnc_ok rfl (by kernel_rfl)
theorem put3_14 : RunsIs CX06 24 [] 23 [.tc (.sy (.int .u32) (.var 0)), .tc (.sc (.int .i64 3)), .tc (.sc (.int .i64 14)), .tc (.sy (.int .u32) (.var 1))] (.tc (.sy (.int .u32) (putE 3 14 (.var 0) (.var 1)))) := .code codeEnc_ok rfl (by kernel_rfl)
theorem put4_5 : RunsIs CX06 24 [] 23 [.tc (.sy (.int .u32) (.var 0)), .tc (.sc (.int .i64 4)), .tc (.sc (.int .i64 5)), .tc (.sy (.int .u32) (.var 1))] (.tc (.sy (.int .u32) (putE 4 5 (.var 0) (.var 1)))) := .code codeEnc_ok rfl (by kernel_rfl)
theorem put6_5 : RunsIs CX06 24 [] 23 [.tc (.sy (.int .u32) (.var 0)), .tc (.sc (.int .i64 6)), .tc (.sc (.int .i64 5)), .tc (.sy (.int .u32) (.var 1))] (.tc (.sy (.int .u32) (putE 6 5 (.var 0) (.var 1)))) := .code codeEnc_ok rfl (by kernel_rfl)
theorem put7_5 : RunsIs CX06 24 [] 23 [.tc (.sy (.int .u32) (.var 0)), .tc (.sc (.int .i64 7)), .tc (.sc (.int .i64 5)), .tc (.sy (.int .u32) (.var 1))] (.tc (.sy (.int .u32) (putE 7 5 (.var 0) (.var 1)))) := .code codeEnc_ok rfl (by kernel_rfl)
theorem put9_5 : RunsIs CX06 24 [] 23 [.tc (.sy (.int .u32) (.var 0)), .tc (.sc (.int .i64 9)), .tc (.sc (.int .i64 5)), .tc (.sy (.int .u32) (.var 1))] (.tc (.sy (.int .u32) (putE 9 5 (.var 0) (.var 1)))) := .code codeEnc_ok rfl (by kernel_rfl)
theorem put11_12 : RunsIs CX06 24 [] 23 [.tc (.sy (.int .u32) (.var 0)), .tc (.sc (.int .i64 11)), .tc (.sc (.int .i64 12)), .tc (.sy (.int .u32) (.var 1))] (.tc (.sy (.int .u32) (putE 11 12 (.var 0) (.var 1)))) := .code codeEnc_ok rfl (by kernel_rfl)
theorem put12_5 : RunsIs CX06 24 [] 23 [.tc (.sy (.int .u32) (.var 0)), .tc (.sc (.int .i64 12)), .tc (.sc (.int .i64 5)), .tc (.sy (.int .u32) (.var 1))] (.tc (.sy (.int .u32) (putE 12 5 (.var 0) (.var 1)))) := .code codeEnc_ok rfl (by kernel_rfl)
theorem put13_5 : RunsIs CX06 24 [] 23 [.tc (.sy (.int .u32) (.var 0)), .tc (.sc (.int .i64 13)), .tc (.sc (.int .i64 5)), .tc (.sy (.int .u32) (.var 1))] (.tc (.sy (.int .u32) (putE 13 5 (.var 0) (.var 1)))) := .code codeEnc_ok rfl (by kernel_rfl)
theorem put14_5 : RunsIs CX06 24 [] 23 [.tc (.sy (.int .u32) (.var 0)), .tc (.sc (.int .i64 14)), .tc (.sc (.int .i64 5)), .tc (.sy (.int .u32) (.var 1))] (.tc (.sy (.int .u32) (putE 14 5 (.var 0) (.var 1)))) := .code codeEnc_ok rfl (by kernel_rfl)
theorem put17_2 : RunsIs CX06 24 [] 23 [.tc (.sy (.int .u32) (.var 0)), .tc (.sc (.int .i64 17)), .tc (.sc (.int .i64 2)), .tc (.sy (.int .u32) (.var 1))] (.tc (.sy (.int .u32) (putE 17 2 (.var 0) (.var 1)))) := .code codeEnc_ok rfl (by kernel_rfl)
theorem put17_5 : RunsIs CX06 24 [] 23 [.tc (.sy (.int .u32) (.var 0)), .tc (.sc (.int .i64 17)), .tc (.sc (.int .i64 5)), .tc (.sy (.int .u32) (.var 1))] (.tc (.sy (.int .u32) (putE 17 5 (.var 0) (.var 1)))) := .code codeEnc_ok rfl (by kernel_rfl)
theorem put18_1 : RunsIs CX06 24 [] 23 [.tc (.sy (.int .u32) (.var 0)), .tc (.sc (.int .i64 18)), .tc (.sc (.int .i64 1)), .tc (.sy (.int .u32) (.var 1))] (.tc (.sy (.int .u32) (putE 18 1 (.var 0) (.var 1)))) := .code codeEnc_ok rfl (by kernel_rfl)
theorem put19_2 : RunsIs CX06 24 [] 23 [.tc (.sy (.int .u32) (.var 0)), .tc (.sc (.int .i64 19)), .tc (.sc (.int .i64 2)), .tc (.sy (.int .u32) (.var 1))] (.tc (.sy (.int .u32) (putE 19 2 (.var 0) (.var 1)))) := .code codeEnc_ok rfl (by kernel_rfl)
theorem put19_5 : RunsIs CX06 24 [] 23 [.tc (.sy (.int .u32) (.var 0)), .tc (.sc (.int .i64 19)), .tc (.sc (.int .i64 5)), .tc (.sy (.int .u32) (.var 1))] (.tc (.sy (.int .u32) (putE 19 5 (.var 0) (.var 1)))) := .code codeEnc_ok rfl (by kernel_rfl)
theorem put21_3 : RunsIs CX06 24 [] 23 [.tc (.sy (.int .u32) (.var 0)), .tc (.sc (.int .i64 21)), .tc (.sc (.int .i64 3)), .tc (.sy (.int .u32) (.var 1))] (.tc (.sy (.int .u32) (putE 21 3 (.var 0) (.var 1)))) := .code codeEnc_ok rfl (by kernel_rfl)
theorem put22_2 : RunsIs CX06 24 [] 23 [.tc (.sy (.int .u32) (.var 0)), .tc (.sc (.int .i64 22)), .tc (.sc (.int .i64 2)), .tc (.sy (.int .u32) (.var 1))] (.tc (.sy (.int .u32) (putE 22 2 (.var 0) (.var 1)))) := .code codeEnc_ok rfl (by kernel_rfl)
theorem put23_1 : RunsIs CX06 24 [] 23 [.tc (.sy (.int .u32) (.var 0)), .tc (.sc (.int .i64 23)), .tc (.sc (.int .i64 1)), .tc (.sy (.int .u32) (.var 1))] (.tc (.sy (.int .u32) (putE 23 1 (.var 0) (.var 1)))) := .code codeEnc_ok rfl (by kernel_rfl)
def putPairs : List (Int × Int) := [(0, 11), (0, 14), (0, 19), (0, 24), (1, 12), (2, 12), (3, 14), (4, 5), (6, 5), (7, 5), (9, 5), (11, 12), (12, 5), (13, 5), (14, 5), (17, 2), (17, 5), (18, 1), (19, 2), (19, 5), (21, 3), (22, 2), (23, 1)]
theorem put_all (p : Int × Int) (hp : p ∈ putPairs) : RunsIs CX06 24 [] 23 [.tc (.sy (.int .u32) (.var 0)), .tc (.sc (.int .i64 p.1)), .tc (.sc (.int .i64 p.2)), .tc (.sy (.int .u32) (.var 1))] (.tc (.sy (.int .u32) (putE p.1 p.2 (.var 0) (.var 1)))) := by
  simp only [putPairs, List.mem_cons, List.not_mem_nil, or_false] at hp
  rcases hp with rfl | rfl | rfl | rfl | rfl | rfl | rfl | rfl | rfl | rfl | rfl | rfl | rfl | rfl | rfl | rfl | rfl | rfl | rfl | rfl | rfl | rfl | rfl
  · exact put0_11
  · exact put0_14
  · exact put0_19
  · exact put0_24
  · exact put1_12
  · exact put2_12
  · exact put3_14
  · exact put4_5
  · exact put6_5
  · exact put7_5
  · exact put9_5
  · exact put11_12
  · exact put12_5
  · exact put13_5
  · exact put14_5
  · exact put17_2
  · exact put17_5
  · exact put18_1
  · exact put19_2
  · exact put19_5
  · exact put21_3
  · exact put22_2
  · exact put23_1

def hasPair (a n : Int) : List (Int × Int) → Bool
  | [] => false
  | p :: r => cond (decide (p.1 = a) && decide (p.2 = n)) true (hasPair a n r)

theorem hasPair_ok {a n : Int} : ∀ {l : List (Int × Int)}, hasPair a n l = true → (a, n) ∈ l
  | [], h => by cases h
  | p :: r, h => by
    simp only [hasPair] at h
    cases hc : (decide (p.1 = a) && decide (p.2 = n)) with
    | true =>
      simp only [Bool.and_eq_true, decide_eq_true_eq] at hc
      obtain ⟨rfl, rfl⟩ := hc
      exact List.mem_cons_self ..
    | false => rw [hc] at h; exact List.mem_cons_of_mem _ (hasPair_ok h)

def putS (fs : Facts) : List AV → Option AV
  | [x, .tc (.sc (.int .i64 a)), .tc (.sc (.int .i64 n)), y] => match asSx x, asSx y with
    | some (.int .u32, w), some (.int .u32, v) => cond (hasPair a n putPairs) (some (.tc (.sy (.int .u32) (simpE fs (putE a n w v))))) none
    | _, _ => none
  | _ => none

theorem putS_ok {fs : Facts} {ρ : Env} (hf : FactsOk ρ fs) {args : List AV} {r : AV} (h : putS fs args = some r) : CallsTo CX06 23 (concs ρ args) (conc ρ r) := by
  unfold putS at h
  split at h
  · rename_i x a n y
    split at h
    · rename_i w v hx hy
      cases hc : hasPair a n putPairs with
      | false => rw [hc] at h; cases h
      | true =>
        rw [hc] at h
        simp only [cond_true, Option.some.injEq] at h
        subst h
        have := (put_all (a, n) (hasPair_ok hc)).calls (ρ := ints [(den ρ w).i, (den ρ v).i]) (CX06_ok _) FactsOk.nil
        have q1 : concs ρ [x, .tc (.sc (.int .i64 a)), .tc (.sc (.int .i64 n)), y] = concs (ints [(den ρ w).i, (den ρ v).i]) [.tc (.sy (.int .u32) (.var 0)), .tc (.sc (.int .i64 a)), .tc (.sc (.int .i64 n)), .tc (.sy (.int .u32) (.var 1))] := by
          simp only [concs, asSx_sc hx, asSx_sc hy]
          rfl
        have q2 : conc ρ (.tc (.sy (.int .u32) (simpE fs (putE a n w v)))) = conc (ints [(den ρ w).i, (den ρ v).i]) (.tc (.sy (.int .u32) (putE a n (.var 0) (.var 1)))) := by
          simp only [conc, concT, STy.val, simpE_ok hf]
          rfl
        rw [q1, q2]
        exact this
    · cases h
  · cases h

def wordE (c p q : Sx) : Sx := .bin .add .u32 (.bin .shl .u32 (.bin .and .u32 (.conv .u32 c) (.lit 63)) (.lit 26)) (.bin .add .u32 (.bin .shl .u32 (.bin .and .u32 (.bin .shr .u32 p (.lit 14)) (.lit 1023)) (.lit 16)) (.bin .add .u32 (.bin .shl .u32 (.bin .and .u32 (.conv .u32 q) (.lit 3)) (.lit 14)) (.bin .and .u32 p (.lit 16383))))
def wordF : Facts := [(.cmp .geq (.var 0) (.lit 0), true), (.cmp .leq (.var 0) (.lit 255), true), (.cmp .geq (.var 1) (.lit 0), true), (.cmp .leq (.var 1) (.lit 4294967295), true), (.cmp .geq (.var 2) (.lit 0), true), (.cmp .leq (.var 2) (.lit 255), true)]
def wordA : List AV := [.tc (.sy (.int .u8) (.var 0)), .tc (.sy (.int .u32) (.var 1)), .tc (.sy (.int .u8) (.var 2))]
theorem wordP_run : RunsIs CX06 24 wordF 27 wordA (.tc (.sy (.int .u32) (wordE (.var 0) (.var 1) (.var 2)))) := .code codeEnc_ok rfl (by kernel_rfl)

def wordS (fs : Facts) : List AV → Option AV
  | [x, y, z] => match asSx x, asSx y, asSx z with
    | some (.int .u8, c), some (.int .u32, p), some (.int .u8, q) => cond (inR (ivLf fs (lin fs c)) 0 255 && inR (ivLf fs (lin fs p)) 0 4294967295 && inR (ivLf fs (lin fs q)) 0 255) (some (.tc (.sy (.int .u32) (wordE c p q)))) none
    | _, _, _ => none
  | _ => none

theorem wordS_ok {fs : Facts} {ρ : Env} (hf : FactsOk ρ fs) {f : FuncId} (hr : RunsIs CX06 24 wordF f wordA (.tc (.sy (.int .u32) (wordE (.var 0) (.var 1) (.var 2))))) {args : List AV} {r : AV} (h : wordS fs args = some r) : CallsTo CX06 f (concs ρ args) (conc ρ r) := by
  unfold wordS at h
  split at h
  · rename_i x y z
    split at h
    · rename_i c p q hx hy hz
      cases hc : (inR (ivLf fs (lin fs c)) 0 255 && inR (ivLf fs (lin fs p)) 0 4294967295 && inR (ivLf fs (lin fs q)) 0 255) with
      | false => rw [hc] at h; cases h
      | true =>
        rw [hc] at h
        simp only [cond_true, Option.some.injEq] at h
        subst h
        simp only [Bool.and_eq_true] at hc
        have key : ∀ {e : Sx} {a b : Int}, inR (ivLf fs (lin fs e)) a b = true → a ≤ (den ρ e).i ∧ (den ρ e).i ≤ b := fun {e a b} h => by
          have := inR_ok (ivLf_ok hf (lin fs e)) h
          rwa [lin_ok hf] at this
        have g1 := key hc.1.1
        have g2 := key hc.1.2
        have g3 := key hc.2
        have := hr.calls (ρ := ints [(den ρ c).i, (den ρ p).i, (den ρ q).i]) (CX06_ok _) (by
          intro x hx
          simp only [wordF, List.mem_cons, List.not_mem_nil, or_false] at hx
          rcases hx with rfl | rfl | rfl | rfl | rfl | rfl
          · exact decide_eq_true g1.1
          · exact decide_eq_true g1.2
          · exact decide_eq_true g2.1
          · exact decide_eq_true g2.2
          · exact decide_eq_true g3.1
          · exact decide_eq_true g3.2)
        have q1 : concs ρ [x, y, z] = concs (ints [(den ρ c).i, (den ρ p).i, (den ρ q).i]) wordA := by
          simp only [concs, asSx_sc hx, asSx_sc hy, asSx_sc hz]
          rfl
        have q2 : conc ρ (.tc (.sy (.int .u32) (wordE c p q))) = conc (ints [(den ρ c).i, (den ρ p).i, (den ρ q).i]) (.tc (.sy (.int .u32) (wordE (.var 0) (.var 1) (.var 2)))) := by
          rfl
        rw [q1, q2]
        exact this
    · cases h
  · cases h

noncomputable def CW06_0 (fs : Facts) : Ctx := { CR06 fs with summ := sum1 23 (putS fs) (CR06 fs).summ }
theorem CW06_0_ok {fs : Facts} {ρ : Env} (hf : FactsOk ρ fs) : Summ ρ (CW06_0 fs) := summ_cons (C := CR06 fs) (p := (CR06 fs).pure) (q := (CR06 fs).flat) (CR06_ok hf) fun args r h => (putS_ok hf h).of rfl rfl
noncomputable def CW06_1 (fs : Facts) : Ctx := { CW06_0 fs with summ := sum1 27 (wordS fs) (CW06_0 fs).summ, pure := fun f => cond (f == 27) true ((CR06 fs).pure f) }
theorem CW06_1_ok {fs : Facts} {ρ : Env} (hf : FactsOk ρ fs) : Summ ρ (CW06_1 fs) := summ_cons (C := CW06_0 fs) (q := (CR06 fs).flat) (CW06_0_ok hf) fun args r h => (wordS_ok hf wordP_run h).of rfl rfl
noncomputable def CW06 (fs : Facts) : Ctx := CW06_1 fs
theorem CW06_ok {fs : Facts} {ρ : Env} (hf : FactsOk ρ fs) : Summ ρ (CW06 fs) := CW06_1_ok hf

end Go.Proofs.YtamhmfdbnlkmkaaDoor
