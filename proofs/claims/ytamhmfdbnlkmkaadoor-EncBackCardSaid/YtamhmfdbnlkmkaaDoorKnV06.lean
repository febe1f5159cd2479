/- Parts and fields of words: told by short expressions. -/
import Derived.Test.YtamhmfdbnlkmkaaDoorKnW06
set_option linter.unusedVariables false
set_option maxRecDepth 100000
namespace Go.Proofs.YtamhmfdbnlkmkaaDoor
open Go Go.RowKit

/-- A number, where the facts fix it, or an expression. -/
def litV (fs : Facts) (k : IntKind) (e : Sx) : AV := match constOf (lin fs e) with
  | some n => .tc (.sc (.int k n))
  | none => .tc (.sy (.int k) (simpE fs e))

theorem litV_ok {ρ : Env} {fs : Facts} (hf : FactsOk ρ fs) (k : IntKind) (e : Sx) : conc ρ (litV fs k e) = .tc (.sc (.int k (den ρ e).i)) := by
  unfold litV
  split
  · rename_i n h
    rw [← lin_ok hf, constOf_ok h]
    rfl
  · simp only [conc, concT, STy.val, simpE_ok hf]

def u32F : Facts := [(.cmp .geq (.var 0) (.lit 0), true), (.cmp .leq (.var 0) (.lit 4294967295), true)]
def u32In (fs : Facts) (e : Sx) : Bool := inR (ivLf fs (lin fs e)) 0 4294967295

theorem u32In_ok {ρ : Env} {fs : Facts} (hf : FactsOk ρ fs) {e : Sx} (h : u32In fs e = true) : FactsOk (ints [(den ρ e).i]) u32F := by
  have h := inR_ok (ivLf_ok hf (lin fs e)) h
  rw [lin_ok hf] at h
  intro x hx
  simp only [u32F, List.mem_cons, List.not_mem_nil, or_false] at hx
  rcases hx with rfl | rfl
  · exact decide_eq_true h.1
  · exact decide_eq_true h.2

def getE (at_ n : Int) (w : Sx) : Sx := .bin .and .u32 (.bin .shr .u32 w (.lit at_)) (.lit (2 ^ n.toNat - 1))
def payE (w : Sx) : Sx := .bin .add .u32 (.bin .and .u32 w (.lit 16383)) (.bin .shl .u32 (.bin .and .u32 (.bin .shr .u32 w (.lit 16)) (.lit 1023)) (.lit 14))
def codeE (w : Sx) : Sx := .bin .shr .u32 w (.lit 26)
def parE (w : Sx) : Sx := .bin .and .u32 (.bin .shr .u32 w (.lit 14)) (.lit 3)

theorem partsV_run : RunsIs CX06 24 u32F 18 [.tc (.sy (.int .u32) (.var 0))] (.tuple [.tc (.sy (.int .u8) (codeE (.var 0))), .tc (.sy (.int .u32) (payE (.var 0))), .tc (.sy (.int .u8) (parE (.var 0)))]) := .code codeEnc_ok rfl (by kernel_rfl)
theorem getV0_11 : RunsIs CX06 24 u32F 22 [.tc (.sy (.int .u32) (.var 0)), .tc (.sc (.int .i64 0)), .tc (.sc (.int .i64 11))] (.tc (.sy (.int .u32) (getE 0 11 (.var 0)))) := .code codeEnc_ok rfl (by kernel_rfl)
theorem getV0_14 : RunsIs CX06 24 u32F 22 [.tc (.sy (.int .u32) (.var 0)), .tc (.sc (.int .i64 0)), .tc (.sc (.int .i64 14))] (.tc (.sy (.int .u32) (getE 0 14 (.var 0)))) := .code codeEnc_ok rfl (by kernel_rfl)
theorem getV0_19 : RunsIs CX06 24 u32F 22 [.tc (.sy (.int .u32) (.var 0)), .tc (.sc (.int .i64 0)), .tc (.sc (.int .i64 19))] (.tc (.sy (.int .u32) (getE 0 19 (.var 0)))) := .code codeEnc_ok rfl (by kernel_rfl)
theorem getV0_24 : RunsIs CX06 24 u32F 22 [.tc (.sy (.int .u32) (.var 0)), .tc (.sc (.int .i64 0)), .tc (.sc (.int .i64 24))] (.tc (.sy (.int .u32) (getE 0 24 (.var 0)))) := .code codeEnc_ok rfl (by kernel_rfl)
theorem getV1_12 : RunsIs CX06 24 u32F 22 [.tc (.sy (.int .u32) (.var 0)), .tc (.sc (.int .i64 1)), .tc (.sc (.int .i64 12))] (.tc (.sy (.int .u32) (getE 1 12 (.var 0)))) := .code codeEnc_ok rfl (by kernel_rfl)
theorem getV2_12 : RunsIs CX06 24 u32F 22 [.tc (.sy (.int .u32) (.var 0)), .tc (.sc (.int .i64 2)), .tc (.sc (.int .i64 12))] (.tc (.sy (.int .u32) (getE 2 12 (.var 0)))) := .code codeEnc_ok rfl (by kernel_rfl)
theorem getV3_14 : RunsIs CX06 24 u32F 22 [.tc (.sy (.int .u32) (.var 0)), .tc (.sc (.int .i64 3)), .tc (.sc (.int .i64 14))] (.tc (.sy (.int .u32) (getE 3 14 (.var 0)))) := .code codeEnc_ok rfl (by kernel_rfl)
theorem getV4_5 : RunsIs CX06 24 u32F 22 [.tc (.sy (.int .u32) (.var 0)), .tc (.sc (.int .i64 4)), .tc (.sc (.int .i64 5))] (.tc (.sy (.int .u32) (getE 4 5 (.var 0)))) := .code codeEnc_ok rfl (by kernel_rfl)
theorem getV6_5 : RunsIs CX06 24 u32F 22 [.tc (.sy (.int .u32) (.var 0)), .tc (.sc (.int .i64 6)), .tc (.sc (.int .i64 5))] (.tc (.sy (.int .u32) (getE 6 5 (.var 0)))) := .code codeEnc_ok rfl (by kernel_rfl)
theorem getV7_5 : RunsIs CX06 24 u32F 22 [.tc (.sy (.int .u32) (.var 0)), .tc (.sc (.int .i64 7)), .tc (.sc (.int .i64 5))] (.tc (.sy (.int .u32) (getE 7 5 (.var 0)))) := .code codeEnc_ok rfl (by kernel_rfl)
theorem getV9_5 : RunsIs CX06 24 u32F 22 [.tc (.sy (.int .u32) (.var 0)), .tc (.sc (.int .i64 9)), .tc (.sc (.int .i64 5))] (.tc (.sy (.int .u32) (getE 9 5 (.var 0)))) := .code codeEnc_ok rfl (by kernel_rfl)
theorem getV11_12 : RunsIs CX06 24 u32F 22 [.tc (.sy (.int .u32) (.var 0)), .tc (.sc (.int .i64 11)), .tc (.sc (.int .i64 12))] (.tc (.sy (.int .u32) (getE 11 12 (.var 0)))) := .code codeEnc_ok rfl (by kernel_rfl)
theorem getV12_5 : RunsIs CX06 24 u32F 22 [.tc (.sy (.int .u32) (.var 0)), .tc (.sc (.int .i64 12)), .tc (.sc (.int .i64 5))] (.tc (.sy (.int .u32) (getE 12 5 (.var 0)))) := .code codeEnc_ok rfl (by kernel_rfl)
theorem getV13_5 : RunsIs CX06 24 u32F 22 [.tc (.sy (.int .u32) (.var 0)), .tc (.sc (.int .i64 13)), .tc (.sc (.int .i64 5))] (.tc (.sy (.int .u32) (getE 13 5 (.var 0)))) := .code codeEnc_ok rfl (by kernel_rfl)
theorem getV14_5 : RunsIs CX06 24 u32F 22 [.tc (.sy (.int .u32) (.var 0)), .tc (.sc (.int .i64 14)), .tc (.sc (.int .i64 5))] (.tc (.sy (.int .u32) (getE 14 5 (.var 0)))) := .code codeEnc_ok rfl (by kernel_rfl)
theorem getV17_2 : RunsIs CX06 24 u32F 22 [.tc (.sy (.int .u32) (.var 0)), .tc (.sc (.int .i64 17)), .tc (.sc (.int .i64 2))] (.tc (.sy (.int .u32) (getE 17 2 (.var 0)))) := .code codeEnc_ok rfl (by kernel_rfl)
theorem getV17_5 : RunsIs CX06 24 u32F 22 [.tc (.sy (.int .u32) (.var 0)), .tc (.sc (.int .i64 17)), .tc (.sc (.int .i64 5))] (.tc (.sy (.int .u32) (getE 17 5 (.var 0)))) := .code codeEnc_ok rfl (by kernel_rfl)
theorem getV18_1 : RunsIs CX06 24 u32F 22 [.tc (.sy (.int .u32) (.var 0)), .tc (.sc (.int .i64 18)), .tc (.sc (.int .i64 1))] (.tc (.sy (.int .u32) (getE 18 1 (.var 0)))) := .code codeEnc_ok rfl (by kernel_rfl)
theorem getV19_2 : RunsIs CX06 24 u32F 22 [.tc (.sy (.int .u32) (.var 0)), .tc (.sc (.int .i64 19)), .tc (.sc (.int .i64 2))] (.tc (.sy (.int .u32) (getE 19 2 (.var 0)))) := .code codeEnc_ok rfl (by kernel_rfl)
theorem getV19_5 : RunsIs CX06 24 u32F 22 [.tc (.sy (.int .u32) (.var 0)), .tc (.sc (.int .i64 19)), .tc (.sc (.int .i64 5))] (.tc (.sy (.int .u32) (getE 19 5 (.var 0)))) := .code codeEnc_ok rfl (by kernel_rfl)
theorem getV21_3 : RunsIs CX06 24 u32F 22 [.tc (.sy (.int .u32) (.var 0)), .tc (.sc (.int .i64 21)), .tc (.sc (.int .i64 3))] (.tc (.sy (.int .u32) (getE 21 3 (.var 0)))) := .code codeEnc_ok rfl (by kernel_rfl)
theorem getV22_2 : RunsIs CX06 24 u32F 22 [.tc (.sy (.int .u32) (.var 0)), .tc (.sc (.int .i64 22)), .tc (.sc (.int .i64 2))] (.tc (.sy (.int .u32) (getE 22 2 (.var 0)))) := .code codeEnc_ok rfl (by kernel_rfl)
theorem getV23_1 : RunsIs CX06 24 u32F 22 [.tc (.sy (.int .u32) (.var 0)), .tc (.sc (.int .i64 23)), .tc (.sc (.int .i64 1))] (.tc (.sy (.int .u32) (getE 23 1 (.var 0)))) := .code codeEnc_ok rfl (by kernel_rfl)
def getVPairs : List (Int × Int) := [(0, 11), (0, 14), (0, 19), (0, 24), (1, 12), (2, 12), (3, 14), (4, 5), (6, 5), (7, 5), (9, 5), (11, 12), (12, 5), (13, 5), (14, 5), (17, 2), (17, 5), (18, 1), (19, 2), (19, 5), (21, 3), (22, 2), (23, 1)]
theorem getV_all (p : Int × Int) (hp : p ∈ getVPairs) : RunsIs CX06 24 u32F 22 [.tc (.sy (.int .u32) (.var 0)), .tc (.sc (.int .i64 p.1)), .tc (.sc (.int .i64 p.2))] (.tc (.sy (.int .u32) (getE p.1 p.2 (.var 0)))) := by
  simp only [getVPairs, List.mem_cons, List.not_mem_nil, or_false] at hp
  rcases hp with rfl | rfl | rfl | rfl | rfl | rfl | rfl | rfl | rfl | rfl | rfl | rfl | rfl | rfl | rfl | rfl | rfl | rfl | rfl | rfl | rfl | rfl | rfl
  · exact getV0_11
  · exact getV0_14
  · exact getV0_19
  · exact getV0_24
  · exact getV1_12
  · exact getV2_12
  · exact getV3_14
  · exact getV4_5
  · exact getV6_5
  · exact getV7_5
  · exact getV9_5
  · exact getV11_12
  · exact getV12_5
  · exact getV13_5
  · exact getV14_5
  · exact getV17_2
  · exact getV17_5
  · exact getV18_1
  · exact getV19_2
  · exact getV19_5
  · exact getV21_3
  · exact getV22_2
  · exact getV23_1

def partsS (fs : Facts) : List AV → Option AV
  | [x] => match asSx x with
    | some (.int .u32, w) => cond (u32In fs w) (some (.tuple [litV fs .u8 (codeE w), litV fs .u32 (payE w), litV fs .u8 (parE w)])) none
    | _ => none
  | _ => none

theorem partsS_ok {fs : Facts} {ρ : Env} (hf : FactsOk ρ fs) {args : List AV} {r : AV} (h : partsS fs args = some r) : CallsTo CX06 18 (concs ρ args) (conc ρ r) := by
  unfold partsS at h
  split at h
  · rename_i x
    split at h
    · rename_i w hx
      cases hc : u32In fs w with
      | false => rw [hc] at h; cases h
      | true =>
        rw [hc] at h
        simp only [cond_true, Option.some.injEq] at h
        subst h
        have := partsV_run.calls (ρ := ints [(den ρ w).i]) (CX06_ok _) (u32In_ok hf hc)
        have q1 : concs ρ [x] = concs (ints [(den ρ w).i]) [.tc (.sy (.int .u32) (.var 0))] := by
          simp only [concs, asSx_sc hx]
          rfl
        have q2 : conc ρ (.tuple [litV fs .u8 (codeE w), litV fs .u32 (payE w), litV fs .u8 (parE w)]) = conc (ints [(den ρ w).i]) (.tuple [.tc (.sy (.int .u8) (codeE (.var 0))), .tc (.sy (.int .u32) (payE (.var 0))), .tc (.sy (.int .u8) (parE (.var 0)))]) := by
          simp only [conc, concs, litV_ok hf]
          rfl
        rw [q1, q2]
        exact this
    · cases h
  · cases h

def getS (ps : List (Int × Int)) (fs : Facts) : List AV → Option AV
  | [x, .tc (.sc (.int .i64 a)), .tc (.sc (.int .i64 n))] => match asSx x with
    | some (.int .u32, w) => cond (hasPair a n ps && u32In fs w) (some (litV fs .u32 (getE a n w))) none
    | _ => none
  | _ => none

theorem getS_ok {ps : List (Int × Int)} {f : FuncId} (hr : ∀ p ∈ ps, RunsIs CX06 24 u32F f [.tc (.sy (.int .u32) (.var 0)), .tc (.sc (.int .i64 p.1)), .tc (.sc (.int .i64 p.2))] (.tc (.sy (.int .u32) (getE p.1 p.2 (.var 0))))) {fs : Facts} {ρ : Env} (hf : FactsOk ρ fs)
    {args : List AV} {r : AV} (h : getS ps fs args = some r) : CallsTo CX06 f (concs ρ args) (conc ρ r) := by
  unfold getS at h
  split at h
  · rename_i x a n
    split at h
    · rename_i w hx
      cases hc : (hasPair a n ps && u32In fs w) with
      | false => rw [hc] at h; cases h
      | true =>
        rw [hc] at h
        simp only [cond_true, Option.some.injEq] at h
        subst h
        simp only [Bool.and_eq_true] at hc
        have := (hr (a, n) (hasPair_ok hc.1)).calls (ρ := ints [(den ρ w).i]) (CX06_ok _) (u32In_ok hf hc.2)
        have q1 : concs ρ [x, .tc (.sc (.int .i64 a)), .tc (.sc (.int .i64 n))] = concs (ints [(den ρ w).i]) [.tc (.sy (.int .u32) (.var 0)), .tc (.sc (.int .i64 a)), .tc (.sc (.int .i64 n))] := by
          simp only [concs, asSx_sc hx]
          rfl
        have q2 : conc ρ (litV fs .u32 (getE a n w)) = conc (ints [(den ρ w).i]) (.tc (.sy (.int .u32) (getE a n (.var 0)))) := by
          simp only [litV_ok hf]
          rfl
        rw [q1, q2]
        exact this
    · cases h
  · cases h

noncomputable def CV06_0 (fs : Facts) : Ctx := { CW06 fs with summ := sum1 18 (partsS fs) (CW06 fs).summ, pure := fun f => cond (f == 18) true ((CW06 fs).pure f) }
theorem CV06_0_ok {fs : Facts} {ρ : Env} (hf : FactsOk ρ fs) : Summ ρ (CV06_0 fs) := summ_cons (C := CW06 fs) (q := (CW06 fs).flat) (CW06_ok hf) fun args r h => (partsS_ok hf h).of rfl rfl
noncomputable def CV06 (fs : Facts) : Ctx := { CV06_0 fs with summ := sum1 22 (getS getVPairs fs) (CV06_0 fs).summ, pure := fun f => cond (f == 22) true ((CV06_0 fs).pure f) }
theorem CV06_ok {fs : Facts} {ρ : Env} (hf : FactsOk ρ fs) : Summ ρ (CV06 fs) := summ_cons (C := CV06_0 fs) (q := (CV06_0 fs).flat) (CV06_0_ok hf) fun args r h => (getS_ok getV_all hf h).of rfl rfl
end Go.Proofs.YtamhmfdbnlkmkaaDoor
