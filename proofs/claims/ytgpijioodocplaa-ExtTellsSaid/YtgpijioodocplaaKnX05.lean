/- Functions that are told by an expression. -/
import Derived.Test.YtgpijioodocplaaKnA05
import Derived.Test.YtgpijioodocplaaSyLin4
set_option linter.unusedVariables false
set_option maxRecDepth 100000
namespace Go.Proofs.Ytgpijioodocplaa
open Go Go.RowKit

theorem low05_run : RunsIs CA05 24 [] 28 [.tc (.sy (.int .i64) (.var 0))] (.tc (.sy (.int .i64) (.conv .u32 (.var 0)))) := .code codeExt_ok rfl (by kernel_rfl)
def low05S : List AV → Option AV
  | [.tc (.sy (.int .i64) (e0))] => some (.tc (.sy (.int .i64) (.conv .u32 e0)))
  | _ => none
noncomputable def CX05_0 : Ctx := { CA05 with summ := sum1 28 low05S CA05.summ, pure := fun f => cond (f == 28) true (CA05.pure f) }
theorem CX05_0_ok (ρ : Env) : Summ ρ CX05_0 := summ_cons (C := CA05) (q := CA05.flat) (CA05_ok ρ) fun args r h => by
  unfold low05S at h
  split at h
  · rename_i e0
    simp only [Option.some.injEq] at h
    subst h
    exact (low05_run.calls (ρ := ints [(den ρ e0).i]) (CA05_ok _) FactsOk.nil).of rfl rfl
  · cases h
theorem signed05_run : RunsIs CX05_0 24 [] 29 [.tc (.sy (.int .i64) (.var 0))] (.tc (.sy (.int .i64) (.conv .i32 (.var 0)))) := .code codeExt_ok rfl (by kernel_rfl)
def signed05S : List AV → Option AV
  | [.tc (.sy (.int .i64) (e0))] => some (.tc (.sy (.int .i64) (.conv .i32 e0)))
  | _ => none
noncomputable def CX05_1 : Ctx := { CX05_0 with summ := sum1 29 signed05S CX05_0.summ, pure := fun f => cond (f == 29) true (CX05_0.pure f) }
theorem CX05_1_ok (ρ : Env) : Summ ρ CX05_1 := summ_cons (C := CX05_0) (q := CX05_0.flat) (CX05_0_ok ρ) fun args r h => by
  unfold signed05S at h
  split at h
  · rename_i e0
    simp only [Option.some.injEq] at h
    subst h
    exact (signed05_run.calls (ρ := ints [(den ρ e0).i]) (CX05_0_ok _) FactsOk.nil).of rfl rfl
  · cases h
theorem sext05_run : RunsIs CX05_1 24 [] 39 [.tc (.sy (.int .u32) (.var 0)), .tc (.sc (.int .i64 32))] (.tc (.sy (.int .i64) (.conv .i32 (.var 0)))) := .code codeExt_ok rfl (by kernel_rfl)
def sext05S : List AV → Option AV
  | [.tc (.sy (.int .u32) (e0)), .tc (.sc (.int .i64 32))] => some (.tc (.sy (.int .i64) (.conv .i32 e0)))
  | _ => none
noncomputable def CX05_2 : Ctx := { CX05_1 with summ := sum1 39 sext05S CX05_1.summ, pure := fun f => cond (f == 39) true (CX05_1.pure f) }
theorem CX05_2_ok (ρ : Env) : Summ ρ CX05_2 := summ_cons (C := CX05_1) (q := CX05_1.flat) (CX05_1_ok ρ) fun args r h => by
  unfold sext05S at h
  split at h
  · rename_i e0
    simp only [Option.some.injEq] at h
    subst h
    exact (sext05_run.calls (ρ := ints [(den ρ e0).i]) (CX05_1_ok _) FactsOk.nil).of rfl rfl
  · cases h
theorem split05_run : RunsIs CX05_2 24 [] 27 [.tc (.sy (.int .i64) (.var 0))] (.tuple [.tc (.sy (.int .u32) (.bin .shr .u32 (.conv .u32 (.var 0)) (.lit 8))), .tc (.sy (.int .u32) (.bin .and .u32 (.conv .u32 (.var 0)) (.lit 255)))]) := .code codeExt_ok rfl (by kernel_rfl)
def split05S : List AV → Option AV
  | [.tc (.sy (.int .i64) (e0))] => some (.tuple [.tc (.sy (.int .u32) (.bin .shr .u32 (.conv .u32 e0) (.lit 8))), .tc (.sy (.int .u32) (.bin .and .u32 (.conv .u32 e0) (.lit 255)))])
  | _ => none
noncomputable def CX05_3 : Ctx := { CX05_2 with summ := sum1 27 split05S CX05_2.summ, pure := fun f => cond (f == 27) true (CX05_2.pure f) }
theorem CX05_3_ok (ρ : Env) : Summ ρ CX05_3 := summ_cons (C := CX05_2) (q := CX05_2.flat) (CX05_2_ok ρ) fun args r h => by
  unfold split05S at h
  split at h
  · rename_i e0
    simp only [Option.some.injEq] at h
    subst h
    exact (split05_run.calls (ρ := ints [(den ρ e0).i]) (CX05_2_ok _) FactsOk.nil).of rfl rfl
  · cases h
theorem join05_run : RunsIs CX05_3 24 [] 30 [.tc (.sy (.int .u32) (.var 0)), .tc (.sy (.int .u32) (.var 1))] (.tc (.sy (.int .i64) (.conv .i32 (.bin .add .u32 (.bin .mul .u32 (.var 0) (.lit 256)) (.bin .and .u32 (.var 1) (.lit 255)))))) := .code codeExt_ok rfl (by kernel_rfl)
def join05S : List AV → Option AV
  | [.tc (.sy (.int .u32) (e0)), .tc (.sy (.int .u32) (e1))] => some (.tc (.sy (.int .i64) (.conv .i32 (.bin .add .u32 (.bin .mul .u32 e0 (.lit 256)) (.bin .and .u32 e1 (.lit 255))))))
  | _ => none
noncomputable def CX05 : Ctx := { CX05_3 with summ := sum1 30 join05S CX05_3.summ, pure := fun f => cond (f == 30) true (CX05_3.pure f) }
theorem CX05_ok (ρ : Env) : Summ ρ CX05 := summ_cons (C := CX05_3) (q := CX05_3.flat) (CX05_3_ok ρ) fun args r h => by
  unfold join05S at h
  split at h
  · rename_i e0 e1
    simp only [Option.some.injEq] at h
    subst h
    exact (join05_run.calls (ρ := ints [(den ρ e0).i, (den ρ e1).i]) (CX05_3_ok _) FactsOk.nil).of rfl rfl
  · cases h
end Go.Proofs.Ytgpijioodocplaa
