/- Functions that are told by an expression. -/
import Derived.Test.YtgpijioodocplaaDoorKnA06
import Derived.Test.YtgpijioodocplaaDoorMg8
set_option linter.unusedVariables false
set_option maxRecDepth 100000
namespace Go.Proofs.YtgpijioodocplaaDoor
open Go Go.RowKit

theorem low06_run : RunsIs CA06 24 [] 26 [.tc (.sy (.int .i64) (.var 0))] (.tc (.sy (.int .i64) (.conv .u32 (.var 0)))) := .code codeEnc_ok rfl (by kernel_rfl)
def low06S : List AV → Option AV
  | [.tc (.sy (.int .i64) (e0))] => some (.tc (.sy (.int .i64) (.conv .u32 e0)))
  | _ => none
noncomputable def CX06_0 : Ctx := { CA06 with summ := sum1 26 low06S CA06.summ, pure := fun f => cond (f == 26) true (CA06.pure f) }
theorem CX06_0_ok (ρ : Env) : Summ ρ CX06_0 := summ_cons (C := CA06) (q := CA06.flat) (CA06_ok ρ) fun args r h => by
  unfold low06S at h
  split at h
  · rename_i e0
    simp only [Option.some.injEq] at h
    subst h
    exact (low06_run.calls (ρ := ints [(den ρ e0).i]) (CA06_ok _) FactsOk.nil).of rfl rfl
  · cases h
theorem signed06_run : RunsIs CX06_0 24 [] 37 [.tc (.sy (.int .i64) (.var 0))] (.tc (.sy (.int .i64) (.conv .i32 (.var 0)))) := .code codeEnc_ok rfl (by kernel_rfl)
def signed06S : List AV → Option AV
  | [.tc (.sy (.int .i64) (e0))] => some (.tc (.sy (.int .i64) (.conv .i32 e0)))
  | _ => none
noncomputable def CX06_1 : Ctx := { CX06_0 with summ := sum1 37 signed06S CX06_0.summ, pure := fun f => cond (f == 37) true (CX06_0.pure f) }
theorem CX06_1_ok (ρ : Env) : Summ ρ CX06_1 := summ_cons (C := CX06_0) (q := CX06_0.flat) (CX06_0_ok ρ) fun args r h => by
  unfold signed06S at h
  split at h
  · rename_i e0
    simp only [Option.some.injEq] at h
    subst h
    exact (signed06_run.calls (ρ := ints [(den ρ e0).i]) (CX06_0_ok _) FactsOk.nil).of rfl rfl
  · cases h
theorem sext06_run : RunsIs CX06_1 24 [] 53 [.tc (.sy (.int .u32) (.var 0)), .tc (.sc (.int .i64 32))] (.tc (.sy (.int .i64) (.conv .i32 (.var 0)))) := .code codeEnc_ok rfl (by kernel_rfl)
def sext06S : List AV → Option AV
  | [.tc (.sy (.int .u32) (e0)), .tc (.sc (.int .i64 32))] => some (.tc (.sy (.int .i64) (.conv .i32 e0)))
  | _ => none
noncomputable def CX06_2 : Ctx := { CX06_1 with summ := sum1 53 sext06S CX06_1.summ, pure := fun f => cond (f == 53) true (CX06_1.pure f) }
theorem CX06_2_ok (ρ : Env) : Summ ρ CX06_2 := summ_cons (C := CX06_1) (q := CX06_1.flat) (CX06_1_ok ρ) fun args r h => by
  unfold sext06S at h
  split at h
  · rename_i e0
    simp only [Option.some.injEq] at h
    subst h
    exact (sext06_run.calls (ρ := ints [(den ρ e0).i]) (CX06_1_ok _) FactsOk.nil).of rfl rfl
  · cases h
theorem split06_run : RunsIs CX06_2 24 [] 46 [.tc (.sy (.int .i64) (.var 0))] (.tuple [.tc (.sy (.int .u32) (.bin .shr .u32 (.conv .u32 (.var 0)) (.lit 8))), .tc (.sy (.int .u32) (.bin .and .u32 (.conv .u32 (.var 0)) (.lit 255)))]) := .code codeEnc_ok rfl (by kernel_rfl)
def split06S : List AV → Option AV
  | [.tc (.sy (.int .i64) (e0))] => some (.tuple [.tc (.sy (.int .u32) (.bin .shr .u32 (.conv .u32 e0) (.lit 8))), .tc (.sy (.int .u32) (.bin .and .u32 (.conv .u32 e0) (.lit 255)))])
  | _ => none
noncomputable def CX06_3 : Ctx := { CX06_2 with summ := sum1 46 split06S CX06_2.summ, pure := fun f => cond (f == 46) true (CX06_2.pure f) }
theorem CX06_3_ok (ρ : Env) : Summ ρ CX06_3 := summ_cons (C := CX06_2) (q := CX06_2.flat) (CX06_2_ok ρ) fun args r h => by
  unfold split06S at h
  split at h
  · rename_i e0
    simp only [Option.some.injEq] at h
    subst h
    exact (split06_run.calls (ρ := ints [(den ρ e0).i]) (CX06_2_ok _) FactsOk.nil).of rfl rfl
  · cases h
theorem join06_run : RunsIs CX06_3 24 [] 54 [.tc (.sy (.int .u32) (.var 0)), .tc (.sy (.int .u32) (.var 1))] (.tc (.sy (.int .i64) (.conv .i32 (.bin .add .u32 (.bin .mul .u32 (.var 0) (.lit 256)) (.bin .and .u32 (.var 1) (.lit 255)))))) := .code codeEnc_ok rfl (by kernel_rfl)
def join06S : List AV → Option AV
  | [.tc (.sy (.int .u32) (e0)), .tc (.sy (.int .u32) (e1))] => some (.tc (.sy (.int .i64) (.conv .i32 (.bin .add .u32 (.bin .mul .u32 e0 (.lit 256)) (.bin .and .u32 e1 (.lit 255))))))
  | _ => none
noncomputable def CX06 : Ctx := { CX06_3 with summ := sum1 54 join06S CX06_3.summ, pure := fun f => cond (f == 54) true (CX06_3.pure f) }
theorem CX06_ok (ρ : Env) : Summ ρ CX06 := summ_cons (C := CX06_3) (q := CX06_3.flat) (CX06_3_ok ρ) fun args r h => by
  unfold join06S at h
  split at h
  · rename_i e0 e1
    simp only [Option.some.injEq] at h
    subst h
    exact (join06_run.calls (ρ := ints [(den ρ e0).i, (den ρ e1).i]) (CX06_3_ok _) FactsOk.nil).of rfl rfl
  · cases h
end Go.Proofs.YtgpijioodocplaaDoor
