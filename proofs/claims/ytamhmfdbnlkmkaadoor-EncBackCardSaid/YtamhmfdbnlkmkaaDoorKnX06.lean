/- Functions that are told by an expression. -/
import Derived.Test.YtamhmfdbnlkmkaaDoorKnA06
import Derived.Test.YtamhmfdbnlkmkaaDoorMg8
set_option linter.unusedVariables false
set_option maxRecDepth 100000
namespace Go.Proofs.YtamhmfdbnlkmkaaDoor
open Go Go.RowKit

theorem sext06_run : RunsIs CA06 24 [] 48 [.tc (.sy (.int .u32) (.var 0)), .tc (.sc (.int .i64 32))] (.tc (.sy (.int .i64) (.conv .i32 (.var 0)))) := .code codeEnc_ok rfl (by kernel_rfl)
def sext06S : List AV → Option AV
  | [.tc (.sy (.int .u32) (e0)), .tc (.sc (.int .i64 32))] => some (.tc (.sy (.int .i64) (.conv .i32 e0)))
  | _ => none
noncomputable def CX06_0 : Ctx := { CA06 with summ := sum1 48 sext06S CA06.summ, pure := fun f => cond (f == 48) true (CA06.pure f) }
theorem CX06_0_ok (ρ : Env) : Summ ρ CX06_0 := summ_cons (C := CA06) (q := CA06.flat) (CA06_ok ρ) fun args r h => by
  unfold sext06S at h
  split at h
  · rename_i e0
    simp only [Option.some.injEq] at h
    subst h
    exact (sext06_run.calls (ρ := ints [(den ρ e0).i]) (CA06_ok _) FactsOk.nil).of rfl rfl
  · cases h
theorem split06_run : RunsIs CX06_0 24 [] 51 [.tc (.sy (.int .i64) (.var 0))] (.tuple [.tc (.sy (.int .u32) (.bin .shr .u32 (.conv .u32 (.var 0)) (.lit 8))), .tc (.sy (.int .u32) (.bin .and .u32 (.conv .u32 (.var 0)) (.lit 255)))]) := .code codeEnc_ok rfl (by kernel_rfl)
def split06S : List AV → Option AV
  | [.tc (.sy (.int .i64) (e0))] => some (.tuple [.tc (.sy (.int .u32) (.bin .shr .u32 (.conv .u32 e0) (.lit 8))), .tc (.sy (.int .u32) (.bin .and .u32 (.conv .u32 e0) (.lit 255)))])
  | _ => none
noncomputable def CX06_1 : Ctx := { CX06_0 with summ := sum1 51 split06S CX06_0.summ, pure := fun f => cond (f == 51) true (CX06_0.pure f) }
theorem CX06_1_ok (ρ : Env) : Summ ρ CX06_1 := summ_cons (C := CX06_0) (q := CX06_0.flat) (CX06_0_ok ρ) fun args r h => by
  unfold split06S at h
  split at h
  · rename_i e0
    simp only [Option.some.injEq] at h
    subst h
    exact (split06_run.calls (ρ := ints [(den ρ e0).i]) (CX06_0_ok _) FactsOk.nil).of rfl rfl
  · cases h
theorem join06_run : RunsIs CX06_1 24 [] 49 [.tc (.sy (.int .u32) (.var 0)), .tc (.sy (.int .u32) (.var 1))] (.tc (.sy (.int .i64) (.conv .i32 (.bin .add .u32 (.bin .mul .u32 (.var 0) (.lit 256)) (.bin .and .u32 (.var 1) (.lit 255)))))) := .code codeEnc_ok rfl (by kernel_rfl)
def join06S : List AV → Option AV
  | [.tc (.sy (.int .u32) (e0)), .tc (.sy (.int .u32) (e1))] => some (.tc (.sy (.int .i64) (.conv .i32 (.bin .add .u32 (.bin .mul .u32 e0 (.lit 256)) (.bin .and .u32 e1 (.lit 255))))))
  | _ => none
noncomputable def CX06 : Ctx := { CX06_1 with summ := sum1 49 join06S CX06_1.summ, pure := fun f => cond (f == 49) true (CX06_1.pure f) }
theorem CX06_ok (ρ : Env) : Summ ρ CX06 := summ_cons (C := CX06_1) (q := CX06_1.flat) (CX06_1_ok ρ) fun args r h => by
  unfold join06S at h
  split at h
  · rename_i e0 e1
    simp only [Option.some.injEq] at h
    subst h
    exact (join06_run.calls (ρ := ints [(den ρ e0).i, (den ρ e1).i]) (CX06_1_ok _) FactsOk.nil).of rfl rfl
  · cases h
end Go.Proofs.YtamhmfdbnlkmkaaDoor
