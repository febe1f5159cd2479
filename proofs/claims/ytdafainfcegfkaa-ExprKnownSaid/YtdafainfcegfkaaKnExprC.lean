/- The law's awake, and three long readings, by runs of their own: summaries. -/
import Derived.Test.YtdafainfcegfkaaKnC
import Derived.Test.YtdafainfcegfkaaKcExprKnown
set_option linter.unusedVariables false
namespace Go.Proofs.Ytdafainfcegfkaa
open Go Go.RowKit

theorem exprAwake_run : RunIs CK 24 [] 37 [] (.leaf (.sc (.bool true))) := .code codeExprKnown_ok rfl (by kernel_rfl)

def exprAwakeT : List (List AV × AV) := [([], .sc (.bool true))]

noncomputable def CE0 : Ctx := { CK with summ := sum1 37 (tabF exprAwakeT) CK.summ }

theorem CE0_ok (ρ : Env) : Summ ρ CE0 := summ_cons (C := CK) (p := CK.pure) (CK_ok ρ) (tabF_ok fun p hp => by
  simp only [exprAwakeT, List.mem_cons, List.not_mem_nil, or_false] at hp
  subst hp
  exact exprAwake_run.calls (CK_ok ρ) (fun p hp => by simp at hp) rfl)

def exprTk0 : AV := .tc (.sl 5 [[.sc (.int .u8 3), .sc (.string ⟨#[40]⟩), .sc (.int .i64 0), .sc (.int .i64 1), .sc (.int .i64 1)], [.sc (.int .u8 3), .sc (.string ⟨#[40]⟩), .sc (.int .i64 0), .sc (.int .i64 1), .sc (.int .i64 2)], [.sc (.int .u8 3), .sc (.string ⟨#[40]⟩), .sc (.int .i64 0), .sc (.int .i64 1), .sc (.int .i64 3)], [.sc (.int .u8 3), .sc (.string ⟨#[40]⟩), .sc (.int .i64 0), .sc (.int .i64 1), .sc (.int .i64 4)], [.sc (.int .u8 3), .sc (.string ⟨#[40]⟩), .sc (.int .i64 0), .sc (.int .i64 1), .sc (.int .i64 5)], [.sc (.int .u8 3), .sc (.string ⟨#[40]⟩), .sc (.int .i64 0), .sc (.int .i64 1), .sc (.int .i64 6)], [.sc (.int .u8 3), .sc (.string ⟨#[40]⟩), .sc (.int .i64 0), .sc (.int .i64 1), .sc (.int .i64 7)], [.sc (.int .u8 3), .sc (.string ⟨#[40]⟩), .sc (.int .i64 0), .sc (.int .i64 1), .sc (.int .i64 8)], [.sc (.int .u8 3), .sc (.string ⟨#[40]⟩), .sc (.int .i64 0), .sc (.int .i64 1), .sc (.int .i64 9)], [.sc (.int .u8 3), .sc (.string ⟨#[40]⟩), .sc (.int .i64 0), .sc (.int .i64 1), .sc (.int .i64 10)], [.sc (.int .u8 3), .sc (.string ⟨#[40]⟩), .sc (.int .i64 0), .sc (.int .i64 1), .sc (.int .i64 11)], [.sc (.int .u8 3), .sc (.string ⟨#[40]⟩), .sc (.int .i64 0), .sc (.int .i64 1), .sc (.int .i64 12)], [.sc (.int .u8 3), .sc (.string ⟨#[40]⟩), .sc (.int .i64 0), .sc (.int .i64 1), .sc (.int .i64 13)], [.sc (.int .u8 3), .sc (.string ⟨#[40]⟩), .sc (.int .i64 0), .sc (.int .i64 1), .sc (.int .i64 14)], [.sc (.int .u8 3), .sc (.string ⟨#[40]⟩), .sc (.int .i64 0), .sc (.int .i64 1), .sc (.int .i64 15)], [.sc (.int .u8 3), .sc (.string ⟨#[40]⟩), .sc (.int .i64 0), .sc (.int .i64 1), .sc (.int .i64 16)], [.sc (.int .u8 2), .sc (.string ⟨#[49]⟩), .sc (.int .i64 1), .sc (.int .i64 1), .sc (.int .i64 17)]])
def exprRs0 : AV := .tuple [.tc (.sc (.slice none 0 0)), .tc (.sc (.int .i64 17)), .tc (.sc (.int .i64 8))]
theorem exprParse0_run : RunIs CE0 300 [] 29 [exprTk0] (.leaf exprRs0) := .code codeExprKnown_ok rfl (by kernel_rfl)
def exprTk1 : AV := .tc (.sl 5 [[.sc (.int .u8 3), .sc (.string ⟨#[40]⟩), .sc (.int .i64 0), .sc (.int .i64 1), .sc (.int .i64 1)], [.sc (.int .u8 3), .sc (.string ⟨#[40]⟩), .sc (.int .i64 0), .sc (.int .i64 1), .sc (.int .i64 2)], [.sc (.int .u8 3), .sc (.string ⟨#[40]⟩), .sc (.int .i64 0), .sc (.int .i64 1), .sc (.int .i64 3)], [.sc (.int .u8 3), .sc (.string ⟨#[40]⟩), .sc (.int .i64 0), .sc (.int .i64 1), .sc (.int .i64 4)], [.sc (.int .u8 3), .sc (.string ⟨#[40]⟩), .sc (.int .i64 0), .sc (.int .i64 1), .sc (.int .i64 5)], [.sc (.int .u8 3), .sc (.string ⟨#[40]⟩), .sc (.int .i64 0), .sc (.int .i64 1), .sc (.int .i64 6)], [.sc (.int .u8 3), .sc (.string ⟨#[40]⟩), .sc (.int .i64 0), .sc (.int .i64 1), .sc (.int .i64 7)], [.sc (.int .u8 3), .sc (.string ⟨#[40]⟩), .sc (.int .i64 0), .sc (.int .i64 1), .sc (.int .i64 8)], [.sc (.int .u8 3), .sc (.string ⟨#[40]⟩), .sc (.int .i64 0), .sc (.int .i64 1), .sc (.int .i64 9)], [.sc (.int .u8 3), .sc (.string ⟨#[40]⟩), .sc (.int .i64 0), .sc (.int .i64 1), .sc (.int .i64 10)], [.sc (.int .u8 3), .sc (.string ⟨#[40]⟩), .sc (.int .i64 0), .sc (.int .i64 1), .sc (.int .i64 11)], [.sc (.int .u8 3), .sc (.string ⟨#[40]⟩), .sc (.int .i64 0), .sc (.int .i64 1), .sc (.int .i64 12)], [.sc (.int .u8 3), .sc (.string ⟨#[40]⟩), .sc (.int .i64 0), .sc (.int .i64 1), .sc (.int .i64 13)], [.sc (.int .u8 3), .sc (.string ⟨#[40]⟩), .sc (.int .i64 0), .sc (.int .i64 1), .sc (.int .i64 14)], [.sc (.int .u8 3), .sc (.string ⟨#[40]⟩), .sc (.int .i64 0), .sc (.int .i64 1), .sc (.int .i64 15)], [.sc (.int .u8 3), .sc (.string ⟨#[40]⟩), .sc (.int .i64 0), .sc (.int .i64 1), .sc (.int .i64 16)], [.sc (.int .u8 3), .sc (.string ⟨#[40]⟩), .sc (.int .i64 0), .sc (.int .i64 1), .sc (.int .i64 17)], [.sc (.int .u8 2), .sc (.string ⟨#[49]⟩), .sc (.int .i64 1), .sc (.int .i64 1), .sc (.int .i64 18)]])
def exprRs1 : AV := .tuple [.tc (.sc (.slice none 0 0)), .tc (.sc (.int .i64 16)), .tc (.sc (.int .i64 3))]
theorem exprParse1_run : RunIs CE0 300 [] 29 [exprTk1] (.leaf exprRs1) := .code codeExprKnown_ok rfl (by kernel_rfl)
def exprTk2 : AV := .tc (.sl 5 [[.sc (.int .u8 3), .sc (.string ⟨#[45]⟩), .sc (.int .i64 0), .sc (.int .i64 1), .sc (.int .i64 1)], [.sc (.int .u8 3), .sc (.string ⟨#[45]⟩), .sc (.int .i64 0), .sc (.int .i64 1), .sc (.int .i64 2)], [.sc (.int .u8 3), .sc (.string ⟨#[45]⟩), .sc (.int .i64 0), .sc (.int .i64 1), .sc (.int .i64 3)], [.sc (.int .u8 3), .sc (.string ⟨#[45]⟩), .sc (.int .i64 0), .sc (.int .i64 1), .sc (.int .i64 4)], [.sc (.int .u8 3), .sc (.string ⟨#[45]⟩), .sc (.int .i64 0), .sc (.int .i64 1), .sc (.int .i64 5)], [.sc (.int .u8 3), .sc (.string ⟨#[45]⟩), .sc (.int .i64 0), .sc (.int .i64 1), .sc (.int .i64 6)], [.sc (.int .u8 3), .sc (.string ⟨#[45]⟩), .sc (.int .i64 0), .sc (.int .i64 1), .sc (.int .i64 7)], [.sc (.int .u8 3), .sc (.string ⟨#[45]⟩), .sc (.int .i64 0), .sc (.int .i64 1), .sc (.int .i64 8)], [.sc (.int .u8 3), .sc (.string ⟨#[45]⟩), .sc (.int .i64 0), .sc (.int .i64 1), .sc (.int .i64 9)], [.sc (.int .u8 3), .sc (.string ⟨#[45]⟩), .sc (.int .i64 0), .sc (.int .i64 1), .sc (.int .i64 10)], [.sc (.int .u8 3), .sc (.string ⟨#[45]⟩), .sc (.int .i64 0), .sc (.int .i64 1), .sc (.int .i64 11)], [.sc (.int .u8 3), .sc (.string ⟨#[45]⟩), .sc (.int .i64 0), .sc (.int .i64 1), .sc (.int .i64 12)], [.sc (.int .u8 3), .sc (.string ⟨#[45]⟩), .sc (.int .i64 0), .sc (.int .i64 1), .sc (.int .i64 13)], [.sc (.int .u8 3), .sc (.string ⟨#[45]⟩), .sc (.int .i64 0), .sc (.int .i64 1), .sc (.int .i64 14)], [.sc (.int .u8 3), .sc (.string ⟨#[45]⟩), .sc (.int .i64 0), .sc (.int .i64 1), .sc (.int .i64 15)], [.sc (.int .u8 3), .sc (.string ⟨#[45]⟩), .sc (.int .i64 0), .sc (.int .i64 1), .sc (.int .i64 16)], [.sc (.int .u8 3), .sc (.string ⟨#[45]⟩), .sc (.int .i64 0), .sc (.int .i64 1), .sc (.int .i64 17)], [.sc (.int .u8 2), .sc (.string ⟨#[49]⟩), .sc (.int .i64 1), .sc (.int .i64 1), .sc (.int .i64 18)]])
def exprRs2 : AV := .tuple [.tc (.sc (.slice none 0 0)), .tc (.sc (.int .i64 16)), .tc (.sc (.int .i64 3))]
theorem exprParse2_run : RunIs CE0 300 [] 29 [exprTk2] (.leaf exprRs2) := .code codeExprKnown_ok rfl (by kernel_rfl)

def exprParseT : List (List AV × AV) := [([exprTk0], exprRs0), ([exprTk1], exprRs1), ([exprTk2], exprRs2)]

/-- Parse is told at the long ones alone. -/
noncomputable def exprParseS (l : List AV) : Option AV := tabF exprParseT l

noncomputable def CE : Ctx := { CE0 with summ := sum1 29 (tabF exprParseT) CE0.summ, pure := fun f => Nat.beq f 29 || CE0.pure f }

theorem CE_ok (ρ : Env) : Summ ρ CE := summ_cons (C := CE0) (CE0_ok ρ) (tabF_ok fun p hp => by
  simp only [exprParseT, List.mem_cons, List.not_mem_nil, or_false] at hp
  rcases hp with rfl | rfl | rfl
  · exact exprParse0_run.calls (CE0_ok ρ) (fun p hp => by simp at hp) rfl
  · exact exprParse1_run.calls (CE0_ok ρ) (fun p hp => by simp at hp) rfl
  · exact exprParse2_run.calls (CE0_ok ρ) (fun p hp => by simp at hp) rfl)
end Go.Proofs.Ytdafainfcegfkaa
