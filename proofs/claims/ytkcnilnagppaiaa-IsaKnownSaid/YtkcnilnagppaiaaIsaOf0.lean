/- isa.Of: by a run for each op. -/
import Derived.Test.YtkcnilnagppaiaaIsaTable
set_option linter.unusedVariables false
namespace Go.Proofs.Ytkcnilnagppaiaa
open Go

/-- Summaries of functions of trees: one by one. -/
def sum1 (f : FuncId) (g : List AV → Option AV) (rest : FuncId → Option (List AV → Option AV)) : FuncId → Option (List AV → Option AV) :=
  fun x => match decide (x = f) with | true => some g | false => rest x

theorem summOk_none (P : Program) : SummOk (base P) := fun f g args r h => by simp [base] at h

/-- A summary more: what it tells was found with the ones before. -/
theorem summOk_cons {C : Ctx} (hs : SummOk C) {f : FuncId} {g : List AV → Option AV} {p : FuncId → Bool} (hg : ∀ args r, g args = some r → TreeCall C f args (· = r)) :
    SummOk { C with summ := sum1 f g C.summ, pure := p } := by
  intro x g' args r h hr
  simp only [sum1] at h
  split at h
  · rename_i hx
    simp only [decide_eq_true_eq] at hx
    simp only [Option.some.injEq] at h
    subst h; subst hx
    exact hg args r hr
  · exact hs x g' args r h hr

def tableS : List AV → Option AV
  | [] => some tableA
  | _ => none

noncomputable def C1 : Ctx := { base Try.prog with summ := sum1 18 tableS (base Try.prog).summ, pure := fun f => f == 18 }

theorem C1_ok : SummOk C1 := summOk_cons (C := base Try.prog) (summOk_none _) fun args r h => by
  cases args with
  | nil => simp only [tableS, Option.some.injEq] at h; subst h; exact table_run.tree (summOk_none _)
  | cons _ _ => simp [tableS] at h

def zeroRow : AV := .agg [.sc (.int .u8 0), .sc (.string ByteArray.empty), .sc (.int .u8 0), .sc (.int .u8 0), .sc (.slice none 0 0)]

def rowAt (op : Int) : Option RowD := match decide (1 ≤ op) with | true => tableD[(op - 1).toNat]? | false => none

def ofA (op : Int) : AV := match rowAt op with
  | some r => .tuple [.agg (tcs r.cells), .sc (.bool true)]
  | none => .tuple [zeroRow, .sc (.bool false)]

end Go.Proofs.Ytkcnilnagppaiaa
