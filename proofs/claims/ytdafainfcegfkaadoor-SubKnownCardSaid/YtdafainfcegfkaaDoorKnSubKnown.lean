/- The law SubKnown: its walk, by a run; the variables that its row lists are known. -/
import Derived.Test.YtdafainfcegfkaaDoorKnC
import Derived.Test.YtdafainfcegfkaaDoorSyGlob
import Derived.Test.YtdafainfcegfkaaDoorKcSubKnown
import Derived.Test.YtdafainfcegfkaaDoorRows
set_option linter.unusedVariables false
set_option maxRecDepth 100000
namespace Go.Proofs.YtdafainfcegfkaaDoor
open Go Go.RowKit

noncomputable def CGSubKnown : Ctx := { CK with glob := globAt globSubKnown }
theorem CGSubKnown_ok (ρ : Env) : Summ ρ CGSubKnown := Summ.glob (CK_ok ρ) rfl _
theorem subKnown_glob : GlobOk Tryd.prog Rows.subKnownRow.laid globSubKnown := ⟨⟨"coxless/sub.rows", Rows.laid_coxless_sub_rows, .head _, by kernel_rfl, by kernel_rfl⟩, trivial⟩

theorem subKnown_run : RunIs CGSubKnown 24 [] 3 [] (.leaf (.sc (.bool true))) := .code codeSubKnown_ok rfl (by kernel_rfl)

theorem subKnown_walk (w : World) (hL : laidMetH Tryd.prog Rows.subKnownRow.laid w) : Calls Tryd.prog 3 #[] w fun e w' => e = .returned (.bool true) ∧ Below w.heap.size w w' :=
  walk_laid (C := CGSubKnown) subKnown_run (CGSubKnown_ok _) rfl subKnown_glob (by kernel_rfl) w hL
end Go.Proofs.YtdafainfcegfkaaDoor
