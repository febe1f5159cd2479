/- The law EncKnown: its walk, by a run; the variables that its row lists are known. -/
import Derived.Test.YtdafainfcegfkaaDoorKnC
import Derived.Test.YtdafainfcegfkaaDoorSyGlob
import Derived.Test.YtdafainfcegfkaaDoorKcEncKnown
import Derived.Test.YtdafainfcegfkaaDoorRows
set_option linter.unusedVariables false
set_option maxRecDepth 100000
namespace Go.Proofs.YtdafainfcegfkaaDoor
open Go Go.RowKit

noncomputable def CGEncKnown : Ctx := { CK with glob := globAt globEncKnown }
theorem CGEncKnown_ok (ρ : Env) : Summ ρ CGEncKnown := Summ.glob (CK_ok ρ) rfl _
theorem encKnown_glob : GlobOk Tryd.prog Rows.encKnownRow.laid globEncKnown := ⟨⟨"coxless/bits.codeAt", Rows.laid_coxless_bits_codeAt, .head _, by kernel_rfl, by kernel_rfl⟩, ⟨"coxless/bits.ends", Rows.laid_coxless_bits_ends, .tail _ (.head _), by kernel_rfl, by kernel_rfl⟩, ⟨"coxless/bits.parseAt", Rows.laid_coxless_bits_parseAt, .tail _ (.tail _ (.head _)), by kernel_rfl, by kernel_rfl⟩, trivial⟩

theorem encKnown_run : RunIs CGEncKnown 24 [] 5 [] (.leaf (.sc (.bool true))) := .code codeEncKnown_ok rfl (by kernel_rfl)

theorem encKnown_walk (w : World) (hL : laidMetH Tryd.prog Rows.encKnownRow.laid w) : Calls Tryd.prog 5 #[] w fun e w' => e = .returned (.bool true) ∧ Below w.heap.size w w' :=
  walk_laid (C := CGEncKnown) encKnown_run (CGEncKnown_ok _) rfl encKnown_glob (by kernel_rfl) w hL
end Go.Proofs.YtdafainfcegfkaaDoor
