/- The law DuplexKnown: its walk, by a run; the variables that its row lists are known. -/
import Derived.Test.YtdafainfcegfkaaDoorKnC
import Derived.Test.YtdafainfcegfkaaDoorSyGlob
import Derived.Test.YtdafainfcegfkaaDoorKcDuplexKnown
import Derived.Test.YtdafainfcegfkaaDoorRows
set_option linter.unusedVariables false
set_option maxRecDepth 100000
namespace Go.Proofs.YtdafainfcegfkaaDoor
open Go Go.RowKit

noncomputable def CGDuplexKnown : Ctx := { CK with glob := globAt globDuplexKnown }
theorem CGDuplexKnown_ok (ρ : Env) : Summ ρ CGDuplexKnown := Summ.glob (CK_ok ρ) rfl _
theorem duplexKnown_glob : GlobOk Tryd.prog Rows.duplexKnownRow.laid globDuplexKnown := ⟨⟨"coxless/bits.codeAt", Rows.laid_coxless_bits_codeAt, .head _, by kernel_rfl, by kernel_rfl⟩, ⟨"coxless/bits.ends", Rows.laid_coxless_bits_ends, .tail _ (.head _), by kernel_rfl, by kernel_rfl⟩, ⟨"coxless/bits.parseAt", Rows.laid_coxless_bits_parseAt, .tail _ (.tail _ (.head _)), by kernel_rfl, by kernel_rfl⟩, ⟨"coxless/bits.upper", Rows.laid_coxless_bits_upper, .tail _ (.tail _ (.tail _ (.head _))), by kernel_rfl, by kernel_rfl⟩, ⟨"coxless/sub.rows", Rows.laid_coxless_sub_rows, .tail _ (.tail _ (.tail _ (.tail _ (.head _)))), by kernel_rfl, by kernel_rfl⟩, trivial⟩

theorem duplexKnown_run : RunIs CGDuplexKnown 24 [] 4 [] (.leaf (.sc (.bool true))) := .code codeDuplexKnown_ok rfl (by kernel_rfl)

theorem duplexKnown_walk (w : World) (hL : laidMetH Tryd.prog Rows.duplexKnownRow.laid w) : Calls Tryd.prog 4 #[] w fun e w' => e = .returned (.bool true) ∧ Below w.heap.size w w' :=
  walk_laid (C := CGDuplexKnown) duplexKnown_run (CGDuplexKnown_ok _) rfl duplexKnown_glob (by kernel_rfl) w hL
end Go.Proofs.YtdafainfcegfkaaDoor
