/- The law PackKnown: its walk, by a run; the variables that its row lists are known. -/
import Derived.Test.YthabafmieebmmaaGreatDoorKnC
import Derived.Test.YthabafmieebmmaaGreatDoorMg8
import Derived.Test.YthabafmieebmmaaGreatDoorKcPackKnown
import Derived.Test.YthabafmieebmmaaGreatDoorRows
set_option linter.unusedVariables false
set_option maxRecDepth 100000
namespace Go.Proofs.YthabafmieebmmaaGreatDoor
open Go Go.RowKit

noncomputable def CGPackKnown : Ctx := { CK with glob := globAt globPackKnown }
theorem CGPackKnown_ok (ρ : Env) : Summ ρ CGPackKnown := Summ.glob (CK_ok ρ) rfl _
theorem packKnown_glob : GlobOk Tryz.prog Rows.packKnownRow.laid globPackKnown := ⟨⟨"coxless/bits.codeAt", Rows.laid_coxless_bits_codeAt, .head _, by kernel_rfl, by kernel_rfl⟩, ⟨"coxless/bits.ends", Rows.laid_coxless_bits_ends, .tail _ (.head _), by kernel_rfl, by kernel_rfl⟩, ⟨"coxless/bits.parseAt", Rows.laid_coxless_bits_parseAt, .tail _ (.tail _ (.head _)), by kernel_rfl, by kernel_rfl⟩, ⟨"coxless/bits.upper", Rows.laid_coxless_bits_upper, .tail _ (.tail _ (.tail _ (.head _))), by kernel_rfl, by kernel_rfl⟩, ⟨"coxless/sub.rows", Rows.laid_coxless_sub_rows, .tail _ (.tail _ (.tail _ (.tail _ (.head _)))), by kernel_rfl, by kernel_rfl⟩, trivial⟩

theorem packKnown_run : RunIs CGPackKnown 60 [] 3 [] (.leaf (.sc (.bool true))) := .code codePackKnown_ok rfl (by kernel_rfl)

theorem packKnown_walk (w : World) (hL : laidMetH Tryz.prog Rows.packKnownRow.laid w) : Calls Tryz.prog 3 #[] w fun e w' => e = .returned (.bool true) ∧ Below w.heap.size w w' :=
  walk_laid (C := CGPackKnown) packKnown_run (CGPackKnown_ok _) rfl packKnown_glob (by kernel_rfl) w hL
end Go.Proofs.YthabafmieebmmaaGreatDoor
