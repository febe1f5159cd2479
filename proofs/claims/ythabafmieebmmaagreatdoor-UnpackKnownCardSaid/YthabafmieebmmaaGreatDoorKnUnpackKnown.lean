/- The law UnpackKnown: its walk, by a run; the variables that its row lists are known. -/
import Derived.Test.YthabafmieebmmaaGreatDoorKnC
import Derived.Test.YthabafmieebmmaaGreatDoorMg8
import Derived.Test.YthabafmieebmmaaGreatDoorKcUnpackKnown
import Derived.Test.YthabafmieebmmaaGreatDoorRows
set_option linter.unusedVariables false
set_option maxRecDepth 100000
namespace Go.Proofs.YthabafmieebmmaaGreatDoor
open Go Go.RowKit

noncomputable def CGUnpackKnown : Ctx := { CK with glob := globAt globUnpackKnown }
theorem CGUnpackKnown_ok (ρ : Env) : Summ ρ CGUnpackKnown := Summ.glob (CK_ok ρ) rfl _
theorem unpackKnown_glob : GlobOk Tryz.prog Rows.unpackKnownRow.laid globUnpackKnown := ⟨⟨"coxless/bits.codeAt", Rows.laid_coxless_bits_codeAt, .head _, by kernel_rfl, by kernel_rfl⟩, ⟨"coxless/bits.ends", Rows.laid_coxless_bits_ends, .tail _ (.head _), by kernel_rfl, by kernel_rfl⟩, ⟨"coxless/bits.parseAt", Rows.laid_coxless_bits_parseAt, .tail _ (.tail _ (.head _)), by kernel_rfl, by kernel_rfl⟩, ⟨"coxless/bits.upper", Rows.laid_coxless_bits_upper, .tail _ (.tail _ (.tail _ (.head _))), by kernel_rfl, by kernel_rfl⟩, ⟨"coxless/sub.rows", Rows.laid_coxless_sub_rows, .tail _ (.tail _ (.tail _ (.tail _ (.head _)))), by kernel_rfl, by kernel_rfl⟩, trivial⟩

theorem unpackKnown_run : RunIs CGUnpackKnown 60 [] 4 [] (.leaf (.sc (.bool true))) := .code codeUnpackKnown_ok rfl (by kernel_rfl)

theorem unpackKnown_walk (w : World) (hL : laidMetH Tryz.prog Rows.unpackKnownRow.laid w) : Calls Tryz.prog 4 #[] w fun e w' => e = .returned (.bool true) ∧ Below w.heap.size w w' :=
  walk_laid (C := CGUnpackKnown) unpackKnown_run (CGUnpackKnown_ok _) rfl unpackKnown_glob (by kernel_rfl) w hL
end Go.Proofs.YthabafmieebmmaaGreatDoor
