/-
  DERIVED. GIVEN WITH THE SEED: THE PROGRAM's TIES (one call each: nine closed facts by the kernel) AND EACH ROW's TIE, after the 31st guide's Derived/Test/Toyas{Tie, Card}.lean. No idea stands in it: it is a product of the set-up. Laid BY PROGRAM, IN A SANDBOX (cutbox-door.mjs). By AI agents, Wed Nov 11 2026. No macro, syntax, notation, axiom, sorry.
-/
import Derived.Test.YthabafmieebmmaaGreatDoorRows
import Derived.LaidByTextLater
import Derived.SevenTiedAt
import Derived.LaidSub
import Derived.LaidOnce
namespace Go.Proofs.YthabafmieebmmaaGreatDoor
open Go
set_option maxRecDepth 100000
theorem seatTie1 : Tryz.prog.laidByTextLater [("coxless/bits.codeAt", Rows.laid_coxless_bits_codeAt), ("coxless/bits.ends", Rows.laid_coxless_bits_ends), ("coxless/bits.parseAt", Rows.laid_coxless_bits_parseAt), ("coxless/bits.upper", Rows.laid_coxless_bits_upper), ("coxless/sub.rows", Rows.laid_coxless_sub_rows)] [.wider, .wider, .wider, .wider, .data] true :=
  Program.laidByTextLater_by_one 76 8 91 (by kernel_rfl) (by kernel_rfl) (by kernel_rfl) (by kernel_rfl) (by kernel_rfl) (by kernel_rfl) (fun _ _ => by kernel_rfl)
theorem noOwnUnsafe : Tryz.pinned.checked.prog.headLifts.contains "ownunsafe" = false := by kernel_rfl
theorem tie : Tryz.prog.laidByTextLater [("coxless/bits.codeAt", Rows.laid_coxless_bits_codeAt), ("coxless/bits.ends", Rows.laid_coxless_bits_ends), ("coxless/bits.parseAt", Rows.laid_coxless_bits_parseAt), ("coxless/bits.upper", Rows.laid_coxless_bits_upper), ("coxless/sub.rows", Rows.laid_coxless_sub_rows)] [.wider, .wider, .wider, .wider, .data] true :=
  Program.laidByTextLater.sub seatTie1 ["coxless/bits.codeAt", "coxless/bits.ends", "coxless/bits.parseAt", "coxless/bits.upper", "coxless/sub.rows"] (by kernel_rfl) (by kernel_rfl)
theorem packKnown_row_tie : Rows.packKnownRow.laidByTextAt .later Tryz.pinned [.wider, .wider, .wider, .wider, .data] true :=
  OpenClaim.laidByTextAt_later rfl rfl tie noOwnUnsafe
theorem unpackKnown_row_tie : Rows.unpackKnownRow.laidByTextAt .later Tryz.pinned [.wider, .wider, .wider, .wider, .data] true :=
  OpenClaim.laidByTextAt_later rfl rfl tie noOwnUnsafe
theorem imageKnown_row_tie : Rows.imageKnownRow.laidByTextAt .later Tryz.pinned [.wider, .wider, .wider, .wider, .data] true :=
  OpenClaim.laidByTextAt_later rfl rfl tie noOwnUnsafe
theorem tie2 : Tryz.prog.laidByTextLater [("coxless/bits.ends", Rows.laid_coxless_bits_ends), ("coxless/bits.parseAt", Rows.laid_coxless_bits_parseAt), ("coxless/bits.upper", Rows.laid_coxless_bits_upper), ("coxless/sub.rows", Rows.laid_coxless_sub_rows)] [.wider, .wider, .wider, .data] true :=
  Program.laidByTextLater.sub seatTie1 ["coxless/bits.ends", "coxless/bits.parseAt", "coxless/bits.upper", "coxless/sub.rows"] (by kernel_rfl) (by kernel_rfl)
theorem relaxKnown_row_tie : Rows.relaxKnownRow.laidByTextAt .later Tryz.pinned [.wider, .wider, .wider, .data] true :=
  OpenClaim.laidByTextAt_later rfl rfl tie2 noOwnUnsafe
theorem packKnownUpto_row_tie : Rows.packKnownUptoRow.laidByTextAt .later Tryz.pinned [.wider, .wider, .wider, .wider, .data] true :=
  OpenClaim.laidByTextAt_later rfl rfl tie noOwnUnsafe
theorem unpackKnownUpto_row_tie : Rows.unpackKnownUptoRow.laidByTextAt .later Tryz.pinned [.wider, .wider, .wider, .wider, .data] true :=
  OpenClaim.laidByTextAt_later rfl rfl tie noOwnUnsafe
theorem relaxKnownUpto_row_tie : Rows.relaxKnownUptoRow.laidByTextAt .later Tryz.pinned [.wider, .wider, .wider, .data] true :=
  OpenClaim.laidByTextAt_later rfl rfl tie2 noOwnUnsafe
theorem imageKnownUpto_row_tie : Rows.imageKnownUptoRow.laidByTextAt .later Tryz.pinned [.wider, .wider, .wider, .wider, .data] true :=
  OpenClaim.laidByTextAt_later rfl rfl tie noOwnUnsafe
end Go.Proofs.YthabafmieebmmaaGreatDoor
