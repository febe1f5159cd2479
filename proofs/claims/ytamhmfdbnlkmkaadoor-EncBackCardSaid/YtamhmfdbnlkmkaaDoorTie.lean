/-
  DERIVED. GIVEN WITH THE SEED: THE PROGRAM's TIES (one call each: nine closed facts by the kernel) AND EACH ROW's TIE, after the 31st guide's Derived/Test/Toyas{Tie, Card}.lean. No idea stands in it: it is a product of the set-up. Laid BY PROGRAM, IN A SANDBOX (cutbox-door.mjs). By AI agents, Wed Nov 11 2026. No macro, syntax, notation, axiom, sorry.
-/
import Derived.Test.YtamhmfdbnlkmkaaDoorRows
import Derived.LaidByTextLater
import Derived.SevenTiedAt
import Derived.LaidSub
import Derived.LaidOnce
namespace Go.Proofs.YtamhmfdbnlkmkaaDoor
open Go
set_option maxRecDepth 100000
theorem seatTie1 : Tryd.prog.laidByTextLater [("coxless/bits.codeAt", Rows.laid_coxless_bits_codeAt), ("coxless/bits.ends", Rows.laid_coxless_bits_ends), ("coxless/bits.parseAt", Rows.laid_coxless_bits_parseAt), ("coxless/bits.upper", Rows.laid_coxless_bits_upper), ("coxless/sub.rows", Rows.laid_coxless_sub_rows)] [.wider, .wider, .wider, .wider, .data] true :=
  Program.laidByTextLater_by_one 76 8 91 (by kernel_rfl) (by kernel_rfl) (by kernel_rfl) (by kernel_rfl) (by kernel_rfl) (by kernel_rfl) (fun _ _ => by kernel_rfl)
theorem noOwnUnsafe : Tryd.pinned.checked.prog.headLifts.contains "ownunsafe" = false := by kernel_rfl
theorem tie : Tryd.prog.laidByTextLater [("coxless/bits.codeAt", Rows.laid_coxless_bits_codeAt), ("coxless/bits.ends", Rows.laid_coxless_bits_ends), ("coxless/bits.parseAt", Rows.laid_coxless_bits_parseAt)] [.wider, .wider, .wider] true :=
  Program.laidByTextLater.sub seatTie1 ["coxless/bits.codeAt", "coxless/bits.ends", "coxless/bits.parseAt"] (by kernel_rfl) (by kernel_rfl)
theorem encBack_row_tie : Rows.encBackRow.laidByTextAt .later Tryd.pinned [.wider, .wider, .wider] true :=
  OpenClaim.laidByTextAt_later rfl rfl tie noOwnUnsafe
theorem tie2 : Tryd.prog.laidByTextLater [("coxless/sub.rows", Rows.laid_coxless_sub_rows)] [.data] true :=
  Program.laidByTextLater.sub seatTie1 ["coxless/sub.rows"] (by kernel_rfl) (by kernel_rfl)
theorem subAll_row_tie : Rows.subAllRow.laidByTextAt .later Tryd.pinned [.data] true :=
  OpenClaim.laidByTextAt_later rfl rfl tie2 noOwnUnsafe
theorem tie3 : Tryd.prog.laidByTextLater [("coxless/bits.ends", Rows.laid_coxless_bits_ends), ("coxless/bits.parseAt", Rows.laid_coxless_bits_parseAt), ("coxless/bits.upper", Rows.laid_coxless_bits_upper), ("coxless/sub.rows", Rows.laid_coxless_sub_rows)] [.wider, .wider, .wider, .data] true :=
  Program.laidByTextLater.sub seatTie1 ["coxless/bits.ends", "coxless/bits.parseAt", "coxless/bits.upper", "coxless/sub.rows"] (by kernel_rfl) (by kernel_rfl)
theorem legalRow_row_tie : Rows.legalRowRow.laidByTextAt .later Tryd.pinned [.wider, .wider, .wider, .data] true :=
  OpenClaim.laidByTextAt_later rfl rfl tie3 noOwnUnsafe
theorem encBackUpto_row_tie : Rows.encBackUptoRow.laidByTextAt .later Tryd.pinned [.wider, .wider, .wider] true :=
  OpenClaim.laidByTextAt_later rfl rfl tie noOwnUnsafe
theorem subAllUpto_row_tie : Rows.subAllUptoRow.laidByTextAt .later Tryd.pinned [.data] true :=
  OpenClaim.laidByTextAt_later rfl rfl tie2 noOwnUnsafe
theorem legalRowUpto_row_tie : Rows.legalRowUptoRow.laidByTextAt .later Tryd.pinned [.wider, .wider, .wider, .data] true :=
  OpenClaim.laidByTextAt_later rfl rfl tie3 noOwnUnsafe
end Go.Proofs.YtamhmfdbnlkmkaaDoor
