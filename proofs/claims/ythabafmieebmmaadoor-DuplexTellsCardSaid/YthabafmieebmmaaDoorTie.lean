/-
  DERIVED. GIVEN WITH THE SEED: THE PROGRAM's TIES (one call each: nine closed facts by the kernel) AND EACH ROW's TIE, after the 31st guide's Derived/Test/Toyas{Tie, Card}.lean. No idea stands in it: it is a product of the set-up. Laid BY PROGRAM, IN A SANDBOX (cutbox-door.mjs). By AI agents, Wed Nov 11 2026. No macro, syntax, notation, axiom, sorry.
-/
import Derived.Test.YthabafmieebmmaaDoorRows
import Derived.LaidByTextLater
import Derived.SevenTiedAt
import Derived.LaidSub
import Derived.LaidOnce
namespace Go.Proofs.YthabafmieebmmaaDoor
open Go
set_option maxRecDepth 100000
theorem seatTie1 : Tryd.prog.laidByTextLater [("coxless/bits.codeAt", Rows.laid_coxless_bits_codeAt), ("coxless/bits.ends", Rows.laid_coxless_bits_ends), ("coxless/bits.parseAt", Rows.laid_coxless_bits_parseAt), ("coxless/bits.upper", Rows.laid_coxless_bits_upper), ("coxless/sub.rows", Rows.laid_coxless_sub_rows)] [.wider, .wider, .wider, .wider, .data] true :=
  Program.laidByTextLater_by_one 76 8 91 (by kernel_rfl) (by kernel_rfl) (by kernel_rfl) (by kernel_rfl) (by kernel_rfl) (by kernel_rfl) (fun _ _ => by kernel_rfl)
theorem noOwnUnsafe : Tryd.pinned.checked.prog.headLifts.contains "ownunsafe" = false := by kernel_rfl
theorem tie : Tryd.prog.laidByTextLater [("coxless/bits.ends", Rows.laid_coxless_bits_ends), ("coxless/bits.parseAt", Rows.laid_coxless_bits_parseAt), ("coxless/bits.upper", Rows.laid_coxless_bits_upper), ("coxless/sub.rows", Rows.laid_coxless_sub_rows)] [.wider, .wider, .wider, .data] true :=
  Program.laidByTextLater.sub seatTie1 ["coxless/bits.ends", "coxless/bits.parseAt", "coxless/bits.upper", "coxless/sub.rows"] (by kernel_rfl) (by kernel_rfl)
theorem legalKnown_row_tie : Rows.legalKnownRow.laidByTextAt .later Tryd.pinned [.wider, .wider, .wider, .data] true :=
  OpenClaim.laidByTextAt_later rfl rfl tie noOwnUnsafe
theorem tie2 : Tryd.prog.laidByTextLater [("coxless/sub.rows", Rows.laid_coxless_sub_rows)] [.data] true :=
  Program.laidByTextLater.sub seatTie1 ["coxless/sub.rows"] (by kernel_rfl) (by kernel_rfl)
theorem subTells_row_tie : Rows.subTellsRow.laidByTextAt .later Tryd.pinned [.data] true :=
  OpenClaim.laidByTextAt_later rfl rfl tie2 noOwnUnsafe
theorem subBack_row_tie : Rows.subBackRow.laidByTextAt .later Tryd.pinned [.data] true :=
  OpenClaim.laidByTextAt_later rfl rfl tie2 noOwnUnsafe
theorem subAll_row_tie : Rows.subAllRow.laidByTextAt .later Tryd.pinned [.data] true :=
  OpenClaim.laidByTextAt_later rfl rfl tie2 noOwnUnsafe
theorem tie3 : Tryd.prog.laidByTextLater [("coxless/bits.codeAt", Rows.laid_coxless_bits_codeAt), ("coxless/bits.ends", Rows.laid_coxless_bits_ends), ("coxless/bits.parseAt", Rows.laid_coxless_bits_parseAt), ("coxless/bits.upper", Rows.laid_coxless_bits_upper), ("coxless/sub.rows", Rows.laid_coxless_sub_rows)] [.wider, .wider, .wider, .wider, .data] true :=
  Program.laidByTextLater.sub seatTie1 ["coxless/bits.codeAt", "coxless/bits.ends", "coxless/bits.parseAt", "coxless/bits.upper", "coxless/sub.rows"] (by kernel_rfl) (by kernel_rfl)
theorem duplexTells_row_tie : Rows.duplexTellsRow.laidByTextAt .later Tryd.pinned [.wider, .wider, .wider, .wider, .data] true :=
  OpenClaim.laidByTextAt_later rfl rfl tie3 noOwnUnsafe
theorem duplexBack_row_tie : Rows.duplexBackRow.laidByTextAt .later Tryd.pinned [.wider, .wider, .wider, .wider, .data] true :=
  OpenClaim.laidByTextAt_later rfl rfl tie3 noOwnUnsafe
theorem duplexForms_row_tie : Rows.duplexFormsRow.laidByTextAt .later Tryd.pinned [.wider, .wider, .wider, .wider, .data] true :=
  OpenClaim.laidByTextAt_later rfl rfl tie3 noOwnUnsafe
theorem legalKnownUpto_row_tie : Rows.legalKnownUptoRow.laidByTextAt .later Tryd.pinned [.wider, .wider, .wider, .data] true :=
  OpenClaim.laidByTextAt_later rfl rfl tie noOwnUnsafe
theorem subTellsUpto_row_tie : Rows.subTellsUptoRow.laidByTextAt .later Tryd.pinned [.data] true :=
  OpenClaim.laidByTextAt_later rfl rfl tie2 noOwnUnsafe
theorem subBackUpto_row_tie : Rows.subBackUptoRow.laidByTextAt .later Tryd.pinned [.data] true :=
  OpenClaim.laidByTextAt_later rfl rfl tie2 noOwnUnsafe
theorem duplexTellsUpto_row_tie : Rows.duplexTellsUptoRow.laidByTextAt .later Tryd.pinned [.wider, .wider, .wider, .wider, .data] true :=
  OpenClaim.laidByTextAt_later rfl rfl tie3 noOwnUnsafe
theorem duplexBackUpto_row_tie : Rows.duplexBackUptoRow.laidByTextAt .later Tryd.pinned [.wider, .wider, .wider, .wider, .data] true :=
  OpenClaim.laidByTextAt_later rfl rfl tie3 noOwnUnsafe
theorem duplexFormsUpto_row_tie : Rows.duplexFormsUptoRow.laidByTextAt .later Tryd.pinned [.wider, .wider, .wider, .wider, .data] true :=
  OpenClaim.laidByTextAt_later rfl rfl tie3 noOwnUnsafe
theorem subAllUpto_row_tie : Rows.subAllUptoRow.laidByTextAt .later Tryd.pinned [.data] true :=
  OpenClaim.laidByTextAt_later rfl rfl tie2 noOwnUnsafe
end Go.Proofs.YthabafmieebmmaaDoor
