/-
  DERIVED. GIVEN WITH THE SEED: THE CARDS: each row of YtgpijioodocplaaDoorRows.lean that lists a variable, with what it lists TIED to the program's text (the seventh form; the later family's looks); each row that meets fmt, with fmt's text TOLD by the authors' own Lean function (tested against real Go, not proved from fmt's source: count such statements apart). THE CARD IS WHAT COUNTS. Prove the row's statement (the work); the ties are given (YtgpijioodocplaaDoorTie.lean); close each card by the builder's one call (the guide's Derived/Test/ToyasCard.lean, 'card_holds'). Laid BY PROGRAM, IN A SANDBOX (cutbox-door.mjs). By AI agents, Wed Nov 11 2026. No macro, syntax, notation, axiom, sorry.
-/
import Derived.Test.YtgpijioodocplaaDoorRows
import GoSem.ClaimSeven
namespace Go.Proofs.YtgpijioodocplaaDoor
namespace Rows

/-- THE TIED CARD OF 'coxlesslaw06.EncWords'. -/
def encWordsCard : Claim7 := { stood := { row := encWordsRow, standIns := [], harness := (true, "48d9828c0a099450fec4782cc9c51a2628fafea80031559ecc606a04af997acf"), looks := false }, kinds := [], alts := [], laidByText := true, laidKinds := [.wider, .wider, .wider], laidTests := true, laidLooks := .later }
def EncWordsCardSaid : Prop := Claim7.holds Tryd.pinned (.plain (OpenSpec.ofChange encWordsSpec)) encWordsCard

/-- THE TIED CARD OF 'coxlesslaw06.EncMoves'. -/
def encMovesCard : Claim7 := { stood := { row := encMovesRow, standIns := [], harness := (true, "48d9828c0a099450fec4782cc9c51a2628fafea80031559ecc606a04af997acf"), looks := false }, kinds := [], alts := [], laidByText := true, laidKinds := [.wider, .wider, .wider], laidTests := true, laidLooks := .later }
def EncMovesCardSaid : Prop := Claim7.holds Tryd.pinned (.plain (OpenSpec.ofChange encMovesSpec)) encMovesCard

/-- THE TIED CARD OF 'coxlesslaw06.EncInsts'. -/
def encInstsCard : Claim7 := { stood := { row := encInstsRow, standIns := [], harness := (true, "48d9828c0a099450fec4782cc9c51a2628fafea80031559ecc606a04af997acf"), looks := false }, kinds := [], alts := [], laidByText := true, laidKinds := [.wider, .wider, .wider], laidTests := true, laidLooks := .later }
def EncInstsCardSaid : Prop := Claim7.holds Tryd.pinned (.plain (OpenSpec.ofChange encInstsSpec)) encInstsCard

/-- THE TIED CARD OF 'coxlesslaw06.EncBack'. -/
def encBackCard : Claim7 := { stood := { row := encBackRow, standIns := [], harness := (true, "48d9828c0a099450fec4782cc9c51a2628fafea80031559ecc606a04af997acf"), looks := false }, kinds := [], alts := [], laidByText := true, laidKinds := [.wider, .wider, .wider], laidTests := true, laidLooks := .later }
def EncBackCardSaid : Prop := Claim7.holds Tryd.pinned (.plain (OpenSpec.ofChange encBackSpec)) encBackCard

/-- THE SECOND FORM's CARD OF 'coxlesslaw06.EncWords'. -/
def encWordsUptoCard : Claim7 := { stood := { row := encWordsUptoRow, standIns := [], harness := (true, "48d9828c0a099450fec4782cc9c51a2628fafea80031559ecc606a04af997acf"), looks := false }, kinds := [], alts := [], laidByText := true, laidKinds := [.wider, .wider, .wider], laidTests := true, laidLooks := .later }
def EncWordsUptoCardSaid : Prop := Claim7.holds Tryd.pinned (.plain (OpenSpec.upto encWordsSpec)) encWordsUptoCard

/-- THE SECOND FORM's CARD OF 'coxlesslaw06.EncMoves'. -/
def encMovesUptoCard : Claim7 := { stood := { row := encMovesUptoRow, standIns := [], harness := (true, "48d9828c0a099450fec4782cc9c51a2628fafea80031559ecc606a04af997acf"), looks := false }, kinds := [], alts := [], laidByText := true, laidKinds := [.wider, .wider, .wider], laidTests := true, laidLooks := .later }
def EncMovesUptoCardSaid : Prop := Claim7.holds Tryd.pinned (.plain (OpenSpec.upto encMovesSpec)) encMovesUptoCard

/-- THE SECOND FORM's CARD OF 'coxlesslaw06.EncInsts'. -/
def encInstsUptoCard : Claim7 := { stood := { row := encInstsUptoRow, standIns := [], harness := (true, "48d9828c0a099450fec4782cc9c51a2628fafea80031559ecc606a04af997acf"), looks := false }, kinds := [], alts := [], laidByText := true, laidKinds := [.wider, .wider, .wider], laidTests := true, laidLooks := .later }
def EncInstsUptoCardSaid : Prop := Claim7.holds Tryd.pinned (.plain (OpenSpec.upto encInstsSpec)) encInstsUptoCard

/-- THE SECOND FORM's CARD OF 'coxlesslaw06.EncBack'. -/
def encBackUptoCard : Claim7 := { stood := { row := encBackUptoRow, standIns := [], harness := (true, "48d9828c0a099450fec4782cc9c51a2628fafea80031559ecc606a04af997acf"), looks := false }, kinds := [], alts := [], laidByText := true, laidKinds := [.wider, .wider, .wider], laidTests := true, laidLooks := .later }
def EncBackUptoCardSaid : Prop := Claim7.holds Tryd.pinned (.plain (OpenSpec.upto encBackSpec)) encBackUptoCard
end Rows
end Go.Proofs.YtgpijioodocplaaDoor
