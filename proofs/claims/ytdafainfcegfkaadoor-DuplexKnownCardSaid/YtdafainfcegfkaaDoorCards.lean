/-
  DERIVED. GIVEN WITH THE SEED: THE CARDS: each row of YtdafainfcegfkaaDoorRows.lean that lists a variable, with what it lists TIED to the program's text (the seventh form; the later family's looks); each row that meets fmt, with fmt's text TOLD by the authors' own Lean function (tested against real Go, not proved from fmt's source: count such statements apart). THE CARD IS WHAT COUNTS. Prove the row's statement (the work); the ties are given (YtdafainfcegfkaaDoorTie.lean); close each card by the builder's one call (the guide's Derived/Test/ToyasCard.lean, 'card_holds'). Laid BY PROGRAM, IN A SANDBOX (cutbox-door.mjs). By AI agents, Wed Nov 11 2026. No macro, syntax, notation, axiom, sorry.
-/
import Derived.Test.YtdafainfcegfkaaDoorRows
import GoSem.ClaimSeven
namespace Go.Proofs.YtdafainfcegfkaaDoor
namespace Rows

/-- THE TIED CARD OF 'coxlesslaw07.SubKnown'. -/
def subKnownCard : Claim7 := { stood := { row := subKnownRow, standIns := [], harness := (true, "94ec5cfa0dff88f6f53981ee2cb4539c30f63e4df68b710c3d4ac4c9a5c7098e"), looks := false }, kinds := [], alts := [], laidByText := true, laidKinds := [.data], laidTests := true, laidLooks := .later }
def SubKnownCardSaid : Prop := Claim7.holds Tryd.pinned (.plain (OpenSpec.ofChange subKnownSpec)) subKnownCard

/-- THE TIED CARD OF 'coxlesslaw08.DuplexKnown'. -/
def duplexKnownCard : Claim7 := { stood := { row := duplexKnownRow, standIns := [], harness := (true, "94ec5cfa0dff88f6f53981ee2cb4539c30f63e4df68b710c3d4ac4c9a5c7098e"), looks := false }, kinds := [], alts := [], laidByText := true, laidKinds := [.wider, .wider, .wider, .wider, .data], laidTests := true, laidLooks := .later }
def DuplexKnownCardSaid : Prop := Claim7.holds Tryd.pinned (.plain (OpenSpec.ofChange duplexKnownSpec)) duplexKnownCard

/-- THE TIED CARD OF 'coxlesslaw06.EncKnown'. -/
def encKnownCard : Claim7 := { stood := { row := encKnownRow, standIns := [], harness := (true, "94ec5cfa0dff88f6f53981ee2cb4539c30f63e4df68b710c3d4ac4c9a5c7098e"), looks := false }, kinds := [], alts := [], laidByText := true, laidKinds := [.wider, .wider, .wider], laidTests := true, laidLooks := .later }
def EncKnownCardSaid : Prop := Claim7.holds Tryd.pinned (.plain (OpenSpec.ofChange encKnownSpec)) encKnownCard

/-- THE TIED CARD OF 'coxlesslaw11.LegalKnown'. -/
def legalKnownCard : Claim7 := { stood := { row := legalKnownRow, standIns := [], harness := (true, "94ec5cfa0dff88f6f53981ee2cb4539c30f63e4df68b710c3d4ac4c9a5c7098e"), looks := false }, kinds := [], alts := [], laidByText := true, laidKinds := [.wider, .wider, .wider, .data], laidTests := true, laidLooks := .later }
def LegalKnownCardSaid : Prop := Claim7.holds Tryd.pinned (.plain (OpenSpec.ofChange legalKnownSpec)) legalKnownCard

/-- THE SECOND FORM's CARD OF 'coxlesslaw07.SubKnown'. -/
def subKnownUptoCard : Claim7 := { stood := { row := subKnownUptoRow, standIns := [], harness := (true, "94ec5cfa0dff88f6f53981ee2cb4539c30f63e4df68b710c3d4ac4c9a5c7098e"), looks := false }, kinds := [], alts := [], laidByText := true, laidKinds := [.data], laidTests := true, laidLooks := .later }
def SubKnownUptoCardSaid : Prop := Claim7.holds Tryd.pinned (.plain (OpenSpec.upto subKnownSpec)) subKnownUptoCard

/-- THE SECOND FORM's CARD OF 'coxlesslaw08.DuplexKnown'. -/
def duplexKnownUptoCard : Claim7 := { stood := { row := duplexKnownUptoRow, standIns := [], harness := (true, "94ec5cfa0dff88f6f53981ee2cb4539c30f63e4df68b710c3d4ac4c9a5c7098e"), looks := false }, kinds := [], alts := [], laidByText := true, laidKinds := [.wider, .wider, .wider, .wider, .data], laidTests := true, laidLooks := .later }
def DuplexKnownUptoCardSaid : Prop := Claim7.holds Tryd.pinned (.plain (OpenSpec.upto duplexKnownSpec)) duplexKnownUptoCard

/-- THE SECOND FORM's CARD OF 'coxlesslaw06.EncKnown'. -/
def encKnownUptoCard : Claim7 := { stood := { row := encKnownUptoRow, standIns := [], harness := (true, "94ec5cfa0dff88f6f53981ee2cb4539c30f63e4df68b710c3d4ac4c9a5c7098e"), looks := false }, kinds := [], alts := [], laidByText := true, laidKinds := [.wider, .wider, .wider], laidTests := true, laidLooks := .later }
def EncKnownUptoCardSaid : Prop := Claim7.holds Tryd.pinned (.plain (OpenSpec.upto encKnownSpec)) encKnownUptoCard

/-- THE SECOND FORM's CARD OF 'coxlesslaw11.LegalKnown'. -/
def legalKnownUptoCard : Claim7 := { stood := { row := legalKnownUptoRow, standIns := [], harness := (true, "94ec5cfa0dff88f6f53981ee2cb4539c30f63e4df68b710c3d4ac4c9a5c7098e"), looks := false }, kinds := [], alts := [], laidByText := true, laidKinds := [.wider, .wider, .wider, .data], laidTests := true, laidLooks := .later }
def LegalKnownUptoCardSaid : Prop := Claim7.holds Tryd.pinned (.plain (OpenSpec.upto legalKnownSpec)) legalKnownUptoCard
end Rows
end Go.Proofs.YtdafainfcegfkaaDoor
