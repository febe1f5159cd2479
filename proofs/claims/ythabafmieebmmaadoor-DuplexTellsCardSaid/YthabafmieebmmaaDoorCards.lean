/-
  DERIVED. GIVEN WITH THE SEED: THE CARDS: each row of YthabafmieebmmaaDoorRows.lean that lists a variable, with what it lists TIED to the program's text (the seventh form; the later family's looks); each row that meets fmt, with fmt's text TOLD by the authors' own Lean function (tested against real Go, not proved from fmt's source: count such statements apart). THE CARD IS WHAT COUNTS. Prove the row's statement (the work); the ties are given (YthabafmieebmmaaDoorTie.lean); close each card by the builder's one call (the guide's Derived/Test/ToyasCard.lean, 'card_holds'). Laid BY PROGRAM, IN A SANDBOX (cutbox-door.mjs). By AI agents, Wed Nov 11 2026. No macro, syntax, notation, axiom, sorry.
-/
import Derived.Test.YthabafmieebmmaaDoorRows
import GoSem.ClaimSeven
namespace Go.Proofs.YthabafmieebmmaaDoor
namespace Rows

/-- THE TIED CARD OF 'coxlesslaw11.LegalKnown'. -/
def legalKnownCard : Claim7 := { stood := { row := legalKnownRow, standIns := [], harness := (true, "03d763d436fc5466796b35be6fb1e759326b3c944bbffa4497a44ad4e545ec90"), looks := false }, kinds := [], alts := [], laidByText := true, laidKinds := [.wider, .wider, .wider, .data], laidTests := true, laidLooks := .later }
def LegalKnownCardSaid : Prop := Claim7.holds Tryd.pinned (.plain (OpenSpec.ofChange legalKnownSpec)) legalKnownCard

/-- THE TIED CARD OF 'coxlesslaw07.SubTells'. -/
def subTellsCard : Claim7 := { stood := { row := subTellsRow, standIns := [], harness := (true, "03d763d436fc5466796b35be6fb1e759326b3c944bbffa4497a44ad4e545ec90"), looks := false }, kinds := [], alts := [], laidByText := true, laidKinds := [.data], laidTests := true, laidLooks := .later }
def SubTellsCardSaid : Prop := Claim7.holds Tryd.pinned (.plain (OpenSpec.ofChange subTellsSpec)) subTellsCard

/-- THE TIED CARD OF 'coxlesslaw07.SubBack'. -/
def subBackCard : Claim7 := { stood := { row := subBackRow, standIns := [], harness := (true, "03d763d436fc5466796b35be6fb1e759326b3c944bbffa4497a44ad4e545ec90"), looks := false }, kinds := [], alts := [], laidByText := true, laidKinds := [.data], laidTests := true, laidLooks := .later }
def SubBackCardSaid : Prop := Claim7.holds Tryd.pinned (.plain (OpenSpec.ofChange subBackSpec)) subBackCard

/-- THE TIED CARD OF 'coxlesslaw08.DuplexTells'. -/
def duplexTellsCard : Claim7 := { stood := { row := duplexTellsRow, standIns := [], harness := (true, "03d763d436fc5466796b35be6fb1e759326b3c944bbffa4497a44ad4e545ec90"), looks := false }, kinds := [], alts := [], laidByText := true, laidKinds := [.wider, .wider, .wider, .wider, .data], laidTests := true, laidLooks := .later }
def DuplexTellsCardSaid : Prop := Claim7.holds Tryd.pinned (.plain (OpenSpec.ofChange duplexTellsSpec)) duplexTellsCard

/-- THE TIED CARD OF 'coxlesslaw08.DuplexBack'. -/
def duplexBackCard : Claim7 := { stood := { row := duplexBackRow, standIns := [], harness := (true, "03d763d436fc5466796b35be6fb1e759326b3c944bbffa4497a44ad4e545ec90"), looks := false }, kinds := [], alts := [], laidByText := true, laidKinds := [.wider, .wider, .wider, .wider, .data], laidTests := true, laidLooks := .later }
def DuplexBackCardSaid : Prop := Claim7.holds Tryd.pinned (.plain (OpenSpec.ofChange duplexBackSpec)) duplexBackCard

/-- THE TIED CARD OF 'coxlesslaw08.DuplexForms'. -/
def duplexFormsCard : Claim7 := { stood := { row := duplexFormsRow, standIns := [], harness := (true, "03d763d436fc5466796b35be6fb1e759326b3c944bbffa4497a44ad4e545ec90"), looks := false }, kinds := [], alts := [], laidByText := true, laidKinds := [.wider, .wider, .wider, .wider, .data], laidTests := true, laidLooks := .later }
def DuplexFormsCardSaid : Prop := Claim7.holds Tryd.pinned (.plain (OpenSpec.ofChange duplexFormsSpec)) duplexFormsCard

/-- THE TIED CARD OF 'coxlesslaw07.SubAll'. -/
def subAllCard : Claim7 := { stood := { row := subAllRow, standIns := [], harness := (true, "03d763d436fc5466796b35be6fb1e759326b3c944bbffa4497a44ad4e545ec90"), looks := false }, kinds := [], alts := [], laidByText := true, laidKinds := [.data], laidTests := true, laidLooks := .later }
def SubAllCardSaid : Prop := Claim7.holds Tryd.pinned (.plain (OpenSpec.ofChange subAllSpec)) subAllCard

/-- THE SECOND FORM's CARD OF 'coxlesslaw11.LegalKnown'. -/
def legalKnownUptoCard : Claim7 := { stood := { row := legalKnownUptoRow, standIns := [], harness := (true, "03d763d436fc5466796b35be6fb1e759326b3c944bbffa4497a44ad4e545ec90"), looks := false }, kinds := [], alts := [], laidByText := true, laidKinds := [.wider, .wider, .wider, .data], laidTests := true, laidLooks := .later }
def LegalKnownUptoCardSaid : Prop := Claim7.holds Tryd.pinned (.plain (OpenSpec.upto legalKnownSpec)) legalKnownUptoCard

/-- THE SECOND FORM's CARD OF 'coxlesslaw07.SubTells'. -/
def subTellsUptoCard : Claim7 := { stood := { row := subTellsUptoRow, standIns := [], harness := (true, "03d763d436fc5466796b35be6fb1e759326b3c944bbffa4497a44ad4e545ec90"), looks := false }, kinds := [], alts := [], laidByText := true, laidKinds := [.data], laidTests := true, laidLooks := .later }
def SubTellsUptoCardSaid : Prop := Claim7.holds Tryd.pinned (.plain (OpenSpec.upto subTellsSpec)) subTellsUptoCard

/-- THE SECOND FORM's CARD OF 'coxlesslaw07.SubBack'. -/
def subBackUptoCard : Claim7 := { stood := { row := subBackUptoRow, standIns := [], harness := (true, "03d763d436fc5466796b35be6fb1e759326b3c944bbffa4497a44ad4e545ec90"), looks := false }, kinds := [], alts := [], laidByText := true, laidKinds := [.data], laidTests := true, laidLooks := .later }
def SubBackUptoCardSaid : Prop := Claim7.holds Tryd.pinned (.plain (OpenSpec.upto subBackSpec)) subBackUptoCard

/-- THE SECOND FORM's CARD OF 'coxlesslaw08.DuplexTells'. -/
def duplexTellsUptoCard : Claim7 := { stood := { row := duplexTellsUptoRow, standIns := [], harness := (true, "03d763d436fc5466796b35be6fb1e759326b3c944bbffa4497a44ad4e545ec90"), looks := false }, kinds := [], alts := [], laidByText := true, laidKinds := [.wider, .wider, .wider, .wider, .data], laidTests := true, laidLooks := .later }
def DuplexTellsUptoCardSaid : Prop := Claim7.holds Tryd.pinned (.plain (OpenSpec.upto duplexTellsSpec)) duplexTellsUptoCard

/-- THE SECOND FORM's CARD OF 'coxlesslaw08.DuplexBack'. -/
def duplexBackUptoCard : Claim7 := { stood := { row := duplexBackUptoRow, standIns := [], harness := (true, "03d763d436fc5466796b35be6fb1e759326b3c944bbffa4497a44ad4e545ec90"), looks := false }, kinds := [], alts := [], laidByText := true, laidKinds := [.wider, .wider, .wider, .wider, .data], laidTests := true, laidLooks := .later }
def DuplexBackUptoCardSaid : Prop := Claim7.holds Tryd.pinned (.plain (OpenSpec.upto duplexBackSpec)) duplexBackUptoCard

/-- THE SECOND FORM's CARD OF 'coxlesslaw08.DuplexForms'. -/
def duplexFormsUptoCard : Claim7 := { stood := { row := duplexFormsUptoRow, standIns := [], harness := (true, "03d763d436fc5466796b35be6fb1e759326b3c944bbffa4497a44ad4e545ec90"), looks := false }, kinds := [], alts := [], laidByText := true, laidKinds := [.wider, .wider, .wider, .wider, .data], laidTests := true, laidLooks := .later }
def DuplexFormsUptoCardSaid : Prop := Claim7.holds Tryd.pinned (.plain (OpenSpec.upto duplexFormsSpec)) duplexFormsUptoCard

/-- THE SECOND FORM's CARD OF 'coxlesslaw07.SubAll'. -/
def subAllUptoCard : Claim7 := { stood := { row := subAllUptoRow, standIns := [], harness := (true, "03d763d436fc5466796b35be6fb1e759326b3c944bbffa4497a44ad4e545ec90"), looks := false }, kinds := [], alts := [], laidByText := true, laidKinds := [.data], laidTests := true, laidLooks := .later }
def SubAllUptoCardSaid : Prop := Claim7.holds Tryd.pinned (.plain (OpenSpec.upto subAllSpec)) subAllUptoCard
end Rows
end Go.Proofs.YthabafmieebmmaaDoor
