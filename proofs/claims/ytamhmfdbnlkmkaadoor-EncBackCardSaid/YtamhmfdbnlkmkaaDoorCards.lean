/-
  DERIVED. GIVEN WITH THE SEED: THE CARDS: each row of YtamhmfdbnlkmkaaDoorRows.lean that lists a variable, with what it lists TIED to the program's text (the seventh form; the later family's looks); each row that meets fmt, with fmt's text TOLD by the authors' own Lean function (tested against real Go, not proved from fmt's source: count such statements apart). THE CARD IS WHAT COUNTS. Prove the row's statement (the work); the ties are given (YtamhmfdbnlkmkaaDoorTie.lean); close each card by the builder's one call (the guide's Derived/Test/ToyasCard.lean, 'card_holds'). Laid BY PROGRAM, IN A SANDBOX (cutbox-door.mjs). By AI agents, Wed Nov 11 2026. No macro, syntax, notation, axiom, sorry.
-/
import Derived.Test.YtamhmfdbnlkmkaaDoorRows
import GoSem.ClaimSeven
namespace Go.Proofs.YtamhmfdbnlkmkaaDoor
namespace Rows

/-- THE TIED CARD OF 'coxlesslaw06.EncBack'. -/
def encBackCard : Claim7 := { stood := { row := encBackRow, standIns := [], harness := (true, "f834800b45c4d09689c21745fc09d777aa8bd6b355151e95b5faa760c032973f"), looks := false }, kinds := [], alts := [], laidByText := true, laidKinds := [.wider, .wider, .wider], laidTests := true, laidLooks := .later }
def EncBackCardSaid : Prop := Claim7.holds Tryd.pinned (.plain (OpenSpec.ofChange encBackSpec)) encBackCard

/-- THE TIED CARD OF 'coxlesslaw07.SubAll'. -/
def subAllCard : Claim7 := { stood := { row := subAllRow, standIns := [], harness := (true, "f834800b45c4d09689c21745fc09d777aa8bd6b355151e95b5faa760c032973f"), looks := false }, kinds := [], alts := [], laidByText := true, laidKinds := [.data], laidTests := true, laidLooks := .later }
def SubAllCardSaid : Prop := Claim7.holds Tryd.pinned (.plain (OpenSpec.ofChange subAllSpec)) subAllCard

/-- THE TIED CARD OF 'coxlesslaw11.LegalRow'. -/
def legalRowCard : Claim7 := { stood := { row := legalRowRow, standIns := [], harness := (true, "f834800b45c4d09689c21745fc09d777aa8bd6b355151e95b5faa760c032973f"), looks := false }, kinds := [], alts := [], laidByText := true, laidKinds := [.wider, .wider, .wider, .data], laidTests := true, laidLooks := .later }
def LegalRowCardSaid : Prop := Claim7.holds Tryd.pinned (.plain (OpenSpec.ofChange legalRowSpec)) legalRowCard

/-- THE SECOND FORM's CARD OF 'coxlesslaw06.EncBack'. -/
def encBackUptoCard : Claim7 := { stood := { row := encBackUptoRow, standIns := [], harness := (true, "f834800b45c4d09689c21745fc09d777aa8bd6b355151e95b5faa760c032973f"), looks := false }, kinds := [], alts := [], laidByText := true, laidKinds := [.wider, .wider, .wider], laidTests := true, laidLooks := .later }
def EncBackUptoCardSaid : Prop := Claim7.holds Tryd.pinned (.plain (OpenSpec.upto encBackSpec)) encBackUptoCard

/-- THE SECOND FORM's CARD OF 'coxlesslaw07.SubAll'. -/
def subAllUptoCard : Claim7 := { stood := { row := subAllUptoRow, standIns := [], harness := (true, "f834800b45c4d09689c21745fc09d777aa8bd6b355151e95b5faa760c032973f"), looks := false }, kinds := [], alts := [], laidByText := true, laidKinds := [.data], laidTests := true, laidLooks := .later }
def SubAllUptoCardSaid : Prop := Claim7.holds Tryd.pinned (.plain (OpenSpec.upto subAllSpec)) subAllUptoCard

/-- THE SECOND FORM's CARD OF 'coxlesslaw11.LegalRow'. -/
def legalRowUptoCard : Claim7 := { stood := { row := legalRowUptoRow, standIns := [], harness := (true, "f834800b45c4d09689c21745fc09d777aa8bd6b355151e95b5faa760c032973f"), looks := false }, kinds := [], alts := [], laidByText := true, laidKinds := [.wider, .wider, .wider, .data], laidTests := true, laidLooks := .later }
def LegalRowUptoCardSaid : Prop := Claim7.holds Tryd.pinned (.plain (OpenSpec.upto legalRowSpec)) legalRowUptoCard
end Rows
end Go.Proofs.YtamhmfdbnlkmkaaDoor
