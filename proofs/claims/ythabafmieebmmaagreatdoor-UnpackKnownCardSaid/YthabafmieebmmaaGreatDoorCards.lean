/-
  DERIVED. GIVEN WITH THE SEED: THE CARDS: each row of YthabafmieebmmaaGreatDoorRows.lean that lists a variable, with what it lists TIED to the program's text (the seventh form; the later family's looks); each row that meets fmt, with fmt's text TOLD by the authors' own Lean function (tested against real Go, not proved from fmt's source: count such statements apart). THE CARD IS WHAT COUNTS. Prove the row's statement (the work); the ties are given (YthabafmieebmmaaGreatDoorTie.lean); close each card by the builder's one call (the guide's Derived/Test/ToyasCard.lean, 'card_holds'). Laid BY PROGRAM, IN A SANDBOX (cutbox-door.mjs). By AI agents, Wed Nov 11 2026. No macro, syntax, notation, axiom, sorry.
-/
import Derived.Test.YthabafmieebmmaaGreatDoorRows
import GoSem.ClaimSeven
namespace Go.Proofs.YthabafmieebmmaaGreatDoor
namespace Rows

/-- THE TIED CARD OF 'coxlesslaw12.PackKnown'. -/
def packKnownCard : Claim7 := { stood := { row := packKnownRow, standIns := [], harness := (true, "f4501786524646a995f3f762506574549c17536a287c479756d935f4387ac5e4"), looks := false }, kinds := [], alts := [], laidByText := true, laidKinds := [.wider, .wider, .wider, .wider, .data], laidTests := true, laidLooks := .later }
def PackKnownCardSaid : Prop := Claim7.holds Tryz.pinned (.plain (OpenSpec.ofChange packKnownSpec)) packKnownCard

/-- THE TIED CARD OF 'coxlesslaw13.UnpackKnown'. -/
def unpackKnownCard : Claim7 := { stood := { row := unpackKnownRow, standIns := [], harness := (true, "f4501786524646a995f3f762506574549c17536a287c479756d935f4387ac5e4"), looks := false }, kinds := [], alts := [], laidByText := true, laidKinds := [.wider, .wider, .wider, .wider, .data], laidTests := true, laidLooks := .later }
def UnpackKnownCardSaid : Prop := Claim7.holds Tryz.pinned (.plain (OpenSpec.ofChange unpackKnownSpec)) unpackKnownCard

/-- THE TIED CARD OF 'coxlesslaw19.RelaxKnown'. -/
def relaxKnownCard : Claim7 := { stood := { row := relaxKnownRow, standIns := [], harness := (true, "f4501786524646a995f3f762506574549c17536a287c479756d935f4387ac5e4"), looks := false }, kinds := [], alts := [], laidByText := true, laidKinds := [.wider, .wider, .wider, .data], laidTests := true, laidLooks := .later }
def RelaxKnownCardSaid : Prop := Claim7.holds Tryz.pinned (.plain (OpenSpec.ofChange relaxKnownSpec)) relaxKnownCard

/-- THE TIED CARD OF 'coxlesslaw20.ImageKnown'. -/
def imageKnownCard : Claim7 := { stood := { row := imageKnownRow, standIns := [], harness := (true, "f4501786524646a995f3f762506574549c17536a287c479756d935f4387ac5e4"), looks := false }, kinds := [], alts := [], laidByText := true, laidKinds := [.wider, .wider, .wider, .wider, .data], laidTests := true, laidLooks := .later }
def ImageKnownCardSaid : Prop := Claim7.holds Tryz.pinned (.plain (OpenSpec.ofChange imageKnownSpec)) imageKnownCard

/-- THE SECOND FORM's CARD OF 'coxlesslaw12.PackKnown'. -/
def packKnownUptoCard : Claim7 := { stood := { row := packKnownUptoRow, standIns := [], harness := (true, "f4501786524646a995f3f762506574549c17536a287c479756d935f4387ac5e4"), looks := false }, kinds := [], alts := [], laidByText := true, laidKinds := [.wider, .wider, .wider, .wider, .data], laidTests := true, laidLooks := .later }
def PackKnownUptoCardSaid : Prop := Claim7.holds Tryz.pinned (.plain (OpenSpec.upto packKnownSpec)) packKnownUptoCard

/-- THE SECOND FORM's CARD OF 'coxlesslaw13.UnpackKnown'. -/
def unpackKnownUptoCard : Claim7 := { stood := { row := unpackKnownUptoRow, standIns := [], harness := (true, "f4501786524646a995f3f762506574549c17536a287c479756d935f4387ac5e4"), looks := false }, kinds := [], alts := [], laidByText := true, laidKinds := [.wider, .wider, .wider, .wider, .data], laidTests := true, laidLooks := .later }
def UnpackKnownUptoCardSaid : Prop := Claim7.holds Tryz.pinned (.plain (OpenSpec.upto unpackKnownSpec)) unpackKnownUptoCard

/-- THE SECOND FORM's CARD OF 'coxlesslaw19.RelaxKnown'. -/
def relaxKnownUptoCard : Claim7 := { stood := { row := relaxKnownUptoRow, standIns := [], harness := (true, "f4501786524646a995f3f762506574549c17536a287c479756d935f4387ac5e4"), looks := false }, kinds := [], alts := [], laidByText := true, laidKinds := [.wider, .wider, .wider, .data], laidTests := true, laidLooks := .later }
def RelaxKnownUptoCardSaid : Prop := Claim7.holds Tryz.pinned (.plain (OpenSpec.upto relaxKnownSpec)) relaxKnownUptoCard

/-- THE SECOND FORM's CARD OF 'coxlesslaw20.ImageKnown'. -/
def imageKnownUptoCard : Claim7 := { stood := { row := imageKnownUptoRow, standIns := [], harness := (true, "f4501786524646a995f3f762506574549c17536a287c479756d935f4387ac5e4"), looks := false }, kinds := [], alts := [], laidByText := true, laidKinds := [.wider, .wider, .wider, .wider, .data], laidTests := true, laidLooks := .later }
def ImageKnownUptoCardSaid : Prop := Claim7.holds Tryz.pinned (.plain (OpenSpec.upto imageKnownSpec)) imageKnownUptoCard
end Rows
end Go.Proofs.YthabafmieebmmaaGreatDoor
