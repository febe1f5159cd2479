/-
  NARROWER THAN 'FOR EVERY INPUT', by the rows' own cells (each row's printed sentence says how): PackKnown: laid · UnpackKnown: laid · RelaxKnown: laid · ImageKnown: laid.
  DERIVED. THE GIVEN ROWS OF THIS SEAT. 4 by the template 'for every input the law returns true; each argument reads behind the call as it read before'; 0 by the template 'total and deterministic' (their statements: YthabafmieebmmaaGreatDoorTotals.lean).
  GIVEN WITH THE SEED: the statements are not yours to turn. If you find one false, say at which input.
  Laid BY PROGRAM, IN A SANDBOX (cutbox-rows.mjs): the forced cells as the released guide's own fill.sh prints them over the translation 403c248da83e1ece… (all of the seat's roots in one cut). By AI agents, Wed Nov 11 2026. No macro, syntax, notation, axiom, sorry.
-/
import Derived.Test.YthabafmieebmmaaGreatDoorChecked
import GoSem.Claim
import GoSem.ClaimJoined
import GoSem.ClaimMapViews
import Derived.JoinedTies
import Derived.KernelRfl
namespace Go.Proofs.YthabafmieebmmaaGreatDoor
/- THE CELL 'sum', in the pinned program and in every row, IS THE sha256 OF THE DUMP (.gsa) THAT YthabafmieebmmaaGreatDoorProg.lean LOADS. Nothing in Lean hashes anything: it is a label: what it is worth is what the hold of that sum in a sandbox is worth. -/
noncomputable def Tryz.pinned : Pinned := { name := "ythabafmieebmmaagreatdoor", sum := "403c248da83e1ecec7820bbe7e35a72c3e7b78801145b2b2d092118e74b0b325", checked := Tryz.checked }
namespace Rows
def none {H : Type} : Left H := { results := [], args := [] }

/- WHAT THE LISTED PACKAGE-LEVEL VARIABLES READ AS WHEN THE CALL BEGINS. Each datum BY PROGRAM (the guide's laid-datum.mjs) off the statement by which the dump's own 'gosem.cut.vars' lays the variable. In a bare row this is a premise. The card (YthabafmieebmmaaGreatDoorCards.lean) ties it to the program's text. -/
def laid_coxless_bits_codeAt {H : Type} : DataW H := .agg [.lit (.int .i64 26), .lit (.int .i64 6)]
def laid_coxless_bits_ends {H : Type} : DataW H := .agg [.agg [.lit (.int .i64 0), .lit (.int .i64 14)], .agg [.lit (.int .i64 16), .lit (.int .i64 10)]]
def laid_coxless_bits_parseAt {H : Type} : DataW H := .agg [.lit (.int .i64 14), .lit (.int .i64 2)]
def laid_coxless_bits_upper {H : Type} : DataW H := .agg [.lit (.int .i64 16), .lit (.int .i64 16)]
def laid_coxless_sub_rows {H : Type} : DataW H := .slice [.agg [.lit (.int .u8 8), .agg [.agg [.lit (.int .i64 1), .lit (.int .i64 4), .lit (.int .i64 0)], .agg [.lit (.int .i64 5), .lit (.int .i64 7), .lit (.int .i64 0)], .agg [.lit (.int .i64 0), .lit (.int .i64 0), .lit (.int .i64 0)]]], .agg [.lit (.int .u8 7), .agg [.agg [.lit (.int .i64 4), .lit (.int .i64 4), .lit (.int .i64 0)], .agg [.lit (.int .i64 6), .lit (.int .i64 7), .lit (.int .i64 0)], .agg [.lit (.int .i64 0), .lit (.int .i64 0), .lit (.int .i64 0)]]], .agg [.lit (.int .u8 9), .agg [.agg [.lit (.int .i64 1), .lit (.int .i64 4), .lit (.int .i64 0)], .agg [.lit (.int .i64 2), .lit (.int .i64 4), .lit (.int .i64 0)], .agg [.lit (.int .i64 0), .lit (.int .i64 0), .lit (.int .i64 0)]]], .agg [.lit (.int .u8 2), .agg [.agg [.lit (.int .i64 4), .lit (.int .i64 4), .lit (.int .i64 0)], .agg [.lit (.int .i64 3), .lit (.int .i64 4), .lit (.int .i64 0)], .agg [.lit (.int .i64 0), .lit (.int .i64 0), .lit (.int .i64 0)]]], .agg [.lit (.int .u8 21), .agg [.agg [.lit (.int .i64 1), .lit (.int .i64 4), .lit (.int .i64 0)], .agg [.lit (.int .i64 2), .lit (.int .i64 4), .lit (.int .i64 0)], .agg [.lit (.int .i64 5), .lit (.int .i64 3), .lit (.int .i64 2)]]], .agg [.lit (.int .u8 24), .agg [.agg [.lit (.int .i64 2), .lit (.int .i64 4), .lit (.int .i64 0)], .agg [.lit (.int .i64 3), .lit (.int .i64 4), .lit (.int .i64 0)], .agg [.lit (.int .i64 5), .lit (.int .i64 3), .lit (.int .i64 2)]]], .agg [.lit (.int .u8 23), .agg [.agg [.lit (.int .i64 1), .lit (.int .i64 4), .lit (.int .i64 0)], .agg [.lit (.int .i64 2), .lit (.int .i64 4), .lit (.int .i64 0)], .agg [.lit (.int .i64 5), .lit (.int .i64 3), .lit (.int .i64 0)]]], .agg [.lit (.int .u8 26), .agg [.agg [.lit (.int .i64 2), .lit (.int .i64 4), .lit (.int .i64 0)], .agg [.lit (.int .i64 3), .lit (.int .i64 4), .lit (.int .i64 0)], .agg [.lit (.int .i64 5), .lit (.int .i64 3), .lit (.int .i64 0)]]], .agg [.lit (.int .u8 13), .agg [.agg [.lit (.int .i64 2), .lit (.int .i64 4), .lit (.int .i64 0)], .agg [.lit (.int .i64 5), .lit (.int .i64 7), .lit (.int .i64 0)], .agg [.lit (.int .i64 0), .lit (.int .i64 0), .lit (.int .i64 0)]]]] []

/-- 'coxlesslaw12.PackKnown': WHATEVER THE INPUT: true; the input reads as it did. -/
def packKnownSpec : ChangeSpec := { name := "packKnown", fn := fun _ => fun
  | [] => { results := [.lit (.bool true)], args := [] }
  | _ => none }
def packKnownRow : OpenClaim := { program := "ythabafmieebmmaagreatdoor", sum := "403c248da83e1ecec7820bbe7e35a72c3e7b78801145b2b2d092118e74b0b325", func := "coxless/coxlesslaw12.PackKnown", spec := "packKnown", unfollowed := true, recurses := true, named := ["coxless/sub.rows", "coxless/bits.ends", "coxless/bits.upper", "coxless/bits.parseAt", "coxless/bits.codeAt"], apart := false, laid := [("coxless/bits.codeAt", laid_coxless_bits_codeAt), ("coxless/bits.ends", laid_coxless_bits_ends), ("coxless/bits.parseAt", laid_coxless_bits_parseAt), ("coxless/bits.upper", laid_coxless_bits_upper), ("coxless/sub.rows", laid_coxless_sub_rows)] }
def PackKnownSaid : Prop := packKnownRow.holds Tryz.pinned (OpenSpec.ofChange packKnownSpec)

/-- ITS FALSE NEIGHBOUR: 'it returns false'. Refute it at one input. -/
def packKnownWrong : ChangeSpec := { name := "packKnown", fn := fun _ => fun
  | [] => { results := [.lit (.bool false)], args := [] }
  | _ => none }
def PackKnownWrongFalsely : Prop := packKnownRow.holds Tryz.pinned (OpenSpec.ofChange packKnownWrong)

/-- 'coxlesslaw13.UnpackKnown': WHATEVER THE INPUT: true; the input reads as it did. -/
def unpackKnownSpec : ChangeSpec := { name := "unpackKnown", fn := fun _ => fun
  | [] => { results := [.lit (.bool true)], args := [] }
  | _ => none }
def unpackKnownRow : OpenClaim := { program := "ythabafmieebmmaagreatdoor", sum := "403c248da83e1ecec7820bbe7e35a72c3e7b78801145b2b2d092118e74b0b325", func := "coxless/coxlesslaw13.UnpackKnown", spec := "unpackKnown", unfollowed := true, recurses := true, named := ["coxless/bits.ends", "coxless/bits.codeAt", "coxless/bits.parseAt", "coxless/bits.upper", "coxless/sub.rows"], apart := false, laid := [("coxless/bits.codeAt", laid_coxless_bits_codeAt), ("coxless/bits.ends", laid_coxless_bits_ends), ("coxless/bits.parseAt", laid_coxless_bits_parseAt), ("coxless/bits.upper", laid_coxless_bits_upper), ("coxless/sub.rows", laid_coxless_sub_rows)] }
def UnpackKnownSaid : Prop := unpackKnownRow.holds Tryz.pinned (OpenSpec.ofChange unpackKnownSpec)

/-- ITS FALSE NEIGHBOUR: 'it returns false'. Refute it at one input. -/
def unpackKnownWrong : ChangeSpec := { name := "unpackKnown", fn := fun _ => fun
  | [] => { results := [.lit (.bool false)], args := [] }
  | _ => none }
def UnpackKnownWrongFalsely : Prop := unpackKnownRow.holds Tryz.pinned (OpenSpec.ofChange unpackKnownWrong)

/-- 'coxlesslaw19.RelaxKnown': WHATEVER THE INPUT: true; the input reads as it did. -/
def relaxKnownSpec : ChangeSpec := { name := "relaxKnown", fn := fun _ => fun
  | [] => { results := [.lit (.bool true)], args := [] }
  | _ => none }
def relaxKnownRow : OpenClaim := { program := "ythabafmieebmmaagreatdoor", sum := "403c248da83e1ecec7820bbe7e35a72c3e7b78801145b2b2d092118e74b0b325", func := "coxless/coxlesslaw19.RelaxKnown", spec := "relaxKnown", unfollowed := true, recurses := true, named := ["coxless/sub.rows", "coxless/bits.ends", "coxless/bits.upper", "coxless/bits.parseAt"], apart := false, laid := [("coxless/bits.ends", laid_coxless_bits_ends), ("coxless/bits.parseAt", laid_coxless_bits_parseAt), ("coxless/bits.upper", laid_coxless_bits_upper), ("coxless/sub.rows", laid_coxless_sub_rows)] }
def RelaxKnownSaid : Prop := relaxKnownRow.holds Tryz.pinned (OpenSpec.ofChange relaxKnownSpec)

/-- ITS FALSE NEIGHBOUR: 'it returns false'. Refute it at one input. -/
def relaxKnownWrong : ChangeSpec := { name := "relaxKnown", fn := fun _ => fun
  | [] => { results := [.lit (.bool false)], args := [] }
  | _ => none }
def RelaxKnownWrongFalsely : Prop := relaxKnownRow.holds Tryz.pinned (OpenSpec.ofChange relaxKnownWrong)

/-- 'coxlesslaw20.ImageKnown': WHATEVER THE INPUT: true; the input reads as it did. -/
def imageKnownSpec : ChangeSpec := { name := "imageKnown", fn := fun _ => fun
  | [] => { results := [.lit (.bool true)], args := [] }
  | _ => none }
def imageKnownRow : OpenClaim := { program := "ythabafmieebmmaagreatdoor", sum := "403c248da83e1ecec7820bbe7e35a72c3e7b78801145b2b2d092118e74b0b325", func := "coxless/coxlesslaw20.ImageKnown", spec := "imageKnown", unfollowed := true, recurses := true, named := ["coxless/sub.rows", "coxless/bits.ends", "coxless/bits.upper", "coxless/bits.parseAt", "coxless/bits.codeAt"], apart := false, laid := [("coxless/bits.codeAt", laid_coxless_bits_codeAt), ("coxless/bits.ends", laid_coxless_bits_ends), ("coxless/bits.parseAt", laid_coxless_bits_parseAt), ("coxless/bits.upper", laid_coxless_bits_upper), ("coxless/sub.rows", laid_coxless_sub_rows)] }
def ImageKnownSaid : Prop := imageKnownRow.holds Tryz.pinned (OpenSpec.ofChange imageKnownSpec)

/-- ITS FALSE NEIGHBOUR: 'it returns false'. Refute it at one input. -/
def imageKnownWrong : ChangeSpec := { name := "imageKnown", fn := fun _ => fun
  | [] => { results := [.lit (.bool false)], args := [] }
  | _ => none }
def ImageKnownWrongFalsely : Prop := imageKnownRow.holds Tryz.pinned (OpenSpec.ofChange imageKnownWrong)

/- THE SECOND FORM. 'bulk': how many values and letters a reading holds, each counted each time it is reached (what is shared counts as often as it is met; a slice's spare places count too). A statement '..UptoSaid' is the law's where the arguments, and the package variables that the reading takes, are together of bulk at most 1048576: NARROWER than '..Said'. Prove '..Said' where nothing that the law and all that it calls make is longer than what came in: it says more and counts as full. Else prove '..UptoSaid'. A law counts once. -/
mutual
def uptoBulk {H : Type} : DataW H → Nat
  | .lit (.string bytes) => bytes.length + 1
  | .lit _ => 1
  | .nil => 1
  | .ptr d => uptoBulk d + 1
  | .slice elems spare => uptoBulkAll elems + uptoBulkAll spare + 1
  | .agg parts => uptoBulkAll parts + 1
  | .iface _ d => uptoBulk d + 1
  | .map entries => uptoBulkEntries entries + 1
  | .held _ => 1
def uptoBulkAll {H : Type} : List (DataW H) → Nat
  | [] => 0
  | d :: r => uptoBulk d + uptoBulkAll r
def uptoBulkEntries {H : Type} : List (Lit × DataW H) → Nat
  | [] => 0
  | x :: r => uptoBulkEntry x + uptoBulkEntries r
def uptoBulkEntry {H : Type} : Lit × DataW H → Nat
  | (.string bytes, d) => bytes.length + uptoBulk d + 1
  | (_, d) => uptoBulk d + 1
 end
def uptoSmall : (H : Type) → List (DataW H) → Bool := fun _ ds => decide (uptoBulkAll ds ≤ 1048576)
def OpenSpec.upto (s : _root_.Go.ChangeSpec) : _root_.Go.OpenSpec := { _root_.Go.OpenSpec.ofChange s with cond := some uptoSmall }

/-- 'coxlesslaw12.PackKnown', WHERE WHAT IT READS IS OF BULK AT MOST 1048576: true; the input reads as it did. -/
def packKnownUptoRow : OpenClaim := { program := "ythabafmieebmmaagreatdoor", sum := "403c248da83e1ecec7820bbe7e35a72c3e7b78801145b2b2d092118e74b0b325", func := "coxless/coxlesslaw12.PackKnown", spec := "packKnown", unfollowed := true, recurses := true, named := ["coxless/sub.rows", "coxless/bits.ends", "coxless/bits.upper", "coxless/bits.parseAt", "coxless/bits.codeAt"], apart := false, laid := [("coxless/bits.codeAt", laid_coxless_bits_codeAt), ("coxless/bits.ends", laid_coxless_bits_ends), ("coxless/bits.parseAt", laid_coxless_bits_parseAt), ("coxless/bits.upper", laid_coxless_bits_upper), ("coxless/sub.rows", laid_coxless_sub_rows)], narrowed := true }
def PackKnownUptoSaid : Prop := packKnownUptoRow.holds Tryz.pinned (OpenSpec.upto packKnownSpec)

/-- 'coxlesslaw13.UnpackKnown', WHERE WHAT IT READS IS OF BULK AT MOST 1048576: true; the input reads as it did. -/
def unpackKnownUptoRow : OpenClaim := { program := "ythabafmieebmmaagreatdoor", sum := "403c248da83e1ecec7820bbe7e35a72c3e7b78801145b2b2d092118e74b0b325", func := "coxless/coxlesslaw13.UnpackKnown", spec := "unpackKnown", unfollowed := true, recurses := true, named := ["coxless/bits.ends", "coxless/bits.codeAt", "coxless/bits.parseAt", "coxless/bits.upper", "coxless/sub.rows"], apart := false, laid := [("coxless/bits.codeAt", laid_coxless_bits_codeAt), ("coxless/bits.ends", laid_coxless_bits_ends), ("coxless/bits.parseAt", laid_coxless_bits_parseAt), ("coxless/bits.upper", laid_coxless_bits_upper), ("coxless/sub.rows", laid_coxless_sub_rows)], narrowed := true }
def UnpackKnownUptoSaid : Prop := unpackKnownUptoRow.holds Tryz.pinned (OpenSpec.upto unpackKnownSpec)

/-- 'coxlesslaw19.RelaxKnown', WHERE WHAT IT READS IS OF BULK AT MOST 1048576: true; the input reads as it did. -/
def relaxKnownUptoRow : OpenClaim := { program := "ythabafmieebmmaagreatdoor", sum := "403c248da83e1ecec7820bbe7e35a72c3e7b78801145b2b2d092118e74b0b325", func := "coxless/coxlesslaw19.RelaxKnown", spec := "relaxKnown", unfollowed := true, recurses := true, named := ["coxless/sub.rows", "coxless/bits.ends", "coxless/bits.upper", "coxless/bits.parseAt"], apart := false, laid := [("coxless/bits.ends", laid_coxless_bits_ends), ("coxless/bits.parseAt", laid_coxless_bits_parseAt), ("coxless/bits.upper", laid_coxless_bits_upper), ("coxless/sub.rows", laid_coxless_sub_rows)], narrowed := true }
def RelaxKnownUptoSaid : Prop := relaxKnownUptoRow.holds Tryz.pinned (OpenSpec.upto relaxKnownSpec)

/-- 'coxlesslaw20.ImageKnown', WHERE WHAT IT READS IS OF BULK AT MOST 1048576: true; the input reads as it did. -/
def imageKnownUptoRow : OpenClaim := { program := "ythabafmieebmmaagreatdoor", sum := "403c248da83e1ecec7820bbe7e35a72c3e7b78801145b2b2d092118e74b0b325", func := "coxless/coxlesslaw20.ImageKnown", spec := "imageKnown", unfollowed := true, recurses := true, named := ["coxless/sub.rows", "coxless/bits.ends", "coxless/bits.upper", "coxless/bits.parseAt", "coxless/bits.codeAt"], apart := false, laid := [("coxless/bits.codeAt", laid_coxless_bits_codeAt), ("coxless/bits.ends", laid_coxless_bits_ends), ("coxless/bits.parseAt", laid_coxless_bits_parseAt), ("coxless/bits.upper", laid_coxless_bits_upper), ("coxless/sub.rows", laid_coxless_sub_rows)], narrowed := true }
def ImageKnownUptoSaid : Prop := imageKnownUptoRow.holds Tryz.pinned (OpenSpec.upto imageKnownSpec)

end Rows
end Go.Proofs.YthabafmieebmmaaGreatDoor
