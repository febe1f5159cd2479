/-
  NARROWER THAN 'FOR EVERY INPUT', by the rows' own cells (each row's printed sentence says how): SubKnown: laid · DuplexKnown: laid · EncKnown: laid · LegalKnown: laid.
  DERIVED. THE GIVEN ROWS OF THIS SEAT. 4 by the template 'for every input the law returns true; each argument reads behind the call as it read before'; 0 by the template 'total and deterministic' (their statements: YtdafainfcegfkaaDoorTotals.lean).
  GIVEN WITH THE SEED: the statements are not yours to turn. If you find one false, say at which input.
  Laid BY PROGRAM, IN A SANDBOX (cutbox-rows.mjs): the forced cells as the released guide's own fill.sh prints them over the translation 3a40a0bc95165a59… (all of the seat's roots in one cut). By AI agents, Wed Nov 11 2026. No macro, syntax, notation, axiom, sorry.
-/
import Derived.Test.YtdafainfcegfkaaDoorChecked
import GoSem.Claim
import GoSem.ClaimJoined
import GoSem.ClaimMapViews
import Derived.JoinedTies
import Derived.KernelRfl
namespace Go.Proofs.YtdafainfcegfkaaDoor
/- THE CELL 'sum', in the pinned program and in every row, IS THE sha256 OF THE DUMP (.gsa) THAT YtdafainfcegfkaaDoorProg.lean LOADS. Nothing in Lean hashes anything: it is a label: what it is worth is what the hold of that sum in a sandbox is worth. -/
noncomputable def Tryd.pinned : Pinned := { name := "ytdafainfcegfkaadoor", sum := "3a40a0bc95165a59991c8f7dcdeddaf0a05b78e3fa114238fe6d927f8b2148ff", checked := Tryd.checked }
namespace Rows
def none {H : Type} : Left H := { results := [], args := [] }

/- WHAT THE LISTED PACKAGE-LEVEL VARIABLES READ AS WHEN THE CALL BEGINS. Each datum BY PROGRAM (the guide's laid-datum.mjs) off the statement by which the dump's own 'gosem.cut.vars' lays the variable. In a bare row this is a premise. The card (YtdafainfcegfkaaDoorCards.lean) ties it to the program's text. -/
def laid_coxless_sub_rows {H : Type} : DataW H := .slice [.agg [.lit (.int .u8 8), .agg [.agg [.lit (.int .i64 1), .lit (.int .i64 4), .lit (.int .i64 0)], .agg [.lit (.int .i64 5), .lit (.int .i64 7), .lit (.int .i64 0)], .agg [.lit (.int .i64 0), .lit (.int .i64 0), .lit (.int .i64 0)]]], .agg [.lit (.int .u8 7), .agg [.agg [.lit (.int .i64 4), .lit (.int .i64 4), .lit (.int .i64 0)], .agg [.lit (.int .i64 6), .lit (.int .i64 7), .lit (.int .i64 0)], .agg [.lit (.int .i64 0), .lit (.int .i64 0), .lit (.int .i64 0)]]], .agg [.lit (.int .u8 9), .agg [.agg [.lit (.int .i64 1), .lit (.int .i64 4), .lit (.int .i64 0)], .agg [.lit (.int .i64 2), .lit (.int .i64 4), .lit (.int .i64 0)], .agg [.lit (.int .i64 0), .lit (.int .i64 0), .lit (.int .i64 0)]]], .agg [.lit (.int .u8 2), .agg [.agg [.lit (.int .i64 4), .lit (.int .i64 4), .lit (.int .i64 0)], .agg [.lit (.int .i64 3), .lit (.int .i64 4), .lit (.int .i64 0)], .agg [.lit (.int .i64 0), .lit (.int .i64 0), .lit (.int .i64 0)]]], .agg [.lit (.int .u8 21), .agg [.agg [.lit (.int .i64 1), .lit (.int .i64 4), .lit (.int .i64 0)], .agg [.lit (.int .i64 2), .lit (.int .i64 4), .lit (.int .i64 0)], .agg [.lit (.int .i64 5), .lit (.int .i64 3), .lit (.int .i64 2)]]], .agg [.lit (.int .u8 24), .agg [.agg [.lit (.int .i64 2), .lit (.int .i64 4), .lit (.int .i64 0)], .agg [.lit (.int .i64 3), .lit (.int .i64 4), .lit (.int .i64 0)], .agg [.lit (.int .i64 5), .lit (.int .i64 3), .lit (.int .i64 2)]]], .agg [.lit (.int .u8 23), .agg [.agg [.lit (.int .i64 1), .lit (.int .i64 4), .lit (.int .i64 0)], .agg [.lit (.int .i64 2), .lit (.int .i64 4), .lit (.int .i64 0)], .agg [.lit (.int .i64 5), .lit (.int .i64 3), .lit (.int .i64 0)]]], .agg [.lit (.int .u8 26), .agg [.agg [.lit (.int .i64 2), .lit (.int .i64 4), .lit (.int .i64 0)], .agg [.lit (.int .i64 3), .lit (.int .i64 4), .lit (.int .i64 0)], .agg [.lit (.int .i64 5), .lit (.int .i64 3), .lit (.int .i64 0)]]], .agg [.lit (.int .u8 13), .agg [.agg [.lit (.int .i64 2), .lit (.int .i64 4), .lit (.int .i64 0)], .agg [.lit (.int .i64 5), .lit (.int .i64 7), .lit (.int .i64 0)], .agg [.lit (.int .i64 0), .lit (.int .i64 0), .lit (.int .i64 0)]]]] []
def laid_coxless_bits_codeAt {H : Type} : DataW H := .agg [.lit (.int .i64 26), .lit (.int .i64 6)]
def laid_coxless_bits_ends {H : Type} : DataW H := .agg [.agg [.lit (.int .i64 0), .lit (.int .i64 14)], .agg [.lit (.int .i64 16), .lit (.int .i64 10)]]
def laid_coxless_bits_parseAt {H : Type} : DataW H := .agg [.lit (.int .i64 14), .lit (.int .i64 2)]
def laid_coxless_bits_upper {H : Type} : DataW H := .agg [.lit (.int .i64 16), .lit (.int .i64 16)]

/-- 'coxlesslaw07.SubKnown': WHATEVER THE INPUT: true; the input reads as it did. -/
def subKnownSpec : ChangeSpec := { name := "subKnown", fn := fun _ => fun
  | [] => { results := [.lit (.bool true)], args := [] }
  | _ => none }
def subKnownRow : OpenClaim := { program := "ytdafainfcegfkaadoor", sum := "3a40a0bc95165a59991c8f7dcdeddaf0a05b78e3fa114238fe6d927f8b2148ff", func := "coxless/coxlesslaw07.SubKnown", spec := "subKnown", named := ["coxless/sub.rows"], apart := false, laid := [("coxless/sub.rows", laid_coxless_sub_rows)] }
def SubKnownSaid : Prop := subKnownRow.holds Tryd.pinned (OpenSpec.ofChange subKnownSpec)

/-- ITS FALSE NEIGHBOUR: 'it returns false'. Refute it at one input. -/
def subKnownWrong : ChangeSpec := { name := "subKnown", fn := fun _ => fun
  | [] => { results := [.lit (.bool false)], args := [] }
  | _ => none }
def SubKnownWrongFalsely : Prop := subKnownRow.holds Tryd.pinned (OpenSpec.ofChange subKnownWrong)

/-- 'coxlesslaw08.DuplexKnown': WHATEVER THE INPUT: true; the input reads as it did. -/
def duplexKnownSpec : ChangeSpec := { name := "duplexKnown", fn := fun _ => fun
  | [] => { results := [.lit (.bool true)], args := [] }
  | _ => none }
def duplexKnownRow : OpenClaim := { program := "ytdafainfcegfkaadoor", sum := "3a40a0bc95165a59991c8f7dcdeddaf0a05b78e3fa114238fe6d927f8b2148ff", func := "coxless/coxlesslaw08.DuplexKnown", spec := "duplexKnown", named := ["coxless/sub.rows", "coxless/bits.ends", "coxless/bits.upper", "coxless/bits.parseAt", "coxless/bits.codeAt"], apart := false, laid := [("coxless/bits.codeAt", laid_coxless_bits_codeAt), ("coxless/bits.ends", laid_coxless_bits_ends), ("coxless/bits.parseAt", laid_coxless_bits_parseAt), ("coxless/bits.upper", laid_coxless_bits_upper), ("coxless/sub.rows", laid_coxless_sub_rows)] }
def DuplexKnownSaid : Prop := duplexKnownRow.holds Tryd.pinned (OpenSpec.ofChange duplexKnownSpec)

/-- ITS FALSE NEIGHBOUR: 'it returns false'. Refute it at one input. -/
def duplexKnownWrong : ChangeSpec := { name := "duplexKnown", fn := fun _ => fun
  | [] => { results := [.lit (.bool false)], args := [] }
  | _ => none }
def DuplexKnownWrongFalsely : Prop := duplexKnownRow.holds Tryd.pinned (OpenSpec.ofChange duplexKnownWrong)

/-- 'coxlesslaw06.EncKnown': WHATEVER THE INPUT: true; the input reads as it did. -/
def encKnownSpec : ChangeSpec := { name := "encKnown", fn := fun _ => fun
  | [] => { results := [.lit (.bool true)], args := [] }
  | _ => none }
def encKnownRow : OpenClaim := { program := "ytdafainfcegfkaadoor", sum := "3a40a0bc95165a59991c8f7dcdeddaf0a05b78e3fa114238fe6d927f8b2148ff", func := "coxless/coxlesslaw06.EncKnown", spec := "encKnown", named := ["coxless/bits.codeAt", "coxless/bits.ends", "coxless/bits.parseAt"], apart := false, laid := [("coxless/bits.codeAt", laid_coxless_bits_codeAt), ("coxless/bits.ends", laid_coxless_bits_ends), ("coxless/bits.parseAt", laid_coxless_bits_parseAt)] }
def EncKnownSaid : Prop := encKnownRow.holds Tryd.pinned (OpenSpec.ofChange encKnownSpec)

/-- ITS FALSE NEIGHBOUR: 'it returns false'. Refute it at one input. -/
def encKnownWrong : ChangeSpec := { name := "encKnown", fn := fun _ => fun
  | [] => { results := [.lit (.bool false)], args := [] }
  | _ => none }
def EncKnownWrongFalsely : Prop := encKnownRow.holds Tryd.pinned (OpenSpec.ofChange encKnownWrong)

/-- 'coxlesslaw11.LegalKnown': WHATEVER THE INPUT: true; the input reads as it did. -/
def legalKnownSpec : ChangeSpec := { name := "legalKnown", fn := fun _ => fun
  | [] => { results := [.lit (.bool true)], args := [] }
  | _ => none }
def legalKnownRow : OpenClaim := { program := "ytdafainfcegfkaadoor", sum := "3a40a0bc95165a59991c8f7dcdeddaf0a05b78e3fa114238fe6d927f8b2148ff", func := "coxless/coxlesslaw11.LegalKnown", spec := "legalKnown", unfollowed := true, recurses := true, named := ["coxless/sub.rows", "coxless/bits.ends", "coxless/bits.upper", "coxless/bits.parseAt"], apart := false, laid := [("coxless/bits.ends", laid_coxless_bits_ends), ("coxless/bits.parseAt", laid_coxless_bits_parseAt), ("coxless/bits.upper", laid_coxless_bits_upper), ("coxless/sub.rows", laid_coxless_sub_rows)] }
def LegalKnownSaid : Prop := legalKnownRow.holds Tryd.pinned (OpenSpec.ofChange legalKnownSpec)

/-- ITS FALSE NEIGHBOUR: 'it returns false'. Refute it at one input. -/
def legalKnownWrong : ChangeSpec := { name := "legalKnown", fn := fun _ => fun
  | [] => { results := [.lit (.bool false)], args := [] }
  | _ => none }
def LegalKnownWrongFalsely : Prop := legalKnownRow.holds Tryd.pinned (OpenSpec.ofChange legalKnownWrong)

/- THE SECOND FORM. 'bulk': how many values and letters a reading holds, each counted each time it is reached (what is shared counts as often as it is met; a slice's spare places count too). A statement '..UptoSaid' is the law's where the arguments, and the package variables that the reading takes, are together of bulk at most 1048576: NARROWER than '..Said'. Prove '..Said' where nothing that the law and all that it calls make is longer than what came in: it says more and counts as full. Else prove '..UptoSaid'. A law counts once. -/
mutual
def uptoBulk {H : Type} : DataW H → Nat
  | .lit (.string bytes) => bytes.length + 1
  | .lit _ => 1
  | .nil => 1
  | .ptr d => uptoBulk d + 1
  | .slice elems spare => uptoBulkAll elems + uptoBulkAll spare + 1
  | .agg parts => uptoBulkAll parts + 1
  | .iface _ d => uptoBulk d + 1
  | .map entries => uptoBulkEntries entries + 1
  | .held _ => 1
def uptoBulkAll {H : Type} : List (DataW H) → Nat
  | [] => 0
  | d :: r => uptoBulk d + uptoBulkAll r
def uptoBulkEntries {H : Type} : List (Lit × DataW H) → Nat
  | [] => 0
  | x :: r => uptoBulkEntry x + uptoBulkEntries r
def uptoBulkEntry {H : Type} : Lit × DataW H → Nat
  | (.string bytes, d) => bytes.length + uptoBulk d + 1
  | (_, d) => uptoBulk d + 1
 end
def uptoSmall : (H : Type) → List (DataW H) → Bool := fun _ ds => decide (uptoBulkAll ds ≤ 1048576)
def OpenSpec.upto (s : _root_.Go.ChangeSpec) : _root_.Go.OpenSpec := { _root_.Go.OpenSpec.ofChange s with cond := some uptoSmall }

/-- 'coxlesslaw07.SubKnown', WHERE WHAT IT READS IS OF BULK AT MOST 1048576: true; the input reads as it did. -/
def subKnownUptoRow : OpenClaim := { program := "ytdafainfcegfkaadoor", sum := "3a40a0bc95165a59991c8f7dcdeddaf0a05b78e3fa114238fe6d927f8b2148ff", func := "coxless/coxlesslaw07.SubKnown", spec := "subKnown", named := ["coxless/sub.rows"], apart := false, laid := [("coxless/sub.rows", laid_coxless_sub_rows)], narrowed := true }
def SubKnownUptoSaid : Prop := subKnownUptoRow.holds Tryd.pinned (OpenSpec.upto subKnownSpec)

/-- 'coxlesslaw08.DuplexKnown', WHERE WHAT IT READS IS OF BULK AT MOST 1048576: true; the input reads as it did. -/
def duplexKnownUptoRow : OpenClaim := { program := "ytdafainfcegfkaadoor", sum := "3a40a0bc95165a59991c8f7dcdeddaf0a05b78e3fa114238fe6d927f8b2148ff", func := "coxless/coxlesslaw08.DuplexKnown", spec := "duplexKnown", named := ["coxless/sub.rows", "coxless/bits.ends", "coxless/bits.upper", "coxless/bits.parseAt", "coxless/bits.codeAt"], apart := false, laid := [("coxless/bits.codeAt", laid_coxless_bits_codeAt), ("coxless/bits.ends", laid_coxless_bits_ends), ("coxless/bits.parseAt", laid_coxless_bits_parseAt), ("coxless/bits.upper", laid_coxless_bits_upper), ("coxless/sub.rows", laid_coxless_sub_rows)], narrowed := true }
def DuplexKnownUptoSaid : Prop := duplexKnownUptoRow.holds Tryd.pinned (OpenSpec.upto duplexKnownSpec)

/-- 'coxlesslaw06.EncKnown', WHERE WHAT IT READS IS OF BULK AT MOST 1048576: true; the input reads as it did. -/
def encKnownUptoRow : OpenClaim := { program := "ytdafainfcegfkaadoor", sum := "3a40a0bc95165a59991c8f7dcdeddaf0a05b78e3fa114238fe6d927f8b2148ff", func := "coxless/coxlesslaw06.EncKnown", spec := "encKnown", named := ["coxless/bits.codeAt", "coxless/bits.ends", "coxless/bits.parseAt"], apart := false, laid := [("coxless/bits.codeAt", laid_coxless_bits_codeAt), ("coxless/bits.ends", laid_coxless_bits_ends), ("coxless/bits.parseAt", laid_coxless_bits_parseAt)], narrowed := true }
def EncKnownUptoSaid : Prop := encKnownUptoRow.holds Tryd.pinned (OpenSpec.upto encKnownSpec)

/-- 'coxlesslaw11.LegalKnown', WHERE WHAT IT READS IS OF BULK AT MOST 1048576: true; the input reads as it did. -/
def legalKnownUptoRow : OpenClaim := { program := "ytdafainfcegfkaadoor", sum := "3a40a0bc95165a59991c8f7dcdeddaf0a05b78e3fa114238fe6d927f8b2148ff", func := "coxless/coxlesslaw11.LegalKnown", spec := "legalKnown", unfollowed := true, recurses := true, named := ["coxless/sub.rows", "coxless/bits.ends", "coxless/bits.upper", "coxless/bits.parseAt"], apart := false, laid := [("coxless/bits.ends", laid_coxless_bits_ends), ("coxless/bits.parseAt", laid_coxless_bits_parseAt), ("coxless/bits.upper", laid_coxless_bits_upper), ("coxless/sub.rows", laid_coxless_sub_rows)], narrowed := true }
def LegalKnownUptoSaid : Prop := legalKnownUptoRow.holds Tryd.pinned (OpenSpec.upto legalKnownSpec)

end Rows
end Go.Proofs.YtdafainfcegfkaaDoor
