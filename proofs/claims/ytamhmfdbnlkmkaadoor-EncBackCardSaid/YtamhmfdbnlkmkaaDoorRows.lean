/-
  NARROWER THAN 'FOR EVERY INPUT', by the rows' own cells (each row's printed sentence says how): EncBack: laid · SubAll: laid · LegalRow: laid.
  DERIVED. THE GIVEN ROWS OF THIS SEAT. 3 by the template 'for every input the law returns true; each argument reads behind the call as it read before'; 0 by the template 'total and deterministic' (their statements: YtamhmfdbnlkmkaaDoorTotals.lean).
  GIVEN WITH THE SEED: the statements are not yours to turn. If you find one false, say at which input.
  Laid BY PROGRAM, IN A SANDBOX (cutbox-rows.mjs): the forced cells as the released guide's own fill.sh prints them over the translation 23d2d37aeed09961… (all of the seat's roots in one cut). By AI agents, Wed Nov 11 2026. No macro, syntax, notation, axiom, sorry.
-/
import Derived.Test.YtamhmfdbnlkmkaaDoorChecked
import GoSem.Claim
import GoSem.ClaimJoined
import GoSem.ClaimMapViews
import Derived.JoinedTies
import Derived.KernelRfl
namespace Go.Proofs.YtamhmfdbnlkmkaaDoor
/- THE CELL 'sum', in the pinned program and in every row, IS THE sha256 OF THE DUMP (.gsa) THAT YtamhmfdbnlkmkaaDoorProg.lean LOADS. Nothing in Lean hashes anything: it is a label: what it is worth is what the hold of that sum in a sandbox is worth. -/
noncomputable def Tryd.pinned : Pinned := { name := "ytamhmfdbnlkmkaadoor", sum := "23d2d37aeed09961605f946e1a128b1dcba4ec8db4c3fdebc303d1e61b43e100", checked := Tryd.checked }
namespace Rows
def none {H : Type} : Left H := { results := [], args := [] }

/- WHAT THE LISTED PACKAGE-LEVEL VARIABLES READ AS WHEN THE CALL BEGINS. Each datum BY PROGRAM (the guide's laid-datum.mjs) off the statement by which the dump's own 'gosem.cut.vars' lays the variable. In a bare row this is a premise. The card (YtamhmfdbnlkmkaaDoorCards.lean) ties it to the program's text. -/
def laid_coxless_bits_codeAt {H : Type} : DataW H := .agg [.lit (.int .i64 26), .lit (.int .i64 6)]
def laid_coxless_bits_ends {H : Type} : DataW H := .agg [.agg [.lit (.int .i64 0), .lit (.int .i64 14)], .agg [.lit (.int .i64 16), .lit (.int .i64 10)]]
def laid_coxless_bits_parseAt {H : Type} : DataW H := .agg [.lit (.int .i64 14), .lit (.int .i64 2)]
def laid_coxless_sub_rows {H : Type} : DataW H := .slice [.agg [.lit (.int .u8 8), .agg [.agg [.lit (.int .i64 1), .lit (.int .i64 4), .lit (.int .i64 0)], .agg [.lit (.int .i64 5), .lit (.int .i64 7), .lit (.int .i64 0)], .agg [.lit (.int .i64 0), .lit (.int .i64 0), .lit (.int .i64 0)]]], .agg [.lit (.int .u8 7), .agg [.agg [.lit (.int .i64 4), .lit (.int .i64 4), .lit (.int .i64 0)], .agg [.lit (.int .i64 6), .lit (.int .i64 7), .lit (.int .i64 0)], .agg [.lit (.int .i64 0), .lit (.int .i64 0), .lit (.int .i64 0)]]], .agg [.lit (.int .u8 9), .agg [.agg [.lit (.int .i64 1), .lit (.int .i64 4), .lit (.int .i64 0)], .agg [.lit (.int .i64 2), .lit (.int .i64 4), .lit (.int .i64 0)], .agg [.lit (.int .i64 0), .lit (.int .i64 0), .lit (.int .i64 0)]]], .agg [.lit (.int .u8 2), .agg [.agg [.lit (.int .i64 4), .lit (.int .i64 4), .lit (.int .i64 0)], .agg [.lit (.int .i64 3), .lit (.int .i64 4), .lit (.int .i64 0)], .agg [.lit (.int .i64 0), .lit (.int .i64 0), .lit (.int .i64 0)]]], .agg [.lit (.int .u8 21), .agg [.agg [.lit (.int .i64 1), .lit (.int .i64 4), .lit (.int .i64 0)], .agg [.lit (.int .i64 2), .lit (.int .i64 4), .lit (.int .i64 0)], .agg [.lit (.int .i64 5), .lit (.int .i64 3), .lit (.int .i64 2)]]], .agg [.lit (.int .u8 24), .agg [.agg [.lit (.int .i64 2), .lit (.int .i64 4), .lit (.int .i64 0)], .agg [.lit (.int .i64 3), .lit (.int .i64 4), .lit (.int .i64 0)], .agg [.lit (.int .i64 5), .lit (.int .i64 3), .lit (.int .i64 2)]]], .agg [.lit (.int .u8 23), .agg [.agg [.lit (.int .i64 1), .lit (.int .i64 4), .lit (.int .i64 0)], .agg [.lit (.int .i64 2), .lit (.int .i64 4), .lit (.int .i64 0)], .agg [.lit (.int .i64 5), .lit (.int .i64 3), .lit (.int .i64 0)]]], .agg [.lit (.int .u8 26), .agg [.agg [.lit (.int .i64 2), .lit (.int .i64 4), .lit (.int .i64 0)], .agg [.lit (.int .i64 3), .lit (.int .i64 4), .lit (.int .i64 0)], .agg [.lit (.int .i64 5), .lit (.int .i64 3), .lit (.int .i64 0)]]], .agg [.lit (.int .u8 13), .agg [.agg [.lit (.int .i64 2), .lit (.int .i64 4), .lit (.int .i64 0)], .agg [.lit (.int .i64 5), .lit (.int .i64 7), .lit (.int .i64 0)], .agg [.lit (.int .i64 0), .lit (.int .i64 0), .lit (.int .i64 0)]]]] []
def laid_coxless_bits_upper {H : Type} : DataW H := .agg [.lit (.int .i64 16), .lit (.int .i64 16)]

/-- 'coxlesslaw06.EncBack': WHATEVER THE INPUT: true; the input reads as it did. -/
def encBackSpec : ChangeSpec := { name := "encBack", fn := fun _ => fun
  | [d1, d2, d3, d4, d5, d6] => { results := [.lit (.bool true)], args := [d1, d2, d3, d4, d5, d6] }
  | _ => none }
def encBackRow : OpenClaim := { program := "ytamhmfdbnlkmkaadoor", sum := "23d2d37aeed09961605f946e1a128b1dcba4ec8db4c3fdebc303d1e61b43e100", func := "coxless/coxlesslaw06.EncBack", spec := "encBack", named := ["coxless/bits.ends", "coxless/bits.codeAt", "coxless/bits.parseAt"], plainKeys := false, apart := false, laid := [("coxless/bits.codeAt", laid_coxless_bits_codeAt), ("coxless/bits.ends", laid_coxless_bits_ends), ("coxless/bits.parseAt", laid_coxless_bits_parseAt)] }
def EncBackSaid : Prop := encBackRow.holds Tryd.pinned (OpenSpec.ofChange encBackSpec)

/-- ITS FALSE NEIGHBOUR: 'it returns false'. Refute it at one input. -/
def encBackWrong : ChangeSpec := { name := "encBack", fn := fun _ => fun
  | [d1, d2, d3, d4, d5, d6] => { results := [.lit (.bool false)], args := [d1, d2, d3, d4, d5, d6] }
  | _ => none }
def EncBackWrongFalsely : Prop := encBackRow.holds Tryd.pinned (OpenSpec.ofChange encBackWrong)

/-- 'coxlesslaw07.SubAll': WHATEVER THE INPUT: true; the input reads as it did. -/
def subAllSpec : ChangeSpec := { name := "subAll", fn := fun _ => fun
  | [] => { results := [.lit (.bool true)], args := [] }
  | _ => none }
def subAllRow : OpenClaim := { program := "ytamhmfdbnlkmkaadoor", sum := "23d2d37aeed09961605f946e1a128b1dcba4ec8db4c3fdebc303d1e61b43e100", func := "coxless/coxlesslaw07.SubAll", spec := "subAll", named := ["coxless/sub.rows"], plainKeys := false, apart := false, laid := [("coxless/sub.rows", laid_coxless_sub_rows)] }
def SubAllSaid : Prop := subAllRow.holds Tryd.pinned (OpenSpec.ofChange subAllSpec)

/-- ITS FALSE NEIGHBOUR: 'it returns false'. Refute it at one input. -/
def subAllWrong : ChangeSpec := { name := "subAll", fn := fun _ => fun
  | [] => { results := [.lit (.bool false)], args := [] }
  | _ => none }
def SubAllWrongFalsely : Prop := subAllRow.holds Tryd.pinned (OpenSpec.ofChange subAllWrong)

/-- 'coxlesslaw11.LegalRow': WHATEVER THE INPUT: true; the input reads as it did. -/
def legalRowSpec : ChangeSpec := { name := "legalRow", fn := fun _ => fun
  | [d1, d2] => { results := [.lit (.bool true)], args := [d1, d2] }
  | _ => none }
def legalRowRow : OpenClaim := { program := "ytamhmfdbnlkmkaadoor", sum := "23d2d37aeed09961605f946e1a128b1dcba4ec8db4c3fdebc303d1e61b43e100", func := "coxless/coxlesslaw11.LegalRow", spec := "legalRow", unfollowed := true, recurses := true, named := ["coxless/sub.rows", "coxless/bits.ends", "coxless/bits.upper", "coxless/bits.parseAt"], plainKeys := false, apart := false, laid := [("coxless/bits.ends", laid_coxless_bits_ends), ("coxless/bits.parseAt", laid_coxless_bits_parseAt), ("coxless/bits.upper", laid_coxless_bits_upper), ("coxless/sub.rows", laid_coxless_sub_rows)] }
def LegalRowSaid : Prop := legalRowRow.holds Tryd.pinned (OpenSpec.ofChange legalRowSpec)

/-- ITS FALSE NEIGHBOUR: 'it returns false'. Refute it at one input. -/
def legalRowWrong : ChangeSpec := { name := "legalRow", fn := fun _ => fun
  | [d1, d2] => { results := [.lit (.bool false)], args := [d1, d2] }
  | _ => none }
def LegalRowWrongFalsely : Prop := legalRowRow.holds Tryd.pinned (OpenSpec.ofChange legalRowWrong)

/- THE SECOND FORM. 'bulk': how many values and letters a reading holds, each counted each time it is reached (what is shared counts as often as it is met; a slice's spare places count too). A statement '..UptoSaid' is the law's where the arguments, and the package variables that the reading takes, are together of bulk at most 1048576: NARROWER than '..Said'. Prove '..Said' where nothing that the law and all that it calls make is longer than what came in: it says more and counts as full. Else prove '..UptoSaid'. A law counts once. -/
mutual
def uptoBulk {H : Type} : DataW H → Nat
  | .lit (.string bytes) => bytes.length + 1
  | .lit _ => 1
  | .nil => 1
  | .ptr d => uptoBulk d + 1
  | .slice elems spare => uptoBulkAll elems + uptoBulkAll spare + 1
  | .agg parts => uptoBulkAll parts + 1
  | .iface _ d => uptoBulk d + 1
  | .map entries => uptoBulkEntries entries + 1
  | .held _ => 1
def uptoBulkAll {H : Type} : List (DataW H) → Nat
  | [] => 0
  | d :: r => uptoBulk d + uptoBulkAll r
def uptoBulkEntries {H : Type} : List (Lit × DataW H) → Nat
  | [] => 0
  | x :: r => uptoBulkEntry x + uptoBulkEntries r
def uptoBulkEntry {H : Type} : Lit × DataW H → Nat
  | (.string bytes, d) => bytes.length + uptoBulk d + 1
  | (_, d) => uptoBulk d + 1
 end
def uptoSmall : (H : Type) → List (DataW H) → Bool := fun _ ds => decide (uptoBulkAll ds ≤ 1048576)
def OpenSpec.upto (s : _root_.Go.ChangeSpec) : _root_.Go.OpenSpec := { _root_.Go.OpenSpec.ofChange s with cond := some uptoSmall }

/-- 'coxlesslaw06.EncBack', WHERE WHAT IT READS IS OF BULK AT MOST 1048576: true; the input reads as it did. -/
def encBackUptoRow : OpenClaim := { program := "ytamhmfdbnlkmkaadoor", sum := "23d2d37aeed09961605f946e1a128b1dcba4ec8db4c3fdebc303d1e61b43e100", func := "coxless/coxlesslaw06.EncBack", spec := "encBack", named := ["coxless/bits.ends", "coxless/bits.codeAt", "coxless/bits.parseAt"], plainKeys := false, apart := false, laid := [("coxless/bits.codeAt", laid_coxless_bits_codeAt), ("coxless/bits.ends", laid_coxless_bits_ends), ("coxless/bits.parseAt", laid_coxless_bits_parseAt)], narrowed := true }
def EncBackUptoSaid : Prop := encBackUptoRow.holds Tryd.pinned (OpenSpec.upto encBackSpec)

/-- 'coxlesslaw07.SubAll', WHERE WHAT IT READS IS OF BULK AT MOST 1048576: true; the input reads as it did. -/
def subAllUptoRow : OpenClaim := { program := "ytamhmfdbnlkmkaadoor", sum := "23d2d37aeed09961605f946e1a128b1dcba4ec8db4c3fdebc303d1e61b43e100", func := "coxless/coxlesslaw07.SubAll", spec := "subAll", named := ["coxless/sub.rows"], plainKeys := false, apart := false, laid := [("coxless/sub.rows", laid_coxless_sub_rows)], narrowed := true }
def SubAllUptoSaid : Prop := subAllUptoRow.holds Tryd.pinned (OpenSpec.upto subAllSpec)

/-- 'coxlesslaw11.LegalRow', WHERE WHAT IT READS IS OF BULK AT MOST 1048576: true; the input reads as it did. -/
def legalRowUptoRow : OpenClaim := { program := "ytamhmfdbnlkmkaadoor", sum := "23d2d37aeed09961605f946e1a128b1dcba4ec8db4c3fdebc303d1e61b43e100", func := "coxless/coxlesslaw11.LegalRow", spec := "legalRow", unfollowed := true, recurses := true, named := ["coxless/sub.rows", "coxless/bits.ends", "coxless/bits.upper", "coxless/bits.parseAt"], plainKeys := false, apart := false, laid := [("coxless/bits.ends", laid_coxless_bits_ends), ("coxless/bits.parseAt", laid_coxless_bits_parseAt), ("coxless/bits.upper", laid_coxless_bits_upper), ("coxless/sub.rows", laid_coxless_sub_rows)], narrowed := true }
def LegalRowUptoSaid : Prop := legalRowUptoRow.holds Tryd.pinned (OpenSpec.upto legalRowSpec)

end Rows
end Go.Proofs.YtamhmfdbnlkmkaaDoor
