/-
  NARROWER THAN 'FOR EVERY INPUT', by the rows' own cells (each row's printed sentence says how): LegalKnown: laid · SubTells: laid · SubBack: laid · DuplexTells: laid · DuplexBack: laid · DuplexForms: laid · SubAll: laid.
  DERIVED. THE GIVEN ROWS OF THIS SEAT. 7 by the template 'for every input the law returns true; each argument reads behind the call as it read before'; 0 by the template 'total and deterministic' (their statements: YthabafmieebmmaaDoorTotals.lean).
  GIVEN WITH THE SEED: the statements are not yours to turn. If you find one false, say at which input.
  Laid BY PROGRAM, IN A SANDBOX (cutbox-rows.mjs): the forced cells as the released guide's own fill.sh prints them over the translation 83a7c04c79736197… (all of the seat's roots in one cut). By AI agents, Wed Nov 11 2026. No macro, syntax, notation, axiom, sorry.
-/
import Derived.Test.YthabafmieebmmaaDoorChecked
import GoSem.Claim
import GoSem.ClaimJoined
import GoSem.ClaimMapViews
import Derived.JoinedTies
import Derived.KernelRfl
namespace Go.Proofs.YthabafmieebmmaaDoor
/- THE CELL 'sum', in the pinned program and in every row, IS THE sha256 OF THE DUMP (.gsa) THAT YthabafmieebmmaaDoorProg.lean LOADS. Nothing in Lean hashes anything: it is a label: what it is worth is what the hold of that sum in a sandbox is worth. -/
noncomputable def Tryd.pinned : Pinned := { name := "ythabafmieebmmaadoor", sum := "83a7c04c79736197098b6f72a21ee1456ae0add9a89d50ddb1455b6b5b5a0189", checked := Tryd.checked }
namespace Rows
def none {H : Type} : Left H := { results := [], args := [] }

/- WHAT THE LISTED PACKAGE-LEVEL VARIABLES READ AS WHEN THE CALL BEGINS. Each datum BY PROGRAM (the guide's laid-datum.mjs) off the statement by which the dump's own 'gosem.cut.vars' lays the variable. In a bare row this is a premise. The card (YthabafmieebmmaaDoorCards.lean) ties it to the program's text. -/
def laid_coxless_bits_ends {H : Type} : DataW H := .agg [.agg [.lit (.int .i64 0), .lit (.int .i64 14)], .agg [.lit (.int .i64 16), .lit (.int .i64 10)]]
def laid_coxless_bits_parseAt {H : Type} : DataW H := .agg [.lit (.int .i64 14), .lit (.int .i64 2)]
def laid_coxless_bits_upper {H : Type} : DataW H := .agg [.lit (.int .i64 16), .lit (.int .i64 16)]
def laid_coxless_sub_rows {H : Type} : DataW H := .slice [.agg [.lit (.int .u8 8), .agg [.agg [.lit (.int .i64 1), .lit (.int .i64 4), .lit (.int .i64 0)], .agg [.lit (.int .i64 5), .lit (.int .i64 7), .lit (.int .i64 0)], .agg [.lit (.int .i64 0), .lit (.int .i64 0), .lit (.int .i64 0)]]], .agg [.lit (.int .u8 7), .agg [.agg [.lit (.int .i64 4), .lit (.int .i64 4), .lit (.int .i64 0)], .agg [.lit (.int .i64 6), .lit (.int .i64 7), .lit (.int .i64 0)], .agg [.lit (.int .i64 0), .lit (.int .i64 0), .lit (.int .i64 0)]]], .agg [.lit (.int .u8 9), .agg [.agg [.lit (.int .i64 1), .lit (.int .i64 4), .lit (.int .i64 0)], .agg [.lit (.int .i64 2), .lit (.int .i64 4), .lit (.int .i64 0)], .agg [.lit (.int .i64 0), .lit (.int .i64 0), .lit (.int .i64 0)]]], .agg [.lit (.int .u8 2), .agg [.agg [.lit (.int .i64 4), .lit (.int .i64 4), .lit (.int .i64 0)], .agg [.lit (.int .i64 3), .lit (.int .i64 4), .lit (.int .i64 0)], .agg [.lit (.int .i64 0), .lit (.int .i64 0), .lit (.int .i64 0)]]], .agg [.lit (.int .u8 21), .agg [.agg [.lit (.int .i64 1), .lit (.int .i64 4), .lit (.int .i64 0)], .agg [.lit (.int .i64 2), .lit (.int .i64 4), .lit (.int .i64 0)], .agg [.lit (.int .i64 5), .lit (.int .i64 3), .lit (.int .i64 2)]]], .agg [.lit (.int .u8 24), .agg [.agg [.lit (.int .i64 2), .lit (.int .i64 4), .lit (.int .i64 0)], .agg [.lit (.int .i64 3), .lit (.int .i64 4), .lit (.int .i64 0)], .agg [.lit (.int .i64 5), .lit (.int .i64 3), .lit (.int .i64 2)]]], .agg [.lit (.int .u8 23), .agg [.agg [.lit (.int .i64 1), .lit (.int .i64 4), .lit (.int .i64 0)], .agg [.lit (.int .i64 2), .lit (.int .i64 4), .lit (.int .i64 0)], .agg [.lit (.int .i64 5), .lit (.int .i64 3), .lit (.int .i64 0)]]], .agg [.lit (.int .u8 26), .agg [.agg [.lit (.int .i64 2), .lit (.int .i64 4), .lit (.int .i64 0)], .agg [.lit (.int .i64 3), .lit (.int .i64 4), .lit (.int .i64 0)], .agg [.lit (.int .i64 5), .lit (.int .i64 3), .lit (.int .i64 0)]]], .agg [.lit (.int .u8 13), .agg [.agg [.lit (.int .i64 2), .lit (.int .i64 4), .lit (.int .i64 0)], .agg [.lit (.int .i64 5), .lit (.int .i64 7), .lit (.int .i64 0)], .agg [.lit (.int .i64 0), .lit (.int .i64 0), .lit (.int .i64 0)]]]] []
def laid_coxless_bits_codeAt {H : Type} : DataW H := .agg [.lit (.int .i64 26), .lit (.int .i64 6)]

/-- 'coxlesslaw11.LegalKnown': WHATEVER THE INPUT: true; the input reads as it did. -/
def legalKnownSpec : ChangeSpec := { name := "legalKnown", fn := fun _ => fun
  | [] => { results := [.lit (.bool true)], args := [] }
  | _ => none }
def legalKnownRow : OpenClaim := { program := "ythabafmieebmmaadoor", sum := "83a7c04c79736197098b6f72a21ee1456ae0add9a89d50ddb1455b6b5b5a0189", func := "coxless/coxlesslaw11.LegalKnown", spec := "legalKnown", unfollowed := true, recurses := true, named := ["coxless/sub.rows", "coxless/bits.ends", "coxless/bits.upper", "coxless/bits.parseAt"], plainKeys := false, apart := false, laid := [("coxless/bits.ends", laid_coxless_bits_ends), ("coxless/bits.parseAt", laid_coxless_bits_parseAt), ("coxless/bits.upper", laid_coxless_bits_upper), ("coxless/sub.rows", laid_coxless_sub_rows)] }
def LegalKnownSaid : Prop := legalKnownRow.holds Tryd.pinned (OpenSpec.ofChange legalKnownSpec)

/-- ITS FALSE NEIGHBOUR: 'it returns false'. Refute it at one input. -/
def legalKnownWrong : ChangeSpec := { name := "legalKnown", fn := fun _ => fun
  | [] => { results := [.lit (.bool false)], args := [] }
  | _ => none }
def LegalKnownWrongFalsely : Prop := legalKnownRow.holds Tryd.pinned (OpenSpec.ofChange legalKnownWrong)

/-- 'coxlesslaw07.SubTells': WHATEVER THE INPUT: true; the input reads as it did. -/
def subTellsSpec : ChangeSpec := { name := "subTells", fn := fun _ => fun
  | [d1, d2] => { results := [.lit (.bool true)], args := [d1, d2] }
  | _ => none }
def subTellsRow : OpenClaim := { program := "ythabafmieebmmaadoor", sum := "83a7c04c79736197098b6f72a21ee1456ae0add9a89d50ddb1455b6b5b5a0189", func := "coxless/coxlesslaw07.SubTells", spec := "subTells", named := ["coxless/sub.rows"], plainKeys := false, apart := false, laid := [("coxless/sub.rows", laid_coxless_sub_rows)] }
def SubTellsSaid : Prop := subTellsRow.holds Tryd.pinned (OpenSpec.ofChange subTellsSpec)

/-- ITS FALSE NEIGHBOUR: 'it returns false'. Refute it at one input. -/
def subTellsWrong : ChangeSpec := { name := "subTells", fn := fun _ => fun
  | [d1, d2] => { results := [.lit (.bool false)], args := [d1, d2] }
  | _ => none }
def SubTellsWrongFalsely : Prop := subTellsRow.holds Tryd.pinned (OpenSpec.ofChange subTellsWrong)

/-- 'coxlesslaw07.SubBack': WHATEVER THE INPUT: true; the input reads as it did. -/
def subBackSpec : ChangeSpec := { name := "subBack", fn := fun _ => fun
  | [d1, d2] => { results := [.lit (.bool true)], args := [d1, d2] }
  | _ => none }
def subBackRow : OpenClaim := { program := "ythabafmieebmmaadoor", sum := "83a7c04c79736197098b6f72a21ee1456ae0add9a89d50ddb1455b6b5b5a0189", func := "coxless/coxlesslaw07.SubBack", spec := "subBack", named := ["coxless/sub.rows"], plainKeys := false, apart := false, laid := [("coxless/sub.rows", laid_coxless_sub_rows)] }
def SubBackSaid : Prop := subBackRow.holds Tryd.pinned (OpenSpec.ofChange subBackSpec)

/-- ITS FALSE NEIGHBOUR: 'it returns false'. Refute it at one input. -/
def subBackWrong : ChangeSpec := { name := "subBack", fn := fun _ => fun
  | [d1, d2] => { results := [.lit (.bool false)], args := [d1, d2] }
  | _ => none }
def SubBackWrongFalsely : Prop := subBackRow.holds Tryd.pinned (OpenSpec.ofChange subBackWrong)

/-- 'coxlesslaw08.DuplexTells': WHATEVER THE INPUT: true; the input reads as it did. -/
def duplexTellsSpec : ChangeSpec := { name := "duplexTells", fn := fun _ => fun
  | [d1, d2, d3] => { results := [.lit (.bool true)], args := [d1, d2, d3] }
  | _ => none }
def duplexTellsRow : OpenClaim := { program := "ythabafmieebmmaadoor", sum := "83a7c04c79736197098b6f72a21ee1456ae0add9a89d50ddb1455b6b5b5a0189", func := "coxless/coxlesslaw08.DuplexTells", spec := "duplexTells", named := ["coxless/bits.ends", "coxless/bits.codeAt", "coxless/bits.parseAt", "coxless/bits.upper", "coxless/sub.rows"], plainKeys := false, apart := false, laid := [("coxless/bits.codeAt", laid_coxless_bits_codeAt), ("coxless/bits.ends", laid_coxless_bits_ends), ("coxless/bits.parseAt", laid_coxless_bits_parseAt), ("coxless/bits.upper", laid_coxless_bits_upper), ("coxless/sub.rows", laid_coxless_sub_rows)] }
def DuplexTellsSaid : Prop := duplexTellsRow.holds Tryd.pinned (OpenSpec.ofChange duplexTellsSpec)

/-- ITS FALSE NEIGHBOUR: 'it returns false'. Refute it at one input. -/
def duplexTellsWrong : ChangeSpec := { name := "duplexTells", fn := fun _ => fun
  | [d1, d2, d3] => { results := [.lit (.bool false)], args := [d1, d2, d3] }
  | _ => none }
def DuplexTellsWrongFalsely : Prop := duplexTellsRow.holds Tryd.pinned (OpenSpec.ofChange duplexTellsWrong)

/-- 'coxlesslaw08.DuplexBack': WHATEVER THE INPUT: true; the input reads as it did. -/
def duplexBackSpec : ChangeSpec := { name := "duplexBack", fn := fun _ => fun
  | [d1, d2] => { results := [.lit (.bool true)], args := [d1, d2] }
  | _ => none }
def duplexBackRow : OpenClaim := { program := "ythabafmieebmmaadoor", sum := "83a7c04c79736197098b6f72a21ee1456ae0add9a89d50ddb1455b6b5b5a0189", func := "coxless/coxlesslaw08.DuplexBack", spec := "duplexBack", named := ["coxless/sub.rows", "coxless/bits.ends", "coxless/bits.upper", "coxless/bits.parseAt", "coxless/bits.codeAt"], plainKeys := false, apart := false, laid := [("coxless/bits.codeAt", laid_coxless_bits_codeAt), ("coxless/bits.ends", laid_coxless_bits_ends), ("coxless/bits.parseAt", laid_coxless_bits_parseAt), ("coxless/bits.upper", laid_coxless_bits_upper), ("coxless/sub.rows", laid_coxless_sub_rows)] }
def DuplexBackSaid : Prop := duplexBackRow.holds Tryd.pinned (OpenSpec.ofChange duplexBackSpec)

/-- ITS FALSE NEIGHBOUR: 'it returns false'. Refute it at one input. -/
def duplexBackWrong : ChangeSpec := { name := "duplexBack", fn := fun _ => fun
  | [d1, d2] => { results := [.lit (.bool false)], args := [d1, d2] }
  | _ => none }
def DuplexBackWrongFalsely : Prop := duplexBackRow.holds Tryd.pinned (OpenSpec.ofChange duplexBackWrong)

/-- 'coxlesslaw08.DuplexForms': WHATEVER THE INPUT: true; the input reads as it did. -/
def duplexFormsSpec : ChangeSpec := { name := "duplexForms", fn := fun _ => fun
  | [d] => { results := [.lit (.bool true)], args := [d] }
  | _ => none }
def duplexFormsRow : OpenClaim := { program := "ythabafmieebmmaadoor", sum := "83a7c04c79736197098b6f72a21ee1456ae0add9a89d50ddb1455b6b5b5a0189", func := "coxless/coxlesslaw08.DuplexForms", spec := "duplexForms", named := ["coxless/bits.ends", "coxless/bits.codeAt", "coxless/bits.parseAt", "coxless/bits.upper", "coxless/sub.rows"], plainKeys := false, apart := false, laid := [("coxless/bits.codeAt", laid_coxless_bits_codeAt), ("coxless/bits.ends", laid_coxless_bits_ends), ("coxless/bits.parseAt", laid_coxless_bits_parseAt), ("coxless/bits.upper", laid_coxless_bits_upper), ("coxless/sub.rows", laid_coxless_sub_rows)] }
def DuplexFormsSaid : Prop := duplexFormsRow.holds Tryd.pinned (OpenSpec.ofChange duplexFormsSpec)

/-- ITS FALSE NEIGHBOUR: 'it returns false'. Refute it at one input. -/
def duplexFormsWrong : ChangeSpec := { name := "duplexForms", fn := fun _ => fun
  | [d] => { results := [.lit (.bool false)], args := [d] }
  | _ => none }
def DuplexFormsWrongFalsely : Prop := duplexFormsRow.holds Tryd.pinned (OpenSpec.ofChange duplexFormsWrong)

/-- 'coxlesslaw07.SubAll': WHATEVER THE INPUT: true; the input reads as it did. -/
def subAllSpec : ChangeSpec := { name := "subAll", fn := fun _ => fun
  | [] => { results := [.lit (.bool true)], args := [] }
  | _ => none }
def subAllRow : OpenClaim := { program := "ythabafmieebmmaadoor", sum := "83a7c04c79736197098b6f72a21ee1456ae0add9a89d50ddb1455b6b5b5a0189", func := "coxless/coxlesslaw07.SubAll", spec := "subAll", named := ["coxless/sub.rows"], plainKeys := false, apart := false, laid := [("coxless/sub.rows", laid_coxless_sub_rows)] }
def SubAllSaid : Prop := subAllRow.holds Tryd.pinned (OpenSpec.ofChange subAllSpec)

/-- ITS FALSE NEIGHBOUR: 'it returns false'. Refute it at one input. -/
def subAllWrong : ChangeSpec := { name := "subAll", fn := fun _ => fun
  | [] => { results := [.lit (.bool false)], args := [] }
  | _ => none }
def SubAllWrongFalsely : Prop := subAllRow.holds Tryd.pinned (OpenSpec.ofChange subAllWrong)

/- THE SECOND FORM. 'bulk': how many values and letters a reading holds, each counted each time it is reached (what is shared counts as often as it is met; a slice's spare places count too). A statement '..UptoSaid' is the law's where the arguments, and the package variables that the reading takes, are together of bulk at most 1048576: NARROWER than '..Said'. Prove '..Said' where nothing that the law and all that it calls make is longer than what came in: it says more and counts as full. Else prove '..UptoSaid'. A law counts once. -/
mutual
def uptoBulk {H : Type} : DataW H → Nat
  | .lit (.string bytes) => bytes.length + 1
  | .lit _ => 1
  | .nil => 1
  | .ptr d => uptoBulk d + 1
  | .slice elems spare => uptoBulkAll elems + uptoBulkAll spare + 1
  | .agg parts => uptoBulkAll parts + 1
  | .iface _ d => uptoBulk d + 1
  | .map entries => uptoBulkEntries entries + 1
  | .held _ => 1
def uptoBulkAll {H : Type} : List (DataW H) → Nat
  | [] => 0
  | d :: r => uptoBulk d + uptoBulkAll r
def uptoBulkEntries {H : Type} : List (Lit × DataW H) → Nat
  | [] => 0
  | x :: r => uptoBulkEntry x + uptoBulkEntries r
def uptoBulkEntry {H : Type} : Lit × DataW H → Nat
  | (.string bytes, d) => bytes.length + uptoBulk d + 1
  | (_, d) => uptoBulk d + 1
 end
def uptoSmall : (H : Type) → List (DataW H) → Bool := fun _ ds => decide (uptoBulkAll ds ≤ 1048576)
def OpenSpec.upto (s : _root_.Go.ChangeSpec) : _root_.Go.OpenSpec := { _root_.Go.OpenSpec.ofChange s with cond := some uptoSmall }

/-- 'coxlesslaw11.LegalKnown', WHERE WHAT IT READS IS OF BULK AT MOST 1048576: true; the input reads as it did. -/
def legalKnownUptoRow : OpenClaim := { program := "ythabafmieebmmaadoor", sum := "83a7c04c79736197098b6f72a21ee1456ae0add9a89d50ddb1455b6b5b5a0189", func := "coxless/coxlesslaw11.LegalKnown", spec := "legalKnown", unfollowed := true, recurses := true, named := ["coxless/sub.rows", "coxless/bits.ends", "coxless/bits.upper", "coxless/bits.parseAt"], plainKeys := false, apart := false, laid := [("coxless/bits.ends", laid_coxless_bits_ends), ("coxless/bits.parseAt", laid_coxless_bits_parseAt), ("coxless/bits.upper", laid_coxless_bits_upper), ("coxless/sub.rows", laid_coxless_sub_rows)], narrowed := true }
def LegalKnownUptoSaid : Prop := legalKnownUptoRow.holds Tryd.pinned (OpenSpec.upto legalKnownSpec)

/-- 'coxlesslaw07.SubTells', WHERE WHAT IT READS IS OF BULK AT MOST 1048576: true; the input reads as it did. -/
def subTellsUptoRow : OpenClaim := { program := "ythabafmieebmmaadoor", sum := "83a7c04c79736197098b6f72a21ee1456ae0add9a89d50ddb1455b6b5b5a0189", func := "coxless/coxlesslaw07.SubTells", spec := "subTells", named := ["coxless/sub.rows"], plainKeys := false, apart := false, laid := [("coxless/sub.rows", laid_coxless_sub_rows)], narrowed := true }
def SubTellsUptoSaid : Prop := subTellsUptoRow.holds Tryd.pinned (OpenSpec.upto subTellsSpec)

/-- 'coxlesslaw07.SubBack', WHERE WHAT IT READS IS OF BULK AT MOST 1048576: true; the input reads as it did. -/
def subBackUptoRow : OpenClaim := { program := "ythabafmieebmmaadoor", sum := "83a7c04c79736197098b6f72a21ee1456ae0add9a89d50ddb1455b6b5b5a0189", func := "coxless/coxlesslaw07.SubBack", spec := "subBack", named := ["coxless/sub.rows"], plainKeys := false, apart := false, laid := [("coxless/sub.rows", laid_coxless_sub_rows)], narrowed := true }
def SubBackUptoSaid : Prop := subBackUptoRow.holds Tryd.pinned (OpenSpec.upto subBackSpec)

/-- 'coxlesslaw08.DuplexTells', WHERE WHAT IT READS IS OF BULK AT MOST 1048576: true; the input reads as it did. -/
def duplexTellsUptoRow : OpenClaim := { program := "ythabafmieebmmaadoor", sum := "83a7c04c79736197098b6f72a21ee1456ae0add9a89d50ddb1455b6b5b5a0189", func := "coxless/coxlesslaw08.DuplexTells", spec := "duplexTells", named := ["coxless/bits.ends", "coxless/bits.codeAt", "coxless/bits.parseAt", "coxless/bits.upper", "coxless/sub.rows"], plainKeys := false, apart := false, laid := [("coxless/bits.codeAt", laid_coxless_bits_codeAt), ("coxless/bits.ends", laid_coxless_bits_ends), ("coxless/bits.parseAt", laid_coxless_bits_parseAt), ("coxless/bits.upper", laid_coxless_bits_upper), ("coxless/sub.rows", laid_coxless_sub_rows)], narrowed := true }
def DuplexTellsUptoSaid : Prop := duplexTellsUptoRow.holds Tryd.pinned (OpenSpec.upto duplexTellsSpec)

/-- 'coxlesslaw08.DuplexBack', WHERE WHAT IT READS IS OF BULK AT MOST 1048576: true; the input reads as it did. -/
def duplexBackUptoRow : OpenClaim := { program := "ythabafmieebmmaadoor", sum := "83a7c04c79736197098b6f72a21ee1456ae0add9a89d50ddb1455b6b5b5a0189", func := "coxless/coxlesslaw08.DuplexBack", spec := "duplexBack", named := ["coxless/sub.rows", "coxless/bits.ends", "coxless/bits.upper", "coxless/bits.parseAt", "coxless/bits.codeAt"], plainKeys := false, apart := false, laid := [("coxless/bits.codeAt", laid_coxless_bits_codeAt), ("coxless/bits.ends", laid_coxless_bits_ends), ("coxless/bits.parseAt", laid_coxless_bits_parseAt), ("coxless/bits.upper", laid_coxless_bits_upper), ("coxless/sub.rows", laid_coxless_sub_rows)], narrowed := true }
def DuplexBackUptoSaid : Prop := duplexBackUptoRow.holds Tryd.pinned (OpenSpec.upto duplexBackSpec)

/-- 'coxlesslaw08.DuplexForms', WHERE WHAT IT READS IS OF BULK AT MOST 1048576: true; the input reads as it did. -/
def duplexFormsUptoRow : OpenClaim := { program := "ythabafmieebmmaadoor", sum := "83a7c04c79736197098b6f72a21ee1456ae0add9a89d50ddb1455b6b5b5a0189", func := "coxless/coxlesslaw08.DuplexForms", spec := "duplexForms", named := ["coxless/bits.ends", "coxless/bits.codeAt", "coxless/bits.parseAt", "coxless/bits.upper", "coxless/sub.rows"], plainKeys := false, apart := false, laid := [("coxless/bits.codeAt", laid_coxless_bits_codeAt), ("coxless/bits.ends", laid_coxless_bits_ends), ("coxless/bits.parseAt", laid_coxless_bits_parseAt), ("coxless/bits.upper", laid_coxless_bits_upper), ("coxless/sub.rows", laid_coxless_sub_rows)], narrowed := true }
def DuplexFormsUptoSaid : Prop := duplexFormsUptoRow.holds Tryd.pinned (OpenSpec.upto duplexFormsSpec)

/-- 'coxlesslaw07.SubAll', WHERE WHAT IT READS IS OF BULK AT MOST 1048576: true; the input reads as it did. -/
def subAllUptoRow : OpenClaim := { program := "ythabafmieebmmaadoor", sum := "83a7c04c79736197098b6f72a21ee1456ae0add9a89d50ddb1455b6b5b5a0189", func := "coxless/coxlesslaw07.SubAll", spec := "subAll", named := ["coxless/sub.rows"], plainKeys := false, apart := false, laid := [("coxless/sub.rows", laid_coxless_sub_rows)], narrowed := true }
def SubAllUptoSaid : Prop := subAllUptoRow.holds Tryd.pinned (OpenSpec.upto subAllSpec)

end Rows
end Go.Proofs.YthabafmieebmmaaDoor
