/-
  NARROWER THAN 'FOR EVERY INPUT', by the rows' own cells (each row's printed sentence says how): EncWords: laid · EncMoves: laid · EncInsts: laid · EncBack: laid.
  DERIVED. THE GIVEN ROWS OF THIS SEAT. 4 by the template 'for every input the law returns true; each argument reads behind the call as it read before'; 0 by the template 'total and deterministic' (their statements: YtgpijioodocplaaDoorTotals.lean).
  GIVEN WITH THE SEED: the statements are not yours to turn. If you find one false, say at which input.
  Laid BY PROGRAM, IN A SANDBOX (cutbox-rows.mjs): the forced cells as the released guide's own fill.sh prints them over the translation 997103f16524ceee… (all of the seat's roots in one cut). By AI agents, Wed Nov 11 2026. No macro, syntax, notation, axiom, sorry.
-/
import Derived.Test.YtgpijioodocplaaDoorChecked
import GoSem.Claim
import GoSem.ClaimJoined
import GoSem.ClaimMapViews
import Derived.JoinedTies
import Derived.KernelRfl
namespace Go.Proofs.YtgpijioodocplaaDoor
/- THE CELL 'sum', in the pinned program and in every row, IS THE sha256 OF THE DUMP (.gsa) THAT YtgpijioodocplaaDoorProg.lean LOADS. Nothing in Lean hashes anything: it is a label: what it is worth is what the hold of that sum in a sandbox is worth. -/
noncomputable def Tryd.pinned : Pinned := { name := "ytgpijioodocplaadoor", sum := "997103f16524ceee440708b42d5905545a4d1e86d941342a45696a53408f809b", checked := Tryd.checked }
namespace Rows
def none {H : Type} : Left H := { results := [], args := [] }

/- WHAT THE LISTED PACKAGE-LEVEL VARIABLES READ AS WHEN THE CALL BEGINS. Each datum BY PROGRAM (the guide's laid-datum.mjs) off the statement by which the dump's own 'gosem.cut.vars' lays the variable. In a bare row this is a premise. The card (YtgpijioodocplaaDoorCards.lean) ties it to the program's text. -/
def laid_coxless_bits_codeAt {H : Type} : DataW H := .agg [.lit (.int .i64 26), .lit (.int .i64 6)]
def laid_coxless_bits_ends {H : Type} : DataW H := .agg [.agg [.lit (.int .i64 0), .lit (.int .i64 14)], .agg [.lit (.int .i64 16), .lit (.int .i64 10)]]
def laid_coxless_bits_parseAt {H : Type} : DataW H := .agg [.lit (.int .i64 14), .lit (.int .i64 2)]

/-- 'coxlesslaw06.EncWords': WHATEVER THE INPUT: true; the input reads as it did. -/
def encWordsSpec : ChangeSpec := { name := "encWords", fn := fun _ => fun
  | [d1, d2] => { results := [.lit (.bool true)], args := [d1, d2] }
  | _ => none }
def encWordsRow : OpenClaim := { program := "ytgpijioodocplaadoor", sum := "997103f16524ceee440708b42d5905545a4d1e86d941342a45696a53408f809b", func := "coxless/coxlesslaw06.EncWords", spec := "encWords", named := ["coxless/bits.codeAt", "coxless/bits.ends", "coxless/bits.parseAt"], apart := false, laid := [("coxless/bits.codeAt", laid_coxless_bits_codeAt), ("coxless/bits.ends", laid_coxless_bits_ends), ("coxless/bits.parseAt", laid_coxless_bits_parseAt)] }
def EncWordsSaid : Prop := encWordsRow.holds Tryd.pinned (OpenSpec.ofChange encWordsSpec)

/-- ITS FALSE NEIGHBOUR: 'it returns false'. Refute it at one input. -/
def encWordsWrong : ChangeSpec := { name := "encWords", fn := fun _ => fun
  | [d1, d2] => { results := [.lit (.bool false)], args := [d1, d2] }
  | _ => none }
def EncWordsWrongFalsely : Prop := encWordsRow.holds Tryd.pinned (OpenSpec.ofChange encWordsWrong)

/-- 'coxlesslaw06.EncMoves': WHATEVER THE INPUT: true; the input reads as it did. -/
def encMovesSpec : ChangeSpec := { name := "encMoves", fn := fun _ => fun
  | [d1, d2, d3] => { results := [.lit (.bool true)], args := [d1, d2, d3] }
  | _ => none }
def encMovesRow : OpenClaim := { program := "ytgpijioodocplaadoor", sum := "997103f16524ceee440708b42d5905545a4d1e86d941342a45696a53408f809b", func := "coxless/coxlesslaw06.EncMoves", spec := "encMoves", named := ["coxless/bits.codeAt", "coxless/bits.ends", "coxless/bits.parseAt"], apart := false, laid := [("coxless/bits.codeAt", laid_coxless_bits_codeAt), ("coxless/bits.ends", laid_coxless_bits_ends), ("coxless/bits.parseAt", laid_coxless_bits_parseAt)] }
def EncMovesSaid : Prop := encMovesRow.holds Tryd.pinned (OpenSpec.ofChange encMovesSpec)

/-- ITS FALSE NEIGHBOUR: 'it returns false'. Refute it at one input. -/
def encMovesWrong : ChangeSpec := { name := "encMoves", fn := fun _ => fun
  | [d1, d2, d3] => { results := [.lit (.bool false)], args := [d1, d2, d3] }
  | _ => none }
def EncMovesWrongFalsely : Prop := encMovesRow.holds Tryd.pinned (OpenSpec.ofChange encMovesWrong)

/-- 'coxlesslaw06.EncInsts': WHATEVER THE INPUT: true; the input reads as it did. -/
def encInstsSpec : ChangeSpec := { name := "encInsts", fn := fun _ => fun
  | [d1, d2, d3, d4] => { results := [.lit (.bool true)], args := [d1, d2, d3, d4] }
  | _ => none }
def encInstsRow : OpenClaim := { program := "ytgpijioodocplaadoor", sum := "997103f16524ceee440708b42d5905545a4d1e86d941342a45696a53408f809b", func := "coxless/coxlesslaw06.EncInsts", spec := "encInsts", named := ["coxless/bits.ends", "coxless/bits.codeAt", "coxless/bits.parseAt"], apart := false, laid := [("coxless/bits.codeAt", laid_coxless_bits_codeAt), ("coxless/bits.ends", laid_coxless_bits_ends), ("coxless/bits.parseAt", laid_coxless_bits_parseAt)] }
def EncInstsSaid : Prop := encInstsRow.holds Tryd.pinned (OpenSpec.ofChange encInstsSpec)

/-- ITS FALSE NEIGHBOUR: 'it returns false'. Refute it at one input. -/
def encInstsWrong : ChangeSpec := { name := "encInsts", fn := fun _ => fun
  | [d1, d2, d3, d4] => { results := [.lit (.bool false)], args := [d1, d2, d3, d4] }
  | _ => none }
def EncInstsWrongFalsely : Prop := encInstsRow.holds Tryd.pinned (OpenSpec.ofChange encInstsWrong)

/-- 'coxlesslaw06.EncBack': WHATEVER THE INPUT: true; the input reads as it did. -/
def encBackSpec : ChangeSpec := { name := "encBack", fn := fun _ => fun
  | [d1, d2, d3, d4, d5, d6] => { results := [.lit (.bool true)], args := [d1, d2, d3, d4, d5, d6] }
  | _ => none }
def encBackRow : OpenClaim := { program := "ytgpijioodocplaadoor", sum := "997103f16524ceee440708b42d5905545a4d1e86d941342a45696a53408f809b", func := "coxless/coxlesslaw06.EncBack", spec := "encBack", named := ["coxless/bits.ends", "coxless/bits.codeAt", "coxless/bits.parseAt"], apart := false, laid := [("coxless/bits.codeAt", laid_coxless_bits_codeAt), ("coxless/bits.ends", laid_coxless_bits_ends), ("coxless/bits.parseAt", laid_coxless_bits_parseAt)] }
def EncBackSaid : Prop := encBackRow.holds Tryd.pinned (OpenSpec.ofChange encBackSpec)

/-- ITS FALSE NEIGHBOUR: 'it returns false'. Refute it at one input. -/
def encBackWrong : ChangeSpec := { name := "encBack", fn := fun _ => fun
  | [d1, d2, d3, d4, d5, d6] => { results := [.lit (.bool false)], args := [d1, d2, d3, d4, d5, d6] }
  | _ => none }
def EncBackWrongFalsely : Prop := encBackRow.holds Tryd.pinned (OpenSpec.ofChange encBackWrong)

/- THE SECOND FORM. 'bulk': how many values and letters a reading holds, each counted each time it is reached (what is shared counts as often as it is met; a slice's spare places count too). A statement '..UptoSaid' is the law's where the arguments, and the package variables that the reading takes, are together of bulk at most 1048576: NARROWER than '..Said'. Prove '..Said' where nothing that the law and all that it calls make is longer than what came in: it says more and counts as full. Else prove '..UptoSaid'. A law counts once. -/
mutual
def uptoBulk {H : Type} : DataW H → Nat
  | .lit (.string bytes) => bytes.length + 1
  | .lit _ => 1
  | .nil => 1
  | .ptr d => uptoBulk d + 1
  | .slice elems spare => uptoBulkAll elems + uptoBulkAll spare + 1
  | .agg parts => uptoBulkAll parts + 1
  | .iface _ d => uptoBulk d + 1
  | .map entries => uptoBulkEntries entries + 1
  | .held _ => 1
def uptoBulkAll {H : Type} : List (DataW H) → Nat
  | [] => 0
  | d :: r => uptoBulk d + uptoBulkAll r
def uptoBulkEntries {H : Type} : List (Lit × DataW H) → Nat
  | [] => 0
  | x :: r => uptoBulkEntry x + uptoBulkEntries r
def uptoBulkEntry {H : Type} : Lit × DataW H → Nat
  | (.string bytes, d) => bytes.length + uptoBulk d + 1
  | (_, d) => uptoBulk d + 1
 end
def uptoSmall : (H : Type) → List (DataW H) → Bool := fun _ ds => decide (uptoBulkAll ds ≤ 1048576)
def OpenSpec.upto (s : _root_.Go.ChangeSpec) : _root_.Go.OpenSpec := { _root_.Go.OpenSpec.ofChange s with cond := some uptoSmall }

/-- 'coxlesslaw06.EncWords', WHERE WHAT IT READS IS OF BULK AT MOST 1048576: true; the input reads as it did. -/
def encWordsUptoRow : OpenClaim := { program := "ytgpijioodocplaadoor", sum := "997103f16524ceee440708b42d5905545a4d1e86d941342a45696a53408f809b", func := "coxless/coxlesslaw06.EncWords", spec := "encWords", named := ["coxless/bits.codeAt", "coxless/bits.ends", "coxless/bits.parseAt"], apart := false, laid := [("coxless/bits.codeAt", laid_coxless_bits_codeAt), ("coxless/bits.ends", laid_coxless_bits_ends), ("coxless/bits.parseAt", laid_coxless_bits_parseAt)], narrowed := true }
def EncWordsUptoSaid : Prop := encWordsUptoRow.holds Tryd.pinned (OpenSpec.upto encWordsSpec)

/-- 'coxlesslaw06.EncMoves', WHERE WHAT IT READS IS OF BULK AT MOST 1048576: true; the input reads as it did. -/
def encMovesUptoRow : OpenClaim := { program := "ytgpijioodocplaadoor", sum := "997103f16524ceee440708b42d5905545a4d1e86d941342a45696a53408f809b", func := "coxless/coxlesslaw06.EncMoves", spec := "encMoves", named := ["coxless/bits.codeAt", "coxless/bits.ends", "coxless/bits.parseAt"], apart := false, laid := [("coxless/bits.codeAt", laid_coxless_bits_codeAt), ("coxless/bits.ends", laid_coxless_bits_ends), ("coxless/bits.parseAt", laid_coxless_bits_parseAt)], narrowed := true }
def EncMovesUptoSaid : Prop := encMovesUptoRow.holds Tryd.pinned (OpenSpec.upto encMovesSpec)

/-- 'coxlesslaw06.EncInsts', WHERE WHAT IT READS IS OF BULK AT MOST 1048576: true; the input reads as it did. -/
def encInstsUptoRow : OpenClaim := { program := "ytgpijioodocplaadoor", sum := "997103f16524ceee440708b42d5905545a4d1e86d941342a45696a53408f809b", func := "coxless/coxlesslaw06.EncInsts", spec := "encInsts", named := ["coxless/bits.ends", "coxless/bits.codeAt", "coxless/bits.parseAt"], apart := false, laid := [("coxless/bits.codeAt", laid_coxless_bits_codeAt), ("coxless/bits.ends", laid_coxless_bits_ends), ("coxless/bits.parseAt", laid_coxless_bits_parseAt)], narrowed := true }
def EncInstsUptoSaid : Prop := encInstsUptoRow.holds Tryd.pinned (OpenSpec.upto encInstsSpec)

/-- 'coxlesslaw06.EncBack', WHERE WHAT IT READS IS OF BULK AT MOST 1048576: true; the input reads as it did. -/
def encBackUptoRow : OpenClaim := { program := "ytgpijioodocplaadoor", sum := "997103f16524ceee440708b42d5905545a4d1e86d941342a45696a53408f809b", func := "coxless/coxlesslaw06.EncBack", spec := "encBack", named := ["coxless/bits.ends", "coxless/bits.codeAt", "coxless/bits.parseAt"], apart := false, laid := [("coxless/bits.codeAt", laid_coxless_bits_codeAt), ("coxless/bits.ends", laid_coxless_bits_ends), ("coxless/bits.parseAt", laid_coxless_bits_parseAt)], narrowed := true }
def EncBackUptoSaid : Prop := encBackUptoRow.holds Tryd.pinned (OpenSpec.upto encBackSpec)

end Rows
end Go.Proofs.YtgpijioodocplaaDoor
