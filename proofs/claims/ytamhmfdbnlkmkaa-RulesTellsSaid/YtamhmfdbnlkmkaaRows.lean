/-
  No cell of these rows narrows 'for every input' (looked for: loops, veiled, ifaces, maps, wideKeys, modest, calm, conditions, laid).
  DERIVED. THE GIVEN ROWS OF THIS SEAT. 6 by the template 'for every input the law returns true; each argument reads behind the call as it read before'; 0 by the template 'total and deterministic' (their statements: YtamhmfdbnlkmkaaTotals.lean).
  GIVEN WITH THE SEED: the statements are not yours to turn. If you find one false, say at which input.
  Laid BY PROGRAM, IN A SANDBOX (cutbox-rows.mjs): the forced cells as the released guide's own fill.sh prints them over the translation d6fce43327d09d92… (all of the seat's roots in one cut). By AI agents, Wed Nov 11 2026. No macro, syntax, notation, axiom, sorry.
-/
import Derived.Test.YtamhmfdbnlkmkaaChecked
import GoSem.Claim
import GoSem.ClaimJoined
import GoSem.ClaimMapViews
import Derived.JoinedTies
import Derived.KernelRfl
namespace Go.Proofs.Ytamhmfdbnlkmkaa
/- THE CELL 'sum', in the pinned program and in every row, IS THE sha256 OF THE DUMP (.gsa) THAT YtamhmfdbnlkmkaaProg.lean LOADS. Nothing in Lean hashes anything: it is a label: what it is worth is what the hold of that sum in a sandbox is worth. -/
noncomputable def Try.pinned : Pinned := { name := "ytamhmfdbnlkmkaa", sum := "d6fce43327d09d92ba3b3f6ebcfb3088e844b8430957090448d1d5c3af08749f", checked := Try.checked }
namespace Rows
def none {H : Type} : Left H := { results := [], args := [] }

/-- 'coxlesslaw10.RulesTells': WHATEVER THE INPUT: true; the input reads as it did. -/
def rulesTellsSpec : ChangeSpec := { name := "rulesTells", fn := fun _ => fun
  | [d1, d2, d3] => { results := [.lit (.bool true)], args := [d1, d2, d3] }
  | _ => none }
def rulesTellsRow : OpenClaim := { program := "ytamhmfdbnlkmkaa", sum := "d6fce43327d09d92ba3b3f6ebcfb3088e844b8430957090448d1d5c3af08749f", func := "coxless/coxlesslaw10.RulesTells", spec := "rulesTells", unfollowed := true, recurses := true, apart := false }
def RulesTellsSaid : Prop := rulesTellsRow.holds Try.pinned (OpenSpec.ofChange rulesTellsSpec)

/-- ITS FALSE NEIGHBOUR: 'it returns false'. Refute it at one input. -/
def rulesTellsWrong : ChangeSpec := { name := "rulesTells", fn := fun _ => fun
  | [d1, d2, d3] => { results := [.lit (.bool false)], args := [d1, d2, d3] }
  | _ => none }
def RulesTellsWrongFalsely : Prop := rulesTellsRow.holds Try.pinned (OpenSpec.ofChange rulesTellsWrong)

/-- 'coxlesslaw10.RulesDue': WHATEVER THE INPUT: true; the input reads as it did. -/
def rulesDueSpec : ChangeSpec := { name := "rulesDue", fn := fun _ => fun
  | [d1, d2, d3] => { results := [.lit (.bool true)], args := [d1, d2, d3] }
  | _ => none }
def rulesDueRow : OpenClaim := { program := "ytamhmfdbnlkmkaa", sum := "d6fce43327d09d92ba3b3f6ebcfb3088e844b8430957090448d1d5c3af08749f", func := "coxless/coxlesslaw10.RulesDue", spec := "rulesDue", unfollowed := true, recurses := true, apart := false }
def RulesDueSaid : Prop := rulesDueRow.holds Try.pinned (OpenSpec.ofChange rulesDueSpec)

/-- ITS FALSE NEIGHBOUR: 'it returns false'. Refute it at one input. -/
def rulesDueWrong : ChangeSpec := { name := "rulesDue", fn := fun _ => fun
  | [d1, d2, d3] => { results := [.lit (.bool false)], args := [d1, d2, d3] }
  | _ => none }
def RulesDueWrongFalsely : Prop := rulesDueRow.holds Try.pinned (OpenSpec.ofChange rulesDueWrong)

/-- 'coxlesslaw10.RulesRow': WHATEVER THE INPUT: true; the input reads as it did. -/
def rulesRowSpec : ChangeSpec := { name := "rulesRow", fn := fun _ => fun
  | [d1, d2] => { results := [.lit (.bool true)], args := [d1, d2] }
  | _ => none }
def rulesRowRow : OpenClaim := { program := "ytamhmfdbnlkmkaa", sum := "d6fce43327d09d92ba3b3f6ebcfb3088e844b8430957090448d1d5c3af08749f", func := "coxless/coxlesslaw10.RulesRow", spec := "rulesRow", unfollowed := true, recurses := true, apart := false }
def RulesRowSaid : Prop := rulesRowRow.holds Try.pinned (OpenSpec.ofChange rulesRowSpec)

/-- ITS FALSE NEIGHBOUR: 'it returns false'. Refute it at one input. -/
def rulesRowWrong : ChangeSpec := { name := "rulesRow", fn := fun _ => fun
  | [d1, d2] => { results := [.lit (.bool false)], args := [d1, d2] }
  | _ => none }
def RulesRowWrongFalsely : Prop := rulesRowRow.holds Try.pinned (OpenSpec.ofChange rulesRowWrong)

/-- 'coxlesslaw10.RulesLess': WHATEVER THE INPUT: true; the input reads as it did. -/
def rulesLessSpec : ChangeSpec := { name := "rulesLess", fn := fun _ => fun
  | [d1, d2] => { results := [.lit (.bool true)], args := [d1, d2] }
  | _ => none }
def rulesLessRow : OpenClaim := { program := "ytamhmfdbnlkmkaa", sum := "d6fce43327d09d92ba3b3f6ebcfb3088e844b8430957090448d1d5c3af08749f", func := "coxless/coxlesslaw10.RulesLess", spec := "rulesLess", unfollowed := true, recurses := true, apart := false }
def RulesLessSaid : Prop := rulesLessRow.holds Try.pinned (OpenSpec.ofChange rulesLessSpec)

/-- ITS FALSE NEIGHBOUR: 'it returns false'. Refute it at one input. -/
def rulesLessWrong : ChangeSpec := { name := "rulesLess", fn := fun _ => fun
  | [d1, d2] => { results := [.lit (.bool false)], args := [d1, d2] }
  | _ => none }
def RulesLessWrongFalsely : Prop := rulesLessRow.holds Try.pinned (OpenSpec.ofChange rulesLessWrong)

/-- 'coxlesslaw14.LexTells': WHATEVER THE INPUT: true; the input reads as it did. -/
def lexTellsSpec : ChangeSpec := { name := "lexTells", fn := fun _ => fun
  | [d] => { results := [.lit (.bool true)], args := [d] }
  | _ => none }
def lexTellsRow : OpenClaim := { program := "ytamhmfdbnlkmkaa", sum := "d6fce43327d09d92ba3b3f6ebcfb3088e844b8430957090448d1d5c3af08749f", func := "coxless/coxlesslaw14.LexTells", spec := "lexTells", inPlace := ["internal/bytealg.IndexByteString"], apart := false }
def LexTellsSaid : Prop := lexTellsRow.holds Try.pinned (OpenSpec.ofChange lexTellsSpec)

/-- ITS FALSE NEIGHBOUR: 'it returns false'. Refute it at one input. -/
def lexTellsWrong : ChangeSpec := { name := "lexTells", fn := fun _ => fun
  | [d] => { results := [.lit (.bool false)], args := [d] }
  | _ => none }
def LexTellsWrongFalsely : Prop := lexTellsRow.holds Try.pinned (OpenSpec.ofChange lexTellsWrong)

/-- 'coxlesslaw14.LexLines': WHATEVER THE INPUT: true; the input reads as it did. -/
def lexLinesSpec : ChangeSpec := { name := "lexLines", fn := fun _ => fun
  | [d1, d2] => { results := [.lit (.bool true)], args := [d1, d2] }
  | _ => none }
def lexLinesRow : OpenClaim := { program := "ytamhmfdbnlkmkaa", sum := "d6fce43327d09d92ba3b3f6ebcfb3088e844b8430957090448d1d5c3af08749f", func := "coxless/coxlesslaw14.LexLines", spec := "lexLines", inPlace := ["internal/bytealg.IndexByteString"], apart := false }
def LexLinesSaid : Prop := lexLinesRow.holds Try.pinned (OpenSpec.ofChange lexLinesSpec)

/-- ITS FALSE NEIGHBOUR: 'it returns false'. Refute it at one input. -/
def lexLinesWrong : ChangeSpec := { name := "lexLines", fn := fun _ => fun
  | [d1, d2] => { results := [.lit (.bool false)], args := [d1, d2] }
  | _ => none }
def LexLinesWrongFalsely : Prop := lexLinesRow.holds Try.pinned (OpenSpec.ofChange lexLinesWrong)

/- THE SECOND FORM. 'bulk': how many values and letters a reading holds, each counted each time it is reached (what is shared counts as often as it is met; a slice's spare places count too). A statement '..UptoSaid' is the law's where the arguments, and the package variables that the reading takes, are together of bulk at most 1048576: NARROWER than '..Said'. Prove '..Said' where nothing that the law and all that it calls make is longer than what came in: it says more and counts as full. Else prove '..UptoSaid'. A law counts once. -/
mutual
def uptoBulk {H : Type} : DataW H → Nat
  | .lit (.string bytes) => bytes.length + 1
  | .lit _ => 1
  | .nil => 1
  | .ptr d => uptoBulk d + 1
  | .slice elems spare => uptoBulkAll elems + uptoBulkAll spare + 1
  | .agg parts => uptoBulkAll parts + 1
  | .iface _ d => uptoBulk d + 1
  | .map entries => uptoBulkEntries entries + 1
  | .held _ => 1
def uptoBulkAll {H : Type} : List (DataW H) → Nat
  | [] => 0
  | d :: r => uptoBulk d + uptoBulkAll r
def uptoBulkEntries {H : Type} : List (Lit × DataW H) → Nat
  | [] => 0
  | x :: r => uptoBulkEntry x + uptoBulkEntries r
def uptoBulkEntry {H : Type} : Lit × DataW H → Nat
  | (.string bytes, d) => bytes.length + uptoBulk d + 1
  | (_, d) => uptoBulk d + 1
 end
def uptoSmall : (H : Type) → List (DataW H) → Bool := fun _ ds => decide (uptoBulkAll ds ≤ 1048576)
def OpenSpec.upto (s : _root_.Go.ChangeSpec) : _root_.Go.OpenSpec := { _root_.Go.OpenSpec.ofChange s with cond := some uptoSmall }

/-- 'coxlesslaw10.RulesTells', WHERE WHAT IT READS IS OF BULK AT MOST 1048576: true; the input reads as it did. -/
def rulesTellsUptoRow : OpenClaim := { program := "ytamhmfdbnlkmkaa", sum := "d6fce43327d09d92ba3b3f6ebcfb3088e844b8430957090448d1d5c3af08749f", func := "coxless/coxlesslaw10.RulesTells", spec := "rulesTells", unfollowed := true, recurses := true, apart := false, narrowed := true }
def RulesTellsUptoSaid : Prop := rulesTellsUptoRow.holds Try.pinned (OpenSpec.upto rulesTellsSpec)

/-- 'coxlesslaw10.RulesDue', WHERE WHAT IT READS IS OF BULK AT MOST 1048576: true; the input reads as it did. -/
def rulesDueUptoRow : OpenClaim := { program := "ytamhmfdbnlkmkaa", sum := "d6fce43327d09d92ba3b3f6ebcfb3088e844b8430957090448d1d5c3af08749f", func := "coxless/coxlesslaw10.RulesDue", spec := "rulesDue", unfollowed := true, recurses := true, apart := false, narrowed := true }
def RulesDueUptoSaid : Prop := rulesDueUptoRow.holds Try.pinned (OpenSpec.upto rulesDueSpec)

/-- 'coxlesslaw10.RulesRow', WHERE WHAT IT READS IS OF BULK AT MOST 1048576: true; the input reads as it did. -/
def rulesRowUptoRow : OpenClaim := { program := "ytamhmfdbnlkmkaa", sum := "d6fce43327d09d92ba3b3f6ebcfb3088e844b8430957090448d1d5c3af08749f", func := "coxless/coxlesslaw10.RulesRow", spec := "rulesRow", unfollowed := true, recurses := true, apart := false, narrowed := true }
def RulesRowUptoSaid : Prop := rulesRowUptoRow.holds Try.pinned (OpenSpec.upto rulesRowSpec)

/-- 'coxlesslaw10.RulesLess', WHERE WHAT IT READS IS OF BULK AT MOST 1048576: true; the input reads as it did. -/
def rulesLessUptoRow : OpenClaim := { program := "ytamhmfdbnlkmkaa", sum := "d6fce43327d09d92ba3b3f6ebcfb3088e844b8430957090448d1d5c3af08749f", func := "coxless/coxlesslaw10.RulesLess", spec := "rulesLess", unfollowed := true, recurses := true, apart := false, narrowed := true }
def RulesLessUptoSaid : Prop := rulesLessUptoRow.holds Try.pinned (OpenSpec.upto rulesLessSpec)

/-- 'coxlesslaw14.LexTells', WHERE WHAT IT READS IS OF BULK AT MOST 1048576: true; the input reads as it did. -/
def lexTellsUptoRow : OpenClaim := { program := "ytamhmfdbnlkmkaa", sum := "d6fce43327d09d92ba3b3f6ebcfb3088e844b8430957090448d1d5c3af08749f", func := "coxless/coxlesslaw14.LexTells", spec := "lexTells", inPlace := ["internal/bytealg.IndexByteString"], apart := false, narrowed := true }
def LexTellsUptoSaid : Prop := lexTellsUptoRow.holds Try.pinned (OpenSpec.upto lexTellsSpec)

/-- 'coxlesslaw14.LexLines', WHERE WHAT IT READS IS OF BULK AT MOST 1048576: true; the input reads as it did. -/
def lexLinesUptoRow : OpenClaim := { program := "ytamhmfdbnlkmkaa", sum := "d6fce43327d09d92ba3b3f6ebcfb3088e844b8430957090448d1d5c3af08749f", func := "coxless/coxlesslaw14.LexLines", spec := "lexLines", inPlace := ["internal/bytealg.IndexByteString"], apart := false, narrowed := true }
def LexLinesUptoSaid : Prop := lexLinesUptoRow.holds Try.pinned (OpenSpec.upto lexLinesSpec)

end Rows
end Go.Proofs.Ytamhmfdbnlkmkaa
