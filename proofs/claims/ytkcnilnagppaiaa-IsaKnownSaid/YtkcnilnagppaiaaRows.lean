/-
  No cell of these rows narrows 'for every input' (looked for: loops, veiled, ifaces, maps, wideKeys, modest, calm, conditions, laid).
  DERIVED. THE GIVEN ROWS OF THIS SEAT. 4 by the template 'for every input the law returns true; each argument reads behind the call as it read before'; 0 by the template 'total and deterministic' (their statements: YtkcnilnagppaiaaTotals.lean).
  GIVEN WITH THE SEED: the statements are not yours to turn. If you find one false, say at which input.
  Laid BY PROGRAM, IN A SANDBOX (cutbox-rows.mjs): the forced cells as the released guide's own fill.sh prints them over the translation c21734017809fa28… (all of the seat's roots in one cut). By AI agents, Wed Nov 11 2026. No macro, syntax, notation, axiom, sorry.
-/
import Derived.Test.YtkcnilnagppaiaaChecked
import GoSem.Claim
import GoSem.ClaimJoined
import GoSem.ClaimMapViews
import Derived.JoinedTies
import Derived.KernelRfl
namespace Go.Proofs.Ytkcnilnagppaiaa
/- THE CELL 'sum', in the pinned program and in every row, IS THE sha256 OF THE DUMP (.gsa) THAT YtkcnilnagppaiaaProg.lean LOADS. Nothing in Lean hashes anything: it is a label: what it is worth is what the hold of that sum in a sandbox is worth. -/
noncomputable def Try.pinned : Pinned := { name := "ytkcnilnagppaiaa", sum := "c21734017809fa28953ce98ef94dfe3512bcdb8aeb4824c372030820d7074d2c", checked := Try.checked }
namespace Rows
def none {H : Type} : Left H := { results := [], args := [] }

/-- 'coxlesslaw03.IsaOwn': WHATEVER THE INPUT: true; the input reads as it did. -/
def isaOwnSpec : ChangeSpec := { name := "isaOwn", fn := fun _ => fun
  | [d1, d2] => { results := [.lit (.bool true)], args := [d1, d2] }
  | _ => none }
def isaOwnRow : OpenClaim := { program := "ytkcnilnagppaiaa", sum := "c21734017809fa28953ce98ef94dfe3512bcdb8aeb4824c372030820d7074d2c", func := "coxless/coxlesslaw03.IsaOwn", spec := "isaOwn", apart := false }
def IsaOwnSaid : Prop := isaOwnRow.holds Try.pinned (OpenSpec.ofChange isaOwnSpec)

/-- ITS FALSE NEIGHBOUR: 'it returns false'. Refute it at one input. -/
def isaOwnWrong : ChangeSpec := { name := "isaOwn", fn := fun _ => fun
  | [d1, d2] => { results := [.lit (.bool false)], args := [d1, d2] }
  | _ => none }
def IsaOwnWrongFalsely : Prop := isaOwnRow.holds Try.pinned (OpenSpec.ofChange isaOwnWrong)

/-- 'coxlesslaw03.IsaKnown': WHATEVER THE INPUT: true; the input reads as it did. -/
def isaKnownSpec : ChangeSpec := { name := "isaKnown", fn := fun _ => fun
  | [] => { results := [.lit (.bool true)], args := [] }
  | _ => none }
def isaKnownRow : OpenClaim := { program := "ytkcnilnagppaiaa", sum := "c21734017809fa28953ce98ef94dfe3512bcdb8aeb4824c372030820d7074d2c", func := "coxless/coxlesslaw03.IsaKnown", spec := "isaKnown", apart := false }
def IsaKnownSaid : Prop := isaKnownRow.holds Try.pinned (OpenSpec.ofChange isaKnownSpec)

/-- ITS FALSE NEIGHBOUR: 'it returns false'. Refute it at one input. -/
def isaKnownWrong : ChangeSpec := { name := "isaKnown", fn := fun _ => fun
  | [] => { results := [.lit (.bool false)], args := [] }
  | _ => none }
def IsaKnownWrongFalsely : Prop := isaKnownRow.holds Try.pinned (OpenSpec.ofChange isaKnownWrong)

/-- 'coxlesslaw03.IsaTells': WHATEVER THE INPUT: true; the input reads as it did. -/
def isaTellsSpec : ChangeSpec := { name := "isaTells", fn := fun _ => fun
  | [d1, d2, d3, d4] => { results := [.lit (.bool true)], args := [d1, d2, d3, d4] }
  | _ => none }
def isaTellsRow : OpenClaim := { program := "ytkcnilnagppaiaa", sum := "c21734017809fa28953ce98ef94dfe3512bcdb8aeb4824c372030820d7074d2c", func := "coxless/coxlesslaw03.IsaTells", spec := "isaTells", apart := false }
def IsaTellsSaid : Prop := isaTellsRow.holds Try.pinned (OpenSpec.ofChange isaTellsSpec)

/-- ITS FALSE NEIGHBOUR: 'it returns false'. Refute it at one input. -/
def isaTellsWrong : ChangeSpec := { name := "isaTells", fn := fun _ => fun
  | [d1, d2, d3, d4] => { results := [.lit (.bool false)], args := [d1, d2, d3, d4] }
  | _ => none }
def IsaTellsWrongFalsely : Prop := isaTellsRow.holds Try.pinned (OpenSpec.ofChange isaTellsWrong)

/-- 'coxlesslaw03.IsaApart': WHATEVER THE INPUT: true; the input reads as it did. -/
def isaApartSpec : ChangeSpec := { name := "isaApart", fn := fun _ => fun
  | [d] => { results := [.lit (.bool true)], args := [d] }
  | _ => none }
def isaApartRow : OpenClaim := { program := "ytkcnilnagppaiaa", sum := "c21734017809fa28953ce98ef94dfe3512bcdb8aeb4824c372030820d7074d2c", func := "coxless/coxlesslaw03.IsaApart", spec := "isaApart", apart := false }
def IsaApartSaid : Prop := isaApartRow.holds Try.pinned (OpenSpec.ofChange isaApartSpec)

/-- ITS FALSE NEIGHBOUR: 'it returns false'. Refute it at one input. -/
def isaApartWrong : ChangeSpec := { name := "isaApart", fn := fun _ => fun
  | [d] => { results := [.lit (.bool false)], args := [d] }
  | _ => none }
def IsaApartWrongFalsely : Prop := isaApartRow.holds Try.pinned (OpenSpec.ofChange isaApartWrong)

/- THE SECOND FORM. 'bulk': how many values and letters a reading holds, each counted each time it is reached (what is shared counts as often as it is met; a slice's spare places count too). A statement '..UptoSaid' is the law's where the arguments, and the package variables that the reading takes, are together of bulk at most 1048576: NARROWER than '..Said'. Prove '..Said' where nothing that the law and all that it calls make is longer than what came in: it says more and counts as full. Else prove '..UptoSaid'. A law counts once. -/
mutual
def uptoBulk {H : Type} : DataW H → Nat
  | .lit (.string bytes) => bytes.length + 1
  | .lit _ => 1
  | .nil => 1
  | .ptr d => uptoBulk d + 1
  | .slice elems spare => uptoBulkAll elems + uptoBulkAll spare + 1
  | .agg parts => uptoBulkAll parts + 1
  | .iface _ d => uptoBulk d + 1
  | .map entries => uptoBulkEntries entries + 1
  | .held _ => 1
def uptoBulkAll {H : Type} : List (DataW H) → Nat
  | [] => 0
  | d :: r => uptoBulk d + uptoBulkAll r
def uptoBulkEntries {H : Type} : List (Lit × DataW H) → Nat
  | [] => 0
  | x :: r => uptoBulkEntry x + uptoBulkEntries r
def uptoBulkEntry {H : Type} : Lit × DataW H → Nat
  | (.string bytes, d) => bytes.length + uptoBulk d + 1
  | (_, d) => uptoBulk d + 1
 end
def uptoSmall : (H : Type) → List (DataW H) → Bool := fun _ ds => decide (uptoBulkAll ds ≤ 1048576)
def OpenSpec.upto (s : _root_.Go.ChangeSpec) : _root_.Go.OpenSpec := { _root_.Go.OpenSpec.ofChange s with cond := some uptoSmall }

/-- 'coxlesslaw03.IsaOwn', WHERE WHAT IT READS IS OF BULK AT MOST 1048576: true; the input reads as it did. -/
def isaOwnUptoRow : OpenClaim := { program := "ytkcnilnagppaiaa", sum := "c21734017809fa28953ce98ef94dfe3512bcdb8aeb4824c372030820d7074d2c", func := "coxless/coxlesslaw03.IsaOwn", spec := "isaOwn", apart := false, narrowed := true }
def IsaOwnUptoSaid : Prop := isaOwnUptoRow.holds Try.pinned (OpenSpec.upto isaOwnSpec)

/-- 'coxlesslaw03.IsaKnown', WHERE WHAT IT READS IS OF BULK AT MOST 1048576: true; the input reads as it did. -/
def isaKnownUptoRow : OpenClaim := { program := "ytkcnilnagppaiaa", sum := "c21734017809fa28953ce98ef94dfe3512bcdb8aeb4824c372030820d7074d2c", func := "coxless/coxlesslaw03.IsaKnown", spec := "isaKnown", apart := false, narrowed := true }
def IsaKnownUptoSaid : Prop := isaKnownUptoRow.holds Try.pinned (OpenSpec.upto isaKnownSpec)

/-- 'coxlesslaw03.IsaTells', WHERE WHAT IT READS IS OF BULK AT MOST 1048576: true; the input reads as it did. -/
def isaTellsUptoRow : OpenClaim := { program := "ytkcnilnagppaiaa", sum := "c21734017809fa28953ce98ef94dfe3512bcdb8aeb4824c372030820d7074d2c", func := "coxless/coxlesslaw03.IsaTells", spec := "isaTells", apart := false, narrowed := true }
def IsaTellsUptoSaid : Prop := isaTellsUptoRow.holds Try.pinned (OpenSpec.upto isaTellsSpec)

/-- 'coxlesslaw03.IsaApart', WHERE WHAT IT READS IS OF BULK AT MOST 1048576: true; the input reads as it did. -/
def isaApartUptoRow : OpenClaim := { program := "ytkcnilnagppaiaa", sum := "c21734017809fa28953ce98ef94dfe3512bcdb8aeb4824c372030820d7074d2c", func := "coxless/coxlesslaw03.IsaApart", spec := "isaApart", apart := false, narrowed := true }
def IsaApartUptoSaid : Prop := isaApartUptoRow.holds Try.pinned (OpenSpec.upto isaApartSpec)

end Rows
end Go.Proofs.Ytkcnilnagppaiaa
