/-
  No cell of these rows narrows 'for every input' (looked for: loops, veiled, ifaces, maps, wideKeys, modest, calm, conditions, laid).
  DERIVED. THE GIVEN ROWS OF THIS SEAT. 5 by the template 'for every input the law returns true; each argument reads behind the call as it read before'; 0 by the template 'total and deterministic' (their statements: YtdafainfcegfkaaTotals.lean).
  GIVEN WITH THE SEED: the statements are not yours to turn. If you find one false, say at which input.
  Laid BY PROGRAM, IN A SANDBOX (cutbox-rows.mjs): the forced cells as the released guide's own fill.sh prints them over the translation 714a76fa700b53f6… (all of the seat's roots in one cut). By AI agents, Wed Nov 11 2026. No macro, syntax, notation, axiom, sorry.
-/
import Derived.Test.YtdafainfcegfkaaChecked
import GoSem.Claim
import GoSem.ClaimJoined
import GoSem.ClaimMapViews
import Derived.JoinedTies
import Derived.KernelRfl
namespace Go.Proofs.Ytdafainfcegfkaa
/- THE CELL 'sum', in the pinned program and in every row, IS THE sha256 OF THE DUMP (.gsa) THAT YtdafainfcegfkaaProg.lean LOADS. Nothing in Lean hashes anything: it is a label: what it is worth is what the hold of that sum in a sandbox is worth. -/
noncomputable def Try.pinned : Pinned := { name := "ytdafainfcegfkaa", sum := "714a76fa700b53f6f675b0878438e728b0f6ff9f2ca4c423d5ee2788ecee0185", checked := Try.checked }
namespace Rows
def none {H : Type} : Left H := { results := [], args := [] }

/-- 'coxlesslaw14.LexKnown': WHATEVER THE INPUT: true; the input reads as it did. -/
def lexKnownSpec : ChangeSpec := { name := "lexKnown", fn := fun _ => fun
  | [] => { results := [.lit (.bool true)], args := [] }
  | _ => none }
def lexKnownRow : OpenClaim := { program := "ytdafainfcegfkaa", sum := "714a76fa700b53f6f675b0878438e728b0f6ff9f2ca4c423d5ee2788ecee0185", func := "coxless/coxlesslaw14.LexKnown", spec := "lexKnown", inPlace := ["internal/bytealg.IndexByteString"], apart := false }
def LexKnownSaid : Prop := lexKnownRow.holds Try.pinned (OpenSpec.ofChange lexKnownSpec)

/-- ITS FALSE NEIGHBOUR: 'it returns false'. Refute it at one input. -/
def lexKnownWrong : ChangeSpec := { name := "lexKnown", fn := fun _ => fun
  | [] => { results := [.lit (.bool false)], args := [] }
  | _ => none }
def LexKnownWrongFalsely : Prop := lexKnownRow.holds Try.pinned (OpenSpec.ofChange lexKnownWrong)

/-- 'coxlesslaw18.SymsKnown': WHATEVER THE INPUT: true; the input reads as it did. -/
def symsKnownSpec : ChangeSpec := { name := "symsKnown", fn := fun _ => fun
  | [] => { results := [.lit (.bool true)], args := [] }
  | _ => none }
def symsKnownRow : OpenClaim := { program := "ytdafainfcegfkaa", sum := "714a76fa700b53f6f675b0878438e728b0f6ff9f2ca4c423d5ee2788ecee0185", func := "coxless/coxlesslaw18.SymsKnown", spec := "symsKnown", unfollowed := true, recurses := true, apart := false }
def SymsKnownSaid : Prop := symsKnownRow.holds Try.pinned (OpenSpec.ofChange symsKnownSpec)

/-- ITS FALSE NEIGHBOUR: 'it returns false'. Refute it at one input. -/
def symsKnownWrong : ChangeSpec := { name := "symsKnown", fn := fun _ => fun
  | [] => { results := [.lit (.bool false)], args := [] }
  | _ => none }
def SymsKnownWrongFalsely : Prop := symsKnownRow.holds Try.pinned (OpenSpec.ofChange symsKnownWrong)

/-- 'coxlesslaw05.ExtKnown': WHATEVER THE INPUT: true; the input reads as it did. -/
def extKnownSpec : ChangeSpec := { name := "extKnown", fn := fun _ => fun
  | [] => { results := [.lit (.bool true)], args := [] }
  | _ => none }
def extKnownRow : OpenClaim := { program := "ytdafainfcegfkaa", sum := "714a76fa700b53f6f675b0878438e728b0f6ff9f2ca4c423d5ee2788ecee0185", func := "coxless/coxlesslaw05.ExtKnown", spec := "extKnown", apart := false }
def ExtKnownSaid : Prop := extKnownRow.holds Try.pinned (OpenSpec.ofChange extKnownSpec)

/-- ITS FALSE NEIGHBOUR: 'it returns false'. Refute it at one input. -/
def extKnownWrong : ChangeSpec := { name := "extKnown", fn := fun _ => fun
  | [] => { results := [.lit (.bool false)], args := [] }
  | _ => none }
def ExtKnownWrongFalsely : Prop := extKnownRow.holds Try.pinned (OpenSpec.ofChange extKnownWrong)

/-- 'coxlesslaw10.RulesKnown': WHATEVER THE INPUT: true; the input reads as it did. -/
def rulesKnownSpec : ChangeSpec := { name := "rulesKnown", fn := fun _ => fun
  | [] => { results := [.lit (.bool true)], args := [] }
  | _ => none }
def rulesKnownRow : OpenClaim := { program := "ytdafainfcegfkaa", sum := "714a76fa700b53f6f675b0878438e728b0f6ff9f2ca4c423d5ee2788ecee0185", func := "coxless/coxlesslaw10.RulesKnown", spec := "rulesKnown", unfollowed := true, recurses := true, apart := false }
def RulesKnownSaid : Prop := rulesKnownRow.holds Try.pinned (OpenSpec.ofChange rulesKnownSpec)

/-- ITS FALSE NEIGHBOUR: 'it returns false'. Refute it at one input. -/
def rulesKnownWrong : ChangeSpec := { name := "rulesKnown", fn := fun _ => fun
  | [] => { results := [.lit (.bool false)], args := [] }
  | _ => none }
def RulesKnownWrongFalsely : Prop := rulesKnownRow.holds Try.pinned (OpenSpec.ofChange rulesKnownWrong)

/-- 'coxlesslaw15.ExprKnown': WHATEVER THE INPUT: true; the input reads as it did. -/
def exprKnownSpec : ChangeSpec := { name := "exprKnown", fn := fun _ => fun
  | [] => { results := [.lit (.bool true)], args := [] }
  | _ => none }
def exprKnownRow : OpenClaim := { program := "ytdafainfcegfkaa", sum := "714a76fa700b53f6f675b0878438e728b0f6ff9f2ca4c423d5ee2788ecee0185", func := "coxless/coxlesslaw15.ExprKnown", spec := "exprKnown", inPlace := ["internal/bytealg.IndexByteString"], unfollowed := true, recurses := true, apart := false }
def ExprKnownSaid : Prop := exprKnownRow.holds Try.pinned (OpenSpec.ofChange exprKnownSpec)

/-- ITS FALSE NEIGHBOUR: 'it returns false'. Refute it at one input. -/
def exprKnownWrong : ChangeSpec := { name := "exprKnown", fn := fun _ => fun
  | [] => { results := [.lit (.bool false)], args := [] }
  | _ => none }
def ExprKnownWrongFalsely : Prop := exprKnownRow.holds Try.pinned (OpenSpec.ofChange exprKnownWrong)

/- THE SECOND FORM. 'bulk': how many values and letters a reading holds, each counted each time it is reached (what is shared counts as often as it is met; a slice's spare places count too). A statement '..UptoSaid' is the law's where the arguments, and the package variables that the reading takes, are together of bulk at most 1048576: NARROWER than '..Said'. Prove '..Said' where nothing that the law and all that it calls make is longer than what came in: it says more and counts as full. Else prove '..UptoSaid'. A law counts once. -/
mutual
def uptoBulk {H : Type} : DataW H → Nat
  | .lit (.string bytes) => bytes.length + 1
  | .lit _ => 1
  | .nil => 1
  | .ptr d => uptoBulk d + 1
  | .slice elems spare => uptoBulkAll elems + uptoBulkAll spare + 1
  | .agg parts => uptoBulkAll parts + 1
  | .iface _ d => uptoBulk d + 1
  | .map entries => uptoBulkEntries entries + 1
  | .held _ => 1
def uptoBulkAll {H : Type} : List (DataW H) → Nat
  | [] => 0
  | d :: r => uptoBulk d + uptoBulkAll r
def uptoBulkEntries {H : Type} : List (Lit × DataW H) → Nat
  | [] => 0
  | x :: r => uptoBulkEntry x + uptoBulkEntries r
def uptoBulkEntry {H : Type} : Lit × DataW H → Nat
  | (.string bytes, d) => bytes.length + uptoBulk d + 1
  | (_, d) => uptoBulk d + 1
 end
def uptoSmall : (H : Type) → List (DataW H) → Bool := fun _ ds => decide (uptoBulkAll ds ≤ 1048576)
def OpenSpec.upto (s : _root_.Go.ChangeSpec) : _root_.Go.OpenSpec := { _root_.Go.OpenSpec.ofChange s with cond := some uptoSmall }

/-- 'coxlesslaw14.LexKnown', WHERE WHAT IT READS IS OF BULK AT MOST 1048576: true; the input reads as it did. -/
def lexKnownUptoRow : OpenClaim := { program := "ytdafainfcegfkaa", sum := "714a76fa700b53f6f675b0878438e728b0f6ff9f2ca4c423d5ee2788ecee0185", func := "coxless/coxlesslaw14.LexKnown", spec := "lexKnown", inPlace := ["internal/bytealg.IndexByteString"], apart := false, narrowed := true }
def LexKnownUptoSaid : Prop := lexKnownUptoRow.holds Try.pinned (OpenSpec.upto lexKnownSpec)

/-- 'coxlesslaw18.SymsKnown', WHERE WHAT IT READS IS OF BULK AT MOST 1048576: true; the input reads as it did. -/
def symsKnownUptoRow : OpenClaim := { program := "ytdafainfcegfkaa", sum := "714a76fa700b53f6f675b0878438e728b0f6ff9f2ca4c423d5ee2788ecee0185", func := "coxless/coxlesslaw18.SymsKnown", spec := "symsKnown", unfollowed := true, recurses := true, apart := false, narrowed := true }
def SymsKnownUptoSaid : Prop := symsKnownUptoRow.holds Try.pinned (OpenSpec.upto symsKnownSpec)

/-- 'coxlesslaw05.ExtKnown', WHERE WHAT IT READS IS OF BULK AT MOST 1048576: true; the input reads as it did. -/
def extKnownUptoRow : OpenClaim := { program := "ytdafainfcegfkaa", sum := "714a76fa700b53f6f675b0878438e728b0f6ff9f2ca4c423d5ee2788ecee0185", func := "coxless/coxlesslaw05.ExtKnown", spec := "extKnown", apart := false, narrowed := true }
def ExtKnownUptoSaid : Prop := extKnownUptoRow.holds Try.pinned (OpenSpec.upto extKnownSpec)

/-- 'coxlesslaw10.RulesKnown', WHERE WHAT IT READS IS OF BULK AT MOST 1048576: true; the input reads as it did. -/
def rulesKnownUptoRow : OpenClaim := { program := "ytdafainfcegfkaa", sum := "714a76fa700b53f6f675b0878438e728b0f6ff9f2ca4c423d5ee2788ecee0185", func := "coxless/coxlesslaw10.RulesKnown", spec := "rulesKnown", unfollowed := true, recurses := true, apart := false, narrowed := true }
def RulesKnownUptoSaid : Prop := rulesKnownUptoRow.holds Try.pinned (OpenSpec.upto rulesKnownSpec)

/-- 'coxlesslaw15.ExprKnown', WHERE WHAT IT READS IS OF BULK AT MOST 1048576: true; the input reads as it did. -/
def exprKnownUptoRow : OpenClaim := { program := "ytdafainfcegfkaa", sum := "714a76fa700b53f6f675b0878438e728b0f6ff9f2ca4c423d5ee2788ecee0185", func := "coxless/coxlesslaw15.ExprKnown", spec := "exprKnown", inPlace := ["internal/bytealg.IndexByteString"], unfollowed := true, recurses := true, apart := false, narrowed := true }
def ExprKnownUptoSaid : Prop := exprKnownUptoRow.holds Try.pinned (OpenSpec.upto exprKnownSpec)

end Rows
end Go.Proofs.Ytdafainfcegfkaa
