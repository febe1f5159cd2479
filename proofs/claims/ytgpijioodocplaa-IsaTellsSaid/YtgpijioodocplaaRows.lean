/-
  No cell of these rows narrows 'for every input' (looked for: loops, veiled, ifaces, maps, wideKeys, modest, calm, conditions, laid).
  DERIVED. THE GIVEN ROWS OF THIS SEAT. 7 by the template 'for every input the law returns true; each argument reads behind the call as it read before'; 0 by the template 'total and deterministic' (their statements: YtgpijioodocplaaTotals.lean).
  GIVEN WITH THE SEED: the statements are not yours to turn. If you find one false, say at which input.
  Laid BY PROGRAM, IN A SANDBOX (cutbox-rows.mjs): the forced cells as the released guide's own fill.sh prints them over the translation f507c45334dd7da8… (all of the seat's roots in one cut). By AI agents, Wed Nov 11 2026. No macro, syntax, notation, axiom, sorry.
-/
import Derived.Test.YtgpijioodocplaaChecked
import GoSem.Claim
import GoSem.ClaimJoined
import GoSem.ClaimMapViews
import Derived.JoinedTies
import Derived.KernelRfl
namespace Go.Proofs.Ytgpijioodocplaa
/- THE CELL 'sum', in the pinned program and in every row, IS THE sha256 OF THE DUMP (.gsa) THAT YtgpijioodocplaaProg.lean LOADS. Nothing in Lean hashes anything: it is a label: what it is worth is what the hold of that sum in a sandbox is worth. -/
noncomputable def Try.pinned : Pinned := { name := "ytgpijioodocplaa", sum := "f507c45334dd7da8034a0db9ce1f8660d2971a2be8137d0fb966ff97b361c155", checked := Try.checked }
namespace Rows
def none {H : Type} : Left H := { results := [], args := [] }

/-- 'coxlesslaw03.IsaOwn': WHATEVER THE INPUT: true; the input reads as it did. -/
def isaOwnSpec : ChangeSpec := { name := "isaOwn", fn := fun _ => fun
  | [d1, d2] => { results := [.lit (.bool true)], args := [d1, d2] }
  | _ => none }
def isaOwnRow : OpenClaim := { program := "ytgpijioodocplaa", sum := "f507c45334dd7da8034a0db9ce1f8660d2971a2be8137d0fb966ff97b361c155", func := "coxless/coxlesslaw03.IsaOwn", spec := "isaOwn", apart := false }
def IsaOwnSaid : Prop := isaOwnRow.holds Try.pinned (OpenSpec.ofChange isaOwnSpec)

/-- ITS FALSE NEIGHBOUR: 'it returns false'. Refute it at one input. -/
def isaOwnWrong : ChangeSpec := { name := "isaOwn", fn := fun _ => fun
  | [d1, d2] => { results := [.lit (.bool false)], args := [d1, d2] }
  | _ => none }
def IsaOwnWrongFalsely : Prop := isaOwnRow.holds Try.pinned (OpenSpec.ofChange isaOwnWrong)

/-- 'coxlesslaw03.IsaTells': WHATEVER THE INPUT: true; the input reads as it did. -/
def isaTellsSpec : ChangeSpec := { name := "isaTells", fn := fun _ => fun
  | [d1, d2, d3, d4] => { results := [.lit (.bool true)], args := [d1, d2, d3, d4] }
  | _ => none }
def isaTellsRow : OpenClaim := { program := "ytgpijioodocplaa", sum := "f507c45334dd7da8034a0db9ce1f8660d2971a2be8137d0fb966ff97b361c155", func := "coxless/coxlesslaw03.IsaTells", spec := "isaTells", apart := false }
def IsaTellsSaid : Prop := isaTellsRow.holds Try.pinned (OpenSpec.ofChange isaTellsSpec)

/-- ITS FALSE NEIGHBOUR: 'it returns false'. Refute it at one input. -/
def isaTellsWrong : ChangeSpec := { name := "isaTells", fn := fun _ => fun
  | [d1, d2, d3, d4] => { results := [.lit (.bool false)], args := [d1, d2, d3, d4] }
  | _ => none }
def IsaTellsWrongFalsely : Prop := isaTellsRow.holds Try.pinned (OpenSpec.ofChange isaTellsWrong)

/-- 'coxlesslaw03.IsaApart': WHATEVER THE INPUT: true; the input reads as it did. -/
def isaApartSpec : ChangeSpec := { name := "isaApart", fn := fun _ => fun
  | [d] => { results := [.lit (.bool true)], args := [d] }
  | _ => none }
def isaApartRow : OpenClaim := { program := "ytgpijioodocplaa", sum := "f507c45334dd7da8034a0db9ce1f8660d2971a2be8137d0fb966ff97b361c155", func := "coxless/coxlesslaw03.IsaApart", spec := "isaApart", apart := false }
def IsaApartSaid : Prop := isaApartRow.holds Try.pinned (OpenSpec.ofChange isaApartSpec)

/-- ITS FALSE NEIGHBOUR: 'it returns false'. Refute it at one input. -/
def isaApartWrong : ChangeSpec := { name := "isaApart", fn := fun _ => fun
  | [d] => { results := [.lit (.bool false)], args := [d] }
  | _ => none }
def IsaApartWrongFalsely : Prop := isaApartRow.holds Try.pinned (OpenSpec.ofChange isaApartWrong)

/-- 'coxlesslaw05.ExtTells': WHATEVER THE INPUT: true; the input reads as it did. -/
def extTellsSpec : ChangeSpec := { name := "extTells", fn := fun _ => fun
  | [d1, d2] => { results := [.lit (.bool true)], args := [d1, d2] }
  | _ => none }
def extTellsRow : OpenClaim := { program := "ytgpijioodocplaa", sum := "f507c45334dd7da8034a0db9ce1f8660d2971a2be8137d0fb966ff97b361c155", func := "coxless/coxlesslaw05.ExtTells", spec := "extTells", apart := false }
def ExtTellsSaid : Prop := extTellsRow.holds Try.pinned (OpenSpec.ofChange extTellsSpec)

/-- ITS FALSE NEIGHBOUR: 'it returns false'. Refute it at one input. -/
def extTellsWrong : ChangeSpec := { name := "extTells", fn := fun _ => fun
  | [d1, d2] => { results := [.lit (.bool false)], args := [d1, d2] }
  | _ => none }
def ExtTellsWrongFalsely : Prop := extTellsRow.holds Try.pinned (OpenSpec.ofChange extTellsWrong)

/-- 'coxlesslaw05.ExtMoves': WHATEVER THE INPUT: true; the input reads as it did. -/
def extMovesSpec : ChangeSpec := { name := "extMoves", fn := fun _ => fun
  | [d1, d2, d3, d4] => { results := [.lit (.bool true)], args := [d1, d2, d3, d4] }
  | _ => none }
def extMovesRow : OpenClaim := { program := "ytgpijioodocplaa", sum := "f507c45334dd7da8034a0db9ce1f8660d2971a2be8137d0fb966ff97b361c155", func := "coxless/coxlesslaw05.ExtMoves", spec := "extMoves", apart := false }
def ExtMovesSaid : Prop := extMovesRow.holds Try.pinned (OpenSpec.ofChange extMovesSpec)

/-- ITS FALSE NEIGHBOUR: 'it returns false'. Refute it at one input. -/
def extMovesWrong : ChangeSpec := { name := "extMoves", fn := fun _ => fun
  | [d1, d2, d3, d4] => { results := [.lit (.bool false)], args := [d1, d2, d3, d4] }
  | _ => none }
def ExtMovesWrongFalsely : Prop := extMovesRow.holds Try.pinned (OpenSpec.ofChange extMovesWrong)

/-- 'coxlesslaw05.ExtParts': WHATEVER THE INPUT: true; the input reads as it did. -/
def extPartsSpec : ChangeSpec := { name := "extParts", fn := fun _ => fun
  | [d1, d2, d3, d4] => { results := [.lit (.bool true)], args := [d1, d2, d3, d4] }
  | _ => none }
def extPartsRow : OpenClaim := { program := "ytgpijioodocplaa", sum := "f507c45334dd7da8034a0db9ce1f8660d2971a2be8137d0fb966ff97b361c155", func := "coxless/coxlesslaw05.ExtParts", spec := "extParts", apart := false }
def ExtPartsSaid : Prop := extPartsRow.holds Try.pinned (OpenSpec.ofChange extPartsSpec)

/-- ITS FALSE NEIGHBOUR: 'it returns false'. Refute it at one input. -/
def extPartsWrong : ChangeSpec := { name := "extParts", fn := fun _ => fun
  | [d1, d2, d3, d4] => { results := [.lit (.bool false)], args := [d1, d2, d3, d4] }
  | _ => none }
def ExtPartsWrongFalsely : Prop := extPartsRow.holds Try.pinned (OpenSpec.ofChange extPartsWrong)

/-- 'coxlesslaw05.ExtBack': WHATEVER THE INPUT: true; the input reads as it did. -/
def extBackSpec : ChangeSpec := { name := "extBack", fn := fun _ => fun
  | [d1, d2, d3, d4, d5] => { results := [.lit (.bool true)], args := [d1, d2, d3, d4, d5] }
  | _ => none }
def extBackRow : OpenClaim := { program := "ytgpijioodocplaa", sum := "f507c45334dd7da8034a0db9ce1f8660d2971a2be8137d0fb966ff97b361c155", func := "coxless/coxlesslaw05.ExtBack", spec := "extBack", apart := false }
def ExtBackSaid : Prop := extBackRow.holds Try.pinned (OpenSpec.ofChange extBackSpec)

/-- ITS FALSE NEIGHBOUR: 'it returns false'. Refute it at one input. -/
def extBackWrong : ChangeSpec := { name := "extBack", fn := fun _ => fun
  | [d1, d2, d3, d4, d5] => { results := [.lit (.bool false)], args := [d1, d2, d3, d4, d5] }
  | _ => none }
def ExtBackWrongFalsely : Prop := extBackRow.holds Try.pinned (OpenSpec.ofChange extBackWrong)

/- THE SECOND FORM. 'bulk': how many values and letters a reading holds, each counted each time it is reached (what is shared counts as often as it is met; a slice's spare places count too). A statement '..UptoSaid' is the law's where the arguments, and the package variables that the reading takes, are together of bulk at most 1048576: NARROWER than '..Said'. Prove '..Said' where nothing that the law and all that it calls make is longer than what came in: it says more and counts as full. Else prove '..UptoSaid'. A law counts once. -/
mutual
def uptoBulk {H : Type} : DataW H → Nat
  | .lit (.string bytes) => bytes.length + 1
  | .lit _ => 1
  | .nil => 1
  | .ptr d => uptoBulk d + 1
  | .slice elems spare => uptoBulkAll elems + uptoBulkAll spare + 1
  | .agg parts => uptoBulkAll parts + 1
  | .iface _ d => uptoBulk d + 1
  | .map entries => uptoBulkEntries entries + 1
  | .held _ => 1
def uptoBulkAll {H : Type} : List (DataW H) → Nat
  | [] => 0
  | d :: r => uptoBulk d + uptoBulkAll r
def uptoBulkEntries {H : Type} : List (Lit × DataW H) → Nat
  | [] => 0
  | x :: r => uptoBulkEntry x + uptoBulkEntries r
def uptoBulkEntry {H : Type} : Lit × DataW H → Nat
  | (.string bytes, d) => bytes.length + uptoBulk d + 1
  | (_, d) => uptoBulk d + 1
 end
def uptoSmall : (H : Type) → List (DataW H) → Bool := fun _ ds => decide (uptoBulkAll ds ≤ 1048576)
def OpenSpec.upto (s : _root_.Go.ChangeSpec) : _root_.Go.OpenSpec := { _root_.Go.OpenSpec.ofChange s with cond := some uptoSmall }

/-- 'coxlesslaw03.IsaOwn', WHERE WHAT IT READS IS OF BULK AT MOST 1048576: true; the input reads as it did. -/
def isaOwnUptoRow : OpenClaim := { program := "ytgpijioodocplaa", sum := "f507c45334dd7da8034a0db9ce1f8660d2971a2be8137d0fb966ff97b361c155", func := "coxless/coxlesslaw03.IsaOwn", spec := "isaOwn", apart := false, narrowed := true }
def IsaOwnUptoSaid : Prop := isaOwnUptoRow.holds Try.pinned (OpenSpec.upto isaOwnSpec)

/-- 'coxlesslaw03.IsaTells', WHERE WHAT IT READS IS OF BULK AT MOST 1048576: true; the input reads as it did. -/
def isaTellsUptoRow : OpenClaim := { program := "ytgpijioodocplaa", sum := "f507c45334dd7da8034a0db9ce1f8660d2971a2be8137d0fb966ff97b361c155", func := "coxless/coxlesslaw03.IsaTells", spec := "isaTells", apart := false, narrowed := true }
def IsaTellsUptoSaid : Prop := isaTellsUptoRow.holds Try.pinned (OpenSpec.upto isaTellsSpec)

/-- 'coxlesslaw03.IsaApart', WHERE WHAT IT READS IS OF BULK AT MOST 1048576: true; the input reads as it did. -/
def isaApartUptoRow : OpenClaim := { program := "ytgpijioodocplaa", sum := "f507c45334dd7da8034a0db9ce1f8660d2971a2be8137d0fb966ff97b361c155", func := "coxless/coxlesslaw03.IsaApart", spec := "isaApart", apart := false, narrowed := true }
def IsaApartUptoSaid : Prop := isaApartUptoRow.holds Try.pinned (OpenSpec.upto isaApartSpec)

/-- 'coxlesslaw05.ExtTells', WHERE WHAT IT READS IS OF BULK AT MOST 1048576: true; the input reads as it did. -/
def extTellsUptoRow : OpenClaim := { program := "ytgpijioodocplaa", sum := "f507c45334dd7da8034a0db9ce1f8660d2971a2be8137d0fb966ff97b361c155", func := "coxless/coxlesslaw05.ExtTells", spec := "extTells", apart := false, narrowed := true }
def ExtTellsUptoSaid : Prop := extTellsUptoRow.holds Try.pinned (OpenSpec.upto extTellsSpec)

/-- 'coxlesslaw05.ExtMoves', WHERE WHAT IT READS IS OF BULK AT MOST 1048576: true; the input reads as it did. -/
def extMovesUptoRow : OpenClaim := { program := "ytgpijioodocplaa", sum := "f507c45334dd7da8034a0db9ce1f8660d2971a2be8137d0fb966ff97b361c155", func := "coxless/coxlesslaw05.ExtMoves", spec := "extMoves", apart := false, narrowed := true }
def ExtMovesUptoSaid : Prop := extMovesUptoRow.holds Try.pinned (OpenSpec.upto extMovesSpec)

/-- 'coxlesslaw05.ExtParts', WHERE WHAT IT READS IS OF BULK AT MOST 1048576: true; the input reads as it did. -/
def extPartsUptoRow : OpenClaim := { program := "ytgpijioodocplaa", sum := "f507c45334dd7da8034a0db9ce1f8660d2971a2be8137d0fb966ff97b361c155", func := "coxless/coxlesslaw05.ExtParts", spec := "extParts", apart := false, narrowed := true }
def ExtPartsUptoSaid : Prop := extPartsUptoRow.holds Try.pinned (OpenSpec.upto extPartsSpec)

/-- 'coxlesslaw05.ExtBack', WHERE WHAT IT READS IS OF BULK AT MOST 1048576: true; the input reads as it did. -/
def extBackUptoRow : OpenClaim := { program := "ytgpijioodocplaa", sum := "f507c45334dd7da8034a0db9ce1f8660d2971a2be8137d0fb966ff97b361c155", func := "coxless/coxlesslaw05.ExtBack", spec := "extBack", apart := false, narrowed := true }
def ExtBackUptoSaid : Prop := extBackUptoRow.holds Try.pinned (OpenSpec.upto extBackSpec)

end Rows
end Go.Proofs.Ytgpijioodocplaa
