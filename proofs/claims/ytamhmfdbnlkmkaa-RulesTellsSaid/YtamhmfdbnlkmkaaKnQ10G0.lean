/- Rules: what is wrong with a packet: what is run. -/
import Derived.Test.YtamhmfdbnlkmkaaKnQ100
import Derived.Test.YtamhmfdbnlkmkaaSyJoin4
set_option linter.unusedVariables false
set_option linter.unusedSimpArgs false
set_option maxRecDepth 100000
namespace Go.Proofs.Ytamhmfdbnlkmkaa
open Go Go.RowKit


def gP (n : Nat) : AV := .agg [qL false n, boX (.var 710), boX (.var 711), boX (.var 712), boX (.var 713)]
def gPairs (n : Nat) : List (Nat × Nat) := ((List.range n).map fun j => (List.range j).map fun i => (i, j)).flatten
def gAll : List Nat → Sx
  | [] => .lb true
  | i :: r => andX (.var (700 + i)) (gAll r)
def gCl (n : Nat) : List (List AV × AV) := (gPairs n).map fun p => ([qA false p.1, qA false p.2], boX (.var (600 + 10 * p.1 + p.2)))
/-- All may be. -/
def gT (n : Nat) : Tabs := qRows false (List.range n) rtT ++ [(12, gCl n), (13, gCl n), (30, (List.range n).map fun i => ([qA false i, qL false n], boX (.var (700 + i)))), (33, [([qL false n], boX (gAll (List.range n)))])]
/-- Instruction j is the first that may not be. -/
def gRt (j i : Nat) : AV := cond (decide (i < j)) (blV true) (cond (decide (i = j)) (blV false) (boX (.var (730 + i))))
def gU (n j : Nat) : Tabs := qRows false (List.range n) (gRt j)
/-- Both tell the same. -/
noncomputable def gSame (n : Nat) (l : Tabs) : Bool := match jfun (ctxF CA10 l) 24 60 [] 10 [gP n], jfun (ctxF CA10 l) 24 60 [] 11 [gP n] with
  | some a, some b => match asSx a, asSx b with
    | some (.int .i64, x), some (.int .i64, y) => knowJ (.cmp .eql x y) true []
    | _, _ => false
  | _, _ => false
noncomputable def kG (l : Tabs) (n : Nat) (r : AV) (fs : Facts) : Bool := match r with
  | .tc (.sc (.int .i64 v)) => isN (inV .i64 v) (runF codeRul (ctxF CA10 l) 24 11 [gP n]) fs
  | _ => false
/-- The law's run. -/
def lP (n : Nat) : AV := gP n
def lArgs (n : Nat) : List AV := [gP n, qA false 8, qA false 9]
def lT (n : Nat) : Tabs := [(10, [([gP n], .tc (.sy (.int .i64) (.var 740)))]), (11, [([gP n], .tc (.sy (.int .i64) (.var 740)))]), (12, [([qA false 8, qA false 9], boX (.var 720))]), (13, [([qA false 8, qA false 9], boX (.var 720))])]

end Go.Proofs.Ytamhmfdbnlkmkaa
