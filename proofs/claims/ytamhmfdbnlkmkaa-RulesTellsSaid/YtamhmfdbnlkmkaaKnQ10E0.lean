/- Rules: what needs new values: what is run. -/
import Derived.Test.YtamhmfdbnlkmkaaKnQ100
import Derived.Test.YtamhmfdbnlkmkaaSyJoin4
set_option linter.unusedVariables false
set_option linter.unusedSimpArgs false
set_option maxRecDepth 100000
namespace Go.Proofs.Ytamhmfdbnlkmkaa
open Go Go.RowKit


def cL : Code → Code
  | .seq a _ => a
  | c => c
def cR : Code → Code
  | .seq _ b => b
  | c => c
def cB : Code → Code
  | .block _ b => b
  | .loop b => b
  | c => c
noncomputable def fhFn : Func := (XP.funcs[33]?).getD default
noncomputable def fhC : Code := fhFn.body.getD .skip
noncomputable def fhA : Code := cL fhC
noncomputable def fhB : Code := cL (cL (cR fhC))
noncomputable def fhO : Code := cB (cB (cR (cL (cR fhC))))
noncomputable def fhE : Code := cR (cR fhC)
theorem fhFn_at : XP.funcs[33]? = some fhFn := by kernel_rfl
theorem fhFn_body : fhFn.body = some (.seq fhA (.seq (.seq fhB (.block 0 (.loop fhO))) fhE)) := by kernel_rfl
theorem fhFn_res : fhFn.results.toList = [.tmp 2] := by kernel_rfl
theorem fhFn_n : fhFn.ntmps = 105 := by kernel_rfl
/-- Between rounds. -/
def fhT (n : Nat) (i : Int) : Tmps := qL true n :: .any :: blV false :: inV .i64 i :: List.replicate 101 .any
def fhR (b : Bool) : Tmps := .any :: .any :: blV b :: List.replicate 102 .any
noncomputable def fhX (n : Nat) : Ctx := ctxF CA10 (qRows true (List.range n) rtT)
/-- What rules.fed tells, by an expression. -/
noncomputable def fedE (n i : Nat) : Option Sx := match jfun (fhX n) 24 60 (qFs n) 30 [qA true i, qL true n] with
  | some (.tc (.sy .bool e)) => some e
  | some (.tc (.sc (.bool b))) => some (.lb b)
  | _ => none
noncomputable def fhRound (n i : Nat) : Bool := match fedE n i with
  | some e => toJ (fhX n) 24 fhFn.tmpNames 60 (qFs n) fhO (fhT n i) [] [(.ret, fhR false, .not e), (.normal, fhT n (i + 1), e)]
  | none => false
noncomputable def fhEnds (n : Nat) : Bool := both (toJ (fhX n) 24 fhFn.tmpNames 60 (qFs n) fhO (fhT n n) [] [(.exit 0, fhT n n, .lb true)]) (both (toJ (fhX n) 24 fhFn.tmpNames 60 (qFs n) fhA (initT 0 [qL true n] 105) [] [(.normal, qL true n :: .any :: blV false :: .any :: List.replicate 101 .any, .lb true)])
  (both (toJ (fhX n) 24 fhFn.tmpNames 60 (qFs n) fhB (qL true n :: .any :: blV false :: .any :: List.replicate 101 .any) [] [(.normal, fhT n 0, .lb true)]) (toJ (fhX n) 24 fhFn.tmpNames 60 (qFs n) fhE (fhT n n) [] [(.ret, fhR true, .lb true)])))

end Go.Proofs.Ytamhmfdbnlkmkaa
