/- What of an instruction is told: what is looked at in the leaves of runs. -/
import Derived.Test.YtamhmfdbnlkmkaaKnR10
import Derived.Test.YtamhmfdbnlkmkaaKnJ10
set_option linter.unusedVariables false
set_option linter.unusedSimpArgs false
set_option maxRecDepth 100000
namespace Go.Proofs.Ytamhmfdbnlkmkaa
open Go Go.RowKit


noncomputable def runE (f : FuncId) (args : List AV) (fs : Facts) : Out := runF codeRul (CR10 fs) 24 f args
noncomputable def isE (R : AV) (f : FuncId) (args : List AV) (fs : Facts) : Bool := isN R (runE f args fs) fs

theorem isE_ok {ρ : Env} {R : AV} {f : FuncId} {args : List AV} {fs : Facts} (hf : FactsOk ρ fs) (h : isE R f args fs = true) : CallsTo CA10 f (concs ρ args) (conc ρ R) := by
  have h1 : RunsIs (CR10 fs) 24 fs f args R := .code codeRul_ok rfl h
  exact (h1.calls (CR10_ok hf) hf).of rfl rfl

theorem runE_ok {ρ : Env} {f : FuncId} {args : List AV} {fs : Facts} (hf : FactsOk ρ fs) {r : AV} (h : outV ρ (runE f args fs) = some (conc ρ r)) : CallsTo CA10 f (concs ρ args) (conc ρ r) :=
  (run_calls (d := 24) (CR10_ok hf) (by rw [← runF_eq codeRul_ok rfl]; exact h)).of rfl rfl

/-- What is told of an instruction. -/
structure Told (x op : AV) (rt : Bool) (cl : Int) (w : Int) (wo : Bool) (p : Int) (po : Bool) : Prop where
  right : CallsTo CA10 14 [x] (blV rt)
  right' : CallsTo CA10 51 [x] (blV rt)
  class_ : CallsTo CA10 16 [x] (inV .u8 cl)
  class' : CallsTo CA10 52 [op] (inV .u8 cl)
  writes : CallsTo CA10 17 [x] (.tuple [inV .u8 w, blV wo])
  writes' : CallsTo CA10 35 [x] (.tuple [inV .u8 w, blV wo])
  pred : CallsTo CA10 15 [x] (.tuple [inV .u8 p, blV po])
  pred' : CallsTo CA10 37 [x] (.tuple [inV .u8 p, blV po])
  cls : 0 ≤ cl ∧ cl ≤ 6
  reg : 0 ≤ w ∧ w ≤ 31
  prd : 0 ≤ p ∧ p ≤ 3
  may : wo = true → rt = true
  may' : po = true → rt = true
  one : ¬ (wo = true ∧ po = true)


def yesT (c : Int) : Tabs := [(14, [(rightA c, blV true)]), (51, [(rightA c, blV true)])]
def opV (c : Int) : AV := .tc (.sc (.int .u8 c))
def anyI : AV := .agg [.tc (.sy (.int .u8) (.var 0)), .tc (.sy (.int .u8) (.var 1)), .tc (.sy (.int .u8) (.var 2)), .tc (.sy (.int .u8) (.var 3)), .tc (.sy (.int .u8) (.var 4)), .tc (.sy (.int .u8) (.var 5)), .tc (.sy (.int .u8) (.var 6)), .tc (.sy .bool (.var 7)), .tc (.sy .bool (.var 8)), .tc (.sy (.int .u16) (.var 9)), .tc (.sy (.int .i64) (.var 10))]
def anyF : Facts := (.cmp .geq (.var 0) (.lit 32), true) :: (.cmp .leq (.var 0) (.lit 255), true) :: rightF
end Go.Proofs.Ytamhmfdbnlkmkaa
