/- Rules: what is told of instructions, as variables. -/
import Derived.Test.YtamhmfdbnlkmkaaKnJ10
import Derived.Test.YtamhmfdbnlkmkaaSyJoin3
import Derived.Test.YtamhmfdbnlkmkaaKcRul
set_option linter.unusedVariables false
set_option linter.unusedSimpArgs false
set_option maxRecDepth 100000
namespace Go.Proofs.Ytamhmfdbnlkmkaa
open Go Go.RowKit

def qB (i : Nat) : Nat := 100 + 40 * i
/-- The cells of an instruction; r: it may be, so it has no mode where its value is new. -/
def qC (r : Bool) (b : Nat) : List TC := [.sy (.int .u8) (.var (b + 0)), .sy (.int .u8) (.var (b + 1)), .sy (.int .u8) (.var (b + 2)), .sy (.int .u8) (.var (b + 3)), .sy (.int .u8) (.var (b + 4)), .sy (.int .u8) (.var (b + 5)), .sy (.int .u8) (.var (b + 6)), .sy .bool (cond r (.and (.var (b + 7)) (.cmp .eql (.var (b + 6)) (.lit 0))) (.var (b + 7))), .sy .bool (.var (b + 8)), .sy (.int .u16) (.var (b + 9)), .sy (.int .i64) (.var (b + 10))]
def qA (r : Bool) (i : Nat) : AV := .agg (tcs (qC r (qB i)))
def qOp (i : Nat) : AV := .tc (.sy (.int .u8) (.var (qB i)))
def qL (r : Bool) (n : Nat) : AV := .tc (.sl 11 ((List.range n).map fun i => qC r (qB i)))
def u8X (e : Sx) : AV := .tc (.sy (.int .u8) e)
def boX (e : Sx) : AV := .tc (.sy .bool e)
def qW (i : Nat) : AV := .tuple [u8X (.var (qB i + 13)), boX (.cmp .eql (.var (qB i + 14)) (.lit 1))]
def qP (i : Nat) : AV := .tuple [u8X (.var (qB i + 15)), boX (.cmp .eql (.var (qB i + 14)) (.lit 2))]
def qBnd (v : Nat) (a b : Int) : Facts := [(.cmp .geq (.var v) (.lit a), true), (.cmp .leq (.var v) (.lit b), true)]
/-- What is known of an instruction. -/
def qF (i : Nat) : Facts := qBnd (qB i + 14) 0 2
/-- What is told of instructions i: whether each may be, its class, what it writes. -/
def qRows (r : Bool) (l : List Nat) (rt : Nat → AV) : Tabs := [
  (14, l.map fun i => ([qA r i], rt i)), (51, l.map fun i => ([qA r i], rt i)),
  (16, l.map fun i => ([qA r i], u8X (.var (qB i + 12)))), (52, l.map fun i => ([qOp i], u8X (.var (qB i + 12)))),
  (17, l.map fun i => ([qA r i], qW i)), (35, l.map fun i => ([qA r i], qW i)),
  (15, l.map fun i => ([qA r i], qP i)), (37, l.map fun i => ([qA r i], qP i))]
/-- The tables are told, at arguments as they are written. -/
def sumsT : Tabs → (FuncId → Option (List AV → Option AV)) → FuncId → Option (List AV → Option AV)
  | [], rest => rest
  | p :: r, rest => sum1 p.1 (tabF p.2) (sumsT r rest)
def ctxF (C : Ctx) (l : Tabs) : Ctx := { C with summ := sumsT l C.summ, pure := fun f => cond (inTabs f l) true (C.pure f) }

theorem ctxF_ok {ρ : Env} {C : Ctx} {l : Tabs} (hs : Summ ρ C) (h : ∀ p ∈ l, ∀ q ∈ p.2, CallsTo C p.1 (concs ρ q.1) (conc ρ q.2)) : Summ ρ (ctxF C l) := by
  have key : ∀ (l : Tabs), (∀ p ∈ l, ∀ q ∈ p.2, CallsTo C p.1 (concs ρ q.1) (conc ρ q.2)) → ∀ f g args r, sumsT l C.summ f = some g → g args = some r → CallsTo C f (concs ρ args) (conc ρ r) := by
    intro l
    induction l with
    | nil => intro _ f g args r h1 h2; exact hs f g args r h1 h2
    | cons p l ih =>
      intro h f g args r h1 h2
      simp only [sumsT, sum1] at h1
      split at h1
      · rename_i hx
        simp only [decide_eq_true_eq] at hx
        simp only [Option.some.injEq] at h1
        subst h1; subst hx
        exact tabF_ok (h p (List.mem_cons_self ..)) args r h2
      · exact ih (fun q hq => h q (List.mem_cons_of_mem _ hq)) f g args r h1 h2
  intro f g args r h1 h2
  exact (key l h f g args r h1 h2).of rfl rfl

/-- Calls by joined runs. -/
def jctxs (C : Ctx) (fs : Facts) : List FuncId → Ctx
  | [] => C
  | f :: r => jctxs (jctx C 24 60 fs f) fs r

theorem jctxs_ok {ρ : Env} (hF : ρ.F = iteF) {fs : Facts} (hf : FactsOk ρ fs) : ∀ {l : List FuncId} {C : Ctx}, Summ ρ C → Summ ρ (jctxs C fs l)
  | [], _, h => h
  | _ :: r, _, h => jctxs_ok hF hf (l := r) (jctx_ok hF h hf)

def qFuns : List FuncId := [34, 12, 36, 13, 30, 33, 31, 32, 28, 10, 11]
def rtT (i : Nat) : AV := blV true
def qFs (n : Nat) : Facts := ((List.range n).map qF).flatten
noncomputable def CQ (n : Nat) : Ctx := jctxs (ctxF CA10 (qRows true (List.range n) rtT)) (qFs n) qFuns

end Go.Proofs.Ytamhmfdbnlkmkaa
