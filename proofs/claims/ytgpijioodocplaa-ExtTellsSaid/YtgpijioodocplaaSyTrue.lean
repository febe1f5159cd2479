/- Laws that answer true at each leaf of a run. -/
import Derived.Test.YtgpijioodocplaaSyFastOk4
import Derived.Test.YtgpijioodocplaaSyLaw
set_option linter.unusedVariables false
namespace Go.Proofs.Ytgpijioodocplaa
open Go Go.RowKit

/-- Is a leaf true, by what is known? -/
def trueL (fs : Facts) : AV → Bool
  | .tc (.sc (.bool true)) => true
  | .tc (.sy .bool e) => match decB fs e with | some true => true | _ => false
  | _ => false

/-- Is each leaf that can be come to true? -/
def allT (fs : Facts) : Out → Bool
  | .fail => false
  | .leaf r => trueL fs r
  | .sel e a b => match decB fs e with
    | some true => allT fs a
    | some false => allT fs b
    | none => cond (allT (addFact e true fs) a) (allT (addFact e false fs) b) false

theorem trueL_ok {ρ : Env} {fs : Facts} {r : AV} (hf : FactsOk ρ fs) (h : trueL fs r = true) : conc ρ r = .sc (.bool true) := by
  unfold trueL at h
  split at h
  · rfl
  · rename_i e
    split at h
    · rename_i hd
      simp [conc, concT, STy.val, decB_ok hf e hd]
    · cases h
  · cases h

theorem allT_ok {ρ : Env} : ∀ (o : Out) {fs : Facts}, FactsOk ρ fs → allT fs o = true → outV ρ o = some (.sc (.bool true))
  | .fail, _, _, h => by simp [allT] at h
  | .leaf r, _, hf, h => by simp only [outV, trueL_ok hf h]
  | .sel e a b, fs, hf, h => by
    simp only [allT] at h
    split at h
    · rename_i hd
      simp only [outV, decB_ok hf e hd, cond_true]
      exact allT_ok a hf h
    · rename_i hd
      simp only [outV, decB_ok hf e hd, _root_.cond_false]
      exact allT_ok b hf h
    · cases ha : allT (addFact e true fs) a with
      | false => rw [ha] at h; cases h
      | true =>
        rw [ha, cond_true] at h
        simp only [outV]
        cases hb : (den ρ e).b with
        | true => simp only [cond_true]; exact allT_ok a (addFact_ok e hf hb) ha
        | false => simp only [_root_.cond_false]; exact allT_ok b (addFact_ok e hf hb) h

/-- The leaves that are not seen to be true, with what is known there. -/
def residT (fs : Facts) : Out → List (Facts × AV)
  | .fail => [(fs, undefA)]
  | .leaf r => match trueL fs r with | true => [] | false => [(fs, r)]
  | .sel e a b => match decB fs e with
    | some true => residT fs a
    | some false => residT fs b
    | none => residT (addFact e true fs) a ++ residT (addFact e false fs) b

/-- How many leaves there are. -/
def leavesT (fs : Facts) : Out → Nat
  | .fail => 1
  | .leaf r => 1
  | .sel e a b => match decB fs e with
    | some true => leavesT fs a
    | some false => leavesT fs b
    | none => leavesT (addFact e true fs) a + leavesT (addFact e false fs) b

/-- A run each of whose leaves is true. -/
@[irreducible] def RunsTrue (C : Ctx) (d : Nat) (fs : Facts) (f : FuncId) (args : List AV) : Prop := allT fs (runOut C d f args) = true

theorem RunsTrue.code {code : FuncId → FF} {C : Ctx} {d : Nat} {fs : Facts} {f : FuncId} {args : List AV} (hcode : ∀ f, code f = .bad ∨ code f = compF (baseOf C) f) (hsym : C.sym = false) (h : allT fs (runF code C d f args) = true) :
    RunsTrue C d fs f args := by
  unfold RunsTrue
  rw [← runF_eq hcode hsym]
  exact h

theorem RunsTrue.calls {ρ : Env} {C : Ctx} {d : Nat} {fs : Facts} {f : FuncId} {args : List AV} (h : RunsTrue C d fs f args) (hs : Summ ρ C) (hf : FactsOk ρ fs) : CallsTo C f (concs ρ args) (.sc (.bool true)) := by
  unfold RunsTrue at h
  exact run_calls hs (allT_ok _ hf h)

/-- Values for variables that are whole numbers. -/
def ints (l : List Int) : Env := { ρ0 with I := fun i => l.getD i 0 }

/-- A kind's numbers. -/
def kindF (k : IntKind) (i : Nat) : Facts := [(.cmp .geq (.var i) (.lit k.min), true), (.cmp .leq (.var i) (.lit k.max), true)]

theorem kindF_ok {ρ : Env} {k : IntKind} {i : Nat} (h : k.min ≤ ρ.I i ∧ ρ.I i ≤ k.max) : FactsOk ρ (kindF k i) := by
  intro p hp
  simp only [kindF, List.mem_cons, List.not_mem_nil, or_false] at hp
  rcases hp with rfl | rfl <;> simp [den, cmpI, h.1, h.2]

theorem FactsOk.append {ρ : Env} {a b : Facts} (ha : FactsOk ρ a) (hb : FactsOk ρ b) : FactsOk ρ (a ++ b) := fun p hp => (List.mem_append.1 hp).elim (ha p) (hb p)
theorem FactsOk.nil {ρ : Env} : FactsOk ρ [] := fun p hp => by cases hp

/-- Arguments that are scalars lie as they are. -/
theorem relL_scs (ob : Obs) (Pb : Nat → Prop) (w : World) (vs : List Value) : @RelL ob Pb noMu w (scs vs) vs.toArray := by
  have := @rel_scs ob Pb noMu w vs.toArray
  simpa using this
end Go.Proofs.Ytgpijioodocplaa
