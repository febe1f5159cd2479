/- Runs one behind the other: what is looked at in each leaf of a run, under what is known there. -/
import Derived.Test.YtamhmfdbnlkmkaaSySpec
set_option linter.unusedVariables false
namespace Go.Proofs.Ytamhmfdbnlkmkaa
open Go Go.RowKit

/-- Does each leaf of a run answer, under what is known there? -/
def leafsN (k : AV → Facts → Bool) : Out → Facts → Bool
  | .fail, _ => false
  | .leaf r, fs => k r fs
  | .sel e a b, fs => test both e fs (leafsN k a) (leafsN k b)

theorem leafsN_ok {ρ : Env} {k : AV → Facts → Bool} : ∀ (o : Out) {fs : Facts}, FactsOk ρ fs → leafsN k o fs = true → ∃ r fs', outV ρ o = some (conc ρ r) ∧ FactsOk ρ fs' ∧ k r fs' = true
  | .fail, _, _, h => by simp [leafsN] at h
  | .leaf r, fs, hf, h => ⟨r, fs, rfl, hf, h⟩
  | .sel e a b, fs, hf, h => by
    have := test_ok e hf h
    simp only [outV]
    cases hb : (den ρ e).b with
    | true =>
      obtain ⟨fs', hf', h'⟩ := this.1 hb
      exact leafsN_ok a hf' h'
    | false =>
      obtain ⟨fs', hf', h'⟩ := this.2 hb
      exact leafsN_ok b hf' h'

/-- A run whose leaves all answer. -/
@[irreducible] def RunsCh (C : Ctx) (d : Nat) (fs : Facts) (f : FuncId) (args : List AV) (k : AV → Facts → Bool) : Prop := leafsN k (runOut C d f args) fs = true

theorem RunsCh.code {code : FuncId → FF} {C : Ctx} {d : Nat} {fs : Facts} {f : FuncId} {args : List AV} {k : AV → Facts → Bool} (hcode : ∀ f, code f = .bad ∨ code f = compF (baseOf C) f) (hsym : C.sym = false) (h : leafsN k (runF code C d f args) fs = true) :
    RunsCh C d fs f args k := by
  unfold RunsCh
  rw [← runF_eq hcode hsym]
  exact h

theorem RunsCh.calls {ρ : Env} {C : Ctx} {d : Nat} {fs : Facts} {f : FuncId} {args : List AV} {k : AV → Facts → Bool} (h : RunsCh C d fs f args k) (hs : Summ ρ C) (hf : FactsOk ρ fs) :
    ∃ r fs', CallsTo C f (concs ρ args) (conc ρ r) ∧ FactsOk ρ fs' ∧ k r fs' = true := by
  unfold RunsCh at h
  obtain ⟨r, fs', h1, h2, h3⟩ := leafsN_ok _ hf h
  exact ⟨r, fs', run_calls hs h1, h2, h3⟩

/-- Is a test true, by what is known? -/
def knowN (e : Sx) (b : Bool) (fs : Facts) : Bool := test both e fs (fun _ => b) (fun _ => cond b false true)

theorem knowN_ok {ρ : Env} {e : Sx} {b : Bool} {fs : Facts} (hf : FactsOk ρ fs) (h : knowN e b fs = true) : (den ρ e).b = b := by
  have := test_ok e hf h
  cases hb : (den ρ e).b with
  | true =>
    obtain ⟨_, _, h'⟩ := this.1 hb
    exact h'.symm
  | false =>
    obtain ⟨_, _, h'⟩ := this.2 hb
    cases b with
    | true => cases h'
    | false => rfl
end Go.Proofs.Ytamhmfdbnlkmkaa
