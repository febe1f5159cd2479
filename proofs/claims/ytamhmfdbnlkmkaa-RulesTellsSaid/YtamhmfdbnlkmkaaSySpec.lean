/- Runs that are told by trees of tests; summaries by tables whose arguments are held against those of a call under facts. -/
import Derived.Test.YtamhmfdbnlkmkaaMg8
import Derived.Test.YtamhmfdbnlkmkaaMg6
set_option linter.unusedVariables false
namespace Go.Proofs.Ytamhmfdbnlkmkaa
open Go Go.RowKit

/-- Is a leaf what a tree of tests says? -/
def specN (r : AV) : Out → Facts → Bool
  | .fail, _ => false
  | .leaf R, fs => sameN fs r R
  | .sel e a b, fs => test both e fs (specN r a) (specN r b)

theorem specN_ok {ρ : Env} {r : AV} : ∀ (O : Out) {fs : Facts}, FactsOk ρ fs → specN r O fs = true → outV ρ O = some (conc ρ r)
  | .fail, _, _, h => by simp [specN] at h
  | .leaf R, _, hf, h => by simp only [outV, sameN_ok hf r R h]
  | .sel e a b, fs, hf, h => by
    have := test_ok e hf h
    simp only [outV]
    cases hb : (den ρ e).b with
    | true =>
      obtain ⟨fs', hf', h'⟩ := this.1 hb
      exact specN_ok a hf' h'
    | false =>
      obtain ⟨fs', hf', h'⟩ := this.2 hb
      exact specN_ok b hf' h'

/-- Is each leaf of a run what a tree of tests says? -/
def isO (O : Out) : Out → Facts → Bool
  | .fail, _ => false
  | .leaf r, fs => specN r O fs
  | .sel e a b, fs => test both e fs (isO O a) (isO O b)

theorem isO_ok {ρ : Env} {O : Out} {R : AV} (hv : outV ρ O = some R) : ∀ (o : Out) {fs : Facts}, FactsOk ρ fs → isO O o fs = true → outV ρ o = some R
  | .fail, _, _, h => by simp [isO] at h
  | .leaf r, _, hf, h => by simp only [outV]; rw [← specN_ok O hf h, hv]
  | .sel e a b, fs, hf, h => by
    have := test_ok e hf h
    simp only [outV]
    cases hb : (den ρ e).b with
    | true =>
      obtain ⟨fs', hf', h'⟩ := this.1 hb
      exact isO_ok hv a hf' h'
    | false =>
      obtain ⟨fs', hf', h'⟩ := this.2 hb
      exact isO_ok hv b hf' h'

/-- The leaves that are not. -/
def residO (O : Out) : Out → Facts → List (Facts × AV)
  | .fail, fs => [(fs, undefA)]
  | .leaf r, fs => match specN r O fs with | true => [] | false => [(fs, r)]
  | .sel e a b, fs => test (· ++ ·) e fs (residO O a) (residO O b)

/-- A run that tells what a tree of tests says. -/
@[irreducible] def RunsTo (C : Ctx) (d : Nat) (fs : Facts) (f : FuncId) (args : List AV) (O : Out) : Prop := isO O (runOut C d f args) fs = true

theorem RunsTo.code {code : FuncId → FF} {C : Ctx} {d : Nat} {fs : Facts} {f : FuncId} {args : List AV} {O : Out} (hcode : ∀ f, code f = .bad ∨ code f = compF (baseOf C) f) (hsym : C.sym = false) (h : isO O (runF code C d f args) fs = true) :
    RunsTo C d fs f args O := by
  unfold RunsTo
  rw [← runF_eq hcode hsym]
  exact h

theorem RunsTo.calls {ρ : Env} {C : Ctx} {d : Nat} {fs : Facts} {f : FuncId} {args : List AV} {O : Out} {R : AV} (h : RunsTo C d fs f args O) (hs : Summ ρ C) (hf : FactsOk ρ fs) (hv : outV ρ O = some R) : CallsTo C f (concs ρ args) R := by
  unfold RunsTo at h
  exact run_calls hs (isO_ok hv _ hf h)

/-- A summary that is told at some arguments, held against under facts. -/
def tabN (fs : Facts) (l : List (List AV × AV)) (args : List AV) : Option AV :=
  match l with
  | [] => none
  | p :: r => match sameNs fs p.1 args with | true => some p.2 | false => tabN fs r args

theorem tabN_ok {ρ : Env} {fs : Facts} (hf : FactsOk ρ fs) {C : Ctx} {f : FuncId} : ∀ {l : List (List AV × AV)}, (∀ p ∈ l, CallsTo C f (concs ρ p.1) (conc ρ p.2)) → ∀ args r, tabN fs l args = some r → CallsTo C f (concs ρ args) (conc ρ r)
  | [], _, args, r, h => by simp [tabN] at h
  | p :: l, hl, args, r, h => by
    simp only [tabN] at h
    split at h
    · rename_i hs
      simp only [Option.some.injEq] at h
      subst h
      rw [← sameNs_ok hf _ _ hs]
      exact hl p (List.mem_cons_self ..)
    · exact tabN_ok hf (fun q hq => hl q (List.mem_cons_of_mem _ hq)) args r h
end Go.Proofs.Ytamhmfdbnlkmkaa
