/- The law IsaTells: contexts in which lines are told. -/
import Derived.Test.YtgpijioodocplaaKnITLA
import Derived.Test.YtgpijioodocplaaKnITLB
set_option linter.unusedVariables false
set_option linter.unusedSimpArgs false
set_option maxRecDepth 100000
namespace Go.Proofs.Ytgpijioodocplaa
open Go Go.RowKit

theorem lineT_ok (ρ : Env) : ∀ p ∈ lineT, CallsTo CA03 34 (concs ρ p.1) (conc ρ p.2) := by
  intro p hp
  simp only [lineT, List.mem_cons, List.not_mem_nil, or_false] at hp
  rcases hp with rfl | rfl | rfl | rfl | rfl | rfl | rfl | rfl | rfl | rfl | rfl | rfl | rfl | rfl | rfl | rfl | rfl | rfl | rfl | rfl | rfl | rfl | rfl | rfl | rfl | rfl | rfl | rfl | rfl | rfl | rfl | rfl
  · exact line_run0.calls (CA03_ok ρ) FactsOk.nil rfl
  · exact line_run1.calls (CA03_ok ρ) FactsOk.nil rfl
  · exact line_run2.calls (CA03_ok ρ) FactsOk.nil rfl
  · exact line_run3.calls (CA03_ok ρ) FactsOk.nil rfl
  · exact line_run4.calls (CA03_ok ρ) FactsOk.nil rfl
  · exact line_run5.calls (CA03_ok ρ) FactsOk.nil rfl
  · exact line_run6.calls (CA03_ok ρ) FactsOk.nil rfl
  · exact line_run7.calls (CA03_ok ρ) FactsOk.nil rfl
  · exact line_run8.calls (CA03_ok ρ) FactsOk.nil rfl
  · exact line_run9.calls (CA03_ok ρ) FactsOk.nil rfl
  · exact line_run10.calls (CA03_ok ρ) FactsOk.nil rfl
  · exact line_run11.calls (CA03_ok ρ) FactsOk.nil rfl
  · exact line_run12.calls (CA03_ok ρ) FactsOk.nil rfl
  · exact line_run13.calls (CA03_ok ρ) FactsOk.nil rfl
  · exact line_run14.calls (CA03_ok ρ) FactsOk.nil rfl
  · exact line_run15.calls (CA03_ok ρ) FactsOk.nil rfl
  · exact line_run16.calls (CA03_ok ρ) FactsOk.nil rfl
  · exact line_run17.calls (CA03_ok ρ) FactsOk.nil rfl
  · exact line_run18.calls (CA03_ok ρ) FactsOk.nil rfl
  · exact line_run19.calls (CA03_ok ρ) FactsOk.nil rfl
  · exact line_run20.calls (CA03_ok ρ) FactsOk.nil rfl
  · exact line_run21.calls (CA03_ok ρ) FactsOk.nil rfl
  · exact line_run22.calls (CA03_ok ρ) FactsOk.nil rfl
  · exact line_run23.calls (CA03_ok ρ) FactsOk.nil rfl
  · exact line_run24.calls (CA03_ok ρ) FactsOk.nil rfl
  · exact line_run25.calls (CA03_ok ρ) FactsOk.nil rfl
  · exact line_run26.calls (CA03_ok ρ) FactsOk.nil rfl
  · exact line_run27.calls (CA03_ok ρ) FactsOk.nil rfl
  · exact line_run28.calls (CA03_ok ρ) FactsOk.nil rfl
  · exact line_run29.calls (CA03_ok ρ) FactsOk.nil rfl
  · exact line_run30.calls (CA03_ok ρ) FactsOk.nil rfl
  · exact line_run31.calls (CA03_ok ρ) FactsOk.nil rfl
noncomputable def CI03 : Ctx := { CA03 with summ := sum1 34 (tabF lineT) CA03.summ, pure := fun f => cond (f == 34) true (CA03.pure f) }
theorem CI03_ok (ρ : Env) : Summ ρ CI03 := summ_cons (C := CA03) (q := CA03.flat) (CA03_ok ρ) (tabF_ok (lineT_ok ρ))
/-- The same; isa.Of makes memory that may be written. -/
noncomputable def CJ03 : Ctx := { CI03 with pure := fun f => match f with
  | 10 => false
  | f => CI03.pure f }
theorem CJ03_ok (ρ : Env) : Summ ρ CJ03 := (CI03_ok ρ).pure _ _

end Go.Proofs.Ytgpijioodocplaa
