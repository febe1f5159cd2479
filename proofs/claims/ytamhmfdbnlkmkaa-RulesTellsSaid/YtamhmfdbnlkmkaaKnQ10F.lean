/- Rules: what needs new values. -/
import Derived.Test.YtamhmfdbnlkmkaaKnQ10E1
import Derived.Test.YtamhmfdbnlkmkaaKnQ10E2
import Derived.Test.YtamhmfdbnlkmkaaKnQ10E3
import Derived.Test.YtamhmfdbnlkmkaaKnQ10E4
set_option linter.unusedVariables false
set_option linter.unusedSimpArgs false
set_option maxRecDepth 100000
namespace Go.Proofs.Ytamhmfdbnlkmkaa
open Go Go.RowKit


theorem fhRounds {n i : Nat} (hn : 1 ≤ n ∧ n ≤ 4) (hi : i < n) : fhRound n i = true := by
  obtain ⟨h1, h2⟩ := hn
  match n, i, h1, h2, hi with
  | 1, 0, _, _, _ => exact fhRound1_0
  | 2, 0, _, _, _ => exact fhRound2_0
  | 2, 1, _, _, _ => exact fhRound2_1
  | 3, 0, _, _, _ => exact fhRound3_0
  | 3, 1, _, _, _ => exact fhRound3_1
  | 3, 2, _, _, _ => exact fhRound3_2
  | 4, 0, _, _, _ => exact fhRound4_0
  | 4, 1, _, _, _ => exact fhRound4_1
  | 4, 2, _, _, _ => exact fhRound4_2
  | 4, 3, _, _, _ => exact fhRound4_3
  | 1, k + 1, _, _, h => omega
  | 2, k + 2, _, _, h => omega
  | 3, k + 3, _, _, h => omega
  | 4, k + 4, _, _, h => omega
  | k + 5, _, _, h, _ => omega

theorem fhEndsA {n : Nat} (hn : 1 ≤ n ∧ n ≤ 4) : fhEnds n = true := by
  obtain ⟨h1, h2⟩ := hn
  match n, h1, h2 with
  | 1, _, _ => exact fhEnds1
  | 2, _, _ => exact fhEnds2
  | 3, _, _ => exact fhEnds3
  | 4, _, _ => exact fhEnds4
  | k + 5, _, h => omega

/-- Of n instructions that may be: whether each has what it needs new, and whether all have. -/
theorem fed_told {ρ : Env} (hF : ρ.F = iteF) {n : Nat} (hn : 1 ≤ n ∧ n ≤ 4) (hs : Summ ρ (fhX n)) (hf : FactsOk ρ (qFs n)) :
    ∃ f : Nat → Bool, (∀ i, i < n → CallsTo CA10 30 [conc ρ (qA true i), conc ρ (qL true n)] (blV (f i))) ∧ CallsTo CA10 33 [conc ρ (qL true n)] (blV ((List.range n).all f)) := by
  have hfed : ∀ i, i < n → ∃ e, fedE n i = some e ∧ CallsTo CA10 30 [conc ρ (qA true i), conc ρ (qL true n)] (blV (den ρ e).b) := fun i hi => by
    have hr := fhRounds hn hi
    unfold fhRound at hr
    cases he : fedE n i with
    | none => rw [he] at hr; cases hr
    | some e =>
      refine ⟨e, rfl, ?_⟩
      unfold fedE at he
      split at he
      · rename_i e' hj
        simp only [Option.some.injEq] at he
        subst he
        exact (jfun_ok hF hs hf hj).of rfl rfl
      · rename_i b hj
        simp only [Option.some.injEq] at he
        subst he
        exact (jfun_ok hF hs hf hj).of rfl rfl
      · cases he
  let f : Nat → Bool := fun i => match fedE n i with
    | some e => (den ρ e).b
    | none => false
  have hfi : ∀ i e, fedE n i = some e → f i = (den ρ e).b := fun i e h => by
    show (match fedE n i with | some e => (den ρ e).b | none => false) = _
    rw [h]
  refine ⟨f, fun i hi => ?_, ?_⟩
  · obtain ⟨e, he, hc⟩ := hfed i hi
    rw [hfi i e he]
    exact hc
  · have step : ∀ i, i < n → ∃ e, fedE n i = some e ∧ ((FragH (fhX n) fhO (concs ρ (fhT n i)) [] .ret (concs ρ (fhR false)) [] ∧ (den ρ e).b = false) ∨ (FragH (fhX n) fhO (concs ρ (fhT n i)) [] .normal (concs ρ (fhT n (i + 1))) [] ∧ (den ρ e).b = true)) := fun i hi => by
      obtain ⟨e, he, _⟩ := hfed i hi
      have hr := fhRounds hn hi
      unfold fhRound at hr
      rw [he] at hr
      obtain ⟨p, hp, hb, hfr⟩ := toJ_ok hF hs hf (show toJ (fhX n) 24 fhFn.tmpNames 60 (qFs n) fhO (fhT n i) [] [(.ret, fhR false, .not e), (.normal, fhT n (i + 1), e)] = true from hr)
      refine ⟨e, he, ?_⟩
      simp only [List.mem_cons, List.not_mem_nil, or_false] at hp
      rcases hp with rfl | rfl
      · exact .inl ⟨hfr, by simpa [den] using hb⟩
      · exact .inr ⟨hfr, hb⟩
    have he := fhEndsA hn
    unfold fhEnds at he
    obtain ⟨e1, he⟩ := both_ok he
    obtain ⟨e2, he⟩ := both_ok he
    obtain ⟨e3, e4⟩ := both_ok he
    have one : ∀ {c : Code} {T : Tmps} {e : AEx} {P : Tmps}, toJ (fhX n) 24 fhFn.tmpNames 60 (qFs n) c T [] [(e, P, .lb true)] = true → FragH (fhX n) c (concs ρ T) [] (exOf e) (concs ρ P) [] := fun h => by
      obtain ⟨p, hp, _, hfr⟩ := toJ_ok hF hs hf h
      simp only [List.mem_cons, List.not_mem_nil, or_false] at hp
      subst hp
      exact hfr
    have hloop := all_loop (C := fhX n) (b := fhO) (f := f) (S := fun i => concs ρ (fhT n i)) (R := concs ρ (fhR false)) (E := concs ρ (fhT n n)) n (fun i hi hb => by
      obtain ⟨e, he, h | h⟩ := step i hi
      · exact h.1
      · rw [hfi i e he, h.2] at hb; cases hb) (fun i hi hb => by
      obtain ⟨e, he, h | h⟩ := step i hi
      · rw [hfi i e he, h.2] at hb; cases hb
      · exact h.1) (one e1)
    have hA := one e2
    have hB := one e3
    have hE := one e4
    have res : ∀ b : Bool, resultsA (fhX n) fhFn (fhR b) [] .leaf = .leaf (blV b) := fun b => by
      unfold resultsA
      rw [fhFn_res]
      rfl
    cases hall : (List.range n).all f with
    | true =>
      rw [hall] at hloop
      have h := FragH.seq hA (FragH.seq (FragH.seq hB hloop) hE)
      rw [initT_conc] at h
      have := FragH.callsJ (ρ := ρ) (C := fhX n) (args := [qL true n]) (T' := fhR true) (H' := []) (t := blV true) fhFn_at fhFn_body (by rw [fhFn_n]; exact h) (.inr rfl) (res true) rfl
      exact this.of rfl rfl
    | false =>
      rw [hall] at hloop
      have h := FragH.seq hA (FragH.seq1 (y := fhE) (FragH.seq hB hloop) (fun h => by cases h))
      rw [initT_conc] at h
      have := FragH.callsJ (ρ := ρ) (C := fhX n) (args := [qL true n]) (T' := fhR false) (H' := []) (t := blV false) fhFn_at fhFn_body (by rw [fhFn_n]; exact h) (.inr rfl) (res false) rfl
      exact this.of rfl rfl

end Go.Proofs.Ytamhmfdbnlkmkaa
