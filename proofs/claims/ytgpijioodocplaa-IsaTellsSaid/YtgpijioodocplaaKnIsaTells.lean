/- The law IsaTells: each leaf of its runs is true. -/
import Derived.Test.YtgpijioodocplaaKnIsaTellsA
import Derived.Test.YtgpijioodocplaaKnIsaTellsB
set_option linter.unusedVariables false
set_option linter.unusedSimpArgs false
set_option maxRecDepth 100000
namespace Go.Proofs.Ytgpijioodocplaa
open Go Go.RowKit

def itEnv (ρ : Env) (n1 n2 s : Int) (b1 b2 : Bool) (f : FT) (ok : Bool) : Env := { ρ with I := fun k => match k with | 4 => n1 | 6 => n2 | 8 => f.kind | 9 => f.bits | 10 => f.shift | 13 => f.at_ | 15 => s | k => ρ.I k, B := fun k => match k with | 5 => b1 | 7 => b2 | 11 => f.signed | 12 => f.ext | 14 => ok | k => ρ.B k }

theorem kF_ok {x : Int} (h0 : 0 ≤ x) (h1 : x ≤ 255) : FactsOk (ints [x]) kF := by
  intro p hp
  simp only [kF, List.mem_cons, List.not_mem_nil, or_false] at hp
  rcases hp with rfl | rfl
  · exact decide_eq_true h0
  · exact decide_eq_true h1

theorem at_calls {c k : Int} (c0 : 0 ≤ c) (c1 : c ≤ 255) (h0 : 0 ≤ k) (h1 : k ≤ 255) : ∃ f ok, CallsTo CI03 13 [u8v c, u8v k] (atV f ok) ∧ CallsTo CI03 14 [u8v c, u8v k] (atV f ok) := by
  have hf := kF_ok h0 h1
  have key : ∀ d : Int, RunsTo CI03 24 kF 13 [u8v d, .tc (.sy (.int .u8) (.var 0))] (atO (fieldsT d)) → RunsTo CI03 24 kF 14 [u8v d, .tc (.sy (.int .u8) (.var 0))] (atO (fieldsT d)) →
      ∃ f ok, CallsTo CI03 13 [u8v d, u8v k] (atV f ok) ∧ CallsTo CI03 14 [u8v d, u8v k] (atV f ok) := fun d r1 r2 => by
    obtain ⟨f, ok, h⟩ := atO_total (ints [k]) (fieldsT d)
    exact ⟨f, ok, r1.calls (CI03_ok _) hf h, r2.calls (CI03_ok _) hf h⟩
  have h : c = 0 ∨ c = 1 ∨ c = 2 ∨ c = 3 ∨ c = 4 ∨ c = 5 ∨ c = 6 ∨ c = 7 ∨ c = 8 ∨ c = 9 ∨ c = 10 ∨ c = 11 ∨ c = 12 ∨ c = 13 ∨ c = 14 ∨ c = 15 ∨ c = 16 ∨ c = 17 ∨ c = 18 ∨ c = 19 ∨ c = 20 ∨ c = 21 ∨ c = 22 ∨ c = 23 ∨ c = 24 ∨ c = 25 ∨ c = 26 ∨ c = 27 ∨ c = 28 ∨ c = 29 ∨ c = 30 ∨ c = 31 ∨ 32 ≤ c := by omega
  rcases h with rfl | rfl | rfl | rfl | rfl | rfl | rfl | rfl | rfl | rfl | rfl | rfl | rfl | rfl | rfl | rfl | rfl | rfl | rfl | rfl | rfl | rfl | rfl | rfl | rfl | rfl | rfl | rfl | rfl | rfl | rfl | rfl | h
  · exact key 0 atP_run0 atQ_run0
  · exact key 1 atP_run1 atQ_run1
  · exact key 2 atP_run2 atQ_run2
  · exact key 3 atP_run3 atQ_run3
  · exact key 4 atP_run4 atQ_run4
  · exact key 5 atP_run5 atQ_run5
  · exact key 6 atP_run6 atQ_run6
  · exact key 7 atP_run7 atQ_run7
  · exact key 8 atP_run8 atQ_run8
  · exact key 9 atP_run9 atQ_run9
  · exact key 10 atP_run10 atQ_run10
  · exact key 11 atP_run11 atQ_run11
  · exact key 12 atP_run12 atQ_run12
  · exact key 13 atP_run13 atQ_run13
  · exact key 14 atP_run14 atQ_run14
  · exact key 15 atP_run15 atQ_run15
  · exact key 16 atP_run16 atQ_run16
  · exact key 17 atP_run17 atQ_run17
  · exact key 18 atP_run18 atQ_run18
  · exact key 19 atP_run19 atQ_run19
  · exact key 20 atP_run20 atQ_run20
  · exact key 21 atP_run21 atQ_run21
  · exact key 22 atP_run22 atQ_run22
  · exact key 23 atP_run23 atQ_run23
  · exact key 24 atP_run24 atQ_run24
  · exact key 25 atP_run25 atQ_run25
  · exact key 26 atP_run26 atQ_run26
  · exact key 27 atP_run27 atQ_run27
  · exact key 28 atP_run28 atQ_run28
  · exact key 29 atP_run29 atQ_run29
  · exact key 30 atP_run30 atQ_run30
  · exact key 31 atP_run31 atQ_run31
  · have hg : FactsOk (ints [k, c]) ((.cmp .geq (.var 1) (.lit 32), true) :: (.cmp .leq (.var 1) (.lit 255), true) :: kF) := by
      intro p hp
      simp only [kF, List.mem_cons, List.not_mem_nil, or_false] at hp
      rcases hp with rfl | rfl | rfl | rfl
      · exact decide_eq_true h
      · exact decide_eq_true c1
      · exact decide_eq_true h0
      · exact decide_eq_true h1
    exact ⟨noF, false, atP_runG.calls (CI03_ok _) hg rfl, atQ_runG.calls (CI03_ok _) hg rfl⟩

theorem by_calls (s : ByteArray) : ∃ n b, CallsTo CI03 15 [.tc (.sc (.string s))] (.tuple [u8v n, boolv b]) ∧ CallsTo CI03 16 [.tc (.sc (.string s))] (.tuple [u8v n, boolv b]) := by
  obtain ⟨n, b, h⟩ := byO_total ⟨fun _ => 0, fun _ => false, fun _ => s, FF0⟩ namesT
  exact ⟨n, b, byP_run.calls (CI03_ok _) FactsOk.nil h, byQ_run.calls (CI03_ok _) FactsOk.nil h⟩

theorem sl_calls {k : Int} (h0 : 0 ≤ k) (h1 : k ≤ 255) : ∃ n, CallsTo CI03 17 [u8v k] (u8v n) ∧ CallsTo CI03 18 [u8v k] (u8v n) := by
  obtain ⟨n, h⟩ := slO_total (ints [k]) slotsT
  exact ⟨n, slP_run.calls (CI03_ok _) (kF_ok h0 h1) h, slQ_run.calls (CI03_ok _) (kF_ok h0 h1) h⟩

theorem isaTells_calls {ρ : Env} (hf : FactsOk ρ isaTells_facts) : CallsTo CJ03 4 (concs ρ isaTells_args) (.sc (.bool true)) := by
  have g : ∀ i : Nat, i ≤ 2 → 0 ≤ ρ.I i ∧ ρ.I i ≤ 255 := fun i hi => by
    have hi : i = 0 ∨ i = 1 ∨ i = 2 := by omega
    rcases hi with rfl | rfl | rfl
    · exact ⟨of_decide_eq_true (hf (.cmp .geq (.var 0) (.lit 0), true) (by simp [isaTells_facts])), of_decide_eq_true (hf (.cmp .leq (.var 0) (.lit 255), true) (by simp [isaTells_facts]))⟩
    · exact ⟨of_decide_eq_true (hf (.cmp .geq (.var 1) (.lit 0), true) (by simp [isaTells_facts])), of_decide_eq_true (hf (.cmp .leq (.var 1) (.lit 255), true) (by simp [isaTells_facts]))⟩
    · exact ⟨of_decide_eq_true (hf (.cmp .geq (.var 2) (.lit 0), true) (by simp [isaTells_facts])), of_decide_eq_true (hf (.cmp .leq (.var 2) (.lit 255), true) (by simp [isaTells_facts]))⟩
  obtain ⟨f, ok, a1, a2⟩ := at_calls (g 0 (by omega)).1 (g 0 (by omega)).2 (g 1 (by omega)).1 (g 1 (by omega)).2
  obtain ⟨n1, b1, y1, z1⟩ := by_calls (ρ.S 3)
  obtain ⟨n2, b2, y2, z2⟩ := by_calls ((ρ.S 3).extract 0 100)
  obtain ⟨s, s1, s2⟩ := sl_calls (g 2 (by omega)).1 (g 2 (by omega)).2
  let ρ2 := itEnv ρ n1 n2 s b1 b2 f ok
  have f2 : FactsOk ρ2 isaTells_facts := fun p hp => by
    have := hf p hp
    simp only [isaTells_facts, List.mem_cons, List.not_mem_nil, or_false] at hp
    rcases hp with rfl | rfl | rfl | rfl | rfl | rfl <;> exact this
  have up : ∀ {f : FuncId} {xs : List AV} {r : AV}, CallsTo CI03 f xs r → CallsTo CJ03 f xs r := fun h => h.of rfl rfl
  have tabs : ∀ op : AV, conc ρ2 op = u8v (ρ.I 0) → ∀ p ∈ itTabs op, ∀ q ∈ p.2, CallsTo CJ03 p.1 (concs ρ2 q.1) (conc ρ2 q.2) := fun op ho p hp q hq => by
    have ea : concs ρ2 [op, .tc (.sy (.int .u8) (.var 1))] = [u8v (ρ.I 0), u8v (ρ.I 1)] := by
      show [conc ρ2 op, u8v (ρ.I 1)] = _
      rw [ho]
    simp only [itTabs, List.mem_cons, List.not_mem_nil, or_false] at hp
    rcases hp with rfl | rfl | rfl | rfl | rfl | rfl
    · simp only [List.mem_cons, List.not_mem_nil, or_false] at hq
      subst hq
      show CallsTo CJ03 _ (concs ρ2 [op, .tc (.sy (.int .u8) (.var 1))]) _
      rw [ea]; exact up a1
    · simp only [List.mem_cons, List.not_mem_nil, or_false] at hq
      subst hq
      show CallsTo CJ03 _ (concs ρ2 [op, .tc (.sy (.int .u8) (.var 1))]) _
      rw [ea]; exact up a2
    · simp only [itBy, List.mem_cons, List.not_mem_nil, or_false] at hq
      rcases hq with rfl | rfl
      · exact up y1
      · exact up y2
    · simp only [itBy, List.mem_cons, List.not_mem_nil, or_false] at hq
      rcases hq with rfl | rfl
      · exact up z1
      · exact up z2
    · simp only [itSl, List.mem_cons, List.not_mem_nil, or_false] at hq
      subst hq
      exact up s1
    · simp only [itSl, List.mem_cons, List.not_mem_nil, or_false] at hq
      subst hq
      exact up s2
  have key : ∀ c : Int, ρ.I 0 = c → RunsN (ctxT CJ03 isaTells_facts (itTabs (u8v c))) 24 isaTells_facts 4 (itArgs c) → CallsTo CJ03 4 (concs ρ isaTells_args) (.sc (.bool true)) := fun c hc r => by
    have e : concs ρ isaTells_args = concs ρ2 (itArgs c) := by
      show [u8v (ρ.I 0), u8v (ρ.I 1), u8v (ρ.I 2), .tc (.sc (.string (ρ.S 3)))] = [u8v c, u8v (ρ.I 1), u8v (ρ.I 2), .tc (.sc (.string (ρ.S 3)))]
      rw [hc]
    rw [e]
    exact (r.calls (ctxT_ok (CJ03_ok _) f2 (tabs _ (by rw [hc]; rfl))) f2).of rfl rfl
  have h : ρ.I 0 = 0 ∨ ρ.I 0 = 1 ∨ ρ.I 0 = 2 ∨ ρ.I 0 = 3 ∨ ρ.I 0 = 4 ∨ ρ.I 0 = 5 ∨ ρ.I 0 = 6 ∨ ρ.I 0 = 7 ∨ ρ.I 0 = 8 ∨ ρ.I 0 = 9 ∨ ρ.I 0 = 10 ∨ ρ.I 0 = 11 ∨ ρ.I 0 = 12 ∨ ρ.I 0 = 13 ∨ ρ.I 0 = 14 ∨ ρ.I 0 = 15 ∨ ρ.I 0 = 16 ∨ ρ.I 0 = 17 ∨ ρ.I 0 = 18 ∨ ρ.I 0 = 19 ∨ ρ.I 0 = 20 ∨ ρ.I 0 = 21 ∨ ρ.I 0 = 22 ∨ ρ.I 0 = 23 ∨ ρ.I 0 = 24 ∨ ρ.I 0 = 25 ∨ ρ.I 0 = 26 ∨ ρ.I 0 = 27 ∨ ρ.I 0 = 28 ∨ ρ.I 0 = 29 ∨ ρ.I 0 = 30 ∨ ρ.I 0 = 31 ∨ 32 ≤ ρ.I 0 := by have := g 0 (by omega); omega
  rcases h with h | h | h | h | h | h | h | h | h | h | h | h | h | h | h | h | h | h | h | h | h | h | h | h | h | h | h | h | h | h | h | h | h
  · exact key 0 h isaTells_run0
  · exact key 1 h isaTells_run1
  · exact key 2 h isaTells_run2
  · exact key 3 h isaTells_run3
  · exact key 4 h isaTells_run4
  · exact key 5 h isaTells_run5
  · exact key 6 h isaTells_run6
  · exact key 7 h isaTells_run7
  · exact key 8 h isaTells_run8
  · exact key 9 h isaTells_run9
  · exact key 10 h isaTells_run10
  · exact key 11 h isaTells_run11
  · exact key 12 h isaTells_run12
  · exact key 13 h isaTells_run13
  · exact key 14 h isaTells_run14
  · exact key 15 h isaTells_run15
  · exact key 16 h isaTells_run16
  · exact key 17 h isaTells_run17
  · exact key 18 h isaTells_run18
  · exact key 19 h isaTells_run19
  · exact key 20 h isaTells_run20
  · exact key 21 h isaTells_run21
  · exact key 22 h isaTells_run22
  · exact key 23 h isaTells_run23
  · exact key 24 h isaTells_run24
  · exact key 25 h isaTells_run25
  · exact key 26 h isaTells_run26
  · exact key 27 h isaTells_run27
  · exact key 28 h isaTells_run28
  · exact key 29 h isaTells_run29
  · exact key 30 h isaTells_run30
  · exact key 31 h isaTells_run31
  · have fg : FactsOk ρ2 itG := f2.cons (decide_eq_true h)
    exact (isaTells_runG.calls (ctxT_ok (CJ03_ok _) fg (tabs _ rfl)) fg).of rfl rfl

theorem isaTells_walk (a0 : Int) (w0 : IntKind.min .u8 ≤ a0 ∧ a0 ≤ IntKind.max .u8) (a1 : Int) (w1 : IntKind.min .u8 ≤ a1 ∧ a1 ≤ IntKind.max .u8) (a2 : Int) (w2 : IntKind.min .u8 ≤ a2 ∧ a2 ≤ IntKind.max .u8) (a3 : ByteArray) (w3 : a3.size ≤ maxLen) (w : World) : Calls Try.prog 4 #[.int .u8 a0, .int .u8 a1, .int .u8 a2, .string a3] w fun e w' => e = .returned (.bool true) ∧ Below w.heap.size w w' := by
  have hf : FactsOk ⟨fun i => [a0, a1, a2, 0].getD i 0, fun i => [false, false, false, false].getD i false, fun i => [ByteArray.empty, ByteArray.empty, ByteArray.empty, a3].getD i ByteArray.empty, FF0⟩ isaTells_facts := by
    intro p hp
    simp only [isaTells_facts, List.mem_cons, List.not_mem_nil, or_false] at hp
    rcases hp with rfl | rfl | rfl | rfl | rfl | rfl
    · exact decide_eq_true w0.1
    · exact decide_eq_true w0.2
    · exact decide_eq_true w1.1
    · exact decide_eq_true w1.2
    · exact decide_eq_true w2.1
    · exact decide_eq_true w2.2
  refine walk_of (C := CJ03) rfl (isaTells_calls hf) fun ob => ?_
  refine ⟨rfl, fun i a v hi hv => ?_⟩
  match i, hi, hv with
  | 0, hi, hv =>
    obtain rfl := Option.some.inj hi
    obtain rfl := Option.some.inj hv
    exact .of_sc _ _ _ _
  | 1, hi, hv =>
    obtain rfl := Option.some.inj hi
    obtain rfl := Option.some.inj hv
    exact .of_sc _ _ _ _
  | 2, hi, hv =>
    obtain rfl := Option.some.inj hi
    obtain rfl := Option.some.inj hv
    exact .of_sc _ _ _ _
  | 3, hi, hv =>
    obtain rfl := Option.some.inj hi
    obtain rfl := Option.some.inj hv
    exact .of_sc _ _ _ _
  | k + 4, hi, _ => simp [concs, isaTells_args] at hi
end Go.Proofs.Ytgpijioodocplaa
