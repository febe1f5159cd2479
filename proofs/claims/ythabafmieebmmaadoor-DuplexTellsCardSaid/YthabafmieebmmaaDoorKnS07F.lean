/- coxlessref07.Of of any instruction, by a plain function. -/
import Derived.Test.YthabafmieebmmaaDoorKnS07E0
set_option linter.unusedVariables false
set_option linter.unusedSimpArgs false
set_option maxRecDepth 100000
namespace Go.Proofs.YthabafmieebmmaaDoor
open Go Go.RowKit

/-- A round's variables. -/
def rEnv (ρ : Env) (k : Int) (i : I7) : Env := { ρ with I := fun j => match j with | 11 => k | 12 => i.op | 13 => i.d | 14 => i.s | 15 => i.t | 16 => i.imm | j => ρ.I j }
def rG (ρ : Env) : Heap := concH ρ rHeap

theorem rF_ok {ρ : Env} (hf : FactsOk ρ inF) {k : Int} (h0 : 0 ≤ k) (h1 : k ≤ 32767) {i : I7} (hi : (0 ≤ i.op ∧ i.op ≤ 255) ∧ (0 ≤ i.d ∧ i.d ≤ 255) ∧ (0 ≤ i.s ∧ i.s ≤ 255) ∧ (0 ≤ i.t ∧ i.t ≤ 255) ∧ (-64 ≤ i.imm ∧ i.imm ≤ 127)) : FactsOk (rEnv ρ k i) rF := by
  have hf2 : FactsOk (rEnv ρ k i) inF := fun p hp => by
    have := hf p hp
    simp only [inF, rightF, List.mem_cons, List.not_mem_nil, or_false] at hp
    rcases hp with rfl | rfl | rfl | rfl | rfl | rfl | rfl | rfl | rfl | rfl | rfl | rfl | rfl | rfl | rfl | rfl | rfl | rfl <;> exact this
  obtain ⟨⟨a1, a2⟩, ⟨a3, a4⟩, ⟨a5, a6⟩, ⟨a7, a8⟩, a9, a10⟩ := hi
  intro p hp
  simp only [rF, List.mem_cons] at hp
  rcases hp with rfl | rfl | rfl | rfl | rfl | rfl | rfl | rfl | rfl | rfl | rfl | rfl | hp
  · exact decide_eq_true h0
  · exact decide_eq_true h1
  · exact decide_eq_true a1
  · exact decide_eq_true a2
  · exact decide_eq_true a3
  · exact decide_eq_true a4
  · exact decide_eq_true a5
  · exact decide_eq_true a6
  · exact decide_eq_true a7
  · exact decide_eq_true a8
  · exact decide_eq_true a9
  · exact decide_eq_true a10
  · exact hf2 p (by simpa [inF] using hp)

theorem zero_rng : (0 ≤ zero7.op ∧ zero7.op ≤ 255) ∧ (0 ≤ zero7.d ∧ zero7.d ≤ 255) ∧ (0 ≤ zero7.s ∧ zero7.s ≤ 255) ∧ (0 ≤ zero7.t ∧ zero7.t ≤ 255) ∧ (-64 ≤ zero7.imm ∧ zero7.imm ≤ 127) := by decide

theorem rS_next {ρ : Env} {k : Int} (h0 : 0 ≤ k) (h1 : k ≤ 32767) (i : I7) : concs (rEnv ρ k i) (rT (.tc (.sy (.int .i64) (addE (.var 11) (.lit 1))))) = rT (i64V (k + 1)) := by
  have e : (den (rEnv ρ k i) (addE (.var 11) (.lit 1))).i = k + 1 := w64 (n := k + 1) (by omega) (by omega)
  simp only [rT, concs, conc, concT, STy.val, e]

theorem FragH.of {C C' : Ctx} {c : Code} {T T' : Tmps} {H H' : Heap} {e : Exit} (h : FragH C c T H e T' H') (hp : C'.P = C.P) (hg : C'.glob = C.glob) : FragH C' c T H e T' H' := by
  intro ob E B0 Pb μ a w hM hn hs
  rw [hp]
  obtain ⟨tm, hp2, gl, df, go, dom, lo⟩ := hs
  have hs2 : @SR ob C E Pb μ B0 w T H a := @SR.mk ob _ _ _ _ _ _ _ _ _ tm hp2 (fun ob' g s el hgl => gl ob' g s el (by rw [hg]; exact hgl)) df go dom lo
  refine wp_mono (h ob E B0 Pb μ a w hM hn hs2) fun x a' w' ⟨hx, Pb', μ', h'⟩ => ⟨hx, Pb', μ', ?_⟩
  obtain ⟨tm, hp2, gl, df, go, dom, lo⟩ := h'
  exact @SR.mk ob _ _ _ _ _ _ _ _ _ tm hp2 (fun ob' g s el hgl => gl ob' g s el (by rw [← hg]; exact hgl)) df go dom lo

theorem tabs_ok {ρ : Env} {k : Int} (h0 : 0 ≤ k) (h1 : k ≤ 32767) {i : I7} {ok : Bool} (h : inR7 k = .tuple [cond ok (inV i) (inV zero7), .tc (.sc (.bool ok))]) : ∀ p ∈ rTabs ok, ∀ q ∈ p.2, CallsTo CA07 p.1 (concs (rEnv ρ k i) q.1) (conc (rEnv ρ k i) q.2) := fun p hp q hq => by
  simp only [rTabs, List.mem_cons, List.not_mem_nil, or_false] at hp
  subst hp
  simp only [List.mem_cons, List.not_mem_nil, or_false] at hq
  subst hq
  have hi := (sub_inst (s := k) h0 (by omega)).2
  rw [h] at hi
  cases ok <;> exact hi

theorem concH_env {ρ : Env} (k : Int) (i : I7) : concH (rEnv ρ k i) rHeap = rG ρ := rfl
theorem rT_conc {ρ : Env} (s : AV) : concs ρ (rT s) = rT (conc ρ s) := rfl

/-- A round that does not hit. -/
theorem round_no {ρ : Env} (hf : FactsOk ρ inF) {k : Int} (h0 : 0 ≤ k) (h1 : k ≤ 32767) (hn : of11 ρ ≠ some k) : FragH CA07 ofB (rT (i64V k)) (rG ρ) .normal (rT (i64V (k + 1))) (rG ρ) := by
  cases hk : inst7 k with
  | none =>
    have hf2 := rF_ok hf h0 h1 zero_rng
    have := ofB_no.to (ctxT_ok (CA07_ok _) hf2 (tabs_ok (i := zero7) (ok := false) h0 h1 (by unfold inR7; rw [hk]; rfl))) hf2 (e := .normal) (P := rT (.tc (.sy (.int .i64) (addE (.var 11) (.lit 1))))) (PH := rHeap) rfl
    rw [rS_next h0 h1] at this
    exact this.of rfl rfl
  | some i =>
    have hf2 := rF_ok hf h0 h1 (inst7_rng hk)
    have hq : (den (rEnv ρ k i) rEq).b = false := by
      cases hb : (den (rEnv ρ k i) rEq).b with
      | false => rfl
      | true =>
        exfalso
        simp only [rEq, conjE, d_and, d_notv, d_eq, d_eqv] at hb
        obtain ⟨q0, q1, q2, q3, q4, q5, q6, q7, q8, q9, q10⟩ := hb
        have q0 : i.op = ρ.I 0 := q0
        have q1 : i.d = ρ.I 1 := q1
        have q2 : i.s = ρ.I 2 := q2
        have q3 : i.t = ρ.I 3 := q3
        have q10 : i.imm = ρ.I 10 := q10
        have e : i7of ρ = i := by obtain ⟨a, b, c, d, f⟩ := i; simp only at q0 q1 q2 q3 q10; simp only [i7of, q0, q1, q2, q3, q10]
        apply hn
        unfold of11
        rw [if_pos ⟨q4, q5, q6, q7, q8, q9⟩, e]
        exact (of_inst7 h0 (by omega) hk).1
    have := ofB_yes.to (ctxT_ok (CA07_ok _) hf2 (tabs_ok (i := i) (ok := true) h0 h1 (by unfold inR7; rw [hk]; rfl))) hf2 (e := .normal) (P := rT (.tc (.sy (.int .i64) (addE (.var 11) (.lit 1))))) (PH := rHeap) (by
      show cond (den (rEnv ρ k i) rEq).b _ _ = _
      rw [hq]; rfl)
    rw [rS_next h0 h1] at this
    exact this.of rfl rfl

/-- The round that hits. -/
theorem round_hit {ρ : Env} (hf : FactsOk ρ inF) {k : Int} (h : of11 ρ = some k) : FragH CA07 ofB (rT (i64V k)) (rG ρ) .ret (rRet (i64V k) (.tc (.sc (.bool true)))) (rG ρ) := by
  have hp : plain11 ρ := by unfold of11 at h; split at h <;> first | assumption | cases h
  have h7 : of7 (i7of ρ) = some k := by unfold of11 at h; rw [if_pos hp] at h; exact h
  obtain ⟨hk, h0, h1⟩ := inst_of7 h7
  have hf2 := rF_ok hf h0 (by omega) (inst7_rng hk)
  have hq : (den (rEnv ρ k (i7of ρ)) rEq).b = true := by
    obtain ⟨p1, p2, p3, p4, p5, p6⟩ := hp
    simp only [rEq, conjE, d_and, d_notv, d_eq, d_eqv]
    exact ⟨rfl, rfl, rfl, rfl, p1, p2, p3, p4, p5, p6, rfl⟩
  have := ofB_yes.to (ctxT_ok (CA07_ok _) hf2 (tabs_ok (i := i7of ρ) (ok := true) h0 (by omega) (by unfold inR7; rw [hk]; rfl))) hf2 (e := .ret) (P := rRet rS (.tc (.sc (.bool true)))) (PH := rHeap) (by
    show cond (den (rEnv ρ k (i7of ρ)) rEq).b _ _ = _
    rw [hq]; rfl)
  exact this.of rfl rfl

def ofR64 (r : Option Int) : AV := match r with
  | some x => .tuple [i64V x, .tc (.sc (.bool true))]
  | none => .tuple [i64V 0, .tc (.sc (.bool false))]

theorem ref_of {ρ : Env} (hf : FactsOk ρ inF) : CallsTo CA07 22 (concs ρ opArgsG) (ofR64 (of11 ρ)) := by
  have f1 := ofP_run.to (CA07_ok ρ) hf (e := .normal) (P := rT .any) (PH := rHeap) rfl
  have f2 := ofQ_run.to (CA07_ok ρ) hf (e := .normal) (P := rT (i64V 0)) (PH := rHeap) rfl
  have hinit : concs ρ rInit = initT 0 (concs ρ opArgsG) ofFn.ntmps := by
    rw [ofFn_n]
    have hz : ∀ i, isLoc 0 i = false := fun i => by simp [isLoc]
    unfold initT
    simp only [hz, _root_.cond_false]
    rfl
  have fin : ∀ (T' : Tmps) (x : Int) (b : Bool), T' = rRet (i64V x) (.tc (.sc (.bool b))) → FragH CA07 (.seq ofP (.seq (.seq ofQ (.block 0 (.loop ofB))) ofE)) (concs ρ rInit) [] .ret T' (rG ρ) → CallsTo CA07 22 (concs ρ opArgsG) (.tuple [i64V x, .tc (.sc (.bool b))]) := fun T' x b hT h => by
    rw [hinit] at h
    subst hT
    have hr : resultsA CA07 ofFn (rRet (i64V x) (.tc (.sc (.bool b)))) (rG ρ) .leaf = .leaf (.tuple [i64V x, .tc (.sc (.bool b))]) := by
      unfold resultsA
      rw [ofFn_res]
      rfl
    exact FragH.calls (ρ := ρ) (t := .tuple [i64V x, .tc (.sc (.bool b))]) ofFn_at ofFn_body h (.inr rfl) hr rfl
  cases hx : of11 ρ with
  | some x =>
    have h7 : inst7 x = some (i7of ρ) ∧ 0 ≤ x ∧ x ≤ 20479 := by
      unfold of11 at hx
      split at hx
      · exact inst_of7 hx
      · cases hx
    obtain ⟨_, x0, x1⟩ := h7
    have hl := FragH.loop (C := CA07) (b := ofB) x.toNat (fun k => rT (i64V k)) (fun _ => rG ρ) (fun k hk => round_no hf (by omega) (by omega) (by rw [hx]; intro h; have := Option.some.inj h; omega)) (by
      have := round_hit hf hx
      rw [show x = ((x.toNat : Nat) : Int) by omega] at this
      exact this) (by simp)
    have hb := FragH.block1 (id := 0) hl (by simp)
    refine fin _ x true ?_ (f1.seq (FragH.seq1 (f2.seq hb) (by simp)))
    rw [show ((x.toNat : Nat) : Int) = x by omega]
  | none =>
    have hl := FragH.loop (C := CA07) (b := ofB) 32768 (fun k => rT (i64V k)) (fun _ => rG ρ) (fun k hk => round_no hf (by omega) (by omega) (by rw [hx]; intro h; cases h)) (ofB_end.to (CA07_ok ρ) hf (e := .exit 0) (P := rT (i64V 32768)) (PH := rHeap) rfl) (by simp [exOf])
    have hb := FragH.block (id := 0) hl
    exact fin _ 0 false rfl (f1.seq ((f2.seq hb).seq (ofE_run.to (CA07_ok ρ) hf (e := .ret) (P := rRet (i64V 0) (.tc (.sc (.bool false)))) (PH := rHeap) rfl)))

end Go.Proofs.YthabafmieebmmaaDoor
