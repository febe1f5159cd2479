/- Runs in which ways that come together again are joined: code. -/
import Derived.Test.YtamhmfdbnlkmkaaSyJoin
set_option linter.unusedVariables false
set_option linter.unusedSimpArgs false
namespace Go.Proofs.Ytamhmfdbnlkmkaa
open Go Go.RowKit

/-! ### tests of values that hang on tests -/
/-- The first test on which a value hangs. -/
def iteC : Sx → Option Sx
  | .bin _ _ a b => match iteC a with | some c => some c | none => iteC b
  | .cmp _ a b => match iteC a with | some c => some c | none => iteC b
  | .conv _ a => iteC a
  | .not a => iteC a
  | .and a b => match iteC a with | some c => some c | none => iteC b
  | .eqb a b => match iteC a with | some c => some c | none => iteC b
  | .app 1000 (.arg .bool g (.arg (.int _) a (.arg (.int _) b .nil))) => match iteC g with | some c => some c | none => some g
  | _ => none

/-- A value, a test on which it hangs being known; p: as a mark, not as a number. -/
def setC (c : Sx) (v : Bool) : Bool → Sx → Sx
  | false, .bin op k a b => .bin op k (setC c v false a) (setC c v false b)
  | false, .conv k a => .conv k (setC c v false a)
  | false, .app 1000 (.arg .bool g (.arg (.int k) a (.arg (.int k') b .nil))) => cond (Sx.beq g c) (cond v (setC c v false a) (setC c v false b)) (.app 1000 (.arg .bool (setC c v true g) (.arg (.int k) (setC c v false a) (.arg (.int k') (setC c v false b) .nil))))
  | true, .cmp op a b => .cmp op (setC c v false a) (setC c v false b)
  | true, .not a => .not (setC c v true a)
  | true, .and a b => .and (setC c v true a) (setC c v true b)
  | true, .eqb a b => .eqb (setC c v true a) (setC c v true b)
  | _, e => e

def fieldD (p : Bool) (d : Den) : Int × Bool := match p with | true => (0, d.b) | false => (d.i, false)

theorem setC_ok {ρ : Env} (hF : ρ.F = iteF) {c : Sx} {v : Bool} (hc : (den ρ c).b = v) (p : Bool) (e : Sx) : fieldD p (den ρ (setC c v p e)) = fieldD p (den ρ e) := by
  fun_induction setC c v p e with
  | case1 op k a b iha ihb =>
    simp only [fieldD, Prod.mk.injEq, and_true] at iha ihb ⊢
    simp only [den, iha, ihb]
  | case2 k a ih =>
    simp only [fieldD, Prod.mk.injEq, and_true] at ih ⊢
    simp only [den, ih]
  | case3 g k a k' b hg hv ih =>
    simp only [fieldD, Prod.mk.injEq, and_true, true_and] at ih ⊢
    have hgc := Sx.beq_eq hg
    subst hgc
    rw [hv] at hc
    simp only [ih, den, STy.val, hF, iteF, hc, cond_true]
  | case4 g k a k' b hg hv ih =>
    simp only [fieldD, Prod.mk.injEq, and_true, true_and] at ih ⊢
    have hgc := Sx.beq_eq hg
    subst hgc
    rw [hv] at hc
    simp only [ih, den, STy.val, hF, iteF, hc, _root_.cond_false]
  | case5 g k a k' b hg ihg iha ihb =>
    simp only [fieldD, Prod.mk.injEq, and_true, true_and] at ihg iha ihb ⊢
    simp only [den, STy.val, hF, iteF, ihg]
    cases (den ρ g).b <;> simp only [cond_true, _root_.cond_false, iha, ihb]
  | case6 op a b iha ihb =>
    simp only [fieldD, Prod.mk.injEq, and_true, true_and] at iha ihb ⊢
    simp only [den, iha, ihb]
  | case7 a ih =>
    simp only [fieldD, Prod.mk.injEq, true_and] at ih ⊢
    simp only [den, ih]
  | case8 a b iha ihb =>
    simp only [fieldD, Prod.mk.injEq, true_and] at iha ihb ⊢
    simp only [den, iha, ihb]
  | case9 a b iha ihb =>
    simp only [fieldD, Prod.mk.injEq, true_and] at iha ihb ⊢
    simp only [den, iha, ihb]
  | case10 => rfl

/-- Is a test what is said, by what is known? -/
def knowI : Nat → Sx → Bool → Facts → Bool
  | 0, e, b, fs => knowN e b fs
  | n + 1, e, b, fs => match iteC e with
    | none => knowN e b fs
    | some c => test both c fs (knowI n (setC c true true e) b) (knowI n (setC c false true e) b)

theorem knowI_ok {ρ : Env} (hF : ρ.F = iteF) : ∀ {n : Nat} {e : Sx} {b : Bool} {fs : Facts}, FactsOk ρ fs → knowI n e b fs = true → (den ρ e).b = b
  | 0, e, b, fs, hf, h => knowN_ok hf h
  | n + 1, e, b, fs, hf, h => by
    simp only [knowI] at h
    split at h
    · exact knowN_ok hf h
    · rename_i c hc
      have := test_ok c hf h
      cases hb : (den ρ c).b with
      | true =>
        obtain ⟨fs', hf', h'⟩ := this.1 hb
        have h1 := knowI_ok hF hf' h'
        have h2 := setC_ok hF hb true e
        simp only [fieldD, Prod.mk.injEq, true_and] at h2
        rw [← h2, h1]
      | false =>
        obtain ⟨fs', hf', h'⟩ := this.2 hb
        have h1 := knowI_ok hF hf' h'
        have h2 := setC_ok hF hb true e
        simp only [fieldD, Prod.mk.injEq, true_and] at h2
        rw [← h2, h1]

/-- What is known, as tests are brought into form. -/
def factN : Sx → Bool → Facts → Facts
  | .not a, b, fs => factN a (!b) fs
  | .and a c, true, fs => factN c true (factN a true fs)
  | .and a c, false, fs => (.and a c, false) :: fs
  | e, b, fs => match nrmB fs e with
    | .lb _ => fs
    | .not e' => (e', !b) :: fs
    | e' => (e', b) :: fs

theorem factN_ok {ρ : Env} : ∀ (e : Sx) {b : Bool} {fs : Facts}, FactsOk ρ fs → (den ρ e).b = b → FactsOk ρ (factN e b fs) := by
  have base : ∀ (e : Sx) {b : Bool} {fs : Facts}, FactsOk ρ fs → (den ρ e).b = b → FactsOk ρ (match nrmB fs e with
    | .lb _ => fs
    | .not e' => (e', !b) :: fs
    | e' => (e', b) :: fs) := fun e b fs hf he => by
    have hn := nrmB_ok hf e
    split
    · exact hf
    · rename_i e' h
      rw [h] at hn
      refine hf.cons ?_
      simp only [den] at hn
      rw [← he, ← hn]
      simp
    · exact hf.cons (by rw [hn, he])
  intro e
  induction e with
  | not a ih => intro b fs hf he; exact ih hf (by rw [← he]; simp [den])
  | and x y ih1 ih2 =>
    intro b fs hf he
    cases b with
    | true =>
      simp only [den, Bool.and_eq_true] at he
      exact ih2 (ih1 hf he.1) he.2
    | false => exact hf.cons he
  | _ => intro b fs hf he; exact base _ hf he

/-- Is a test, as it is written, known? -/
def memF (e : Sx) : Facts → Option Bool
  | [] => none
  | p :: r => cond (Sx.beq p.1 e) (some p.2) (memF e r)

theorem memF_ok {ρ : Env} {e : Sx} {b : Bool} : ∀ {fs : Facts}, FactsOk ρ fs → memF e fs = some b → (den ρ e).b = b
  | [], _, h => by simp [memF] at h
  | p :: r, hf, h => by
    simp only [memF] at h
    cases hb : Sx.beq p.1 e with
    | true =>
      rw [hb] at h
      simp only [cond_true, Option.some.injEq] at h
      rw [← Sx.beq_eq hb, ← h]
      exact hf p (List.mem_cons_self ..)
    | false =>
      rw [hb] at h
      exact memF_ok (fun q hq => hf q (List.mem_cons_of_mem _ hq)) h

/-- Which way a test goes, if that is known. -/
def triI (e : Sx) (fs : Facts) : Option Bool := match e with
  | .lb b => some b
  | e => match memF e fs with
    | some b => some b
    | none => match knowN e true fs with
      | true => some true
      | false => match knowN e false fs with
        | true => some false
        | false => match iteC e with
          | none => none
          | some _ => match knowI 24 e true fs with
            | true => some true
            | false => match knowI 24 e false fs with
              | true => some false
              | false => none

theorem triI_ok {ρ : Env} (hF : ρ.F = iteF) {e : Sx} {fs : Facts} {b : Bool} (hf : FactsOk ρ fs) (h : triI e fs = some b) : (den ρ e).b = b := by
  unfold triI at h
  split at h
  · simp only [Option.some.injEq] at h
    subst h
    rfl
  · split at h
    · rename_i hm
      simp only [Option.some.injEq] at h
      subst h
      exact memF_ok hf hm
    · split at h
      · rename_i hk
        simp only [Option.some.injEq] at h
        subst h
        exact knowN_ok hf hk
      · split at h
        · rename_i hk
          simp only [Option.some.injEq] at h
          subst h
          exact knowN_ok hf hk
        · split at h
          · cases h
          · split at h
            · rename_i hk
              simp only [Option.some.injEq] at h
              subst h
              exact knowI_ok hF hf hk
            · split at h
              · rename_i hk
                simp only [Option.some.injEq] at h
                subst h
                exact knowI_ok hF hf hk
              · cases h

/-! ### states out of leaves -/
def decE (n : Int) : AEx := if n = 0 then .normal else if n = 1 then .ret else if n % 2 = 0 then .exit ((n - 2) / 2).toNat else .goto ((n - 3) / 2).toNat

theorem encE_decE {n : Int} (h : 0 ≤ n) : encE (decE n) = n := by
  unfold decE
  by_cases h0 : n = 0
  · rw [if_pos h0, h0]; rfl
  · rw [if_neg h0]
    by_cases h1 : n = 1
    · rw [if_pos h1, h1]; rfl
    · rw [if_neg h1]
      by_cases h2 : n % 2 = 0
      · rw [if_pos h2]
        simp only [encE]
        omega
      · rw [if_neg h2]
        simp only [encE]
        omega

def rowT : AV → Option (List TC)
  | .agg l => asTC l
  | _ => none
def rowA : AV → Option (List AV)
  | .agg l => some l
  | _ => none
def rowM : AV → Option (Value × AV)
  | .tuple [.tc (.sc v), x] => some (v, x)
  | _ => none

def decO : AV → Option AObj
  | .tuple [.tc (.sc (.int .i64 k)), .tc (.sc (.int .i64 s)), .agg rows] => cond (decide (0 ≤ s)) (cond (decide (k = 0)) ((mapO rowT rows).map (.tcells s.toNat)) (cond (decide (k = 1)) ((mapO rowA rows).map (.cells s.toNat))
    (cond (decide (k = 2) && decide (s = 0)) ((mapO rowM rows).map .map) none))) none
  | _ => none

theorem mapO_back {α β : Type} {f : β → Option α} {g : α → β} (h : ∀ b a, f b = some a → b = g a) : ∀ {l : List β} {r : List α}, mapO f l = some r → l = r.map g
  | [], r, hr => by simp only [mapO, Option.some.injEq] at hr; subst hr; rfl
  | b :: l, r, hr => by
    simp only [mapO] at hr
    split at hr
    · rename_i a q h1 h2
      simp only [Option.some.injEq] at hr
      subst hr
      rw [List.map_cons, h b a h1, mapO_back h h2]
    · cases hr

theorem decO_eq {x : AV} {o : AObj} (h : decO x = some o) : x = encO o := by
  unfold decO at h
  split at h
  · rename_i k s rows
    cases hs : decide (0 ≤ s) with
    | false => rw [hs] at h; cases h
    | true =>
      rw [hs] at h
      simp only [decide_eq_true_eq] at hs
      simp only [cond_true] at h
      have es : ((s.toNat : Nat) : Int) = s := Int.toNat_of_nonneg hs
      cases h0 : decide (k = 0) with
      | true =>
        rw [h0] at h
        simp only [decide_eq_true_eq] at h0
        subst h0
        simp only [cond_true, Option.map_eq_some_iff] at h
        obtain ⟨l, hl, rfl⟩ := h
        have := mapO_back (g := fun r => AV.agg (tcs r)) (fun b a hb => by
          cases b <;> simp only [rowT, reduceCtorEq] at hb
          rw [asTC_eq hb]) hl
        simp only [encO, es, this]
      | false =>
        rw [h0] at h
        simp only [_root_.cond_false] at h
        cases h1 : decide (k = 1) with
        | true =>
          rw [h1] at h
          simp only [decide_eq_true_eq] at h1
          subst h1
          simp only [cond_true, Option.map_eq_some_iff] at h
          obtain ⟨l, hl, rfl⟩ := h
          have := mapO_back (g := AV.agg) (fun b a hb => by
            cases b <;> simp only [rowA, reduceCtorEq, Option.some.injEq] at hb
            rw [hb]) hl
          simp only [encO, es, this]
        | false =>
          rw [h1] at h
          simp only [_root_.cond_false] at h
          cases h2 : (decide (k = 2) && decide (s = 0)) with
          | false => rw [h2] at h; cases h
          | true =>
            rw [h2] at h
            simp only [Bool.and_eq_true, decide_eq_true_eq] at h2
            obtain ⟨rfl, rfl⟩ := h2
            simp only [cond_true, Option.map_eq_some_iff] at h
            obtain ⟨l, hl, rfl⟩ := h
            have := mapO_back (g := fun e : Value × AV => AV.tuple [.tc (.sc e.1), e.2]) (fun b a hb => by
              unfold rowM at hb
              split at hb
              · simp only [Option.some.injEq] at hb
                subst hb
                rfl
              · cases hb) hl
            simp only [encO, this]
  · cases h

def decS : AV → Option (AEx × Tmps × Heap)
  | .tuple [.tc (.sc (.int .i64 n)), .agg T, .agg H] => cond (decide (0 ≤ n)) (match mapO decO H with
    | some H => some (decE n, T, H)
    | none => none) none
  | _ => none

theorem decS_eq {r : AV} {e : AEx} {T : Tmps} {H : Heap} (h : decS r = some (e, T, H)) : r = encSH e T H := by
  unfold decS at h
  split at h
  · rename_i n T' H'
    cases hn : decide (0 ≤ n) with
    | false => rw [hn] at h; cases h
    | true =>
      rw [hn] at h
      simp only [decide_eq_true_eq] at hn
      simp only [cond_true] at h
      split at h
      · rename_i Hs hH
        simp only [Option.some.injEq, Prod.mk.injEq] at h
        obtain ⟨rfl, rfl, rfl⟩ := h
        simp only [encSH, encE_decE hn, mapO_back (g := encO) (fun b a => decO_eq) hH]
      · cases h
  · cases h

def leafJ : Out → Facts → Option (List JS)
  | .fail, _ => none
  | .leaf r, _ => match decS r with
    | some (e, T, H) => some [⟨.lb true, e, T, H⟩]
    | none => none
  | .sel e a b, fs => match triI e fs with
    | some true => leafJ a fs
    | some false => leafJ b fs
    | none => match leafJ a (factN e true fs), leafJ b (factN e false fs) with
      | some A, some B => some (tidyJ (selJ e A B))
      | _, _ => none

theorem leafJ_ok {ρ : Env} (hF : ρ.F = iteF) {F : JS → Prop} (hl : Lax ρ F) : ∀ {o : Out} {fs : Facts} {L : List JS}, FactsOk ρ fs → leafJ o fs = some L → (∀ e T H g, rawV ρ o = some (encSH e T H) → F ⟨g, e, T, H⟩) → Comes ρ F L
  | .fail, _, _, _, h, _ => by simp [leafJ] at h
  | .leaf r, fs, L, hf, h, hr => by
    simp only [leafJ] at h
    split at h
    · rename_i e T H hd
      have := decS_eq hd
      subst this
      simp only [Option.some.injEq] at h
      subst h
      refine ⟨⟨_, List.mem_cons_self .., rfl⟩, fun s hs _ => ?_⟩
      simp only [List.mem_cons, List.not_mem_nil, or_false] at hs
      subst hs
      exact hr e T H _ rfl
    · cases h
  | .sel e a b, fs, L, hf, h, hr => by
    have ht : (den ρ e).b = true → rawV ρ (.sel e a b) = rawV ρ a := fun hb => by simp only [rawV, hb, cond_true]
    have hn : (den ρ e).b = false → rawV ρ (.sel e a b) = rawV ρ b := fun hb => by simp only [rawV, hb, _root_.cond_false]
    simp only [leafJ] at h
    split at h
    · rename_i hk
      have hb := triI_ok hF hf hk
      rw [ht hb] at hr
      exact leafJ_ok hF hl hf h hr
    · rename_i hk
      have hb := triI_ok hF hf hk
      rw [hn hb] at hr
      exact leafJ_ok hF hl hf h hr
    · split at h
      · rename_i A B hA hB
        simp only [Option.some.injEq] at h
        subst h
        refine tidyJ_ok hl (selJ_ok hF hl (fun hb => ?_) (fun hb => ?_) fun hb => ?_)
        · rw [ht hb] at hr
          exact leafJ_ok hF hl (factN_ok e hf hb) hA hr
        · rw [hn hb] at hr
          exact leafJ_ok hF hl (factN_ok e hf hb) hB hr
        · rw [ht hb] at hr
          exact (leafJ_ok hF hl (factN_ok e hf hb) hA hr).2
      · cases h

/-! ### what code comes to -/
section
variable {C : Ctx} {ρ : Env} {d : Nat} {nm : Array String}

theorem fragH_calls (hs : Summ ρ C) {c : Code} {T T' : Tmps} {H H' : Heap} {e : AEx} (h : rawV ρ (fragOutH C d nm c T H) = some (encSH e T' H')) : FragH C c (concs ρ T) (concH ρ H) (exOf e) (concs ρ T') (concH ρ H') := by
  intro ob E B0 Pb μ a w hM hn hsr
  letI ob2 : Obs := ⟨ρ, fun x => x = encSH e T' H'⟩
  have hsm : SummOk C := fun f g as r hf hg => (hs f g as r hf hg).tree
  have h3 := ok_rawV h
  have hs2 : SR C E Pb μ B0 w T H a := SR.unconcH hM hsr
  have h4 : acode C (acall C d) nm E.M c T H fun e T' H' => .leaf (encSH e T' H') := by
    show Ok (acodeM C (acall C d) nm E.M c none T H fun e T' H' => .leaf (encSH e T' H'))
    rw [hM]
    exact h3
  refine wp_mono (acode_ok (acall_ok hsm d) (det_acall d) hsm nm c h4 hs2) fun x a' w' hp => ?_
  obtain ⟨x, T1, H1, Pb', μ', rfl, hk, hs'⟩ := hp
  obtain ⟨rfl, rfl, rfl⟩ := encSH_inj (show encSH x T1 H1 = encSH e T' H' from hk)
  exact ⟨rfl, Pb', μ', hs'.concH hM⟩

theorem cutJ_ok {ob : Obs} {E : Entry} {Pb : Nat → Prop} {μ : Mu} {B0 : Nat} {w : World} {a : Act} {s : JS} {n : Nat} (hM : E.M = 0) (hn : E.n = 0) (hlow : lowS n s = true) (hlen : n ≤ s.H.length) (h : @SR ob C E Pb μ B0 w (concs ρ s.T) (concH ρ s.H) a) :
    ∃ μ2, @SR ob C E Pb μ2 B0 w (concs ρ s.T) (concH ρ (s.H.take n)) a := by
  letI ob2 : Obs := ⟨ρ, fun _ => True⟩
  have h1 : @SR ob2 C E Pb μ B0 w s.T s.H a := SR.unconcH hM h
  obtain ⟨μ2, h2⟩ := trunc_ok (n0 := n) h1 (by rw [hn]; exact Nat.zero_le _) hlen
  unfold trunc at h2
  have hl : (s.T.all (lowA 4 n) && (s.H.take n).all (lowObj n)) = true := hlow
  rw [if_pos hl] at h2
  exact ⟨μ2, h2.concH hM⟩

theorem FragH.lax {c : Code} {T : Tmps} {H : Heap} : Lax ρ (fun s => FragH C c T H (exOf s.e) (concs ρ s.T) (concH ρ s.H)) := by
  refine ⟨?_, ?_⟩
  · intro s t he hw hh h ob E B0 Pb μ a w hM hn hsr
    refine wp_mono (h ob E B0 Pb μ a w hM hn hsr) fun x a' w' ⟨h1, Pb', μ', h2⟩ => ⟨he ▸ h1, Pb', μ', ?_⟩
    rw [← hh]
    letI := ob
    exact h2.weakenH hM hw
  · intro s n hlow hlen h ob E B0 Pb μ a w hM hn hsr
    refine wp_mono (h ob E B0 Pb μ a w hM hn hsr) fun x a' w' ⟨h1, Pb', μ', h2⟩ => ⟨h1, ?_⟩
    obtain ⟨μ2, h3⟩ := cutJ_ok hM hn hlow hlen h2
    exact ⟨Pb', μ2, h3⟩

/-- A loop's rounds. -/
def FragHR (C : Ctx) (b : Code) (n : Nat) (T : Tmps) (H : Heap) (e : Exit) (T' : Tmps) (H' : Heap) : Prop :=
  ∀ (ob : Obs) (E : Entry) (B0 : Nat) (Pb : Nat → Prop) (μ : Mu) (a : Act) (w : World), E.M = 0 → E.n = 0 → @SR ob C E Pb μ B0 w T H a →
    Code.rounds C.P b (fun x a' w' => x = e ∧ ∃ Pb' μ', @SR ob C E Pb' μ' B0 w' T' H' a') n a w

theorem FragHR.exit {b : Code} {T T' : Tmps} {H H' : Heap} {e : Exit} (h : FragH C b T H e T' H') (he : e ≠ .normal) : FragHR C b 1 T H e T' H' := by
  intro ob E B0 Pb μ a w hM hn hs
  refine wp_mono (h ob E B0 Pb μ a w hM hn hs) fun x a' w' hx => ?_
  obtain ⟨rfl, hx⟩ := hx
  cases x with
  | normal => exact absurd rfl he
  | _ => exact ⟨rfl, hx⟩

theorem FragHR.step {b : Code} {n : Nat} {T T1 T' : Tmps} {H H1 H' : Heap} {e : Exit} (h : FragH C b T H .normal T1 H1) (h2 : FragHR C b n T1 H1 e T' H') : FragHR C b (n + 1) T H e T' H' := by
  intro ob E B0 Pb μ a w hM hn hs
  refine wp_mono (h ob E B0 Pb μ a w hM hn hs) fun x a' w' ⟨hx, Pb', μ', h⟩ => ?_
  subst hx
  exact h2 ob E B0 Pb' μ' a' w' hM hn h

theorem FragHR.loop {b : Code} {n : Nat} {T T' : Tmps} {H H' : Heap} {e : Exit} (h : FragHR C b n T H e T' H') : FragH C (.loop b) T H e T' H' := by
  intro ob E B0 Pb μ a w hM hn hs
  exact wp_loop_rounds n (h ob E B0 Pb μ a w hM hn hs)

theorem FragHR.lax {b : Code} {T : Tmps} {H : Heap} : Lax ρ (fun s => s.e ≠ .normal ∧ ∃ n, FragHR C b n T H (exOf s.e) (concs ρ s.T) (concH ρ s.H)) := by
  refine ⟨?_, ?_⟩
  case refine_2 =>
    intro s m hlow hlen ⟨h0, n, h⟩
    refine ⟨h0, n, fun ob E B0 Pb μ a w hM hn hsr => ?_⟩
    have := h ob E B0 Pb μ a w hM hn hsr
    have mono : ∀ (n : Nat) (a : Act) (w : World), Code.rounds C.P b (fun x a' w' => x = exOf s.e ∧ ∃ Pb' μ', @SR ob C E Pb' μ' B0 w' (concs ρ s.T) (concH ρ s.H) a') n a w → Code.rounds C.P b (fun x a' w' => x = exOf s.e ∧ ∃ Pb' μ', @SR ob C E Pb' μ' B0 w' (concs ρ s.T) (concH ρ (s.H.take m)) a') n a w := by
      intro n
      induction n with
      | zero => intro a w h; exact h
      | succ n ih =>
        intro a w h
        refine wp_mono h fun x a' w' h => ?_
        cases x with
        | normal => exact ih a' w' h
        | _ =>
          obtain ⟨h1, Pb', μ', h2⟩ := h
          obtain ⟨μ2, h3⟩ := cutJ_ok hM hn hlow hlen h2
          exact ⟨h1, Pb', μ2, h3⟩
    exact mono n a w this
  intro s t he hw hh ⟨h0, n, h⟩
  refine ⟨he ▸ h0, n, fun ob E B0 Pb μ a w hM hn hsr => ?_⟩
  have := h ob E B0 Pb μ a w hM hn hsr
  have mono : ∀ (n : Nat) (a : Act) (w : World), Code.rounds C.P b (fun x a' w' => x = exOf s.e ∧ ∃ Pb' μ', @SR ob C E Pb' μ' B0 w' (concs ρ s.T) (concH ρ s.H) a') n a w → Code.rounds C.P b (fun x a' w' => x = exOf t.e ∧ ∃ Pb' μ', @SR ob C E Pb' μ' B0 w' (concs ρ t.T) (concH ρ t.H) a') n a w := by
    intro n
    induction n with
    | zero => intro a w h; exact h
    | succ n ih =>
      intro a w h
      refine wp_mono h fun x a' w' h => ?_
      cases x with
      | normal => exact ih a' w' h
      | _ =>
        obtain ⟨h1, Pb', μ', h2⟩ := h
        refine ⟨he ▸ h1, Pb', μ', ?_⟩
        rw [← hh]
        letI := ob
        exact h2.weakenH hM hw
  exact mono n a w this

def isNorm : AEx → Bool
  | .normal => true
  | _ => false

/-- A test that is no compound of others. -/
def atomX : Sx → Bool
  | .not a => atomX a
  | .and _ _ => false
  | .lb _ => false
  | _ => true

def factG (g : Sx) (fs : Facts) : Facts := cond (atomX g) (factN g true fs) fs

theorem factG_ok {g : Sx} {fs : Facts} (hf : FactsOk ρ fs) (h : (den ρ g).b = true) : FactsOk ρ (factG g fs) := by
  unfold factG
  cases atomX g
  · exact hf
  · exact factN_ok g hf h

/-- States that go on. -/
def seqJ (k : JS → Option (List JS)) : List JS → Option (List JS)
  | [] => some []
  | s :: r => match cond (isNorm s.e) ((k s).map fun X => X.map fun t => { t with g := andX s.g t.g }) (some [s]), seqJ k r with
    | some X, some Y => some (X.foldr putJ Y)
    | _, _ => none

theorem foldr_putJ (hF : ρ.F = iteF) {F : JS → Prop} (hl : Lax ρ F) : ∀ {X Y : List JS}, (∀ t ∈ X, (den ρ t.g).b = true → F t) → (∀ t ∈ Y, (den ρ t.g).b = true → F t) →
    ((∃ t ∈ X.foldr putJ Y, (den ρ t.g).b = true) ↔ ((∃ t ∈ X, (den ρ t.g).b = true) ∨ ∃ t ∈ Y, (den ρ t.g).b = true)) ∧ ∀ t ∈ X.foldr putJ Y, (den ρ t.g).b = true → F t
  | [], Y, _, hY => by simpa using hY
  | s :: X, Y, hX, hY => by
    obtain ⟨i1, i2⟩ := foldr_putJ hF hl (X := X) (Y := Y) (fun t ht => hX t (List.mem_cons_of_mem _ ht)) hY
    obtain ⟨g1, g2⟩ := putJ_ok hF hl (hX s (List.mem_cons_self ..)) i2
    refine ⟨?_, g2⟩
    simp only [List.foldr_cons, g1, i1, List.mem_cons, exists_eq_or_imp, or_assoc]

theorem seqJ_ok (hF : ρ.F = iteF) {F G : JS → Prop} (hl : Lax ρ G) {k : JS → Option (List JS)} (hk : ∀ s X, k s = some X → isNorm s.e = true → (den ρ s.g).b = true → F s → Comes ρ G X) (hn : ∀ s, isNorm s.e = false → F s → G s) :
    ∀ {A L : List JS}, seqJ k A = some L → (∀ s ∈ A, (den ρ s.g).b = true → F s) → ((∃ s ∈ A, (den ρ s.g).b = true) → ∃ t ∈ L, (den ρ t.g).b = true) ∧ ∀ t ∈ L, (den ρ t.g).b = true → G t
  | [], L, h, _ => by
    simp only [seqJ, Option.some.injEq] at h
    subst h
    simp
  | s :: r, L, h, hA => by
    simp only [seqJ] at h
    split at h
    · rename_i X Y hX hY
      simp only [Option.some.injEq] at h
      subst h
      obtain ⟨i1, i2⟩ := seqJ_ok hF hl hk hn hY fun t ht => hA t (List.mem_cons_of_mem _ ht)
      have key : ((den ρ s.g).b = true → ∃ t ∈ X, (den ρ t.g).b = true) ∧ ∀ t ∈ X, (den ρ t.g).b = true → G t := by
        cases hs : isNorm s.e with
        | false =>
          rw [hs] at hX
          simp only [_root_.cond_false, Option.some.injEq] at hX
          subst hX
          refine ⟨fun h => ⟨s, by simp, h⟩, fun t ht hb => ?_⟩
          simp only [List.mem_cons, List.not_mem_nil, or_false] at ht
          subst ht
          exact hn _ hs (hA _ (List.mem_cons_self ..) hb)
        | true =>
          rw [hs] at hX
          simp only [cond_true, Option.map_eq_some_iff] at hX
          obtain ⟨X0, h0, rfl⟩ := hX
          refine ⟨fun hb => ?_, fun t ht hb => ?_⟩
          · obtain ⟨⟨t, ht, hb2⟩, _⟩ := hk s X0 h0 hs hb (hA s (List.mem_cons_self ..) hb)
            exact ⟨_, List.mem_map_of_mem ht, by simp only [andX_den, hb, hb2]; rfl⟩
          · obtain ⟨t0, ht0, rfl⟩ := List.mem_map.1 ht
            simp only [andX_den, Bool.and_eq_true] at hb
            obtain ⟨_, h2⟩ := hk s X0 h0 hs hb.1 (hA s (List.mem_cons_self ..) hb.1)
            exact hl.lax t0 _ rfl (weak_refl _) rfl (h2 t0 ht0 hb.2)
      obtain ⟨g1, g2⟩ := foldr_putJ hF hl key.2 i2
      refine ⟨?_, g2⟩
      rintro ⟨x, hx, hb⟩
      rw [g1]
      rcases List.mem_cons.1 hx with rfl | hx
      · exact .inl (key.1 hb)
      · exact .inr (i1 ⟨x, hx, hb⟩)
    · cases h

theorem seqJ_comes (hF : ρ.F = iteF) {F G : JS → Prop} (hl : Lax ρ G) {k : JS → Option (List JS)} (hk : ∀ s X, k s = some X → isNorm s.e = true → (den ρ s.g).b = true → F s → Comes ρ G X) (hn : ∀ s, isNorm s.e = false → F s → G s)
    {A L : List JS} (h : seqJ k A = some L) (hA : Comes ρ F A) : Comes ρ G L := by
  obtain ⟨h1, h2⟩ := seqJ_ok hF hl hk hn h hA.2
  exact ⟨h1 hA.1, h2⟩

def blockJ (id : Nat) (L : List JS) : List JS := (L.map fun s => { s with e := match s.e with | .exit id' => cond (decide (id' = id)) .normal (.exit id') | e => e }).foldr putJ []

def loopJ (body : Tmps → Heap → Facts → Option (List JS)) : Nat → Tmps → Heap → Facts → Option (List JS)
  | 0, _, _, _ => none
  | m + 1, T, H, fs => match body T H fs with
    | none => none
    | some A => (seqJ (fun s => loopJ body m s.T s.H (factG s.g fs)) A).map tidyJ

/-- Code's run, its ways joined. -/
def jcode (C : Ctx) (d : Nat) (nm : Array String) : Nat → Code → Tmps → Heap → Facts → Option (List JS)
  | 0, _, _, _, _ => none
  | n + 1, .seq a b, T, H, fs => match jcode C d nm n a T H fs with
    | none => none
    | some A => (seqJ (fun s => jcode C d nm n b s.T s.H (factG s.g fs)) A).map tidyJ
  | n + 1, .cond c a b, T, H, fs => match ev C (getL T) c with
    | .tc (.sc (.bool true)) => jcode C d nm n a T H fs
    | .tc (.sc (.bool false)) => jcode C d nm n b T H fs
    | .tc (.sy .bool e) => match triI e fs with
      | some true => jcode C d nm n a T H fs
      | some false => jcode C d nm n b T H fs
      | none => match jcode C d nm n a T H (factN e true fs), jcode C d nm n b T H (factN e false fs) with
        | some A, some B => some (tidyJ (selJ e A B))
        | _, _ => none
    | _ => none
  | n + 1, .block id b, T, H, fs => (jcode C d nm n b T H fs).map fun L => tidyJ (blockJ id L)
  | n + 1, .loop b, T, H, fs => loopJ (jcode C d nm n b) 300 T H fs
  | n + 1, c, T, H, fs => leafJ (fragOutH C d nm c T H) fs
end
end Go.Proofs.Ytamhmfdbnlkmkaa
