/- Runs in which ways that come together again are joined: fragments that come to patterns of states; loops in which each round goes on or returns. -/
import Derived.Test.YtamhmfdbnlkmkaaSyJoin3
set_option linter.unusedVariables false
set_option linter.unusedSimpArgs false
namespace Go.Proofs.Ytamhmfdbnlkmkaa
open Go Go.RowKit

def isT (o : Option Bool) : Bool := match o with
  | some true => true
  | _ => false

/-- Is a test false since another one is true, and both together are not? -/
def unitF (e : Sx) (all : Facts) : Facts → Bool
  | [] => false
  | (.and a b, false) :: r => cond ((Sx.beq b e && isT (memF a all)) || (Sx.beq a e && isT (memF b all))) true (unitF e all r)
  | _ :: r => unitF e all r

theorem isT_ok {o : Option Bool} (h : isT o = true) : o = some true := by
  unfold isT at h
  split at h
  · rfl
  · cases h

theorem unitF_ok {ρ : Env} {e : Sx} {all : Facts} (ha : FactsOk ρ all) : ∀ {fs : Facts}, FactsOk ρ fs → unitF e all fs = true → (den ρ e).b = false
  | [], _, h => by simp [unitF] at h
  | p :: r, hf, h => by
    have hr : FactsOk ρ r := fun q hq => hf q (List.mem_cons_of_mem _ hq)
    unfold unitF at h
    split at h
    · rename_i heq
      cases heq
    · rename_i a b r' heq
      simp only [List.cons.injEq] at heq
      obtain ⟨rfl, rfl⟩ := heq
      cases hc : ((Sx.beq b e && isT (memF a all)) || (Sx.beq a e && isT (memF b all))) with
      | false => rw [hc] at h; exact unitF_ok ha hr h
      | true =>
        have h0 : ((den ρ a).b && (den ρ b).b) = false := hf (.and a b, false) (List.mem_cons_self ..)
        simp only [Bool.or_eq_true, Bool.and_eq_true] at hc
        rcases hc with ⟨h1, h2⟩ | ⟨h1, h2⟩
        · have := Sx.beq_eq h1
          subst this
          have h3 := memF_ok ha (isT_ok h2)
          rw [h3] at h0
          simpa using h0
        · have := Sx.beq_eq h1
          subst this
          have h3 := memF_ok ha (isT_ok h2)
          rw [h3] at h0
          simpa using h0
    · rename_i heq
      simp only [List.cons.injEq] at heq
      obtain ⟨_, rfl⟩ := heq
      exact unitF_ok ha hr h

/-- Both ways of a test on which a value hangs: one that is put together is asked as it is written. -/
def forkC (c : Sx) (fs : Facts) (kt kf : Facts → Bool) : Bool := match memF c fs with
  | some b => cond b (kt fs) (kf fs)
  | none => cond (atomX c) (test both c fs kt kf) (both (kt ((c, true) :: factN c true fs)) (kf ((c, false) :: factN c false fs)))

theorem forkC_ok {ρ : Env} {c : Sx} {fs : Facts} {kt kf : Facts → Bool} (hf : FactsOk ρ fs) (h : forkC c fs kt kf = true) : Went ρ (den ρ c).b kt kf := by
  unfold forkC at h
  split at h
  · rename_i b hb
    rw [memF_ok hf hb]
    exact went_lb hf h
  · cases ha : atomX c with
    | true => rw [ha] at h; exact test_ok c hf h
    | false =>
      rw [ha] at h
      obtain ⟨h1, h2⟩ := both_ok (show both _ _ = true from h)
      exact ⟨fun hb => ⟨_, (factN_ok c hf hb).cons hb, h1⟩, fun hb => ⟨_, (factN_ok c hf hb).cons hb, h2⟩⟩

/-- Both ways of a test, what it hangs on being asked when it is come to. -/
def testI : Nat → Sx → Facts → (Facts → Bool) → (Facts → Bool) → Bool
  | 0, e, fs, kt, kf => test both e fs kt kf
  | n + 1, e, fs, kt, kf => match memF e fs with
    | some b => cond b (kt fs) (kf fs)
    | none => match e with
      | .not a => testI n a fs kf kt
      | .and a b => testI n a fs (fun fs => testI n b fs kt kf) kf
      | .lb b => cond b (kt fs) (kf fs)
      | e => cond (unitF e fs fs) (kf fs) (match iteC e with
        | none => test both e fs kt kf
        | some c => forkC c fs (fun fs => testI n (setC c true true e) fs kt kf) (fun fs => testI n (setC c false true e) fs kt kf))

theorem testI_ok {ρ : Env} (hF : ρ.F = iteF) : ∀ {n : Nat} {e : Sx} {fs : Facts} {kt kf : Facts → Bool}, FactsOk ρ fs → testI n e fs kt kf = true → Went ρ (den ρ e).b kt kf := by
  intro n
  induction n with
  | zero => intro e fs kt kf hf h; exact test_ok e hf h
  | succ n ih =>
    intro e fs kt kf hf h
    simp only [testI] at h
    split at h
    · rename_i b hb
      rw [memF_ok hf hb]
      exact went_lb hf h
    · split at h
      · exact (ih hf h).swap
      · rename_i a b hmm
        have h1 := ih hf h
        simp only [den]
        cases ha : (den ρ a).b with
        | true =>
          obtain ⟨fs', hf', h'⟩ := h1.1 ha
          simpa using ih hf' h'
        | false => exact ⟨(fun h => by simp at h), fun _ => h1.2 ha⟩
      · exact went_lb hf h
      · cases hu : unitF e fs fs with
        | true =>
          rw [hu] at h
          rw [unitF_ok hf hf hu]
          exact ⟨(fun h => by cases h), fun _ => ⟨fs, hf, h⟩⟩
        | false =>
          rw [hu] at h
          simp only [_root_.cond_false] at h
          split at h
          · exact test_ok _ hf h
          · rename_i c hc
            have h1 := forkC_ok hf h
            cases hb : (den ρ c).b with
            | true =>
              obtain ⟨fs', hf', h'⟩ := h1.1 hb
              have h2 := setC_ok hF hb true e
              simp only [fieldD, Prod.mk.injEq, true_and] at h2
              rw [← h2]
              exact ih hf' h'
            | false =>
              obtain ⟨fs', hf', h'⟩ := h1.2 hb
              have h2 := setC_ok hF hb true e
              simp only [fieldD, Prod.mk.injEq, true_and] at h2
              rw [← h2]
              exact ih hf' h'

def atom3 (fs : Facts) (e : Sx) : Option Bool := match memF e fs with
  | some b => some b
  | none => cond (knowN e true fs) (some true) (cond (knowN e false fs) (some false) none)

theorem atom3_ok {ρ : Env} {fs : Facts} (hf : FactsOk ρ fs) {e : Sx} {b : Bool} (h : atom3 fs e = some b) : (den ρ e).b = b := by
  unfold atom3 at h
  split at h
  · rename_i hm
    simp only [Option.some.injEq] at h
    subst h
    exact memF_ok hf hm
  · cases h1 : knowN e true fs with
    | true =>
      rw [h1] at h
      simp only [cond_true, Option.some.injEq] at h
      subst h
      exact knowN_ok hf h1
    | false =>
      rw [h1] at h
      simp only [_root_.cond_false] at h
      cases h2 : knowN e false fs with
      | true =>
        rw [h2] at h
        simp only [cond_true, Option.some.injEq] at h
        subst h
        exact knowN_ok hf h2
      | false => rw [h2] at h; cases h

/-- What a test is, by what is known of its parts. -/
def eval3 (fs : Facts) : Sx → Option Bool
  | .not a => (eval3 fs a).map (!·)
  | .and a b => match eval3 fs a, eval3 fs b with
    | some false, _ => some false
    | _, some false => some false
    | some true, some true => some true
    | _, _ => none
  | .lb b => some b
  | e => atom3 fs e

theorem eval3_ok {ρ : Env} {fs : Facts} (hf : FactsOk ρ fs) : ∀ (e : Sx) {b : Bool}, eval3 fs e = some b → (den ρ e).b = b := by
  intro e
  induction e with
  | not a ih =>
    intro b h
    simp only [eval3, Option.map_eq_some_iff] at h
    obtain ⟨c, hc, rfl⟩ := h
    simp only [den, ih hc]
  | and x y ih1 ih2 =>
    intro b h
    simp only [eval3] at h
    split at h
    · rename_i h1
      simp only [Option.some.injEq] at h
      subst h
      simp only [den, ih1 h1, Bool.false_and]
    · rename_i h2 h1
      simp only [Option.some.injEq] at h
      subst h
      simp only [den, ih2 h2, Bool.and_false]
    · rename_i h1 h2
      simp only [Option.some.injEq] at h
      subst h
      simp only [den, ih1 h1, ih2 h2, Bool.and_self]
    · cases h
  | lb c =>
    intro b h
    simp only [eval3, Option.some.injEq] at h
    subst h
    rfl
  | _ => intro b h; exact atom3_ok hf (by simpa only [eval3] using h)

/-- Does what is known speak against itself? -/
def contraF (all : Facts) : Facts → Bool
  | [] => false
  | p :: r => cond (match (match p.1 with | .and _ _ => eval3 all p.1 | .not _ => eval3 all p.1 | e => memF e all) with | some c => c != p.2 | none => false) true (contraF all r)

theorem contraF_no {ρ : Env} {all : Facts} (ha : FactsOk ρ all) : ∀ {fs : Facts}, FactsOk ρ fs → contraF all fs = true → False
  | [], _, h => by simp [contraF] at h
  | p :: r, hf, h => by
    have hp := hf p (List.mem_cons_self ..)
    have hr : FactsOk ρ r := fun q hq => hf q (List.mem_cons_of_mem _ hq)
    simp only [contraF] at h
    cases hc : (match (match p.1 with | .and _ _ => eval3 all p.1 | .not _ => eval3 all p.1 | e => memF e all) with | some c => c != p.2 | none => false) with
    | false => rw [hc] at h; exact contraF_no ha hr h
    | true =>
      split at hc
      · rename_i c hm
        have : (den ρ p.1).b = c := by
          split at hm
          · exact eval3_ok ha _ hm
          · exact eval3_ok ha _ hm
          · exact memF_ok ha hm
        rw [hp] at this
        subst this
        simp at hc
      · cases hc

/-- A part of a test that is not known. -/
def undec (fs : Facts) : Sx → Option Sx
  | .not a => undec fs a
  | .and a b => match eval3 fs a with
    | none => undec fs a
    | some _ => undec fs b
  | .lb _ => none
  | e => match atom3 fs e with
    | none => some e
    | some _ => none

def pickA (all : Facts) : Facts → Option Sx
  | [] => none
  | p :: r => match p.1 with
    | .and a b => (match eval3 all (.and a b) with
      | none => undec all (.and a b)
      | some _ => pickA all r)
    | .not a => (match eval3 all a with
      | none => undec all a
      | some _ => pickA all r)
    | _ => pickA all r

/-- Does what is known speak against itself, whatever its parts are? -/
def contraS : Nat → Facts → Bool
  | 0, fs => contraF fs fs
  | n + 1, fs => cond (contraF fs fs) true (match pickA fs fs with
    | none => false
    | some a => test both a fs (contraS n) (contraS n))

theorem contraS_no {ρ : Env} : ∀ {n : Nat} {fs : Facts}, FactsOk ρ fs → contraS n fs = true → False
  | 0, fs, hf, h => contraF_no hf hf h
  | n + 1, fs, hf, h => by
    simp only [contraS] at h
    cases hc : contraF fs fs with
    | true => exact contraF_no hf hf hc
    | false =>
      rw [hc] at h
      simp only [_root_.cond_false] at h
      split at h
      · cases h
      · rename_i a ha
        have := test_ok a hf h
        cases hb : (den ρ a).b with
        | true =>
          obtain ⟨_, hf', h'⟩ := this.1 hb
          exact contraS_no hf' h'
        | false =>
          obtain ⟨_, hf', h'⟩ := this.2 hb
          exact contraS_no hf' h'

def knowJ (e : Sx) (b : Bool) (fs : Facts) : Bool := testI 400 e fs (fun fs => cond b true (contraS 40 fs)) (fun fs => cond b (contraS 40 fs) true)

theorem knowJ_ok {ρ : Env} (hF : ρ.F = iteF) {e : Sx} {b : Bool} {fs : Facts} (hf : FactsOk ρ fs) (h : knowJ e b fs = true) : (den ρ e).b = b := by
  have := testI_ok hF hf h
  cases hb : (den ρ e).b with
  | true =>
    obtain ⟨fs', hf', h'⟩ := this.1 hb
    cases b with
    | true => rfl
    | false => exact (contraS_no hf' h').elim
  | false =>
    obtain ⟨fs', hf', h'⟩ := this.2 hb
    cases b with
    | true => exact (contraS_no hf' h').elim
    | false => rfl

/-- Are temporaries what a pattern says? -/
def patP : Tmps → Tmps → Bool
  | [], [] => true
  | a :: r, p :: q => both (match p with | .any => true | p => sameA a p) (patP r q)
  | _, _ => false

theorem patP_ok (ρ : Env) : ∀ {l q : Tmps}, patP l q = true → weak (concs ρ l) (concs ρ q)
  | [], [], _ => trivial
  | a :: r, p :: q, h => by
    obtain ⟨h1, h2⟩ := both_ok h
    refine ⟨?_, patP_ok ρ h2⟩
    split at h1
    · exact .inl rfl
    · exact .inr (by rw [sameA_eq h1])
  | [], _ :: _, h => by cases h
  | _ :: _, [], h => by cases h

/-- Is a state one of those that are said, what is said of it holding where it is come to? -/
def oneJ (fs : Facts) (s : JS) : List (AEx × Tmps × Sx) → Bool
  | [] => false
  | p :: r => cond (sameE_ s.e p.1) (both (patP s.T p.2.1) (both (p.2.1.all (lowA 4 0)) (knowJ (.and s.g (.not p.2.2)) false fs))) (oneJ fs s r)

/-- A fragment comes to one of some states, without memory. -/
def toJ (C : Ctx) (d : Nat) (nm : Array String) (n : Nat) (fs : Facts) (c : Code) (T : Tmps) (H : Heap) (l : List (AEx × Tmps × Sx)) : Bool := match jcode C d nm n c T H fs with
  | some L => L.all fun s => oneJ fs s l
  | none => false

section
variable {C : Ctx} {ρ : Env} {d n : Nat} {nm : Array String} {fs : Facts}

theorem oneJ_ok (hF : ρ.F = iteF) (hf : FactsOk ρ fs) {F : JS → Prop} (hl : Lax ρ F) {s : JS} (hb : (den ρ s.g).b = true) (h : F s) : ∀ {l : List (AEx × Tmps × Sx)}, oneJ fs s l = true → ∃ p ∈ l, (den ρ p.2.2).b = true ∧ F ⟨s.g, p.1, p.2.1, []⟩
  | [], h1 => by simp [oneJ] at h1
  | p :: r, h1 => by
    simp only [oneJ] at h1
    cases he : sameE_ s.e p.1 with
    | true =>
      rw [he] at h1
      simp only [cond_true] at h1
      obtain ⟨h2, h3⟩ := both_ok h1
      obtain ⟨h4, h5⟩ := both_ok h3
      have k := knowJ_ok hF hf h5
      simp only [den, hb, Bool.true_and, Bool.not_eq_false'] at k
      refine ⟨p, List.mem_cons_self .., k, ?_⟩
      have he := encE_inj (by simpa [sameE_] using he)
      have g1 : F ⟨s.g, p.1, p.2.1, s.H⟩ := hl.lax s ⟨s.g, p.1, p.2.1, s.H⟩ he (patP_ok ρ h2) rfl h
      exact hl.cut ⟨s.g, p.1, p.2.1, s.H⟩ 0 (by simpa [lowS] using h4) (Nat.zero_le _) g1
    | false =>
      rw [he] at h1
      obtain ⟨q, hq, h2⟩ := oneJ_ok hF hf hl hb h (show oneJ fs s r = true from h1)
      exact ⟨q, List.mem_cons_of_mem _ hq, h2⟩

theorem toJ_ok (hF : ρ.F = iteF) (hs : Summ ρ C) (hf : FactsOk ρ fs) {c : Code} {T : Tmps} {H : Heap} {l : List (AEx × Tmps × Sx)} (h : toJ C d nm n fs c T H l = true) :
    ∃ p ∈ l, (den ρ p.2.2).b = true ∧ FragH C c (concs ρ T) (concH ρ H) (exOf p.1) (concs ρ p.2.1) [] := by
  unfold toJ at h
  split at h
  · rename_i L hL
    obtain ⟨⟨s, hs1, hb⟩, h2⟩ := jcode_ok hF hs hf hL
    have h3 := List.all_eq_true.1 h s hs1
    obtain ⟨p, hp, h4, h5⟩ := oneJ_ok hF hf (F := FJ C ρ c T H) FragH.lax hb (h2 s hs1 hb) h3
    exact ⟨p, hp, h4, h5⟩
  · cases h

/-- A loop each of whose rounds goes on where f holds, and returns where it does not. -/
theorem all_loop {b : Code} {f : Nat → Bool} {S : Nat → Tmps} {R E : Tmps} (m : Nat) (hno : ∀ i, i < m → f i = false → FragH C b (S i) [] .ret R []) (hgo : ∀ i, i < m → f i = true → FragH C b (S i) [] .normal (S (i + 1)) [])
    (hend : FragH C b (S m) [] (.exit 0) E []) : FragH C (.block 0 (.loop b)) (S 0) [] (cond ((List.range m).all f) .normal .ret) (cond ((List.range m).all f) E R) [] := by
  have key : ∀ (k i : Nat), i + k = m → ∃ r, FragHR C b r (S i) [] (cond ((List.range' i k).all f) (.exit 0) .ret) (cond ((List.range' i k).all f) E R) [] := by
    intro k
    induction k with
    | zero =>
      intro i hi
      rw [show i = m by omega]
      exact ⟨1, FragHR.exit hend (fun h => by cases h)⟩
    | succ k ih =>
      intro i hi
      cases hfi : f i with
      | false =>
        refine ⟨1, ?_⟩
        have : (List.range' i (k + 1)).all f = false := by simp [List.range'_succ, hfi]
        rw [this]
        exact FragHR.exit (hno i (by omega) hfi) (fun h => by cases h)
      | true =>
        obtain ⟨r, hr⟩ := ih (i + 1) (by omega)
        refine ⟨r + 1, ?_⟩
        have : (List.range' i (k + 1)).all f = (List.range' (i + 1) k).all f := by simp [List.range'_succ, hfi]
        rw [this]
        exact FragHR.step (hgo i (by omega) hfi) hr
  obtain ⟨r, hr⟩ := key m 0 (by omega)
  rw [List.range_eq_range']
  cases hall : (List.range' 0 m).all f with
  | true =>
    rw [hall] at hr
    exact FragH.block hr.loop
  | false =>
    rw [hall] at hr
    exact FragH.block1 hr.loop (fun h => by cases h)
/-- A joined run that tells a law true. -/
def JTrueJ (C : Ctx) (d n : Nat) (fs : Facts) (f : FuncId) (args : List AV) : Bool := match jfun C d n fs f args with
  | some (.tc (.sc (.bool true))) => true
  | some (.tc (.sy .bool e)) => knowJ e true fs
  | _ => false

theorem JTrueJ.calls (hF : ρ.F = iteF) (hs : Summ ρ C) {f : FuncId} {args : List AV} (hf : FactsOk ρ fs) (h : JTrueJ C d n fs f args = true) : CallsTo C f (concs ρ args) (.sc (.bool true)) := by
  unfold JTrueJ at h
  split at h
  · rename_i hj
    exact jfun_ok hF hs hf hj
  · rename_i e hj
    have := jfun_ok hF hs hf hj
    simp only [conc, concT, STy.val, knowJ_ok hF hf h] at this
    exact this
  · cases h
end
end Go.Proofs.Ytamhmfdbnlkmkaa
