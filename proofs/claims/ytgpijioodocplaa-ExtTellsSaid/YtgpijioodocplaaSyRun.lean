/- Runs over expressions: what they tell for any values of the variables. -/
import Derived.Test.YtgpijioodocplaaSyAll
set_option linter.unusedVariables false
set_option linter.unusedSectionVars false
set_option linter.unusedSimpArgs false
namespace Go.Proofs.Ytgpijioodocplaa
open Go Go.RowKit

/-! ### values for the variables -/
mutual
def concT (ρ : Env) : TC → TC
  | .sc v => .sc v
  | .sy t e => .sc (t.val (den ρ e))
  | .sl s el => .sl s (concE ρ el)
def concR (ρ : Env) : List TC → List TC
  | [] => []
  | c :: r => concT ρ c :: concR ρ r
def concE (ρ : Env) : List (List TC) → List (List TC)
  | [] => []
  | c :: r => concR ρ c :: concE ρ r
end

theorem concR_get (ρ : Env) : ∀ (l : List TC) (i : Nat), (concR ρ l)[i]? = l[i]?.map (concT ρ)
  | [], i => by simp [concR]
  | a :: r, 0 => by simp [concR]
  | a :: r, i + 1 => by simp [concR, concR_get ρ r i]

theorem concE_get (ρ : Env) : ∀ (l : List (List TC)) (i : Nat), (concE ρ l)[i]? = l[i]?.map (concR ρ)
  | [], i => by simp [concE]
  | a :: r, 0 => by simp [concE]
  | a :: r, i + 1 => by simp [concE, concE_get ρ r i]

theorem concR_len (ρ : Env) : ∀ (l : List TC), (concR ρ l).length = l.length
  | [] => rfl
  | a :: r => by simp [concR, concR_len ρ r]

theorem concE_len (ρ : Env) : ∀ (l : List (List TC)), (concE ρ l).length = l.length
  | [] => rfl
  | a :: r => by simp [concE, concE_len ρ r]

mutual
def conc (ρ : Env) : AV → AV
  | .tc c => .tc (concT ρ c)
  | .any => .any
  | .agg cs => .agg (concs ρ cs)
  | .tuple cs => .tuple (concs ρ cs)
  | .ptr o s i f ver => .ptr o s i f ver
  | .vptr s el i f => .vptr s (concE ρ el) i f
  | .slice o s i len cap ex ver => .slice o s i len cap ex ver
  | .map o => .map o
  | .func fn a b => .func fn (concs ρ a) (concs ρ b)
def concs (ρ : Env) : List AV → List AV
  | [] => []
  | a :: r => conc ρ a :: concs ρ r
end

theorem concs_get (ρ : Env) : ∀ (l : List AV) (i : Nat), (concs ρ l)[i]? = l[i]?.map (conc ρ)
  | [], i => by simp [concs]
  | a :: r, 0 => by simp [concs]
  | a :: r, i + 1 => by simp [concs, concs_get ρ r i]

theorem concs_len (ρ : Env) : ∀ (l : List AV), (concs ρ l).length = l.length
  | [] => rfl
  | a :: r => by simp [concs, concs_len ρ r]

section
variable {ρ : Env} {Q : AV → Prop} {ob : Obs} {Pb : Nat → Prop} {μ : Mu} {w : World}

theorem RT.conc {c : TC} {v : Value} (h : @RT ⟨ρ, Q⟩ Pb w c v) : @RT ob Pb w (concT ρ c) v := by
  induction h with
  | sc v => exact @RT.sc ob _ _ _
  | sy t e => exact @RT.sc ob _ _ _
  | nil s => exact @RT.nil ob _ _ _
  | sl s b o cap el g hl hb hs hc hr ih =>
    have key : ∀ (i f : Nat) (r : List TC) (c : TC), (concE ρ el)[i]? = some r → r[f]? = some c → ∃ r' c', el[i]? = some r' ∧ r'[f]? = some c' ∧ c = concT ρ c' := fun i f r c hi hf => by
      rw [concE_get, Option.map_eq_some_iff] at hi
      obtain ⟨r', hr', rfl⟩ := hi
      rw [concR_get, Option.map_eq_some_iff] at hf
      obtain ⟨c', hc', rfl⟩ := hf
      exact ⟨r', c', hr', hc', rfl⟩
    have hsl := @RT.sl ob Pb w s b o cap (concE ρ el) g (by rw [concE_len]; exact hl) (fun hne => hb fun h0 => hne (by rw [h0]; rfl))
      (fun r hr => by
        obtain ⟨i, hi⟩ := List.mem_iff_getElem?.1 hr
        rw [concE_get, Option.map_eq_some_iff] at hi
        obtain ⟨r', hr', rfl⟩ := hi
        rw [concR_len]; exact hs r' (List.mem_of_getElem? hr'))
      (fun i f r c hi hf => by
        obtain ⟨r', c', h1, h2, rfl⟩ := key i f r c hi hf
        exact hc i f r' c' h1 h2)
      (fun i f r c hi hf => by
        obtain ⟨r', c', h1, h2, rfl⟩ := key i f r c hi hf
        exact ih i f r' c' h1 h2)
    rw [concE_len] at hsl
    exact hsl

theorem RT.unconc {c' : TC} {v : Value} (h : @RT ob Pb w c' v) : ∀ {c : TC}, concT ρ c = c' → @RT ⟨ρ, Q⟩ Pb w c v := by
  letI : Obs := ⟨ρ, Q⟩
  induction h with
  | sc v =>
    intro c hc
    cases c with
    | sc u => simp only [concT, TC.sc.injEq] at hc; subst hc; exact .sc _
    | sy t e => simp only [concT, TC.sc.injEq] at hc; subst hc; exact .sy t e
    | sl s el => simp [concT] at hc
  | sy t e =>
    intro c hc
    cases c <;> simp [concT] at hc
  | nil s =>
    intro c hc
    cases c with
    | sc u => simp [concT] at hc
    | sy t e => simp [concT] at hc
    | sl s' el =>
      simp only [concT, TC.sl.injEq] at hc
      obtain ⟨rfl, h2⟩ := hc
      cases el with
      | nil => exact .nil _
      | cons a r => simp [concE] at h2
  | sl s b o cap el g hl hb hs hc hr ih =>
    intro c hcc
    cases c with
    | sc u => simp [concT] at hcc
    | sy t e => simp [concT] at hcc
    | sl s' el' =>
      simp only [concT, TC.sl.injEq] at hcc
      obtain ⟨rfl, rfl⟩ := hcc
      rw [concE_len] at hl ⊢
      refine .sl s' b o cap el' g hl (fun hne => hb fun h0 => hne ?_) (fun r hr => ?_) (fun i f r c hi hf => ?_) (fun i f r c hi hf => ?_)
      · cases el' with
        | nil => rfl
        | cons a r => simp [concE] at h0
      · obtain ⟨i, hi⟩ := List.mem_iff_getElem?.1 hr
        have := hs (concR ρ r) (List.mem_of_getElem? (i := i) (by rw [concE_get, hi]; rfl))
        rw [concR_len] at this
        exact this
      · exact hc i f (concR ρ r) (concT ρ c) (by rw [concE_get, hi]; rfl) (by rw [concR_get, hf]; rfl)
      · exact ih i f (concR ρ r) (concT ρ c) (by rw [concE_get, hi]; rfl) (by rw [concR_get, hf]; rfl) rfl

theorem Rel.conc {a : AV} {v : Value} (h : @Rel ⟨ρ, Q⟩ Pb μ w a v) : @Rel ob Pb μ w (conc ρ a) v := by
  have gets : ∀ {l : List AV} {i : Nat} {x : AV}, (concs ρ l)[i]? = some x → ∃ y, l[i]? = some y ∧ x = Go.Proofs.Ytgpijioodocplaa.conc ρ y := fun {l i x} hi => by
    rw [concs_get, Option.map_eq_some_iff] at hi
    obtain ⟨y, h1, h2⟩ := hi
    exact ⟨y, h1, h2.symm⟩
  induction h with
  | tc c v h => exact @Rel.tc ob _ _ _ _ _ h.conc
  | any v => exact @Rel.any ob _ _ _ _
  | agg cs vs hl h ih =>
    refine @Rel.agg ob _ _ _ _ _ (by rw [concs_len]; exact hl) fun i x u hi hu => ?_
    obtain ⟨y, h1, rfl⟩ := gets hi
    exact ih i y u h1 hu
  | tuple cs vs hl h ih =>
    refine @Rel.tuple ob _ _ _ _ _ (by rw [concs_len]; exact hl) fun i x u hi hu => ?_
    obtain ⟨y, h1, rfl⟩ := gets hi
    exact ih i y u h1 hu
  | ptr o s i f ver b h => exact @Rel.ptr ob _ _ _ o s i f ver b h
  | vptr s i f b off el g hb hs hc hr =>
    have key : ∀ (i f : Nat) (r : List TC) (c : TC), (concE ρ el)[i]? = some r → r[f]? = some c → ∃ r' c', el[i]? = some r' ∧ r'[f]? = some c' ∧ c = concT ρ c' := fun i f r c hi hf => by
      rw [concE_get, Option.map_eq_some_iff] at hi
      obtain ⟨r', hr', rfl⟩ := hi
      rw [concR_get, Option.map_eq_some_iff] at hf
      obtain ⟨c', hc', rfl⟩ := hf
      exact ⟨r', c', hr', hc', rfl⟩
    refine @Rel.vptr ob _ _ _ s i f b off (concE ρ el) g (fun hne => hb fun h0 => hne (by rw [h0]; rfl)) (fun r hr => ?_) (fun i f r c hi hf => ?_) (fun i f r c hi hf => ?_)
    · obtain ⟨i, hi⟩ := List.mem_iff_getElem?.1 hr
      rw [concE_get, Option.map_eq_some_iff] at hi
      obtain ⟨r', hr', rfl⟩ := hi
      rw [concR_len]; exact hs r' (List.mem_of_getElem? hr')
    · obtain ⟨r', c', h1, h2, rfl⟩ := key i f r c hi hf
      exact hc i f r' c' h1 h2
    · obtain ⟨r', c', h1, h2, rfl⟩ := key i f r c hi hf
      exact (hr i f r' c' h1 h2).conc
  | slice o s i len cap ex ver b off c h h1 h2 h3 h4 h5 => exact @Rel.slice ob _ _ _ o s i len cap ex ver b off c h h1 h2 h3 h4 h5
  | map o b h => exact @Rel.map ob _ _ _ o b h
  | func fn first cap vf vc hl hl' h h' ih ih' =>
    refine @Rel.func ob _ _ _ _ _ _ _ _ (by rw [concs_len]; exact hl) (by rw [concs_len]; exact hl') (fun i x u hi hu => ?_) (fun i x u hi hu => ?_)
    · obtain ⟨y, h1, rfl⟩ := gets hi
      exact ih i y u h1 hu
    · obtain ⟨y, h1, rfl⟩ := gets hi
      exact ih' i y u h1 hu

theorem Rel.unconc {a' : AV} {v : Value} (h : @Rel ob Pb μ w a' v) : ∀ {a : AV}, Go.Proofs.Ytgpijioodocplaa.conc ρ a = a' → @Rel ⟨ρ, Q⟩ Pb μ w a v := by
  letI : Obs := ⟨ρ, Q⟩
  have gets : ∀ {l : List AV} {i : Nat} {x : AV}, l[i]? = some x → (concs ρ l)[i]? = some (Go.Proofs.Ytgpijioodocplaa.conc ρ x) := fun {l i x} hi => by rw [concs_get, hi]; rfl
  induction h with
  | tc c v h =>
    intro a ha
    cases a <;> simp only [Go.Proofs.Ytgpijioodocplaa.conc, AV.tc.injEq, reduceCtorEq] at ha
    exact .tc _ _ (h.unconc ha)
  | any v =>
    intro a ha
    cases a <;> simp only [Go.Proofs.Ytgpijioodocplaa.conc, reduceCtorEq] at ha
    exact .any _
  | agg cs vs hl h ih =>
    intro a ha
    cases a <;> simp only [Go.Proofs.Ytgpijioodocplaa.conc, AV.agg.injEq, reduceCtorEq] at ha
    subst ha
    rw [concs_len] at hl
    exact .agg _ _ hl fun i x u hi hu => ih i _ u (gets hi) hu rfl
  | tuple cs vs hl h ih =>
    intro a ha
    cases a <;> simp only [Go.Proofs.Ytgpijioodocplaa.conc, AV.tuple.injEq, reduceCtorEq] at ha
    subst ha
    rw [concs_len] at hl
    exact .tuple _ _ hl fun i x u hi hu => ih i _ u (gets hi) hu rfl
  | ptr o s i f ver b h =>
    intro a ha
    cases a <;> simp only [Go.Proofs.Ytgpijioodocplaa.conc, AV.ptr.injEq, reduceCtorEq] at ha
    obtain ⟨rfl, rfl, rfl, rfl, rfl⟩ := ha
    exact .ptr _ _ _ _ _ b h
  | vptr s i f b off el g hb hs hc hr =>
    intro a ha
    cases a <;> simp only [Go.Proofs.Ytgpijioodocplaa.conc, AV.vptr.injEq, reduceCtorEq] at ha
    rename_i s' el' i' f'
    obtain ⟨rfl, rfl, rfl, rfl⟩ := ha
    refine .vptr _ _ _ b off el' g (fun hne => hb fun h0 => hne ?_) (fun r hr => ?_) (fun i f r c hi hf => ?_) (fun i f r c hi hf => ?_)
    · cases el' with
      | nil => rfl
      | cons a r => simp [concE] at h0
    · obtain ⟨i, hi⟩ := List.mem_iff_getElem?.1 hr
      have := hs (concR ρ r) (List.mem_of_getElem? (i := i) (by rw [concE_get, hi]; rfl))
      rw [concR_len] at this
      exact this
    · exact hc i f (concR ρ r) (concT ρ c) (by rw [concE_get, hi]; rfl) (by rw [concR_get, hf]; rfl)
    · exact (hr i f (concR ρ r) (concT ρ c) (by rw [concE_get, hi]; rfl) (by rw [concR_get, hf]; rfl)).unconc rfl
  | slice o s i len cap ex ver b off c h h1 h2 h3 h4 h5 =>
    intro a ha
    cases a <;> simp only [Go.Proofs.Ytgpijioodocplaa.conc, AV.slice.injEq, reduceCtorEq] at ha
    obtain ⟨rfl, rfl, rfl, rfl, rfl, rfl, rfl⟩ := ha
    exact .slice _ _ _ _ _ _ _ b off c h h1 h2 h3 h4 h5
  | map o b h =>
    intro a ha
    cases a <;> simp only [Go.Proofs.Ytgpijioodocplaa.conc, AV.map.injEq, reduceCtorEq] at ha
    subst ha
    exact .map _ b h
  | func fn first cap vf vc hl hl' h h' ih ih' =>
    intro a ha
    cases a <;> simp only [Go.Proofs.Ytgpijioodocplaa.conc, AV.func.injEq, reduceCtorEq] at ha
    obtain ⟨rfl, rfl, rfl⟩ := ha
    rw [concs_len] at hl hl'
    exact .func _ _ _ _ _ hl hl' (fun i x u hi hu => ih i _ u (gets hi) hu rfl) (fun i x u hi hu => ih' i _ u (gets hi) hu rfl)

/-! ### contracts -/

/-- A call of values without variables tells one value, in any world. -/
def CallsTo (C : Ctx) (f : FuncId) (args : List AV) (r : AV) : Prop := ∀ ob : Obs, @TreeCall ob C f args (· = r)

theorem CallsTo.tree {C : Ctx} {f : FuncId} {args : List AV} {r : AV} (h : CallsTo C f (concs ρ args) (Go.Proofs.Ytgpijioodocplaa.conc ρ r)) : @TreeCall ⟨ρ, Q⟩ C f args (· = r) := by
  intro Pb w vs h1 h2 h3
  refine (h ⟨ρ, Q⟩ Pb w vs h1 ⟨by rw [concs_len]; exact h2.1, fun i x v hi hv => ?_⟩ h3).mono fun e w' ⟨r', v, e1, e2, e3, e4⟩ => ⟨r, v, rfl, e2, ?_, e4⟩
  · rw [concs_get, Option.map_eq_some_iff] at hi
    obtain ⟨y, hy, rfl⟩ := hi
    exact (h2.2 i y v hy hv).conc
  · subst e1
    exact e3.unconc rfl

theorem TreeCall.calls {C : Ctx} {f : FuncId} {args : List AV} {R : AV} (h : @TreeCall ⟨ρ, Q⟩ C f args (fun r => Go.Proofs.Ytgpijioodocplaa.conc ρ r = R)) : CallsTo C f (concs ρ args) R := by
  intro ob Pb w vs h1 h2 h3
  refine (h Pb w vs h1 ⟨by rw [← concs_len ρ]; exact h2.1, fun i x v hi hv => ?_⟩ h3).mono fun e w' ⟨r', v, e1, e2, e3, e4⟩ => ⟨R, v, rfl, e2, ?_, e4⟩
  · exact (h2.2 i (Go.Proofs.Ytgpijioodocplaa.conc ρ x) v (by rw [concs_get, hi]; rfl) hv).unconc rfl
  · subst e1
    exact e3.conc
end

/-! ### runs -/

/-- What a run comes to. -/
def runOut (C : Ctx) (d : Nat) (f : FuncId) (args : List AV) : Out := callPure (acall C d) f args .leaf

/-- The value that is told, for values of the variables. -/
def outV (ρ : Env) : Out → Option AV
  | .fail => none
  | .leaf r => some (conc ρ r)
  | .sel e a b => cond (den ρ e).b (outV ρ a) (outV ρ b)

/-- Summaries that hold, for values of the variables. -/
def Summ (ρ : Env) (C : Ctx) : Prop := ∀ f g args r, C.summ f = some g → g args = some r → CallsTo C f (concs ρ args) (conc ρ r)

theorem ok_outV {ρ : Env} {R : AV} : ∀ {o : Out}, outV ρ o = some R → @Ok ⟨ρ, fun r => conc ρ r = R⟩ o
  | .fail, h => by simp [outV] at h
  | .leaf r, h => by
    show conc ρ r = R
    simpa [outV] using h
  | .sel e a b, h => by
    letI : Obs := ⟨ρ, fun r => conc ρ r = R⟩
    show cond (den ρ e).b (Ok a) (Ok b)
    simp only [outV] at h
    cases hb : (den ρ e).b with
    | true => rw [hb] at h; exact ok_outV h
    | false => rw [hb] at h; exact ok_outV h

theorem run_calls {ρ : Env} {C : Ctx} {d : Nat} {f : FuncId} {args : List AV} {R : AV} (hs : Summ ρ C) (h : outV ρ (runOut C d f args) = some R) : CallsTo C f (concs ρ args) R := by
  letI : Obs := ⟨ρ, fun r => conc ρ r = R⟩
  have h1 := ok_outV h
  exact TreeCall.calls (eval_ok (fun f g as r hf hg => (hs f g as r hf hg).tree) h1)
end Go.Proofs.Ytgpijioodocplaa
