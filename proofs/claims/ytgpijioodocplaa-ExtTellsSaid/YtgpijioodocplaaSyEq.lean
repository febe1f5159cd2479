/- '==' of structs: what the evaluator tells of it holds. -/
import Derived.Test.YtgpijioodocplaaSySym
import Derived.Laws.StructEq
set_option linter.unusedVariables false
set_option linter.unusedSectionVars false
set_option linter.unusedSimpArgs false
namespace Go.Proofs.Ytgpijioodocplaa
open Go Go.RowKit
variable [Obs]

section
variable {C : Ctx} {Pb : Nat → Prop} {μ : Mu} {B0 : Nat} {w : World} {T : Look} {H : Heap} {a : Act}

/-- The bytes of a string. -/
theorem bytes_loop (s : ByteArray) : ∀ (n i : Nat) (r : List UInt8), s.size - i = n → ByteArray.toList.loop s i r = r.reverse ++ s.data.toList.drop i
  | 0, i, r, h => by
    rw [ByteArray.toList.loop, if_neg (by omega), List.drop_eq_nil_of_le (by show s.data.size ≤ i; have : s.size = s.data.size := rfl; omega)]
    simp
  | n + 1, i, r, h => by
    have hsz : s.size = s.data.size := rfl
    have hi : i < s.data.toList.length := by simp; omega
    rw [ByteArray.toList.loop, if_pos (by omega), bytes_loop s n (i + 1) _ (by omega), List.drop_eq_getElem_cons hi]
    have e : s.get! i = s.data.toList[i] := by
      show s.data[i]! = _
      simp at hi
      simp [hi]
    simp [e]

theorem bytes_toList (s : ByteArray) : s.toList = s.data.toList := by
  show ByteArray.toList.loop s 0 [] = _
  rw [bytes_loop s _ 0 [] rfl]; rfl

theorem eqCell_ok {t : TypeId} {x y : AV} {vx vy : Value} {e : Sx} (h : eqCell C t x y = some e) (hx : Rel Pb μ w x vx) (hy : Rel Pb μ w y vy) (d : Nat) (w' : World) :
    (Op.equalIn (d + 1) t vx vy).run C.P w' = .ok (dv e).b w' ∧ (isAgg t).run C.P w' = .ok false w' := by
  unfold eqCell at h
  split at h
  · rename_i ti k p k' q ht hxs hys
    obtain ⟨_, _, hu, _⟩ := tinfo_ok ht
    rw [asSx_ok hxs hx, asSx_ok hys hy]
    split at h
    · rename_i k2 hk
      rw [hk] at hu
      split at h
      · rename_i hd
        simp only [decide_eq_true_eq] at hd
        subst hd
        simp only [Option.some.injEq] at h
        subst h
        refine ⟨?_, by simp [isAgg, run_underlying hu]⟩
        rw [STy.val, STy.val, run_equalIn_int w' d t _ _ _ _ hu, mkCmp_ok _ (op := .eql) (by simp)]
        rfl
      · cases h
    · cases h
  · rename_i ti p q ht hxs hys
    obtain ⟨_, _, hu, _⟩ := tinfo_ok ht
    rw [asSx_ok hxs hx, asSx_ok hys hy]
    split at h
    · rename_i hk
      rw [hk] at hu
      simp only [Option.some.injEq] at h
      subst h
      refine ⟨?_, by simp [isAgg, run_underlying hu]⟩
      rw [STy.val, STy.val, run_equalIn_bool' w' d t _ _ hu]
      rfl
    · cases h
  · rename_i ti p q ht hxs hys
    obtain ⟨_, _, hu, _⟩ := tinfo_ok ht
    rw [asSx_ok hxs hx, asSx_ok hys hy]
    split at h
    · rename_i hk
      rw [hk] at hu
      simp only [Option.some.injEq] at h
      subst h
      refine ⟨?_, by simp [isAgg, run_underlying hu]⟩
      rw [STy.val, STy.val, run_equalIn_string w' d t _ _ hu]
      rfl
    · cases h
  · cases h

theorem eqFieldsA_ok {xs ys : List AV} {vx vy : Array Value} (hx : RelL Pb μ w xs vx) (hy : RelL Pb μ w ys vy) (d : Nat) (w' : World) : ∀ (fs : List Field) {e : Sx},
    eqFieldsA C xs ys fs = some e → (Op.eqFields (d + 1) vx vy fs).run C.P w' = .ok (dv e).b w'
  | [], e, h => by simp only [eqFieldsA, Option.some.injEq] at h; subst h; rfl
  | f :: r, e, h => by
    simp only [eqFieldsA] at h
    split at h
    · cases h
    · rename_i hn
      simp only [decide_eq_false_iff_not] at hn
      split at h
      · rename_i x y hxf hyf
        split at h
        · rename_i p q hc hr
          simp only [Option.some.injEq] at h
          subst h
          have gx : ∃ v, vx[f.offset]? = some v := by
            have : f.offset < xs.length := by
              rcases Nat.lt_or_ge f.offset xs.length with h | h
              · exact h
              · simp [List.getElem?_eq_none h] at hxf
            exact ⟨_, Array.getElem?_eq_getElem (by rw [← hx.1]; exact this)⟩
          have gy : ∃ v, vy[f.offset]? = some v := by
            have : f.offset < ys.length := by
              rcases Nat.lt_or_ge f.offset ys.length with h | h
              · exact h
              · simp [List.getElem?_eq_none h] at hyf
            exact ⟨_, Array.getElem?_eq_getElem (by rw [← hy.1]; exact this)⟩
          obtain ⟨v1, h1⟩ := gx
          obtain ⟨v2, h2⟩ := gy
          obtain ⟨c1, c2⟩ := eqCell_ok hc (hx.2 _ _ _ hxf h1) (hy.2 _ _ _ hyf h2) d w'
          have ih := eqFieldsA_ok hx hy d w' r hr
          have p1 : (part f.type vx f.offset).run C.P w' = .ok v1 w' := by
            simp only [part, Sem.run_bind, c2, Result.andThen, Bool.false_eq_true, if_false, h1, Sem.run_pure]
          have p2 : (part f.type vy f.offset).run C.P w' = .ok v2 w' := by
            simp only [part, Sem.run_bind, c2, Result.andThen, Bool.false_eq_true, if_false, h2, Sem.run_pure]
          simp only [Op.eqFields, hn, ne_eq, not_false_eq_true, if_true, Sem.run_bind, p1, p2, c1, Result.andThen]
          have hb : (dv (.and p q)).b = ((dv p).b && (dv q).b) := rfl
          rw [hb]
          cases (dv p).b with
          | false => simp
          | true => simpa using ih
        · cases h
      · cases h

theorem constB_ok (ρ : Env) : ∀ (e : Sx) {b : Bool}, constB e = some b → (den ρ e).b = b := by
  intro e
  induction e with
  | lb c => intro b h; simp only [constB, Option.some.injEq] at h; subst h; rfl
  | and x y ih1 ih2 =>
    intro b h
    simp only [constB] at h
    split at h
    · rename_i u v hu hv
      simp only [Option.some.injEq] at h
      subst h
      simp only [den, ih1 hu, ih2 hv]
    · cases h
  | cmp op x y _ _ =>
    intro b h
    unfold constB at h
    split at h
    all_goals first | (cases h; done) | (simp only [Option.some.injEq] at h; subst h; simp_all [den, cmpI]; done) | (rename_i heq; cases heq; done) | (rename_i heq; cases heq; simp only [Option.some.injEq] at h; subst h; rfl)
  | cmps op x y _ _ =>
    intro b h
    unfold constB at h
    split at h
    all_goals first | (cases h; done) | (simp only [Option.some.injEq] at h; subst h; simp_all [den, cmpS, bytes_toList]; done) | (rename_i heq; cases heq; done) | (rename_i heq; cases heq; simp only [Option.some.injEq] at h; subst h; simp only [den, cmpS, bytes_toList]; rw [Bool.eq_iff_iff]; simp)
  | eqb x y _ _ =>
    intro b h
    unfold constB at h
    split at h
    all_goals first | (cases h; done) | (simp only [Option.some.injEq] at h; subst h; simp_all [den, cmpI]; done) | (rename_i heq; cases heq; done) | (rename_i heq; cases heq; simp only [Option.some.injEq] at h; subst h; rfl)
  | _ => intro b h; simp [constB] at h

theorem aggOp_ok {op : BinOp} {t : TypeId} {x y : AV} {ox oy : Operand} {vx vy : Value} {e : Sx} {k : AV → Out} (h : aggEq C t x y = some e) (hk : Ok (aggOp op e k)) (hx : Rel Pb μ w x vx) (hy : Rel Pb μ w y vy) :
    ∃ r v, k r ∧ Rel Pb μ w r v ∧ ∀ w', (do eqGuard op t ox oy vx vy; binOp op t vx vy : Sem Value).run C.P w' = .ok v w' := by
  unfold aggEq at h
  split at h
  · rename_i xs ys
    split at h
    · rename_i fs hu
      split at h
      · rename_i hc
        simp only [Bool.and_eq_true, Bool.not_eq_true'] at hc
        cases hx with
        | agg _ vx hl hh =>
          cases hy with
          | agg _ vy hl' hh' =>
            have hf : C.P.fieldsOf t = fs := by simp [Program.fieldsOf, hu]
            have hq : ∀ w', (Op.equalIn 10000 t (.agg vx) (.agg vy)).run C.P w' = .ok (dv e).b w' := fun w' => by
              rw [run_equalIn_struct w' 9999 t vx vy (by rw [hf]; exact hu) hc.1, hf]
              exact eqFieldsA_ok ⟨hl, hh⟩ ⟨hl', hh'⟩ 9998 w' fs.toList h
            unfold aggOp at hk
            split at hk
            · rename_i b hb
              have hd := constB_ok Obs.ρ _ hb
              split at hk
              · refine ⟨_, .bool b, hk, Rel.of_sc .., fun w' => ?_⟩
                simp only [Sem.run_bind, run_eqGuard_agg w' _ t ox oy vx vy hc.2, Result.andThen, run_eql_struct, hq, dv, hd]
              · refine ⟨_, .bool (!b), hk, Rel.of_sc .., fun w' => ?_⟩
                simp only [Sem.run_bind, run_eqGuard_agg w' _ t ox oy vx vy hc.2, Result.andThen, run_neq_struct, hq, dv, hd]
              · exact hk.elim
            split at hk
            · refine ⟨_, _, hk, Rel.of_sy .., fun w' => ?_⟩
              simp only [Sem.run_bind, run_eqGuard_agg w' _ t ox oy vx vy hc.2, Result.andThen, run_eql_struct, hq]
              rfl
            · refine ⟨_, _, hk, Rel.of_sy .., fun w' => ?_⟩
              simp only [Sem.run_bind, run_eqGuard_agg w' _ t ox oy vx vy hc.2, Result.andThen, run_neq_struct, hq]
              rfl
            · exact hk.elim
      · cases h
    · cases h
  · cases h
end
end Go.Proofs.Ytgpijioodocplaa
