/- The fast evaluator tells what the evaluator tells: operations. -/
import Derived.Test.YtgpijioodocplaaSyFastOk
set_option linter.unusedVariables false
set_option linter.unusedSectionVars false
set_option linter.unusedSimpArgs false
namespace Go.Proofs.Ytgpijioodocplaa
open Go Go.RowKit

/-! ### what a value is -/
theorem vNum_cases (v : AV) : (∃ kx n, v = .tc (.sc (.int kx n)) ∧ ∀ f g z, vNum v f g z = f kx n) ∨ (∃ kx e, v = .tc (.sy (.int kx) e) ∧ ∀ f g z, vNum v f g z = g kx e) ∨ (∀ f g z, vNum v f g z = z) := by
  cases v with
  | tc c =>
    cases c with
    | sc u =>
      cases u
      case int kx n => exact .inl ⟨kx, n, rfl, fun _ _ _ => rfl⟩
      all_goals exact .inr (.inr fun _ _ _ => rfl)
    | sl s el => exact .inr (.inr fun _ _ _ => rfl)
    | sy t e =>
      cases t
      case int kx => exact .inr (.inl ⟨kx, e, rfl, fun _ _ _ => rfl⟩)
      all_goals exact .inr (.inr fun _ _ _ => rfl)
  | _ => exact .inr (.inr fun _ _ _ => rfl)

theorem condF_eq (v : AV) (x y : Out) : condF v x y = condA v x y := by
  cases v with
  | tc c =>
    cases c with
    | sc u =>
      cases u
      case bool b => cases b <;> rfl
      all_goals rfl
    | sl s el => rfl
    | sy t e => cases t <;> rfl
  | _ => rfl

theorem tcB_eq (v : AV) : tcB v = isTC v := by cases v <;> rfl
theorem allB_eq {α : Type} {p q : α → Bool} (h : ∀ a, p a = q a) : ∀ (l : List α), allB p l = l.all q
  | [] => rfl
  | a :: r => by
    show @Bool.rec (fun _ => Bool) false (allB p r) (p a) = _
    rw [allB_eq h r, h a, List.all_cons]
    cases q a <;> rfl
theorem treeF_eq (v : AV) : treeF v = isTree v := by
  cases v with
  | agg cs => exact allB_eq tcB_eq cs
  | _ => rfl

theorem mapO_self {α : Type} {f : α → Option α} : ∀ {l : List α}, (∀ a ∈ l, f a = some a) → mapO f l = some l
  | [], _ => rfl
  | a :: r, h => by simp only [mapO, h a (List.mem_cons_self ..), mapO_self fun b hb => h b (List.mem_cons_of_mem _ hb)]

theorem fz_tcs (H : Heap) : ∀ (cs : List AV), cs.all isTC = true → ∃ l, mapO (fz H 8) cs = some l ∧ tcs l = cs
  | [], _ => ⟨[], rfl, rfl⟩
  | c :: r, h => by
    simp only [List.all_cons, Bool.and_eq_true] at h
    obtain ⟨l, h1, h2⟩ := fz_tcs H r h.2
    cases c with
    | tc c => exact ⟨c :: l, by simp only [mapO, fz, h1], by simp only [tcs, List.map_cons, ← h2]⟩
    | _ => simp [isTC] at h

theorem fzA_tree (H : Heap) (v : AV) (h : isTree v = true) : fzA H v = some v := by
  cases v with
  | tc c => rfl
  | any => rfl
  | vptr => rfl
  | agg cs =>
    obtain ⟨l, h1, h2⟩ := fz_tcs H cs h
    simp only [fzA, h1, Option.map_some, h2]
  | _ => simp [isTree] at h

theorem fzF_eq (v : AV) (H : Heap) (k : AV → Out) : fzF v H k = match fzR H v with | some t => k t | none => .fail := by
  have slow : slowFz v H k = match fzR H v with | some t => k t | none => .fail := rfl
  cases v with
  | agg cs =>
    show @Bool.rec (fun _ => Out) (slowFz (.agg cs) H k) (k (.agg cs)) (allB tcB cs) = _
    cases h : allB tcB cs with
    | false => exact slow
    | true =>
      rw [allB_eq tcB_eq] at h
      simp only [fzR, fzA_tree H (.agg cs) h]
  | tuple vs =>
    show @Bool.rec (fun _ => Out) (slowFz (.tuple vs) H k) (k (.tuple vs)) (allB treeF vs) = _
    cases h : allB treeF vs with
    | false => exact slow
    | true =>
      rw [allB_eq treeF_eq, List.all_eq_true] at h
      simp only [fzR, mapO_self fun a ha => fzA_tree H a (h a ha), Option.map_some]
  | _ => first | rfl | exact slow

theorem mapL_eq {α β : Type} (f : α → β) : ∀ (l : List α), mapL f l = l.map f
  | [] => rfl
  | a :: r => by show f a :: mapL f r = _; rw [mapL_eq f r]; rfl

theorem span_whole {α : Type} (row : List α) (size : Nat) (h : row.length = size) : span row 0 size = some row := by
  unfold span
  simp [← h]

theorem ldRow_eq {α : Type} (f1 : α → AV) (t : TI) (row : List α) (f : Nat) (H : Heap) (k : KV) : ldRow f1 t.agg t.size row f H k = (match t.agg with
    | true => match span row f t.size with | some r => k (.agg (r.map f1)) H | none => .fail
    | false => match row[f]? with | some c => k (f1 c) H | none => .fail) := by
  unfold ldRow
  cases t.agg with
  | true =>
    refine beq_rec (fun h1 => beq_rec (fun h2 => ?_) fun _ => rfl) fun _ => rfl
    rw [lenL_eq] at h2
    subst h1
    rw [span_whole row t.size h2, mapL_eq]
  | false => exact nthL_eq ..

theorem beq_dec (a b : Nat) : Nat.beq a b = decide (a = b) := by
  rw [Bool.eq_iff_iff]; simp

theorem ldV_eq (t : TI) (v : AV) (H : Heap) (k : KV) : ldV v t.agg t.size H k = loadA H t v fun r => k r H := by
  cases v with
  | ptr o s i f ver =>
    show nthL H o (fun obj => ldObj obj t.agg t.size s i f ver H k) .fail = _
    rw [nthL_eq]
    simp only [loadA]
    split
    · rename_i obj ho
      rw [ho]
      cases obj with
      | tcells s' el =>
        show @Bool.rec (fun _ => Out) .fail (@Bool.rec (fun _ => Out) .fail (nthL el i (fun row => ldRow .tc t.agg t.size row f H k) .fail) (Nat.beq ver (lenL el))) (Nat.beq s' s) = _
        rw [lenL_eq, beq_dec, beq_dec, nthL_eq]
        simp only [ldRow_eq]
        cases decide (s' = s) <;> cases decide (ver = el.length) <;> try rfl
        simp only [Bool.and_true, cond_true]
        cases el[i]? with
        | none => rfl
        | some row => cases t.agg with
          | true => cases hsp : span row f t.size <;> simp only [hsp] <;> rfl
          | false => cases hsp : row[f]? <;> simp only [hsp]
      | cells s' el =>
        show @Bool.rec (fun _ => Out) .fail (@Bool.rec (fun _ => Out) .fail (nthL el i (fun row => ldRow (fun c => c) t.agg t.size row f H k) .fail) (Nat.beq ver (lenL el))) (Nat.beq s' s) = _
        rw [lenL_eq, beq_dec, beq_dec, nthL_eq]
        simp only [ldRow_eq]
        cases decide (s' = s) <;> cases decide (ver = el.length) <;> try rfl
        simp only [Bool.and_true, cond_true, List.map_id']
        cases el[i]? with
        | none => rfl
        | some row => cases t.agg with
          | true => cases hsp : span row f t.size <;> simp only [hsp] <;> rfl
          | false => cases hsp : row[f]? <;> simp only [hsp]
      | map es => rfl
    · rename_i ho
      rw [ho]
  | vptr s el i f =>
    show nthL el i (fun row => ldRow .tc t.agg t.size row f H k) .fail = _
    rw [nthL_eq]
    simp only [ldRow_eq, loadA]
    cases el[i]? with
    | none => rfl
    | some row => cases t.agg with
      | true => cases hsp : span row f t.size <;> simp only [hsp] <;> rfl
      | false => cases hsp : row[f]? <;> simp only [hsp]
  | _ => rfl

theorem vlCell_eq (u : Value) : vlCell u = cellOk (.tc (.sc u)) := by cases u <;> rfl

theorem tcCell_eq (c : TC) : tcCell c = cellOk (.tc c) := by
  cases c with
  | sc u => exact vlCell_eq u
  | _ => rfl

theorem okCell_eq (v : AV) : okCell v = cellOk v := by
  cases v with
  | tc c => exact tcCell_eq c
  | _ => rfl

theorem cells_tc {c : TC} (h : cellOk (.tc c) = true) : cellsOfA (.tc c) = some [.tc c] := by
  cases c with
  | sc u => cases u <;> first | rfl | (simp [cellOk] at h)
  | _ => rfl

theorem cellsF_eq {v : AV} {kt : TC → Out} {ka : AV → Out} {kl : List AV → Out} {z : Out} (h1 : ∀ c, v = .tc c → cellOk v = true → cellsOfA v = some [v] → kt c = z)
    (h2 : cellOk v = true → asTC [v] = none → cellsOfA v = some [v] → ka v = z) (h3 : ∀ cs, v = .agg cs → cellsOfA v = some cs → kl cs = z) : cellsF v kt ka kl z = z := by
  cases v with
  | tc c =>
    show @Bool.rec (fun _ => Out) z (kt c) (tcCell c) = z
    cases h : tcCell c with
    | false => rfl
    | true =>
      have hc : cellOk (.tc c) = true := by rw [← tcCell_eq]; exact h
      exact h1 c rfl hc (cells_tc hc)
  | any => rfl
  | agg cs => exact h3 cs rfl rfl
  | tuple => rfl
  | _ => exact h2 rfl rfl rfl

theorem setSpan_one {α : Type} (l : List α) (f : Nat) (x : α) (h : f < l.length) : setSpan l f [x] = l.set f x := by
  unfold setSpan
  rw [List.set_eq_take_append_cons_drop, if_pos h]
  simp

theorem setSpan_whole {α : Type} (l cs : List α) (h : l.length = cs.length) : setSpan l 0 cs = cs := by
  unfold setSpan
  simp [← h]

theorem asTCK_eq : ∀ (cs : List AV) {kt : List TC → Out} {z : Out}, (asTCK cs kt z = z ∧ asTC cs = none) ∨ ∃ l, asTC cs = some l ∧ asTCK cs kt z = kt l
  | [], kt, z => .inr ⟨[], rfl, rfl⟩
  | v :: r, kt, z => by
    cases v with
    | tc c =>
      rcases asTCK_eq r (kt := fun l => kt (c :: l)) (z := z) with ⟨h1, h2⟩ | ⟨l, h1, h2⟩
      · exact .inl ⟨h1, by simp [asTC, h2]⟩
      · exact .inr ⟨c :: l, by simp [asTC, h1], h2⟩
    | _ => exact .inl ⟨rfl, rfl⟩

theorem rowsTCK_eq : ∀ (rows : List (List AV)) {kt : List (List TC) → Out} {z : Out}, (rowsTCK rows kt z = z ∧ mapO asTC rows = none) ∨ ∃ l, mapO asTC rows = some l ∧ rowsTCK rows kt z = kt l
  | [], kt, z => .inr ⟨[], rfl, rfl⟩
  | r :: rows, kt, z => by
    rcases asTCK_eq r (kt := fun c => rowsTCK rows (fun l => kt (c :: l)) z) (z := z) with ⟨h1, h2⟩ | ⟨c, h1, h2⟩
    · exact .inl ⟨h1, by simp [mapO, h2]⟩
    · rcases rowsTCK_eq rows (kt := fun l => kt (c :: l)) (z := z) with ⟨h3, h4⟩ | ⟨l, h3, h4⟩
      · exact .inl ⟨h2.trans h3, by simp [mapO, h4]⟩
      · exact .inr ⟨c :: l, by simp [mapO, h1, h3], h2.trans h4⟩

theorem newObj_eq (s : Nat) (rows : List (List AV)) (k : AObj → Out) : newObj s rows k = k (newCells s rows) := by
  unfold newObj newCells
  rcases rowsTCK_eq rows (kt := fun t => k (.tcells s t)) (z := k (.cells s rows)) with ⟨h1, h2⟩ | ⟨l, h1, h2⟩
  · rw [h1, h2]
  · rw [h2, h1]

theorem stV_eq {t : TI} (a v : AV) (H : Heap) (k : KV) : stV a v t.size H k (storeA t a v H fun H' => k undefA H') = storeA t a v H fun H' => k undefA H' := by
  cases a with
  | ptr o s i f ver =>
    show nthL H o (fun obj => stObj obj v t.size o s i f ver H k _) _ = _
    rw [nthL_eq]
    split
    · rename_i obj ho
      cases obj with
      | tcells s' el =>
        refine beq_rec (fun h1 => beq_rec (fun h2 => ?_) fun _ => rfl) fun _ => rfl
        rw [nthL_eq]
        split
        · rename_i row hr
          rw [lenL_eq] at h2
          subst h1
          refine cellsF_eq (fun c hc hok hcs => blt_rec (fun h3 => beq_rec (fun ht => ?_) fun _ => rfl) fun _ => rfl) (fun _ _ _ => rfl)
            (fun cs hc hcs => beq_rec (fun h0 => beq_rec (fun h3 => beq_rec (fun h4 => ?_) fun _ => rfl) fun _ => rfl) fun _ => rfl)
          · subst hc
            rw [lenL_eq] at h3
            simp only [storeA, hcs, ho, h2, List.length_singleton, ht, decide_true, Bool.and_self, List.all_cons, hok, List.all_nil, cond_true, hr, show f + 1 ≤ row.length from h3, asTC, Option.map_some, setSpan_one _ _ _ h3, setL_eq]
          · subst hc; subst h0
            rw [lenL_eq] at h3 h4
            cases hall : allB okCell cs with
            | false => rfl
            | true =>
              show asTCK cs _ _ = _
              rw [allB_eq okCell_eq] at hall
              rcases asTCK_eq cs (kt := fun c => k undefA (setL H o (.tcells s' (setL el i c)))) (z := storeA t (.ptr o s' i 0 ver) (.agg cs) H fun H' => k undefA H') with ⟨g1, g2⟩ | ⟨l, g1, g2⟩
              · exact g1
              · rw [g2]
                have hl : l.length = cs.length := by
                  clear g2 h3 h4 hall hcs
                  induction cs generalizing l with
                  | nil => simp only [asTC, Option.some.injEq] at g1; subst g1; rfl
                  | cons v cs ih =>
                    cases v with
                    | tc c =>
                      simp only [asTC] at g1
                      cases hq : asTC cs with
                      | none => rw [hq] at g1; simp at g1
                      | some q => rw [hq] at g1; simp only [Option.map_some, Option.some.injEq] at g1; subst g1; simp [ih q hq]
                    | _ => simp [asTC] at g1
                simp only [storeA, hcs, ho, h2, h3, decide_true, Bool.and_self, hall, cond_true, hr, Nat.zero_add, h4, Nat.le_refl, g1, setL_eq]
                rw [setSpan_whole _ _ (by rw [hl, h3, h4])]
        · rfl
      | cells s' el =>
        refine beq_rec (fun h1 => beq_rec (fun h2 => ?_) fun _ => rfl) fun _ => rfl
        rw [nthL_eq]
        split
        · rename_i row hr
          rw [lenL_eq] at h2
          subst h1
          refine cellsF_eq (fun c hc hok hcs => blt_rec (fun h3 => beq_rec (fun ht => ?_) fun _ => rfl) fun _ => rfl) (fun hok hn hcs => blt_rec (fun h3 => beq_rec (fun ht => ?_) fun _ => rfl) fun _ => rfl)
            (fun cs hc hcs => beq_rec (fun h0 => beq_rec (fun h3 => beq_rec (fun h4 => ?_) fun _ => rfl) fun _ => rfl) fun _ => rfl)
          · subst hc
            rw [lenL_eq] at h3
            simp only [storeA, hcs, ho, h2, List.length_singleton, ht, decide_true, Bool.and_self, List.all_cons, hok, List.all_nil, cond_true, hr, show f + 1 ≤ row.length from h3, setSpan_one _ _ _ h3, setL_eq]
          · rw [lenL_eq] at h3
            simp only [storeA, hcs, ho, h2, List.length_singleton, ht, decide_true, Bool.and_self, List.all_cons, hok, List.all_nil, cond_true, hr, show f + 1 ≤ row.length from h3, setSpan_one _ _ _ h3, setL_eq]
          · subst hc; subst h0
            rw [lenL_eq] at h3 h4
            cases hall : allB okCell cs with
            | false => rfl
            | true =>
              rw [allB_eq okCell_eq] at hall
              show k undefA _ = _
              simp only [storeA, hcs, ho, h2, h3, decide_true, Bool.and_self, hall, cond_true, hr, Nat.zero_add, h4, Nat.le_refl, setL_eq]
              rw [setSpan_whole _ _ (by rw [h3, h4])]
        · rfl
      | map es => rfl
    · rfl
  | _ => rfl

theorem exV_eq (v : AV) (i : Nat) (k : AV → Out) : exV v i k = match v with | .tuple vs => (match vs[i]? with | some v => k v | none => .fail) | _ => .fail := by
  cases v with
  | tuple vs =>
    show nthL vs i k .fail = _
    rw [nthL_eq]
    cases hsp : vs[i]? <;> simp only [hsp]
  | _ => rfl

theorem lenV_eq {v : AV} {k : AV → Out} {z : Out} (hs : ∀ u, v = .tc (.sc u) → z = z) (h : (∀ u, v ≠ .tc (.sc u)) → (∀ t e, v ≠ .tc (.sy t e)) → z = lenA v k) : lenV v k z = z := by
  cases v with
  | tc c =>
    cases c with
    | sl s el =>
      rw [h (by simp) (by simp)]
      show k _ = lenA _ _
      rw [lenL_eq]; rfl
    | _ => rfl
  | slice o s i len cap ex ver =>
    rw [h (by simp) (by simp)]; rfl
  | _ => rfl

theorem iaV_eq {t : TI} {et : TI} {e : TypeId} (ht : t.under = .slice e) {v idx : AV} {kk : IntKind} {n : Int} {k : AV → Out} (hi : idx = .tc (.sc (.int kk n))) :
    iaV v et.size n k (indexA t (some et) v idx k) = indexA t (some et) v idx k := by
  subst hi
  cases n with
  | ofNat m =>
    cases v with
    | tc c =>
      cases c with
      | sl s el =>
        show @Bool.rec (fun _ => Out) _ (@Bool.rec (fun _ => Out) _ (k (.vptr s el m 0)) (Nat.blt m (lenL el))) (Nat.beq et.size s) = _
        refine beq_rec (fun h1 => blt_rec (fun h2 => ?_) fun _ => rfl) fun _ => rfl
        rw [lenL_eq] at h2
        have h0 : (0 : Int) ≤ Int.ofNat m := Int.natCast_nonneg m
        have h3 : Int.ofNat m < (el.length : Int) := by show (m : Int) < _; omega
        simp only [indexA, ht, withIdx, h0, h3, h1, decide_true, Bool.and_self, cond_true]
        rfl
      | _ => rfl
    | slice o s i len cap ex ver =>
      show @Bool.rec (fun _ => Out) _ (@Bool.rec (fun _ => Out) _ (k (.ptr o s (Nat.add i m) 0 ver)) (Nat.blt m len)) (Nat.beq et.size s) = _
      refine beq_rec (fun h1 => blt_rec (fun h2 => ?_) fun _ => rfl) fun _ => rfl
      have h0 : (0 : Int) ≤ Int.ofNat m := Int.natCast_nonneg m
      have h3 : Int.ofNat m < (len : Int) := by show (m : Int) < _; omega
      simp only [indexA, ht, withIdx, h0, h3, h1, decide_true, Bool.and_self, cond_true]
      rfl
    | _ => rfl
  | negSucc m =>
    cases v with
    | tc c => cases c <;> rfl
    | _ => rfl

theorem guardF_eq {ops : Array Oper} {o : Oper} {T : Look} {j c : Nat} {w : Bool} {yes no : Out} (hg : o.guard = some (j, w)) (hc : (ops[j]?).bind (·.dst) = some c) :
    guardF (T c) w yes no = match wantedA ops o T with | none => .fail | some g => guardA g yes no := by
  simp only [wantedA, hg, hc]
  generalize T c = v
  cases v with
  | tc x =>
    cases x with
    | sc u =>
      cases u
      case bool b => cases b <;> cases w <;> rfl
      all_goals rfl
    | sl s el => rfl
    | sy t e => cases t <;> cases w <;> rfl
  | _ => rfl

/-! ### operations -/
theorem eqGuard_pure {P : Program} {op : BinOp} {t : TypeId} {x y : Operand} {kx ky : IntKind} {a b : Int} : pureRun P (eqGuard op t x y (.int kx a) (.int ky b)) = some () := by
  cases op <;> rfl

section
variable {C : Ctx} {call : Caller} {T : Look} {H : Heap}

theorem genOp_int {o : Oper} {op : BinOp} {t ty : TypeId} {x y : Operand} {kx ky : IntKind} {a b : Int} {v : Value} {k : AV → Out} (ho : o.op = .binOp op t x y ty) (hx : ev C T x = .tc (.sc (.int kx a))) (hy : ev C T y = .tc (.sc (.int ky b)))
    (hp : IsPure op kx a ky b v) (hv : ofRes v = .tc (.sc v)) : genOp C o T k = k (.tc (.sc v)) := by
  have e1 : mapO (fun x => toVal (ev C T x)) o.op.operands.toList = some [.int kx a, .int ky b] := by
    rw [ho]
    simp only [Op.operands, mapO, hx, hy, toVal]
  have e2 : pureRun C.P (execOp (fun x => (toVal (ev C T x)).getD undef) o) = some (.value v) := by
    unfold execOp
    rw [ho]
    simp only [hx, hy, toVal, Option.getD_some]
    rw [pureRun_bind, pureRun_bind, eqGuard_pure]
    simp only [Option.bind_some, hp t]
    rfl
  unfold genOp
  rw [e1, e2]
  show k (ofRes v) = _
  rw [hv]

end
end Go.Proofs.Ytgpijioodocplaa
