/- The fast evaluator tells what the evaluator tells: regions, code, calls. -/
import Derived.Test.YtgpijioodocplaaSyFastOk3
import Derived.Test.YtgpijioodocplaaSyEnv
set_option linter.unusedVariables false
set_option linter.unusedSectionVars false
set_option linter.unusedSimpArgs false
namespace Go.Proofs.Ytgpijioodocplaa
open Go Go.RowKit

section
variable {σ : Type} {E : EnvO σ} (hE : EnvOk E) {C : Ctx} {m : Nat} {call : Caller}

theorem putL_zero {β : Type} (T : Tmps) (dst : Option Tmp) (v : AV) (k : Lc → Tmps → β) : putL 0 .nil T dst v k = k .nil (put T dst v) := by
  cases dst with
  | none => rfl
  | some t =>
    simp only [putL, isLoc, Nat.zero_testBit, _root_.cond_false, setK_eq, put]

theorem aopF_eq2 {o : Oper} {T : Look} {H : Heap} {k : AV → Heap → Out} : aopF C call o T H k = aop C call o T H k := rfl

theorem lk_nil (T : Tmps) : lk .nil T = getL T := rfl

theorem put_len (T : Tmps) (dst : Option Tmp) (v : AV) : (put T dst v).length = T.length := by
  cases dst <;> simp [put]

include hE in
theorem cD_some {dst : Option Tmp} {p : AV → σ → σ} {T : Tmps} {v : AV} (hm : T.length = m) (hd : m ≤ E.cap) (h : cD E m dst = some p) : p v (E.enc (getL T)) = E.enc (getL (put T dst v)) := by
  cases dst with
  | none => simp [cD] at h
  | some t =>
    simp only [cD] at h
    cases hb : Nat.blt t m with
    | false => rw [hb] at h; simp at h
    | true =>
      rw [hb] at h
      simp only [cond_true, Option.some.injEq] at h
      subst h
      have ht : Nat.lt t m := by simpa [Nat.blt_eq] using hb
      exact enc_set hE (by rw [hm]; exact ht) (by omega)

theorem cD_none {dst : Option Tmp} {T : Tmps} {v : AV} (hm : T.length = m) (h : cD E m dst = none) : put T dst v = T := by
  cases dst with
  | none => rfl
  | some t =>
    simp only [cD] at h
    cases hb : Nat.blt t m with
    | true => rw [hb] at h; simp at h
    | false =>
      have ht : ¬ Nat.lt t m := fun hh => by
        have : Nat.blt t m = true := by simpa [Nat.blt_eq] using hh
        rw [hb] at this; cases this
      simp only [put]
      exact List.set_eq_of_length_le (by rw [hm]; exact Nat.not_lt.1 ht)

include hE in
theorem fRow_ok {ops : Array Oper} {Kf : σ → Heap → Out} {K : Tmps → Heap → Out} (hd : m ≤ E.cap) (hK : ∀ T H, T.length = m → Kf (E.enc (getL T)) H = K T H) :
    ∀ (l : List Oper) {T : Tmps} {H : Heap}, T.length = m → fRow (l.map (cI E (baseOf C) m ops)) ⟨C, call⟩ (E.enc (getL T)) H Kf = aops C call 0 ops l .nil T H K
  | [], T, H, hm => hK T H hm
  | o :: l, T, H, hm => by
    have ih := @fRow_ok ops Kf K hd hK l
    have hdT : T.length ≤ E.cap := by omega
    show fI (cI E (baseOf C) m ops o) (fRow (l.map (cI E (baseOf C) m ops))) ⟨C, call⟩ (E.enc (getL T)) H Kf = _
    simp only [aops, aopF_eq2, lk_nil, putL_zero]
    have step : ∀ (v : AV) (H' : Heap), (fun (T : Tmps) => aops C call 0 ops l .nil T H' K) (put T o.dst v) = fRow (l.map (cI E (baseOf C) m ops)) ⟨C, call⟩ (E.enc (getL (put T o.dst v))) H' Kf := fun v H' => (ih (by rw [put_len]; exact hm)).symm
    simp only at step
    simp only [step]
    cases hg : o.guard with
    | none =>
      simp only [wantedA, hg, cI]
      cases hc : cD E m o.dst with
      | some p =>
        show fA (compA E (baseOf C) o) ⟨C, call⟩ (E.enc (getL T)) H (fun v H' => fRow (l.map (cI E (baseOf C) m ops)) ⟨C, call⟩ (p v (E.enc (getL T))) H' Kf) = aop C call o (getL T) H _
        rw [compA_ok hE hdT]
        simp only [cD_some hE hm hd hc]
      | none =>
        show fA (compA E (baseOf C) o) ⟨C, call⟩ (E.enc (getL T)) H (fun _ H' => fRow (l.map (cI E (baseOf C) m ops)) ⟨C, call⟩ (E.enc (getL T)) H' Kf) = aop C call o (getL T) H _
        rw [compA_ok hE hdT]
        simp only [cD_none hm hc]
    | some jw =>
      obtain ⟨j, w⟩ := jw
      cases hj : (ops[j]?).bind (·.dst) with
      | none =>
        simp only [wantedA, hg, cI, hj]
        cases hc : cD E m o.dst with
        | some p =>
          show fRow (l.map (cI E (baseOf C) m ops)) ⟨C, call⟩ (p undefA (E.enc (getL T))) H Kf = fRow _ _ _ H Kf
          rw [cD_some hE hm hd hc]
        | none =>
          show fRow (l.map (cI E (baseOf C) m ops)) ⟨C, call⟩ (E.enc (getL T)) H Kf = fRow _ _ _ H Kf
          rw [cD_none hm hc]
      | some c =>
        have gf := fun yes no => guardF_eq (ops := ops) (o := o) (T := getL T) (c := c) (yes := yes) (no := no) hg hj
        have fin : ∀ {x yes no : Out}, x = guardF (getL T c) w yes no → x = match wantedA ops o (getL T) with | none => .fail | some g => guardA g yes no := fun h => h.trans (gf _ _)
        have ec : cO E (baseOf C) (.tmp c) (E.enc (getL T)) = getL T c := evF_cO hE hdT (.tmp c)
        simp only [cI, hg, hj]
        cases hc : cD E m o.dst with
        | some p =>
          have key : fI (FI.gp (cO E (baseOf C) (.tmp c)) w (compA E (baseOf C) o) p) (fRow (l.map (cI E (baseOf C) m ops))) ⟨C, call⟩ (E.enc (getL T)) H Kf =
              guardF (getL T c) w (aop C call o (getL T) H fun v H' => fRow (l.map (cI E (baseOf C) m ops)) ⟨C, call⟩ (E.enc (getL (put T o.dst v))) H' Kf) (fRow (l.map (cI E (baseOf C) m ops)) ⟨C, call⟩ (E.enc (getL (put T o.dst undefA))) H Kf) := by
            show guardF (cO E (baseOf C) (.tmp c) (E.enc (getL T))) w (fA (compA E (baseOf C) o) ⟨C, call⟩ (E.enc (getL T)) H (fun v H' => fRow (l.map (cI E (baseOf C) m ops)) ⟨C, call⟩ (p v (E.enc (getL T))) H' Kf)) (fRow (l.map (cI E (baseOf C) m ops)) ⟨C, call⟩ (p undefA (E.enc (getL T))) H Kf) = _
            rw [compA_ok hE hdT, ec]
            simp only [cD_some hE hm hd hc]
          rw [key, gf]
          cases wantedA ops o (getL T) <;> rfl
        | none =>
          have key : fI (FI.gn (cO E (baseOf C) (.tmp c)) w (compA E (baseOf C) o)) (fRow (l.map (cI E (baseOf C) m ops))) ⟨C, call⟩ (E.enc (getL T)) H Kf =
              guardF (getL T c) w (aop C call o (getL T) H fun v H' => fRow (l.map (cI E (baseOf C) m ops)) ⟨C, call⟩ (E.enc (getL (put T o.dst v))) H' Kf) (fRow (l.map (cI E (baseOf C) m ops)) ⟨C, call⟩ (E.enc (getL (put T o.dst undefA))) H Kf) := by
            show guardF (cO E (baseOf C) (.tmp c) (E.enc (getL T))) w (fA (compA E (baseOf C) o) ⟨C, call⟩ (E.enc (getL T)) H (fun _ H' => fRow (l.map (cI E (baseOf C) m ops)) ⟨C, call⟩ (E.enc (getL T)) H' Kf)) (fRow (l.map (cI E (baseOf C) m ops)) ⟨C, call⟩ (E.enc (getL T)) H Kf) = _
            rw [compA_ok hE hdT, ec]
            simp only [cD_none hm hc]
          rw [key, gf]
          cases wantedA ops o (getL T) <;> rfl

theorem runD_congr {ops : Array Oper} : ∀ (l : List Oper) {T : Tmps} {H : Heap} {ks : List Kd} {hs : List Heap} {K K' : Tmps → List Kd → List Heap → Out}, (∀ T', T'.length = T.length → K T' = K' T') →
    runD C call ops l T H ks hs K = runD C call ops l T H ks hs K'
  | [], T, H, ks, hs, K, K', h => by simp only [runD]; rw [h T rfl]
  | o :: l, T, H, ks, hs, K, K', h => by
    simp only [runD, putK_eq]
    have st : ∀ (v : AV) (H' : Heap) (ks' : List Kd) (hs' : List Heap), runD C call ops l (put T o.dst v) H' ks' hs' K = runD C call ops l (put T o.dst v) H' ks' hs' K' := fun v H' ks' hs' => runD_congr l fun T' hT' => h T' (by rw [hT', put_len])
    simp only [st]

theorem aopsD_congr {M : Nat} {ops : Array Oper} {T : Tmps} {H : Heap} {K K' : Tmps → Heap → Out} (h : ∀ T', T'.length = T.length → K T' = K' T') : aopsD C call M ops T H K = aopsD C call M ops T H K' := by
  unfold aopsD
  congr 1
  exact runD_congr _ fun T' hT' => by funext ks hs; rw [h T' hT']

include hE in
theorem gdF_eq {ops : Array Oper} {o : Oper} {T : Tmps} (hdT : T.length ≤ E.cap) {yes no : Out} : gdF (cG E (baseOf C) ops o) (E.enc (getL T)) yes no = match wantedA ops o (getL T) with | none => .fail | some g => guardA g yes no := by
  unfold cG
  cases hg : o.guard with
  | none => simp only [wantedA, hg]; rfl
  | some jw =>
    obtain ⟨j, w⟩ := jw
    simp only []
    cases hj : (ops[j]?).bind (·.dst) with
    | none => simp only [wantedA, hg, hj]; rfl
    | some c =>
      show guardF (cO E (baseOf C) (.tmp c) (E.enc (getL T))) w yes no = _
      rw [evF_cO hE hdT]
      have := guardF_eq (ops := ops) (o := o) (T := getL T) (c := c) (yes := yes) (no := no) hg hj
      exact this.trans (by cases wantedA ops o (getL T) <;> rfl)

include hE in
theorem quF_eq {o : Oper} {T : Tmps} (hdT : T.length ≤ E.cap) {x y : Out} : quF (cQ E (baseOf C) o) ⟨C, call⟩ (E.enc (getL T)) x y = cond (quietO C o (getL T)) x y := by
  obtain ⟨dst0, op0, type0, pos0, after0, guard0⟩ := o
  cases op0
  case call c =>
    obtain ⟨callee, args, ats⟩ := c
    cases callee with
    | value f =>
      cases f with
      | func f =>
        show @Bool.rec (fun _ => Out) y (@Bool.rec (fun _ => Out) y x (allB treeF (evs (args.toList.map (cO E (baseOf C))) (E.enc (getL T))))) (C.pure f) = _
        rw [evs_cO hE hdT, allB_eq treeF_eq]
        simp only [quietO, ev, target, scs, Array.toList_empty, List.map_nil, List.nil_append, List.append_nil]
        cases C.pure f <;> cases (args.toList.map (ev C (getL T))).all isTree <;> rfl
      | _ =>
        show cond (quietO C _ (E.look (E.enc (getL T)))) x y = _
        rw [look_enc hE hdT]
    | invoke r m => rfl
    | builtin b => cases b <;> rfl
  all_goals rfl

include hE in
theorem dsF_eq {o : Oper} {T : Tmps} {v : AV} (hm : T.length = m) (hd : m ≤ E.cap) : dsF (cD E m o.dst) v (E.enc (getL T)) = E.enc (getL (put T o.dst v)) := by
  cases hc : cD E m o.dst with
  | some p => exact cD_some hE hm hd hc
  | none => rw [cD_none hm hc]; rfl

include hE in
theorem compQ_ok {T : Tmps} {H : Heap} (hd : T.length ≤ E.cap) (o : Oper) {k : AV → Heap → Out} : fA (compQ E (baseOf C) o) ⟨C, call⟩ (E.enc (getL T)) H (fun v _ => k v H) = aopQ C call o (getL T) H fun v => k v H := by
  have gen := compA_ok hE (C := C) (call := call) (H := H) (k := fun v _ => k v H) hd o
  obtain ⟨dst0, op0, type0, pos0, after0, guard0⟩ := o
  cases op0
  case buildSlice t n ps =>
    simp only [compQ, cBt, tinfo_base]
    cases ht : tinfo C t with
    | none => simp only [aopQ, ht]; rfl
    | some ti =>
      simp only []
      cases hu : ti.under
      case slice e =>
        simp only []
        cases he : tinfo C e with
        | none => simp only [aopQ, ht, buildTreeA, hu, he]; rfl
        | some et =>
          simp only []
          cases hz : zeroCellsA et with
          | none => simp only [aopQ, ht, buildTreeA, hu, he, hz]; rfl
          | some z =>
            simp only []
            cases hc : (decide (n * et.size ≤ 2 ^ 24) && decide (et.size ≠ 0) && decide (z.length = et.size) && (tcs z).all cellOk) with
            | false => simp only [aopQ, ht, buildTreeA, hu, he, hz, hc]; rfl
            | true => exact fBt_ok hE (k := fun v _ => k v H) hd rfl ht hu he hz hc
      all_goals (simp only [aopQ, ht, buildTreeA, hu]; rfl)
  all_goals exact gen

include hE in
theorem qRow_ok {ops : Array Oper} {Kf : σ → List Kd → List Heap → Out} {K : Tmps → List Kd → List Heap → Out} (hd : m ≤ E.cap) (hK : ∀ T ks hs, T.length = m → nLoud ks + 1 = hs.length → Kf (E.enc (getL T)) ks hs = K T ks hs) :
    ∀ (l : List Oper) {T : Tmps} {H : Heap} {ks : List Kd} {hs : List Heap}, T.length = m → nLoud ks = hs.length → qRow (l.map (cQI E (baseOf C) m ops)) ⟨C, call⟩ (E.enc (getL T)) H ks hs Kf = runD C call ops l T H ks hs K
  | [], T, H, ks, hs, hm, hn => hK T ks (H :: hs) hm (by rw [hn]; rfl)
  | o :: l, T, H, ks, hs, hm, hn => by
    have ih := @qRow_ok ops Kf K hd hK l
    have hdT : T.length ≤ E.cap := by omega
    show gdF (cG E (baseOf C) ops o) (E.enc (getL T)) (quF (cQ E (baseOf C) o) ⟨C, call⟩ (E.enc (getL T))
      (fA (compQ E (baseOf C) o) ⟨C, call⟩ (E.enc (getL T)) H fun v _ => qRow (l.map (cQI E (baseOf C) m ops)) ⟨C, call⟩ (dsF (cD E m o.dst) v (E.enc (getL T))) H (.quiet :: ks) hs Kf)
      (fA (compA E (baseOf C) o) ⟨C, call⟩ (E.enc (getL T)) H fun v H' => qRow (l.map (cQI E (baseOf C) m ops)) ⟨C, call⟩ (dsF (cD E m o.dst) v (E.enc (getL T))) H' (.loud (nLoud ks) :: ks) (H :: hs) Kf))
      (qRow (l.map (cQI E (baseOf C) m ops)) ⟨C, call⟩ (dsF (cD E m o.dst) undefA (E.enc (getL T))) H (.no :: ks) hs Kf) = _
    have stq : ∀ (v : AV), qRow (l.map (cQI E (baseOf C) m ops)) ⟨C, call⟩ (E.enc (getL (put T o.dst v))) H (.quiet :: ks) hs Kf = runD C call ops l (put T o.dst v) H (.quiet :: ks) hs K := fun v => ih (by rw [put_len]; exact hm) hn
    have stn : ∀ (v : AV), qRow (l.map (cQI E (baseOf C) m ops)) ⟨C, call⟩ (E.enc (getL (put T o.dst v))) H (.no :: ks) hs Kf = runD C call ops l (put T o.dst v) H (.no :: ks) hs K := fun v => ih (by rw [put_len]; exact hm) hn
    have stl : ∀ (v : AV) (H' : Heap), qRow (l.map (cQI E (baseOf C) m ops)) ⟨C, call⟩ (E.enc (getL (put T o.dst v))) H' (.loud hs.length :: ks) (H :: hs) Kf = runD C call ops l (put T o.dst v) H' (.loud hs.length :: ks) (H :: hs) K := fun v H' => ih (by rw [put_len]; exact hm) (by show nLoud ks + 1 = _; rw [hn]; rfl)
    rw [gdF_eq hE hdT, quF_eq hE hdT]
    simp only [dsF_eq hE hm hd, hn, stq, stn, stl]
    rw [compQ_ok hE hdT (k := fun v H' => runD C call ops l (put T o.dst v) H' (.quiet :: ks) hs K), compA_ok hE hdT]
    simp only [runD, putK_eq]
    cases wantedA ops o (getL T) <;> rfl

include hE in
theorem chkAt_ok {T : Tmps} (hdT : T.length ≤ E.cap) (o : Oper) (v : AV) (K : Out) : ∀ (hl : List Heap), chkAt (compQ E (baseOf C) o) v ⟨C, call⟩ (E.enc (getL T)) hl K = checkAt C call o (getL T) v hl K
  | [] => rfl
  | H :: r => by
    have ih := chkAt_ok hdT o v K r
    show fA (compQ E (baseOf C) o) ⟨C, call⟩ (E.enc (getL T)) H (fun u _ => cond (sameA u v) (chkAt (compQ E (baseOf C) o) v ⟨C, call⟩ (E.enc (getL T)) r K) .fail) = _
    rw [compQ_ok hE hdT (k := fun u _ => cond (sameA u v) (chkAt (compQ E (baseOf C) o) v ⟨C, call⟩ (E.enc (getL T)) r K) .fail), ih]
    rfl

include hE in
theorem chkPlan_ok {T : Tmps} (hdT : T.length ≤ E.cap) {ms : List Nat} {ks : List Kd} {hl : List Heap} {K : Out} : ∀ (l : List Oper) (s : List Kd) (i : Nat),
    chkPlan (planF ms ks hl.length (l.map (cPQ E (baseOf C))) s i) ⟨C, call⟩ (E.enc (getL T)) hl K = checksD C call ms T ks hl (l.zip s) i K
  | [], s, i => by cases s <;> rfl
  | o :: l, [], i => rfl
  | o :: l, kd :: s, i => by
    have ih := chkPlan_ok hdT (ms := ms) (ks := ks) (hl := hl) (K := K) l s (i + 1)
    simp only [List.map_cons, List.zip_cons_cons, planF, checksD]
    cases kd with
    | no => exact ih
    | loud p => exact ih
    | quiet =>
      simp only [cPQ]
      cases hr : readsO o with
      | false => exact ih
      | true =>
        cases hd : o.dst with
        | none => rfl
        | some d =>
          show chkAt (compQ E (baseOf C) o) (cO E (baseOf C) (.tmp d) (E.enc (getL T))) ⟨C, call⟩ (E.enc (getL T)) (dropF (takeF hl (Nat.succ (hiD ms ks i hl.length))) (loD ks (ms.getD i 0)))
            (chkPlan (planF ms ks hl.length (l.map (cPQ E (baseOf C))) s (i + 1)) ⟨C, call⟩ (E.enc (getL T)) hl K) = _
          rw [ih, chkAt_ok hE hdT, dropF_eq, takeF_eq, evF_cO hE hdT]
          simp only [ev, getL_eq]

include hE in
theorem regDF_ok {ops : Array Oper} {T : Tmps} {H : Heap} {Kn : σ → Heap → Out} {K : Tmps → Heap → Out} (hd : m ≤ E.cap) (hok : okOps ops = true) (hm : T.length = m) (hK : ∀ T H, T.length = m → Kn (E.enc (getL T)) H = K T H) :
    regDF (masks ops.toList []) (ops.toList.map (cPQ E (baseOf C))) (ops.toList.map (cQI E (baseOf C) m ops)) ⟨C, call⟩ (E.enc (getL T)) H Kn = aopsD C call 0 ops T H K := by
  have e : ∀ (p : Oper → Bool), (∀ o, p o = true) → ops.toList.all p = true := fun p hp => List.all_eq_true.2 fun o _ => hp o
  unfold aopsD regDF
  rw [hok, e _ fun o => by cases o.dst <;> simp [isLoc]]
  simp only [Bool.and_self, cond_true]
  refine qRow_ok hE hd (fun T' ks hs hm' hn => ?_) ops.toList hm rfl
  match hs, hn with
  | [], hn => rfl
  | [H'], hn => exact hK T' H' hm'
  | H' :: H2 :: r, hn =>
    show @Bool.rec (fun _ => Out) .fail (chkPlan (planOf (masks ops.toList []) (ops.toList.map (cPQ E (baseOf C))) ks) ⟨C, call⟩ (E.enc (getL T')) (H' :: H2 :: r).reverse (Kn (E.enc (getL T')) H')) (chainD (masks ops.toList []) ks.reverse) = _
    have hl : nLoud ks + 1 = (H' :: H2 :: r).reverse.length := by rw [List.length_reverse]; exact hn
    unfold planOf
    rw [hl, chkPlan_ok hE (by omega), hK T' H' hm']
    cases chainD (masks ops.toList []) ks.reverse <;> rfl

/-! ### code -/
def Agree {σ : Type} (E : EnvO σ) (m : Nat) (Kn : σ → Heap → Out) (Kf : Ke σ) (K : AEx → Tmps → Heap → Out) : Prop :=
  (∀ T H, T.length = m → Kn (E.enc (getL T)) H = K .normal T H) ∧ ∀ e T H, (∀ _ : e = .normal, False) → T.length = m → Kf e (E.enc (getL T)) H = K e T H

theorem hasF_ok (l : Nat) : ∀ c : Code, hasF l (compC E (baseOf C) m c) = hasL l c
  | .skip => rfl
  | .label l' => by
    show Nat.beq l' l = (l' == l)
    rw [beq_dec]; rfl
  | .region _ ops draw => by
    cases draw with
    | false => rfl
    | true =>
      simp only [compC]
      cases ((baseOf C).P.follows .mixedOrders && okOps ops) <;> rfl
  | .seq a b => by
    show @Bool.rec (fun _ => Bool) (hasF l (compC E (baseOf C) m b)) true (hasF l (compC E (baseOf C) m a)) = (hasL l a || hasL l b)
    rw [hasF_ok l a, hasF_ok l b]
    cases hasL l a <;> rfl
  | .cond .. => rfl
  | .block .. => rfl
  | .loop _ => rfl
  | .rangeFunc .. => rfl
  | .exit _ => rfl
  | .scope _ => rfl
  | .goto _ => rfl
  | .ret => rfl
  | .refuse _ => rfl

theorem iterF_ok {body : Sg σ} {abody : Tmps → Heap → (AEx → Tmps → Heap → Out) → Out} {sl : List Tmp} {n0 : Nat}
    (hb : ∀ {T H Kn Kf K}, T.length = m → Agree E m Kn Kf K → body ⟨C, call⟩ (E.enc (getL T)) H Kn Kf = abody T H K) {Kn : σ → Heap → Out} {Kf : Ke σ} {K : AEx → Tmps → Heap → Out} (hK : Agree E m Kn Kf K) :
    ∀ (n : Nat) {T : Tmps} {H : Heap}, T.length = m → iterF body n ⟨C, call⟩ (E.enc (getL T)) H Kf = iter abody sl n0 false n T H K
  | 0, T, H, hm => rfl
  | n + 1, T, H, hm => by
    show body ⟨C, call⟩ (E.enc (getL T)) H (fun F' H' => iterF body n ⟨C, call⟩ F' H' Kf) Kf = _
    simp only [iter, roundT, roundH]
    refine hb hm ⟨fun T' H' hm' => iterF_ok hb hK n hm', fun e T' H' he hm' => ?_⟩
    rw [hK.2 e T' H' he hm']
    cases e with
    | normal => exact (he rfl).elim
    | _ => rfl

theorem iterSF_ok {body : Sg σ} {fr : Nat → Sg σ} {abody : Option Nat → Tmps → Heap → (AEx → Tmps → Heap → Out) → Out} {has has' : Nat → Bool} (hh : ∀ l, has l = has' l)
    (hb : ∀ {T H Kn Kf K}, T.length = m → Agree E m Kn Kf K → body ⟨C, call⟩ (E.enc (getL T)) H Kn Kf = abody none T H K) (hl : ∀ {l T H Kn Kf K}, T.length = m → Agree E m Kn Kf K → fr l ⟨C, call⟩ (E.enc (getL T)) H Kn Kf = abody (some l) T H K)
    {Kn : σ → Heap → Out} {Kf : Ke σ} {K : AEx → Tmps → Heap → Out} (hK : Agree E m Kn Kf K) :
    ∀ (n : Nat) (mm : Option Nat) {T : Tmps} {H : Heap}, T.length = m → iterSF body fr has n mm ⟨C, call⟩ (E.enc (getL T)) H Kn Kf = iterS abody has' n mm T H K
  | 0, mm, T, H, hm => rfl
  | n + 1, mm, T, H, hm => by
    have ih := fun (l : Nat) {T : Tmps} {H : Heap} (hm : T.length = m) => iterSF_ok hh hb hl hK n (some l) (T := T) (H := H) hm
    have ag : Agree E m Kn (fun e => @AEx.rec (fun _ => σ → Heap → Out) (Kf .normal) (fun id => Kf (.exit id))
      (fun l F' H' => @Bool.rec (fun _ => Out) (Kf (.goto l) F' H') (iterSF body fr has n (some l) ⟨C, call⟩ F' H' Kn Kf) (has l)) (Kf .ret) e) (fun e T2 H2 => match e with
        | .goto l => cond (has' l) (iterS abody has' n (some l) T2 H2 K) (K (.goto l) T2 H2)
        | e => K e T2 H2) := by
      refine ⟨fun T' H' hm' => hK.1 T' H' hm', fun e T' H' he hm' => ?_⟩
      cases e with
      | normal => exact (he rfl).elim
      | exit id => exact hK.2 (.exit id) T' H' (by simp) hm'
      | goto l =>
        show @Bool.rec (fun _ => Out) (Kf (.goto l) (E.enc (getL T')) H') (iterSF body fr has n (some l) ⟨C, call⟩ (E.enc (getL T')) H' Kn Kf) (has l) = cond (has' l) _ _
        rw [hh l, ih l hm', hK.2 (.goto l) T' H' (by simp) hm']
        cases has' l <;> rfl
      | ret => exact hK.2 .ret T' H' (by simp) hm'
    simp only [iterS]
    cases mm with
    | none => exact hb hm ag
    | some l => exact hl hm ag

include hE in
theorem compC_ok (hsym : C.sym = false) (hd : m ≤ E.cap) (nm : Array String) : ∀ (c : Code) {T : Tmps} {H : Heap} {Kn : σ → Heap → Out} {Kf : Ke σ} {K : AEx → Tmps → Heap → Out}, T.length = m → Agree E m Kn Kf K →
    (two (compC E (baseOf C) m c)).a ⟨C, call⟩ (E.enc (getL T)) H Kn Kf = acodeM C call nm 0 c none T H K ∧ ∀ l, (two (compC E (baseOf C) m c)).l l ⟨C, call⟩ (E.enc (getL T)) H Kn Kf = acodeM C call nm 0 c (some l) T H K
  | .skip, T, H, Kn, Kf, K, hm, hK => ⟨hK.1 T H hm, fun l => rfl⟩
  | .label l', T, H, Kn, Kf, K, hm, hK => ⟨hK.1 T H hm, fun l => by
    show @Bool.rec (fun _ => Out) .fail (Kn (E.enc (getL T)) H) (Nat.beq l' l) = cond (l' == l) (K .normal T H) .fail
    rw [hK.1 T H hm]
    have e : Nat.beq l' l = (l' == l) := by rw [beq_dec]; rfl
    rw [e]
    cases (l' == l) <;> rfl⟩
  | .region id ops draw, T, H, Kn, Kf, K, hm, hK => by
    cases draw with
    | false => exact ⟨fRow_ok hE hd hK.1 ops.toList hm, fun l => rfl⟩
    | true =>
      simp only [compC, acodeM]
      have eP : (baseOf C).P = C.P := rfl
      rw [eP]
      cases C.P.follows .mixedOrders with
      | false => exact ⟨rfl, fun l => rfl⟩
      | true =>
        simp only [Bool.true_and, cond_true]
        cases hok : okOps ops with
        | false =>
          refine ⟨?_, fun l => rfl⟩
          simp only [aopsD, hok, Bool.false_and, _root_.cond_false]
          rfl
        | true =>
          refine ⟨?_, fun l => rfl⟩
          exact regDF_ok hE hd hok hm fun T' H' hT' => hK.1 T' H' hT'
  | .seq a b, T, H, Kn, Kf, K, hm, hK => by
    have ia := @compC_ok hsym hd nm a
    have ib := @compC_ok hsym hd nm b
    have ag : Agree E m (fun F' H' => (two (compC E (baseOf C) m b)).a ⟨C, call⟩ F' H' Kn Kf) Kf (fun e T' H' => match e with
        | .normal => acodeM C call nm 0 b none T' H' K
        | e => K e T' H') := by
      refine ⟨fun T' H' hm' => (ib hm' hK).1, fun e T' H' he hm' => ?_⟩
      rw [hK.2 e T' H' he hm']
      cases e with
      | normal => exact (he rfl).elim
      | _ => rfl
    refine ⟨(ia hm ag).1, fun l => ?_⟩
    show @Bool.rec (fun _ => Out) ((two (compC E (baseOf C) m b)).l l ⟨C, call⟩ (E.enc (getL T)) H Kn Kf) ((two (compC E (baseOf C) m a)).l l ⟨C, call⟩ (E.enc (getL T)) H (fun F' H' => (two (compC E (baseOf C) m b)).a ⟨C, call⟩ F' H' Kn Kf) Kf) (hasF l (compC E (baseOf C) m a)) = _
    rw [hasF_ok, (ib hm hK).2 l, (ia hm ag).2 l]
    simp only [acodeM]
    cases hasL l a <;> rfl
  | .cond c a b, T, H, Kn, Kf, K, hm, hK => by
    refine ⟨?_, fun l => rfl⟩
    show condF (cO E (baseOf C) c (E.enc (getL T))) ((two (compC E (baseOf C) m a)).a ⟨C, call⟩ (E.enc (getL T)) H Kn Kf) ((two (compC E (baseOf C) m b)).a ⟨C, call⟩ (E.enc (getL T)) H Kn Kf) = _
    rw [evF_cO hE (by omega), condF_eq, (compC_ok hsym hd nm a hm hK).1, (compC_ok hsym hd nm b hm hK).1]
    rfl
  | .block id a, T, H, Kn, Kf, K, hm, hK => by
    refine ⟨?_, fun l => rfl⟩
    refine (compC_ok hsym hd nm a (K := fun e T' H' => match e with
      | .exit id' => cond (decide (id' = id)) (K .normal T' H') (K (.exit id') T' H')
      | e => K e T' H') hm ⟨fun T' H' hm' => hK.1 T' H' hm', fun e T' H' he hm' => ?_⟩).1
    cases e with
    | normal => exact (he rfl).elim
    | exit id' =>
      show @Bool.rec (fun _ => Out) (Kf (.exit id') (E.enc (getL T')) H') (Kn (E.enc (getL T')) H') (Nat.beq id' id) = cond (decide (id' = id)) _ _
      rw [beq_dec, hK.1 T' H' hm', hK.2 (.exit id') T' H' (by simp) hm']
      cases decide (id' = id) <;> rfl
    | goto l => exact hK.2 (.goto l) T' H' (by simp) hm'
    | ret => exact hK.2 .ret T' H' (by simp) hm'
  | .loop a, T, H, Kn, Kf, K, hm, hK => by
    refine ⟨?_, fun l => rfl⟩
    show iterF (two (compC E (baseOf C) m a)).a C.L ⟨C, call⟩ (E.enc (getL T)) H Kf = _
    simp only [acodeM, hsym]
    exact iterF_ok (fun hm hK => (compC_ok hsym hd nm a hm hK).1) hK C.L hm
  | .scope a, T, H, Kn, Kf, K, hm, hK => by
    refine ⟨?_, fun l => rfl⟩
    show iterSF (two (compC E (baseOf C) m a)).a (two (compC E (baseOf C) m a)).l (fun l => hasF l (compC E (baseOf C) m a)) C.L none ⟨C, call⟩ (E.enc (getL T)) H Kn Kf = _
    simp only [acodeM]
    exact iterSF_ok (fun l => hasF_ok l a) (fun hm hK => (compC_ok hsym hd nm a hm hK).1) (fun {l} _ _ _ _ _ hm hK => (compC_ok hsym hd nm a hm hK).2 l) hK C.L none hm
  | .exit id, T, H, Kn, Kf, K, hm, hK => ⟨hK.2 (.exit id) T H (by simp) hm, fun l => rfl⟩
  | .goto l, T, H, Kn, Kf, K, hm, hK => ⟨hK.2 (.goto l) T H (by simp) hm, fun l => rfl⟩
  | .ret, T, H, Kn, Kf, K, hm, hK => ⟨hK.2 .ret T H (by simp) hm, fun l => rfl⟩
  | .rangeFunc .., T, H, Kn, Kf, K, hm, hK => ⟨rfl, fun l => rfl⟩
  | .refuse _, T, H, Kn, Kf, K, hm, hK => ⟨rfl, fun l => rfl⟩

/-! ### calls -/
include hE in
theorem fRes_ok {T : Tmps} {H : Heap} {k : KV} (hd : T.length ≤ E.cap) : ∀ (l : List ResultVar) {acc : List AV}, fRes (l.map (cRes E (baseOf C))) (E.enc (getL T)) H acc k = resultsA.go C T H (fun v => k v H) l acc
  | [], acc => by
    show (match acc with | [v] => k v H | vs => k (.tuple vs.reverse) H) = _
    simp only [resultsA.go]
    match acc with
    | [] => rfl
    | [v] => rfl
    | _ :: _ :: _ => rfl
  | .tmp t :: r, acc => by
    show fRes (r.map (cRes E (baseOf C))) (E.enc (getL T)) H (cO E (baseOf C) (.tmp t) (E.enc (getL T)) :: acc) k = _
    rw [fRes_ok hd r, evF_cO hE hd]
    simp only [resultsA.go, ev, getL_eq]
  | .cell a t :: r, acc => by
    simp only [List.map_cons, resultsA.go, cRes]
    simp only [tinfo_base]
    cases ht : tinfo C t with
    | none => rfl
    | some ti =>
      show ldV (cO E (baseOf C) (.tmp a) (E.enc (getL T))) ti.agg ti.size H (fun v _ => fRes (r.map (cRes E (baseOf C))) (E.enc (getL T)) H (v :: acc) k) = _
      rw [evF_cO hE hd, ldV_eq]
      simp only [fRes_ok hd r, ev, getL_eq]

theorem initT_eq (args : List AV) (n : Nat) : initT 0 args n = args ++ List.replicate (n - args.length) undefA := by
  unfold initT
  congr 1
  apply List.ext_getElem?
  intro i
  rw [List.getElem?_map, List.getElem?_replicate]
  by_cases h : i < n - args.length
  · rw [List.getElem?_range' h, if_pos h]
    simp [isLoc]
  · rw [List.getElem?_eq_none (by simp; omega), if_neg h]; rfl

theorem nthA_eq : ∀ (l : List AV) (n : Nat), nthA l n = getL l n
  | [], n => by cases n <;> rfl
  | a :: r, 0 => rfl
  | a :: r, n + 1 => nthA_eq r n

include hE in
theorem callB_ok (hsym : C.sym = false) {n : Nat} {f : FuncId} {fn : Func} {c : Code} (hf : C.P.funcs[f]? = some fn) (hb : fn.body = some c) (hcap : fn.ntmps ≤ E.cap) (args : List AV) (H : Heap) (k : KV) :
    callB E.enc (compB E (baseOf C) fn c) ⟨C, acall C n⟩ args H k (acall C (Nat.succ n) f args H k) = acall C (Nat.succ n) f args H k := by
  unfold callB
  refine ble_rec (fun hl => ?_) fun _ => rfl
  rw [lenL_eq] at hl
  have hl : args.length ≤ fn.ntmps := hl
  have e0 : nthA args = getL (initT 0 args fn.ntmps) := by
    funext i
    rw [nthA_eq, initT_eq, getL_eq, getL_eq, List.getD_eq_getElem?_getD, List.getD_eq_getElem?_getD, List.getElem?_append]
    split
    · rfl
    · rename_i hi
      rw [List.getElem?_eq_none (by omega), List.getElem?_replicate]
      split <;> rfl
  rw [e0]
  simp only [acall, hf, hb]
  have hm : (initT 0 args fn.ntmps).length = fn.ntmps := by rw [initT_eq]; simp; omega
  have e1 : (decide (locMask fn c < Nat.pow 2 fn.ntmps) && decide (locMask fn c % Nat.pow 2 args.length = 0)) = true := by
    simp only [locMask, Bool.and_eq_true, decide_eq_true_eq]
    exact ⟨decide_eq_true (Nat.two_pow_pos _), by simp⟩
  rw [e1]
  simp only [cond_true]
  have key := fun {Kn Kf K} (hK : Agree E fn.ntmps Kn Kf K) => (compC_ok hE (C := C) (call := acall C n) hsym hcap fn.tmpNames c (T := initT 0 args fn.ntmps) (H := H) (Kn := Kn) (Kf := Kf) (K := K) hm hK).1
  refine key ⟨fun T' H' hm' => fRes_ok hE (by omega) _, fun e T' H' he hm' => ?_⟩
  cases e with
  | normal => exact (he rfl).elim
  | exit id => rfl
  | goto l => rfl
  | ret => exact fRes_ok hE (by omega) _
end

theorem fcall_eq {C : Ctx} {code : FuncId → FF} (hcode : ∀ f, code f = .bad ∨ code f = compF (baseOf C) f) (hsym : C.sym = false) : ∀ n, fcall code C n = acall C n
  | 0 => by funext f args H k; rfl
  | n + 1 => by
    have ih := fcall_eq hcode hsym n
    funext f args H k
    show @FF.rec (fun _ => Out) (acall C (Nat.succ n) f args H k) (fun b => callB encT2 b ⟨C, fcall code C n⟩ args H k (acall C (Nat.succ n) f args H k)) (fun b => callB encT3 b ⟨C, fcall code C n⟩ args H k (acall C (Nat.succ n) f args H k)) (code f) = _
    rw [ih]
    rcases hcode f with hcf | hcf
    · rw [hcf]
    rw [hcf]
    simp only [compF]
    have eP : (baseOf C).P = C.P := rfl
    rw [eP]
    cases hf : C.P.funcs[f]? with
    | none => rfl
    | some fn =>
      simp only []
      cases hb : fn.body with
      | none => rfl
      | some c =>
        simp only []
        cases h2 : Nat.ble fn.ntmps 64 with
        | true => exact callB_ok E2_ok hsym hf hb (Nat.le_of_ble_eq_true h2) args H k
        | false =>
          cases h3 : Nat.ble fn.ntmps 512 with
          | true => exact callB_ok E3_ok hsym hf hb (Nat.le_of_ble_eq_true h3) args H k
          | false => rfl

/-! ### runs -/
noncomputable def runF (code : FuncId → FF) (C : Ctx) (d : Nat) (f : FuncId) (args : List AV) : Out := fcall code C d f args [] fun r H => fzF r H .leaf

theorem runF_eq {code : FuncId → FF} {C : Ctx} (hcode : ∀ f, code f = .bad ∨ code f = compF (baseOf C) f) (hsym : C.sym = false) (d : Nat) (f : FuncId) (args : List AV) : runF code C d f args = runOut C d f args := by
  unfold runF runOut callPure
  rw [fcall_eq hcode hsym]
  simp only [fzF_eq]
  rfl

/-- A run by code that was made ready ahead. -/
theorem RunIs.code {code : FuncId → FF} {C : Ctx} {d : Nat} {fs : Facts} {f : FuncId} {args : List AV} {o : Out} (hcode : ∀ f, code f = .bad ∨ code f = compF (baseOf C) f) (hsym : C.sym = false) (h : prune fs (runF code C d f args) = o) :
    RunIs C d fs f args o := by
  unfold RunIs
  rw [← runF_eq hcode hsym]
  exact h

/-- A run by code that is made ready as it is met. -/
theorem RunIs.fast {C : Ctx} {d : Nat} {fs : Facts} {f : FuncId} {args : List AV} {o : Out} (hsym : C.sym = false) (h : prune fs (runF (compF (baseOf C)) C d f args) = o) : RunIs C d fs f args o :=
  RunIs.code (fun _ => .inr rfl) hsym h
end Go.Proofs.Ytgpijioodocplaa
