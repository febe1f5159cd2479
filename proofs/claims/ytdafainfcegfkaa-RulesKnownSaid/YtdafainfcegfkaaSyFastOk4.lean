/- The fast evaluator tells what the evaluator tells: regions, code, calls. -/
import Derived.Test.YtdafainfcegfkaaSyFastOk3
set_option linter.unusedVariables false
set_option linter.unusedSectionVars false
set_option linter.unusedSimpArgs false
namespace Go.Proofs.Ytdafainfcegfkaa
open Go Go.RowKit

section
variable {C : Ctx} {d m : Nat} {call : Caller}

theorem putL_zero {β : Type} (T : Tmps) (dst : Option Tmp) (v : AV) (k : Lc → Tmps → β) : putL 0 .nil T dst v k = k .nil (put T dst v) := by
  cases dst with
  | none => rfl
  | some t =>
    simp only [putL, isLoc, Nat.zero_testBit, _root_.cond_false, setK_eq, put]

theorem aopF_eq2 {o : Oper} {T : Look} {H : Heap} {k : AV → Heap → Out} : aopF C call o T H k = aop C call o T H k := rfl

theorem lk_nil (T : Tmps) : lk .nil T = getL T := rfl

theorem put_len (T : Tmps) (dst : Option Tmp) (v : AV) : (put T dst v).length = T.length := by
  cases dst <;> simp [put]

theorem cD_some {dst : Option Tmp} {p : Pa} {T : Tmps} {v : AV} (hm : T.length = m) (hd : m ≤ 2 ^ d) (h : cD d m dst = some p) : setP p v (enc d T) = enc d (put T dst v) := by
  cases dst with
  | none => simp [cD] at h
  | some t =>
    simp only [cD] at h
    cases hb : Nat.blt t m with
    | false => rw [hb] at h; simp at h
    | true =>
      rw [hb] at h
      simp only [cond_true, Option.some.injEq] at h
      subst h
      have ht : Nat.lt t m := by simpa [Nat.blt_eq] using hb
      exact enc_set (by rw [hm]; exact ht) (by omega)

theorem cD_none {dst : Option Tmp} {T : Tmps} {v : AV} (hm : T.length = m) (h : cD d m dst = none) : put T dst v = T := by
  cases dst with
  | none => rfl
  | some t =>
    simp only [cD] at h
    cases hb : Nat.blt t m with
    | true => rw [hb] at h; simp at h
    | false =>
      have ht : ¬ Nat.lt t m := fun hh => by
        have : Nat.blt t m = true := by simpa [Nat.blt_eq] using hh
        rw [hb] at this; cases this
      simp only [put]
      exact List.set_eq_of_length_le (by rw [hm]; exact Nat.not_lt.1 ht)

theorem fRow_ok {ops : Array Oper} {Kf : Tr → Heap → Out} {K : Tmps → Heap → Out} (hd : m ≤ 2 ^ d) (hK : ∀ T H, T.length = m → Kf (enc d T) H = K T H) :
    ∀ (l : List Oper) {T : Tmps} {H : Heap}, T.length = m → fRow (l.map (cI (baseOf C) d m ops)) ⟨C, call⟩ (enc d T) H Kf = aops C call 0 ops l .nil T H K
  | [], T, H, hm => hK T H hm
  | o :: l, T, H, hm => by
    have ih := @fRow_ok ops Kf K hd hK l
    have hdT : T.length ≤ 2 ^ d := by omega
    show fI (cI (baseOf C) d m ops o) (fRow (l.map (cI (baseOf C) d m ops))) ⟨C, call⟩ (enc d T) H Kf = _
    simp only [aops, aopF_eq2, lk_nil, putL_zero]
    have step : ∀ (v : AV) (H' : Heap), (fun (T : Tmps) => aops C call 0 ops l .nil T H' K) (put T o.dst v) = fRow (l.map (cI (baseOf C) d m ops)) ⟨C, call⟩ (enc d (put T o.dst v)) H' Kf := fun v H' => (ih (by rw [put_len]; exact hm)).symm
    simp only at step
    simp only [step]
    cases hg : o.guard with
    | none =>
      simp only [wantedA, hg, cI]
      cases hc : cD d m o.dst with
      | some p =>
        show fA (compA (baseOf C) d o) ⟨C, call⟩ (enc d T) H (fun v H' => fRow (l.map (cI (baseOf C) d m ops)) ⟨C, call⟩ (setP p v (enc d T)) H' Kf) = aop C call o (getL T) H _
        rw [compA_ok hdT]
        simp only [cD_some hm hd hc]
      | none =>
        show fA (compA (baseOf C) d o) ⟨C, call⟩ (enc d T) H (fun _ H' => fRow (l.map (cI (baseOf C) d m ops)) ⟨C, call⟩ (enc d T) H' Kf) = aop C call o (getL T) H _
        rw [compA_ok hdT]
        simp only [cD_none hm hc]
    | some jw =>
      obtain ⟨j, w⟩ := jw
      cases hj : (ops[j]?).bind (·.dst) with
      | none =>
        simp only [wantedA, hg, cI, hj]
        cases hc : cD d m o.dst with
        | some p =>
          show fRow (l.map (cI (baseOf C) d m ops)) ⟨C, call⟩ (setP p undefA (enc d T)) H Kf = fRow _ _ _ H Kf
          rw [cD_some hm hd hc]
        | none =>
          show fRow (l.map (cI (baseOf C) d m ops)) ⟨C, call⟩ (enc d T) H Kf = fRow _ _ _ H Kf
          rw [cD_none hm hc]
      | some c =>
        have gf := fun yes no => guardF_eq (ops := ops) (o := o) (T := getL T) (c := c) (yes := yes) (no := no) hg hj
        have fin : ∀ {x yes no : Out}, x = guardF (getL T c) w yes no → x = match wantedA ops o (getL T) with | none => .fail | some g => guardA g yes no := fun h => h.trans (gf _ _)
        have ec : evF (cO (baseOf C) d (.tmp c)) (enc d T) = getL T c := evF_cO hdT (.tmp c)
        simp only [cI, hg, hj]
        cases hc : cD d m o.dst with
        | some p =>
          have key : fI (FI.gp (cO (baseOf C) d (.tmp c)) w (compA (baseOf C) d o) p) (fRow (l.map (cI (baseOf C) d m ops))) ⟨C, call⟩ (enc d T) H Kf =
              guardF (getL T c) w (aop C call o (getL T) H fun v H' => fRow (l.map (cI (baseOf C) d m ops)) ⟨C, call⟩ (enc d (put T o.dst v)) H' Kf) (fRow (l.map (cI (baseOf C) d m ops)) ⟨C, call⟩ (enc d (put T o.dst undefA)) H Kf) := by
            show guardF (evF (cO (baseOf C) d (.tmp c)) (enc d T)) w (fA (compA (baseOf C) d o) ⟨C, call⟩ (enc d T) H (fun v H' => fRow (l.map (cI (baseOf C) d m ops)) ⟨C, call⟩ (setP p v (enc d T)) H' Kf)) (fRow (l.map (cI (baseOf C) d m ops)) ⟨C, call⟩ (setP p undefA (enc d T)) H Kf) = _
            rw [compA_ok hdT, ec]
            simp only [cD_some hm hd hc]
          rw [key, gf]
          cases wantedA ops o (getL T) <;> rfl
        | none =>
          have key : fI (FI.gn (cO (baseOf C) d (.tmp c)) w (compA (baseOf C) d o)) (fRow (l.map (cI (baseOf C) d m ops))) ⟨C, call⟩ (enc d T) H Kf =
              guardF (getL T c) w (aop C call o (getL T) H fun v H' => fRow (l.map (cI (baseOf C) d m ops)) ⟨C, call⟩ (enc d (put T o.dst v)) H' Kf) (fRow (l.map (cI (baseOf C) d m ops)) ⟨C, call⟩ (enc d (put T o.dst undefA)) H Kf) := by
            show guardF (evF (cO (baseOf C) d (.tmp c)) (enc d T)) w (fA (compA (baseOf C) d o) ⟨C, call⟩ (enc d T) H (fun _ H' => fRow (l.map (cI (baseOf C) d m ops)) ⟨C, call⟩ (enc d T) H' Kf)) (fRow (l.map (cI (baseOf C) d m ops)) ⟨C, call⟩ (enc d T) H Kf) = _
            rw [compA_ok hdT, ec]
            simp only [cD_none hm hc]
          rw [key, gf]
          cases wantedA ops o (getL T) <;> rfl

theorem runD_congr {ops : Array Oper} : ∀ (l : List Oper) {T : Tmps} {H : Heap} {ks : List Kd} {hs : List Heap} {K K' : Tmps → List Kd → List Heap → Out}, (∀ T', T'.length = T.length → K T' = K' T') →
    runD C call ops l T H ks hs K = runD C call ops l T H ks hs K'
  | [], T, H, ks, hs, K, K', h => by simp only [runD]; rw [h T rfl]
  | o :: l, T, H, ks, hs, K, K', h => by
    simp only [runD, putK_eq]
    have st : ∀ (v : AV) (H' : Heap) (ks' : List Kd) (hs' : List Heap), runD C call ops l (put T o.dst v) H' ks' hs' K = runD C call ops l (put T o.dst v) H' ks' hs' K' := fun v H' ks' hs' => runD_congr l fun T' hT' => h T' (by rw [hT', put_len])
    simp only [st]

theorem aopsD_congr {M : Nat} {ops : Array Oper} {T : Tmps} {H : Heap} {K K' : Tmps → Heap → Out} (h : ∀ T', T'.length = T.length → K T' = K' T') : aopsD C call M ops T H K = aopsD C call M ops T H K' := by
  unfold aopsD
  congr 1
  exact runD_congr _ fun T' hT' => by funext ks hs; rw [h T' hT']

theorem gdF_eq {ops : Array Oper} {o : Oper} {T : Tmps} (hdT : T.length ≤ 2 ^ d) {yes no : Out} : gdF (cG (baseOf C) d ops o) (enc d T) yes no = match wantedA ops o (getL T) with | none => .fail | some g => guardA g yes no := by
  unfold cG
  cases hg : o.guard with
  | none => simp only [wantedA, hg]; rfl
  | some jw =>
    obtain ⟨j, w⟩ := jw
    simp only []
    cases hj : (ops[j]?).bind (·.dst) with
    | none => simp only [wantedA, hg, hj]; rfl
    | some c =>
      show guardF (evF (cO (baseOf C) d (.tmp c)) (enc d T)) w yes no = _
      rw [evF_cO hdT]
      have := guardF_eq (ops := ops) (o := o) (T := getL T) (c := c) (yes := yes) (no := no) hg hj
      exact this.trans (by cases wantedA ops o (getL T) <;> rfl)

theorem quF_eq {o : Oper} {T : Tmps} (hdT : T.length ≤ 2 ^ d) {x y : Out} : quF (cQ (baseOf C) d o) ⟨C, call⟩ (enc d T) x y = cond (quietO C o (getL T)) x y := by
  obtain ⟨dst0, op0, type0, pos0, after0, guard0⟩ := o
  cases op0
  case call c =>
    obtain ⟨callee, args, ats⟩ := c
    cases callee with
    | value f =>
      cases f with
      | func f =>
        show @Bool.rec (fun _ => Out) y (@Bool.rec (fun _ => Out) y x (allB treeF (evs (args.toList.map (cO (baseOf C) d)) (enc d T)))) (C.pure f) = _
        rw [evs_cO hdT, allB_eq treeF_eq]
        simp only [quietO, ev, target, scs, Array.toList_empty, List.map_nil, List.nil_append, List.append_nil]
        cases C.pure f <;> cases (args.toList.map (ev C (getL T))).all isTree <;> rfl
      | _ =>
        show cond (quietO C _ (lookF d (enc d T))) x y = _
        rw [lookF_enc hdT]
    | invoke r m => rfl
    | builtin b => cases b <;> rfl
  all_goals rfl

theorem dsF_eq {o : Oper} {T : Tmps} {v : AV} (hm : T.length = m) (hd : m ≤ 2 ^ d) : dsF (cD d m o.dst) v (enc d T) = enc d (put T o.dst v) := by
  cases hc : cD d m o.dst with
  | some p => exact cD_some hm hd hc
  | none => rw [cD_none hm hc]; rfl

theorem compQ_ok {T : Tmps} {H : Heap} (hd : T.length ≤ 2 ^ d) (o : Oper) {k : AV → Heap → Out} : fA (compQ (baseOf C) d o) ⟨C, call⟩ (enc d T) H (fun v _ => k v H) = aopQ C call o (getL T) H fun v => k v H := by
  have gen := compA_ok (C := C) (call := call) (H := H) (k := fun v _ => k v H) hd o
  obtain ⟨dst0, op0, type0, pos0, after0, guard0⟩ := o
  cases op0
  case buildSlice t n ps =>
    simp only [compQ, cBt, tinfo_base]
    cases ht : tinfo C t with
    | none => simp only [aopQ, ht]; rfl
    | some ti =>
      simp only []
      cases hu : ti.under
      case slice e =>
        simp only []
        cases he : tinfo C e with
        | none => simp only [aopQ, ht, buildTreeA, hu, he]; rfl
        | some et =>
          simp only []
          cases hz : zeroCellsA et with
          | none => simp only [aopQ, ht, buildTreeA, hu, he, hz]; rfl
          | some z =>
            simp only []
            cases hc : (decide (n * et.size ≤ 2 ^ 24) && decide (et.size ≠ 0) && decide (z.length = et.size) && (tcs z).all cellOk) with
            | false => simp only [aopQ, ht, buildTreeA, hu, he, hz, hc]; rfl
            | true => exact fBt_ok (k := fun v _ => k v H) hd rfl ht hu he hz hc
      all_goals (simp only [aopQ, ht, buildTreeA, hu]; rfl)
  all_goals exact gen

theorem qRow_ok {ops : Array Oper} {Kf : Tr → List Kd → List Heap → Out} {K : Tmps → List Kd → List Heap → Out} (hd : m ≤ 2 ^ d) (hK : ∀ T ks hs, T.length = m → Kf (enc d T) ks hs = K T ks hs) :
    ∀ (l : List Oper) {T : Tmps} {H : Heap} {ks : List Kd} {hs : List Heap}, T.length = m → qRow (l.map (cQI (baseOf C) d m ops)) ⟨C, call⟩ (enc d T) H ks hs Kf = runD C call ops l T H ks hs K
  | [], T, H, ks, hs, hm => hK T ks (H :: hs) hm
  | o :: l, T, H, ks, hs, hm => by
    have ih := @qRow_ok ops Kf K hd hK l
    have hdT : T.length ≤ 2 ^ d := by omega
    show gdF (cG (baseOf C) d ops o) (enc d T) (quF (cQ (baseOf C) d o) ⟨C, call⟩ (enc d T)
      (fA (compQ (baseOf C) d o) ⟨C, call⟩ (enc d T) H fun v _ => qRow (l.map (cQI (baseOf C) d m ops)) ⟨C, call⟩ (dsF (cD d m o.dst) v (enc d T)) H (.quiet :: ks) hs Kf)
      (fA (compA (baseOf C) d o) ⟨C, call⟩ (enc d T) H fun v H' => qRow (l.map (cQI (baseOf C) d m ops)) ⟨C, call⟩ (dsF (cD d m o.dst) v (enc d T)) H' (.loud (lenL hs) :: ks) (H :: hs) Kf))
      (qRow (l.map (cQI (baseOf C) d m ops)) ⟨C, call⟩ (dsF (cD d m o.dst) undefA (enc d T)) H (.no :: ks) hs Kf) = _
    have st : ∀ (v : AV) (H' : Heap) (ks' : List Kd) (hs' : List Heap), qRow (l.map (cQI (baseOf C) d m ops)) ⟨C, call⟩ (enc d (put T o.dst v)) H' ks' hs' Kf = runD C call ops l (put T o.dst v) H' ks' hs' K := fun v H' ks' hs' => ih (by rw [put_len]; exact hm)
    rw [gdF_eq hdT, quF_eq hdT]
    simp only [dsF_eq hm hd, st, lenL_eq]
    rw [compQ_ok hdT (k := fun v H' => runD C call ops l (put T o.dst v) H' (.quiet :: ks) hs K), compA_ok hdT]
    simp only [runD, putK_eq]
    cases wantedA ops o (getL T) <;> rfl

theorem regDF_ok {ops : Array Oper} {T : Tmps} {H : Heap} {Kn : Tr → Heap → Out} {K : Tmps → Heap → Out} (hd : m ≤ 2 ^ d) (hok : okOps ops = true) (hm : T.length = m) (hK : ∀ T H, T.length = m → Kn (enc d T) H = K T H) :
    regDF d m ops (masks ops.toList []) (ops.toList.map (cQI (baseOf C) d m ops)) ⟨C, call⟩ (enc d T) H Kn = aopsD C call 0 ops T H K := by
  have e : ∀ (p : Oper → Bool), (∀ o, p o = true) → ops.toList.all p = true := fun p hp => List.all_eq_true.2 fun o _ => hp o
  unfold aopsD regDF
  rw [hok, e _ fun o => by cases o.dst <;> simp [isLoc]]
  simp only [Bool.and_self, cond_true]
  refine qRow_ok hd (fun T' ks hs hm' => ?_) ops.toList hm
  match hs with
  | [] => rfl
  | [H'] => exact hK T' H' hm'
  | H' :: H2 :: r =>
    show cond (chainD (masks ops.toList []) ks.reverse) (checksD C call (masks ops.toList []) (toL d m (enc d T')) ks.reverse (H' :: H2 :: r).reverse (ops.toList.zip ks.reverse) 0 (Kn (enc d T') H')) .fail = _
    rw [toL_enc hm' hd, hK T' H' hm']

/-! ### code -/
def Agree (d m : Nat) (Kn : Tr → Heap → Out) (Kf : Ke) (K : AEx → Tmps → Heap → Out) : Prop :=
  (∀ T H, T.length = m → Kn (enc d T) H = K .normal T H) ∧ ∀ e T H, (∀ _ : e = .normal, False) → T.length = m → Kf e (enc d T) H = K e T H

theorem hasF_ok (l : Nat) : ∀ c : Code, hasF l (compC (baseOf C) d m c) = hasL l c
  | .skip => rfl
  | .label l' => by
    show Nat.beq l' l = (l' == l)
    rw [beq_dec]; rfl
  | .region _ ops draw => by
    cases draw with
    | false => rfl
    | true =>
      simp only [compC]
      cases ((baseOf C).P.follows .mixedOrders && okOps ops) <;> rfl
  | .seq a b => by
    show @Bool.rec (fun _ => Bool) (hasF l (compC (baseOf C) d m b)) true (hasF l (compC (baseOf C) d m a)) = (hasL l a || hasL l b)
    rw [hasF_ok l a, hasF_ok l b]
    cases hasL l a <;> rfl
  | .cond .. => rfl
  | .block .. => rfl
  | .loop _ => rfl
  | .rangeFunc .. => rfl
  | .exit _ => rfl
  | .scope _ => rfl
  | .goto _ => rfl
  | .ret => rfl
  | .refuse _ => rfl

theorem iterF_ok {body : Sg} {abody : Tmps → Heap → (AEx → Tmps → Heap → Out) → Out} {sl : List Tmp} {n0 : Nat}
    (hb : ∀ {T H Kn Kf K}, T.length = m → Agree d m Kn Kf K → body ⟨C, call⟩ (enc d T) H Kn Kf = abody T H K) {Kn : Tr → Heap → Out} {Kf : Ke} {K : AEx → Tmps → Heap → Out} (hK : Agree d m Kn Kf K) :
    ∀ (n : Nat) {T : Tmps} {H : Heap}, T.length = m → iterF body n ⟨C, call⟩ (enc d T) H Kf = iter abody sl n0 false n T H K
  | 0, T, H, hm => rfl
  | n + 1, T, H, hm => by
    show body ⟨C, call⟩ (enc d T) H (fun F' H' => iterF body n ⟨C, call⟩ F' H' Kf) Kf = _
    simp only [iter, roundT, roundH]
    refine hb hm ⟨fun T' H' hm' => iterF_ok hb hK n hm', fun e T' H' he hm' => ?_⟩
    rw [hK.2 e T' H' he hm']
    cases e with
    | normal => exact (he rfl).elim
    | _ => rfl

theorem iterSF_ok {body : Sg} {fr : Nat → Sg} {abody : Option Nat → Tmps → Heap → (AEx → Tmps → Heap → Out) → Out} {has has' : Nat → Bool} (hh : ∀ l, has l = has' l)
    (hb : ∀ {T H Kn Kf K}, T.length = m → Agree d m Kn Kf K → body ⟨C, call⟩ (enc d T) H Kn Kf = abody none T H K) (hl : ∀ {l T H Kn Kf K}, T.length = m → Agree d m Kn Kf K → fr l ⟨C, call⟩ (enc d T) H Kn Kf = abody (some l) T H K)
    {Kn : Tr → Heap → Out} {Kf : Ke} {K : AEx → Tmps → Heap → Out} (hK : Agree d m Kn Kf K) :
    ∀ (n : Nat) (mm : Option Nat) {T : Tmps} {H : Heap}, T.length = m → iterSF body fr has n mm ⟨C, call⟩ (enc d T) H Kn Kf = iterS abody has' n mm T H K
  | 0, mm, T, H, hm => rfl
  | n + 1, mm, T, H, hm => by
    have ih := fun (l : Nat) {T : Tmps} {H : Heap} (hm : T.length = m) => iterSF_ok hh hb hl hK n (some l) (T := T) (H := H) hm
    have ag : Agree d m Kn (fun e => @AEx.rec (fun _ => Tr → Heap → Out) (Kf .normal) (fun id => Kf (.exit id))
      (fun l F' H' => @Bool.rec (fun _ => Out) (Kf (.goto l) F' H') (iterSF body fr has n (some l) ⟨C, call⟩ F' H' Kn Kf) (has l)) (Kf .ret) e) (fun e T2 H2 => match e with
        | .goto l => cond (has' l) (iterS abody has' n (some l) T2 H2 K) (K (.goto l) T2 H2)
        | e => K e T2 H2) := by
      refine ⟨fun T' H' hm' => hK.1 T' H' hm', fun e T' H' he hm' => ?_⟩
      cases e with
      | normal => exact (he rfl).elim
      | exit id => exact hK.2 (.exit id) T' H' (by simp) hm'
      | goto l =>
        show @Bool.rec (fun _ => Out) (Kf (.goto l) (enc d T') H') (iterSF body fr has n (some l) ⟨C, call⟩ (enc d T') H' Kn Kf) (has l) = cond (has' l) _ _
        rw [hh l, ih l hm', hK.2 (.goto l) T' H' (by simp) hm']
        cases has' l <;> rfl
      | ret => exact hK.2 .ret T' H' (by simp) hm'
    simp only [iterS]
    cases mm with
    | none => exact hb hm ag
    | some l => exact hl hm ag

theorem compC_ok (hsym : C.sym = false) (hd : m ≤ 2 ^ d) (nm : Array String) : ∀ (c : Code) {T : Tmps} {H : Heap} {Kn : Tr → Heap → Out} {Kf : Ke} {K : AEx → Tmps → Heap → Out}, T.length = m → Agree d m Kn Kf K →
    (two (compC (baseOf C) d m c)).a ⟨C, call⟩ (enc d T) H Kn Kf = acodeM C call nm 0 c none T H K ∧ ∀ l, (two (compC (baseOf C) d m c)).l l ⟨C, call⟩ (enc d T) H Kn Kf = acodeM C call nm 0 c (some l) T H K
  | .skip, T, H, Kn, Kf, K, hm, hK => ⟨hK.1 T H hm, fun l => rfl⟩
  | .label l', T, H, Kn, Kf, K, hm, hK => ⟨hK.1 T H hm, fun l => by
    show @Bool.rec (fun _ => Out) .fail (Kn (enc d T) H) (Nat.beq l' l) = cond (l' == l) (K .normal T H) .fail
    rw [hK.1 T H hm]
    have e : Nat.beq l' l = (l' == l) := by rw [beq_dec]; rfl
    rw [e]
    cases (l' == l) <;> rfl⟩
  | .region id ops draw, T, H, Kn, Kf, K, hm, hK => by
    cases draw with
    | false => exact ⟨fRow_ok hd hK.1 ops.toList hm, fun l => rfl⟩
    | true =>
      simp only [compC, acodeM]
      have eP : (baseOf C).P = C.P := rfl
      rw [eP]
      cases C.P.follows .mixedOrders with
      | false => exact ⟨rfl, fun l => rfl⟩
      | true =>
        simp only [Bool.true_and, cond_true]
        cases hok : okOps ops with
        | false =>
          refine ⟨?_, fun l => rfl⟩
          simp only [aopsD, hok, Bool.false_and, _root_.cond_false]
          rfl
        | true =>
          refine ⟨?_, fun l => rfl⟩
          exact regDF_ok hd hok hm fun T' H' hT' => hK.1 T' H' hT'
  | .seq a b, T, H, Kn, Kf, K, hm, hK => by
    have ia := @compC_ok hsym hd nm a
    have ib := @compC_ok hsym hd nm b
    have ag : Agree d m (fun F' H' => (two (compC (baseOf C) d m b)).a ⟨C, call⟩ F' H' Kn Kf) Kf (fun e T' H' => match e with
        | .normal => acodeM C call nm 0 b none T' H' K
        | e => K e T' H') := by
      refine ⟨fun T' H' hm' => (ib hm' hK).1, fun e T' H' he hm' => ?_⟩
      rw [hK.2 e T' H' he hm']
      cases e with
      | normal => exact (he rfl).elim
      | _ => rfl
    refine ⟨(ia hm ag).1, fun l => ?_⟩
    show @Bool.rec (fun _ => Out) ((two (compC (baseOf C) d m b)).l l ⟨C, call⟩ (enc d T) H Kn Kf) ((two (compC (baseOf C) d m a)).l l ⟨C, call⟩ (enc d T) H (fun F' H' => (two (compC (baseOf C) d m b)).a ⟨C, call⟩ F' H' Kn Kf) Kf) (hasF l (compC (baseOf C) d m a)) = _
    rw [hasF_ok, (ib hm hK).2 l, (ia hm ag).2 l]
    simp only [acodeM]
    cases hasL l a <;> rfl
  | .cond c a b, T, H, Kn, Kf, K, hm, hK => by
    refine ⟨?_, fun l => rfl⟩
    show condF (evF (cO (baseOf C) d c) (enc d T)) ((two (compC (baseOf C) d m a)).a ⟨C, call⟩ (enc d T) H Kn Kf) ((two (compC (baseOf C) d m b)).a ⟨C, call⟩ (enc d T) H Kn Kf) = _
    rw [evF_cO (by omega), condF_eq, (compC_ok hsym hd nm a hm hK).1, (compC_ok hsym hd nm b hm hK).1]
    rfl
  | .block id a, T, H, Kn, Kf, K, hm, hK => by
    refine ⟨?_, fun l => rfl⟩
    refine (compC_ok hsym hd nm a (K := fun e T' H' => match e with
      | .exit id' => cond (decide (id' = id)) (K .normal T' H') (K (.exit id') T' H')
      | e => K e T' H') hm ⟨fun T' H' hm' => hK.1 T' H' hm', fun e T' H' he hm' => ?_⟩).1
    cases e with
    | normal => exact (he rfl).elim
    | exit id' =>
      show @Bool.rec (fun _ => Out) (Kf (.exit id') (enc d T') H') (Kn (enc d T') H') (Nat.beq id' id) = cond (decide (id' = id)) _ _
      rw [beq_dec, hK.1 T' H' hm', hK.2 (.exit id') T' H' (by simp) hm']
      cases decide (id' = id) <;> rfl
    | goto l => exact hK.2 (.goto l) T' H' (by simp) hm'
    | ret => exact hK.2 .ret T' H' (by simp) hm'
  | .loop a, T, H, Kn, Kf, K, hm, hK => by
    refine ⟨?_, fun l => rfl⟩
    show iterF (two (compC (baseOf C) d m a)).a C.L ⟨C, call⟩ (enc d T) H Kf = _
    simp only [acodeM, hsym]
    exact iterF_ok (fun hm hK => (compC_ok hsym hd nm a hm hK).1) hK C.L hm
  | .scope a, T, H, Kn, Kf, K, hm, hK => by
    refine ⟨?_, fun l => rfl⟩
    show iterSF (two (compC (baseOf C) d m a)).a (two (compC (baseOf C) d m a)).l (fun l => hasF l (compC (baseOf C) d m a)) C.L none ⟨C, call⟩ (enc d T) H Kn Kf = _
    simp only [acodeM]
    exact iterSF_ok (fun l => hasF_ok l a) (fun hm hK => (compC_ok hsym hd nm a hm hK).1) (fun {l} _ _ _ _ _ hm hK => (compC_ok hsym hd nm a hm hK).2 l) hK C.L none hm
  | .exit id, T, H, Kn, Kf, K, hm, hK => ⟨hK.2 (.exit id) T H (by simp) hm, fun l => rfl⟩
  | .goto l, T, H, Kn, Kf, K, hm, hK => ⟨hK.2 (.goto l) T H (by simp) hm, fun l => rfl⟩
  | .ret, T, H, Kn, Kf, K, hm, hK => ⟨hK.2 .ret T H (by simp) hm, fun l => rfl⟩
  | .rangeFunc .., T, H, Kn, Kf, K, hm, hK => ⟨rfl, fun l => rfl⟩
  | .refuse _, T, H, Kn, Kf, K, hm, hK => ⟨rfl, fun l => rfl⟩

/-! ### calls -/
theorem fRes_ok {T : Tmps} {H : Heap} {k : KV} (hd : T.length ≤ 2 ^ d) : ∀ (l : List ResultVar) {acc : List AV}, fRes (l.map (cRes (baseOf C) d)) (enc d T) H acc k = resultsA.go C T H (fun v => k v H) l acc
  | [], acc => by
    show (match acc with | [v] => k v H | vs => k (.tuple vs.reverse) H) = _
    simp only [resultsA.go]
    match acc with
    | [] => rfl
    | [v] => rfl
    | _ :: _ :: _ => rfl
  | .tmp t :: r, acc => by
    show fRes (r.map (cRes (baseOf C) d)) (enc d T) H (evF (cO (baseOf C) d (.tmp t)) (enc d T) :: acc) k = _
    rw [fRes_ok hd r, evF_cO hd]
    simp only [resultsA.go, ev, getL_eq]
  | .cell a t :: r, acc => by
    simp only [List.map_cons, resultsA.go, cRes]
    simp only [tinfo_base]
    cases ht : tinfo C t with
    | none => rfl
    | some ti =>
      show ldV (evF (cO (baseOf C) d (.tmp a)) (enc d T)) ti.agg ti.size H (fun v _ => fRes (r.map (cRes (baseOf C) d)) (enc d T) H (v :: acc) k) = _
      rw [evF_cO hd, ldV_eq]
      simp only [fRes_ok hd r, ev, getL_eq]

theorem putAll_ok (hd : m ≤ 2 ^ d) : ∀ (as : List AV) (n : Nat) {T : Tmps}, T.length = m → n + as.length ≤ m → putAll ((List.range' n as.length).map (pa d)) as (enc d T) = enc d (T.take n ++ as ++ T.drop (n + as.length))
  | [], n, T, hm, hn => by
    show enc d T = _
    simp
  | a :: as, n, T, hm, hn => by
    simp only [List.length_cons] at hn
    show putAll ((List.range' (n + 1) as.length).map (pa d)) as (setP (pa d n) a (enc d T)) = _
    rw [enc_set (by omega) (by omega), putAll_ok hd as (n + 1) (by simp [hm]) (by omega)]
    congr 1
    rw [List.set_eq_take_append_cons_drop, if_pos (by omega)]
    have h1 : (T.take n).length = n := by simp; omega
    have h2 : n + (a :: as).length = n + 1 + as.length := by simp; omega
    rw [h2]
    have e1 : (T.take n ++ a :: T.drop (n + 1)).take (n + 1) = T.take n ++ [a] := by
      rw [List.take_append, h1, List.take_of_length_le (by rw [h1]; omega)]
      simp
    have e2 : (T.take n ++ a :: T.drop (n + 1)).drop (n + 1 + as.length) = T.drop (n + 1 + as.length) := by
      rw [List.drop_append, h1, List.drop_eq_nil_of_le (by rw [h1]; omega)]
      have : n + 1 + as.length - n = as.length + 1 := by omega
      rw [this]; simp
    rw [e1, e2]
    simp

theorem enc_blank : ∀ (d : Nat) (f : Nat → AV), (∀ n, f n = undefA) → encF d f = encF d fun _ => undefA
  | d, f, h => by rw [show f = fun _ => undefA from funext h]

theorem initT_eq (args : List AV) (n : Nat) : initT 0 args n = args ++ List.replicate (n - args.length) undefA := by
  unfold initT
  congr 1
  apply List.ext_getElem?
  intro i
  rw [List.getElem?_map, List.getElem?_replicate]
  by_cases h : i < n - args.length
  · rw [List.getElem?_range' h, if_pos h]
    simp [isLoc]
  · rw [List.getElem?_eq_none (by simp; omega), if_neg h]; rfl

theorem fcall_eq {code : FuncId → FF} (hcode : ∀ f, code f = .bad ∨ code f = compF (baseOf C) f) (hsym : C.sym = false) : ∀ n, fcall code C n = acall C n
  | 0 => by funext f args H k; rfl
  | n + 1 => by
    have ih := fcall_eq hcode hsym n
    funext f args H k
    show @FF.rec (fun _ => Out) (acall C (Nat.succ n) f args H k)
      (fun np ps blank cd res => @Bool.rec (fun _ => Out) (acall C (Nat.succ n) f args H k)
        ((two cd).a ⟨C, fcall code C n⟩ (putAll ps args blank) H (fun F H' => fRes res F H' [] k) (fun e => @AEx.rec (fun _ => Tr → Heap → Out) (fun _ _ => .fail) (fun _ _ _ => .fail) (fun _ _ _ => .fail) (fun F H' => fRes res F H' [] k) e))
        (Nat.beq (lenL args) np)) (code f) = _
    rw [ih]
    rcases hcode f with hcf | hcf
    · rw [hcf]
    rw [hcf]
    simp only [compF]
    have eP : (baseOf C).P = C.P := rfl
    rw [eP]
    cases hf : C.P.funcs[f]? with
    | none => rfl
    | some fn =>
      simp only []
      cases hb : fn.body with
      | none => rfl
      | some c =>
        simp only []
        cases hc : (Nat.ble fn.ntmps (2 ^ lg 12 0 fn.ntmps) && Nat.ble (fn.params.size + fn.nfree) fn.ntmps) with
        | false => rfl
        | true =>
          simp only [Bool.and_eq_true] at hc
          have hd : fn.ntmps ≤ 2 ^ lg 12 0 fn.ntmps := Nat.le_of_ble_eq_true hc.1
          have hnp : fn.params.size + fn.nfree ≤ fn.ntmps := Nat.le_of_ble_eq_true hc.2
          generalize lg 12 0 fn.ntmps = d at hd
          simp only [cond_true]
          refine beq_rec (fun hl => ?_) fun _ => rfl
          rw [lenL_eq] at hl
          have e0 : putAll ((List.range (fn.params.size + fn.nfree)).map (pa d)) args (encF d fun _ => undefA) = enc d (initT 0 args fn.ntmps) := by
            have := putAll_ok (d := d) hd args 0 (T := List.replicate fn.ntmps undefA) (by simp) (by omega)
            rw [List.range_eq_range', ← hl]
            have hbl : enc d (List.replicate fn.ntmps undefA) = encF d fun _ => undefA := enc_blank _ _ fun n => by
              rw [getL_eq, List.getD_eq_getElem?_getD, List.getElem?_replicate]
              split <;> rfl
            rw [← hbl, this, initT_eq]
            congr 1
            simp
          rw [e0]
          simp only [acall, hf, hb]
          have hm : (initT 0 args fn.ntmps).length = fn.ntmps := by rw [initT_eq]; simp; omega
          have e1 : (decide (locMask fn c < Nat.pow 2 fn.ntmps) && decide (locMask fn c % Nat.pow 2 args.length = 0)) = true := by
            simp only [locMask, Bool.and_eq_true, decide_eq_true_eq]
            exact ⟨decide_eq_true (Nat.two_pow_pos _), by simp⟩
          rw [e1]
          simp only [cond_true]
          have key := fun {Kn Kf K} (hK : Agree d fn.ntmps Kn Kf K) => (compC_ok (C := C) (d := d) (call := acall C n) hsym hd fn.tmpNames c (T := initT 0 args fn.ntmps) (H := H) (Kn := Kn) (Kf := Kf) (K := K) hm hK).1
          refine key ⟨fun T' H' hm' => fRes_ok (by omega) _, fun e T' H' he hm' => ?_⟩
          cases e with
          | normal => exact (he rfl).elim
          | exit id => rfl
          | goto l => rfl
          | ret => exact fRes_ok (by omega) _
end

/-! ### runs -/
noncomputable def runF (code : FuncId → FF) (C : Ctx) (d : Nat) (f : FuncId) (args : List AV) : Out := fcall code C d f args [] fun r H => fzF r H .leaf

theorem runF_eq {code : FuncId → FF} {C : Ctx} (hcode : ∀ f, code f = .bad ∨ code f = compF (baseOf C) f) (hsym : C.sym = false) (d : Nat) (f : FuncId) (args : List AV) : runF code C d f args = runOut C d f args := by
  unfold runF runOut callPure
  rw [fcall_eq hcode hsym]
  simp only [fzF_eq]
  rfl

/-- A run by code that was made ready ahead. -/
theorem RunIs.code {code : FuncId → FF} {C : Ctx} {d : Nat} {fs : Facts} {f : FuncId} {args : List AV} {o : Out} (hcode : ∀ f, code f = .bad ∨ code f = compF (baseOf C) f) (hsym : C.sym = false) (h : prune fs (runF code C d f args) = o) :
    RunIs C d fs f args o := by
  unfold RunIs
  rw [← runF_eq hcode hsym]
  exact h

/-- A run by code that is made ready as it is met. -/
theorem RunIs.fast {C : Ctx} {d : Nat} {fs : Facts} {f : FuncId} {args : List AV} {o : Out} (hsym : C.sym = false) (h : prune fs (runF (compF (baseOf C)) C d f args) = o) : RunIs C d fs f args o :=
  RunIs.code (fun _ => .inr rfl) hsym h
end Go.Proofs.Ytdafainfcegfkaa
