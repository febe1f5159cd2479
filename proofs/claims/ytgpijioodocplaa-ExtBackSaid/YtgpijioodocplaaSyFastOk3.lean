/- The fast evaluator tells what the evaluator tells: each operation; regions, code, calls. -/
import Derived.Test.YtgpijioodocplaaSyFastOkC
set_option linter.unusedVariables false
set_option linter.unusedSectionVars false
set_option linter.unusedSimpArgs false
namespace Go.Proofs.Ytgpijioodocplaa
open Go Go.RowKit

section
variable {σ : Type} {E : EnvO σ} (hE : EnvOk E) {C : Ctx} {m : Nat} {T : Tmps} {call : Caller} {H : Heap} {k : KV}

include hE in
theorem genG_ok (hd : T.length ≤ E.cap) (o : Oper) : genG ⟨E.look, o⟩ ⟨C, call⟩ (E.enc (getL T)) H k = aop C call o (getL T) H k := by
  show aop C call o (E.look (E.enc (getL T))) H k = _
  rw [look_enc hE hd]

theorem pureRun_underlying {P : Program} {t : TypeId} {td : TypeDesc} (h : P.underlying t = some td) : pureRun P (underlying t) = some td := by
  show pureRun P (match P.underlying t with | some d => pure d | none => stuck "no such type") = _
  rw [h]; rfl

theorem genOp_conv {C : Ctx} {T : Look} {o : Oper} {src dst : TypeId} {x : Operand} {ts td : TI} {kk kd : IntKind} {n : Int} {k : AV → Out} (ho : o.op = .convert src dst x) (hx : ev C T x = .tc (.sc (.int kk n)))
    (hs : tinfo C src = some ts) (ht : tinfo C dst = some td) (hu : td.under = .int kd) : genOp C o T k = k (.tc (.sc (.int kd (kd.wrap n)))) := by
  letI : Obs := ⟨⟨fun _ => 0, fun _ => false, fun _ => ByteArray.empty, fun _ _ => undef⟩, fun _ => True⟩
  obtain ⟨_, _, hs2, _⟩ := tinfo_ok hs
  obtain ⟨_, _, ht2, _⟩ := tinfo_ok ht
  rw [hu] at ht2
  have e1 : mapO (fun x => toVal (ev C T x)) o.op.operands.toList = some [.int kk n] := by
    rw [ho]
    simp only [Op.operands, mapO, hx, toVal]
  have e2 : pureRun C.P (execOp (fun x => (toVal (ev C T x)).getD undef) o) = some (.value (.int kd (kd.wrap n))) := by
    unfold execOp
    rw [ho]
    simp only [hx, toVal, Option.getD_some, convert]
    rw [pureRun_bind, pureRun_bind, pureRun_underlying hs2]
    simp only [Option.bind_some]
    rw [pureRun_bind, pureRun_underlying ht2]
    simp only [Option.bind_some]
    generalize ts.under = u
    cases u <;> rfl
  unfold genOp
  rw [e1, e2]
  rfl

include hE in
theorem fBn_ok (hd : T.length ≤ E.cap) {o : Oper} {op : BinOp} {t ty : TypeId} {x y : Operand} (ho : o.op = .binOp op t x y ty) :
    fBn op (cO E (baseOf C) x) (cO E (baseOf C) y) ⟨E.look, o⟩ ⟨C, call⟩ (E.enc (getL T)) H k = aop C call o (getL T) H k := by
  unfold fBn bn0
  rw [evF_cO hE hd, evF_cO hE hd, genG_ok hE hd]
  obtain ⟨dst0, op0, type0, pos0, after0, guard0⟩ := o
  simp only at ho
  subst ho
  have ha : aop C call ⟨dst0, .binOp op t x y ty, type0, pos0, after0, guard0⟩ (getL T) H k = match aggEq C t (ev C (getL T) x) (ev C (getL T) y) with
    | some e => aggOp op e fun v => k v H
    | none => match toVal (ev C (getL T) x), toVal (ev C (getL T) y) with
    | some _, some _ => genOp C ⟨dst0, .binOp op t x y ty, type0, pos0, after0, guard0⟩ (getL T) fun v => k v H
    | _, _ => match asSx (ev C (getL T) x), asSx (ev C (getL T) y) with
     | some _, some _ => symOp C ⟨dst0, .binOp op t x y ty, type0, pos0, after0, guard0⟩ (getL T) fun v => k v H
     | _, _ => match op, tinfo C t with
      | .eql, some ti => eqNil ti.under (ev C (getL T) x) (ev C (getL T) y) (fun b => k (.sc (.bool b)) H)
      | .neq, some ti => eqNil ti.under (ev C (getL T) x) (ev C (getL T) y) (fun b => k (.sc (.bool (!b))) H)
      | _, _ => .fail := rfl
  have hs : symOp C ⟨dst0, .binOp op t x y ty, type0, pos0, after0, guard0⟩ (getL T) (fun v => k v H) = match asSx (ev C (getL T) x), asSx (ev C (getL T) y) with
    | some (.int kx, a), some (.int ky, b) => intOp op kx a ky b fun v => k v H
    | some (.str, a), some (.str, b) => strOp op a b fun v => k v H
    | some (.bool, a), some (.bool, b) => match tinfo C t with
      | some ti => match ti.under with | .bool => boolOp op a b (fun v => k v H) | _ => .fail
      | none => .fail
    | _, _ => .fail := rfl
  rcases vNum_cases (ev C (getL T) x) with ⟨kx, a, hx, h1⟩ | ⟨kx, e, hx, h1⟩ | h1
  · rw [h1]
    unfold bnI
    rcases vNum_cases (ev C (getL T) y) with ⟨ky, b, hy, h2⟩ | ⟨ky, f, hy, h2⟩ | h2
    · rw [h2]
      unfold bnII
      refine intF_eq fun v hp hv => ?_
      show k _ H = _
      rw [ha, hx, hy]
      simp only [aggEq, toVal]
      exact (genOp_int (k := fun v => k v H) rfl hx hy hp hv).symm
    · rw [h2, ha, hs, hx, hy]; rfl
    · rw [h2]
  · rw [h1]
    unfold bnS
    rcases vNum_cases (ev C (getL T) y) with ⟨ky, b, hy, h2⟩ | ⟨ky, f, hy, h2⟩ | h2
    · rw [h2, ha, hs, hx, hy]; rfl
    · rw [h2, ha, hs, hx, hy]; rfl
    · rw [h2]
  · rw [h1]
    refine strBin_eq (C := C) (T := getL T) (o := ⟨dst0, .binOp op t x y ty, type0, pos0, after0, guard0⟩) rfl fun a b hx hy => ?_
    rw [ha, hx, hy]
    rfl

include hE in
theorem fEqs_ok (hd : T.length ≤ E.cap) {o : Oper} {op : BinOp} {t ty : TypeId} {x y : Operand} {fs : Array Field} {l : List EF} (ho : o.op = .binOp op t x y ty) (hu : C.P.underlying t = some (.struct fs))
    (hc : (!C.P.stoodInHeld t && !C.P.eqGuardType C.P.depth t) = true) (hl : cEF (baseOf C) fs.toList = some l) :
    fEqs op l (cO E (baseOf C) x) (cO E (baseOf C) y) ⟨E.look, o⟩ ⟨C, call⟩ (E.enc (getL T)) H k = aop C call o (getL T) H k := by
  unfold fEqs
  rw [evF_cO hE hd, evF_cO hE hd, genG_ok hE hd]
  obtain ⟨dst0, op0, type0, pos0, after0, guard0⟩ := o
  simp only at ho
  subst ho
  rcases aggV_cases (ev C (getL T) x) with ⟨xs, hx, h1⟩ | h1
  · rw [h1]
    rcases aggV_cases (ev C (getL T) y) with ⟨ys, hy, h2⟩ | h2
    · rw [h2]
      refine efF_eq hl fun e b he hb => ?_
      have ha : aop C call ⟨dst0, .binOp op t x y ty, type0, pos0, after0, guard0⟩ (getL T) H k = aggOp op e fun v => k v H := by
        have hq : aggEq C t (ev C (getL T) x) (ev C (getL T) y) = some e := by
          rw [hx, hy]
          simp only [aggEq, hu, hc, he]
        simp only [aop, qop, hq]
      rw [ha]
      unfold aggOp
      rw [hb]
      cases op <;> rfl
    · rw [h2]
  · rw [h1]

include hE in
theorem fCv_ok (hd : T.length ≤ E.cap) {o : Oper} {src dst : TypeId} {x : Operand} {ts td : TI} {kd : IntKind} (ho : o.op = .convert src dst x) (hs : tinfo C src = some ts) (ht : tinfo C dst = some td) (hu : td.under = .int kd) :
    fCv kd (cO E (baseOf C) x) ⟨E.look, o⟩ ⟨C, call⟩ (E.enc (getL T)) H k = aop C call o (getL T) H k := by
  unfold fCv
  rw [evF_cO hE hd, genG_ok hE hd]
  obtain ⟨dst0, op0, type0, pos0, after0, guard0⟩ := o
  simp only at ho
  subst ho
  have ha : aop C call ⟨dst0, .convert src dst x, type0, pos0, after0, guard0⟩ (getL T) H k = match ev C (getL T) x with
    | .tc (.sc _) => genOp C ⟨dst0, .convert src dst x, type0, pos0, after0, guard0⟩ (getL T) fun v => k v H
    | .tc (.sy _ _) => symOp C ⟨dst0, .convert src dst x, type0, pos0, after0, guard0⟩ (getL T) fun v => k v H
    | v => bytesStr C H src dst v fun v => k v H := rfl
  rcases vNum_cases (ev C (getL T) x) with ⟨kx, a, hx, h1⟩ | ⟨kx, e, hx, h1⟩ | h1
  · rw [h1, ha, hx]
    simp only []
    rw [genOp_conv rfl hx hs ht hu, wrapF_eq]
  · rw [h1, ha, hx]
    simp only [symOp, hs, ht, hx, asSx, hu]
  · rw [h1]

include hE in
theorem fIa_ok (hd : T.length ≤ E.cap) {o : Oper} {t e : TypeId} {x i : Operand} {ti et : TI} (ho : o.op = .indexAddr t x i) (ht : tinfo C t = some ti) (hu : ti.under = .slice e) (he : tinfo C e = some et) :
    fIa et.size (cO E (baseOf C) x) (cO E (baseOf C) i) ⟨E.look, o⟩ ⟨C, call⟩ (E.enc (getL T)) H k = aop C call o (getL T) H k := by
  unfold fIa
  rw [evF_cO hE hd, evF_cO hE hd, genG_ok hE hd]
  obtain ⟨dst0, op0, type0, pos0, after0, guard0⟩ := o
  simp only at ho
  subst ho
  have ha : aop C call ⟨dst0, .indexAddr t x i, type0, pos0, after0, guard0⟩ (getL T) H k = indexA ti (some et) (ev C (getL T) x) (ev C (getL T) i) fun v => k v H := by
    simp only [aop, qop, ht, hu, he]
  rcases vNum_cases (ev C (getL T) i) with ⟨kx, a, hx, h1⟩ | ⟨kx, f, hx, h1⟩ | h1
  · rw [h1, ha]
    exact iaV_eq hu hx
  · rw [h1]
  · rw [h1]

include hE in
theorem fCall_ok (hd : T.length ≤ E.cap) {o : Oper} {f : FuncId} {fn : Func} {args : Array Operand} {ats : Array TypeId} (ho : o.op = .call { callee := .value (.func f), args := args, argTypes := ats })
    (hf : C.P.funcs[f]? = some fn) (he : entered fn = true) :
    fCall f (args.toList.map (cO E (baseOf C))) ⟨E.look, o⟩ ⟨C, call⟩ (E.enc (getL T)) H k = aop C call o (getL T) H k := by
  unfold fCall
  rw [genG_ok hE hd, evs_cO hE hd]
  obtain ⟨dst0, op0, type0, pos0, after0, guard0⟩ := o
  simp only at ho
  subst ho
  have ha : aop C call ⟨dst0, .call { callee := .value (.func f), args := args, argTypes := ats }, type0, pos0, after0, guard0⟩ (getL T) H k = callA C call f (args.toList.map (ev C (getL T))) H k := by
    simp only [aop, ev, target, scs, Array.toList_empty, List.map_nil, List.nil_append, List.append_nil, hf, he, cond_true]
  cases hp : C.pure f with
  | false =>
    show call f (args.toList.map (ev C (getL T))) H k = _
    rw [ha]
    simp only [callA, hp]
  | true =>
    show @Bool.rec (fun _ => Out) _ _ (allB treeF (args.toList.map (ev C (getL T)))) = _
    cases h : allB treeF (args.toList.map (ev C (getL T))) with
    | false => rfl
    | true =>
      rw [allB_eq treeF_eq] at h
      show @Option.rec _ (fun _ => Out) (call f (args.toList.map (ev C (getL T))) [] fun r H' => fzF r H' fun t => k t H) (fun sm => @Option.rec _ (fun _ => Out) (call f (args.toList.map (ev C (getL T))) [] fun r H' => fzF r H' fun t => k t H) (fun r => k r H) (sm (args.toList.map (ev C (getL T))))) (C.summ f) = _
      rw [ha]
      cases hsm : C.summ f with
      | none =>
        show call f (args.toList.map (ev C (getL T))) [] (fun r H' => fzF r H' fun t => k t H) = _
        simp only [callA, hp, h, callT, hsm, callPure, fzF_eq]
        rfl
      | some sm =>
        simp only [callA, hp, h, callT, hsm]
        cases sm (args.toList.map (ev C (getL T))) with
        | some r => rfl
        | none =>
          show call f (args.toList.map (ev C (getL T))) [] (fun r H' => fzF r H' fun t => k t H) = _
          simp only [callPure, fzF_eq]
          rfl

include hE in
theorem fBs_ok (hd : T.length ≤ E.cap) {o : Oper} {t e : TypeId} {n : Nat} {ps : Array (Nat × Operand)} {ti et : TI} {z : List TC} (ho : o.op = .buildSlice t n ps) (ht : tinfo C t = some ti) (hu : ti.under = .slice e) (he : tinfo C e = some et)
    (hz : zeroCellsA et = some z) (hc : (decide (n * et.size ≤ 2 ^ 24) && decide (et.size ≠ 0) && decide (z.length = et.size) && (tcs z).all cellOk) = true) :
    fBs et.size n (List.replicate n (tcs z)) (ps.toList.map fun p => .mk p.1 et.size (cO E (baseOf C) p.2)) ⟨E.look, o⟩ ⟨C, call⟩ (E.enc (getL T)) H k = aop C call o (getL T) H k := by
  unfold fBs
  rw [genG_ok hE hd]
  obtain ⟨dst0, op0, type0, pos0, after0, guard0⟩ := o
  simp only at ho
  subst ho
  refine rpF_eq hE hd (fun r hr => ?_) fun rows hrows => ?_
  · rw [List.eq_of_mem_replicate hr]
    simp only [Bool.and_eq_true, decide_eq_true_eq] at hc
    simp [tcs, hc.1.2]
  · rw [newObj_eq, lenL_eq, appL_eq]
    simp only [aop, ht, buildSliceA, hu, he, hz, hc, cond_true, hrows]

include hE in
theorem fBt_ok (hd : T.length ≤ E.cap) {o : Oper} {t e : TypeId} {n : Nat} {ps : Array (Nat × Operand)} {ti et : TI} {z : List TC} (ho : o.op = .buildSlice t n ps) (ht : tinfo C t = some ti) (hu : ti.under = .slice e) (he : tinfo C e = some et)
    (hz : zeroCellsA et = some z) (hc : (decide (n * et.size ≤ 2 ^ 24) && decide (et.size ≠ 0) && decide (z.length = et.size) && (tcs z).all cellOk) = true) :
    fBt et.size (List.replicate n (tcs z)) (ps.toList.map fun p => .mk p.1 et.size (cO E (baseOf C) p.2)) ⟨E.look, o⟩ ⟨C, call⟩ (E.enc (getL T)) H k = aopQ C call o (getL T) H fun v => k v H := by
  have gq : genQ (⟨E.look, o⟩ : GI σ) ⟨C, call⟩ (E.enc (getL T)) H k = aopQ C call o (getL T) H fun v => k v H := by
    show aopQ C call o (E.look (E.enc (getL T))) H (fun v => k v H) = _
    rw [look_enc hE hd]
  unfold fBt
  rw [gq]
  clear gq
  obtain ⟨dst0, op0, type0, pos0, after0, guard0⟩ := o
  simp only at ho
  subst ho
  refine rpF_eq hE hd (fun r hr => ?_) fun rows hrows => ?_
  · rw [List.eq_of_mem_replicate hr]
    simp only [Bool.and_eq_true, decide_eq_true_eq] at hc
    simp [tcs, hc.1.2]
  · simp only [aopQ, ht, buildTreeA, hu, he, hz, hc, cond_true, hrows]
    rcases rowsTCK_eq rows (kt := fun l => k (.tc (.sl et.size l)) H) (z := .fail) with ⟨h1, h2⟩ | ⟨l, h1, h2⟩
    · rw [h1, h2]
    · rw [h2, h1]

theorem genOp_ss {C : Ctx} {T : Look} {o : Oper} {t : TypeId} {ti : TI} {x : Operand} {lo hi : Option Operand} {s : ByteArray} {l h : Int} {k : AV → Out} (ho : o.op = .slice t x lo hi none) (ht : tinfo C t = some ti) (hu : ti.under = .string)
    (hx : ev C T x = .tc (.sc (.string s))) (hlo : (lo = none ∧ l = 0) ∨ ∃ y kk, lo = some y ∧ ev C T y = .tc (.sc (.int kk l))) (hhi : (hi = none ∧ h = s.size) ∨ ∃ y kk, hi = some y ∧ ev C T y = .tc (.sc (.int kk h)))
    (h0 : 0 ≤ l) (h1 : l ≤ h) (h2 : h ≤ s.size) : genOp C o T k = k (.tc (.sc (.string (s.extract l.toNat h.toNat)))) := by
  letI : Obs := ⟨⟨fun _ => 0, fun _ => false, fun _ => ByteArray.empty, fun _ _ => undef⟩, fun _ => True⟩
  obtain ⟨_, _, ht2, _⟩ := tinfo_ok ht
  rw [hu] at ht2
  have hund : pureRun C.P (underlying t) = some .string := by
    show pureRun C.P (match C.P.underlying t with | some d => pure d | none => stuck "no such type") = _
    rw [ht2]; rfl
  have e1 : ∃ vs, mapO (fun x => toVal (ev C T x)) o.op.operands.toList = some vs := by
    rw [ho]
    rcases hlo with ⟨rfl, _⟩ | ⟨y, kk, rfl, hy⟩ <;> rcases hhi with ⟨rfl, _⟩ | ⟨z, kz, rfl, hz⟩ <;> simp [Op.operands, mapO, hx, toVal, *]
  have elo : (lo.map (fun x => (toVal (ev C T x)).getD undef) = none ∧ l = 0) ∨ ∃ kk, lo.map (fun x => (toVal (ev C T x)).getD undef) = some (.int kk l) := by
    rcases hlo with ⟨rfl, h⟩ | ⟨y, kk, rfl, hy⟩
    · exact .inl ⟨rfl, h⟩
    · exact .inr ⟨kk, by simp [hy, toVal]⟩
  have ehi : (hi.map (fun x => (toVal (ev C T x)).getD undef) = none ∧ h = s.size) ∨ ∃ kk, hi.map (fun x => (toVal (ev C T x)).getD undef) = some (.int kk h) := by
    rcases hhi with ⟨rfl, h⟩ | ⟨y, kk, rfl, hy⟩
    · exact .inl ⟨rfl, h⟩
    · exact .inr ⟨kk, by simp [hy, toVal]⟩
  have hb := pure_bounds (P := C.P) elo ehi h0 h1 h2
  have hI : pureRun C.P (Instr.slice t (.string s) (lo.map (fun x => (toVal (ev C T x)).getD undef)) (hi.map (fun x => (toVal (ev C T x)).getD undef)) none) = some (.string (s.extract l.toNat h.toNat)) := by
    unfold Instr.slice
    rw [pureRun_bind, hund]
    simp only [Option.bind_some, Option.isSome_none, Bool.false_eq_true, if_false]
    rw [pureRun_bind, hb]
    rfl
  have e2 : pureRun C.P (execOp (fun x => (toVal (ev C T x)).getD undef) o) = some (.value (.string (s.extract l.toNat h.toNat))) := by
    obtain ⟨dst0, op0, type0, pos0, after0, guard0⟩ := o
    simp only at ho
    subst ho
    show pureRun C.P (do pure (Next.value (← Instr.sliceAt t ((toVal (ev C T x)).getD undef) (lo.map (fun x => (toVal (ev C T x)).getD undef)) (hi.map (fun x => (toVal (ev C T x)).getD undef)) none))) = _
    have ex : (toVal (ev C T x)).getD undef = .string s := by rw [hx]; rfl
    rw [ex, pureRun_bind]
    have hat : pureRun C.P (Instr.sliceAt t (.string s) (lo.map (fun x => (toVal (ev C T x)).getD undef)) (hi.map (fun x => (toVal (ev C T x)).getD undef)) none) = some (.string (s.extract l.toNat h.toNat)) := by
      first
        | exact hI
        | (unfold Instr.sliceAt; rw [pureRun_bind, hund]; exact hI)
    rw [hat]
    rfl
  obtain ⟨vs, e1⟩ := e1
  unfold genOp
  rw [e1, e2]
  rfl

include hE in
theorem compA_ok (hd : T.length ≤ E.cap) (o : Oper) : fA (compA E (baseOf C) o) ⟨C, call⟩ (E.enc (getL T)) H k = aop C call o (getL T) H k := by
  have gen := genG_ok hE (C := C) (call := call) (H := H) (k := k) hd o
  obtain ⟨dst0, op0, type0, pos0, after0, guard0⟩ := o
  cases op0
  case move x =>
    show k (cO E (baseOf C) x (E.enc (getL T))) H = _
    rw [evF_cO hE hd]; rfl
  case assign x =>
    show k (cO E (baseOf C) x (E.enc (getL T))) H = _
    rw [evF_cO hE hd]; rfl
  case pick c a b =>
    show condF (cO E (baseOf C) c (E.enc (getL T))) (k (cO E (baseOf C) a (E.enc (getL T))) H) (k (cO E (baseOf C) b (E.enc (getL T))) H) = _
    rw [evF_cO hE hd, evF_cO hE hd, evF_cO hE hd, condF_eq]; rfl
  case nilCheck x =>
    show fNilV (cO E (baseOf C) x (E.enc (getL T))) (fun v => k v H) (genG ⟨E.look, _⟩ ⟨C, call⟩ (E.enc (getL T)) H k) = _
    rw [gen, evF_cO hE hd]
    cases hv : ev C (getL T) x <;> first | rfl | (simp only [aop, qop, hv]; rfl)
  case unOp op t x =>
    cases op
    case not =>
      show notV (cO E (baseOf C) x (E.enc (getL T))) (fun v => k v H) (genG ⟨E.look, _⟩ ⟨C, call⟩ (E.enc (getL T)) H k) = _
      rw [gen, evF_cO hE hd]
      exact notV_eq (o := ⟨dst0, .unOp .not t x, type0, pos0, after0, guard0⟩) rfl rfl
    all_goals exact gen
  case alloc t =>
    simp only [compA, cAl, tinfo_base]
    cases ht : tinfo C t with
    | none => simp only [aop, ht]; rfl
    | some ti =>
      simp only []
      cases hz : zeroCellsA ti with
      | none => simp only [aop, ht, hz]; rfl
      | some z =>
        simp only []
        cases hc : (decide (z.length = ti.size) && decide (ti.size ≠ 0) && (tcs z).all cellOk) with
        | false =>
          simp only [aop, ht, hz, allocA, tcs, List.length_map] at hc ⊢
          rw [hc]; rfl
        | true =>
          show k (.ptr (lenL H) ti.size 0 0 1) (appL H (.tcells ti.size [z])) = _
          simp only [aop, ht, hz, allocA, tcs, List.length_map] at hc ⊢
          rw [hc, lenL_eq, appL_eq, cond_true]
          have := newCells_tcs ti.size z
          simp only [tcs] at this
          rw [this]
  case box t x =>
    simp only [compA, cBx, tinfo_base]
    cases ht : tinfo C t with
    | none => exact gen
    | some ti =>
      show fBx ti.size (cO E (baseOf C) x) ⟨E.look, _⟩ ⟨C, call⟩ (E.enc (getL T)) H k = _
      unfold fBx
      rw [gen, evF_cO hE hd]
      have ha : aop C call ⟨dst0, .box t x, type0, pos0, after0, guard0⟩ (getL T) H k = match cellsOfA (ev C (getL T) x) with | some cs => allocA ti cs H k | none => .fail := by
        simp only [aop, ht]
        cases cellsOfA (ev C (getL T) x) <;> rfl
      refine cellsF_eq (fun c hc hok hcs => beq_rec (fun h1 => ?_) fun _ => rfl) (fun hok hn hcs => beq_rec (fun h1 => ?_) fun _ => rfl) (fun cs hc hcs => beq_rec (fun h1 => ?_) fun _ => rfl)
      · rw [ha, hcs, lenL_eq, appL_eq]
        simp only [allocA, List.length_singleton, h1, List.all_cons, hok, List.all_nil]
        rw [hc, newCells_tc]; rfl
      · rw [ha, hcs, lenL_eq, appL_eq]
        simp only [allocA, List.length_singleton, h1, List.all_cons, hok, List.all_nil]
        rw [newCells_no _ _ hn]; rfl
      · cases hall : allB okCell cs with
        | false => rfl
        | true =>
          rw [allB_eq okCell_eq] at hall
          refine beq_rec (fun _ => rfl) fun h0 => ?_
          rw [lenL_eq] at h1
          rw [ha, hcs, newObj_eq, lenL_eq, appL_eq]
          simp only [allocA, h1, hall, ne_eq, h0, not_false_eq_true, decide_true, Bool.and_self, cond_true]
  case build t ps =>
    simp only [compA, cBd, tinfo_base]
    cases ht : tinfo C t with
    | none => exact gen
    | some ti =>
      simp only []
      split
      · rename_i z fs hz hu
        cases hall : (fs.toList.all fun f => (tinfo C f.type).isSome) with
        | false => exact gen
        | true =>
          simp only [cond_true]
          split
          · rename_i l hl
            show bpF l (E.enc (getL T)) (tcs z) (fun cs => k (.agg cs) H) (genG ⟨E.look, _⟩ ⟨C, call⟩ (E.enc (getL T)) H k) = _
            rw [gen]
            refine bpF_eq hE hd hl fun r hr => ?_
            have hr' : fillA (fun i => (fs[i]?).bind fun f => (tinfo C f.type).map fun ft => (f.offset, ft.size)) (tcs z) (ps.toList.map fun p => (p.1, ev C (getL T) p.2)) = some r := hr
            simp only [aop, ht, buildA, hz, hu, hall, cond_true, hr']
          · exact gen
      · exact gen
  case buildSlice t n ps =>
    simp only [compA, cBs, tinfo_base]
    split
    · rename_i ti ht
      split
      · rename_i e hu
        split
        · rename_i et he
          split
          · rename_i z hz
            cases hc : (decide (n * et.size ≤ 2 ^ 24) && decide (et.size ≠ 0) && decide (z.length = et.size) && (tcs z).all cellOk) with
            | false => exact gen
            | true => exact fBs_ok hE hd rfl ht hu he hz hc
          · exact gen
        · exact gen
      · exact gen
    · exact gen
  case slice t x lo hi mx =>
    simp only [compA, cSl, tinfo_base]
    split
    · rename_i ti ht
      split
      · rename_i e hu
        split
        · rename_i et he
          cases mx with
          | some m => exact gen
          | none =>
            show slV (cO E (baseOf C) x (E.enc (getL T))) et.size (lo.map (cO E (baseOf C))) (hi.map (cO E (baseOf C))) (E.enc (getL T)) (fun v => k v H) (genG ⟨E.look, _⟩ ⟨C, call⟩ (E.enc (getL T)) H k) = _
            rw [gen, evF_cO hE hd]
            refine slV_eq hE hd hu fun h1 h2 => ?_
            simp only [aop, qop, ht, hu, he]
            generalize ev C (getL T) x = v at h1 h2 ⊢
            cases v with
            | tc c => cases c with
              | sc u => exact absurd rfl (h1 u)
              | sy t e => exact absurd rfl (h2 t e)
              | sl s el => rfl
            | _ => rfl
        · exact gen
      · rename_i hu
        cases mx with
        | some m => exact gen
        | none =>
          show fSs (cO E (baseOf C) x) (lo.map (cO E (baseOf C))) (hi.map (cO E (baseOf C))) none ⟨E.look, _⟩ ⟨C, call⟩ (E.enc (getL T)) H k = _
          unfold fSs
          show vStr (cO E (baseOf C) x (E.enc (getL T))) _ _ = _
          rw [gen, evF_cO hE hd]
          rcases vStr_cases (ev C (getL T) x) with ⟨s, hx, h1⟩ | h1
          · rw [h1]
            have conv : ∀ {dflt : Int} {y : Option Operand} {n : Int}, (∀ k0 : Int → Out, boundA dflt (y.map (ev C (getL T))) k0 = k0 n) → (y = none ∧ n = dflt) ∨ ∃ z kk, y = some z ∧ ev C (getL T) z = .tc (.sc (.int kk n)) := fun {dflt y n} hy => by
              cases y with
              | none =>
                have := hy fun m => .sel (.lit m) .fail .fail
                simp only [Option.map_none, boundA, Out.sel.injEq, Sx.lit.injEq, and_true] at this
                exact .inl ⟨rfl, this.symm⟩
              | some z =>
                have := hy fun m => .sel (.lit m) .fail .fail
                simp only [Option.map_some, boundA] at this
                split at this
                · rename_i m hm
                  simp only [Out.sel.injEq, Sx.lit.injEq, and_true] at this
                  subst this
                  refine .inr ⟨z, ?_⟩
                  unfold intOf? at hm
                  split at hm
                  · rename_i kk q hq
                    simp only [Option.some.injEq] at hm
                    subst hm
                    exact ⟨kk, rfl, hq⟩
                  · cases hm
                · cases this
            refine bndF_eq hE hd fun h hh => bndF_eq hE hd fun l hl => ?_
            rw [lenL_eq, leI_eq, leI_eq, leI_eq]
            rw [lenL_eq] at hh
            cases hc : (decide (0 ≤ l) && decide (l ≤ h) && decide (h ≤ Int.ofNat s.data.toList.length)) with
            | false => rfl
            | true =>
              simp only [Bool.and_eq_true, decide_eq_true_eq] at hc
              have hsz : (s.size : Int) = Int.ofNat s.data.toList.length := by rw [Array.length_toList]; rfl
              have e := genOp_ss (C := C) (T := getL T) (o := ⟨dst0, .slice t x lo hi none, type0, pos0, after0, guard0⟩) (k := fun v => k v H) rfl ht hu hx (conv hl) (by rw [hsz]; exact conv hh) hc.1.1 hc.1.2 (by rw [hsz]; exact hc.2)
              rw [extract_list] at e
              show k (.tc (.sc (.string ⟨⟨dropF (takeF s.data.toList h.toNat) l.toNat⟩⟩))) H = _
              rw [dropF_eq, takeF_eq, ← e]
              simp only [aop, qop, hx]
          · rw [h1]
      · exact gen
    · exact gen
  case index t x i =>
    simp only [compA, cIx, tinfo_base]
    split
    · rename_i ti ht
      split
      · rename_i hu
        show fIx (cO E (baseOf C) x) (cO E (baseOf C) i) ⟨E.look, _⟩ ⟨C, call⟩ (E.enc (getL T)) H k = _
        unfold fIx
        rw [gen, evF_cO hE hd, evF_cO hE hd]
        rcases vStr_cases (ev C (getL T) x) with ⟨s, hx, h1⟩ | h1
        · rw [h1]
          rcases vNum_cases (ev C (getL T) i) with ⟨kx, n, hi, h2⟩ | ⟨kx, f, hi, h2⟩ | h2
          · rw [h2]
            cases n with
            | negSucc m => rfl
            | ofNat m =>
              show nthL s.data.toList m _ _ = _
              rw [nthL_eq]
              split
              · rename_i b hb
                exact (genOp_index (k := fun v => k v H) (o := ⟨dst0, .index t x i, type0, pos0, after0, guard0⟩) rfl ht hu hx hi hb).symm
              · rfl
          · rw [h2]
          · rw [h2]
        · rw [h1]
      · exact gen
    · exact gen
  case load t x =>
    simp only [compA, tinfo_base]
    cases ht : tinfo C t with
    | none => simp only [aop, qop, ht]; rfl
    | some ti =>
      show ldV (cO E (baseOf C) x (E.enc (getL T))) ti.agg ti.size H k = _
      rw [evF_cO hE hd, ldV_eq]; simp only [aop, qop, ht]
  case store t a x =>
    simp only [compA, tinfo_base]
    cases ht : tinfo C t with
    | none => simp only [aop, ht]; rfl
    | some ti =>
      show stV (cO E (baseOf C) a (E.enc (getL T))) (cO E (baseOf C) x (E.enc (getL T))) ti.size H k (genG ⟨E.look, _⟩ ⟨C, call⟩ (E.enc (getL T)) H k) = _
      rw [gen, evF_cO hE hd, evF_cO hE hd]
      have : aop C call ⟨dst0, .store t a x, type0, pos0, after0, guard0⟩ (getL T) H k = storeA ti (ev C (getL T) a) (ev C (getL T) x) H fun H' => k undefA H' := by simp only [aop, ht]
      rw [this]
      exact stV_eq ..
  case fieldAddr t x fd =>
    simp only [compA, cFa, tinfo_base]
    have ha : aop C call ⟨dst0, .fieldAddr t x fd, type0, pos0, after0, guard0⟩ (getL T) H k = match tinfo C t with | some t => fieldAddrA C t (ev C (getL T) x) fd (fun v => k v H) | none => .fail := rfl
    rw [ha]
    cases ht : tinfo C t with
    | none => rfl
    | some ti =>
      simp only [fieldAddrA]
      generalize ti.under = u
      cases u
      case struct fs =>
        simp only []
        cases hf : fs[fd]? with
        | none => rfl
        | some fl =>
          simp only []
          cases hft : tinfo C fl.type with
          | none => rfl
          | some ft =>
            simp only []
            cases hz : decide (ft.size ≠ 0) with
            | false => rfl
            | true =>
              show faV (cO E (baseOf C) x (E.enc (getL T))) fl.offset (fun v => k v H) = _
              rw [evF_cO hE hd]
              cases ev C (getL T) x <;> rfl
      all_goals rfl
  case field t x fd =>
    simp only [compA, cFd, tinfo_base]
    have ha : aop C call ⟨dst0, .field t x fd, type0, pos0, after0, guard0⟩ (getL T) H k = match tinfo C t with | some t => fieldA C t (ev C (getL T) x) fd (fun v => k v H) | none => .fail := rfl
    rw [ha]
    cases ht : tinfo C t with
    | none => rfl
    | some ti =>
      simp only [fieldA]
      generalize ti.under = u
      cases u
      case struct fs =>
        simp only []
        cases hf : fs[fd]? with
        | none => cases hv : ev C (getL T) x <;> simp only [hf] <;> rfl
        | some fl =>
          simp only [hf]
          cases hft : tinfo C fl.type with
          | none => cases hv : ev C (getL T) x <;> simp only [hf, hft] <;> rfl
          | some ft =>
            simp only [hft]
            show fdV (cO E (baseOf C) x (E.enc (getL T))) ft.agg ft.size fl.offset (fun v => k v H) = _
            rw [evF_cO hE hd]
            cases ev C (getL T) x
            case agg cs =>
              show @Bool.rec (fun _ => Out) (nthL cs fl.offset (fun v => k v H) .fail) (match span cs fl.offset ft.size with | some r => k (.agg r) H | none => .fail) ft.agg = _
              simp only [hf, hft, partA]
              cases ft.agg with
              | true => rfl
              | false =>
                show nthL cs fl.offset (fun v => k v H) .fail = _
                rw [nthL_eq]
                cases hsp : cs[fl.offset]? <;> simp only [hsp]
            all_goals rfl
      all_goals (simp only []; try rfl)
  case extract x i =>
    show exV (cO E (baseOf C) x (E.enc (getL T))) i (fun v => k v H) = _
    rw [evF_cO hE hd, exV_eq]; rfl
  case binOp op t x y ty =>
    simp only [compA, cBin]
    split
    · rename_i fs hu
      cases hc : (!(baseOf C).P.stoodInHeld t && !(baseOf C).P.eqGuardType (baseOf C).P.depth t) with
      | false => exact fBn_ok hE hd rfl
      | true =>
        simp only []
        split
        · rename_i l hl
          exact fEqs_ok hE hd rfl hu hc hl
        · exact fBn_ok hE hd rfl
    · exact fBn_ok hE hd rfl
  case convert src dst x =>
    simp only [compA, cCv, tinfo_base]
    split
    · rename_i ts td hs ht
      split
      · rename_i kd hu
        exact fCv_ok hE hd rfl hs ht hu
      · exact gen
    · exact gen
  case indexAddr t x i =>
    simp only [compA, cIa, tinfo_base]
    split
    · rename_i ti ht
      split
      · rename_i e hu
        split
        · rename_i et he
          exact fIa_ok hE hd rfl ht hu he
        · exact gen
      · exact gen
    · exact gen
  case makeFunc fn first cap =>
    show k (.func fn (evs (first.toList.map (cO E (baseOf C))) (E.enc (getL T))) (evs (cap.toList.map (cO E (baseOf C))) (E.enc (getL T)))) H = _
    rw [evs_cO hE hd, evs_cO hE hd]; rfl
  case call c =>
    obtain ⟨callee, args, ats⟩ := c
    simp only [compA, cCall, tinfo_base]
    split
    · rename_i _ f
      split
      · rename_i fn hf
        cases he : entered fn with
        | true => exact fCall_ok hE hd rfl hf he
        | false =>
          cases hx : isIdx fn with
          | false => exact gen
          | true =>
            show externA (evs (args.toList.map (cO E (baseOf C))) (E.enc (getL T))) (fun v => k v H) = _
            rw [evs_cO hE hd]
            have hf' : C.P.funcs[f]? = some fn := hf
            simp only [aop, ev, target, scs, Array.toList_empty, List.map_nil, List.nil_append, List.append_nil, hf', he, hx, cond_true, _root_.cond_false]
      · exact gen
    · split
      · rename_i s x st xt hargs hts
        split
        · rename_i sti xti hst hxt
          split
          · rename_i e hu
            split
            · rename_i et he
              split
              · rename_i z hz
                have ha : aop C call ⟨dst0, .call { callee := .builtin .append, args := args, argTypes := ats }, type0, pos0, after0, guard0⟩ (getL T) H k =
                    cond (decide (z.length = et.size) && decide (et.size ≠ 0)) (srcRows H et (isIntD xti.under) z (ev C (getL T) x) fun rows => appendA et (ev C (getL T) s) rows H k) .fail := by
                  simp only [aop, hargs, hts, hst, hxt, hu, he, hz]
                cases hc : (decide (z.length = et.size) && decide (et.size ≠ 0)) with
                | false => rw [ha, hc]; rfl
                | true =>
                  simp only [cond_true]
                  cases hi : isIntD xti.under with
                  | true => exact gen
                  | false =>
                    show srcRows H (tiOf et.size et.bytes) false [] (cO E (baseOf C) x (E.enc (getL T))) (fun rows => appendA (tiOf et.size et.bytes) (cO E (baseOf C) s (E.enc (getL T))) rows H k) = _
                    rw [ha, hc, hi, evF_cO hE hd, evF_cO hE hd]
                    rfl
              · rename_i hz; simp only [aop, hargs, hts, hst, hxt, hu, he, hz]; rfl
            · rename_i he; simp only [aop, hargs, hts, hst, hxt, hu, he]; rfl
          · rename_i hu
            simp only [aop, hargs, hts, hst, hxt]
            rfl
        · rename_i hno
          simp only [aop, hargs, hts]
          rfl
      · rename_i hno
        simp only [aop]
        rfl
    · split
      · rename_i x t hargs hts
        split
        · rename_i ti ht
          split
          · rename_i e hu
            show lenV (cO E (baseOf C) x (E.enc (getL T))) (fun v => k v H) (genG ⟨E.look, _⟩ ⟨C, call⟩ (E.enc (getL T)) H k) = _
            rw [gen, evF_cO hE hd]
            refine lenV_eq (fun _ _ => rfl) fun h1 h2 => ?_
            simp only [aop, qop, hargs, hts, ht, hu]
          · rename_i hu
            show fLs (cO E (baseOf C) x) ⟨E.look, _⟩ ⟨C, call⟩ (E.enc (getL T)) H k = _
            unfold fLs
            rw [gen, evF_cO hE hd]
            rcases vStr_cases (ev C (getL T) x) with ⟨s, hx, h1⟩ | h1
            · rw [h1]
              have := genOp_len (k := fun v => k v H) (C := C) (T := getL T) (o := ⟨dst0, .call { callee := .builtin .len, args := args, argTypes := ats }, type0, pos0, after0, guard0⟩) rfl hargs hts ht hu hx
              simp only [aop, qop, hargs, hx]
              exact this.symm
            · rw [h1]
          · exact gen
        · exact gen
      · exact gen
    · exact gen
  all_goals exact gen
end
end Go.Proofs.Ytgpijioodocplaa
