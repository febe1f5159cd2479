/- The fast evaluator tells what the evaluator tells: strings, structs and slices that are written out. -/
import Derived.Test.YtgpijioodocplaaSyFastOk2
set_option linter.unusedVariables false
set_option linter.unusedSectionVars false
set_option linter.unusedSimpArgs false
namespace Go.Proofs.Ytgpijioodocplaa
open Go Go.RowKit

theorem vStr_cases (v : AV) : (∃ s, v = .tc (.sc (.string s)) ∧ ∀ f z, vStr v f z = f s) ∨ (∀ f z, vStr v f z = z) := by
  cases v with
  | tc c =>
    cases c with
    | sc u =>
      cases u
      case string s => exact .inl ⟨s, rfl, fun _ _ => rfl⟩
      all_goals exact .inr fun _ _ => rfl
    | _ => exact .inr fun _ _ => rfl
  | _ => exact .inr fun _ _ => rfl

theorem vB2_cases (v : AV) : (∃ b, v = .tc (.sc (.bool b)) ∧ ∀ f z, vB2 v f z = f b) ∨ (∀ f z, vB2 v f z = z) := by
  cases v with
  | tc c =>
    cases c with
    | sc u =>
      cases u
      case bool s => exact .inl ⟨s, rfl, fun _ _ => rfl⟩
      all_goals exact .inr fun _ _ => rfl
    | _ => exact .inr fun _ _ => rfl
  | _ => exact .inr fun _ _ => rfl

theorem strEq_eq : ∀ (a b : List UInt8), strEq a b = decide (a = b)
  | [], [] => rfl
  | [], b :: r => rfl
  | a :: r, [] => rfl
  | a :: r, b :: q => by
    show @Bool.rec (fun _ => Bool) false (strEq r q) (Nat.beq (UInt8.toNat a) (UInt8.toNat b)) = _
    rw [strEq_eq r q, beq_dec]
    by_cases h : a = b
    · subst h; simp
    · have : ¬ a.toNat = b.toNat := fun hh => h (UInt8.toNat_inj.1 hh)
      simp [this, h]

theorem bytes_toList2 (s : ByteArray) : s.toList = s.data.toList := by
  letI : Obs := ⟨⟨fun _ => 0, fun _ => false, fun _ => ByteArray.empty, fun _ _ => undef⟩, fun _ => True⟩
  exact bytes_toList s

theorem bytes_list (s t : ByteArray) : (s.toList == t.toList) = strEq s.data.toList t.data.toList := by
  rw [strEq_eq, bytes_toList2, bytes_toList2]
  rw [Bool.eq_iff_iff]; simp

section
variable {C : Ctx} {T : Look} {H : Heap}

theorem genOp_str {o : Oper} {op : BinOp} {t ty : TypeId} {x y : Operand} {a b : ByteArray} {v : Value} {k : AV → Out} (ho : o.op = .binOp op t x y ty) (hx : ev C T x = .tc (.sc (.string a))) (hy : ev C T y = .tc (.sc (.string b)))
    (hp : Op.stringOp op a b = pure v) (hb : binOp op t (.string a) (.string b) = Op.stringOp op a b) (hv : ofRes v = .tc (.sc v)) : genOp C o T k = k (.tc (.sc v)) := by
  have e1 : mapO (fun x => toVal (ev C T x)) o.op.operands.toList = some [.string a, .string b] := by
    rw [ho]
    simp only [Op.operands, mapO, hx, hy, toVal]
  have e0 : pureRun C.P (eqGuard op t x y (.string a) (.string b)) = some () := by cases op <;> rfl
  have e2 : pureRun C.P (execOp (fun x => (toVal (ev C T x)).getD undef) o) = some (.value v) := by
    unfold execOp
    rw [ho]
    simp only [hx, hy, toVal, Option.getD_some]
    rw [pureRun_bind, pureRun_bind, e0]
    simp only [Option.bind_some, hb, hp]
    rfl
  unfold genOp
  rw [e1, e2]
  show k (ofRes v) = _
  rw [hv]

theorem strBin_eq {o : Oper} {op : BinOp} {t ty : TypeId} {x y : Operand} {k : AV → Out} (ho : o.op = .binOp op t x y ty) {z : Out}
    (hz : ∀ a b, ev C T x = .tc (.sc (.string a)) → ev C T y = .tc (.sc (.string b)) → z = genOp C o T k) : strBin op (ev C T x) (ev C T y) k z = z := by
  unfold strBin
  rcases vStr_cases (ev C T x) with ⟨a, hx, h1⟩ | h1
  · rw [h1]
    rcases vStr_cases (ev C T y) with ⟨b, hy, h2⟩ | h2
    · rw [h2]
      cases op
      case eql =>
        show retB (strEq a.data.toList b.data.toList) k = z
        rw [hz a b hx hy, genOp_str (v := .bool (a.toList == b.toList)) ho hx hy rfl rfl rfl, bytes_list]; rfl
      case neq =>
        show retB (Bool.not (strEq a.data.toList b.data.toList)) k = z
        rw [hz a b hx hy, genOp_str (v := .bool (!(a.toList == b.toList))) ho hx hy rfl rfl rfl, bytes_list]; rfl
      all_goals rfl
    · rw [h2]
  · rw [h1]

theorem genOp_not {o : Oper} {t : TypeId} {x : Operand} {b : Bool} {k : AV → Out} (ho : o.op = .unOp .not t x) (hx : ev C T x = .tc (.sc (.bool b))) : genOp C o T k = k (.tc (.sc (.bool (!b)))) := by
  have e1 : mapO (fun x => toVal (ev C T x)) o.op.operands.toList = some [.bool b] := by
    rw [ho]
    simp only [Op.operands, mapO, hx, toVal]
  have e2 : pureRun C.P (execOp (fun x => (toVal (ev C T x)).getD undef) o) = some (.value (.bool !b)) := by
    unfold execOp
    rw [ho]
    simp only [hx, toVal, Option.getD_some]
    rfl
  unfold genOp
  rw [e1, e2]
  rfl

theorem notV_eq {o : Oper} {t : TypeId} {x : Operand} {k : AV → Out} (ho : o.op = .unOp .not t x) {z : Out} (hz : z = genOp C o T k) : notV (ev C T x) k z = z := by
  generalize hv : ev C T x = v
  cases v with
  | tc c =>
    cases c with
    | sc u =>
      cases u
      case bool b =>
        show k _ = z
        rw [hz, genOp_not ho hv]
      all_goals rfl
    | sl s el => rfl
    | sy ty e =>
      cases ty
      case bool =>
        show k _ = z
        rw [hz]
        have e1 : mapO (fun x => toVal (ev C T x)) o.op.operands.toList = none := by
          rw [ho]
          simp only [Op.operands, mapO, hv, toVal]
        unfold genOp
        rw [e1]
        simp only [symOp, ho, hv, asSx]
      all_goals rfl
  | _ => rfl

theorem bytes_get (s : ByteArray) (m : Nat) : s[m]? = s.data.toList[m]? := by
  have hsz : s.size = s.data.size := rfl
  by_cases h : m < s.size
  · rw [getElem?_pos s m h, List.getElem?_eq_getElem (by simp; omega)]
    rfl
  · rw [getElem?_neg s m h, List.getElem?_eq_none (by simp; omega)]

theorem genOp_index {o : Oper} {t : TypeId} {ti : TI} {x i : Operand} {s : ByteArray} {kk : IntKind} {m : Nat} {b : UInt8} {k : AV → Out} (ho : o.op = .index t x i) (ht : tinfo C t = some ti) (hu : ti.under = .string) (hx : ev C T x = .tc (.sc (.string s)))
    (hi : ev C T i = .tc (.sc (.int kk (Int.ofNat m)))) (hb : s.data.toList[m]? = some b) : genOp C o T k = k (.tc (.sc (.int .u8 (Int.ofNat b.toNat)))) := by
  letI : Obs := ⟨⟨fun _ => 0, fun _ => false, fun _ => ByteArray.empty, fun _ _ => undef⟩, fun _ => True⟩
  obtain ⟨_, _, ht2, _⟩ := tinfo_ok ht
  rw [hu] at ht2
  have e1 : mapO (fun x => toVal (ev C T x)) o.op.operands.toList = some [.string s, .int kk (Int.ofNat m)] := by
    rw [ho]
    simp only [Op.operands, mapO, hx, hi, toVal]
  have hund : pureRun C.P (underlying t) = some .string := by
    show pureRun C.P (match C.P.underlying t with | some d => pure d | none => stuck "no such type") = _
    rw [ht2]; rfl
  have hI : pureRun C.P (Instr.index t (.string s) (.int kk (Int.ofNat m))) = some (.int .u8 (Int.ofNat b.toNat)) := by
    unfold Instr.index
    rw [pureRun_bind]
    show (some (kk, Int.ofNat m)).bind _ = _
    simp only [Option.bind_some]
    rw [pureRun_bind, hund]
    simp only [Option.bind_some]
    have e : (if (0 : Int) ≤ Int.ofNat m then s[(Int.ofNat m).toNat]? else none) = some b := by
      have h0 : (0 : Int) ≤ Int.ofNat m := Int.natCast_nonneg m
      rw [if_pos h0]
      show s[m]? = some b
      rw [bytes_get, hb]
    rw [e]
    rfl
  have e2 : pureRun C.P (execOp (fun x => (toVal (ev C T x)).getD undef) o) = some (.value (.int .u8 (Int.ofNat b.toNat))) := by
    unfold execOp
    rw [ho]
    simp only [hx, hi, toVal, Option.getD_some]
    rw [pureRun_bind, hI]
    rfl
  unfold genOp
  rw [e1, e2]
  rfl

theorem genOp_len {o : Oper} {t : TypeId} {ti : TI} {x : Operand} {s : ByteArray} {args : Array Operand} {ats : Array TypeId} {k : AV → Out} (ho : o.op = .call { callee := .builtin .len, args := args, argTypes := ats }) (ha : args.toList = [x]) (hts : ats.toList = [t])
    (ht : tinfo C t = some ti) (hu : ti.under = .string) (hx : ev C T x = .tc (.sc (.string s))) : genOp C o T k = k (.tc (.sc (.int .i64 (Int.ofNat (lenL s.data.toList))))) := by
  letI : Obs := ⟨⟨fun _ => 0, fun _ => false, fun _ => ByteArray.empty, fun _ _ => undef⟩, fun _ => True⟩
  obtain ⟨_, _, ht2, _⟩ := tinfo_ok ht
  rw [hu] at ht2
  have hund : pureRun C.P (underlying t) = some .string := by
    show pureRun C.P (match C.P.underlying t with | some d => pure d | none => stuck "no such type") = _
    rw [ht2]; rfl
  have e0 : args = #[x] := by rw [← Array.toList_inj]; exact ha
  have e00 : ats = #[t] := by rw [← Array.toList_inj]; exact hts
  subst e0; subst e00
  have e1 : mapO (fun x => toVal (ev C T x)) o.op.operands.toList = some [.string s] := by
    rw [ho]
    simp [Op.operands, Call.operands, mapO, hx, toVal]
  have hL : ∀ ty, pureRun C.P (Builtin.len_ #[t] ty #[.string s]) = some (.int .i64 (Int.ofNat (lenL s.data.toList))) := fun ty => by
    unfold Builtin.len_
    simp only [List.getElem?_toArray, List.getElem?_cons_zero]
    rw [pureRun_bind, hund]
    simp only [Option.bind_some]
    rw [lenL_eq]
    show some (Value.int .i64 (s.size : Int)) = some (Value.int .i64 (Int.ofNat s.data.toList.length))
    rw [Array.length_toList]
    rfl
  have e2 : pureRun C.P (execOp (fun x => (toVal (ev C T x)).getD undef) o) = some (.value (.int .i64 (Int.ofNat (lenL s.data.toList)))) := by
    unfold execOp
    rw [ho]
    have es : ∀ s : Sem Value, (Next.value <$> s) = s >>= fun v => pure (Next.value v) := fun s => rfl
    have em : Array.map (fun x => (toVal (ev C T x)).getD undef) #[x] = #[.string s] := by simp [hx, toVal]
    simp only [resolve]
    rw [pureRun_bind, em]
    show pureRun C.P (Next.value <$> Builtin.len_ #[t] o.type #[.string s]) = _
    rw [es, pureRun_bind, hL]
    rfl
  unfold genOp
  rw [e1, e2]
  rfl
end
end Go.Proofs.Ytgpijioodocplaa
