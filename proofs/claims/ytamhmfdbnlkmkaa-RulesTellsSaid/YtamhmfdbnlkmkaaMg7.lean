/- The evaluator: SyFastOk, SyFastOk2, SyFastOkB, SyFastOkC, SyFastOk3, SyFastOk4 laid together. -/
import Derived.Test.YtamhmfdbnlkmkaaMg1
import Derived.Test.YtamhmfdbnlkmkaaMg5
import Derived.Test.YtamhmfdbnlkmkaaMg6
/- The fast evaluator tells what the evaluator tells. -/
set_option linter.unusedVariables false
set_option linter.unusedSectionVars false
set_option linter.unusedSimpArgs false
namespace Go.Proofs.Ytamhmfdbnlkmkaa
open Go Go.RowKit

/-! ### temporaries -/
theorem getL_set {T : Tmps} {t : Nat} {v : AV} (ht : t < T.length) : getL (T.set t v) = fun m => if m = t then v else getL T m := by
  funext m
  rw [getL_eq, getL_eq]
  simp only [List.getD_eq_getElem?_getD, List.getElem?_set]
  by_cases h : t = m
  · subst h; simp [ht]
  · rw [if_neg h, if_neg fun hh => h hh.symm]

section
variable {σ : Type} {E : EnvO σ} (hE : EnvOk E)
include hE

theorem enc_set {T : Tmps} {t : Nat} {v : AV} (ht : t < T.length) (hd : T.length ≤ E.cap) : E.set t v (E.enc (getL T)) = E.enc (getL (T.set t v)) := by
  rw [hE.set_enc _ _ _ (by omega), getL_set ht]

theorem look_enc {T : Tmps} (hd : T.length ≤ E.cap) : E.look (E.enc (getL T)) = getL T := by
  funext n
  unfold EnvO.look
  cases h : Nat.blt n E.cap with
  | true =>
    have : n < E.cap := by simpa [Nat.blt_eq] using h
    exact hE.get_enc n _ this
  | false =>
    have : ¬ n < E.cap := by intro hh; rw [← Nat.blt_eq] at hh; rw [h] at hh; cases hh
    show undefA = _
    rw [getL_eq, List.getD_eq_getElem?_getD, List.getElem?_eq_none (by omega)]; rfl

theorem dec_enc {m : Nat} {T : Tmps} (hm : T.length = m) (hd : m ≤ E.cap) : E.dec m (E.enc (getL T)) = T := by
  unfold EnvO.dec
  rw [look_enc hE (by omega)]
  apply List.ext_getElem?
  intro i
  rw [List.getElem?_map]
  by_cases hi : i < m
  · rw [List.getElem?_range hi, Option.map_some, getL_eq]
    simp [hm, hi]
  · rw [List.getElem?_eq_none (by simp; omega), List.getElem?_eq_none (by omega)]; rfl

variable {C : Ctx} {m : Nat} {T : Tmps} {call : Caller} {H : Heap}

theorem evF_cO (hd : T.length ≤ E.cap) (x : Operand) : cO E (baseOf C) x (E.enc (getL T)) = ev C (getL T) x := by
  cases x with
  | tmp n =>
    simp only [cO, ev]
    cases h : Nat.blt n E.cap with
    | true =>
      have : n < E.cap := by simpa [Nat.blt_eq] using h
      exact hE.get_enc n _ this
    | false =>
      have : ¬ n < E.cap := by intro hh; rw [← Nat.blt_eq] at hh; rw [h] at hh; cases hh
      have h2 : T.length ≤ n := Nat.le_trans hd (Nat.not_lt.1 this)
      show undefA = getL T n
      rw [getL_eq, List.getD_eq_getElem?_getD, List.getElem?_eq_none h2]; rfl
  | const v => rfl
  | global g => rfl
  | func f => rfl

theorem evs_cO (hd : T.length ≤ E.cap) : ∀ (l : List Operand), evs (l.map (cO E (baseOf C))) (E.enc (getL T)) = l.map (ev C (getL T))
  | [] => rfl
  | x :: l => by
    show cO E (baseOf C) x (E.enc (getL T)) :: evs (l.map (cO E (baseOf C))) (E.enc (getL T)) = _
    rw [evF_cO hE hd, evs_cO hd l]; rfl
end

theorem tinfo_base {C : Ctx} (t : TypeId) : tinfo (baseOf C).ctx t = tinfo C t := rfl

/-! ### lists -/
theorem nthL_eq {α : Type} : ∀ (l : List α) (n : Nat) (k : α → Out) (z : Out), nthL l n k z = match l[n]? with | some a => k a | none => z
  | [], n, k, z => rfl
  | a :: r, 0, k, z => rfl
  | a :: r, n + 1, k, z => by
    have := nthL_eq r n k z
    rw [List.getElem?_cons_succ]
    exact this

theorem lenL_eq {α : Type} : ∀ (l : List α), lenL l = l.length
  | [] => rfl
  | a :: r => by show Nat.succ (lenL r) = _; rw [lenL_eq r]; rfl

theorem setL_eq {α : Type} : ∀ (l : List α) (n : Nat) (x : α), setL l n x = l.set n x
  | [], n, x => rfl
  | a :: r, 0, x => rfl
  | a :: r, n + 1, x => by show a :: setL r n x = _; rw [setL_eq r n x]; rfl

/-! ### whole numbers -/
theorem addF_eq (a b : Int) : addF a b = a + b := by cases a <;> cases b <;> rfl
theorem subF_eq (a b : Int) : subF a b = a - b := by
  cases a with
  | ofNat m =>
    cases b with
    | ofNat n =>
      show @Bool.rec (fun _ => Int) (Int.subNatNat m n) (Int.ofNat (Nat.sub m n)) (Nat.ble n m) = _
      cases h : Nat.ble n m with
      | true =>
        have : n ≤ m := Nat.le_of_ble_eq_true h
        show Int.ofNat (m - n) = Int.ofNat m - Int.ofNat n
        simp only [Int.ofNat_eq_natCast]; omega
      | false =>
        show Int.subNatNat m n = Int.ofNat m - Int.ofNat n
        rw [Int.subNatNat_eq_coe]; rfl
    | negSucc n => rfl
  | negSucc m => rfl
theorem mulF_eq (a b : Int) : mulF a b = a * b := by cases a <;> cases b <;> rfl
theorem eqI_eq (a b : Int) : eqI a b = (a == b) := by
  cases a <;> cases b
  · rename_i m n; show Nat.beq m n = _; rw [Bool.eq_iff_iff]; simp; omega
  · show false = _; symm; simp
  · show false = _; symm; simp
  · rename_i m n; show Nat.beq m n = _; rw [Bool.eq_iff_iff]; simp
theorem ltI_eq (a b : Int) : ltI a b = decide (a < b) := by
  cases a <;> cases b
  · rename_i m n; show Nat.blt m n = _; rw [Bool.eq_iff_iff]; simp
  · rename_i m n; show false = _; symm; simp; omega
  · rename_i m n; show true = _; symm; simp; omega
  · rename_i m n; show Nat.blt n m = _; rw [Bool.eq_iff_iff]; simp; omega
theorem leI_eq (a b : Int) : leI a b = decide (a ≤ b) := by
  cases a <;> cases b
  · rename_i m n; show Nat.ble m n = _; rw [Bool.eq_iff_iff]; simp
  · rename_i m n; show false = _; symm; simp; omega
  · rename_i m n; show true = _; symm; simp; omega
  · rename_i m n; show Nat.ble n m = _; rw [Bool.eq_iff_iff]; simp; omega

theorem kcode_inj {k k' : IntKind} (h : Nat.beq (kcode k) (kcode k') = true) : k = k' := by
  cases k <;> cases k' <;> first | rfl | (exact absurd h (by decide))

theorem upTo_eq (k : IntKind) : (upTo k : Int) = k.max + 1 := by cases k <;> rfl
theorem upTo_pow (k : IntKind) : ∃ n, upTo k = 2 ^ n ∧ n ≤ k.bits := by
  cases k
  · exact ⟨7, rfl, by decide⟩
  · exact ⟨15, rfl, by decide⟩
  · exact ⟨31, rfl, by decide⟩
  · exact ⟨63, rfl, by decide⟩
  · exact ⟨8, rfl, by decide⟩
  · exact ⟨16, rfl, by decide⟩
  · exact ⟨32, rfl, by decide⟩
  · exact ⟨64, rfl, by decide⟩
theorem downTo_eq (k : IntKind) : (downTo k : Int) = - k.min := by cases k <;> rfl
theorem bitsF_eq (k : IntKind) : bitsF k = k.bits := by cases k <;> rfl
theorem min_le (k : IntKind) : k.min ≤ 0 := by cases k <;> decide
theorem max_ge (k : IntKind) : 0 ≤ k.max := by cases k <;> decide

theorem wrap_nat {k : IntKind} {m : Nat} (h : m < upTo k) : k.wrap (Int.ofNat m) = Int.ofNat m := by
  have h1 := upTo_eq k
  have h2 := min_le k
  refine wrap_id ?_ ?_
  · show _ ≤ (m : Int); omega
  · show (m : Int) ≤ _; omega

theorem wrapF_eq (k : IntKind) (n : Int) : wrapF k n = k.wrap n := by
  cases n with
  | ofNat m =>
    show @Bool.rec (fun _ => Int) (IntKind.wrap k (Int.ofNat m)) (Int.ofNat m) (Nat.blt m (upTo k)) = _
    cases h : Nat.blt m (upTo k) with
    | true => exact (wrap_nat (by simpa [Nat.blt_eq] using h)).symm
    | false => rfl
  | negSucc m =>
    show @Bool.rec (fun _ => Int) (IntKind.wrap k (Int.negSucc m)) (Int.negSucc m) (Nat.blt m (downTo k)) = _
    cases h : Nat.blt m (downTo k) with
    | true =>
      have h0 : m < downTo k := by simpa [Nat.blt_eq] using h
      have h1 := downTo_eq k
      have h2 := max_ge k
      symm
      refine wrap_id ?_ ?_ <;> omega
    | false => rfl

theorem bits_lt {k : IntKind} {m : Nat} (h : m < upTo k) : m < 2 ^ k.bits := by
  obtain ⟨n, h1, h2⟩ := upTo_pow k
  rw [h1] at h
  exact Nat.lt_of_lt_of_le h (Nat.pow_le_pow_right (by omega) h2)

theorem ofInt_nat {k : IntKind} {m : Nat} : BitVec.ofInt k.bits (Int.ofNat m) = BitVec.ofNat k.bits m := by
  simp

theorem xor_and (m n b : Nat) (hm : m < 2 ^ b) : m ^^^ (m &&& n) = m &&& (2 ^ b - 1 - n % 2 ^ b) := by
  apply Nat.eq_of_testBit_eq
  intro i
  simp only [Nat.testBit_xor, Nat.testBit_and]
  have e : (2 ^ b - 1 - n % 2 ^ b) = 2 ^ b - (n % 2 ^ b + 1) := by omega
  rw [e, Nat.testBit_two_pow_sub_succ (Nat.mod_lt _ (Nat.two_pow_pos b)), Nat.testBit_mod_two_pow]
  by_cases hi : i < b
  · simp [hi]
    cases m.testBit i <;> cases n.testBit i <;> rfl
  · have : m.testBit i = false := Nat.testBit_lt_two_pow (Nat.lt_of_lt_of_le hm (Nat.pow_le_pow_right (by omega) (by omega)))
    simp [this]

theorem pureRun_bind {α β : Type} {P : Program} (s : Sem α) (f : α → Sem β) : pureRun P (s >>= f) = (pureRun P s).bind fun a => pureRun P (f a) := by
  induction s with
  | pure a => rfl
  | program k ih => exact ih P
  | mark m k ih => exact ih
  | _ => rfl

/-- What the model tells of two whole numbers, at once. -/
def IsPure (op : BinOp) (kx : IntKind) (a : Int) (ky : IntKind) (b : Int) (v : Value) : Prop := ∀ ty, binOp op ty (.int kx a) (.int ky b) = pure v

theorem pp_eq {f : Nat → Nat → Out} {z : Out} {a b : Int} (h : ∀ m n : Nat, a = Int.ofNat m → b = Int.ofNat n → f m n = z) : pp f z a b = z := by
  cases a <;> cases b <;> first | rfl | exact h _ _ rfl rfl

theorem small2_eq {u m n : Nat} {x z : Out} (h : m < u → n < u → x = z) : small2 u m n x z = z := by
  unfold small2
  cases h1 : Nat.blt m u with
  | false => rfl
  | true =>
    cases h2 : Nat.blt n u with
    | false => rfl
    | true => exact h (by simpa [Nat.blt_eq] using h1) (by simpa [Nat.blt_eq] using h2)

theorem beq_rec {a b : Nat} {x y z : Out} (h1 : a = b → x = z) (h2 : a ≠ b → y = z) : @Bool.rec (fun _ => Out) y x (Nat.beq a b) = z := by
  cases h : Nat.beq a b with
  | true => exact h1 (Nat.eq_of_beq_eq_true h)
  | false => exact h2 (Nat.ne_of_beq_eq_false h)

theorem ble_rec {a b : Nat} {x y z : Out} (h1 : a ≤ b → x = z) (h2 : ¬ a ≤ b → y = z) : @Bool.rec (fun _ => Out) y x (Nat.ble a b) = z := by
  cases h : Nat.ble a b with
  | true => exact h1 (Nat.le_of_ble_eq_true h)
  | false => exact h2 fun hh => by rw [Nat.ble_eq_true_of_le hh] at h; cases h

theorem blt_rec {a b : Nat} {x y z : Out} (h1 : a < b → x = z) (h2 : ¬ a < b → y = z) : @Bool.rec (fun _ => Out) y x (Nat.blt a b) = z := ble_rec h1 h2

section
variable {kx ky : IntKind} {a b : Int} {k : AV → Out} {z : Out}

theorem arithF_eq {op : BinOp} (hk : ∀ v, IsPure op kx a kx b v → ofRes v = .tc (.sc v) → k (.tc (.sc v)) = z) : arithF op kx a b k z = z := by
  have kk : ¬ (kx ≠ kx) := by simp
  cases op
  case add =>
    show k _ = z
    refine hk _ (fun ty => ?_) rfl
    rw [wrapF_eq, addF_eq]; simp only [binOp, if_neg kk]; rfl
  case sub =>
    show k _ = z
    refine hk _ (fun ty => ?_) rfl
    rw [wrapF_eq, subF_eq]; simp only [binOp, if_neg kk]; rfl
  case mul =>
    show k _ = z
    refine hk _ (fun ty => ?_) rfl
    rw [wrapF_eq, mulF_eq]; simp only [binOp, if_neg kk]; rfl
  case quo =>
    refine pp_eq fun m n ha hb => beq_rec (fun _ => rfl) fun hn => hk _ (fun ty => ?_) rfl
    subst ha; subst hb
    have : ¬ (Int.ofNat n = 0) := by show ¬ ((n : Int) = 0); omega
    rw [wrapF_eq]; simp only [binOp, if_neg kk, Op.intDiv, if_neg this]; rfl
  case rem =>
    refine pp_eq fun m n ha hb => beq_rec (fun _ => rfl) fun hn => hk _ (fun ty => ?_) rfl
    subst ha; subst hb
    have : ¬ (Int.ofNat n = 0) := by show ¬ ((n : Int) = 0); omega
    simp only [binOp, if_neg kk, Op.intDiv, if_neg this]; rfl
  case and =>
    refine pp_eq fun m n ha hb => small2_eq fun hm hn => hk _ (fun ty => ?_) rfl
    subst ha; subst hb
    have e : kx.wrap (BitVec.ofInt kx.bits (Int.ofNat m) &&& BitVec.ofInt kx.bits (Int.ofNat n)).toNat = Int.ofNat (Nat.land m n) := by
      rw [ofInt_nat, ofInt_nat, BitVec.toNat_and, BitVec.toNat_ofNat, BitVec.toNat_ofNat, Nat.mod_eq_of_lt (bits_lt hm), Nat.mod_eq_of_lt (bits_lt hn)]
      exact wrap_nat (Nat.lt_of_le_of_lt Nat.and_le_left hm)
    simp only [binOp, if_neg kk, Op.intBits, e]
  case or =>
    refine pp_eq fun m n ha hb => small2_eq fun hm hn => hk _ (fun ty => ?_) rfl
    subst ha; subst hb
    have e : kx.wrap (BitVec.ofInt kx.bits (Int.ofNat m) ||| BitVec.ofInt kx.bits (Int.ofNat n)).toNat = Int.ofNat (Nat.lor m n) := by
      rw [ofInt_nat, ofInt_nat, BitVec.toNat_or, BitVec.toNat_ofNat, BitVec.toNat_ofNat, Nat.mod_eq_of_lt (bits_lt hm), Nat.mod_eq_of_lt (bits_lt hn)]
      refine wrap_nat ?_
      obtain ⟨j, h1, h2⟩ := upTo_pow kx
      rw [h1] at hm hn ⊢
      exact Nat.or_lt_two_pow hm hn
    simp only [binOp, if_neg kk, Op.intBits, e]
  case xor =>
    refine pp_eq fun m n ha hb => small2_eq fun hm hn => hk _ (fun ty => ?_) rfl
    subst ha; subst hb
    have e : kx.wrap (BitVec.ofInt kx.bits (Int.ofNat m) ^^^ BitVec.ofInt kx.bits (Int.ofNat n)).toNat = Int.ofNat (Nat.xor m n) := by
      rw [ofInt_nat, ofInt_nat, BitVec.toNat_xor, BitVec.toNat_ofNat, BitVec.toNat_ofNat, Nat.mod_eq_of_lt (bits_lt hm), Nat.mod_eq_of_lt (bits_lt hn)]
      refine wrap_nat ?_
      obtain ⟨j, h1, h2⟩ := upTo_pow kx
      rw [h1] at hm hn ⊢
      exact Nat.xor_lt_two_pow hm hn
    simp only [binOp, if_neg kk, Op.intBits, e]
  case shl => rfl
  case shr => rfl
  case andNot =>
    refine pp_eq fun m n ha hb => small2_eq fun hm hn => hk _ (fun ty => ?_) rfl
    subst ha; subst hb
    have e : kx.wrap (BitVec.ofInt kx.bits (Int.ofNat m) &&& ~~~ BitVec.ofInt kx.bits (Int.ofNat n)).toNat = Int.ofNat (Nat.xor m (Nat.land m n)) := by
      rw [ofInt_nat, ofInt_nat, BitVec.toNat_and, BitVec.toNat_not, BitVec.toNat_ofNat, BitVec.toNat_ofNat, Nat.mod_eq_of_lt (bits_lt hm)]
      have := xor_and m n kx.bits (bits_lt hm)
      have e2 : Nat.xor m (Nat.land m n) = m &&& (2 ^ kx.bits - 1 - n % 2 ^ kx.bits) := this
      rw [e2]
      exact wrap_nat (Nat.lt_of_le_of_lt Nat.and_le_left hm)
    simp only [binOp, if_neg kk, Op.intBits, e]
  case eql =>
    show k _ = z
    refine hk _ (fun ty => ?_) rfl
    rw [eqI_eq]; simp only [binOp, if_neg kk]; rfl
  case neq =>
    show k _ = z
    refine hk _ (fun ty => ?_) rfl
    rw [eqI_eq]; simp only [binOp, if_neg kk]; rfl
  case lss =>
    show k _ = z
    refine hk _ (fun ty => ?_) rfl
    rw [ltI_eq]; simp only [binOp, if_neg kk]; rfl
  case leq =>
    show k _ = z
    refine hk _ (fun ty => ?_) rfl
    rw [leI_eq]; simp only [binOp, if_neg kk]; rfl
  case gtr =>
    show k _ = z
    refine hk _ (fun ty => ?_) rfl
    rw [ltI_eq]; simp only [binOp, if_neg kk]; rfl
  case geq =>
    show k _ = z
    refine hk _ (fun ty => ?_) rfl
    rw [leI_eq]; simp only [binOp, if_neg kk]; rfl

theorem sameKind_eq {op : BinOp} (hk : ∀ v, IsPure op kx a ky b v → ofRes v = .tc (.sc v) → k (.tc (.sc v)) = z) : sameKind (arithF op) kx a ky b k z = z := by
  unfold sameKind
  cases h : Nat.beq (kcode kx) (kcode ky) with
  | false => rfl
  | true =>
    have := kcode_inj h
    subst this
    exact arithF_eq hk

theorem intF_eq {op : BinOp} (hk : ∀ v, IsPure op kx a ky b v → ofRes v = .tc (.sc v) → k (.tc (.sc v)) = z) : intF op kx a ky b k z = z := by
  cases op
  case shl =>
    refine pp_eq fun m n ha hb => ble_rec (fun hle => hk _ (fun ty => ?_) rfl) fun _ => rfl
    subst ha; subst hb
    rw [bitsF_eq] at hle
    have : ¬ (Int.ofNat n < 0) := by show ¬ ((n : Int) < 0); omega
    rw [wrapF_eq]
    simp only [binOp, Op.shift, if_neg this]
    have e : min (Int.ofNat n).toNat kx.bits = n := by show min n kx.bits = n; omega
    rw [e]; congr 2
  case shr =>
    refine pp_eq fun m n ha hb => ble_rec (fun hle => hk _ (fun ty => ?_) rfl) fun _ => rfl
    subst ha; subst hb
    rw [bitsF_eq] at hle
    have : ¬ (Int.ofNat n < 0) := by show ¬ ((n : Int) < 0); omega
    simp only [binOp, Op.shift, if_neg this]
    have e : min (Int.ofNat n).toNat kx.bits = n := by show min n kx.bits = n; omega
    rw [e]; congr 2
    rw [Int.fdiv_eq_ediv_of_nonneg _ (by have := Int.pow_pos (n := 2) (m := n) (by omega); omega)]
    show (m : Int) / 2 ^ n = ((m / 2 ^ n : Nat) : Int)
    simp [Int.natCast_pow]
  all_goals exact sameKind_eq hk
end

end Go.Proofs.Ytamhmfdbnlkmkaa

/- The fast evaluator tells what the evaluator tells: operations. -/
set_option linter.unusedVariables false
set_option linter.unusedSectionVars false
set_option linter.unusedSimpArgs false
namespace Go.Proofs.Ytamhmfdbnlkmkaa
open Go Go.RowKit

/-! ### what a value is -/
theorem vNum_cases (v : AV) : (∃ kx n, v = .tc (.sc (.int kx n)) ∧ ∀ f g z, vNum v f g z = f kx n) ∨ (∃ kx e, v = .tc (.sy (.int kx) e) ∧ ∀ f g z, vNum v f g z = g kx e) ∨ (∀ f g z, vNum v f g z = z) := by
  cases v with
  | tc c =>
    cases c with
    | sc u =>
      cases u
      case int kx n => exact .inl ⟨kx, n, rfl, fun _ _ _ => rfl⟩
      all_goals exact .inr (.inr fun _ _ _ => rfl)
    | sl s el => exact .inr (.inr fun _ _ _ => rfl)
    | sy t e =>
      cases t
      case int kx => exact .inr (.inl ⟨kx, e, rfl, fun _ _ _ => rfl⟩)
      all_goals exact .inr (.inr fun _ _ _ => rfl)
  | _ => exact .inr (.inr fun _ _ _ => rfl)

theorem condF_eq (v : AV) (x y : Out) : condF v x y = condA v x y := by
  cases v with
  | tc c =>
    cases c with
    | sc u =>
      cases u
      case bool b => cases b <;> rfl
      all_goals rfl
    | sl s el => rfl
    | sy t e => cases t <;> rfl
  | _ => rfl

theorem tcB_eq (v : AV) : tcB v = isTC v := by cases v <;> rfl
theorem allB_eq {α : Type} {p q : α → Bool} (h : ∀ a, p a = q a) : ∀ (l : List α), allB p l = l.all q
  | [] => rfl
  | a :: r => by
    show @Bool.rec (fun _ => Bool) false (allB p r) (p a) = _
    rw [allB_eq h r, h a, List.all_cons]
    cases q a <;> rfl
theorem treeF_eq (v : AV) : treeF v = isTree v := by
  cases v with
  | agg cs => exact allB_eq tcB_eq cs
  | _ => rfl

theorem mapO_self {α : Type} {f : α → Option α} : ∀ {l : List α}, (∀ a ∈ l, f a = some a) → mapO f l = some l
  | [], _ => rfl
  | a :: r, h => by simp only [mapO, h a (List.mem_cons_self ..), mapO_self fun b hb => h b (List.mem_cons_of_mem _ hb)]

theorem fz_tcs (H : Heap) : ∀ (cs : List AV), cs.all isTC = true → ∃ l, mapO (fz H 8) cs = some l ∧ tcs l = cs
  | [], _ => ⟨[], rfl, rfl⟩
  | c :: r, h => by
    simp only [List.all_cons, Bool.and_eq_true] at h
    obtain ⟨l, h1, h2⟩ := fz_tcs H r h.2
    cases c with
    | tc c => exact ⟨c :: l, by simp only [mapO, fz, h1], by simp only [tcs, List.map_cons, ← h2]⟩
    | _ => simp [isTC] at h

theorem fzA_tree (H : Heap) (v : AV) (h : isTree v = true) : fzA H v = some v := by
  cases v with
  | tc c => rfl
  | any => rfl
  | vptr => rfl
  | agg cs =>
    obtain ⟨l, h1, h2⟩ := fz_tcs H cs h
    simp only [fzA, h1, Option.map_some, h2]
  | _ => simp [isTree] at h

theorem fzF_eq (v : AV) (H : Heap) (k : AV → Out) : fzF v H k = match fzR H v with | some t => k t | none => .fail := by
  have slow : slowFz v H k = match fzR H v with | some t => k t | none => .fail := rfl
  cases v with
  | agg cs =>
    show @Bool.rec (fun _ => Out) (slowFz (.agg cs) H k) (k (.agg cs)) (allB tcB cs) = _
    cases h : allB tcB cs with
    | false => exact slow
    | true =>
      rw [allB_eq tcB_eq] at h
      simp only [fzR, fzA_tree H (.agg cs) h]
  | tuple vs =>
    show @Bool.rec (fun _ => Out) (slowFz (.tuple vs) H k) (k (.tuple vs)) (allB treeF vs) = _
    cases h : allB treeF vs with
    | false => exact slow
    | true =>
      rw [allB_eq treeF_eq, List.all_eq_true] at h
      simp only [fzR, mapO_self fun a ha => fzA_tree H a (h a ha), Option.map_some]
  | _ => first | rfl | exact slow

theorem mapL_eq {α β : Type} (f : α → β) : ∀ (l : List α), mapL f l = l.map f
  | [] => rfl
  | a :: r => by show f a :: mapL f r = _; rw [mapL_eq f r]; rfl

theorem span_whole {α : Type} (row : List α) (size : Nat) (h : row.length = size) : span row 0 size = some row := by
  unfold span
  simp [← h]

theorem ldRow_eq {α : Type} (f1 : α → AV) (t : TI) (row : List α) (f : Nat) (H : Heap) (k : KV) : ldRow f1 t.agg t.size row f H k = (match t.agg with
    | true => match span row f t.size with | some r => k (.agg (r.map f1)) H | none => .fail
    | false => match row[f]? with | some c => k (f1 c) H | none => .fail) := by
  unfold ldRow
  cases t.agg with
  | true =>
    refine beq_rec (fun h1 => beq_rec (fun h2 => ?_) fun _ => rfl) fun _ => rfl
    rw [lenL_eq] at h2
    subst h1
    rw [span_whole row t.size h2, mapL_eq]
  | false => exact nthL_eq ..

theorem beq_dec (a b : Nat) : Nat.beq a b = decide (a = b) := by
  rw [Bool.eq_iff_iff]; simp

theorem ldV_eq (t : TI) (v : AV) (H : Heap) (k : KV) : ldV v t.agg t.size H k = loadA H t v fun r => k r H := by
  cases v with
  | ptr o s i f ver =>
    show nthL H o (fun obj => ldObj obj t.agg t.size s i f ver H k) .fail = _
    rw [nthL_eq]
    simp only [loadA]
    split
    · rename_i obj ho
      rw [ho]
      cases obj with
      | tcells s' el =>
        show @Bool.rec (fun _ => Out) .fail (@Bool.rec (fun _ => Out) .fail (nthL el i (fun row => ldRow .tc t.agg t.size row f H k) .fail) (Nat.beq ver (lenL el))) (Nat.beq s' s) = _
        rw [lenL_eq, beq_dec, beq_dec, nthL_eq]
        simp only [ldRow_eq]
        cases decide (s' = s) <;> cases decide (ver = el.length) <;> try rfl
        simp only [Bool.and_true, cond_true]
        cases el[i]? with
        | none => rfl
        | some row => cases t.agg with
          | true => cases hsp : span row f t.size <;> simp only [hsp] <;> rfl
          | false => cases hsp : row[f]? <;> simp only [hsp]
      | cells s' el =>
        show @Bool.rec (fun _ => Out) .fail (@Bool.rec (fun _ => Out) .fail (nthL el i (fun row => ldRow (fun c => c) t.agg t.size row f H k) .fail) (Nat.beq ver (lenL el))) (Nat.beq s' s) = _
        rw [lenL_eq, beq_dec, beq_dec, nthL_eq]
        simp only [ldRow_eq]
        cases decide (s' = s) <;> cases decide (ver = el.length) <;> try rfl
        simp only [Bool.and_true, cond_true, List.map_id']
        cases el[i]? with
        | none => rfl
        | some row => cases t.agg with
          | true => cases hsp : span row f t.size <;> simp only [hsp] <;> rfl
          | false => cases hsp : row[f]? <;> simp only [hsp]
      | map es => rfl
    · rename_i ho
      rw [ho]
  | vptr s el i f =>
    show nthL el i (fun row => ldRow .tc t.agg t.size row f H k) .fail = _
    rw [nthL_eq]
    simp only [ldRow_eq, loadA]
    cases el[i]? with
    | none => rfl
    | some row => cases t.agg with
      | true => cases hsp : span row f t.size <;> simp only [hsp] <;> rfl
      | false => cases hsp : row[f]? <;> simp only [hsp]
  | _ => rfl

theorem vlCell_eq (u : Value) : vlCell u = cellOk (.tc (.sc u)) := by cases u <;> rfl

theorem tcCell_eq (c : TC) : tcCell c = cellOk (.tc c) := by
  cases c with
  | sc u => exact vlCell_eq u
  | _ => rfl

theorem okCell_eq (v : AV) : okCell v = cellOk v := by
  cases v with
  | tc c => exact tcCell_eq c
  | _ => rfl

theorem cells_tc {c : TC} (h : cellOk (.tc c) = true) : cellsOfA (.tc c) = some [.tc c] := by
  cases c with
  | sc u => cases u <;> first | rfl | (simp [cellOk] at h)
  | _ => rfl

theorem cellsF_eq {v : AV} {kt : TC → Out} {ka : AV → Out} {kl : List AV → Out} {z : Out} (h1 : ∀ c, v = .tc c → cellOk v = true → cellsOfA v = some [v] → kt c = z)
    (h2 : cellOk v = true → asTC [v] = none → cellsOfA v = some [v] → ka v = z) (h3 : ∀ cs, v = .agg cs → cellsOfA v = some cs → kl cs = z) : cellsF v kt ka kl z = z := by
  cases v with
  | tc c =>
    show @Bool.rec (fun _ => Out) z (kt c) (tcCell c) = z
    cases h : tcCell c with
    | false => rfl
    | true =>
      have hc : cellOk (.tc c) = true := by rw [← tcCell_eq]; exact h
      exact h1 c rfl hc (cells_tc hc)
  | any => rfl
  | agg cs => exact h3 cs rfl rfl
  | tuple => rfl
  | _ => exact h2 rfl rfl rfl

theorem setSpan_one {α : Type} (l : List α) (f : Nat) (x : α) (h : f < l.length) : setSpan l f [x] = l.set f x := by
  unfold setSpan
  rw [List.set_eq_take_append_cons_drop, if_pos h]
  simp

theorem setSpan_whole {α : Type} (l cs : List α) (h : l.length = cs.length) : setSpan l 0 cs = cs := by
  unfold setSpan
  simp [← h]

theorem asTCK_eq : ∀ (cs : List AV) {kt : List TC → Out} {z : Out}, (asTCK cs kt z = z ∧ asTC cs = none) ∨ ∃ l, asTC cs = some l ∧ asTCK cs kt z = kt l
  | [], kt, z => .inr ⟨[], rfl, rfl⟩
  | v :: r, kt, z => by
    cases v with
    | tc c =>
      rcases asTCK_eq r (kt := fun l => kt (c :: l)) (z := z) with ⟨h1, h2⟩ | ⟨l, h1, h2⟩
      · exact .inl ⟨h1, by simp [asTC, h2]⟩
      · exact .inr ⟨c :: l, by simp [asTC, h1], h2⟩
    | _ => exact .inl ⟨rfl, rfl⟩

theorem rowsTCK_eq : ∀ (rows : List (List AV)) {kt : List (List TC) → Out} {z : Out}, (rowsTCK rows kt z = z ∧ mapO asTC rows = none) ∨ ∃ l, mapO asTC rows = some l ∧ rowsTCK rows kt z = kt l
  | [], kt, z => .inr ⟨[], rfl, rfl⟩
  | r :: rows, kt, z => by
    rcases asTCK_eq r (kt := fun c => rowsTCK rows (fun l => kt (c :: l)) z) (z := z) with ⟨h1, h2⟩ | ⟨c, h1, h2⟩
    · exact .inl ⟨h1, by simp [mapO, h2]⟩
    · rcases rowsTCK_eq rows (kt := fun l => kt (c :: l)) (z := z) with ⟨h3, h4⟩ | ⟨l, h3, h4⟩
      · exact .inl ⟨h2.trans h3, by simp [mapO, h4]⟩
      · exact .inr ⟨c :: l, by simp [mapO, h1, h3], h2.trans h4⟩

theorem newObj_eq (s : Nat) (rows : List (List AV)) (k : AObj → Out) : newObj s rows k = k (newCells s rows) := by
  unfold newObj newCells
  rcases rowsTCK_eq rows (kt := fun t => k (.tcells s t)) (z := k (.cells s rows)) with ⟨h1, h2⟩ | ⟨l, h1, h2⟩
  · rw [h1, h2]
  · rw [h2, h1]

theorem stV_eq {t : TI} (a v : AV) (H : Heap) (k : KV) : stV a v t.size H k (storeA t a v H fun H' => k undefA H') = storeA t a v H fun H' => k undefA H' := by
  cases a with
  | ptr o s i f ver =>
    show nthL H o (fun obj => stObj obj v t.size o s i f ver H k _) _ = _
    rw [nthL_eq]
    split
    · rename_i obj ho
      cases obj with
      | tcells s' el =>
        refine beq_rec (fun h1 => beq_rec (fun h2 => ?_) fun _ => rfl) fun _ => rfl
        rw [nthL_eq]
        split
        · rename_i row hr
          rw [lenL_eq] at h2
          subst h1
          refine cellsF_eq (fun c hc hok hcs => blt_rec (fun h3 => beq_rec (fun ht => ?_) fun _ => rfl) fun _ => rfl) (fun _ _ _ => rfl)
            (fun cs hc hcs => beq_rec (fun h0 => beq_rec (fun h3 => beq_rec (fun h4 => ?_) fun _ => rfl) fun _ => rfl) fun _ => rfl)
          · subst hc
            rw [lenL_eq] at h3
            simp only [storeA, hcs, ho, h2, List.length_singleton, ht, decide_true, Bool.and_self, List.all_cons, hok, List.all_nil, cond_true, hr, show f + 1 ≤ row.length from h3, asTC, Option.map_some, setSpan_one _ _ _ h3, setL_eq]
          · subst hc; subst h0
            rw [lenL_eq] at h3 h4
            cases hall : allB okCell cs with
            | false => rfl
            | true =>
              show asTCK cs _ _ = _
              rw [allB_eq okCell_eq] at hall
              rcases asTCK_eq cs (kt := fun c => k undefA (setL H o (.tcells s' (setL el i c)))) (z := storeA t (.ptr o s' i 0 ver) (.agg cs) H fun H' => k undefA H') with ⟨g1, g2⟩ | ⟨l, g1, g2⟩
              · exact g1
              · rw [g2]
                have hl : l.length = cs.length := by
                  clear g2 h3 h4 hall hcs
                  induction cs generalizing l with
                  | nil => simp only [asTC, Option.some.injEq] at g1; subst g1; rfl
                  | cons v cs ih =>
                    cases v with
                    | tc c =>
                      simp only [asTC] at g1
                      cases hq : asTC cs with
                      | none => rw [hq] at g1; simp at g1
                      | some q => rw [hq] at g1; simp only [Option.map_some, Option.some.injEq] at g1; subst g1; simp [ih q hq]
                    | _ => simp [asTC] at g1
                simp only [storeA, hcs, ho, h2, h3, decide_true, Bool.and_self, hall, cond_true, hr, Nat.zero_add, h4, Nat.le_refl, g1, setL_eq]
                rw [setSpan_whole _ _ (by rw [hl, h3, h4])]
        · rfl
      | cells s' el =>
        refine beq_rec (fun h1 => beq_rec (fun h2 => ?_) fun _ => rfl) fun _ => rfl
        rw [nthL_eq]
        split
        · rename_i row hr
          rw [lenL_eq] at h2
          subst h1
          refine cellsF_eq (fun c hc hok hcs => blt_rec (fun h3 => beq_rec (fun ht => ?_) fun _ => rfl) fun _ => rfl) (fun hok hn hcs => blt_rec (fun h3 => beq_rec (fun ht => ?_) fun _ => rfl) fun _ => rfl)
            (fun cs hc hcs => beq_rec (fun h0 => beq_rec (fun h3 => beq_rec (fun h4 => ?_) fun _ => rfl) fun _ => rfl) fun _ => rfl)
          · subst hc
            rw [lenL_eq] at h3
            simp only [storeA, hcs, ho, h2, List.length_singleton, ht, decide_true, Bool.and_self, List.all_cons, hok, List.all_nil, cond_true, hr, show f + 1 ≤ row.length from h3, setSpan_one _ _ _ h3, setL_eq]
          · rw [lenL_eq] at h3
            simp only [storeA, hcs, ho, h2, List.length_singleton, ht, decide_true, Bool.and_self, List.all_cons, hok, List.all_nil, cond_true, hr, show f + 1 ≤ row.length from h3, setSpan_one _ _ _ h3, setL_eq]
          · subst hc; subst h0
            rw [lenL_eq] at h3 h4
            cases hall : allB okCell cs with
            | false => rfl
            | true =>
              rw [allB_eq okCell_eq] at hall
              show k undefA _ = _
              simp only [storeA, hcs, ho, h2, h3, decide_true, Bool.and_self, hall, cond_true, hr, Nat.zero_add, h4, Nat.le_refl, setL_eq]
              rw [setSpan_whole _ _ (by rw [h3, h4])]
        · rfl
      | map es => rfl
    · rfl
  | _ => rfl

theorem exV_eq (v : AV) (i : Nat) (k : AV → Out) : exV v i k = match v with | .tuple vs => (match vs[i]? with | some v => k v | none => .fail) | _ => .fail := by
  cases v with
  | tuple vs =>
    show nthL vs i k .fail = _
    rw [nthL_eq]
    cases hsp : vs[i]? <;> simp only [hsp]
  | _ => rfl

theorem lenV_eq {v : AV} {k : AV → Out} {z : Out} (hs : ∀ u, v = .tc (.sc u) → z = z) (h : (∀ u, v ≠ .tc (.sc u)) → (∀ t e, v ≠ .tc (.sy t e)) → z = lenA v k) : lenV v k z = z := by
  cases v with
  | tc c =>
    cases c with
    | sl s el =>
      rw [h (by simp) (by simp)]
      show k _ = lenA _ _
      rw [lenL_eq]; rfl
    | _ => rfl
  | slice o s i len cap ex ver =>
    rw [h (by simp) (by simp)]; rfl
  | _ => rfl

theorem iaV_eq {t : TI} {et : TI} {e : TypeId} (ht : t.under = .slice e) {v idx : AV} {kk : IntKind} {n : Int} {k : AV → Out} (hi : idx = .tc (.sc (.int kk n))) :
    iaV v et.size n k (indexA t (some et) v idx k) = indexA t (some et) v idx k := by
  subst hi
  cases n with
  | ofNat m =>
    cases v with
    | tc c =>
      cases c with
      | sl s el =>
        show @Bool.rec (fun _ => Out) _ (@Bool.rec (fun _ => Out) _ (k (.vptr s el m 0)) (Nat.blt m (lenL el))) (Nat.beq et.size s) = _
        refine beq_rec (fun h1 => blt_rec (fun h2 => ?_) fun _ => rfl) fun _ => rfl
        rw [lenL_eq] at h2
        have h0 : (0 : Int) ≤ Int.ofNat m := Int.natCast_nonneg m
        have h3 : Int.ofNat m < (el.length : Int) := by show (m : Int) < _; omega
        simp only [indexA, ht, withIdx, h0, h3, h1, decide_true, Bool.and_self, cond_true]
        rfl
      | _ => rfl
    | slice o s i len cap ex ver =>
      show @Bool.rec (fun _ => Out) _ (@Bool.rec (fun _ => Out) _ (k (.ptr o s (Nat.add i m) 0 ver)) (Nat.blt m len)) (Nat.beq et.size s) = _
      refine beq_rec (fun h1 => blt_rec (fun h2 => ?_) fun _ => rfl) fun _ => rfl
      have h0 : (0 : Int) ≤ Int.ofNat m := Int.natCast_nonneg m
      have h3 : Int.ofNat m < (len : Int) := by show (m : Int) < _; omega
      simp only [indexA, ht, withIdx, h0, h3, h1, decide_true, Bool.and_self, cond_true]
      rfl
    | _ => rfl
  | negSucc m =>
    cases v with
    | tc c => cases c <;> rfl
    | _ => rfl

theorem guardF_eq {ops : Array Oper} {o : Oper} {T : Look} {j c : Nat} {w : Bool} {yes no : Out} (hg : o.guard = some (j, w)) (hc : (ops[j]?).bind (·.dst) = some c) :
    guardF (T c) w yes no = match wantedA ops o T with | none => .fail | some g => guardA g yes no := by
  simp only [wantedA, hg, hc]
  generalize T c = v
  cases v with
  | tc x =>
    cases x with
    | sc u =>
      cases u
      case bool b => cases b <;> cases w <;> rfl
      all_goals rfl
    | sl s el => rfl
    | sy t e => cases t <;> cases w <;> rfl
  | _ => rfl

/-! ### operations -/
theorem eqGuard_pure {P : Program} {op : BinOp} {t : TypeId} {x y : Operand} {kx ky : IntKind} {a b : Int} : pureRun P (eqGuard op t x y (.int kx a) (.int ky b)) = some () := by
  cases op <;> rfl

section
variable {C : Ctx} {call : Caller} {T : Look} {H : Heap}

theorem genOp_int {o : Oper} {op : BinOp} {t ty : TypeId} {x y : Operand} {kx ky : IntKind} {a b : Int} {v : Value} {k : AV → Out} (ho : o.op = .binOp op t x y ty) (hx : ev C T x = .tc (.sc (.int kx a))) (hy : ev C T y = .tc (.sc (.int ky b)))
    (hp : IsPure op kx a ky b v) (hv : ofRes v = .tc (.sc v)) : genOp C o T k = k (.tc (.sc v)) := by
  have e1 : mapO (fun x => toVal (ev C T x)) o.op.operands.toList = some [.int kx a, .int ky b] := by
    rw [ho]
    simp only [Op.operands, mapO, hx, hy, toVal]
  have e2 : pureRun C.P (execOp (fun x => (toVal (ev C T x)).getD undef) o) = some (.value v) := by
    unfold execOp
    rw [ho]
    simp only [hx, hy, toVal, Option.getD_some]
    rw [pureRun_bind, pureRun_bind, eqGuard_pure]
    simp only [Option.bind_some, hp t]
    rfl
  unfold genOp
  rw [e1, e2]
  show k (ofRes v) = _
  rw [hv]

end
end Go.Proofs.Ytamhmfdbnlkmkaa

/- The fast evaluator tells what the evaluator tells: strings, structs and slices that are written out. -/
set_option linter.unusedVariables false
set_option linter.unusedSectionVars false
set_option linter.unusedSimpArgs false
namespace Go.Proofs.Ytamhmfdbnlkmkaa
open Go Go.RowKit

theorem vStr_cases (v : AV) : (∃ s, v = .tc (.sc (.string s)) ∧ ∀ f z, vStr v f z = f s) ∨ (∀ f z, vStr v f z = z) := by
  cases v with
  | tc c =>
    cases c with
    | sc u =>
      cases u
      case string s => exact .inl ⟨s, rfl, fun _ _ => rfl⟩
      all_goals exact .inr fun _ _ => rfl
    | _ => exact .inr fun _ _ => rfl
  | _ => exact .inr fun _ _ => rfl

theorem vB2_cases (v : AV) : (∃ b, v = .tc (.sc (.bool b)) ∧ ∀ f z, vB2 v f z = f b) ∨ (∀ f z, vB2 v f z = z) := by
  cases v with
  | tc c =>
    cases c with
    | sc u =>
      cases u
      case bool s => exact .inl ⟨s, rfl, fun _ _ => rfl⟩
      all_goals exact .inr fun _ _ => rfl
    | _ => exact .inr fun _ _ => rfl
  | _ => exact .inr fun _ _ => rfl

theorem strEq_eq : ∀ (a b : List UInt8), strEq a b = decide (a = b)
  | [], [] => rfl
  | [], b :: r => rfl
  | a :: r, [] => rfl
  | a :: r, b :: q => by
    show @Bool.rec (fun _ => Bool) false (strEq r q) (Nat.beq (UInt8.toNat a) (UInt8.toNat b)) = _
    rw [strEq_eq r q, beq_dec]
    by_cases h : a = b
    · subst h; simp
    · have : ¬ a.toNat = b.toNat := fun hh => h (UInt8.toNat_inj.1 hh)
      simp [this, h]

theorem bytes_toList2 (s : ByteArray) : s.toList = s.data.toList := by
  letI : Obs := ⟨⟨fun _ => 0, fun _ => false, fun _ => ByteArray.empty, fun _ _ => undef⟩, fun _ => True⟩
  exact bytes_toList s

theorem bytes_list (s t : ByteArray) : (s.toList == t.toList) = strEq s.data.toList t.data.toList := by
  rw [strEq_eq, bytes_toList2, bytes_toList2]
  rw [Bool.eq_iff_iff]; simp

section
variable {C : Ctx} {T : Look} {H : Heap}

theorem genOp_str {o : Oper} {op : BinOp} {t ty : TypeId} {x y : Operand} {a b : ByteArray} {v : Value} {k : AV → Out} (ho : o.op = .binOp op t x y ty) (hx : ev C T x = .tc (.sc (.string a))) (hy : ev C T y = .tc (.sc (.string b)))
    (hp : Op.stringOp op a b = pure v) (hb : binOp op t (.string a) (.string b) = Op.stringOp op a b) (hv : ofRes v = .tc (.sc v)) : genOp C o T k = k (.tc (.sc v)) := by
  have e1 : mapO (fun x => toVal (ev C T x)) o.op.operands.toList = some [.string a, .string b] := by
    rw [ho]
    simp only [Op.operands, mapO, hx, hy, toVal]
  have e0 : pureRun C.P (eqGuard op t x y (.string a) (.string b)) = some () := by cases op <;> rfl
  have e2 : pureRun C.P (execOp (fun x => (toVal (ev C T x)).getD undef) o) = some (.value v) := by
    unfold execOp
    rw [ho]
    simp only [hx, hy, toVal, Option.getD_some]
    rw [pureRun_bind, pureRun_bind, e0]
    simp only [Option.bind_some, hb, hp]
    rfl
  unfold genOp
  rw [e1, e2]
  show k (ofRes v) = _
  rw [hv]

theorem strBin_eq {o : Oper} {op : BinOp} {t ty : TypeId} {x y : Operand} {k : AV → Out} (ho : o.op = .binOp op t x y ty) {z : Out}
    (hz : ∀ a b, ev C T x = .tc (.sc (.string a)) → ev C T y = .tc (.sc (.string b)) → z = genOp C o T k) : strBin op (ev C T x) (ev C T y) k z = z := by
  unfold strBin
  rcases vStr_cases (ev C T x) with ⟨a, hx, h1⟩ | h1
  · rw [h1]
    rcases vStr_cases (ev C T y) with ⟨b, hy, h2⟩ | h2
    · rw [h2]
      cases op
      case eql =>
        show retB (strEq a.data.toList b.data.toList) k = z
        rw [hz a b hx hy, genOp_str (v := .bool (a.toList == b.toList)) ho hx hy rfl rfl rfl, bytes_list]; rfl
      case neq =>
        show retB (Bool.not (strEq a.data.toList b.data.toList)) k = z
        rw [hz a b hx hy, genOp_str (v := .bool (!(a.toList == b.toList))) ho hx hy rfl rfl rfl, bytes_list]; rfl
      all_goals rfl
    · rw [h2]
  · rw [h1]

theorem genOp_not {o : Oper} {t : TypeId} {x : Operand} {b : Bool} {k : AV → Out} (ho : o.op = .unOp .not t x) (hx : ev C T x = .tc (.sc (.bool b))) : genOp C o T k = k (.tc (.sc (.bool (!b)))) := by
  have e1 : mapO (fun x => toVal (ev C T x)) o.op.operands.toList = some [.bool b] := by
    rw [ho]
    simp only [Op.operands, mapO, hx, toVal]
  have e2 : pureRun C.P (execOp (fun x => (toVal (ev C T x)).getD undef) o) = some (.value (.bool !b)) := by
    unfold execOp
    rw [ho]
    simp only [hx, toVal, Option.getD_some]
    rfl
  unfold genOp
  rw [e1, e2]
  rfl

theorem notV_eq {o : Oper} {t : TypeId} {x : Operand} {k : AV → Out} (ho : o.op = .unOp .not t x) {z : Out} (hz : z = genOp C o T k) : notV (ev C T x) k z = z := by
  generalize hv : ev C T x = v
  cases v with
  | tc c =>
    cases c with
    | sc u =>
      cases u
      case bool b =>
        show k _ = z
        rw [hz, genOp_not ho hv]
      all_goals rfl
    | sl s el => rfl
    | sy ty e =>
      cases ty
      case bool =>
        show k _ = z
        rw [hz]
        have e1 : mapO (fun x => toVal (ev C T x)) o.op.operands.toList = none := by
          rw [ho]
          simp only [Op.operands, mapO, hv, toVal]
        unfold genOp
        rw [e1]
        simp only [symOp, ho, hv, asSx]
      all_goals rfl
  | _ => rfl

theorem bytes_get (s : ByteArray) (m : Nat) : s[m]? = s.data.toList[m]? := by
  have hsz : s.size = s.data.size := rfl
  by_cases h : m < s.size
  · rw [getElem?_pos s m h, List.getElem?_eq_getElem (by simp; omega)]
    rfl
  · rw [getElem?_neg s m h, List.getElem?_eq_none (by simp; omega)]

theorem genOp_index {o : Oper} {t : TypeId} {ti : TI} {x i : Operand} {s : ByteArray} {kk : IntKind} {m : Nat} {b : UInt8} {k : AV → Out} (ho : o.op = .index t x i) (ht : tinfo C t = some ti) (hu : ti.under = .string) (hx : ev C T x = .tc (.sc (.string s)))
    (hi : ev C T i = .tc (.sc (.int kk (Int.ofNat m)))) (hb : s.data.toList[m]? = some b) : genOp C o T k = k (.tc (.sc (.int .u8 (Int.ofNat b.toNat)))) := by
  letI : Obs := ⟨⟨fun _ => 0, fun _ => false, fun _ => ByteArray.empty, fun _ _ => undef⟩, fun _ => True⟩
  obtain ⟨_, _, ht2, _⟩ := tinfo_ok ht
  rw [hu] at ht2
  have e1 : mapO (fun x => toVal (ev C T x)) o.op.operands.toList = some [.string s, .int kk (Int.ofNat m)] := by
    rw [ho]
    simp only [Op.operands, mapO, hx, hi, toVal]
  have hund : pureRun C.P (underlying t) = some .string := by
    show pureRun C.P (match C.P.underlying t with | some d => pure d | none => stuck "no such type") = _
    rw [ht2]; rfl
  have hI : pureRun C.P (Instr.index t (.string s) (.int kk (Int.ofNat m))) = some (.int .u8 (Int.ofNat b.toNat)) := by
    unfold Instr.index
    rw [pureRun_bind]
    show (some (kk, Int.ofNat m)).bind _ = _
    simp only [Option.bind_some]
    rw [pureRun_bind, hund]
    simp only [Option.bind_some]
    have e : (if (0 : Int) ≤ Int.ofNat m then s[(Int.ofNat m).toNat]? else none) = some b := by
      have h0 : (0 : Int) ≤ Int.ofNat m := Int.natCast_nonneg m
      rw [if_pos h0]
      show s[m]? = some b
      rw [bytes_get, hb]
    rw [e]
    rfl
  have e2 : pureRun C.P (execOp (fun x => (toVal (ev C T x)).getD undef) o) = some (.value (.int .u8 (Int.ofNat b.toNat))) := by
    unfold execOp
    rw [ho]
    simp only [hx, hi, toVal, Option.getD_some]
    rw [pureRun_bind, hI]
    rfl
  unfold genOp
  rw [e1, e2]
  rfl

theorem genOp_len {o : Oper} {t : TypeId} {ti : TI} {x : Operand} {s : ByteArray} {args : Array Operand} {ats : Array TypeId} {k : AV → Out} (ho : o.op = .call { callee := .builtin .len, args := args, argTypes := ats }) (ha : args.toList = [x]) (hts : ats.toList = [t])
    (ht : tinfo C t = some ti) (hu : ti.under = .string) (hx : ev C T x = .tc (.sc (.string s))) : genOp C o T k = k (.tc (.sc (.int .i64 (Int.ofNat (lenL s.data.toList))))) := by
  letI : Obs := ⟨⟨fun _ => 0, fun _ => false, fun _ => ByteArray.empty, fun _ _ => undef⟩, fun _ => True⟩
  obtain ⟨_, _, ht2, _⟩ := tinfo_ok ht
  rw [hu] at ht2
  have hund : pureRun C.P (underlying t) = some .string := by
    show pureRun C.P (match C.P.underlying t with | some d => pure d | none => stuck "no such type") = _
    rw [ht2]; rfl
  have e0 : args = #[x] := by rw [← Array.toList_inj]; exact ha
  have e00 : ats = #[t] := by rw [← Array.toList_inj]; exact hts
  subst e0; subst e00
  have e1 : mapO (fun x => toVal (ev C T x)) o.op.operands.toList = some [.string s] := by
    rw [ho]
    simp [Op.operands, Call.operands, mapO, hx, toVal]
  have hL : ∀ ty, pureRun C.P (Builtin.len_ #[t] ty #[.string s]) = some (.int .i64 (Int.ofNat (lenL s.data.toList))) := fun ty => by
    unfold Builtin.len_
    simp only [List.getElem?_toArray, List.getElem?_cons_zero]
    rw [pureRun_bind, hund]
    simp only [Option.bind_some]
    rw [lenL_eq]
    show some (Value.int .i64 (s.size : Int)) = some (Value.int .i64 (Int.ofNat s.data.toList.length))
    rw [Array.length_toList]
    rfl
  have e2 : pureRun C.P (execOp (fun x => (toVal (ev C T x)).getD undef) o) = some (.value (.int .i64 (Int.ofNat (lenL s.data.toList)))) := by
    unfold execOp
    rw [ho]
    have es : ∀ s : Sem Value, (Next.value <$> s) = s >>= fun v => pure (Next.value v) := fun s => rfl
    have em : Array.map (fun x => (toVal (ev C T x)).getD undef) #[x] = #[.string s] := by simp [hx, toVal]
    simp only [resolve]
    rw [pureRun_bind, em]
    show pureRun C.P (Next.value <$> Builtin.len_ #[t] o.type #[.string s]) = _
    rw [es, pureRun_bind, hL]
    rfl
  unfold genOp
  rw [e1, e2]
  rfl
end
end Go.Proofs.Ytamhmfdbnlkmkaa

/- The fast evaluator tells what the evaluator tells: structs and slices that are written out; structs compared; slices of slices. -/
set_option linter.unusedVariables false
set_option linter.unusedSectionVars false
set_option linter.unusedSimpArgs false
namespace Go.Proofs.Ytamhmfdbnlkmkaa
open Go Go.RowKit

theorem appL_eq {α : Type} (x : α) : ∀ (l : List α), appL l x = l ++ [x]
  | [] => rfl
  | a :: r => by show a :: appL r x = _; rw [appL_eq x r]; rfl

theorem asTC_tcs : ∀ (z : List TC), asTC (tcs z) = some z
  | [] => rfl
  | c :: r => by show (asTC (tcs r)).map (c :: ·) = _; rw [asTC_tcs r]; rfl

theorem newCells_tcs (s : Nat) (z : List TC) : newCells s [tcs z] = .tcells s [z] := by
  simp only [newCells, mapO, asTC_tcs]

theorem newCells_tc (s : Nat) (c : TC) : newCells s [[.tc c]] = .tcells s [[c]] := newCells_tcs s [c]

theorem newCells_no (s : Nat) (v : AV) (h : asTC [v] = none) : newCells s [[v]] = .cells s [[v]] := by
  simp only [newCells, mapO, h]

section
variable {σ : Type} {E : EnvO σ} (hE : EnvOk E) {C : Ctx} {T : Tmps} {H : Heap}

/-- The place of a field. -/
def placeF (C : Ctx) (fs : Array Field) (i : Nat) : Option (Nat × Nat) := (fs[i]?).bind fun f => (tinfo C f.type).map fun ft => (f.offset, ft.size)

include hE in
theorem bpF_eq (hd : T.length ≤ E.cap) {fs : Array Field} {k : List AV → Out} {z : Out} : ∀ {ps : List (Nat × Operand)} {l : List (BP σ)} {cs : List AV}, cPs E (baseOf C) fs ps = some l →
    (∀ r, fillA (placeF C fs) cs (ps.map fun p => (p.1, ev C (getL T) p.2)) = some r → k r = z) → bpF l (E.enc (getL T)) cs k z = z
  | [], l, cs, hl, hk => by
    simp only [cPs, Option.some.injEq] at hl
    subst hl
    exact hk cs rfl
  | (i, x) :: ps, l, cs, hl, hk => by
    simp only [cPs] at hl
    split at hl
    · rename_i f hf
      split at hl
      · rename_i ft l' hft hl'
        simp only [Option.some.injEq] at hl
        subst hl
        have hp : placeF C fs i = some (f.offset, ft.size) := by
          have : tinfo C f.type = some ft := hft
          simp [placeF, hf, this]
        show cellsF (cO E (baseOf C) x (E.enc (getL T))) _ _ _ z = z
        rw [evF_cO hE hd]
        have fold : ∀ {vc : List AV} {cs' : List AV}, cellsOfA (ev C (getL T) x) = some vc → vc.length = ft.size → f.offset + ft.size ≤ cs.length → setSpan cs f.offset vc = cs' →
            ∀ r, fillA (placeF C fs) cs' (ps.map fun p => (p.1, ev C (getL T) p.2)) = some r → k r = z := fun {vc cs'} h1 h2 h3 h4 r hr => hk r (by
              simp only [List.map_cons, fillA, hp, h1]
              rw [if_pos ⟨h2, h3⟩, h4]; exact hr)
        refine cellsF_eq (fun c hc hok hcs => beq_rec (fun h1 => blt_rec (fun h2 => ?_) fun _ => rfl) fun _ => rfl) (fun hok hn hcs => beq_rec (fun h1 => blt_rec (fun h2 => ?_) fun _ => rfl) fun _ => rfl)
          (fun vc hc hcs => beq_rec (fun h1 => ble_rec (fun h2 => ?_) fun _ => rfl) fun _ => rfl)
        · rw [lenL_eq] at h2
          refine bpF_eq hd hl' (fold hcs (by rw [h1]; rfl) (by rw [h1]; exact h2) ?_)
          rw [hc, setSpan_one _ _ _ h2, setL_eq]
        · rw [lenL_eq] at h2
          refine bpF_eq hd hl' (fold hcs (by rw [h1]; rfl) (by rw [h1]; exact h2) ?_)
          rw [setSpan_one _ _ _ h2, setL_eq]
        · rw [lenL_eq] at h1 h2
          exact bpF_eq hd hl' (fold hcs h1 h2 rfl)
      · cases hl
    · cases hl

include hE in
theorem rpF_eq (hd : T.length ≤ E.cap) {es : Nat} {k : List (List AV) → Out} {z : Out} : ∀ {ps : List (Nat × Operand)} {rows : List (List AV)}, (∀ r ∈ rows, r.length = es) →
    (∀ r, fillRows rows (ps.map fun p => (p.1, ev C (getL T) p.2)) = some r → k r = z) → rpF (ps.map fun p => .mk p.1 es (cO E (baseOf C) p.2)) (E.enc (getL T)) rows k z = z
  | [], rows, hr, hk => hk rows rfl
  | (i, x) :: ps, rows, hr, hk => by
    show cellsF (cO E (baseOf C) x (E.enc (getL T))) _ _ _ z = z
    rw [evF_cO hE hd]
    have fold : ∀ {vc : List AV}, cellsOfA (ev C (getL T) x) = some vc → vc.length = es → vc.all cellOk = true → i < rows.length →
        rpF (ps.map fun p => .mk p.1 es (cO E (baseOf C) p.2)) (E.enc (getL T)) (setL rows i vc) k z = z := fun {vc} h1 h2 h3 h4 => by
      rw [setL_eq]
      refine rpF_eq hd (fun r hm => ?_) fun r hr' => hk r ?_
      · rcases List.mem_or_eq_of_mem_set hm with hm | hm
        · exact hr r hm
        · rw [hm]; exact h2
      · have hi : rows[i]? = some rows[i] := List.getElem?_eq_getElem h4
        simp only [List.map_cons, fillRows, hi, h1]
        rw [if_pos ⟨by rw [h2, hr _ (List.getElem_mem h4)], h3⟩]
        exact hr'
    refine cellsF_eq (fun c hc hok hcs => beq_rec (fun h1 => blt_rec (fun h2 => ?_) fun _ => rfl) fun _ => rfl) (fun hok hn hcs => beq_rec (fun h1 => blt_rec (fun h2 => ?_) fun _ => rfl) fun _ => rfl) (fun vc hc hcs => ?_)
    · rw [lenL_eq] at h2
      have := fold hcs (by rw [h1]; rfl) (by simp [hok]) h2
      rw [hc] at this
      exact this
    · rw [lenL_eq] at h2
      exact fold hcs (by rw [h1]; rfl) (by simp [hok]) h2
    · cases hall : allB okCell vc with
      | false => rfl
      | true =>
        rw [allB_eq okCell_eq] at hall
        exact beq_rec (fun h1 => blt_rec (fun h2 => fold hcs (by rw [← lenL_eq]; exact h1) hall (by rw [← lenL_eq]; exact h2)) fun _ => rfl) fun _ => rfl

/-! ### structs that are compared -/
theorem ekF_eq {t : TypeId} {ti : TI} {e : EK} (ht : tinfo C t = some ti) (he : (match ti.under with | .int _ => some EK.int | .bool => some .bool | .string => some .str | _ => none) = some e) {x y : AV} {k : Bool → Out} {z : Out}
    (hk : ∀ p b, eqCell C t x y = some p → constB p = some b → k b = z) : ekF e x y k z = z := by
  cases hu : ti.under <;> rw [hu] at he <;> simp only [Option.some.injEq, reduceCtorEq] at he
  case int kk =>
    subst he
    show vNum x _ _ z = z
    rcases vNum_cases x with ⟨kx, a, hx, h1⟩ | ⟨kx, f, hx, h1⟩ | h1
    · rw [h1]
      rcases vNum_cases y with ⟨ky, b, hy, h2⟩ | ⟨ky, f, hy, h2⟩ | h2
      · rw [h2]
        cases hkk : Nat.beq (kcode kx) (kcode ky) with
        | false => rfl
        | true =>
          have := kcode_inj hkk
          subst this
          refine hk (.cmp .eql (.lit b) (.lit a)) _ ?_ ?_
          · simp only [eqCell, ht, hx, hy, asSx, hu, decide_true]; rfl
          · rw [eqI_eq]; rfl
      · rw [h2]
      · rw [h2]
    · rw [h1]
    · rw [h1]
  case bool =>
    subst he
    show vB2 x _ z = z
    rcases vB2_cases x with ⟨a, hx, h1⟩ | h1
    · rw [h1]
      rcases vB2_cases y with ⟨b, hy, h2⟩ | h2
      · rw [h2]
        refine hk (.eqb (.lb a) (.lb b)) _ ?_ ?_
        · simp only [eqCell, ht, hx, hy, asSx, hu]
        · simp only [constB]; cases a <;> cases b <;> rfl
      · rw [h2]
    · rw [h1]
  case string =>
    subst he
    show vStr x _ z = z
    rcases vStr_cases x with ⟨a, hx, h1⟩ | h1
    · rw [h1]
      rcases vStr_cases y with ⟨b, hy, h2⟩ | h2
      · rw [h2]
        refine hk (.cmps .eql (.ls a) (.ls b)) _ ?_ ?_
        · simp only [eqCell, ht, hx, hy, asSx, hu]
        · rw [strEq_eq]; rfl
      · rw [h2]
    · rw [h1]

theorem efF_eq {xs ys : List AV} : ∀ {fs : List Field} {l : List EF} {k : Bool → Out} {z : Out}, cEF (baseOf C) fs = some l → (∀ e b, eqFieldsA C xs ys fs = some e → constB e = some b → k b = z) → efF l xs ys k z = z
  | [], l, k, z, hl, hk => by
    simp only [cEF, Option.some.injEq] at hl
    subst hl
    exact hk _ true rfl rfl
  | f :: fs, l, k, z, hl, hk => by
    simp only [cEF] at hl
    split at hl
    · cases hl
    · rename_i hn
      split at hl
      · rename_i ti l' ht hl'
        have ht' : tinfo C f.type = some ti := ht
        obtain ⟨e, he, rfl⟩ : ∃ e, (match ti.under with | .int _ => some EK.int | .bool => some .bool | .string => some .str | _ => none) = some e ∧ l = .mk f.offset e :: l' := by
          cases hu : ti.under <;> rw [hu] at hl <;> simp only [Option.some.injEq, reduceCtorEq] at hl <;> exact ⟨_, rfl, hl.symm⟩
        show nthL xs f.offset (fun x => nthL ys f.offset (fun y => ekF e x y (fun b => efF l' xs ys (fun c => k (@Bool.rec (fun _ => Bool) false c b)) z) z) z) z = z
        rw [nthL_eq]
        split
        · rename_i x hx
          rw [nthL_eq]
          split
          · rename_i y hy
            refine ekF_eq ht' he fun p b hp hb => efF_eq hl' fun q c hq hc => hk (.and p q) _ ?_ ?_
            · simp only [eqFieldsA, hn, hx, hy, hp, hq]
            · simp only [constB, hb, hc]; cases b <;> rfl
          · rfl
        · rfl
      · cases hl

theorem aggV_cases (v : AV) : (∃ cs, v = .agg cs ∧ ∀ f z, aggV v f z = f cs) ∨ (∀ f z, aggV v f z = z) := by
  cases v with
  | agg cs => exact .inl ⟨cs, rfl, fun _ _ => rfl⟩
  | _ => exact .inr fun _ _ => rfl

/-! ### a slice of a slice -/
include hE in
theorem bndF_eq (hd : T.length ≤ E.cap) {dflt : Int} {x : Option Operand} {k : Int → Out} {z : Out} (hk : ∀ n, (∀ k0 : Int → Out, boundA dflt (x.map (ev C (getL T))) k0 = k0 n) → k n = z) :
    bndF dflt (x.map (cO E (baseOf C))) (E.enc (getL T)) k z = z := by
  cases x with
  | none => exact hk dflt fun _ => rfl
  | some x =>
    show vNum (cO E (baseOf C) x (E.enc (getL T))) _ _ z = z
    rw [evF_cO hE hd]
    rcases vNum_cases (ev C (getL T) x) with ⟨kx, n, hx, h1⟩ | ⟨kx, f, hx, h1⟩ | h1
    · rw [h1]
      exact hk n fun k0 => by
        show (match intOf? (ev C (getL T) x) with | some n => k0 n | none => .fail) = _
        rw [hx]; rfl
    · rw [h1]
    · rw [h1]

include hE in
theorem slV_eq (hd : T.length ≤ E.cap) {ti et : TI} {e : TypeId} (hu : ti.under = .slice e) {v : AV} {lo hi : Option Operand} {k : AV → Out} {z : Out}
    (hz : (∀ u, v ≠ .tc (.sc u)) → (∀ t e, v ≠ .tc (.sy t e)) → z = sliceA ti et v (lo.map (ev C (getL T))) (hi.map (ev C (getL T))) none k) :
    slV v et.size (lo.map (cO E (baseOf C))) (hi.map (cO E (baseOf C))) (E.enc (getL T)) k z = z := by
  cases v with
  | tc c =>
    cases c with
    | sl s el =>
      have hz' := hz (by simp) (by simp)
      show bndF (Int.ofNat (lenL el)) (hi.map (cO E (baseOf C))) (E.enc (getL T)) (fun h => bndF 0 (lo.map (cO E (baseOf C))) (E.enc (getL T)) (fun l => cond (leI 0 l && leI l h && leI h (Int.ofNat (lenL el)) && Nat.beq et.size s) (k (.tc (.sl s ((el.take h.toNat).drop l.toNat)))) z) z) z = z
      refine bndF_eq hE hd fun h hh => bndF_eq hE hd fun l hl => ?_
      rw [lenL_eq, leI_eq, leI_eq, leI_eq, beq_dec]
      cases hc : (decide (0 ≤ l) && decide (l ≤ h) && decide (h ≤ Int.ofNat el.length) && decide (et.size = s)) with
      | false => rfl
      | true =>
        rw [lenL_eq] at hh
        have hc' : (decide (0 ≤ l) && decide (l ≤ h) && decide (h ≤ (el.length : Int)) && decide (et.size = s)) = true := hc
        rw [hz']
        simp only [sliceA, hu]
        have hh' := fun k0 => hh k0
        show k _ = boundA (Int.ofNat el.length) _ _
        rw [hh', hl]
        simp only [hc', cond_true]
    | _ => rfl
  | slice o s i len cap ex ver =>
    have hz' := hz (by simp) (by simp)
    show bndF (Int.ofNat len) (hi.map (cO E (baseOf C))) (E.enc (getL T)) (fun h => bndF 0 (lo.map (cO E (baseOf C))) (E.enc (getL T)) (fun l => cond (leI 0 l && leI l h && leI h (Int.ofNat cap) && Nat.beq et.size s) (k (.slice o s (i + l.toNat) (h.toNat - l.toNat) (cap - l.toNat) ex ver)) z) z) z = z
    refine bndF_eq hE hd fun h hh => bndF_eq hE hd fun l hl => ?_
    rw [leI_eq, leI_eq, leI_eq, beq_dec]
    cases hc : (decide (0 ≤ l) && decide (l ≤ h) && decide (h ≤ Int.ofNat cap) && decide (et.size = s)) with
    | false => rfl
    | true =>
      have hc' : (decide (0 ≤ l) && decide (l ≤ h) && decide (h ≤ (cap : Int)) && decide (et.size = s)) = true := hc
      rw [hz']
      simp only [sliceA, hu]
      show k _ = boundA (Int.ofNat len) _ _
      rw [hh, hl]
      simp only [hc', cond_true]
  | _ => rfl

/-! ### a slice of a string -/
theorem dropF_eq {α : Type} : ∀ (l : List α) (n : Nat), dropF l n = l.drop n
  | [], n => by cases n <;> rfl
  | a :: r, 0 => rfl
  | a :: r, n + 1 => dropF_eq r n
theorem takeF_eq {α : Type} : ∀ (l : List α) (n : Nat), takeF l n = l.take n
  | [], n => by cases n <;> rfl
  | a :: r, 0 => rfl
  | a :: r, n + 1 => by show a :: takeF r n = _; rw [takeF_eq r n]; rfl

theorem extract_list (s : ByteArray) (l h : Nat) : s.extract l h = ⟨⟨(s.data.toList.take h).drop l⟩⟩ := by
  rw [ByteArray.ext_iff, ByteArray.data_extract, ← Array.toList_inj, Array.toList_extract]
  simp [List.extract_eq_take_drop, List.drop_take]

theorem pure_bound {P : Program} {kk : IntKind} {n : Int} {y : Nat} {code : BoundsCode} (h0 : 0 ≤ n) (h1 : n ≤ y) : pureRun P (Instr.sliceBound (.int kk n) y code) = some n.toNat := by
  unfold Instr.sliceBound
  rw [pureRun_bind]
  show (some (kk, n)).bind _ = _
  simp only [Option.bind_some]
  rw [if_pos ⟨h0, h1⟩]
  rfl

theorem pure_bounds {P : Program} {n : Nat} {lo hi : Option Value} {l h : Int} (hlo : (lo = none ∧ l = 0) ∨ ∃ kk, lo = some (.int kk l)) (hhi : (hi = none ∧ h = n) ∨ ∃ kk, hi = some (.int kk h)) (h0 : 0 ≤ l) (h1 : l ≤ h) (h2 : h ≤ n) :
    pureRun P (Instr.sliceBounds false n n lo hi none) = some (l.toNat, h.toNat, n) := by
  have e1 : ((h.toNat : Nat) : Int) = h := by omega
  have hb1 := fun (kk : IntKind) code => pure_bound (P := P) (kk := kk) (code := code) (y := n) (by omega : (0 : Int) ≤ h) (by omega)
  have hb2 := fun (kk : IntKind) code => pure_bound (P := P) (kk := kk) (code := code) (y := h.toNat) h0 (by omega)
  have hn : h = n → h.toNat = n := fun e => by omega
  unfold Instr.sliceBounds
  rw [pureRun_bind]
  show (some n).bind _ = _
  simp only [Option.bind_some]
  rcases hhi with ⟨rfl, rfl⟩ | ⟨k2, rfl⟩
  · rw [pureRun_bind]
    show (some n).bind _ = _
    simp only [Option.bind_some]
    rcases hlo with ⟨rfl, rfl⟩ | ⟨k1, rfl⟩
    · rfl
    · rw [pureRun_bind]
      have := hb2 k1
      rw [hn rfl] at this
      simp only [this, Option.bind_some]
      rfl
  · rw [pureRun_bind]
    simp only [hb1, Option.bind_some]
    rcases hlo with ⟨rfl, rfl⟩ | ⟨k1, rfl⟩
    · rfl
    · rw [pureRun_bind]
      simp only [hb2, Option.bind_some]
      rfl
end
end Go.Proofs.Ytamhmfdbnlkmkaa

/- The fast evaluator tells what the evaluator tells: each operation; regions, code, calls. -/
set_option linter.unusedVariables false
set_option linter.unusedSectionVars false
set_option linter.unusedSimpArgs false
namespace Go.Proofs.Ytamhmfdbnlkmkaa
open Go Go.RowKit

section
variable {σ : Type} {E : EnvO σ} (hE : EnvOk E) {C : Ctx} {m : Nat} {T : Tmps} {call : Caller} {H : Heap} {k : KV}

include hE in
theorem genG_ok (hd : T.length ≤ E.cap) (o : Oper) : genG ⟨E.look, o⟩ ⟨C, call⟩ (E.enc (getL T)) H k = aop C call o (getL T) H k := by
  show aop C call o (E.look (E.enc (getL T))) H k = _
  rw [look_enc hE hd]

theorem pureRun_underlying {P : Program} {t : TypeId} {td : TypeDesc} (h : P.underlying t = some td) : pureRun P (underlying t) = some td := by
  show pureRun P (match P.underlying t with | some d => pure d | none => stuck "no such type") = _
  rw [h]; rfl

theorem genOp_conv {C : Ctx} {T : Look} {o : Oper} {src dst : TypeId} {x : Operand} {ts td : TI} {kk kd : IntKind} {n : Int} {k : AV → Out} (ho : o.op = .convert src dst x) (hx : ev C T x = .tc (.sc (.int kk n)))
    (hs : tinfo C src = some ts) (ht : tinfo C dst = some td) (hu : td.under = .int kd) : genOp C o T k = k (.tc (.sc (.int kd (kd.wrap n)))) := by
  letI : Obs := ⟨⟨fun _ => 0, fun _ => false, fun _ => ByteArray.empty, fun _ _ => undef⟩, fun _ => True⟩
  obtain ⟨_, _, hs2, _⟩ := tinfo_ok hs
  obtain ⟨_, _, ht2, _⟩ := tinfo_ok ht
  rw [hu] at ht2
  have e1 : mapO (fun x => toVal (ev C T x)) o.op.operands.toList = some [.int kk n] := by
    rw [ho]
    simp only [Op.operands, mapO, hx, toVal]
  have e2 : pureRun C.P (execOp (fun x => (toVal (ev C T x)).getD undef) o) = some (.value (.int kd (kd.wrap n))) := by
    unfold execOp
    rw [ho]
    simp only [hx, toVal, Option.getD_some, convert]
    rw [pureRun_bind, pureRun_bind, pureRun_underlying hs2]
    simp only [Option.bind_some]
    rw [pureRun_bind, pureRun_underlying ht2]
    simp only [Option.bind_some]
    generalize ts.under = u
    cases u <;> rfl
  unfold genOp
  rw [e1, e2]
  rfl

include hE in
theorem fBn_ok (hd : T.length ≤ E.cap) {o : Oper} {op : BinOp} {t ty : TypeId} {x y : Operand} (ho : o.op = .binOp op t x y ty) :
    fBn op (cO E (baseOf C) x) (cO E (baseOf C) y) ⟨E.look, o⟩ ⟨C, call⟩ (E.enc (getL T)) H k = aop C call o (getL T) H k := by
  unfold fBn bn0
  rw [evF_cO hE hd, evF_cO hE hd, genG_ok hE hd]
  obtain ⟨dst0, op0, type0, pos0, after0, guard0⟩ := o
  simp only at ho
  subst ho
  have ha : aop C call ⟨dst0, .binOp op t x y ty, type0, pos0, after0, guard0⟩ (getL T) H k = match aggEq C t (ev C (getL T) x) (ev C (getL T) y) with
    | some e => aggOp op e fun v => k v H
    | none => match toVal (ev C (getL T) x), toVal (ev C (getL T) y) with
    | some _, some _ => genOp C ⟨dst0, .binOp op t x y ty, type0, pos0, after0, guard0⟩ (getL T) fun v => k v H
    | _, _ => match asSx (ev C (getL T) x), asSx (ev C (getL T) y) with
     | some _, some _ => symOp C ⟨dst0, .binOp op t x y ty, type0, pos0, after0, guard0⟩ (getL T) fun v => k v H
     | _, _ => match op, tinfo C t with
      | .eql, some ti => eqNil ti.under (ev C (getL T) x) (ev C (getL T) y) (fun b => k (.sc (.bool b)) H)
      | .neq, some ti => eqNil ti.under (ev C (getL T) x) (ev C (getL T) y) (fun b => k (.sc (.bool (!b))) H)
      | _, _ => .fail := rfl
  have hs : symOp C ⟨dst0, .binOp op t x y ty, type0, pos0, after0, guard0⟩ (getL T) (fun v => k v H) = match asSx (ev C (getL T) x), asSx (ev C (getL T) y) with
    | some (.int kx, a), some (.int ky, b) => intOp op kx a ky b fun v => k v H
    | some (.str, a), some (.str, b) => strOp op a b fun v => k v H
    | some (.bool, a), some (.bool, b) => match tinfo C t with
      | some ti => match ti.under with | .bool => boolOp op a b (fun v => k v H) | _ => .fail
      | none => .fail
    | _, _ => .fail := rfl
  rcases vNum_cases (ev C (getL T) x) with ⟨kx, a, hx, h1⟩ | ⟨kx, e, hx, h1⟩ | h1
  · rw [h1]
    unfold bnI
    rcases vNum_cases (ev C (getL T) y) with ⟨ky, b, hy, h2⟩ | ⟨ky, f, hy, h2⟩ | h2
    · rw [h2]
      unfold bnII
      refine intF_eq fun v hp hv => ?_
      show k _ H = _
      rw [ha, hx, hy]
      simp only [aggEq, toVal]
      exact (genOp_int (k := fun v => k v H) rfl hx hy hp hv).symm
    · rw [h2, ha, hs, hx, hy]; rfl
    · rw [h2]
  · rw [h1]
    unfold bnS
    rcases vNum_cases (ev C (getL T) y) with ⟨ky, b, hy, h2⟩ | ⟨ky, f, hy, h2⟩ | h2
    · rw [h2, ha, hs, hx, hy]; rfl
    · rw [h2, ha, hs, hx, hy]; rfl
    · rw [h2]
  · rw [h1]
    refine strBin_eq (C := C) (T := getL T) (o := ⟨dst0, .binOp op t x y ty, type0, pos0, after0, guard0⟩) rfl fun a b hx hy => ?_
    rw [ha, hx, hy]
    rfl

include hE in
theorem fEqs_ok (hd : T.length ≤ E.cap) {o : Oper} {op : BinOp} {t ty : TypeId} {x y : Operand} {fs : Array Field} {l : List EF} (ho : o.op = .binOp op t x y ty) (hu : C.P.underlying t = some (.struct fs))
    (hc : (!C.P.stoodInHeld t && !C.P.eqGuardType C.P.depth t) = true) (hl : cEF (baseOf C) fs.toList = some l) :
    fEqs op l (cO E (baseOf C) x) (cO E (baseOf C) y) ⟨E.look, o⟩ ⟨C, call⟩ (E.enc (getL T)) H k = aop C call o (getL T) H k := by
  unfold fEqs
  rw [evF_cO hE hd, evF_cO hE hd, genG_ok hE hd]
  obtain ⟨dst0, op0, type0, pos0, after0, guard0⟩ := o
  simp only at ho
  subst ho
  rcases aggV_cases (ev C (getL T) x) with ⟨xs, hx, h1⟩ | h1
  · rw [h1]
    rcases aggV_cases (ev C (getL T) y) with ⟨ys, hy, h2⟩ | h2
    · rw [h2]
      refine efF_eq hl fun e b he hb => ?_
      have ha : aop C call ⟨dst0, .binOp op t x y ty, type0, pos0, after0, guard0⟩ (getL T) H k = aggOp op e fun v => k v H := by
        have hq : aggEq C t (ev C (getL T) x) (ev C (getL T) y) = some e := by
          rw [hx, hy]
          simp only [aggEq, hu, hc, he]
        simp only [aop, qop, hq]
      rw [ha]
      unfold aggOp
      rw [hb]
      cases op <;> rfl
    · rw [h2]
  · rw [h1]

include hE in
theorem fCv_ok (hd : T.length ≤ E.cap) {o : Oper} {src dst : TypeId} {x : Operand} {ts td : TI} {kd : IntKind} (ho : o.op = .convert src dst x) (hs : tinfo C src = some ts) (ht : tinfo C dst = some td) (hu : td.under = .int kd) :
    fCv kd (cO E (baseOf C) x) ⟨E.look, o⟩ ⟨C, call⟩ (E.enc (getL T)) H k = aop C call o (getL T) H k := by
  unfold fCv
  rw [evF_cO hE hd, genG_ok hE hd]
  obtain ⟨dst0, op0, type0, pos0, after0, guard0⟩ := o
  simp only at ho
  subst ho
  have ha : aop C call ⟨dst0, .convert src dst x, type0, pos0, after0, guard0⟩ (getL T) H k = match ev C (getL T) x with
    | .tc (.sc _) => genOp C ⟨dst0, .convert src dst x, type0, pos0, after0, guard0⟩ (getL T) fun v => k v H
    | .tc (.sy _ _) => symOp C ⟨dst0, .convert src dst x, type0, pos0, after0, guard0⟩ (getL T) fun v => k v H
    | v => bytesStr C H src dst v fun v => k v H := rfl
  rcases vNum_cases (ev C (getL T) x) with ⟨kx, a, hx, h1⟩ | ⟨kx, e, hx, h1⟩ | h1
  · rw [h1, ha, hx]
    simp only []
    rw [genOp_conv rfl hx hs ht hu, wrapF_eq]
  · rw [h1, ha, hx]
    simp only [symOp, hs, ht, hx, asSx, hu]
  · rw [h1]

include hE in
theorem fIa_ok (hd : T.length ≤ E.cap) {o : Oper} {t e : TypeId} {x i : Operand} {ti et : TI} (ho : o.op = .indexAddr t x i) (ht : tinfo C t = some ti) (hu : ti.under = .slice e) (he : tinfo C e = some et) :
    fIa et.size (cO E (baseOf C) x) (cO E (baseOf C) i) ⟨E.look, o⟩ ⟨C, call⟩ (E.enc (getL T)) H k = aop C call o (getL T) H k := by
  unfold fIa
  rw [evF_cO hE hd, evF_cO hE hd, genG_ok hE hd]
  obtain ⟨dst0, op0, type0, pos0, after0, guard0⟩ := o
  simp only at ho
  subst ho
  have ha : aop C call ⟨dst0, .indexAddr t x i, type0, pos0, after0, guard0⟩ (getL T) H k = indexA ti (some et) (ev C (getL T) x) (ev C (getL T) i) fun v => k v H := by
    simp only [aop, qop, ht, hu, he]
  rcases vNum_cases (ev C (getL T) i) with ⟨kx, a, hx, h1⟩ | ⟨kx, f, hx, h1⟩ | h1
  · rw [h1, ha]
    exact iaV_eq hu hx
  · rw [h1]
  · rw [h1]

include hE in
theorem fCall_ok (hd : T.length ≤ E.cap) {o : Oper} {f : FuncId} {fn : Func} {args : Array Operand} {ats : Array TypeId} (ho : o.op = .call { callee := .value (.func f), args := args, argTypes := ats })
    (hf : C.P.funcs[f]? = some fn) (he : entered fn = true) :
    fCall f (args.toList.map (cO E (baseOf C))) ⟨E.look, o⟩ ⟨C, call⟩ (E.enc (getL T)) H k = aop C call o (getL T) H k := by
  unfold fCall
  rw [genG_ok hE hd, evs_cO hE hd]
  obtain ⟨dst0, op0, type0, pos0, after0, guard0⟩ := o
  simp only at ho
  subst ho
  have ha : aop C call ⟨dst0, .call { callee := .value (.func f), args := args, argTypes := ats }, type0, pos0, after0, guard0⟩ (getL T) H k = callA C call f (args.toList.map (ev C (getL T))) H k := by
    simp only [aop, ev, target, scs, Array.toList_empty, List.map_nil, List.nil_append, List.append_nil, hf, he, cond_true]
  cases hp : C.pure f with
  | false =>
    show call f (args.toList.map (ev C (getL T))) H k = _
    rw [ha]
    simp only [callA, hp]
  | true =>
    show @Bool.rec (fun _ => Out) _ _ (allB treeF (args.toList.map (ev C (getL T)))) = _
    cases h : allB treeF (args.toList.map (ev C (getL T))) with
    | false => rfl
    | true =>
      rw [allB_eq treeF_eq] at h
      show @Option.rec _ (fun _ => Out) (call f (args.toList.map (ev C (getL T))) [] fun r H' => fzF r H' fun t => k t H) (fun sm => @Option.rec _ (fun _ => Out) (call f (args.toList.map (ev C (getL T))) [] fun r H' => fzF r H' fun t => k t H) (fun r => k r H) (sm (args.toList.map (ev C (getL T))))) (C.summ f) = _
      rw [ha]
      cases hsm : C.summ f with
      | none =>
        show call f (args.toList.map (ev C (getL T))) [] (fun r H' => fzF r H' fun t => k t H) = _
        simp only [callA, hp, h, callT, hsm, callPure, fzF_eq]
        rfl
      | some sm =>
        simp only [callA, hp, h, callT, hsm]
        cases sm (args.toList.map (ev C (getL T))) with
        | some r => rfl
        | none =>
          show call f (args.toList.map (ev C (getL T))) [] (fun r H' => fzF r H' fun t => k t H) = _
          simp only [callPure, fzF_eq]
          rfl

include hE in
theorem fBs_ok (hd : T.length ≤ E.cap) {o : Oper} {t e : TypeId} {n : Nat} {ps : Array (Nat × Operand)} {ti et : TI} {z : List TC} (ho : o.op = .buildSlice t n ps) (ht : tinfo C t = some ti) (hu : ti.under = .slice e) (he : tinfo C e = some et)
    (hz : zeroCellsA et = some z) (hc : (decide (n * et.size ≤ 2 ^ 24) && decide (et.size ≠ 0) && decide (z.length = et.size) && (tcs z).all cellOk) = true) :
    fBs et.size n (List.replicate n (tcs z)) (ps.toList.map fun p => .mk p.1 et.size (cO E (baseOf C) p.2)) ⟨E.look, o⟩ ⟨C, call⟩ (E.enc (getL T)) H k = aop C call o (getL T) H k := by
  unfold fBs
  rw [genG_ok hE hd]
  obtain ⟨dst0, op0, type0, pos0, after0, guard0⟩ := o
  simp only at ho
  subst ho
  refine rpF_eq hE hd (fun r hr => ?_) fun rows hrows => ?_
  · rw [List.eq_of_mem_replicate hr]
    simp only [Bool.and_eq_true, decide_eq_true_eq] at hc
    simp [tcs, hc.1.2]
  · rw [newObj_eq, lenL_eq, appL_eq]
    simp only [aop, ht, buildSliceA, hu, he, hz, hc, cond_true, hrows]

include hE in
theorem fBt_ok (hd : T.length ≤ E.cap) {o : Oper} {t e : TypeId} {n : Nat} {ps : Array (Nat × Operand)} {ti et : TI} {z : List TC} (ho : o.op = .buildSlice t n ps) (ht : tinfo C t = some ti) (hu : ti.under = .slice e) (he : tinfo C e = some et)
    (hz : zeroCellsA et = some z) (hc : (decide (n * et.size ≤ 2 ^ 24) && decide (et.size ≠ 0) && decide (z.length = et.size) && (tcs z).all cellOk) = true) :
    fBt et.size (List.replicate n (tcs z)) (ps.toList.map fun p => .mk p.1 et.size (cO E (baseOf C) p.2)) ⟨E.look, o⟩ ⟨C, call⟩ (E.enc (getL T)) H k = aopQ C call o (getL T) H fun v => k v H := by
  have gq : genQ (⟨E.look, o⟩ : GI σ) ⟨C, call⟩ (E.enc (getL T)) H k = aopQ C call o (getL T) H fun v => k v H := by
    show aopQ C call o (E.look (E.enc (getL T))) H (fun v => k v H) = _
    rw [look_enc hE hd]
  unfold fBt
  rw [gq]
  clear gq
  obtain ⟨dst0, op0, type0, pos0, after0, guard0⟩ := o
  simp only at ho
  subst ho
  refine rpF_eq hE hd (fun r hr => ?_) fun rows hrows => ?_
  · rw [List.eq_of_mem_replicate hr]
    simp only [Bool.and_eq_true, decide_eq_true_eq] at hc
    simp [tcs, hc.1.2]
  · simp only [aopQ, ht, buildTreeA, hu, he, hz, hc, cond_true, hrows]
    rcases rowsTCK_eq rows (kt := fun l => k (.tc (.sl et.size l)) H) (z := .fail) with ⟨h1, h2⟩ | ⟨l, h1, h2⟩
    · rw [h1, h2]
    · rw [h2, h1]

theorem genOp_ss {C : Ctx} {T : Look} {o : Oper} {t : TypeId} {ti : TI} {x : Operand} {lo hi : Option Operand} {s : ByteArray} {l h : Int} {k : AV → Out} (ho : o.op = .slice t x lo hi none) (ht : tinfo C t = some ti) (hu : ti.under = .string)
    (hx : ev C T x = .tc (.sc (.string s))) (hlo : (lo = none ∧ l = 0) ∨ ∃ y kk, lo = some y ∧ ev C T y = .tc (.sc (.int kk l))) (hhi : (hi = none ∧ h = s.size) ∨ ∃ y kk, hi = some y ∧ ev C T y = .tc (.sc (.int kk h)))
    (h0 : 0 ≤ l) (h1 : l ≤ h) (h2 : h ≤ s.size) : genOp C o T k = k (.tc (.sc (.string (s.extract l.toNat h.toNat)))) := by
  letI : Obs := ⟨⟨fun _ => 0, fun _ => false, fun _ => ByteArray.empty, fun _ _ => undef⟩, fun _ => True⟩
  obtain ⟨_, _, ht2, _⟩ := tinfo_ok ht
  rw [hu] at ht2
  have hund : pureRun C.P (underlying t) = some .string := by
    show pureRun C.P (match C.P.underlying t with | some d => pure d | none => stuck "no such type") = _
    rw [ht2]; rfl
  have e1 : ∃ vs, mapO (fun x => toVal (ev C T x)) o.op.operands.toList = some vs := by
    rw [ho]
    rcases hlo with ⟨rfl, _⟩ | ⟨y, kk, rfl, hy⟩ <;> rcases hhi with ⟨rfl, _⟩ | ⟨z, kz, rfl, hz⟩ <;> simp [Op.operands, mapO, hx, toVal, *]
  have elo : (lo.map (fun x => (toVal (ev C T x)).getD undef) = none ∧ l = 0) ∨ ∃ kk, lo.map (fun x => (toVal (ev C T x)).getD undef) = some (.int kk l) := by
    rcases hlo with ⟨rfl, h⟩ | ⟨y, kk, rfl, hy⟩
    · exact .inl ⟨rfl, h⟩
    · exact .inr ⟨kk, by simp [hy, toVal]⟩
  have ehi : (hi.map (fun x => (toVal (ev C T x)).getD undef) = none ∧ h = s.size) ∨ ∃ kk, hi.map (fun x => (toVal (ev C T x)).getD undef) = some (.int kk h) := by
    rcases hhi with ⟨rfl, h⟩ | ⟨y, kk, rfl, hy⟩
    · exact .inl ⟨rfl, h⟩
    · exact .inr ⟨kk, by simp [hy, toVal]⟩
  have hb := pure_bounds (P := C.P) elo ehi h0 h1 h2
  have hI : pureRun C.P (Instr.slice t (.string s) (lo.map (fun x => (toVal (ev C T x)).getD undef)) (hi.map (fun x => (toVal (ev C T x)).getD undef)) none) = some (.string (s.extract l.toNat h.toNat)) := by
    unfold Instr.slice
    rw [pureRun_bind, hund]
    simp only [Option.bind_some, Option.isSome_none, Bool.false_eq_true, if_false]
    rw [pureRun_bind, hb]
    rfl
  have e2 : pureRun C.P (execOp (fun x => (toVal (ev C T x)).getD undef) o) = some (.value (.string (s.extract l.toNat h.toNat))) := by
    obtain ⟨dst0, op0, type0, pos0, after0, guard0⟩ := o
    simp only at ho
    subst ho
    show pureRun C.P (do pure (Next.value (← Instr.sliceAt t ((toVal (ev C T x)).getD undef) (lo.map (fun x => (toVal (ev C T x)).getD undef)) (hi.map (fun x => (toVal (ev C T x)).getD undef)) none))) = _
    have ex : (toVal (ev C T x)).getD undef = .string s := by rw [hx]; rfl
    rw [ex, pureRun_bind]
    have hat : pureRun C.P (Instr.sliceAt t (.string s) (lo.map (fun x => (toVal (ev C T x)).getD undef)) (hi.map (fun x => (toVal (ev C T x)).getD undef)) none) = some (.string (s.extract l.toNat h.toNat)) := by
      first
        | exact hI
        | (unfold Instr.sliceAt; rw [pureRun_bind, hund]; exact hI)
    rw [hat]
    rfl
  obtain ⟨vs, e1⟩ := e1
  unfold genOp
  rw [e1, e2]
  rfl

include hE in
theorem compA_ok (hd : T.length ≤ E.cap) (o : Oper) : fA (compA E (baseOf C) o) ⟨C, call⟩ (E.enc (getL T)) H k = aop C call o (getL T) H k := by
  have gen := genG_ok hE (C := C) (call := call) (H := H) (k := k) hd o
  obtain ⟨dst0, op0, type0, pos0, after0, guard0⟩ := o
  cases op0
  case move x =>
    show k (cO E (baseOf C) x (E.enc (getL T))) H = _
    rw [evF_cO hE hd]; rfl
  case assign x =>
    show k (cO E (baseOf C) x (E.enc (getL T))) H = _
    rw [evF_cO hE hd]; rfl
  case pick c a b =>
    show condF (cO E (baseOf C) c (E.enc (getL T))) (k (cO E (baseOf C) a (E.enc (getL T))) H) (k (cO E (baseOf C) b (E.enc (getL T))) H) = _
    rw [evF_cO hE hd, evF_cO hE hd, evF_cO hE hd, condF_eq]; rfl
  case nilCheck x =>
    show fNilV (cO E (baseOf C) x (E.enc (getL T))) (fun v => k v H) (genG ⟨E.look, _⟩ ⟨C, call⟩ (E.enc (getL T)) H k) = _
    rw [gen, evF_cO hE hd]
    cases hv : ev C (getL T) x <;> first | rfl | (simp only [aop, qop, hv]; rfl)
  case unOp op t x =>
    cases op
    case not =>
      show notV (cO E (baseOf C) x (E.enc (getL T))) (fun v => k v H) (genG ⟨E.look, _⟩ ⟨C, call⟩ (E.enc (getL T)) H k) = _
      rw [gen, evF_cO hE hd]
      exact notV_eq (o := ⟨dst0, .unOp .not t x, type0, pos0, after0, guard0⟩) rfl rfl
    all_goals exact gen
  case alloc t =>
    simp only [compA, cAl, tinfo_base]
    cases ht : tinfo C t with
    | none => simp only [aop, ht]; rfl
    | some ti =>
      simp only []
      cases hz : zeroCellsA ti with
      | none => simp only [aop, ht, hz]; rfl
      | some z =>
        simp only []
        cases hc : (decide (z.length = ti.size) && decide (ti.size ≠ 0) && (tcs z).all cellOk) with
        | false =>
          simp only [aop, ht, hz, allocA, tcs, List.length_map] at hc ⊢
          rw [hc]; rfl
        | true =>
          show k (.ptr (lenL H) ti.size 0 0 1) (appL H (.tcells ti.size [z])) = _
          simp only [aop, ht, hz, allocA, tcs, List.length_map] at hc ⊢
          rw [hc, lenL_eq, appL_eq, cond_true]
          have := newCells_tcs ti.size z
          simp only [tcs] at this
          rw [this]
  case box t x =>
    simp only [compA, cBx, tinfo_base]
    cases ht : tinfo C t with
    | none => exact gen
    | some ti =>
      show fBx ti.size (cO E (baseOf C) x) ⟨E.look, _⟩ ⟨C, call⟩ (E.enc (getL T)) H k = _
      unfold fBx
      rw [gen, evF_cO hE hd]
      have ha : aop C call ⟨dst0, .box t x, type0, pos0, after0, guard0⟩ (getL T) H k = match cellsOfA (ev C (getL T) x) with | some cs => allocA ti cs H k | none => .fail := by
        simp only [aop, ht]
        cases cellsOfA (ev C (getL T) x) <;> rfl
      refine cellsF_eq (fun c hc hok hcs => beq_rec (fun h1 => ?_) fun _ => rfl) (fun hok hn hcs => beq_rec (fun h1 => ?_) fun _ => rfl) (fun cs hc hcs => beq_rec (fun h1 => ?_) fun _ => rfl)
      · rw [ha, hcs, lenL_eq, appL_eq]
        simp only [allocA, List.length_singleton, h1, List.all_cons, hok, List.all_nil]
        rw [hc, newCells_tc]; rfl
      · rw [ha, hcs, lenL_eq, appL_eq]
        simp only [allocA, List.length_singleton, h1, List.all_cons, hok, List.all_nil]
        rw [newCells_no _ _ hn]; rfl
      · cases hall : allB okCell cs with
        | false => rfl
        | true =>
          rw [allB_eq okCell_eq] at hall
          refine beq_rec (fun _ => rfl) fun h0 => ?_
          rw [lenL_eq] at h1
          rw [ha, hcs, newObj_eq, lenL_eq, appL_eq]
          simp only [allocA, h1, hall, ne_eq, h0, not_false_eq_true, decide_true, Bool.and_self, cond_true]
  case build t ps =>
    simp only [compA, cBd, tinfo_base]
    cases ht : tinfo C t with
    | none => exact gen
    | some ti =>
      simp only []
      split
      · rename_i z fs hz hu
        cases hall : (fs.toList.all fun f => (tinfo C f.type).isSome) with
        | false => exact gen
        | true =>
          simp only [cond_true]
          split
          · rename_i l hl
            show bpF l (E.enc (getL T)) (tcs z) (fun cs => k (.agg cs) H) (genG ⟨E.look, _⟩ ⟨C, call⟩ (E.enc (getL T)) H k) = _
            rw [gen]
            refine bpF_eq hE hd hl fun r hr => ?_
            have hr' : fillA (fun i => (fs[i]?).bind fun f => (tinfo C f.type).map fun ft => (f.offset, ft.size)) (tcs z) (ps.toList.map fun p => (p.1, ev C (getL T) p.2)) = some r := hr
            simp only [aop, ht, buildA, hz, hu, hall, cond_true, hr']
          · exact gen
      · exact gen
  case buildSlice t n ps =>
    simp only [compA, cBs, tinfo_base]
    split
    · rename_i ti ht
      split
      · rename_i e hu
        split
        · rename_i et he
          split
          · rename_i z hz
            cases hc : (decide (n * et.size ≤ 2 ^ 24) && decide (et.size ≠ 0) && decide (z.length = et.size) && (tcs z).all cellOk) with
            | false => exact gen
            | true => exact fBs_ok hE hd rfl ht hu he hz hc
          · exact gen
        · exact gen
      · exact gen
    · exact gen
  case slice t x lo hi mx =>
    simp only [compA, cSl, tinfo_base]
    split
    · rename_i ti ht
      split
      · rename_i e hu
        split
        · rename_i et he
          cases mx with
          | some m => exact gen
          | none =>
            show slV (cO E (baseOf C) x (E.enc (getL T))) et.size (lo.map (cO E (baseOf C))) (hi.map (cO E (baseOf C))) (E.enc (getL T)) (fun v => k v H) (genG ⟨E.look, _⟩ ⟨C, call⟩ (E.enc (getL T)) H k) = _
            rw [gen, evF_cO hE hd]
            refine slV_eq hE hd hu fun h1 h2 => ?_
            simp only [aop, qop, ht, hu, he]
            generalize ev C (getL T) x = v at h1 h2 ⊢
            cases v with
            | tc c => cases c with
              | sc u => exact absurd rfl (h1 u)
              | sy t e => exact absurd rfl (h2 t e)
              | sl s el => rfl
            | _ => rfl
        · exact gen
      · rename_i hu
        cases mx with
        | some m => exact gen
        | none =>
          show fSs (cO E (baseOf C) x) (lo.map (cO E (baseOf C))) (hi.map (cO E (baseOf C))) none ⟨E.look, _⟩ ⟨C, call⟩ (E.enc (getL T)) H k = _
          unfold fSs
          show vStr (cO E (baseOf C) x (E.enc (getL T))) _ _ = _
          rw [gen, evF_cO hE hd]
          rcases vStr_cases (ev C (getL T) x) with ⟨s, hx, h1⟩ | h1
          · rw [h1]
            have conv : ∀ {dflt : Int} {y : Option Operand} {n : Int}, (∀ k0 : Int → Out, boundA dflt (y.map (ev C (getL T))) k0 = k0 n) → (y = none ∧ n = dflt) ∨ ∃ z kk, y = some z ∧ ev C (getL T) z = .tc (.sc (.int kk n)) := fun {dflt y n} hy => by
              cases y with
              | none =>
                have := hy fun m => .sel (.lit m) .fail .fail
                simp only [Option.map_none, boundA, Out.sel.injEq, Sx.lit.injEq, and_true] at this
                exact .inl ⟨rfl, this.symm⟩
              | some z =>
                have := hy fun m => .sel (.lit m) .fail .fail
                simp only [Option.map_some, boundA] at this
                split at this
                · rename_i m hm
                  simp only [Out.sel.injEq, Sx.lit.injEq, and_true] at this
                  subst this
                  refine .inr ⟨z, ?_⟩
                  unfold intOf? at hm
                  split at hm
                  · rename_i kk q hq
                    simp only [Option.some.injEq] at hm
                    subst hm
                    exact ⟨kk, rfl, hq⟩
                  · cases hm
                · cases this
            refine bndF_eq hE hd fun h hh => bndF_eq hE hd fun l hl => ?_
            rw [lenL_eq, leI_eq, leI_eq, leI_eq]
            rw [lenL_eq] at hh
            cases hc : (decide (0 ≤ l) && decide (l ≤ h) && decide (h ≤ Int.ofNat s.data.toList.length)) with
            | false => rfl
            | true =>
              simp only [Bool.and_eq_true, decide_eq_true_eq] at hc
              have hsz : (s.size : Int) = Int.ofNat s.data.toList.length := by rw [Array.length_toList]; rfl
              have e := genOp_ss (C := C) (T := getL T) (o := ⟨dst0, .slice t x lo hi none, type0, pos0, after0, guard0⟩) (k := fun v => k v H) rfl ht hu hx (conv hl) (by rw [hsz]; exact conv hh) hc.1.1 hc.1.2 (by rw [hsz]; exact hc.2)
              rw [extract_list] at e
              show k (.tc (.sc (.string ⟨⟨dropF (takeF s.data.toList h.toNat) l.toNat⟩⟩))) H = _
              rw [dropF_eq, takeF_eq, ← e]
              simp only [aop, qop, hx]
          · rw [h1]
      · exact gen
    · exact gen
  case index t x i =>
    simp only [compA, cIx, tinfo_base]
    split
    · rename_i ti ht
      split
      · rename_i hu
        show fIx (cO E (baseOf C) x) (cO E (baseOf C) i) ⟨E.look, _⟩ ⟨C, call⟩ (E.enc (getL T)) H k = _
        unfold fIx
        rw [gen, evF_cO hE hd, evF_cO hE hd]
        rcases vStr_cases (ev C (getL T) x) with ⟨s, hx, h1⟩ | h1
        · rw [h1]
          rcases vNum_cases (ev C (getL T) i) with ⟨kx, n, hi, h2⟩ | ⟨kx, f, hi, h2⟩ | h2
          · rw [h2]
            cases n with
            | negSucc m => rfl
            | ofNat m =>
              show nthL s.data.toList m _ _ = _
              rw [nthL_eq]
              split
              · rename_i b hb
                exact (genOp_index (k := fun v => k v H) (o := ⟨dst0, .index t x i, type0, pos0, after0, guard0⟩) rfl ht hu hx hi hb).symm
              · rfl
          · rw [h2]
          · rw [h2]
        · rw [h1]
      · exact gen
    · exact gen
  case load t x =>
    simp only [compA, tinfo_base]
    cases ht : tinfo C t with
    | none => simp only [aop, qop, ht]; rfl
    | some ti =>
      show ldV (cO E (baseOf C) x (E.enc (getL T))) ti.agg ti.size H k = _
      rw [evF_cO hE hd, ldV_eq]; simp only [aop, qop, ht]
  case store t a x =>
    simp only [compA, tinfo_base]
    cases ht : tinfo C t with
    | none => simp only [aop, ht]; rfl
    | some ti =>
      show stV (cO E (baseOf C) a (E.enc (getL T))) (cO E (baseOf C) x (E.enc (getL T))) ti.size H k (genG ⟨E.look, _⟩ ⟨C, call⟩ (E.enc (getL T)) H k) = _
      rw [gen, evF_cO hE hd, evF_cO hE hd]
      have : aop C call ⟨dst0, .store t a x, type0, pos0, after0, guard0⟩ (getL T) H k = storeA ti (ev C (getL T) a) (ev C (getL T) x) H fun H' => k undefA H' := by simp only [aop, ht]
      rw [this]
      exact stV_eq ..
  case fieldAddr t x fd =>
    simp only [compA, cFa, tinfo_base]
    have ha : aop C call ⟨dst0, .fieldAddr t x fd, type0, pos0, after0, guard0⟩ (getL T) H k = match tinfo C t with | some t => fieldAddrA C t (ev C (getL T) x) fd (fun v => k v H) | none => .fail := rfl
    rw [ha]
    cases ht : tinfo C t with
    | none => rfl
    | some ti =>
      simp only [fieldAddrA]
      generalize ti.under = u
      cases u
      case struct fs =>
        simp only []
        cases hf : fs[fd]? with
        | none => rfl
        | some fl =>
          simp only []
          cases hft : tinfo C fl.type with
          | none => rfl
          | some ft =>
            simp only []
            cases hz : decide (ft.size ≠ 0) with
            | false => rfl
            | true =>
              show faV (cO E (baseOf C) x (E.enc (getL T))) fl.offset (fun v => k v H) = _
              rw [evF_cO hE hd]
              cases ev C (getL T) x <;> rfl
      all_goals rfl
  case field t x fd =>
    simp only [compA, cFd, tinfo_base]
    have ha : aop C call ⟨dst0, .field t x fd, type0, pos0, after0, guard0⟩ (getL T) H k = match tinfo C t with | some t => fieldA C t (ev C (getL T) x) fd (fun v => k v H) | none => .fail := rfl
    rw [ha]
    cases ht : tinfo C t with
    | none => rfl
    | some ti =>
      simp only [fieldA]
      generalize ti.under = u
      cases u
      case struct fs =>
        simp only []
        cases hf : fs[fd]? with
        | none => cases hv : ev C (getL T) x <;> simp only [hf] <;> rfl
        | some fl =>
          simp only [hf]
          cases hft : tinfo C fl.type with
          | none => cases hv : ev C (getL T) x <;> simp only [hf, hft] <;> rfl
          | some ft =>
            simp only [hft]
            show fdV (cO E (baseOf C) x (E.enc (getL T))) ft.agg ft.size fl.offset (fun v => k v H) = _
            rw [evF_cO hE hd]
            cases ev C (getL T) x
            case agg cs =>
              show @Bool.rec (fun _ => Out) (nthL cs fl.offset (fun v => k v H) .fail) (match span cs fl.offset ft.size with | some r => k (.agg r) H | none => .fail) ft.agg = _
              simp only [hf, hft, partA]
              cases ft.agg with
              | true => rfl
              | false =>
                show nthL cs fl.offset (fun v => k v H) .fail = _
                rw [nthL_eq]
                cases hsp : cs[fl.offset]? <;> simp only [hsp]
            all_goals rfl
      all_goals (simp only []; try rfl)
  case extract x i =>
    show exV (cO E (baseOf C) x (E.enc (getL T))) i (fun v => k v H) = _
    rw [evF_cO hE hd, exV_eq]; rfl
  case binOp op t x y ty =>
    simp only [compA, cBin]
    split
    · rename_i fs hu
      cases hc : (!(baseOf C).P.stoodInHeld t && !(baseOf C).P.eqGuardType (baseOf C).P.depth t) with
      | false => exact fBn_ok hE hd rfl
      | true =>
        simp only []
        split
        · rename_i l hl
          exact fEqs_ok hE hd rfl hu hc hl
        · exact fBn_ok hE hd rfl
    · exact fBn_ok hE hd rfl
  case convert src dst x =>
    simp only [compA, cCv, tinfo_base]
    split
    · rename_i ts td hs ht
      split
      · rename_i kd hu
        exact fCv_ok hE hd rfl hs ht hu
      · exact gen
    · exact gen
  case indexAddr t x i =>
    simp only [compA, cIa, tinfo_base]
    split
    · rename_i ti ht
      split
      · rename_i e hu
        split
        · rename_i et he
          exact fIa_ok hE hd rfl ht hu he
        · exact gen
      · exact gen
    · exact gen
  case makeFunc fn first cap =>
    show k (.func fn (evs (first.toList.map (cO E (baseOf C))) (E.enc (getL T))) (evs (cap.toList.map (cO E (baseOf C))) (E.enc (getL T)))) H = _
    rw [evs_cO hE hd, evs_cO hE hd]; rfl
  case call c =>
    obtain ⟨callee, args, ats⟩ := c
    simp only [compA, cCall, tinfo_base]
    split
    · rename_i _ f
      split
      · rename_i fn hf
        cases he : entered fn with
        | true => exact fCall_ok hE hd rfl hf he
        | false =>
          cases hx : isIdx fn with
          | false => exact gen
          | true =>
            show externA (evs (args.toList.map (cO E (baseOf C))) (E.enc (getL T))) (fun v => k v H) = _
            rw [evs_cO hE hd]
            have hf' : C.P.funcs[f]? = some fn := hf
            simp only [aop, ev, target, scs, Array.toList_empty, List.map_nil, List.nil_append, List.append_nil, hf', he, hx, cond_true, _root_.cond_false]
      · exact gen
    · split
      · rename_i s x st xt hargs hts
        split
        · rename_i sti xti hst hxt
          split
          · rename_i e hu
            split
            · rename_i et he
              split
              · rename_i z hz
                have ha : aop C call ⟨dst0, .call { callee := .builtin .append, args := args, argTypes := ats }, type0, pos0, after0, guard0⟩ (getL T) H k =
                    cond (decide (z.length = et.size) && decide (et.size ≠ 0)) (srcRows H et (isIntD xti.under) z (ev C (getL T) x) fun rows => appendA et (ev C (getL T) s) rows H k) .fail := by
                  simp only [aop, hargs, hts, hst, hxt, hu, he, hz]
                cases hc : (decide (z.length = et.size) && decide (et.size ≠ 0)) with
                | false => rw [ha, hc]; rfl
                | true =>
                  simp only [cond_true]
                  cases hi : isIntD xti.under with
                  | true => exact gen
                  | false =>
                    show srcRows H (tiOf et.size et.bytes) false [] (cO E (baseOf C) x (E.enc (getL T))) (fun rows => appendA (tiOf et.size et.bytes) (cO E (baseOf C) s (E.enc (getL T))) rows H k) = _
                    rw [ha, hc, hi, evF_cO hE hd, evF_cO hE hd]
                    rfl
              · rename_i hz; simp only [aop, hargs, hts, hst, hxt, hu, he, hz]; rfl
            · rename_i he; simp only [aop, hargs, hts, hst, hxt, hu, he]; rfl
          · rename_i hu
            simp only [aop, hargs, hts, hst, hxt]
            rfl
        · rename_i hno
          simp only [aop, hargs, hts]
          rfl
      · rename_i hno
        simp only [aop]
        rfl
    · split
      · rename_i x t hargs hts
        split
        · rename_i ti ht
          split
          · rename_i e hu
            show lenV (cO E (baseOf C) x (E.enc (getL T))) (fun v => k v H) (genG ⟨E.look, _⟩ ⟨C, call⟩ (E.enc (getL T)) H k) = _
            rw [gen, evF_cO hE hd]
            refine lenV_eq (fun _ _ => rfl) fun h1 h2 => ?_
            simp only [aop, qop, hargs, hts, ht, hu]
          · rename_i hu
            show fLs (cO E (baseOf C) x) ⟨E.look, _⟩ ⟨C, call⟩ (E.enc (getL T)) H k = _
            unfold fLs
            rw [gen, evF_cO hE hd]
            rcases vStr_cases (ev C (getL T) x) with ⟨s, hx, h1⟩ | h1
            · rw [h1]
              have := genOp_len (k := fun v => k v H) (C := C) (T := getL T) (o := ⟨dst0, .call { callee := .builtin .len, args := args, argTypes := ats }, type0, pos0, after0, guard0⟩) rfl hargs hts ht hu hx
              simp only [aop, qop, hargs, hx]
              exact this.symm
            · rw [h1]
          · exact gen
        · exact gen
      · exact gen
    · exact gen
  all_goals exact gen
end
end Go.Proofs.Ytamhmfdbnlkmkaa

/- The fast evaluator tells what the evaluator tells: regions, code, calls. -/
set_option linter.unusedVariables false
set_option linter.unusedSectionVars false
set_option linter.unusedSimpArgs false
namespace Go.Proofs.Ytamhmfdbnlkmkaa
open Go Go.RowKit

section
variable {σ : Type} {E : EnvO σ} (hE : EnvOk E) {C : Ctx} {m : Nat} {call : Caller}

theorem putL_zero {β : Type} (T : Tmps) (dst : Option Tmp) (v : AV) (k : Lc → Tmps → β) : putL 0 .nil T dst v k = k .nil (put T dst v) := by
  cases dst with
  | none => rfl
  | some t =>
    simp only [putL, isLoc, Nat.zero_testBit, _root_.cond_false, setK_eq, put]

theorem aopF_eq2 {o : Oper} {T : Look} {H : Heap} {k : AV → Heap → Out} : aopF C call o T H k = aop C call o T H k := rfl

theorem lk_nil (T : Tmps) : lk .nil T = getL T := rfl

theorem put_len (T : Tmps) (dst : Option Tmp) (v : AV) : (put T dst v).length = T.length := by
  cases dst <;> simp [put]

include hE in
theorem cD_some {dst : Option Tmp} {p : AV → σ → σ} {T : Tmps} {v : AV} (hm : T.length = m) (hd : m ≤ E.cap) (h : cD E m dst = some p) : p v (E.enc (getL T)) = E.enc (getL (put T dst v)) := by
  cases dst with
  | none => simp [cD] at h
  | some t =>
    simp only [cD] at h
    cases hb : Nat.blt t m with
    | false => rw [hb] at h; simp at h
    | true =>
      rw [hb] at h
      simp only [cond_true, Option.some.injEq] at h
      subst h
      have ht : Nat.lt t m := by simpa [Nat.blt_eq] using hb
      exact enc_set hE (by rw [hm]; exact ht) (by omega)

theorem cD_none {dst : Option Tmp} {T : Tmps} {v : AV} (hm : T.length = m) (h : cD E m dst = none) : put T dst v = T := by
  cases dst with
  | none => rfl
  | some t =>
    simp only [cD] at h
    cases hb : Nat.blt t m with
    | true => rw [hb] at h; simp at h
    | false =>
      have ht : ¬ Nat.lt t m := fun hh => by
        have : Nat.blt t m = true := by simpa [Nat.blt_eq] using hh
        rw [hb] at this; cases this
      simp only [put]
      exact List.set_eq_of_length_le (by rw [hm]; exact Nat.not_lt.1 ht)

include hE in
theorem fRow_ok {ops : Array Oper} {Kf : σ → Heap → Out} {K : Tmps → Heap → Out} (hd : m ≤ E.cap) (hK : ∀ T H, T.length = m → Kf (E.enc (getL T)) H = K T H) :
    ∀ (l : List Oper) {T : Tmps} {H : Heap}, T.length = m → fRow (l.map (cI E (baseOf C) m ops)) ⟨C, call⟩ (E.enc (getL T)) H Kf = aops C call 0 ops l .nil T H K
  | [], T, H, hm => hK T H hm
  | o :: l, T, H, hm => by
    have ih := @fRow_ok ops Kf K hd hK l
    have hdT : T.length ≤ E.cap := by omega
    show fI (cI E (baseOf C) m ops o) (fRow (l.map (cI E (baseOf C) m ops))) ⟨C, call⟩ (E.enc (getL T)) H Kf = _
    simp only [aops, aopF_eq2, lk_nil, putL_zero]
    have step : ∀ (v : AV) (H' : Heap), (fun (T : Tmps) => aops C call 0 ops l .nil T H' K) (put T o.dst v) = fRow (l.map (cI E (baseOf C) m ops)) ⟨C, call⟩ (E.enc (getL (put T o.dst v))) H' Kf := fun v H' => (ih (by rw [put_len]; exact hm)).symm
    simp only at step
    simp only [step]
    cases hg : o.guard with
    | none =>
      simp only [wantedA, hg, cI]
      cases hc : cD E m o.dst with
      | some p =>
        show fA (compA E (baseOf C) o) ⟨C, call⟩ (E.enc (getL T)) H (fun v H' => fRow (l.map (cI E (baseOf C) m ops)) ⟨C, call⟩ (p v (E.enc (getL T))) H' Kf) = aop C call o (getL T) H _
        rw [compA_ok hE hdT]
        simp only [cD_some hE hm hd hc]
      | none =>
        show fA (compA E (baseOf C) o) ⟨C, call⟩ (E.enc (getL T)) H (fun _ H' => fRow (l.map (cI E (baseOf C) m ops)) ⟨C, call⟩ (E.enc (getL T)) H' Kf) = aop C call o (getL T) H _
        rw [compA_ok hE hdT]
        simp only [cD_none hm hc]
    | some jw =>
      obtain ⟨j, w⟩ := jw
      cases hj : (ops[j]?).bind (·.dst) with
      | none =>
        simp only [wantedA, hg, cI, hj]
        cases hc : cD E m o.dst with
        | some p =>
          show fRow (l.map (cI E (baseOf C) m ops)) ⟨C, call⟩ (p undefA (E.enc (getL T))) H Kf = fRow _ _ _ H Kf
          rw [cD_some hE hm hd hc]
        | none =>
          show fRow (l.map (cI E (baseOf C) m ops)) ⟨C, call⟩ (E.enc (getL T)) H Kf = fRow _ _ _ H Kf
          rw [cD_none hm hc]
      | some c =>
        have gf := fun yes no => guardF_eq (ops := ops) (o := o) (T := getL T) (c := c) (yes := yes) (no := no) hg hj
        have fin : ∀ {x yes no : Out}, x = guardF (getL T c) w yes no → x = match wantedA ops o (getL T) with | none => .fail | some g => guardA g yes no := fun h => h.trans (gf _ _)
        have ec : cO E (baseOf C) (.tmp c) (E.enc (getL T)) = getL T c := evF_cO hE hdT (.tmp c)
        simp only [cI, hg, hj]
        cases hc : cD E m o.dst with
        | some p =>
          have key : fI (FI.gp (cO E (baseOf C) (.tmp c)) w (compA E (baseOf C) o) p) (fRow (l.map (cI E (baseOf C) m ops))) ⟨C, call⟩ (E.enc (getL T)) H Kf =
              guardF (getL T c) w (aop C call o (getL T) H fun v H' => fRow (l.map (cI E (baseOf C) m ops)) ⟨C, call⟩ (E.enc (getL (put T o.dst v))) H' Kf) (fRow (l.map (cI E (baseOf C) m ops)) ⟨C, call⟩ (E.enc (getL (put T o.dst undefA))) H Kf) := by
            show guardF (cO E (baseOf C) (.tmp c) (E.enc (getL T))) w (fA (compA E (baseOf C) o) ⟨C, call⟩ (E.enc (getL T)) H (fun v H' => fRow (l.map (cI E (baseOf C) m ops)) ⟨C, call⟩ (p v (E.enc (getL T))) H' Kf)) (fRow (l.map (cI E (baseOf C) m ops)) ⟨C, call⟩ (p undefA (E.enc (getL T))) H Kf) = _
            rw [compA_ok hE hdT, ec]
            simp only [cD_some hE hm hd hc]
          rw [key, gf]
          cases wantedA ops o (getL T) <;> rfl
        | none =>
          have key : fI (FI.gn (cO E (baseOf C) (.tmp c)) w (compA E (baseOf C) o)) (fRow (l.map (cI E (baseOf C) m ops))) ⟨C, call⟩ (E.enc (getL T)) H Kf =
              guardF (getL T c) w (aop C call o (getL T) H fun v H' => fRow (l.map (cI E (baseOf C) m ops)) ⟨C, call⟩ (E.enc (getL (put T o.dst v))) H' Kf) (fRow (l.map (cI E (baseOf C) m ops)) ⟨C, call⟩ (E.enc (getL (put T o.dst undefA))) H Kf) := by
            show guardF (cO E (baseOf C) (.tmp c) (E.enc (getL T))) w (fA (compA E (baseOf C) o) ⟨C, call⟩ (E.enc (getL T)) H (fun _ H' => fRow (l.map (cI E (baseOf C) m ops)) ⟨C, call⟩ (E.enc (getL T)) H' Kf)) (fRow (l.map (cI E (baseOf C) m ops)) ⟨C, call⟩ (E.enc (getL T)) H Kf) = _
            rw [compA_ok hE hdT, ec]
            simp only [cD_none hm hc]
          rw [key, gf]
          cases wantedA ops o (getL T) <;> rfl

theorem runD_congr {ops : Array Oper} : ∀ (l : List Oper) {T : Tmps} {H : Heap} {ks : List Kd} {hs : List Heap} {K K' : Tmps → List Kd → List Heap → Out}, (∀ T', T'.length = T.length → K T' = K' T') →
    runD C call ops l T H ks hs K = runD C call ops l T H ks hs K'
  | [], T, H, ks, hs, K, K', h => by simp only [runD]; rw [h T rfl]
  | o :: l, T, H, ks, hs, K, K', h => by
    simp only [runD, putK_eq]
    have st : ∀ (v : AV) (H' : Heap) (ks' : List Kd) (hs' : List Heap), runD C call ops l (put T o.dst v) H' ks' hs' K = runD C call ops l (put T o.dst v) H' ks' hs' K' := fun v H' ks' hs' => runD_congr l fun T' hT' => h T' (by rw [hT', put_len])
    simp only [st]

theorem aopsD_congr {M : Nat} {ops : Array Oper} {T : Tmps} {H : Heap} {K K' : Tmps → Heap → Out} (h : ∀ T', T'.length = T.length → K T' = K' T') : aopsD C call M ops T H K = aopsD C call M ops T H K' := by
  unfold aopsD
  congr 1
  exact runD_congr _ fun T' hT' => by funext ks hs; rw [h T' hT']

include hE in
theorem gdF_eq {ops : Array Oper} {o : Oper} {T : Tmps} (hdT : T.length ≤ E.cap) {yes no : Out} : gdF (cG E (baseOf C) ops o) (E.enc (getL T)) yes no = match wantedA ops o (getL T) with | none => .fail | some g => guardA g yes no := by
  unfold cG
  cases hg : o.guard with
  | none => simp only [wantedA, hg]; rfl
  | some jw =>
    obtain ⟨j, w⟩ := jw
    simp only []
    cases hj : (ops[j]?).bind (·.dst) with
    | none => simp only [wantedA, hg, hj]; rfl
    | some c =>
      show guardF (cO E (baseOf C) (.tmp c) (E.enc (getL T))) w yes no = _
      rw [evF_cO hE hdT]
      have := guardF_eq (ops := ops) (o := o) (T := getL T) (c := c) (yes := yes) (no := no) hg hj
      exact this.trans (by cases wantedA ops o (getL T) <;> rfl)

include hE in
theorem quF_eq {o : Oper} {T : Tmps} (hdT : T.length ≤ E.cap) {x y : Out} : quF (cQ E (baseOf C) o) ⟨C, call⟩ (E.enc (getL T)) x y = cond (quietO C o (getL T)) x y := by
  obtain ⟨dst0, op0, type0, pos0, after0, guard0⟩ := o
  cases op0
  case call c =>
    obtain ⟨callee, args, ats⟩ := c
    cases callee with
    | value f =>
      cases f with
      | func f =>
        show @Bool.rec (fun _ => Out) y (@Bool.rec (fun _ => Out) y x (allB treeF (evs (args.toList.map (cO E (baseOf C))) (E.enc (getL T))))) (C.pure f) = _
        rw [evs_cO hE hdT, allB_eq treeF_eq]
        simp only [quietO, ev, target, scs, Array.toList_empty, List.map_nil, List.nil_append, List.append_nil]
        cases C.pure f <;> cases (args.toList.map (ev C (getL T))).all isTree <;> rfl
      | _ =>
        show cond (quietO C _ (E.look (E.enc (getL T)))) x y = _
        rw [look_enc hE hdT]
    | invoke r m => rfl
    | builtin b => cases b <;> rfl
  case buildSlice t n ps =>
    show cond (quietO C _ (E.look (E.enc (getL T)))) x y = _
    rw [look_enc hE hdT]
  all_goals rfl

include hE in
theorem dsF_eq {o : Oper} {T : Tmps} {v : AV} (hm : T.length = m) (hd : m ≤ E.cap) : dsF (cD E m o.dst) v (E.enc (getL T)) = E.enc (getL (put T o.dst v)) := by
  cases hc : cD E m o.dst with
  | some p => exact cD_some hE hm hd hc
  | none => rw [cD_none hm hc]; rfl

include hE in
theorem compQ_ok {T : Tmps} {H : Heap} (hd : T.length ≤ E.cap) (o : Oper) {k : AV → Heap → Out} : fA (compQ E (baseOf C) o) ⟨C, call⟩ (E.enc (getL T)) H (fun v _ => k v H) = aopQ C call o (getL T) H fun v => k v H := by
  have gen := compA_ok hE (C := C) (call := call) (H := H) (k := fun v _ => k v H) hd o
  obtain ⟨dst0, op0, type0, pos0, after0, guard0⟩ := o
  cases op0
  case buildSlice t n ps =>
    simp only [compQ, cBt, tinfo_base]
    cases ht : tinfo C t with
    | none => simp only [aopQ, ht]; rfl
    | some ti =>
      simp only []
      cases hu : ti.under
      case slice e =>
        simp only []
        cases he : tinfo C e with
        | none => simp only [aopQ, ht, buildTreeA, hu, he]; rfl
        | some et =>
          simp only []
          cases hz : zeroCellsA et with
          | none => simp only [aopQ, ht, buildTreeA, hu, he, hz]; rfl
          | some z =>
            simp only []
            cases hc : (decide (n * et.size ≤ 2 ^ 24) && decide (et.size ≠ 0) && decide (z.length = et.size) && (tcs z).all cellOk) with
            | false => simp only [aopQ, ht, buildTreeA, hu, he, hz, hc]; rfl
            | true => exact fBt_ok hE (k := fun v _ => k v H) hd rfl ht hu he hz hc
      all_goals (simp only [aopQ, ht, buildTreeA, hu]; rfl)
  all_goals exact gen

include hE in
theorem qRow_ok {ops : Array Oper} {Kf : σ → List Kd → List Heap → Out} {K : Tmps → List Kd → List Heap → Out} (hd : m ≤ E.cap) (hK : ∀ T ks hs, T.length = m → nLoud ks + 1 = hs.length → Kf (E.enc (getL T)) ks hs = K T ks hs) :
    ∀ (l : List Oper) {T : Tmps} {H : Heap} {ks : List Kd} {hs : List Heap}, T.length = m → nLoud ks = hs.length → qRow (l.map (cQI E (baseOf C) m ops)) ⟨C, call⟩ (E.enc (getL T)) H ks hs Kf = runD C call ops l T H ks hs K
  | [], T, H, ks, hs, hm, hn => hK T ks (H :: hs) hm (by rw [hn]; rfl)
  | o :: l, T, H, ks, hs, hm, hn => by
    have ih := @qRow_ok ops Kf K hd hK l
    have hdT : T.length ≤ E.cap := by omega
    show gdF (cG E (baseOf C) ops o) (E.enc (getL T)) (quF (cQ E (baseOf C) o) ⟨C, call⟩ (E.enc (getL T))
      (fA (compQ E (baseOf C) o) ⟨C, call⟩ (E.enc (getL T)) H fun v _ => qRow (l.map (cQI E (baseOf C) m ops)) ⟨C, call⟩ (dsF (cD E m o.dst) v (E.enc (getL T))) H (.quiet :: ks) hs Kf)
      (fA (compA E (baseOf C) o) ⟨C, call⟩ (E.enc (getL T)) H fun v H' => qRow (l.map (cQI E (baseOf C) m ops)) ⟨C, call⟩ (dsF (cD E m o.dst) v (E.enc (getL T))) H' (.loud (nLoud ks) :: ks) (H :: hs) Kf))
      (qRow (l.map (cQI E (baseOf C) m ops)) ⟨C, call⟩ (dsF (cD E m o.dst) undefA (E.enc (getL T))) H (.no :: ks) hs Kf) = _
    have stq : ∀ (v : AV), qRow (l.map (cQI E (baseOf C) m ops)) ⟨C, call⟩ (E.enc (getL (put T o.dst v))) H (.quiet :: ks) hs Kf = runD C call ops l (put T o.dst v) H (.quiet :: ks) hs K := fun v => ih (by rw [put_len]; exact hm) hn
    have stn : ∀ (v : AV), qRow (l.map (cQI E (baseOf C) m ops)) ⟨C, call⟩ (E.enc (getL (put T o.dst v))) H (.no :: ks) hs Kf = runD C call ops l (put T o.dst v) H (.no :: ks) hs K := fun v => ih (by rw [put_len]; exact hm) hn
    have stl : ∀ (v : AV) (H' : Heap), qRow (l.map (cQI E (baseOf C) m ops)) ⟨C, call⟩ (E.enc (getL (put T o.dst v))) H' (.loud hs.length :: ks) (H :: hs) Kf = runD C call ops l (put T o.dst v) H' (.loud hs.length :: ks) (H :: hs) K := fun v H' => ih (by rw [put_len]; exact hm) (by show nLoud ks + 1 = _; rw [hn]; rfl)
    rw [gdF_eq hE hdT, quF_eq hE hdT]
    simp only [dsF_eq hE hm hd, hn, stq, stn, stl]
    rw [compQ_ok hE hdT (k := fun v H' => runD C call ops l (put T o.dst v) H' (.quiet :: ks) hs K), compA_ok hE hdT]
    simp only [runD, putK_eq]
    cases wantedA ops o (getL T) <;> rfl

include hE in
theorem chkAt_ok {T : Tmps} (hdT : T.length ≤ E.cap) (o : Oper) (v : AV) (K : Out) : ∀ (hl : List Heap), chkAt (compQ E (baseOf C) o) v ⟨C, call⟩ (E.enc (getL T)) hl K = checkAt C call o (getL T) v hl K
  | [] => rfl
  | H :: r => by
    have ih := chkAt_ok hdT o v K r
    show fA (compQ E (baseOf C) o) ⟨C, call⟩ (E.enc (getL T)) H (fun u _ => cond (sameA u v) (chkAt (compQ E (baseOf C) o) v ⟨C, call⟩ (E.enc (getL T)) r K) .fail) = _
    rw [compQ_ok hE hdT (k := fun u _ => cond (sameA u v) (chkAt (compQ E (baseOf C) o) v ⟨C, call⟩ (E.enc (getL T)) r K) .fail), ih]
    rfl

include hE in
theorem chkPlan_ok {T : Tmps} (hdT : T.length ≤ E.cap) {ms : List Nat} {ks : List Kd} {hl : List Heap} {K : Out} : ∀ (l : List Oper) (s : List Kd) (i : Nat),
    chkPlan (planF ms ks hl.length (l.map (cPQ E (baseOf C))) s i) ⟨C, call⟩ (E.enc (getL T)) hl K = checksD C call ms T ks hl (l.zip s) i K
  | [], s, i => by cases s <;> rfl
  | o :: l, [], i => rfl
  | o :: l, kd :: s, i => by
    have ih := chkPlan_ok hdT (ms := ms) (ks := ks) (hl := hl) (K := K) l s (i + 1)
    simp only [List.map_cons, List.zip_cons_cons, planF, checksD]
    cases kd with
    | no => exact ih
    | loud p => exact ih
    | quiet =>
      simp only [cPQ]
      cases hr : readsO o with
      | false => exact ih
      | true =>
        cases hd : o.dst with
        | none => rfl
        | some d =>
          show chkAt (compQ E (baseOf C) o) (cO E (baseOf C) (.tmp d) (E.enc (getL T))) ⟨C, call⟩ (E.enc (getL T)) (dropF (takeF hl (Nat.succ (hiD ms ks i hl.length))) (loD ks (ms.getD i 0)))
            (chkPlan (planF ms ks hl.length (l.map (cPQ E (baseOf C))) s (i + 1)) ⟨C, call⟩ (E.enc (getL T)) hl K) = _
          rw [ih, chkAt_ok hE hdT, dropF_eq, takeF_eq, evF_cO hE hdT]
          simp only [ev, getL_eq]

include hE in
theorem regDF_ok {ops : Array Oper} {T : Tmps} {H : Heap} {Kn : σ → Heap → Out} {K : Tmps → Heap → Out} (hd : m ≤ E.cap) (hok : okOps ops = true) (hm : T.length = m) (hK : ∀ T H, T.length = m → Kn (E.enc (getL T)) H = K T H) :
    regDF (masks ops.toList []) (ops.toList.map (cPQ E (baseOf C))) (ops.toList.map (cQI E (baseOf C) m ops)) ⟨C, call⟩ (E.enc (getL T)) H Kn = aopsD C call 0 ops T H K := by
  have e : ∀ (p : Oper → Bool), (∀ o, p o = true) → ops.toList.all p = true := fun p hp => List.all_eq_true.2 fun o _ => hp o
  unfold aopsD regDF
  rw [hok, e _ fun o => by cases o.dst <;> simp [isLoc]]
  simp only [Bool.and_self, cond_true]
  refine qRow_ok hE hd (fun T' ks hs hm' hn => ?_) ops.toList hm rfl
  match hs, hn with
  | [], hn => rfl
  | [H'], hn => exact hK T' H' hm'
  | H' :: H2 :: r, hn =>
    show @Bool.rec (fun _ => Out) .fail (chkPlan (planOf (masks ops.toList []) (ops.toList.map (cPQ E (baseOf C))) ks) ⟨C, call⟩ (E.enc (getL T')) (H' :: H2 :: r).reverse (Kn (E.enc (getL T')) H')) (chainD (masks ops.toList []) ks.reverse) = _
    have hl : nLoud ks + 1 = (H' :: H2 :: r).reverse.length := by rw [List.length_reverse]; exact hn
    unfold planOf
    rw [hl, chkPlan_ok hE (by omega), hK T' H' hm']
    cases chainD (masks ops.toList []) ks.reverse <;> rfl

/-! ### code -/
def Agree {σ : Type} (E : EnvO σ) (m : Nat) (Kn : σ → Heap → Out) (Kf : Ke σ) (K : AEx → Tmps → Heap → Out) : Prop :=
  (∀ T H, T.length = m → Kn (E.enc (getL T)) H = K .normal T H) ∧ ∀ e T H, (∀ _ : e = .normal, False) → T.length = m → Kf e (E.enc (getL T)) H = K e T H

theorem hasF_ok (l : Nat) : ∀ c : Code, hasF l (compC E (baseOf C) m c) = hasL l c
  | .skip => rfl
  | .label l' => by
    show Nat.beq l' l = (l' == l)
    rw [beq_dec]; rfl
  | .region _ ops draw => by
    cases draw with
    | false => rfl
    | true =>
      simp only [compC]
      cases ((baseOf C).P.follows .mixedOrders && okOps ops) <;> rfl
  | .seq a b => by
    show @Bool.rec (fun _ => Bool) (hasF l (compC E (baseOf C) m b)) true (hasF l (compC E (baseOf C) m a)) = (hasL l a || hasL l b)
    rw [hasF_ok l a, hasF_ok l b]
    cases hasL l a <;> rfl
  | .cond .. => rfl
  | .block .. => rfl
  | .loop _ => rfl
  | .rangeFunc .. => rfl
  | .exit _ => rfl
  | .scope _ => rfl
  | .goto _ => rfl
  | .ret => rfl
  | .refuse _ => rfl

theorem iterF_ok {body : Sg σ} {abody : Tmps → Heap → (AEx → Tmps → Heap → Out) → Out} {sl : List Tmp} {n0 : Nat}
    (hb : ∀ {T H Kn Kf K}, T.length = m → Agree E m Kn Kf K → body ⟨C, call⟩ (E.enc (getL T)) H Kn Kf = abody T H K) {Kn : σ → Heap → Out} {Kf : Ke σ} {K : AEx → Tmps → Heap → Out} (hK : Agree E m Kn Kf K) :
    ∀ (n : Nat) {T : Tmps} {H : Heap}, T.length = m → iterF body n ⟨C, call⟩ (E.enc (getL T)) H Kf = iter abody sl n0 false n T H K
  | 0, T, H, hm => rfl
  | n + 1, T, H, hm => by
    show body ⟨C, call⟩ (E.enc (getL T)) H (fun F' H' => iterF body n ⟨C, call⟩ F' H' Kf) Kf = _
    simp only [iter, roundT, roundH]
    refine hb hm ⟨fun T' H' hm' => iterF_ok hb hK n hm', fun e T' H' he hm' => ?_⟩
    rw [hK.2 e T' H' he hm']
    cases e with
    | normal => exact (he rfl).elim
    | _ => rfl

theorem iterSF_ok {body : Sg σ} {fr : Nat → Sg σ} {abody : Option Nat → Tmps → Heap → (AEx → Tmps → Heap → Out) → Out} {has has' : Nat → Bool} (hh : ∀ l, has l = has' l)
    (hb : ∀ {T H Kn Kf K}, T.length = m → Agree E m Kn Kf K → body ⟨C, call⟩ (E.enc (getL T)) H Kn Kf = abody none T H K) (hl : ∀ {l T H Kn Kf K}, T.length = m → Agree E m Kn Kf K → fr l ⟨C, call⟩ (E.enc (getL T)) H Kn Kf = abody (some l) T H K)
    {Kn : σ → Heap → Out} {Kf : Ke σ} {K : AEx → Tmps → Heap → Out} (hK : Agree E m Kn Kf K) :
    ∀ (n : Nat) (mm : Option Nat) {T : Tmps} {H : Heap}, T.length = m → iterSF body fr has n mm ⟨C, call⟩ (E.enc (getL T)) H Kn Kf = iterS abody has' n mm T H K
  | 0, mm, T, H, hm => rfl
  | n + 1, mm, T, H, hm => by
    have ih := fun (l : Nat) {T : Tmps} {H : Heap} (hm : T.length = m) => iterSF_ok hh hb hl hK n (some l) (T := T) (H := H) hm
    have ag : Agree E m Kn (fun e => @AEx.rec (fun _ => σ → Heap → Out) (Kf .normal) (fun id => Kf (.exit id))
      (fun l F' H' => @Bool.rec (fun _ => Out) (Kf (.goto l) F' H') (iterSF body fr has n (some l) ⟨C, call⟩ F' H' Kn Kf) (has l)) (Kf .ret) e) (fun e T2 H2 => match e with
        | .goto l => cond (has' l) (iterS abody has' n (some l) T2 H2 K) (K (.goto l) T2 H2)
        | e => K e T2 H2) := by
      refine ⟨fun T' H' hm' => hK.1 T' H' hm', fun e T' H' he hm' => ?_⟩
      cases e with
      | normal => exact (he rfl).elim
      | exit id => exact hK.2 (.exit id) T' H' (by simp) hm'
      | goto l =>
        show @Bool.rec (fun _ => Out) (Kf (.goto l) (E.enc (getL T')) H') (iterSF body fr has n (some l) ⟨C, call⟩ (E.enc (getL T')) H' Kn Kf) (has l) = cond (has' l) _ _
        rw [hh l, ih l hm', hK.2 (.goto l) T' H' (by simp) hm']
        cases has' l <;> rfl
      | ret => exact hK.2 .ret T' H' (by simp) hm'
    simp only [iterS]
    cases mm with
    | none => exact hb hm ag
    | some l => exact hl hm ag

include hE in
theorem compC_ok (hsym : C.sym = false) (hd : m ≤ E.cap) (nm : Array String) : ∀ (c : Code) {T : Tmps} {H : Heap} {Kn : σ → Heap → Out} {Kf : Ke σ} {K : AEx → Tmps → Heap → Out}, T.length = m → Agree E m Kn Kf K →
    (two (compC E (baseOf C) m c)).a ⟨C, call⟩ (E.enc (getL T)) H Kn Kf = acodeM C call nm 0 c none T H K ∧ ∀ l, (two (compC E (baseOf C) m c)).l l ⟨C, call⟩ (E.enc (getL T)) H Kn Kf = acodeM C call nm 0 c (some l) T H K
  | .skip, T, H, Kn, Kf, K, hm, hK => ⟨hK.1 T H hm, fun l => rfl⟩
  | .label l', T, H, Kn, Kf, K, hm, hK => ⟨hK.1 T H hm, fun l => by
    show @Bool.rec (fun _ => Out) .fail (Kn (E.enc (getL T)) H) (Nat.beq l' l) = cond (l' == l) (K .normal T H) .fail
    rw [hK.1 T H hm]
    have e : Nat.beq l' l = (l' == l) := by rw [beq_dec]; rfl
    rw [e]
    cases (l' == l) <;> rfl⟩
  | .region id ops draw, T, H, Kn, Kf, K, hm, hK => by
    cases draw with
    | false => exact ⟨fRow_ok hE hd hK.1 ops.toList hm, fun l => rfl⟩
    | true =>
      simp only [compC, acodeM]
      have eP : (baseOf C).P = C.P := rfl
      rw [eP]
      cases C.P.follows .mixedOrders with
      | false => exact ⟨rfl, fun l => rfl⟩
      | true =>
        simp only [Bool.true_and, cond_true]
        cases hok : okOps ops with
        | false =>
          refine ⟨?_, fun l => rfl⟩
          simp only [aopsD, hok, Bool.false_and, _root_.cond_false]
          rfl
        | true =>
          refine ⟨?_, fun l => rfl⟩
          exact regDF_ok hE hd hok hm fun T' H' hT' => hK.1 T' H' hT'
  | .seq a b, T, H, Kn, Kf, K, hm, hK => by
    have ia := @compC_ok hsym hd nm a
    have ib := @compC_ok hsym hd nm b
    have ag : Agree E m (fun F' H' => (two (compC E (baseOf C) m b)).a ⟨C, call⟩ F' H' Kn Kf) Kf (fun e T' H' => match e with
        | .normal => acodeM C call nm 0 b none T' H' K
        | e => K e T' H') := by
      refine ⟨fun T' H' hm' => (ib hm' hK).1, fun e T' H' he hm' => ?_⟩
      rw [hK.2 e T' H' he hm']
      cases e with
      | normal => exact (he rfl).elim
      | _ => rfl
    refine ⟨(ia hm ag).1, fun l => ?_⟩
    show @Bool.rec (fun _ => Out) ((two (compC E (baseOf C) m b)).l l ⟨C, call⟩ (E.enc (getL T)) H Kn Kf) ((two (compC E (baseOf C) m a)).l l ⟨C, call⟩ (E.enc (getL T)) H (fun F' H' => (two (compC E (baseOf C) m b)).a ⟨C, call⟩ F' H' Kn Kf) Kf) (hasF l (compC E (baseOf C) m a)) = _
    rw [hasF_ok, (ib hm hK).2 l, (ia hm ag).2 l]
    simp only [acodeM]
    cases hasL l a <;> rfl
  | .cond c a b, T, H, Kn, Kf, K, hm, hK => by
    refine ⟨?_, fun l => rfl⟩
    show condF (cO E (baseOf C) c (E.enc (getL T))) ((two (compC E (baseOf C) m a)).a ⟨C, call⟩ (E.enc (getL T)) H Kn Kf) ((two (compC E (baseOf C) m b)).a ⟨C, call⟩ (E.enc (getL T)) H Kn Kf) = _
    rw [evF_cO hE (by omega), condF_eq, (compC_ok hsym hd nm a hm hK).1, (compC_ok hsym hd nm b hm hK).1]
    rfl
  | .block id a, T, H, Kn, Kf, K, hm, hK => by
    refine ⟨?_, fun l => rfl⟩
    refine (compC_ok hsym hd nm a (K := fun e T' H' => match e with
      | .exit id' => cond (decide (id' = id)) (K .normal T' H') (K (.exit id') T' H')
      | e => K e T' H') hm ⟨fun T' H' hm' => hK.1 T' H' hm', fun e T' H' he hm' => ?_⟩).1
    cases e with
    | normal => exact (he rfl).elim
    | exit id' =>
      show @Bool.rec (fun _ => Out) (Kf (.exit id') (E.enc (getL T')) H') (Kn (E.enc (getL T')) H') (Nat.beq id' id) = cond (decide (id' = id)) _ _
      rw [beq_dec, hK.1 T' H' hm', hK.2 (.exit id') T' H' (by simp) hm']
      cases decide (id' = id) <;> rfl
    | goto l => exact hK.2 (.goto l) T' H' (by simp) hm'
    | ret => exact hK.2 .ret T' H' (by simp) hm'
  | .loop a, T, H, Kn, Kf, K, hm, hK => by
    refine ⟨?_, fun l => rfl⟩
    show iterF (two (compC E (baseOf C) m a)).a C.L ⟨C, call⟩ (E.enc (getL T)) H Kf = _
    simp only [acodeM, hsym]
    exact iterF_ok (fun hm hK => (compC_ok hsym hd nm a hm hK).1) hK C.L hm
  | .scope a, T, H, Kn, Kf, K, hm, hK => by
    refine ⟨?_, fun l => rfl⟩
    show iterSF (two (compC E (baseOf C) m a)).a (two (compC E (baseOf C) m a)).l (fun l => hasF l (compC E (baseOf C) m a)) C.L none ⟨C, call⟩ (E.enc (getL T)) H Kn Kf = _
    simp only [acodeM]
    exact iterSF_ok (fun l => hasF_ok l a) (fun hm hK => (compC_ok hsym hd nm a hm hK).1) (fun {l} _ _ _ _ _ hm hK => (compC_ok hsym hd nm a hm hK).2 l) hK C.L none hm
  | .exit id, T, H, Kn, Kf, K, hm, hK => ⟨hK.2 (.exit id) T H (by simp) hm, fun l => rfl⟩
  | .goto l, T, H, Kn, Kf, K, hm, hK => ⟨hK.2 (.goto l) T H (by simp) hm, fun l => rfl⟩
  | .ret, T, H, Kn, Kf, K, hm, hK => ⟨hK.2 .ret T H (by simp) hm, fun l => rfl⟩
  | .rangeFunc .., T, H, Kn, Kf, K, hm, hK => ⟨rfl, fun l => rfl⟩
  | .refuse _, T, H, Kn, Kf, K, hm, hK => ⟨rfl, fun l => rfl⟩

/-! ### calls -/
include hE in
theorem fRes_ok {T : Tmps} {H : Heap} {k : KV} (hd : T.length ≤ E.cap) : ∀ (l : List ResultVar) {acc : List AV}, fRes (l.map (cRes E (baseOf C))) (E.enc (getL T)) H acc k = resultsA.go C T H (fun v => k v H) l acc
  | [], acc => by
    show (match acc with | [v] => k v H | vs => k (.tuple vs.reverse) H) = _
    simp only [resultsA.go]
    match acc with
    | [] => rfl
    | [v] => rfl
    | _ :: _ :: _ => rfl
  | .tmp t :: r, acc => by
    show fRes (r.map (cRes E (baseOf C))) (E.enc (getL T)) H (cO E (baseOf C) (.tmp t) (E.enc (getL T)) :: acc) k = _
    rw [fRes_ok hd r, evF_cO hE hd]
    simp only [resultsA.go, ev, getL_eq]
  | .cell a t :: r, acc => by
    simp only [List.map_cons, resultsA.go, cRes]
    simp only [tinfo_base]
    cases ht : tinfo C t with
    | none => rfl
    | some ti =>
      show ldV (cO E (baseOf C) (.tmp a) (E.enc (getL T))) ti.agg ti.size H (fun v _ => fRes (r.map (cRes E (baseOf C))) (E.enc (getL T)) H (v :: acc) k) = _
      rw [evF_cO hE hd, ldV_eq]
      simp only [fRes_ok hd r, ev, getL_eq]

theorem initT_eq (args : List AV) (n : Nat) : initT 0 args n = args ++ List.replicate (n - args.length) undefA := by
  unfold initT
  congr 1
  apply List.ext_getElem?
  intro i
  rw [List.getElem?_map, List.getElem?_replicate]
  by_cases h : i < n - args.length
  · rw [List.getElem?_range' h, if_pos h]
    simp [isLoc]
  · rw [List.getElem?_eq_none (by simp; omega), if_neg h]; rfl

theorem nthA_eq : ∀ (l : List AV) (n : Nat), nthA l n = getL l n
  | [], n => by cases n <;> rfl
  | a :: r, 0 => rfl
  | a :: r, n + 1 => nthA_eq r n

include hE in
theorem callB_ok (hsym : C.sym = false) {n : Nat} {f : FuncId} {fn : Func} {c : Code} (hf : C.P.funcs[f]? = some fn) (hb : fn.body = some c) (hcap : fn.ntmps ≤ E.cap) (args : List AV) (H : Heap) (k : KV) :
    callB E.enc (compB E (baseOf C) fn c) ⟨C, acall C n⟩ args H k (acall C (Nat.succ n) f args H k) = acall C (Nat.succ n) f args H k := by
  unfold callB
  refine ble_rec (fun hl => ?_) fun _ => rfl
  rw [lenL_eq] at hl
  have hl : args.length ≤ fn.ntmps := hl
  have e0 : nthA args = getL (initT 0 args fn.ntmps) := by
    funext i
    rw [nthA_eq, initT_eq, getL_eq, getL_eq, List.getD_eq_getElem?_getD, List.getD_eq_getElem?_getD, List.getElem?_append]
    split
    · rfl
    · rename_i hi
      rw [List.getElem?_eq_none (by omega), List.getElem?_replicate]
      split <;> rfl
  rw [e0]
  simp only [acall, hf, hb]
  have hm : (initT 0 args fn.ntmps).length = fn.ntmps := by rw [initT_eq]; simp; omega
  have e1 : (decide (locMask fn c < Nat.pow 2 fn.ntmps) && decide (locMask fn c % Nat.pow 2 args.length = 0)) = true := by
    simp only [locMask, Bool.and_eq_true, decide_eq_true_eq]
    exact ⟨decide_eq_true (Nat.two_pow_pos _), by simp⟩
  rw [e1]
  simp only [cond_true]
  have key := fun {Kn Kf K} (hK : Agree E fn.ntmps Kn Kf K) => (compC_ok hE (C := C) (call := acall C n) hsym hcap fn.tmpNames c (T := initT 0 args fn.ntmps) (H := H) (Kn := Kn) (Kf := Kf) (K := K) hm hK).1
  refine key ⟨fun T' H' hm' => fRes_ok hE (by omega) _, fun e T' H' he hm' => ?_⟩
  cases e with
  | normal => exact (he rfl).elim
  | exit id => rfl
  | goto l => rfl
  | ret => exact fRes_ok hE (by omega) _
end

theorem fcall_eq {C : Ctx} {code : FuncId → FF} (hcode : ∀ f, code f = .bad ∨ code f = compF (baseOf C) f) (hsym : C.sym = false) : ∀ n, fcall code C n = acall C n
  | 0 => by funext f args H k; rfl
  | n + 1 => by
    have ih := fcall_eq hcode hsym n
    funext f args H k
    show @FF.rec (fun _ => Out) (acall C (Nat.succ n) f args H k) (fun b => callB encT2 b ⟨C, fcall code C n⟩ args H k (acall C (Nat.succ n) f args H k)) (fun b => callB encT3 b ⟨C, fcall code C n⟩ args H k (acall C (Nat.succ n) f args H k)) (code f) = _
    rw [ih]
    rcases hcode f with hcf | hcf
    · rw [hcf]
    rw [hcf]
    simp only [compF]
    have eP : (baseOf C).P = C.P := rfl
    rw [eP]
    cases hf : C.P.funcs[f]? with
    | none => rfl
    | some fn =>
      simp only []
      cases hb : fn.body with
      | none => rfl
      | some c =>
        simp only []
        cases h2 : Nat.ble fn.ntmps 64 with
        | true => exact callB_ok E2_ok hsym hf hb (Nat.le_of_ble_eq_true h2) args H k
        | false =>
          cases h3 : Nat.ble fn.ntmps 512 with
          | true => exact callB_ok E3_ok hsym hf hb (Nat.le_of_ble_eq_true h3) args H k
          | false => rfl

/-! ### runs -/
noncomputable def runF (code : FuncId → FF) (C : Ctx) (d : Nat) (f : FuncId) (args : List AV) : Out := fcall code C d f args [] fun r H => fzF r H .leaf

theorem runF_eq {code : FuncId → FF} {C : Ctx} (hcode : ∀ f, code f = .bad ∨ code f = compF (baseOf C) f) (hsym : C.sym = false) (d : Nat) (f : FuncId) (args : List AV) : runF code C d f args = runOut C d f args := by
  unfold runF runOut callPure
  rw [fcall_eq hcode hsym]
  simp only [fzF_eq]
  rfl

/-- A run by code that was made ready ahead. -/
theorem RunIs.code {code : FuncId → FF} {C : Ctx} {d : Nat} {fs : Facts} {f : FuncId} {args : List AV} {o : Out} (hcode : ∀ f, code f = .bad ∨ code f = compF (baseOf C) f) (hsym : C.sym = false) (h : prune fs (runF code C d f args) = o) :
    RunIs C d fs f args o := by
  unfold RunIs
  rw [← runF_eq hcode hsym]
  exact h

/-- A run by code that is made ready as it is met. -/
theorem RunIs.fast {C : Ctx} {d : Nat} {fs : Facts} {f : FuncId} {args : List AV} {o : Out} (hsym : C.sym = false) (h : prune fs (runF (compF (baseOf C)) C d f args) = o) : RunIs C d fs f args o :=
  RunIs.code (fun _ => .inr rfl) hsym h
end Go.Proofs.Ytamhmfdbnlkmkaa

