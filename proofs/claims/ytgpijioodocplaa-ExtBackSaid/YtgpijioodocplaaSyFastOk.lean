/- The fast evaluator tells what the evaluator tells. -/
import Derived.Test.YtgpijioodocplaaSyFast
import Derived.Test.YtgpijioodocplaaSyDet2
import Derived.Test.YtgpijioodocplaaSyPrune
set_option linter.unusedVariables false
set_option linter.unusedSectionVars false
set_option linter.unusedSimpArgs false
namespace Go.Proofs.Ytgpijioodocplaa
open Go Go.RowKit

/-! ### temporaries -/
theorem getL_set {T : Tmps} {t : Nat} {v : AV} (ht : t < T.length) : getL (T.set t v) = fun m => if m = t then v else getL T m := by
  funext m
  rw [getL_eq, getL_eq]
  simp only [List.getD_eq_getElem?_getD, List.getElem?_set]
  by_cases h : t = m
  · subst h; simp [ht]
  · rw [if_neg h, if_neg fun hh => h hh.symm]

section
variable {σ : Type} {E : EnvO σ} (hE : EnvOk E)
include hE

theorem enc_set {T : Tmps} {t : Nat} {v : AV} (ht : t < T.length) (hd : T.length ≤ E.cap) : E.set t v (E.enc (getL T)) = E.enc (getL (T.set t v)) := by
  rw [hE.set_enc _ _ _ (by omega), getL_set ht]

theorem look_enc {T : Tmps} (hd : T.length ≤ E.cap) : E.look (E.enc (getL T)) = getL T := by
  funext n
  unfold EnvO.look
  cases h : Nat.blt n E.cap with
  | true =>
    have : n < E.cap := by simpa [Nat.blt_eq] using h
    exact hE.get_enc n _ this
  | false =>
    have : ¬ n < E.cap := by intro hh; rw [← Nat.blt_eq] at hh; rw [h] at hh; cases hh
    show undefA = _
    rw [getL_eq, List.getD_eq_getElem?_getD, List.getElem?_eq_none (by omega)]; rfl

theorem dec_enc {m : Nat} {T : Tmps} (hm : T.length = m) (hd : m ≤ E.cap) : E.dec m (E.enc (getL T)) = T := by
  unfold EnvO.dec
  rw [look_enc hE (by omega)]
  apply List.ext_getElem?
  intro i
  rw [List.getElem?_map]
  by_cases hi : i < m
  · rw [List.getElem?_range hi, Option.map_some, getL_eq]
    simp [hm, hi]
  · rw [List.getElem?_eq_none (by simp; omega), List.getElem?_eq_none (by omega)]; rfl

variable {C : Ctx} {m : Nat} {T : Tmps} {call : Caller} {H : Heap}

theorem evF_cO (hd : T.length ≤ E.cap) (x : Operand) : cO E (baseOf C) x (E.enc (getL T)) = ev C (getL T) x := by
  cases x with
  | tmp n =>
    simp only [cO, ev]
    cases h : Nat.blt n E.cap with
    | true =>
      have : n < E.cap := by simpa [Nat.blt_eq] using h
      exact hE.get_enc n _ this
    | false =>
      have : ¬ n < E.cap := by intro hh; rw [← Nat.blt_eq] at hh; rw [h] at hh; cases hh
      have h2 : T.length ≤ n := Nat.le_trans hd (Nat.not_lt.1 this)
      show undefA = getL T n
      rw [getL_eq, List.getD_eq_getElem?_getD, List.getElem?_eq_none h2]; rfl
  | const v => rfl
  | global g => rfl
  | func f => rfl

theorem evs_cO (hd : T.length ≤ E.cap) : ∀ (l : List Operand), evs (l.map (cO E (baseOf C))) (E.enc (getL T)) = l.map (ev C (getL T))
  | [] => rfl
  | x :: l => by
    show cO E (baseOf C) x (E.enc (getL T)) :: evs (l.map (cO E (baseOf C))) (E.enc (getL T)) = _
    rw [evF_cO hE hd, evs_cO hd l]; rfl
end

theorem tinfo_base {C : Ctx} (t : TypeId) : tinfo (baseOf C).ctx t = tinfo C t := rfl

/-! ### lists -/
theorem nthL_eq {α : Type} : ∀ (l : List α) (n : Nat) (k : α → Out) (z : Out), nthL l n k z = match l[n]? with | some a => k a | none => z
  | [], n, k, z => rfl
  | a :: r, 0, k, z => rfl
  | a :: r, n + 1, k, z => by
    have := nthL_eq r n k z
    rw [List.getElem?_cons_succ]
    exact this

theorem lenL_eq {α : Type} : ∀ (l : List α), lenL l = l.length
  | [] => rfl
  | a :: r => by show Nat.succ (lenL r) = _; rw [lenL_eq r]; rfl

theorem setL_eq {α : Type} : ∀ (l : List α) (n : Nat) (x : α), setL l n x = l.set n x
  | [], n, x => rfl
  | a :: r, 0, x => rfl
  | a :: r, n + 1, x => by show a :: setL r n x = _; rw [setL_eq r n x]; rfl

/-! ### whole numbers -/
theorem addF_eq (a b : Int) : addF a b = a + b := by cases a <;> cases b <;> rfl
theorem subF_eq (a b : Int) : subF a b = a - b := by
  cases a with
  | ofNat m =>
    cases b with
    | ofNat n =>
      show @Bool.rec (fun _ => Int) (Int.subNatNat m n) (Int.ofNat (Nat.sub m n)) (Nat.ble n m) = _
      cases h : Nat.ble n m with
      | true =>
        have : n ≤ m := Nat.le_of_ble_eq_true h
        show Int.ofNat (m - n) = Int.ofNat m - Int.ofNat n
        simp only [Int.ofNat_eq_natCast]; omega
      | false =>
        show Int.subNatNat m n = Int.ofNat m - Int.ofNat n
        rw [Int.subNatNat_eq_coe]; rfl
    | negSucc n => rfl
  | negSucc m => rfl
theorem mulF_eq (a b : Int) : mulF a b = a * b := by cases a <;> cases b <;> rfl
theorem eqI_eq (a b : Int) : eqI a b = (a == b) := by
  cases a <;> cases b
  · rename_i m n; show Nat.beq m n = _; rw [Bool.eq_iff_iff]; simp; omega
  · show false = _; symm; simp
  · show false = _; symm; simp
  · rename_i m n; show Nat.beq m n = _; rw [Bool.eq_iff_iff]; simp
theorem ltI_eq (a b : Int) : ltI a b = decide (a < b) := by
  cases a <;> cases b
  · rename_i m n; show Nat.blt m n = _; rw [Bool.eq_iff_iff]; simp
  · rename_i m n; show false = _; symm; simp; omega
  · rename_i m n; show true = _; symm; simp; omega
  · rename_i m n; show Nat.blt n m = _; rw [Bool.eq_iff_iff]; simp; omega
theorem leI_eq (a b : Int) : leI a b = decide (a ≤ b) := by
  cases a <;> cases b
  · rename_i m n; show Nat.ble m n = _; rw [Bool.eq_iff_iff]; simp
  · rename_i m n; show false = _; symm; simp; omega
  · rename_i m n; show true = _; symm; simp; omega
  · rename_i m n; show Nat.ble n m = _; rw [Bool.eq_iff_iff]; simp; omega

theorem kcode_inj {k k' : IntKind} (h : Nat.beq (kcode k) (kcode k') = true) : k = k' := by
  cases k <;> cases k' <;> first | rfl | (exact absurd h (by decide))

theorem upTo_eq (k : IntKind) : (upTo k : Int) = k.max + 1 := by cases k <;> rfl
theorem upTo_pow (k : IntKind) : ∃ n, upTo k = 2 ^ n ∧ n ≤ k.bits := by
  cases k
  · exact ⟨7, rfl, by decide⟩
  · exact ⟨15, rfl, by decide⟩
  · exact ⟨31, rfl, by decide⟩
  · exact ⟨63, rfl, by decide⟩
  · exact ⟨8, rfl, by decide⟩
  · exact ⟨16, rfl, by decide⟩
  · exact ⟨32, rfl, by decide⟩
  · exact ⟨64, rfl, by decide⟩
theorem downTo_eq (k : IntKind) : (downTo k : Int) = - k.min := by cases k <;> rfl
theorem bitsF_eq (k : IntKind) : bitsF k = k.bits := by cases k <;> rfl
theorem min_le (k : IntKind) : k.min ≤ 0 := by cases k <;> decide
theorem max_ge (k : IntKind) : 0 ≤ k.max := by cases k <;> decide

theorem wrap_nat {k : IntKind} {m : Nat} (h : m < upTo k) : k.wrap (Int.ofNat m) = Int.ofNat m := by
  have h1 := upTo_eq k
  have h2 := min_le k
  refine wrap_id ?_ ?_
  · show _ ≤ (m : Int); omega
  · show (m : Int) ≤ _; omega

theorem wrapF_eq (k : IntKind) (n : Int) : wrapF k n = k.wrap n := by
  cases n with
  | ofNat m =>
    show @Bool.rec (fun _ => Int) (IntKind.wrap k (Int.ofNat m)) (Int.ofNat m) (Nat.blt m (upTo k)) = _
    cases h : Nat.blt m (upTo k) with
    | true => exact (wrap_nat (by simpa [Nat.blt_eq] using h)).symm
    | false => rfl
  | negSucc m =>
    show @Bool.rec (fun _ => Int) (IntKind.wrap k (Int.negSucc m)) (Int.negSucc m) (Nat.blt m (downTo k)) = _
    cases h : Nat.blt m (downTo k) with
    | true =>
      have h0 : m < downTo k := by simpa [Nat.blt_eq] using h
      have h1 := downTo_eq k
      have h2 := max_ge k
      symm
      refine wrap_id ?_ ?_ <;> omega
    | false => rfl

theorem bits_lt {k : IntKind} {m : Nat} (h : m < upTo k) : m < 2 ^ k.bits := by
  obtain ⟨n, h1, h2⟩ := upTo_pow k
  rw [h1] at h
  exact Nat.lt_of_lt_of_le h (Nat.pow_le_pow_right (by omega) h2)

theorem ofInt_nat {k : IntKind} {m : Nat} : BitVec.ofInt k.bits (Int.ofNat m) = BitVec.ofNat k.bits m := by
  simp

theorem xor_and (m n b : Nat) (hm : m < 2 ^ b) : m ^^^ (m &&& n) = m &&& (2 ^ b - 1 - n % 2 ^ b) := by
  apply Nat.eq_of_testBit_eq
  intro i
  simp only [Nat.testBit_xor, Nat.testBit_and]
  have e : (2 ^ b - 1 - n % 2 ^ b) = 2 ^ b - (n % 2 ^ b + 1) := by omega
  rw [e, Nat.testBit_two_pow_sub_succ (Nat.mod_lt _ (Nat.two_pow_pos b)), Nat.testBit_mod_two_pow]
  by_cases hi : i < b
  · simp [hi]
    cases m.testBit i <;> cases n.testBit i <;> rfl
  · have : m.testBit i = false := Nat.testBit_lt_two_pow (Nat.lt_of_lt_of_le hm (Nat.pow_le_pow_right (by omega) (by omega)))
    simp [this]

theorem pureRun_bind {α β : Type} {P : Program} (s : Sem α) (f : α → Sem β) : pureRun P (s >>= f) = (pureRun P s).bind fun a => pureRun P (f a) := by
  induction s with
  | pure a => rfl
  | program k ih => exact ih P
  | mark m k ih => exact ih
  | _ => rfl

/-- What the model tells of two whole numbers, at once. -/
def IsPure (op : BinOp) (kx : IntKind) (a : Int) (ky : IntKind) (b : Int) (v : Value) : Prop := ∀ ty, binOp op ty (.int kx a) (.int ky b) = pure v

theorem pp_eq {f : Nat → Nat → Out} {z : Out} {a b : Int} (h : ∀ m n : Nat, a = Int.ofNat m → b = Int.ofNat n → f m n = z) : pp f z a b = z := by
  cases a <;> cases b <;> first | rfl | exact h _ _ rfl rfl

theorem small2_eq {u m n : Nat} {x z : Out} (h : m < u → n < u → x = z) : small2 u m n x z = z := by
  unfold small2
  cases h1 : Nat.blt m u with
  | false => rfl
  | true =>
    cases h2 : Nat.blt n u with
    | false => rfl
    | true => exact h (by simpa [Nat.blt_eq] using h1) (by simpa [Nat.blt_eq] using h2)

theorem beq_rec {a b : Nat} {x y z : Out} (h1 : a = b → x = z) (h2 : a ≠ b → y = z) : @Bool.rec (fun _ => Out) y x (Nat.beq a b) = z := by
  cases h : Nat.beq a b with
  | true => exact h1 (Nat.eq_of_beq_eq_true h)
  | false => exact h2 (Nat.ne_of_beq_eq_false h)

theorem ble_rec {a b : Nat} {x y z : Out} (h1 : a ≤ b → x = z) (h2 : ¬ a ≤ b → y = z) : @Bool.rec (fun _ => Out) y x (Nat.ble a b) = z := by
  cases h : Nat.ble a b with
  | true => exact h1 (Nat.le_of_ble_eq_true h)
  | false => exact h2 fun hh => by rw [Nat.ble_eq_true_of_le hh] at h; cases h

theorem blt_rec {a b : Nat} {x y z : Out} (h1 : a < b → x = z) (h2 : ¬ a < b → y = z) : @Bool.rec (fun _ => Out) y x (Nat.blt a b) = z := ble_rec h1 h2

section
variable {kx ky : IntKind} {a b : Int} {k : AV → Out} {z : Out}

theorem arithF_eq {op : BinOp} (hk : ∀ v, IsPure op kx a kx b v → ofRes v = .tc (.sc v) → k (.tc (.sc v)) = z) : arithF op kx a b k z = z := by
  have kk : ¬ (kx ≠ kx) := by simp
  cases op
  case add =>
    show k _ = z
    refine hk _ (fun ty => ?_) rfl
    rw [wrapF_eq, addF_eq]; simp only [binOp, if_neg kk]; rfl
  case sub =>
    show k _ = z
    refine hk _ (fun ty => ?_) rfl
    rw [wrapF_eq, subF_eq]; simp only [binOp, if_neg kk]; rfl
  case mul =>
    show k _ = z
    refine hk _ (fun ty => ?_) rfl
    rw [wrapF_eq, mulF_eq]; simp only [binOp, if_neg kk]; rfl
  case quo =>
    refine pp_eq fun m n ha hb => beq_rec (fun _ => rfl) fun hn => hk _ (fun ty => ?_) rfl
    subst ha; subst hb
    have : ¬ (Int.ofNat n = 0) := by show ¬ ((n : Int) = 0); omega
    rw [wrapF_eq]; simp only [binOp, if_neg kk, Op.intDiv, if_neg this]; rfl
  case rem =>
    refine pp_eq fun m n ha hb => beq_rec (fun _ => rfl) fun hn => hk _ (fun ty => ?_) rfl
    subst ha; subst hb
    have : ¬ (Int.ofNat n = 0) := by show ¬ ((n : Int) = 0); omega
    simp only [binOp, if_neg kk, Op.intDiv, if_neg this]; rfl
  case and =>
    refine pp_eq fun m n ha hb => small2_eq fun hm hn => hk _ (fun ty => ?_) rfl
    subst ha; subst hb
    have e : kx.wrap (BitVec.ofInt kx.bits (Int.ofNat m) &&& BitVec.ofInt kx.bits (Int.ofNat n)).toNat = Int.ofNat (Nat.land m n) := by
      rw [ofInt_nat, ofInt_nat, BitVec.toNat_and, BitVec.toNat_ofNat, BitVec.toNat_ofNat, Nat.mod_eq_of_lt (bits_lt hm), Nat.mod_eq_of_lt (bits_lt hn)]
      exact wrap_nat (Nat.lt_of_le_of_lt Nat.and_le_left hm)
    simp only [binOp, if_neg kk, Op.intBits, e]
  case or =>
    refine pp_eq fun m n ha hb => small2_eq fun hm hn => hk _ (fun ty => ?_) rfl
    subst ha; subst hb
    have e : kx.wrap (BitVec.ofInt kx.bits (Int.ofNat m) ||| BitVec.ofInt kx.bits (Int.ofNat n)).toNat = Int.ofNat (Nat.lor m n) := by
      rw [ofInt_nat, ofInt_nat, BitVec.toNat_or, BitVec.toNat_ofNat, BitVec.toNat_ofNat, Nat.mod_eq_of_lt (bits_lt hm), Nat.mod_eq_of_lt (bits_lt hn)]
      refine wrap_nat ?_
      obtain ⟨j, h1, h2⟩ := upTo_pow kx
      rw [h1] at hm hn ⊢
      exact Nat.or_lt_two_pow hm hn
    simp only [binOp, if_neg kk, Op.intBits, e]
  case xor =>
    refine pp_eq fun m n ha hb => small2_eq fun hm hn => hk _ (fun ty => ?_) rfl
    subst ha; subst hb
    have e : kx.wrap (BitVec.ofInt kx.bits (Int.ofNat m) ^^^ BitVec.ofInt kx.bits (Int.ofNat n)).toNat = Int.ofNat (Nat.xor m n) := by
      rw [ofInt_nat, ofInt_nat, BitVec.toNat_xor, BitVec.toNat_ofNat, BitVec.toNat_ofNat, Nat.mod_eq_of_lt (bits_lt hm), Nat.mod_eq_of_lt (bits_lt hn)]
      refine wrap_nat ?_
      obtain ⟨j, h1, h2⟩ := upTo_pow kx
      rw [h1] at hm hn ⊢
      exact Nat.xor_lt_two_pow hm hn
    simp only [binOp, if_neg kk, Op.intBits, e]
  case shl => rfl
  case shr => rfl
  case andNot =>
    refine pp_eq fun m n ha hb => small2_eq fun hm hn => hk _ (fun ty => ?_) rfl
    subst ha; subst hb
    have e : kx.wrap (BitVec.ofInt kx.bits (Int.ofNat m) &&& ~~~ BitVec.ofInt kx.bits (Int.ofNat n)).toNat = Int.ofNat (Nat.xor m (Nat.land m n)) := by
      rw [ofInt_nat, ofInt_nat, BitVec.toNat_and, BitVec.toNat_not, BitVec.toNat_ofNat, BitVec.toNat_ofNat, Nat.mod_eq_of_lt (bits_lt hm)]
      have := xor_and m n kx.bits (bits_lt hm)
      have e2 : Nat.xor m (Nat.land m n) = m &&& (2 ^ kx.bits - 1 - n % 2 ^ kx.bits) := this
      rw [e2]
      exact wrap_nat (Nat.lt_of_le_of_lt Nat.and_le_left hm)
    simp only [binOp, if_neg kk, Op.intBits, e]
  case eql =>
    show k _ = z
    refine hk _ (fun ty => ?_) rfl
    rw [eqI_eq]; simp only [binOp, if_neg kk]; rfl
  case neq =>
    show k _ = z
    refine hk _ (fun ty => ?_) rfl
    rw [eqI_eq]; simp only [binOp, if_neg kk]; rfl
  case lss =>
    show k _ = z
    refine hk _ (fun ty => ?_) rfl
    rw [ltI_eq]; simp only [binOp, if_neg kk]; rfl
  case leq =>
    show k _ = z
    refine hk _ (fun ty => ?_) rfl
    rw [leI_eq]; simp only [binOp, if_neg kk]; rfl
  case gtr =>
    show k _ = z
    refine hk _ (fun ty => ?_) rfl
    rw [ltI_eq]; simp only [binOp, if_neg kk]; rfl
  case geq =>
    show k _ = z
    refine hk _ (fun ty => ?_) rfl
    rw [leI_eq]; simp only [binOp, if_neg kk]; rfl

theorem sameKind_eq {op : BinOp} (hk : ∀ v, IsPure op kx a ky b v → ofRes v = .tc (.sc v) → k (.tc (.sc v)) = z) : sameKind (arithF op) kx a ky b k z = z := by
  unfold sameKind
  cases h : Nat.beq (kcode kx) (kcode ky) with
  | false => rfl
  | true =>
    have := kcode_inj h
    subst this
    exact arithF_eq hk

theorem intF_eq {op : BinOp} (hk : ∀ v, IsPure op kx a ky b v → ofRes v = .tc (.sc v) → k (.tc (.sc v)) = z) : intF op kx a ky b k z = z := by
  cases op
  case shl =>
    refine pp_eq fun m n ha hb => ble_rec (fun hle => hk _ (fun ty => ?_) rfl) fun _ => rfl
    subst ha; subst hb
    rw [bitsF_eq] at hle
    have : ¬ (Int.ofNat n < 0) := by show ¬ ((n : Int) < 0); omega
    rw [wrapF_eq]
    simp only [binOp, Op.shift, if_neg this]
    have e : min (Int.ofNat n).toNat kx.bits = n := by show min n kx.bits = n; omega
    rw [e]; congr 2
  case shr =>
    refine pp_eq fun m n ha hb => ble_rec (fun hle => hk _ (fun ty => ?_) rfl) fun _ => rfl
    subst ha; subst hb
    rw [bitsF_eq] at hle
    have : ¬ (Int.ofNat n < 0) := by show ¬ ((n : Int) < 0); omega
    simp only [binOp, Op.shift, if_neg this]
    have e : min (Int.ofNat n).toNat kx.bits = n := by show min n kx.bits = n; omega
    rw [e]; congr 2
    rw [Int.fdiv_eq_ediv_of_nonneg _ (by have := Int.pow_pos (n := 2) (m := n) (by omega); omega)]
    show (m : Int) / 2 ^ n = ((m / 2 ^ n : Nat) : Int)
    simp [Int.natCast_pow]
  all_goals exact sameKind_eq hk
end

end Go.Proofs.Ytgpijioodocplaa
