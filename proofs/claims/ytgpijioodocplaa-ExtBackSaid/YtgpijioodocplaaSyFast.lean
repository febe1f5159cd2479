/- A fast evaluator: code is made ready once (paths, sizes, kinds), and is run by recursors whose arms are closed terms. SyFastOk shows that it tells what the evaluator tells. -/
import Derived.Test.YtgpijioodocplaaSyDefs
set_option linter.unusedVariables false
namespace Go.Proofs.Ytgpijioodocplaa
open Go

/-- What code is made ready by. -/
structure Base where
  P : Program
  glob : Nat → Option (Nat × List (List TC))
  L : Nat

def Base.ctx (B : Base) : Ctx := { P := B.P, L := B.L, pure := fun _ => false, glob := B.glob, sym := false, summ := fun _ => none }
def baseOf (C : Ctx) : Base := ⟨C.P, C.glob, C.L⟩

/-! ### temporaries -/
/-- How temporaries are kept. -/
structure EnvO (σ : Type) where
  cap : Nat
  get : Nat → σ → AV
  set : Nat → AV → σ → σ
  enc : (Nat → AV) → σ

structure EnvOk {σ : Type} (E : EnvO σ) : Prop where
  get_enc : ∀ n f, n < E.cap → E.get n (E.enc f) = f n
  set_enc : ∀ n v f, n < E.cap → E.set n v (E.enc f) = E.enc fun m => if m = n then v else f m

def EnvO.look {σ : Type} (E : EnvO σ) (F : σ) : Look := fun n => cond (Nat.blt n E.cap) (E.get n F) undefA

def kc {σ : Type} (v : AV) : σ → AV := fun _ => v

def cO {σ : Type} (E : EnvO σ) (B : Base) : Operand → σ → AV
  | .tmp n => cond (Nat.blt n E.cap) (E.get n) (kc undefA)
  | .const v => kc (ofVal v)
  | .global g => kc (match B.glob g with | some (s, el) => .vptr s el 0 0 | none => .any)
  | .func f => kc (.tc (.sc (.func (.func f) #[] #[])))

noncomputable def evs {σ : Type} : List (σ → AV) → σ → List AV := @List.rec (σ → AV) (fun _ => σ → List AV) (fun _ => []) (fun x _ ih F => x F :: ih F)

/-! ### lists -/
noncomputable def none1 {α : Type} : (α → Out) → Out → Out := fun _ z => z
noncomputable def some1 {α : Type} (a : α) : (α → Out) → Out → Out := fun k _ => k a
noncomputable def nthL {α : Type} : List α → Nat → (α → Out) → Out → Out :=
  @List.rec α (fun _ => Nat → (α → Out) → Out → Out) (fun _ => none1) (fun a _ ih n => @Nat.rec (fun _ => (α → Out) → Out → Out) (some1 a) (fun m _ => ih m) n)
noncomputable def lenL {α : Type} : List α → Nat := @List.rec α (fun _ => Nat) 0 (fun _ _ ih => Nat.succ ih)
noncomputable def setL {α : Type} : List α → Nat → α → List α :=
  @List.rec α (fun _ => Nat → α → List α) (fun _ _ => []) (fun a r ih n x => @Nat.rec (fun _ => List α) (x :: r) (fun m _ => a :: ih m x) n)

/-! ### whole numbers -/
noncomputable def kcode : IntKind → Nat := @IntKind.rec (fun _ => Nat) 0 1 2 3 4 5 6 7
noncomputable def upTo : IntKind → Nat := @IntKind.rec (fun _ => Nat) 128 32768 2147483648 9223372036854775808 256 65536 4294967296 18446744073709551616
noncomputable def downTo : IntKind → Nat := @IntKind.rec (fun _ => Nat) 128 32768 2147483648 9223372036854775808 0 0 0 0

noncomputable def wrapF (k : IntKind) (n : Int) : Int :=
  @Int.rec (fun _ => IntKind → Int) (fun m k => Bool.rec (IntKind.wrap k (Int.ofNat m)) (Int.ofNat m) (Nat.blt m (upTo k))) (fun m k => Bool.rec (IntKind.wrap k (Int.negSucc m)) (Int.negSucc m) (Nat.blt m (downTo k))) n k

noncomputable def int2 {α : Type} (pp : Nat → Nat → α) (pn : Nat → Nat → α) (np : Nat → Nat → α) (nn : Nat → Nat → α) (a b : Int) : α :=
  @Int.rec (fun _ => Int → α) (fun m => @Int.rec (fun _ => α) (pp m) (pn m)) (fun m => @Int.rec (fun _ => α) (np m) (nn m)) a b

noncomputable def addF : Int → Int → Int := @Int.rec (fun _ => Int → Int) (fun m => @Int.rec (fun _ => Int) (fun n => Int.ofNat (Nat.add m n)) (fun n => Int.subNatNat m (Nat.succ n))) (fun m => @Int.rec (fun _ => Int) (fun n => Int.subNatNat n (Nat.succ m)) (fun n => Int.negSucc (Nat.succ (Nat.add m n))))
noncomputable def subF : Int → Int → Int := @Int.rec (fun _ => Int → Int) (fun m => @Int.rec (fun _ => Int) (fun n => Bool.rec (Int.subNatNat m n) (Int.ofNat (Nat.sub m n)) (Nat.ble n m)) (fun n => Int.ofNat (Nat.add m (Nat.succ n)))) (fun m b => Int.sub (Int.negSucc m) b)
noncomputable def mulF : Int → Int → Int := @Int.rec (fun _ => Int → Int) (fun m => @Int.rec (fun _ => Int) (fun n => Int.ofNat (Nat.mul m n)) (fun n => Int.mul (Int.ofNat m) (Int.negSucc n))) (fun m b => Int.mul (Int.negSucc m) b)
noncomputable def eqI : Int → Int → Bool := @Int.rec (fun _ => Int → Bool) (fun m => @Int.rec (fun _ => Bool) (fun n => Nat.beq m n) (fun _ => false)) (fun m => @Int.rec (fun _ => Bool) (fun _ => false) (fun n => Nat.beq m n))
noncomputable def ltI : Int → Int → Bool := @Int.rec (fun _ => Int → Bool) (fun m => @Int.rec (fun _ => Bool) (fun n => Nat.blt m n) (fun _ => false)) (fun m => @Int.rec (fun _ => Bool) (fun _ => true) (fun n => Nat.blt n m))
noncomputable def leI : Int → Int → Bool := @Int.rec (fun _ => Int → Bool) (fun m => @Int.rec (fun _ => Bool) (fun n => Nat.ble m n) (fun _ => false)) (fun m => @Int.rec (fun _ => Bool) (fun _ => true) (fun n => Nat.ble n m))

abbrev KI := IntKind → Int → Int → (AV → Out) → Out → Out

noncomputable def retB (b : Bool) (k : AV → Out) : Out := k (.tc (.sc (.bool b)))

noncomputable def bitsF : IntKind → Nat := @IntKind.rec (fun _ => Nat) 8 16 32 64 8 16 32 64

noncomputable def pp (f : Nat → Nat → Out) (z : Out) (a b : Int) : Out :=
  @Int.rec (fun _ => Out) (fun m => @Int.rec (fun _ => Out) (fun n => f m n) (fun _ => z) b) (fun _ => z) a

/-- Both are below a bound. -/
noncomputable def small2 (u m n : Nat) (x z : Out) : Out := @Bool.rec (fun _ => Out) z (@Bool.rec (fun _ => Out) z x (Nat.blt n u)) (Nat.blt m u)

/-- What is told of two whole numbers of one kind; the last: the slow way. -/
noncomputable def arithF : BinOp → KI := @BinOp.rec (fun _ => KI)
  (fun kx a b k _ => k (.tc (.sc (.int kx (wrapF kx (addF a b))))))
  (fun kx a b k _ => k (.tc (.sc (.int kx (wrapF kx (subF a b))))))
  (fun kx a b k _ => k (.tc (.sc (.int kx (wrapF kx (mulF a b))))))
  (fun kx a b k z => pp (fun m n => @Bool.rec (fun _ => Out) (k (.tc (.sc (.int kx (wrapF kx (Int.ofNat (Nat.div m n))))))) z (Nat.beq n 0)) z a b)
  (fun kx a b k z => pp (fun m n => @Bool.rec (fun _ => Out) (k (.tc (.sc (.int kx (Int.ofNat (Nat.mod m n)))))) z (Nat.beq n 0)) z a b)
  (fun kx a b k z => pp (fun m n => small2 (upTo kx) m n (k (.tc (.sc (.int kx (Int.ofNat (Nat.land m n)))))) z) z a b)
  (fun kx a b k z => pp (fun m n => small2 (upTo kx) m n (k (.tc (.sc (.int kx (Int.ofNat (Nat.lor m n)))))) z) z a b)
  (fun kx a b k z => pp (fun m n => small2 (upTo kx) m n (k (.tc (.sc (.int kx (Int.ofNat (Nat.xor m n)))))) z) z a b)
  (fun _ _ _ _ z => z)
  (fun _ _ _ _ z => z)
  (fun kx a b k z => pp (fun m n => small2 (upTo kx) m n (k (.tc (.sc (.int kx (Int.ofNat (Nat.xor m (Nat.land m n))))))) z) z a b)
  (fun _ a b k _ => retB (eqI a b) k)
  (fun _ a b k _ => retB (Bool.not (eqI a b)) k)
  (fun _ a b k _ => retB (ltI a b) k)
  (fun _ a b k _ => retB (leI a b) k)
  (fun _ a b k _ => retB (ltI b a) k)
  (fun _ a b k _ => retB (leI b a) k)

abbrev KI2 := IntKind → Int → IntKind → Int → (AV → Out) → Out → Out

noncomputable def sameKind (f : KI) : KI2 := fun kx a ky b k z => @Bool.rec (fun _ => Out) z (f kx a b k z) (Nat.beq (kcode kx) (kcode ky))

noncomputable def shlF : KI2 := fun kx a _ b k z => pp (fun m n => @Bool.rec (fun _ => Out) z (k (.tc (.sc (.int kx (wrapF kx (Int.ofNat (Nat.mul m (Nat.pow 2 n)))))))) (Nat.ble n (bitsF kx))) z a b
noncomputable def shrF : KI2 := fun kx a _ b k z => pp (fun m n => @Bool.rec (fun _ => Out) z (k (.tc (.sc (.int kx (Int.ofNat (Nat.div m (Nat.pow 2 n))))))) (Nat.ble n (bitsF kx))) z a b

noncomputable def intF : BinOp → KI2 := @BinOp.rec (fun _ => KI2)
  (sameKind (arithF .add)) (sameKind (arithF .sub)) (sameKind (arithF .mul)) (sameKind (arithF .quo)) (sameKind (arithF .rem))
  (sameKind (arithF .and)) (sameKind (arithF .or)) (sameKind (arithF .xor)) shlF shrF (sameKind (arithF .andNot))
  (sameKind (arithF .eql)) (sameKind (arithF .neq)) (sameKind (arithF .lss)) (sameKind (arithF .leq)) (sameKind (arithF .gtr)) (sameKind (arithF .geq))

/-! ### what a value is -/
abbrev VNum := (IntKind → Int → Out) → (IntKind → Sx → Out) → Out → Out

noncomputable def vlNum : Value → VNum := @Value.rec (fun _ => VNum) (fun _ => PUnit) (fun _ => PUnit)
  (fun _ _ _ z => z) (fun k n f _ _ => f k n) (fun _ _ _ _ z => z) (fun _ _ _ _ _ z => z) (fun _ _ _ z => z) (fun _ _ _ z => z) (fun _ _ _ _ _ z => z)
  (fun _ _ _ z => z) (fun _ _ _ z => z) (fun _ _ _ _ _ _ _ z => z) (fun _ _ z => z) (fun _ _ _ _ _ z => z) (fun _ _ z => z) (fun _ _ _ _ z => z) (fun _ _ _ _ z => z)
  (fun _ _ => ⟨⟩) ⟨⟩ (fun _ _ _ _ => ⟨⟩)

noncomputable def syNum : STy → Sx → VNum := @STy.rec (fun _ => Sx → VNum) (fun k e _ g _ => g k e) (fun _ _ _ z => z) (fun _ _ _ z => z)

noncomputable def tcNum : TC → VNum := @TC.rec (fun _ => VNum) (fun _ => PUnit) (fun _ => PUnit)
  (fun v => vlNum v) (fun _ _ _ _ _ z => z) (fun t e => syNum t e) ⟨⟩ (fun _ _ _ _ => ⟨⟩) ⟨⟩ (fun _ _ _ _ => ⟨⟩)

noncomputable def vNum : AV → VNum := @AV.rec (fun _ => VNum) (fun _ => PUnit)
  (fun c => tcNum c) (fun _ _ z => z) (fun _ _ _ _ z => z) (fun _ _ _ _ z => z) (fun _ _ _ _ _ _ _ z => z) (fun _ _ _ _ _ _ z => z) (fun _ _ _ _ _ _ _ _ _ z => z) (fun _ _ _ z => z)
  (fun _ _ _ _ _ _ _ z => z) ⟨⟩ (fun _ _ _ _ => ⟨⟩)

abbrev VB := Out → Out → Out

noncomputable def vlBool : Value → VB := @Value.rec (fun _ => VB) (fun _ => PUnit) (fun _ => PUnit)
  (fun b x y => @Bool.rec (fun _ => Out) y x b) (fun _ _ _ _ => .fail) (fun _ _ _ _ => .fail) (fun _ _ _ _ _ => .fail) (fun _ _ _ => .fail) (fun _ _ _ => .fail) (fun _ _ _ _ _ => .fail)
  (fun _ _ _ => .fail) (fun _ _ _ => .fail) (fun _ _ _ _ _ _ _ => .fail) (fun _ _ => .fail) (fun _ _ _ _ _ => .fail) (fun _ _ => .fail) (fun _ _ _ _ => .fail) (fun _ _ _ _ => .fail)
  (fun _ _ => ⟨⟩) ⟨⟩ (fun _ _ _ _ => ⟨⟩)

noncomputable def syBool : STy → Sx → VB := @STy.rec (fun _ => Sx → VB) (fun _ _ _ _ => .fail) (fun e x y => .sel e x y) (fun _ _ _ => .fail)

noncomputable def tcBool : TC → VB := @TC.rec (fun _ => VB) (fun _ => PUnit) (fun _ => PUnit)
  (fun v => vlBool v) (fun _ _ _ _ _ => .fail) (fun t e => syBool t e) ⟨⟩ (fun _ _ _ _ => ⟨⟩) ⟨⟩ (fun _ _ _ _ => ⟨⟩)

/-- Both ways of a test. -/
noncomputable def condF : AV → VB := @AV.rec (fun _ => VB) (fun _ => PUnit)
  (fun c => tcBool c) (fun _ _ => .fail) (fun _ _ _ _ => .fail) (fun _ _ _ _ => .fail) (fun _ _ _ _ _ _ _ => .fail) (fun _ _ _ _ _ _ => .fail) (fun _ _ _ _ _ _ _ _ _ => .fail) (fun _ _ _ => .fail)
  (fun _ _ _ _ _ _ _ => .fail) ⟨⟩ (fun _ _ _ _ => ⟨⟩)

/-- Both ways of a guard. -/
abbrev VG := Bool → Out → Out → Out

noncomputable def vlG : Value → VG := @Value.rec (fun _ => VG) (fun _ => PUnit) (fun _ => PUnit)
  (fun b w x y => @Bool.rec (fun _ => Out) (@Bool.rec (fun _ => Out) x y b) (@Bool.rec (fun _ => Out) y x b) w) (fun _ _ _ _ z => z) (fun _ _ _ _ z => z) (fun _ _ _ _ _ z => z) (fun _ _ _ z => z) (fun _ _ _ z => z) (fun _ _ _ _ _ z => z)
  (fun _ _ _ z => z) (fun _ _ _ z => z) (fun _ _ _ _ _ _ _ z => z) (fun _ _ z => z) (fun _ _ _ _ _ z => z) (fun _ _ z => z) (fun _ _ _ _ z => z) (fun _ _ _ _ z => z)
  (fun _ _ => ⟨⟩) ⟨⟩ (fun _ _ _ _ => ⟨⟩)

noncomputable def syG : STy → Sx → VG := @STy.rec (fun _ => Sx → VG) (fun _ _ _ _ z => z) (fun e w x y => @Bool.rec (fun _ => Out) (.sel e y x) (.sel e x y) w) (fun _ _ _ z => z)

noncomputable def tcG : TC → VG := @TC.rec (fun _ => VG) (fun _ => PUnit) (fun _ => PUnit)
  (fun v => vlG v) (fun _ _ _ _ _ z => z) (fun t e => syG t e) ⟨⟩ (fun _ _ _ _ => ⟨⟩) ⟨⟩ (fun _ _ _ _ => ⟨⟩)

noncomputable def guardF : AV → VG := @AV.rec (fun _ => VG) (fun _ => PUnit)
  (fun c => tcG c) (fun _ _ _ => .fail) (fun _ _ _ _ z => z) (fun _ _ _ _ z => z) (fun _ _ _ _ _ _ _ z => z) (fun _ _ _ _ _ _ z => z) (fun _ _ _ _ _ _ _ _ _ z => z) (fun _ _ _ z => z)
  (fun _ _ _ _ _ _ _ z => z) ⟨⟩ (fun _ _ _ _ => ⟨⟩)

/-- Does a value lead to no object? -/
noncomputable def tcB : AV → Bool := @AV.rec (fun _ => Bool) (fun _ => PUnit)
  (fun _ => true) false (fun _ _ => false) (fun _ _ => false) (fun _ _ _ _ _ => false) (fun _ _ _ _ => false) (fun _ _ _ _ _ _ _ => false) (fun _ => false)
  (fun _ _ _ _ _ => false) ⟨⟩ (fun _ _ _ _ => ⟨⟩)
noncomputable def allB {α : Type} (p : α → Bool) : List α → Bool := @List.rec α (fun _ => Bool) true (fun a _ ih => @Bool.rec (fun _ => Bool) false ih (p a))
noncomputable def treeF : AV → Bool := @AV.rec (fun _ => Bool) (fun _ => PUnit)
  (fun _ => true) true (fun cs _ => allB tcB cs) (fun _ _ => false) (fun _ _ _ _ _ => false) (fun _ _ _ _ => true) (fun _ _ _ _ _ _ _ => false) (fun _ => false)
  (fun _ _ _ _ _ => false) ⟨⟩ (fun _ _ _ _ => ⟨⟩)

/-- A result as a tree. -/
abbrev VF := Heap → (AV → Out) → Out
noncomputable def slowFz (v : AV) : VF := fun H k => match fzR H v with | some t => k t | none => .fail
noncomputable def fzF : AV → VF := @AV.rec (fun _ => VF) (fun _ => PUnit)
  (fun c _ k => k (.tc c)) (fun _ k => k .any) (fun cs _ H k => @Bool.rec (fun _ => Out) (slowFz (.agg cs) H k) (k (.agg cs)) (allB tcB cs))
  (fun vs _ H k => @Bool.rec (fun _ => Out) (slowFz (.tuple vs) H k) (k (.tuple vs)) (allB treeF vs))
  (fun o s i f ver => slowFz (.ptr o s i f ver)) (fun s el i f _ k => k (.vptr s el i f)) (fun o s i len cap ex ver => slowFz (.slice o s i len cap ex ver)) (fun o => slowFz (.map o))
  (fun fn a b _ _ => slowFz (.func fn a b)) ⟨⟩ (fun _ _ _ _ => ⟨⟩)

/-! ### memory -/
abbrev KV := AV → Heap → Out

abbrev LO := Bool → Nat → Nat → Nat → Nat → Nat → Heap → KV → Out

noncomputable def mapL {α β : Type} (f : α → β) (l : List α) : List β := @List.rec α (fun _ => List β) [] (fun a _ ih => f a :: ih) l

noncomputable def ldRow {α : Type} (f1 : α → AV) (agg : Bool) (size : Nat) (row : List α) (f : Nat) (H : Heap) (k : KV) : Out :=
  @Bool.rec (fun _ => Out) (nthL row f (fun c => k (f1 c) H) .fail)
    (@Bool.rec (fun _ => Out) (match span row f size with | some r => k (.agg (r.map f1)) H | none => .fail)
      (@Bool.rec (fun _ => Out) (match span row f size with | some r => k (.agg (r.map f1)) H | none => .fail) (k (.agg (mapL f1 row)) H) (Nat.beq (lenL row) size)) (Nat.beq f 0)) agg

noncomputable def ldObj : AObj → LO := @AObj.rec (fun _ => LO)
  (fun s' el agg size s i f ver H k => @Bool.rec (fun _ => Out) .fail (@Bool.rec (fun _ => Out) .fail (nthL el i (fun row => ldRow .tc agg size row f H k) .fail) (Nat.beq ver (lenL el))) (Nat.beq s' s))
  (fun s' el agg size s i f ver H k => @Bool.rec (fun _ => Out) .fail (@Bool.rec (fun _ => Out) .fail (nthL el i (fun row => ldRow (fun c => c) agg size row f H k) .fail) (Nat.beq ver (lenL el))) (Nat.beq s' s))
  (fun _ _ _ _ _ _ _ _ _ => .fail)

abbrev LV := Bool → Nat → Heap → KV → Out
noncomputable def ldV : AV → LV := @AV.rec (fun _ => LV) (fun _ => PUnit)
  (fun _ _ _ _ _ => .fail) (fun _ _ _ _ => .fail) (fun _ _ _ _ _ _ => .fail) (fun _ _ _ _ _ _ => .fail)
  (fun o s i f ver agg size H k => nthL H o (fun obj => ldObj obj agg size s i f ver H k) .fail)
  (fun s el i f agg size H k => nthL el i (fun row => ldRow .tc agg size row f H k) .fail)
  (fun _ _ _ _ _ _ _ _ _ _ _ => .fail) (fun _ _ _ _ _ => .fail) (fun _ _ _ _ _ _ _ _ _ => .fail) ⟨⟩ (fun _ _ _ _ => ⟨⟩)

/-- A value that lies in one cell. -/
noncomputable def vlCell : Value → Bool := @Value.rec (fun _ => Bool) (fun _ => PUnit) (fun _ => PUnit)
  (fun _ => true) (fun _ _ => true) (fun _ _ => true) (fun _ _ _ => true) (fun _ => true) (fun _ => true) (fun _ _ _ => true)
  (fun _ => true) (fun _ => true) (fun _ _ _ _ _ => true) true (fun _ _ _ => true) true (fun _ _ => false) (fun _ _ => false)
  (fun _ _ => ⟨⟩) ⟨⟩ (fun _ _ _ _ => ⟨⟩)
noncomputable def tcCell : TC → Bool := @TC.rec (fun _ => Bool) (fun _ => PUnit) (fun _ => PUnit)
  (fun v => vlCell v) (fun _ _ _ => true) (fun _ _ => true) ⟨⟩ (fun _ _ _ _ => ⟨⟩) ⟨⟩ (fun _ _ _ _ => ⟨⟩)

/-- Is it one, and a tree? -/
abbrev VC := (TC → Out) → (AV → Out) → Out → Out
noncomputable def cellF : AV → VC := @AV.rec (fun _ => VC) (fun _ => PUnit)
  (fun c kt _ z => @Bool.rec (fun _ => Out) z (kt c) (tcCell c)) (fun _ _ z => z) (fun _ _ _ _ z => z) (fun _ _ _ _ z => z)
  (fun o s i f ver _ ka _ => ka (.ptr o s i f ver)) (fun s el i f _ ka _ => ka (.vptr s el i f)) (fun o s i len cap ex ver _ ka _ => ka (.slice o s i len cap ex ver)) (fun o _ ka _ => ka (.map o))
  (fun fn a b _ _ _ ka _ => ka (.func fn a b)) ⟨⟩ (fun _ _ _ _ => ⟨⟩)

/-! ### cells of a value -/
abbrev CV := (TC → Out) → (AV → Out) → (List AV → Out) → Out → Out
noncomputable def cellsF : AV → CV := @AV.rec (fun _ => CV) (fun _ => PUnit)
  (fun c kt _ _ z => @Bool.rec (fun _ => Out) z (kt c) (tcCell c)) (fun _ _ _ z => z) (fun cs _ _ _ kl _ => kl cs) (fun _ _ _ _ _ z => z)
  (fun o s i f ver _ ka _ _ => ka (.ptr o s i f ver)) (fun s el i f _ ka _ _ => ka (.vptr s el i f)) (fun o s i len cap ex ver _ ka _ _ => ka (.slice o s i len cap ex ver)) (fun o _ ka _ _ => ka (.map o))
  (fun fn a b _ _ _ ka _ _ => ka (.func fn a b)) ⟨⟩ (fun _ _ _ _ => ⟨⟩)

noncomputable def okCell : AV → Bool := @AV.rec (fun _ => Bool) (fun _ => PUnit)
  (fun c => tcCell c) false (fun _ _ => false) (fun _ _ => false) (fun _ _ _ _ _ => true) (fun _ _ _ _ => true) (fun _ _ _ _ _ _ _ => true) (fun _ => true) (fun _ _ _ _ _ => true) ⟨⟩ (fun _ _ _ _ => ⟨⟩)

noncomputable def appL {α : Type} (l : List α) (x : α) : List α := @List.rec α (fun _ => List α) [x] (fun a _ ih => a :: ih) l

/-- Cells that are trees. -/
noncomputable def asTCK : List AV → (List TC → Out) → Out → Out := @List.rec AV (fun _ => (List TC → Out) → Out → Out) (fun kt _ => kt [])
  (fun v _ ih kt z => @AV.rec (fun _ => ((List TC → Out) → Out → Out) → (List TC → Out) → Out → Out) (fun _ => PUnit)
    (fun c ih kt z => ih (fun l => kt (c :: l)) z) (fun _ _ z => z) (fun _ _ _ _ z => z) (fun _ _ _ _ z => z) (fun _ _ _ _ _ _ _ z => z) (fun _ _ _ _ _ _ z => z) (fun _ _ _ _ _ _ _ _ _ z => z) (fun _ _ _ z => z)
    (fun _ _ _ _ _ _ _ z => z) ⟨⟩ (fun _ _ _ _ => ⟨⟩) v ih kt z)
noncomputable def rowsTCK : List (List AV) → (List (List TC) → Out) → Out → Out := @List.rec (List AV) (fun _ => (List (List TC) → Out) → Out → Out) (fun kt _ => kt [])
  (fun r _ ih kt z => asTCK r (fun c => ih (fun l => kt (c :: l)) z) z)
noncomputable def newObj (s : Nat) (rows : List (List AV)) (k : AObj → Out) : Out := rowsTCK rows (fun t => k (.tcells s t)) (k (.cells s rows))

abbrev SO := AV → Nat → Nat → Nat → Nat → Nat → Nat → Heap → KV → Out → Out

/-- One cell is written, or a whole row. -/
noncomputable def stObj : AObj → SO := @AObj.rec (fun _ => SO)
  (fun s' el v size o s i f ver H k z => @Bool.rec (fun _ => Out) z (@Bool.rec (fun _ => Out) z (nthL el i (fun row =>
    cellsF v (fun c => @Bool.rec (fun _ => Out) z (@Bool.rec (fun _ => Out) z (k undefA (setL H o (.tcells s (setL el i (setL row f c))))) (Nat.beq size 1)) (Nat.blt f (lenL row)))
      (fun _ => z)
      (fun cs => @Bool.rec (fun _ => Out) z (@Bool.rec (fun _ => Out) z (@Bool.rec (fun _ => Out) z (@Bool.rec (fun _ => Out) z
        (asTCK cs (fun c => k undefA (setL H o (.tcells s (setL el i c)))) z) (allB okCell cs)) (Nat.beq (lenL row) size)) (Nat.beq (lenL cs) size)) (Nat.beq f 0)) z) z) (Nat.beq ver (lenL el))) (Nat.beq s' s))
  (fun s' el v size o s i f ver H k z => @Bool.rec (fun _ => Out) z (@Bool.rec (fun _ => Out) z (nthL el i (fun row =>
    cellsF v (fun c => @Bool.rec (fun _ => Out) z (@Bool.rec (fun _ => Out) z (k undefA (setL H o (.cells s (setL el i (setL row f (.tc c)))))) (Nat.beq size 1)) (Nat.blt f (lenL row)))
      (fun v => @Bool.rec (fun _ => Out) z (@Bool.rec (fun _ => Out) z (k undefA (setL H o (.cells s (setL el i (setL row f v))))) (Nat.beq size 1)) (Nat.blt f (lenL row)))
      (fun cs => @Bool.rec (fun _ => Out) z (@Bool.rec (fun _ => Out) z (@Bool.rec (fun _ => Out) z (@Bool.rec (fun _ => Out) z
        (k undefA (setL H o (.cells s (setL el i cs)))) (allB okCell cs)) (Nat.beq (lenL row) size)) (Nat.beq (lenL cs) size)) (Nat.beq f 0)) z) z) (Nat.beq ver (lenL el))) (Nat.beq s' s))
  (fun _ _ _ _ _ _ _ _ _ _ z => z)

abbrev SV := AV → Nat → Heap → KV → Out → Out
noncomputable def stV : AV → SV := @AV.rec (fun _ => SV) (fun _ => PUnit)
  (fun _ _ _ _ _ z => z) (fun _ _ _ _ z => z) (fun _ _ _ _ _ _ z => z) (fun _ _ _ _ _ _ z => z)
  (fun o s i f ver v size H k z => nthL H o (fun obj => stObj obj v size o s i f ver H k z) z)
  (fun _ _ _ _ _ _ _ _ z => z) (fun _ _ _ _ _ _ _ _ _ _ _ z => z) (fun _ _ _ _ _ z => z) (fun _ _ _ _ _ _ _ _ _ z => z) ⟨⟩ (fun _ _ _ _ => ⟨⟩)

abbrev FV := Nat → (AV → Out) → Out
noncomputable def faV : AV → FV := @AV.rec (fun _ => FV) (fun _ => PUnit)
  (fun _ _ _ => .fail) (fun _ _ => .fail) (fun _ _ _ _ => .fail) (fun _ _ _ _ => .fail)
  (fun o s i f ver off k => k (.ptr o s i (Nat.add f off) ver)) (fun s el i f off k => k (.vptr s el i (Nat.add f off)))
  (fun _ _ _ _ _ _ _ _ _ => .fail) (fun _ _ _ => .fail) (fun _ _ _ _ _ _ _ => .fail) ⟨⟩ (fun _ _ _ _ => ⟨⟩)

abbrev DV := Bool → Nat → Nat → (AV → Out) → Out
noncomputable def fdV : AV → DV := @AV.rec (fun _ => DV) (fun _ => PUnit)
  (fun _ _ _ _ _ => .fail) (fun _ _ _ _ => .fail)
  (fun cs _ agg size off k => @Bool.rec (fun _ => Out) (nthL cs off k .fail) (match span cs off size with | some r => k (.agg r) | none => .fail) agg)
  (fun _ _ _ _ _ _ => .fail) (fun _ _ _ _ _ _ _ _ _ => .fail) (fun _ _ _ _ _ _ _ _ => .fail) (fun _ _ _ _ _ _ _ _ _ _ _ => .fail) (fun _ _ _ _ _ => .fail) (fun _ _ _ _ _ _ _ _ _ => .fail) ⟨⟩ (fun _ _ _ _ => ⟨⟩)

abbrev EV := Nat → (AV → Out) → Out
noncomputable def exV : AV → EV := @AV.rec (fun _ => EV) (fun _ => PUnit)
  (fun _ _ _ => .fail) (fun _ _ => .fail) (fun _ _ _ _ => .fail) (fun vs _ i k => nthL vs i k .fail)
  (fun _ _ _ _ _ _ _ => .fail) (fun _ _ _ _ _ _ => .fail) (fun _ _ _ _ _ _ _ _ _ => .fail) (fun _ _ _ => .fail) (fun _ _ _ _ _ _ _ => .fail) ⟨⟩ (fun _ _ _ _ => ⟨⟩)

/-! ### a slice's place -/
abbrev IV := Nat → Int → (AV → Out) → Out → Out
noncomputable def tcIdx : TC → IV := @TC.rec (fun _ => IV) (fun _ => PUnit) (fun _ => PUnit)
  (fun _ _ _ _ z => z)
  (fun s el _ es n k z => @Int.rec (fun _ => Out) (fun m => @Bool.rec (fun _ => Out) z (@Bool.rec (fun _ => Out) z (k (.vptr s el m 0)) (Nat.blt m (lenL el))) (Nat.beq es s)) (fun _ => z) n)
  (fun _ _ _ _ _ z => z) ⟨⟩ (fun _ _ _ _ => ⟨⟩) ⟨⟩ (fun _ _ _ _ => ⟨⟩)
noncomputable def iaV : AV → IV := @AV.rec (fun _ => IV) (fun _ => PUnit)
  (fun c => tcIdx c) (fun _ _ _ z => z) (fun _ _ _ _ _ z => z) (fun _ _ _ _ _ z => z) (fun _ _ _ _ _ _ _ _ z => z) (fun _ _ _ _ _ _ _ z => z)
  (fun o s i len _ _ ver es n k z => @Int.rec (fun _ => Out) (fun m => @Bool.rec (fun _ => Out) z (@Bool.rec (fun _ => Out) z (k (.ptr o s (Nat.add i m) 0 ver)) (Nat.blt m len)) (Nat.beq es s)) (fun _ => z) n)
  (fun _ _ _ _ z => z) (fun _ _ _ _ _ _ _ _ z => z) ⟨⟩ (fun _ _ _ _ => ⟨⟩)

/-- How many there are. -/
abbrev NV := (AV → Out) → Out → Out
noncomputable def tcLen : TC → NV := @TC.rec (fun _ => NV) (fun _ => PUnit) (fun _ => PUnit)
  (fun _ _ z => z) (fun _ el _ k _ => k (.tc (.sc (.int .i64 (Int.ofNat (lenL el)))))) (fun _ _ _ z => z) ⟨⟩ (fun _ _ _ _ => ⟨⟩) ⟨⟩ (fun _ _ _ _ => ⟨⟩)
noncomputable def lenV : AV → NV := @AV.rec (fun _ => NV) (fun _ => PUnit)
  (fun c => tcLen c) (fun _ z => z) (fun _ _ _ z => z) (fun _ _ _ z => z) (fun _ _ _ _ _ _ z => z) (fun _ _ _ _ _ z => z)
  (fun _ _ _ len _ _ _ k _ => k (.tc (.sc (.int .i64 (Int.ofNat len))))) (fun _ _ z => z) (fun _ _ _ _ _ _ z => z) ⟨⟩ (fun _ _ _ _ => ⟨⟩)

/-! ### strings -/
abbrev VS := (ByteArray → Out) → Out → Out
noncomputable def vlStr : Value → VS := @Value.rec (fun _ => VS) (fun _ => PUnit) (fun _ => PUnit)
  (fun _ _ z => z) (fun _ _ _ z => z) (fun _ _ _ z => z) (fun _ _ _ _ z => z) (fun s f _ => f s) (fun _ _ z => z) (fun _ _ _ _ z => z)
  (fun _ _ z => z) (fun _ _ z => z) (fun _ _ _ _ _ _ z => z) (fun _ z => z) (fun _ _ _ _ z => z) (fun _ z => z) (fun _ _ _ z => z) (fun _ _ _ z => z)
  (fun _ _ => ⟨⟩) ⟨⟩ (fun _ _ _ _ => ⟨⟩)
noncomputable def tcStr : TC → VS := @TC.rec (fun _ => VS) (fun _ => PUnit) (fun _ => PUnit)
  (fun v => vlStr v) (fun _ _ _ _ z => z) (fun _ _ _ z => z) ⟨⟩ (fun _ _ _ _ => ⟨⟩) ⟨⟩ (fun _ _ _ _ => ⟨⟩)
noncomputable def vStr : AV → VS := @AV.rec (fun _ => VS) (fun _ => PUnit)
  (fun c => tcStr c) (fun _ z => z) (fun _ _ _ z => z) (fun _ _ _ z => z) (fun _ _ _ _ _ _ z => z) (fun _ _ _ _ _ z => z) (fun _ _ _ _ _ _ _ _ z => z) (fun _ _ z => z)
  (fun _ _ _ _ _ _ z => z) ⟨⟩ (fun _ _ _ _ => ⟨⟩)

noncomputable def strEq : List UInt8 → List UInt8 → Bool := @List.rec UInt8 (fun _ => List UInt8 → Bool) (@List.rec UInt8 (fun _ => Bool) true (fun _ _ _ => false))
  (fun a _ ih => @List.rec UInt8 (fun _ => Bool) false (fun b r _ => @Bool.rec (fun _ => Bool) false (ih r) (Nat.beq (UInt8.toNat a) (UInt8.toNat b))))

abbrev SB := ByteArray → ByteArray → (AV → Out) → Out → Out
noncomputable def strF : BinOp → SB := @BinOp.rec (fun _ => SB)
  (fun _ _ _ z => z) (fun _ _ _ z => z) (fun _ _ _ z => z) (fun _ _ _ z => z) (fun _ _ _ z => z) (fun _ _ _ z => z) (fun _ _ _ z => z) (fun _ _ _ z => z) (fun _ _ _ z => z) (fun _ _ _ z => z) (fun _ _ _ z => z)
  (fun s t k _ => retB (strEq s.data.toList t.data.toList) k) (fun s t k _ => retB (Bool.not (strEq s.data.toList t.data.toList)) k)
  (fun _ _ _ z => z) (fun _ _ _ z => z) (fun _ _ _ z => z) (fun _ _ _ z => z)
noncomputable def strBin (op : BinOp) (x y : AV) (k : AV → Out) (z : Out) : Out := vStr x (fun s => vStr y (fun t => strF op s t k z) z) z

/-! ### structs that are compared -/
inductive EK where
  | int
  | bool
  | str
inductive EF where
  | mk (off : Nat) (e : EK)

abbrev XB := AV → AV → (Bool → Out) → Out → Out
noncomputable def vlB2 : Value → (Bool → Out) → Out → Out := @Value.rec (fun _ => (Bool → Out) → Out → Out) (fun _ => PUnit) (fun _ => PUnit)
  (fun b k _ => k b) (fun _ _ _ z => z) (fun _ _ _ z => z) (fun _ _ _ _ z => z) (fun _ _ z => z) (fun _ _ z => z) (fun _ _ _ _ z => z)
  (fun _ _ z => z) (fun _ _ z => z) (fun _ _ _ _ _ _ z => z) (fun _ z => z) (fun _ _ _ _ z => z) (fun _ z => z) (fun _ _ _ z => z) (fun _ _ _ z => z)
  (fun _ _ => ⟨⟩) ⟨⟩ (fun _ _ _ _ => ⟨⟩)
noncomputable def tcB2 : TC → (Bool → Out) → Out → Out := @TC.rec (fun _ => (Bool → Out) → Out → Out) (fun _ => PUnit) (fun _ => PUnit)
  (fun v => vlB2 v) (fun _ _ _ _ z => z) (fun _ _ _ z => z) ⟨⟩ (fun _ _ _ _ => ⟨⟩) ⟨⟩ (fun _ _ _ _ => ⟨⟩)
noncomputable def vB2 : AV → (Bool → Out) → Out → Out := @AV.rec (fun _ => (Bool → Out) → Out → Out) (fun _ => PUnit)
  (fun c => tcB2 c) (fun _ z => z) (fun _ _ _ z => z) (fun _ _ _ z => z) (fun _ _ _ _ _ _ z => z) (fun _ _ _ _ _ z => z) (fun _ _ _ _ _ _ _ _ z => z) (fun _ _ z => z)
  (fun _ _ _ _ _ _ z => z) ⟨⟩ (fun _ _ _ _ => ⟨⟩)

noncomputable def ekF : EK → XB := @EK.rec (fun _ => XB)
  (fun x y k z => vNum x (fun kx a => vNum y (fun ky b => @Bool.rec (fun _ => Out) z (k (eqI b a)) (Nat.beq (kcode kx) (kcode ky))) (fun _ _ => z) z) (fun _ _ => z) z)
  (fun x y k z => vB2 x (fun a => vB2 y (fun b => k (@Bool.rec (fun _ => Bool) (Bool.not b) b a)) z) z)
  (fun x y k z => vStr x (fun a => vStr y (fun b => k (strEq a.data.toList b.data.toList)) z) z)

abbrev EE := List AV → List AV → (Bool → Out) → Out → Out
noncomputable def ef1 : EF → EE → EE := @EF.rec (fun _ => EE → EE) (fun off e ih xs ys k z => nthL xs off (fun x => nthL ys off (fun y => ekF e x y (fun b => ih xs ys (fun c => k (@Bool.rec (fun _ => Bool) false c b)) z) z) z) z)
noncomputable def efF : List EF → EE := @List.rec EF (fun _ => EE) (fun _ _ k _ => k true) (fun f _ ih => ef1 f ih)

noncomputable def aggV : AV → (List AV → Out) → Out → Out := @AV.rec (fun _ => (List AV → Out) → Out → Out) (fun _ => PUnit)
  (fun _ _ z => z) (fun _ z => z) (fun cs _ k _ => k cs) (fun _ _ _ z => z) (fun _ _ _ _ _ _ z => z) (fun _ _ _ _ _ z => z) (fun _ _ _ _ _ _ _ _ z => z) (fun _ _ z => z)
  (fun _ _ _ _ _ _ z => z) ⟨⟩ (fun _ _ _ _ => ⟨⟩)

noncomputable def eqOp : BinOp → Bool → (AV → Out) → Out → Out := @BinOp.rec (fun _ => Bool → (AV → Out) → Out → Out)
  (fun _ _ z => z) (fun _ _ z => z) (fun _ _ z => z) (fun _ _ z => z) (fun _ _ z => z) (fun _ _ z => z) (fun _ _ z => z) (fun _ _ z => z) (fun _ _ z => z) (fun _ _ z => z) (fun _ _ z => z)
  (fun b k _ => retB b k) (fun b k _ => retB (Bool.not b) k)
  (fun _ _ z => z) (fun _ _ z => z) (fun _ _ z => z) (fun _ _ z => z)

/-! ### truth values -/
abbrev VN := (AV → Out) → Out → Out
noncomputable def vlNot : Value → VN := @Value.rec (fun _ => VN) (fun _ => PUnit) (fun _ => PUnit)
  (fun b k _ => k (.tc (.sc (.bool (Bool.not b))))) (fun _ _ _ z => z) (fun _ _ _ z => z) (fun _ _ _ _ z => z) (fun _ _ z => z) (fun _ _ z => z) (fun _ _ _ _ z => z)
  (fun _ _ z => z) (fun _ _ z => z) (fun _ _ _ _ _ _ z => z) (fun _ z => z) (fun _ _ _ _ z => z) (fun _ z => z) (fun _ _ _ z => z) (fun _ _ _ z => z)
  (fun _ _ => ⟨⟩) ⟨⟩ (fun _ _ _ _ => ⟨⟩)
noncomputable def syNot : STy → Sx → VN := @STy.rec (fun _ => Sx → VN) (fun _ _ _ z => z) (fun e k _ => k (.tc (.sy .bool (.not e)))) (fun _ _ z => z)
noncomputable def tcNot : TC → VN := @TC.rec (fun _ => VN) (fun _ => PUnit) (fun _ => PUnit)
  (fun v => vlNot v) (fun _ _ _ _ z => z) (fun t e => syNot t e) ⟨⟩ (fun _ _ _ _ => ⟨⟩) ⟨⟩ (fun _ _ _ _ => ⟨⟩)
noncomputable def notV : AV → VN := @AV.rec (fun _ => VN) (fun _ => PUnit)
  (fun c => tcNot c) (fun _ z => z) (fun _ _ _ z => z) (fun _ _ _ z => z) (fun _ _ _ _ _ _ z => z) (fun _ _ _ _ _ z => z) (fun _ _ _ _ _ _ _ _ z => z) (fun _ _ z => z)
  (fun _ _ _ _ _ _ z => z) ⟨⟩ (fun _ _ _ _ => ⟨⟩)

/-- A pointer that is not nil. -/
noncomputable def fNilV : AV → VN := @AV.rec (fun _ => VN) (fun _ => PUnit)
  (fun _ _ z => z) (fun _ z => z) (fun _ _ _ z => z) (fun _ _ _ z => z) (fun o s i f ver k _ => k (.ptr o s i f ver)) (fun s el i f k _ => k (.vptr s el i f)) (fun _ _ _ _ _ _ _ _ z => z) (fun _ _ z => z)
  (fun _ _ _ _ _ _ z => z) ⟨⟩ (fun _ _ _ _ => ⟨⟩)

/-! ### structs and slices that are written out -/
inductive BP (σ : Type) where
  | mk (off size : Nat) (x : σ → AV)

abbrev BF (σ : Type) := σ → List AV → (List AV → Out) → Out → Out
noncomputable def bp1 {σ : Type} : BP σ → BF σ → BF σ := @BP.rec σ (fun _ => BF σ → BF σ) (fun off size x ih F cs k z =>
  cellsF (x F)
    (fun c => @Bool.rec (fun _ => Out) z (@Bool.rec (fun _ => Out) z (ih F (setL cs off (.tc c)) k z) (Nat.blt off (lenL cs))) (Nat.beq size 1))
    (fun v => @Bool.rec (fun _ => Out) z (@Bool.rec (fun _ => Out) z (ih F (setL cs off v) k z) (Nat.blt off (lenL cs))) (Nat.beq size 1))
    (fun vc => @Bool.rec (fun _ => Out) z (@Bool.rec (fun _ => Out) z (ih F (setSpan cs off vc) k z) (Nat.ble (Nat.add off size) (lenL cs))) (Nat.beq (lenL vc) size)) z)
noncomputable def bpF {σ : Type} : List (BP σ) → BF σ := @List.rec (BP σ) (fun _ => BF σ) (fun _ cs k _ => k cs) (fun p _ ih => bp1 p ih)

abbrev RF (σ : Type) := σ → List (List AV) → (List (List AV) → Out) → Out → Out
noncomputable def rp1 {σ : Type} : BP σ → RF σ → RF σ := @BP.rec σ (fun _ => RF σ → RF σ) (fun i size x ih F rows k z =>
  cellsF (x F)
    (fun c => @Bool.rec (fun _ => Out) z (@Bool.rec (fun _ => Out) z (ih F (setL rows i [.tc c]) k z) (Nat.blt i (lenL rows))) (Nat.beq size 1))
    (fun v => @Bool.rec (fun _ => Out) z (@Bool.rec (fun _ => Out) z (ih F (setL rows i [v]) k z) (Nat.blt i (lenL rows))) (Nat.beq size 1))
    (fun vc => @Bool.rec (fun _ => Out) z (@Bool.rec (fun _ => Out) z (@Bool.rec (fun _ => Out) z (ih F (setL rows i vc) k z) (Nat.blt i (lenL rows))) (Nat.beq (lenL vc) size)) (allB okCell vc)) z)
noncomputable def rpF {σ : Type} : List (BP σ) → RF σ := @List.rec (BP σ) (fun _ => RF σ) (fun _ rows k _ => k rows) (fun p _ ih => rp1 p ih)

/-! ### operations -/
structure Rt where
  C : Ctx
  call : Caller

abbrev FOp (σ : Type) := Rt → σ → Heap → KV → Out

structure GI (σ : Type) where
  look : σ → Look
  o : Oper

noncomputable def genG {σ : Type} (g : GI σ) : FOp σ := fun R F H k => aop R.C R.call g.o (g.look F) H k

inductive A (σ : Type) where
  | fail
  | gen (g : GI σ)
  | mv (x : σ → AV)
  | ld (agg : Bool) (size : Nat) (x : σ → AV)
  | st (size : Nat) (a x : σ → AV) (g : GI σ)
  | fa (off : Nat) (x : σ → AV)
  | fd (agg : Bool) (size off : Nat) (x : σ → AV)
  | ex (x : σ → AV) (i : Nat)
  | bin (op : BinOp) (x y : σ → AV) (g : GI σ)
  | cv (kd : IntKind) (x : σ → AV) (g : GI σ)
  | ia (es : Nat) (x i : σ → AV) (g : GI σ)
  | len (x : σ → AV) (g : GI σ)
  | call (f : FuncId) (as : List (σ → AV)) (g : GI σ)
  | mf (fn : Fn) (first cap : List (σ → AV))
  | pk (c a b : σ → AV)
  | nc (x : σ → AV) (g : GI σ)
  | nt (x : σ → AV) (g : GI σ)
  | al (size : Nat) (z : List TC)
  | bx (size : Nat) (x : σ → AV) (g : GI σ)
  | bd (z : List AV) (ps : List (BP σ)) (g : GI σ)
  | bs (size len : Nat) (rows : List (List AV)) (ps : List (BP σ)) (g : GI σ)
  | ap (size bytes : Nat) (s x : σ → AV)
  | sl (es : Nat) (x : σ → AV) (lo hi mx : Option (σ → AV)) (g : GI σ)
  | ix (x i : σ → AV) (g : GI σ)
  | ss (x : σ → AV) (lo hi mx : Option (σ → AV)) (g : GI σ)
  | xi (as : List (σ → AV))
  | ls (x : σ → AV) (g : GI σ)
  | eqs (op : BinOp) (fs : List EF) (x y : σ → AV) (g : GI σ)
  | bt (size : Nat) (rows : List (List AV)) (ps : List (BP σ)) (g : GI σ)

noncomputable def kH (k : KV) (H : Heap) (v : AV) : Out := k v H
noncomputable def bnII (op : BinOp) (k : AV → Out) (z : Out) (kx : IntKind) (a : Int) (ky : IntKind) (b : Int) : Out := intF op kx a ky b k z
noncomputable def bnI (op : BinOp) (y : AV) (k : AV → Out) (z : Out) (kx : IntKind) (a : Int) : Out := vNum y (bnII op k z kx a) (fun ky b => intOp op kx (.lit a) ky b k) z
noncomputable def bnS (op : BinOp) (y : AV) (k : AV → Out) (z : Out) (kx : IntKind) (a : Sx) : Out := vNum y (fun ky b => intOp op kx a ky (.lit b) k) (fun ky b => intOp op kx a ky b k) z
noncomputable def bn0 (op : BinOp) (x y : AV) (k : AV → Out) (z : Out) : Out := vNum x (bnI op y k z) (bnS op y k z) (strBin op x y k z)

noncomputable def fBn {σ : Type} (op : BinOp) (x y : σ → AV) (g : GI σ) : FOp σ := fun R F H k => bn0 op (x F) (y F) (kH k H) (genG g R F H k)

noncomputable def fCv {σ : Type} (kd : IntKind) (x : σ → AV) (g : GI σ) : FOp σ := fun R F H k =>
  vNum (x F) (fun _ a => k (.tc (.sc (.int kd (wrapF kd a)))) H) (fun _ e => k (.tc (.sy (.int kd) (.conv kd e))) H) (genG g R F H k)

noncomputable def fIa {σ : Type} (es : Nat) (x i : σ → AV) (g : GI σ) : FOp σ := fun R F H k =>
  vNum (i F) (fun _ n => iaV (x F) es n (fun v => k v H) (genG g R F H k)) (fun _ _ => genG g R F H k) (genG g R F H k)

noncomputable def fCall {σ : Type} (f : FuncId) (as : List (σ → AV)) (g : GI σ) : FOp σ := fun R F H k =>
  @Bool.rec (fun _ => Out) (R.call f (evs as F) H k)
    (@Bool.rec (fun _ => Out) (genG g R F H k)
      (@Option.rec _ (fun _ => Out) (R.call f (evs as F) [] fun r H' => fzF r H' fun t => k t H)
        (fun sm => @Option.rec _ (fun _ => Out) (R.call f (evs as F) [] fun r H' => fzF r H' fun t => k t H) (fun r => k r H) (sm (evs as F))) (R.C.summ f)) (allB treeF (evs as F))) (R.C.pure f)

noncomputable def fBx {σ : Type} (size : Nat) (x : σ → AV) (g : GI σ) : FOp σ := fun R F H k =>
  cellsF (x F) (fun c => @Bool.rec (fun _ => Out) (genG g R F H k) (k (.ptr (lenL H) size 0 0 1) (appL H (.tcells size [[c]]))) (Nat.beq size 1))
    (fun v => @Bool.rec (fun _ => Out) (genG g R F H k) (k (.ptr (lenL H) size 0 0 1) (appL H (.cells size [[v]]))) (Nat.beq size 1))
    (fun cs => @Bool.rec (fun _ => Out) (genG g R F H k) (@Bool.rec (fun _ => Out) (genG g R F H k)
      (@Bool.rec (fun _ => Out) (newObj size [cs] fun obj => k (.ptr (lenL H) size 0 0 1) (appL H obj)) (genG g R F H k) (Nat.beq size 0)) (allB okCell cs)) (Nat.beq (lenL cs) size)) (genG g R F H k)

noncomputable def fBs {σ : Type} (size len : Nat) (rows : List (List AV)) (ps : List (BP σ)) (g : GI σ) : FOp σ := fun R F H k =>
  rpF ps F rows (fun rows => newObj size rows fun obj => k (.slice (lenL H) size 0 len len true len) (appL H obj)) (genG g R F H k)

noncomputable def bndF {σ : Type} (dflt : Int) (x : Option (σ → AV)) (F : σ) (k : Int → Out) (z : Out) : Out :=
  @Option.rec (σ → AV) (fun _ => Out) (k dflt) (fun x => vNum (x F) (fun _ n => k n) (fun _ _ => z) z) x

abbrev SLV (σ : Type) := Nat → Option (σ → AV) → Option (σ → AV) → σ → (AV → Out) → Out → Out
noncomputable def slTC {σ : Type} : TC → SLV σ := @TC.rec (fun _ => SLV σ) (fun _ => PUnit) (fun _ => PUnit) (fun _ _ _ _ _ _ z => z)
  (fun s el _ es lo hi F k z => bndF (Int.ofNat (lenL el)) hi F (fun h => bndF 0 lo F (fun l => cond (leI 0 l && leI l h && leI h (Int.ofNat (lenL el)) && Nat.beq es s) (k (.tc (.sl s ((el.take h.toNat).drop l.toNat)))) z) z) z)
  (fun _ _ _ _ _ _ _ z => z) ⟨⟩ (fun _ _ _ _ => ⟨⟩) ⟨⟩ (fun _ _ _ _ => ⟨⟩)
noncomputable def slV {σ : Type} : AV → SLV σ := @AV.rec (fun _ => SLV σ) (fun _ => PUnit)
  (fun c => slTC c) (fun _ _ _ _ _ z => z) (fun _ _ _ _ _ _ _ z => z) (fun _ _ _ _ _ _ _ z => z) (fun _ _ _ _ _ _ _ _ _ _ z => z) (fun _ _ _ _ _ _ _ _ _ z => z)
  (fun o s i len cap ex ver es lo hi F k z => bndF (Int.ofNat len) hi F (fun h => bndF 0 lo F (fun l => cond (leI 0 l && leI l h && leI h (Int.ofNat cap) && Nat.beq es s) (k (.slice o s (i + l.toNat) (h.toNat - l.toNat) (cap - l.toNat) ex ver)) z) z) z)
  (fun _ _ _ _ _ _ z => z) (fun _ _ _ _ _ _ _ _ _ _ z => z) ⟨⟩ (fun _ _ _ _ => ⟨⟩)

noncomputable def fSl {σ : Type} (es : Nat) (x : σ → AV) (lo hi mx : Option (σ → AV)) (g : GI σ) : FOp σ := fun R F H k =>
  @Option.rec (σ → AV) (fun _ => Out) (slV (x F) es lo hi F (fun v => k v H) (genG g R F H k)) (fun _ => genG g R F H k) mx

def tiOf (size bytes : Nat) : TI := { under := .bool, size := size, bytes := bytes, zero := none, agg := false }

noncomputable def dropF {α : Type} : List α → Nat → List α := @List.rec α (fun _ => Nat → List α) (fun _ => []) (fun a r ih n => @Nat.rec (fun _ => List α) (a :: r) (fun m _ => ih m) n)
noncomputable def takeF {α : Type} : List α → Nat → List α := @List.rec α (fun _ => Nat → List α) (fun _ => []) (fun a _ ih n => @Nat.rec (fun _ => List α) [] (fun m _ => a :: ih m) n)

noncomputable def fSs {σ : Type} (x : σ → AV) (lo hi mx : Option (σ → AV)) (g : GI σ) : FOp σ := fun R F H k =>
  @Option.rec (σ → AV) (fun _ => Out) (vStr (x F) (fun s => bndF (Int.ofNat (lenL s.data.toList)) hi F (fun h => bndF 0 lo F (fun l =>
    cond (leI 0 l && leI l h && leI h (Int.ofNat (lenL s.data.toList))) (k (.tc (.sc (.string ⟨⟨dropF (takeF s.data.toList h.toNat) l.toNat⟩⟩))) H) (genG g R F H k)) (genG g R F H k)) (genG g R F H k)) (genG g R F H k)) (fun _ => genG g R F H k) mx

noncomputable def fIx {σ : Type} (x i : σ → AV) (g : GI σ) : FOp σ := fun R F H k =>
  vStr (x F) (fun s => vNum (i F) (fun _ n => @Int.rec (fun _ => Out) (fun m => nthL s.data.toList m (fun b => k (.tc (.sc (.int .u8 (Int.ofNat (UInt8.toNat b))))) H) (genG g R F H k)) (fun _ => genG g R F H k) n) (fun _ _ => genG g R F H k) (genG g R F H k)) (genG g R F H k)

noncomputable def fLs {σ : Type} (x : σ → AV) (g : GI σ) : FOp σ := fun R F H k => vStr (x F) (fun s => k (.tc (.sc (.int .i64 (Int.ofNat (lenL s.data.toList))))) H) (genG g R F H k)

noncomputable def fEqs {σ : Type} (op : BinOp) (fs : List EF) (x y : σ → AV) (g : GI σ) : FOp σ := fun R F H k =>
  aggV (x F) (fun xs => aggV (y F) (fun ys => efF fs xs ys (fun b => eqOp op b (fun v => k v H) (genG g R F H k)) (genG g R F H k)) (genG g R F H k)) (genG g R F H k)

noncomputable def genQ {σ : Type} (g : GI σ) : FOp σ := fun R F H k => aopQ R.C R.call g.o (g.look F) H fun v => k v H

noncomputable def fBt {σ : Type} (size : Nat) (rows : List (List AV)) (ps : List (BP σ)) (g : GI σ) : FOp σ := fun R F H k =>
  rpF ps F rows (fun rows => rowsTCK rows (fun l => k (.tc (.sl size l)) H) .fail) (genQ g R F H k)

noncomputable def fA {σ : Type} : A σ → FOp σ := @A.rec σ (fun _ => FOp σ)
  (fun _ _ _ _ => .fail) genG (fun x _ F H k => k (x F) H) (fun agg size x _ F H k => ldV (x F) agg size H k)
  (fun size a x g R F H k => stV (a F) (x F) size H k (genG g R F H k)) (fun off x _ F H k => faV (x F) off fun v => k v H) (fun agg size off x _ F H k => fdV (x F) agg size off fun v => k v H)
  (fun x i _ F H k => exV (x F) i fun v => k v H) fBn fCv fIa (fun x g R F H k => lenV (x F) (fun v => k v H) (genG g R F H k))
  fCall (fun fn first cap _ F H k => k (.func fn (evs first F) (evs cap F)) H)
  (fun c a b _ F H k => condF (c F) (k (a F) H) (k (b F) H)) (fun x g R F H k => fNilV (x F) (fun v => k v H) (genG g R F H k)) (fun x g R F H k => notV (x F) (fun v => k v H) (genG g R F H k))
  (fun size z _ _ H k => k (.ptr (lenL H) size 0 0 1) (appL H (.tcells size [z]))) fBx (fun z ps g R F H k => bpF ps F z (fun cs => k (.agg cs) H) (genG g R F H k)) fBs
  (fun size bytes s x _ F H k => srcRows H (tiOf size bytes) false [] (x F) fun rows => appendA (tiOf size bytes) (s F) rows H k) fSl fIx fSs (fun as _ F H k => externA (evs as F) fun v => k v H) fLs fEqs fBt

section
variable {σ : Type} (E : EnvO σ) (B : Base)

def cCall (o : Oper) (c : Call) : A σ :=
  match c.callee with
  | .value (.func f) => match B.P.funcs[f]? with
    | some fn => cond (entered fn) (.call f (c.args.toList.map (cO E B)) ⟨E.look, o⟩) (cond (isIdx fn) (.xi (c.args.toList.map (cO E B))) (.gen ⟨E.look, o⟩))
    | none => .gen ⟨E.look, o⟩
  | .builtin .append => match c.args.toList, c.argTypes.toList with
    | [s, x], [st, xt] => match tinfo B.ctx st, tinfo B.ctx xt with
      | some sti, some xti => match sti.under with
        | .slice e => match tinfo B.ctx e with
          | some et => match zeroCellsA et with
            | some z => cond (decide (z.length = et.size) && decide (et.size ≠ 0)) (cond (isIntD xti.under) (.gen ⟨E.look, o⟩) (.ap et.size et.bytes (cO E B s) (cO E B x))) .fail
            | none => .fail
          | none => .fail
        | _ => .fail
      | _, _ => .fail
    | _, _ => .fail
  | .builtin .len => match c.args.toList, c.argTypes.toList with
    | [x], [t] => match tinfo B.ctx t with
      | some ti => match ti.under with
        | .slice _ => .len (cO E B x) ⟨E.look, o⟩
        | .string => .ls (cO E B x) ⟨E.look, o⟩
        | _ => .gen ⟨E.look, o⟩
      | none => .gen ⟨E.look, o⟩
    | _, _ => .gen ⟨E.look, o⟩
  | _ => .gen ⟨E.look, o⟩

def cFa (o : Oper) (t : TypeId) (x : Operand) (fd : Nat) : A σ :=
  match tinfo B.ctx t with
  | some ti => match ti.under with
    | .struct fs => match fs[fd]? with
      | some fl => match tinfo B.ctx fl.type with
        | some ft => cond (decide (ft.size ≠ 0)) (.fa fl.offset (cO E B x)) .fail
        | none => .fail
      | none => .fail
    | _ => .fail
  | none => .fail

def cFd (o : Oper) (t : TypeId) (x : Operand) (fd : Nat) : A σ :=
  match tinfo B.ctx t with
  | some ti => match ti.under with
    | .struct fs => match fs[fd]? with
      | some fl => match tinfo B.ctx fl.type with
        | some ft => .fd ft.agg ft.size fl.offset (cO E B x)
        | none => .fail
      | none => .fail
    | _ => .fail
  | none => .fail

def cCv (o : Oper) (src dst : TypeId) (x : Operand) : A σ :=
  match tinfo B.ctx src, tinfo B.ctx dst with
  | some _, some td => match td.under with
    | .int kd => .cv kd (cO E B x) ⟨E.look, o⟩
    | _ => .gen ⟨E.look, o⟩
  | _, _ => .gen ⟨E.look, o⟩

def cIa (o : Oper) (t : TypeId) (x i : Operand) : A σ :=
  match tinfo B.ctx t with
  | some ti => match ti.under with
    | .slice e => match tinfo B.ctx e with
      | some et => .ia et.size (cO E B x) (cO E B i) ⟨E.look, o⟩
      | none => .gen ⟨E.look, o⟩
    | _ => .gen ⟨E.look, o⟩
  | none => .gen ⟨E.look, o⟩

def cAl (o : Oper) (t : TypeId) : A σ :=
  match tinfo B.ctx t with
  | some ti => match zeroCellsA ti with
    | some z => cond (decide (z.length = ti.size) && decide (ti.size ≠ 0) && (tcs z).all cellOk) (.al ti.size z) .fail
    | none => .fail
  | none => .fail

def cBx (o : Oper) (t : TypeId) (x : Operand) : A σ :=
  match tinfo B.ctx t with
  | some ti => .bx ti.size (cO E B x) ⟨E.look, o⟩
  | none => .gen ⟨E.look, o⟩

/-- The fields of a struct that is written out. -/
def cPs (fs : Array Field) : List (Nat × Operand) → Option (List (BP σ))
  | [] => some []
  | (i, x) :: r => match fs[i]? with
    | some f => match tinfo B.ctx f.type, cPs fs r with
      | some ft, some l => some (.mk f.offset ft.size (cO E B x) :: l)
      | _, _ => none
    | none => none

def cBd (o : Oper) (t : TypeId) (ps : Array (Nat × Operand)) : A σ :=
  match tinfo B.ctx t with
  | some ti => match zeroCellsA ti, ti.under with
    | some z, .struct fs => cond (fs.toList.all fun f => (tinfo B.ctx f.type).isSome) (match cPs E B fs ps.toList with
      | some l => .bd (tcs z) l ⟨E.look, o⟩
      | none => .gen ⟨E.look, o⟩) (.gen ⟨E.look, o⟩)
    | _, _ => .gen ⟨E.look, o⟩
  | none => .gen ⟨E.look, o⟩

def cBs (o : Oper) (t : TypeId) (len : Nat) (ps : Array (Nat × Operand)) : A σ :=
  match tinfo B.ctx t with
  | some ti => match ti.under with
    | .slice e => match tinfo B.ctx e with
      | some et => match zeroCellsA et with
        | some z => cond (decide (len * et.size ≤ 2 ^ 24) && decide (et.size ≠ 0) && decide (z.length = et.size) && (tcs z).all cellOk)
            (.bs et.size len (List.replicate len (tcs z)) (ps.toList.map fun p => .mk p.1 et.size (cO E B p.2)) ⟨E.look, o⟩) (.gen ⟨E.look, o⟩)
        | none => .gen ⟨E.look, o⟩
      | none => .gen ⟨E.look, o⟩
    | _ => .gen ⟨E.look, o⟩
  | none => .gen ⟨E.look, o⟩

def cSl (o : Oper) (t : TypeId) (x : Operand) (lo hi mx : Option Operand) : A σ :=
  match tinfo B.ctx t with
  | some ti => match ti.under with
    | .slice e => match tinfo B.ctx e with
      | some et => .sl et.size (cO E B x) (lo.map (cO E B)) (hi.map (cO E B)) (mx.map (cO E B)) ⟨E.look, o⟩
      | none => .gen ⟨E.look, o⟩
    | .string => .ss (cO E B x) (lo.map (cO E B)) (hi.map (cO E B)) (mx.map (cO E B)) ⟨E.look, o⟩
    | _ => .gen ⟨E.look, o⟩
  | none => .gen ⟨E.look, o⟩

def cIx (o : Oper) (t : TypeId) (x i : Operand) : A σ :=
  match tinfo B.ctx t with
  | some ti => match ti.under with
    | .string => .ix (cO E B x) (cO E B i) ⟨E.look, o⟩
    | _ => .gen ⟨E.look, o⟩
  | none => .gen ⟨E.look, o⟩

def cEF : List Field → Option (List EF)
  | [] => some []
  | f :: r => match decide (f.name = "_") with
    | true => none
    | false => match tinfo B.ctx f.type, cEF r with
      | some ti, some l => match ti.under with
        | .int _ => some (.mk f.offset .int :: l)
        | .bool => some (.mk f.offset .bool :: l)
        | .string => some (.mk f.offset .str :: l)
        | _ => none
      | _, _ => none

def cBin (o : Oper) (op : BinOp) (t : TypeId) (x y : Operand) : A σ :=
  match B.P.underlying t with
  | some (.struct fs) => match !B.P.stoodInHeld t && !B.P.eqGuardType B.P.depth t with
    | true => match cEF B fs.toList with
      | some l => .eqs op l (cO E B x) (cO E B y) ⟨E.look, o⟩
      | none => .bin op (cO E B x) (cO E B y) ⟨E.look, o⟩
    | false => .bin op (cO E B x) (cO E B y) ⟨E.look, o⟩
  | _ => .bin op (cO E B x) (cO E B y) ⟨E.look, o⟩

def compA (o : Oper) : A σ :=
  match o.op with
  | .pick c a b => .pk (cO E B c) (cO E B a) (cO E B b)
  | .nilCheck x => .nc (cO E B x) ⟨E.look, o⟩
  | .unOp .not _ x => .nt (cO E B x) ⟨E.look, o⟩
  | .alloc t => cAl B o t
  | .box t x => cBx E B o t x
  | .build t ps => cBd E B o t ps
  | .buildSlice t len ps => cBs E B o t len ps
  | .slice t x lo hi mx => cSl E B o t x lo hi mx
  | .index t x i => cIx E B o t x i
  | .move x => .mv (cO E B x)
  | .assign x => .mv (cO E B x)
  | .load t x => match tinfo B.ctx t with | some ti => .ld ti.agg ti.size (cO E B x) | none => .fail
  | .store t a x => match tinfo B.ctx t with | some ti => .st ti.size (cO E B a) (cO E B x) ⟨E.look, o⟩ | none => .fail
  | .fieldAddr t x fd => cFa E B o t x fd
  | .field t x fd => cFd E B o t x fd
  | .extract x i => .ex (cO E B x) i
  | .binOp op t x y _ => cBin E B o op t x y
  | .convert src dst x => cCv E B o src dst x
  | .indexAddr t x i => cIa E B o t x i
  | .makeFunc fn first cap => .mf fn (first.toList.map (cO E B)) (cap.toList.map (cO E B))
  | .call c => cCall E B o c
  | _ => .gen ⟨E.look, o⟩
end

/-! ### regions in a row -/
inductive FI (σ : Type) where
  | p (a : A σ) (d : AV → σ → σ)
  | n (a : A σ)
  | gp (c : σ → AV) (w : Bool) (a : A σ) (d : AV → σ → σ)
  | gn (c : σ → AV) (w : Bool) (a : A σ)
  | no
  | nop (d : AV → σ → σ)

abbrev Row (σ : Type) := Rt → σ → Heap → (σ → Heap → Out) → Out

noncomputable def fI {σ : Type} : FI σ → Row σ → Row σ := @FI.rec σ (fun _ => Row σ → Row σ)
  (fun a d ih call F H K => fA a call F H fun v H' => ih call (d v F) H' K)
  (fun a ih call F H K => fA a call F H fun _ H' => ih call F H' K)
  (fun c w a d ih call F H K => guardF (c F) w (fA a call F H fun v H' => ih call (d v F) H' K) (ih call (d undefA F) H K))
  (fun c w a ih call F H K => guardF (c F) w (fA a call F H fun _ H' => ih call F H' K) (ih call F H K))
  (fun ih => ih)
  (fun d ih call F H K => ih call (d undefA F) H K)

noncomputable def fRow {σ : Type} : List (FI σ) → Row σ := @List.rec (FI σ) (fun _ => Row σ) (fun _ F H K => K F H) (fun i _ ih => fI i ih)

section
variable {σ : Type} (E : EnvO σ) (B : Base) (m : Nat)

/-- Where a temporary is kept; none: it is none of the call's. -/
def cD (dst : Option Tmp) : Option (AV → σ → σ) :=
  match dst with
  | some t => cond (Nat.blt t m) (some (E.set t)) none
  | none => none

def cI (ops : Array Oper) (o : Oper) : FI σ :=
  match o.guard with
  | none => match cD E m o.dst with
    | some p => .p (compA E B o) p
    | none => .n (compA E B o)
  | some (j, w) => match (ops[j]?).bind (·.dst) with
    | none => match cD E m o.dst with
      | some p => .nop p
      | none => .no
    | some c => match cD E m o.dst with
      | some p => .gp (cO E B (.tmp c)) w (compA E B o) p
      | none => .gn (cO E B (.tmp c)) w (compA E B o)
end

/-! ### regions that draw their order -/
inductive Gd (σ : Type) where
  | none
  | never
  | on (c : σ → AV) (w : Bool)

inductive Qu (σ : Type) where
  | yes
  | no
  | dyn (f : FuncId) (as : List (σ → AV))
  | gen (g : GI σ)

inductive QI (σ : Type) where
  | mk (g : Gd σ) (q : Qu σ) (aq al : A σ) (d : Option (AV → σ → σ))

noncomputable def gdF {σ : Type} : Gd σ → σ → Out → Out → Out := @Gd.rec σ (fun _ => σ → Out → Out → Out) (fun _ x _ => x) (fun _ _ y => y) (fun c w F x y => guardF (c F) w x y)
noncomputable def quF {σ : Type} : Qu σ → Rt → σ → Out → Out → Out := @Qu.rec σ (fun _ => Rt → σ → Out → Out → Out) (fun _ _ x _ => x) (fun _ _ _ y => y) (fun f as R F x y => @Bool.rec (fun _ => Out) y (@Bool.rec (fun _ => Out) y x (allB treeF (evs as F))) (R.C.pure f)) (fun g R F x y => cond (quietO R.C g.o (g.look F)) x y)
noncomputable def dsF {σ : Type} (d : Option (AV → σ → σ)) (v : AV) (F : σ) : σ := @Option.rec (AV → σ → σ) (fun _ => AV → σ → σ) (fun _ F => F) (fun s => s) d v F

/-- How many turned memory. -/
def nLoud : List Kd → Nat
  | [] => 0
  | .loud _ :: r => nLoud r + 1
  | .quiet :: r => nLoud r
  | .no :: r => nLoud r

abbrev QRow (σ : Type) := Rt → σ → Heap → List Kd → List Heap → (σ → List Kd → List Heap → Out) → Out
noncomputable def qI {σ : Type} : QI σ → QRow σ → QRow σ := @QI.rec σ (fun _ => QRow σ → QRow σ) (fun g q aq al d ih R F H ks hs K =>
  gdF g F (quF q R F (fA aq R F H fun v _ => ih R (dsF d v F) H (.quiet :: ks) hs K) (fA al R F H fun v H' => ih R (dsF d v F) H' (.loud (nLoud ks) :: ks) (H :: hs) K)) (ih R (dsF d undefA F) H (.no :: ks) hs K))
noncomputable def qRow {σ : Type} : List (QI σ) → QRow σ := @List.rec (QI σ) (fun _ => QRow σ) (fun _ F H ks hs K => K F ks (H :: hs)) (fun i _ ih => qI i ih)

/-- An operation that reads memory, and where it puts what it read. -/
inductive PQ (σ : Type) where
  | no
  | rd (a : A σ) (g : σ → AV)
  | bad

/-- At which memories it is looked at again. -/
inductive PI (σ : Type) where
  | mk (a : A σ) (g : σ → AV) (lo hi : Nat)
  | bad

def planF {σ : Type} (ms : List Nat) (ks : List Kd) (n : Nat) : List (PQ σ) → List Kd → Nat → List (PI σ)
  | q :: r, kd :: s, i => match kd with
    | .quiet => match q with
      | .rd a g => .mk a g (loD ks (ms.getD i 0)) (hiD ms ks i n) :: planF ms ks n r s (i + 1)
      | .bad => [.bad]
      | .no => planF ms ks n r s (i + 1)
    | _ => planF ms ks n r s (i + 1)
  | _, _, _ => []

noncomputable def chkAt {σ : Type} (a : A σ) (v : AV) (R : Rt) (F : σ) : List Heap → Out → Out := @List.rec Heap (fun _ => Out → Out) (fun K => K) (fun H _ ih K => fA a R F H fun u _ => cond (sameA u v) (ih K) .fail)
noncomputable def chkPlan {σ : Type} : List (PI σ) → Rt → σ → List Heap → Out → Out := @List.rec (PI σ) (fun _ => Rt → σ → List Heap → Out → Out) (fun _ _ _ K => K)
  (fun p _ ih R F hl K => @PI.rec σ (fun _ => Out) (fun a g lo hi => chkAt a (g F) R F (dropF (takeF hl (Nat.succ hi)) lo) (ih R F hl K)) .fail p)

/-- What is to be looked at again, ready. -/
def planOf {σ : Type} (ms : List Nat) (pq : List (PQ σ)) (ks : List Kd) : List (PI σ) := planF ms ks.reverse (nLoud ks + 1) pq ks.reverse 0

noncomputable def regDF {σ : Type} (ms : List Nat) (pq : List (PQ σ)) (qs : List (QI σ)) (R : Rt) (F : σ) (H : Heap) (Kn : σ → Heap → Out) : Out :=
  qRow qs R F H [] [] fun F' ks hs => @List.rec Heap (fun _ => Out) .fail (fun H' r _ => @List.rec Heap (fun _ => Out) (Kn F' H')
    (fun _ _ _ => @Bool.rec (fun _ => Out) .fail (chkPlan (planOf ms pq ks) R F' hs.reverse (Kn F' H')) (chainD ms ks.reverse)) r) hs

section
variable {σ : Type} (E : EnvO σ) (B : Base) (m : Nat)

def cQ (o : Oper) : Qu σ :=
  match o.op with
  | .alloc _ => .no
  | .box .. => .no
  | .store .. => .no
  | .makeSlice .. => .no
  | .makeMap .. => .no
  | .mapUpdate .. => .no
  | .insert .. => .no
  | .call c => match c.callee with
    | .builtin .append => .no
    | .value (.func f) => .dyn f (c.args.toList.map (cO E B))
    | .value _ => .gen ⟨E.look, o⟩
    | _ => .yes
  | _ => .yes

def cBt (o : Oper) (t : TypeId) (len : Nat) (ps : Array (Nat × Operand)) : A σ :=
  match tinfo B.ctx t with
  | some ti => match ti.under with
    | .slice e => match tinfo B.ctx e with
      | some et => match zeroCellsA et with
        | some z => cond (decide (len * et.size ≤ 2 ^ 24) && decide (et.size ≠ 0) && decide (z.length = et.size) && (tcs z).all cellOk)
            (.bt et.size (List.replicate len (tcs z)) (ps.toList.map fun p => .mk p.1 et.size (cO E B p.2)) ⟨E.look, o⟩) .fail
        | none => .fail
      | none => .fail
    | _ => .fail
  | none => .fail

def compQ (o : Oper) : A σ :=
  match o.op with
  | .buildSlice t len ps => cBt E B o t len ps
  | _ => compA E B o

def cG (ops : Array Oper) (o : Oper) : Gd σ :=
  match o.guard with
  | none => .none
  | some (j, w) => match (ops[j]?).bind (·.dst) with
    | none => .never
    | some c => .on (cO E B (.tmp c)) w

def cPQ (o : Oper) : PQ σ :=
  match readsO o, o.dst with
  | true, some d => .rd (compQ E B o) (cO E B (.tmp d))
  | true, none => .bad
  | false, _ => .no

def cQI (ops : Array Oper) (o : Oper) : QI σ := .mk (cG E B ops o) (cQ E B o) (compQ E B o) (compA E B o) (cD E m o.dst)
end

/-! ### code -/
inductive FC (σ : Type) where
  | fail
  | skip
  | label (l : Nat)
  | reg (l : List (FI σ))
  | regD (ms : List Nat) (pq : List (PQ σ)) (qs : List (QI σ))
  | seq (a b : FC σ)
  | cond (c : σ → AV) (a b : FC σ)
  | block (id : Nat) (a : FC σ)
  | loop (L : Nat) (a : FC σ)
  | scope (L : Nat) (a : FC σ)
  | exit (id : Nat)
  | goto (l : Nat)
  | ret

abbrev Ke (σ : Type) := AEx → σ → Heap → Out
abbrev Sg (σ : Type) := Rt → σ → Heap → (σ → Heap → Out) → Ke σ → Out

noncomputable def inBlock {σ : Type} (id : Nat) (Kn : σ → Heap → Out) (K : Ke σ) : Ke σ := fun e => @AEx.rec (fun _ => σ → Heap → Out) (K .normal)
  (fun id' F H => @Bool.rec (fun _ => Out) (K (.exit id') F H) (Kn F H) (Nat.beq id' id)) (fun l => K (.goto l)) (K .ret) e

noncomputable def iterF {σ : Type} (body : Sg σ) : Nat → Rt → σ → Heap → Ke σ → Out :=
  @Nat.rec (fun _ => Rt → σ → Heap → Ke σ → Out) (fun _ _ _ _ => .fail) (fun _ ih call F H K => body call F H (fun F' H' => ih call F' H' K) K)

noncomputable def hasF {σ : Type} (l : Nat) : FC σ → Bool := @FC.rec σ (fun _ => Bool) false false (fun l' => Nat.beq l' l) (fun _ => false) (fun _ _ _ => false) (fun _ _ x y => @Bool.rec (fun _ => Bool) y true x) (fun _ _ _ _ _ => false)
  (fun _ _ _ => false) (fun _ _ _ => false) (fun _ _ _ => false) (fun _ => false) (fun _ => false) false

/-- A scope's rounds; where: from a label on, or from the begin. -/
noncomputable def iterSF {σ : Type} (body : Sg σ) (from_ : Nat → Sg σ) (has : Nat → Bool) : Nat → Option Nat → Sg σ :=
  @Nat.rec (fun _ => Option Nat → Sg σ) (fun _ _ _ _ _ _ => .fail) (fun _ ih m call F H Kn K =>
    (@Option.rec Nat (fun _ => Sg σ) body from_ m) call F H Kn fun e => @AEx.rec (fun _ => σ → Heap → Out) (K .normal) (fun id => K (.exit id))
      (fun l F' H' => @Bool.rec (fun _ => Out) (K (.goto l) F' H') (ih (some l) call F' H' Kn K) (has l)) (K .ret) e)

/-- The whole of it, and from a label on. -/
structure Two (σ : Type) where
  a : Sg σ
  l : Nat → Sg σ

noncomputable def sgFail {σ : Type} : Sg σ := fun _ _ _ _ _ => .fail

noncomputable def two {σ : Type} : FC σ → Two σ := @FC.rec σ (fun _ => Two σ)
  ⟨sgFail, fun _ => sgFail⟩
  ⟨fun _ F H Kn _ => Kn F H, fun _ => sgFail⟩
  (fun l => ⟨fun _ F H Kn _ => Kn F H, fun l' _ F H Kn _ => @Bool.rec (fun _ => Out) .fail (Kn F H) (Nat.beq l l')⟩)
  (fun r => ⟨fun call F H Kn _ => fRow r call F H Kn, fun _ => sgFail⟩)
  (fun ms pq qs => ⟨fun R F H Kn _ => regDF ms pq qs R F H Kn, fun _ => sgFail⟩)
  (fun a b x y => ⟨fun call F H Kn K => x.a call F H (fun F' H' => y.a call F' H' Kn K) K,
    fun l call F H Kn K => @Bool.rec (fun _ => Out) (y.l l call F H Kn K) (x.l l call F H (fun F' H' => y.a call F' H' Kn K) K) (hasF l a)⟩)
  (fun c _ _ x y => ⟨fun call F H Kn K => condF (c F) (x.a call F H Kn K) (y.a call F H Kn K), fun _ => sgFail⟩)
  (fun id _ x => ⟨fun call F H Kn K => x.a call F H Kn (inBlock id Kn K), fun _ => sgFail⟩)
  (fun L _ x => ⟨fun call F H _ K => iterF x.a L call F H K, fun _ => sgFail⟩)
  (fun L a x => ⟨fun call F H Kn K => iterSF x.a x.l (fun l => hasF l a) L none call F H Kn K, fun _ => sgFail⟩)
  (fun id => ⟨fun _ F H _ K => K (.exit id) F H, fun _ => sgFail⟩)
  (fun l => ⟨fun _ F H _ K => K (.goto l) F H, fun _ => sgFail⟩)
  ⟨fun _ F H _ K => K .ret F H, fun _ => sgFail⟩

section
variable {σ : Type} (E : EnvO σ) (B : Base) (m : Nat)

def EnvO.dec {σ : Type} (E : EnvO σ) (m : Nat) (F : σ) : Tmps := (List.range m).map (E.look F)

def compC : Code → FC σ
  | .skip => .skip
  | .label l => .label l
  | .region _ ops draw => match draw with
    | false => .reg (ops.toList.map (cI E B m ops))
    | true => cond (B.P.follows .mixedOrders && okOps ops) (.regD (masks ops.toList []) (ops.toList.map (cPQ E B)) (ops.toList.map (cQI E B m ops))) .fail
  | .seq a b => .seq (compC a) (compC b)
  | .cond c a b => .cond (cO E B c) (compC a) (compC b)
  | .block id a => .block id (compC a)
  | .loop a => .loop B.L (compC a)
  | .scope a => .scope B.L (compC a)
  | .exit id => .exit id
  | .goto l => .goto l
  | .ret => .ret
  | _ => .fail
end

/-! ### where an operation stands -/
def regsOf : Code → List (Array Oper)
  | .region _ ops _ => [ops]
  | .seq a b => regsOf a ++ regsOf b
  | .cond _ a b => regsOf a ++ regsOf b
  | .block _ a => regsOf a
  | .loop a => regsOf a
  | .scope a => regsOf a
  | _ => []

def regAt (P : Program) (f r : Nat) : Array Oper :=
  match P.funcs[f]? with
  | some fn => match fn.body with
    | some c => ((regsOf c)[r]?).getD #[]
    | none => #[]
  | none => #[]

def opAt (P : Program) (f r j : Nat) : Oper := ((regAt P f r)[j]?).getD default

/-! ### functions -/
inductive FRes (σ : Type) where
  | tmp (x : σ → AV)
  | cell (x : σ → AV) (agg : Bool) (size : Nat)
  | bad

abbrev RS (σ : Type) := σ → Heap → List AV → KV → Out
noncomputable def fRes1 {σ : Type} : FRes σ → RS σ → RS σ := @FRes.rec σ (fun _ => RS σ → RS σ)
  (fun x ih F H acc k => ih F H (x F :: acc) k)
  (fun x agg size ih F H acc k => ldV (x F) agg size H fun v _ => ih F H (v :: acc) k)
  (fun _ _ _ _ _ => .fail)
noncomputable def fRes {σ : Type} : List (FRes σ) → RS σ := @List.rec (FRes σ) (fun _ => RS σ) (fun _ H acc k => match acc with | [v] => k v H | vs => k (.tuple vs.reverse) H) (fun r _ ih => fRes1 r ih)

def cRes {σ : Type} (E : EnvO σ) (B : Base) : ResultVar → FRes σ
  | .tmp t => .tmp (cO E B (.tmp t))
  | .cell a t => match tinfo B.ctx t with
    | some ti => .cell (cO E B (.tmp a)) ti.agg ti.size
    | none => .bad

/-- A function's code. -/
structure FB (σ : Type) where
  m : Nat
  code : FC σ
  res : List (FRes σ)

def compB {σ : Type} (E : EnvO σ) (B : Base) (fn : Func) (c : Code) : FB σ := ⟨fn.ntmps, compC E B fn.ntmps c, fn.results.toList.map (cRes E B)⟩

noncomputable def nthA : List AV → Nat → AV := @List.rec AV (fun _ => Nat → AV) (fun _ => undefA) (fun a _ ih n => @Nat.rec (fun _ => AV) a (fun m _ => ih m) n)

/-- A call. -/
noncomputable def callB {σ : Type} (enc : (Nat → AV) → σ) (b : FB σ) (R : Rt) (args : List AV) (H : Heap) (k : KV) (z : Out) : Out :=
  @Bool.rec (fun _ => Out) z
    ((two b.code).a R (enc (nthA args)) H (fun F H' => fRes b.res F H' [] k) (fun e => @AEx.rec (fun _ => σ → Heap → Out) (fun _ _ => .fail) (fun _ _ _ => .fail) (fun _ _ _ => .fail) (fun F H' => fRes b.res F H' [] k) e))
    (Nat.ble (lenL args) b.m)

end Go.Proofs.Ytgpijioodocplaa
