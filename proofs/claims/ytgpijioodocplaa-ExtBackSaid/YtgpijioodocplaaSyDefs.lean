/- An evaluator of the model's code over abstract values: its definitions. Nothing here is trusted: EngSound shows that what it tells holds of the model. -/
import Derived.Calls
import Derived.Control
import Derived.Scope
import Derived.Deep.Quiet
import Derived.Below
import Derived.Lib.Bytealg
set_option linter.unusedVariables false
set_option linter.unusedSectionVars false
set_option linter.unusedSimpArgs false
namespace Go.Proofs.Ytgpijioodocplaa
open Go

/-- Types of scalars that are known by an expression alone. -/
inductive STy where
  | int (k : IntKind)
  | bool
  | str
  deriving Inhabited, DecidableEq

/-- Expressions over variables; what one denotes hangs on the type at which it is asked. -/
inductive Sx where
  | var (i : Nat)
  | lit (n : Int)
  | lb (b : Bool)
  | ls (s : ByteArray)
  | bin (op : BinOp) (k : IntKind) (a b : Sx)
  | cmp (op : BinOp) (a b : Sx)
  | cmps (op : BinOp) (a b : Sx)
  | eqb (a b : Sx)
  | conv (k : IntKind) (a : Sx)
  | not (a : Sx)
  | and (a b : Sx)
  | len (a : Sx)
  | at_ (a i : Sx)
  | sub (a lo hi : Sx)
  | cat (a b : Sx)
  | idx (a c : Sx)
  | app (f : Nat) (as : Sx)
  | nil
  | arg (t : STy) (a r : Sx)
  deriving Inhabited

/-- A tree of cells that never change: a scalar, an expression, or a slice with its elements' cells. -/
inductive TC where
  | sc (v : Value)
  | sl (s : Nat) (el : List (List TC))
  | sy (t : STy) (e : Sx)
  deriving Inhabited

/-- An abstract value. -/
inductive AV where
  | tc (c : TC)
  | any
  | agg (cs : List AV)
  | tuple (vs : List AV)
  | ptr (o s i f ver : Nat)
  | vptr (s : Nat) (el : List (List TC)) (i f : Nat)
  | slice (o s i len cap : Nat) (ex : Bool) (ver : Nat)
  | map (o : Nat)
  | func (fn : Fn) (first cap : List AV)
  deriving Inhabited

abbrev AV.sc (v : Value) : AV := .tc (.sc v)
abbrev AV.sl (s : Nat) (el : List (List TC)) : AV := .tc (.sl s el)

/-- What a run comes to: it fails; it tells a value; or it hangs on a test. -/
inductive Out where
  | fail
  | leaf (r : AV)
  | sel (e : Sx) (a b : Out)
  deriving Inhabited

inductive AObj where
  | tcells (s : Nat) (el : List (List TC))
  | cells (s : Nat) (el : List (List AV))
  | map (es : List (Value × AV))
  deriving Inhabited

def AObj.len : AObj → Nat
  | .tcells _ el => el.length
  | .cells _ el => el.length
  | _ => 0

abbrev Heap := List AObj
abbrev Tmps := List AV

def undefA : AV := .tc (.sc (.tuple #[]))

def mapO {α β : Type} (f : α → Option β) : List α → Option (List β)
  | [] => some []
  | a :: r => match f a, mapO f r with
    | some b, some l => some (b :: l)
    | _, _ => none

/-- What is known of a type. -/
structure TI where
  under : TypeDesc
  size : Nat
  bytes : Nat
  zero : Option Value
  agg : Bool

structure Ctx where
  P : Program
  L : Nat
  pure : FuncId → Bool
  glob : Nat → Option (Nat × List (List TC))
  sym : Bool
  summ : FuncId → Option (List AV → Option AV)
  /-- Of a pure function: is it so at slices in memory too (what it tells being flat)? Else it is run there as it is. -/
  flat : FuncId → Bool := fun _ => true

section
variable (C : Ctx)

def isIntD : TypeDesc → Bool
  | .int _ => true
  | _ => false

def aggD : TypeDesc → Bool
  | .struct _ => true
  | .array _ _ => true
  | _ => false

def tinfo (t : TypeId) : Option TI :=
  match C.P.info? t, C.P.underlying t with
  | some i, some d => some { under := d, size := i.size, bytes := i.bytes, zero := i.zero, agg := aggD d }
  | _, _ => none

/-! ### values -/

mutual
def toVal : AV → Option Value
  | .tc (.sc v) => some v
  | .agg cs => (toVals cs).map fun l => .agg l.toArray
  | .tuple vs => (toVals vs).map fun l => .tuple l.toArray
  | _ => none
def toVals : List AV → Option (List Value)
  | [] => some []
  | a :: r => match toVal a, toVals r with
    | some v, some l => some (v :: l)
    | _, _ => none
end

def scs (l : List Value) : List AV := l.map fun v => .tc (.sc v)

def ofVal : Value → AV
  | .agg cs => .agg (scs cs.toList)
  | v => .tc (.sc v)

def ofRes : Value → AV
  | .tuple vs => .tuple (vs.toList.map ofVal)
  | v => ofVal v

/-- A temporary. -/
def getL : List AV → Nat → AV
  | [], _ => undefA
  | a :: _, 0 => a
  | _ :: r, n + 1 => getL r n

/-- What temporaries hold. -/
abbrev Look := Nat → AV

def ev (T : Look) : Operand → AV
  | .tmp t => T t
  | .const v => ofVal v
  | .global g => match C.glob g with | some (s, el) => .vptr s el 0 0 | none => .any
  | .func f => .tc (.sc (.func (.func f) #[] #[]))

def put (T : Tmps) (dst : Option Tmp) (v : AV) : Tmps :=
  match dst with
  | some d => T.set d v
  | none => T

/-- A list with a place set, its spine written out. -/
def setK {α β : Type} : List α → Nat → α → (List α → β) → β
  | [], _, _, k => k []
  | _ :: r, 0, x, k => k (x :: r)
  | y :: r, n + 1, x, k => setK r n x fun r' => k (y :: r')

def putK {β : Type} (T : Tmps) (dst : Option Tmp) (v : AV) (k : Tmps → β) : β :=
  match dst with
  | some d => setK T d v k
  | none => k T

/-- The cells of a value, as they lie in memory. -/
def cellsOfA : AV → Option (List AV)
  | .tc (.sc (.agg _)) => none
  | .agg cs => some cs
  | .tuple _ => none
  | .any => none
  | v => some [v]

/-- A value that lies in one cell. -/
def cellOk : AV → Bool
  | .tc (.sc (.agg _)) => false
  | .tc (.sc (.tuple _)) => false
  | .tc _ => true
  | .any => false
  | .agg _ => false
  | .tuple _ => false
  | _ => true

def asTC : List AV → Option (List TC)
  | [] => some []
  | .tc c :: r => (asTC r).map (c :: ·)
  | _ :: _ => none

def newCells (s : Nat) (el : List (List AV)) : AObj :=
  match mapO asTC el with
  | some t => .tcells s t
  | none => .cells s el

def tcs (l : List TC) : List AV := l.map .tc

/-- Some cells of a row. -/
def span {α : Type} (l : List α) (f n : Nat) : Option (List α) :=
  let r := (l.drop f).take n
  if r.length = n then some r else none

def setSpan {α : Type} (l : List α) (f : Nat) (cs : List α) : List α := l.take f ++ cs ++ l.drop (f + cs.length)

/-! ### scalars that are known by an expression -/
def asSx : AV → Option (STy × Sx)
  | .tc (.sc (.int k n)) => some (.int k, .lit n)
  | .tc (.sc (.bool b)) => some (.bool, .lb b)
  | .tc (.sc (.string s)) => some (.str, .ls s)
  | .tc (.sy t e) => some (t, e)
  | _ => none

abbrev AV.sy (t : STy) (e : Sx) : AV := .tc (.sy t e)

/-- Both ways of a test. -/
def condA (c : AV) (x y : Out) : Out :=
  match c with
  | .tc (.sc (.bool b)) => cond b x y
  | .tc (.sy .bool e) => .sel e x y
  | _ => .fail

/-- A whole number from i on, below i + n. -/
def enumA (e : Sx) (k : Int → Out) : Nat → Nat → Out
  | _, 0 => .fail
  | i, n + 1 => .sel (.cmp .eql e (.lit i)) (k i) (enumA e k (i + 1) n)

def withIdx (idx : AV) (n : Nat) (k : Int → Out) : Out :=
  match idx with
  | .tc (.sc (.int _ m)) => k m
  | .tc (.sy (.int _) e) => enumA e k 0 n
  | _ => .fail

/-- A comparison, a number alone standing at the right. -/
def mkCmp (op : BinOp) (a b : Sx) : Sx :=
  match a with
  | .lit n => match op with
    | .eql => .cmp .eql b (.lit n)
    | .neq => .not (.cmp .eql b (.lit n))
    | .lss => .cmp .gtr b (.lit n)
    | .leq => .cmp .geq b (.lit n)
    | .gtr => .cmp .lss b (.lit n)
    | .geq => .cmp .leq b (.lit n)
    | op => .cmp op (.lit n) b
  | a => match op with
    | .neq => .not (.cmp .eql a b)
    | op => .cmp op a b

def intOp (op : BinOp) (kx : IntKind) (a : Sx) (ky : IntKind) (b : Sx) (k : AV → Out) : Out :=
  match op with
  | .shl => .sel (.cmp .lss b (.lit 0)) .fail (k (.sy (.int kx) (.bin .shl kx a b)))
  | .shr => .sel (.cmp .lss b (.lit 0)) .fail (k (.sy (.int kx) (.bin .shr kx a b)))
  | .quo => cond (decide (kx = ky)) (.sel (.cmp .eql b (.lit 0)) .fail (k (.sy (.int kx) (.bin .quo kx a b)))) .fail
  | .rem => cond (decide (kx = ky)) (.sel (.cmp .eql b (.lit 0)) .fail (k (.sy (.int kx) (.bin .rem kx a b)))) .fail
  | .add => cond (decide (kx = ky)) (k (.sy (.int kx) (.bin .add kx a b))) .fail
  | .sub => cond (decide (kx = ky)) (k (.sy (.int kx) (.bin .sub kx a b))) .fail
  | .mul => cond (decide (kx = ky)) (k (.sy (.int kx) (.bin .mul kx a b))) .fail
  | .and => cond (decide (kx = ky)) (k (.sy (.int kx) (.bin .and kx a b))) .fail
  | .or => cond (decide (kx = ky)) (k (.sy (.int kx) (.bin .or kx a b))) .fail
  | .xor => cond (decide (kx = ky)) (k (.sy (.int kx) (.bin .xor kx a b))) .fail
  | .andNot => cond (decide (kx = ky)) (k (.sy (.int kx) (.bin .andNot kx a b))) .fail
  | .eql => cond (decide (kx = ky)) (k (.sy .bool (mkCmp .eql a b))) .fail
  | .neq => cond (decide (kx = ky)) (k (.sy .bool (mkCmp .neq a b))) .fail
  | .lss => cond (decide (kx = ky)) (k (.sy .bool (mkCmp .lss a b))) .fail
  | .leq => cond (decide (kx = ky)) (k (.sy .bool (mkCmp .leq a b))) .fail
  | .gtr => cond (decide (kx = ky)) (k (.sy .bool (mkCmp .gtr a b))) .fail
  | .geq => cond (decide (kx = ky)) (k (.sy .bool (mkCmp .geq a b))) .fail

def strOp (op : BinOp) (a b : Sx) (k : AV → Out) : Out :=
  match op with
  | .eql => k (.sy .bool (.cmps .eql a b))
  | .neq => k (.sy .bool (.cmps .neq a b))
  | .lss => k (.sy .bool (.cmps .lss a b))
  | .leq => k (.sy .bool (.cmps .leq a b))
  | .gtr => k (.sy .bool (.cmps .gtr a b))
  | .geq => k (.sy .bool (.cmps .geq a b))
  | _ => .fail

def boolOp (op : BinOp) (a b : Sx) (k : AV → Out) : Out :=
  match op with
  | .eql => k (.sy .bool (.eqb a b))
  | .neq => k (.sy .bool (.not (.eqb a b)))
  | _ => .fail

/-! ### a Sem that touches no memory -/

def pureRun {α : Type} (P : Program) : Sem α → Option α
  | .pure a => some a
  | .program k => pureRun P (k P)
  | .mark _ k => pureRun P k
  | _ => none

/-- An operation of scalars, some of them known by an expression. -/
def symOp (o : Oper) (T : Look) (k : AV → Out) : Out :=
  match o.op with
  | .binOp op t x y _ =>
    match asSx (ev C T x), asSx (ev C T y) with
    | some (.int kx, a), some (.int ky, b) => intOp op kx a ky b k
    | some (.str, a), some (.str, b) => strOp op a b k
    | some (.bool, a), some (.bool, b) => match tinfo C t with
      | some ti => match ti.under with | .bool => boolOp op a b k | _ => .fail
      | none => .fail
    | _, _ => .fail
  | .unOp op _ x =>
    match op, asSx (ev C T x) with
    | .neg, some (.int kx, a) => k (.sy (.int kx) (.bin .sub kx (.lit 0) a))
    | .xor, some (.int kx, a) => k (.sy (.int kx) (.bin .xor kx (.lit (cond kx.signed (-1) kx.max)) a))
    | .not, some (.bool, a) => k (.sy .bool (.not a))
    | _, _ => .fail
  | .convert src dst x =>
    match tinfo C src, tinfo C dst, asSx (ev C T x) with
    | some _, some td, some (t, a) => match td.under, t with
      | .int kd, .int _ => k (.sy (.int kd) (.conv kd a))
      | .string, .str => k (.sy .str a)
      | _, _ => .fail
    | _, _, _ => .fail
  | .index t x i =>
    match tinfo C t, asSx (ev C T x), asSx (ev C T i) with
    | some ti, some (.str, a), some (.int _, b) => match ti.under with
      | .string => .sel (.cmp .lss b (.lit 0)) .fail (.sel (.cmp .lss b (.len a)) (k (.sy (.int .u8) (.at_ a b))) .fail)
      | _ => .fail
    | _, _, _ => .fail
  | .call { callee := .builtin .len, args, argTypes } => match args.toList, argTypes.toList with
    | [x], [t] => match tinfo C t, asSx (ev C T x) with
      | some ti, some (.str, a) => match ti.under with
        | .string => k (.sy (.int .i64) (.len a))
        | _ => .fail
      | _, _ => .fail
    | _, _ => .fail
  | .slice t x lo hi none =>
    match tinfo C t, asSx (ev C T x), asSx ((lo.map (ev C T)).getD (.sc (.int .i64 0))), hi.map fun h => asSx (ev C T h) with
    | some ti, some (.str, a), some (.int _, l), h => match ti.under with
      | .string => match h with
        | none => .sel (.cmp .lss l (.lit 0)) .fail (.sel (.cmp .leq l (.len a)) (k (.sy .str (.sub a l (.len a)))) .fail)
        | some (some (.int _, h)) => .sel (.cmp .lss l (.lit 0)) .fail (.sel (.cmp .leq l h) (.sel (.cmp .leq h (.len a)) (k (.sy .str (.sub a l h))) .fail) .fail)
        | _ => .fail
      | _ => .fail
    | _, _, _, _ => .fail
  | _ => .fail

def genOp (o : Oper) (T : Look) (k : AV → Out) : Out :=
  match mapO (fun x => toVal (ev C T x)) o.op.operands.toList with
  | none => symOp C o T k
  | some _ =>
    match pureRun C.P (execOp (fun x => (toVal (ev C T x)).getD undef) o) with
    | some (.value v) => k (ofRes v)
    | _ => .fail

/-- The kinds of operations that 'genOp' takes. -/
def genOk : Op → Bool
  | .binOp .. | .unOp .. | .convert .. | .field .. | .index .. | .makeInterface .. | .extract .. | .slice .. | .nilCheck _ => true
  | .call { callee := .builtin b, .. } => match b with | .len | .cap | .min | .max => true | _ => false
  | _ => false

def intOf? : AV → Option Int
  | .tc (.sc (.int _ n)) => some n
  | _ => none

/-- 'x == nil', x being no scalar. -/
def eqNil (t : TypeDesc) (x y : AV) (k : Bool → Out) : Out :=
  match t, x, y with
  | .slice _, .slice _ _ _ len _ _ _, .tc (.sc (.slice none _ _)) => match len with | 0 => .fail | _ + 1 => k false
  | .slice _, .tc (.sl _ el), .tc (.sc (.slice none _ _)) => match el with | [] => .fail | _ :: _ => k false
  | .map _ _, .map _, .tc (.sc (.map none)) => k false
  | .func _ _ _, .func _ _ _, .tc (.sc .nilFunc) => k false
  | .pointer _, .ptr .., .tc (.sc (.pointer none)) => k false
  | _, _, _ => .fail

def loadA (H : Heap) (t : TI) (a : AV) (k : AV → Out) : Out :=
  match a with
  | .ptr o s i f ver =>
    match H[o]? with
    | some (.tcells s' el) =>
      cond (decide (s' = s) && decide (ver = el.length)) (match el[i]? with
        | none => .fail
        | some row => match t.agg with
          | true => match span row f t.size with | some r => k (.agg (tcs r)) | none => .fail
          | false => match row[f]? with | some c => k (.tc c) | none => .fail) .fail
    | some (.cells s' el) =>
      cond (decide (s' = s) && decide (ver = el.length)) (match el[i]? with
        | none => .fail
        | some row => match t.agg with
          | true => match span row f t.size with | some r => k (.agg r) | none => .fail
          | false => match row[f]? with | some c => k c | none => .fail) .fail
    | _ => .fail
  | .vptr _ el i f =>
    match el[i]? with
    | none => .fail
    | some row => match t.agg with
      | true => match span row f t.size with | some r => k (.agg (tcs r)) | none => .fail
      | false => match row[f]? with | some c => k (.tc c) | none => .fail
  | _ => .fail

/-- A slice's place 'idx', or an array's. -/
def indexA (t : TI) (e : Option TI) (x : AV) (idx : AV) (k : AV → Out) : Out :=
  match t.under, e with
  | .slice _, some et =>
    match x with
    | .slice o s i len _ _ ver => withIdx idx len fun n => cond (decide (0 ≤ n) && decide (n < len) && decide (et.size = s)) (k (.ptr o s (i + n.toNat) 0 ver)) .fail
    | .tc (.sl s el) => withIdx idx el.length fun n => cond (decide (0 ≤ n) && decide (n < el.length) && decide (et.size = s)) (k (.vptr s el n.toNat 0)) .fail
    | _ => .fail
  | .array len _, some et =>
    match x with
    | .ptr o s i f ver => withIdx idx len fun n => cond (decide (0 ≤ n) && decide (n < len)) (k (.ptr o s i (f + n.toNat * et.size) ver)) .fail
    | .vptr s el i f => withIdx idx len fun n => cond (decide (0 ≤ n) && decide (n < len)) (k (.vptr s el i (f + n.toNat * et.size))) .fail
    | _ => .fail
  | _, _ => .fail

def fieldAddrA (t : TI) (x : AV) (fd : Nat) (k : AV → Out) : Out :=
  match t.under with
  | .struct fs => match fs[fd]? with
    | some fl =>
      match tinfo C fl.type with
      | some ft => cond (decide (ft.size ≠ 0)) (match x with
        | .ptr o s i f ver => k (.ptr o s i (f + fl.offset) ver)
        | .vptr s el i f => k (.vptr s el i (f + fl.offset))
        | _ => .fail) .fail
      | none => .fail
    | none => .fail
  | _ => .fail

/-- A part of a struct or an array that is held as a value. -/
def partA (t : TI) (cs : List AV) (off : Nat) (k : AV → Out) : Out :=
  match t.agg with
  | true => match span cs off t.size with | some r => k (.agg r) | none => .fail
  | false => match cs[off]? with | some c => k c | none => .fail

def fieldA (t : TI) (x : AV) (fd : Nat) (k : AV → Out) : Out :=
  match t.under, x with
  | .struct fs, .agg cs => match fs[fd]? with
    | some fl => match tinfo C fl.type with
      | some ft => partA ft cs fl.offset k
      | none => .fail
    | none => .fail
  | _, _ => .fail

def boundA (d : Int) (x : Option AV) (k : Int → Out) : Out :=
  match x with
  | none => k d
  | some a => match intOf? a with | some n => k n | none => .fail

def sliceA (t et : TI) (x : AV) (lo hi mx : Option AV) (k : AV → Out) : Out :=
  match t.under, x with
  | .slice _, .slice o s i len cap ex ver =>
    match mx with
    | none =>
      boundA (len : Int) hi fun h => boundA 0 lo fun l =>
        cond (decide (0 ≤ l) && decide (l ≤ h) && decide (h ≤ cap) && decide (et.size = s)) (k (.slice o s (i + l.toNat) (h.toNat - l.toNat) (cap - l.toNat) ex ver)) .fail
    | some m => match hi with
      | none => .fail
      | some hv => boundA 0 (some m) fun m => boundA 0 (some hv) fun h => boundA 0 lo fun l =>
        cond (decide (0 ≤ l) && decide (l ≤ h) && decide (h ≤ m) && decide (m ≤ cap) && decide (et.size = s)) (k (.slice o s (i + l.toNat) (h.toNat - l.toNat) (m.toNat - l.toNat) true ver)) .fail
  | .slice _, .tc (.sl s el) =>
    match mx with
    | none =>
      boundA (el.length : Int) hi fun h => boundA 0 lo fun l =>
        cond (decide (0 ≤ l) && decide (l ≤ h) && decide (h ≤ el.length) && decide (et.size = s)) (k (.tc (.sl s ((el.take h.toNat).drop l.toNat)))) .fail
    | some _ => .fail
  | _, _ => .fail

def lenA (x : AV) (k : AV → Out) : Out :=
  match x with
  | .slice _ _ _ len _ _ _ => k (.sc (.int .i64 len))
  | .tc (.sl _ el) => k (.sc (.int .i64 el.length))
  | _ => .fail

def capA (x : AV) (k : AV → Out) : Out :=
  match x with
  | .slice _ _ _ _ cap true _ => k (.sc (.int .i64 cap))
  | _ => .fail

/-! ### '==' of structs, some of whose fields are known by an expression -/
def eqCell (t : TypeId) (x y : AV) : Option Sx :=
  match tinfo C t, asSx x, asSx y with
  | some ti, some (.int k, a), some (.int k', b) => match ti.under with
    | .int _ => match decide (k = k') with | true => some (mkCmp .eql a b) | false => none
    | _ => none
  | some ti, some (.bool, a), some (.bool, b) => match ti.under with | .bool => some (.eqb a b) | _ => none
  | some ti, some (.str, a), some (.str, b) => match ti.under with | .string => some (.cmps .eql a b) | _ => none
  | _, _, _ => none

def eqFieldsA (xs ys : List AV) : List Field → Option Sx
  | [] => some (.lb true)
  | f :: r => match decide (f.name = "_") with
    | true => none
    | false => match xs[f.offset]?, ys[f.offset]? with
      | some x, some y => match eqCell C f.type x y, eqFieldsA xs ys r with
        | some a, some b => some (.and a b)
        | _, _ => none
      | _, _ => none

def aggEq (t : TypeId) (x y : AV) : Option Sx :=
  match x, y with
  | .agg xs, .agg ys => match C.P.underlying t with
    | some (.struct fs) => match !C.P.stoodInHeld t && !C.P.eqGuardType C.P.depth t with
      | true => eqFieldsA C xs ys fs.toList
      | false => none
    | _ => none
  | _, _ => none

/-- A test of known numbers. -/
def constB : Sx → Option Bool
  | .lb b => some b
  | .and a b => match constB a, constB b with
    | some x, some y => some (x && y)
    | _, _ => none
  | .cmp .eql (.lit a) (.lit b) => some (a == b)
  | .eqb (.lb a) (.lb b) => some (a == b)
  | .cmps .eql (.ls a) (.ls b) => some (decide (a.data.toList = b.data.toList))
  | _ => none

def aggOp (op : BinOp) (e : Sx) (k : AV → Out) : Out :=
  match constB e with
  | some b => match op with
    | .eql => k (.sc (.bool b))
    | .neq => k (.sc (.bool (!b)))
    | _ => .fail
  | none => match op with
    | .eql => k (.sy .bool e)
    | .neq => k (.sy .bool (.not e))
    | _ => .fail

/-! ### a string of bytes -/
def byteT : List TC → Option UInt8
  | [.sc (.int .u8 n)] => cond (decide (0 ≤ n) && decide (n < 256)) (some n.toNat.toUInt8) none
  | _ => none

def bytesOf (H : Heap) (x : AV) : Option (List UInt8) :=
  match x with
  | .tc (.sl s el) => cond (decide (s = 1)) (mapO byteT el) none
  | .slice o s i len _ _ ver =>
    match H[o]? with
    | some (.tcells s' el) => cond (decide (s = 1) && decide (s' = 1) && decide (ver = el.length) && decide (i + len ≤ el.length)) (mapO byteT ((el.drop i).take len)) none
    | _ => none
  | _ => none

def isStr : TypeDesc → Bool
  | .string => true
  | _ => false

def isU8 : TypeDesc → Bool
  | .int .u8 => true
  | _ => false

def bytesStr (H : Heap) (src dst : TypeId) (x : AV) (k : AV → Out) : Out :=
  match tinfo C src, tinfo C dst with
  | some ts, some td => match ts.under with
    | .slice e => match tinfo C e with
      | some te => cond (isU8 te.under && isStr td.under) (match bytesOf H x with
        | some l => k (.sc (.string ⟨l.toArray⟩))
        | none => .fail) .fail
      | none => .fail
    | _ => .fail
  | _, _ => .fail

/-! ### quiet operations: they leave memory alone -/
def qop (o : Oper) (T : Look) (H : Heap) (k : AV → Out) : Out :=
  match o.op with
  | .move x => k (ev C T x)
  | .assign x => k (ev C T x)
  | .pick c a b => condA (ev C T c) (k (ev C T a)) (k (ev C T b))
  | .load t x => match tinfo C t with
    | some t => loadA H t (ev C T x) k
    | none => .fail
  | .nilCheck x => match ev C T x with
    | .ptr o s i f ver => k (.ptr o s i f ver)
    | .vptr s el i f => k (.vptr s el i f)
    | .func fn first cap => match fn with | .func _ => k (.func fn first cap) | _ => .fail
    | .tc (.sc v) => match v with
      | .func fn first cap => match fn with | .func _ => k (.tc (.sc (.func fn first cap))) | _ => .fail
      | _ => .fail
    | _ => .fail
  | .fieldAddr t x fd => match tinfo C t with
    | some t => fieldAddrA C t (ev C T x) fd k
    | none => .fail
  | .field t x fd => match tinfo C t with
    | some t => fieldA C t (ev C T x) fd k
    | none => .fail
  | .indexAddr t x i => match tinfo C t with
    | some ti => match ti.under with
      | .slice e => indexA ti (tinfo C e) (ev C T x) (ev C T i) k
      | .array _ e => indexA ti (tinfo C e) (ev C T x) (ev C T i) k
      | _ => .fail
    | none => .fail
  | .slice t x lo hi mx => match ev C T x with
    | .tc (.sc _) => genOp C o T k
    | .tc (.sy _ _) => symOp C o T k
    | x => match tinfo C t with
      | some ti => match ti.under with
        | .slice e => match tinfo C e with
          | some et => sliceA ti et x (lo.map (ev C T)) (hi.map (ev C T)) (mx.map (ev C T)) k
          | none => .fail
        | _ => .fail
      | none => .fail
  | .convert src dst x => match ev C T x with
    | .tc (.sc _) => genOp C o T k
    | .tc (.sy _ _) => symOp C o T k
    | v => bytesStr C H src dst v k
  | .extract x i => match ev C T x with
    | .tuple vs => match vs[i]? with | some v => k v | none => .fail
    | _ => .fail
  | .makeFunc fn first cap => k (.func fn (first.toList.map (ev C T)) (cap.toList.map (ev C T)))
  | .call { callee := .builtin .len, args, argTypes } => match args.toList with
    | [x] => match ev C T x with
      | .tc (.sc _) => genOp C o T k
      | .tc (.sy _ _) => symOp C o T k
      | v => match argTypes.toList with
        | [t] => match tinfo C t with
          | some ti => match ti.under with | .slice _ => lenA v k | _ => .fail
          | none => .fail
        | _ => .fail
    | _ => .fail
  | .call { callee := .builtin .cap, args, argTypes } => match args.toList with
    | [x] => match ev C T x with
      | .tc (.sc _) => genOp C o T k
      | .tc (.sy _ _) => symOp C o T k
      | v => match argTypes.toList with
        | [t] => match tinfo C t with
          | some ti => match ti.under with | .slice _ => capA v k | _ => .fail
          | none => .fail
        | _ => .fail
    | _ => .fail
  | .binOp op t x y _ =>
    match aggEq C t (ev C T x) (ev C T y) with
    | some e => aggOp op e k
    | none => match toVal (ev C T x), toVal (ev C T y) with
    | some _, some _ => genOp C o T k
    | _, _ => match asSx (ev C T x), asSx (ev C T y) with
     | some _, some _ => symOp C o T k
     | _, _ => match op, tinfo C t with
      | .eql, some ti => eqNil ti.under (ev C T x) (ev C T y) (fun b => k (.sc (.bool b)))
      | .neq, some ti => eqNil ti.under (ev C T x) (ev C T y) (fun b => k (.sc (.bool (!b))))
      | _, _ => .fail
  | op => cond (genOk op) (genOp C o T k) .fail

/-! ### trees out of memory -/
def fz (H : Heap) : Nat → AV → Option TC
  | _, .tc c => some c
  | n + 1, .slice o s i len _ _ ver =>
    match H[o]? with
    | some (.tcells s' el) =>
      if s' = s ∧ ver = el.length ∧ i + len ≤ el.length then some (.sl s (if i = 0 ∧ len = el.length then el else (el.drop i).take len)) else none
    | some (.cells s' el) =>
      if s' = s ∧ ver = el.length ∧ i + len ≤ el.length then
        (mapO (fun row => mapO (fun c => fz H n c) row) ((el.drop i).take len)).map fun e => .sl s e
      else none
    | _ => none
  | _, _ => none

/-- A value as a tree. -/
def fzA (H : Heap) : AV → Option AV
  | .agg cs => (mapO (fz H 8) cs).map fun l => .agg (tcs l)
  | .tuple _ => none
  | .any => some .any
  | .vptr s el i f => some (.vptr s el i f)
  | v => (fz H 8 v).map .tc

def fzR (H : Heap) : AV → Option AV
  | .tuple vs => (mapO (fzA H) vs).map .tuple
  | v => fzA H v

/-! ### operations that make memory, or write -/

def zeroCellsA (t : TI) : Option (List TC) := t.zero.map fun v => v.cells.toList.map .sc

def fillA : (Nat → Option (Nat × Nat)) → List AV → List (Nat × AV) → Option (List AV)
  | _, cs, [] => some cs
  | place, cs, (i, v) :: rest =>
    match place i, cellsOfA v with
    | some (off, size), some vc => if vc.length = size ∧ off + size ≤ cs.length then fillA place (setSpan cs off vc) rest else none
    | _, _ => none

def buildA (t : TI) (parts : List (Nat × AV)) (k : AV → Out) : Out :=
  match zeroCellsA t, t.under with
  | some z, .struct fs =>
    cond (fs.toList.all fun f => (tinfo C f.type).isSome) (match fillA (fun i => (fs[i]?).bind fun f => (tinfo C f.type).map fun ft => (f.offset, ft.size)) (tcs z) parts with
    | some cs => k (.agg cs)
    | none => .fail) .fail
  | some z, .array _ e =>
    match tinfo C e with
    | some et => match fillA (fun i => some (i * et.size, et.size)) (tcs z) parts with
      | some cs => k (.agg cs)
      | none => .fail
    | none => .fail
  | _, _ => .fail

/-- Rows of a new slice: zero, but for its parts. -/
def fillRows : List (List AV) → List (Nat × AV) → Option (List (List AV))
  | rows, [] => some rows
  | rows, (i, v) :: rest =>
    match rows[i]?, cellsOfA v with
    | some r, some vc => if vc.length = r.length ∧ vc.all cellOk = true then fillRows (rows.set i vc) rest else none
    | _, _ => none

def buildSliceA (t : TI) (len : Nat) (parts : List (Nat × AV)) (H : Heap) (k : AV → Heap → Out) : Out :=
  match t.under with
  | .slice e => match tinfo C e with
    | some et => match zeroCellsA et with
      | some z => cond (decide (len * et.size ≤ 2 ^ 24) && decide (et.size ≠ 0) && decide (z.length = et.size) && (tcs z).all cellOk) (match fillRows (List.replicate len (tcs z)) parts with
        | some rows => k (.slice H.length et.size 0 len len true len) (H ++ [newCells et.size rows])
        | none => .fail) .fail
      | none => .fail
    | none => .fail
  | _ => .fail

def allocA (t : TI) (cs : List AV) (H : Heap) (k : AV → Heap → Out) : Out :=
  cond (decide (cs.length = t.size) && decide (t.size ≠ 0) && cs.all cellOk) (k (.ptr H.length t.size 0 0 1) (H ++ [newCells t.size [cs]])) .fail

def storeA (t : TI) (a v : AV) (H : Heap) (k : Heap → Out) : Out :=
  match a, cellsOfA v with
  | .ptr o s i f ver, some cs =>
    match H[o]? with
    | some (.tcells s' el) =>
      cond (decide (s' = s) && decide (ver = el.length) && decide (cs.length = t.size) && cs.all cellOk) (match el[i]? with
        | none => .fail
        | some row => cond (decide (f + cs.length ≤ row.length)) (match asTC cs with
          | some c => k (H.set o (.tcells s (el.set i (setSpan row f c))))
          | none => k (H.set o (.cells s ((el.map tcs).set i (setSpan (tcs row) f cs))))) .fail) .fail
    | some (.cells s' el) =>
      cond (decide (s' = s) && decide (ver = el.length) && decide (cs.length = t.size) && cs.all cellOk) (match el[i]? with
        | none => .fail
        | some row => cond (decide (f + cs.length ≤ row.length)) (k (H.set o (.cells s (el.set i (setSpan row f cs))))) .fail) .fail
    | _ => .fail
  | _, _ => .fail

def makeSliceA (t : TI) (len cap : AV) (H : Heap) (k : AV → Heap → Out) : Out :=
  match t.under, intOf? len, intOf? cap with
  | .slice e, some l, some c => match tinfo C e with
    | some et => match zeroCellsA et with
      | some z => cond (decide (0 ≤ l) && decide (l ≤ c) && decide (et.bytes * c ≤ 2 ^ 48) && decide (c < 2 ^ 63) && decide (et.size ≠ 0) && decide (z.length = et.size) && (tcs z).all cellOk)
          (k (.slice H.length et.size 0 l.toNat c.toNat true c.toNat) (H ++ [.tcells et.size (List.replicate c.toNat z)])) .fail
      | none => .fail
    | none => .fail
  | _, _, _ => .fail

/-- The rows that are appended. -/
def srcRows (H : Heap) (et : TI) (zeros : Bool) (z : List TC) (x : AV) (k : List (List AV) → Out) : Out :=
  match zeros with
  | true => match intOf? x with
    | some n => cond (decide (0 ≤ n) && decide (n < 2 ^ 40) && decide (n * et.bytes ≤ 2 ^ 48) && decide (z.length = et.size) && (tcs z).all cellOk) (k (List.replicate n.toNat (tcs z))) .fail
    | none => .fail
  | false => match x with
    | .tc (.sc (.slice none 0 _)) => k []
    | .tc (.sl s' el) => cond (decide (s' = et.size)) (k (el.map tcs)) .fail
    | .slice o s' i len _ _ ver =>
      match H[o]? with
      | some (.tcells s2 el) => cond (decide (s' = et.size) && decide (s2 = et.size) && decide (ver = el.length) && decide (i + len ≤ el.length)) (k (((el.drop i).take len).map tcs)) .fail
      | some (.cells s2 el) => cond (decide (s' = et.size) && decide (s2 = et.size) && decide (ver = el.length) && decide (i + len ≤ el.length)) (k ((el.drop i).take len)) .fail
      | _ => .fail
    | _ => .fail

def rowsOf : AObj → Option (List (List AV))
  | .tcells _ el => some (el.map tcs)
  | .cells _ el => some el
  | _ => none

def sizeOfObj : AObj → Nat
  | .tcells s _ => s
  | .cells s _ => s
  | _ => 0

def joinRows (o : AObj) (rows : List (List AV)) : AObj :=
  match o, mapO asTC rows with
  | .tcells s el, some t => .tcells s (el ++ t)
  | .tcells s el, none => .cells s (el.map tcs ++ rows)
  | .cells s el, _ => .cells s (el ++ rows)
  | o, _ => o

def overRows (o : AObj) (at_ : Nat) (rows : List (List AV)) : AObj :=
  match o, mapO asTC rows with
  | .tcells s el, some t => .tcells s (setSpan el at_ t)
  | .tcells s el, none => .cells s (setSpan (el.map tcs) at_ rows)
  | .cells s el, _ => .cells s (setSpan el at_ rows)
  | o, _ => o

def cutObj (o : AObj) (i len : Nat) : AObj :=
  match o with
  | .tcells s el => .tcells s ((el.drop i).take len)
  | .cells s el => .cells s ((el.drop i).take len)
  | o => o

def appendA (et : TI) (s : AV) (rows : List (List AV)) (H : Heap) (k : AV → Heap → Out) : Out :=
  match s with
  | .tc (.sc (.slice none 0 0)) =>
    match rows with
    | [] => k (.tc (.sc (.slice none 0 0))) H
    | _ => cond (decide ((2 * rows.length + 1000) * et.bytes ≤ 2 ^ 48) && decide (rows.length < 2 ^ 60) && decide (et.size ≠ 0)) (k (.slice H.length et.size 0 rows.length rows.length false rows.length) (H ++ [newCells et.size rows])) .fail
  | .slice o s i len cap ex ver =>
    match H[o]? with
    | some obj =>
      cond (decide (sizeOfObj obj = s) && decide (et.size = s) && decide (s ≠ 0) && decide (ver = obj.len) && decide (i + len ≤ obj.len) && decide ((2 * (len + rows.length) + 1000) * et.bytes ≤ 2 ^ 48) && decide (len + rows.length < 2 ^ 60))
        (cond (decide (len + rows.length ≤ cap) && decide (i + len + rows.length ≤ obj.len))
          (k (.slice o s i (len + rows.length) cap ex ver) (H.set o (overRows obj (i + len) rows)))
          (cond (ex && decide (cap < len + rows.length))
            (k (.slice H.length s 0 (len + rows.length) (len + rows.length) false (len + rows.length)) (H ++ [joinRows (cutObj obj i len) rows]))
            (cond (!ex && decide (i = 0) && decide (len = obj.len))
              (k (.slice o s 0 (len + rows.length) (len + rows.length) false (len + rows.length)) (H.set o (joinRows obj rows)))
              .fail))) .fail
    | none => .fail
  | _ => .fail

def keyEq : Value → Value → Option Bool
  | .int k a, .int k' b => if k = k' then some (a == b) else none
  | .string a, .string b => some (a == b)
  | .bool a, .bool b => some (a == b)
  | _, _ => none

def findA (key : Value) : List (Value × AV) → Nat → (Option (Nat × AV) → Out) → Out
  | [], _, k => k none
  | (q, v) :: r, i, k => match keyEq key q with
    | some b => cond b (k (some (i, v))) (findA key r (i + 1) k)
    | none => .fail

def scalarKey : TypeDesc → Value → Bool
  | .int k, .int j _ => decide (k = j)
  | .string, .string _ => true
  | .bool, .bool _ => true
  | _, _ => false

def lookDone (ok : Bool) (z : Value) (k : AV → Out) : Option (Nat × AV) → Out
  | some (_, v) => match ok with | true => k (.tuple [v, .sc (.bool true)]) | false => k v
  | none => match ok with | true => k (.tuple [ofVal z, .sc (.bool false)]) | false => k (ofVal z)

def lookIn (m : AV) (H : Heap) (kv : Value) (done : Option (Nat × AV) → Out) : Out :=
  match m with
  | .tc (.sc (.map none)) => done none
  | .map o => match H[o]? with
    | some (.map es) => findA kv es 0 done
    | _ => .fail
  | _ => .fail

def lookupA (t : TI) (m key : AV) (ok : Bool) (H : Heap) (k : AV → Out) : Out :=
  match t.under, key with
  | .map kt et, .tc (.sc kv) =>
    match tinfo C kt, tinfo C et with
    | some kti, some eti =>
      cond (scalarKey kti.under kv) (match eti.zero with
        | some z => lookIn m H kv (lookDone ok z k)
        | none => .fail) .fail
    | _, _ => .fail
  | _, _ => .fail

def mapUpdateA (t : TI) (m key v : AV) (H : Heap) (k : Heap → Out) : Out :=
  match t.under, key, m with
  | .map kt _, .tc (.sc kv), .map o =>
    match tinfo C kt, H[o]? with
    | some kti, some (.map es) =>
      cond (scalarKey kti.under kv) (findA kv es 0 fun
        | some (i, _) => k (H.set o (.map (es.set i (kv, v))))
        | none => k (H.set o (.map (es ++ [(kv, v)])))) .fail
    | _, _ => .fail
  | _, _, _ => .fail

/-- The function that is called, with its arguments. -/
def target (f : AV) (args : List AV) : Option (FuncId × List AV) :=
  match f with
  | .tc (.sc (.func (.func g) first cap)) => some (g, scs first.toList ++ args ++ scs cap.toList)
  | .func (.func g) first cap => some (g, first ++ args ++ cap)
  | _ => none

/-- May the function be entered? -/
def entered (fn : Func) : Bool := fn.body.isSome && !(fn.name == "runtime.NumGoroutine")

/-- The library's search for a byte in a string, which has no body. -/
def isIdx (fn : Func) : Bool := fn.body.isNone && (fn.name == "internal/bytealg.IndexByteString") && (fn.origin == "")

def idxB : List UInt8 → UInt8 → Nat → Int
  | [], _, _ => -1
  | b :: l, c, n => cond (b == c) n (idxB l c (n + 1))

def externA (as : List AV) (k : AV → Out) : Out :=
  match as with
  | [x, y] => match asSx x, asSx y with
    | some (.str, .ls s), some (.int .u8, .lit n) => k (.sc (.int .i64 (idxB s.data.toList n.toNat.toUInt8 0)))
    | some (.str, a), some (.int .u8, b) => k (.sy (.int .i64) (.idx a b))
    | _, _ => .fail
  | _ => .fail

abbrev Caller := FuncId → List AV → Heap → (AV → Heap → Out) → Out

/-- A call that is told of trees, and tells trees. -/
def callPure (call : Caller) (f : FuncId) (args : List AV) (k : AV → Out) : Out :=
  call f args [] fun r H => match fzR H r with | some t => k t | none => .fail

/-- What a call of trees comes to: told by a summary, or found by a run. -/
def callT (call : Caller) (f : FuncId) (args : List AV) (k : AV → Out) : Out :=
  match C.summ f with
  | some g => match g args with | some r => k r | none => callPure call f args k
  | none => callPure call f args k

/-- Is a value made of scalars alone? -/
def flatA : AV → Bool
  | .tc (.sc _) => true
  | .tc (.sy _ _) => true
  | .agg cs => flatAs cs
  | .tuple cs => flatAs cs
  | _ => false
where
  flatAs : List AV → Bool
  | [] => true
  | a :: r => flatA a && flatAs r

def isTC : AV → Bool
  | .tc _ => true
  | _ => false

/-- Does a value lead to no object? -/
def isTree : AV → Bool
  | .tc _ => true
  | .any => true
  | .vptr .. => true
  | .agg cs => cs.all isTC
  | _ => false

def callA (call : Caller) (f : FuncId) (args : List AV) (H : Heap) (k : AV → Heap → Out) : Out :=
  match C.pure f with
  | true => match args.all isTree with
    | true => callT C call f args fun r => k r H
    | false => cond (C.flat f) (match mapO (fzA H) args with
      | some as => callT C call f as fun r => cond (flatA r) (k r H) .fail
      | none => .fail) (call f args H k)
  | false => call f args H k

def aop (call : Caller) (o : Oper) (T : Look) (H : Heap) (k : AV → Heap → Out) : Out :=
  match o.op with
  | .alloc t => match tinfo C t with
    | some ti => match zeroCellsA ti with
      | some z => allocA ti (tcs z) H k
      | none => .fail
    | none => .fail
  | .box t x => match tinfo C t, cellsOfA (ev C T x) with
    | some ti, some cs => allocA ti cs H k
    | _, _ => .fail
  | .build t parts => match tinfo C t with
    | some ti => buildA C ti (parts.toList.map fun p => (p.1, ev C T p.2)) fun v => k v H
    | none => .fail
  | .buildSlice t len parts => match tinfo C t with
    | some ti => buildSliceA C ti len (parts.toList.map fun p => (p.1, ev C T p.2)) H k
    | none => .fail
  | .store t a x => match tinfo C t with
    | some ti => storeA ti (ev C T a) (ev C T x) H fun H' => k undefA H'
    | none => .fail
  | .makeSlice t l c => match tinfo C t with
    | some ti => makeSliceA C ti (ev C T l) (ev C T c) H k
    | none => .fail
  | .makeMap _ r => match r with
    | none => k (.map H.length) (H ++ [.map []])
    | some _ => .fail
  | .lookup t x i ok => match tinfo C t with
    | some ti => lookupA C ti (ev C T x) (ev C T i) ok H fun v => k v H
    | none => .fail
  | .mapUpdate t m key x => match tinfo C t with
    | some ti => mapUpdateA C ti (ev C T m) (ev C T key) (ev C T x) H fun H' => k undefA H'
    | none => .fail
  | .insert t m key x => match tinfo C t with
    | some ti => mapUpdateA C ti (ev C T m) (ev C T key) (ev C T x) H fun H' => k undefA H'
    | none => .fail
  | .call { callee := .builtin .append, args, argTypes } =>
    match args.toList, argTypes.toList with
    | [s, x], [st, xt] => match tinfo C st, tinfo C xt with
      | some sti, some xti => match sti.under with
        | .slice e => match tinfo C e with
          | some et => match zeroCellsA et with
            | some z => cond (decide (z.length = et.size) && decide (et.size ≠ 0)) (srcRows H et (isIntD xti.under) z (ev C T x) fun rows => appendA et (ev C T s) rows H k) .fail
            | none => .fail
          | none => .fail
        | _ => .fail
      | _, _ => .fail
    | _, _ => .fail
  | .call { callee := .value f, args, .. } =>
    match target (ev C T f) (args.toList.map (ev C T)) with
    | some (g, as) => match C.P.funcs[g]? with
      | some fn => cond (entered fn) (callA C call g as H k) (cond (isIdx fn) (externA as fun v => k v H) .fail)
      | none => .fail
    | none => .fail
  | _ => qop C o T H fun v => k v H

abbrev aopF (call : Caller) (o : Oper) (T : Look) (H : Heap) (k : AV → Heap → Out) : Out := aop C call o T H k

/-- Is an operation carried out? What is tested, and the outcome that is wanted. -/
def wantedA (ops : Array Oper) (o : Oper) (T : Look) : Option (AV × Bool) :=
  match o.guard with
  | none => some (.sc (.bool true), true)
  | some (j, want) => match (ops[j]?).bind (·.dst) with
    | none => some (.sc (.bool false), true)
    | some d => match T d with
      | .tc (.sc (.bool b)) => some (.sc (.bool b), want)
      | .tc (.sy .bool e) => some (.sy .bool e, want)
      | .any => none
      | _ => some (.sc (.bool false), true)

/-- Both ways of a guard. -/
def guardA (g : AV × Bool) (yes no : Out) : Out :=
  match g with
  | (c, true) => condA c yes no
  | (c, false) => condA c no yes

/-- A short list of temporaries that one region alone uses. -/
inductive Lc where
  | nil
  | cons (t : Nat) (v : AV) (r : Lc)

def lookL : Lc → Nat → AV → AV
  | .nil, _, d => d
  | .cons t v r, n, d => cond (Nat.beq t n) v (lookL r n d)

def lk (L : Lc) (T : Tmps) : Look := fun t => lookL L t (getL T t)

/-- Is a temporary used by one region alone? -/
def isLoc (M : Nat) (d : Nat) : Bool := Nat.testBit M d

def putL {β : Type} (M : Nat) (L : Lc) (T : Tmps) (dst : Option Tmp) (v : AV) (k : Lc → Tmps → β) : β :=
  match dst with
  | none => k L T
  | some d => cond (isLoc M d) (k (.cons d v L) T) (setK T d v fun T => k L T)

def aops (call : Caller) (M : Nat) (ops : Array Oper) : List Oper → Lc → Tmps → Heap → (Tmps → Heap → Out) → Out
  | [], _, T, H, K => K T H
  | o :: r, L, T, H, K => match wantedA ops o (lk L T) with
    | none => .fail
    | some g => guardA g (aopF C call o (lk L T) H fun v H' => putL M L T o.dst v fun L T => aops call M ops r L T H' K) (putL M L T o.dst undefA fun L T => aops call M ops r L T H K)

def Sx.beq : Sx → Sx → Bool
  | .var i, .var j => decide (i = j)
  | .lit n, .lit m => decide (n = m)
  | .lb a, .lb b => a == b
  | .ls a, .ls b => decide (a.data.toList = b.data.toList)
  | .bin o k a b, .bin o' k' a' b' => decide (o = o') && decide (k = k') && Sx.beq a a' && Sx.beq b b'
  | .cmp o a b, .cmp o' a' b' => decide (o = o') && Sx.beq a a' && Sx.beq b b'
  | .cmps o a b, .cmps o' a' b' => decide (o = o') && Sx.beq a a' && Sx.beq b b'
  | .eqb a b, .eqb a' b' => Sx.beq a a' && Sx.beq b b'
  | .conv k a, .conv k' a' => decide (k = k') && Sx.beq a a'
  | .not a, .not a' => Sx.beq a a'
  | .and a b, .and a' b' => Sx.beq a a' && Sx.beq b b'
  | .len a, .len a' => Sx.beq a a'
  | .at_ a b, .at_ a' b' => Sx.beq a a' && Sx.beq b b'
  | .sub a b c, .sub a' b' c' => Sx.beq a a' && Sx.beq b b' && Sx.beq c c'
  | .cat a b, .cat a' b' => Sx.beq a a' && Sx.beq b b'
  | .idx a b, .idx a' b' => Sx.beq a a' && Sx.beq b b'
  | .app f a, .app f' a' => decide (f = f') && Sx.beq a a'
  | .nil, .nil => true
  | .arg t a b, .arg t' a' b' => decide (t = t') && Sx.beq a a' && Sx.beq b b'
  | _, _ => false

def sameV : Value → Value → Bool
  | .int k n, .int k' n' => decide (k = k') && decide (n = n')
  | .bool a, .bool b => a == b
  | .string a, .string b => decide (a.data.toList = b.data.toList)
  | .slice none a b, .slice none a' b' => decide (a = a') && decide (b = b')
  | .pointer none, .pointer none => true
  | .map none, .map none => true
  | .nilFunc, .nilFunc => true
  | _, _ => false

mutual
def sameT : TC → TC → Bool
  | .sc v, .sc u => sameV v u
  | .sy t e, .sy t' e' => decide (t = t') && Sx.beq e e'
  | .sl s el, .sl s' el' => decide (s = s') && sameE el el'
  | _, _ => false
def sameR : List TC → List TC → Bool
  | [], [] => true
  | a :: r, b :: q => sameT a b && sameR r q
  | _, _ => false
def sameE : List (List TC) → List (List TC) → Bool
  | [], [] => true
  | a :: r, b :: q => sameR a b && sameE r q
  | _, _ => false
end

mutual
/-- The same abstract value? -/
def sameA : AV → AV → Bool
  | .tc a, .tc b => sameT a b
  | .agg a, .agg b => sameAs a b
  | .tuple a, .tuple b => sameAs a b
  | .ptr o s i f v, .ptr o' s' i' f' v' => decide (o = o') && decide (s = s') && decide (i = i') && decide (f = f') && decide (v = v')
  | .slice o s i l c x v, .slice o' s' i' l' c' x' v' => decide (o = o') && decide (s = s') && decide (i = i') && decide (l = l') && decide (c = c') && (x == x') && decide (v = v')
  | .map o, .map o' => decide (o = o')
  | _, _ => false
def sameAs : List AV → List AV → Bool
  | [], [] => true
  | a :: r, b :: q => sameA a b && sameAs r q
  | _, _ => false
end

/-- A new slice that nobody will write: a tree. -/
def buildTreeA (t : TI) (len : Nat) (parts : List (Nat × AV)) (k : AV → Out) : Out :=
  match t.under with
  | .slice e => match tinfo C e with
    | some et => match zeroCellsA et with
      | some z => cond (decide (len * et.size ≤ 2 ^ 24) && decide (et.size ≠ 0) && decide (z.length = et.size) && (tcs z).all cellOk) (match fillRows (List.replicate len (tcs z)) parts with
        | some rows => match mapO asTC rows with
          | some l => k (.tc (.sl et.size l))
          | none => .fail
        | none => .fail) .fail
      | none => .fail
    | none => .fail
  | _ => .fail

/-- Is an operation quiet: does it leave the memory that is known as it is? -/
def quietO (o : Oper) (T : Look) : Bool :=
  match o.op with
  | .alloc _ => false
  | .box .. => false
  | .store .. => false
  | .makeSlice .. => false
  | .makeMap .. => false
  | .mapUpdate .. => false
  | .insert .. => false
  | .call { callee := .builtin .append, .. } => false
  | .call { callee := .value f, args, .. } => match target (ev C T f) (args.toList.map (ev C T)) with
    | some (g, as) => C.pure g && as.all isTree
    | none => false
  | _ => true

/-- A quiet operation. -/
def aopQ (call : Caller) (o : Oper) (T : Look) (H : Heap) (k : AV → Out) : Out :=
  match o.op with
  | .buildSlice t len parts => match tinfo C t with
    | some ti => buildTreeA C ti len (parts.toList.map fun p => (p.1, ev C T p.2)) k
    | none => .fail
  | _ => aop C call o T H fun v _ => k v

/-- Does an operation read memory? -/
def readsO (o : Oper) : Bool :=
  match o.op with
  | .load .. => true
  | .lookup .. => true
  | .convert .. => true
  | _ => false

/-- What became of an operation: it was not carried out; it was quiet; it turned memory, so many being ahead. -/
inductive Kd where
  | no | quiet | loud (p : Nat)

/-- Operations of a region that draws its order, in the text's order; the memories that there were. -/
def runD (call : Caller) (ops : Array Oper) : List Oper → Tmps → Heap → List Kd → List Heap → (Tmps → List Kd → List Heap → Out) → Out
  | [], T, H, ks, hs, K => K T ks (H :: hs)
  | o :: r, T, H, ks, hs, K => match wantedA ops o (getL T) with
    | none => .fail
    | some g => guardA g
      (cond (quietO C o (getL T)) (aopQ C call o (getL T) H fun v => putK T o.dst v fun T => runD call ops r T H (.quiet :: ks) hs K)
        (aop C call o (getL T) H fun v H' => putK T o.dst v fun T => runD call ops r T H' (.loud hs.length :: ks) (H :: hs) K))
      (putK T o.dst undefA fun T => runD call ops r T H (.no :: ks) hs K)

/-- What an operation waits for. -/
def preds (o : Oper) : List Nat := o.after.toList.filterMap fun e => cond (Region.binds .any e) (some e.on) none

def dstIn (o : Oper) (l : List Tmp) : Bool := match o.dst with | some d => l.contains d | none => false

/-- May an operation stand at place i behind, or ahead of, another one? -/
def okPair (ops : Array Oper) (i : Nat) (o : Oper) (j : Nat) (p : Oper) : Bool :=
  (!dstIn p (o.looksAt ops) || (!decide (i = j) && (preds o).contains j) || (!readsO o && !decide (i = j) && (preds p).contains i)) && (decide (i = j) || match o.dst, p.dst with | some d, some e => !decide (d = e) | _, _ => true)

/-- Whatever an operation looks at was reckoned by one that it waits for; what it waits for stands ahead of it. -/
def okOps (ops : Array Oper) : Bool :=
  Region.noSelect ops && ops.toList.zipIdx.all fun (o, i) => (preds o).all (fun j => decide (j < i)) && ops.toList.zipIdx.all fun (p, j) => okPair ops i o j p

/-- All that an operation waits for, in the end: as bits. -/
def maskOf (ms : List Nat) (l : List Nat) : Nat := l.foldl (fun s j => Nat.lor s (Nat.lor (2 ^ j) (ms.getD j 0))) 0

def masks : List Oper → List Nat → List Nat
  | [], ms => ms
  | o :: r, ms => masks r (ms ++ [maskOf ms (preds o)])

/-- The operations that turned memory wait one for the other. -/
def chainD (ms : List Nat) (ks : List Kd) : Bool :=
  (ms.zip ks).all fun (m, k) => match k with
    | .loud (p + 1) => ks.zipIdx.any fun (x : Kd × Nat) => match x.1 with | .loud q => decide (q = p) && Nat.testBit m x.2 | _ => false
    | _ => true

/-- From which memory on an operation may come up, and up to which. -/
def loD (ks : List Kd) (m : Nat) : Nat := ks.zipIdx.foldl (fun (a : Nat) (x : Kd × Nat) => match x.1 with | .loud q => cond (Nat.testBit m x.2) (max a (q + 1)) a | _ => a) 0
def hiD (ms : List Nat) (ks : List Kd) (i m : Nat) : Nat := (ms.zip ks).foldl (fun (a : Nat) (x : Nat × Kd) => match x.2 with | .loud q => cond (Nat.testBit x.1 i) (min a q) a | _ => a) m

def checkAt (call : Caller) (o : Oper) (T : Look) (v : AV) : List Heap → Out → Out
  | [], k => k
  | H :: r, k => aopQ C call o T H fun u => cond (sameA u v) (checkAt call o T v r k) .fail

def checksD (call : Caller) (ms : List Nat) (T : Tmps) (ks : List Kd) (hl : List Heap) : List (Oper × Kd) → Nat → Out → Out
  | [], _, k => k
  | (o, kd) :: r, i, k => match kd with
    | .quiet => match readsO o, o.dst with
      | true, some d => checkAt C call o (getL T) (T.getD d undefA) ((hl.take (hiD ms ks i hl.length + 1)).drop (loD ks (ms.getD i 0))) (checksD call ms T ks hl r (i + 1) k)
      | true, none => .fail
      | false, _ => checksD call ms T ks hl r (i + 1) k
    | _ => checksD call ms T ks hl r (i + 1) k

/-- A region that draws its order. -/
def aopsD (call : Caller) (M : Nat) (ops : Array Oper) (T : Tmps) (H : Heap) (K : Tmps → Heap → Out) : Out :=
  cond (okOps ops && ops.toList.all fun o => match o.dst with | some d => !isLoc M d | none => true) (runD C call ops ops.toList T H [] [] fun T' ks hs => match hs with
    | [] => .fail
    | [H'] => K T' H'
    | H' :: _ => cond (chainD (masks ops.toList []) ks.reverse) (checksD C call (masks ops.toList []) T' ks.reverse hs.reverse (ops.toList.zip ks.reverse) 0 (K T' H')) .fail) .fail

inductive AEx where
  | normal | exit (id : Nat) | goto (l : Nat) | ret

/-! ### what a loop's round forgets -/
def tmpsOf (l : List Operand) : List Tmp := l.filterMap fun | .tmp t => some t | _ => none

/-- (seen so far, written first): in the text's order. -/
def firsts : Code → List Tmp × List Tmp → List Tmp × List Tmp
  | .region _ ops _, acc => ops.toList.foldl (fun acc o =>
      let rd := tmpsOf o.op.operands.toList ++ (match o.guard with | some (j, _) => ((ops[j]?).bind (·.dst)).toList | none => [])
      let seen := rd ++ acc.1
      match o.dst with
      | some d => if seen.contains d then (seen, acc.2) else (d :: seen, d :: acc.2)
      | none => (seen, acc.2)) acc
  | .seq a b, acc => firsts b (firsts a acc)
  | .cond c a b, acc => firsts b (firsts a (tmpsOf [c] ++ acc.1, acc.2))
  | .block _ b, acc => firsts b acc
  | .loop b, acc => firsts b acc
  | .scope b, acc => firsts b acc
  | _, acc => acc

def scrubOf (nm : Array String) (body : Code) : List Tmp := (firsts body ([], [])).2.filter fun t => nm.getD t "" == ""

def scrub (l : List Tmp) (T : Tmps) : Tmps := l.foldl (fun T t => T.set t .any) T

/-- Does a value lead to no object from n on? -/
def lowA : Nat → Nat → AV → Bool
  | _, _, .tc _ => true
  | _, _, .any => true
  | _, _, .vptr .. => true
  | _, n, .ptr o .. => decide (o < n)
  | _, n, .slice o .. => decide (o < n)
  | _, n, .map o => decide (o < n)
  | d + 1, n, .agg cs => cs.all (lowA d n)
  | d + 1, n, .tuple cs => cs.all (lowA d n)
  | d + 1, n, .func _ first cap => first.all (lowA d n) && cap.all (lowA d n)
  | 0, _, _ => false

def lowObj (n : Nat) : AObj → Bool
  | .tcells .. => true
  | .cells _ el => el.all fun r => r.all (lowA 4 n)
  | .map es => es.all fun e => lowA 4 n e.2

def trunc (n : Nat) (T : Tmps) (H : Heap) : Heap :=
  if T.all (lowA 4 n) && (H.take n).all (lowObj n) then H.take n else H

def roundT (sym : Bool) (sl : List Tmp) (T : Tmps) : Tmps := match sym with | true => scrub sl T | false => T
def roundH (sym : Bool) (n0 : Nat) (T : Tmps) (H : Heap) : Heap := match sym with | true => trunc n0 T H | false => H

def iter (body : Tmps → Heap → (AEx → Tmps → Heap → Out) → Out) (sl : List Tmp) (n0 : Nat) (sym : Bool) : Nat → Tmps → Heap → (AEx → Tmps → Heap → Out) → Out
  | 0, _, _, _ => .fail
  | n + 1, T, H, K =>
    body (roundT sym sl T) (roundH sym n0 (roundT sym sl T) H) fun e T2 H2 => match e with
      | .normal => iter body sl n0 sym n T2 H2 K
      | e => K e T2 H2

/-- Is a label in a row of code? -/
def hasL (l : Nat) : Code → Bool
  | .seq a b => hasL l a || hasL l b
  | .label l' => l' == l
  | _ => false

/-- A scope: by a goto to a label of its own the run goes on there. -/
def iterS (body : Option Nat → Tmps → Heap → (AEx → Tmps → Heap → Out) → Out) (has : Nat → Bool) : Nat → Option Nat → Tmps → Heap → (AEx → Tmps → Heap → Out) → Out
  | 0, _, _, _, _ => .fail
  | n + 1, m, T, H, K => body m T H fun e T2 H2 => match e with
    | .goto l => cond (has l) (iterS body has n (some l) T2 H2 K) (K (.goto l) T2 H2)
    | e => K e T2 H2

/-- Which temporaries one region alone uses: the list is not used. -/
def locMask (fn : Func) (c : Code) : Nat := 0

/-- The temporaries at a call's begin. -/
def initT (M : Nat) (args : List AV) (n : Nat) : Tmps := args ++ (List.range' args.length (n - args.length)).map fun i => cond (isLoc M i) .any undefA

/-- Code from its begin on, or from a label on. -/
def acodeM (call : Caller) (nm : Array String) (M : Nat) : Code → Option Nat → Tmps → Heap → (AEx → Tmps → Heap → Out) → Out
  | .skip, none, T, H, K => K .normal T H
  | .label _, none, T, H, K => K .normal T H
  | .region _ ops draw, none, T, H, K => match draw with
    | false => aops C call M ops ops.toList .nil T H fun T' H' => K .normal T' H'
    | true => cond (C.P.follows .mixedOrders) (aopsD C call M ops T H fun T' H' => K .normal T' H') .fail
  | .seq a b, none, T, H, K => acodeM call nm M a none T H fun e T' H' => match e with
    | .normal => acodeM call nm M b none T' H' K
    | e => K e T' H'
  | .cond c a b, none, T, H, K => condA (ev C (getL T) c) (acodeM call nm M a none T H K) (acodeM call nm M b none T H K)
  | .block id b, none, T, H, K => acodeM call nm M b none T H fun e T' H' => match e with
    | .exit id' => cond (decide (id' = id)) (K .normal T' H') (K (.exit id') T' H')
    | e => K e T' H'
  | .loop b, none, T, H, K => iter (acodeM call nm M b none) (match C.sym with | true => scrubOf nm b | false => []) H.length C.sym C.L T H K
  | .scope b, none, T, H, K => iterS (acodeM call nm M b) (fun l => hasL l b) C.L none T H K
  | .exit id, none, T, H, K => K (.exit id) T H
  | .ret, none, T, H, K => K .ret T H
  | .goto l, none, T, H, K => K (.goto l) T H
  | .seq a b, some l, T, H, K => match hasL l a with
    | true => acodeM call nm M a (some l) T H fun e T' H' => match e with
      | .normal => acodeM call nm M b none T' H' K
      | e => K e T' H'
    | false => acodeM call nm M b (some l) T H K
  | .label l', some l, T, H, K => cond (l' == l) (K .normal T H) .fail
  | _, _, _, _, _ => .fail

abbrev acode (call : Caller) (nm : Array String) (M : Nat) (c : Code) (T : Tmps) (H : Heap) (K : AEx → Tmps → Heap → Out) : Out := acodeM C call nm M c none T H K

def resultsA (fn : Func) (T : Tmps) (H : Heap) (k : AV → Out) : Out :=
  go fn.results.toList []
where
  go : List ResultVar → List AV → Out
    | [], acc => match acc with
      | [v] => k v
      | vs => k (.tuple vs.reverse)
    | .tmp t :: r, acc => go r (T.getD t undefA :: acc)
    | .cell a t :: r, acc => match tinfo C t with
      | some ti => loadA H ti (T.getD a undefA) fun v => go r (v :: acc)
      | none => .fail

def acall : Nat → Caller
  | 0, _, _, _, _ => .fail
  | d + 1, f, args, H, k => match C.P.funcs[f]? with
    | none => .fail
    | some fn => match fn.body with
      | none => .fail
      | some c => cond (decide (locMask fn c < Nat.pow 2 fn.ntmps) && decide (locMask fn c % Nat.pow 2 args.length = 0)) (acode C (acall d) fn.tmpNames (locMask fn c) c (initT (locMask fn c) args fn.ntmps) H fun e T' H' => match e with
        | .normal => resultsA C fn T' H' fun v => k v H'
        | .ret => resultsA C fn T' H' fun v => k v H'
        | _ => .fail) .fail

end
end Go.Proofs.Ytgpijioodocplaa
