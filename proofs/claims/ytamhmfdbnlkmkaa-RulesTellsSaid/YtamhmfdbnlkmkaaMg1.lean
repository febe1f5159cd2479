/- The evaluator: SyDefs, SyFast, SyEnv laid together. -/
import Derived.Calls
import Derived.Control
import Derived.Scope
import Derived.Deep.Quiet
import Derived.Below
import Derived.Lib.Bytealg
/- An evaluator of the model's code over abstract values: its definitions. Nothing here is trusted: EngSound shows that what it tells holds of the model. -/
set_option linter.unusedVariables false
set_option linter.unusedSectionVars false
set_option linter.unusedSimpArgs false
namespace Go.Proofs.Ytamhmfdbnlkmkaa
open Go

/-- Types of scalars that are known by an expression alone. -/
inductive STy where
  | int (k : IntKind)
  | bool
  | str
  deriving Inhabited, DecidableEq

/-- Expressions over variables; what one denotes hangs on the type at which it is asked. -/
inductive Sx where
  | var (i : Nat)
  | lit (n : Int)
  | lb (b : Bool)
  | ls (s : ByteArray)
  | bin (op : BinOp) (k : IntKind) (a b : Sx)
  | cmp (op : BinOp) (a b : Sx)
  | cmps (op : BinOp) (a b : Sx)
  | eqb (a b : Sx)
  | conv (k : IntKind) (a : Sx)
  | not (a : Sx)
  | and (a b : Sx)
  | len (a : Sx)
  | at_ (a i : Sx)
  | sub (a lo hi : Sx)
  | cat (a b : Sx)
  | idx (a c : Sx)
  | app (f : Nat) (as : Sx)
  | nil
  | arg (t : STy) (a r : Sx)
  deriving Inhabited

/-- A tree of cells that never change: a scalar, an expression, or a slice with its elements' cells. -/
inductive TC where
  | sc (v : Value)
  | sl (s : Nat) (el : List (List TC))
  | sy (t : STy) (e : Sx)
  deriving Inhabited

/-- An abstract value. -/
inductive AV where
  | tc (c : TC)
  | any
  | agg (cs : List AV)
  | tuple (vs : List AV)
  | ptr (o s i f ver : Nat)
  | vptr (s : Nat) (el : List (List TC)) (i f : Nat)
  | slice (o s i len cap : Nat) (ex : Bool) (ver : Nat)
  | map (o : Nat)
  | func (fn : Fn) (first cap : List AV)
  deriving Inhabited

abbrev AV.sc (v : Value) : AV := .tc (.sc v)
abbrev AV.sl (s : Nat) (el : List (List TC)) : AV := .tc (.sl s el)

/-- What a run comes to: it fails; it tells a value; or it hangs on a test. -/
inductive Out where
  | fail
  | leaf (r : AV)
  | sel (e : Sx) (a b : Out)
  deriving Inhabited

inductive AObj where
  | tcells (s : Nat) (el : List (List TC))
  | cells (s : Nat) (el : List (List AV))
  | map (es : List (Value × AV))
  deriving Inhabited

def AObj.len : AObj → Nat
  | .tcells _ el => el.length
  | .cells _ el => el.length
  | _ => 0

abbrev Heap := List AObj
abbrev Tmps := List AV

def undefA : AV := .tc (.sc (.tuple #[]))

def mapO {α β : Type} (f : α → Option β) : List α → Option (List β)
  | [] => some []
  | a :: r => match f a, mapO f r with
    | some b, some l => some (b :: l)
    | _, _ => none

/-- What is known of a type. -/
structure TI where
  under : TypeDesc
  size : Nat
  bytes : Nat
  zero : Option Value
  agg : Bool

structure Ctx where
  P : Program
  L : Nat
  pure : FuncId → Bool
  glob : Nat → Option (Nat × List (List TC))
  sym : Bool
  summ : FuncId → Option (List AV → Option AV)
  /-- Of a pure function: is it so at slices in memory too (what it tells being flat)? Else it is run there as it is. -/
  flat : FuncId → Bool := fun _ => true

section
variable (C : Ctx)

def isIntD : TypeDesc → Bool
  | .int _ => true
  | _ => false

def aggD : TypeDesc → Bool
  | .struct _ => true
  | .array _ _ => true
  | _ => false

def tinfo (t : TypeId) : Option TI :=
  match C.P.info? t, C.P.underlying t with
  | some i, some d => some { under := d, size := i.size, bytes := i.bytes, zero := i.zero, agg := aggD d }
  | _, _ => none

/-! ### values -/

mutual
def toVal : AV → Option Value
  | .tc (.sc v) => some v
  | .agg cs => (toVals cs).map fun l => .agg l.toArray
  | .tuple vs => (toVals vs).map fun l => .tuple l.toArray
  | _ => none
def toVals : List AV → Option (List Value)
  | [] => some []
  | a :: r => match toVal a, toVals r with
    | some v, some l => some (v :: l)
    | _, _ => none
end

def scs (l : List Value) : List AV := l.map fun v => .tc (.sc v)

def ofVal : Value → AV
  | .agg cs => .agg (scs cs.toList)
  | v => .tc (.sc v)

def ofRes : Value → AV
  | .tuple vs => .tuple (vs.toList.map ofVal)
  | v => ofVal v

/-- A temporary. -/
def getL : List AV → Nat → AV
  | [], _ => undefA
  | a :: _, 0 => a
  | _ :: r, n + 1 => getL r n

/-- What temporaries hold. -/
abbrev Look := Nat → AV

def ev (T : Look) : Operand → AV
  | .tmp t => T t
  | .const v => ofVal v
  | .global g => match C.glob g with | some (s, el) => .vptr s el 0 0 | none => .any
  | .func f => .tc (.sc (.func (.func f) #[] #[]))

def put (T : Tmps) (dst : Option Tmp) (v : AV) : Tmps :=
  match dst with
  | some d => T.set d v
  | none => T

/-- A list with a place set, its spine written out. -/
def setK {α β : Type} : List α → Nat → α → (List α → β) → β
  | [], _, _, k => k []
  | _ :: r, 0, x, k => k (x :: r)
  | y :: r, n + 1, x, k => setK r n x fun r' => k (y :: r')

def putK {β : Type} (T : Tmps) (dst : Option Tmp) (v : AV) (k : Tmps → β) : β :=
  match dst with
  | some d => setK T d v k
  | none => k T

/-- The cells of a value, as they lie in memory. -/
def cellsOfA : AV → Option (List AV)
  | .tc (.sc (.agg _)) => none
  | .agg cs => some cs
  | .tuple _ => none
  | .any => none
  | v => some [v]

/-- A value that lies in one cell. -/
def cellOk : AV → Bool
  | .tc (.sc (.agg _)) => false
  | .tc (.sc (.tuple _)) => false
  | .tc _ => true
  | .any => false
  | .agg _ => false
  | .tuple _ => false
  | _ => true

def asTC : List AV → Option (List TC)
  | [] => some []
  | .tc c :: r => (asTC r).map (c :: ·)
  | _ :: _ => none

def newCells (s : Nat) (el : List (List AV)) : AObj :=
  match mapO asTC el with
  | some t => .tcells s t
  | none => .cells s el

def tcs (l : List TC) : List AV := l.map .tc

/-- Some cells of a row. -/
def span {α : Type} (l : List α) (f n : Nat) : Option (List α) :=
  let r := (l.drop f).take n
  if r.length = n then some r else none

def setSpan {α : Type} (l : List α) (f : Nat) (cs : List α) : List α := l.take f ++ cs ++ l.drop (f + cs.length)

/-! ### scalars that are known by an expression -/
def asSx : AV → Option (STy × Sx)
  | .tc (.sc (.int k n)) => some (.int k, .lit n)
  | .tc (.sc (.bool b)) => some (.bool, .lb b)
  | .tc (.sc (.string s)) => some (.str, .ls s)
  | .tc (.sy t e) => some (t, e)
  | _ => none

abbrev AV.sy (t : STy) (e : Sx) : AV := .tc (.sy t e)

/-- Both ways of a test. -/
def condA (c : AV) (x y : Out) : Out :=
  match c with
  | .tc (.sc (.bool b)) => cond b x y
  | .tc (.sy .bool e) => .sel e x y
  | _ => .fail

/-- A whole number from i on, below i + n. -/
def enumA (e : Sx) (k : Int → Out) : Nat → Nat → Out
  | _, 0 => .fail
  | i, n + 1 => .sel (.cmp .eql e (.lit i)) (k i) (enumA e k (i + 1) n)

def withIdx (idx : AV) (n : Nat) (k : Int → Out) : Out :=
  match idx with
  | .tc (.sc (.int _ m)) => k m
  | .tc (.sy (.int _) e) => enumA e k 0 n
  | _ => .fail

/-- A comparison, a number alone standing at the right. -/
def mkCmp (op : BinOp) (a b : Sx) : Sx :=
  match a with
  | .lit n => match op with
    | .eql => .cmp .eql b (.lit n)
    | .neq => .not (.cmp .eql b (.lit n))
    | .lss => .cmp .gtr b (.lit n)
    | .leq => .cmp .geq b (.lit n)
    | .gtr => .cmp .lss b (.lit n)
    | .geq => .cmp .leq b (.lit n)
    | op => .cmp op (.lit n) b
  | a => match op with
    | .neq => .not (.cmp .eql a b)
    | op => .cmp op a b

def intOp (op : BinOp) (kx : IntKind) (a : Sx) (ky : IntKind) (b : Sx) (k : AV → Out) : Out :=
  match op with
  | .shl => .sel (.cmp .lss b (.lit 0)) .fail (k (.sy (.int kx) (.bin .shl kx a b)))
  | .shr => .sel (.cmp .lss b (.lit 0)) .fail (k (.sy (.int kx) (.bin .shr kx a b)))
  | .quo => cond (decide (kx = ky)) (.sel (.cmp .eql b (.lit 0)) .fail (k (.sy (.int kx) (.bin .quo kx a b)))) .fail
  | .rem => cond (decide (kx = ky)) (.sel (.cmp .eql b (.lit 0)) .fail (k (.sy (.int kx) (.bin .rem kx a b)))) .fail
  | .add => cond (decide (kx = ky)) (k (.sy (.int kx) (.bin .add kx a b))) .fail
  | .sub => cond (decide (kx = ky)) (k (.sy (.int kx) (.bin .sub kx a b))) .fail
  | .mul => cond (decide (kx = ky)) (k (.sy (.int kx) (.bin .mul kx a b))) .fail
  | .and => cond (decide (kx = ky)) (k (.sy (.int kx) (.bin .and kx a b))) .fail
  | .or => cond (decide (kx = ky)) (k (.sy (.int kx) (.bin .or kx a b))) .fail
  | .xor => cond (decide (kx = ky)) (k (.sy (.int kx) (.bin .xor kx a b))) .fail
  | .andNot => cond (decide (kx = ky)) (k (.sy (.int kx) (.bin .andNot kx a b))) .fail
  | .eql => cond (decide (kx = ky)) (k (.sy .bool (mkCmp .eql a b))) .fail
  | .neq => cond (decide (kx = ky)) (k (.sy .bool (mkCmp .neq a b))) .fail
  | .lss => cond (decide (kx = ky)) (k (.sy .bool (mkCmp .lss a b))) .fail
  | .leq => cond (decide (kx = ky)) (k (.sy .bool (mkCmp .leq a b))) .fail
  | .gtr => cond (decide (kx = ky)) (k (.sy .bool (mkCmp .gtr a b))) .fail
  | .geq => cond (decide (kx = ky)) (k (.sy .bool (mkCmp .geq a b))) .fail

def strOp (op : BinOp) (a b : Sx) (k : AV → Out) : Out :=
  match op with
  | .eql => k (.sy .bool (.cmps .eql a b))
  | .neq => k (.sy .bool (.cmps .neq a b))
  | .lss => k (.sy .bool (.cmps .lss a b))
  | .leq => k (.sy .bool (.cmps .leq a b))
  | .gtr => k (.sy .bool (.cmps .gtr a b))
  | .geq => k (.sy .bool (.cmps .geq a b))
  | _ => .fail

def boolOp (op : BinOp) (a b : Sx) (k : AV → Out) : Out :=
  match op with
  | .eql => k (.sy .bool (.eqb a b))
  | .neq => k (.sy .bool (.not (.eqb a b)))
  | _ => .fail

/-! ### a Sem that touches no memory -/

def pureRun {α : Type} (P : Program) : Sem α → Option α
  | .pure a => some a
  | .program k => pureRun P (k P)
  | .mark _ k => pureRun P k
  | _ => none

/-- An operation of scalars, some of them known by an expression. -/
def symOp (o : Oper) (T : Look) (k : AV → Out) : Out :=
  match o.op with
  | .binOp op t x y _ =>
    match asSx (ev C T x), asSx (ev C T y) with
    | some (.int kx, a), some (.int ky, b) => intOp op kx a ky b k
    | some (.str, a), some (.str, b) => strOp op a b k
    | some (.bool, a), some (.bool, b) => match tinfo C t with
      | some ti => match ti.under with | .bool => boolOp op a b k | _ => .fail
      | none => .fail
    | _, _ => .fail
  | .unOp op _ x =>
    match op, asSx (ev C T x) with
    | .neg, some (.int kx, a) => k (.sy (.int kx) (.bin .sub kx (.lit 0) a))
    | .xor, some (.int kx, a) => k (.sy (.int kx) (.bin .xor kx (.lit (cond kx.signed (-1) kx.max)) a))
    | .not, some (.bool, a) => k (.sy .bool (.not a))
    | _, _ => .fail
  | .convert src dst x =>
    match tinfo C src, tinfo C dst, asSx (ev C T x) with
    | some _, some td, some (t, a) => match td.under, t with
      | .int kd, .int _ => k (.sy (.int kd) (.conv kd a))
      | .string, .str => k (.sy .str a)
      | _, _ => .fail
    | _, _, _ => .fail
  | .index t x i =>
    match tinfo C t, asSx (ev C T x), asSx (ev C T i) with
    | some ti, some (.str, a), some (.int _, b) => match ti.under with
      | .string => .sel (.cmp .lss b (.lit 0)) .fail (.sel (.cmp .lss b (.len a)) (k (.sy (.int .u8) (.at_ a b))) .fail)
      | _ => .fail
    | _, _, _ => .fail
  | .call { callee := .builtin .len, args, argTypes } => match args.toList, argTypes.toList with
    | [x], [t] => match tinfo C t, asSx (ev C T x) with
      | some ti, some (.str, a) => match ti.under with
        | .string => k (.sy (.int .i64) (.len a))
        | _ => .fail
      | _, _ => .fail
    | _, _ => .fail
  | .call { callee := .builtin .min, args, argTypes := _ } => match args.toList with
    | [x, y] => match asSx (ev C T x), asSx (ev C T y) with
      | some (.int kx, a), some (.int _, b) => .sel (.cmp .lss b a) (k (.sy (.int kx) b)) (k (.sy (.int kx) a))
      | _, _ => .fail
    | _ => .fail
  | .call { callee := .builtin .max, args, argTypes := _ } => match args.toList with
    | [x, y] => match asSx (ev C T x), asSx (ev C T y) with
      | some (.int kx, a), some (.int _, b) => .sel (.cmp .gtr b a) (k (.sy (.int kx) b)) (k (.sy (.int kx) a))
      | _, _ => .fail
    | _ => .fail
  | .slice t x lo hi none =>
    match tinfo C t, asSx (ev C T x), asSx ((lo.map (ev C T)).getD (.sc (.int .i64 0))), hi.map fun h => asSx (ev C T h) with
    | some ti, some (.str, a), some (.int _, l), h => match ti.under with
      | .string => match h with
        | none => .sel (.cmp .lss l (.lit 0)) .fail (.sel (.cmp .leq l (.len a)) (k (.sy .str (.sub a l (.len a)))) .fail)
        | some (some (.int _, h)) => .sel (.cmp .lss l (.lit 0)) .fail (.sel (.cmp .leq l h) (.sel (.cmp .leq h (.len a)) (k (.sy .str (.sub a l h))) .fail) .fail)
        | _ => .fail
      | _ => .fail
    | _, _, _, _ => .fail
  | _ => .fail

def genOp (o : Oper) (T : Look) (k : AV → Out) : Out :=
  match mapO (fun x => toVal (ev C T x)) o.op.operands.toList with
  | none => symOp C o T k
  | some _ =>
    match pureRun C.P (execOp (fun x => (toVal (ev C T x)).getD undef) o) with
    | some (.value v) => k (ofRes v)
    | _ => .fail

/-- The kinds of operations that 'genOp' takes. -/
def genOk : Op → Bool
  | .binOp .. | .unOp .. | .convert .. | .field .. | .index .. | .makeInterface .. | .extract .. | .slice .. | .nilCheck _ => true
  | .call { callee := .builtin b, .. } => match b with | .len | .cap | .min | .max => true | _ => false
  | _ => false

def intOf? : AV → Option Int
  | .tc (.sc (.int _ n)) => some n
  | _ => none

/-- 'x == nil', x being no scalar. -/
def eqNil (t : TypeDesc) (x y : AV) (k : Bool → Out) : Out :=
  match t, x, y with
  | .slice _, .slice _ _ _ len _ _ _, .tc (.sc (.slice none _ _)) => match len with | 0 => .fail | _ + 1 => k false
  | .slice _, .tc (.sl _ el), .tc (.sc (.slice none _ _)) => match el with | [] => .fail | _ :: _ => k false
  | .map _ _, .map _, .tc (.sc (.map none)) => k false
  | .func _ _ _, .func _ _ _, .tc (.sc .nilFunc) => k false
  | .pointer _, .ptr .., .tc (.sc (.pointer none)) => k false
  | _, _, _ => .fail

def loadA (H : Heap) (t : TI) (a : AV) (k : AV → Out) : Out :=
  match a with
  | .ptr o s i f ver =>
    match H[o]? with
    | some (.tcells s' el) =>
      cond (decide (s' = s) && decide (ver = el.length)) (match el[i]? with
        | none => .fail
        | some row => match t.agg with
          | true => match span row f t.size with | some r => k (.agg (tcs r)) | none => .fail
          | false => match row[f]? with | some c => k (.tc c) | none => .fail) .fail
    | some (.cells s' el) =>
      cond (decide (s' = s) && decide (ver = el.length)) (match el[i]? with
        | none => .fail
        | some row => match t.agg with
          | true => match span row f t.size with | some r => k (.agg r) | none => .fail
          | false => match row[f]? with | some c => k c | none => .fail) .fail
    | _ => .fail
  | .vptr _ el i f =>
    match el[i]? with
    | none => .fail
    | some row => match t.agg with
      | true => match span row f t.size with | some r => k (.agg (tcs r)) | none => .fail
      | false => match row[f]? with | some c => k (.tc c) | none => .fail
  | _ => .fail

/-- A slice's place 'idx', or an array's. -/
def indexA (t : TI) (e : Option TI) (x : AV) (idx : AV) (k : AV → Out) : Out :=
  match t.under, e with
  | .slice _, some et =>
    match x with
    | .slice o s i len _ _ ver => withIdx idx len fun n => cond (decide (0 ≤ n) && decide (n < len) && decide (et.size = s)) (k (.ptr o s (i + n.toNat) 0 ver)) .fail
    | .tc (.sl s el) => withIdx idx el.length fun n => cond (decide (0 ≤ n) && decide (n < el.length) && decide (et.size = s)) (k (.vptr s el n.toNat 0)) .fail
    | _ => .fail
  | .array len _, some et =>
    match x with
    | .ptr o s i f ver => withIdx idx len fun n => cond (decide (0 ≤ n) && decide (n < len)) (k (.ptr o s i (f + n.toNat * et.size) ver)) .fail
    | .vptr s el i f => withIdx idx len fun n => cond (decide (0 ≤ n) && decide (n < len)) (k (.vptr s el i (f + n.toNat * et.size))) .fail
    | _ => .fail
  | _, _ => .fail

def fieldAddrA (t : TI) (x : AV) (fd : Nat) (k : AV → Out) : Out :=
  match t.under with
  | .struct fs => match fs[fd]? with
    | some fl =>
      match tinfo C fl.type with
      | some ft => cond (decide (ft.size ≠ 0)) (match x with
        | .ptr o s i f ver => k (.ptr o s i (f + fl.offset) ver)
        | .vptr s el i f => k (.vptr s el i (f + fl.offset))
        | _ => .fail) .fail
      | none => .fail
    | none => .fail
  | _ => .fail

/-- A part of a struct or an array that is held as a value. -/
def partA (t : TI) (cs : List AV) (off : Nat) (k : AV → Out) : Out :=
  match t.agg with
  | true => match span cs off t.size with | some r => k (.agg r) | none => .fail
  | false => match cs[off]? with | some c => k c | none => .fail

def fieldA (t : TI) (x : AV) (fd : Nat) (k : AV → Out) : Out :=
  match t.under, x with
  | .struct fs, .agg cs => match fs[fd]? with
    | some fl => match tinfo C fl.type with
      | some ft => partA ft cs fl.offset k
      | none => .fail
    | none => .fail
  | _, _ => .fail

def boundA (d : Int) (x : Option AV) (k : Int → Out) : Out :=
  match x with
  | none => k d
  | some a => match intOf? a with | some n => k n | none => .fail

def sliceA (t et : TI) (x : AV) (lo hi mx : Option AV) (k : AV → Out) : Out :=
  match t.under, x with
  | .slice _, .slice o s i len cap ex ver =>
    match mx with
    | none =>
      boundA (len : Int) hi fun h => boundA 0 lo fun l =>
        cond (decide (0 ≤ l) && decide (l ≤ h) && decide (h ≤ cap) && decide (et.size = s)) (k (.slice o s (i + l.toNat) (h.toNat - l.toNat) (cap - l.toNat) ex ver)) .fail
    | some m => match hi with
      | none => .fail
      | some hv => boundA 0 (some m) fun m => boundA 0 (some hv) fun h => boundA 0 lo fun l =>
        cond (decide (0 ≤ l) && decide (l ≤ h) && decide (h ≤ m) && decide (m ≤ cap) && decide (et.size = s)) (k (.slice o s (i + l.toNat) (h.toNat - l.toNat) (m.toNat - l.toNat) true ver)) .fail
  | .slice _, .tc (.sl s el) =>
    match mx with
    | none =>
      boundA (el.length : Int) hi fun h => boundA 0 lo fun l =>
        cond (decide (0 ≤ l) && decide (l ≤ h) && decide (h ≤ el.length) && decide (et.size = s)) (k (.tc (.sl s ((el.take h.toNat).drop l.toNat)))) .fail
    | some _ => .fail
  | _, _ => .fail

def lenA (x : AV) (k : AV → Out) : Out :=
  match x with
  | .slice _ _ _ len _ _ _ => k (.sc (.int .i64 len))
  | .tc (.sl _ el) => k (.sc (.int .i64 el.length))
  | _ => .fail

def capA (x : AV) (k : AV → Out) : Out :=
  match x with
  | .slice _ _ _ _ cap true _ => k (.sc (.int .i64 cap))
  | _ => .fail

/-! ### '==' of structs, some of whose fields are known by an expression -/
def eqCell (t : TypeId) (x y : AV) : Option Sx :=
  match tinfo C t, asSx x, asSx y with
  | some ti, some (.int k, a), some (.int k', b) => match ti.under with
    | .int _ => match decide (k = k') with | true => some (mkCmp .eql a b) | false => none
    | _ => none
  | some ti, some (.bool, a), some (.bool, b) => match ti.under with | .bool => some (.eqb a b) | _ => none
  | some ti, some (.str, a), some (.str, b) => match ti.under with | .string => some (.cmps .eql a b) | _ => none
  | _, _, _ => none

def eqFieldsA (xs ys : List AV) : List Field → Option Sx
  | [] => some (.lb true)
  | f :: r => match decide (f.name = "_") with
    | true => none
    | false => match xs[f.offset]?, ys[f.offset]? with
      | some x, some y => match eqCell C f.type x y, eqFieldsA xs ys r with
        | some a, some b => some (.and a b)
        | _, _ => none
      | _, _ => none

def aggEq (t : TypeId) (x y : AV) : Option Sx :=
  match x, y with
  | .agg xs, .agg ys => match C.P.underlying t with
    | some (.struct fs) => match !C.P.stoodInHeld t && !C.P.eqGuardType C.P.depth t with
      | true => eqFieldsA C xs ys fs.toList
      | false => none
    | _ => none
  | _, _ => none

/-- A test of known numbers. -/
def constB : Sx → Option Bool
  | .lb b => some b
  | .and a b => match constB a, constB b with
    | some x, some y => some (x && y)
    | _, _ => none
  | .cmp .eql (.lit a) (.lit b) => some (a == b)
  | .eqb (.lb a) (.lb b) => some (a == b)
  | .cmps .eql (.ls a) (.ls b) => some (decide (a.data.toList = b.data.toList))
  | _ => none

def aggOp (op : BinOp) (e : Sx) (k : AV → Out) : Out :=
  match constB e with
  | some b => match op with
    | .eql => k (.sc (.bool b))
    | .neq => k (.sc (.bool (!b)))
    | _ => .fail
  | none => match op with
    | .eql => k (.sy .bool e)
    | .neq => k (.sy .bool (.not e))
    | _ => .fail

/-! ### a string of bytes -/
def byteT : List TC → Option UInt8
  | [.sc (.int .u8 n)] => cond (decide (0 ≤ n) && decide (n < 256)) (some n.toNat.toUInt8) none
  | _ => none

def bytesOf (H : Heap) (x : AV) : Option (List UInt8) :=
  match x with
  | .tc (.sl s el) => cond (decide (s = 1)) (mapO byteT el) none
  | .slice o s i len _ _ ver =>
    match H[o]? with
    | some (.tcells s' el) => cond (decide (s = 1) && decide (s' = 1) && decide (ver = el.length) && decide (i + len ≤ el.length)) (mapO byteT ((el.drop i).take len)) none
    | _ => none
  | _ => none

def isStr : TypeDesc → Bool
  | .string => true
  | _ => false

def isU8 : TypeDesc → Bool
  | .int .u8 => true
  | _ => false

def bytesStr (H : Heap) (src dst : TypeId) (x : AV) (k : AV → Out) : Out :=
  match tinfo C src, tinfo C dst with
  | some ts, some td => match ts.under with
    | .slice e => match tinfo C e with
      | some te => cond (isU8 te.under && isStr td.under) (match bytesOf H x with
        | some l => k (.sc (.string ⟨l.toArray⟩))
        | none => .fail) .fail
      | none => .fail
    | _ => .fail
  | _, _ => .fail

/-! ### quiet operations: they leave memory alone -/
def qop (o : Oper) (T : Look) (H : Heap) (k : AV → Out) : Out :=
  match o.op with
  | .move x => k (ev C T x)
  | .assign x => k (ev C T x)
  | .pick c a b => condA (ev C T c) (k (ev C T a)) (k (ev C T b))
  | .load t x => match tinfo C t with
    | some t => loadA H t (ev C T x) k
    | none => .fail
  | .nilCheck x => match ev C T x with
    | .ptr o s i f ver => k (.ptr o s i f ver)
    | .vptr s el i f => k (.vptr s el i f)
    | .func fn first cap => match fn with | .func _ => k (.func fn first cap) | _ => .fail
    | .tc (.sc v) => match v with
      | .func fn first cap => match fn with | .func _ => k (.tc (.sc (.func fn first cap))) | _ => .fail
      | _ => .fail
    | _ => .fail
  | .fieldAddr t x fd => match tinfo C t with
    | some t => fieldAddrA C t (ev C T x) fd k
    | none => .fail
  | .field t x fd => match tinfo C t with
    | some t => fieldA C t (ev C T x) fd k
    | none => .fail
  | .indexAddr t x i => match tinfo C t with
    | some ti => match ti.under with
      | .slice e => indexA ti (tinfo C e) (ev C T x) (ev C T i) k
      | .array _ e => indexA ti (tinfo C e) (ev C T x) (ev C T i) k
      | _ => .fail
    | none => .fail
  | .slice t x lo hi mx => match ev C T x with
    | .tc (.sc _) => genOp C o T k
    | .tc (.sy _ _) => symOp C o T k
    | x => match tinfo C t with
      | some ti => match ti.under with
        | .slice e => match tinfo C e with
          | some et => sliceA ti et x (lo.map (ev C T)) (hi.map (ev C T)) (mx.map (ev C T)) k
          | none => .fail
        | _ => .fail
      | none => .fail
  | .convert src dst x => match ev C T x with
    | .tc (.sc _) => genOp C o T k
    | .tc (.sy _ _) => symOp C o T k
    | v => bytesStr C H src dst v k
  | .extract x i => match ev C T x with
    | .tuple vs => match vs[i]? with | some v => k v | none => .fail
    | _ => .fail
  | .makeFunc fn first cap => k (.func fn (first.toList.map (ev C T)) (cap.toList.map (ev C T)))
  | .call { callee := .builtin .len, args, argTypes } => match args.toList with
    | [x] => match ev C T x with
      | .tc (.sc _) => genOp C o T k
      | .tc (.sy _ _) => symOp C o T k
      | v => match argTypes.toList with
        | [t] => match tinfo C t with
          | some ti => match ti.under with | .slice _ => lenA v k | _ => .fail
          | none => .fail
        | _ => .fail
    | _ => .fail
  | .call { callee := .builtin .cap, args, argTypes } => match args.toList with
    | [x] => match ev C T x with
      | .tc (.sc _) => genOp C o T k
      | .tc (.sy _ _) => symOp C o T k
      | v => match argTypes.toList with
        | [t] => match tinfo C t with
          | some ti => match ti.under with | .slice _ => capA v k | _ => .fail
          | none => .fail
        | _ => .fail
    | _ => .fail
  | .binOp op t x y _ =>
    match aggEq C t (ev C T x) (ev C T y) with
    | some e => aggOp op e k
    | none => match toVal (ev C T x), toVal (ev C T y) with
    | some _, some _ => genOp C o T k
    | _, _ => match asSx (ev C T x), asSx (ev C T y) with
     | some _, some _ => symOp C o T k
     | _, _ => match op, tinfo C t with
      | .eql, some ti => eqNil ti.under (ev C T x) (ev C T y) (fun b => k (.sc (.bool b)))
      | .neq, some ti => eqNil ti.under (ev C T x) (ev C T y) (fun b => k (.sc (.bool (!b))))
      | _, _ => .fail
  | op => cond (genOk op) (genOp C o T k) .fail

/-! ### trees out of memory -/
def fz (H : Heap) : Nat → AV → Option TC
  | _, .tc c => some c
  | n + 1, .slice o s i len _ _ ver =>
    match H[o]? with
    | some (.tcells s' el) =>
      if s' = s ∧ ver = el.length ∧ i + len ≤ el.length then some (.sl s (if i = 0 ∧ len = el.length then el else (el.drop i).take len)) else none
    | some (.cells s' el) =>
      if s' = s ∧ ver = el.length ∧ i + len ≤ el.length then
        (mapO (fun row => mapO (fun c => fz H n c) row) ((el.drop i).take len)).map fun e => .sl s e
      else none
    | _ => none
  | _, _ => none

/-- A value as a tree. -/
def fzA (H : Heap) : AV → Option AV
  | .agg cs => (mapO (fz H 8) cs).map fun l => .agg (tcs l)
  | .tuple _ => none
  | .any => some .any
  | .vptr s el i f => some (.vptr s el i f)
  | v => (fz H 8 v).map .tc

def fzR (H : Heap) : AV → Option AV
  | .tuple vs => (mapO (fzA H) vs).map .tuple
  | v => fzA H v

/-! ### operations that make memory, or write -/

def zeroCellsA (t : TI) : Option (List TC) := t.zero.map fun v => v.cells.toList.map .sc

def fillA : (Nat → Option (Nat × Nat)) → List AV → List (Nat × AV) → Option (List AV)
  | _, cs, [] => some cs
  | place, cs, (i, v) :: rest =>
    match place i, cellsOfA v with
    | some (off, size), some vc => if vc.length = size ∧ off + size ≤ cs.length then fillA place (setSpan cs off vc) rest else none
    | _, _ => none

def buildA (t : TI) (parts : List (Nat × AV)) (k : AV → Out) : Out :=
  match zeroCellsA t, t.under with
  | some z, .struct fs =>
    cond (fs.toList.all fun f => (tinfo C f.type).isSome) (match fillA (fun i => (fs[i]?).bind fun f => (tinfo C f.type).map fun ft => (f.offset, ft.size)) (tcs z) parts with
    | some cs => k (.agg cs)
    | none => .fail) .fail
  | some z, .array _ e =>
    match tinfo C e with
    | some et => match fillA (fun i => some (i * et.size, et.size)) (tcs z) parts with
      | some cs => k (.agg cs)
      | none => .fail
    | none => .fail
  | _, _ => .fail

/-- Rows of a new slice: zero, but for its parts. -/
def fillRows : List (List AV) → List (Nat × AV) → Option (List (List AV))
  | rows, [] => some rows
  | rows, (i, v) :: rest =>
    match rows[i]?, cellsOfA v with
    | some r, some vc => if vc.length = r.length ∧ vc.all cellOk = true then fillRows (rows.set i vc) rest else none
    | _, _ => none

def buildSliceA (t : TI) (len : Nat) (parts : List (Nat × AV)) (H : Heap) (k : AV → Heap → Out) : Out :=
  match t.under with
  | .slice e => match tinfo C e with
    | some et => match zeroCellsA et with
      | some z => cond (decide (len * et.size ≤ 2 ^ 24) && decide (et.size ≠ 0) && decide (z.length = et.size) && (tcs z).all cellOk) (match fillRows (List.replicate len (tcs z)) parts with
        | some rows => k (.slice H.length et.size 0 len len true len) (H ++ [newCells et.size rows])
        | none => .fail) .fail
      | none => .fail
    | none => .fail
  | _ => .fail

def allocA (t : TI) (cs : List AV) (H : Heap) (k : AV → Heap → Out) : Out :=
  cond (decide (cs.length = t.size) && decide (t.size ≠ 0) && cs.all cellOk) (k (.ptr H.length t.size 0 0 1) (H ++ [newCells t.size [cs]])) .fail

def storeA (t : TI) (a v : AV) (H : Heap) (k : Heap → Out) : Out :=
  match a, cellsOfA v with
  | .ptr o s i f ver, some cs =>
    match H[o]? with
    | some (.tcells s' el) =>
      cond (decide (s' = s) && decide (ver = el.length) && decide (cs.length = t.size) && cs.all cellOk) (match el[i]? with
        | none => .fail
        | some row => cond (decide (f + cs.length ≤ row.length)) (match asTC cs with
          | some c => k (H.set o (.tcells s (el.set i (setSpan row f c))))
          | none => k (H.set o (.cells s ((el.map tcs).set i (setSpan (tcs row) f cs))))) .fail) .fail
    | some (.cells s' el) =>
      cond (decide (s' = s) && decide (ver = el.length) && decide (cs.length = t.size) && cs.all cellOk) (match el[i]? with
        | none => .fail
        | some row => cond (decide (f + cs.length ≤ row.length)) (k (H.set o (.cells s (el.set i (setSpan row f cs))))) .fail) .fail
    | _ => .fail
  | _, _ => .fail

def makeSliceA (t : TI) (len cap : AV) (H : Heap) (k : AV → Heap → Out) : Out :=
  match t.under, intOf? len, intOf? cap with
  | .slice e, some l, some c => match tinfo C e with
    | some et => match zeroCellsA et with
      | some z => cond (decide (0 ≤ l) && decide (l ≤ c) && decide (et.bytes * c ≤ 2 ^ 48) && decide (c < 2 ^ 63) && decide (et.size ≠ 0) && decide (z.length = et.size) && (tcs z).all cellOk)
          (k (.slice H.length et.size 0 l.toNat c.toNat true c.toNat) (H ++ [.tcells et.size (List.replicate c.toNat z)])) .fail
      | none => .fail
    | none => .fail
  | _, _, _ => .fail

/-- The rows that are appended. -/
def srcRows (H : Heap) (et : TI) (zeros : Bool) (z : List TC) (x : AV) (k : List (List AV) → Out) : Out :=
  match zeros with
  | true => match intOf? x with
    | some n => cond (decide (0 ≤ n) && decide (n < 2 ^ 40) && decide (n * et.bytes ≤ 2 ^ 48) && decide (z.length = et.size) && (tcs z).all cellOk) (k (List.replicate n.toNat (tcs z))) .fail
    | none => .fail
  | false => match x with
    | .tc (.sc (.slice none 0 _)) => k []
    | .tc (.sl s' el) => cond (decide (s' = et.size)) (k (el.map tcs)) .fail
    | .slice o s' i len _ _ ver =>
      match H[o]? with
      | some (.tcells s2 el) => cond (decide (s' = et.size) && decide (s2 = et.size) && decide (ver = el.length) && decide (i + len ≤ el.length)) (k (((el.drop i).take len).map tcs)) .fail
      | some (.cells s2 el) => cond (decide (s' = et.size) && decide (s2 = et.size) && decide (ver = el.length) && decide (i + len ≤ el.length)) (k ((el.drop i).take len)) .fail
      | _ => .fail
    | _ => .fail

def rowsOf : AObj → Option (List (List AV))
  | .tcells _ el => some (el.map tcs)
  | .cells _ el => some el
  | _ => none

def sizeOfObj : AObj → Nat
  | .tcells s _ => s
  | .cells s _ => s
  | _ => 0

def joinRows (o : AObj) (rows : List (List AV)) : AObj :=
  match o, mapO asTC rows with
  | .tcells s el, some t => .tcells s (el ++ t)
  | .tcells s el, none => .cells s (el.map tcs ++ rows)
  | .cells s el, _ => .cells s (el ++ rows)
  | o, _ => o

def overRows (o : AObj) (at_ : Nat) (rows : List (List AV)) : AObj :=
  match o, mapO asTC rows with
  | .tcells s el, some t => .tcells s (setSpan el at_ t)
  | .tcells s el, none => .cells s (setSpan (el.map tcs) at_ rows)
  | .cells s el, _ => .cells s (setSpan el at_ rows)
  | o, _ => o

def cutObj (o : AObj) (i len : Nat) : AObj :=
  match o with
  | .tcells s el => .tcells s ((el.drop i).take len)
  | .cells s el => .cells s ((el.drop i).take len)
  | o => o

def appendA (et : TI) (s : AV) (rows : List (List AV)) (H : Heap) (k : AV → Heap → Out) : Out :=
  match s with
  | .tc (.sc (.slice none 0 0)) =>
    match rows with
    | [] => k (.tc (.sc (.slice none 0 0))) H
    | _ => cond (decide ((2 * rows.length + 1000) * et.bytes ≤ 2 ^ 48) && decide (rows.length < 2 ^ 60) && decide (et.size ≠ 0)) (k (.slice H.length et.size 0 rows.length rows.length false rows.length) (H ++ [newCells et.size rows])) .fail
  | .slice o s i len cap ex ver =>
    match H[o]? with
    | some obj =>
      cond (decide (sizeOfObj obj = s) && decide (et.size = s) && decide (s ≠ 0) && decide (ver = obj.len) && decide (i + len ≤ obj.len) && decide ((2 * (len + rows.length) + 1000) * et.bytes ≤ 2 ^ 48) && decide (len + rows.length < 2 ^ 60))
        (cond (decide (len + rows.length ≤ cap) && decide (i + len + rows.length ≤ obj.len))
          (k (.slice o s i (len + rows.length) cap ex ver) (H.set o (overRows obj (i + len) rows)))
          (cond (ex && decide (cap < len + rows.length))
            (k (.slice H.length s 0 (len + rows.length) (len + rows.length) false (len + rows.length)) (H ++ [joinRows (cutObj obj i len) rows]))
            (cond (!ex && decide (i = 0) && decide (len = obj.len))
              (k (.slice o s 0 (len + rows.length) (len + rows.length) false (len + rows.length)) (H.set o (joinRows obj rows)))
              .fail))) .fail
    | none => .fail
  | _ => .fail

def keyEq : Value → Value → Option Bool
  | .int k a, .int k' b => if k = k' then some (a == b) else none
  | .string a, .string b => some (a == b)
  | .bool a, .bool b => some (a == b)
  | _, _ => none

def findA (key : Value) : List (Value × AV) → Nat → (Option (Nat × AV) → Out) → Out
  | [], _, k => k none
  | (q, v) :: r, i, k => match keyEq key q with
    | some b => cond b (k (some (i, v))) (findA key r (i + 1) k)
    | none => .fail

def scalarKey : TypeDesc → Value → Bool
  | .int k, .int j _ => decide (k = j)
  | .string, .string _ => true
  | .bool, .bool _ => true
  | _, _ => false

def lookDone (ok : Bool) (z : Value) (k : AV → Out) : Option (Nat × AV) → Out
  | some (_, v) => match ok with | true => k (.tuple [v, .sc (.bool true)]) | false => k v
  | none => match ok with | true => k (.tuple [ofVal z, .sc (.bool false)]) | false => k (ofVal z)

def lookIn (m : AV) (H : Heap) (kv : Value) (done : Option (Nat × AV) → Out) : Out :=
  match m with
  | .tc (.sc (.map none)) => done none
  | .map o => match H[o]? with
    | some (.map es) => findA kv es 0 done
    | _ => .fail
  | _ => .fail

def lookupA (t : TI) (m key : AV) (ok : Bool) (H : Heap) (k : AV → Out) : Out :=
  match t.under, key with
  | .map kt et, .tc (.sc kv) =>
    match tinfo C kt, tinfo C et with
    | some kti, some eti =>
      cond (scalarKey kti.under kv) (match eti.zero with
        | some z => lookIn m H kv (lookDone ok z k)
        | none => .fail) .fail
    | _, _ => .fail
  | _, _ => .fail

def mapUpdateA (t : TI) (m key v : AV) (H : Heap) (k : Heap → Out) : Out :=
  match t.under, key, m with
  | .map kt _, .tc (.sc kv), .map o =>
    match tinfo C kt, H[o]? with
    | some kti, some (.map es) =>
      cond (scalarKey kti.under kv) (findA kv es 0 fun
        | some (i, _) => k (H.set o (.map (es.set i (kv, v))))
        | none => k (H.set o (.map (es ++ [(kv, v)])))) .fail
    | _, _ => .fail
  | _, _, _ => .fail

/-- The function that is called, with its arguments. -/
def target (f : AV) (args : List AV) : Option (FuncId × List AV) :=
  match f with
  | .tc (.sc (.func (.func g) first cap)) => some (g, scs first.toList ++ args ++ scs cap.toList)
  | .func (.func g) first cap => some (g, first ++ args ++ cap)
  | _ => none

/-- May the function be entered? -/
def entered (fn : Func) : Bool := fn.body.isSome && !(fn.name == "runtime.NumGoroutine")

/-- The library's search for a byte in a string, which has no body. -/
def isIdx (fn : Func) : Bool := fn.body.isNone && (fn.name == "internal/bytealg.IndexByteString") && (fn.origin == "")

def idxB : List UInt8 → UInt8 → Nat → Int
  | [], _, _ => -1
  | b :: l, c, n => cond (b == c) n (idxB l c (n + 1))

def externA (as : List AV) (k : AV → Out) : Out :=
  match as with
  | [x, y] => match asSx x, asSx y with
    | some (.str, .ls s), some (.int .u8, .lit n) => k (.sc (.int .i64 (idxB s.data.toList n.toNat.toUInt8 0)))
    | some (.str, a), some (.int .u8, b) => k (.sy (.int .i64) (.idx a b))
    | _, _ => .fail
  | _ => .fail

abbrev Caller := FuncId → List AV → Heap → (AV → Heap → Out) → Out

/-- A call that is told of trees, and tells trees. -/
def callPure (call : Caller) (f : FuncId) (args : List AV) (k : AV → Out) : Out :=
  call f args [] fun r H => match fzR H r with | some t => k t | none => .fail

/-- What a call of trees comes to: told by a summary, or found by a run. -/
def callT (call : Caller) (f : FuncId) (args : List AV) (k : AV → Out) : Out :=
  match C.summ f with
  | some g => match g args with | some r => k r | none => callPure call f args k
  | none => callPure call f args k

/-- Is a value made of scalars alone? -/
def flatA : AV → Bool
  | .tc (.sc _) => true
  | .tc (.sy _ _) => true
  | .agg cs => flatAs cs
  | .tuple cs => flatAs cs
  | _ => false
where
  flatAs : List AV → Bool
  | [] => true
  | a :: r => flatA a && flatAs r

def isTC : AV → Bool
  | .tc _ => true
  | _ => false

/-- Does a value lead to no object? -/
def isTree : AV → Bool
  | .tc _ => true
  | .any => true
  | .vptr .. => true
  | .agg cs => cs.all isTC
  | _ => false

def callA (call : Caller) (f : FuncId) (args : List AV) (H : Heap) (k : AV → Heap → Out) : Out :=
  match C.pure f with
  | true => match args.all isTree with
    | true => callT C call f args fun r => k r H
    | false => cond (C.flat f) (match mapO (fzA H) args with
      | some as => callT C call f as fun r => cond (flatA r) (k r H) .fail
      | none => .fail) (call f args H k)
  | false => call f args H k

def aop (call : Caller) (o : Oper) (T : Look) (H : Heap) (k : AV → Heap → Out) : Out :=
  match o.op with
  | .alloc t => match tinfo C t with
    | some ti => match zeroCellsA ti with
      | some z => allocA ti (tcs z) H k
      | none => .fail
    | none => .fail
  | .box t x => match tinfo C t, cellsOfA (ev C T x) with
    | some ti, some cs => allocA ti cs H k
    | _, _ => .fail
  | .build t parts => match tinfo C t with
    | some ti => buildA C ti (parts.toList.map fun p => (p.1, ev C T p.2)) fun v => k v H
    | none => .fail
  | .buildSlice t len parts => match tinfo C t with
    | some ti => buildSliceA C ti len (parts.toList.map fun p => (p.1, ev C T p.2)) H k
    | none => .fail
  | .store t a x => match tinfo C t with
    | some ti => storeA ti (ev C T a) (ev C T x) H fun H' => k undefA H'
    | none => .fail
  | .makeSlice t l c => match tinfo C t with
    | some ti => makeSliceA C ti (ev C T l) (ev C T c) H k
    | none => .fail
  | .makeMap _ r => match r with
    | none => k (.map H.length) (H ++ [.map []])
    | some _ => .fail
  | .lookup t x i ok => match tinfo C t with
    | some ti => lookupA C ti (ev C T x) (ev C T i) ok H fun v => k v H
    | none => .fail
  | .mapUpdate t m key x => match tinfo C t with
    | some ti => mapUpdateA C ti (ev C T m) (ev C T key) (ev C T x) H fun H' => k undefA H'
    | none => .fail
  | .insert t m key x => match tinfo C t with
    | some ti => mapUpdateA C ti (ev C T m) (ev C T key) (ev C T x) H fun H' => k undefA H'
    | none => .fail
  | .call { callee := .builtin .append, args, argTypes } =>
    match args.toList, argTypes.toList with
    | [s, x], [st, xt] => match tinfo C st, tinfo C xt with
      | some sti, some xti => match sti.under with
        | .slice e => match tinfo C e with
          | some et => match zeroCellsA et with
            | some z => cond (decide (z.length = et.size) && decide (et.size ≠ 0)) (srcRows H et (isIntD xti.under) z (ev C T x) fun rows => appendA et (ev C T s) rows H k) .fail
            | none => .fail
          | none => .fail
        | _ => .fail
      | _, _ => .fail
    | _, _ => .fail
  | .call { callee := .value f, args, .. } =>
    match target (ev C T f) (args.toList.map (ev C T)) with
    | some (g, as) => match C.P.funcs[g]? with
      | some fn => cond (entered fn) (callA C call g as H k) (cond (isIdx fn) (externA as fun v => k v H) .fail)
      | none => .fail
    | none => .fail
  | _ => qop C o T H fun v => k v H

abbrev aopF (call : Caller) (o : Oper) (T : Look) (H : Heap) (k : AV → Heap → Out) : Out := aop C call o T H k

/-- Is an operation carried out? What is tested, and the outcome that is wanted. -/
def wantedA (ops : Array Oper) (o : Oper) (T : Look) : Option (AV × Bool) :=
  match o.guard with
  | none => some (.sc (.bool true), true)
  | some (j, want) => match (ops[j]?).bind (·.dst) with
    | none => some (.sc (.bool false), true)
    | some d => match T d with
      | .tc (.sc (.bool b)) => some (.sc (.bool b), want)
      | .tc (.sy .bool e) => some (.sy .bool e, want)
      | .any => none
      | _ => some (.sc (.bool false), true)

/-- Both ways of a guard. -/
def guardA (g : AV × Bool) (yes no : Out) : Out :=
  match g with
  | (c, true) => condA c yes no
  | (c, false) => condA c no yes

/-- A short list of temporaries that one region alone uses. -/
inductive Lc where
  | nil
  | cons (t : Nat) (v : AV) (r : Lc)

def lookL : Lc → Nat → AV → AV
  | .nil, _, d => d
  | .cons t v r, n, d => cond (Nat.beq t n) v (lookL r n d)

def lk (L : Lc) (T : Tmps) : Look := fun t => lookL L t (getL T t)

/-- Is a temporary used by one region alone? -/
def isLoc (M : Nat) (d : Nat) : Bool := Nat.testBit M d

def putL {β : Type} (M : Nat) (L : Lc) (T : Tmps) (dst : Option Tmp) (v : AV) (k : Lc → Tmps → β) : β :=
  match dst with
  | none => k L T
  | some d => cond (isLoc M d) (k (.cons d v L) T) (setK T d v fun T => k L T)

def aops (call : Caller) (M : Nat) (ops : Array Oper) : List Oper → Lc → Tmps → Heap → (Tmps → Heap → Out) → Out
  | [], _, T, H, K => K T H
  | o :: r, L, T, H, K => match wantedA ops o (lk L T) with
    | none => .fail
    | some g => guardA g (aopF C call o (lk L T) H fun v H' => putL M L T o.dst v fun L T => aops call M ops r L T H' K) (putL M L T o.dst undefA fun L T => aops call M ops r L T H K)

def Sx.beq : Sx → Sx → Bool
  | .var i, .var j => decide (i = j)
  | .lit n, .lit m => decide (n = m)
  | .lb a, .lb b => a == b
  | .ls a, .ls b => decide (a.data.toList = b.data.toList)
  | .bin o k a b, .bin o' k' a' b' => decide (o = o') && decide (k = k') && Sx.beq a a' && Sx.beq b b'
  | .cmp o a b, .cmp o' a' b' => decide (o = o') && Sx.beq a a' && Sx.beq b b'
  | .cmps o a b, .cmps o' a' b' => decide (o = o') && Sx.beq a a' && Sx.beq b b'
  | .eqb a b, .eqb a' b' => Sx.beq a a' && Sx.beq b b'
  | .conv k a, .conv k' a' => decide (k = k') && Sx.beq a a'
  | .not a, .not a' => Sx.beq a a'
  | .and a b, .and a' b' => Sx.beq a a' && Sx.beq b b'
  | .len a, .len a' => Sx.beq a a'
  | .at_ a b, .at_ a' b' => Sx.beq a a' && Sx.beq b b'
  | .sub a b c, .sub a' b' c' => Sx.beq a a' && Sx.beq b b' && Sx.beq c c'
  | .cat a b, .cat a' b' => Sx.beq a a' && Sx.beq b b'
  | .idx a b, .idx a' b' => Sx.beq a a' && Sx.beq b b'
  | .app f a, .app f' a' => decide (f = f') && Sx.beq a a'
  | .nil, .nil => true
  | .arg t a b, .arg t' a' b' => decide (t = t') && Sx.beq a a' && Sx.beq b b'
  | _, _ => false

def sameV : Value → Value → Bool
  | .int k n, .int k' n' => decide (k = k') && decide (n = n')
  | .bool a, .bool b => a == b
  | .string a, .string b => decide (a.data.toList = b.data.toList)
  | .slice none a b, .slice none a' b' => decide (a = a') && decide (b = b')
  | .pointer none, .pointer none => true
  | .map none, .map none => true
  | .nilFunc, .nilFunc => true
  | _, _ => false

mutual
def sameT : TC → TC → Bool
  | .sc v, .sc u => sameV v u
  | .sy t e, .sy t' e' => decide (t = t') && Sx.beq e e'
  | .sl s el, .sl s' el' => decide (s = s') && sameE el el'
  | _, _ => false
def sameR : List TC → List TC → Bool
  | [], [] => true
  | a :: r, b :: q => sameT a b && sameR r q
  | _, _ => false
def sameE : List (List TC) → List (List TC) → Bool
  | [], [] => true
  | a :: r, b :: q => sameR a b && sameE r q
  | _, _ => false
end

mutual
/-- The same abstract value? -/
def sameA : AV → AV → Bool
  | .tc a, .tc b => sameT a b
  | .agg a, .agg b => sameAs a b
  | .tuple a, .tuple b => sameAs a b
  | .ptr o s i f v, .ptr o' s' i' f' v' => decide (o = o') && decide (s = s') && decide (i = i') && decide (f = f') && decide (v = v')
  | .slice o s i l c x v, .slice o' s' i' l' c' x' v' => decide (o = o') && decide (s = s') && decide (i = i') && decide (l = l') && decide (c = c') && (x == x') && decide (v = v')
  | .map o, .map o' => decide (o = o')
  | _, _ => false
def sameAs : List AV → List AV → Bool
  | [], [] => true
  | a :: r, b :: q => sameA a b && sameAs r q
  | _, _ => false
end

/-- A new slice that nobody will write: a tree. -/
def buildTreeA (t : TI) (len : Nat) (parts : List (Nat × AV)) (k : AV → Out) : Out :=
  match t.under with
  | .slice e => match tinfo C e with
    | some et => match zeroCellsA et with
      | some z => cond (decide (len * et.size ≤ 2 ^ 24) && decide (et.size ≠ 0) && decide (z.length = et.size) && (tcs z).all cellOk) (match fillRows (List.replicate len (tcs z)) parts with
        | some rows => match mapO asTC rows with
          | some l => k (.tc (.sl et.size l))
          | none => .fail
        | none => .fail) .fail
      | none => .fail
    | none => .fail
  | _ => .fail

/-- Is a value made of trees alone? -/
def treePart (v : AV) : Bool := match cellsOfA v with
  | some cs => cs.all isTC
  | none => false

/-- Is an operation quiet: does it leave the memory that is known as it is? (A new slice of trees is one itself.) -/
def quietO (o : Oper) (T : Look) : Bool :=
  match o.op with
  | .alloc _ => false
  | .box .. => false
  | .store .. => false
  | .makeSlice .. => false
  | .makeMap .. => false
  | .mapUpdate .. => false
  | .insert .. => false
  | .buildSlice _ _ parts => (parts.toList.map fun p => (p.1, ev C T p.2)).all fun q => treePart q.2
  | .call { callee := .builtin .append, .. } => false
  | .call { callee := .value f, args, .. } => match target (ev C T f) (args.toList.map (ev C T)) with
    | some (g, as) => C.pure g && as.all isTree
    | none => false
  | _ => true

/-- A quiet operation. -/
def aopQ (call : Caller) (o : Oper) (T : Look) (H : Heap) (k : AV → Out) : Out :=
  match o.op with
  | .buildSlice t len parts => match tinfo C t with
    | some ti => buildTreeA C ti len (parts.toList.map fun p => (p.1, ev C T p.2)) k
    | none => .fail
  | _ => aop C call o T H fun v _ => k v

/-- Does an operation read memory? -/
def readsO (o : Oper) : Bool :=
  match o.op with
  | .load .. => true
  | .lookup .. => true
  | .convert .. => true
  | _ => false

/-- What became of an operation: it was not carried out; it was quiet; it turned memory, so many being ahead. -/
inductive Kd where
  | no | quiet | loud (p : Nat)

/-- Operations of a region that draws its order, in the text's order; the memories that there were. -/
def runD (call : Caller) (ops : Array Oper) : List Oper → Tmps → Heap → List Kd → List Heap → (Tmps → List Kd → List Heap → Out) → Out
  | [], T, H, ks, hs, K => K T ks (H :: hs)
  | o :: r, T, H, ks, hs, K => match wantedA ops o (getL T) with
    | none => .fail
    | some g => guardA g
      (cond (quietO C o (getL T)) (aopQ C call o (getL T) H fun v => putK T o.dst v fun T => runD call ops r T H (.quiet :: ks) hs K)
        (aop C call o (getL T) H fun v H' => putK T o.dst v fun T => runD call ops r T H' (.loud hs.length :: ks) (H :: hs) K))
      (putK T o.dst undefA fun T => runD call ops r T H (.no :: ks) hs K)

/-- What an operation waits for. -/
def preds (o : Oper) : List Nat := o.after.toList.filterMap fun e => cond (Region.binds .any e) (some e.on) none

def dstIn (o : Oper) (l : List Tmp) : Bool := match o.dst with | some d => l.contains d | none => false

/-- May an operation stand at place i behind, or ahead of, another one? -/
def okPair (ops : Array Oper) (i : Nat) (o : Oper) (j : Nat) (p : Oper) : Bool :=
  (!dstIn p (o.looksAt ops) || (!decide (i = j) && (preds o).contains j) || (!readsO o && !decide (i = j) && (preds p).contains i)) && (decide (i = j) || match o.dst, p.dst with | some d, some e => !decide (d = e) | _, _ => true)

/-- Whatever an operation looks at was reckoned by one that it waits for; what it waits for stands ahead of it. -/
def okOps (ops : Array Oper) : Bool :=
  Region.noSelect ops && ops.toList.zipIdx.all fun (o, i) => (preds o).all (fun j => decide (j < i)) && ops.toList.zipIdx.all fun (p, j) => okPair ops i o j p

/-- All that an operation waits for, in the end: as bits. -/
def maskOf (ms : List Nat) (l : List Nat) : Nat := l.foldl (fun s j => Nat.lor s (Nat.lor (2 ^ j) (ms.getD j 0))) 0

def masks : List Oper → List Nat → List Nat
  | [], ms => ms
  | o :: r, ms => masks r (ms ++ [maskOf ms (preds o)])

/-- The operations that turned memory wait one for the other. -/
def chainD (ms : List Nat) (ks : List Kd) : Bool :=
  (ms.zip ks).all fun (m, k) => match k with
    | .loud (p + 1) => ks.zipIdx.any fun (x : Kd × Nat) => match x.1 with | .loud q => decide (q = p) && Nat.testBit m x.2 | _ => false
    | _ => true

/-- From which memory on an operation may come up, and up to which. -/
def loD (ks : List Kd) (m : Nat) : Nat := ks.zipIdx.foldl (fun (a : Nat) (x : Kd × Nat) => match x.1 with | .loud q => cond (Nat.testBit m x.2) (max a (q + 1)) a | _ => a) 0
def hiD (ms : List Nat) (ks : List Kd) (i m : Nat) : Nat := (ms.zip ks).foldl (fun (a : Nat) (x : Nat × Kd) => match x.2 with | .loud q => cond (Nat.testBit x.1 i) (min a q) a | _ => a) m

def checkAt (call : Caller) (o : Oper) (T : Look) (v : AV) : List Heap → Out → Out
  | [], k => k
  | H :: r, k => aopQ C call o T H fun u => cond (sameA u v) (checkAt call o T v r k) .fail

def checksD (call : Caller) (ms : List Nat) (T : Tmps) (ks : List Kd) (hl : List Heap) : List (Oper × Kd) → Nat → Out → Out
  | [], _, k => k
  | (o, kd) :: r, i, k => match kd with
    | .quiet => match readsO o, o.dst with
      | true, some d => checkAt C call o (getL T) (T.getD d undefA) ((hl.take (hiD ms ks i hl.length + 1)).drop (loD ks (ms.getD i 0))) (checksD call ms T ks hl r (i + 1) k)
      | true, none => .fail
      | false, _ => checksD call ms T ks hl r (i + 1) k
    | _ => checksD call ms T ks hl r (i + 1) k

/-- A region that draws its order. -/
def aopsD (call : Caller) (M : Nat) (ops : Array Oper) (T : Tmps) (H : Heap) (K : Tmps → Heap → Out) : Out :=
  cond (okOps ops && ops.toList.all fun o => match o.dst with | some d => !isLoc M d | none => true) (runD C call ops ops.toList T H [] [] fun T' ks hs => match hs with
    | [] => .fail
    | [H'] => K T' H'
    | H' :: _ => cond (chainD (masks ops.toList []) ks.reverse) (checksD C call (masks ops.toList []) T' ks.reverse hs.reverse (ops.toList.zip ks.reverse) 0 (K T' H')) .fail) .fail

inductive AEx where
  | normal | exit (id : Nat) | goto (l : Nat) | ret

/-! ### what a loop's round forgets -/
def tmpsOf (l : List Operand) : List Tmp := l.filterMap fun | .tmp t => some t | _ => none

/-- (seen so far, written first): in the text's order. -/
def firsts : Code → List Tmp × List Tmp → List Tmp × List Tmp
  | .region _ ops _, acc => ops.toList.foldl (fun acc o =>
      let rd := tmpsOf o.op.operands.toList ++ (match o.guard with | some (j, _) => ((ops[j]?).bind (·.dst)).toList | none => [])
      let seen := rd ++ acc.1
      match o.dst with
      | some d => if seen.contains d then (seen, acc.2) else (d :: seen, d :: acc.2)
      | none => (seen, acc.2)) acc
  | .seq a b, acc => firsts b (firsts a acc)
  | .cond c a b, acc => firsts b (firsts a (tmpsOf [c] ++ acc.1, acc.2))
  | .block _ b, acc => firsts b acc
  | .loop b, acc => firsts b acc
  | .scope b, acc => firsts b acc
  | _, acc => acc

def scrubOf (nm : Array String) (body : Code) : List Tmp := (firsts body ([], [])).2.filter fun t => nm.getD t "" == ""

def scrub (l : List Tmp) (T : Tmps) : Tmps := l.foldl (fun T t => T.set t .any) T

/-- Does a value lead to no object from n on? -/
def lowA : Nat → Nat → AV → Bool
  | _, _, .tc _ => true
  | _, _, .any => true
  | _, _, .vptr .. => true
  | _, n, .ptr o .. => decide (o < n)
  | _, n, .slice o .. => decide (o < n)
  | _, n, .map o => decide (o < n)
  | d + 1, n, .agg cs => cs.all (lowA d n)
  | d + 1, n, .tuple cs => cs.all (lowA d n)
  | d + 1, n, .func _ first cap => first.all (lowA d n) && cap.all (lowA d n)
  | 0, _, _ => false

def lowObj (n : Nat) : AObj → Bool
  | .tcells .. => true
  | .cells _ el => el.all fun r => r.all (lowA 4 n)
  | .map es => es.all fun e => lowA 4 n e.2

def trunc (n : Nat) (T : Tmps) (H : Heap) : Heap :=
  if T.all (lowA 4 n) && (H.take n).all (lowObj n) then H.take n else H

def roundT (sym : Bool) (sl : List Tmp) (T : Tmps) : Tmps := match sym with | true => scrub sl T | false => T
def roundH (sym : Bool) (n0 : Nat) (T : Tmps) (H : Heap) : Heap := match sym with | true => trunc n0 T H | false => H

def iter (body : Tmps → Heap → (AEx → Tmps → Heap → Out) → Out) (sl : List Tmp) (n0 : Nat) (sym : Bool) : Nat → Tmps → Heap → (AEx → Tmps → Heap → Out) → Out
  | 0, _, _, _ => .fail
  | n + 1, T, H, K =>
    body (roundT sym sl T) (roundH sym n0 (roundT sym sl T) H) fun e T2 H2 => match e with
      | .normal => iter body sl n0 sym n T2 H2 K
      | e => K e T2 H2

/-- Is a label in a row of code? -/
def hasL (l : Nat) : Code → Bool
  | .seq a b => hasL l a || hasL l b
  | .label l' => l' == l
  | _ => false

/-- A scope: by a goto to a label of its own the run goes on there. -/
def iterS (body : Option Nat → Tmps → Heap → (AEx → Tmps → Heap → Out) → Out) (has : Nat → Bool) : Nat → Option Nat → Tmps → Heap → (AEx → Tmps → Heap → Out) → Out
  | 0, _, _, _, _ => .fail
  | n + 1, m, T, H, K => body m T H fun e T2 H2 => match e with
    | .goto l => cond (has l) (iterS body has n (some l) T2 H2 K) (K (.goto l) T2 H2)
    | e => K e T2 H2

/-- Which temporaries one region alone uses: the list is not used. -/
def locMask (fn : Func) (c : Code) : Nat := 0

/-- The temporaries at a call's begin. -/
def initT (M : Nat) (args : List AV) (n : Nat) : Tmps := args ++ (List.range' args.length (n - args.length)).map fun i => cond (isLoc M i) .any undefA

/-- Code from its begin on, or from a label on. -/
def acodeM (call : Caller) (nm : Array String) (M : Nat) : Code → Option Nat → Tmps → Heap → (AEx → Tmps → Heap → Out) → Out
  | .skip, none, T, H, K => K .normal T H
  | .label _, none, T, H, K => K .normal T H
  | .region _ ops draw, none, T, H, K => match draw with
    | false => aops C call M ops ops.toList .nil T H fun T' H' => K .normal T' H'
    | true => cond (C.P.follows .mixedOrders) (aopsD C call M ops T H fun T' H' => K .normal T' H') .fail
  | .seq a b, none, T, H, K => acodeM call nm M a none T H fun e T' H' => match e with
    | .normal => acodeM call nm M b none T' H' K
    | e => K e T' H'
  | .cond c a b, none, T, H, K => condA (ev C (getL T) c) (acodeM call nm M a none T H K) (acodeM call nm M b none T H K)
  | .block id b, none, T, H, K => acodeM call nm M b none T H fun e T' H' => match e with
    | .exit id' => cond (decide (id' = id)) (K .normal T' H') (K (.exit id') T' H')
    | e => K e T' H'
  | .loop b, none, T, H, K => iter (acodeM call nm M b none) (match C.sym with | true => scrubOf nm b | false => []) H.length C.sym C.L T H K
  | .scope b, none, T, H, K => iterS (acodeM call nm M b) (fun l => hasL l b) C.L none T H K
  | .exit id, none, T, H, K => K (.exit id) T H
  | .ret, none, T, H, K => K .ret T H
  | .goto l, none, T, H, K => K (.goto l) T H
  | .seq a b, some l, T, H, K => match hasL l a with
    | true => acodeM call nm M a (some l) T H fun e T' H' => match e with
      | .normal => acodeM call nm M b none T' H' K
      | e => K e T' H'
    | false => acodeM call nm M b (some l) T H K
  | .label l', some l, T, H, K => cond (l' == l) (K .normal T H) .fail
  | _, _, _, _, _ => .fail

abbrev acode (call : Caller) (nm : Array String) (M : Nat) (c : Code) (T : Tmps) (H : Heap) (K : AEx → Tmps → Heap → Out) : Out := acodeM C call nm M c none T H K

def resultsA (fn : Func) (T : Tmps) (H : Heap) (k : AV → Out) : Out :=
  go fn.results.toList []
where
  go : List ResultVar → List AV → Out
    | [], acc => match acc with
      | [v] => k v
      | vs => k (.tuple vs.reverse)
    | .tmp t :: r, acc => go r (T.getD t undefA :: acc)
    | .cell a t :: r, acc => match tinfo C t with
      | some ti => loadA H ti (T.getD a undefA) fun v => go r (v :: acc)
      | none => .fail

def acall : Nat → Caller
  | 0, _, _, _, _ => .fail
  | d + 1, f, args, H, k => match C.P.funcs[f]? with
    | none => .fail
    | some fn => match fn.body with
      | none => .fail
      | some c => cond (decide (locMask fn c < Nat.pow 2 fn.ntmps) && decide (locMask fn c % Nat.pow 2 args.length = 0)) (acode C (acall d) fn.tmpNames (locMask fn c) c (initT (locMask fn c) args fn.ntmps) H fun e T' H' => match e with
        | .normal => resultsA C fn T' H' fun v => k v H'
        | .ret => resultsA C fn T' H' fun v => k v H'
        | _ => .fail) .fail

end
end Go.Proofs.Ytamhmfdbnlkmkaa

/- A fast evaluator: code is made ready once (paths, sizes, kinds), and is run by recursors whose arms are closed terms. SyFastOk shows that it tells what the evaluator tells. -/
set_option linter.unusedVariables false
namespace Go.Proofs.Ytamhmfdbnlkmkaa
open Go

/-- What code is made ready by. -/
structure Base where
  P : Program
  glob : Nat → Option (Nat × List (List TC))
  L : Nat

def Base.ctx (B : Base) : Ctx := { P := B.P, L := B.L, pure := fun _ => false, glob := B.glob, sym := false, summ := fun _ => none }
def baseOf (C : Ctx) : Base := ⟨C.P, C.glob, C.L⟩

/-! ### temporaries -/
/-- How temporaries are kept. -/
structure EnvO (σ : Type) where
  cap : Nat
  get : Nat → σ → AV
  set : Nat → AV → σ → σ
  enc : (Nat → AV) → σ

structure EnvOk {σ : Type} (E : EnvO σ) : Prop where
  get_enc : ∀ n f, n < E.cap → E.get n (E.enc f) = f n
  set_enc : ∀ n v f, n < E.cap → E.set n v (E.enc f) = E.enc fun m => if m = n then v else f m

def EnvO.look {σ : Type} (E : EnvO σ) (F : σ) : Look := fun n => cond (Nat.blt n E.cap) (E.get n F) undefA

def kc {σ : Type} (v : AV) : σ → AV := fun _ => v

def cO {σ : Type} (E : EnvO σ) (B : Base) : Operand → σ → AV
  | .tmp n => cond (Nat.blt n E.cap) (E.get n) (kc undefA)
  | .const v => kc (ofVal v)
  | .global g => kc (match B.glob g with | some (s, el) => .vptr s el 0 0 | none => .any)
  | .func f => kc (.tc (.sc (.func (.func f) #[] #[])))

noncomputable def evs {σ : Type} : List (σ → AV) → σ → List AV := @List.rec (σ → AV) (fun _ => σ → List AV) (fun _ => []) (fun x _ ih F => x F :: ih F)

/-! ### lists -/
noncomputable def none1 {α : Type} : (α → Out) → Out → Out := fun _ z => z
noncomputable def some1 {α : Type} (a : α) : (α → Out) → Out → Out := fun k _ => k a
noncomputable def nthL {α : Type} : List α → Nat → (α → Out) → Out → Out :=
  @List.rec α (fun _ => Nat → (α → Out) → Out → Out) (fun _ => none1) (fun a _ ih n => @Nat.rec (fun _ => (α → Out) → Out → Out) (some1 a) (fun m _ => ih m) n)
noncomputable def lenL {α : Type} : List α → Nat := @List.rec α (fun _ => Nat) 0 (fun _ _ ih => Nat.succ ih)
noncomputable def setL {α : Type} : List α → Nat → α → List α :=
  @List.rec α (fun _ => Nat → α → List α) (fun _ _ => []) (fun a r ih n x => @Nat.rec (fun _ => List α) (x :: r) (fun m _ => a :: ih m x) n)

/-! ### whole numbers -/
noncomputable def kcode : IntKind → Nat := @IntKind.rec (fun _ => Nat) 0 1 2 3 4 5 6 7
noncomputable def upTo : IntKind → Nat := @IntKind.rec (fun _ => Nat) 128 32768 2147483648 9223372036854775808 256 65536 4294967296 18446744073709551616
noncomputable def downTo : IntKind → Nat := @IntKind.rec (fun _ => Nat) 128 32768 2147483648 9223372036854775808 0 0 0 0

noncomputable def wrapF (k : IntKind) (n : Int) : Int :=
  @Int.rec (fun _ => IntKind → Int) (fun m k => Bool.rec (IntKind.wrap k (Int.ofNat m)) (Int.ofNat m) (Nat.blt m (upTo k))) (fun m k => Bool.rec (IntKind.wrap k (Int.negSucc m)) (Int.negSucc m) (Nat.blt m (downTo k))) n k

noncomputable def int2 {α : Type} (pp : Nat → Nat → α) (pn : Nat → Nat → α) (np : Nat → Nat → α) (nn : Nat → Nat → α) (a b : Int) : α :=
  @Int.rec (fun _ => Int → α) (fun m => @Int.rec (fun _ => α) (pp m) (pn m)) (fun m => @Int.rec (fun _ => α) (np m) (nn m)) a b

noncomputable def addF : Int → Int → Int := @Int.rec (fun _ => Int → Int) (fun m => @Int.rec (fun _ => Int) (fun n => Int.ofNat (Nat.add m n)) (fun n => Int.subNatNat m (Nat.succ n))) (fun m => @Int.rec (fun _ => Int) (fun n => Int.subNatNat n (Nat.succ m)) (fun n => Int.negSucc (Nat.succ (Nat.add m n))))
noncomputable def subF : Int → Int → Int := @Int.rec (fun _ => Int → Int) (fun m => @Int.rec (fun _ => Int) (fun n => Bool.rec (Int.subNatNat m n) (Int.ofNat (Nat.sub m n)) (Nat.ble n m)) (fun n => Int.ofNat (Nat.add m (Nat.succ n)))) (fun m b => Int.sub (Int.negSucc m) b)
noncomputable def mulF : Int → Int → Int := @Int.rec (fun _ => Int → Int) (fun m => @Int.rec (fun _ => Int) (fun n => Int.ofNat (Nat.mul m n)) (fun n => Int.mul (Int.ofNat m) (Int.negSucc n))) (fun m b => Int.mul (Int.negSucc m) b)
noncomputable def eqI : Int → Int → Bool := @Int.rec (fun _ => Int → Bool) (fun m => @Int.rec (fun _ => Bool) (fun n => Nat.beq m n) (fun _ => false)) (fun m => @Int.rec (fun _ => Bool) (fun _ => false) (fun n => Nat.beq m n))
noncomputable def ltI : Int → Int → Bool := @Int.rec (fun _ => Int → Bool) (fun m => @Int.rec (fun _ => Bool) (fun n => Nat.blt m n) (fun _ => false)) (fun m => @Int.rec (fun _ => Bool) (fun _ => true) (fun n => Nat.blt n m))
noncomputable def leI : Int → Int → Bool := @Int.rec (fun _ => Int → Bool) (fun m => @Int.rec (fun _ => Bool) (fun n => Nat.ble m n) (fun _ => false)) (fun m => @Int.rec (fun _ => Bool) (fun _ => true) (fun n => Nat.ble n m))

abbrev KI := IntKind → Int → Int → (AV → Out) → Out → Out

noncomputable def retB (b : Bool) (k : AV → Out) : Out := k (.tc (.sc (.bool b)))

noncomputable def bitsF : IntKind → Nat := @IntKind.rec (fun _ => Nat) 8 16 32 64 8 16 32 64

noncomputable def pp (f : Nat → Nat → Out) (z : Out) (a b : Int) : Out :=
  @Int.rec (fun _ => Out) (fun m => @Int.rec (fun _ => Out) (fun n => f m n) (fun _ => z) b) (fun _ => z) a

/-- Both are below a bound. -/
noncomputable def small2 (u m n : Nat) (x z : Out) : Out := @Bool.rec (fun _ => Out) z (@Bool.rec (fun _ => Out) z x (Nat.blt n u)) (Nat.blt m u)

/-- What is told of two whole numbers of one kind; the last: the slow way. -/
noncomputable def arithF : BinOp → KI := @BinOp.rec (fun _ => KI)
  (fun kx a b k _ => k (.tc (.sc (.int kx (wrapF kx (addF a b))))))
  (fun kx a b k _ => k (.tc (.sc (.int kx (wrapF kx (subF a b))))))
  (fun kx a b k _ => k (.tc (.sc (.int kx (wrapF kx (mulF a b))))))
  (fun kx a b k z => pp (fun m n => @Bool.rec (fun _ => Out) (k (.tc (.sc (.int kx (wrapF kx (Int.ofNat (Nat.div m n))))))) z (Nat.beq n 0)) z a b)
  (fun kx a b k z => pp (fun m n => @Bool.rec (fun _ => Out) (k (.tc (.sc (.int kx (Int.ofNat (Nat.mod m n)))))) z (Nat.beq n 0)) z a b)
  (fun kx a b k z => pp (fun m n => small2 (upTo kx) m n (k (.tc (.sc (.int kx (Int.ofNat (Nat.land m n)))))) z) z a b)
  (fun kx a b k z => pp (fun m n => small2 (upTo kx) m n (k (.tc (.sc (.int kx (Int.ofNat (Nat.lor m n)))))) z) z a b)
  (fun kx a b k z => pp (fun m n => small2 (upTo kx) m n (k (.tc (.sc (.int kx (Int.ofNat (Nat.xor m n)))))) z) z a b)
  (fun _ _ _ _ z => z)
  (fun _ _ _ _ z => z)
  (fun kx a b k z => pp (fun m n => small2 (upTo kx) m n (k (.tc (.sc (.int kx (Int.ofNat (Nat.xor m (Nat.land m n))))))) z) z a b)
  (fun _ a b k _ => retB (eqI a b) k)
  (fun _ a b k _ => retB (Bool.not (eqI a b)) k)
  (fun _ a b k _ => retB (ltI a b) k)
  (fun _ a b k _ => retB (leI a b) k)
  (fun _ a b k _ => retB (ltI b a) k)
  (fun _ a b k _ => retB (leI b a) k)

abbrev KI2 := IntKind → Int → IntKind → Int → (AV → Out) → Out → Out

noncomputable def sameKind (f : KI) : KI2 := fun kx a ky b k z => @Bool.rec (fun _ => Out) z (f kx a b k z) (Nat.beq (kcode kx) (kcode ky))

noncomputable def shlF : KI2 := fun kx a _ b k z => pp (fun m n => @Bool.rec (fun _ => Out) z (k (.tc (.sc (.int kx (wrapF kx (Int.ofNat (Nat.mul m (Nat.pow 2 n)))))))) (Nat.ble n (bitsF kx))) z a b
noncomputable def shrF : KI2 := fun kx a _ b k z => pp (fun m n => @Bool.rec (fun _ => Out) z (k (.tc (.sc (.int kx (Int.ofNat (Nat.div m (Nat.pow 2 n))))))) (Nat.ble n (bitsF kx))) z a b

noncomputable def intF : BinOp → KI2 := @BinOp.rec (fun _ => KI2)
  (sameKind (arithF .add)) (sameKind (arithF .sub)) (sameKind (arithF .mul)) (sameKind (arithF .quo)) (sameKind (arithF .rem))
  (sameKind (arithF .and)) (sameKind (arithF .or)) (sameKind (arithF .xor)) shlF shrF (sameKind (arithF .andNot))
  (sameKind (arithF .eql)) (sameKind (arithF .neq)) (sameKind (arithF .lss)) (sameKind (arithF .leq)) (sameKind (arithF .gtr)) (sameKind (arithF .geq))

/-! ### what a value is -/
abbrev VNum := (IntKind → Int → Out) → (IntKind → Sx → Out) → Out → Out

noncomputable def vlNum : Value → VNum := @Value.rec (fun _ => VNum) (fun _ => PUnit) (fun _ => PUnit)
  (fun _ _ _ z => z) (fun k n f _ _ => f k n) (fun _ _ _ _ z => z) (fun _ _ _ _ _ z => z) (fun _ _ _ z => z) (fun _ _ _ z => z) (fun _ _ _ _ _ z => z)
  (fun _ _ _ z => z) (fun _ _ _ z => z) (fun _ _ _ _ _ _ _ z => z) (fun _ _ z => z) (fun _ _ _ _ _ z => z) (fun _ _ z => z) (fun _ _ _ _ z => z) (fun _ _ _ _ z => z)
  (fun _ _ => ⟨⟩) ⟨⟩ (fun _ _ _ _ => ⟨⟩)

noncomputable def syNum : STy → Sx → VNum := @STy.rec (fun _ => Sx → VNum) (fun k e _ g _ => g k e) (fun _ _ _ z => z) (fun _ _ _ z => z)

noncomputable def tcNum : TC → VNum := @TC.rec (fun _ => VNum) (fun _ => PUnit) (fun _ => PUnit)
  (fun v => vlNum v) (fun _ _ _ _ _ z => z) (fun t e => syNum t e) ⟨⟩ (fun _ _ _ _ => ⟨⟩) ⟨⟩ (fun _ _ _ _ => ⟨⟩)

noncomputable def vNum : AV → VNum := @AV.rec (fun _ => VNum) (fun _ => PUnit)
  (fun c => tcNum c) (fun _ _ z => z) (fun _ _ _ _ z => z) (fun _ _ _ _ z => z) (fun _ _ _ _ _ _ _ z => z) (fun _ _ _ _ _ _ z => z) (fun _ _ _ _ _ _ _ _ _ z => z) (fun _ _ _ z => z)
  (fun _ _ _ _ _ _ _ z => z) ⟨⟩ (fun _ _ _ _ => ⟨⟩)

abbrev VB := Out → Out → Out

noncomputable def vlBool : Value → VB := @Value.rec (fun _ => VB) (fun _ => PUnit) (fun _ => PUnit)
  (fun b x y => @Bool.rec (fun _ => Out) y x b) (fun _ _ _ _ => .fail) (fun _ _ _ _ => .fail) (fun _ _ _ _ _ => .fail) (fun _ _ _ => .fail) (fun _ _ _ => .fail) (fun _ _ _ _ _ => .fail)
  (fun _ _ _ => .fail) (fun _ _ _ => .fail) (fun _ _ _ _ _ _ _ => .fail) (fun _ _ => .fail) (fun _ _ _ _ _ => .fail) (fun _ _ => .fail) (fun _ _ _ _ => .fail) (fun _ _ _ _ => .fail)
  (fun _ _ => ⟨⟩) ⟨⟩ (fun _ _ _ _ => ⟨⟩)

noncomputable def syBool : STy → Sx → VB := @STy.rec (fun _ => Sx → VB) (fun _ _ _ _ => .fail) (fun e x y => .sel e x y) (fun _ _ _ => .fail)

noncomputable def tcBool : TC → VB := @TC.rec (fun _ => VB) (fun _ => PUnit) (fun _ => PUnit)
  (fun v => vlBool v) (fun _ _ _ _ _ => .fail) (fun t e => syBool t e) ⟨⟩ (fun _ _ _ _ => ⟨⟩) ⟨⟩ (fun _ _ _ _ => ⟨⟩)

/-- Both ways of a test. -/
noncomputable def condF : AV → VB := @AV.rec (fun _ => VB) (fun _ => PUnit)
  (fun c => tcBool c) (fun _ _ => .fail) (fun _ _ _ _ => .fail) (fun _ _ _ _ => .fail) (fun _ _ _ _ _ _ _ => .fail) (fun _ _ _ _ _ _ => .fail) (fun _ _ _ _ _ _ _ _ _ => .fail) (fun _ _ _ => .fail)
  (fun _ _ _ _ _ _ _ => .fail) ⟨⟩ (fun _ _ _ _ => ⟨⟩)

/-- Both ways of a guard. -/
abbrev VG := Bool → Out → Out → Out

noncomputable def vlG : Value → VG := @Value.rec (fun _ => VG) (fun _ => PUnit) (fun _ => PUnit)
  (fun b w x y => @Bool.rec (fun _ => Out) (@Bool.rec (fun _ => Out) x y b) (@Bool.rec (fun _ => Out) y x b) w) (fun _ _ _ _ z => z) (fun _ _ _ _ z => z) (fun _ _ _ _ _ z => z) (fun _ _ _ z => z) (fun _ _ _ z => z) (fun _ _ _ _ _ z => z)
  (fun _ _ _ z => z) (fun _ _ _ z => z) (fun _ _ _ _ _ _ _ z => z) (fun _ _ z => z) (fun _ _ _ _ _ z => z) (fun _ _ z => z) (fun _ _ _ _ z => z) (fun _ _ _ _ z => z)
  (fun _ _ => ⟨⟩) ⟨⟩ (fun _ _ _ _ => ⟨⟩)

noncomputable def syG : STy → Sx → VG := @STy.rec (fun _ => Sx → VG) (fun _ _ _ _ z => z) (fun e w x y => @Bool.rec (fun _ => Out) (.sel e y x) (.sel e x y) w) (fun _ _ _ z => z)

noncomputable def tcG : TC → VG := @TC.rec (fun _ => VG) (fun _ => PUnit) (fun _ => PUnit)
  (fun v => vlG v) (fun _ _ _ _ _ z => z) (fun t e => syG t e) ⟨⟩ (fun _ _ _ _ => ⟨⟩) ⟨⟩ (fun _ _ _ _ => ⟨⟩)

noncomputable def guardF : AV → VG := @AV.rec (fun _ => VG) (fun _ => PUnit)
  (fun c => tcG c) (fun _ _ _ => .fail) (fun _ _ _ _ z => z) (fun _ _ _ _ z => z) (fun _ _ _ _ _ _ _ z => z) (fun _ _ _ _ _ _ z => z) (fun _ _ _ _ _ _ _ _ _ z => z) (fun _ _ _ z => z)
  (fun _ _ _ _ _ _ _ z => z) ⟨⟩ (fun _ _ _ _ => ⟨⟩)

/-- Does a value lead to no object? -/
noncomputable def tcB : AV → Bool := @AV.rec (fun _ => Bool) (fun _ => PUnit)
  (fun _ => true) false (fun _ _ => false) (fun _ _ => false) (fun _ _ _ _ _ => false) (fun _ _ _ _ => false) (fun _ _ _ _ _ _ _ => false) (fun _ => false)
  (fun _ _ _ _ _ => false) ⟨⟩ (fun _ _ _ _ => ⟨⟩)
noncomputable def allB {α : Type} (p : α → Bool) : List α → Bool := @List.rec α (fun _ => Bool) true (fun a _ ih => @Bool.rec (fun _ => Bool) false ih (p a))
noncomputable def treeF : AV → Bool := @AV.rec (fun _ => Bool) (fun _ => PUnit)
  (fun _ => true) true (fun cs _ => allB tcB cs) (fun _ _ => false) (fun _ _ _ _ _ => false) (fun _ _ _ _ => true) (fun _ _ _ _ _ _ _ => false) (fun _ => false)
  (fun _ _ _ _ _ => false) ⟨⟩ (fun _ _ _ _ => ⟨⟩)

/-- A result as a tree. -/
abbrev VF := Heap → (AV → Out) → Out
noncomputable def slowFz (v : AV) : VF := fun H k => match fzR H v with | some t => k t | none => .fail
noncomputable def fzF : AV → VF := @AV.rec (fun _ => VF) (fun _ => PUnit)
  (fun c _ k => k (.tc c)) (fun _ k => k .any) (fun cs _ H k => @Bool.rec (fun _ => Out) (slowFz (.agg cs) H k) (k (.agg cs)) (allB tcB cs))
  (fun vs _ H k => @Bool.rec (fun _ => Out) (slowFz (.tuple vs) H k) (k (.tuple vs)) (allB treeF vs))
  (fun o s i f ver => slowFz (.ptr o s i f ver)) (fun s el i f _ k => k (.vptr s el i f)) (fun o s i len cap ex ver => slowFz (.slice o s i len cap ex ver)) (fun o => slowFz (.map o))
  (fun fn a b _ _ => slowFz (.func fn a b)) ⟨⟩ (fun _ _ _ _ => ⟨⟩)

/-! ### memory -/
abbrev KV := AV → Heap → Out

abbrev LO := Bool → Nat → Nat → Nat → Nat → Nat → Heap → KV → Out

noncomputable def mapL {α β : Type} (f : α → β) (l : List α) : List β := @List.rec α (fun _ => List β) [] (fun a _ ih => f a :: ih) l

noncomputable def ldRow {α : Type} (f1 : α → AV) (agg : Bool) (size : Nat) (row : List α) (f : Nat) (H : Heap) (k : KV) : Out :=
  @Bool.rec (fun _ => Out) (nthL row f (fun c => k (f1 c) H) .fail)
    (@Bool.rec (fun _ => Out) (match span row f size with | some r => k (.agg (r.map f1)) H | none => .fail)
      (@Bool.rec (fun _ => Out) (match span row f size with | some r => k (.agg (r.map f1)) H | none => .fail) (k (.agg (mapL f1 row)) H) (Nat.beq (lenL row) size)) (Nat.beq f 0)) agg

noncomputable def ldObj : AObj → LO := @AObj.rec (fun _ => LO)
  (fun s' el agg size s i f ver H k => @Bool.rec (fun _ => Out) .fail (@Bool.rec (fun _ => Out) .fail (nthL el i (fun row => ldRow .tc agg size row f H k) .fail) (Nat.beq ver (lenL el))) (Nat.beq s' s))
  (fun s' el agg size s i f ver H k => @Bool.rec (fun _ => Out) .fail (@Bool.rec (fun _ => Out) .fail (nthL el i (fun row => ldRow (fun c => c) agg size row f H k) .fail) (Nat.beq ver (lenL el))) (Nat.beq s' s))
  (fun _ _ _ _ _ _ _ _ _ => .fail)

abbrev LV := Bool → Nat → Heap → KV → Out
noncomputable def ldV : AV → LV := @AV.rec (fun _ => LV) (fun _ => PUnit)
  (fun _ _ _ _ _ => .fail) (fun _ _ _ _ => .fail) (fun _ _ _ _ _ _ => .fail) (fun _ _ _ _ _ _ => .fail)
  (fun o s i f ver agg size H k => nthL H o (fun obj => ldObj obj agg size s i f ver H k) .fail)
  (fun s el i f agg size H k => nthL el i (fun row => ldRow .tc agg size row f H k) .fail)
  (fun _ _ _ _ _ _ _ _ _ _ _ => .fail) (fun _ _ _ _ _ => .fail) (fun _ _ _ _ _ _ _ _ _ => .fail) ⟨⟩ (fun _ _ _ _ => ⟨⟩)

/-- A value that lies in one cell. -/
noncomputable def vlCell : Value → Bool := @Value.rec (fun _ => Bool) (fun _ => PUnit) (fun _ => PUnit)
  (fun _ => true) (fun _ _ => true) (fun _ _ => true) (fun _ _ _ => true) (fun _ => true) (fun _ => true) (fun _ _ _ => true)
  (fun _ => true) (fun _ => true) (fun _ _ _ _ _ => true) true (fun _ _ _ => true) true (fun _ _ => false) (fun _ _ => false)
  (fun _ _ => ⟨⟩) ⟨⟩ (fun _ _ _ _ => ⟨⟩)
noncomputable def tcCell : TC → Bool := @TC.rec (fun _ => Bool) (fun _ => PUnit) (fun _ => PUnit)
  (fun v => vlCell v) (fun _ _ _ => true) (fun _ _ => true) ⟨⟩ (fun _ _ _ _ => ⟨⟩) ⟨⟩ (fun _ _ _ _ => ⟨⟩)

/-- Is it one, and a tree? -/
abbrev VC := (TC → Out) → (AV → Out) → Out → Out
noncomputable def cellF : AV → VC := @AV.rec (fun _ => VC) (fun _ => PUnit)
  (fun c kt _ z => @Bool.rec (fun _ => Out) z (kt c) (tcCell c)) (fun _ _ z => z) (fun _ _ _ _ z => z) (fun _ _ _ _ z => z)
  (fun o s i f ver _ ka _ => ka (.ptr o s i f ver)) (fun s el i f _ ka _ => ka (.vptr s el i f)) (fun o s i len cap ex ver _ ka _ => ka (.slice o s i len cap ex ver)) (fun o _ ka _ => ka (.map o))
  (fun fn a b _ _ _ ka _ => ka (.func fn a b)) ⟨⟩ (fun _ _ _ _ => ⟨⟩)

/-! ### cells of a value -/
abbrev CV := (TC → Out) → (AV → Out) → (List AV → Out) → Out → Out
noncomputable def cellsF : AV → CV := @AV.rec (fun _ => CV) (fun _ => PUnit)
  (fun c kt _ _ z => @Bool.rec (fun _ => Out) z (kt c) (tcCell c)) (fun _ _ _ z => z) (fun cs _ _ _ kl _ => kl cs) (fun _ _ _ _ _ z => z)
  (fun o s i f ver _ ka _ _ => ka (.ptr o s i f ver)) (fun s el i f _ ka _ _ => ka (.vptr s el i f)) (fun o s i len cap ex ver _ ka _ _ => ka (.slice o s i len cap ex ver)) (fun o _ ka _ _ => ka (.map o))
  (fun fn a b _ _ _ ka _ _ => ka (.func fn a b)) ⟨⟩ (fun _ _ _ _ => ⟨⟩)

noncomputable def okCell : AV → Bool := @AV.rec (fun _ => Bool) (fun _ => PUnit)
  (fun c => tcCell c) false (fun _ _ => false) (fun _ _ => false) (fun _ _ _ _ _ => true) (fun _ _ _ _ => true) (fun _ _ _ _ _ _ _ => true) (fun _ => true) (fun _ _ _ _ _ => true) ⟨⟩ (fun _ _ _ _ => ⟨⟩)

noncomputable def appL {α : Type} (l : List α) (x : α) : List α := @List.rec α (fun _ => List α) [x] (fun a _ ih => a :: ih) l

/-- Cells that are trees. -/
noncomputable def asTCK : List AV → (List TC → Out) → Out → Out := @List.rec AV (fun _ => (List TC → Out) → Out → Out) (fun kt _ => kt [])
  (fun v _ ih kt z => @AV.rec (fun _ => ((List TC → Out) → Out → Out) → (List TC → Out) → Out → Out) (fun _ => PUnit)
    (fun c ih kt z => ih (fun l => kt (c :: l)) z) (fun _ _ z => z) (fun _ _ _ _ z => z) (fun _ _ _ _ z => z) (fun _ _ _ _ _ _ _ z => z) (fun _ _ _ _ _ _ z => z) (fun _ _ _ _ _ _ _ _ _ z => z) (fun _ _ _ z => z)
    (fun _ _ _ _ _ _ _ z => z) ⟨⟩ (fun _ _ _ _ => ⟨⟩) v ih kt z)
noncomputable def rowsTCK : List (List AV) → (List (List TC) → Out) → Out → Out := @List.rec (List AV) (fun _ => (List (List TC) → Out) → Out → Out) (fun kt _ => kt [])
  (fun r _ ih kt z => asTCK r (fun c => ih (fun l => kt (c :: l)) z) z)
noncomputable def newObj (s : Nat) (rows : List (List AV)) (k : AObj → Out) : Out := rowsTCK rows (fun t => k (.tcells s t)) (k (.cells s rows))

abbrev SO := AV → Nat → Nat → Nat → Nat → Nat → Nat → Heap → KV → Out → Out

/-- One cell is written, or a whole row. -/
noncomputable def stObj : AObj → SO := @AObj.rec (fun _ => SO)
  (fun s' el v size o s i f ver H k z => @Bool.rec (fun _ => Out) z (@Bool.rec (fun _ => Out) z (nthL el i (fun row =>
    cellsF v (fun c => @Bool.rec (fun _ => Out) z (@Bool.rec (fun _ => Out) z (k undefA (setL H o (.tcells s (setL el i (setL row f c))))) (Nat.beq size 1)) (Nat.blt f (lenL row)))
      (fun _ => z)
      (fun cs => @Bool.rec (fun _ => Out) z (@Bool.rec (fun _ => Out) z (@Bool.rec (fun _ => Out) z (@Bool.rec (fun _ => Out) z
        (asTCK cs (fun c => k undefA (setL H o (.tcells s (setL el i c)))) z) (allB okCell cs)) (Nat.beq (lenL row) size)) (Nat.beq (lenL cs) size)) (Nat.beq f 0)) z) z) (Nat.beq ver (lenL el))) (Nat.beq s' s))
  (fun s' el v size o s i f ver H k z => @Bool.rec (fun _ => Out) z (@Bool.rec (fun _ => Out) z (nthL el i (fun row =>
    cellsF v (fun c => @Bool.rec (fun _ => Out) z (@Bool.rec (fun _ => Out) z (k undefA (setL H o (.cells s (setL el i (setL row f (.tc c)))))) (Nat.beq size 1)) (Nat.blt f (lenL row)))
      (fun v => @Bool.rec (fun _ => Out) z (@Bool.rec (fun _ => Out) z (k undefA (setL H o (.cells s (setL el i (setL row f v))))) (Nat.beq size 1)) (Nat.blt f (lenL row)))
      (fun cs => @Bool.rec (fun _ => Out) z (@Bool.rec (fun _ => Out) z (@Bool.rec (fun _ => Out) z (@Bool.rec (fun _ => Out) z
        (k undefA (setL H o (.cells s (setL el i cs)))) (allB okCell cs)) (Nat.beq (lenL row) size)) (Nat.beq (lenL cs) size)) (Nat.beq f 0)) z) z) (Nat.beq ver (lenL el))) (Nat.beq s' s))
  (fun _ _ _ _ _ _ _ _ _ _ z => z)

abbrev SV := AV → Nat → Heap → KV → Out → Out
noncomputable def stV : AV → SV := @AV.rec (fun _ => SV) (fun _ => PUnit)
  (fun _ _ _ _ _ z => z) (fun _ _ _ _ z => z) (fun _ _ _ _ _ _ z => z) (fun _ _ _ _ _ _ z => z)
  (fun o s i f ver v size H k z => nthL H o (fun obj => stObj obj v size o s i f ver H k z) z)
  (fun _ _ _ _ _ _ _ _ z => z) (fun _ _ _ _ _ _ _ _ _ _ _ z => z) (fun _ _ _ _ _ z => z) (fun _ _ _ _ _ _ _ _ _ z => z) ⟨⟩ (fun _ _ _ _ => ⟨⟩)

abbrev FV := Nat → (AV → Out) → Out
noncomputable def faV : AV → FV := @AV.rec (fun _ => FV) (fun _ => PUnit)
  (fun _ _ _ => .fail) (fun _ _ => .fail) (fun _ _ _ _ => .fail) (fun _ _ _ _ => .fail)
  (fun o s i f ver off k => k (.ptr o s i (Nat.add f off) ver)) (fun s el i f off k => k (.vptr s el i (Nat.add f off)))
  (fun _ _ _ _ _ _ _ _ _ => .fail) (fun _ _ _ => .fail) (fun _ _ _ _ _ _ _ => .fail) ⟨⟩ (fun _ _ _ _ => ⟨⟩)

abbrev DV := Bool → Nat → Nat → (AV → Out) → Out
noncomputable def fdV : AV → DV := @AV.rec (fun _ => DV) (fun _ => PUnit)
  (fun _ _ _ _ _ => .fail) (fun _ _ _ _ => .fail)
  (fun cs _ agg size off k => @Bool.rec (fun _ => Out) (nthL cs off k .fail) (match span cs off size with | some r => k (.agg r) | none => .fail) agg)
  (fun _ _ _ _ _ _ => .fail) (fun _ _ _ _ _ _ _ _ _ => .fail) (fun _ _ _ _ _ _ _ _ => .fail) (fun _ _ _ _ _ _ _ _ _ _ _ => .fail) (fun _ _ _ _ _ => .fail) (fun _ _ _ _ _ _ _ _ _ => .fail) ⟨⟩ (fun _ _ _ _ => ⟨⟩)

abbrev EV := Nat → (AV → Out) → Out
noncomputable def exV : AV → EV := @AV.rec (fun _ => EV) (fun _ => PUnit)
  (fun _ _ _ => .fail) (fun _ _ => .fail) (fun _ _ _ _ => .fail) (fun vs _ i k => nthL vs i k .fail)
  (fun _ _ _ _ _ _ _ => .fail) (fun _ _ _ _ _ _ => .fail) (fun _ _ _ _ _ _ _ _ _ => .fail) (fun _ _ _ => .fail) (fun _ _ _ _ _ _ _ => .fail) ⟨⟩ (fun _ _ _ _ => ⟨⟩)

/-! ### a slice's place -/
abbrev IV := Nat → Int → (AV → Out) → Out → Out
noncomputable def tcIdx : TC → IV := @TC.rec (fun _ => IV) (fun _ => PUnit) (fun _ => PUnit)
  (fun _ _ _ _ z => z)
  (fun s el _ es n k z => @Int.rec (fun _ => Out) (fun m => @Bool.rec (fun _ => Out) z (@Bool.rec (fun _ => Out) z (k (.vptr s el m 0)) (Nat.blt m (lenL el))) (Nat.beq es s)) (fun _ => z) n)
  (fun _ _ _ _ _ z => z) ⟨⟩ (fun _ _ _ _ => ⟨⟩) ⟨⟩ (fun _ _ _ _ => ⟨⟩)
noncomputable def iaV : AV → IV := @AV.rec (fun _ => IV) (fun _ => PUnit)
  (fun c => tcIdx c) (fun _ _ _ z => z) (fun _ _ _ _ _ z => z) (fun _ _ _ _ _ z => z) (fun _ _ _ _ _ _ _ _ z => z) (fun _ _ _ _ _ _ _ z => z)
  (fun o s i len _ _ ver es n k z => @Int.rec (fun _ => Out) (fun m => @Bool.rec (fun _ => Out) z (@Bool.rec (fun _ => Out) z (k (.ptr o s (Nat.add i m) 0 ver)) (Nat.blt m len)) (Nat.beq es s)) (fun _ => z) n)
  (fun _ _ _ _ z => z) (fun _ _ _ _ _ _ _ _ z => z) ⟨⟩ (fun _ _ _ _ => ⟨⟩)

/-- How many there are. -/
abbrev NV := (AV → Out) → Out → Out
noncomputable def tcLen : TC → NV := @TC.rec (fun _ => NV) (fun _ => PUnit) (fun _ => PUnit)
  (fun _ _ z => z) (fun _ el _ k _ => k (.tc (.sc (.int .i64 (Int.ofNat (lenL el)))))) (fun _ _ _ z => z) ⟨⟩ (fun _ _ _ _ => ⟨⟩) ⟨⟩ (fun _ _ _ _ => ⟨⟩)
noncomputable def lenV : AV → NV := @AV.rec (fun _ => NV) (fun _ => PUnit)
  (fun c => tcLen c) (fun _ z => z) (fun _ _ _ z => z) (fun _ _ _ z => z) (fun _ _ _ _ _ _ z => z) (fun _ _ _ _ _ z => z)
  (fun _ _ _ len _ _ _ k _ => k (.tc (.sc (.int .i64 (Int.ofNat len))))) (fun _ _ z => z) (fun _ _ _ _ _ _ z => z) ⟨⟩ (fun _ _ _ _ => ⟨⟩)

/-! ### strings -/
abbrev VS := (ByteArray → Out) → Out → Out
noncomputable def vlStr : Value → VS := @Value.rec (fun _ => VS) (fun _ => PUnit) (fun _ => PUnit)
  (fun _ _ z => z) (fun _ _ _ z => z) (fun _ _ _ z => z) (fun _ _ _ _ z => z) (fun s f _ => f s) (fun _ _ z => z) (fun _ _ _ _ z => z)
  (fun _ _ z => z) (fun _ _ z => z) (fun _ _ _ _ _ _ z => z) (fun _ z => z) (fun _ _ _ _ z => z) (fun _ z => z) (fun _ _ _ z => z) (fun _ _ _ z => z)
  (fun _ _ => ⟨⟩) ⟨⟩ (fun _ _ _ _ => ⟨⟩)
noncomputable def tcStr : TC → VS := @TC.rec (fun _ => VS) (fun _ => PUnit) (fun _ => PUnit)
  (fun v => vlStr v) (fun _ _ _ _ z => z) (fun _ _ _ z => z) ⟨⟩ (fun _ _ _ _ => ⟨⟩) ⟨⟩ (fun _ _ _ _ => ⟨⟩)
noncomputable def vStr : AV → VS := @AV.rec (fun _ => VS) (fun _ => PUnit)
  (fun c => tcStr c) (fun _ z => z) (fun _ _ _ z => z) (fun _ _ _ z => z) (fun _ _ _ _ _ _ z => z) (fun _ _ _ _ _ z => z) (fun _ _ _ _ _ _ _ _ z => z) (fun _ _ z => z)
  (fun _ _ _ _ _ _ z => z) ⟨⟩ (fun _ _ _ _ => ⟨⟩)

noncomputable def strEq : List UInt8 → List UInt8 → Bool := @List.rec UInt8 (fun _ => List UInt8 → Bool) (@List.rec UInt8 (fun _ => Bool) true (fun _ _ _ => false))
  (fun a _ ih => @List.rec UInt8 (fun _ => Bool) false (fun b r _ => @Bool.rec (fun _ => Bool) false (ih r) (Nat.beq (UInt8.toNat a) (UInt8.toNat b))))

abbrev SB := ByteArray → ByteArray → (AV → Out) → Out → Out
noncomputable def strF : BinOp → SB := @BinOp.rec (fun _ => SB)
  (fun _ _ _ z => z) (fun _ _ _ z => z) (fun _ _ _ z => z) (fun _ _ _ z => z) (fun _ _ _ z => z) (fun _ _ _ z => z) (fun _ _ _ z => z) (fun _ _ _ z => z) (fun _ _ _ z => z) (fun _ _ _ z => z) (fun _ _ _ z => z)
  (fun s t k _ => retB (strEq s.data.toList t.data.toList) k) (fun s t k _ => retB (Bool.not (strEq s.data.toList t.data.toList)) k)
  (fun _ _ _ z => z) (fun _ _ _ z => z) (fun _ _ _ z => z) (fun _ _ _ z => z)
noncomputable def strBin (op : BinOp) (x y : AV) (k : AV → Out) (z : Out) : Out := vStr x (fun s => vStr y (fun t => strF op s t k z) z) z

/-! ### structs that are compared -/
inductive EK where
  | int
  | bool
  | str
inductive EF where
  | mk (off : Nat) (e : EK)

abbrev XB := AV → AV → (Bool → Out) → Out → Out
noncomputable def vlB2 : Value → (Bool → Out) → Out → Out := @Value.rec (fun _ => (Bool → Out) → Out → Out) (fun _ => PUnit) (fun _ => PUnit)
  (fun b k _ => k b) (fun _ _ _ z => z) (fun _ _ _ z => z) (fun _ _ _ _ z => z) (fun _ _ z => z) (fun _ _ z => z) (fun _ _ _ _ z => z)
  (fun _ _ z => z) (fun _ _ z => z) (fun _ _ _ _ _ _ z => z) (fun _ z => z) (fun _ _ _ _ z => z) (fun _ z => z) (fun _ _ _ z => z) (fun _ _ _ z => z)
  (fun _ _ => ⟨⟩) ⟨⟩ (fun _ _ _ _ => ⟨⟩)
noncomputable def tcB2 : TC → (Bool → Out) → Out → Out := @TC.rec (fun _ => (Bool → Out) → Out → Out) (fun _ => PUnit) (fun _ => PUnit)
  (fun v => vlB2 v) (fun _ _ _ _ z => z) (fun _ _ _ z => z) ⟨⟩ (fun _ _ _ _ => ⟨⟩) ⟨⟩ (fun _ _ _ _ => ⟨⟩)
noncomputable def vB2 : AV → (Bool → Out) → Out → Out := @AV.rec (fun _ => (Bool → Out) → Out → Out) (fun _ => PUnit)
  (fun c => tcB2 c) (fun _ z => z) (fun _ _ _ z => z) (fun _ _ _ z => z) (fun _ _ _ _ _ _ z => z) (fun _ _ _ _ _ z => z) (fun _ _ _ _ _ _ _ _ z => z) (fun _ _ z => z)
  (fun _ _ _ _ _ _ z => z) ⟨⟩ (fun _ _ _ _ => ⟨⟩)

noncomputable def ekF : EK → XB := @EK.rec (fun _ => XB)
  (fun x y k z => vNum x (fun kx a => vNum y (fun ky b => @Bool.rec (fun _ => Out) z (k (eqI b a)) (Nat.beq (kcode kx) (kcode ky))) (fun _ _ => z) z) (fun _ _ => z) z)
  (fun x y k z => vB2 x (fun a => vB2 y (fun b => k (@Bool.rec (fun _ => Bool) (Bool.not b) b a)) z) z)
  (fun x y k z => vStr x (fun a => vStr y (fun b => k (strEq a.data.toList b.data.toList)) z) z)

abbrev EE := List AV → List AV → (Bool → Out) → Out → Out
noncomputable def ef1 : EF → EE → EE := @EF.rec (fun _ => EE → EE) (fun off e ih xs ys k z => nthL xs off (fun x => nthL ys off (fun y => ekF e x y (fun b => ih xs ys (fun c => k (@Bool.rec (fun _ => Bool) false c b)) z) z) z) z)
noncomputable def efF : List EF → EE := @List.rec EF (fun _ => EE) (fun _ _ k _ => k true) (fun f _ ih => ef1 f ih)

noncomputable def aggV : AV → (List AV → Out) → Out → Out := @AV.rec (fun _ => (List AV → Out) → Out → Out) (fun _ => PUnit)
  (fun _ _ z => z) (fun _ z => z) (fun cs _ k _ => k cs) (fun _ _ _ z => z) (fun _ _ _ _ _ _ z => z) (fun _ _ _ _ _ z => z) (fun _ _ _ _ _ _ _ _ z => z) (fun _ _ z => z)
  (fun _ _ _ _ _ _ z => z) ⟨⟩ (fun _ _ _ _ => ⟨⟩)

noncomputable def eqOp : BinOp → Bool → (AV → Out) → Out → Out := @BinOp.rec (fun _ => Bool → (AV → Out) → Out → Out)
  (fun _ _ z => z) (fun _ _ z => z) (fun _ _ z => z) (fun _ _ z => z) (fun _ _ z => z) (fun _ _ z => z) (fun _ _ z => z) (fun _ _ z => z) (fun _ _ z => z) (fun _ _ z => z) (fun _ _ z => z)
  (fun b k _ => retB b k) (fun b k _ => retB (Bool.not b) k)
  (fun _ _ z => z) (fun _ _ z => z) (fun _ _ z => z) (fun _ _ z => z)

/-! ### truth values -/
abbrev VN := (AV → Out) → Out → Out
noncomputable def vlNot : Value → VN := @Value.rec (fun _ => VN) (fun _ => PUnit) (fun _ => PUnit)
  (fun b k _ => k (.tc (.sc (.bool (Bool.not b))))) (fun _ _ _ z => z) (fun _ _ _ z => z) (fun _ _ _ _ z => z) (fun _ _ z => z) (fun _ _ z => z) (fun _ _ _ _ z => z)
  (fun _ _ z => z) (fun _ _ z => z) (fun _ _ _ _ _ _ z => z) (fun _ z => z) (fun _ _ _ _ z => z) (fun _ z => z) (fun _ _ _ z => z) (fun _ _ _ z => z)
  (fun _ _ => ⟨⟩) ⟨⟩ (fun _ _ _ _ => ⟨⟩)
noncomputable def syNot : STy → Sx → VN := @STy.rec (fun _ => Sx → VN) (fun _ _ _ z => z) (fun e k _ => k (.tc (.sy .bool (.not e)))) (fun _ _ z => z)
noncomputable def tcNot : TC → VN := @TC.rec (fun _ => VN) (fun _ => PUnit) (fun _ => PUnit)
  (fun v => vlNot v) (fun _ _ _ _ z => z) (fun t e => syNot t e) ⟨⟩ (fun _ _ _ _ => ⟨⟩) ⟨⟩ (fun _ _ _ _ => ⟨⟩)
noncomputable def notV : AV → VN := @AV.rec (fun _ => VN) (fun _ => PUnit)
  (fun c => tcNot c) (fun _ z => z) (fun _ _ _ z => z) (fun _ _ _ z => z) (fun _ _ _ _ _ _ z => z) (fun _ _ _ _ _ z => z) (fun _ _ _ _ _ _ _ _ z => z) (fun _ _ z => z)
  (fun _ _ _ _ _ _ z => z) ⟨⟩ (fun _ _ _ _ => ⟨⟩)

/-- A pointer that is not nil. -/
noncomputable def fNilV : AV → VN := @AV.rec (fun _ => VN) (fun _ => PUnit)
  (fun _ _ z => z) (fun _ z => z) (fun _ _ _ z => z) (fun _ _ _ z => z) (fun o s i f ver k _ => k (.ptr o s i f ver)) (fun s el i f k _ => k (.vptr s el i f)) (fun _ _ _ _ _ _ _ _ z => z) (fun _ _ z => z)
  (fun _ _ _ _ _ _ z => z) ⟨⟩ (fun _ _ _ _ => ⟨⟩)

/-! ### structs and slices that are written out -/
inductive BP (σ : Type) where
  | mk (off size : Nat) (x : σ → AV)

abbrev BF (σ : Type) := σ → List AV → (List AV → Out) → Out → Out
noncomputable def bp1 {σ : Type} : BP σ → BF σ → BF σ := @BP.rec σ (fun _ => BF σ → BF σ) (fun off size x ih F cs k z =>
  cellsF (x F)
    (fun c => @Bool.rec (fun _ => Out) z (@Bool.rec (fun _ => Out) z (ih F (setL cs off (.tc c)) k z) (Nat.blt off (lenL cs))) (Nat.beq size 1))
    (fun v => @Bool.rec (fun _ => Out) z (@Bool.rec (fun _ => Out) z (ih F (setL cs off v) k z) (Nat.blt off (lenL cs))) (Nat.beq size 1))
    (fun vc => @Bool.rec (fun _ => Out) z (@Bool.rec (fun _ => Out) z (ih F (setSpan cs off vc) k z) (Nat.ble (Nat.add off size) (lenL cs))) (Nat.beq (lenL vc) size)) z)
noncomputable def bpF {σ : Type} : List (BP σ) → BF σ := @List.rec (BP σ) (fun _ => BF σ) (fun _ cs k _ => k cs) (fun p _ ih => bp1 p ih)

abbrev RF (σ : Type) := σ → List (List AV) → (List (List AV) → Out) → Out → Out
noncomputable def rp1 {σ : Type} : BP σ → RF σ → RF σ := @BP.rec σ (fun _ => RF σ → RF σ) (fun i size x ih F rows k z =>
  cellsF (x F)
    (fun c => @Bool.rec (fun _ => Out) z (@Bool.rec (fun _ => Out) z (ih F (setL rows i [.tc c]) k z) (Nat.blt i (lenL rows))) (Nat.beq size 1))
    (fun v => @Bool.rec (fun _ => Out) z (@Bool.rec (fun _ => Out) z (ih F (setL rows i [v]) k z) (Nat.blt i (lenL rows))) (Nat.beq size 1))
    (fun vc => @Bool.rec (fun _ => Out) z (@Bool.rec (fun _ => Out) z (@Bool.rec (fun _ => Out) z (ih F (setL rows i vc) k z) (Nat.blt i (lenL rows))) (Nat.beq (lenL vc) size)) (allB okCell vc)) z)
noncomputable def rpF {σ : Type} : List (BP σ) → RF σ := @List.rec (BP σ) (fun _ => RF σ) (fun _ rows k _ => k rows) (fun p _ ih => rp1 p ih)

/-! ### operations -/
structure Rt where
  C : Ctx
  call : Caller

abbrev FOp (σ : Type) := Rt → σ → Heap → KV → Out

structure GI (σ : Type) where
  look : σ → Look
  o : Oper

noncomputable def genG {σ : Type} (g : GI σ) : FOp σ := fun R F H k => aop R.C R.call g.o (g.look F) H k

inductive A (σ : Type) where
  | fail
  | gen (g : GI σ)
  | mv (x : σ → AV)
  | ld (agg : Bool) (size : Nat) (x : σ → AV)
  | st (size : Nat) (a x : σ → AV) (g : GI σ)
  | fa (off : Nat) (x : σ → AV)
  | fd (agg : Bool) (size off : Nat) (x : σ → AV)
  | ex (x : σ → AV) (i : Nat)
  | bin (op : BinOp) (x y : σ → AV) (g : GI σ)
  | cv (kd : IntKind) (x : σ → AV) (g : GI σ)
  | ia (es : Nat) (x i : σ → AV) (g : GI σ)
  | len (x : σ → AV) (g : GI σ)
  | call (f : FuncId) (as : List (σ → AV)) (g : GI σ)
  | mf (fn : Fn) (first cap : List (σ → AV))
  | pk (c a b : σ → AV)
  | nc (x : σ → AV) (g : GI σ)
  | nt (x : σ → AV) (g : GI σ)
  | al (size : Nat) (z : List TC)
  | bx (size : Nat) (x : σ → AV) (g : GI σ)
  | bd (z : List AV) (ps : List (BP σ)) (g : GI σ)
  | bs (size len : Nat) (rows : List (List AV)) (ps : List (BP σ)) (g : GI σ)
  | ap (size bytes : Nat) (s x : σ → AV)
  | sl (es : Nat) (x : σ → AV) (lo hi mx : Option (σ → AV)) (g : GI σ)
  | ix (x i : σ → AV) (g : GI σ)
  | ss (x : σ → AV) (lo hi mx : Option (σ → AV)) (g : GI σ)
  | xi (as : List (σ → AV))
  | ls (x : σ → AV) (g : GI σ)
  | eqs (op : BinOp) (fs : List EF) (x y : σ → AV) (g : GI σ)
  | bt (size : Nat) (rows : List (List AV)) (ps : List (BP σ)) (g : GI σ)

noncomputable def kH (k : KV) (H : Heap) (v : AV) : Out := k v H
noncomputable def bnII (op : BinOp) (k : AV → Out) (z : Out) (kx : IntKind) (a : Int) (ky : IntKind) (b : Int) : Out := intF op kx a ky b k z
noncomputable def bnI (op : BinOp) (y : AV) (k : AV → Out) (z : Out) (kx : IntKind) (a : Int) : Out := vNum y (bnII op k z kx a) (fun ky b => intOp op kx (.lit a) ky b k) z
noncomputable def bnS (op : BinOp) (y : AV) (k : AV → Out) (z : Out) (kx : IntKind) (a : Sx) : Out := vNum y (fun ky b => intOp op kx a ky (.lit b) k) (fun ky b => intOp op kx a ky b k) z
noncomputable def bn0 (op : BinOp) (x y : AV) (k : AV → Out) (z : Out) : Out := vNum x (bnI op y k z) (bnS op y k z) (strBin op x y k z)

noncomputable def fBn {σ : Type} (op : BinOp) (x y : σ → AV) (g : GI σ) : FOp σ := fun R F H k => bn0 op (x F) (y F) (kH k H) (genG g R F H k)

noncomputable def fCv {σ : Type} (kd : IntKind) (x : σ → AV) (g : GI σ) : FOp σ := fun R F H k =>
  vNum (x F) (fun _ a => k (.tc (.sc (.int kd (wrapF kd a)))) H) (fun _ e => k (.tc (.sy (.int kd) (.conv kd e))) H) (genG g R F H k)

noncomputable def fIa {σ : Type} (es : Nat) (x i : σ → AV) (g : GI σ) : FOp σ := fun R F H k =>
  vNum (i F) (fun _ n => iaV (x F) es n (fun v => k v H) (genG g R F H k)) (fun _ _ => genG g R F H k) (genG g R F H k)

noncomputable def fCall {σ : Type} (f : FuncId) (as : List (σ → AV)) (g : GI σ) : FOp σ := fun R F H k =>
  @Bool.rec (fun _ => Out) (R.call f (evs as F) H k)
    (@Bool.rec (fun _ => Out) (genG g R F H k)
      (@Option.rec _ (fun _ => Out) (R.call f (evs as F) [] fun r H' => fzF r H' fun t => k t H)
        (fun sm => @Option.rec _ (fun _ => Out) (R.call f (evs as F) [] fun r H' => fzF r H' fun t => k t H) (fun r => k r H) (sm (evs as F))) (R.C.summ f)) (allB treeF (evs as F))) (R.C.pure f)

noncomputable def fBx {σ : Type} (size : Nat) (x : σ → AV) (g : GI σ) : FOp σ := fun R F H k =>
  cellsF (x F) (fun c => @Bool.rec (fun _ => Out) (genG g R F H k) (k (.ptr (lenL H) size 0 0 1) (appL H (.tcells size [[c]]))) (Nat.beq size 1))
    (fun v => @Bool.rec (fun _ => Out) (genG g R F H k) (k (.ptr (lenL H) size 0 0 1) (appL H (.cells size [[v]]))) (Nat.beq size 1))
    (fun cs => @Bool.rec (fun _ => Out) (genG g R F H k) (@Bool.rec (fun _ => Out) (genG g R F H k)
      (@Bool.rec (fun _ => Out) (newObj size [cs] fun obj => k (.ptr (lenL H) size 0 0 1) (appL H obj)) (genG g R F H k) (Nat.beq size 0)) (allB okCell cs)) (Nat.beq (lenL cs) size)) (genG g R F H k)

noncomputable def fBs {σ : Type} (size len : Nat) (rows : List (List AV)) (ps : List (BP σ)) (g : GI σ) : FOp σ := fun R F H k =>
  rpF ps F rows (fun rows => newObj size rows fun obj => k (.slice (lenL H) size 0 len len true len) (appL H obj)) (genG g R F H k)

noncomputable def bndF {σ : Type} (dflt : Int) (x : Option (σ → AV)) (F : σ) (k : Int → Out) (z : Out) : Out :=
  @Option.rec (σ → AV) (fun _ => Out) (k dflt) (fun x => vNum (x F) (fun _ n => k n) (fun _ _ => z) z) x

abbrev SLV (σ : Type) := Nat → Option (σ → AV) → Option (σ → AV) → σ → (AV → Out) → Out → Out
noncomputable def slTC {σ : Type} : TC → SLV σ := @TC.rec (fun _ => SLV σ) (fun _ => PUnit) (fun _ => PUnit) (fun _ _ _ _ _ _ z => z)
  (fun s el _ es lo hi F k z => bndF (Int.ofNat (lenL el)) hi F (fun h => bndF 0 lo F (fun l => cond (leI 0 l && leI l h && leI h (Int.ofNat (lenL el)) && Nat.beq es s) (k (.tc (.sl s ((el.take h.toNat).drop l.toNat)))) z) z) z)
  (fun _ _ _ _ _ _ _ z => z) ⟨⟩ (fun _ _ _ _ => ⟨⟩) ⟨⟩ (fun _ _ _ _ => ⟨⟩)
noncomputable def slV {σ : Type} : AV → SLV σ := @AV.rec (fun _ => SLV σ) (fun _ => PUnit)
  (fun c => slTC c) (fun _ _ _ _ _ z => z) (fun _ _ _ _ _ _ _ z => z) (fun _ _ _ _ _ _ _ z => z) (fun _ _ _ _ _ _ _ _ _ _ z => z) (fun _ _ _ _ _ _ _ _ _ z => z)
  (fun o s i len cap ex ver es lo hi F k z => bndF (Int.ofNat len) hi F (fun h => bndF 0 lo F (fun l => cond (leI 0 l && leI l h && leI h (Int.ofNat cap) && Nat.beq es s) (k (.slice o s (i + l.toNat) (h.toNat - l.toNat) (cap - l.toNat) ex ver)) z) z) z)
  (fun _ _ _ _ _ _ z => z) (fun _ _ _ _ _ _ _ _ _ _ z => z) ⟨⟩ (fun _ _ _ _ => ⟨⟩)

noncomputable def fSl {σ : Type} (es : Nat) (x : σ → AV) (lo hi mx : Option (σ → AV)) (g : GI σ) : FOp σ := fun R F H k =>
  @Option.rec (σ → AV) (fun _ => Out) (slV (x F) es lo hi F (fun v => k v H) (genG g R F H k)) (fun _ => genG g R F H k) mx

def tiOf (size bytes : Nat) : TI := { under := .bool, size := size, bytes := bytes, zero := none, agg := false }

noncomputable def dropF {α : Type} : List α → Nat → List α := @List.rec α (fun _ => Nat → List α) (fun _ => []) (fun a r ih n => @Nat.rec (fun _ => List α) (a :: r) (fun m _ => ih m) n)
noncomputable def takeF {α : Type} : List α → Nat → List α := @List.rec α (fun _ => Nat → List α) (fun _ => []) (fun a _ ih n => @Nat.rec (fun _ => List α) [] (fun m _ => a :: ih m) n)

noncomputable def fSs {σ : Type} (x : σ → AV) (lo hi mx : Option (σ → AV)) (g : GI σ) : FOp σ := fun R F H k =>
  @Option.rec (σ → AV) (fun _ => Out) (vStr (x F) (fun s => bndF (Int.ofNat (lenL s.data.toList)) hi F (fun h => bndF 0 lo F (fun l =>
    cond (leI 0 l && leI l h && leI h (Int.ofNat (lenL s.data.toList))) (k (.tc (.sc (.string ⟨⟨dropF (takeF s.data.toList h.toNat) l.toNat⟩⟩))) H) (genG g R F H k)) (genG g R F H k)) (genG g R F H k)) (genG g R F H k)) (fun _ => genG g R F H k) mx

noncomputable def fIx {σ : Type} (x i : σ → AV) (g : GI σ) : FOp σ := fun R F H k =>
  vStr (x F) (fun s => vNum (i F) (fun _ n => @Int.rec (fun _ => Out) (fun m => nthL s.data.toList m (fun b => k (.tc (.sc (.int .u8 (Int.ofNat (UInt8.toNat b))))) H) (genG g R F H k)) (fun _ => genG g R F H k) n) (fun _ _ => genG g R F H k) (genG g R F H k)) (genG g R F H k)

noncomputable def fLs {σ : Type} (x : σ → AV) (g : GI σ) : FOp σ := fun R F H k => vStr (x F) (fun s => k (.tc (.sc (.int .i64 (Int.ofNat (lenL s.data.toList))))) H) (genG g R F H k)

noncomputable def fEqs {σ : Type} (op : BinOp) (fs : List EF) (x y : σ → AV) (g : GI σ) : FOp σ := fun R F H k =>
  aggV (x F) (fun xs => aggV (y F) (fun ys => efF fs xs ys (fun b => eqOp op b (fun v => k v H) (genG g R F H k)) (genG g R F H k)) (genG g R F H k)) (genG g R F H k)

noncomputable def genQ {σ : Type} (g : GI σ) : FOp σ := fun R F H k => aopQ R.C R.call g.o (g.look F) H fun v => k v H

noncomputable def fBt {σ : Type} (size : Nat) (rows : List (List AV)) (ps : List (BP σ)) (g : GI σ) : FOp σ := fun R F H k =>
  rpF ps F rows (fun rows => rowsTCK rows (fun l => k (.tc (.sl size l)) H) .fail) (genQ g R F H k)

noncomputable def fA {σ : Type} : A σ → FOp σ := @A.rec σ (fun _ => FOp σ)
  (fun _ _ _ _ => .fail) genG (fun x _ F H k => k (x F) H) (fun agg size x _ F H k => ldV (x F) agg size H k)
  (fun size a x g R F H k => stV (a F) (x F) size H k (genG g R F H k)) (fun off x _ F H k => faV (x F) off fun v => k v H) (fun agg size off x _ F H k => fdV (x F) agg size off fun v => k v H)
  (fun x i _ F H k => exV (x F) i fun v => k v H) fBn fCv fIa (fun x g R F H k => lenV (x F) (fun v => k v H) (genG g R F H k))
  fCall (fun fn first cap _ F H k => k (.func fn (evs first F) (evs cap F)) H)
  (fun c a b _ F H k => condF (c F) (k (a F) H) (k (b F) H)) (fun x g R F H k => fNilV (x F) (fun v => k v H) (genG g R F H k)) (fun x g R F H k => notV (x F) (fun v => k v H) (genG g R F H k))
  (fun size z _ _ H k => k (.ptr (lenL H) size 0 0 1) (appL H (.tcells size [z]))) fBx (fun z ps g R F H k => bpF ps F z (fun cs => k (.agg cs) H) (genG g R F H k)) fBs
  (fun size bytes s x _ F H k => srcRows H (tiOf size bytes) false [] (x F) fun rows => appendA (tiOf size bytes) (s F) rows H k) fSl fIx fSs (fun as _ F H k => externA (evs as F) fun v => k v H) fLs fEqs fBt

section
variable {σ : Type} (E : EnvO σ) (B : Base)

def cCall (o : Oper) (c : Call) : A σ :=
  match c.callee with
  | .value (.func f) => match B.P.funcs[f]? with
    | some fn => cond (entered fn) (.call f (c.args.toList.map (cO E B)) ⟨E.look, o⟩) (cond (isIdx fn) (.xi (c.args.toList.map (cO E B))) (.gen ⟨E.look, o⟩))
    | none => .gen ⟨E.look, o⟩
  | .builtin .append => match c.args.toList, c.argTypes.toList with
    | [s, x], [st, xt] => match tinfo B.ctx st, tinfo B.ctx xt with
      | some sti, some xti => match sti.under with
        | .slice e => match tinfo B.ctx e with
          | some et => match zeroCellsA et with
            | some z => cond (decide (z.length = et.size) && decide (et.size ≠ 0)) (cond (isIntD xti.under) (.gen ⟨E.look, o⟩) (.ap et.size et.bytes (cO E B s) (cO E B x))) .fail
            | none => .fail
          | none => .fail
        | _ => .fail
      | _, _ => .fail
    | _, _ => .fail
  | .builtin .len => match c.args.toList, c.argTypes.toList with
    | [x], [t] => match tinfo B.ctx t with
      | some ti => match ti.under with
        | .slice _ => .len (cO E B x) ⟨E.look, o⟩
        | .string => .ls (cO E B x) ⟨E.look, o⟩
        | _ => .gen ⟨E.look, o⟩
      | none => .gen ⟨E.look, o⟩
    | _, _ => .gen ⟨E.look, o⟩
  | _ => .gen ⟨E.look, o⟩

def cFa (o : Oper) (t : TypeId) (x : Operand) (fd : Nat) : A σ :=
  match tinfo B.ctx t with
  | some ti => match ti.under with
    | .struct fs => match fs[fd]? with
      | some fl => match tinfo B.ctx fl.type with
        | some ft => cond (decide (ft.size ≠ 0)) (.fa fl.offset (cO E B x)) .fail
        | none => .fail
      | none => .fail
    | _ => .fail
  | none => .fail

def cFd (o : Oper) (t : TypeId) (x : Operand) (fd : Nat) : A σ :=
  match tinfo B.ctx t with
  | some ti => match ti.under with
    | .struct fs => match fs[fd]? with
      | some fl => match tinfo B.ctx fl.type with
        | some ft => .fd ft.agg ft.size fl.offset (cO E B x)
        | none => .fail
      | none => .fail
    | _ => .fail
  | none => .fail

def cCv (o : Oper) (src dst : TypeId) (x : Operand) : A σ :=
  match tinfo B.ctx src, tinfo B.ctx dst with
  | some _, some td => match td.under with
    | .int kd => .cv kd (cO E B x) ⟨E.look, o⟩
    | _ => .gen ⟨E.look, o⟩
  | _, _ => .gen ⟨E.look, o⟩

def cIa (o : Oper) (t : TypeId) (x i : Operand) : A σ :=
  match tinfo B.ctx t with
  | some ti => match ti.under with
    | .slice e => match tinfo B.ctx e with
      | some et => .ia et.size (cO E B x) (cO E B i) ⟨E.look, o⟩
      | none => .gen ⟨E.look, o⟩
    | _ => .gen ⟨E.look, o⟩
  | none => .gen ⟨E.look, o⟩

def cAl (o : Oper) (t : TypeId) : A σ :=
  match tinfo B.ctx t with
  | some ti => match zeroCellsA ti with
    | some z => cond (decide (z.length = ti.size) && decide (ti.size ≠ 0) && (tcs z).all cellOk) (.al ti.size z) .fail
    | none => .fail
  | none => .fail

def cBx (o : Oper) (t : TypeId) (x : Operand) : A σ :=
  match tinfo B.ctx t with
  | some ti => .bx ti.size (cO E B x) ⟨E.look, o⟩
  | none => .gen ⟨E.look, o⟩

/-- The fields of a struct that is written out. -/
def cPs (fs : Array Field) : List (Nat × Operand) → Option (List (BP σ))
  | [] => some []
  | (i, x) :: r => match fs[i]? with
    | some f => match tinfo B.ctx f.type, cPs fs r with
      | some ft, some l => some (.mk f.offset ft.size (cO E B x) :: l)
      | _, _ => none
    | none => none

def cBd (o : Oper) (t : TypeId) (ps : Array (Nat × Operand)) : A σ :=
  match tinfo B.ctx t with
  | some ti => match zeroCellsA ti, ti.under with
    | some z, .struct fs => cond (fs.toList.all fun f => (tinfo B.ctx f.type).isSome) (match cPs E B fs ps.toList with
      | some l => .bd (tcs z) l ⟨E.look, o⟩
      | none => .gen ⟨E.look, o⟩) (.gen ⟨E.look, o⟩)
    | _, _ => .gen ⟨E.look, o⟩
  | none => .gen ⟨E.look, o⟩

def cBs (o : Oper) (t : TypeId) (len : Nat) (ps : Array (Nat × Operand)) : A σ :=
  match tinfo B.ctx t with
  | some ti => match ti.under with
    | .slice e => match tinfo B.ctx e with
      | some et => match zeroCellsA et with
        | some z => cond (decide (len * et.size ≤ 2 ^ 24) && decide (et.size ≠ 0) && decide (z.length = et.size) && (tcs z).all cellOk)
            (.bs et.size len (List.replicate len (tcs z)) (ps.toList.map fun p => .mk p.1 et.size (cO E B p.2)) ⟨E.look, o⟩) (.gen ⟨E.look, o⟩)
        | none => .gen ⟨E.look, o⟩
      | none => .gen ⟨E.look, o⟩
    | _ => .gen ⟨E.look, o⟩
  | none => .gen ⟨E.look, o⟩

def cSl (o : Oper) (t : TypeId) (x : Operand) (lo hi mx : Option Operand) : A σ :=
  match tinfo B.ctx t with
  | some ti => match ti.under with
    | .slice e => match tinfo B.ctx e with
      | some et => .sl et.size (cO E B x) (lo.map (cO E B)) (hi.map (cO E B)) (mx.map (cO E B)) ⟨E.look, o⟩
      | none => .gen ⟨E.look, o⟩
    | .string => .ss (cO E B x) (lo.map (cO E B)) (hi.map (cO E B)) (mx.map (cO E B)) ⟨E.look, o⟩
    | _ => .gen ⟨E.look, o⟩
  | none => .gen ⟨E.look, o⟩

def cIx (o : Oper) (t : TypeId) (x i : Operand) : A σ :=
  match tinfo B.ctx t with
  | some ti => match ti.under with
    | .string => .ix (cO E B x) (cO E B i) ⟨E.look, o⟩
    | _ => .gen ⟨E.look, o⟩
  | none => .gen ⟨E.look, o⟩

def cEF : List Field → Option (List EF)
  | [] => some []
  | f :: r => match decide (f.name = "_") with
    | true => none
    | false => match tinfo B.ctx f.type, cEF r with
      | some ti, some l => match ti.under with
        | .int _ => some (.mk f.offset .int :: l)
        | .bool => some (.mk f.offset .bool :: l)
        | .string => some (.mk f.offset .str :: l)
        | _ => none
      | _, _ => none

def cBin (o : Oper) (op : BinOp) (t : TypeId) (x y : Operand) : A σ :=
  match B.P.underlying t with
  | some (.struct fs) => match !B.P.stoodInHeld t && !B.P.eqGuardType B.P.depth t with
    | true => match cEF B fs.toList with
      | some l => .eqs op l (cO E B x) (cO E B y) ⟨E.look, o⟩
      | none => .bin op (cO E B x) (cO E B y) ⟨E.look, o⟩
    | false => .bin op (cO E B x) (cO E B y) ⟨E.look, o⟩
  | _ => .bin op (cO E B x) (cO E B y) ⟨E.look, o⟩

def compA (o : Oper) : A σ :=
  match o.op with
  | .pick c a b => .pk (cO E B c) (cO E B a) (cO E B b)
  | .nilCheck x => .nc (cO E B x) ⟨E.look, o⟩
  | .unOp .not _ x => .nt (cO E B x) ⟨E.look, o⟩
  | .alloc t => cAl B o t
  | .box t x => cBx E B o t x
  | .build t ps => cBd E B o t ps
  | .buildSlice t len ps => cBs E B o t len ps
  | .slice t x lo hi mx => cSl E B o t x lo hi mx
  | .index t x i => cIx E B o t x i
  | .move x => .mv (cO E B x)
  | .assign x => .mv (cO E B x)
  | .load t x => match tinfo B.ctx t with | some ti => .ld ti.agg ti.size (cO E B x) | none => .fail
  | .store t a x => match tinfo B.ctx t with | some ti => .st ti.size (cO E B a) (cO E B x) ⟨E.look, o⟩ | none => .fail
  | .fieldAddr t x fd => cFa E B o t x fd
  | .field t x fd => cFd E B o t x fd
  | .extract x i => .ex (cO E B x) i
  | .binOp op t x y _ => cBin E B o op t x y
  | .convert src dst x => cCv E B o src dst x
  | .indexAddr t x i => cIa E B o t x i
  | .makeFunc fn first cap => .mf fn (first.toList.map (cO E B)) (cap.toList.map (cO E B))
  | .call c => cCall E B o c
  | _ => .gen ⟨E.look, o⟩
end

/-! ### regions in a row -/
inductive FI (σ : Type) where
  | p (a : A σ) (d : AV → σ → σ)
  | n (a : A σ)
  | gp (c : σ → AV) (w : Bool) (a : A σ) (d : AV → σ → σ)
  | gn (c : σ → AV) (w : Bool) (a : A σ)
  | no
  | nop (d : AV → σ → σ)

abbrev Row (σ : Type) := Rt → σ → Heap → (σ → Heap → Out) → Out

noncomputable def fI {σ : Type} : FI σ → Row σ → Row σ := @FI.rec σ (fun _ => Row σ → Row σ)
  (fun a d ih call F H K => fA a call F H fun v H' => ih call (d v F) H' K)
  (fun a ih call F H K => fA a call F H fun _ H' => ih call F H' K)
  (fun c w a d ih call F H K => guardF (c F) w (fA a call F H fun v H' => ih call (d v F) H' K) (ih call (d undefA F) H K))
  (fun c w a ih call F H K => guardF (c F) w (fA a call F H fun _ H' => ih call F H' K) (ih call F H K))
  (fun ih => ih)
  (fun d ih call F H K => ih call (d undefA F) H K)

noncomputable def fRow {σ : Type} : List (FI σ) → Row σ := @List.rec (FI σ) (fun _ => Row σ) (fun _ F H K => K F H) (fun i _ ih => fI i ih)

section
variable {σ : Type} (E : EnvO σ) (B : Base) (m : Nat)

/-- Where a temporary is kept; none: it is none of the call's. -/
def cD (dst : Option Tmp) : Option (AV → σ → σ) :=
  match dst with
  | some t => cond (Nat.blt t m) (some (E.set t)) none
  | none => none

def cI (ops : Array Oper) (o : Oper) : FI σ :=
  match o.guard with
  | none => match cD E m o.dst with
    | some p => .p (compA E B o) p
    | none => .n (compA E B o)
  | some (j, w) => match (ops[j]?).bind (·.dst) with
    | none => match cD E m o.dst with
      | some p => .nop p
      | none => .no
    | some c => match cD E m o.dst with
      | some p => .gp (cO E B (.tmp c)) w (compA E B o) p
      | none => .gn (cO E B (.tmp c)) w (compA E B o)
end

/-! ### regions that draw their order -/
inductive Gd (σ : Type) where
  | none
  | never
  | on (c : σ → AV) (w : Bool)

inductive Qu (σ : Type) where
  | yes
  | no
  | dyn (f : FuncId) (as : List (σ → AV))
  | gen (g : GI σ)

inductive QI (σ : Type) where
  | mk (g : Gd σ) (q : Qu σ) (aq al : A σ) (d : Option (AV → σ → σ))

noncomputable def gdF {σ : Type} : Gd σ → σ → Out → Out → Out := @Gd.rec σ (fun _ => σ → Out → Out → Out) (fun _ x _ => x) (fun _ _ y => y) (fun c w F x y => guardF (c F) w x y)
noncomputable def quF {σ : Type} : Qu σ → Rt → σ → Out → Out → Out := @Qu.rec σ (fun _ => Rt → σ → Out → Out → Out) (fun _ _ x _ => x) (fun _ _ _ y => y) (fun f as R F x y => @Bool.rec (fun _ => Out) y (@Bool.rec (fun _ => Out) y x (allB treeF (evs as F))) (R.C.pure f)) (fun g R F x y => cond (quietO R.C g.o (g.look F)) x y)
noncomputable def dsF {σ : Type} (d : Option (AV → σ → σ)) (v : AV) (F : σ) : σ := @Option.rec (AV → σ → σ) (fun _ => AV → σ → σ) (fun _ F => F) (fun s => s) d v F

/-- How many turned memory. -/
def nLoud : List Kd → Nat
  | [] => 0
  | .loud _ :: r => nLoud r + 1
  | .quiet :: r => nLoud r
  | .no :: r => nLoud r

abbrev QRow (σ : Type) := Rt → σ → Heap → List Kd → List Heap → (σ → List Kd → List Heap → Out) → Out
noncomputable def qI {σ : Type} : QI σ → QRow σ → QRow σ := @QI.rec σ (fun _ => QRow σ → QRow σ) (fun g q aq al d ih R F H ks hs K =>
  gdF g F (quF q R F (fA aq R F H fun v _ => ih R (dsF d v F) H (.quiet :: ks) hs K) (fA al R F H fun v H' => ih R (dsF d v F) H' (.loud (nLoud ks) :: ks) (H :: hs) K)) (ih R (dsF d undefA F) H (.no :: ks) hs K))
noncomputable def qRow {σ : Type} : List (QI σ) → QRow σ := @List.rec (QI σ) (fun _ => QRow σ) (fun _ F H ks hs K => K F ks (H :: hs)) (fun i _ ih => qI i ih)

/-- An operation that reads memory, and where it puts what it read. -/
inductive PQ (σ : Type) where
  | no
  | rd (a : A σ) (g : σ → AV)
  | bad

/-- At which memories it is looked at again. -/
inductive PI (σ : Type) where
  | mk (a : A σ) (g : σ → AV) (lo hi : Nat)
  | bad

def planF {σ : Type} (ms : List Nat) (ks : List Kd) (n : Nat) : List (PQ σ) → List Kd → Nat → List (PI σ)
  | q :: r, kd :: s, i => match kd with
    | .quiet => match q with
      | .rd a g => .mk a g (loD ks (ms.getD i 0)) (hiD ms ks i n) :: planF ms ks n r s (i + 1)
      | .bad => [.bad]
      | .no => planF ms ks n r s (i + 1)
    | _ => planF ms ks n r s (i + 1)
  | _, _, _ => []

noncomputable def chkAt {σ : Type} (a : A σ) (v : AV) (R : Rt) (F : σ) : List Heap → Out → Out := @List.rec Heap (fun _ => Out → Out) (fun K => K) (fun H _ ih K => fA a R F H fun u _ => cond (sameA u v) (ih K) .fail)
noncomputable def chkPlan {σ : Type} : List (PI σ) → Rt → σ → List Heap → Out → Out := @List.rec (PI σ) (fun _ => Rt → σ → List Heap → Out → Out) (fun _ _ _ K => K)
  (fun p _ ih R F hl K => @PI.rec σ (fun _ => Out) (fun a g lo hi => chkAt a (g F) R F (dropF (takeF hl (Nat.succ hi)) lo) (ih R F hl K)) .fail p)

/-- What is to be looked at again, ready. -/
def planOf {σ : Type} (ms : List Nat) (pq : List (PQ σ)) (ks : List Kd) : List (PI σ) := planF ms ks.reverse (nLoud ks + 1) pq ks.reverse 0

noncomputable def regDF {σ : Type} (ms : List Nat) (pq : List (PQ σ)) (qs : List (QI σ)) (R : Rt) (F : σ) (H : Heap) (Kn : σ → Heap → Out) : Out :=
  qRow qs R F H [] [] fun F' ks hs => @List.rec Heap (fun _ => Out) .fail (fun H' r _ => @List.rec Heap (fun _ => Out) (Kn F' H')
    (fun _ _ _ => @Bool.rec (fun _ => Out) .fail (chkPlan (planOf ms pq ks) R F' hs.reverse (Kn F' H')) (chainD ms ks.reverse)) r) hs

section
variable {σ : Type} (E : EnvO σ) (B : Base) (m : Nat)

def cQ (o : Oper) : Qu σ :=
  match o.op with
  | .alloc _ => .no
  | .box .. => .no
  | .store .. => .no
  | .makeSlice .. => .no
  | .makeMap .. => .no
  | .mapUpdate .. => .no
  | .insert .. => .no
  | .buildSlice .. => .gen ⟨E.look, o⟩
  | .call c => match c.callee with
    | .builtin .append => .no
    | .value (.func f) => .dyn f (c.args.toList.map (cO E B))
    | .value _ => .gen ⟨E.look, o⟩
    | _ => .yes
  | _ => .yes

def cBt (o : Oper) (t : TypeId) (len : Nat) (ps : Array (Nat × Operand)) : A σ :=
  match tinfo B.ctx t with
  | some ti => match ti.under with
    | .slice e => match tinfo B.ctx e with
      | some et => match zeroCellsA et with
        | some z => cond (decide (len * et.size ≤ 2 ^ 24) && decide (et.size ≠ 0) && decide (z.length = et.size) && (tcs z).all cellOk)
            (.bt et.size (List.replicate len (tcs z)) (ps.toList.map fun p => .mk p.1 et.size (cO E B p.2)) ⟨E.look, o⟩) .fail
        | none => .fail
      | none => .fail
    | _ => .fail
  | none => .fail

def compQ (o : Oper) : A σ :=
  match o.op with
  | .buildSlice t len ps => cBt E B o t len ps
  | _ => compA E B o

def cG (ops : Array Oper) (o : Oper) : Gd σ :=
  match o.guard with
  | none => .none
  | some (j, w) => match (ops[j]?).bind (·.dst) with
    | none => .never
    | some c => .on (cO E B (.tmp c)) w

def cPQ (o : Oper) : PQ σ :=
  match readsO o, o.dst with
  | true, some d => .rd (compQ E B o) (cO E B (.tmp d))
  | true, none => .bad
  | false, _ => .no

def cQI (ops : Array Oper) (o : Oper) : QI σ := .mk (cG E B ops o) (cQ E B o) (compQ E B o) (compA E B o) (cD E m o.dst)
end

/-! ### code -/
inductive FC (σ : Type) where
  | fail
  | skip
  | label (l : Nat)
  | reg (l : List (FI σ))
  | regD (ms : List Nat) (pq : List (PQ σ)) (qs : List (QI σ))
  | seq (a b : FC σ)
  | cond (c : σ → AV) (a b : FC σ)
  | block (id : Nat) (a : FC σ)
  | loop (L : Nat) (a : FC σ)
  | scope (L : Nat) (a : FC σ)
  | exit (id : Nat)
  | goto (l : Nat)
  | ret

abbrev Ke (σ : Type) := AEx → σ → Heap → Out
abbrev Sg (σ : Type) := Rt → σ → Heap → (σ → Heap → Out) → Ke σ → Out

noncomputable def inBlock {σ : Type} (id : Nat) (Kn : σ → Heap → Out) (K : Ke σ) : Ke σ := fun e => @AEx.rec (fun _ => σ → Heap → Out) (K .normal)
  (fun id' F H => @Bool.rec (fun _ => Out) (K (.exit id') F H) (Kn F H) (Nat.beq id' id)) (fun l => K (.goto l)) (K .ret) e

noncomputable def iterF {σ : Type} (body : Sg σ) : Nat → Rt → σ → Heap → Ke σ → Out :=
  @Nat.rec (fun _ => Rt → σ → Heap → Ke σ → Out) (fun _ _ _ _ => .fail) (fun _ ih call F H K => body call F H (fun F' H' => ih call F' H' K) K)

noncomputable def hasF {σ : Type} (l : Nat) : FC σ → Bool := @FC.rec σ (fun _ => Bool) false false (fun l' => Nat.beq l' l) (fun _ => false) (fun _ _ _ => false) (fun _ _ x y => @Bool.rec (fun _ => Bool) y true x) (fun _ _ _ _ _ => false)
  (fun _ _ _ => false) (fun _ _ _ => false) (fun _ _ _ => false) (fun _ => false) (fun _ => false) false

/-- A scope's rounds; where: from a label on, or from the begin. -/
noncomputable def iterSF {σ : Type} (body : Sg σ) (from_ : Nat → Sg σ) (has : Nat → Bool) : Nat → Option Nat → Sg σ :=
  @Nat.rec (fun _ => Option Nat → Sg σ) (fun _ _ _ _ _ _ => .fail) (fun _ ih m call F H Kn K =>
    (@Option.rec Nat (fun _ => Sg σ) body from_ m) call F H Kn fun e => @AEx.rec (fun _ => σ → Heap → Out) (K .normal) (fun id => K (.exit id))
      (fun l F' H' => @Bool.rec (fun _ => Out) (K (.goto l) F' H') (ih (some l) call F' H' Kn K) (has l)) (K .ret) e)

/-- The whole of it, and from a label on. -/
structure Two (σ : Type) where
  a : Sg σ
  l : Nat → Sg σ

noncomputable def sgFail {σ : Type} : Sg σ := fun _ _ _ _ _ => .fail

noncomputable def two {σ : Type} : FC σ → Two σ := @FC.rec σ (fun _ => Two σ)
  ⟨sgFail, fun _ => sgFail⟩
  ⟨fun _ F H Kn _ => Kn F H, fun _ => sgFail⟩
  (fun l => ⟨fun _ F H Kn _ => Kn F H, fun l' _ F H Kn _ => @Bool.rec (fun _ => Out) .fail (Kn F H) (Nat.beq l l')⟩)
  (fun r => ⟨fun call F H Kn _ => fRow r call F H Kn, fun _ => sgFail⟩)
  (fun ms pq qs => ⟨fun R F H Kn _ => regDF ms pq qs R F H Kn, fun _ => sgFail⟩)
  (fun a b x y => ⟨fun call F H Kn K => x.a call F H (fun F' H' => y.a call F' H' Kn K) K,
    fun l call F H Kn K => @Bool.rec (fun _ => Out) (y.l l call F H Kn K) (x.l l call F H (fun F' H' => y.a call F' H' Kn K) K) (hasF l a)⟩)
  (fun c _ _ x y => ⟨fun call F H Kn K => condF (c F) (x.a call F H Kn K) (y.a call F H Kn K), fun _ => sgFail⟩)
  (fun id _ x => ⟨fun call F H Kn K => x.a call F H Kn (inBlock id Kn K), fun _ => sgFail⟩)
  (fun L _ x => ⟨fun call F H _ K => iterF x.a L call F H K, fun _ => sgFail⟩)
  (fun L a x => ⟨fun call F H Kn K => iterSF x.a x.l (fun l => hasF l a) L none call F H Kn K, fun _ => sgFail⟩)
  (fun id => ⟨fun _ F H _ K => K (.exit id) F H, fun _ => sgFail⟩)
  (fun l => ⟨fun _ F H _ K => K (.goto l) F H, fun _ => sgFail⟩)
  ⟨fun _ F H _ K => K .ret F H, fun _ => sgFail⟩

section
variable {σ : Type} (E : EnvO σ) (B : Base) (m : Nat)

def EnvO.dec {σ : Type} (E : EnvO σ) (m : Nat) (F : σ) : Tmps := (List.range m).map (E.look F)

def compC : Code → FC σ
  | .skip => .skip
  | .label l => .label l
  | .region _ ops draw => match draw with
    | false => .reg (ops.toList.map (cI E B m ops))
    | true => cond (B.P.follows .mixedOrders && okOps ops) (.regD (masks ops.toList []) (ops.toList.map (cPQ E B)) (ops.toList.map (cQI E B m ops))) .fail
  | .seq a b => .seq (compC a) (compC b)
  | .cond c a b => .cond (cO E B c) (compC a) (compC b)
  | .block id a => .block id (compC a)
  | .loop a => .loop B.L (compC a)
  | .scope a => .scope B.L (compC a)
  | .exit id => .exit id
  | .goto l => .goto l
  | .ret => .ret
  | _ => .fail
end

/-! ### where an operation stands -/
def regsOf : Code → List (Array Oper)
  | .region _ ops _ => [ops]
  | .seq a b => regsOf a ++ regsOf b
  | .cond _ a b => regsOf a ++ regsOf b
  | .block _ a => regsOf a
  | .loop a => regsOf a
  | .scope a => regsOf a
  | _ => []

def regAt (P : Program) (f r : Nat) : Array Oper :=
  match P.funcs[f]? with
  | some fn => match fn.body with
    | some c => ((regsOf c)[r]?).getD #[]
    | none => #[]
  | none => #[]

def opAt (P : Program) (f r j : Nat) : Oper := ((regAt P f r)[j]?).getD default

/-! ### functions -/
inductive FRes (σ : Type) where
  | tmp (x : σ → AV)
  | cell (x : σ → AV) (agg : Bool) (size : Nat)
  | bad

abbrev RS (σ : Type) := σ → Heap → List AV → KV → Out
noncomputable def fRes1 {σ : Type} : FRes σ → RS σ → RS σ := @FRes.rec σ (fun _ => RS σ → RS σ)
  (fun x ih F H acc k => ih F H (x F :: acc) k)
  (fun x agg size ih F H acc k => ldV (x F) agg size H fun v _ => ih F H (v :: acc) k)
  (fun _ _ _ _ _ => .fail)
noncomputable def fRes {σ : Type} : List (FRes σ) → RS σ := @List.rec (FRes σ) (fun _ => RS σ) (fun _ H acc k => match acc with | [v] => k v H | vs => k (.tuple vs.reverse) H) (fun r _ ih => fRes1 r ih)

def cRes {σ : Type} (E : EnvO σ) (B : Base) : ResultVar → FRes σ
  | .tmp t => .tmp (cO E B (.tmp t))
  | .cell a t => match tinfo B.ctx t with
    | some ti => .cell (cO E B (.tmp a)) ti.agg ti.size
    | none => .bad

/-- A function's code. -/
structure FB (σ : Type) where
  m : Nat
  code : FC σ
  res : List (FRes σ)

def compB {σ : Type} (E : EnvO σ) (B : Base) (fn : Func) (c : Code) : FB σ := ⟨fn.ntmps, compC E B fn.ntmps c, fn.results.toList.map (cRes E B)⟩

noncomputable def nthA : List AV → Nat → AV := @List.rec AV (fun _ => Nat → AV) (fun _ => undefA) (fun a _ ih n => @Nat.rec (fun _ => AV) a (fun m _ => ih m) n)

/-- A call. -/
noncomputable def callB {σ : Type} (enc : (Nat → AV) → σ) (b : FB σ) (R : Rt) (args : List AV) (H : Heap) (k : KV) (z : Out) : Out :=
  @Bool.rec (fun _ => Out) z
    ((two b.code).a R (enc (nthA args)) H (fun F H' => fRes b.res F H' [] k) (fun e => @AEx.rec (fun _ => σ → Heap → Out) (fun _ _ => .fail) (fun _ _ _ => .fail) (fun _ _ _ => .fail) (fun F H' => fRes b.res F H' [] k) e))
    (Nat.ble (lenL args) b.m)

end Go.Proofs.Ytamhmfdbnlkmkaa

/- Temporaries in trees of eights: each way in, and each way to put, is a constant. -/
set_option linter.unusedVariables false
namespace Go.Proofs.Ytamhmfdbnlkmkaa
open Go

structure S8 (α : Type) where
  mk ::
  (a b c d e f g h : α)

abbrev T1 := S8 AV
abbrev T2 := S8 T1
abbrev T3 := S8 T2

noncomputable def g0 : T2 → AV := fun t => @S8.rec T1 (fun _ => AV) (fun a b c d e f g h => @S8.rec AV (fun _ => AV) (fun a b c d e f g h => a) a) t
noncomputable def g1 : T2 → AV := fun t => @S8.rec T1 (fun _ => AV) (fun a b c d e f g h => @S8.rec AV (fun _ => AV) (fun a b c d e f g h => b) a) t
noncomputable def g2 : T2 → AV := fun t => @S8.rec T1 (fun _ => AV) (fun a b c d e f g h => @S8.rec AV (fun _ => AV) (fun a b c d e f g h => c) a) t
noncomputable def g3 : T2 → AV := fun t => @S8.rec T1 (fun _ => AV) (fun a b c d e f g h => @S8.rec AV (fun _ => AV) (fun a b c d e f g h => d) a) t
noncomputable def g4 : T2 → AV := fun t => @S8.rec T1 (fun _ => AV) (fun a b c d e f g h => @S8.rec AV (fun _ => AV) (fun a b c d e f g h => e) a) t
noncomputable def g5 : T2 → AV := fun t => @S8.rec T1 (fun _ => AV) (fun a b c d e f g h => @S8.rec AV (fun _ => AV) (fun a b c d e f g h => f) a) t
noncomputable def g6 : T2 → AV := fun t => @S8.rec T1 (fun _ => AV) (fun a b c d e f g h => @S8.rec AV (fun _ => AV) (fun a b c d e f g h => g) a) t
noncomputable def g7 : T2 → AV := fun t => @S8.rec T1 (fun _ => AV) (fun a b c d e f g h => @S8.rec AV (fun _ => AV) (fun a b c d e f g h => h) a) t
noncomputable def g8 : T2 → AV := fun t => @S8.rec T1 (fun _ => AV) (fun a b c d e f g h => @S8.rec AV (fun _ => AV) (fun a b c d e f g h => a) b) t
noncomputable def g9 : T2 → AV := fun t => @S8.rec T1 (fun _ => AV) (fun a b c d e f g h => @S8.rec AV (fun _ => AV) (fun a b c d e f g h => b) b) t
noncomputable def g10 : T2 → AV := fun t => @S8.rec T1 (fun _ => AV) (fun a b c d e f g h => @S8.rec AV (fun _ => AV) (fun a b c d e f g h => c) b) t
noncomputable def g11 : T2 → AV := fun t => @S8.rec T1 (fun _ => AV) (fun a b c d e f g h => @S8.rec AV (fun _ => AV) (fun a b c d e f g h => d) b) t
noncomputable def g12 : T2 → AV := fun t => @S8.rec T1 (fun _ => AV) (fun a b c d e f g h => @S8.rec AV (fun _ => AV) (fun a b c d e f g h => e) b) t
noncomputable def g13 : T2 → AV := fun t => @S8.rec T1 (fun _ => AV) (fun a b c d e f g h => @S8.rec AV (fun _ => AV) (fun a b c d e f g h => f) b) t
noncomputable def g14 : T2 → AV := fun t => @S8.rec T1 (fun _ => AV) (fun a b c d e f g h => @S8.rec AV (fun _ => AV) (fun a b c d e f g h => g) b) t
noncomputable def g15 : T2 → AV := fun t => @S8.rec T1 (fun _ => AV) (fun a b c d e f g h => @S8.rec AV (fun _ => AV) (fun a b c d e f g h => h) b) t
noncomputable def g16 : T2 → AV := fun t => @S8.rec T1 (fun _ => AV) (fun a b c d e f g h => @S8.rec AV (fun _ => AV) (fun a b c d e f g h => a) c) t
noncomputable def g17 : T2 → AV := fun t => @S8.rec T1 (fun _ => AV) (fun a b c d e f g h => @S8.rec AV (fun _ => AV) (fun a b c d e f g h => b) c) t
noncomputable def g18 : T2 → AV := fun t => @S8.rec T1 (fun _ => AV) (fun a b c d e f g h => @S8.rec AV (fun _ => AV) (fun a b c d e f g h => c) c) t
noncomputable def g19 : T2 → AV := fun t => @S8.rec T1 (fun _ => AV) (fun a b c d e f g h => @S8.rec AV (fun _ => AV) (fun a b c d e f g h => d) c) t
noncomputable def g20 : T2 → AV := fun t => @S8.rec T1 (fun _ => AV) (fun a b c d e f g h => @S8.rec AV (fun _ => AV) (fun a b c d e f g h => e) c) t
noncomputable def g21 : T2 → AV := fun t => @S8.rec T1 (fun _ => AV) (fun a b c d e f g h => @S8.rec AV (fun _ => AV) (fun a b c d e f g h => f) c) t
noncomputable def g22 : T2 → AV := fun t => @S8.rec T1 (fun _ => AV) (fun a b c d e f g h => @S8.rec AV (fun _ => AV) (fun a b c d e f g h => g) c) t
noncomputable def g23 : T2 → AV := fun t => @S8.rec T1 (fun _ => AV) (fun a b c d e f g h => @S8.rec AV (fun _ => AV) (fun a b c d e f g h => h) c) t
noncomputable def g24 : T2 → AV := fun t => @S8.rec T1 (fun _ => AV) (fun a b c d e f g h => @S8.rec AV (fun _ => AV) (fun a b c d e f g h => a) d) t
noncomputable def g25 : T2 → AV := fun t => @S8.rec T1 (fun _ => AV) (fun a b c d e f g h => @S8.rec AV (fun _ => AV) (fun a b c d e f g h => b) d) t
noncomputable def g26 : T2 → AV := fun t => @S8.rec T1 (fun _ => AV) (fun a b c d e f g h => @S8.rec AV (fun _ => AV) (fun a b c d e f g h => c) d) t
noncomputable def g27 : T2 → AV := fun t => @S8.rec T1 (fun _ => AV) (fun a b c d e f g h => @S8.rec AV (fun _ => AV) (fun a b c d e f g h => d) d) t
noncomputable def g28 : T2 → AV := fun t => @S8.rec T1 (fun _ => AV) (fun a b c d e f g h => @S8.rec AV (fun _ => AV) (fun a b c d e f g h => e) d) t
noncomputable def g29 : T2 → AV := fun t => @S8.rec T1 (fun _ => AV) (fun a b c d e f g h => @S8.rec AV (fun _ => AV) (fun a b c d e f g h => f) d) t
noncomputable def g30 : T2 → AV := fun t => @S8.rec T1 (fun _ => AV) (fun a b c d e f g h => @S8.rec AV (fun _ => AV) (fun a b c d e f g h => g) d) t
noncomputable def g31 : T2 → AV := fun t => @S8.rec T1 (fun _ => AV) (fun a b c d e f g h => @S8.rec AV (fun _ => AV) (fun a b c d e f g h => h) d) t
noncomputable def g32 : T2 → AV := fun t => @S8.rec T1 (fun _ => AV) (fun a b c d e f g h => @S8.rec AV (fun _ => AV) (fun a b c d e f g h => a) e) t
noncomputable def g33 : T2 → AV := fun t => @S8.rec T1 (fun _ => AV) (fun a b c d e f g h => @S8.rec AV (fun _ => AV) (fun a b c d e f g h => b) e) t
noncomputable def g34 : T2 → AV := fun t => @S8.rec T1 (fun _ => AV) (fun a b c d e f g h => @S8.rec AV (fun _ => AV) (fun a b c d e f g h => c) e) t
noncomputable def g35 : T2 → AV := fun t => @S8.rec T1 (fun _ => AV) (fun a b c d e f g h => @S8.rec AV (fun _ => AV) (fun a b c d e f g h => d) e) t
noncomputable def g36 : T2 → AV := fun t => @S8.rec T1 (fun _ => AV) (fun a b c d e f g h => @S8.rec AV (fun _ => AV) (fun a b c d e f g h => e) e) t
noncomputable def g37 : T2 → AV := fun t => @S8.rec T1 (fun _ => AV) (fun a b c d e f g h => @S8.rec AV (fun _ => AV) (fun a b c d e f g h => f) e) t
noncomputable def g38 : T2 → AV := fun t => @S8.rec T1 (fun _ => AV) (fun a b c d e f g h => @S8.rec AV (fun _ => AV) (fun a b c d e f g h => g) e) t
noncomputable def g39 : T2 → AV := fun t => @S8.rec T1 (fun _ => AV) (fun a b c d e f g h => @S8.rec AV (fun _ => AV) (fun a b c d e f g h => h) e) t
noncomputable def g40 : T2 → AV := fun t => @S8.rec T1 (fun _ => AV) (fun a b c d e f g h => @S8.rec AV (fun _ => AV) (fun a b c d e f g h => a) f) t
noncomputable def g41 : T2 → AV := fun t => @S8.rec T1 (fun _ => AV) (fun a b c d e f g h => @S8.rec AV (fun _ => AV) (fun a b c d e f g h => b) f) t
noncomputable def g42 : T2 → AV := fun t => @S8.rec T1 (fun _ => AV) (fun a b c d e f g h => @S8.rec AV (fun _ => AV) (fun a b c d e f g h => c) f) t
noncomputable def g43 : T2 → AV := fun t => @S8.rec T1 (fun _ => AV) (fun a b c d e f g h => @S8.rec AV (fun _ => AV) (fun a b c d e f g h => d) f) t
noncomputable def g44 : T2 → AV := fun t => @S8.rec T1 (fun _ => AV) (fun a b c d e f g h => @S8.rec AV (fun _ => AV) (fun a b c d e f g h => e) f) t
noncomputable def g45 : T2 → AV := fun t => @S8.rec T1 (fun _ => AV) (fun a b c d e f g h => @S8.rec AV (fun _ => AV) (fun a b c d e f g h => f) f) t
noncomputable def g46 : T2 → AV := fun t => @S8.rec T1 (fun _ => AV) (fun a b c d e f g h => @S8.rec AV (fun _ => AV) (fun a b c d e f g h => g) f) t
noncomputable def g47 : T2 → AV := fun t => @S8.rec T1 (fun _ => AV) (fun a b c d e f g h => @S8.rec AV (fun _ => AV) (fun a b c d e f g h => h) f) t
noncomputable def g48 : T2 → AV := fun t => @S8.rec T1 (fun _ => AV) (fun a b c d e f g h => @S8.rec AV (fun _ => AV) (fun a b c d e f g h => a) g) t
noncomputable def g49 : T2 → AV := fun t => @S8.rec T1 (fun _ => AV) (fun a b c d e f g h => @S8.rec AV (fun _ => AV) (fun a b c d e f g h => b) g) t
noncomputable def g50 : T2 → AV := fun t => @S8.rec T1 (fun _ => AV) (fun a b c d e f g h => @S8.rec AV (fun _ => AV) (fun a b c d e f g h => c) g) t
noncomputable def g51 : T2 → AV := fun t => @S8.rec T1 (fun _ => AV) (fun a b c d e f g h => @S8.rec AV (fun _ => AV) (fun a b c d e f g h => d) g) t
noncomputable def g52 : T2 → AV := fun t => @S8.rec T1 (fun _ => AV) (fun a b c d e f g h => @S8.rec AV (fun _ => AV) (fun a b c d e f g h => e) g) t
noncomputable def g53 : T2 → AV := fun t => @S8.rec T1 (fun _ => AV) (fun a b c d e f g h => @S8.rec AV (fun _ => AV) (fun a b c d e f g h => f) g) t
noncomputable def g54 : T2 → AV := fun t => @S8.rec T1 (fun _ => AV) (fun a b c d e f g h => @S8.rec AV (fun _ => AV) (fun a b c d e f g h => g) g) t
noncomputable def g55 : T2 → AV := fun t => @S8.rec T1 (fun _ => AV) (fun a b c d e f g h => @S8.rec AV (fun _ => AV) (fun a b c d e f g h => h) g) t
noncomputable def g56 : T2 → AV := fun t => @S8.rec T1 (fun _ => AV) (fun a b c d e f g h => @S8.rec AV (fun _ => AV) (fun a b c d e f g h => a) h) t
noncomputable def g57 : T2 → AV := fun t => @S8.rec T1 (fun _ => AV) (fun a b c d e f g h => @S8.rec AV (fun _ => AV) (fun a b c d e f g h => b) h) t
noncomputable def g58 : T2 → AV := fun t => @S8.rec T1 (fun _ => AV) (fun a b c d e f g h => @S8.rec AV (fun _ => AV) (fun a b c d e f g h => c) h) t
noncomputable def g59 : T2 → AV := fun t => @S8.rec T1 (fun _ => AV) (fun a b c d e f g h => @S8.rec AV (fun _ => AV) (fun a b c d e f g h => d) h) t
noncomputable def g60 : T2 → AV := fun t => @S8.rec T1 (fun _ => AV) (fun a b c d e f g h => @S8.rec AV (fun _ => AV) (fun a b c d e f g h => e) h) t
noncomputable def g61 : T2 → AV := fun t => @S8.rec T1 (fun _ => AV) (fun a b c d e f g h => @S8.rec AV (fun _ => AV) (fun a b c d e f g h => f) h) t
noncomputable def g62 : T2 → AV := fun t => @S8.rec T1 (fun _ => AV) (fun a b c d e f g h => @S8.rec AV (fun _ => AV) (fun a b c d e f g h => g) h) t
noncomputable def g63 : T2 → AV := fun t => @S8.rec T1 (fun _ => AV) (fun a b c d e f g h => @S8.rec AV (fun _ => AV) (fun a b c d e f g h => h) h) t
noncomputable def s0 : AV → T2 → T2 := fun v t => @S8.rec T1 (fun _ => T2) (fun a b c d e f g h => ⟨@S8.rec AV (fun _ => T1) (fun a b c d e f g h => ⟨v, b, c, d, e, f, g, h⟩) a, b, c, d, e, f, g, h⟩) t
noncomputable def s1 : AV → T2 → T2 := fun v t => @S8.rec T1 (fun _ => T2) (fun a b c d e f g h => ⟨@S8.rec AV (fun _ => T1) (fun a b c d e f g h => ⟨a, v, c, d, e, f, g, h⟩) a, b, c, d, e, f, g, h⟩) t
noncomputable def s2 : AV → T2 → T2 := fun v t => @S8.rec T1 (fun _ => T2) (fun a b c d e f g h => ⟨@S8.rec AV (fun _ => T1) (fun a b c d e f g h => ⟨a, b, v, d, e, f, g, h⟩) a, b, c, d, e, f, g, h⟩) t
noncomputable def s3 : AV → T2 → T2 := fun v t => @S8.rec T1 (fun _ => T2) (fun a b c d e f g h => ⟨@S8.rec AV (fun _ => T1) (fun a b c d e f g h => ⟨a, b, c, v, e, f, g, h⟩) a, b, c, d, e, f, g, h⟩) t
noncomputable def s4 : AV → T2 → T2 := fun v t => @S8.rec T1 (fun _ => T2) (fun a b c d e f g h => ⟨@S8.rec AV (fun _ => T1) (fun a b c d e f g h => ⟨a, b, c, d, v, f, g, h⟩) a, b, c, d, e, f, g, h⟩) t
noncomputable def s5 : AV → T2 → T2 := fun v t => @S8.rec T1 (fun _ => T2) (fun a b c d e f g h => ⟨@S8.rec AV (fun _ => T1) (fun a b c d e f g h => ⟨a, b, c, d, e, v, g, h⟩) a, b, c, d, e, f, g, h⟩) t
noncomputable def s6 : AV → T2 → T2 := fun v t => @S8.rec T1 (fun _ => T2) (fun a b c d e f g h => ⟨@S8.rec AV (fun _ => T1) (fun a b c d e f g h => ⟨a, b, c, d, e, f, v, h⟩) a, b, c, d, e, f, g, h⟩) t
noncomputable def s7 : AV → T2 → T2 := fun v t => @S8.rec T1 (fun _ => T2) (fun a b c d e f g h => ⟨@S8.rec AV (fun _ => T1) (fun a b c d e f g h => ⟨a, b, c, d, e, f, g, v⟩) a, b, c, d, e, f, g, h⟩) t
noncomputable def s8 : AV → T2 → T2 := fun v t => @S8.rec T1 (fun _ => T2) (fun a b c d e f g h => ⟨a, @S8.rec AV (fun _ => T1) (fun a b c d e f g h => ⟨v, b, c, d, e, f, g, h⟩) b, c, d, e, f, g, h⟩) t
noncomputable def s9 : AV → T2 → T2 := fun v t => @S8.rec T1 (fun _ => T2) (fun a b c d e f g h => ⟨a, @S8.rec AV (fun _ => T1) (fun a b c d e f g h => ⟨a, v, c, d, e, f, g, h⟩) b, c, d, e, f, g, h⟩) t
noncomputable def s10 : AV → T2 → T2 := fun v t => @S8.rec T1 (fun _ => T2) (fun a b c d e f g h => ⟨a, @S8.rec AV (fun _ => T1) (fun a b c d e f g h => ⟨a, b, v, d, e, f, g, h⟩) b, c, d, e, f, g, h⟩) t
noncomputable def s11 : AV → T2 → T2 := fun v t => @S8.rec T1 (fun _ => T2) (fun a b c d e f g h => ⟨a, @S8.rec AV (fun _ => T1) (fun a b c d e f g h => ⟨a, b, c, v, e, f, g, h⟩) b, c, d, e, f, g, h⟩) t
noncomputable def s12 : AV → T2 → T2 := fun v t => @S8.rec T1 (fun _ => T2) (fun a b c d e f g h => ⟨a, @S8.rec AV (fun _ => T1) (fun a b c d e f g h => ⟨a, b, c, d, v, f, g, h⟩) b, c, d, e, f, g, h⟩) t
noncomputable def s13 : AV → T2 → T2 := fun v t => @S8.rec T1 (fun _ => T2) (fun a b c d e f g h => ⟨a, @S8.rec AV (fun _ => T1) (fun a b c d e f g h => ⟨a, b, c, d, e, v, g, h⟩) b, c, d, e, f, g, h⟩) t
noncomputable def s14 : AV → T2 → T2 := fun v t => @S8.rec T1 (fun _ => T2) (fun a b c d e f g h => ⟨a, @S8.rec AV (fun _ => T1) (fun a b c d e f g h => ⟨a, b, c, d, e, f, v, h⟩) b, c, d, e, f, g, h⟩) t
noncomputable def s15 : AV → T2 → T2 := fun v t => @S8.rec T1 (fun _ => T2) (fun a b c d e f g h => ⟨a, @S8.rec AV (fun _ => T1) (fun a b c d e f g h => ⟨a, b, c, d, e, f, g, v⟩) b, c, d, e, f, g, h⟩) t
noncomputable def s16 : AV → T2 → T2 := fun v t => @S8.rec T1 (fun _ => T2) (fun a b c d e f g h => ⟨a, b, @S8.rec AV (fun _ => T1) (fun a b c d e f g h => ⟨v, b, c, d, e, f, g, h⟩) c, d, e, f, g, h⟩) t
noncomputable def s17 : AV → T2 → T2 := fun v t => @S8.rec T1 (fun _ => T2) (fun a b c d e f g h => ⟨a, b, @S8.rec AV (fun _ => T1) (fun a b c d e f g h => ⟨a, v, c, d, e, f, g, h⟩) c, d, e, f, g, h⟩) t
noncomputable def s18 : AV → T2 → T2 := fun v t => @S8.rec T1 (fun _ => T2) (fun a b c d e f g h => ⟨a, b, @S8.rec AV (fun _ => T1) (fun a b c d e f g h => ⟨a, b, v, d, e, f, g, h⟩) c, d, e, f, g, h⟩) t
noncomputable def s19 : AV → T2 → T2 := fun v t => @S8.rec T1 (fun _ => T2) (fun a b c d e f g h => ⟨a, b, @S8.rec AV (fun _ => T1) (fun a b c d e f g h => ⟨a, b, c, v, e, f, g, h⟩) c, d, e, f, g, h⟩) t
noncomputable def s20 : AV → T2 → T2 := fun v t => @S8.rec T1 (fun _ => T2) (fun a b c d e f g h => ⟨a, b, @S8.rec AV (fun _ => T1) (fun a b c d e f g h => ⟨a, b, c, d, v, f, g, h⟩) c, d, e, f, g, h⟩) t
noncomputable def s21 : AV → T2 → T2 := fun v t => @S8.rec T1 (fun _ => T2) (fun a b c d e f g h => ⟨a, b, @S8.rec AV (fun _ => T1) (fun a b c d e f g h => ⟨a, b, c, d, e, v, g, h⟩) c, d, e, f, g, h⟩) t
noncomputable def s22 : AV → T2 → T2 := fun v t => @S8.rec T1 (fun _ => T2) (fun a b c d e f g h => ⟨a, b, @S8.rec AV (fun _ => T1) (fun a b c d e f g h => ⟨a, b, c, d, e, f, v, h⟩) c, d, e, f, g, h⟩) t
noncomputable def s23 : AV → T2 → T2 := fun v t => @S8.rec T1 (fun _ => T2) (fun a b c d e f g h => ⟨a, b, @S8.rec AV (fun _ => T1) (fun a b c d e f g h => ⟨a, b, c, d, e, f, g, v⟩) c, d, e, f, g, h⟩) t
noncomputable def s24 : AV → T2 → T2 := fun v t => @S8.rec T1 (fun _ => T2) (fun a b c d e f g h => ⟨a, b, c, @S8.rec AV (fun _ => T1) (fun a b c d e f g h => ⟨v, b, c, d, e, f, g, h⟩) d, e, f, g, h⟩) t
noncomputable def s25 : AV → T2 → T2 := fun v t => @S8.rec T1 (fun _ => T2) (fun a b c d e f g h => ⟨a, b, c, @S8.rec AV (fun _ => T1) (fun a b c d e f g h => ⟨a, v, c, d, e, f, g, h⟩) d, e, f, g, h⟩) t
noncomputable def s26 : AV → T2 → T2 := fun v t => @S8.rec T1 (fun _ => T2) (fun a b c d e f g h => ⟨a, b, c, @S8.rec AV (fun _ => T1) (fun a b c d e f g h => ⟨a, b, v, d, e, f, g, h⟩) d, e, f, g, h⟩) t
noncomputable def s27 : AV → T2 → T2 := fun v t => @S8.rec T1 (fun _ => T2) (fun a b c d e f g h => ⟨a, b, c, @S8.rec AV (fun _ => T1) (fun a b c d e f g h => ⟨a, b, c, v, e, f, g, h⟩) d, e, f, g, h⟩) t
noncomputable def s28 : AV → T2 → T2 := fun v t => @S8.rec T1 (fun _ => T2) (fun a b c d e f g h => ⟨a, b, c, @S8.rec AV (fun _ => T1) (fun a b c d e f g h => ⟨a, b, c, d, v, f, g, h⟩) d, e, f, g, h⟩) t
noncomputable def s29 : AV → T2 → T2 := fun v t => @S8.rec T1 (fun _ => T2) (fun a b c d e f g h => ⟨a, b, c, @S8.rec AV (fun _ => T1) (fun a b c d e f g h => ⟨a, b, c, d, e, v, g, h⟩) d, e, f, g, h⟩) t
noncomputable def s30 : AV → T2 → T2 := fun v t => @S8.rec T1 (fun _ => T2) (fun a b c d e f g h => ⟨a, b, c, @S8.rec AV (fun _ => T1) (fun a b c d e f g h => ⟨a, b, c, d, e, f, v, h⟩) d, e, f, g, h⟩) t
noncomputable def s31 : AV → T2 → T2 := fun v t => @S8.rec T1 (fun _ => T2) (fun a b c d e f g h => ⟨a, b, c, @S8.rec AV (fun _ => T1) (fun a b c d e f g h => ⟨a, b, c, d, e, f, g, v⟩) d, e, f, g, h⟩) t
noncomputable def s32 : AV → T2 → T2 := fun v t => @S8.rec T1 (fun _ => T2) (fun a b c d e f g h => ⟨a, b, c, d, @S8.rec AV (fun _ => T1) (fun a b c d e f g h => ⟨v, b, c, d, e, f, g, h⟩) e, f, g, h⟩) t
noncomputable def s33 : AV → T2 → T2 := fun v t => @S8.rec T1 (fun _ => T2) (fun a b c d e f g h => ⟨a, b, c, d, @S8.rec AV (fun _ => T1) (fun a b c d e f g h => ⟨a, v, c, d, e, f, g, h⟩) e, f, g, h⟩) t
noncomputable def s34 : AV → T2 → T2 := fun v t => @S8.rec T1 (fun _ => T2) (fun a b c d e f g h => ⟨a, b, c, d, @S8.rec AV (fun _ => T1) (fun a b c d e f g h => ⟨a, b, v, d, e, f, g, h⟩) e, f, g, h⟩) t
noncomputable def s35 : AV → T2 → T2 := fun v t => @S8.rec T1 (fun _ => T2) (fun a b c d e f g h => ⟨a, b, c, d, @S8.rec AV (fun _ => T1) (fun a b c d e f g h => ⟨a, b, c, v, e, f, g, h⟩) e, f, g, h⟩) t
noncomputable def s36 : AV → T2 → T2 := fun v t => @S8.rec T1 (fun _ => T2) (fun a b c d e f g h => ⟨a, b, c, d, @S8.rec AV (fun _ => T1) (fun a b c d e f g h => ⟨a, b, c, d, v, f, g, h⟩) e, f, g, h⟩) t
noncomputable def s37 : AV → T2 → T2 := fun v t => @S8.rec T1 (fun _ => T2) (fun a b c d e f g h => ⟨a, b, c, d, @S8.rec AV (fun _ => T1) (fun a b c d e f g h => ⟨a, b, c, d, e, v, g, h⟩) e, f, g, h⟩) t
noncomputable def s38 : AV → T2 → T2 := fun v t => @S8.rec T1 (fun _ => T2) (fun a b c d e f g h => ⟨a, b, c, d, @S8.rec AV (fun _ => T1) (fun a b c d e f g h => ⟨a, b, c, d, e, f, v, h⟩) e, f, g, h⟩) t
noncomputable def s39 : AV → T2 → T2 := fun v t => @S8.rec T1 (fun _ => T2) (fun a b c d e f g h => ⟨a, b, c, d, @S8.rec AV (fun _ => T1) (fun a b c d e f g h => ⟨a, b, c, d, e, f, g, v⟩) e, f, g, h⟩) t
noncomputable def s40 : AV → T2 → T2 := fun v t => @S8.rec T1 (fun _ => T2) (fun a b c d e f g h => ⟨a, b, c, d, e, @S8.rec AV (fun _ => T1) (fun a b c d e f g h => ⟨v, b, c, d, e, f, g, h⟩) f, g, h⟩) t
noncomputable def s41 : AV → T2 → T2 := fun v t => @S8.rec T1 (fun _ => T2) (fun a b c d e f g h => ⟨a, b, c, d, e, @S8.rec AV (fun _ => T1) (fun a b c d e f g h => ⟨a, v, c, d, e, f, g, h⟩) f, g, h⟩) t
noncomputable def s42 : AV → T2 → T2 := fun v t => @S8.rec T1 (fun _ => T2) (fun a b c d e f g h => ⟨a, b, c, d, e, @S8.rec AV (fun _ => T1) (fun a b c d e f g h => ⟨a, b, v, d, e, f, g, h⟩) f, g, h⟩) t
noncomputable def s43 : AV → T2 → T2 := fun v t => @S8.rec T1 (fun _ => T2) (fun a b c d e f g h => ⟨a, b, c, d, e, @S8.rec AV (fun _ => T1) (fun a b c d e f g h => ⟨a, b, c, v, e, f, g, h⟩) f, g, h⟩) t
noncomputable def s44 : AV → T2 → T2 := fun v t => @S8.rec T1 (fun _ => T2) (fun a b c d e f g h => ⟨a, b, c, d, e, @S8.rec AV (fun _ => T1) (fun a b c d e f g h => ⟨a, b, c, d, v, f, g, h⟩) f, g, h⟩) t
noncomputable def s45 : AV → T2 → T2 := fun v t => @S8.rec T1 (fun _ => T2) (fun a b c d e f g h => ⟨a, b, c, d, e, @S8.rec AV (fun _ => T1) (fun a b c d e f g h => ⟨a, b, c, d, e, v, g, h⟩) f, g, h⟩) t
noncomputable def s46 : AV → T2 → T2 := fun v t => @S8.rec T1 (fun _ => T2) (fun a b c d e f g h => ⟨a, b, c, d, e, @S8.rec AV (fun _ => T1) (fun a b c d e f g h => ⟨a, b, c, d, e, f, v, h⟩) f, g, h⟩) t
noncomputable def s47 : AV → T2 → T2 := fun v t => @S8.rec T1 (fun _ => T2) (fun a b c d e f g h => ⟨a, b, c, d, e, @S8.rec AV (fun _ => T1) (fun a b c d e f g h => ⟨a, b, c, d, e, f, g, v⟩) f, g, h⟩) t
noncomputable def s48 : AV → T2 → T2 := fun v t => @S8.rec T1 (fun _ => T2) (fun a b c d e f g h => ⟨a, b, c, d, e, f, @S8.rec AV (fun _ => T1) (fun a b c d e f g h => ⟨v, b, c, d, e, f, g, h⟩) g, h⟩) t
noncomputable def s49 : AV → T2 → T2 := fun v t => @S8.rec T1 (fun _ => T2) (fun a b c d e f g h => ⟨a, b, c, d, e, f, @S8.rec AV (fun _ => T1) (fun a b c d e f g h => ⟨a, v, c, d, e, f, g, h⟩) g, h⟩) t
noncomputable def s50 : AV → T2 → T2 := fun v t => @S8.rec T1 (fun _ => T2) (fun a b c d e f g h => ⟨a, b, c, d, e, f, @S8.rec AV (fun _ => T1) (fun a b c d e f g h => ⟨a, b, v, d, e, f, g, h⟩) g, h⟩) t
noncomputable def s51 : AV → T2 → T2 := fun v t => @S8.rec T1 (fun _ => T2) (fun a b c d e f g h => ⟨a, b, c, d, e, f, @S8.rec AV (fun _ => T1) (fun a b c d e f g h => ⟨a, b, c, v, e, f, g, h⟩) g, h⟩) t
noncomputable def s52 : AV → T2 → T2 := fun v t => @S8.rec T1 (fun _ => T2) (fun a b c d e f g h => ⟨a, b, c, d, e, f, @S8.rec AV (fun _ => T1) (fun a b c d e f g h => ⟨a, b, c, d, v, f, g, h⟩) g, h⟩) t
noncomputable def s53 : AV → T2 → T2 := fun v t => @S8.rec T1 (fun _ => T2) (fun a b c d e f g h => ⟨a, b, c, d, e, f, @S8.rec AV (fun _ => T1) (fun a b c d e f g h => ⟨a, b, c, d, e, v, g, h⟩) g, h⟩) t
noncomputable def s54 : AV → T2 → T2 := fun v t => @S8.rec T1 (fun _ => T2) (fun a b c d e f g h => ⟨a, b, c, d, e, f, @S8.rec AV (fun _ => T1) (fun a b c d e f g h => ⟨a, b, c, d, e, f, v, h⟩) g, h⟩) t
noncomputable def s55 : AV → T2 → T2 := fun v t => @S8.rec T1 (fun _ => T2) (fun a b c d e f g h => ⟨a, b, c, d, e, f, @S8.rec AV (fun _ => T1) (fun a b c d e f g h => ⟨a, b, c, d, e, f, g, v⟩) g, h⟩) t
noncomputable def s56 : AV → T2 → T2 := fun v t => @S8.rec T1 (fun _ => T2) (fun a b c d e f g h => ⟨a, b, c, d, e, f, g, @S8.rec AV (fun _ => T1) (fun a b c d e f g h => ⟨v, b, c, d, e, f, g, h⟩) h⟩) t
noncomputable def s57 : AV → T2 → T2 := fun v t => @S8.rec T1 (fun _ => T2) (fun a b c d e f g h => ⟨a, b, c, d, e, f, g, @S8.rec AV (fun _ => T1) (fun a b c d e f g h => ⟨a, v, c, d, e, f, g, h⟩) h⟩) t
noncomputable def s58 : AV → T2 → T2 := fun v t => @S8.rec T1 (fun _ => T2) (fun a b c d e f g h => ⟨a, b, c, d, e, f, g, @S8.rec AV (fun _ => T1) (fun a b c d e f g h => ⟨a, b, v, d, e, f, g, h⟩) h⟩) t
noncomputable def s59 : AV → T2 → T2 := fun v t => @S8.rec T1 (fun _ => T2) (fun a b c d e f g h => ⟨a, b, c, d, e, f, g, @S8.rec AV (fun _ => T1) (fun a b c d e f g h => ⟨a, b, c, v, e, f, g, h⟩) h⟩) t
noncomputable def s60 : AV → T2 → T2 := fun v t => @S8.rec T1 (fun _ => T2) (fun a b c d e f g h => ⟨a, b, c, d, e, f, g, @S8.rec AV (fun _ => T1) (fun a b c d e f g h => ⟨a, b, c, d, v, f, g, h⟩) h⟩) t
noncomputable def s61 : AV → T2 → T2 := fun v t => @S8.rec T1 (fun _ => T2) (fun a b c d e f g h => ⟨a, b, c, d, e, f, g, @S8.rec AV (fun _ => T1) (fun a b c d e f g h => ⟨a, b, c, d, e, v, g, h⟩) h⟩) t
noncomputable def s62 : AV → T2 → T2 := fun v t => @S8.rec T1 (fun _ => T2) (fun a b c d e f g h => ⟨a, b, c, d, e, f, g, @S8.rec AV (fun _ => T1) (fun a b c d e f g h => ⟨a, b, c, d, e, f, v, h⟩) h⟩) t
noncomputable def s63 : AV → T2 → T2 := fun v t => @S8.rec T1 (fun _ => T2) (fun a b c d e f g h => ⟨a, b, c, d, e, f, g, @S8.rec AV (fun _ => T1) (fun a b c d e f g h => ⟨a, b, c, d, e, f, g, v⟩) h⟩) t
noncomputable def h0 (x : T2 → AV) : T3 → AV := fun t => @S8.rec T2 (fun _ => AV) (fun a b c d e f g h => x a) t
noncomputable def h1 (x : T2 → AV) : T3 → AV := fun t => @S8.rec T2 (fun _ => AV) (fun a b c d e f g h => x b) t
noncomputable def h2 (x : T2 → AV) : T3 → AV := fun t => @S8.rec T2 (fun _ => AV) (fun a b c d e f g h => x c) t
noncomputable def h3 (x : T2 → AV) : T3 → AV := fun t => @S8.rec T2 (fun _ => AV) (fun a b c d e f g h => x d) t
noncomputable def h4 (x : T2 → AV) : T3 → AV := fun t => @S8.rec T2 (fun _ => AV) (fun a b c d e f g h => x e) t
noncomputable def h5 (x : T2 → AV) : T3 → AV := fun t => @S8.rec T2 (fun _ => AV) (fun a b c d e f g h => x f) t
noncomputable def h6 (x : T2 → AV) : T3 → AV := fun t => @S8.rec T2 (fun _ => AV) (fun a b c d e f g h => x g) t
noncomputable def h7 (x : T2 → AV) : T3 → AV := fun t => @S8.rec T2 (fun _ => AV) (fun a b c d e f g h => x h) t
noncomputable def i0 (x : AV → T2 → T2) : AV → T3 → T3 := fun v t => @S8.rec T2 (fun _ => T3) (fun a b c d e f g h => ⟨x v a, b, c, d, e, f, g, h⟩) t
noncomputable def i1 (x : AV → T2 → T2) : AV → T3 → T3 := fun v t => @S8.rec T2 (fun _ => T3) (fun a b c d e f g h => ⟨a, x v b, c, d, e, f, g, h⟩) t
noncomputable def i2 (x : AV → T2 → T2) : AV → T3 → T3 := fun v t => @S8.rec T2 (fun _ => T3) (fun a b c d e f g h => ⟨a, b, x v c, d, e, f, g, h⟩) t
noncomputable def i3 (x : AV → T2 → T2) : AV → T3 → T3 := fun v t => @S8.rec T2 (fun _ => T3) (fun a b c d e f g h => ⟨a, b, c, x v d, e, f, g, h⟩) t
noncomputable def i4 (x : AV → T2 → T2) : AV → T3 → T3 := fun v t => @S8.rec T2 (fun _ => T3) (fun a b c d e f g h => ⟨a, b, c, d, x v e, f, g, h⟩) t
noncomputable def i5 (x : AV → T2 → T2) : AV → T3 → T3 := fun v t => @S8.rec T2 (fun _ => T3) (fun a b c d e f g h => ⟨a, b, c, d, e, x v f, g, h⟩) t
noncomputable def i6 (x : AV → T2 → T2) : AV → T3 → T3 := fun v t => @S8.rec T2 (fun _ => T3) (fun a b c d e f g h => ⟨a, b, c, d, e, f, x v g, h⟩) t
noncomputable def i7 (x : AV → T2 → T2) : AV → T3 → T3 := fun v t => @S8.rec T2 (fun _ => T3) (fun a b c d e f g h => ⟨a, b, c, d, e, f, g, x v h⟩) t

noncomputable def getT2 : List (T2 → AV) := [g0, g1, g2, g3, g4, g5, g6, g7, g8, g9, g10, g11, g12, g13, g14, g15, g16, g17, g18, g19, g20, g21, g22, g23, g24, g25, g26, g27, g28, g29, g30, g31, g32, g33, g34, g35, g36, g37, g38, g39, g40, g41, g42, g43, g44, g45, g46, g47, g48, g49, g50, g51, g52, g53, g54, g55, g56, g57, g58, g59, g60, g61, g62, g63]
noncomputable def setT2 : List (AV → T2 → T2) := [s0, s1, s2, s3, s4, s5, s6, s7, s8, s9, s10, s11, s12, s13, s14, s15, s16, s17, s18, s19, s20, s21, s22, s23, s24, s25, s26, s27, s28, s29, s30, s31, s32, s33, s34, s35, s36, s37, s38, s39, s40, s41, s42, s43, s44, s45, s46, s47, s48, s49, s50, s51, s52, s53, s54, s55, s56, s57, s58, s59, s60, s61, s62, s63]
noncomputable def getT3 : List ((T2 → AV) → T3 → AV) := [h0, h1, h2, h3, h4, h5, h6, h7]
noncomputable def setT3 : List ((AV → T2 → T2) → AV → T3 → T3) := [i0, i1, i2, i3, i4, i5, i6, i7]

noncomputable def encT1 (f : Nat → AV) (n : Nat) : T1 := ⟨f (n + 0), f (n + 1), f (n + 2), f (n + 3), f (n + 4), f (n + 5), f (n + 6), f (n + 7)⟩
noncomputable def encT2 (f : Nat → AV) : T2 := ⟨⟨f 0, f 1, f 2, f 3, f 4, f 5, f 6, f 7⟩, ⟨f 8, f 9, f 10, f 11, f 12, f 13, f 14, f 15⟩, ⟨f 16, f 17, f 18, f 19, f 20, f 21, f 22, f 23⟩, ⟨f 24, f 25, f 26, f 27, f 28, f 29, f 30, f 31⟩, ⟨f 32, f 33, f 34, f 35, f 36, f 37, f 38, f 39⟩, ⟨f 40, f 41, f 42, f 43, f 44, f 45, f 46, f 47⟩, ⟨f 48, f 49, f 50, f 51, f 52, f 53, f 54, f 55⟩, ⟨f 56, f 57, f 58, f 59, f 60, f 61, f 62, f 63⟩⟩
noncomputable def encT3 (f : Nat → AV) : T3 := ⟨encT2 fun n => f (n + 0), encT2 fun n => f (n + 64), encT2 fun n => f (n + 128), encT2 fun n => f (n + 192), encT2 fun n => f (n + 256), encT2 fun n => f (n + 320), encT2 fun n => f (n + 384), encT2 fun n => f (n + 448)⟩

noncomputable def E2 : EnvO T2 := ⟨64, fun n => getT2.getD n (kc undefA), fun n => setT2.getD n (fun _ t => t), encT2⟩
noncomputable def E3 : EnvO T3 := ⟨512, fun n => getT3.getD (n / 64) (fun _ => kc undefA) (getT2.getD (n % 64) (kc undefA)), fun n => setT3.getD (n / 64) (fun _ _ t => t) (setT2.getD (n % 64) (fun _ t => t)), encT3⟩

theorem E2_ok : EnvOk E2 where
  get_enc := fun n f h => by
    have h : n < 64 := h
    match n, h with
    | 0, _ => rfl
    | 1, _ => rfl
    | 2, _ => rfl
    | 3, _ => rfl
    | 4, _ => rfl
    | 5, _ => rfl
    | 6, _ => rfl
    | 7, _ => rfl
    | 8, _ => rfl
    | 9, _ => rfl
    | 10, _ => rfl
    | 11, _ => rfl
    | 12, _ => rfl
    | 13, _ => rfl
    | 14, _ => rfl
    | 15, _ => rfl
    | 16, _ => rfl
    | 17, _ => rfl
    | 18, _ => rfl
    | 19, _ => rfl
    | 20, _ => rfl
    | 21, _ => rfl
    | 22, _ => rfl
    | 23, _ => rfl
    | 24, _ => rfl
    | 25, _ => rfl
    | 26, _ => rfl
    | 27, _ => rfl
    | 28, _ => rfl
    | 29, _ => rfl
    | 30, _ => rfl
    | 31, _ => rfl
    | 32, _ => rfl
    | 33, _ => rfl
    | 34, _ => rfl
    | 35, _ => rfl
    | 36, _ => rfl
    | 37, _ => rfl
    | 38, _ => rfl
    | 39, _ => rfl
    | 40, _ => rfl
    | 41, _ => rfl
    | 42, _ => rfl
    | 43, _ => rfl
    | 44, _ => rfl
    | 45, _ => rfl
    | 46, _ => rfl
    | 47, _ => rfl
    | 48, _ => rfl
    | 49, _ => rfl
    | 50, _ => rfl
    | 51, _ => rfl
    | 52, _ => rfl
    | 53, _ => rfl
    | 54, _ => rfl
    | 55, _ => rfl
    | 56, _ => rfl
    | 57, _ => rfl
    | 58, _ => rfl
    | 59, _ => rfl
    | 60, _ => rfl
    | 61, _ => rfl
    | 62, _ => rfl
    | 63, _ => rfl
    | n + 64, h => omega
  set_enc := fun n v f h => by
    have h : n < 64 := h
    match n, h with
    | 0, _ => rfl
    | 1, _ => rfl
    | 2, _ => rfl
    | 3, _ => rfl
    | 4, _ => rfl
    | 5, _ => rfl
    | 6, _ => rfl
    | 7, _ => rfl
    | 8, _ => rfl
    | 9, _ => rfl
    | 10, _ => rfl
    | 11, _ => rfl
    | 12, _ => rfl
    | 13, _ => rfl
    | 14, _ => rfl
    | 15, _ => rfl
    | 16, _ => rfl
    | 17, _ => rfl
    | 18, _ => rfl
    | 19, _ => rfl
    | 20, _ => rfl
    | 21, _ => rfl
    | 22, _ => rfl
    | 23, _ => rfl
    | 24, _ => rfl
    | 25, _ => rfl
    | 26, _ => rfl
    | 27, _ => rfl
    | 28, _ => rfl
    | 29, _ => rfl
    | 30, _ => rfl
    | 31, _ => rfl
    | 32, _ => rfl
    | 33, _ => rfl
    | 34, _ => rfl
    | 35, _ => rfl
    | 36, _ => rfl
    | 37, _ => rfl
    | 38, _ => rfl
    | 39, _ => rfl
    | 40, _ => rfl
    | 41, _ => rfl
    | 42, _ => rfl
    | 43, _ => rfl
    | 44, _ => rfl
    | 45, _ => rfl
    | 46, _ => rfl
    | 47, _ => rfl
    | 48, _ => rfl
    | 49, _ => rfl
    | 50, _ => rfl
    | 51, _ => rfl
    | 52, _ => rfl
    | 53, _ => rfl
    | 54, _ => rfl
    | 55, _ => rfl
    | 56, _ => rfl
    | 57, _ => rfl
    | 58, _ => rfl
    | 59, _ => rfl
    | 60, _ => rfl
    | 61, _ => rfl
    | 62, _ => rfl
    | 63, _ => rfl
    | n + 64, h => omega

theorem get3 (i : Nat) (x : T2 → AV) (f : Nat → AV) (h : i < 8) : getT3.getD i (fun _ => kc undefA) x (encT3 f) = x (encT2 fun n => f (n + 64 * i)) := by
  match i, h with
  | 0, _ => rfl
  | 1, _ => rfl
  | 2, _ => rfl
  | 3, _ => rfl
  | 4, _ => rfl
  | 5, _ => rfl
  | 6, _ => rfl
  | 7, _ => rfl
  | n + 8, h => omega

theorem set3 (i : Nat) (x : AV → T2 → T2) (v : AV) (f : Nat → AV) (j : Nat) (hj : j < 64) (hx : ∀ f, x v (encT2 f) = encT2 fun m => if m = j then v else f m) (h : i < 8) :
    setT3.getD i (fun _ _ t => t) x v (encT3 f) = encT3 fun m => if m = 64 * i + j then v else f m := by
  have ne : ∀ k, k < 8 → k ≠ i → (encT2 fun n => f (n + 64 * k)) = encT2 fun n => if n + 64 * k = 64 * i + j then v else f (n + 64 * k) := fun k hk hne => by
    have : ∀ n, n < 64 → (if n + 64 * k = 64 * i + j then v else f (n + 64 * k)) = f (n + 64 * k) := fun n hn => if_neg (by omega)
    simp only [encT2, this 0 (by omega), this 1 (by omega), this 2 (by omega), this 3 (by omega), this 4 (by omega), this 5 (by omega), this 6 (by omega), this 7 (by omega), this 8 (by omega), this 9 (by omega), this 10 (by omega), this 11 (by omega), this 12 (by omega), this 13 (by omega), this 14 (by omega), this 15 (by omega), this 16 (by omega), this 17 (by omega), this 18 (by omega), this 19 (by omega), this 20 (by omega), this 21 (by omega), this 22 (by omega), this 23 (by omega), this 24 (by omega), this 25 (by omega), this 26 (by omega), this 27 (by omega), this 28 (by omega), this 29 (by omega), this 30 (by omega), this 31 (by omega), this 32 (by omega), this 33 (by omega), this 34 (by omega), this 35 (by omega), this 36 (by omega), this 37 (by omega), this 38 (by omega), this 39 (by omega), this 40 (by omega), this 41 (by omega), this 42 (by omega), this 43 (by omega), this 44 (by omega), this 45 (by omega), this 46 (by omega), this 47 (by omega), this 48 (by omega), this 49 (by omega), this 50 (by omega), this 51 (by omega), this 52 (by omega), this 53 (by omega), this 54 (by omega), this 55 (by omega), this 56 (by omega), this 57 (by omega), this 58 (by omega), this 59 (by omega), this 60 (by omega), this 61 (by omega), this 62 (by omega), this 63 (by omega)]
  have eq : ∀ k, k = i → (x v (encT2 fun n => f (n + 64 * k))) = encT2 fun n => if n + 64 * k = 64 * i + j then v else f (n + 64 * k) := fun k hk => by
    subst hk
    rw [hx]
    congr 1
    funext n
    by_cases hn : n = j
    · rw [if_pos hn, if_pos (by omega)]
    · rw [if_neg hn, if_neg (by omega)]
  match i, h with
  | 0, _ => show (⟨x v (encT2 fun n => f (n + 64 * 0)), encT2 fun n => f (n + 64 * 1), encT2 fun n => f (n + 64 * 2), encT2 fun n => f (n + 64 * 3), encT2 fun n => f (n + 64 * 4), encT2 fun n => f (n + 64 * 5), encT2 fun n => f (n + 64 * 6), encT2 fun n => f (n + 64 * 7)⟩ : T3) = ⟨encT2 fun n => if n + 64 * 0 = 64 * 0 + j then v else f (n + 64 * 0), encT2 fun n => if n + 64 * 1 = 64 * 0 + j then v else f (n + 64 * 1), encT2 fun n => if n + 64 * 2 = 64 * 0 + j then v else f (n + 64 * 2), encT2 fun n => if n + 64 * 3 = 64 * 0 + j then v else f (n + 64 * 3), encT2 fun n => if n + 64 * 4 = 64 * 0 + j then v else f (n + 64 * 4), encT2 fun n => if n + 64 * 5 = 64 * 0 + j then v else f (n + 64 * 5), encT2 fun n => if n + 64 * 6 = 64 * 0 + j then v else f (n + 64 * 6), encT2 fun n => if n + 64 * 7 = 64 * 0 + j then v else f (n + 64 * 7)⟩; rw [eq 0 rfl, ne 1 (by omega) (by omega), ne 2 (by omega) (by omega), ne 3 (by omega) (by omega), ne 4 (by omega) (by omega), ne 5 (by omega) (by omega), ne 6 (by omega) (by omega), ne 7 (by omega) (by omega)]
  | 1, _ => show (⟨encT2 fun n => f (n + 64 * 0), x v (encT2 fun n => f (n + 64 * 1)), encT2 fun n => f (n + 64 * 2), encT2 fun n => f (n + 64 * 3), encT2 fun n => f (n + 64 * 4), encT2 fun n => f (n + 64 * 5), encT2 fun n => f (n + 64 * 6), encT2 fun n => f (n + 64 * 7)⟩ : T3) = ⟨encT2 fun n => if n + 64 * 0 = 64 * 1 + j then v else f (n + 64 * 0), encT2 fun n => if n + 64 * 1 = 64 * 1 + j then v else f (n + 64 * 1), encT2 fun n => if n + 64 * 2 = 64 * 1 + j then v else f (n + 64 * 2), encT2 fun n => if n + 64 * 3 = 64 * 1 + j then v else f (n + 64 * 3), encT2 fun n => if n + 64 * 4 = 64 * 1 + j then v else f (n + 64 * 4), encT2 fun n => if n + 64 * 5 = 64 * 1 + j then v else f (n + 64 * 5), encT2 fun n => if n + 64 * 6 = 64 * 1 + j then v else f (n + 64 * 6), encT2 fun n => if n + 64 * 7 = 64 * 1 + j then v else f (n + 64 * 7)⟩; rw [ne 0 (by omega) (by omega), eq 1 rfl, ne 2 (by omega) (by omega), ne 3 (by omega) (by omega), ne 4 (by omega) (by omega), ne 5 (by omega) (by omega), ne 6 (by omega) (by omega), ne 7 (by omega) (by omega)]
  | 2, _ => show (⟨encT2 fun n => f (n + 64 * 0), encT2 fun n => f (n + 64 * 1), x v (encT2 fun n => f (n + 64 * 2)), encT2 fun n => f (n + 64 * 3), encT2 fun n => f (n + 64 * 4), encT2 fun n => f (n + 64 * 5), encT2 fun n => f (n + 64 * 6), encT2 fun n => f (n + 64 * 7)⟩ : T3) = ⟨encT2 fun n => if n + 64 * 0 = 64 * 2 + j then v else f (n + 64 * 0), encT2 fun n => if n + 64 * 1 = 64 * 2 + j then v else f (n + 64 * 1), encT2 fun n => if n + 64 * 2 = 64 * 2 + j then v else f (n + 64 * 2), encT2 fun n => if n + 64 * 3 = 64 * 2 + j then v else f (n + 64 * 3), encT2 fun n => if n + 64 * 4 = 64 * 2 + j then v else f (n + 64 * 4), encT2 fun n => if n + 64 * 5 = 64 * 2 + j then v else f (n + 64 * 5), encT2 fun n => if n + 64 * 6 = 64 * 2 + j then v else f (n + 64 * 6), encT2 fun n => if n + 64 * 7 = 64 * 2 + j then v else f (n + 64 * 7)⟩; rw [ne 0 (by omega) (by omega), ne 1 (by omega) (by omega), eq 2 rfl, ne 3 (by omega) (by omega), ne 4 (by omega) (by omega), ne 5 (by omega) (by omega), ne 6 (by omega) (by omega), ne 7 (by omega) (by omega)]
  | 3, _ => show (⟨encT2 fun n => f (n + 64 * 0), encT2 fun n => f (n + 64 * 1), encT2 fun n => f (n + 64 * 2), x v (encT2 fun n => f (n + 64 * 3)), encT2 fun n => f (n + 64 * 4), encT2 fun n => f (n + 64 * 5), encT2 fun n => f (n + 64 * 6), encT2 fun n => f (n + 64 * 7)⟩ : T3) = ⟨encT2 fun n => if n + 64 * 0 = 64 * 3 + j then v else f (n + 64 * 0), encT2 fun n => if n + 64 * 1 = 64 * 3 + j then v else f (n + 64 * 1), encT2 fun n => if n + 64 * 2 = 64 * 3 + j then v else f (n + 64 * 2), encT2 fun n => if n + 64 * 3 = 64 * 3 + j then v else f (n + 64 * 3), encT2 fun n => if n + 64 * 4 = 64 * 3 + j then v else f (n + 64 * 4), encT2 fun n => if n + 64 * 5 = 64 * 3 + j then v else f (n + 64 * 5), encT2 fun n => if n + 64 * 6 = 64 * 3 + j then v else f (n + 64 * 6), encT2 fun n => if n + 64 * 7 = 64 * 3 + j then v else f (n + 64 * 7)⟩; rw [ne 0 (by omega) (by omega), ne 1 (by omega) (by omega), ne 2 (by omega) (by omega), eq 3 rfl, ne 4 (by omega) (by omega), ne 5 (by omega) (by omega), ne 6 (by omega) (by omega), ne 7 (by omega) (by omega)]
  | 4, _ => show (⟨encT2 fun n => f (n + 64 * 0), encT2 fun n => f (n + 64 * 1), encT2 fun n => f (n + 64 * 2), encT2 fun n => f (n + 64 * 3), x v (encT2 fun n => f (n + 64 * 4)), encT2 fun n => f (n + 64 * 5), encT2 fun n => f (n + 64 * 6), encT2 fun n => f (n + 64 * 7)⟩ : T3) = ⟨encT2 fun n => if n + 64 * 0 = 64 * 4 + j then v else f (n + 64 * 0), encT2 fun n => if n + 64 * 1 = 64 * 4 + j then v else f (n + 64 * 1), encT2 fun n => if n + 64 * 2 = 64 * 4 + j then v else f (n + 64 * 2), encT2 fun n => if n + 64 * 3 = 64 * 4 + j then v else f (n + 64 * 3), encT2 fun n => if n + 64 * 4 = 64 * 4 + j then v else f (n + 64 * 4), encT2 fun n => if n + 64 * 5 = 64 * 4 + j then v else f (n + 64 * 5), encT2 fun n => if n + 64 * 6 = 64 * 4 + j then v else f (n + 64 * 6), encT2 fun n => if n + 64 * 7 = 64 * 4 + j then v else f (n + 64 * 7)⟩; rw [ne 0 (by omega) (by omega), ne 1 (by omega) (by omega), ne 2 (by omega) (by omega), ne 3 (by omega) (by omega), eq 4 rfl, ne 5 (by omega) (by omega), ne 6 (by omega) (by omega), ne 7 (by omega) (by omega)]
  | 5, _ => show (⟨encT2 fun n => f (n + 64 * 0), encT2 fun n => f (n + 64 * 1), encT2 fun n => f (n + 64 * 2), encT2 fun n => f (n + 64 * 3), encT2 fun n => f (n + 64 * 4), x v (encT2 fun n => f (n + 64 * 5)), encT2 fun n => f (n + 64 * 6), encT2 fun n => f (n + 64 * 7)⟩ : T3) = ⟨encT2 fun n => if n + 64 * 0 = 64 * 5 + j then v else f (n + 64 * 0), encT2 fun n => if n + 64 * 1 = 64 * 5 + j then v else f (n + 64 * 1), encT2 fun n => if n + 64 * 2 = 64 * 5 + j then v else f (n + 64 * 2), encT2 fun n => if n + 64 * 3 = 64 * 5 + j then v else f (n + 64 * 3), encT2 fun n => if n + 64 * 4 = 64 * 5 + j then v else f (n + 64 * 4), encT2 fun n => if n + 64 * 5 = 64 * 5 + j then v else f (n + 64 * 5), encT2 fun n => if n + 64 * 6 = 64 * 5 + j then v else f (n + 64 * 6), encT2 fun n => if n + 64 * 7 = 64 * 5 + j then v else f (n + 64 * 7)⟩; rw [ne 0 (by omega) (by omega), ne 1 (by omega) (by omega), ne 2 (by omega) (by omega), ne 3 (by omega) (by omega), ne 4 (by omega) (by omega), eq 5 rfl, ne 6 (by omega) (by omega), ne 7 (by omega) (by omega)]
  | 6, _ => show (⟨encT2 fun n => f (n + 64 * 0), encT2 fun n => f (n + 64 * 1), encT2 fun n => f (n + 64 * 2), encT2 fun n => f (n + 64 * 3), encT2 fun n => f (n + 64 * 4), encT2 fun n => f (n + 64 * 5), x v (encT2 fun n => f (n + 64 * 6)), encT2 fun n => f (n + 64 * 7)⟩ : T3) = ⟨encT2 fun n => if n + 64 * 0 = 64 * 6 + j then v else f (n + 64 * 0), encT2 fun n => if n + 64 * 1 = 64 * 6 + j then v else f (n + 64 * 1), encT2 fun n => if n + 64 * 2 = 64 * 6 + j then v else f (n + 64 * 2), encT2 fun n => if n + 64 * 3 = 64 * 6 + j then v else f (n + 64 * 3), encT2 fun n => if n + 64 * 4 = 64 * 6 + j then v else f (n + 64 * 4), encT2 fun n => if n + 64 * 5 = 64 * 6 + j then v else f (n + 64 * 5), encT2 fun n => if n + 64 * 6 = 64 * 6 + j then v else f (n + 64 * 6), encT2 fun n => if n + 64 * 7 = 64 * 6 + j then v else f (n + 64 * 7)⟩; rw [ne 0 (by omega) (by omega), ne 1 (by omega) (by omega), ne 2 (by omega) (by omega), ne 3 (by omega) (by omega), ne 4 (by omega) (by omega), ne 5 (by omega) (by omega), eq 6 rfl, ne 7 (by omega) (by omega)]
  | 7, _ => show (⟨encT2 fun n => f (n + 64 * 0), encT2 fun n => f (n + 64 * 1), encT2 fun n => f (n + 64 * 2), encT2 fun n => f (n + 64 * 3), encT2 fun n => f (n + 64 * 4), encT2 fun n => f (n + 64 * 5), encT2 fun n => f (n + 64 * 6), x v (encT2 fun n => f (n + 64 * 7))⟩ : T3) = ⟨encT2 fun n => if n + 64 * 0 = 64 * 7 + j then v else f (n + 64 * 0), encT2 fun n => if n + 64 * 1 = 64 * 7 + j then v else f (n + 64 * 1), encT2 fun n => if n + 64 * 2 = 64 * 7 + j then v else f (n + 64 * 2), encT2 fun n => if n + 64 * 3 = 64 * 7 + j then v else f (n + 64 * 3), encT2 fun n => if n + 64 * 4 = 64 * 7 + j then v else f (n + 64 * 4), encT2 fun n => if n + 64 * 5 = 64 * 7 + j then v else f (n + 64 * 5), encT2 fun n => if n + 64 * 6 = 64 * 7 + j then v else f (n + 64 * 6), encT2 fun n => if n + 64 * 7 = 64 * 7 + j then v else f (n + 64 * 7)⟩; rw [ne 0 (by omega) (by omega), ne 1 (by omega) (by omega), ne 2 (by omega) (by omega), ne 3 (by omega) (by omega), ne 4 (by omega) (by omega), ne 5 (by omega) (by omega), ne 6 (by omega) (by omega), eq 7 rfl]
  | n + 8, h => omega

theorem E3_ok : EnvOk E3 where
  get_enc := fun n f h => by
    have h : n < 512 := h
    show getT3.getD (n / 64) (fun _ => kc undefA) (getT2.getD (n % 64) (kc undefA)) (encT3 f) = f n
    rw [get3 _ _ _ (by omega)]
    have := E2_ok.get_enc (n % 64) (fun m => f (m + 64 * (n / 64))) (by show n % 64 < 64; omega)
    have h2 : n % 64 + 64 * (n / 64) = n := by omega
    rw [h2] at this
    exact this
  set_enc := fun n v f h => by
    have h : n < 512 := h
    show setT3.getD (n / 64) (fun _ _ t => t) (setT2.getD (n % 64) (fun _ t => t)) v (encT3 f) = encT3 (fun m => if m = n then v else f m)
    rw [set3 (n / 64) (setT2.getD (n % 64) (fun _ t => t)) v f (n % 64) (by omega) (fun f => E2_ok.set_enc (n % 64) v f (by show n % 64 < 64; omega)) (by omega)]
    congr 1
    funext m
    have h2 : 64 * (n / 64) + n % 64 = n := by omega
    rw [h2]

/-! ### functions -/
inductive FF where
  | bad
  | t2 (b : FB T2)
  | t3 (b : FB T3)

noncomputable def compF (B : Base) (f : FuncId) : FF :=
  match B.P.funcs[f]? with
  | none => .bad
  | some fn => match fn.body with
    | none => .bad
    | some c => cond (Nat.ble fn.ntmps 64) (.t2 (compB E2 B fn c)) (cond (Nat.ble fn.ntmps 512) (.t3 (compB E3 B fn c)) .bad)

/-- A call. -/
noncomputable def fcall (code : FuncId → FF) (C : Ctx) : Nat → Caller :=
  @Nat.rec (fun _ => Caller) (fun _ _ _ _ => .fail) (fun n ih f args H k =>
    @FF.rec (fun _ => Out) (acall C (Nat.succ n) f args H k) (fun b => callB encT2 b ⟨C, ih⟩ args H k (acall C (Nat.succ n) f args H k)) (fun b => callB encT3 b ⟨C, ih⟩ args H k (acall C (Nat.succ n) f args H k)) (code f))
end Go.Proofs.Ytamhmfdbnlkmkaa

