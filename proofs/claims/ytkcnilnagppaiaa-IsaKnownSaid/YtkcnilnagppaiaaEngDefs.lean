/- An evaluator of the model's code over abstract values: its definitions. Nothing here is trusted: EngSound shows that what it tells holds of the model. -/
import Derived.Calls
import Derived.Control
import Derived.Scope
import Derived.Deep.Quiet
import Derived.Below
set_option linter.unusedVariables false
set_option linter.unusedSimpArgs false
namespace Go.Proofs.Ytkcnilnagppaiaa
open Go

/-- A tree of cells that never change: a scalar, or a slice with its elements' cells. -/
inductive TC where
  | sc (v : Value)
  | sl (s : Nat) (el : List (List TC))
  deriving Inhabited

/-- An abstract value. -/
inductive AV where
  | tc (c : TC)
  | any
  | agg (cs : List AV)
  | tuple (vs : List AV)
  | ptr (o s i f ver : Nat)
  | vptr (s : Nat) (el : List (List TC)) (i f : Nat)
  | slice (o s i len cap : Nat) (ex : Bool) (ver : Nat)
  | map (o : Nat)
  | func (fn : Fn) (first cap : List AV)
  deriving Inhabited

abbrev AV.sc (v : Value) : AV := .tc (.sc v)
abbrev AV.sl (s : Nat) (el : List (List TC)) : AV := .tc (.sl s el)

inductive AObj where
  | tcells (s : Nat) (el : List (List TC))
  | cells (s : Nat) (el : List (List AV))
  | map (es : List (Value × AV))
  deriving Inhabited

def AObj.len : AObj → Nat
  | .tcells _ el => el.length
  | .cells _ el => el.length
  | _ => 0

abbrev Heap := List AObj
abbrev Tmps := List AV

def undefA : AV := .tc (.sc (.tuple #[]))

def mapO {α β : Type} (f : α → Option β) : List α → Option (List β)
  | [] => some []
  | a :: r => match f a, mapO f r with
    | some b, some l => some (b :: l)
    | _, _ => none

/-- What is known of a type. -/
structure TI where
  under : TypeDesc
  size : Nat
  bytes : Nat
  zero : Option Value
  agg : Bool

structure Ctx where
  P : Program
  L : Nat
  pure : FuncId → Bool
  glob : Nat → Option (Nat × List (List TC))
  sym : Bool
  summ : FuncId → Option (List AV → Option AV)

section
variable (C : Ctx)

def isIntD : TypeDesc → Bool
  | .int _ => true
  | _ => false

def aggD : TypeDesc → Bool
  | .struct _ => true
  | .array _ _ => true
  | _ => false

def tinfo (t : TypeId) : Option TI :=
  match C.P.info? t, C.P.underlying t with
  | some i, some d => some { under := d, size := i.size, bytes := i.bytes, zero := i.zero, agg := aggD d }
  | _, _ => none

/-! ### values -/

mutual
def toVal : AV → Option Value
  | .tc (.sc v) => some v
  | .agg cs => (toVals cs).map fun l => .agg l.toArray
  | .tuple vs => (toVals vs).map fun l => .tuple l.toArray
  | _ => none
def toVals : List AV → Option (List Value)
  | [] => some []
  | a :: r => match toVal a, toVals r with
    | some v, some l => some (v :: l)
    | _, _ => none
end

def scs (l : List Value) : List AV := l.map fun v => .tc (.sc v)

def ofVal : Value → AV
  | .agg cs => .agg (scs cs.toList)
  | v => .tc (.sc v)

def ofRes : Value → AV
  | .tuple vs => .tuple (vs.toList.map ofVal)
  | v => ofVal v

def ev (T : Tmps) : Operand → AV
  | .tmp t => T.getD t undefA
  | .const v => ofVal v
  | .global g => match C.glob g with | some (s, el) => .vptr s el 0 0 | none => .any
  | .func f => .tc (.sc (.func (.func f) #[] #[]))

def put (T : Tmps) (dst : Option Tmp) (v : AV) : Tmps :=
  match dst with
  | some d => T.set d v
  | none => T

/-- The cells of a value, as they lie in memory. -/
def cellsOfA : AV → Option (List AV)
  | .tc (.sc (.agg _)) => none
  | .agg cs => some cs
  | .tuple _ => none
  | .any => none
  | v => some [v]

/-- A value that lies in one cell. -/
def cellOk : AV → Bool
  | .tc (.sc (.agg _)) => false
  | .tc (.sc (.tuple _)) => false
  | .tc _ => true
  | .any => false
  | .agg _ => false
  | .tuple _ => false
  | _ => true

def asTC : List AV → Option (List TC)
  | [] => some []
  | .tc c :: r => (asTC r).map (c :: ·)
  | _ :: _ => none

def newCells (s : Nat) (el : List (List AV)) : AObj :=
  match mapO asTC el with
  | some t => .tcells s t
  | none => .cells s el

def tcs (l : List TC) : List AV := l.map .tc

/-- Some cells of a row. -/
def span {α : Type} (l : List α) (f n : Nat) : Option (List α) :=
  let r := (l.drop f).take n
  if r.length = n then some r else none

def setSpan {α : Type} (l : List α) (f : Nat) (cs : List α) : List α := l.take f ++ cs ++ l.drop (f + cs.length)

/-! ### a Sem that touches no memory -/

def pureRun {α : Type} (P : Program) : Sem α → Option α
  | .pure a => some a
  | .program k => pureRun P (k P)
  | .mark _ k => pureRun P k
  | _ => none

def genOp (o : Oper) (T : Tmps) (k : AV → Prop) : Prop :=
  match mapO (fun x => toVal (ev C T x)) o.op.operands.toList with
  | none => False
  | some _ =>
    match pureRun C.P (execOp (fun x => (toVal (ev C T x)).getD undef) o) with
    | some (.value v) => k (ofRes v)
    | _ => False

/-- The kinds of operations that 'genOp' takes. -/
def genOk : Op → Bool
  | .binOp .. | .unOp .. | .convert .. | .field .. | .index .. | .makeInterface .. | .extract .. | .slice .. | .nilCheck _ => true
  | .call { callee := .builtin b, .. } => match b with | .len | .cap | .min | .max => true | _ => false
  | _ => false

def intOf? : AV → Option Int
  | .tc (.sc (.int _ n)) => some n
  | _ => none

/-- 'x == nil', x being no scalar. -/
def eqNil (t : TypeDesc) (x y : AV) (k : Bool → Prop) : Prop :=
  match t, x, y with
  | .slice _, .slice _ _ _ len _ _ _, .tc (.sc (.slice none _ _)) => match len with | 0 => False | _ + 1 => k false
  | .slice _, .tc (.sl _ el), .tc (.sc (.slice none _ _)) => match el with | [] => False | _ :: _ => k false
  | .map _ _, .map _, .tc (.sc (.map none)) => k false
  | .func _ _ _, .func _ _ _, .tc (.sc .nilFunc) => k false
  | .pointer _, .ptr .., .tc (.sc (.pointer none)) => k false
  | _, _, _ => False

def loadA (H : Heap) (t : TI) (a : AV) (k : AV → Prop) : Prop :=
  match a with
  | .ptr o s i f ver =>
    match H[o]? with
    | some (.tcells s' el) =>
      cond (decide (s' = s) && decide (ver = el.length)) (match el[i]? with
        | none => False
        | some row => match t.agg with
          | true => match span row f t.size with | some r => k (.agg (tcs r)) | none => False
          | false => match row[f]? with | some c => k (.tc c) | none => False) False
    | some (.cells s' el) =>
      cond (decide (s' = s) && decide (ver = el.length)) (match el[i]? with
        | none => False
        | some row => match t.agg with
          | true => match span row f t.size with | some r => k (.agg r) | none => False
          | false => match row[f]? with | some c => k c | none => False) False
    | _ => False
  | .vptr _ el i f =>
    match el[i]? with
    | none => False
    | some row => match t.agg with
      | true => match span row f t.size with | some r => k (.agg (tcs r)) | none => False
      | false => match row[f]? with | some c => k (.tc c) | none => False
  | _ => False

/-- A slice's place 'idx', or an array's. -/
def indexA (t : TI) (e : Option TI) (x : AV) (idx : AV) (k : AV → Prop) : Prop :=
  match intOf? idx, t.under, e with
  | some n, .slice _, some et =>
    match x with
    | .slice o s i len _ _ ver => cond (decide (0 ≤ n) && decide (n < len) && decide (et.size = s)) (k (.ptr o s (i + n.toNat) 0 ver)) False
    | .tc (.sl s el) => cond (decide (0 ≤ n) && decide (n < el.length) && decide (et.size = s)) (k (.vptr s el n.toNat 0)) False
    | _ => False
  | some n, .array len _, some et =>
    match x with
    | .ptr o s i f ver => cond (decide (0 ≤ n) && decide (n < len)) (k (.ptr o s i (f + n.toNat * et.size) ver)) False
    | .vptr s el i f => cond (decide (0 ≤ n) && decide (n < len)) (k (.vptr s el i (f + n.toNat * et.size))) False
    | _ => False
  | _, _, _ => False

def fieldAddrA (t : TI) (x : AV) (fd : Nat) (k : AV → Prop) : Prop :=
  match t.under with
  | .struct fs => match fs[fd]? with
    | some fl =>
      match tinfo C fl.type with
      | some ft => cond (decide (ft.size ≠ 0)) (match x with
        | .ptr o s i f ver => k (.ptr o s i (f + fl.offset) ver)
        | .vptr s el i f => k (.vptr s el i (f + fl.offset))
        | _ => False) False
      | none => False
    | none => False
  | _ => False

/-- A part of a struct or an array that is held as a value. -/
def partA (t : TI) (cs : List AV) (off : Nat) (k : AV → Prop) : Prop :=
  match t.agg with
  | true => match span cs off t.size with | some r => k (.agg r) | none => False
  | false => match cs[off]? with | some c => k c | none => False

def fieldA (t : TI) (x : AV) (fd : Nat) (k : AV → Prop) : Prop :=
  match t.under, x with
  | .struct fs, .agg cs => match fs[fd]? with
    | some fl => match tinfo C fl.type with
      | some ft => partA ft cs fl.offset k
      | none => False
    | none => False
  | _, _ => False

def boundA (d : Int) (x : Option AV) (k : Int → Prop) : Prop :=
  match x with
  | none => k d
  | some a => match intOf? a with | some n => k n | none => False

def sliceA (t et : TI) (x : AV) (lo hi mx : Option AV) (k : AV → Prop) : Prop :=
  match t.under, x with
  | .slice _, .slice o s i len cap ex ver =>
    match mx with
    | none =>
      boundA (len : Int) hi fun h => boundA 0 lo fun l =>
        cond (decide (0 ≤ l) && decide (l ≤ h) && decide (h ≤ cap) && decide (et.size = s)) (k (.slice o s (i + l.toNat) (h.toNat - l.toNat) (cap - l.toNat) ex ver)) False
    | some m => match hi with
      | none => False
      | some hv => boundA 0 (some m) fun m => boundA 0 (some hv) fun h => boundA 0 lo fun l =>
        cond (decide (0 ≤ l) && decide (l ≤ h) && decide (h ≤ m) && decide (m ≤ cap) && decide (et.size = s)) (k (.slice o s (i + l.toNat) (h.toNat - l.toNat) (m.toNat - l.toNat) true ver)) False
  | .slice _, .tc (.sl s el) =>
    match mx with
    | none =>
      boundA (el.length : Int) hi fun h => boundA 0 lo fun l =>
        cond (decide (0 ≤ l) && decide (l ≤ h) && decide (h ≤ el.length) && decide (et.size = s)) (k (.tc (.sl s ((el.take h.toNat).drop l.toNat)))) False
    | some _ => False
  | _, _ => False

def lenA (x : AV) (k : AV → Prop) : Prop :=
  match x with
  | .slice _ _ _ len _ _ _ => k (.sc (.int .i64 len))
  | .tc (.sl _ el) => k (.sc (.int .i64 el.length))
  | _ => False

def capA (x : AV) (k : AV → Prop) : Prop :=
  match x with
  | .slice _ _ _ _ cap true _ => k (.sc (.int .i64 cap))
  | _ => False

/-! ### quiet operations: they leave memory alone -/
def qop (o : Oper) (T : Tmps) (H : Heap) (k : AV → Prop) : Prop :=
  match o.op with
  | .move x => k (ev C T x)
  | .assign x => k (ev C T x)
  | .pick c a b => match ev C T c with
    | .tc (.sc (.bool t)) => cond t (k (ev C T a)) (k (ev C T b))
    | _ => False
  | .load t x => match tinfo C t with
    | some t => loadA H t (ev C T x) k
    | none => False
  | .nilCheck x => match ev C T x with
    | .ptr o s i f ver => k (.ptr o s i f ver)
    | .vptr s el i f => k (.vptr s el i f)
    | .func fn first cap => match fn with | .func _ => k (.func fn first cap) | _ => False
    | .tc (.sc v) => match v with
      | .func fn first cap => match fn with | .func _ => k (.tc (.sc (.func fn first cap))) | _ => False
      | _ => False
    | _ => False
  | .fieldAddr t x fd => match tinfo C t with
    | some t => fieldAddrA C t (ev C T x) fd k
    | none => False
  | .field t x fd => match tinfo C t with
    | some t => fieldA C t (ev C T x) fd k
    | none => False
  | .indexAddr t x i => match tinfo C t with
    | some ti => match ti.under with
      | .slice e => indexA ti (tinfo C e) (ev C T x) (ev C T i) k
      | .array _ e => indexA ti (tinfo C e) (ev C T x) (ev C T i) k
      | _ => False
    | none => False
  | .slice t x lo hi mx => match ev C T x with
    | .tc (.sc _) => genOp C o T k
    | x => match tinfo C t with
      | some ti => match ti.under with
        | .slice e => match tinfo C e with
          | some et => sliceA ti et x (lo.map (ev C T)) (hi.map (ev C T)) (mx.map (ev C T)) k
          | none => False
        | _ => False
      | none => False
  | .extract x i => match ev C T x with
    | .tuple vs => match vs[i]? with | some v => k v | none => False
    | _ => False
  | .makeFunc fn first cap => k (.func fn (first.toList.map (ev C T)) (cap.toList.map (ev C T)))
  | .call { callee := .builtin .len, args, argTypes } => match args.toList with
    | [x] => match ev C T x with
      | .tc (.sc _) => genOp C o T k
      | v => match argTypes.toList with
        | [t] => match tinfo C t with
          | some ti => match ti.under with | .slice _ => lenA v k | _ => False
          | none => False
        | _ => False
    | _ => False
  | .call { callee := .builtin .cap, args, argTypes } => match args.toList with
    | [x] => match ev C T x with
      | .tc (.sc _) => genOp C o T k
      | v => match argTypes.toList with
        | [t] => match tinfo C t with
          | some ti => match ti.under with | .slice _ => capA v k | _ => False
          | none => False
        | _ => False
    | _ => False
  | .binOp op t x y _ =>
    match toVal (ev C T x), toVal (ev C T y) with
    | some _, some _ => genOp C o T k
    | _, _ => match op, tinfo C t with
      | .eql, some ti => eqNil ti.under (ev C T x) (ev C T y) (fun b => k (.sc (.bool b)))
      | .neq, some ti => eqNil ti.under (ev C T x) (ev C T y) (fun b => k (.sc (.bool (!b))))
      | _, _ => False
  | op => cond (genOk op) (genOp C o T k) False

/-! ### trees out of memory -/
def fz (H : Heap) : Nat → AV → Option TC
  | _, .tc c => some c
  | n + 1, .slice o s i len _ _ ver =>
    match H[o]? with
    | some (.tcells s' el) =>
      if s' = s ∧ ver = el.length ∧ i + len ≤ el.length then some (.sl s (if i = 0 ∧ len = el.length then el else (el.drop i).take len)) else none
    | some (.cells s' el) =>
      if s' = s ∧ ver = el.length ∧ i + len ≤ el.length then
        (mapO (fun row => mapO (fun c => fz H n c) row) ((el.drop i).take len)).map fun e => .sl s e
      else none
    | _ => none
  | _, _ => none

/-- A value as a tree. -/
def fzA (H : Heap) : AV → Option AV
  | .agg cs => (mapO (fz H 8) cs).map fun l => .agg (tcs l)
  | .tuple _ => none
  | .any => some .any
  | .vptr s el i f => some (.vptr s el i f)
  | v => (fz H 8 v).map .tc

def fzR (H : Heap) : AV → Option AV
  | .tuple vs => (mapO (fzA H) vs).map .tuple
  | v => fzA H v

/-! ### operations that make memory, or write -/

def zeroCellsA (t : TI) : Option (List TC) := t.zero.map fun v => v.cells.toList.map .sc

def fillA : (Nat → Option (Nat × Nat)) → List AV → List (Nat × AV) → Option (List AV)
  | _, cs, [] => some cs
  | place, cs, (i, v) :: rest =>
    match place i, cellsOfA v with
    | some (off, size), some vc => if vc.length = size ∧ off + size ≤ cs.length then fillA place (setSpan cs off vc) rest else none
    | _, _ => none

def buildA (t : TI) (parts : List (Nat × AV)) (k : AV → Prop) : Prop :=
  match zeroCellsA t, t.under with
  | some z, .struct fs =>
    cond (fs.toList.all fun f => (tinfo C f.type).isSome) (match fillA (fun i => (fs[i]?).bind fun f => (tinfo C f.type).map fun ft => (f.offset, ft.size)) (tcs z) parts with
    | some cs => k (.agg cs)
    | none => False) False
  | some z, .array _ e =>
    match tinfo C e with
    | some et => match fillA (fun i => some (i * et.size, et.size)) (tcs z) parts with
      | some cs => k (.agg cs)
      | none => False
    | none => False
  | _, _ => False

/-- Rows of a new slice: zero, but for its parts. -/
def fillRows : List (List AV) → List (Nat × AV) → Option (List (List AV))
  | rows, [] => some rows
  | rows, (i, v) :: rest =>
    match rows[i]?, cellsOfA v with
    | some r, some vc => if vc.length = r.length ∧ vc.all cellOk = true then fillRows (rows.set i vc) rest else none
    | _, _ => none

def buildSliceA (t : TI) (len : Nat) (parts : List (Nat × AV)) (H : Heap) (k : AV → Heap → Prop) : Prop :=
  match t.under with
  | .slice e => match tinfo C e with
    | some et => match zeroCellsA et with
      | some z => cond (decide (len * et.size ≤ 2 ^ 24) && decide (et.size ≠ 0) && decide (z.length = et.size) && (tcs z).all cellOk) (match fillRows (List.replicate len (tcs z)) parts with
        | some rows => k (.slice H.length et.size 0 len len true len) (H ++ [newCells et.size rows])
        | none => False) False
      | none => False
    | none => False
  | _ => False

def allocA (t : TI) (cs : List AV) (H : Heap) (k : AV → Heap → Prop) : Prop :=
  cond (decide (cs.length = t.size) && decide (t.size ≠ 0) && cs.all cellOk) (k (.ptr H.length t.size 0 0 1) (H ++ [newCells t.size [cs]])) False

def storeA (t : TI) (a v : AV) (H : Heap) (k : Heap → Prop) : Prop :=
  match a, cellsOfA v with
  | .ptr o s i f ver, some cs =>
    match H[o]? with
    | some (.tcells s' el) =>
      cond (decide (s' = s) && decide (ver = el.length) && decide (cs.length = t.size) && cs.all cellOk) (match el[i]? with
        | none => False
        | some row => cond (decide (f + cs.length ≤ row.length)) (match asTC cs with
          | some c => k (H.set o (.tcells s (el.set i (setSpan row f c))))
          | none => k (H.set o (.cells s ((el.map tcs).set i (setSpan (tcs row) f cs))))) False) False
    | some (.cells s' el) =>
      cond (decide (s' = s) && decide (ver = el.length) && decide (cs.length = t.size) && cs.all cellOk) (match el[i]? with
        | none => False
        | some row => cond (decide (f + cs.length ≤ row.length)) (k (H.set o (.cells s (el.set i (setSpan row f cs))))) False) False
    | _ => False
  | _, _ => False

def makeSliceA (t : TI) (len cap : AV) (H : Heap) (k : AV → Heap → Prop) : Prop :=
  match t.under, intOf? len, intOf? cap with
  | .slice e, some l, some c => match tinfo C e with
    | some et => match zeroCellsA et with
      | some z => cond (decide (0 ≤ l) && decide (l ≤ c) && decide (et.bytes * c ≤ 2 ^ 48) && decide (c < 2 ^ 63) && decide (et.size ≠ 0) && decide (z.length = et.size) && (tcs z).all cellOk)
          (k (.slice H.length et.size 0 l.toNat c.toNat true c.toNat) (H ++ [.tcells et.size (List.replicate c.toNat z)])) False
      | none => False
    | none => False
  | _, _, _ => False

/-- The rows that are appended. -/
def srcRows (H : Heap) (et : TI) (zeros : Bool) (z : List TC) (x : AV) (k : List (List AV) → Prop) : Prop :=
  match zeros with
  | true => match intOf? x with
    | some n => cond (decide (0 ≤ n) && decide (n < 2 ^ 40) && decide (n * et.bytes ≤ 2 ^ 48) && decide (z.length = et.size) && (tcs z).all cellOk) (k (List.replicate n.toNat (tcs z))) False
    | none => False
  | false => match x with
    | .tc (.sc (.slice none 0 _)) => k []
    | .tc (.sl s' el) => cond (decide (s' = et.size)) (k (el.map tcs)) False
    | .slice o s' i len _ _ ver =>
      match H[o]? with
      | some (.tcells s2 el) => cond (decide (s' = et.size) && decide (s2 = et.size) && decide (ver = el.length) && decide (i + len ≤ el.length)) (k (((el.drop i).take len).map tcs)) False
      | some (.cells s2 el) => cond (decide (s' = et.size) && decide (s2 = et.size) && decide (ver = el.length) && decide (i + len ≤ el.length)) (k ((el.drop i).take len)) False
      | _ => False
    | _ => False

def rowsOf : AObj → Option (List (List AV))
  | .tcells _ el => some (el.map tcs)
  | .cells _ el => some el
  | _ => none

def sizeOfObj : AObj → Nat
  | .tcells s _ => s
  | .cells s _ => s
  | _ => 0

def joinRows (o : AObj) (rows : List (List AV)) : AObj :=
  match o, mapO asTC rows with
  | .tcells s el, some t => .tcells s (el ++ t)
  | .tcells s el, none => .cells s (el.map tcs ++ rows)
  | .cells s el, _ => .cells s (el ++ rows)
  | o, _ => o

def overRows (o : AObj) (at_ : Nat) (rows : List (List AV)) : AObj :=
  match o, mapO asTC rows with
  | .tcells s el, some t => .tcells s (setSpan el at_ t)
  | .tcells s el, none => .cells s (setSpan (el.map tcs) at_ rows)
  | .cells s el, _ => .cells s (setSpan el at_ rows)
  | o, _ => o

def cutObj (o : AObj) (i len : Nat) : AObj :=
  match o with
  | .tcells s el => .tcells s ((el.drop i).take len)
  | .cells s el => .cells s ((el.drop i).take len)
  | o => o

def appendA (et : TI) (s : AV) (rows : List (List AV)) (H : Heap) (k : AV → Heap → Prop) : Prop :=
  match s with
  | .tc (.sc (.slice none 0 0)) =>
    match rows with
    | [] => k (.tc (.sc (.slice none 0 0))) H
    | _ => cond (decide ((2 * rows.length + 1000) * et.bytes ≤ 2 ^ 48) && decide (rows.length < 2 ^ 60) && decide (et.size ≠ 0)) (k (.slice H.length et.size 0 rows.length rows.length false rows.length) (H ++ [newCells et.size rows])) False
  | .slice o s i len cap ex ver =>
    match H[o]? with
    | some obj =>
      cond (decide (sizeOfObj obj = s) && decide (et.size = s) && decide (s ≠ 0) && decide (ver = obj.len) && decide (i + len ≤ obj.len) && decide ((2 * (len + rows.length) + 1000) * et.bytes ≤ 2 ^ 48) && decide (len + rows.length < 2 ^ 60))
        (cond (decide (len + rows.length ≤ cap) && decide (i + len + rows.length ≤ obj.len))
          (k (.slice o s i (len + rows.length) cap ex ver) (H.set o (overRows obj (i + len) rows)))
          (cond (ex && decide (cap < len + rows.length))
            (k (.slice H.length s 0 (len + rows.length) (len + rows.length) false (len + rows.length)) (H ++ [joinRows (cutObj obj i len) rows]))
            (cond (!ex && decide (i = 0) && decide (len = obj.len))
              (k (.slice o s 0 (len + rows.length) (len + rows.length) false (len + rows.length)) (H.set o (joinRows obj rows)))
              False))) False
    | none => False
  | _ => False

def keyEq : Value → Value → Option Bool
  | .int k a, .int k' b => if k = k' then some (a == b) else none
  | .string a, .string b => some (a == b)
  | .bool a, .bool b => some (a == b)
  | _, _ => none

def findA (key : Value) : List (Value × AV) → Nat → (Option (Nat × AV) → Prop) → Prop
  | [], _, k => k none
  | (q, v) :: r, i, k => match keyEq key q with
    | some b => cond b (k (some (i, v))) (findA key r (i + 1) k)
    | none => False

def scalarKey : TypeDesc → Value → Bool
  | .int k, .int j _ => decide (k = j)
  | .string, .string _ => true
  | .bool, .bool _ => true
  | _, _ => false

def lookDone (ok : Bool) (z : Value) (k : AV → Prop) : Option (Nat × AV) → Prop
  | some (_, v) => match ok with | true => k (.tuple [v, .sc (.bool true)]) | false => k v
  | none => match ok with | true => k (.tuple [ofVal z, .sc (.bool false)]) | false => k (ofVal z)

def lookIn (m : AV) (H : Heap) (kv : Value) (done : Option (Nat × AV) → Prop) : Prop :=
  match m with
  | .tc (.sc (.map none)) => done none
  | .map o => match H[o]? with
    | some (.map es) => findA kv es 0 done
    | _ => False
  | _ => False

def lookupA (t : TI) (m key : AV) (ok : Bool) (H : Heap) (k : AV → Prop) : Prop :=
  match t.under, key with
  | .map kt et, .tc (.sc kv) =>
    match tinfo C kt, tinfo C et with
    | some kti, some eti =>
      cond (scalarKey kti.under kv) (match eti.zero with
        | some z => lookIn m H kv (lookDone ok z k)
        | none => False) False
    | _, _ => False
  | _, _ => False

def mapUpdateA (t : TI) (m key v : AV) (H : Heap) (k : Heap → Prop) : Prop :=
  match t.under, key, m with
  | .map kt _, .tc (.sc kv), .map o =>
    match tinfo C kt, H[o]? with
    | some kti, some (.map es) =>
      cond (scalarKey kti.under kv) (findA kv es 0 fun
        | some (i, _) => k (H.set o (.map (es.set i (kv, v))))
        | none => k (H.set o (.map (es ++ [(kv, v)])))) False
    | _, _ => False
  | _, _, _ => False

/-- The function that is called, with its arguments. -/
def target (f : AV) (args : List AV) : Option (FuncId × List AV) :=
  match f with
  | .tc (.sc (.func (.func g) first cap)) => some (g, scs first.toList ++ args ++ scs cap.toList)
  | .func (.func g) first cap => some (g, first ++ args ++ cap)
  | _ => none

/-- May the function be entered? -/
def entered (fn : Func) : Bool := fn.body.isSome && !(fn.name == "runtime.NumGoroutine")

abbrev Caller := FuncId → List AV → Heap → (AV → Heap → Prop) → Prop

/-- A call that is told of trees, and tells trees. -/
def callPure (call : Caller) (f : FuncId) (args : List AV) (k : AV → Prop) : Prop :=
  call f args [] fun r H => match fzR H r with | some t => k t | none => False

/-- What a call of trees comes to: told by a summary, or found by a run. -/
def callT (call : Caller) (f : FuncId) (args : List AV) (k : AV → Prop) : Prop :=
  match C.summ f with
  | some g => match g args with | some r => k r | none => False
  | none => callPure call f args k

def isTC : AV → Bool
  | .tc _ => true
  | _ => false

/-- Does a value lead to no object? -/
def isTree : AV → Bool
  | .tc _ => true
  | .any => true
  | .vptr .. => true
  | .agg cs => cs.all isTC
  | _ => false

def callA (call : Caller) (f : FuncId) (args : List AV) (H : Heap) (k : AV → Heap → Prop) : Prop :=
  match C.pure f with
  | true => match args.all isTree with
    | true => callT C call f args fun r => k r H
    | false => match mapO (fzA H) args with
      | some as => callT C call f as fun r => match toVal r with | some u => k (ofRes u) H | none => False
      | none => False
  | false => call f args H k

def aop (call : Caller) (o : Oper) (T : Tmps) (H : Heap) (k : AV → Heap → Prop) : Prop :=
  match o.op with
  | .alloc t => match tinfo C t with
    | some ti => match zeroCellsA ti with
      | some z => allocA ti (tcs z) H k
      | none => False
    | none => False
  | .box t x => match tinfo C t, cellsOfA (ev C T x) with
    | some ti, some cs => allocA ti cs H k
    | _, _ => False
  | .build t parts => match tinfo C t with
    | some ti => buildA C ti (parts.toList.map fun p => (p.1, ev C T p.2)) fun v => k v H
    | none => False
  | .buildSlice t len parts => match tinfo C t with
    | some ti => buildSliceA C ti len (parts.toList.map fun p => (p.1, ev C T p.2)) H k
    | none => False
  | .store t a x => match tinfo C t with
    | some ti => storeA ti (ev C T a) (ev C T x) H fun H' => k undefA H'
    | none => False
  | .makeSlice t l c => match tinfo C t with
    | some ti => makeSliceA C ti (ev C T l) (ev C T c) H k
    | none => False
  | .makeMap _ r => match r with
    | none => k (.map H.length) (H ++ [.map []])
    | some _ => False
  | .lookup t x i ok => match tinfo C t with
    | some ti => lookupA C ti (ev C T x) (ev C T i) ok H fun v => k v H
    | none => False
  | .mapUpdate t m key x => match tinfo C t with
    | some ti => mapUpdateA C ti (ev C T m) (ev C T key) (ev C T x) H fun H' => k undefA H'
    | none => False
  | .call { callee := .builtin .append, args, argTypes } =>
    match args.toList, argTypes.toList with
    | [s, x], [st, xt] => match tinfo C st, tinfo C xt with
      | some sti, some xti => match sti.under with
        | .slice e => match tinfo C e with
          | some et => match zeroCellsA et with
            | some z => cond (decide (z.length = et.size) && decide (et.size ≠ 0)) (srcRows H et (isIntD xti.under) z (ev C T x) fun rows => appendA et (ev C T s) rows H k) False
            | none => False
          | none => False
        | _ => False
      | _, _ => False
    | _, _ => False
  | .call { callee := .value f, args, .. } =>
    match target (ev C T f) (args.toList.map (ev C T)) with
    | some (g, as) => match C.P.funcs[g]? with
      | some fn => cond (entered fn) (callA C call g as H k) False
      | none => False
    | none => False
  | _ => qop C o T H fun v => k v H

/-- Is an operation carried out? -/
def wantedA (ops : Array Oper) (o : Oper) (T : Tmps) : Option Bool :=
  match o.guard with
  | none => some true
  | some (j, want) => match (ops[j]?).bind (·.dst) with
    | none => some false
    | some d => match T.getD d undefA with
      | .tc (.sc (.bool b)) => some (b == want)
      | .any => none
      | _ => some false

def aops (call : Caller) (ops : Array Oper) : List Oper → Tmps → Heap → (Tmps → Heap → Prop) → Prop
  | [], T, H, K => K T H
  | o :: r, T, H, K => match wantedA ops o T with
    | none => False
    | some b => cond b (aop C call o T H fun v H' => aops call ops r (put T o.dst v) H' K) (aops call ops r (put T o.dst undefA) H K)

/-- Operations of a region that draws its order: quiet ones, and calls that are told of trees. -/
def aopsQ (ops : Array Oper) : List Oper → Tmps → Heap → (Tmps → Prop) → Prop
  | [], T, _, K => K T
  | o :: r, T, H, K => match wantedA ops o T with
    | none => False
    | some b => cond b (match o.op with
        | .call { callee := .value f, args, .. } =>
          match target (ev C T f) (args.toList.map (ev C T)) with
          | some (g, as) => match C.P.funcs[g]?, C.summ g, mapO (fzA H) as with
            | some fn, some sm, some as => cond (entered fn) (match sm as with
              | some v => match toVal v with | some u => aopsQ ops r (put T o.dst (ofRes u)) H K | none => False
              | none => False) False
            | _, _, _ => False
          | none => False
        | _ => qop C o T H fun v => aopsQ ops r (put T o.dst v) H K) (aopsQ ops r (put T o.dst undefA) H K)

inductive AEx where
  | normal | exit (id : Nat) | goto (l : Nat) | ret

/-! ### what a loop's round forgets -/
def tmpsOf (l : List Operand) : List Tmp := l.filterMap fun | .tmp t => some t | _ => none

/-- (seen so far, written first): in the text's order. -/
def firsts : Code → List Tmp × List Tmp → List Tmp × List Tmp
  | .region _ ops _, acc => ops.toList.foldl (fun acc o =>
      let rd := tmpsOf o.op.operands.toList ++ (match o.guard with | some (j, _) => ((ops[j]?).bind (·.dst)).toList | none => [])
      let seen := rd ++ acc.1
      match o.dst with
      | some d => if seen.contains d then (seen, acc.2) else (d :: seen, d :: acc.2)
      | none => (seen, acc.2)) acc
  | .seq a b, acc => firsts b (firsts a acc)
  | .cond c a b, acc => firsts b (firsts a (tmpsOf [c] ++ acc.1, acc.2))
  | .block _ b, acc => firsts b acc
  | .loop b, acc => firsts b acc
  | .scope b, acc => firsts b acc
  | _, acc => acc

def scrubOf (nm : Array String) (body : Code) : List Tmp := (firsts body ([], [])).2.filter fun t => nm.getD t "" == ""

def scrub (l : List Tmp) (T : Tmps) : Tmps := l.foldl (fun T t => T.set t .any) T

/-- Does a value lead to no object from n on? -/
def lowA : Nat → Nat → AV → Bool
  | _, _, .tc _ => true
  | _, _, .any => true
  | _, _, .vptr .. => true
  | _, n, .ptr o .. => decide (o < n)
  | _, n, .slice o .. => decide (o < n)
  | _, n, .map o => decide (o < n)
  | d + 1, n, .agg cs => cs.all (lowA d n)
  | d + 1, n, .tuple cs => cs.all (lowA d n)
  | d + 1, n, .func _ first cap => first.all (lowA d n) && cap.all (lowA d n)
  | 0, _, _ => false

def lowObj (n : Nat) : AObj → Bool
  | .tcells .. => true
  | .cells _ el => el.all fun r => r.all (lowA 4 n)
  | .map es => es.all fun e => lowA 4 n e.2

def trunc (n : Nat) (T : Tmps) (H : Heap) : Heap :=
  if T.all (lowA 4 n) && (H.take n).all (lowObj n) then H.take n else H

def roundT (sym : Bool) (sl : List Tmp) (T : Tmps) : Tmps := match sym with | true => scrub sl T | false => T
def roundH (sym : Bool) (n0 : Nat) (T : Tmps) (H : Heap) : Heap := match sym with | true => trunc n0 T H | false => H

def iter (body : Tmps → Heap → (AEx → Tmps → Heap → Prop) → Prop) (sl : List Tmp) (n0 : Nat) (sym : Bool) : Nat → Tmps → Heap → (AEx → Tmps → Heap → Prop) → Prop
  | 0, _, _, _ => False
  | n + 1, T, H, K =>
    body (roundT sym sl T) (roundH sym n0 (roundT sym sl T) H) fun e T2 H2 => match e with
      | .normal => iter body sl n0 sym n T2 H2 K
      | e => K e T2 H2

def acode (call : Caller) (nm : Array String) : Code → Tmps → Heap → (AEx → Tmps → Heap → Prop) → Prop
  | .skip, T, H, K => K .normal T H
  | .label _, T, H, K => K .normal T H
  | .region _ ops draw, T, H, K => match draw with
    | false => aops C call ops ops.toList T H fun T' H' => K .normal T' H'
    | true => cond (Region.lexB .any ops && C.P.follows .mixedOrders) (aopsQ C ops ops.toList T H fun T' => K .normal T' H) False
  | .seq a b, T, H, K => acode call nm a T H fun e T' H' => match e with
    | .normal => acode call nm b T' H' K
    | e => K e T' H'
  | .cond c a b, T, H, K => match ev C T c with
    | .tc (.sc (.bool t)) => cond t (acode call nm a T H K) (acode call nm b T H K)
    | _ => False
  | .block id b, T, H, K => acode call nm b T H fun e T' H' => match e with
    | .exit id' => cond (decide (id' = id)) (K .normal T' H') (K (.exit id') T' H')
    | e => K e T' H'
  | .loop b, T, H, K => iter (acode call nm b) (match C.sym with | true => scrubOf nm b | false => []) H.length C.sym C.L T H K
  | .exit id, T, H, K => K (.exit id) T H
  | .ret, T, H, K => K .ret T H
  | .goto l, T, H, K => K (.goto l) T H
  | _, _, _, _ => False

def resultsA (fn : Func) (T : Tmps) (H : Heap) (k : AV → Prop) : Prop :=
  go fn.results.toList []
where
  go : List ResultVar → List AV → Prop
    | [], acc => match acc with
      | [v] => k v
      | vs => k (.tuple vs.reverse)
    | .tmp t :: r, acc => go r (T.getD t undefA :: acc)
    | .cell a t :: r, acc => match tinfo C t with
      | some ti => loadA H ti (T.getD a undefA) fun v => go r (v :: acc)
      | none => False

def acall : Nat → Caller
  | 0, _, _, _, _ => False
  | d + 1, f, args, H, k => match C.P.funcs[f]? with
    | none => False
    | some fn => match fn.body with
      | none => False
      | some c => acode C (acall d) fn.tmpNames c (args ++ List.replicate (fn.ntmps - args.length) undefA) H fun e T' H' => match e with
        | .normal => resultsA C fn T' H' fun v => k v H'
        | .ret => resultsA C fn T' H' fun v => k v H'
        | _ => False

end
end Go.Proofs.Ytkcnilnagppaiaa
