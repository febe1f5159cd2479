/- The evaluator: SyRel, SySym, SyEq, SyQuiet, SyQuiet2, SyQuiet3 laid together. -/
import Derived.Test.YtamhmfdbnlkmkaaMg1
import Derived.Laws.Sem
import Derived.Laws.Cells
import Derived.Laws.IdiomCopy
import Derived.Laws.World
import Derived.Laws.Entries
import Derived.Orders
import Derived.Laws.StructEq
/- What an abstract value says of a value, an abstract heap of a world. -/
set_option linter.unusedVariables false
set_option linter.unusedSectionVars false
set_option linter.unusedSimpArgs false
namespace Go.Proofs.Ytamhmfdbnlkmkaa
open Go Go.RowKit

theorem setK_eq {α β : Type} : ∀ (l : List α) (n : Nat) (x : α) (k : List α → β), setK l n x k = k (l.set n x)
  | [], n, x, k => rfl
  | _ :: r, 0, x, k => rfl
  | y :: r, n + 1, x, k => setK_eq r n x fun r' => k (y :: r')

theorem getL_eq : ∀ (l : List AV) (n : Nat), getL l n = l.getD n undefA
  | [], n => rfl
  | a :: r, 0 => rfl
  | a :: r, n + 1 => by
    have := getL_eq r n
    simp only [List.getD_cons_succ]
    exact this

theorem putK_eq {β : Type} (T : Tmps) (dst : Option Tmp) (v : AV) (k : Tmps → β) : putK T dst v k = k (put T dst v) := by
  cases dst
  · rfl
  · simp only [putK, put, setK_eq]

/-! ### what expressions denote -/
structure Env where
  I : Nat → Int
  B : Nat → Bool
  S : Nat → ByteArray
  F : Nat → List Value → Value

structure Den where
  i : Int := 0
  b : Bool := false
  s : ByteArray := ByteArray.empty
  l : List Value := []

def STy.val : STy → Den → Value
  | .int k, d => .int k d.i
  | .bool, d => .bool d.b
  | .str, d => .string d.s

def binI (op : BinOp) (k : IntKind) (a b : Int) : Int :=
  match op with
  | .add => k.wrap (a + b)
  | .sub => k.wrap (a - b)
  | .mul => k.wrap (a * b)
  | .quo => k.wrap (a.tdiv b)
  | .rem => a.tmod b
  | .and => k.wrap (BitVec.ofInt k.bits a &&& BitVec.ofInt k.bits b).toNat
  | .or => k.wrap (BitVec.ofInt k.bits a ||| BitVec.ofInt k.bits b).toNat
  | .xor => k.wrap (BitVec.ofInt k.bits a ^^^ BitVec.ofInt k.bits b).toNat
  | .andNot => k.wrap (BitVec.ofInt k.bits a &&& ~~~ BitVec.ofInt k.bits b).toNat
  | .shl => k.wrap (a * 2 ^ (min b.toNat k.bits))
  | .shr => a.fdiv (2 ^ (min b.toNat k.bits))
  | _ => 0

def cmpI (op : BinOp) (a b : Int) : Bool :=
  match op with
  | .eql => a == b
  | .neq => a != b
  | .lss => decide (a < b)
  | .leq => decide (a ≤ b)
  | .gtr => decide (a > b)
  | .geq => decide (a ≥ b)
  | _ => false

def cmpS (op : BinOp) (a b : ByteArray) : Bool :=
  let eq := a.toList == b.toList
  let lt := Op.bytesLess a.toList b.toList
  match op with
  | .eql => eq
  | .neq => !eq
  | .lss => lt
  | .leq => lt || eq
  | .gtr => !(lt || eq)
  | .geq => !lt
  | _ => false

def den (ρ : Env) : Sx → Den
  | .var i => { i := ρ.I i, b := ρ.B i, s := ρ.S i }
  | .lit n => { i := n }
  | .lb b => { b := b }
  | .ls s => { s := s }
  | .bin op k a b => { i := binI op k (den ρ a).i (den ρ b).i }
  | .cmp op a b => { b := cmpI op (den ρ a).i (den ρ b).i }
  | .cmps op a b => { b := cmpS op (den ρ a).s (den ρ b).s }
  | .eqb a b => { b := (den ρ a).b == (den ρ b).b }
  | .conv k a => { i := k.wrap (den ρ a).i }
  | .not a => { b := !(den ρ a).b }
  | .and a b => { b := (den ρ a).b && (den ρ b).b }
  | .len a => { i := (den ρ a).s.size }
  | .at_ a i => { i := ((den ρ a).s[(den ρ i).i.toNat]?.getD 0).toNat }
  | .sub a lo hi => { s := (den ρ a).s.extract (den ρ lo).i.toNat (den ρ hi).i.toNat }
  | .cat a b => { s := (den ρ a).s ++ (den ρ b).s }
  | .idx a c => { i := Go.Lib.indexByte (den ρ a).s.data.toList (den ρ c).i.toNat.toUInt8 }
  | .app f as => match ρ.F f (den ρ as).l with
    | .int _ n => { i := n }
    | .bool b => { b := b }
    | .string s => { s := s }
    | _ => {}
  | .nil => {}
  | .arg t a r => { l := t.val (den ρ a) :: (den ρ r).l }

/-- What variables stand for, and what is to hold of the value that is told. -/
class Obs where
  ρ : Env
  Q : AV → Prop

section
variable [ω : Obs]

abbrev dv (e : Sx) : Den := den ω.ρ e

/-- What a run comes to is as it is to be, for these variables. -/
def Ok : Out → Prop
  | .fail => False
  | .leaf r => ω.Q r
  | .sel e a b => cond (dv e).b (Ok a) (Ok b)

instance : CoeSort Out Prop := ⟨Ok⟩
instance : CoeTail Out Prop := ⟨Ok⟩

@[simp] theorem ok_fail : Ok .fail = False := rfl

theorem Ok.elim {p : Prop} (h : Ok .fail) : p := False.elim h

theorem sel_ok {e : Sx} {a b : Out} (h : Ok (.sel e a b)) : ((dv e).b = true ∧ Ok a) ∨ ((dv e).b = false ∧ Ok b) := by
  simp only [Ok] at h
  cases hb : (dv e).b with
  | true => rw [hb] at h; exact .inl ⟨rfl, h⟩
  | false => rw [hb] at h; exact .inr ⟨rfl, h⟩

def sizeAt (w : World) (b n : Nat) : Prop := ∃ c ty fr, w.heap[b]? = some (.cells c ty fr) ∧ n ≤ c.size

inductive RT (Pb : Nat → Prop) (w : World) : TC → Value → Prop
  | sc (v : Value) : RT Pb w (.sc v) v
  | sy (t : STy) (e : Sx) : RT Pb w (.sy t e) (t.val (dv e))
  | nil (s : Nat) : RT Pb w (.sl s []) (.slice none 0 0)
  | sl (s b o cap : Nat) (el : List (List TC)) (g : Nat → Nat → Value) (hl : el.length ≤ cap) (hb : el ≠ [] → Pb b)
      (hs : ∀ r, r ∈ el → r.length = s)
      (hc : ∀ (i f : Nat) (r : List TC) (c : TC), el[i]? = some r → r[f]? = some c → w.cell? ⟨b, o + i * s + f, none⟩ = some (g i f) ∧ (g i f).oneCell' = true)
      (hr : ∀ (i f : Nat) (r : List TC) (c : TC), el[i]? = some r → r[f]? = some c → RT Pb w c (g i f)) : RT Pb w (.sl s el) (.slice (some ⟨b, o, none⟩) el.length cap)

theorem RT.mono {Pb Pb' : Nat → Prop} {w w' : World} {c : TC} {v : Value} (h : RT Pb w c v) (hp : ∀ b, Pb b → Pb' b)
    (hw : ∀ b, Pb b → w'.heap[b]? = w.heap[b]?) : RT Pb' w' c v := by
  induction h with
  | sc v => exact .sc v
  | sy t e => exact .sy t e
  | nil s => exact .nil s
  | sl s b o cap el g hl hb hs hc hr ih =>
    refine .sl s b o cap el g hl (fun h => hp b (hb h)) hs (fun i f r c hi hf => ?_) (fun i f r c hi hf => ih i f r c hi hf)
    have hne : el ≠ [] := by rintro rfl; simp at hi
    obtain ⟨h1, h2⟩ := hc i f r c hi hf
    refine ⟨?_, h2⟩
    simp only [World.cell?] at h1 ⊢
    rw [hw b (hb hne)]
    exact h1

theorem RT.sc_iff {Pb : Nat → Prop} {w : World} {u v : Value} (h : RT Pb w (.sc u) v) : v = u := by cases h; rfl

abbrev Mu := Nat → Nat → Option Nat

inductive Rel (Pb : Nat → Prop) (μ : Mu) (w : World) : AV → Value → Prop
  | tc (c : TC) (v : Value) (h : RT Pb w c v) : Rel Pb μ w (.tc c) v
  | any (v : Value) : Rel Pb μ w .any v
  | agg (cs : List AV) (vs : Array Value) (hl : cs.length = vs.size) (h : ∀ (i : Nat) (a : AV) (v : Value), cs[i]? = some a → vs[i]? = some v → Rel Pb μ w a v) : Rel Pb μ w (.agg cs) (.agg vs)
  | tuple (cs : List AV) (vs : Array Value) (hl : cs.length = vs.size) (h : ∀ (i : Nat) (a : AV) (v : Value), cs[i]? = some a → vs[i]? = some v → Rel Pb μ w a v) : Rel Pb μ w (.tuple cs) (.tuple vs)
  | ptr (o s i f ver b : Nat) (h : μ o ver = some b) : Rel Pb μ w (.ptr o s i f ver) (.pointer (some ⟨b, i * s + f, none⟩))
  | vptr (s i f b off : Nat) (el : List (List TC)) (g : Nat → Nat → Value) (hb : el ≠ [] → Pb b) (hs : ∀ r, r ∈ el → r.length = s)
      (hc : ∀ (i f : Nat) (r : List TC) (c : TC), el[i]? = some r → r[f]? = some c → w.cell? ⟨b, off + i * s + f, none⟩ = some (g i f) ∧ (g i f).oneCell' = true)
      (hr : ∀ (i f : Nat) (r : List TC) (c : TC), el[i]? = some r → r[f]? = some c → RT Pb w c (g i f)) : Rel Pb μ w (.vptr s el i f) (.pointer (some ⟨b, off + i * s + f, none⟩))
  | slice (o s i len cap : Nat) (ex : Bool) (ver b off c : Nat) (h : μ o ver = some b) (h1 : len ≤ cap) (h2 : cap ≤ c) (h3 : ex = true → c = cap)
      (h4 : sizeAt w b ((i + c) * s)) (h5 : c = 0 ∨ off = i * s) : Rel Pb μ w (.slice o s i len cap ex ver) (.slice (some ⟨b, off, none⟩) len c)
  | map (o b : Nat) (h : μ o 0 = some b) : Rel Pb μ w (.map o) (.map (some b))
  | func (fn : Fn) (first cap : List AV) (vf vc : Array Value) (hl : first.length = vf.size) (hl' : cap.length = vc.size)
      (h : ∀ (i : Nat) (a : AV) (v : Value), first[i]? = some a → vf[i]? = some v → Rel Pb μ w a v) (h' : ∀ (i : Nat) (a : AV) (v : Value), cap[i]? = some a → vc[i]? = some v → Rel Pb μ w a v) : Rel Pb μ w (.func fn first cap) (.func fn vf vc)

/-- What stays when a world goes on: protected blocks, and how great blocks are. -/
structure Ext (Pb : Nat → Prop) (w w' : World) : Prop where
  prot : ∀ b, Pb b → w'.heap[b]? = w.heap[b]?
  size : ∀ b n, sizeAt w b n → sizeAt w' b n

theorem Ext.refl (Pb : Nat → Prop) (w : World) : Ext Pb w w := ⟨fun _ _ => rfl, fun _ _ h => h⟩

theorem Ext.trans {Pb Pb' : Nat → Prop} {a b c : World} (h : Ext Pb a b) (hp : ∀ x, Pb x → Pb' x) (h' : Ext Pb' b c) : Ext Pb a c :=
  ⟨fun x hx => (h'.prot x (hp x hx)).trans (h.prot x hx), fun x n hx => h'.size x n (h.size x n hx)⟩

theorem Rel.mono {Pb Pb' : Nat → Prop} {μ μ' : Mu} {w w' : World} {a : AV} {v : Value} (h : Rel Pb μ w a v) (hp : ∀ b, Pb b → Pb' b)
    (hμ : ∀ o ver b, μ o ver = some b → μ' o ver = some b) (hw : Ext Pb w w') : Rel Pb' μ' w' a v := by
  induction h with
  | tc c v h => exact .tc c v (h.mono hp hw.prot)
  | any v => exact .any v
  | agg cs vs hl h ih => exact .agg cs vs hl ih
  | tuple cs vs hl h ih => exact .tuple cs vs hl ih
  | ptr o s i f ver b h => exact .ptr o s i f ver b (hμ _ _ _ h)
  | vptr s i f b off el g hb hs hc hr =>
    refine .vptr s i f b off el g (fun h => hp b (hb h)) hs (fun i f r c hi hf => ?_) (fun i f r c hi hf => (hr i f r c hi hf).mono hp hw.prot)
    have hne : el ≠ [] := by rintro rfl; simp at hi
    obtain ⟨h1, h2⟩ := hc i f r c hi hf
    refine ⟨?_, h2⟩
    simp only [World.cell?] at h1 ⊢
    rw [hw.prot b (hb hne)]
    exact h1
  | slice o s i len cap ex ver b off c h h1 h2 h3 h4 h5 => exact .slice o s i len cap ex ver b off c (hμ _ _ _ h) h1 h2 h3 (hw.size _ _ h4) h5
  | map o b h => exact .map o b (hμ _ _ _ h)
  | func fn first cap vf vc hl hl' h h' ih ih' => exact .func fn first cap vf vc hl hl' ih ih'

def RelL (Pb : Nat → Prop) (μ : Mu) (w : World) (l : List AV) (vs : Array Value) : Prop :=
  l.length = vs.size ∧ ∀ (i : Nat) (a : AV) (v : Value), l[i]? = some a → vs[i]? = some v → Rel Pb μ w a v

theorem RelL.mono {Pb Pb' : Nat → Prop} {μ μ' : Mu} {w w' : World} {l : List AV} {vs : Array Value} (h : RelL Pb μ w l vs) (hp : ∀ b, Pb b → Pb' b)
    (hμ : ∀ o ver b, μ o ver = some b → μ' o ver = some b) (hw : Ext Pb w w') : RelL Pb' μ' w' l vs :=
  ⟨h.1, fun i a v hi hv => (h.2 i a v hi hv).mono hp hμ hw⟩

/-- Rows of an object in a block. -/
structure CellsRel (Pb : Nat → Prop) (μ : Mu) (w : World) (b s : Nat) (el : List (List AV)) : Prop where
  rows : ∀ r, r ∈ el → r.length = s
  cells : ∃ c ty fr, w.heap[b]? = some (.cells c ty fr) ∧ (∀ off, off < c.size → w.frozen? ⟨b, off, none⟩ = false) ∧ el.length * s ≤ c.size ∧
    ∀ (i f : Nat) (r : List AV) (a : AV), el[i]? = some r → r[f]? = some a → ∃ v, c[i * s + f]? = some v ∧ v.oneCell' = true ∧ Rel Pb μ w a v

structure MapRel (Pb : Nat → Prop) (μ : Mu) (w : World) (b : Nat) (es : List (Value × AV)) : Prop where
  map : ∃ es' clock, w.heap[b]? = some (.map es' clock) ∧ es.length = es'.size ∧
    ∀ (i : Nat) (e : Value × AV) (e' : MapEntry), es[i]? = some e → es'[i]? = some e' → e'.key = e.1 ∧ Rel Pb μ w e.2 e'.val

def ObjRel (Pb : Nat → Prop) (μ : Mu) (B0 : Nat) (w : World) (o : Nat) : AObj → Prop
  | .tcells s el => ∃ b, μ o el.length = some b ∧ B0 ≤ b ∧ ¬ Pb b ∧ CellsRel Pb μ w b s (el.map tcs)
  | .cells s el => ∃ b, μ o el.length = some b ∧ B0 ≤ b ∧ ¬ Pb b ∧ CellsRel Pb μ w b s el
  | .map es => ∃ b, μ o 0 = some b ∧ B0 ≤ b ∧ ¬ Pb b ∧ MapRel Pb μ w b es

structure HeapRel (Pb : Nat → Prop) (μ : Mu) (B0 : Nat) (w : World) (H : Heap) : Prop where
  dom : ∀ o ver b, μ o ver = some b → ∃ obj, H[o]? = some obj ∧ ver ≤ obj.len
  obj : ∀ o obj, H[o]? = some obj → ObjRel Pb μ B0 w o obj
  inj : ∀ o o' obj obj' b, H[o]? = some obj → H[o']? = some obj' → μ o obj.len = some b → μ o' obj'.len = some b → o = o'
  pb : ∀ b, Pb b → b < w.heap.size
  base : B0 ≤ w.heap.size

/-- An object's block, its size of elements, its rows: of both kinds of rows. -/
theorem ObjRel.rows {Pb : Nat → Prop} {μ : Mu} {B0 : Nat} {w : World} {o : Nat} {obj : AObj} {el : List (List AV)} (h : ObjRel Pb μ B0 w o obj)
    (hr : rowsOf obj = some el) : el.length = obj.len ∧ ∃ b, μ o obj.len = some b ∧ B0 ≤ b ∧ ¬ Pb b ∧ CellsRel Pb μ w b (sizeOfObj obj) el := by
  cases obj with
  | tcells s l => simp only [rowsOf, Option.some.injEq] at hr; subst hr; exact ⟨by simp [AObj.len], h⟩
  | cells s l => simp only [rowsOf, Option.some.injEq] at hr; subst hr; exact ⟨by simp [AObj.len], h⟩
  | map es => simp [rowsOf] at hr

/-- The block of any object. -/
theorem ObjRel.block {Pb : Nat → Prop} {μ : Mu} {B0 : Nat} {w : World} {o : Nat} {obj : AObj} (h : ObjRel Pb μ B0 w o obj) :
    ∃ b, μ o obj.len = some b ∧ B0 ≤ b ∧ ¬ Pb b ∧ b < w.heap.size := by
  have key : ∀ b (x : Obj), w.heap[b]? = some x → b < w.heap.size := fun b x hx => by
    rcases Nat.lt_or_ge b w.heap.size with h | h
    · exact h
    · simp [Array.getElem?_eq_none h] at hx
  cases obj with
  | tcells s l => obtain ⟨b, h1, h2, h3, _, c, ty, fr, h5, _⟩ := h; exact ⟨b, h1, h2, h3, key _ _ h5⟩
  | cells s l => obtain ⟨b, h1, h2, h3, _, c, ty, fr, h5, _⟩ := h; exact ⟨b, h1, h2, h3, key _ _ h5⟩
  | map es => obtain ⟨b, h1, h2, h3, ⟨es', clock, h5, _⟩⟩ := h; exact ⟨b, h1, h2, h3, key _ _ h5⟩

theorem CellsRel.mono {Pb Pb' : Nat → Prop} {μ μ' : Mu} {w w' : World} {b s : Nat} {el : List (List AV)} (h : CellsRel Pb μ w b s el) (hp : ∀ b, Pb b → Pb' b)
    (hμ : ∀ o ver b, μ o ver = some b → μ' o ver = some b) (hw : Ext Pb w w') (hb : w'.heap[b]? = w.heap[b]?) : CellsRel Pb' μ' w' b s el := by
  obtain ⟨h1, c, ty, fr, h2, h3, h4, h5⟩ := h
  refine ⟨h1, c, ty, fr, by rw [hb, h2], fun off ho => ?_, h4, fun i f r a hi hf => ?_⟩
  · have := h3 off ho
    simp only [World.frozen?] at this ⊢
    rw [hb]; exact this
  · obtain ⟨v, q1, q2, q3⟩ := h5 i f r a hi hf
    exact ⟨v, q1, q2, q3.mono hp hμ hw⟩

theorem MapRel.mono {Pb Pb' : Nat → Prop} {μ μ' : Mu} {w w' : World} {b : Nat} {es : List (Value × AV)} (h : MapRel Pb μ w b es) (hp : ∀ b, Pb b → Pb' b)
    (hμ : ∀ o ver b, μ o ver = some b → μ' o ver = some b) (hw : Ext Pb w w') (hb : w'.heap[b]? = w.heap[b]?) : MapRel Pb' μ' w' b es := by
  obtain ⟨es', clock, h1, h2, h3⟩ := h
  exact ⟨es', clock, by rw [hb, h1], h2, fun i e e' hi he => ⟨(h3 i e e' hi he).1, (h3 i e e' hi he).2.mono hp hμ hw⟩⟩

theorem ObjRel.mono {Pb Pb' : Nat → Prop} {μ μ' : Mu} {B0 : Nat} {w w' : World} {o : Nat} {obj : AObj} (h : ObjRel Pb μ B0 w o obj) (hp : ∀ b, Pb b → Pb' b)
    (hμ : ∀ o ver b, μ o ver = some b → μ' o ver = some b) (hw : Ext Pb w w') (hb : ∀ b, μ o obj.len = some b → ¬ Pb' b ∧ w'.heap[b]? = w.heap[b]?) : ObjRel Pb' μ' B0 w' o obj := by
  cases obj with
  | tcells s l => obtain ⟨b, h1, h2, h3, h4⟩ := h; exact ⟨b, hμ _ _ _ h1, h2, (hb b h1).1, h4.mono hp hμ hw (hb b h1).2⟩
  | cells s l => obtain ⟨b, h1, h2, h3, h4⟩ := h; exact ⟨b, hμ _ _ _ h1, h2, (hb b h1).1, h4.mono hp hμ hw (hb b h1).2⟩
  | map es => obtain ⟨b, h1, h2, h3, h4⟩ := h; exact ⟨b, hμ _ _ _ h1, h2, (hb b h1).1, h4.mono hp hμ hw (hb b h1).2⟩

/-! ### values -/

theorem Rel.sc_eq {Pb : Nat → Prop} {μ : Mu} {w : World} {u v : Value} (h : Rel Pb μ w (.tc (.sc u)) v) : v = u := by
  cases h with | tc _ _ h => exact h.sc_iff

theorem Rel.of_sc (Pb : Nat → Prop) (μ : Mu) (w : World) (u : Value) : Rel Pb μ w (.tc (.sc u)) u := .tc _ _ (.sc u)

mutual
theorem toVal_ok {Pb : Nat → Prop} {μ : Mu} {w : World} : ∀ (a : AV) {u v : Value}, toVal a = some u → Rel Pb μ w a v → v = u
  | .tc (.sc x), u, v, h, hr => by
    simp only [toVal, Option.some.injEq] at h; subst h; exact hr.sc_eq
  | .tc (.sl s el), u, v, h, hr => by simp [toVal] at h
  | .tc (.sy t e), u, v, h, hr => by simp [toVal] at h
  | .any, _, _, h, _ => by simp [toVal] at h
  | .agg cs, u, v, h, hr => by
    simp only [toVal, Option.map_eq_some_iff] at h
    obtain ⟨l, hl, rfl⟩ := h
    cases hr with
    | agg _ vs hlen hh =>
      have := toVals_ok cs (vs := vs.toList) hl (by simpa using hlen) (fun i a v hi hv => hh i a v hi (by simpa using hv))
      rw [← this]
  | .tuple cs, u, v, h, hr => by
    simp only [toVal, Option.map_eq_some_iff] at h
    obtain ⟨l, hl, rfl⟩ := h
    cases hr with
    | tuple _ vs hlen hh =>
      have := toVals_ok cs (vs := vs.toList) hl (by simpa using hlen) (fun i a v hi hv => hh i a v hi (by simpa using hv))
      rw [← this]
  | .ptr .., _, _, h, _ => by simp [toVal] at h
  | .vptr .., _, _, h, _ => by simp [toVal] at h
  | .slice .., _, _, h, _ => by simp [toVal] at h
  | .map _, _, _, h, _ => by simp [toVal] at h
  | .func .., _, _, h, _ => by simp [toVal] at h
theorem toVals_ok {Pb : Nat → Prop} {μ : Mu} {w : World} : ∀ (l : List AV) {us vs : List Value}, toVals l = some us → l.length = vs.length →
    (∀ (i : Nat) (a : AV) (v : Value), l[i]? = some a → vs[i]? = some v → Rel Pb μ w a v) → vs = us
  | [], us, vs, h, hl, _ => by
    simp only [toVals, Option.some.injEq] at h
    subst h
    exact List.length_eq_zero_iff.1 hl.symm
  | a :: r, us, vs, h, hl, hh => by
    cases vs with
    | nil => simp at hl
    | cons v vs =>
      simp only [toVals] at h
      split at h
      · rename_i u l hu hl'
        simp only [Option.some.injEq] at h
        subst h
        rw [toVal_ok a hu (hh 0 a v rfl rfl), toVals_ok r (vs := vs) hl' (by simpa using hl) (fun i a v hi hv => hh (i + 1) a v (by simpa using hi) (by simpa using hv))]
      · simp at h
end

theorem rel_scs (Pb : Nat → Prop) (μ : Mu) (w : World) (vs : Array Value) : RelL Pb μ w (scs vs.toList) vs := by
  refine ⟨by simp [scs], fun i a v hi hv => ?_⟩
  simp only [scs, List.getElem?_map, Option.map_eq_some_iff] at hi
  obtain ⟨x, hx, rfl⟩ := hi
  rw [Array.getElem?_toList] at hx
  rw [hv] at hx
  simp only [Option.some.injEq] at hx
  subst hx
  exact Rel.of_sc ..

theorem rel_ofVal (Pb : Nat → Prop) (μ : Mu) (w : World) (v : Value) : Rel Pb μ w (ofVal v) v := by
  cases v with
  | agg cs => exact .agg _ _ (rel_scs Pb μ w cs).1 (rel_scs Pb μ w cs).2
  | _ => exact Rel.of_sc ..

theorem rel_ofRes (Pb : Nat → Prop) (μ : Mu) (w : World) (v : Value) : Rel Pb μ w (ofRes v) v := by
  cases v with
  | tuple vs =>
    refine .tuple _ _ (by simp) fun i a v hi hv => ?_
    simp only [List.getElem?_map, Option.map_eq_some_iff] at hi
    obtain ⟨x, hx, rfl⟩ := hi
    rw [Array.getElem?_toList] at hx
    rw [hv] at hx
    simp only [Option.some.injEq] at hx
    subst hx
    exact rel_ofVal ..
  | _ => simp only [ofRes]; exact rel_ofVal ..

theorem RelL.getD {Pb : Nat → Prop} {μ : Mu} {w : World} {T : List AV} {vs : Array Value} (h : RelL Pb μ w T vs) (t : Nat) : Rel Pb μ w (T.getD t undefA) (vs.getD t undef) := by
  by_cases ht : t < T.length
  · have h1 : T[t]? = some T[t] := List.getElem?_eq_getElem ht
    have h2 : vs[t]? = some (vs[t]'(h.1 ▸ ht)) := Array.getElem?_eq_getElem _
    have := h.2 t _ _ h1 h2
    simpa [List.getD, h1, Array.getD, h.1 ▸ ht] using this
  · have h1 : T[t]? = none := List.getElem?_eq_none (Nat.le_of_not_lt ht)
    have h2 : ¬ t < vs.size := h.1 ▸ ht
    simp [List.getD, h1, Array.getD, h2]
    exact Rel.of_sc ..

/-- Temporaries, by a look-up. -/
def RelF (Pb : Nat → Prop) (μ : Mu) (w : World) (T : Look) (vs : Array Value) : Prop := ∀ t, Rel Pb μ w (T t) (vs.getD t undef)

theorem RelF.mono {Pb Pb' : Nat → Prop} {μ μ' : Mu} {w w' : World} {T : Look} {vs : Array Value} (h : RelF Pb μ w T vs) (hp : ∀ b, Pb b → Pb' b)
    (hμ : ∀ o ver b, μ o ver = some b → μ' o ver = some b) (hw : Ext Pb w w') : RelF Pb' μ' w' T vs := fun t => (h t).mono hp hμ hw

theorem RelL.look {Pb : Nat → Prop} {μ : Mu} {w : World} {T : List AV} {vs : Array Value} (h : RelL Pb μ w T vs) : RelF Pb μ w (getL T) vs := fun t => by
  rw [getL_eq]; exact h.getD t

theorem RelL.put {Pb : Nat → Prop} {μ : Mu} {w : World} {T : List AV} {a : Act} (h : RelL Pb μ w T a.tmps) (dst : Option Tmp) {r : AV} {v : Value} (hr : Rel Pb μ w r v) :
    RelL Pb μ w (put T dst r) (a.put dst v).tmps := by
  cases dst with
  | none => exact h
  | some d =>
    refine ⟨by simp [Go.Proofs.Ytamhmfdbnlkmkaa.put, Act.put, h.1], fun i x y hi hv => ?_⟩
    simp only [Go.Proofs.Ytamhmfdbnlkmkaa.put, Act.put, List.getElem?_set, Array.getElem?_setIfInBounds] at hi hv
    by_cases hd : d = i
    · subst hd
      rw [h.1] at hi
      simp only [if_true] at hi hv
      by_cases hlt : d < a.tmps.size
      · simp only [hlt, if_true, Option.some.injEq] at hi hv
        subst hi; subst hv; exact hr
      · simp [hlt] at hi
    · simp only [hd, if_false] at hi hv
      exact h.2 i x y hi hv
end
end Go.Proofs.Ytamhmfdbnlkmkaa

/- Operations of scalars that are known by an expression: what the evaluator tells of them holds. -/
set_option linter.unusedVariables false
set_option linter.unusedSectionVars false
set_option linter.unusedSimpArgs false
namespace Go.Proofs.Ytamhmfdbnlkmkaa
open Go Go.RowKit
variable [Obs]

theorem mapO_ok {α β : Type} {f : α → Option β} : ∀ {l : List α} {r : List β}, mapO f l = some r →
    r.length = l.length ∧ ∀ (i : Nat) (x : α), l[i]? = some x → ∃ y, r[i]? = some y ∧ f x = some y
  | [], r, h => by simp only [mapO, Option.some.injEq] at h; subst h; exact ⟨rfl, fun i x hi => by simp at hi⟩
  | a :: l, r, h => by
    simp only [mapO] at h
    split at h
    · rename_i b l' hb hl
      simp only [Option.some.injEq] at h
      subst h
      obtain ⟨h1, h2⟩ := mapO_ok hl
      refine ⟨by simp [h1], fun i x hi => ?_⟩
      cases i with
      | zero => simp only [List.getElem?_cons_zero, Option.some.injEq] at hi; subst hi; exact ⟨b, rfl, hb⟩
      | succ i => exact h2 i x (by simpa using hi)
    · simp at h

theorem mapO_mem {α β : Type} {f : α → Option β} {l : List α} {r : List β} (h : mapO f l = some r) (x : α) (hx : x ∈ l) : ∃ y, f x = some y := by
  obtain ⟨i, hi⟩ := List.mem_iff_getElem?.1 hx
  obtain ⟨y, _, hy⟩ := (mapO_ok h).2 i x hi
  exact ⟨y, hy⟩

theorem pureRun_ok {α : Type} {P : Program} (s : Sem α) {x : α} (h : pureRun P s = some x) (w : World) : s.run P w = .ok x w := by
  induction s with
  | pure a => simp only [pureRun, Option.some.injEq] at h; subst h; rfl
  | program k ih => simp only [pureRun] at h; simp only [Sem.run]; exact ih P h
  | mark m k ih => simp only [pureRun] at h; simp only [Sem.run]; exact ih h
  | _ => simp [pureRun] at h

def GlobRel (C : Ctx) (Pb : Nat → Prop) (μ : Mu) (w : World) : Prop :=
  ∀ (ob : Obs) g s el, C.glob g = some (s, el) → @Rel ob Pb μ w (.vptr s el 0 0) (.pointer (some ⟨g, 0, none⟩))

section
variable {C : Ctx} {Pb : Nat → Prop} {μ : Mu} {B0 : Nat} {w : World} {T : Look} {H : Heap} {a : Act}

theorem ev_ok (hT : RelF Pb μ w T a.tmps) (hG : GlobRel C Pb μ w) (x : Operand) : Rel Pb μ w (ev C T x) (a.eval x) := by
  cases x with
  | tmp t => exact hT t
  | const v => exact rel_ofVal ..
  | global g =>
    simp only [ev, Act.eval]
    split
    · rename_i s el h; exact hG _ g s el h
    · exact .any _
  | func f => exact Rel.of_sc ..

theorem tinfo_ok {t : TypeId} {ti : TI} (h : tinfo C t = some ti) : ∃ i, C.P.info? t = some i ∧ C.P.underlying t = some ti.under ∧ ti.size = i.size ∧ ti.bytes = i.bytes ∧ ti.zero = i.zero ∧
    ti.agg = aggD ti.under := by
  unfold tinfo at h
  split at h
  · rename_i i d hi hd
    simp only [Option.some.injEq] at h
    subst h
    exact ⟨i, hi, hd, rfl, rfl, rfl, rfl⟩
  · simp at h

theorem cond_false {b : Bool} {p : Out} (h : Ok (cond b p .fail)) : b = true ∧ p := by
  cases b
  · exact h.elim
  · exact ⟨rfl, h⟩

theorem cond_split {b : Bool} {p q : Out} (h : Ok (cond b p q)) : (b = true ∧ p) ∨ (b = false ∧ q) := by
  cases b
  · exact .inr ⟨rfl, h⟩
  · exact .inl ⟨rfl, h⟩

theorem asSx_ok {x : AV} {t : STy} {e : Sx} {v : Value} (h : asSx x = some (t, e)) (hx : Rel Pb μ w x v) : v = t.val (dv e) := by
  unfold asSx at h
  split at h
  · simp only [Option.some.injEq, Prod.mk.injEq] at h; obtain ⟨rfl, rfl⟩ := h; rw [hx.sc_eq]; rfl
  · simp only [Option.some.injEq, Prod.mk.injEq] at h; obtain ⟨rfl, rfl⟩ := h; rw [hx.sc_eq]; rfl
  · simp only [Option.some.injEq, Prod.mk.injEq] at h; obtain ⟨rfl, rfl⟩ := h; rw [hx.sc_eq]; rfl
  · simp only [Option.some.injEq, Prod.mk.injEq] at h; obtain ⟨rfl, rfl⟩ := h
    cases hx with | tc _ _ h => cases h; rfl
  · simp at h

theorem Rel.of_sy (Pb : Nat → Prop) (μ : Mu) (w : World) (t : STy) (e : Sx) : Rel Pb μ w (.sy t e) (t.val (dv e)) := .tc _ _ (.sy t e)

theorem sel_no {e : Sx} {b : Out} (h : Ok (.sel e .fail b)) : (dv e).b = false ∧ b := by
  rcases sel_ok h with ⟨_, h⟩ | h
  · exact h.elim
  · exact h

theorem sel_yes {e : Sx} {a : Out} (h : Ok (.sel e a .fail)) : (dv e).b = true ∧ a := by
  rcases sel_ok h with h | ⟨_, h⟩
  · exact h
  · exact h.elim

theorem condA_ok {c : AV} {x y : Out} {v : Value} (h : Ok (condA c x y)) (hx : Rel Pb μ w c v) : (v = .bool true ∧ x) ∨ (v = .bool false ∧ y) := by
  unfold condA at h
  split at h
  · rename_i b
    have := hx.sc_eq
    cases b with
    | true => exact .inl ⟨this, h⟩
    | false => exact .inr ⟨this, h⟩
  · rename_i e
    have hv : v = .bool (dv e).b := by cases hx with | tc _ _ h => cases h; rfl
    rcases sel_ok h with ⟨hb, h⟩ | ⟨hb, h⟩
    · exact .inl ⟨by rw [hv, hb], h⟩
    · exact .inr ⟨by rw [hv, hb], h⟩
  · exact h.elim

theorem enumA_ok {e : Sx} {k : Int → Out} : ∀ {n i : Nat}, Ok (enumA e k i n) → k (dv e).i
  | 0, i, h => h.elim
  | n + 1, i, h => by
    rcases sel_ok h with ⟨hb, h⟩ | ⟨_, h⟩
    · have : (dv e).i = i := by
        have := hb
        simp only [dv, den, cmpI, beq_iff_eq] at this
        exact this
      rw [this]; exact h
    · exact enumA_ok h

theorem withIdx_ok {idx : AV} {n : Nat} {k : Int → Out} {v : Value} (h : Ok (withIdx idx n k)) (hx : Rel Pb μ w idx v) : ∃ kk z, v = .int kk z ∧ k z := by
  unfold withIdx at h
  split at h
  · rename_i kk m
    exact ⟨kk, m, hx.sc_eq, h⟩
  · rename_i kk e
    exact ⟨kk, (dv e).i, by cases hx with | tc _ _ h => cases h; rfl, enumA_ok h⟩
  · exact h.elim

theorem mkCmp_ok (ρ : Env) {op : BinOp} (h : op ∈ [BinOp.eql, .neq, .lss, .leq, .gtr, .geq]) (a b : Sx) : (den ρ (mkCmp op a b)).b = cmpI op (den ρ a).i (den ρ b).i := by
  have hn : ∀ x y : Int, (!(x == y)) = (x != y) := fun x y => rfl
  unfold mkCmp
  simp only [List.mem_cons, List.not_mem_nil, or_false] at h
  split
  · rcases h with rfl | rfl | rfl | rfl | rfl | rfl <;> simp only [den, cmpI] <;> first | rfl | (simp only [Bool.beq_comm, bne, BEq.comm]) | skip
    all_goals first | (rw [Bool.eq_iff_iff]; simp; try omega) | skip
    all_goals exact ⟨fun h => h.symm, fun h => h.symm⟩
  · rcases h with rfl | rfl | rfl | rfl | rfl | rfl <;> simp only [den, cmpI] <;> rfl

theorem intOp_ok {op : BinOp} {kx ky : IntKind} {x y : Sx} {k : AV → Out} {ty : TypeId} (h : Ok (intOp op kx x ky y k)) :
    ∃ t e, Ok (k (.sy t e)) ∧ ∀ P w', (binOp op ty (.int kx (dv x).i) (.int ky (dv y).i)).run P w' = .ok (t.val (dv e)) w' := by
  cases op <;> simp only [intOp] at h
  case shl | shr =>
    obtain ⟨hb, h1⟩ := sel_no h
    clear h
    refine ⟨_, _, h1, fun P w' => ?_⟩
    have hb' : ¬ (den Obs.ρ y).i < 0 := fun hn => by
      have h3 : (dv (.cmp .lss y (.lit 0))).b = true := decide_eq_true hn
      rw [hb] at h3
      cases h3
    simp only [dv, binOp, Op.shift, if_neg hb']
    rfl
  case quo | rem =>
    obtain ⟨hk, h1⟩ := cond_false h
    clear h
    simp only [decide_eq_true_eq] at hk
    subst hk
    obtain ⟨hb, h2⟩ := sel_no h1
    clear h1
    refine ⟨_, _, h2, fun P w' => ?_⟩
    have hb' : ¬ (den Obs.ρ y).i = 0 := by simpa [dv, den, cmpI] using hb
    simp only [dv, binOp, Op.intDiv, if_neg hb', ne_eq, not_true_eq_false, if_false]
    rfl
  case eql =>
    obtain ⟨hk, h1⟩ := cond_false h
    clear h
    simp only [decide_eq_true_eq] at hk
    subst hk
    refine ⟨_, _, h1, fun P w' => ?_⟩
    simp only [dv, binOp, ne_eq, not_true_eq_false, if_false, STy.val, mkCmp_ok _ (op := .eql) (by simp)]
    rfl
  case neq =>
    obtain ⟨hk, h1⟩ := cond_false h
    clear h
    simp only [decide_eq_true_eq] at hk
    subst hk
    refine ⟨_, _, h1, fun P w' => ?_⟩
    simp only [dv, binOp, ne_eq, not_true_eq_false, if_false, STy.val, mkCmp_ok _ (op := .neq) (by simp)]
    rfl
  case lss =>
    obtain ⟨hk, h1⟩ := cond_false h
    clear h
    simp only [decide_eq_true_eq] at hk
    subst hk
    refine ⟨_, _, h1, fun P w' => ?_⟩
    simp only [dv, binOp, ne_eq, not_true_eq_false, if_false, STy.val, mkCmp_ok _ (op := .lss) (by simp)]
    rfl
  case leq =>
    obtain ⟨hk, h1⟩ := cond_false h
    clear h
    simp only [decide_eq_true_eq] at hk
    subst hk
    refine ⟨_, _, h1, fun P w' => ?_⟩
    simp only [dv, binOp, ne_eq, not_true_eq_false, if_false, STy.val, mkCmp_ok _ (op := .leq) (by simp)]
    rfl
  case gtr =>
    obtain ⟨hk, h1⟩ := cond_false h
    clear h
    simp only [decide_eq_true_eq] at hk
    subst hk
    refine ⟨_, _, h1, fun P w' => ?_⟩
    simp only [dv, binOp, ne_eq, not_true_eq_false, if_false, STy.val, mkCmp_ok _ (op := .gtr) (by simp)]
    rfl
  case geq =>
    obtain ⟨hk, h1⟩ := cond_false h
    clear h
    simp only [decide_eq_true_eq] at hk
    subst hk
    refine ⟨_, _, h1, fun P w' => ?_⟩
    simp only [dv, binOp, ne_eq, not_true_eq_false, if_false, STy.val, mkCmp_ok _ (op := .geq) (by simp)]
    rfl
  all_goals
    obtain ⟨hk, h1⟩ := cond_false h
    clear h
    simp only [decide_eq_true_eq] at hk
    subst hk
    refine ⟨_, _, h1, fun P w' => ?_⟩
    simp only [dv, binOp, ne_eq, not_true_eq_false, if_false]
    rfl

theorem strOp_ok {op : BinOp} {x y : Sx} {k : AV → Out} {ty : TypeId} (h : Ok (strOp op x y k)) :
    ∃ t e, Ok (k (.sy t e)) ∧ ∀ P w', (binOp op ty (.string (dv x).s) (.string (dv y).s)).run P w' = .ok (t.val (dv e)) w' := by
  cases op <;> simp only [strOp] at h
  case eql | neq | lss | leq | gtr | geq => exact ⟨_, _, h, fun P w' => rfl⟩
  all_goals exact h.elim

theorem eqGuard_val {P : Program} {op : BinOp} {t : TypeId} {x y : Operand} (s u : STy) (d e : Den) (w : World) : (eqGuard op t x y (s.val d) (u.val e)).run P w = .ok () w := by
  cases op <;> cases s <;> cases u <;> rfl

theorem run_sliceBound {P : Program} {kk : IntKind} {n : Int} {y : Nat} {code : BoundsCode} (h0 : 0 ≤ n) (h1 : n ≤ y) (w : World) :
    (Instr.sliceBound (.int kk n) y code).run P w = .ok n.toNat w := by
  simp [Instr.sliceBound, asIntOf, h0, h1]

theorem run_sliceBounds {P : Program} {isS : Bool} {len cap : Nat} {lo hi : Option Value} {l h : Int}
    (hlo : (lo = none ∧ l = 0) ∨ ∃ kk, lo = some (.int kk l)) (hhi : (hi = none ∧ h = len) ∨ ∃ kk, hi = some (.int kk h))
    (h0 : 0 ≤ l) (h1 : l ≤ h) (h2 : h ≤ cap) (w : World) :
    (Instr.sliceBounds isS len cap lo hi none).run P w = .ok (l.toNat, h.toNat, cap) w := by
  have e1 : ((h.toNat : Nat) : Int) = h := by omega
  have hb1 := fun (kk : IntKind) code => run_sliceBound (P := P) (kk := kk) (code := code) (y := cap) (by omega : (0 : Int) ≤ h) (by omega) w
  have hb2 := fun (kk : IntKind) code => run_sliceBound (P := P) (kk := kk) (code := code) (y := h.toNat) h0 (by omega) w
  rcases hlo with ⟨rfl, rfl⟩ | ⟨k1, rfl⟩ <;> rcases hhi with ⟨rfl, rfl⟩ | ⟨k2, rfl⟩ <;>
    simp [Instr.sliceBounds, hb1, hb2] <;> first | rfl | (have := hb2 k1; simp at this; simp [this]) | skip

theorem binOp_bool {P : Program} {op : BinOp} {t : TypeId} {ti : TI} (ht : tinfo C t = some ti) (hb : ti.under = .bool) (hP : P = C.P) (x y : Bool) (w' : World) :
    (binOp .eql t (.bool x) (.bool y)).run P w' = .ok (.bool (x == y)) w' ∧ (binOp .neq t (.bool x) (.bool y)).run P w' = .ok (.bool (!(x == y))) w' := by
  subst hP
  obtain ⟨i, h1, h2, _⟩ := tinfo_ok ht
  rw [hb] at h2
  have e1 : (Op.equal t (.bool x) (.bool y)).run C.P w' = .ok (x == y) w' := by
    unfold Op.equal Op.maxDepth Op.equalIn
    simp only [Sem.run_bind, run_underlying h2, Result.andThen]
    rfl
  constructor
  · show (do pure (Value.bool (← Op.equal t (.bool x) (.bool y))) : Sem Value).run C.P w' = _
    rw [Sem.run_bind, e1]; rfl
  · show (do pure (Value.bool (!(← Op.equal t (.bool x) (.bool y)))) : Sem Value).run C.P w' = _
    rw [Sem.run_bind, e1]; rfl

theorem symOp_ok {o : Oper} {k : AV → Out} (h : Ok (symOp C o T k)) (hT : RelF Pb μ w T a.tmps) (hG : GlobRel C Pb μ w) :
    ∃ r v, k r ∧ Rel Pb μ w r v ∧ ∀ w', (execOp a.eval o).run C.P w' = .ok (.value v) w' := by
  unfold symOp at h
  split at h
  · rename_i op t x y p hop
    have main : ∃ t' e, Ok (k (.sy t' e)) ∧ ∀ w', (do eqGuard op t x y (a.eval x) (a.eval y); binOp op t (a.eval x) (a.eval y) : Sem Value).run C.P w' = .ok (t'.val (dv e)) w' := by
      split at h
      · rename_i kx ax ky ay hx hy
        have e1 := asSx_ok hx (ev_ok hT hG x)
        have e2 := asSx_ok hy (ev_ok hT hG y)
        obtain ⟨t', e, h1, h2⟩ := intOp_ok (ty := t) h
        refine ⟨t', e, h1, fun w' => ?_⟩
        rw [e1, e2]
        simp only [Sem.run_bind, eqGuard_val, Result.andThen]
        exact h2 _ _
      · rename_i ax ay hx hy
        have e1 := asSx_ok hx (ev_ok hT hG x)
        have e2 := asSx_ok hy (ev_ok hT hG y)
        obtain ⟨t', e, h1, h2⟩ := strOp_ok (ty := t) h
        refine ⟨t', e, h1, fun w' => ?_⟩
        rw [e1, e2]
        simp only [Sem.run_bind, eqGuard_val, Result.andThen]
        exact h2 _ _
      · rename_i ax ay hx hy
        have e1 := asSx_ok hx (ev_ok hT hG x)
        have e2 := asSx_ok hy (ev_ok hT hG y)
        split at h
        · rename_i ti hti
          split at h
          · rename_i hu
            have hb := fun w' => binOp_bool (op := op) hti hu rfl (dv ax).b (dv ay).b w'
            unfold boolOp at h
            split at h
            · refine ⟨_, _, h, fun w' => ?_⟩
              rw [e1, e2]
              simp only [Sem.run_bind, eqGuard_val, Result.andThen]
              exact (hb w').1
            · refine ⟨_, _, h, fun w' => ?_⟩
              rw [e1, e2]
              simp only [Sem.run_bind, eqGuard_val, Result.andThen]
              exact (hb w').2
            · exact h.elim
          · exact h.elim
        · exact h.elim
      · exact h.elim
    obtain ⟨t', e, h1, h2⟩ := main
    refine ⟨_, _, h1, Rel.of_sy .., fun w' => ?_⟩
    have he : execOp a.eval o = (do pure (.value (← (do eqGuard op t x y (a.eval x) (a.eval y); binOp op t (a.eval x) (a.eval y) : Sem Value)))) := by unfold execOp; rw [hop]
    rw [he, Sem.run_bind, h2 w']
    rfl
  · rename_i op t x hop
    have main : ∃ t' e, Ok (k (.sy t' e)) ∧ ∀ w', (Op.unary op (a.eval x)).run C.P w' = .ok (t'.val (dv e)) w' := by
      split at h
      · rename_i kx ax hx
        exact ⟨_, _, h, fun w' => by rw [asSx_ok hx (ev_ok hT hG x)]; rfl⟩
      · rename_i kx ax hx
        refine ⟨_, _, h, fun w' => ?_⟩
        rw [asSx_ok hx (ev_ok hT hG x)]
        cases kx <;> rfl
      · rename_i ax hx
        exact ⟨_, _, h, fun w' => by rw [asSx_ok hx (ev_ok hT hG x)]; rfl⟩
      · exact h.elim
    obtain ⟨t', e, h1, h2⟩ := main
    refine ⟨_, _, h1, Rel.of_sy .., fun w' => ?_⟩
    have he : execOp a.eval o = (do pure (.value (← Op.unary op (a.eval x)))) := by unfold execOp; rw [hop]
    rw [he, Sem.run_bind, h2 w']
    rfl
  · rename_i src dst x hop
    split at h
    · rename_i si td t ax hs hd hx
      obtain ⟨i1, _, hu1, _⟩ := tinfo_ok hs
      obtain ⟨i2, _, hu2, _⟩ := tinfo_ok hd
      have hv := asSx_ok hx (ev_ok hT hG x)
      have he : execOp a.eval o = (do pure (.value (← convert src dst (a.eval x)))) := by unfold execOp; rw [hop]
      split at h
      · rename_i kd ks hdu
        rw [hdu] at hu2
        refine ⟨_, _, h, Rel.of_sy .., fun w' => ?_⟩
        rw [he, hv]
        simp [convert, underlying, hu1, hu2, STy.val, Conv.intToInt, dv, den]
      · rename_i hdu
        rw [hdu] at hu2
        refine ⟨_, _, h, Rel.of_sy .., fun w' => ?_⟩
        rw [he, hv]
        simp [convert, underlying, hu1, hu2, STy.val]
      · exact h.elim
    · exact h.elim
  · rename_i t x i hop
    split at h
    · rename_i ti ax kb bx hti hx hi
      obtain ⟨_, _, hu, _⟩ := tinfo_ok hti
      have hv := asSx_ok hx (ev_ok hT hG x)
      have hiv := asSx_ok hi (ev_ok hT hG i)
      split at h
      · rename_i hs
        rw [hs] at hu
        obtain ⟨hb, h1⟩ := sel_no h
        obtain ⟨hb2, h2⟩ := sel_yes h1
        have hb' : 0 ≤ (den Obs.ρ bx).i := Int.not_lt.1 fun hn => by
          have h3 : (dv (.cmp .lss bx (.lit 0))).b = true := decide_eq_true hn
          rw [hb] at h3
          cases h3
        have hb3 : (den Obs.ρ bx).i < ((den Obs.ρ ax).s.size : Int) := of_decide_eq_true hb2
        have hlt : (den Obs.ρ bx).i.toNat < (den Obs.ρ ax).s.size := by omega
        refine ⟨_, _, h2, Rel.of_sy .., fun w' => ?_⟩
        have he : execOp a.eval o = (do pure (.value (← Instr.index t (a.eval x) (a.eval i)))) := by unfold execOp; rw [hop]
        rw [he, hv, hiv]
        simp [Instr.index, asIntOf, run_underlying hu, STy.val, dv, den, hb', hlt]
      · exact h.elim
    · exact h.elim
  · rename_i args argTypes hop
    split at h
    · rename_i x t hargs hts
      split at h
      · rename_i ti ax hti hx
        obtain ⟨_, _, hu, _⟩ := tinfo_ok hti
        have hv := asSx_ok hx (ev_ok hT hG x)
        split at h
        · rename_i hs
          rw [hs] at hu
          refine ⟨_, _, h, Rel.of_sy .., fun w' => ?_⟩
          have ha : args = #[x] := by rw [← Array.toList_inj]; exact hargs
          have hb : argTypes = #[t] := by rw [← Array.toList_inj]; exact hts
          subst ha; subst hb
          have he : execOp a.eval o = (do pure (.value (← Builtin.len_ #[t] o.type #[a.eval x]))) := by unfold execOp; rw [hop]; simp [resolve, invoke, builtin]
          rw [he, hv]
          simp [Builtin.len_, run_underlying hu, STy.val, goInt, dv, den]
        · exact h.elim
      · exact h.elim
    · exact h.elim
  · rename_i args ats hop
    split at h
    · rename_i x y hargs
      split at h
      · rename_i kx ax ky ay hx hy
        have hv := asSx_ok hx (ev_ok hT hG x)
        have hv2 := asSx_ok hy (ev_ok hT hG y)
        have ha : args = #[x, y] := by rw [← Array.toList_inj]; exact hargs
        subst ha
        have he : execOp a.eval o = (do pure (.value (← Builtin.min_ ats o.type #[a.eval x, a.eval y]))) := by unfold execOp; rw [hop]; simp [resolve, invoke, builtin]
        rcases sel_ok h with ⟨hb, h1⟩ | ⟨hb, h1⟩
        · refine ⟨_, _, h1, Rel.of_sy .., fun w' => ?_⟩
          have hlt : (dv ay).i < (dv ax).i := of_decide_eq_true hb
          rw [he, hv, hv2]
          simp only [STy.val, Sem.run_bind, run_min_int2, Result.andThen, hlt, if_true, Sem.run_pure]
        · refine ⟨_, _, h1, Rel.of_sy .., fun w' => ?_⟩
          have hlt : ¬ (dv ay).i < (dv ax).i := of_decide_eq_false hb
          rw [he, hv, hv2]
          simp only [STy.val, Sem.run_bind, run_min_int2, Result.andThen, hlt, if_false, Sem.run_pure]
      · exact h.elim
    · exact h.elim
  · rename_i args ats hop
    split at h
    · rename_i x y hargs
      split at h
      · rename_i kx ax ky ay hx hy
        have hv := asSx_ok hx (ev_ok hT hG x)
        have hv2 := asSx_ok hy (ev_ok hT hG y)
        have ha : args = #[x, y] := by rw [← Array.toList_inj]; exact hargs
        subst ha
        have he : execOp a.eval o = (do pure (.value (← Builtin.max_ ats o.type #[a.eval x, a.eval y]))) := by unfold execOp; rw [hop]; simp [resolve, invoke, builtin]
        rcases sel_ok h with ⟨hb, h1⟩ | ⟨hb, h1⟩
        · refine ⟨_, _, h1, Rel.of_sy .., fun w' => ?_⟩
          have hlt : (dv ay).i > (dv ax).i := of_decide_eq_true hb
          rw [he, hv, hv2]
          simp only [STy.val, Sem.run_bind, run_max_int2, Result.andThen, hlt, if_true, Sem.run_pure]
        · refine ⟨_, _, h1, Rel.of_sy .., fun w' => ?_⟩
          have hlt : ¬ (dv ay).i > (dv ax).i := of_decide_eq_false hb
          rw [he, hv, hv2]
          simp only [STy.val, Sem.run_bind, run_max_int2, Result.andThen, hlt, if_false, Sem.run_pure]
      · exact h.elim
    · exact h.elim
  · rename_i t x lo hi hop
    have he : execOp a.eval o = (do pure (.value (← Instr.sliceAt t (a.eval x) (lo.map a.eval) (hi.map a.eval) none))) := by unfold execOp; rw [hop]; rfl
    split at h
    · rename_i ti ax kl lx hti hx hl
      obtain ⟨_, _, hu, _⟩ := tinfo_ok hti
      have hv := asSx_ok hx (ev_ok hT hG x)
      have hlo : (lo.map a.eval = none ∧ (dv lx).i = 0) ∨ ∃ kk, lo.map a.eval = some (.int kk (dv lx).i) := by
        cases lo with
        | none =>
          simp only [Option.map_none, Option.getD_none, asSx, Option.some.injEq, Prod.mk.injEq] at hl
          obtain ⟨_, rfl⟩ := hl
          exact .inl ⟨rfl, rfl⟩
        | some l =>
          simp only [Option.map_some, Option.getD_some] at hl
          exact .inr ⟨kl, by rw [Option.map_some, asSx_ok hl (ev_ok hT hG l)]; rfl⟩
      split at h
      · rename_i hs
        rw [hs] at hu
        split at h
        · rename_i hnone
          obtain ⟨hb, h1⟩ := sel_no h
          obtain ⟨hb2, h2⟩ := sel_yes h1
          have hn : hi = none := by cases hi <;> simp_all
          subst hn
          have g1 : 0 ≤ (dv lx).i := Int.not_lt.1 fun hn => by
            have h3 : (dv (.cmp .lss lx (.lit 0))).b = true := decide_eq_true hn
            rw [hb] at h3
            cases h3
          have g2 : (dv lx).i ≤ ((dv ax).s.size : Int) := of_decide_eq_true hb2
          refine ⟨_, _, h2, Rel.of_sy .., fun w' => ?_⟩
          rw [he, hv]
          have hr := run_sliceBounds (P := C.P) (isS := false) (len := (dv ax).s.size) (cap := (dv ax).s.size) (hi := none) hlo (.inl ⟨rfl, rfl⟩) g1 g2 (by omega) w'
          simp only [STy.val, Option.map_none, Instr.sliceAt, Instr.slice, Sem.run_bind, run_underlying hu, Result.andThen, Option.isSome_none, Bool.false_eq_true, if_false, Sem.run_pure, hr]
          rfl
        · rename_i kh hx2 hsome
          obtain ⟨hb, h1⟩ := sel_no h
          obtain ⟨hb2, h2⟩ := sel_yes h1
          obtain ⟨hb3, h3⟩ := sel_yes h2
          cases hi with
          | none => simp at hsome
          | some hiO =>
            simp only [Option.map_some, Option.some.injEq] at hsome
            have hhv := asSx_ok hsome (ev_ok hT hG hiO)
            have g1 : 0 ≤ (dv lx).i := Int.not_lt.1 fun hn => by
              have h3 : (dv (.cmp .lss lx (.lit 0))).b = true := decide_eq_true hn
              rw [hb] at h3
              cases h3
            have g2 : (dv lx).i ≤ (dv hx2).i := of_decide_eq_true hb2
            have g3 : (dv hx2).i ≤ ((dv ax).s.size : Int) := of_decide_eq_true hb3
            refine ⟨_, _, h3, Rel.of_sy .., fun w' => ?_⟩
            rw [he, hv]
            have hr := run_sliceBounds (P := C.P) (isS := false) (len := (dv ax).s.size) (cap := (dv ax).s.size) (hi := (some hiO).map a.eval) hlo (.inr ⟨kh, by rw [Option.map_some, hhv]; rfl⟩) g1 g2 g3 w'
            simp only [STy.val, Instr.sliceAt, Instr.slice, Sem.run_bind, run_underlying hu, Result.andThen, Option.isSome_none, Bool.false_eq_true, if_false, Sem.run_pure, hr]
            rfl
        · exact h.elim
      · exact h.elim
    · exact h.elim
  · exact h.elim
end
end Go.Proofs.Ytamhmfdbnlkmkaa

/- '==' of structs: what the evaluator tells of it holds. -/
set_option linter.unusedVariables false
set_option linter.unusedSectionVars false
set_option linter.unusedSimpArgs false
namespace Go.Proofs.Ytamhmfdbnlkmkaa
open Go Go.RowKit
variable [Obs]

section
variable {C : Ctx} {Pb : Nat → Prop} {μ : Mu} {B0 : Nat} {w : World} {T : Look} {H : Heap} {a : Act}

/-- The bytes of a string. -/
theorem bytes_loop (s : ByteArray) : ∀ (n i : Nat) (r : List UInt8), s.size - i = n → ByteArray.toList.loop s i r = r.reverse ++ s.data.toList.drop i
  | 0, i, r, h => by
    rw [ByteArray.toList.loop, if_neg (by omega), List.drop_eq_nil_of_le (by show s.data.size ≤ i; have : s.size = s.data.size := rfl; omega)]
    simp
  | n + 1, i, r, h => by
    have hsz : s.size = s.data.size := rfl
    have hi : i < s.data.toList.length := by simp; omega
    rw [ByteArray.toList.loop, if_pos (by omega), bytes_loop s n (i + 1) _ (by omega), List.drop_eq_getElem_cons hi]
    have e : s.get! i = s.data.toList[i] := by
      show s.data[i]! = _
      simp at hi
      simp [hi]
    simp [e]

theorem bytes_toList (s : ByteArray) : s.toList = s.data.toList := by
  show ByteArray.toList.loop s 0 [] = _
  rw [bytes_loop s _ 0 [] rfl]; rfl

theorem eqCell_ok {t : TypeId} {x y : AV} {vx vy : Value} {e : Sx} (h : eqCell C t x y = some e) (hx : Rel Pb μ w x vx) (hy : Rel Pb μ w y vy) (d : Nat) (w' : World) :
    (Op.equalIn (d + 1) t vx vy).run C.P w' = .ok (dv e).b w' ∧ (isAgg t).run C.P w' = .ok false w' := by
  unfold eqCell at h
  split at h
  · rename_i ti k p k' q ht hxs hys
    obtain ⟨_, _, hu, _⟩ := tinfo_ok ht
    rw [asSx_ok hxs hx, asSx_ok hys hy]
    split at h
    · rename_i k2 hk
      rw [hk] at hu
      split at h
      · rename_i hd
        simp only [decide_eq_true_eq] at hd
        subst hd
        simp only [Option.some.injEq] at h
        subst h
        refine ⟨?_, by simp [isAgg, run_underlying hu]⟩
        rw [STy.val, STy.val, run_equalIn_int w' d t _ _ _ _ hu, mkCmp_ok _ (op := .eql) (by simp)]
        rfl
      · cases h
    · cases h
  · rename_i ti p q ht hxs hys
    obtain ⟨_, _, hu, _⟩ := tinfo_ok ht
    rw [asSx_ok hxs hx, asSx_ok hys hy]
    split at h
    · rename_i hk
      rw [hk] at hu
      simp only [Option.some.injEq] at h
      subst h
      refine ⟨?_, by simp [isAgg, run_underlying hu]⟩
      rw [STy.val, STy.val, run_equalIn_bool' w' d t _ _ hu]
      rfl
    · cases h
  · rename_i ti p q ht hxs hys
    obtain ⟨_, _, hu, _⟩ := tinfo_ok ht
    rw [asSx_ok hxs hx, asSx_ok hys hy]
    split at h
    · rename_i hk
      rw [hk] at hu
      simp only [Option.some.injEq] at h
      subst h
      refine ⟨?_, by simp [isAgg, run_underlying hu]⟩
      rw [STy.val, STy.val, run_equalIn_string w' d t _ _ hu]
      rfl
    · cases h
  · cases h

theorem eqFieldsA_ok {xs ys : List AV} {vx vy : Array Value} (hx : RelL Pb μ w xs vx) (hy : RelL Pb μ w ys vy) (d : Nat) (w' : World) : ∀ (fs : List Field) {e : Sx},
    eqFieldsA C xs ys fs = some e → (Op.eqFields (d + 1) vx vy fs).run C.P w' = .ok (dv e).b w'
  | [], e, h => by simp only [eqFieldsA, Option.some.injEq] at h; subst h; rfl
  | f :: r, e, h => by
    simp only [eqFieldsA] at h
    split at h
    · cases h
    · rename_i hn
      simp only [decide_eq_false_iff_not] at hn
      split at h
      · rename_i x y hxf hyf
        split at h
        · rename_i p q hc hr
          simp only [Option.some.injEq] at h
          subst h
          have gx : ∃ v, vx[f.offset]? = some v := by
            have : f.offset < xs.length := by
              rcases Nat.lt_or_ge f.offset xs.length with h | h
              · exact h
              · simp [List.getElem?_eq_none h] at hxf
            exact ⟨_, Array.getElem?_eq_getElem (by rw [← hx.1]; exact this)⟩
          have gy : ∃ v, vy[f.offset]? = some v := by
            have : f.offset < ys.length := by
              rcases Nat.lt_or_ge f.offset ys.length with h | h
              · exact h
              · simp [List.getElem?_eq_none h] at hyf
            exact ⟨_, Array.getElem?_eq_getElem (by rw [← hy.1]; exact this)⟩
          obtain ⟨v1, h1⟩ := gx
          obtain ⟨v2, h2⟩ := gy
          obtain ⟨c1, c2⟩ := eqCell_ok hc (hx.2 _ _ _ hxf h1) (hy.2 _ _ _ hyf h2) d w'
          have ih := eqFieldsA_ok hx hy d w' r hr
          have p1 : (part f.type vx f.offset).run C.P w' = .ok v1 w' := by
            simp only [part, Sem.run_bind, c2, Result.andThen, Bool.false_eq_true, if_false, h1, Sem.run_pure]
          have p2 : (part f.type vy f.offset).run C.P w' = .ok v2 w' := by
            simp only [part, Sem.run_bind, c2, Result.andThen, Bool.false_eq_true, if_false, h2, Sem.run_pure]
          simp only [Op.eqFields, hn, ne_eq, not_false_eq_true, if_true, Sem.run_bind, p1, p2, c1, Result.andThen]
          have hb : (dv (.and p q)).b = ((dv p).b && (dv q).b) := rfl
          rw [hb]
          cases (dv p).b with
          | false => simp
          | true => simpa using ih
        · cases h
      · cases h

theorem constB_ok (ρ : Env) : ∀ (e : Sx) {b : Bool}, constB e = some b → (den ρ e).b = b := by
  intro e
  induction e with
  | lb c => intro b h; simp only [constB, Option.some.injEq] at h; subst h; rfl
  | and x y ih1 ih2 =>
    intro b h
    simp only [constB] at h
    split at h
    · rename_i u v hu hv
      simp only [Option.some.injEq] at h
      subst h
      simp only [den, ih1 hu, ih2 hv]
    · cases h
  | cmp op x y _ _ =>
    intro b h
    unfold constB at h
    split at h
    all_goals first | (cases h; done) | (simp only [Option.some.injEq] at h; subst h; simp_all [den, cmpI]; done) | (rename_i heq; cases heq; done) | (rename_i heq; cases heq; simp only [Option.some.injEq] at h; subst h; rfl)
  | cmps op x y _ _ =>
    intro b h
    unfold constB at h
    split at h
    all_goals first | (cases h; done) | (simp only [Option.some.injEq] at h; subst h; simp_all [den, cmpS, bytes_toList]; done) | (rename_i heq; cases heq; done) | (rename_i heq; cases heq; simp only [Option.some.injEq] at h; subst h; simp only [den, cmpS, bytes_toList]; rw [Bool.eq_iff_iff]; simp)
  | eqb x y _ _ =>
    intro b h
    unfold constB at h
    split at h
    all_goals first | (cases h; done) | (simp only [Option.some.injEq] at h; subst h; simp_all [den, cmpI]; done) | (rename_i heq; cases heq; done) | (rename_i heq; cases heq; simp only [Option.some.injEq] at h; subst h; rfl)
  | _ => intro b h; simp [constB] at h

theorem aggOp_ok {op : BinOp} {t : TypeId} {x y : AV} {ox oy : Operand} {vx vy : Value} {e : Sx} {k : AV → Out} (h : aggEq C t x y = some e) (hk : Ok (aggOp op e k)) (hx : Rel Pb μ w x vx) (hy : Rel Pb μ w y vy) :
    ∃ r v, k r ∧ Rel Pb μ w r v ∧ ∀ w', (do eqGuard op t ox oy vx vy; binOp op t vx vy : Sem Value).run C.P w' = .ok v w' := by
  unfold aggEq at h
  split at h
  · rename_i xs ys
    split at h
    · rename_i fs hu
      split at h
      · rename_i hc
        simp only [Bool.and_eq_true, Bool.not_eq_true'] at hc
        cases hx with
        | agg _ vx hl hh =>
          cases hy with
          | agg _ vy hl' hh' =>
            have hf : C.P.fieldsOf t = fs := by simp [Program.fieldsOf, hu]
            have hq : ∀ w', (Op.equalIn 10000 t (.agg vx) (.agg vy)).run C.P w' = .ok (dv e).b w' := fun w' => by
              rw [run_equalIn_struct w' 9999 t vx vy (by rw [hf]; exact hu) hc.1, hf]
              exact eqFieldsA_ok ⟨hl, hh⟩ ⟨hl', hh'⟩ 9998 w' fs.toList h
            unfold aggOp at hk
            split at hk
            · rename_i b hb
              have hd := constB_ok Obs.ρ _ hb
              split at hk
              · refine ⟨_, .bool b, hk, Rel.of_sc .., fun w' => ?_⟩
                simp only [Sem.run_bind, run_eqGuard_agg w' _ t ox oy vx vy hc.2, Result.andThen, run_eql_struct, hq, dv, hd]
              · refine ⟨_, .bool (!b), hk, Rel.of_sc .., fun w' => ?_⟩
                simp only [Sem.run_bind, run_eqGuard_agg w' _ t ox oy vx vy hc.2, Result.andThen, run_neq_struct, hq, dv, hd]
              · exact hk.elim
            split at hk
            · refine ⟨_, _, hk, Rel.of_sy .., fun w' => ?_⟩
              simp only [Sem.run_bind, run_eqGuard_agg w' _ t ox oy vx vy hc.2, Result.andThen, run_eql_struct, hq]
              rfl
            · refine ⟨_, _, hk, Rel.of_sy .., fun w' => ?_⟩
              simp only [Sem.run_bind, run_eqGuard_agg w' _ t ox oy vx vy hc.2, Result.andThen, run_neq_struct, hq]
              rfl
            · exact hk.elim
      · cases h
    · cases h
  · cases h
end
end Go.Proofs.Ytamhmfdbnlkmkaa

/- Operations that leave memory alone: what the evaluator tells of them holds. -/
set_option linter.unusedVariables false
set_option linter.unusedSectionVars false
set_option linter.unusedSimpArgs false
namespace Go.Proofs.Ytamhmfdbnlkmkaa
open Go Go.RowKit
variable [Obs]

section
variable {C : Ctx} {Pb : Nat → Prop} {μ : Mu} {B0 : Nat} {w : World} {T : Look} {H : Heap} {a : Act}

theorem genOp_ok {o : Oper} {k : AV → Out} (h : genOp C o T k) (hs : ∀ cs b, o.op ≠ .select cs b) (hT : RelF Pb μ w T a.tmps) (hG : GlobRel C Pb μ w) :
    ∃ r v, k r ∧ Rel Pb μ w r v ∧ ∀ w', (execOp a.eval o).run C.P w' = .ok (.value v) w' := by
  unfold genOp at h
  split at h
  · exact symOp_ok h hT hG
  · rename_i l hl
    have hc : execOp a.eval o = execOp (fun x => (toVal (ev C T x)).getD undef) o := execOp_congr o hs fun x hx => by
      obtain ⟨y, hy⟩ := mapO_mem hl x (by simpa using hx)
      rw [hy, toVal_ok _ hy (ev_ok hT hG x)]
      rfl
    split at h
    · rename_i v hv
      exact ⟨_, v, h, rel_ofRes .., fun w' => by rw [hc]; exact pureRun_ok _ hv w'⟩
    · exact h.elim

/-- The blocks that were there are as they were. -/
def Same (w w' : World) : Prop := ∀ b, b < w.heap.size → w'.heap[b]? = w.heap[b]?

theorem Same.refl (w : World) : Same w w := fun _ _ => rfl

theorem Same.get {w w' : World} (h : Same w w') {b : Nat} {x : Obj} (hx : w.heap[b]? = some x) : w'.heap[b]? = some x := by
  rw [h b, hx]
  rcases Nat.lt_or_ge b w.heap.size with h | h
  · exact h
  · simp [Array.getElem?_eq_none h] at hx

theorem Same.cell {w w' : World} (h : Same w w') {p : Addr} {v : Value} (hv : w.cell? p = some v) : w'.cell? p = some v := by
  simp only [World.cell?] at hv ⊢
  split at hv
  · rename_i c ty fr hc
    rw [h.get hc]
    exact hv
  · simp at hv

theorem add_at (b x j : Nat) : (⟨b, x, none⟩ : Addr).add j = ⟨b, x + j, none⟩ := by unfold Addr.add; split <;> simp_all

theorem run_info {P : Program} {t : TypeId} {i : TypeInfo} (h : P.info? t = some i) (w : World) : (typeInfo t).run P w = .ok i w := by
  simp [typeInfo, program, Sem.run, h, pure, bind, Sem.bind]

theorem run_size {P : Program} {t : TypeId} {i : TypeInfo} (h : P.info? t = some i) (w : World) : (sizeOf t).run P w = .ok i.size w := by
  simp [sizeOf, run_info h]

theorem run_agg {P : Program} {t : TypeId} {d : TypeDesc} (h : P.underlying t = some d) (w : World) :
    (isAgg t).run P w = .ok (aggD d) w := by
  simp only [isAgg, Sem.run_bind, run_underlying h, Result.andThen]
  cases d <;> rfl

theorem run_loadVar_list {t : TypeId} {ti : TI} (ht : tinfo C t = some ti) (hagg : ti.agg = true) (b x : Nat) (cs : List Value) (hn : cs.length = ti.size)
    (h : ∀ j v, cs[j]? = some v → w.cell? ⟨b, x + j, none⟩ = some v) : (loadVar t ⟨b, x, none⟩).run C.P w = .ok (.agg cs.toArray) w := by
  obtain ⟨i, hi, hd, hs, _, _, ha⟩ := tinfo_ok ht
  have hl := run_loadCells_list (P := C.P) w ⟨b, x, none⟩ cs (fun j v hv => by rw [add_at]; exact h j v hv)
  rw [hn, hs] at hl
  rw [ha] at hagg
  simp [loadVar, run_agg hd, hagg, run_size hi, hl]

theorem run_loadVar_cell {t : TypeId} {ti : TI} (ht : tinfo C t = some ti) (hagg : ti.agg = false) (p : Addr) (v : Value)
    (h : w.cell? p = some v) : (loadVar t p).run C.P w = .ok v w := by
  obtain ⟨i, hi, hd, hs, _, _, ha⟩ := tinfo_ok ht
  rw [ha] at hagg
  simp [loadVar, run_agg hd, hagg, run_load, h]

theorem span_ok {α : Type} {l r : List α} {f n : Nat} (h : span l f n = some r) : r.length = n ∧ ∀ j, j < n → r[j]? = l[f + j]? := by
  unfold span at h
  dsimp only at h
  split at h
  · rename_i hl
    simp only [Option.some.injEq] at h
    subst h
    refine ⟨hl, fun j hj => ?_⟩
    rw [List.getElem?_take_of_lt hj, List.getElem?_drop]
  · simp at h

/-- Reading of rows: what the evaluator's rows tell, memory holds. -/
theorem load_rows {t : TypeId} {ti : TI} {el : List (List AV)} {i f : Nat} {b x s : Nat} {k : AV → Out} (ht : tinfo C t = some ti)
    (hr : ∀ r u j, el[i]? = some r → r[j]? = some u → ∃ v, w.cell? ⟨b, x + i * s + j, none⟩ = some v ∧ Rel Pb μ w u v)
    (h : Ok (match el[i]? with
      | none => .fail
      | some row => match ti.agg with
        | true => match span row f ti.size with | some r => k (.agg r) | none => .fail
        | false => match row[f]? with | some c => k c | none => .fail)) :
    ∃ r v, k r ∧ Rel Pb μ w r v ∧ ∀ w', Same w w' → (loadVar t ⟨b, x + i * s + f, none⟩).run C.P w' = .ok v w' := by
  split at h
  · exact h.elim
  · rename_i row hrow
    split at h
    · rename_i hagg
      split at h
      · rename_i r hsp
        obtain ⟨hlen, hget⟩ := span_ok hsp
        have hex : ∀ j, j < ti.size → ∃ u v, r[j]? = some u ∧ w.cell? ⟨b, x + i * s + f + j, none⟩ = some v ∧ Rel Pb μ w u v := fun j hj => by
          have h1 : r[j]? = some (r[j]'(by omega)) := List.getElem?_eq_getElem _
          rw [hget j hj] at h1
          obtain ⟨v, hv, hR⟩ := hr row _ (f + j) hrow h1
          exact ⟨_, v, by rw [hget j hj]; exact h1, by rw [← Nat.add_assoc] at hv; exact hv, hR⟩
        let g : Nat → Value := fun j => (w.cell? ⟨b, x + i * s + f + j, none⟩).getD undef
        refine ⟨.agg r, .agg ((List.range ti.size).map g).toArray, h, .agg _ _ (by simp [hlen]) fun j u v hu hv => ?_, fun w' hw' => ?_⟩
        · have hj : j < ti.size := by
            rcases Nat.lt_or_ge j r.length with h | h
            · omega
            · simp [List.getElem?_eq_none h] at hu
          obtain ⟨u', v', h1, h2, h3⟩ := hex j hj
          rw [hu] at h1
          simp only [Option.some.injEq] at h1
          subst h1
          simp [hj, g, h2] at hv
          subst hv
          exact h3
        · refine run_loadVar_list ht hagg b _ _ (by simp) fun j v hv => ?_
          have hj : j < ti.size := by
            rcases Nat.lt_or_ge j ti.size with h | h
            · exact h
            · simp [h] at hv
          obtain ⟨u', v', h1, h2, h3⟩ := hex j hj
          simp [hj, g, h2] at hv
          subst hv
          exact hw'.cell h2
      · exact h.elim
    · rename_i hagg
      split at h
      · rename_i c hc
        obtain ⟨v, hv, hR⟩ := hr row c f hrow hc
        exact ⟨c, v, h, hR, fun w' hw' => run_loadVar_cell ht hagg _ v (hw'.cell hv)⟩
      · exact h.elim

theorem tcs_get {l : List TC} {j : Nat} {u : AV} (h : (tcs l)[j]? = some u) : ∃ c, l[j]? = some c ∧ u = .tc c := by
  simp only [tcs, List.getElem?_map, Option.map_eq_some_iff] at h
  obtain ⟨c, hc, rfl⟩ := h
  exact ⟨c, hc, rfl⟩

/-- The trees' own form of a reading, as rows of values. -/
theorem tload_eq {ti : TI} {el : List (List TC)} {i f : Nat} {k : AV → Out}
    (h : Ok (match el[i]? with
      | none => .fail
      | some row => match ti.agg with
        | true => match span row f ti.size with | some r => k (.agg (tcs r)) | none => .fail
        | false => match row[f]? with | some c => k (.tc c) | none => .fail)) :
    Ok (match (el.map tcs)[i]? with
      | none => .fail
      | some row => match ti.agg with
        | true => match span row f ti.size with | some r => k (.agg r) | none => .fail
        | false => match row[f]? with | some c => k c | none => .fail) := by
  rw [List.getElem?_map]
  cases hi : el[i]? with
  | none => rw [hi] at h; exact h
  | some row =>
    rw [hi] at h
    simp only [Option.map_some] at h ⊢
    cases ha : ti.agg with
    | true =>
      rw [ha] at h
      simp only at h ⊢
      have : span (tcs row) f ti.size = (span row f ti.size).map tcs := by
        simp only [span, tcs, ← List.map_drop, ← List.map_take, List.length_map]
        split <;> rfl
      rw [this]
      cases hs : span row f ti.size with
      | none => rw [hs] at h; exact h
      | some r => rw [hs] at h; exact h
    | false =>
      rw [ha] at h
      simp only at h ⊢
      simp only [tcs, List.getElem?_map]
      cases hf : row[f]? with
      | none => rw [hf] at h; exact h
      | some c => rw [hf] at h; exact h

theorem rows_read {b s : Nat} {el : List (List AV)} (h : CellsRel Pb μ w b s el) (i : Nat) :
    ∀ r u j, el[i]? = some r → r[j]? = some u → ∃ v, w.cell? ⟨b, 0 + i * s + j, none⟩ = some v ∧ Rel Pb μ w u v := by
  intro r u j hi hj
  obtain ⟨_, c, ty, fr, h2, _, _, h5⟩ := h
  obtain ⟨v, q1, _, q3⟩ := h5 i j r u hi hj
  exact ⟨v, by simp [World.cell?, h2, q1], q3⟩

theorem loadA_ok {t : TypeId} {ti : TI} {x : AV} {v : Value} {k : AV → Out} (ht : tinfo C t = some ti) (h : loadA H ti x k) (hx : Rel Pb μ w x v) (hH : HeapRel Pb μ B0 w H) :
    ∃ r u, k r ∧ Rel Pb μ w r u ∧ ∀ w', Same w w' → (Instr.loadAt t v).run C.P w' = .ok u w' := by
  have sure : ∀ (p : Addr) (u : Value) (w' : World), (loadVar t p).run C.P w' = .ok u w' → (Instr.loadAt t (.pointer (some p))).run C.P w' = .ok u w' := fun p u w' hp => by
    simp [Instr.loadAt, Instr.sureAddr, hp]
  cases hx with
  | ptr o s i f ver b hb =>
    simp only [loadA] at h
    split at h
    · rename_i s' el ho
      have hcf := cond_false h; clear h; obtain ⟨hc, h⟩ := hcf
      simp only [Bool.and_eq_true, decide_eq_true_eq] at hc
      obtain ⟨rfl, rfl⟩ := hc
      obtain ⟨b', hb', _, _, hR⟩ := hH.obj o _ ho
      rw [hb] at hb'
      simp only [Option.some.injEq] at hb'
      subst hb'
      obtain ⟨r, u, h1, h2, h3⟩ := load_rows ht (rows_read hR i) (tload_eq h)
      simp only [Nat.zero_add] at h3
      exact ⟨r, u, h1, h2, fun w' hw' => sure _ _ _ (h3 w' hw')⟩
    · rename_i s' el ho
      have hcf := cond_false h; clear h; obtain ⟨hc, h⟩ := hcf
      simp only [Bool.and_eq_true, decide_eq_true_eq] at hc
      obtain ⟨rfl, rfl⟩ := hc
      obtain ⟨b', hb', _, _, hR⟩ := hH.obj o _ ho
      rw [hb] at hb'
      simp only [Option.some.injEq] at hb'
      subst hb'
      obtain ⟨r, u, h1, h2, h3⟩ := load_rows ht (rows_read hR i) h
      simp only [Nat.zero_add] at h3
      exact ⟨r, u, h1, h2, fun w' hw' => sure _ _ _ (h3 w' hw')⟩
    · exact h.elim
  | vptr s i f b off el g hb hs hc hr =>
    simp only [loadA] at h
    have hread : ∀ r u j, (el.map tcs)[i]? = some r → r[j]? = some u → ∃ v, w.cell? ⟨b, off + i * s + j, none⟩ = some v ∧ Rel Pb μ w u v := by
      intro r u j hi hj
      simp only [List.getElem?_map, Option.map_eq_some_iff] at hi
      obtain ⟨r', hr', rfl⟩ := hi
      obtain ⟨c, hc', rfl⟩ := tcs_get hj
      exact ⟨g i j, (hc i j r' c hr' hc').1, .tc _ _ (hr i j r' c hr' hc')⟩
    obtain ⟨r, u, h1, h2, h3⟩ := load_rows ht hread (tload_eq h)
    exact ⟨r, u, h1, h2, fun w' hw' => sure _ _ _ (h3 w' hw')⟩
  | _ => simp [loadA] at h
end
end Go.Proofs.Ytamhmfdbnlkmkaa

/- Operations that leave memory alone, further: places, parts, slices; and all of them in one. -/
set_option linter.unusedVariables false
set_option linter.unusedSectionVars false
set_option linter.unusedSimpArgs false
namespace Go.Proofs.Ytamhmfdbnlkmkaa
open Go Go.RowKit
variable [Obs]

section
variable {C : Ctx} {Pb : Nat → Prop} {μ : Mu} {B0 : Nat} {w : World} {T : Look} {H : Heap} {a : Act}

/-- What is told of a quiet operation: a value, in every world that has the old blocks. -/
def Quiet (C : Ctx) (Pb : Nat → Prop) (μ : Mu) (w : World) (k : AV → Out) (s : Sem Value) : Prop :=
  ∃ r v, k r ∧ Rel Pb μ w r v ∧ ∀ w', Same w w' → s.run C.P w' = .ok v w'

theorem intOf_ok {x : AV} {n : Int} {v : Value} (h : intOf? x = some n) (hx : Rel Pb μ w x v) : ∃ k, v = .int k n := by
  cases x with
  | tc c =>
    cases c with
    | sc u =>
      have := hx.sc_eq
      subst this
      cases v <;> simp_all [intOf?]
    | sl s el => simp [intOf?] at h
    | sy t e => simp [intOf?] at h
  | _ => simp [intOf?] at h

theorem indexA_ok {t e : TypeId} {ti : TI} {x ix : AV} {vx vi : Value} {k : AV → Out} (ht : tinfo C t = some ti)
    (he : ti.under = .slice e ∨ ∃ n, ti.under = .array n e) (h : indexA ti (tinfo C e) x ix k) (hx : Rel Pb μ w x vx) (hi : Rel Pb μ w ix vi) :
    Quiet C Pb μ w k (Instr.indexAt t vx vi) := by
  obtain ⟨i, hin, hd, _, _, _, _⟩ := tinfo_ok ht
  unfold indexA at h
  split at h
  · rename_i e' et hu hte
    have hee : e' = e := by rcases he with he | ⟨m, he⟩ <;> rw [he] at hu <;> simp at hu; exact hu.symm
    subst hee
    obtain ⟨ie, hie, _, hse, _⟩ := tinfo_ok hte
    rw [hu] at hd
    split at h
    · rename_i o s i0 len cap ex ver
      have hwi := withIdx_ok h hi; clear h; obtain ⟨kk, n, rfl, h⟩ := hwi
      have hcf := cond_false h; clear h; obtain ⟨hc, h⟩ := hcf
      simp only [Bool.and_eq_true, decide_eq_true_eq] at hc
      obtain ⟨⟨h0, h1⟩, rfl⟩ := hc
      cases hx with
      | slice _ _ _ _ _ _ _ b off c hb hl1 hl2 hex hsz hoff =>
        obtain rfl : off = i0 * et.size := by rcases hoff with h | h <;> omega
        refine ⟨_, _, h, .ptr _ _ _ _ _ b hb, fun w' _ => ?_⟩
        have e1 : (⟨b, i0 * et.size, none⟩ : Addr).add (n.toNat * ie.size) = ⟨b, (i0 + n.toNat) * et.size + 0, none⟩ := by
          rw [add_at, ← hse, Nat.add_mul]; rfl
        simp [Instr.indexAt, asIntOf, run_underlying hd, h0, h1, run_size hie, e1]
    · rename_i s el
      have hwi := withIdx_ok h hi; clear h; obtain ⟨kk, n, rfl, h⟩ := hwi
      have hcf := cond_false h; clear h; obtain ⟨hc, h⟩ := hcf
      simp only [Bool.and_eq_true, decide_eq_true_eq] at hc
      obtain ⟨⟨h0, h1⟩, rfl⟩ := hc
      cases hx with
      | tc _ _ hx =>
        cases hx with
        | nil => simp at h1; omega
        | sl _ b o cap _ g hl hb hs hc hr =>
          refine ⟨_, _, h, .vptr _ _ _ b o _ g hb hs hc hr, fun w' _ => ?_⟩
          have e1 : (⟨b, o, none⟩ : Addr).add (n.toNat * ie.size) = ⟨b, o + n.toNat * et.size + 0, none⟩ := by
            rw [add_at, ← hse]; rfl
          simp [Instr.indexAt, asIntOf, run_underlying hd, h0, h1, run_size hie, e1]
    · exact h.elim
  · rename_i len e' et hu hte
    have hee : e' = e := by rcases he with he | ⟨m, he⟩ <;> rw [he] at hu <;> simp at hu; exact hu.2.symm
    subst hee
    obtain ⟨ie, hie, _, hse, _⟩ := tinfo_ok hte
    rw [hu] at hd
    split at h
    · rename_i o s i0 f ver
      have hwi := withIdx_ok h hi; clear h; obtain ⟨kk, n, rfl, h⟩ := hwi
      have hcf := cond_false h; clear h; obtain ⟨hc, h⟩ := hcf
      simp only [Bool.and_eq_true, decide_eq_true_eq] at hc
      obtain ⟨h0, h1⟩ := hc
      cases hx with
      | ptr _ _ _ _ _ b hb =>
        refine ⟨_, _, h, .ptr _ _ _ _ _ b hb, fun w' _ => ?_⟩
        have e1 : (⟨b, i0 * s + f, none⟩ : Addr).add (n.toNat * ie.size) = ⟨b, i0 * s + (f + n.toNat * et.size), none⟩ := by
          rw [add_at, ← hse, Nat.add_assoc]
        simp [Instr.indexAt, asIntOf, run_underlying hd, h0, h1, run_size hie, e1, Instr.sureAddr]
    · rename_i s el i0 f
      have hwi := withIdx_ok h hi; clear h; obtain ⟨kk, n, rfl, h⟩ := hwi
      have hcf := cond_false h; clear h; obtain ⟨hc, h⟩ := hcf
      simp only [Bool.and_eq_true, decide_eq_true_eq] at hc
      obtain ⟨h0, h1⟩ := hc
      cases hx with
      | vptr _ _ _ b off _ g hb hs hc hr =>
        refine ⟨_, _, h, .vptr _ _ _ b off _ g hb hs hc hr, fun w' _ => ?_⟩
        have e1 : (⟨b, off + i0 * s + f, none⟩ : Addr).add (n.toNat * ie.size) = ⟨b, off + i0 * s + (f + n.toNat * et.size), none⟩ := by
          rw [add_at, ← hse, Nat.add_assoc]
        simp [Instr.indexAt, asIntOf, run_underlying hd, h0, h1, run_size hie, e1, Instr.sureAddr]
    · exact h.elim
  · exact h.elim

theorem fieldAddrA_ok {t : TypeId} {ti : TI} {x : AV} {vx : Value} {fd : Nat} {k : AV → Out} (ht : tinfo C t = some ti)
    (h : fieldAddrA C ti x fd k) (hx : Rel Pb μ w x vx) : Quiet C Pb μ w k (Instr.fieldAt t vx fd) := by
  obtain ⟨i, hin, hd, _, _, _, _⟩ := tinfo_ok ht
  unfold fieldAddrA at h
  split at h
  · rename_i fs hu
    rw [hu] at hd
    split at h
    · rename_i fl hfl
      split at h
      · rename_i ft hft
        have hcf := cond_false h; clear h; obtain ⟨hc, h⟩ := hcf
        simp only [decide_eq_true_eq] at hc
        obtain ⟨ift, hift, _, hsf, _⟩ := tinfo_ok hft
        rw [hsf] at hc
        split at h
        · rename_i o s i0 f ver
          cases hx with
          | ptr _ _ _ _ _ b hb =>
            refine ⟨_, _, h, .ptr _ _ _ _ _ b hb, fun w' _ => ?_⟩
            simp [Instr.fieldAt, run_underlying hd, hfl, Instr.sureAddr, fieldPlace, run_size hift, hc, add_at, Nat.add_assoc]
        · rename_i s el i0 f
          cases hx with
          | vptr _ _ _ b off _ g hb hs hc' hr =>
            refine ⟨_, _, h, .vptr _ _ _ b off _ g hb hs hc' hr, fun w' _ => ?_⟩
            simp [Instr.fieldAt, run_underlying hd, hfl, Instr.sureAddr, fieldPlace, run_size hift, hc, add_at, Nat.add_assoc]
        · exact h.elim
      · exact h.elim
    · exact h.elim
  · exact h.elim

theorem RelL.get {l : List AV} {vs : Array Value} (h : RelL Pb μ w l vs) {i : Nat} {x : AV} (hi : l[i]? = some x) : ∃ v, vs[i]? = some v ∧ Rel Pb μ w x v := by
  have hlt : i < l.length := by
    rcases Nat.lt_or_ge i l.length with h | h
    · exact h
    · simp [List.getElem?_eq_none h] at hi
  have hv : vs[i]? = some (vs[i]'(h.1 ▸ hlt)) := Array.getElem?_eq_getElem _
  exact ⟨_, hv, h.2 i _ _ hi hv⟩

theorem partA_ok {t : TypeId} {ti : TI} {cs : List AV} {vs : Array Value} {off : Nat} {k : AV → Out} (ht : tinfo C t = some ti)
    (h : partA ti cs off k) (hx : RelL Pb μ w cs vs) : Quiet C Pb μ w k (part t vs off) := by
  obtain ⟨i, hin, hd, hsz, _, _, ha⟩ := tinfo_ok ht
  unfold partA at h
  split at h
  · rename_i hagg
    split at h
    · rename_i r hsp
      obtain ⟨hlen, hget⟩ := span_ok hsp
      have hle : off + ti.size ≤ vs.size ∨ ti.size = 0 := by
        rcases Nat.eq_zero_or_pos ti.size with h0 | h0
        · exact .inr h0
        · left
          have h1 := hget (ti.size - 1) (by omega)
          rw [List.getElem?_eq_getElem (by omega)] at h1
          rcases Nat.lt_or_ge (off + (ti.size - 1)) cs.length with hh | hh
          · have := hx.1; omega
          · rw [List.getElem?_eq_none hh] at h1; cases h1
      refine ⟨_, .agg (vs.extract off (off + ti.size)), h, .agg _ _ ?_ ?_, fun w' _ => ?_⟩
      · rw [Array.size_extract, hlen]
        rcases hle with h | h
        · omega
        · omega
      · intro j u v hu hv
        have hj : j < ti.size := by
          rcases Nat.lt_or_ge j r.length with h | h
          · omega
          · simp [List.getElem?_eq_none h] at hu
        rw [hget j hj] at hu
        refine hx.2 (off + j) u v hu ?_
        rw [Array.getElem?_extract] at hv
        split at hv
        · exact hv
        · cases hv
      · rw [ha] at hagg
        simp [part, run_agg hd, hagg, run_size hin, hsz]
    · exact h.elim
  · rename_i hagg
    split at h
    · rename_i c hc
      obtain ⟨v, hv, hR⟩ := hx.get hc
      refine ⟨c, v, h, hR, fun w' _ => ?_⟩
      rw [ha] at hagg
      simp [part, run_agg hd, hagg, hv]
    · exact h.elim

theorem fieldA_ok {t : TypeId} {ti : TI} {x : AV} {vx : Value} {fd : Nat} {k : AV → Out} (ht : tinfo C t = some ti)
    (h : fieldA C ti x fd k) (hx : Rel Pb μ w x vx) : Quiet C Pb μ w k (Instr.field t vx fd) := by
  obtain ⟨i, hin, hd, _, _, _, _⟩ := tinfo_ok ht
  unfold fieldA at h
  split at h
  · rename_i fs cs hu
    rw [hu] at hd
    cases hx with
    | agg _ vs hl hh =>
      split at h
      · rename_i fl hfl
        split at h
        · rename_i ft hft
          obtain ⟨r, v, h1, h2, h3⟩ := partA_ok hft h ⟨hl, hh⟩
          refine ⟨r, v, h1, h2, fun w' hw' => ?_⟩
          simp [Instr.field, run_underlying hd, hfl, asAgg, h3 w' hw']
        · exact h.elim
      · exact h.elim
  · exact h.elim

/-- A bound of a slice: given, or the default. -/
theorem boundA_ok {d : Int} {x : Option AV} {vx : Option Value} {k : Int → Out} (h : boundA d x k)
    (hx : (x = none ∧ vx = none) ∨ ∃ a v, x = some a ∧ vx = some v ∧ Rel Pb μ w a v) :
    ∃ n, k n ∧ ((x = none ∧ vx = none ∧ n = d) ∨ ∃ kk, vx = some (.int kk n) ∧ x ≠ none) := by
  rcases hx with ⟨rfl, rfl⟩ | ⟨a, v, rfl, rfl, hR⟩
  · exact ⟨d, h, .inl ⟨rfl, rfl, rfl⟩⟩
  · simp only [boundA] at h
    split at h
    · rename_i n hn
      obtain ⟨kk, rfl⟩ := intOf_ok hn hR
      exact ⟨n, h, .inr ⟨kk, rfl, by simp⟩⟩
    · exact h.elim

theorem run_sliceBounds3 {P : Program} {len cap : Nat} {lo hi : Option Value} {l h m : Int} {k0 : IntKind}
    (hlo : (lo = none ∧ l = 0) ∨ ∃ kk, lo = some (.int kk l)) (hhi : ∃ kk, hi = some (.int kk h))
    (h0 : 0 ≤ l) (h1 : l ≤ h) (h2 : h ≤ m) (h3 : m ≤ cap) (w : World) :
    (Instr.sliceBounds true len cap lo hi (some (.int k0 m))).run P w = .ok (l.toNat, h.toNat, m.toNat) w := by
  have hb0 := fun code => run_sliceBound (P := P) (kk := k0) (code := code) (y := cap) (by omega : (0 : Int) ≤ m) (by omega) w
  have hb1 := fun (kk : IntKind) code => run_sliceBound (P := P) (kk := kk) (code := code) (y := m.toNat) (by omega : (0 : Int) ≤ h) (by omega) w
  have hb2 := fun (kk : IntKind) code => run_sliceBound (P := P) (kk := kk) (code := code) (y := h.toNat) h0 (by omega) w
  obtain ⟨k2, rfl⟩ := hhi
  rcases hlo with ⟨rfl, rfl⟩ | ⟨k1, rfl⟩ <;> simp [Instr.sliceBounds, hb0, hb1, hb2]
end
end Go.Proofs.Ytamhmfdbnlkmkaa

/- Quiet operations, all of them in one. -/
set_option linter.unusedVariables false
set_option linter.unusedSectionVars false
set_option linter.unusedSimpArgs false
namespace Go.Proofs.Ytamhmfdbnlkmkaa
open Go Go.RowKit
variable [Obs]

section
variable {C : Ctx} {Pb : Nat → Prop} {μ : Mu} {B0 : Nat} {w : World} {T : Look} {H : Heap} {a : Act}

def OptRel (Pb : Nat → Prop) (μ : Mu) (w : World) (x : Option AV) (v : Option Value) : Prop :=
  (x = none ∧ v = none) ∨ ∃ a u, x = some a ∧ v = some u ∧ Rel Pb μ w a u

theorem optRel_map (hT : RelF Pb μ w T a.tmps) (hG : GlobRel C Pb μ w) (x : Option Operand) : OptRel Pb μ w (x.map (ev C T)) (x.map a.eval) := by
  cases x with
  | none => exact .inl ⟨rfl, rfl⟩
  | some x => exact .inr ⟨_, _, rfl, rfl, ev_ok hT hG x⟩

theorem rt_sub {s b o cap : Nat} {el : List (List TC)} {g : Nat → Nat → Value} {l h : Nat} (hl : el.length ≤ cap) (hb : el ≠ [] → Pb b)
    (hs : ∀ r, r ∈ el → r.length = s)
    (hc : ∀ (i f : Nat) (r : List TC) (c : TC), el[i]? = some r → r[f]? = some c → w.cell? ⟨b, o + i * s + f, none⟩ = some (g i f) ∧ (g i f).oneCell' = true)
    (hr : ∀ (i f : Nat) (r : List TC) (c : TC), el[i]? = some r → r[f]? = some c → RT Pb w c (g i f)) (hlh : l ≤ h) (hh : h ≤ el.length) (off : Nat) (hoff : cap = l ∨ off = o + l * s) :
    RT Pb w (.sl s ((el.take h).drop l)) (.slice (some ⟨b, off, none⟩) (h - l) (cap - l)) := by
  have hlen : ((el.take h).drop l).length = h - l := by simp [Nat.min_eq_left hh]
  have hget : ∀ i, ((el.take h).drop l)[i]? = if l + i < h then el[l + i]? else none := fun i => by
    rw [List.getElem?_drop, List.getElem?_take]
  by_cases hcl : cap = l
  · have : (el.take h).drop l = [] := by
      apply List.eq_nil_of_length_eq_zero; omega
    rw [this]
    have h0 : h - l = 0 := by omega
    rw [h0]
    exact .sl s b off (cap - l) [] g (by simp) (fun h => absurd rfl h) (fun r hr => by cases hr) (fun i f r c hi => by simp at hi) (fun i f r c hi => by simp at hi)
  · obtain rfl := hoff.resolve_left hcl
    rw [← hlen]
    refine .sl s b (o + l * s) (cap - l) _ (fun i f => g (l + i) f) (by omega) (fun hne => hb ?_) (fun r hr => ?_) (fun i f r c hi hf => ?_) (fun i f r c hi hf => ?_)
    · rintro rfl; simp at hne
    · exact hs r (List.mem_of_mem_take (List.mem_of_mem_drop hr))
    · rw [hget] at hi
      split at hi
      · have := hc (l + i) f r c hi hf
        rw [Nat.add_mul, ← Nat.add_assoc o] at this
        exact this
      · cases hi
    · rw [hget] at hi
      split at hi
      · exact hr (l + i) f r c hi hf
      · cases hi

theorem sliceA_ok {t e : TypeId} {ti et : TI} {x : AV} {vx : Value} {lo hi mx : Option AV} {vlo vhi vmx : Option Value} {k : AV → Out} (ht : tinfo C t = some ti)
    (hu : ti.under = .slice e) (hte : tinfo C e = some et) (h : sliceA ti et x lo hi mx k) (hx : Rel Pb μ w x vx) (hlo : OptRel Pb μ w lo vlo) (hhi : OptRel Pb μ w hi vhi) (hmx : OptRel Pb μ w mx vmx) :
    Quiet C Pb μ w k (Instr.sliceAt t vx vlo vhi vmx) := by
  obtain ⟨i, hin, hd, _, _, _, _⟩ := tinfo_ok ht
  obtain ⟨ie, hie, _, hse, _⟩ := tinfo_ok hte
  rw [hu] at hd
  have pick : ∀ {d : Int} {x : Option AV} {v : Option Value} {n : Int}, ((x = none ∧ v = none ∧ n = d) ∨ ∃ kk, v = some (.int kk n) ∧ x ≠ none) → (v = none ∧ n = d) ∨ ∃ kk, v = some (.int kk n) :=
    fun h => h.imp (fun h => ⟨h.2.1, h.2.2⟩) (fun ⟨kk, h, _⟩ => ⟨kk, h⟩)
  unfold sliceA at h
  rw [hu] at h
  split at h
  · rename_i o s i0 len cap ex ver hq
    clear hq
    cases hx with
    | slice _ _ _ _ _ _ _ b off c hb hl1 hl2 hex hsz hoff =>
      split at h
      · obtain rfl : vmx = none := by rcases hmx with h | ⟨a, u, h, _⟩; exact h.2; cases h
        obtain ⟨hh, h, hhs⟩ := boundA_ok h hhi
        obtain ⟨ll, h, hls⟩ := boundA_ok h hlo
        have hcf := cond_false h; clear h; obtain ⟨hc, h⟩ := hcf
        simp only [Bool.and_eq_true, decide_eq_true_eq] at hc
        obtain ⟨⟨⟨h0, h1⟩, h2⟩, rfl⟩ := hc
        have hrun := fun w' => run_sliceBounds (P := C.P) (isS := true) (len := len) (cap := c) (pick hls) (pick hhs) h0 h1 (by omega) w'
        refine ⟨_, .slice (some ⟨b, if c = ll.toNat then off else off + ll.toNat * et.size, none⟩) (hh.toNat - ll.toNat) (c - ll.toNat), h, ?_, fun w' _ => ?_⟩
        · refine .slice _ _ _ _ _ _ _ b _ _ hb (by omega) (by omega) (fun he => by have := hex he; omega) ?_ ?_
          · rwa [show i0 + ll.toNat + (c - ll.toNat) = i0 + c by omega]
          · by_cases hcl : c = ll.toNat
            · left; omega
            · right
              rw [if_neg hcl, Nat.add_mul]
              rcases hoff with h | h
              · omega
              · rw [h]
        · simp only [Instr.sliceAt, Sem.run_bind, run_underlying hd, Result.andThen, Instr.slice, hrun, run_size hie]
          by_cases hcl : c = ll.toNat
          · simp [hcl]
          · simp [hcl, add_at, hse]
      · rename_i am
        obtain ⟨a', u, h', rfl, hRm⟩ : ∃ a' u, some am = some a' ∧ vmx = some u ∧ Rel Pb μ w a' u := by rcases hmx with h | h; cases h.1; exact h
        simp only [Option.some.injEq] at h'
        subst h'
        split at h
        · exact h.elim
        rename_i hv
        obtain ⟨mm, h, hms⟩ := boundA_ok h (.inr ⟨am, u, rfl, rfl, hRm⟩)
        obtain ⟨k0, hk0⟩ : ∃ k0, u = .int k0 mm := by
          rcases hms with h | ⟨kk, h, _⟩
          · cases h.1
          · simp only [Option.some.injEq] at h; exact ⟨kk, h⟩
        subst hk0
        obtain ⟨hh, h, hhs⟩ := boundA_ok h hhi
        obtain ⟨ll, h, hls⟩ := boundA_ok h hlo
        have hcf := cond_false h; clear h; obtain ⟨hc, h⟩ := hcf
        simp only [Bool.and_eq_true, decide_eq_true_eq] at hc
        obtain ⟨⟨⟨⟨h0, h1⟩, h2⟩, h3⟩, rfl⟩ := hc
        rcases hhs with ⟨hx0, _⟩ | ⟨kh, rfl, _⟩
        · cases hx0
        · have hrun := fun w' => run_sliceBounds3 (P := C.P) (len := len) (cap := c) (k0 := k0) (pick hls) ⟨kh, rfl⟩ h0 h1 h2 (by omega) w'
          refine ⟨_, .slice (some ⟨b, if mm.toNat = ll.toNat then off else off + ll.toNat * et.size, none⟩) (hh.toNat - ll.toNat) (mm.toNat - ll.toNat), h, ?_, fun w' _ => ?_⟩
          · refine .slice _ _ _ _ _ _ _ b _ _ hb (by omega) (by omega) (fun _ => rfl) ?_ ?_
            · obtain ⟨c', ty, fr, g1, g2⟩ := hsz
              refine ⟨c', ty, fr, g1, Nat.le_trans (Nat.mul_le_mul_right _ ?_) g2⟩
              omega
            · by_cases hcl : mm.toNat = ll.toNat
              · left; omega
              · right
                rw [if_neg hcl, Nat.add_mul]
                rcases hoff with h | h
                · omega
                · rw [h]
          · simp only [Instr.sliceAt, Sem.run_bind, run_underlying hd, Result.andThen, Instr.slice, hrun, run_size hie]
            by_cases hcl : mm.toNat = ll.toNat
            · simp [hcl]
            · simp [hcl, add_at, hse]
  · rename_i s el hq
    clear hq
    split at h
    · obtain rfl : vmx = none := by rcases hmx with h | ⟨a, u, h, _⟩; exact h.2; cases h
      obtain ⟨hh, h, hhs⟩ := boundA_ok h hhi
      obtain ⟨ll, h, hls⟩ := boundA_ok h hlo
      have hcf := cond_false h; clear h; obtain ⟨hc, h⟩ := hcf
      simp only [Bool.and_eq_true, decide_eq_true_eq] at hc
      obtain ⟨⟨⟨h0, h1⟩, h2⟩, rfl⟩ := hc
      cases hx with
      | tc _ _ hx =>
        cases hx with
        | nil =>
          simp only [List.length_nil] at h2 hhs
          have hh0 : hh = 0 := by omega
          have ll0 : ll = 0 := by omega
          subst hh0; subst ll0
          have hrun := fun w' => run_sliceBounds (P := C.P) (isS := true) (len := 0) (cap := 0) (pick hls) (by simpa using pick hhs) h0 h1 (by omega) w'
          refine ⟨_, .slice none 0 0, h, by simpa using Rel.tc _ _ (.nil _), fun w' _ => ?_⟩
          simp [Instr.sliceAt, run_underlying hd, Instr.slice, hrun, run_size hie]
        | sl _ b o cap _ g hl hb hs hc hr =>
          have hrun := fun w' => run_sliceBounds (P := C.P) (isS := true) (len := el.length) (cap := cap) (pick hls) (pick hhs) h0 h1 (by omega) w'
          refine ⟨_, .slice (some ⟨b, if cap = ll.toNat then o else o + ll.toNat * et.size, none⟩) (hh.toNat - ll.toNat) (cap - ll.toNat), h, .tc _ _ (rt_sub hl hb hs hc hr (by omega) (by omega) _ ?_), fun w' _ => ?_⟩
          · by_cases hcl : cap = ll.toNat
            · exact .inl hcl
            · right; rw [if_neg hcl]
          · simp only [Instr.sliceAt, Sem.run_bind, run_underlying hd, Result.andThen, Instr.slice, hrun, run_size hie]
            by_cases hcl : cap = ll.toNat
            · simp [hcl]
            · simp [hcl, add_at, hse]
    · exact h.elim
  · exact h.elim

theorem lenA_ok {t e ty : TypeId} {ti : TI} {x : AV} {vx : Value} {k : AV → Out} (ht : tinfo C t = some ti) (hu : ti.under = .slice e)
    (h : lenA x k) (hx : Rel Pb μ w x vx) : Quiet C Pb μ w k (Builtin.len_ #[t] ty #[vx]) := by
  obtain ⟨i, hin, hd, _, _, _, _⟩ := tinfo_ok ht
  rw [hu] at hd
  unfold lenA at h
  split at h
  · cases hx with
    | slice _ _ _ len _ _ _ b off c hb hl1 hl2 hex hsz hoff =>
      exact ⟨_, _, h, Rel.of_sc .., fun w' _ => by simp [Builtin.len_, run_underlying hd, goInt]⟩
  · cases hx with
    | tc _ _ hx =>
      cases hx with
      | nil => exact ⟨_, _, h, Rel.of_sc .., fun w' _ => by simp [Builtin.len_, run_underlying hd, goInt]⟩
      | sl => exact ⟨_, _, h, Rel.of_sc .., fun w' _ => by simp [Builtin.len_, run_underlying hd, goInt]⟩
  · exact h.elim

theorem capA_ok {t e ty : TypeId} {ti : TI} {x : AV} {vx : Value} {k : AV → Out} (ht : tinfo C t = some ti) (hu : ti.under = .slice e)
    (h : capA x k) (hx : Rel Pb μ w x vx) : Quiet C Pb μ w k (Builtin.cap_ #[t] ty #[vx]) := by
  obtain ⟨i, hin, hd, _, _, _, _⟩ := tinfo_ok ht
  rw [hu] at hd
  unfold capA at h
  split at h
  · cases hx with
    | slice _ _ _ len _ _ _ b off c hb hl1 hl2 hex hsz hoff =>
      obtain rfl := hex rfl
      exact ⟨_, _, h, Rel.of_sc .., fun w' _ => by simp [Builtin.cap_, run_underlying hd, goInt]⟩
  · exact h.elim

theorem run_equalIn_nil {P : Program} {t : TypeId} {d : TypeDesc} (hd : P.underlying t = some d) {vx vy : Value} (n : Nat) (w : World)
    (h : (∃ e a n c m q, d = .slice e ∧ vx = .slice (some a) n c ∧ vy = .slice none m q) ∨ (∃ k e r, d = .map k e ∧ vx = .map (some r) ∧ vy = .map none) ∨
      (∃ p r va fn f c, d = .func p r va ∧ vx = .func fn f c ∧ vy = .nilFunc) ∨ (∃ e a, d = .pointer e ∧ vx = .pointer (some a) ∧ vy = .pointer none)) :
    (Op.equalIn (n + 1) t vx vy).run P w = .ok false w := by
  rcases h with ⟨e, a, n, c, m, q, rfl, rfl, rfl⟩ | ⟨k, e, r, rfl, rfl, rfl⟩ | ⟨p, r, va, fn, f, c, rfl, rfl, rfl⟩ | ⟨e, a, rfl, rfl, rfl⟩ <;>
    simp [Op.equalIn, run_underlying hd]

theorem run_equal_nil {P : Program} {t : TypeId} {d : TypeDesc} (hd : P.underlying t = some d) {vx vy : Value} (w : World)
    (h : (∃ e a n c m q, d = .slice e ∧ vx = .slice (some a) n c ∧ vy = .slice none m q) ∨ (∃ k e r, d = .map k e ∧ vx = .map (some r) ∧ vy = .map none) ∨
      (∃ p r va fn f c, d = .func p r va ∧ vx = .func fn f c ∧ vy = .nilFunc) ∨ (∃ e a, d = .pointer e ∧ vx = .pointer (some a) ∧ vy = .pointer none)) :
    (Op.equal t vx vy).run P w = .ok false w := run_equalIn_nil hd 9999 w h

theorem run_equalIn_nils {P : Program} {t e : TypeId} (hd : P.underlying t = some (.slice e)) (d n c m q : Nat) (w : World) :
    (Op.equalIn (d + 1) t (.slice none n c) (.slice none m q)).run P w = .ok true w := by
  simp [Op.equalIn, run_underlying hd]

theorem run_equal_nils {P : Program} {t e : TypeId} (hd : P.underlying t = some (.slice e)) (n c m q : Nat) (w : World) :
    (Op.equal t (.slice none n c) (.slice none m q)).run P w = .ok true w := run_equalIn_nils hd 9999 n c m q w

def refV : Value → Bool
  | .slice .. | .map _ | .func .. | .pointer _ => true
  | _ => false

def nilV : Value → Bool
  | .slice .. | .map _ | .nilFunc | .pointer none => true
  | _ => false

/-- '==' and '!=' with nil: the run hands back a Bool that is told. -/
theorem eqNil_ok {t : TypeId} {ti : TI} {x y : AV} {vx vy : Value} {k : Bool → Out} (ht : tinfo C t = some ti)
    (h : eqNil ti.under x y k) (hx : Rel Pb μ w x vx) (hy : Rel Pb μ w y vy) :
    ∃ b, k b ∧ (∀ w', (Op.equal t vx vy).run C.P w' = .ok b w') ∧ (∀ n m j k, vx = .int n m → vy = .int j k → False) ∧
      refV vx = true ∧ nilV vy = true := by
  obtain ⟨i, hin, hd, _, _, _, _⟩ := tinfo_ok ht
  unfold eqNil at h
  split at h
  · rename_i e o s i0 len cap ex ver m q hu
    rw [hu] at hd
    obtain rfl := hy.sc_eq
    cases hx with
    | slice _ _ _ _ _ _ _ b off c hb hl1 hl2 hex hsz hoff =>
      cases len with
      | zero => exact h.elim
      | succ n => exact ⟨false, h, fun w' => run_equal_nil hd w' (.inl ⟨_, _, _, _, _, _, rfl, rfl, rfl⟩), by simp, rfl, rfl⟩
  · rename_i e s el m q hu
    rw [hu] at hd
    obtain rfl := hy.sc_eq
    cases hx with
    | tc _ _ hx =>
      cases hx with
      | nil => exact h.elim
      | sl _ b o cap _ g hl hb hs hc hr =>
        refine ⟨false, ?_, fun w' => run_equal_nil hd w' (.inl ⟨_, _, _, _, _, _, rfl, rfl, rfl⟩), by simp, rfl, rfl⟩
        cases el with
        | nil => exact h.elim
        | cons => exact h
  · rename_i k' e o hu
    rw [hu] at hd
    obtain rfl := hy.sc_eq
    cases hx with
    | map o b hb => exact ⟨false, h, fun w' => run_equal_nil hd w' (.inr (.inl ⟨_, _, _, rfl, rfl, rfl⟩)), by simp, rfl, rfl⟩
  · rename_i p r va fn f c hu
    rw [hu] at hd
    obtain rfl := hy.sc_eq
    cases hx with
    | func => exact ⟨false, h, fun w' => run_equal_nil hd w' (.inr (.inr (.inl ⟨_, _, _, _, _, _, rfl, rfl, rfl⟩))), by simp, rfl, rfl⟩
  · rename_i e o s i0 f ver hu
    rw [hu] at hd
    obtain rfl := hy.sc_eq
    cases hx with
    | ptr => exact ⟨false, h, fun w' => run_equal_nil hd w' (.inr (.inr (.inr ⟨_, _, rfl, rfl, rfl⟩))), by simp, rfl, rfl⟩
  · exact h.elim

theorem relL_map (hT : RelF Pb μ w T a.tmps) (hG : GlobRel C Pb μ w) (xs : Array Operand) : RelL Pb μ w (xs.toList.map (ev C T)) (xs.map a.eval) := by
  refine ⟨by simp, fun i x v hi hv => ?_⟩
  simp only [List.getElem?_map, Option.map_eq_some_iff, Array.getElem?_map, Array.getElem?_toList] at hi hv
  obtain ⟨p, hp, rfl⟩ := hi
  obtain ⟨q, hq, rfl⟩ := hv
  rw [hp] at hq
  simp only [Option.some.injEq] at hq
  subst hq
  exact ev_ok hT hG p

/-- A quiet operation: a value, in every world that has the old blocks. -/
def QOp (C : Ctx) (Pb : Nat → Prop) (μ : Mu) (w : World) (a : Act) (o : Oper) (k : AV → Out) : Prop :=
  ∃ r v, k r ∧ Rel Pb μ w r v ∧ ∀ w', Same w w' → (execOp a.eval o).run C.P w' = .ok (.value v) w'

theorem QOp.of_sem {o : Oper} {k : AV → Out} {s : Sem Value} (he : execOp a.eval o = (do pure (.value (← s)))) (h : Quiet C Pb μ w k s) : QOp C Pb μ w a o k := by
  obtain ⟨r, v, h1, h2, h3⟩ := h
  exact ⟨r, v, h1, h2, fun w' hw' => by rw [he]; simp [h3 w' hw']⟩

theorem QOp.of_gen {o : Oper} {k : AV → Out} (hs : ∀ cs b, o.op ≠ .select cs b) (hT : RelF Pb μ w T a.tmps) (hG : GlobRel C Pb μ w) (h : genOp C o T k) : QOp C Pb μ w a o k := by
  obtain ⟨r, v, h1, hr, h2⟩ := genOp_ok h hs hT hG
  exact ⟨r, v, h1, hr, fun w' _ => h2 w'⟩

theorem eqGuard_nil {P : Program} {op : BinOp} {t : TypeId} {x y : Operand} {vx vy : Value} (w : World)
    (hx : refV vx = true) : (eqGuard op t x y vx vy).run P w = .ok () w := by
  cases op <;> cases vx <;> simp_all [eqGuard, refV]
end
end Go.Proofs.Ytamhmfdbnlkmkaa

