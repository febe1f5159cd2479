/- What an abstract value says of a value, an abstract heap of a world. -/
import Derived.Test.YtgpijioodocplaaSyDefs
import Derived.Laws.Sem
import Derived.Laws.Cells
import Derived.Laws.IdiomCopy
import Derived.Laws.World
set_option linter.unusedVariables false
set_option linter.unusedSectionVars false
set_option linter.unusedSimpArgs false
namespace Go.Proofs.Ytgpijioodocplaa
open Go Go.RowKit

theorem setK_eq {α β : Type} : ∀ (l : List α) (n : Nat) (x : α) (k : List α → β), setK l n x k = k (l.set n x)
  | [], n, x, k => rfl
  | _ :: r, 0, x, k => rfl
  | y :: r, n + 1, x, k => setK_eq r n x fun r' => k (y :: r')

theorem getL_eq : ∀ (l : List AV) (n : Nat), getL l n = l.getD n undefA
  | [], n => rfl
  | a :: r, 0 => rfl
  | a :: r, n + 1 => by
    have := getL_eq r n
    simp only [List.getD_cons_succ]
    exact this

theorem putK_eq {β : Type} (T : Tmps) (dst : Option Tmp) (v : AV) (k : Tmps → β) : putK T dst v k = k (put T dst v) := by
  cases dst
  · rfl
  · simp only [putK, put, setK_eq]

/-! ### what expressions denote -/
structure Env where
  I : Nat → Int
  B : Nat → Bool
  S : Nat → ByteArray
  F : Nat → List Value → Value

structure Den where
  i : Int := 0
  b : Bool := false
  s : ByteArray := ByteArray.empty
  l : List Value := []

def STy.val : STy → Den → Value
  | .int k, d => .int k d.i
  | .bool, d => .bool d.b
  | .str, d => .string d.s

def binI (op : BinOp) (k : IntKind) (a b : Int) : Int :=
  match op with
  | .add => k.wrap (a + b)
  | .sub => k.wrap (a - b)
  | .mul => k.wrap (a * b)
  | .quo => k.wrap (a.tdiv b)
  | .rem => a.tmod b
  | .and => k.wrap (BitVec.ofInt k.bits a &&& BitVec.ofInt k.bits b).toNat
  | .or => k.wrap (BitVec.ofInt k.bits a ||| BitVec.ofInt k.bits b).toNat
  | .xor => k.wrap (BitVec.ofInt k.bits a ^^^ BitVec.ofInt k.bits b).toNat
  | .andNot => k.wrap (BitVec.ofInt k.bits a &&& ~~~ BitVec.ofInt k.bits b).toNat
  | .shl => k.wrap (a * 2 ^ (min b.toNat k.bits))
  | .shr => a.fdiv (2 ^ (min b.toNat k.bits))
  | _ => 0

def cmpI (op : BinOp) (a b : Int) : Bool :=
  match op with
  | .eql => a == b
  | .neq => a != b
  | .lss => decide (a < b)
  | .leq => decide (a ≤ b)
  | .gtr => decide (a > b)
  | .geq => decide (a ≥ b)
  | _ => false

def cmpS (op : BinOp) (a b : ByteArray) : Bool :=
  let eq := a.toList == b.toList
  let lt := Op.bytesLess a.toList b.toList
  match op with
  | .eql => eq
  | .neq => !eq
  | .lss => lt
  | .leq => lt || eq
  | .gtr => !(lt || eq)
  | .geq => !lt
  | _ => false

def den (ρ : Env) : Sx → Den
  | .var i => { i := ρ.I i, b := ρ.B i, s := ρ.S i }
  | .lit n => { i := n }
  | .lb b => { b := b }
  | .ls s => { s := s }
  | .bin op k a b => { i := binI op k (den ρ a).i (den ρ b).i }
  | .cmp op a b => { b := cmpI op (den ρ a).i (den ρ b).i }
  | .cmps op a b => { b := cmpS op (den ρ a).s (den ρ b).s }
  | .eqb a b => { b := (den ρ a).b == (den ρ b).b }
  | .conv k a => { i := k.wrap (den ρ a).i }
  | .not a => { b := !(den ρ a).b }
  | .and a b => { b := (den ρ a).b && (den ρ b).b }
  | .len a => { i := (den ρ a).s.size }
  | .at_ a i => { i := ((den ρ a).s[(den ρ i).i.toNat]?.getD 0).toNat }
  | .sub a lo hi => { s := (den ρ a).s.extract (den ρ lo).i.toNat (den ρ hi).i.toNat }
  | .cat a b => { s := (den ρ a).s ++ (den ρ b).s }
  | .idx a c => { i := Go.Lib.indexByte (den ρ a).s.data.toList (den ρ c).i.toNat.toUInt8 }
  | .app f as => match ρ.F f (den ρ as).l with
    | .int _ n => { i := n }
    | .bool b => { b := b }
    | .string s => { s := s }
    | _ => {}
  | .nil => {}
  | .arg t a r => { l := t.val (den ρ a) :: (den ρ r).l }

/-- What variables stand for, and what is to hold of the value that is told. -/
class Obs where
  ρ : Env
  Q : AV → Prop

section
variable [ω : Obs]

abbrev dv (e : Sx) : Den := den ω.ρ e

/-- What a run comes to is as it is to be, for these variables. -/
def Ok : Out → Prop
  | .fail => False
  | .leaf r => ω.Q r
  | .sel e a b => cond (dv e).b (Ok a) (Ok b)

instance : CoeSort Out Prop := ⟨Ok⟩
instance : CoeTail Out Prop := ⟨Ok⟩

@[simp] theorem ok_fail : Ok .fail = False := rfl

theorem Ok.elim {p : Prop} (h : Ok .fail) : p := False.elim h

theorem sel_ok {e : Sx} {a b : Out} (h : Ok (.sel e a b)) : ((dv e).b = true ∧ Ok a) ∨ ((dv e).b = false ∧ Ok b) := by
  simp only [Ok] at h
  cases hb : (dv e).b with
  | true => rw [hb] at h; exact .inl ⟨rfl, h⟩
  | false => rw [hb] at h; exact .inr ⟨rfl, h⟩

def sizeAt (w : World) (b n : Nat) : Prop := ∃ c ty fr, w.heap[b]? = some (.cells c ty fr) ∧ n ≤ c.size

inductive RT (Pb : Nat → Prop) (w : World) : TC → Value → Prop
  | sc (v : Value) : RT Pb w (.sc v) v
  | sy (t : STy) (e : Sx) : RT Pb w (.sy t e) (t.val (dv e))
  | nil (s : Nat) : RT Pb w (.sl s []) (.slice none 0 0)
  | sl (s b o cap : Nat) (el : List (List TC)) (g : Nat → Nat → Value) (hl : el.length ≤ cap) (hb : el ≠ [] → Pb b)
      (hs : ∀ r, r ∈ el → r.length = s)
      (hc : ∀ (i f : Nat) (r : List TC) (c : TC), el[i]? = some r → r[f]? = some c → w.cell? ⟨b, o + i * s + f, none⟩ = some (g i f) ∧ (g i f).oneCell' = true)
      (hr : ∀ (i f : Nat) (r : List TC) (c : TC), el[i]? = some r → r[f]? = some c → RT Pb w c (g i f)) : RT Pb w (.sl s el) (.slice (some ⟨b, o, none⟩) el.length cap)

theorem RT.mono {Pb Pb' : Nat → Prop} {w w' : World} {c : TC} {v : Value} (h : RT Pb w c v) (hp : ∀ b, Pb b → Pb' b)
    (hw : ∀ b, Pb b → w'.heap[b]? = w.heap[b]?) : RT Pb' w' c v := by
  induction h with
  | sc v => exact .sc v
  | sy t e => exact .sy t e
  | nil s => exact .nil s
  | sl s b o cap el g hl hb hs hc hr ih =>
    refine .sl s b o cap el g hl (fun h => hp b (hb h)) hs (fun i f r c hi hf => ?_) (fun i f r c hi hf => ih i f r c hi hf)
    have hne : el ≠ [] := by rintro rfl; simp at hi
    obtain ⟨h1, h2⟩ := hc i f r c hi hf
    refine ⟨?_, h2⟩
    simp only [World.cell?] at h1 ⊢
    rw [hw b (hb hne)]
    exact h1

theorem RT.sc_iff {Pb : Nat → Prop} {w : World} {u v : Value} (h : RT Pb w (.sc u) v) : v = u := by cases h; rfl

abbrev Mu := Nat → Nat → Option Nat

inductive Rel (Pb : Nat → Prop) (μ : Mu) (w : World) : AV → Value → Prop
  | tc (c : TC) (v : Value) (h : RT Pb w c v) : Rel Pb μ w (.tc c) v
  | any (v : Value) : Rel Pb μ w .any v
  | agg (cs : List AV) (vs : Array Value) (hl : cs.length = vs.size) (h : ∀ (i : Nat) (a : AV) (v : Value), cs[i]? = some a → vs[i]? = some v → Rel Pb μ w a v) : Rel Pb μ w (.agg cs) (.agg vs)
  | tuple (cs : List AV) (vs : Array Value) (hl : cs.length = vs.size) (h : ∀ (i : Nat) (a : AV) (v : Value), cs[i]? = some a → vs[i]? = some v → Rel Pb μ w a v) : Rel Pb μ w (.tuple cs) (.tuple vs)
  | ptr (o s i f ver b : Nat) (h : μ o ver = some b) : Rel Pb μ w (.ptr o s i f ver) (.pointer (some ⟨b, i * s + f, none⟩))
  | vptr (s i f b off : Nat) (el : List (List TC)) (g : Nat → Nat → Value) (hb : el ≠ [] → Pb b) (hs : ∀ r, r ∈ el → r.length = s)
      (hc : ∀ (i f : Nat) (r : List TC) (c : TC), el[i]? = some r → r[f]? = some c → w.cell? ⟨b, off + i * s + f, none⟩ = some (g i f) ∧ (g i f).oneCell' = true)
      (hr : ∀ (i f : Nat) (r : List TC) (c : TC), el[i]? = some r → r[f]? = some c → RT Pb w c (g i f)) : Rel Pb μ w (.vptr s el i f) (.pointer (some ⟨b, off + i * s + f, none⟩))
  | slice (o s i len cap : Nat) (ex : Bool) (ver b off c : Nat) (h : μ o ver = some b) (h1 : len ≤ cap) (h2 : cap ≤ c) (h3 : ex = true → c = cap)
      (h4 : sizeAt w b ((i + c) * s)) (h5 : c = 0 ∨ off = i * s) : Rel Pb μ w (.slice o s i len cap ex ver) (.slice (some ⟨b, off, none⟩) len c)
  | map (o b : Nat) (h : μ o 0 = some b) : Rel Pb μ w (.map o) (.map (some b))
  | func (fn : Fn) (first cap : List AV) (vf vc : Array Value) (hl : first.length = vf.size) (hl' : cap.length = vc.size)
      (h : ∀ (i : Nat) (a : AV) (v : Value), first[i]? = some a → vf[i]? = some v → Rel Pb μ w a v) (h' : ∀ (i : Nat) (a : AV) (v : Value), cap[i]? = some a → vc[i]? = some v → Rel Pb μ w a v) : Rel Pb μ w (.func fn first cap) (.func fn vf vc)

/-- What stays when a world goes on: protected blocks, and how great blocks are. -/
structure Ext (Pb : Nat → Prop) (w w' : World) : Prop where
  prot : ∀ b, Pb b → w'.heap[b]? = w.heap[b]?
  size : ∀ b n, sizeAt w b n → sizeAt w' b n

theorem Ext.refl (Pb : Nat → Prop) (w : World) : Ext Pb w w := ⟨fun _ _ => rfl, fun _ _ h => h⟩

theorem Ext.trans {Pb Pb' : Nat → Prop} {a b c : World} (h : Ext Pb a b) (hp : ∀ x, Pb x → Pb' x) (h' : Ext Pb' b c) : Ext Pb a c :=
  ⟨fun x hx => (h'.prot x (hp x hx)).trans (h.prot x hx), fun x n hx => h'.size x n (h.size x n hx)⟩

theorem Rel.mono {Pb Pb' : Nat → Prop} {μ μ' : Mu} {w w' : World} {a : AV} {v : Value} (h : Rel Pb μ w a v) (hp : ∀ b, Pb b → Pb' b)
    (hμ : ∀ o ver b, μ o ver = some b → μ' o ver = some b) (hw : Ext Pb w w') : Rel Pb' μ' w' a v := by
  induction h with
  | tc c v h => exact .tc c v (h.mono hp hw.prot)
  | any v => exact .any v
  | agg cs vs hl h ih => exact .agg cs vs hl ih
  | tuple cs vs hl h ih => exact .tuple cs vs hl ih
  | ptr o s i f ver b h => exact .ptr o s i f ver b (hμ _ _ _ h)
  | vptr s i f b off el g hb hs hc hr =>
    refine .vptr s i f b off el g (fun h => hp b (hb h)) hs (fun i f r c hi hf => ?_) (fun i f r c hi hf => (hr i f r c hi hf).mono hp hw.prot)
    have hne : el ≠ [] := by rintro rfl; simp at hi
    obtain ⟨h1, h2⟩ := hc i f r c hi hf
    refine ⟨?_, h2⟩
    simp only [World.cell?] at h1 ⊢
    rw [hw.prot b (hb hne)]
    exact h1
  | slice o s i len cap ex ver b off c h h1 h2 h3 h4 h5 => exact .slice o s i len cap ex ver b off c (hμ _ _ _ h) h1 h2 h3 (hw.size _ _ h4) h5
  | map o b h => exact .map o b (hμ _ _ _ h)
  | func fn first cap vf vc hl hl' h h' ih ih' => exact .func fn first cap vf vc hl hl' ih ih'

def RelL (Pb : Nat → Prop) (μ : Mu) (w : World) (l : List AV) (vs : Array Value) : Prop :=
  l.length = vs.size ∧ ∀ (i : Nat) (a : AV) (v : Value), l[i]? = some a → vs[i]? = some v → Rel Pb μ w a v

theorem RelL.mono {Pb Pb' : Nat → Prop} {μ μ' : Mu} {w w' : World} {l : List AV} {vs : Array Value} (h : RelL Pb μ w l vs) (hp : ∀ b, Pb b → Pb' b)
    (hμ : ∀ o ver b, μ o ver = some b → μ' o ver = some b) (hw : Ext Pb w w') : RelL Pb' μ' w' l vs :=
  ⟨h.1, fun i a v hi hv => (h.2 i a v hi hv).mono hp hμ hw⟩

/-- Rows of an object in a block. -/
structure CellsRel (Pb : Nat → Prop) (μ : Mu) (w : World) (b s : Nat) (el : List (List AV)) : Prop where
  rows : ∀ r, r ∈ el → r.length = s
  cells : ∃ c ty fr, w.heap[b]? = some (.cells c ty fr) ∧ (∀ off, off < c.size → w.frozen? ⟨b, off, none⟩ = false) ∧ el.length * s ≤ c.size ∧
    ∀ (i f : Nat) (r : List AV) (a : AV), el[i]? = some r → r[f]? = some a → ∃ v, c[i * s + f]? = some v ∧ v.oneCell' = true ∧ Rel Pb μ w a v

structure MapRel (Pb : Nat → Prop) (μ : Mu) (w : World) (b : Nat) (es : List (Value × AV)) : Prop where
  map : ∃ es' clock, w.heap[b]? = some (.map es' clock) ∧ es.length = es'.size ∧
    ∀ (i : Nat) (e : Value × AV) (e' : MapEntry), es[i]? = some e → es'[i]? = some e' → e'.key = e.1 ∧ Rel Pb μ w e.2 e'.val

def ObjRel (Pb : Nat → Prop) (μ : Mu) (B0 : Nat) (w : World) (o : Nat) : AObj → Prop
  | .tcells s el => ∃ b, μ o el.length = some b ∧ B0 ≤ b ∧ ¬ Pb b ∧ CellsRel Pb μ w b s (el.map tcs)
  | .cells s el => ∃ b, μ o el.length = some b ∧ B0 ≤ b ∧ ¬ Pb b ∧ CellsRel Pb μ w b s el
  | .map es => ∃ b, μ o 0 = some b ∧ B0 ≤ b ∧ ¬ Pb b ∧ MapRel Pb μ w b es

structure HeapRel (Pb : Nat → Prop) (μ : Mu) (B0 : Nat) (w : World) (H : Heap) : Prop where
  dom : ∀ o ver b, μ o ver = some b → ∃ obj, H[o]? = some obj ∧ ver ≤ obj.len
  obj : ∀ o obj, H[o]? = some obj → ObjRel Pb μ B0 w o obj
  inj : ∀ o o' obj obj' b, H[o]? = some obj → H[o']? = some obj' → μ o obj.len = some b → μ o' obj'.len = some b → o = o'
  pb : ∀ b, Pb b → b < w.heap.size
  base : B0 ≤ w.heap.size

/-- An object's block, its size of elements, its rows: of both kinds of rows. -/
theorem ObjRel.rows {Pb : Nat → Prop} {μ : Mu} {B0 : Nat} {w : World} {o : Nat} {obj : AObj} {el : List (List AV)} (h : ObjRel Pb μ B0 w o obj)
    (hr : rowsOf obj = some el) : el.length = obj.len ∧ ∃ b, μ o obj.len = some b ∧ B0 ≤ b ∧ ¬ Pb b ∧ CellsRel Pb μ w b (sizeOfObj obj) el := by
  cases obj with
  | tcells s l => simp only [rowsOf, Option.some.injEq] at hr; subst hr; exact ⟨by simp [AObj.len], h⟩
  | cells s l => simp only [rowsOf, Option.some.injEq] at hr; subst hr; exact ⟨by simp [AObj.len], h⟩
  | map es => simp [rowsOf] at hr

/-- The block of any object. -/
theorem ObjRel.block {Pb : Nat → Prop} {μ : Mu} {B0 : Nat} {w : World} {o : Nat} {obj : AObj} (h : ObjRel Pb μ B0 w o obj) :
    ∃ b, μ o obj.len = some b ∧ B0 ≤ b ∧ ¬ Pb b ∧ b < w.heap.size := by
  have key : ∀ b (x : Obj), w.heap[b]? = some x → b < w.heap.size := fun b x hx => by
    rcases Nat.lt_or_ge b w.heap.size with h | h
    · exact h
    · simp [Array.getElem?_eq_none h] at hx
  cases obj with
  | tcells s l => obtain ⟨b, h1, h2, h3, _, c, ty, fr, h5, _⟩ := h; exact ⟨b, h1, h2, h3, key _ _ h5⟩
  | cells s l => obtain ⟨b, h1, h2, h3, _, c, ty, fr, h5, _⟩ := h; exact ⟨b, h1, h2, h3, key _ _ h5⟩
  | map es => obtain ⟨b, h1, h2, h3, ⟨es', clock, h5, _⟩⟩ := h; exact ⟨b, h1, h2, h3, key _ _ h5⟩

theorem CellsRel.mono {Pb Pb' : Nat → Prop} {μ μ' : Mu} {w w' : World} {b s : Nat} {el : List (List AV)} (h : CellsRel Pb μ w b s el) (hp : ∀ b, Pb b → Pb' b)
    (hμ : ∀ o ver b, μ o ver = some b → μ' o ver = some b) (hw : Ext Pb w w') (hb : w'.heap[b]? = w.heap[b]?) : CellsRel Pb' μ' w' b s el := by
  obtain ⟨h1, c, ty, fr, h2, h3, h4, h5⟩ := h
  refine ⟨h1, c, ty, fr, by rw [hb, h2], fun off ho => ?_, h4, fun i f r a hi hf => ?_⟩
  · have := h3 off ho
    simp only [World.frozen?] at this ⊢
    rw [hb]; exact this
  · obtain ⟨v, q1, q2, q3⟩ := h5 i f r a hi hf
    exact ⟨v, q1, q2, q3.mono hp hμ hw⟩

theorem MapRel.mono {Pb Pb' : Nat → Prop} {μ μ' : Mu} {w w' : World} {b : Nat} {es : List (Value × AV)} (h : MapRel Pb μ w b es) (hp : ∀ b, Pb b → Pb' b)
    (hμ : ∀ o ver b, μ o ver = some b → μ' o ver = some b) (hw : Ext Pb w w') (hb : w'.heap[b]? = w.heap[b]?) : MapRel Pb' μ' w' b es := by
  obtain ⟨es', clock, h1, h2, h3⟩ := h
  exact ⟨es', clock, by rw [hb, h1], h2, fun i e e' hi he => ⟨(h3 i e e' hi he).1, (h3 i e e' hi he).2.mono hp hμ hw⟩⟩

theorem ObjRel.mono {Pb Pb' : Nat → Prop} {μ μ' : Mu} {B0 : Nat} {w w' : World} {o : Nat} {obj : AObj} (h : ObjRel Pb μ B0 w o obj) (hp : ∀ b, Pb b → Pb' b)
    (hμ : ∀ o ver b, μ o ver = some b → μ' o ver = some b) (hw : Ext Pb w w') (hb : ∀ b, μ o obj.len = some b → ¬ Pb' b ∧ w'.heap[b]? = w.heap[b]?) : ObjRel Pb' μ' B0 w' o obj := by
  cases obj with
  | tcells s l => obtain ⟨b, h1, h2, h3, h4⟩ := h; exact ⟨b, hμ _ _ _ h1, h2, (hb b h1).1, h4.mono hp hμ hw (hb b h1).2⟩
  | cells s l => obtain ⟨b, h1, h2, h3, h4⟩ := h; exact ⟨b, hμ _ _ _ h1, h2, (hb b h1).1, h4.mono hp hμ hw (hb b h1).2⟩
  | map es => obtain ⟨b, h1, h2, h3, h4⟩ := h; exact ⟨b, hμ _ _ _ h1, h2, (hb b h1).1, h4.mono hp hμ hw (hb b h1).2⟩

/-! ### values -/

theorem Rel.sc_eq {Pb : Nat → Prop} {μ : Mu} {w : World} {u v : Value} (h : Rel Pb μ w (.tc (.sc u)) v) : v = u := by
  cases h with | tc _ _ h => exact h.sc_iff

theorem Rel.of_sc (Pb : Nat → Prop) (μ : Mu) (w : World) (u : Value) : Rel Pb μ w (.tc (.sc u)) u := .tc _ _ (.sc u)

mutual
theorem toVal_ok {Pb : Nat → Prop} {μ : Mu} {w : World} : ∀ (a : AV) {u v : Value}, toVal a = some u → Rel Pb μ w a v → v = u
  | .tc (.sc x), u, v, h, hr => by
    simp only [toVal, Option.some.injEq] at h; subst h; exact hr.sc_eq
  | .tc (.sl s el), u, v, h, hr => by simp [toVal] at h
  | .tc (.sy t e), u, v, h, hr => by simp [toVal] at h
  | .any, _, _, h, _ => by simp [toVal] at h
  | .agg cs, u, v, h, hr => by
    simp only [toVal, Option.map_eq_some_iff] at h
    obtain ⟨l, hl, rfl⟩ := h
    cases hr with
    | agg _ vs hlen hh =>
      have := toVals_ok cs (vs := vs.toList) hl (by simpa using hlen) (fun i a v hi hv => hh i a v hi (by simpa using hv))
      rw [← this]
  | .tuple cs, u, v, h, hr => by
    simp only [toVal, Option.map_eq_some_iff] at h
    obtain ⟨l, hl, rfl⟩ := h
    cases hr with
    | tuple _ vs hlen hh =>
      have := toVals_ok cs (vs := vs.toList) hl (by simpa using hlen) (fun i a v hi hv => hh i a v hi (by simpa using hv))
      rw [← this]
  | .ptr .., _, _, h, _ => by simp [toVal] at h
  | .vptr .., _, _, h, _ => by simp [toVal] at h
  | .slice .., _, _, h, _ => by simp [toVal] at h
  | .map _, _, _, h, _ => by simp [toVal] at h
  | .func .., _, _, h, _ => by simp [toVal] at h
theorem toVals_ok {Pb : Nat → Prop} {μ : Mu} {w : World} : ∀ (l : List AV) {us vs : List Value}, toVals l = some us → l.length = vs.length →
    (∀ (i : Nat) (a : AV) (v : Value), l[i]? = some a → vs[i]? = some v → Rel Pb μ w a v) → vs = us
  | [], us, vs, h, hl, _ => by
    simp only [toVals, Option.some.injEq] at h
    subst h
    exact List.length_eq_zero_iff.1 hl.symm
  | a :: r, us, vs, h, hl, hh => by
    cases vs with
    | nil => simp at hl
    | cons v vs =>
      simp only [toVals] at h
      split at h
      · rename_i u l hu hl'
        simp only [Option.some.injEq] at h
        subst h
        rw [toVal_ok a hu (hh 0 a v rfl rfl), toVals_ok r (vs := vs) hl' (by simpa using hl) (fun i a v hi hv => hh (i + 1) a v (by simpa using hi) (by simpa using hv))]
      · simp at h
end

theorem rel_scs (Pb : Nat → Prop) (μ : Mu) (w : World) (vs : Array Value) : RelL Pb μ w (scs vs.toList) vs := by
  refine ⟨by simp [scs], fun i a v hi hv => ?_⟩
  simp only [scs, List.getElem?_map, Option.map_eq_some_iff] at hi
  obtain ⟨x, hx, rfl⟩ := hi
  rw [Array.getElem?_toList] at hx
  rw [hv] at hx
  simp only [Option.some.injEq] at hx
  subst hx
  exact Rel.of_sc ..

theorem rel_ofVal (Pb : Nat → Prop) (μ : Mu) (w : World) (v : Value) : Rel Pb μ w (ofVal v) v := by
  cases v with
  | agg cs => exact .agg _ _ (rel_scs Pb μ w cs).1 (rel_scs Pb μ w cs).2
  | _ => exact Rel.of_sc ..

theorem rel_ofRes (Pb : Nat → Prop) (μ : Mu) (w : World) (v : Value) : Rel Pb μ w (ofRes v) v := by
  cases v with
  | tuple vs =>
    refine .tuple _ _ (by simp) fun i a v hi hv => ?_
    simp only [List.getElem?_map, Option.map_eq_some_iff] at hi
    obtain ⟨x, hx, rfl⟩ := hi
    rw [Array.getElem?_toList] at hx
    rw [hv] at hx
    simp only [Option.some.injEq] at hx
    subst hx
    exact rel_ofVal ..
  | _ => simp only [ofRes]; exact rel_ofVal ..

theorem RelL.getD {Pb : Nat → Prop} {μ : Mu} {w : World} {T : List AV} {vs : Array Value} (h : RelL Pb μ w T vs) (t : Nat) : Rel Pb μ w (T.getD t undefA) (vs.getD t undef) := by
  by_cases ht : t < T.length
  · have h1 : T[t]? = some T[t] := List.getElem?_eq_getElem ht
    have h2 : vs[t]? = some (vs[t]'(h.1 ▸ ht)) := Array.getElem?_eq_getElem _
    have := h.2 t _ _ h1 h2
    simpa [List.getD, h1, Array.getD, h.1 ▸ ht] using this
  · have h1 : T[t]? = none := List.getElem?_eq_none (Nat.le_of_not_lt ht)
    have h2 : ¬ t < vs.size := h.1 ▸ ht
    simp [List.getD, h1, Array.getD, h2]
    exact Rel.of_sc ..

/-- Temporaries, by a look-up. -/
def RelF (Pb : Nat → Prop) (μ : Mu) (w : World) (T : Look) (vs : Array Value) : Prop := ∀ t, Rel Pb μ w (T t) (vs.getD t undef)

theorem RelF.mono {Pb Pb' : Nat → Prop} {μ μ' : Mu} {w w' : World} {T : Look} {vs : Array Value} (h : RelF Pb μ w T vs) (hp : ∀ b, Pb b → Pb' b)
    (hμ : ∀ o ver b, μ o ver = some b → μ' o ver = some b) (hw : Ext Pb w w') : RelF Pb' μ' w' T vs := fun t => (h t).mono hp hμ hw

theorem RelL.look {Pb : Nat → Prop} {μ : Mu} {w : World} {T : List AV} {vs : Array Value} (h : RelL Pb μ w T vs) : RelF Pb μ w (getL T) vs := fun t => by
  rw [getL_eq]; exact h.getD t

theorem RelL.put {Pb : Nat → Prop} {μ : Mu} {w : World} {T : List AV} {a : Act} (h : RelL Pb μ w T a.tmps) (dst : Option Tmp) {r : AV} {v : Value} (hr : Rel Pb μ w r v) :
    RelL Pb μ w (put T dst r) (a.put dst v).tmps := by
  cases dst with
  | none => exact h
  | some d =>
    refine ⟨by simp [Go.Proofs.Ytgpijioodocplaa.put, Act.put, h.1], fun i x y hi hv => ?_⟩
    simp only [Go.Proofs.Ytgpijioodocplaa.put, Act.put, List.getElem?_set, Array.getElem?_setIfInBounds] at hi hv
    by_cases hd : d = i
    · subst hd
      rw [h.1] at hi
      simp only [if_true] at hi hv
      by_cases hlt : d < a.tmps.size
      · simp only [hlt, if_true, Option.some.injEq] at hi hv
        subst hi; subst hv; exact hr
      · simp [hlt] at hi
    · simp only [hd, if_false] at hi hv
      exact h.2 i x y hi hv
end
end Go.Proofs.Ytgpijioodocplaa
