/- The evaluator: SyHeap, SyRows, SyQop, SyOps, SyOps2, SyOps3 laid together. -/
import Derived.Test.YtamhmfdbnlkmkaaMg2
import Derived.Laws.NewFold
import Derived.MapKept
import Derived.Laws.IdiomStrings
import Derived.Laws.BytesArg
import Derived.Laws.BitsLemmas
/- What becomes of the heap: an object is new, written, or made greater. -/
set_option linter.unusedVariables false
set_option linter.unusedSectionVars false
set_option linter.unusedSimpArgs false
namespace Go.Proofs.Ytamhmfdbnlkmkaa
open Go Go.RowKit
variable [Obs]

def upd (μ : Mu) (o ver b : Nat) : Mu := fun o' v' => if o' = o ∧ v' = ver then some b else μ o' v'

theorem upd_same (μ : Mu) (o ver b : Nat) : upd μ o ver b o ver = some b := by simp [upd]

theorem upd_ne {μ : Mu} {o ver b o' v' : Nat} (h : o' ≠ o) : upd μ o ver b o' v' = μ o' v' := by simp [upd, h]

/-- How the state goes on. -/
structure Goes (Pb : Nat → Prop) (μ : Mu) (B0 : Nat) (w : World) (n : Nat) (Pb' : Nat → Prop) (μ' : Mu) (w' : World) (n' : Nat) : Prop where
  pb : ∀ b, Pb b → Pb' b
  mu : ∀ o ver b, μ o ver = some b → μ' o ver = some b
  ext : Ext Pb w w'
  below : Below B0 w w'
  len : n ≤ n'
  new : ∀ b, Pb' b → Pb b ∨ w.heap.size ≤ b

theorem Goes.refl (Pb : Nat → Prop) (μ : Mu) (B0 : Nat) (w : World) (n : Nat) : Goes Pb μ B0 w n Pb μ w n :=
  ⟨fun _ h => h, fun _ _ _ h => h, Ext.refl .., Below.refl .., Nat.le_refl _, fun _ h => .inl h⟩

theorem Goes.trans {Pb1 Pb2 Pb3 : Nat → Prop} {μ1 μ2 μ3 : Mu} {B0 : Nat} {w1 w2 w3 : World} {n1 n2 n3 : Nat} (h : Goes Pb1 μ1 B0 w1 n1 Pb2 μ2 w2 n2) (k : Goes Pb2 μ2 B0 w2 n2 Pb3 μ3 w3 n3) :
    Goes Pb1 μ1 B0 w1 n1 Pb3 μ3 w3 n3 :=
  ⟨fun b hb => k.pb b (h.pb b hb), fun o v b hb => k.mu o v b (h.mu o v b hb), h.ext.trans h.pb k.ext, h.below.trans k.below, Nat.le_trans h.len k.len, fun b hb => (k.new b hb).elim (h.new b) fun h2 => .inr (Nat.le_trans h.below.size h2)⟩

section
variable {C : Ctx} {Pb : Nat → Prop} {μ : Mu} {B0 : Nat} {w w' : World} {H H' : Heap}

theorem lt_of_get {α : Type} {l : List α} {i : Nat} {x : α} (h : l[i]? = some x) : i < l.length := by
  rcases Nat.lt_or_ge i l.length with h' | h'
  · exact h'
  · simp [List.getElem?_eq_none h'] at h

theorem lt_of_heap {w : World} {b : Nat} {x : Obj} (h : w.heap[b]? = some x) : b < w.heap.size := by
  rcases Nat.lt_or_ge b w.heap.size with h' | h'
  · exact h'
  · simp [Array.getElem?_eq_none h'] at h

/-- The one law: object o is new, or is changed; its block is b'. -/
theorem heap_put (hH : HeapRel Pb μ B0 w H) {o b' : Nat} {obj' : AObj}
    (ho : H'[o]? = some obj') (hother : ∀ o', o' ≠ o → H'[o']? = H[o']?) (hlen : H.length ≤ H'.length)
    (hblk : ∀ b, b ≠ b' → b < w.heap.size → w'.heap[b]? = w.heap[b]?)
    (hours : w.heap.size ≤ b' ∨ ∃ obj, H[o]? = some obj ∧ μ o obj.len = some b')
    (hsz : ∀ b n, sizeAt w b n → sizeAt w' b n) (hsize : w.heap.size ≤ w'.heap.size) (hos : w'.os = w.os) (htape : w'.tape = w.tape) (hout : w'.output = w.output)
    (hver : ∀ obj, H[o]? = some obj → obj.len ≤ obj'.len ∧ ∀ x, μ o obj'.len = some x → x = b')
    (hPb : ¬ Pb b') (hB : B0 ≤ b') (hobj : Goes Pb μ B0 w H.length Pb (upd μ o obj'.len b') w' H'.length → ObjRel Pb (upd μ o obj'.len b') B0 w' o obj') :
    HeapRel Pb (upd μ o obj'.len b') B0 w' H' ∧ Goes Pb μ B0 w H.length Pb (upd μ o obj'.len b') w' H'.length := by
  have hμ : ∀ o1 v1 b1, μ o1 v1 = some b1 → upd μ o obj'.len b' o1 v1 = some b1 := by
    intro o1 v1 b1 h1
    by_cases he : o1 = o ∧ v1 = obj'.len
    · obtain ⟨rfl, rfl⟩ := he
      obtain ⟨obj, hobj1, hv⟩ := hH.dom _ _ _ h1
      rw [upd_same, (hver obj hobj1).2 b1 h1]
    · simp only [upd, he, if_false]; exact h1
  have hext : Ext Pb w w' := ⟨fun b hb => hblk b (fun e => hPb (e ▸ hb)) (hH.pb b hb), hsz⟩
  have hbel : Below B0 w w' := ⟨hos, htape, hout, hsize, fun k hk => by
    have := hH.base
    exact hblk k (by omega) (by omega)⟩
  have hgo : Goes Pb μ B0 w H.length Pb (upd μ o obj'.len b') w' H'.length := ⟨fun _ h => h, hμ, hext, hbel, hlen, fun _ h => .inl h⟩
  refine ⟨⟨?_, ?_, ?_, ?_, Nat.le_trans hH.base hsize⟩, hgo⟩
  · intro o1 v1 b1 h1
    by_cases he : o1 = o
    · subst he
      refine ⟨obj', ho, ?_⟩
      by_cases hv : v1 = obj'.len
      · omega
      · simp only [upd, hv, and_false, if_false] at h1
        obtain ⟨obj, hg, hle⟩ := hH.dom _ _ _ h1
        exact Nat.le_trans hle (hver obj hg).1
    · rw [upd_ne he] at h1
      rw [hother o1 he]
      exact hH.dom _ _ _ h1
  · intro o1 x hx
    by_cases he : o1 = o
    · subst he
      rw [ho] at hx
      simp only [Option.some.injEq] at hx
      subst hx
      exact hobj hgo
    · rw [hother o1 he] at hx
      refine (hH.obj o1 x hx).mono (fun _ h => h) hμ hext fun b hb => ?_
      obtain ⟨b2, hb2, _, hnp, hlt⟩ := (hH.obj o1 x hx).block
      rw [hb] at hb2
      simp only [Option.some.injEq] at hb2
      subst hb2
      refine ⟨hnp, hblk b ?_ hlt⟩
      rintro rfl
      rcases hours with h | ⟨obj, hg, hm⟩
      · omega
      · exact he (hH.inj o1 o x obj b hx hg hb hm)
  · intro o1 o2 x1 x2 b h1 h2 m1 m2
    by_cases he1 : o1 = o <;> by_cases he2 : o2 = o
    · rw [he1, he2]
    · exfalso
      subst he1
      rw [ho] at h1
      simp only [Option.some.injEq] at h1
      subst h1
      rw [upd_same] at m1
      simp only [Option.some.injEq] at m1
      subst m1
      rw [hother o2 he2] at h2
      rw [upd_ne he2] at m2
      obtain ⟨b2, hb2, _, _, hlt⟩ := (hH.obj o2 x2 h2).block
      rw [m2] at hb2
      simp only [Option.some.injEq] at hb2
      subst hb2
      rcases hours with h | ⟨obj, hg, hm⟩
      · omega
      · exact he2 (hH.inj o2 o1 x2 obj b' h2 hg m2 hm)
    · exfalso
      subst he2
      rw [ho] at h2
      simp only [Option.some.injEq] at h2
      subst h2
      rw [upd_same] at m2
      simp only [Option.some.injEq] at m2
      subst m2
      rw [hother o1 he1] at h1
      rw [upd_ne he1] at m1
      obtain ⟨b2, hb2, _, _, hlt⟩ := (hH.obj o1 x1 h1).block
      rw [m1] at hb2
      simp only [Option.some.injEq] at hb2
      subst hb2
      rcases hours with h | ⟨obj, hg, hm⟩
      · omega
      · exact he1 (hH.inj o1 o2 x1 obj b' h1 hg m1 hm)
    · rw [hother o1 he1] at h1
      rw [hother o2 he2] at h2
      rw [upd_ne he1] at m1
      rw [upd_ne he2] at m2
      exact hH.inj o1 o2 x1 x2 b h1 h2 m1 m2
  · intro b hb
    exact Nat.lt_of_lt_of_le (hH.pb b hb) hsize

theorem frozen_new (w : World) (c : Array Value) (ty : TypeId) (off : Nat) : (w.alloc (.cells c ty)).frozen? ⟨w.heap.size, off, none⟩ = false := by
  have : (w.alloc (.cells c ty)).heap[w.heap.size]? = some (.cells c ty) := by show (w.heap.push _)[w.heap.size]? = _; simp
  simp only [World.frozen?, this]
  simp

theorem get_alloc_new (w : World) (x : Obj) : (w.alloc x).heap[w.heap.size]? = some x := by show (w.heap.push _)[w.heap.size]? = _; simp

theorem get_alloc_old {w : World} (x : Obj) {b : Nat} (h : b < w.heap.size) : (w.alloc x).heap[b]? = w.heap[b]? := Below.heap_alloc w x b h

theorem size_alloc_mono (w : World) (x : Obj) : ∀ b n, sizeAt w b n → sizeAt (w.alloc x) b n := by
  rintro b n ⟨c, ty, fr, h1, h2⟩
  exact ⟨c, ty, fr, by rw [get_alloc_old x (lt_of_heap h1)]; exact h1, h2⟩

/-- A draw. -/
def drewW (w : World) : World := { w with drawn := w.drawn + 1 }

/-- An object of rows, as rows of values. -/
theorem objRel_rows {μ' : Mu} {o b s : Nat} {obj : AObj} {el : List (List AV)} (hr : rowsOf obj = some el) (hs : sizeOfObj obj = s) (hb : μ' o obj.len = some b) (hB : B0 ≤ b) (hP : ¬ Pb b)
    (h : CellsRel Pb μ' w b s el) : ObjRel Pb μ' B0 w o obj := by
  cases obj with
  | tcells s' l => simp only [rowsOf, Option.some.injEq] at hr; subst hr; simp only [sizeOfObj] at hs; subst hs; exact ⟨b, hb, hB, hP, h⟩
  | cells s' l => simp only [rowsOf, Option.some.injEq] at hr; subst hr; simp only [sizeOfObj] at hs; subst hs; exact ⟨b, hb, hB, hP, h⟩
  | map es => simp [rowsOf] at hr

/-- A new block of rows: 'cells' lists them, with more behind. -/
theorem heap_new (hH : HeapRel Pb μ B0 w H) {obj : AObj} {el : List (List AV)} {s : Nat} (hr : rowsOf obj = some el) (hs : sizeOfObj obj = s) (w1 : World)
    (hw1 : w1.heap = w.heap ∧ w1.os = w.os ∧ w1.tape = w.tape ∧ w1.output = w.output) (c : Array Value) (ty : TypeId)
    (hrows : ∀ r, r ∈ el → r.length = s) (hsz : el.length * s ≤ c.size)
    (hc : ∀ (i f : Nat) (r : List AV) (x : AV), el[i]? = some r → r[f]? = some x → ∃ v, c[i * s + f]? = some v ∧ v.oneCell' = true ∧ Rel Pb μ w x v) :
    HeapRel Pb (upd μ H.length obj.len w.heap.size) B0 (w1.alloc (.cells c ty)) (H ++ [obj]) ∧
      Goes Pb μ B0 w H.length Pb (upd μ H.length obj.len w.heap.size) (w1.alloc (.cells c ty)) (H ++ [obj]).length := by
  obtain ⟨e1, e2, e3, e4⟩ := hw1
  have hold : ∀ b, b < w.heap.size → (w1.alloc (.cells c ty)).heap[b]? = w.heap[b]? := fun b hb => by
    rw [get_alloc_old _ (by rw [e1]; exact hb), e1]
  refine heap_put hH (o := H.length) (b' := w.heap.size) (by simp) (fun o' ho' => ?_) (by simp) (fun b _ hb => hold b hb) (.inl (Nat.le_refl _)) ?_ (by simp [e1]) e2 e3 e4 (fun x hx => by simp at hx) (fun hp => Nat.lt_irrefl _ (hH.pb _ hp)) hH.base (fun hgo => ?_)
  · rcases Nat.lt_or_ge o' H.length with h | h
    · rw [List.getElem?_append_left h]
    · rw [List.getElem?_eq_none h, List.getElem?_eq_none (by simp; omega)]
  · rintro b n ⟨c', ty', fr', h1, h2⟩
    exact ⟨c', ty', fr', by rw [hold b (lt_of_heap h1)]; exact h1, h2⟩
  · refine objRel_rows hr hs (upd_same ..) hH.base (fun hp => Nat.lt_irrefl _ (hH.pb _ hp)) ⟨hrows, c, ty, (0, 0), ?_, fun off _ => ?_, hsz, fun i f r x hi hf => ?_⟩
    · have := get_alloc_new w1 (.cells c ty)
      rwa [e1] at this
    · have := frozen_new w1 c ty off
      rwa [e1] at this
    · obtain ⟨v, h1, h2, h3⟩ := hc i f r x hi hf
      exact ⟨v, h1, h2, h3.mono hgo.pb hgo.mu hgo.ext⟩

theorem rows_newCells {s : Nat} {el : List (List AV)} : rowsOf (newCells s el) = some el ∧ sizeOfObj (newCells s el) = s ∧ (newCells s el).len = el.length := by
  unfold newCells
  split
  · rename_i t ht
    have key : ∀ {l : List AV} {t : List TC}, asTC l = some t → tcs t = l := by
      intro l
      induction l with
      | nil => intro t h; simp only [asTC, Option.some.injEq] at h; subst h; rfl
      | cons x r ih =>
        intro t h
        cases x with
        | tc c =>
          simp only [asTC, Option.map_eq_some_iff] at h
          obtain ⟨t', ht', rfl⟩ := h
          simp only [tcs, List.map_cons]
          rw [show t'.map AV.tc = r from ih ht']
        | _ => simp [asTC] at h
    obtain ⟨h1, h2⟩ := mapO_ok ht
    have e : t.map tcs = el := by
      apply List.ext_getElem?
      intro i
      cases hi : el[i]? with
      | none =>
        have : el.length ≤ i := by
          rcases Nat.lt_or_ge i el.length with h | h
          · rw [List.getElem?_eq_getElem h] at hi; cases hi
          · exact h
        rw [List.getElem?_eq_none (by simp; omega)]
      | some r =>
        obtain ⟨y, hy, hr⟩ := h2 i r hi
        rw [List.getElem?_map, hy, Option.map_some, key hr]
    exact ⟨by simp [rowsOf, e], rfl, h1⟩
  · exact ⟨rfl, rfl, rfl⟩

theorem cellOk_one {x : AV} {v : Value} (h : cellOk x = true) (hR : Rel Pb μ w x v) : v.oneCell' = true := by
  cases hR with
  | tc c v hR =>
    cases hR with
    | sc v => cases v <;> simp_all [cellOk, Value.oneCell']
    | sy t e => cases t <;> rfl
    | nil => rfl
    | sl => rfl
  | any => simp [cellOk] at h
  | agg => simp [cellOk] at h
  | tuple => simp [cellOk] at h
  | ptr => rfl
  | vptr => rfl
  | slice => rfl
  | map => rfl
  | func => rfl

/-- The cells of a value. -/
theorem cellsOfA_ok {x : AV} {v : Value} {cs : List AV} (h : cellsOfA x = some cs) (hR : Rel Pb μ w x v) : RelL Pb μ w cs v.cells := by
  have hone : ∀ {x : AV} {v : Value}, Rel Pb μ w x v → (∀ cs, v ≠ .agg cs) → RelL Pb μ w [x] v.cells := by
    intro x v hR hv
    have : v.cells = #[v] := by cases v <;> first | rfl | exact absurd rfl (hv _)
    rw [this]
    refine ⟨rfl, fun i a u hi hu => ?_⟩
    cases i with
    | zero => simp at hi hu; subst hi; subst hu; exact hR
    | succ i => simp at hi
  cases hR with
  | agg l vs hl hh => simp only [cellsOfA, Option.some.injEq] at h; subst h; exact ⟨hl, hh⟩
  | tuple => simp [cellsOfA] at h
  | any => simp [cellsOfA] at h
  | tc c _ hR =>
    have hn : ∀ cs, v ≠ .agg cs := fun cs hcs => by
      generalize hq : (Value.agg cs) = q at hcs
      subst hcs
      cases hR with
      | sc => subst hq; simp [cellsOfA] at h
      | sy t e => cases t <;> cases hq
      | nil => cases hq
      | sl => cases hq
    have hcs : cs = [.tc c] := by
      cases c with
      | sc u => cases hR; cases v <;> simp_all [cellsOfA]
      | sl => simp_all [cellsOfA]
      | sy => simp_all [cellsOfA]
    subst hcs
    exact hone (.tc _ _ hR) hn
  | ptr o s i f ver b h1 => simp only [cellsOfA, Option.some.injEq] at h; subst h; exact hone (.ptr o s i f ver b h1) (fun cs hcs => by cases hcs)
  | vptr s i f b off el g h1 h2 h3 h4 => simp only [cellsOfA, Option.some.injEq] at h; subst h; exact hone (.vptr s i f b off el g h1 h2 h3 h4) (fun cs hcs => by cases hcs)
  | slice o s i len cap ex ver b off c h0 h1 h2 h3 h4 h5 => simp only [cellsOfA, Option.some.injEq] at h; subst h; exact hone (.slice o s i len cap ex ver b off c h0 h1 h2 h3 h4 h5) (fun cs hcs => by cases hcs)
  | map o b h1 => simp only [cellsOfA, Option.some.injEq] at h; subst h; exact hone (.map o b h1) (fun cs hcs => by cases hcs)
  | func fn f c vf vc h1 h2 h3 h4 => simp only [cellsOfA, Option.some.injEq] at h; subst h; exact hone (.func fn f c vf vc h1 h2 h3 h4) (fun cs hcs => by cases hcs)
end
end Go.Proofs.Ytamhmfdbnlkmkaa

/- Rows of cells: written, read, joined. -/
set_option linter.unusedVariables false
set_option linter.unusedSectionVars false
set_option linter.unusedSimpArgs false
namespace Go.Proofs.Ytamhmfdbnlkmkaa
open Go Go.RowKit
variable [Obs]

def setR (c : Array Value) (o : Nat) : List Value → Array Value
  | [] => c
  | v :: r => setR (c.setIfInBounds o v) (o + 1) r

theorem setR_size : ∀ (vs : List Value) (c : Array Value) (o : Nat), (setR c o vs).size = c.size
  | [], _, _ => rfl
  | v :: r, c, o => by simp [setR, setR_size r]

theorem setR_get : ∀ (vs : List Value) (c : Array Value) (o k : Nat), o + vs.length ≤ c.size →
    (setR c o vs)[k]? = if o ≤ k ∧ k < o + vs.length then vs[k - o]? else c[k]?
  | [], c, o, k, _ => by
    have : ¬ (o ≤ k ∧ k < o + ([] : List Value).length) := by simp
    rw [if_neg this]; rfl
  | v :: r, c, o, k, h => by
    simp only [List.length_cons] at h
    simp only [setR]
    rw [setR_get r _ (o + 1) k (by simp; omega)]
    by_cases h1 : k = o
    · subst h1
      rw [if_neg (by omega), if_pos (by simp), Array.getElem?_setIfInBounds]
      simp
      omega
    · by_cases h2 : o + 1 ≤ k ∧ k < o + 1 + r.length
      · rw [if_pos h2, if_pos (by simp; omega)]
        rw [show k - o = k - (o + 1) + 1 by omega, List.getElem?_cons_succ]
      · rw [if_neg h2, if_neg (by simp; omega), Array.getElem?_setIfInBounds, if_neg (by omega)]

theorem heap_setCell_self {w : World} {b o : Nat} {v : Value} {c : Array Value} {ty : TypeId} {fr : Nat × Nat} (h : w.heap[b]? = some (.cells c ty fr)) :
    (w.setCell ⟨b, o, none⟩ v).heap[b]? = some (.cells (c.setIfInBounds o v) ty fr) := by
  simp [World.setCell, Array.getElem?_modify, h]

theorem heap_setCells_self : ∀ (vs : List Value) {w : World} {b o : Nat} {c : Array Value} {ty : TypeId} {fr : Nat × Nat}, w.heap[b]? = some (.cells c ty fr) →
    (w.setCells b o vs).heap[b]? = some (.cells (setR c o vs) ty fr)
  | [], _, _, _, _, _, _, h => h
  | v :: r, _, _, _, _, _, _, h => heap_setCells_self r (heap_setCell_self h)

theorem heap_setCells_other : ∀ (vs : List Value) {w : World} {b o b' : Nat}, b' ≠ b → (w.setCells b o vs).heap[b']? = w.heap[b']?
  | [], _, _, _, _, _ => rfl
  | v :: r, w, b, o, b', h => by
    rw [World.setCells, heap_setCells_other r h, Below.heap_setCell _ _ _ _ h]

theorem size_setCells : ∀ (vs : List Value) {w : World} {b o : Nat}, (w.setCells b o vs).heap.size = w.heap.size
  | [], _, _, _ => rfl
  | _ :: r, w, b, o => by rw [World.setCells, size_setCells r]; simp [World.setCell]

theorem rest_setCells : ∀ (vs : List Value) {w : World} {b o : Nat}, (w.setCells b o vs).os = w.os ∧ (w.setCells b o vs).tape = w.tape ∧ (w.setCells b o vs).output = w.output
  | [], _, _, _ => ⟨rfl, rfl, rfl⟩
  | v :: r, w, b, o => by rw [World.setCells]; exact rest_setCells r (w := w.setCell ⟨b, o, none⟩ v)

theorem sizeAt_setCells (vs : List Value) {w : World} {b o : Nat} : ∀ b' n, sizeAt w b' n → sizeAt (w.setCells b o vs) b' n := by
  rintro b' n ⟨c, ty, fr, h1, h2⟩
  by_cases h : b' = b
  · subst h; exact ⟨_, ty, fr, heap_setCells_self vs h1, by rw [setR_size]; exact h2⟩
  · exact ⟨c, ty, fr, by rw [heap_setCells_other vs h]; exact h1, h2⟩

/-- Rows in an array, from its head on. -/
structure RowsRel (Pb : Nat → Prop) (μ : Mu) (w : World) (s : Nat) (rows : List (List AV)) (vals : Array Value) : Prop where
  len : vals.size = rows.length * s
  rowl : ∀ r, r ∈ rows → r.length = s
  cells : ∀ (i f : Nat) (r : List AV) (x : AV), rows[i]? = some r → r[f]? = some x → ∃ v, vals[i * s + f]? = some v ∧ v.oneCell' = true ∧ Rel Pb μ w x v

theorem mul_lt_rows {i j s f : Nat} (h : i < j) (hf : f < s) : i * s + f < j * s := by
  have : (i + 1) * s ≤ j * s := Nat.mul_le_mul_right s h
  rw [Nat.add_mul] at this
  omega

theorem mul_le_rows {i j s : Nat} (h : i ≤ j) : i * s ≤ j * s := Nat.mul_le_mul_right s h

section
variable {C : Ctx} {Pb : Nat → Prop} {μ : Mu} {B0 : Nat} {w : World} {H : Heap}

theorem RowsRel.mono {Pb' : Nat → Prop} {μ' : Mu} {w' : World} {s : Nat} {rows : List (List AV)} {vals : Array Value} (h : RowsRel Pb μ w s rows vals) (hp : ∀ b, Pb b → Pb' b)
    (hμ : ∀ o ver b, μ o ver = some b → μ' o ver = some b) (hw : Ext Pb w w') : RowsRel Pb' μ' w' s rows vals :=
  ⟨h.len, h.rowl, fun i f r x hi hf => by obtain ⟨v, h1, h2, h3⟩ := h.cells i f r x hi hf; exact ⟨v, h1, h2, h3.mono hp hμ hw⟩⟩

/-- Rows 'rows' are laid over rows 'el' from row 'at' on, or behind them. -/
theorem over_cells {b s at_ : Nat} {el rows el' : List (List AV)} {vals : Array Value} {w' : World} (hR : CellsRel Pb μ w b s el) (hV : RowsRel Pb μ w s rows vals)
    (hw' : w' = w.setCells b (at_ * s) vals.toList) (hget : ∀ i, el'[i]? = if at_ ≤ i ∧ i < at_ + rows.length then rows[i - at_]? else el[i]?)
    (hfit : ∀ (c : Array Value) ty fr, w.heap[b]? = some (.cells c ty fr) → (at_ + rows.length) * s ≤ c.size) (hle : el'.length = max el.length (at_ + rows.length))
    {Pb' : Nat → Prop} {μ' : Mu} (hp : ∀ b, Pb b → Pb' b) (hμ : ∀ o ver b, μ o ver = some b → μ' o ver = some b) (hext : Ext Pb w w') : CellsRel Pb' μ' w' b s el' := by
  obtain ⟨h1, c, ty, fr, h2, h3, h4, h5⟩ := hR
  have hfc := hfit c ty fr h2
  have hlen : vals.toList.length = rows.length * s := by rw [Array.length_toList]; exact hV.len
  have hin : at_ * s + vals.toList.length ≤ c.size := by rw [hlen, ← Nat.add_mul]; exact hfc
  refine ⟨fun r hr => ?_, setR c (at_ * s) vals.toList, ty, fr, by rw [hw']; exact heap_setCells_self _ h2, fun off ho => ?_, ?_, fun i f r x hi hf => ?_⟩
  · obtain ⟨i, hi⟩ := List.mem_iff_getElem?.1 hr
    rw [hget] at hi
    split at hi
    · exact hV.rowl r (List.mem_of_getElem? hi)
    · exact h1 r (List.mem_of_getElem? hi)
  · rw [setR_size] at ho
    rw [hw', World.frozen?_setCells]
    exact h3 off ho
  · rw [setR_size, hle]
    rcases Nat.le_total el.length (at_ + rows.length) with h | h
    · rw [Nat.max_eq_right h]; exact hfc
    · rw [Nat.max_eq_left h]; exact h4
  · have hflt : f < r.length := lt_of_get hf
    rw [setR_get _ _ _ _ hin, hlen]
    rw [hget] at hi
    by_cases hc : at_ ≤ i ∧ i < at_ + rows.length
    · rw [if_pos hc] at hi
      have hr := hV.rowl r (List.mem_of_getElem? hi)
      obtain ⟨v, q1, q2, q3⟩ := hV.cells _ f r x hi hf
      have e1 : i * s + f - at_ * s = (i - at_) * s + f := by
        have : at_ * s ≤ i * s := mul_le_rows hc.1
        rw [Nat.sub_mul]; omega
      have e2 : at_ * s ≤ i * s + f ∧ i * s + f < at_ * s + rows.length * s := by
        refine ⟨Nat.le_trans (mul_le_rows hc.1) (Nat.le_add_right _ _), ?_⟩
        rw [← Nat.add_mul]
        exact mul_lt_rows hc.2 (by omega)
      rw [if_pos e2, e1, Array.getElem?_toList]
      exact ⟨v, q1, q2, q3.mono hp hμ hext⟩
    · rw [if_neg hc] at hi
      have hr := h1 r (List.mem_of_getElem? hi)
      obtain ⟨v, q1, q2, q3⟩ := h5 i f r x hi hf
      have e2 : ¬ (at_ * s ≤ i * s + f ∧ i * s + f < at_ * s + rows.length * s) := by
        rw [← Nat.add_mul]
        rintro ⟨g1, g2⟩
        refine hc ⟨?_, ?_⟩
        · rcases Nat.lt_or_ge i at_ with h | h
          · have := mul_lt_rows h (by omega : f < s); omega
          · exact h
        · rcases Nat.lt_or_ge i (at_ + rows.length) with h | h
          · exact h
          · have := mul_le_rows (s := s) h; omega
      rw [if_neg e2]
      exact ⟨v, q1, q2, q3.mono hp hμ hext⟩

theorem setSpan_get {α : Type} {l cs : List α} {f : Nat} (h : f + cs.length ≤ l.length) (j : Nat) :
    (setSpan l f cs)[j]? = if f ≤ j ∧ j < f + cs.length then cs[j - f]? else l[j]? := by
  have hl : (l.take f).length = f := by simp; omega
  unfold setSpan
  rw [List.append_assoc]
  by_cases h1 : j < f
  · rw [List.getElem?_append_left (by omega), if_neg (by omega), List.getElem?_take_of_lt h1]
  · rw [List.getElem?_append_right (by omega), hl]
    by_cases h2 : j < f + cs.length
    · rw [List.getElem?_append_left (by omega), if_pos (by omega)]
    · rw [List.getElem?_append_right (by omega), if_neg (by omega), List.getElem?_drop]
      congr 1
      omega

theorem setSpan_length {α : Type} {l cs : List α} {f : Nat} (h : f + cs.length ≤ l.length) : (setSpan l f cs).length = l.length := by
  simp [setSpan]; omega

/-- Some cells of one row are written. -/
theorem store_cells {b s i f : Nat} {el : List (List AV)} {row cs : List AV} {vals : Array Value} {w' : World} (hR : CellsRel Pb μ w b s el) (hi : el[i]? = some row)
    (hf : f + cs.length ≤ row.length) (hV : RelL Pb μ w cs vals) (h1v : ∀ u, u ∈ vals → u.oneCell' = true) (hw' : w' = w.setCells b (i * s + f) vals.toList)
    {Pb' : Nat → Prop} {μ' : Mu} (hp : ∀ b, Pb b → Pb' b) (hμ : ∀ o ver b, μ o ver = some b → μ' o ver = some b) (hext : Ext Pb w w') : CellsRel Pb' μ' w' b s (el.set i (setSpan row f cs)) := by
  obtain ⟨h1, c, ty, fr, h2, h3, h4, h5⟩ := hR
  have hil : i < el.length := lt_of_get hi
  have hrow : row.length = s := h1 row (List.mem_of_getElem? hi)
  have hlen : vals.toList.length = cs.length := by rw [Array.length_toList]; exact hV.1.symm
  have hin : i * s + f + vals.toList.length ≤ c.size := by
    have : (i + 1) * s ≤ el.length * s := mul_le_rows hil
    rw [Nat.add_mul] at this
    omega
  refine ⟨fun r hr => ?_, setR c (i * s + f) vals.toList, ty, fr, by rw [hw']; exact heap_setCells_self _ h2, fun off ho => ?_, ?_, fun i' f' r x hi' hf' => ?_⟩
  · obtain ⟨j, hj⟩ := List.mem_iff_getElem?.1 hr
    rw [List.getElem?_set] at hj
    split at hj
    · simp [hil] at hj
      subst hj
      rw [setSpan_length hf, hrow]
    · exact h1 r (List.mem_of_getElem? hj)
  · rw [setR_size] at ho
    rw [hw', World.frozen?_setCells]
    exact h3 off ho
  · rw [setR_size, List.length_set]; exact h4
  · rw [setR_get _ _ _ _ hin, hlen]
    rw [List.getElem?_set] at hi'
    by_cases hii : i = i'
    · subst hii
      simp only [if_true, hil, Option.some.injEq] at hi'
      subst hi'
      rw [setSpan_get hf] at hf'
      by_cases hc : f ≤ f' ∧ f' < f + cs.length
      · rw [if_pos hc] at hf'
        rw [if_pos (by omega), show i * s + f' - (i * s + f) = f' - f by omega, Array.getElem?_toList]
        obtain ⟨v, hv, hRv⟩ := RelL.get hV hf'
        exact ⟨v, hv, h1v v (Array.mem_of_getElem? hv), hRv.mono hp hμ hext⟩
      · rw [if_neg hc] at hf'
        rw [if_neg (by omega)]
        obtain ⟨v, q1, q2, q3⟩ := h5 i f' row x hi hf'
        exact ⟨v, q1, q2, q3.mono hp hμ hext⟩
    · simp only [hii, if_false] at hi'
      obtain ⟨v, q1, q2, q3⟩ := h5 i' f' r x hi' hf'
      have hr := h1 r (List.mem_of_getElem? hi')
      have hf's : f' < s := by have := lt_of_get hf'; omega
      have : ¬ (i * s + f ≤ i' * s + f' ∧ i' * s + f' < i * s + f + cs.length) := by
        rcases Nat.lt_or_gt_of_ne hii with h | h
        · have := mul_lt_rows h (show s - 1 < s by omega); omega
        · have := mul_lt_rows h hf's; omega
      rw [if_neg this]
      exact ⟨v, q1, q2, q3.mono hp hμ hext⟩

/-- The heap law at a write into an object that is there. -/
theorem heap_write (hH : HeapRel Pb μ B0 w H) {o b at_ : Nat} {obj obj' : AObj} {vs : List Value} {s : Nat} {el' : List (List AV)} (ho : H[o]? = some obj) (hb : μ o obj.len = some b) (hB : B0 ≤ b) (hP : ¬ Pb b)
    (hlen : obj.len ≤ obj'.len) (hr : rowsOf obj' = some el') (hs : sizeOfObj obj' = s)
    (hcells : ∀ μ', (∀ o ver b, μ o ver = some b → μ' o ver = some b) → Ext Pb w (w.setCells b at_ vs) → CellsRel Pb μ' (w.setCells b at_ vs) b s el') :
    HeapRel Pb (upd μ o obj'.len b) B0 (w.setCells b at_ vs) (H.set o obj') ∧ Goes Pb μ B0 w H.length Pb (upd μ o obj'.len b) (w.setCells b at_ vs) (H.set o obj').length := by
  have hlt : o < H.length := lt_of_get ho
  refine heap_put hH (o := o) (b' := b) (by simp [hlt]) (fun o' ho' => by rw [List.getElem?_set]; simp [Ne.symm ho']) (by simp)
    (fun b1 h1 _ => heap_setCells_other vs h1) (.inr ⟨obj, ho, hb⟩) (sizeAt_setCells vs) (by rw [size_setCells]; exact Nat.le_refl _) (rest_setCells vs).1 (rest_setCells vs).2.1 (rest_setCells vs).2.2
    (fun x hx => ?_) hP hB (fun hgo => objRel_rows hr hs (upd_same ..) hB hP (hcells _ hgo.mu hgo.ext))
  rw [ho] at hx
  simp only [Option.some.injEq] at hx
  subst hx
  refine ⟨hlen, fun y hy => ?_⟩
  obtain ⟨obj2, g1, g2⟩ := hH.dom _ _ _ hy
  rw [ho] at g1
  simp only [Option.some.injEq] at g1
  subst g1
  have : obj'.len = obj.len := Nat.le_antisymm g2 hlen
  rw [this, hb] at hy
  simp only [Option.some.injEq] at hy
  exact hy.symm

/-- Rows of a block are read. -/
theorem run_loadCells_rows {b x s n : Nat} {rows : List (List AV)} (hs : 0 < s) (hrows : ∀ r, r ∈ rows → r.length = s) (hn : n ≤ rows.length)
    (hc : ∀ (i f : Nat) (r : List AV) (u : AV), rows[i]? = some r → r[f]? = some u → ∃ v, w.cell? ⟨b, x + i * s + f, none⟩ = some v ∧ v.oneCell' = true ∧ Rel Pb μ w u v) :
    ∃ vals, RowsRel Pb μ w s (rows.take n) vals ∧ ∀ (P : Program) (w' : World), Same w w' → (loadCells ⟨b, x, none⟩ (n * s)).run P w' = .ok vals w' := by
  let g : Nat → Value := fun p => (w.cell? ⟨b, x + p, none⟩).getD undef
  have hex : ∀ p, p < n * s → ∃ u v, (rows[p / s]?).bind (·[p % s]?) = some u ∧ w.cell? ⟨b, x + p, none⟩ = some v ∧ v.oneCell' = true ∧ Rel Pb μ w u v := by
    intro p hp
    have h1 : p / s < rows.length := Nat.lt_of_lt_of_le (Nat.div_lt_of_lt_mul (by rwa [Nat.mul_comm] at hp)) hn
    have h2 := List.getElem?_eq_getElem h1
    have h3 := hrows _ (List.mem_of_getElem? h2)
    have h4 : p % s < (rows[p / s]).length := by rw [h3]; exact Nat.mod_lt _ hs
    have h5 := List.getElem?_eq_getElem h4
    obtain ⟨v, q1, q2, q3⟩ := hc _ _ _ _ h2 h5
    refine ⟨_, v, by rw [h2]; exact h5, ?_, q2, q3⟩
    rw [← q1]
    have := Nat.div_add_mod p s
    rw [Nat.mul_comm] at this
    congr 2
    omega
  refine ⟨((List.range (n * s)).map g).toArray, ⟨?_, fun r hr => hrows r (List.mem_of_mem_take hr), fun i f r u hi hf => ?_⟩, fun P w' hw' => ?_⟩
  · simp [Nat.min_eq_left hn]
  · rw [List.getElem?_take] at hi
    split at hi
    · rename_i hin
      have hr := hrows r (List.mem_of_getElem? hi)
      have hfs : f < s := by have := lt_of_get hf; omega
      obtain ⟨v, q1, q2, q3⟩ := hc i f r u hi hf
      refine ⟨v, ?_, q2, q3⟩
      have hp : i * s + f < n * s := mul_lt_rows hin hfs
      simp [hp, g, ← Nat.add_assoc, q1]
    · cases hi
  · exact run_loadCells w' _ _ g fun j hj => by
      obtain ⟨u, v, _, h2, _, _⟩ := hex j hj
      rw [add_at, hw'.cell h2]
      simp [g, h2]
end
end Go.Proofs.Ytamhmfdbnlkmkaa

/- All quiet operations in one. -/
set_option linter.unusedVariables false
set_option linter.unusedSectionVars false
set_option linter.unusedSimpArgs false
namespace Go.Proofs.Ytamhmfdbnlkmkaa
open Go Go.RowKit
variable [Obs]

section
variable {C : Ctx} {Pb : Nat → Prop} {μ : Mu} {B0 : Nat} {w : World} {T : Look} {H : Heap} {a : Act}

theorem QOp.of_sym {o : Oper} {k : AV → Out} (hT : RelF Pb μ w T a.tmps) (hG : GlobRel C Pb μ w) (h : symOp C o T k) : QOp C Pb μ w a o k := by
  obtain ⟨r, v, h1, hr, h2⟩ := symOp_ok h hT hG
  exact ⟨r, v, h1, hr, fun w' _ => h2 w'⟩

theorem byteT_ok {r : List TC} {b : UInt8} (h : byteT r = some b) : r = [.sc (.int .u8 (b.toNat : Int))] := by
  unfold byteT at h
  split at h
  · rename_i n
    cases hc : decide (0 ≤ n) && decide (n < 256) with
    | false => rw [hc] at h; simp at h
    | true =>
      rw [hc] at h
      simp only [Bool.and_eq_true, decide_eq_true_eq] at hc
      simp only [cond_true, Option.some.injEq] at h
      subst h
      congr 2
      have : n.toNat.toUInt8.toNat = n.toNat := by
        rw [Nat.toUInt8, UInt8.toNat_ofNat']
        exact Nat.mod_eq_of_lt (by omega)
      rw [this]
      congr 1
      omega
  · cases h

/-- Bytes that lie one behind the other are a string. -/
theorem bytes_run {src dst e : TypeId} {el : List (List TC)} {l : List UInt8} {b off cap : Nat} (hl : mapO byteT el = some l) (hs : C.P.underlying src = some (.slice e)) (he : C.P.underlying e = some (.int .u8)) (hd : C.P.underlying dst = some .string)
    (hc : ∀ (i : Nat) (r : List TC) (c : TC), el[i]? = some r → r[0]? = some c → ∃ v, w.cell? ⟨b, off + i, none⟩ = some v ∧ Rel Pb μ w (.tc c) v) (w' : World) (hw : Same w w') :
    (convert src dst (.slice (some ⟨b, off, none⟩) el.length cap)).run C.P w' = .ok (.string ⟨l.toArray⟩) w' := by
  obtain ⟨m1, m2⟩ := mapO_ok hl
  rw [← m1]
  refine run_convert_bytes_back w' src dst e _ cap l hs he hd fun j hj => ?_
  have hje : j < el.length := by omega
  obtain ⟨y, p1, p2⟩ := m2 j _ (List.getElem?_eq_getElem hje)
  have hr := byteT_ok p2
  obtain ⟨v, g1, g2⟩ := hc j _ (.sc (.int .u8 (y.toNat : Int))) (List.getElem?_eq_getElem hje) (by rw [hr]; rfl)
  obtain rfl := g2.sc_eq
  rw [List.getElem?_eq_getElem hj] at p1
  simp only [Option.some.injEq] at p1
  rw [p1]
  have := hw.cell g1
  by_cases h0 : j = 0
  · subst h0; simpa [Addr.add] using this
  · simpa [Addr.add, h0] using this

theorem bytesStr_ok {src dst : TypeId} {x : AV} {u : Value} {k : AV → Out} (h : bytesStr C H src dst x k) (hx : Rel Pb μ w x u) (hH : HeapRel Pb μ B0 w H) :
    ∃ r v, k r ∧ Rel Pb μ w r v ∧ ∀ w', Same w w' → (convert src dst u).run C.P w' = .ok v w' := by
  unfold bytesStr at h
  split at h
  · rename_i ts td hts htd
    obtain ⟨_, _, hds, _⟩ := tinfo_ok hts
    obtain ⟨_, _, hdd, _⟩ := tinfo_ok htd
    split at h
    · rename_i e hu
      rw [hu] at hds
      split at h
      · rename_i te hte
        obtain ⟨_, _, hde, _⟩ := tinfo_ok hte
        obtain ⟨hcc, h⟩ := cond_false h
        simp only [Bool.and_eq_true] at hcc
        have h8 : te.under = .int .u8 := by
          have := hcc.1
          unfold isU8 at this
          split at this
          · assumption
          · cases this
        have hst : td.under = .string := by
          have := hcc.2
          unfold isStr at this
          split at this
          · assumption
          · cases this
        rw [h8] at hde
        rw [hst] at hdd
        split at h
        · rename_i l hl
          refine ⟨_, .string ⟨l.toArray⟩, h, Rel.of_sc .., ?_⟩
          unfold bytesOf at hl
          split at hl
          · rename_i s el
            cases hs1 : decide (s = 1) with
            | false => rw [hs1] at hl; simp at hl
            | true =>
              rw [hs1] at hl
              simp only [decide_eq_true_eq] at hs1
              subst hs1
              simp only [cond_true] at hl
              cases hx with
              | tc _ _ hx =>
                cases hx with
                | nil s =>
                  intro w' _
                  simp only [mapO, Option.some.injEq] at hl
                  subst hl
                  exact run_convert_bytes_nil w' src e hds hde 0 0 dst hdd
                | sl s b o cap el g h1 h2 h3 h4 h5 =>
                  intro w' hw'
                  refine bytes_run (Pb := Pb) (μ := μ) hl hds hde hdd (fun i r c hi hr => ?_) w' hw'
                  have := h4 i 0 r c hi hr
                  simp only [Nat.mul_one, Nat.add_zero] at this
                  exact ⟨_, this.1, .tc _ _ (h5 i 0 r c hi hr)⟩
          · rename_i o s i len cap ex ver
            split at hl
            · rename_i s' el ho
              cases hcx : decide (s = 1) && decide (s' = 1) && decide (ver = el.length) && decide (i + len ≤ el.length) with
              | false => rw [hcx] at hl; simp at hl
              | true =>
                rw [hcx] at hl
                simp only [Bool.and_eq_true, decide_eq_true_eq] at hcx
                obtain ⟨⟨⟨rfl, rfl⟩, rfl⟩, hle⟩ := hcx
                simp only [cond_true] at hl
                cases hx with
                | slice _ _ _ _ _ _ _ b off c hb q1 q2 q3 q4 q5 =>
                  obtain ⟨b', hb', _, _, hR⟩ := hH.obj o _ ho
                  rw [hb] at hb'
                  simp only [Option.some.injEq] at hb'
                  subst hb'
                  obtain ⟨_, cc, ty, fr, r2, _, _, r5⟩ := hR
                  have hlen : ((el.drop i).take len).length = len := by simp; omega
                  intro w' hw'
                  have := bytes_run (Pb := Pb) (μ := μ) (w := w) (b := b) (off := off) (cap := c) hl hds hde hdd (fun j r x hj hr => ?_) w' hw'
                  · rw [hlen] at this; exact this
                  · have hjl : j < len := by
                      rcases Nat.lt_or_ge j len with h | h
                      · exact h
                      · rw [List.getElem?_eq_none (by omega)] at hj; cases hj
                    have hoff : off = i * 1 := q5.resolve_left (by omega)
                    rw [List.getElem?_take_of_lt hjl, List.getElem?_drop] at hj
                    obtain ⟨v, g1, _, g3⟩ := r5 (i + j) 0 (tcs r) (.tc x) (by rw [List.getElem?_map, hj]; rfl) (by simp [tcs, hr])
                    refine ⟨v, ?_, g3⟩
                    simp only [World.cell?, r2]
                    rw [hoff]
                    simpa using g1
            · cases hl
          · cases hl
        · exact h.elim
      · exact h.elim
    · exact h.elim
  · exact h.elim

theorem qop_ok {o : Oper} {k : AV → Out} (h : qop C o T H k) (hT : RelF Pb μ w T a.tmps) (hH : HeapRel Pb μ B0 w H) (hG : GlobRel C Pb μ w) : QOp C Pb μ w a o k := by
  obtain ⟨dst, op, type, pos, after, guard⟩ := o
  cases op
  case move x => exact ⟨_, _, h, ev_ok hT hG x, fun w' _ => rfl⟩
  case assign x => exact ⟨_, _, h, ev_ok hT hG x, fun w' _ => rfl⟩
  case pick c x y =>
    simp only [qop] at h
    rcases condA_ok h (ev_ok hT hG c) with ⟨hv, hy⟩ | ⟨hv, hy⟩
    · exact ⟨_, _, hy, ev_ok hT hG x, fun w' _ => by simp [execOp, hv, asBool]⟩
    · exact ⟨_, _, hy, ev_ok hT hG y, fun w' _ => by simp [execOp, hv, asBool]⟩
  case convert src dst x =>
    simp only [qop] at h
    split at h
    · exact QOp.of_gen (fun cs b he => by cases he) hT hG h
    · exact QOp.of_sym hT hG h
    · exact QOp.of_sem rfl (bytesStr_ok h (ev_ok hT hG x) hH)
  case load t x =>
    simp only [qop] at h
    split at h
    · rename_i ti ht
      exact QOp.of_sem rfl (loadA_ok ht h (ev_ok hT hG x) hH)
    · exact h.elim
  case nilCheck x =>
    simp only [qop] at h
    have hx := ev_ok hT hG x
    split at h
    · rename_i o s i f ver he
      rw [he] at hx
      refine ⟨_, a.eval x, h, hx, fun w' _ => ?_⟩
      simp only [execOp]
      generalize a.eval x = u at hx ⊢
      cases hx with
      | ptr => rfl
    · rename_i s el i f he
      rw [he] at hx
      refine ⟨_, a.eval x, h, hx, fun w' _ => ?_⟩
      simp only [execOp]
      generalize a.eval x = u at hx ⊢
      cases hx with
      | vptr => rfl
    · rename_i fn first cap he
      rw [he] at hx
      split at h
      · rename_i g
        refine ⟨_, a.eval x, h, hx, fun w' _ => ?_⟩
        simp only [execOp]
        generalize a.eval x = u at hx ⊢
        cases hx with
        | func => rfl
      · exact h.elim
    · rename_i v he
      rw [he] at hx
      split at h
      · rename_i fn first cap
        split at h
        · rename_i g
          have hv := hx.sc_eq
          refine ⟨_, a.eval x, h, hx, fun w' _ => ?_⟩
          simp only [execOp, hv]
          rfl
        · exact h.elim
      · exact h.elim
    · exact h.elim
  case fieldAddr t x fd =>
    simp only [qop] at h
    split at h
    · rename_i ti ht
      exact QOp.of_sem rfl (fieldAddrA_ok ht h (ev_ok hT hG x))
    · exact h.elim
  case field t x fd =>
    simp only [qop] at h
    split at h
    · rename_i ti ht
      exact QOp.of_sem rfl (fieldA_ok ht h (ev_ok hT hG x))
    · exact h.elim
  case indexAddr t x i =>
    simp only [qop] at h
    split at h
    · rename_i ti ht
      split at h
      · rename_i e hu
        exact QOp.of_sem rfl (indexA_ok ht (.inl hu) h (ev_ok hT hG x) (ev_ok hT hG i))
      · rename_i n e hu
        exact QOp.of_sem rfl (indexA_ok ht (.inr ⟨n, hu⟩) h (ev_ok hT hG x) (ev_ok hT hG i))
      · exact h.elim
    · exact h.elim
  case slice t x lo hi mx =>
    simp only [qop] at h
    split at h
    · exact QOp.of_gen (by simp) hT hG h
    · exact QOp.of_sym hT hG h
    · split at h
      · rename_i ti ht
        split at h
        · rename_i e hu
          split at h
          · rename_i et hte
            exact QOp.of_sem rfl (sliceA_ok ht hu hte h (ev_ok hT hG x) (optRel_map hT hG lo) (optRel_map hT hG hi) (optRel_map hT hG mx))
          · exact h.elim
        · exact h.elim
      · exact h.elim
  case extract x i =>
    simp only [qop] at h
    have hx := ev_ok hT hG x
    split at h
    · rename_i vs he
      rw [he] at hx
      split at h
      · rename_i r hr
        generalize hu : a.eval x = u at hx
        cases hx with
        | tuple _ us hl hh =>
          obtain ⟨v, hv, hR⟩ := RelL.get ⟨hl, hh⟩ hr
          refine ⟨r, v, h, hR, fun w' _ => ?_⟩
          simp [execOp, hu, Instr.extract, hv]
      · exact h.elim
    · exact h.elim
  case makeFunc fn first cap =>
    simp only [qop] at h
    have h1 := relL_map hT hG first
    have h2 := relL_map hT hG cap
    exact ⟨_, _, h, .func fn _ _ _ _ h1.1 h2.1 h1.2 h2.2, fun w' _ => rfl⟩
  case binOp op t x y yt =>
    simp only [qop] at h
    have hx := ev_ok hT hG x
    have hy := ev_ok hT hG y
    split at h
    · rename_i e he
      obtain ⟨r, v, h1, h2, h3⟩ := aggOp_ok (ox := x) (oy := y) he h hx hy
      exact ⟨r, v, h1, h2, fun w' _ => by simp only [execOp]; rw [Sem.run_bind, h3 w']; rfl⟩
    split at h
    · exact QOp.of_gen (by simp) hT hG h
    · split at h
      · exact QOp.of_sym hT hG h
      split at h
      · rename_i ti ht
        obtain ⟨b, h1, h2, h3, h4, h5⟩ := eqNil_ok ht h hx hy
        refine ⟨_, .bool b, h1, Rel.of_sc .., fun w' _ => ?_⟩
        simp only [execOp, Sem.run_bind, eqGuard_nil w' h4, Result.andThen]
        have hb : binOp .eql t (a.eval x) (a.eval y) = (do pure (.bool (← Op.equal t (a.eval x) (a.eval y)))) := by
          generalize a.eval x = u at h4 ⊢
          generalize a.eval y = v at h5 ⊢
          cases u <;> simp [refV] at h4 <;> cases v <;> simp [nilV] at h5 <;> rfl
        rw [hb]
        simp [h2 w']
      · rename_i ti ht
        obtain ⟨b, h1, h2, h3, h4, h5⟩ := eqNil_ok ht h hx hy
        refine ⟨_, .bool (!b), h1, Rel.of_sc .., fun w' _ => ?_⟩
        simp only [execOp, Sem.run_bind, eqGuard_nil w' h4, Result.andThen]
        have hb : binOp .neq t (a.eval x) (a.eval y) = (do pure (.bool (!(← Op.equal t (a.eval x) (a.eval y))))) := by
          generalize a.eval x = u at h4 ⊢
          generalize a.eval y = v at h5 ⊢
          cases u <;> simp [refV] at h4 <;> cases v <;> simp [nilV] at h5 <;> rfl
        rw [hb]
        simp [h2 w']
      · exact h.elim
  case call c =>
    obtain ⟨callee, args, argTypes⟩ := c
    cases callee
    case builtin b =>
      have gen : genOk (.call { callee := .builtin b, args, argTypes }) = true → genOp C ⟨dst, .call { callee := .builtin b, args, argTypes }, type, pos, after, guard⟩ T k →
          QOp C Pb μ w a ⟨dst, .call { callee := .builtin b, args, argTypes }, type, pos, after, guard⟩ k := fun _ hg => QOp.of_gen (by simp) hT hG hg
      cases b
      case len =>
        simp only [qop] at h
        split at h
        · rename_i x hargs
          split at h
          · exact QOp.of_gen (by simp) hT hG h
          · exact QOp.of_sym hT hG h
          · split at h
            · rename_i t hts
              split at h
              · rename_i ti ht
                split at h
                · rename_i e hu
                  have ha : args = #[x] := by rw [← Array.toList_inj]; exact hargs
                  have hb : argTypes = #[t] := by rw [← Array.toList_inj]; exact hts
                  subst ha; subst hb
                  exact QOp.of_sem (s := Builtin.len_ #[t] type #[a.eval x]) (by simp [execOp, resolve, invoke, builtin]) (lenA_ok ht hu h (ev_ok hT hG x))
                · exact h.elim
              · exact h.elim
            · exact h.elim
        · exact h.elim
      case cap =>
        simp only [qop] at h
        split at h
        · rename_i x hargs
          split at h
          · exact QOp.of_gen (by simp) hT hG h
          · exact QOp.of_sym hT hG h
          · split at h
            · rename_i t hts
              split at h
              · rename_i ti ht
                split at h
                · rename_i e hu
                  have ha : args = #[x] := by rw [← Array.toList_inj]; exact hargs
                  have hb : argTypes = #[t] := by rw [← Array.toList_inj]; exact hts
                  subst ha; subst hb
                  exact QOp.of_sem (s := Builtin.cap_ #[t] type #[a.eval x]) (by simp [execOp, resolve, invoke, builtin]) (capA_ok ht hu h (ev_ok hT hG x))
                · exact h.elim
              · exact h.elim
            · exact h.elim
        · exact h.elim
      case min => exact gen rfl (by simpa [qop, genOk] using h)
      case max => exact gen rfl (by simpa [qop, genOk] using h)
      all_goals simp [qop, genOk] at h
    all_goals simp [qop, genOk] at h
  case unOp => exact QOp.of_gen (by simp) hT hG (by simpa [qop, genOk] using h)
  case index => exact QOp.of_gen (by simp) hT hG (by simpa [qop, genOk] using h)
  case makeInterface => exact QOp.of_gen (by simp) hT hG (by simpa [qop, genOk] using h)
  all_goals simp [qop, genOk] at h
end
end Go.Proofs.Ytamhmfdbnlkmkaa

/- Operations that make memory, or write. -/
set_option linter.unusedVariables false
set_option linter.unusedSectionVars false
set_option linter.unusedSimpArgs false
namespace Go.Proofs.Ytamhmfdbnlkmkaa
open Go Go.RowKit
variable [Obs]

section
variable {C : Ctx} {Pb : Nat → Prop} {μ : Mu} {B0 : Nat} {w : World} {T : Look} {H : Heap} {a : Act}

/-- What is told of an operation: a value, a heap, a world. -/
def HRes (C : Ctx) (Pb : Nat → Prop) (μ : Mu) (B0 : Nat) (w : World) (H : Heap) (k : AV → Heap → Out) (s : Sem Value) : Prop :=
  ∃ r H' v w' Pb' μ', k r H' ∧ s.run C.P w = .ok v w' ∧ Rel Pb' μ' w' r v ∧ HeapRel Pb' μ' B0 w' H' ∧ Goes Pb μ B0 w H.length Pb' μ' w' H'.length

theorem scs_all {l : List Value} : tcs (l.map TC.sc) = scs l := by simp [tcs, scs]

theorem zeroCellsA_ok {t : TypeId} {ti : TI} {z : List TC} (ht : tinfo C t = some ti) (hz : zeroCellsA ti = some z) :
    ∃ zv, (∀ w', (zeroValue t).run C.P w' = .ok zv w') ∧ RelL Pb μ w (tcs z) zv.cells ∧ z.length = zv.cells.size ∧ ti.zero = some zv := by
  obtain ⟨i, hi, hd, hs, _, hzz, _⟩ := tinfo_ok ht
  simp only [zeroCellsA, Option.map_eq_some_iff] at hz
  obtain ⟨zv, hzv, rfl⟩ := hz
  refine ⟨zv, fun w' => ?_, ?_, by simp, hzv⟩
  · simp [zeroValue, run_info hi, ← hzz, hzv]
  · rw [scs_all]; exact rel_scs ..

theorem all_one {cs : List AV} {vs : Array Value} (h : RelL Pb μ w cs vs) (hok : cs.all cellOk = true) : ∀ u, u ∈ vs → u.oneCell' = true := by
  intro u hu
  obtain ⟨i, hi, rfl⟩ := Array.mem_iff_getElem.1 hu
  have hl' : i < cs.length := by rw [h.1]; exact hi
  exact cellOk_one (List.all_eq_true.1 hok _ (List.getElem_mem hl')) (h.2 i _ _ (List.getElem?_eq_getElem hl') (Array.getElem?_eq_getElem hi))

theorem rowsRel_one {cs : List AV} {vs : Array Value} {s : Nat} (h : RelL Pb μ w cs vs) (hl : cs.length = s) (hok : ∀ u, u ∈ vs → u.oneCell' = true) : RowsRel Pb μ w s [cs] vs := by
  refine ⟨by rw [← h.1, hl]; simp, fun r hr => by simp at hr; rw [hr, hl], fun i f r x hi hf => ?_⟩
  cases i with
  | zero =>
    simp at hi
    subst hi
    obtain ⟨v, hv, hR⟩ := RelL.get h hf
    exact ⟨v, by simpa using hv, hok v (Array.mem_of_getElem? hv), hR⟩
  | succ i => simp at hi

/-- A new row in a new block. -/
theorem new_rows (hH : HeapRel Pb μ B0 w H) {rows : List (List AV)} {vals rest : Array Value} {s : Nat} (hR : RowsRel Pb μ w s rows vals) {obj : AObj} (hr : rowsOf obj = some rows) (hs : sizeOfObj obj = s)
    (hn : obj.len = rows.length) (w1 : World) (hw1 : w1.heap = w.heap ∧ w1.os = w.os ∧ w1.tape = w.tape ∧ w1.output = w.output) (ty : TypeId) :
    ∃ μ', HeapRel Pb μ' B0 (w1.alloc (.cells (vals ++ rest) ty)) (H ++ [obj]) ∧ Goes Pb μ B0 w H.length Pb μ' (w1.alloc (.cells (vals ++ rest) ty)) (H ++ [obj]).length ∧ μ' H.length rows.length = some w.heap.size ∧
      sizeAt (w1.alloc (.cells (vals ++ rest) ty)) w.heap.size (vals.size + rest.size) := by
  have := heap_new hH hr hs w1 hw1 (vals ++ rest) ty hR.rowl (by rw [Array.size_append, hR.len]; exact Nat.le_add_right _ _) (fun i f r x hi hf => by
    obtain ⟨v, h1, h2, h3⟩ := hR.cells i f r x hi hf
    refine ⟨v, ?_, h2, h3⟩
    rw [Array.getElem?_append_left]
    · exact h1
    · rcases Nat.lt_or_ge (i * s + f) vals.size with h | h
      · exact h
      · simp [Array.getElem?_eq_none h] at h1)
  refine ⟨_, this.1, this.2, by rw [← hn]; exact upd_same .., ?_⟩
  have hg := get_alloc_new w1 (.cells (vals ++ rest) ty)
  rw [hw1.1] at hg
  exact ⟨_, ty, (0, 0), hg, by simp⟩

theorem allocA_ok {t : TypeId} {ti : TI} {cs : List AV} {v : Value} {k : AV → Heap → Out} (ht : tinfo C t = some ti) (h : allocA ti cs H k) (hH : HeapRel Pb μ B0 w H)
    (hv : RelL Pb μ w cs v.cells) : HRes C Pb μ B0 w H k (do pure (.pointer (some (← newVar t v)))) := by
  unfold allocA at h
  have hcf := cond_false h; clear h; obtain ⟨hc, h⟩ := hcf
  simp only [Bool.and_eq_true, decide_eq_true_eq] at hc
  obtain ⟨⟨h1, h2⟩, h3⟩ := hc
  obtain ⟨e1, e2, e3⟩ := rows_newCells (s := ti.size) (el := [cs])
  obtain ⟨μ', g1, g2, g3, _⟩ := new_rows hH (rest := #[]) (rowsRel_one hv h1 (all_one hv h3)) e1 e2 e3 w ⟨rfl, rfl, rfl, rfl⟩ t
  refine ⟨_, _, .pointer (some ⟨w.heap.size, 0, none⟩), _, Pb, μ', h, ?_, ?_, g1, g2⟩
  · simp only [newVar, newRow, Sem.run_bind, run_newObj_alloc, Result.andThen, Sem.run_pure, Array.append_empty]
  · have := Rel.ptr (Pb := Pb) (μ := μ') (w := w.alloc (.cells (v.cells ++ #[]) t)) H.length ti.size 0 0 1 w.heap.size g3
    simpa using this

theorem newVar_run (P : Program) (t : TypeId) (v : Value) (w : World) : (newVar t v).run P w = .ok ⟨w.heap.size, 0, none⟩ (w.alloc (.cells v.cells t)) := rfl

theorem alloc_ok {t : TypeId} {ti : TI} {z : List TC} {k : AV → Heap → Out} (ht : tinfo C t = some ti) (hz : zeroCellsA ti = some z) (h : allocA ti (tcs z) H k) (hH : HeapRel Pb μ B0 w H) :
    HRes C Pb μ B0 w H k (Instr.alloc t true (.tuple #[])) := by
  obtain ⟨zv, h1, h2, _, _⟩ := zeroCellsA_ok (Pb := Pb) (μ := μ) (w := w) ht hz
  obtain ⟨r, H', v, w', Pb', μ', g1, g2, g3⟩ := allocA_ok ht h hH h2
  refine ⟨r, H', v, w', Pb', μ', g1, ?_, g3⟩
  simp only [Instr.alloc, Sem.run_bind, h1, Result.andThen] at g2 ⊢
  exact g2

theorem box_ok {t : TypeId} {ti : TI} {x : AV} {v : Value} {cs : List AV} {k : AV → Heap → Out} (ht : tinfo C t = some ti) (hx : Rel Pb μ w x v) (hcs : cellsOfA x = some cs) (h : allocA ti cs H k)
    (hH : HeapRel Pb μ B0 w H) : HRes C Pb μ B0 w H k (Instr.box t v) := allocA_ok ht h hH (cellsOfA_ok hcs hx)

/-! ### values built of parts -/

theorem fold_zip_list (off : Nat) : ∀ (l : List Value) (k : Nat) (cells : Array Value),
    (l.zipIdx k).foldl (fun cs (p : Value × Nat) => cs.setIfInBounds (off + p.2) p.1) cells = setR cells (off + k) l
  | [], _, _ => rfl
  | a :: l, k, cells => by simp only [List.zipIdx_cons, List.foldl_cons, setR]; rw [fold_zip_list off l (k + 1)]; rfl

theorem fold_zip (off : Nat) (vc cells : Array Value) : vc.zipIdx.foldl (fun cs (c, j) => cs.setIfInBounds (off + j) c) cells = setR cells off vc.toList := by
  rw [← Array.foldl_toList, Array.toList_zipIdx]
  exact fold_zip_list off vc.toList 0 cells

/-- A list of parts, as values. -/
def PartsRel (Pb : Nat → Prop) (μ : Mu) (w : World) (ps : List (Nat × AV)) (vs : List (Nat × Value)) : Prop :=
  ps.length = vs.length ∧ ∀ (i : Nat) (p : Nat × AV) (q : Nat × Value), ps[i]? = some p → vs[i]? = some q → p.1 = q.1 ∧ Rel Pb μ w p.2 q.2

theorem parts_rel (hT : RelF Pb μ w T a.tmps) (hG : GlobRel C Pb μ w) (ps : Array (Nat × Operand)) :
    PartsRel Pb μ w (ps.toList.map fun p => (p.1, ev C T p.2)) (ps.map fun (i, x) => (i, a.eval x)).toList := by
  refine ⟨by simp, fun i p q hp hq => ?_⟩
  simp only [List.getElem?_map, Option.map_eq_some_iff, Array.toList_map] at hp hq
  obtain ⟨x, hx, rfl⟩ := hp
  obtain ⟨y, hy, rfl⟩ := hq
  rw [hx] at hy
  simp only [Option.some.injEq] at hy
  subst hy
  exact ⟨rfl, ev_ok hT hG _⟩

theorem PartsRel.cons {ps : List (Nat × AV)} {p : Nat × AV} {vs : List (Nat × Value)} (h : PartsRel Pb μ w (p :: ps) vs) :
    ∃ q qs, vs = q :: qs ∧ p.1 = q.1 ∧ Rel Pb μ w p.2 q.2 ∧ PartsRel Pb μ w ps qs := by
  obtain ⟨h1, h2⟩ := h
  cases vs with
  | nil => simp at h1
  | cons q qs =>
    have h0 := h2 0 p q rfl rfl
    exact ⟨q, qs, rfl, h0.1, h0.2, by simpa using h1, fun i p q hp hq => h2 (i + 1) p q (by simpa using hp) (by simpa using hq)⟩

theorem fillA_ok {place : Nat → Option (Nat × Nat)} : ∀ {ps : List (Nat × AV)} {vs : List (Nat × Value)} {cs cs' : List AV} {cells : Array Value},
    fillA place cs ps = some cs' → PartsRel Pb μ w ps vs → RelL Pb μ w cs cells → ∃ cells', Instr.fill place cells vs = some cells' ∧ RelL Pb μ w cs' cells'
  | [], vs, cs, cs', cells, h, hp, hc => by
    have : vs = [] := List.length_eq_zero_iff.1 hp.1.symm
    subst this
    simp only [fillA, Option.some.injEq] at h
    subst h
    exact ⟨cells, rfl, hc⟩
  | (i, x) :: ps, vs, cs, cs', cells, h, hp, hc => by
    obtain ⟨q, qs, rfl, hi, hR, hps⟩ := hp.cons
    obtain ⟨j, v⟩ := q
    simp only at hi hR
    subst hi
    simp only [fillA] at h
    split at h
    · rename_i off size vc hpl hvc
      split at h
      · rename_i hcond
        obtain ⟨hl1, hl2⟩ := hcond
        have hrc := cellsOfA_ok hvc hR
        have hstep : RelL Pb μ w (setSpan cs off vc) (setR cells off v.cells.toList) := by
          have hin : off + v.cells.toList.length ≤ cells.size := by rw [Array.length_toList, ← hrc.1, ← hc.1]; omega
          refine ⟨by rw [setSpan_length (by omega), setR_size, hc.1], fun k y u hy hu => ?_⟩
          rw [setSpan_get (by omega)] at hy
          rw [setR_get _ _ _ _ hin, Array.length_toList, ← hrc.1] at hu
          split at hy
          · rename_i hk
            rw [if_pos hk, Array.getElem?_toList] at hu
            exact hrc.2 _ y u hy hu
          · rename_i hk
            rw [if_neg hk] at hu
            exact hc.2 k y u hy hu
        obtain ⟨cells', h1, h2⟩ := fillA_ok h hps hstep
        refine ⟨cells', ?_, h2⟩
        have hsz : v.cells.size = size := by rw [← hrc.1, hl1]
        simp only [Instr.fill, hpl, hsz, fold_zip]
        have hcc := hc.1
        rw [if_neg (by simp; omega)]
        exact h1
      · cases h
    · cases h

theorem mapM_places {P : Program} (fs : List Field) (w : World) (g : Field → Nat) (hg : ∀ f, f ∈ fs → (sizeOf f.type).run P w = .ok (g f) w) :
    (fs.mapM fun (f : Field) => (do pure (f.offset, ← sizeOf f.type) : Sem (Nat × Nat))).run P w = .ok (fs.map fun f => (f.offset, g f)) w := by
  induction fs with
  | nil => rfl
  | cons f fs ih =>
    simp only [List.mapM_cons, Sem.run_bind, hg f (by simp), Result.andThen, Sem.run_pure, ih (fun x hx => hg x (by simp [hx])), List.map_cons]

theorem build_ok {t : TypeId} {ti : TI} {ps : List (Nat × AV)} {vs : Array (Nat × Value)} {k : AV → Out} (ht : tinfo C t = some ti) (h : buildA C ti ps k) (hp : PartsRel Pb μ w ps vs.toList) :
    Quiet C Pb μ w k (Instr.build t vs) := by
  obtain ⟨i, hi, hd, _, _, _, _⟩ := tinfo_ok ht
  unfold buildA at h
  split at h
  · rename_i z fs hz hu
    rw [hu] at hd
    have hcf := cond_false h; clear h; obtain ⟨hc, h⟩ := hcf
    obtain ⟨zv, h1, h2, _, _⟩ := zeroCellsA_ok (Pb := Pb) (μ := μ) (w := w) ht hz
    split at h
    · rename_i cs hcs
      let g : Field → Nat := fun f => ((tinfo C f.type).map (·.size)).getD 0
      have hg : ∀ f, f ∈ fs.toList → ∀ w', (sizeOf f.type).run C.P w' = .ok (g f) w' := fun f hf w' => by
        have := List.all_eq_true.1 hc f hf
        obtain ⟨ft, hft⟩ := Option.isSome_iff_exists.1 this
        obtain ⟨ii, hii, _, hs, _⟩ := tinfo_ok hft
        simp only [g, hft, Option.map_some, Option.getD_some, hs]
        exact run_size hii w'
      have hplace : (fun (i : Nat) => (fs[i]?).bind fun (f : Field) => (tinfo C f.type).map fun ft => (f.offset, ft.size)) = fun (i : Nat) => ((fs.map fun f => (f.offset, g f))[i]? : Option (Nat × Nat)) := by
        funext i
        rw [Array.getElem?_map]
        cases hfi : fs[i]? with
        | none => rfl
        | some f =>
          have := List.all_eq_true.1 hc f (by simpa using Array.mem_of_getElem? hfi)
          obtain ⟨ft, hft⟩ := Option.isSome_iff_exists.1 this
          simp [g, hft]
      rw [hplace] at hcs
      obtain ⟨cells', g1, g2⟩ := fillA_ok hcs hp h2
      refine ⟨_, .agg cells', h, .agg _ _ g2.1 g2.2, fun w' _ => ?_⟩
      have hm : (fs.mapM fun (f : Field) => (do pure (f.offset, ← sizeOf f.type) : Sem (Nat × Nat))).run C.P w' = .ok (fs.map fun f => (f.offset, g f)) w' := by
        rw [Array.mapM_eq_mapM_toList]
        simp only [Sem.run_map, mapM_places fs.toList w' g (fun f hf => hg f hf w'), Result.andThen]
        congr 1
        apply Array.ext'
        simp
      simp only [Instr.build, Sem.run_bind, h1, Result.andThen, run_underlying hd, hm, g1, Sem.run_pure]
    · exact h.elim
  · rename_i z n e hz hu
    rw [hu] at hd
    obtain ⟨zv, h1, h2, _, _⟩ := zeroCellsA_ok (Pb := Pb) (μ := μ) (w := w) ht hz
    split at h
    · rename_i et hte
      obtain ⟨ie, hie, _, hse, _⟩ := tinfo_ok hte
      split at h
      · rename_i cs hcs
        obtain ⟨cells', g1, g2⟩ := fillA_ok hcs hp h2
        rw [hse] at g1
        refine ⟨_, .agg cells', h, .agg _ _ g2.1 g2.2, fun w' _ => ?_⟩
        simp only [Instr.build, Sem.run_bind, h1, Result.andThen, run_underlying hd, run_size hie, g1, Sem.run_pure]
      · exact h.elim
    · exact h.elim
  · exact h.elim
end
end Go.Proofs.Ytamhmfdbnlkmkaa

/- Operations that make memory, or write, further: slices, stores, maps. -/
set_option linter.unusedVariables false
set_option linter.unusedSectionVars false
set_option linter.unusedSimpArgs false
namespace Go.Proofs.Ytamhmfdbnlkmkaa
open Go Go.RowKit
variable [Obs]

section
variable {C : Ctx} {Pb : Nat → Prop} {μ : Mu} {B0 : Nat} {w : World} {T : Look} {H : Heap} {a : Act}

/-- One of the rows is another one. -/
theorem rowsRel_set {s i : Nat} {rows : List (List AV)} {vc : List AV} {vals : Array Value} {v : Array Value} (hR : RowsRel Pb μ w s rows vals) (hi : i < rows.length) (hl : vc.length = s)
    (hv : RelL Pb μ w vc v) (h1 : ∀ u, u ∈ v → u.oneCell' = true) : RowsRel Pb μ w s (rows.set i vc) (setR vals (i * s) v.toList) := by
  have hlen : v.toList.length = s := by rw [Array.length_toList, ← hv.1, hl]
  have hin : i * s + v.toList.length ≤ vals.size := by
    rw [hlen, hR.len]
    have := mul_le_rows (s := s) (show i + 1 ≤ rows.length from hi)
    rw [Nat.add_mul] at this
    omega
  refine ⟨by rw [setR_size, hR.len, List.length_set], fun r hr => ?_, fun j f r x hj hf => ?_⟩
  · rcases List.mem_or_eq_of_mem_set hr with h | h
    · exact hR.rowl r h
    · rw [h, hl]
  · rw [setR_get _ _ _ _ hin, hlen]
    rw [List.getElem?_set] at hj
    by_cases hij : i = j
    · subst hij
      simp only [if_true, hi, Option.some.injEq] at hj
      subst hj
      have hfs : f < s := by have := lt_of_get hf; omega
      rw [if_pos (by omega), show i * s + f - i * s = f by omega, Array.getElem?_toList]
      obtain ⟨u, hu, hRu⟩ := RelL.get hv hf
      exact ⟨u, hu, h1 u (Array.mem_of_getElem? hu), hRu⟩
    · simp only [hij, if_false] at hj
      obtain ⟨u, q1, q2, q3⟩ := hR.cells j f r x hj hf
      have hr := hR.rowl r (List.mem_of_getElem? hj)
      have hfs : f < s := by have := lt_of_get hf; omega
      have : ¬ (i * s ≤ j * s + f ∧ j * s + f < i * s + s) := by
        rcases Nat.lt_or_gt_of_ne hij with h | h
        · have := mul_le_rows (s := s) (show i + 1 ≤ j from h); rw [Nat.add_mul] at this; omega
        · have := mul_lt_rows h hfs; omega
      rw [if_neg this]
      exact ⟨u, q1, q2, q3⟩

theorem fillRows_ok {s : Nat} : ∀ {ps : List (Nat × AV)} {vs : List (Nat × Value)} {rows rows' : List (List AV)} {vals : Array Value},
    fillRows rows ps = some rows' → PartsRel Pb μ w ps vs → RowsRel Pb μ w s rows vals →
    ∃ vals', Instr.fill (fun i => some (i * s, s)) vals vs = some vals' ∧ RowsRel Pb μ w s rows' vals' ∧ rows'.length = rows.length
  | [], vs, rows, rows', vals, h, hp, hR => by
    have : vs = [] := List.length_eq_zero_iff.1 hp.1.symm
    subst this
    simp only [fillRows, Option.some.injEq] at h
    subst h
    exact ⟨vals, rfl, hR, rfl⟩
  | (i, x) :: ps, vs, rows, rows', vals, h, hp, hR => by
    obtain ⟨q, qs, rfl, hi, hRx, hps⟩ := hp.cons
    obtain ⟨j, v⟩ := q
    simp only at hi hRx
    subst hi
    simp only [fillRows] at h
    split at h
    · rename_i r vc hr hvc
      split at h
      · rename_i hcond
        obtain ⟨hl, hok⟩ := hcond
        have hil : i < rows.length := lt_of_get hr
        have hrs : r.length = s := hR.rowl r (List.mem_of_getElem? hr)
        have hrc := cellsOfA_ok hvc hRx
        obtain ⟨vals', h1, h2, h3⟩ := fillRows_ok h hps (rowsRel_set hR hil (by omega) hrc (all_one hrc hok))
        refine ⟨vals', ?_, h2, by rw [h3, List.length_set]⟩
        have hsz : v.cells.size = s := by rw [← hrc.1, hl, hrs]
        have hle : i * s + s ≤ vals.size := by
          rw [hR.len]
          have := mul_le_rows (s := s) (show i + 1 ≤ rows.length from hil)
          rw [Nat.add_mul] at this
          omega
        simp only [Instr.fill, hsz, fold_zip]
        rw [if_neg (by simp; omega)]
        exact h1
      · cases h
    · cases h

/-- Rows of zeros. -/
theorem zero_rows {z : List TC} {zv : Value} {s : Nat} (n : Nat) (hz : RelL Pb μ w (tcs z) zv.cells) (hl : z.length = s) (hs : s ≠ 0) (hok : (tcs z).all cellOk = true) :
    RowsRel Pb μ w s (List.replicate n (tcs z)) ((Array.range (n * s)).map (zv.cells[· % zv.cells.size]!)) := by
  have hsz : zv.cells.size = s := by rw [← hz.1, ← hl]; simp [tcs]
  refine ⟨by simp, fun r hr => ?_, fun i f r x hi hf => ?_⟩
  · rw [(List.mem_replicate.1 hr).2]; simp [tcs, hl]
  · rw [List.getElem?_replicate] at hi
    split at hi
    · rename_i hin
      simp only [Option.some.injEq] at hi
      subst hi
      have hfs : f < s := by have := lt_of_get hf; simpa [tcs, hl] using this
      obtain ⟨v, hv, hR⟩ := RelL.get hz hf
      have hp : i * s + f < n * s := mul_lt_rows hin hfs
      refine ⟨v, ?_, all_one hz hok v (Array.mem_of_getElem? hv), hR⟩
      rw [Array.getElem?_map, Array.getElem?_range, if_pos hp, Option.map_some, hsz]
      have : (i * s + f) % s = f := by rw [Nat.mul_comm, Nat.mul_add_mod]; exact Nat.mod_eq_of_lt hfs
      rw [this]
      simp [getElem!_def, hv]
    · cases hi

theorem buildSlice_ok {t : TypeId} {ti : TI} {n : Nat} {ps : List (Nat × AV)} {vs : Array (Nat × Value)} {k : AV → Heap → Out} (ht : tinfo C t = some ti) (h : buildSliceA C ti n ps H k)
    (hp : PartsRel Pb μ w ps vs.toList) (hH : HeapRel Pb μ B0 w H) : HRes C Pb μ B0 w H k (Instr.buildSlice t n vs) := by
  obtain ⟨i, hi, hd, _, _, _, _⟩ := tinfo_ok ht
  unfold buildSliceA at h
  split at h
  · rename_i e hu
    rw [hu] at hd
    split at h
    · rename_i et hte
      obtain ⟨ie, hie, _, hse, _⟩ := tinfo_ok hte
      split at h
      · rename_i z hz
        have hcf := cond_false h; clear h; obtain ⟨hc, h⟩ := hcf
        simp only [Bool.and_eq_true, decide_eq_true_eq] at hc
        obtain ⟨⟨⟨c1, c2⟩, c3⟩, c4⟩ := hc
        obtain ⟨zv, h1, h2, _, _⟩ := zeroCellsA_ok (Pb := Pb) (μ := μ) (w := w) hte hz
        split at h
        · rename_i rows hrows
          have hz0 := zero_rows n h2 c3 c2 c4
          obtain ⟨vals', g1, g2, g3⟩ := fillRows_ok hrows hp hz0
          obtain ⟨e1, e2, e3⟩ := rows_newCells (s := et.size) (el := rows)
          obtain ⟨μ', q1, q2, q3, q4⟩ := new_rows hH (rest := #[]) g2 e1 e2 e3 w ⟨rfl, rfl, rfl, rfl⟩ e
          rw [List.length_replicate] at g3
          rw [g3] at q3
          refine ⟨_, _, .slice (some ⟨w.heap.size, 0, none⟩) n n, _, Pb, μ', h, ?_, ?_, q1, q2⟩
          · have e0 : ∀ f : Nat → Value, (Array.range 0).map f = #[] := fun f => by simp
            simp only [Instr.buildSlice, Sem.run_bind, run_underlying hd, Result.andThen, run_size hie, ← hse]
            rw [if_neg (by omega)]
            by_cases h0 : n * et.size = 0
            · simp only [h0, e0] at g1
              simp only [h0, if_true, Sem.run_bind, Sem.run_pure, Result.andThen, e0, g1, newRow, run_newObj_alloc, Array.append_empty]
            · simp only [h0, if_false, Sem.run_bind, Sem.run_pure, Result.andThen, h1, g1, newRow, run_newObj_alloc, Array.append_empty]
          · simp only [Array.append_empty] at q3 ⊢
            refine .slice _ _ _ _ _ _ _ w.heap.size 0 n q3 (Nat.le_refl _) (Nat.le_refl _) (fun _ => rfl) ?_ (.inr (by simp))
            obtain ⟨cc, ty, fr, r1, r2⟩ := q4
            refine ⟨cc, ty, fr, by simpa using r1, ?_⟩
            rw [g2.len, g3] at r2
            simpa using r2
        · exact h.elim
      · exact h.elim
    · exact h.elim
  · exact h.elim

theorem i64_small {n : Int} (h0 : 0 ≤ n) (h1 : n < 2 ^ 63) : IntKind.i64.wrap n = n := by rw [IntKind.wrap_i64]; omega

theorem makeSlice_ok {t : TypeId} {ti : TI} {lx cx : AV} {lv cv : Value} {k : AV → Heap → Out} (ht : tinfo C t = some ti) (h : makeSliceA C ti lx cx H k)
    (hl : Rel Pb μ w lx lv) (hcx : Rel Pb μ w cx cv) (hH : HeapRel Pb μ B0 w H) : HRes C Pb μ B0 w H k (Instr.makeSlice t lv cv) := by
  obtain ⟨i, hi, hd, _, _, _, _⟩ := tinfo_ok ht
  unfold makeSliceA at h
  split at h
  · rename_i e l c hu hln hcn
    rw [hu] at hd
    obtain ⟨k1, rfl⟩ := intOf_ok hln hl
    obtain ⟨k2, rfl⟩ := intOf_ok hcn hcx
    split at h
    · rename_i et hte
      obtain ⟨ie, hie, _, hse, hbe, _⟩ := tinfo_ok hte
      split at h
      · rename_i z hz
        have hcf := cond_false h; clear h; obtain ⟨hc, h⟩ := hcf
        simp only [Bool.and_eq_true, decide_eq_true_eq] at hc
        obtain ⟨⟨⟨⟨⟨⟨c1, c2⟩, c3⟩, c4⟩, c5⟩, c6⟩, c7⟩ := hc
        obtain ⟨zv, h1, h2, _, _⟩ := zeroCellsA_ok (Pb := Pb) (μ := μ) (w := w) hte hz
        have hz0 := zero_rows c.toNat h2 c6 c5 c7
        obtain ⟨μ', q1, q2, q3, q4⟩ := new_rows hH (rest := #[]) hz0 (obj := .tcells et.size (List.replicate c.toNat z)) (by simp [rowsOf]) rfl (by simp [AObj.len]) w ⟨rfl, rfl, rfl, rfl⟩ e
        rw [List.length_replicate] at q3
        refine ⟨_, _, .slice (some ⟨w.heap.size, 0, none⟩) l.toNat c.toNat, _, Pb, μ', h, ?_, ?_, q1, q2⟩
        · have e0 : ∀ f : Nat → Value, (Array.range 0).map f = #[] := fun f => by simp
          have w1 := i64_small c1 (by omega)
          have w2 := i64_small (n := c) (by omega) c4
          simp only [Instr.makeSlice, Sem.run_bind, run_underlying hd, Result.andThen, asInt, asIntOf, Sem.run_pure, run_info hie, w1, w2]
          rw [if_neg (by rw [← hbe]; simp; omega)]
          simp only [Sem.run_bind, Sem.run_pure, Result.andThen, run_askRoom, run_size hie, ← hse]
          by_cases h0 : c.toNat * et.size = 0
          · simp only [h0, if_true, Sem.run_bind, Sem.run_pure, Result.andThen, e0, newRow, run_newObj_alloc, Array.append_empty]
          · simp only [h0, if_false, Sem.run_bind, Sem.run_pure, Result.andThen, h1, newRow, run_newObj_alloc, Array.append_empty]
        · simp only [Array.append_empty] at q3 ⊢
          refine .slice _ _ _ _ _ _ _ w.heap.size 0 c.toNat q3 (by omega) (Nat.le_refl _) (fun _ => rfl) ?_ (.inr (by simp))
          obtain ⟨cc, ty, fr, r1, r2⟩ := q4
          refine ⟨cc, ty, fr, by simpa using r1, ?_⟩
          simpa using r2
      · exact h.elim
    · exact h.elim
  · exact h.elim

theorem storeVar_run {t : TypeId} {ti : TI} (ht : tinfo C t = some ti) {v : Value} {b x : Nat} (hsz : v.cells.size = ti.size)
    (hc : ∀ j, j < v.cells.size → (w.cell? ⟨b, x + j, none⟩).isSome = true) (hf : ∀ j, j < v.cells.size → w.frozen? ⟨b, x + j, none⟩ = false) (h1 : ∀ u, u ∈ v.cells → u.oneCell' = true) :
    (storeVar t ⟨b, x, none⟩ v).run C.P w = .ok () (w.setCells b x v.cells.toList) := by
  obtain ⟨i, hi, hd, hs, _, _, _⟩ := tinfo_ok ht
  have := run_storeCells_cells (P := C.P) b x v.cells.toList 0 w (by simpa using hc) (by simpa using hf) (by simpa using h1)
  simp only [storeVar, Sem.run_bind, run_size hi, Result.andThen]
  rw [if_neg (by rw [hsz, hs]; simp)]
  simpa using this

theorem asTC_ok : ∀ {l : List AV} {t : List TC}, asTC l = some t → tcs t = l
  | [], t, h => by simp only [asTC, Option.some.injEq] at h; subst h; rfl
  | x :: r, t, h => by
    cases x with
    | tc c =>
      simp only [asTC, Option.map_eq_some_iff] at h
      obtain ⟨t', ht', rfl⟩ := h
      simp only [tcs, List.map_cons]
      rw [show t'.map AV.tc = r from asTC_ok ht']
    | _ => simp [asTC] at h

theorem tcs_setSpan (l c : List TC) (f : Nat) : tcs (setSpan l f c) = setSpan (tcs l) f (tcs c) := by simp [tcs, setSpan]

theorem storeA_ok {t : TypeId} {ti : TI} {x y : AV} {xv yv : Value} {k : Heap → Out} (ht : tinfo C t = some ti) (h : storeA ti x y H k) (hx : Rel Pb μ w x xv) (hy : Rel Pb μ w y yv) (hH : HeapRel Pb μ B0 w H) :
    ∃ H' w' Pb' μ', k H' ∧ (Instr.storeAt t xv yv).run C.P w = .ok () w' ∧ HeapRel Pb' μ' B0 w' H' ∧ Goes Pb μ B0 w H.length Pb' μ' w' H'.length := by
  unfold storeA at h
  split at h
  · rename_i o s i f ver cs hcs
    have hrc := cellsOfA_ok hcs hy
    cases hx with
    | ptr _ _ _ _ _ b hb =>
      -- one law for both kinds of objects
      have key : ∀ (obj obj' : AObj) (el : List (List AV)) (row : List AV), H[o]? = some obj → rowsOf obj = some el → sizeOfObj obj = s → ver = obj.len → cs.length = ti.size → cs.all cellOk = true →
          el[i]? = some row → f + cs.length ≤ row.length → rowsOf obj' = some (el.set i (setSpan row f cs)) → sizeOfObj obj' = s → obj'.len = obj.len → k (H.set o obj') →
          ∃ H' w' Pb' μ', k H' ∧ (Instr.storeAt t (.pointer (some ⟨b, i * s + f, none⟩)) yv).run C.P w = .ok () w' ∧ HeapRel Pb' μ' B0 w' H' ∧ Goes Pb μ B0 w H.length Pb' μ' w' H'.length := by
        intro obj obj' el row ho hr hs hver hcl hok hrow hfit hr' hs' hlen hk
        subst hver
        obtain ⟨_, b', hb', hB, hP, hR⟩ := (hH.obj o obj ho).rows hr
        rw [hb] at hb'
        simp only [Option.some.injEq] at hb'
        subst hb'
        rw [hs] at hR
        have hone := all_one hrc hok
        have := heap_write hH (at_ := i * s + f) (vs := yv.cells.toList) ho hb hB hP (by omega) hr' hs' (fun μ' hμ hext => store_cells hR hrow hfit hrc hone rfl (fun _ h => h) hμ hext)
        refine ⟨_, _, Pb, _, hk, ?_, this.1, this.2⟩
        obtain ⟨r1, c, ty, fr, r2, r3, r4, r5⟩ := hR
        have hrs : row.length = s := r1 row (List.mem_of_getElem? hrow)
        have hin : i * s + row.length ≤ c.size := by
          have := mul_le_rows (s := s) (show i + 1 ≤ el.length from lt_of_get hrow)
          rw [Nat.add_mul] at this
          omega
        have hcl' := hrc.1
        simp only [Instr.storeAt, Instr.sureAddr, Sem.run_bind, Sem.run_pure, Result.andThen]
        refine storeVar_run ht (by omega) (fun j hj => ?_) (fun j hj => r3 _ (by omega)) hone
        simp only [World.cell?, r2]
        have : i * s + f + j < c.size := by omega
        simp [this]
      split at h
      · rename_i s' el ho
        have hcf := cond_false h; clear h; obtain ⟨hc, h⟩ := hcf
        simp only [Bool.and_eq_true, decide_eq_true_eq] at hc
        obtain ⟨⟨⟨rfl, hver⟩, hcl⟩, hok⟩ := hc
        split at h
        · exact h.elim
        · rename_i row hrow
          have hcf := cond_false h; clear h; obtain ⟨hfit, h⟩ := hcf
          simp only [decide_eq_true_eq] at hfit
          have hrow' : (el.map tcs)[i]? = some (tcs row) := by rw [List.getElem?_map, hrow]; rfl
          split at h
          · rename_i c hcc
            have := asTC_ok hcc
            refine key _ (.tcells s' (el.set i (setSpan row f c))) _ (tcs row) ho rfl rfl hver hcl hok hrow' (by simpa [tcs] using hfit) ?_ rfl (by simp [AObj.len]) h
            simp only [rowsOf, List.map_set, tcs_setSpan, this]
          · exact key _ (.cells s' _) _ (tcs row) ho rfl rfl hver hcl hok hrow' (by simpa [tcs] using hfit) rfl rfl (by simp [AObj.len]) h
      · rename_i s' el ho
        have hcf := cond_false h; clear h; obtain ⟨hc, h⟩ := hcf
        simp only [Bool.and_eq_true, decide_eq_true_eq] at hc
        obtain ⟨⟨⟨rfl, hver⟩, hcl⟩, hok⟩ := hc
        split at h
        · exact h.elim
        · rename_i row hrow
          have hcf := cond_false h; clear h; obtain ⟨hfit, h⟩ := hcf
          simp only [decide_eq_true_eq] at hfit
          exact key _ (.cells s' _) _ row ho rfl rfl hver hcl hok hrow hfit rfl rfl (by simp [AObj.len]) h
      · exact h.elim
  · exact h.elim
end
end Go.Proofs.Ytamhmfdbnlkmkaa

/- Maps. -/
set_option linter.unusedVariables false
set_option linter.unusedSectionVars false
set_option linter.unusedSimpArgs false
namespace Go.Proofs.Ytamhmfdbnlkmkaa
open Go Go.RowKit
variable [Obs]

section
variable {C : Ctx} {Pb : Nat → Prop} {μ : Mu} {B0 : Nat} {w : World} {T : Look} {H : Heap} {a : Act}

/-- The heap law at an object that is a map: new, or written. -/
theorem heap_map (hH : HeapRel Pb μ B0 w H) {o b : Nat} {es : List (Value × AV)} {es' : Array MapEntry} {clock : Nat} {w' : World} {H' : Heap}
    (ho : H'[o]? = some (.map es)) (hother : ∀ o', o' ≠ o → H'[o']? = H[o']?) (hlen : H.length ≤ H'.length)
    (hb : w'.heap[b]? = some (.map es' clock)) (hblk : ∀ b', b' ≠ b → w'.heap[b']? = w.heap[b']?) (hsize : w.heap.size ≤ w'.heap.size)
    (hrest : w'.os = w.os ∧ w'.tape = w.tape ∧ w'.output = w.output)
    (hours : (w.heap.size ≤ b ∧ o = H.length) ∨ ∃ es0, H[o]? = some (.map es0) ∧ μ o 0 = some b) (hnc : ∀ c ty fr, w.heap[b]? ≠ some (.cells c ty fr))
    (hP : ¬ Pb b) (hB : B0 ≤ b) (hl : es.length = es'.size)
    (he : ∀ (i : Nat) (e : Value × AV) (e' : MapEntry), es[i]? = some e → es'[i]? = some e' → e'.key = e.1 ∧ Rel Pb μ w e.2 e'.val) :
    HeapRel Pb (upd μ o 0 b) B0 w' H' ∧ Goes Pb μ B0 w H.length Pb (upd μ o 0 b) w' H'.length := by
  have hsz : ∀ b' n, sizeAt w b' n → sizeAt w' b' n := by
    rintro b' n ⟨c, ty, fr, h1, h2⟩
    refine ⟨c, ty, fr, ?_, h2⟩
    rw [hblk b' ?_, h1]
    rintro rfl
    exact hnc _ _ _ h1
  refine heap_put hH (obj' := .map es) ho hother hlen (fun b1 h1 _ => hblk b1 h1) ?_ hsz hsize hrest.1 hrest.2.1 hrest.2.2 (fun x hx => ?_) hP hB (fun hgo => ?_)
  · rcases hours with h | ⟨es0, h1, h2⟩
    · exact .inl h.1
    · exact .inr ⟨_, h1, h2⟩
  · rcases hours with h | ⟨es0, h1, h2⟩
    · rw [h.2] at hx; simp at hx
    · rw [h1] at hx
      simp only [Option.some.injEq] at hx
      subst hx
      exact ⟨Nat.le_refl _, fun y hy => by
        have hy' : μ o 0 = some y := hy
        rw [h2] at hy'
        simp only [Option.some.injEq] at hy'
        exact hy'.symm⟩
  · refine ⟨b, upd_same .., hB, hP, es', clock, hb, hl, fun i e e' h1 h2 => ?_⟩
    obtain ⟨q1, q2⟩ := he i e e' h1 h2
    exact ⟨q1, q2.mono hgo.pb hgo.mu hgo.ext⟩

theorem makeMap_ok {t : TypeId} {k : AV → Heap → Out} (h : k (.map H.length) (H ++ [.map []])) (hH : HeapRel Pb μ B0 w H) : HRes C Pb μ B0 w H k (Instr.makeMap t none) := by
  have hnew : (w.alloc (.map #[] 0)).heap[w.heap.size]? = some (.map #[] 0) := get_alloc_new w _
  have := heap_map hH (o := H.length) (b := w.heap.size) (es := []) (es' := #[]) (clock := 0) (w' := w.alloc (.map #[] 0)) (H' := H ++ [.map []]) (by simp)
    (fun o' ho' => by
      rcases Nat.lt_or_ge o' H.length with h | h
      · rw [List.getElem?_append_left h]
      · rw [List.getElem?_eq_none h, List.getElem?_eq_none (by simp; omega)]) (by simp) hnew
    (fun b' hb' => by
      show (w.heap.push _)[b']? = _
      rw [Array.getElem?_push, if_neg hb']) (by simp) ⟨rfl, rfl, rfl⟩ (.inl ⟨Nat.le_refl _, rfl⟩) (fun c ty fr hh => by
      simp [Array.getElem?_eq_none (Nat.le_refl w.heap.size)] at hh) (fun hp => Nat.lt_irrefl _ (hH.pb _ hp)) hH.base rfl (fun i e e' h1 => by simp at h1)
  exact ⟨_, _, _, _, Pb, _, h, rfl, .map _ _ (upd_same ..), this.1, this.2⟩

theorem checkKey_scalar {P : Program} {kt : TypeId} {d : TypeDesc} {v : Value} (hd : P.underlying kt = some d) (h : scalarKey d v = true) (e : Bool) (n : Nat) (w : World) :
    (Instr.checkKey e (n + 1) kt v).run P w = .ok () w := by
  unfold Instr.checkKey
  simp only [Sem.run_bind, run_underlying hd, Result.andThen]
  cases d <;> cases v <;> simp_all [scalarKey]

theorem keyEq_same {d : TypeDesc} {kv q : Value} {b : Bool} (h : scalarKey d kv = true) (hk : keyEq kv q = some b) : Instr.sameNow d kv q = some b := by
  cases d <;> cases kv <;> simp_all [scalarKey] <;> cases q <;> simp_all [keyEq, Instr.sameNow]

theorem ba_beq (a b : ByteArray) : (a == b) = (a.data == b.data) := by
  cases a; cases b; rfl

theorem ba_beq_iff (a b : ByteArray) : (a == b) = true ↔ a = b := by
  rw [ba_beq, beq_iff_eq]
  constructor
  · intro h; cases a; cases b; simp at h; rw [h]
  · intro h; rw [h]

theorem keyEq_bits {kv q : Value} (hk : keyEq kv q = some true) (n : Nat) : Instr.sameBits n q kv = true := by
  cases kv <;> cases q <;> simp [keyEq] at hk <;> cases n <;> simp_all [Instr.sameBits, ba_beq_iff]

theorem findA_ok {d : TypeDesc} {kv : Value} (hs : scalarKey d kv = true) : ∀ {es : List (Value × AV)} {es' : List MapEntry} {i : Nat} {k : Option (Nat × AV) → Out}, findA kv es i k → es.length = es'.length →
    (∀ (i : Nat) (e : Value × AV) (e' : MapEntry), es[i]? = some e → es'[i]? = some e' → e'.key = e.1 ∧ Rel Pb μ w e.2 e'.val) →
    (k none ∧ Instr.findNow d kv es' i = some none) ∨
      ∃ j v v' q, k (some (i + j, v)) ∧ Instr.findNow d kv es' i = some (some (i + j, v')) ∧ Rel Pb μ w v v' ∧ j < es.length ∧ (es'[j]?).map (·.key) = some q ∧ keyEq kv q = some true
  | [], es', i, k, h, hl, _ => by
    have : es' = [] := List.length_eq_zero_iff.1 hl.symm
    subst this
    exact .inl ⟨h, rfl⟩
  | (q, v) :: r, es', i, k, h, hl, he => by
    cases es' with
    | nil => simp at hl
    | cons e' r' =>
      obtain ⟨h0, hR⟩ := he 0 (q, v) e' rfl rfl
      simp only at h0 hR
      simp only [findA] at h
      split at h
      · rename_i b hb
        have hsn := keyEq_same hs hb
        rcases cond_split h with ⟨rfl, h⟩ | ⟨rfl, h⟩
        · refine .inr ⟨0, v, e'.val, q, h, ?_, hR, by simp, by simp [h0], hb⟩
          simp [Instr.findNow, h0, hsn]
        · have hf : Instr.findNow d kv (e' :: r') i = Instr.findNow d kv r' (i + 1) := by simp [Instr.findNow, h0, hsn]
          rcases findA_ok hs h (by simpa using hl) (fun i e e' h1 h2 => he (i + 1) e e' (by simpa using h1) (by simpa using h2)) with ⟨h1, h2⟩ | ⟨j, v1, v', q', h1, h2, h3, h4, h5, h6⟩
          · exact .inl ⟨h1, by rw [hf]; exact h2⟩
          · refine .inr ⟨j + 1, v1, v', q', ?_, ?_, h3, by simp; exact h4, by simpa using h5, h6⟩
            · rw [show i + (j + 1) = i + 1 + j by omega]; exact h1
            · rw [hf, h2, show i + (j + 1) = i + 1 + j by omega]
      · exact h.elim

theorem run_findKey {P : Program} {kt : TypeId} {d : TypeDesc} {kv : Value} {es : List MapEntry} {r : Option (Nat × Value)} (hd : P.underlying kt = some d) (h : Instr.findNow d kv es 0 = some r) (w : World) :
    (Instr.findKey kt kv es).run P w = .ok r w := by
  simp [Instr.findKey, run_underlying hd, h]

theorem lookupA_ok {t : TypeId} {ti : TI} {m key : AV} {mv kv : Value} {ok : Bool} {k : AV → Out} (ht : tinfo C t = some ti) (h : lookupA C ti m key ok H k) (hm : Rel Pb μ w m mv) (hk : Rel Pb μ w key kv)
    (hH : HeapRel Pb μ B0 w H) : ∃ r v, k r ∧ Rel Pb μ w r v ∧ (Instr.lookup t mv kv ok).run C.P w = .ok v w := by
  obtain ⟨i, hi, hd, _, _, _, _⟩ := tinfo_ok ht
  unfold lookupA at h
  split at h
  · rename_i kt et kv' hu
    rw [hu] at hd
    obtain rfl := hk.sc_eq
    split at h
    · rename_i kti eti hkt het
      obtain ⟨ik, hik, hdk, _⟩ := tinfo_ok hkt
      have hcf := cond_false h; clear h; obtain ⟨hsc, h⟩ := hcf
      split at h
      · rename_i z hz
        obtain ⟨ie, hie, _, _, _, hze, _⟩ := tinfo_ok het
        have hzv : ∀ w', (zeroValue et).run C.P w' = .ok z w' := fun w' => by
          simp [zeroValue, run_info hie, ← hze, hz]
        have chk := fun (e : Bool) (n : Nat) (w' : World) => checkKey_scalar hdk hsc e n w'
        have fin : ∀ (es : List MapEntry), Instr.findNow kti.under kv es 0 = some none → lookDone ok z k none →
            ∃ r v, k r ∧ Rel Pb μ w r v ∧ (∀ {α : Type} (f : Value × Bool → Sem α), (do
              let x ← match ← Instr.findKey kt kv es with
                | some (_, v) => pure (v, true)
                | none => pure (← zeroValue et, false)
              f x : Sem α).run C.P w = (f (z, false)).run C.P w) ∧ v = (if ok then .tuple #[z, .bool false] else z) := fun es hf hkk => by
          cases ok with
          | true =>
            refine ⟨_, .tuple #[z, .bool false], hkk, .tuple _ _ rfl fun i x y hx hy => ?_, fun f => by simp [run_findKey hdk hf, hzv], rfl⟩
            match i with
            | 0 => simp at hx hy; subst hx; subst hy; exact rel_ofVal ..
            | 1 => simp at hx hy; subst hx; subst hy; exact Rel.of_sc ..
            | n + 2 => simp at hx
          | false => exact ⟨_, z, hkk, rel_ofVal .., fun f => by simp [run_findKey hdk hf, hzv], rfl⟩
        have fin2 : ∀ (es : List MapEntry) (j : Nat) (x : AV) (xv : Value), Instr.findNow kti.under kv es 0 = some (some (j, xv)) → Rel Pb μ w x xv → lookDone ok z k (some (j, x)) →
            ∃ r v, k r ∧ Rel Pb μ w r v ∧ (∀ {α : Type} (f : Value × Bool → Sem α), (do
              let x ← match ← Instr.findKey kt kv es with
                | some (_, v) => pure (v, true)
                | none => pure (← zeroValue et, false)
              f x : Sem α).run C.P w = (f (xv, true)).run C.P w) ∧ v = (if ok then .tuple #[xv, .bool true] else xv) := fun es j x xv hf hx hkk => by
          cases ok with
          | true =>
            refine ⟨_, .tuple #[xv, .bool true], hkk, .tuple _ _ rfl fun i p q hp hq => ?_, fun f => by simp [run_findKey hdk hf], rfl⟩
            match i with
            | 0 => simp at hp hq; subst hp; subst hq; exact hx
            | 1 => simp at hp hq; subst hp; subst hq; exact Rel.of_sc ..
            | n + 2 => simp at hp
          | false => exact ⟨_, xv, hkk, hx, fun f => by simp [run_findKey hdk hf], rfl⟩
        have look : ∀ (mm : Option Nat) (es : Array MapEntry) (x : Value × Bool), (mm = none ∧ es = #[] ∨ ∃ b clock, mm = some b ∧ w.heap[b]? = some (.map es clock)) →
            (∀ {α : Type} (f : Value × Bool → Sem α), (do
              let x ← match ← Instr.findKey kt kv es.toList with
                | some (_, v) => pure (v, true)
                | none => pure (← zeroValue et, false)
              f x : Sem α).run C.P w = (f x).run C.P w) → (Instr.lookup t (.map mm) kv ok).run C.P w = .ok (if ok then .tuple #[x.1, .bool x.2] else x.1) w := fun mm es x hmm hf => by
          rcases hmm with ⟨rfl, rfl⟩ | ⟨b, clock, rfl, hg⟩
          · simp only [Instr.lookup, Sem.run_bind, run_underlying hd, Result.andThen, Sem.run_pure]
            rw [chk _ 9999]
            have := hf (fun x => pure (if ok then .tuple #[x.1, .bool x.2] else x.1))
            simp only [Sem.run_bind, Sem.run_pure] at this
            exact this
          · simp only [Instr.lookup, Sem.run_bind, run_underlying hd, Result.andThen, MapKept.run_getObj_map hg, Sem.run_pure]
            rw [chk _ 9999]
            have := hf (fun x => pure (if ok then .tuple #[x.1, .bool x.2] else x.1))
            simp only [Sem.run_bind, Sem.run_pure] at this
            exact this
        unfold lookIn at h
        split at h
        · obtain rfl := hm.sc_eq
          obtain ⟨r, v, h1, h2, h3, h4⟩ := fin [] rfl h
          refine ⟨r, v, h1, h2, ?_⟩
          rw [h4]
          exact look none #[] (z, false) (.inl ⟨rfl, rfl⟩) h3
        · rename_i o
          cases hm with
          | map _ b hb =>
            split at h
            · rename_i es ho
              obtain ⟨b', hb', _, _, hM⟩ := hH.obj o _ ho
              rw [hb] at hb'
              simp only [Option.some.injEq] at hb'
              subst hb'
              obtain ⟨es', clock, hg, hl, he⟩ := hM
              rcases findA_ok (es' := es'.toList) hsc h (by simpa using hl) (fun i e e' h1 h2 => he i e e' h1 (by simpa using h2)) with ⟨h1, h2⟩ | ⟨j, v1, v', q, h1, h2, h3, _, _, _⟩
              · obtain ⟨r, v, g1, g2, g3, g4⟩ := fin _ h2 h1
                refine ⟨r, v, g1, g2, ?_⟩
                rw [g4]
                exact look (some b) es' (z, false) (.inr ⟨b, clock, rfl, hg⟩) g3
              · obtain ⟨r, v, g1, g2, g3, g4⟩ := fin2 _ _ v1 v' h2 h3 h1
                refine ⟨r, v, g1, g2, ?_⟩
                rw [g4]
                exact look (some b) es' (v', true) (.inr ⟨b, clock, rfl, hg⟩) g3
            · exact h.elim
        · exact h.elim
      · exact h.elim
    · exact h.elim
  · exact h.elim

theorem mapUpdateA_ok {t : TypeId} {ti : TI} {m key x : AV} {mv kv xv : Value} {k : Heap → Out} (ht : tinfo C t = some ti) (h : mapUpdateA C ti m key x H k) (hm : Rel Pb μ w m mv) (hk : Rel Pb μ w key kv) (hx : Rel Pb μ w x xv)
    (hH : HeapRel Pb μ B0 w H) : ∃ H' w' Pb' μ', k H' ∧ (Instr.mapUpdate t mv kv xv).run C.P w = .ok () w' ∧ HeapRel Pb' μ' B0 w' H' ∧ Goes Pb μ B0 w H.length Pb' μ' w' H'.length := by
  obtain ⟨i, hi, hd, _, _, _, _⟩ := tinfo_ok ht
  unfold mapUpdateA at h
  split at h
  · rename_i kt et kv' o hu
    rw [hu] at hd
    obtain rfl := hk.sc_eq
    cases hm with
    | map _ b hb =>
      split at h
      · rename_i kti es hkt ho
        obtain ⟨ik, hik, hdk, _⟩ := tinfo_ok hkt
        have hcf := cond_false h; clear h; obtain ⟨hsc, h⟩ := hcf
        obtain ⟨b', hb', hB, hP, hM⟩ := hH.obj o _ ho
        rw [hb] at hb'
        simp only [Option.some.injEq] at hb'
        subst hb'
        obtain ⟨es', clock, hg, hl, he⟩ := hM
        have hol : o < H.length := lt_of_get ho
        have hbl : b < w.heap.size := lt_of_heap hg
        have put : ∀ (es1 : List (Value × AV)) (es1' : Array MapEntry) (clock1 : Nat), es1.length = es1'.size →
            (∀ (i : Nat) (e : Value × AV) (e' : MapEntry), es1[i]? = some e → es1'[i]? = some e' → e'.key = e.1 ∧ Rel Pb μ w e.2 e'.val) →
            HeapRel Pb (upd μ o 0 b) B0 { w with heap := w.heap.setIfInBounds b (.map es1' clock1) } (H.set o (.map es1)) ∧
              Goes Pb μ B0 w H.length Pb (upd μ o 0 b) { w with heap := w.heap.setIfInBounds b (.map es1' clock1) } (H.set o (.map es1)).length := fun es1 es1' clock1 hl1 he1 =>
          heap_map hH (o := o) (b := b) (es := es1) (es' := es1') (clock := clock1) (by simp [hol]) (fun o' ho' => by rw [List.getElem?_set]; simp [Ne.symm ho']) (by simp)
            (by simp [hbl]) (fun b' hb' => by rw [Array.getElem?_setIfInBounds_ne (Ne.symm hb')]) (by simp) ⟨rfl, rfl, rfl⟩ (.inr ⟨es, ho, hb⟩) (fun c ty fr hh => by rw [hg] at hh; cases hh) hP hB hl1 he1
        rcases findA_ok (es' := es'.toList) hsc h (by simpa using hl) (fun i e e' h1 h2 => he i e e' h1 (by simpa using h2)) with ⟨h1, h2⟩ | ⟨j, v1, v', q, h1, h2, h3, h4, h5, h6⟩
        · have := put (es ++ [(kv, x)]) (es'.push { key := kv, val := xv, born := clock }) (clock + 1) (by simp [hl]) (fun i e e' g1 g2 => by
            rw [Array.getElem?_push] at g2
            by_cases hii : i = es'.size
            · rw [if_pos hii] at g2
              simp only [Option.some.injEq] at g2
              subst g2
              rw [hii, ← hl] at g1
              simp at g1
              subst g1
              exact ⟨rfl, hx⟩
            · rw [if_neg hii] at g2
              have : i < es.length := by
                rcases Nat.lt_or_ge i es'.size with hh | hh
                · omega
                · simp [Array.getElem?_eq_none hh] at g2
              rw [List.getElem?_append_left this] at g1
              exact he i e e' g1 g2)
          refine ⟨_, _, Pb, _, h1, ?_, this.1, this.2⟩
          simp only [Instr.mapUpdate, Sem.run_bind, run_underlying hdk, run_underlying hd, Result.andThen, MapKept.run_getObj_map hg]
          rw [checkKey_scalar hdk hsc false 9999]
          simp only [run_findKey hdk h2, MapKept.run_setObj_map _ hg]
        · simp only [Nat.zero_add] at h1 h2
          have := put (es.set j (kv, x)) (es'.modify j fun e => { e with key := kv, val := xv }) clock (by simp [hl]) (fun i e e' g1 g2 => by
            rw [Array.getElem?_modify] at g2
            rw [List.getElem?_set] at g1
            by_cases hij : j = i
            · subst hij
              simp only [if_true, h4, Option.some.injEq] at g1
              subst g1
              simp only [if_true, Option.map_eq_some_iff] at g2
              obtain ⟨e0, _, rfl⟩ := g2
              exact ⟨rfl, hx⟩
            · simp only [hij, if_false] at g1 g2
              exact he i e e' g1 g2)
          refine ⟨_, _, Pb, _, h1, ?_, this.1, this.2⟩
          have hq : ((es'[j]?).map (·.key)).getD kv = q := by
            rw [Array.getElem?_toList] at h5
            rw [h5]; rfl
          simp only [Instr.mapUpdate, Sem.run_bind, run_underlying hdk, run_underlying hd, Result.andThen, MapKept.run_getObj_map hg]
          rw [checkKey_scalar hdk hsc false 9999]
          simp only [run_findKey hdk h2, hq, Instr.keyThatStays, keyEq_bits h6, if_true]
          simp only [Sem.run_bind, Sem.run_pure, Result.andThen, MapKept.run_setObj_map _ hg]
      · exact h.elim
  · exact h.elim
end
end Go.Proofs.Ytamhmfdbnlkmkaa

