/- What becomes of the heap: an object is new, written, or made greater. -/
import Derived.Test.YtgpijioodocplaaSyQuiet3
import Derived.Laws.NewFold
import Derived.MapKept
set_option linter.unusedVariables false
set_option linter.unusedSectionVars false
set_option linter.unusedSimpArgs false
namespace Go.Proofs.Ytgpijioodocplaa
open Go Go.RowKit
variable [Obs]

def upd (μ : Mu) (o ver b : Nat) : Mu := fun o' v' => if o' = o ∧ v' = ver then some b else μ o' v'

theorem upd_same (μ : Mu) (o ver b : Nat) : upd μ o ver b o ver = some b := by simp [upd]

theorem upd_ne {μ : Mu} {o ver b o' v' : Nat} (h : o' ≠ o) : upd μ o ver b o' v' = μ o' v' := by simp [upd, h]

/-- How the state goes on. -/
structure Goes (Pb : Nat → Prop) (μ : Mu) (B0 : Nat) (w : World) (n : Nat) (Pb' : Nat → Prop) (μ' : Mu) (w' : World) (n' : Nat) : Prop where
  pb : ∀ b, Pb b → Pb' b
  mu : ∀ o ver b, μ o ver = some b → μ' o ver = some b
  ext : Ext Pb w w'
  below : Below B0 w w'
  len : n ≤ n'
  new : ∀ b, Pb' b → Pb b ∨ w.heap.size ≤ b

theorem Goes.refl (Pb : Nat → Prop) (μ : Mu) (B0 : Nat) (w : World) (n : Nat) : Goes Pb μ B0 w n Pb μ w n :=
  ⟨fun _ h => h, fun _ _ _ h => h, Ext.refl .., Below.refl .., Nat.le_refl _, fun _ h => .inl h⟩

theorem Goes.trans {Pb1 Pb2 Pb3 : Nat → Prop} {μ1 μ2 μ3 : Mu} {B0 : Nat} {w1 w2 w3 : World} {n1 n2 n3 : Nat} (h : Goes Pb1 μ1 B0 w1 n1 Pb2 μ2 w2 n2) (k : Goes Pb2 μ2 B0 w2 n2 Pb3 μ3 w3 n3) :
    Goes Pb1 μ1 B0 w1 n1 Pb3 μ3 w3 n3 :=
  ⟨fun b hb => k.pb b (h.pb b hb), fun o v b hb => k.mu o v b (h.mu o v b hb), h.ext.trans h.pb k.ext, h.below.trans k.below, Nat.le_trans h.len k.len, fun b hb => (k.new b hb).elim (h.new b) fun h2 => .inr (Nat.le_trans h.below.size h2)⟩

section
variable {C : Ctx} {Pb : Nat → Prop} {μ : Mu} {B0 : Nat} {w w' : World} {H H' : Heap}

theorem lt_of_get {α : Type} {l : List α} {i : Nat} {x : α} (h : l[i]? = some x) : i < l.length := by
  rcases Nat.lt_or_ge i l.length with h' | h'
  · exact h'
  · simp [List.getElem?_eq_none h'] at h

theorem lt_of_heap {w : World} {b : Nat} {x : Obj} (h : w.heap[b]? = some x) : b < w.heap.size := by
  rcases Nat.lt_or_ge b w.heap.size with h' | h'
  · exact h'
  · simp [Array.getElem?_eq_none h'] at h

/-- The one law: object o is new, or is changed; its block is b'. -/
theorem heap_put (hH : HeapRel Pb μ B0 w H) {o b' : Nat} {obj' : AObj}
    (ho : H'[o]? = some obj') (hother : ∀ o', o' ≠ o → H'[o']? = H[o']?) (hlen : H.length ≤ H'.length)
    (hblk : ∀ b, b ≠ b' → b < w.heap.size → w'.heap[b]? = w.heap[b]?)
    (hours : w.heap.size ≤ b' ∨ ∃ obj, H[o]? = some obj ∧ μ o obj.len = some b')
    (hsz : ∀ b n, sizeAt w b n → sizeAt w' b n) (hsize : w.heap.size ≤ w'.heap.size) (hos : w'.os = w.os) (htape : w'.tape = w.tape) (hout : w'.output = w.output)
    (hver : ∀ obj, H[o]? = some obj → obj.len ≤ obj'.len ∧ ∀ x, μ o obj'.len = some x → x = b')
    (hPb : ¬ Pb b') (hB : B0 ≤ b') (hobj : Goes Pb μ B0 w H.length Pb (upd μ o obj'.len b') w' H'.length → ObjRel Pb (upd μ o obj'.len b') B0 w' o obj') :
    HeapRel Pb (upd μ o obj'.len b') B0 w' H' ∧ Goes Pb μ B0 w H.length Pb (upd μ o obj'.len b') w' H'.length := by
  have hμ : ∀ o1 v1 b1, μ o1 v1 = some b1 → upd μ o obj'.len b' o1 v1 = some b1 := by
    intro o1 v1 b1 h1
    by_cases he : o1 = o ∧ v1 = obj'.len
    · obtain ⟨rfl, rfl⟩ := he
      obtain ⟨obj, hobj1, hv⟩ := hH.dom _ _ _ h1
      rw [upd_same, (hver obj hobj1).2 b1 h1]
    · simp only [upd, he, if_false]; exact h1
  have hext : Ext Pb w w' := ⟨fun b hb => hblk b (fun e => hPb (e ▸ hb)) (hH.pb b hb), hsz⟩
  have hbel : Below B0 w w' := ⟨hos, htape, hout, hsize, fun k hk => by
    have := hH.base
    exact hblk k (by omega) (by omega)⟩
  have hgo : Goes Pb μ B0 w H.length Pb (upd μ o obj'.len b') w' H'.length := ⟨fun _ h => h, hμ, hext, hbel, hlen, fun _ h => .inl h⟩
  refine ⟨⟨?_, ?_, ?_, ?_, Nat.le_trans hH.base hsize⟩, hgo⟩
  · intro o1 v1 b1 h1
    by_cases he : o1 = o
    · subst he
      refine ⟨obj', ho, ?_⟩
      by_cases hv : v1 = obj'.len
      · omega
      · simp only [upd, hv, and_false, if_false] at h1
        obtain ⟨obj, hg, hle⟩ := hH.dom _ _ _ h1
        exact Nat.le_trans hle (hver obj hg).1
    · rw [upd_ne he] at h1
      rw [hother o1 he]
      exact hH.dom _ _ _ h1
  · intro o1 x hx
    by_cases he : o1 = o
    · subst he
      rw [ho] at hx
      simp only [Option.some.injEq] at hx
      subst hx
      exact hobj hgo
    · rw [hother o1 he] at hx
      refine (hH.obj o1 x hx).mono (fun _ h => h) hμ hext fun b hb => ?_
      obtain ⟨b2, hb2, _, hnp, hlt⟩ := (hH.obj o1 x hx).block
      rw [hb] at hb2
      simp only [Option.some.injEq] at hb2
      subst hb2
      refine ⟨hnp, hblk b ?_ hlt⟩
      rintro rfl
      rcases hours with h | ⟨obj, hg, hm⟩
      · omega
      · exact he (hH.inj o1 o x obj b hx hg hb hm)
  · intro o1 o2 x1 x2 b h1 h2 m1 m2
    by_cases he1 : o1 = o <;> by_cases he2 : o2 = o
    · rw [he1, he2]
    · exfalso
      subst he1
      rw [ho] at h1
      simp only [Option.some.injEq] at h1
      subst h1
      rw [upd_same] at m1
      simp only [Option.some.injEq] at m1
      subst m1
      rw [hother o2 he2] at h2
      rw [upd_ne he2] at m2
      obtain ⟨b2, hb2, _, _, hlt⟩ := (hH.obj o2 x2 h2).block
      rw [m2] at hb2
      simp only [Option.some.injEq] at hb2
      subst hb2
      rcases hours with h | ⟨obj, hg, hm⟩
      · omega
      · exact he2 (hH.inj o2 o1 x2 obj b' h2 hg m2 hm)
    · exfalso
      subst he2
      rw [ho] at h2
      simp only [Option.some.injEq] at h2
      subst h2
      rw [upd_same] at m2
      simp only [Option.some.injEq] at m2
      subst m2
      rw [hother o1 he1] at h1
      rw [upd_ne he1] at m1
      obtain ⟨b2, hb2, _, _, hlt⟩ := (hH.obj o1 x1 h1).block
      rw [m1] at hb2
      simp only [Option.some.injEq] at hb2
      subst hb2
      rcases hours with h | ⟨obj, hg, hm⟩
      · omega
      · exact he1 (hH.inj o1 o2 x1 obj b' h1 hg m1 hm)
    · rw [hother o1 he1] at h1
      rw [hother o2 he2] at h2
      rw [upd_ne he1] at m1
      rw [upd_ne he2] at m2
      exact hH.inj o1 o2 x1 x2 b h1 h2 m1 m2
  · intro b hb
    exact Nat.lt_of_lt_of_le (hH.pb b hb) hsize

theorem frozen_new (w : World) (c : Array Value) (ty : TypeId) (off : Nat) : (w.alloc (.cells c ty)).frozen? ⟨w.heap.size, off, none⟩ = false := by
  have : (w.alloc (.cells c ty)).heap[w.heap.size]? = some (.cells c ty) := by show (w.heap.push _)[w.heap.size]? = _; simp
  simp only [World.frozen?, this]
  simp

theorem get_alloc_new (w : World) (x : Obj) : (w.alloc x).heap[w.heap.size]? = some x := by show (w.heap.push _)[w.heap.size]? = _; simp

theorem get_alloc_old {w : World} (x : Obj) {b : Nat} (h : b < w.heap.size) : (w.alloc x).heap[b]? = w.heap[b]? := Below.heap_alloc w x b h

theorem size_alloc_mono (w : World) (x : Obj) : ∀ b n, sizeAt w b n → sizeAt (w.alloc x) b n := by
  rintro b n ⟨c, ty, fr, h1, h2⟩
  exact ⟨c, ty, fr, by rw [get_alloc_old x (lt_of_heap h1)]; exact h1, h2⟩

/-- A draw. -/
def drewW (w : World) : World := { w with drawn := w.drawn + 1 }

/-- An object of rows, as rows of values. -/
theorem objRel_rows {μ' : Mu} {o b s : Nat} {obj : AObj} {el : List (List AV)} (hr : rowsOf obj = some el) (hs : sizeOfObj obj = s) (hb : μ' o obj.len = some b) (hB : B0 ≤ b) (hP : ¬ Pb b)
    (h : CellsRel Pb μ' w b s el) : ObjRel Pb μ' B0 w o obj := by
  cases obj with
  | tcells s' l => simp only [rowsOf, Option.some.injEq] at hr; subst hr; simp only [sizeOfObj] at hs; subst hs; exact ⟨b, hb, hB, hP, h⟩
  | cells s' l => simp only [rowsOf, Option.some.injEq] at hr; subst hr; simp only [sizeOfObj] at hs; subst hs; exact ⟨b, hb, hB, hP, h⟩
  | map es => simp [rowsOf] at hr

/-- A new block of rows: 'cells' lists them, with more behind. -/
theorem heap_new (hH : HeapRel Pb μ B0 w H) {obj : AObj} {el : List (List AV)} {s : Nat} (hr : rowsOf obj = some el) (hs : sizeOfObj obj = s) (w1 : World)
    (hw1 : w1.heap = w.heap ∧ w1.os = w.os ∧ w1.tape = w.tape ∧ w1.output = w.output) (c : Array Value) (ty : TypeId)
    (hrows : ∀ r, r ∈ el → r.length = s) (hsz : el.length * s ≤ c.size)
    (hc : ∀ (i f : Nat) (r : List AV) (x : AV), el[i]? = some r → r[f]? = some x → ∃ v, c[i * s + f]? = some v ∧ v.oneCell' = true ∧ Rel Pb μ w x v) :
    HeapRel Pb (upd μ H.length obj.len w.heap.size) B0 (w1.alloc (.cells c ty)) (H ++ [obj]) ∧
      Goes Pb μ B0 w H.length Pb (upd μ H.length obj.len w.heap.size) (w1.alloc (.cells c ty)) (H ++ [obj]).length := by
  obtain ⟨e1, e2, e3, e4⟩ := hw1
  have hold : ∀ b, b < w.heap.size → (w1.alloc (.cells c ty)).heap[b]? = w.heap[b]? := fun b hb => by
    rw [get_alloc_old _ (by rw [e1]; exact hb), e1]
  refine heap_put hH (o := H.length) (b' := w.heap.size) (by simp) (fun o' ho' => ?_) (by simp) (fun b _ hb => hold b hb) (.inl (Nat.le_refl _)) ?_ (by simp [e1]) e2 e3 e4 (fun x hx => by simp at hx) (fun hp => Nat.lt_irrefl _ (hH.pb _ hp)) hH.base (fun hgo => ?_)
  · rcases Nat.lt_or_ge o' H.length with h | h
    · rw [List.getElem?_append_left h]
    · rw [List.getElem?_eq_none h, List.getElem?_eq_none (by simp; omega)]
  · rintro b n ⟨c', ty', fr', h1, h2⟩
    exact ⟨c', ty', fr', by rw [hold b (lt_of_heap h1)]; exact h1, h2⟩
  · refine objRel_rows hr hs (upd_same ..) hH.base (fun hp => Nat.lt_irrefl _ (hH.pb _ hp)) ⟨hrows, c, ty, (0, 0), ?_, fun off _ => ?_, hsz, fun i f r x hi hf => ?_⟩
    · have := get_alloc_new w1 (.cells c ty)
      rwa [e1] at this
    · have := frozen_new w1 c ty off
      rwa [e1] at this
    · obtain ⟨v, h1, h2, h3⟩ := hc i f r x hi hf
      exact ⟨v, h1, h2, h3.mono hgo.pb hgo.mu hgo.ext⟩

theorem rows_newCells {s : Nat} {el : List (List AV)} : rowsOf (newCells s el) = some el ∧ sizeOfObj (newCells s el) = s ∧ (newCells s el).len = el.length := by
  unfold newCells
  split
  · rename_i t ht
    have key : ∀ {l : List AV} {t : List TC}, asTC l = some t → tcs t = l := by
      intro l
      induction l with
      | nil => intro t h; simp only [asTC, Option.some.injEq] at h; subst h; rfl
      | cons x r ih =>
        intro t h
        cases x with
        | tc c =>
          simp only [asTC, Option.map_eq_some_iff] at h
          obtain ⟨t', ht', rfl⟩ := h
          simp only [tcs, List.map_cons]
          rw [show t'.map AV.tc = r from ih ht']
        | _ => simp [asTC] at h
    obtain ⟨h1, h2⟩ := mapO_ok ht
    have e : t.map tcs = el := by
      apply List.ext_getElem?
      intro i
      cases hi : el[i]? with
      | none =>
        have : el.length ≤ i := by
          rcases Nat.lt_or_ge i el.length with h | h
          · rw [List.getElem?_eq_getElem h] at hi; cases hi
          · exact h
        rw [List.getElem?_eq_none (by simp; omega)]
      | some r =>
        obtain ⟨y, hy, hr⟩ := h2 i r hi
        rw [List.getElem?_map, hy, Option.map_some, key hr]
    exact ⟨by simp [rowsOf, e], rfl, h1⟩
  · exact ⟨rfl, rfl, rfl⟩

theorem cellOk_one {x : AV} {v : Value} (h : cellOk x = true) (hR : Rel Pb μ w x v) : v.oneCell' = true := by
  cases hR with
  | tc c v hR =>
    cases hR with
    | sc v => cases v <;> simp_all [cellOk, Value.oneCell']
    | sy t e => cases t <;> rfl
    | nil => rfl
    | sl => rfl
  | any => simp [cellOk] at h
  | agg => simp [cellOk] at h
  | tuple => simp [cellOk] at h
  | ptr => rfl
  | vptr => rfl
  | slice => rfl
  | map => rfl
  | func => rfl

/-- The cells of a value. -/
theorem cellsOfA_ok {x : AV} {v : Value} {cs : List AV} (h : cellsOfA x = some cs) (hR : Rel Pb μ w x v) : RelL Pb μ w cs v.cells := by
  have hone : ∀ {x : AV} {v : Value}, Rel Pb μ w x v → (∀ cs, v ≠ .agg cs) → RelL Pb μ w [x] v.cells := by
    intro x v hR hv
    have : v.cells = #[v] := by cases v <;> first | rfl | exact absurd rfl (hv _)
    rw [this]
    refine ⟨rfl, fun i a u hi hu => ?_⟩
    cases i with
    | zero => simp at hi hu; subst hi; subst hu; exact hR
    | succ i => simp at hi
  cases hR with
  | agg l vs hl hh => simp only [cellsOfA, Option.some.injEq] at h; subst h; exact ⟨hl, hh⟩
  | tuple => simp [cellsOfA] at h
  | any => simp [cellsOfA] at h
  | tc c _ hR =>
    have hn : ∀ cs, v ≠ .agg cs := fun cs hcs => by
      generalize hq : (Value.agg cs) = q at hcs
      subst hcs
      cases hR with
      | sc => subst hq; simp [cellsOfA] at h
      | sy t e => cases t <;> cases hq
      | nil => cases hq
      | sl => cases hq
    have hcs : cs = [.tc c] := by
      cases c with
      | sc u => cases hR; cases v <;> simp_all [cellsOfA]
      | sl => simp_all [cellsOfA]
      | sy => simp_all [cellsOfA]
    subst hcs
    exact hone (.tc _ _ hR) hn
  | ptr o s i f ver b h1 => simp only [cellsOfA, Option.some.injEq] at h; subst h; exact hone (.ptr o s i f ver b h1) (fun cs hcs => by cases hcs)
  | vptr s i f b off el g h1 h2 h3 h4 => simp only [cellsOfA, Option.some.injEq] at h; subst h; exact hone (.vptr s i f b off el g h1 h2 h3 h4) (fun cs hcs => by cases hcs)
  | slice o s i len cap ex ver b off c h0 h1 h2 h3 h4 h5 => simp only [cellsOfA, Option.some.injEq] at h; subst h; exact hone (.slice o s i len cap ex ver b off c h0 h1 h2 h3 h4 h5) (fun cs hcs => by cases hcs)
  | map o b h1 => simp only [cellsOfA, Option.some.injEq] at h; subst h; exact hone (.map o b h1) (fun cs hcs => by cases hcs)
  | func fn f c vf vc h1 h2 h3 h4 => simp only [cellsOfA, Option.some.injEq] at h; subst h; exact hone (.func fn f c vf vc h1 h2 h3 h4) (fun cs hcs => by cases hcs)
end
end Go.Proofs.Ytgpijioodocplaa
