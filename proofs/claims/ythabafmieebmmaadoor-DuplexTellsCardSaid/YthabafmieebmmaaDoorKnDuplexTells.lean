/- The law DuplexTells: each leaf of its runs is true. -/
import Derived.Test.YthabafmieebmmaaDoorKnDuplexTellsA
import Derived.Test.YthabafmieebmmaaDoorKnDuplexTellsB
import Derived.Test.YthabafmieebmmaaDoorKnDuplexTellsC
import Derived.Test.YthabafmieebmmaaDoorKnDuplexTellsD
set_option linter.unusedVariables false
set_option linter.unusedSimpArgs false
set_option maxRecDepth 100000
namespace Go.Proofs.YthabafmieebmmaaDoor
open Go Go.RowKit

/-- What is told, as variables. -/
structure TV where
  i : I7
  j : I7
  x : Int
  y : Int
  xa : Int
  xb : Int
  v41 : Int
  v42 : Int
  v43 : Int
  v44 : Int
  v45 : Int
  pa : Int
  sA : Bool
  sB : Bool
  sa : Bool
  sb : Bool
  kA : Bool
  kB : Bool
  ka : Bool
  kb : Bool

def tEnv (ρ : Env) (v : TV) : Env := { ρ with I := fun k => match k with | 23 => v.i.op | 24 => v.i.d | 25 => v.i.s | 26 => v.i.t | 27 => v.i.imm | 28 => v.j.op | 29 => v.j.d | 30 => v.j.s | 31 => v.j.t | 32 => v.j.imm | 33 => v.x | 34 => v.y | 35 => v.xa | 36 => v.xb | 41 => v.v41 | 42 => v.v42 | 43 => v.v43 | 44 => v.v44 | 45 => v.v45 | 46 => v.pa | k => ρ.I k, B := fun k => match k with | 37 => v.sA | 38 => v.sB | 39 => v.sa | 40 => v.sb | 47 => v.kA | 48 => v.kB | 49 => v.ka | 50 => v.kb | k => ρ.B k }
def tEnvA (ρ : Env) : Env := ⟨fun i => ρ.I (i + 1), fun i => ρ.B (i + 1), ρ.S, ρ.F⟩
def tEnvB (ρ : Env) : Env := ⟨fun i => ρ.I (i + 12), fun i => ρ.B (i + 12), ρ.S, ρ.F⟩

theorem store7 {x : Int} {i : I7} (h : inst7 x = some i) : CallsTo CA08 47 [inV i] (boolv (isSt i.op)) ∧ CallsTo CA08 49 [inV i] (boolv (isSt i.op)) := store_calls (iEnv_ok h)

/-- The number that is told, or nothing. -/
def numO (r : Option Int) : Int := match r with | some x => x | none => 0
theorem ofR_eq (r : Option Int) : ofR r = .tuple [u16v (numO r), boolv r.isSome] := by cases r <;> rfl
theorem ofR64_eq (r : Option Int) : ofR64 r = .tuple [i64v (numO r), boolv r.isSome] := by cases r <;> rfl
theorem numO_rng {ρ : Env} : 0 ≤ numO (of11 ρ) ∧ numO (of11 ρ) ≤ 20479 := by
  cases h : of11 ρ with
  | none => exact ⟨by decide, by decide⟩
  | some x => exact (sub_inst7 h).2

theorem tA_facts {ρ : Env} (hf : FactsOk ρ duplexTells_facts) : FactsOk (tEnvA ρ) inF ∧ FactsOk (tEnvB ρ) inF := by
  constructor
  · intro p hp
    simp only [inF, rightF, List.mem_cons, List.not_mem_nil, or_false] at hp
    have key : ∀ (op : BinOp) (i : Nat) (n : Int), ((.cmp op (.var (i + 1)) (.lit n), true) : Sx × Bool) ∈ duplexTells_facts → (den (tEnvA ρ) (.cmp op (.var i) (.lit n))).b = true := fun op i n hm => hf _ hm
    rcases hp with rfl | rfl | rfl | rfl | rfl | rfl | rfl | rfl | rfl | rfl | rfl | rfl | rfl | rfl | rfl | rfl | rfl | rfl
    all_goals exact key _ _ _ (by simp [duplexTells_facts])
  · intro p hp
    simp only [inF, rightF, List.mem_cons, List.not_mem_nil, or_false] at hp
    have key : ∀ (op : BinOp) (i : Nat) (n : Int), ((.cmp op (.var (i + 12)) (.lit n), true) : Sx × Bool) ∈ duplexTells_facts → (den (tEnvB ρ) (.cmp op (.var i) (.lit n))).b = true := fun op i n hm => hf _ hm
    rcases hp with rfl | rfl | rfl | rfl | rfl | rfl | rfl | rfl | rfl | rfl | rfl | rfl | rfl | rfl | rfl | rfl | rfl | rfl
    all_goals exact key _ _ _ (by simp [duplexTells_facts])

theorem duplexTells_calls {ρ : Env} (hf : FactsOk ρ duplexTells_facts) : CallsTo CA08 6 (concs ρ duplexTells_args) (.sc (.bool true)) := by
  obtain ⟨ha, hb⟩ := tA_facts hf
  have oa := (sub_of ha).dup
  have ob := (sub_of hb).dup
  have ra := (ref_of ha).dup
  have rb := (ref_of hb).dup
  rw [ofR_eq] at oa ob
  rw [ofR64_eq] at ra rb
  obtain ⟨sa, qa⟩ := store_calls ha
  obtain ⟨sb, qb⟩ := store_calls hb
  obtain ⟨xa0, xa1⟩ := numO_rng (ρ := tEnvA ρ)
  obtain ⟨xb0, xb1⟩ := numO_rng (ρ := tEnvB ρ)
  generalize hxa : numO (of11 (tEnvA ρ)) = xa at *
  generalize hxb : numO (of11 (tEnvB ρ)) = xb at *
  have v1 := word_calls xa0 xb0 (by omega) (by omega)
  have v2 := word_calls xb0 xa0 (by omega) (by omega)
  have j1 := join_calls xa0 xb0 (by omega) (by omega)
  have j2 := join_calls xb0 xa0 (by omega) (by omega)
  have h0 : 0 ≤ ρ.I 0 := of_decide_eq_true (hf (.cmp .geq (.var 0) (.lit 0), true) (by simp [duplexTells_facts]))
  have h1 : ρ.I 0 ≤ 4294967295 := of_decide_eq_true (hf (.cmp .leq (.var 0) (.lit 4294967295), true) (by simp [duplexTells_facts]))
  obtain ⟨v44, v45, pa1⟩ := parts_calls h0 h1
  have th1 := thirty_calls h0 h1
  have hv := halves_calls h0 h1
  have ht0 : 0 ≤ thirty (ρ.I 0) ∧ thirty (ρ.I 0) ≤ 1073741823 := by unfold thirty; omega
  obtain ⟨x, hx⟩ : ∃ x, thirty (ρ.I 0) / 32768 = x := ⟨_, rfl⟩
  obtain ⟨y, hy⟩ : ∃ y, thirty (ρ.I 0) % 32768 = y := ⟨_, rfl⟩
  have x0 : 0 ≤ x := by omega
  have x1 : x ≤ 32767 := by omega
  have y0 : 0 ≤ y := by omega
  have y1 : y ≤ 32767 := by omega
  have ht : thirty (ρ.I 0) = x * 32768 + y := by omega
  rw [hx, hy] at hv
  rw [ht] at th1
  obtain ⟨ix, rx⟩ := sub_inst (s := x) x0 (by omega)
  obtain ⟨iy, ry⟩ := sub_inst (s := y) y0 (by omega)
  have ix := ix.dup
  have iy := iy.dup
  have rx := rx.dup
  have ry := ry.dup
  let V (i j : I7) (v41 : Int) (kA kB : Bool) : TV := ⟨i, j, x, y, xa, xb, v41, wrd xa xb, wrd xb xa, v44, v45, ρ.I 0 / 16384 % 4, isSt i.op, isSt j.op, isSt (ρ.I 1), isSt (ρ.I 12), kA, kB, (of11 (tEnvA ρ)).isSome, (of11 (tEnvB ρ)).isSome⟩
  have fF : ∀ i j v41 kA kB, FactsOk (tEnv ρ (V i j v41 kA kB)) tF := fun i j v41 kA kB p hp => by
    rcases List.mem_append.1 hp with hp | hp
    · simp only [tR, List.mem_cons, List.not_mem_nil, or_false] at hp
      rcases hp with rfl | rfl | rfl | rfl | rfl | rfl | rfl | rfl
      · exact decide_eq_true x0
      · exact decide_eq_true x1
      · exact decide_eq_true y0
      · exact decide_eq_true y1
      · exact decide_eq_true xa0
      · exact decide_eq_true xa1
      · exact decide_eq_true xb0
      · exact decide_eq_true xb1
    · have := hf p hp
      simp only [duplexTells_facts, List.mem_cons, List.not_mem_nil, or_false] at hp
      rcases hp with rfl | rfl | rfl | rfl | rfl | rfl | rfl | rfl | rfl | rfl | rfl | rfl | rfl | rfl | rfl | rfl | rfl | rfl | rfl | rfl | rfl | rfl | rfl | rfl | rfl | rfl | rfl | rfl | rfl | rfl | rfl | rfl | rfl | rfl | rfl | rfl | rfl | rfl <;> exact this
  have eAr : ∀ v, concs ρ duplexTells_args = concs (tEnv ρ v) duplexTells_args := fun _ => rfl
  have d1 : ∀ i j v41 kA kB, conc (tEnv ρ (V i j v41 kA kB)) tSum = u32v (x * 32768 + y) := fun i j v41 kA kB => by
    have : (den (tEnv ρ (V i j v41 kA kB)) (addE (mulE (.var 33) 32768) (.var 34))).i = x * 32768 + y := den_addW (den_mulW (n := 32768) (rfl : (den (tEnv ρ (V i j v41 kA kB)) (.var 33)).i = x) (by omega) (by omega)) (rfl : (den (tEnv ρ (V i j v41 kA kB)) (.var 34)).i = y) (by omega) (by omega)
    simp only [tSum, conc, concT, STy.val, this]
  -- what is told in each case
  have base : ∀ (i j : I7) (v41 : Int) (kA kB : Bool) (of_ st wd : List (List AV × AV)), (∀ q ∈ of_, CallsTo CA08 21 (concs (tEnv ρ (V i j v41 kA kB)) q.1) (conc (tEnv ρ (V i j v41 kA kB)) q.2)) →
      (∀ q ∈ st, CallsTo CA08 47 (concs (tEnv ρ (V i j v41 kA kB)) q.1) (conc (tEnv ρ (V i j v41 kA kB)) q.2) ∧ CallsTo CA08 49 (concs (tEnv ρ (V i j v41 kA kB)) q.1) (conc (tEnv ρ (V i j v41 kA kB)) q.2)) →
      (∀ q ∈ wd, CallsTo CA08 50 (concs (tEnv ρ (V i j v41 kA kB)) q.1) (conc (tEnv ρ (V i j v41 kA kB)) q.2)) →
      ∀ p ∈ tBase of_ st wd, ∀ q ∈ p.2, CallsTo CA08 p.1 (concs (tEnv ρ (V i j v41 kA kB)) q.1) (conc (tEnv ρ (V i j v41 kA kB)) q.2) := fun i j v41 kA kB of_ st wd g1 g2 g3 p hp q hq => by
    simp only [tBase, List.mem_cons, List.not_mem_nil, or_false] at hp
    rcases hp with rfl | rfl | rfl | rfl | rfl | rfl
    · rcases List.mem_append.1 hq with hq | hq
      · simp only [tOf, List.mem_cons, List.not_mem_nil, or_false] at hq
        rcases hq with rfl | rfl
        · exact oa
        · exact ob
      · exact g1 q hq
    · simp only [tRef, List.mem_cons, List.not_mem_nil, or_false] at hq
      rcases hq with rfl | rfl
      · exact ra
      · exact rb
    · rcases List.mem_append.1 hq with hq | hq
      · simp only [tSt, List.mem_cons, List.not_mem_nil, or_false] at hq
        rcases hq with rfl | rfl
        · exact sa
        · exact sb
      · exact (g2 q hq).1
    · rcases List.mem_append.1 hq with hq | hq
      · simp only [tSt, List.mem_cons, List.not_mem_nil, or_false] at hq
        rcases hq with rfl | rfl
        · exact qa
        · exact qb
      · exact (g2 q hq).2
    · rcases List.mem_append.1 hq with hq | hq
      · simp only [tWd, List.mem_cons, List.not_mem_nil, or_false] at hq
        rcases hq with rfl | rfl
        · exact v1
        · exact v2
      · exact g3 q hq
    · simp only [tJn, List.mem_cons, List.not_mem_nil, or_false] at hq
      rcases hq with rfl | rfl
      · exact j1
      · exact j2
  have half : ∀ (i j : I7) (v41 : Int) (kA kB : Bool) (a b oka okb : AV) (yv : Nat) (p_ : AV), CallsTo CA08 48 [u32v (ρ.I 0)] (conc (tEnv ρ (V i j v41 kA kB)) (.tuple [i64E (.var 33), i64E (.var yv), p_])) →
      inR7 x = conc (tEnv ρ (V i j v41 kA kB)) (.tuple [a, oka]) → inR7 y = conc (tEnv ρ (V i j v41 kA kB)) (.tuple [b, okb]) →
      ∀ p ∈ tHalf (tInA a oka) (tInB b okb) yv p_, ∀ q ∈ p.2, CallsTo CA08 p.1 (concs (tEnv ρ (V i j v41 kA kB)) q.1) (conc (tEnv ρ (V i j v41 kA kB)) q.2) := fun i j v41 kA kB a b oka okb yv p_ g0 g1 g2 p hp q hq => by
    simp only [tHalf, List.mem_cons, List.not_mem_nil, or_false] at hp
    rcases hp with rfl | rfl | rfl | rfl
    · simp only [List.mem_cons, List.not_mem_nil, or_false] at hq
      subst hq
      exact g0
    · simp only [List.mem_cons, List.not_mem_nil, or_false] at hq
      rcases hq with rfl | rfl
      · show CallsTo CA08 _ _ (conc _ (.tuple [a, oka]))
        rw [← g1]; exact rx
      · show CallsTo CA08 _ _ (conc _ (.tuple [b, okb]))
        rw [← g2]; exact ry
    · simp only [List.mem_cons, List.not_mem_nil, or_false] at hq
      rcases hq with rfl | rfl
      · show CallsTo CA08 _ _ (conc _ (.tuple [a, oka]))
        rw [← g1]; exact ix
      · show CallsTo CA08 _ _ (conc _ (.tuple [b, okb]))
        rw [← g2]; exact iy
    · simp only [List.mem_cons, List.not_mem_nil, or_false] at hq
      subst hq
      show CallsTo CA08 _ _ (conc _ tSum)
      rw [d1]
      exact th1
  have all : ∀ (i j : I7) (v41 : Int) (kA kB : Bool) (l1 l2 l3 : Tabs), (∀ p ∈ l1, ∀ q ∈ p.2, CallsTo CA08 p.1 (concs (tEnv ρ (V i j v41 kA kB)) q.1) (conc (tEnv ρ (V i j v41 kA kB)) q.2)) → (∀ p ∈ l2, ∀ q ∈ p.2, CallsTo CA08 p.1 (concs (tEnv ρ (V i j v41 kA kB)) q.1) (conc (tEnv ρ (V i j v41 kA kB)) q.2)) →
      (∀ p ∈ l3, ∀ q ∈ p.2, CallsTo CA08 p.1 (concs (tEnv ρ (V i j v41 kA kB)) q.1) (conc (tEnv ρ (V i j v41 kA kB)) q.2)) → ∀ p ∈ l1 ++ l2 ++ l3, ∀ q ∈ p.2, CallsTo CA08 p.1 (concs (tEnv ρ (V i j v41 kA kB)) q.1) (conc (tEnv ρ (V i j v41 kA kB)) q.2) := fun i j v41 kA kB l1 l2 l3 g1 g2 g3 p hp => by
    rcases List.mem_append.1 hp with hp | hp
    · rcases List.mem_append.1 hp with hp | hp
      · exact g1 p hp
      · exact g2 p hp
    · exact g3 p hp
  have par : ∀ (i j : I7) (v41 : Int) (kA kB : Bool) (p_ : AV), conc (tEnv ρ (V i j v41 kA kB)) p_ = u8v (ρ.I 0 / 16384 % 4) → ∀ p ∈ tParts p_, ∀ q ∈ p.2, CallsTo CA08 p.1 (concs (tEnv ρ (V i j v41 kA kB)) q.1) (conc (tEnv ρ (V i j v41 kA kB)) q.2) := fun i j v41 kA kB p_ g p hp q hq => by
    simp only [tParts, List.mem_cons, List.not_mem_nil, or_false] at hp
    subst hp
    simp only [List.mem_cons, List.not_mem_nil, or_false] at hq
    subst hq
    have e : conc (tEnv ρ (V i j v41 kA kB)) (.tuple [u8E (.var 44), u32E (.var 45), p_]) = .tuple [u8v v44, u32v v45, conc (tEnv ρ (V i j v41 kA kB)) p_] := rfl
    show CallsTo CA08 _ _ (conc _ (.tuple [u8E (.var 44), u32E (.var 45), p_]))
    rw [e, g]
    exact pa1
  have noE : ∀ {f : FuncId} {i j : I7} {v41 : Int} {kA kB : Bool}, ∀ q ∈ ([] : List (List AV × AV)), CallsTo CA08 f (concs (tEnv ρ (V i j v41 kA kB)) q.1) (conc (tEnv ρ (V i j v41 kA kB)) q.2) := fun q hq => by cases hq
  by_cases hp : ρ.I 0 / 16384 % 4 = 0
  case neg =>
    obtain ⟨i, kA, hiA⟩ : ∃ i kA, inR7 x = .tuple [inV i, boolv kA] := by unfold inR7; cases inst7 x with | some i => exact ⟨i, true, rfl⟩ | none => exact ⟨zero7, false, rfl⟩
    obtain ⟨j, kB, hjB⟩ : ∃ j kB, inR7 y = .tuple [inV j, boolv kB] := by unfold inR7; cases inst7 y with | some i => exact ⟨i, true, rfl⟩ | none => exact ⟨zero7, false, rfl⟩
    have f2 : FactsOk (tEnv ρ (V i j 0 kA kB)) tFp := ((FactsOk.cons (e := .cmp .leq (.var 46) (.lit 3)) (b := true) (fF i j 0 kA kB) (by show decide (ρ.I 0 / 16384 % 4 ≤ 3) = true; exact decide_eq_true (by omega))).cons (e := .cmp .geq (.var 46) (.lit 0)) (b := true) (by show decide (ρ.I 0 / 16384 % 4 ≥ 0) = true; exact decide_eq_true (by omega))).cons (e := .cmp .eql (.var 46) (.lit 0)) (b := false) (by show (ρ.I 0 / 16384 % 4 == 0) = false; rw [beq_eq_false_iff_ne]; exact hp)
    rw [eAr (V i j 0 kA kB)]
    exact (duplexTells_runp.calls (ctxT_ok (CA08_ok _) f2 (all i j 0 kA kB _ _ _ (par i j 0 kA kB _ rfl) (half i j 0 kA kB _ _ _ _ 34 _ hv (by rw [hiA]; rfl) (by rw [hjB]; rfl)) (base i j 0 kA kB [] [] [] noE (fun q hq => by cases hq) noE))) f2).of rfl rfl
  have hw := wrd_thirty h0 h1 hp
  rw [hx, hy] at hw
  have hv0 := hv
  rw [hp] at hv0
  have none_ : ∀ (a b : Bool) (i j : I7), inR7 x = .tuple [cond a (inV i) (inV zero7), boolv a] → inR7 y = .tuple [cond b (inV j) (inV zero7), boolv b] → (a = true → inst7 x = some i) →
      RunsN (ctxT CA08 tF (tTabsN a b)) 24 tF 6 duplexTells_args → CallsTo CA08 6 (concs ρ duplexTells_args) (.sc (.bool true)) := fun a b i j q1 q2 q3 hr => by
    have f2 := fF i j 0 false false
    rw [eAr (V i j 0 false false)]
    refine (hr.calls (ctxT_ok (CA08_ok _) f2 (all i j 0 false false _ _ _ (par i j 0 false false _ (by rw [hp]; rfl)) (half i j 0 false false _ _ _ _ 34 _ hv0 (by rw [q1]; cases a <;> rfl) (by rw [q2]; cases b <;> rfl)) (base i j 0 false false [] _ [] noE (fun q hq => ?_) noE))) f2).of rfl rfl
    cases a with
    | false => cases hq
    | true =>
      simp only [cond_true, List.mem_cons, List.not_mem_nil, or_false] at hq
      subst hq
      exact store7 (q3 rfl)
  cases hA : inst7 x with
  | none =>
    cases hB : inst7 y with
    | none => exact none_ false false zero7 zero7 (by unfold inR7; rw [hA]; rfl) (by unfold inR7; rw [hB]; rfl) (fun h => by cases h) duplexTells_runff
    | some j => exact none_ false true zero7 j (by unfold inR7; rw [hA]; rfl) (by unfold inR7; rw [hB]; rfl) (fun h => by cases h) duplexTells_runft
  | some i =>
    cases hB : inst7 y with
    | none => exact none_ true false i zero7 (by unfold inR7; rw [hA]; rfl) (by unfold inR7; rw [hB]; rfl) (fun _ => hA) duplexTells_runtf
    | some j =>
      have o1 := (sub_of7 x0 (by omega) hA).dup
      have o2 := (sub_of7 y0 (by omega) hB).dup
      have w1 := word_calls x0 y0 x1 y1
      rw [hw] at w1
      have w2 := word_calls y0 x0 y1 x1
      obtain ⟨r3, r4⟩ := wrd_le y0 x0 y1 x1
      have nx : inR7 x = .tuple [inV i, boolv true] := by unfold inR7; rw [hA]
      have ny : inR7 y = .tuple [inV j, boolv true] := by unfold inR7; rw [hB]
      by_cases hxy : x = y
      · subst hxy
        rw [hA] at hB
        obtain rfl := Option.some.inj hB
        have f2 := fF i i 0 false false
        rw [eAr (V i i 0 false false)]
        refine (duplexTells_runeq.calls (ctxT_ok (CA08_ok _) f2 (all i i 0 false false _ _ _ (par i i 0 false false _ (by rw [hp]; rfl)) (half i i 0 false false _ _ _ _ 33 _ hv0 (by rw [nx]; rfl) (by rw [nx]; rfl)) (base i i 0 false false _ _ _ (fun q hq => ?_) (fun q hq => ?_) (fun q hq => ?_)))) f2).of rfl rfl
        all_goals
          simp only [List.mem_cons, List.not_mem_nil, or_false] at hq
          subst hq
        · exact o1
        · exact store7 hA
        · exact w1
      · have nw : ρ.I 0 ≠ wrd y x := fun h => hxy (wrd_inj x0 y0 x1 y1 (by rw [hw]; exact h))
        have f2 := fF i j (wrd y x) false false
        have dz : ∀ {a b : Nat} {u v : Int}, (den (tEnv ρ (V i j (wrd y x) false false)) (.var a)).i = u → (den (tEnv ρ (V i j (wrd y x) false false)) (.var b)).i = v → -5000000000 ≤ u ∧ u ≤ 5000000000 → -5000000000 ≤ v ∧ v ≤ 5000000000 → (den (tEnv ρ (V i j (wrd y x) false false)) (dif a b)).i = u + v * (-1) := fun {a b u v} hu hv h1 h2 =>
          den_addW hu (den_mulW (n := -1) hv (by omega) (by omega)) (by omega) (by omega)
        have dd := dz (a := 33) (b := 34) (u := x) (v := y) rfl rfl ⟨by omega, by omega⟩ ⟨by omega, by omega⟩
        have dw := dz (a := 0) (b := 41) (u := ρ.I 0) (v := wrd y x) rfl rfl ⟨by omega, by omega⟩ ⟨by omega, by omega⟩
        have f0 : FactsOk (tEnv ρ (V i j (wrd y x) false false)) tF0 := ((FactsOk.cons (e := .cmp .leq (.var 41) (.lit 4294967295)) (b := true) f2 (decide_eq_true r4)).cons (e := .cmp .geq (.var 41) (.lit 0)) (b := true) (decide_eq_true r3)).cons (e := .cmp .eql (dif 0 41) (.lit 0)) (b := false) (by
          show ((den (tEnv ρ (V i j (wrd y x) false false)) (dif 0 41)).i == 0) = false
          rw [dw, beq_eq_false_iff_ne]
          omega)
        have tabs : ∀ p ∈ tTabsK, ∀ q ∈ p.2, CallsTo CA08 p.1 (concs (tEnv ρ (V i j (wrd y x) false false)) q.1) (conc (tEnv ρ (V i j (wrd y x) false false)) q.2) := by
          refine all i j (wrd y x) false false _ _ _ (par i j (wrd y x) false false _ (by rw [hp]; rfl)) (half i j (wrd y x) false false _ _ _ _ 34 _ hv0 (by rw [nx]; rfl) (by rw [ny]; rfl)) (base i j (wrd y x) false false _ _ _ (fun q hq => ?_) (fun q hq => ?_) (fun q hq => ?_))
          all_goals
            simp only [List.mem_cons, List.not_mem_nil, or_false] at hq
            rcases hq with rfl | rfl
          · exact o1
          · exact o2
          · exact store7 hA
          · exact store7 hB
          · exact w1
          · exact w2
        have kk : ∃ k : Nat, k ≤ 5 ∧ FactsOk (tEnv ρ (V i j (wrd y x) false false)) (tK k) := by
          have g : ∀ {l : Facts}, (∀ p ∈ l, (den (tEnv ρ (V i j (wrd y x) false false)) p.1).b = p.2) → FactsOk (tEnv ρ (V i j (wrd y x) false false)) l := fun h => h
          have e49 : (den (tEnv ρ (V i j (wrd y x) false false)) (.var 49)).b = (of11 (tEnvA ρ)).isSome := rfl
          have e50 : (den (tEnv ρ (V i j (wrd y x) false false)) (.var 50)).b = (of11 (tEnvB ρ)).isSome := rfl
          have e39 : (den (tEnv ρ (V i j (wrd y x) false false)) (.var 39)).b = isSt (ρ.I 1) := rfl
          have e40 : (den (tEnv ρ (V i j (wrd y x) false false)) (.var 40)).b = isSt (ρ.I 12) := rfl
          cases q49 : (of11 (tEnvA ρ)).isSome with
          | false => exact ⟨0, by decide, by simp only [tK]; exact FactsOk.cons FactsOk.nil (e49.trans q49)⟩
          | true =>
            cases q50 : (of11 (tEnvB ρ)).isSome with
            | false => exact ⟨1, by decide, by simp only [tK]; exact (FactsOk.cons FactsOk.nil (e50.trans q50)).cons (e49.trans q49)⟩
            | true =>
              cases q39 : isSt (ρ.I 1) <;> cases q40 : isSt (ρ.I 12)
              · exact ⟨2, by decide, by simp only [tK]; exact (((FactsOk.cons FactsOk.nil (e40.trans q40)).cons (e39.trans q39)).cons (e50.trans q50)).cons (e49.trans q49)⟩
              · exact ⟨3, by decide, by simp only [tK]; exact (((FactsOk.cons FactsOk.nil (e40.trans q40)).cons (e39.trans q39)).cons (e50.trans q50)).cons (e49.trans q49)⟩
              · exact ⟨4, by decide, by simp only [tK]; exact (((FactsOk.cons FactsOk.nil (e40.trans q40)).cons (e39.trans q39)).cons (e50.trans q50)).cons (e49.trans q49)⟩
              · exact ⟨5, by decide, by simp only [tK]; exact (((FactsOk.cons FactsOk.nil (e40.trans q40)).cons (e39.trans q39)).cons (e50.trans q50)).cons (e49.trans q49)⟩
        obtain ⟨k, hk, fk⟩ := kk
        have app : ∀ {a b : Facts}, FactsOk (tEnv ρ (V i j (wrd y x) false false)) a → FactsOk (tEnv ρ (V i j (wrd y x) false false)) b → FactsOk (tEnv ρ (V i j (wrd y x) false false)) (a ++ b) := fun h1 h2 p hp => (List.mem_append.1 hp).elim (h1 p) (h2 p)
        have hk' : k = 0 ∨ k = 1 ∨ k = 2 ∨ k = 3 ∨ k = 4 ∨ k = 5 := by omega
        rw [eAr (V i j (wrd y x) false false)]
        rcases Int.lt_or_lt_of_ne hxy with h | h
        · have f3 : FactsOk (tEnv ρ (V i j (wrd y x) false false)) tFlt := (FactsOk.cons (e := .cmp .leq (dif 33 34) (.lit (-1))) (b := true) f0 (by show decide ((den (tEnv ρ (V i j (wrd y x) false false)) (dif 33 34)).i ≤ -1) = true; rw [dd]; exact decide_eq_true (by omega))).cons (by show decide ((den (tEnv ρ (V i j (wrd y x) false false)) (dif 33 34)).i ≤ 0) = true; rw [dd]; exact decide_eq_true (by omega))
          have f4 := app fk f3
          rcases hk' with rfl | rfl | rfl | rfl | rfl | rfl
          · exact (duplexTells_runlt0.calls (ctxT_ok (CA08_ok _) f4 tabs) f4).of rfl rfl
          · exact (duplexTells_runlt1.calls (ctxT_ok (CA08_ok _) f4 tabs) f4).of rfl rfl
          · exact (duplexTells_runlt2.calls (ctxT_ok (CA08_ok _) f4 tabs) f4).of rfl rfl
          · exact (duplexTells_runlt3.calls (ctxT_ok (CA08_ok _) f4 tabs) f4).of rfl rfl
          · exact (duplexTells_runlt4.calls (ctxT_ok (CA08_ok _) f4 tabs) f4).of rfl rfl
          · exact (duplexTells_runlt5.calls (ctxT_ok (CA08_ok _) f4 tabs) f4).of rfl rfl
        · have f3 : FactsOk (tEnv ρ (V i j (wrd y x) false false)) tFgt := (FactsOk.cons (e := .cmp .leq (dif 33 34) (.lit 0)) (b := false) f0 (by show decide ((den (tEnv ρ (V i j (wrd y x) false false)) (dif 33 34)).i ≤ 0) = false; rw [dd]; exact decide_eq_false (by omega))).cons (by show decide ((den (tEnv ρ (V i j (wrd y x) false false)) (dif 33 34)).i ≤ -1) = false; rw [dd]; exact decide_eq_false (by omega))
          have f4 := app fk f3
          rcases hk' with rfl | rfl | rfl | rfl | rfl | rfl
          · exact (duplexTells_rungt0.calls (ctxT_ok (CA08_ok _) f4 tabs) f4).of rfl rfl
          · exact (duplexTells_rungt1.calls (ctxT_ok (CA08_ok _) f4 tabs) f4).of rfl rfl
          · exact (duplexTells_rungt2.calls (ctxT_ok (CA08_ok _) f4 tabs) f4).of rfl rfl
          · exact (duplexTells_rungt3.calls (ctxT_ok (CA08_ok _) f4 tabs) f4).of rfl rfl
          · exact (duplexTells_rungt4.calls (ctxT_ok (CA08_ok _) f4 tabs) f4).of rfl rfl
          · exact (duplexTells_rungt5.calls (ctxT_ok (CA08_ok _) f4 tabs) f4).of rfl rfl

theorem duplexTells_glob : GlobOk Tryd.prog Rows.duplexTellsRow.laid globDup := ⟨⟨"coxless/bits.codeAt", Rows.laid_coxless_bits_codeAt, .head _, by kernel_rfl, by kernel_rfl⟩, ⟨"coxless/bits.ends", Rows.laid_coxless_bits_ends, .tail _ (.head _), by kernel_rfl, by kernel_rfl⟩, ⟨"coxless/bits.parseAt", Rows.laid_coxless_bits_parseAt, .tail _ (.tail _ (.head _)), by kernel_rfl, by kernel_rfl⟩, ⟨"coxless/bits.upper", Rows.laid_coxless_bits_upper, .tail _ (.tail _ (.tail _ (.head _))), by kernel_rfl, by kernel_rfl⟩, ⟨"coxless/sub.rows", Rows.laid_coxless_sub_rows, .tail _ (.tail _ (.tail _ (.tail _ (.head _)))), by kernel_rfl, by kernel_rfl⟩, trivial⟩

theorem duplexTells_walk (a0 : Int) (w0 : IntKind.min .u32 ≤ a0 ∧ a0 ≤ IntKind.max .u32) (a1 : Int) (w1 : IntKind.min .u8 ≤ a1 ∧ a1 ≤ IntKind.max .u8) (a2 : Int) (w2 : IntKind.min .u8 ≤ a2 ∧ a2 ≤ IntKind.max .u8) (a3 : Int) (w3 : IntKind.min .u8 ≤ a3 ∧ a3 ≤ IntKind.max .u8) (a4 : Int) (w4 : IntKind.min .u8 ≤ a4 ∧ a4 ≤ IntKind.max .u8) (a5 : Int) (w5 : IntKind.min .u8 ≤ a5 ∧ a5 ≤ IntKind.max .u8) (a6 : Int) (w6 : IntKind.min .u8 ≤ a6 ∧ a6 ≤ IntKind.max .u8) (a7 : Int) (w7 : IntKind.min .u8 ≤ a7 ∧ a7 ≤ IntKind.max .u8) (a8 : Bool) (a9 : Bool) (a10 : Int) (w10 : IntKind.min .u16 ≤ a10 ∧ a10 ≤ IntKind.max .u16) (a11 : Int) (w11 : IntKind.min .i64 ≤ a11 ∧ a11 ≤ IntKind.max .i64) (a12 : Int) (w12 : IntKind.min .u8 ≤ a12 ∧ a12 ≤ IntKind.max .u8) (a13 : Int) (w13 : IntKind.min .u8 ≤ a13 ∧ a13 ≤ IntKind.max .u8) (a14 : Int) (w14 : IntKind.min .u8 ≤ a14 ∧ a14 ≤ IntKind.max .u8) (a15 : Int) (w15 : IntKind.min .u8 ≤ a15 ∧ a15 ≤ IntKind.max .u8) (a16 : Int) (w16 : IntKind.min .u8 ≤ a16 ∧ a16 ≤ IntKind.max .u8) (a17 : Int) (w17 : IntKind.min .u8 ≤ a17 ∧ a17 ≤ IntKind.max .u8) (a18 : Int) (w18 : IntKind.min .u8 ≤ a18 ∧ a18 ≤ IntKind.max .u8) (a19 : Bool) (a20 : Bool) (a21 : Int) (w21 : IntKind.min .u16 ≤ a21 ∧ a21 ≤ IntKind.max .u16) (a22 : Int) (w22 : IntKind.min .i64 ≤ a22 ∧ a22 ≤ IntKind.max .i64) (w : World) (hL : laidMetH Tryd.prog Rows.duplexTellsRow.laid w) : Calls Tryd.prog 6 #[.int .u32 a0, .agg #[.int .u8 a1, .int .u8 a2, .int .u8 a3, .int .u8 a4, .int .u8 a5, .int .u8 a6, .int .u8 a7, .bool a8, .bool a9, .int .u16 a10, .int .i64 a11], .agg #[.int .u8 a12, .int .u8 a13, .int .u8 a14, .int .u8 a15, .int .u8 a16, .int .u8 a17, .int .u8 a18, .bool a19, .bool a20, .int .u16 a21, .int .i64 a22]] w fun e w' => e = .returned (.bool true) ∧ Below w.heap.size w w' := by
  have hf : FactsOk ⟨fun i => [a0, a1, a2, a3, a4, a5, a6, a7, 0, 0, a10, a11, a12, a13, a14, a15, a16, a17, a18, 0, 0, a21, a22].getD i 0, fun i => [false, false, false, false, false, false, false, false, a8, a9, false, false, false, false, false, false, false, false, false, a19, a20, false, false].getD i false, fun i => [ByteArray.empty, ByteArray.empty, ByteArray.empty, ByteArray.empty, ByteArray.empty, ByteArray.empty, ByteArray.empty, ByteArray.empty, ByteArray.empty, ByteArray.empty, ByteArray.empty, ByteArray.empty, ByteArray.empty, ByteArray.empty, ByteArray.empty, ByteArray.empty, ByteArray.empty, ByteArray.empty, ByteArray.empty, ByteArray.empty, ByteArray.empty, ByteArray.empty, ByteArray.empty].getD i ByteArray.empty, FF0⟩ duplexTells_facts := by
    intro p hp
    simp only [duplexTells_facts, List.mem_cons, List.not_mem_nil, or_false] at hp
    rcases hp with rfl | rfl | rfl | rfl | rfl | rfl | rfl | rfl | rfl | rfl | rfl | rfl | rfl | rfl | rfl | rfl | rfl | rfl | rfl | rfl | rfl | rfl | rfl | rfl | rfl | rfl | rfl | rfl | rfl | rfl | rfl | rfl | rfl | rfl | rfl | rfl | rfl | rfl
    · exact decide_eq_true w0.1
    · exact decide_eq_true w0.2
    · exact decide_eq_true w1.1
    · exact decide_eq_true w1.2
    · exact decide_eq_true w2.1
    · exact decide_eq_true w2.2
    · exact decide_eq_true w3.1
    · exact decide_eq_true w3.2
    · exact decide_eq_true w4.1
    · exact decide_eq_true w4.2
    · exact decide_eq_true w5.1
    · exact decide_eq_true w5.2
    · exact decide_eq_true w6.1
    · exact decide_eq_true w6.2
    · exact decide_eq_true w7.1
    · exact decide_eq_true w7.2
    · exact decide_eq_true w10.1
    · exact decide_eq_true w10.2
    · exact decide_eq_true w11.1
    · exact decide_eq_true w11.2
    · exact decide_eq_true w12.1
    · exact decide_eq_true w12.2
    · exact decide_eq_true w13.1
    · exact decide_eq_true w13.2
    · exact decide_eq_true w14.1
    · exact decide_eq_true w14.2
    · exact decide_eq_true w15.1
    · exact decide_eq_true w15.2
    · exact decide_eq_true w16.1
    · exact decide_eq_true w16.2
    · exact decide_eq_true w17.1
    · exact decide_eq_true w17.2
    · exact decide_eq_true w18.1
    · exact decide_eq_true w18.2
    · exact decide_eq_true w21.1
    · exact decide_eq_true w21.2
    · exact decide_eq_true w22.1
    · exact decide_eq_true w22.2
  refine walk_laid_of (C := CA08) (duplexTells_calls hf) rfl duplexTells_glob (by kernel_rfl) w (fun ob => ?_) hL
  refine ⟨rfl, fun i a v hi hv => ?_⟩
  match i, hi, hv with
  | 0, hi, hv =>
    obtain rfl := Option.some.inj hi
    obtain rfl := Option.some.inj hv
    exact .of_sc _ _ _ _
  | 1, hi, hv =>
    obtain rfl := Option.some.inj hi
    obtain rfl := Option.some.inj hv
    exact relA_scs _ _ _ #[.int .u8 a1, .int .u8 a2, .int .u8 a3, .int .u8 a4, .int .u8 a5, .int .u8 a6, .int .u8 a7, .bool a8, .bool a9, .int .u16 a10, .int .i64 a11]
  | 2, hi, hv =>
    obtain rfl := Option.some.inj hi
    obtain rfl := Option.some.inj hv
    exact relA_scs _ _ _ #[.int .u8 a12, .int .u8 a13, .int .u8 a14, .int .u8 a15, .int .u8 a16, .int .u8 a17, .int .u8 a18, .bool a19, .bool a20, .int .u16 a21, .int .i64 a22]
  | k + 3, hi, _ => simp [concs, duplexTells_args] at hi
end Go.Proofs.YthabafmieebmmaaDoor
