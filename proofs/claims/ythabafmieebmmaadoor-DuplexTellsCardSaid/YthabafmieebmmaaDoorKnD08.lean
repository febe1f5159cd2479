/- Duplexes: words of two halves, stores, of any values. -/
import Derived.Test.YthabafmieebmmaaDoorKnD080
set_option linter.unusedVariables false
set_option linter.unusedSimpArgs false
set_option maxRecDepth 100000
namespace Go.Proofs.YthabafmieebmmaaDoor
open Go Go.RowKit

abbrev u32v (n : Int) : AV := .tc (.sc (.int .u32 n))
abbrev u16v (n : Int) : AV := .tc (.sc (.int .u16 n))
abbrev i64v (n : Int) : AV := .tc (.sc (.int .i64 n))
abbrev boolv (b : Bool) : AV := .tc (.sc (.bool b))

theorem den_shr {ρ : Env} {a : Sx} {x k : Int} {m : Nat} {d : Int} (ha : (den ρ a).i = x) (hm : min k.toNat (IntKind.bits .i64) = m) (hd : (2 : Int) ^ m = d) : (den ρ (shrE a k)).i = x / d := by
  show binI .shr .i64 (den ρ a).i k = _
  rw [ha]
  exact shr_i64 x hm hd
theorem den_addW {ρ : Env} {a b : Sx} {x y : Int} (ha : (den ρ a).i = x) (hb : (den ρ b).i = y) (h0 : -9223372036854775808 ≤ x + y) (h1 : x + y ≤ 9223372036854775807) : (den ρ (addE a b)).i = x + y := by
  show IntKind.i64.wrap ((den ρ a).i + (den ρ b).i) = _
  rw [ha, hb, w64 h0 h1]
theorem den_mulW {ρ : Env} {a : Sx} {x n : Int} (ha : (den ρ a).i = x) (h0 : -9223372036854775808 ≤ x * n) (h1 : x * n ≤ 9223372036854775807) : (den ρ (mulE a n)).i = x * n := by
  show IntKind.i64.wrap ((den ρ a).i * n) = _
  rw [ha, w64 h0 h1]

theorem den_wrd {x y : Int} (hx : 0 ≤ x) (hy : 0 ≤ y) (hx1 : x ≤ 32767) (hy1 : y ≤ 32767) : (den (ints [x, y]) (wrdE (.var 0) (.var 1))).i = wrd x y := by
  have h0 : (den (ints [x, y]) (.var 0)).i = x := rfl
  have h1 : (den (ints [x, y]) (.var 1)).i = y := rfl
  have s := den_shr (k := 14) (m := 14) (d := 16384) h1 (by decide) (by decide)
  have m1 := den_mulW (n := 131072) h0 (by omega) (by omega)
  have m2 := den_mulW (n := 65536) s (by omega) (by omega)
  have m3 := den_mulW (n := -16384) s (by omega) (by omega)
  have a1 := den_addW h1 m3 (by omega) (by omega)
  have a2 := den_addW m2 a1 (by omega) (by omega)
  have a3 := den_addW m1 a2 (by omega) (by omega)
  unfold wrdE
  rw [a3]
  unfold wrd
  omega

theorem xyF_ok {x y : Int} (hx : 0 ≤ x) (hy : 0 ≤ y) (hx1 : x ≤ 32767) (hy1 : y ≤ 32767) : FactsOk (ints [x, y]) xyF := by
  intro p hp
  simp only [xyF, List.mem_cons, List.not_mem_nil, or_false] at hp
  rcases hp with rfl | rfl | rfl | rfl
  · exact decide_eq_true hx
  · exact decide_eq_true hx1
  · exact decide_eq_true hy
  · exact decide_eq_true hy1

theorem wF_ok {x : Int} (hx : 0 ≤ x) (hx1 : x ≤ 4294967295) : FactsOk (ints [x]) wF := by
  intro p hp
  simp only [wF, List.mem_cons, List.not_mem_nil, or_false] at hp
  rcases hp with rfl | rfl
  · exact decide_eq_true hx
  · exact decide_eq_true hx1

theorem word_calls {x y : Int} (hx : 0 ≤ x) (hy : 0 ≤ y) (hx1 : x ≤ 32767) (hy1 : y ≤ 32767) : CallsTo CA08 50 [u16v x, u16v y] (u32v (wrd x y)) := by
  have := word_run.calls (CA08_ok _) (xyF_ok hx hy hx1 hy1)
  have e : conc (ints [x, y]) (u32E (wrdE (.var 0) (.var 1))) = u32v (wrd x y) := by simp only [conc, concT, STy.val, den_wrd hx hy hx1 hy1]
  rw [e] at this
  exact this

theorem join_calls {x y : Int} (hx : 0 ≤ x) (hy : 0 ≤ y) (hx1 : x ≤ 32767) (hy1 : y ≤ 32767) : CallsTo CA08 51 [i64v x, i64v y] (u32v (wrd x y)) := by
  have := join_run.calls (CA08_ok _) (xyF_ok hx hy hx1 hy1)
  have e : conc (ints [x, y]) (u32E (wrdE (.var 0) (.var 1))) = u32v (wrd x y) := by simp only [conc, concT, STy.val, den_wrd hx hy hx1 hy1]
  rw [e] at this
  exact this

section
variable {w : Int} (h0 : 0 ≤ w) (h1 : w ≤ 4294967295)
include h0 h1

theorem thirty_calls : CallsTo CA08 46 [u32v w] (u32v (thirty w)) := by
  have := thirty_run.calls (CA08_ok _) (wF_ok h0 h1)
  have e : conc (ints [w]) (u32E (thirtyE (.var 0))) = u32v (thirty w) := by
    have hw : (den (ints [w]) (.var 0)).i = w := rfl
    have s := den_shr (k := 14) (m := 14) (d := 16384) hw (by decide) (by decide)
    have s2 := den_shr (k := 16) (m := 16) (d := 65536) hw (by decide) (by decide)
    have m1 := den_mulW (n := -16384) s (by omega) (by omega)
    have m2 := den_mulW (n := 16384) s2 (by omega) (by omega)
    have a1 := den_addW hw m1 (by omega) (by omega)
    have a2 := den_addW a1 m2 (by omega) (by omega)
    simp only [conc, concT, STy.val, thirtyE, a2]
    congr 3
    unfold thirty
    omega
  rw [e] at this
  exact this

theorem parts_calls : ∃ a b, CallsTo CA08 32 [u32v w] (.tuple [u8v a, u32v b, u8v (w / 16384 % 4)]) := by
  have := partsD_run.calls (CA08_ok _) (wF_ok h0 h1)
  refine ⟨(den (ints [w]) (shrE (.var 0) 26)).i, (den (ints [w]) (payloadE (.var 0))).i, ?_⟩
  have e : (den (ints [w]) (parseE (.var 0))).i = w / 16384 % 4 := by
    have hw : (den (ints [w]) (.var 0)).i = w := rfl
    have s := den_shr (k := 14) (m := 14) (d := 16384) hw (by decide) (by decide)
    have s2 := den_shr (k := 16) (m := 16) (d := 65536) hw (by decide) (by decide)
    have m2 := den_mulW (n := -4) s2 (by omega) (by omega)
    have a2 := den_addW s m2 (by omega) (by omega)
    unfold parseE
    rw [a2]
    omega
  simp only [conc, concs, concT, STy.val, e] at this
  exact this

theorem halves_calls : CallsTo CA08 48 [u32v w] (.tuple [i64v (thirty w / 32768), i64v (thirty w % 32768), i64v (w / 16384 % 4)]) := by
  have := halves_run.calls (CA08_ok _) (wF_ok h0 h1)
  have hw : (den (ints [w]) (.var 0)).i = w := rfl
  have s := den_shr (k := 14) (m := 14) (d := 16384) hw (by decide) (by decide)
  have s2 := den_shr (k := 16) (m := 16) (d := 65536) hw (by decide) (by decide)
  have s3 := den_shr (k := 17) (m := 17) (d := 131072) hw (by decide) (by decide)
  have e : (den (ints [w]) (parseE (.var 0))).i = w / 16384 % 4 := by
    have m2 := den_mulW (n := -4) s2 (by omega) (by omega)
    have a2 := den_addW s m2 (by omega) (by omega)
    unfold parseE
    rw [a2]
    omega
  have m1 := den_mulW (n := -16384) s (by omega) (by omega)
  have m2 := den_mulW (n := 16384) s2 (by omega) (by omega)
  have m3 := den_mulW (n := -32768) s3 (by omega) (by omega)
  have a1 := den_addW hw m1 (by omega) (by omega)
  have a2 := den_addW m2 m3 (by omega) (by omega)
  have a3 := den_addW a1 a2 (by omega) (by omega)
  have q1 : w / 131072 = thirty w / 32768 := by unfold thirty; omega
  have qt : thirty w = w + w / 16384 * (-16384) + w / 65536 * 16384 := by unfold thirty; omega
  have q2 : w + w / 16384 * (-16384) + (w / 65536 * 16384 + thirty w / 32768 * (-32768)) = thirty w % 32768 := by omega
  simp only [conc, concs, concT, STy.val, e, s3, a3, q1, q2] at this
  exact this
end

/-- Is an op a store's? -/
def isSt (c : Int) : Bool := decide (24 ≤ c) && decide (c ≤ 26)
theorem store_calls {ρ : Env} (hf : FactsOk ρ inF) : CallsTo CA08 47 (concs ρ opArgsG) (boolv (isSt (ρ.I 0))) ∧ CallsTo CA08 49 (concs ρ opArgsG) (boolv (isSt (ρ.I 0))) := by
  have hr : FactsOk ρ rightF := fun p hp => hf p (by simp [inF, hp])
  have b0 : 0 ≤ ρ.I 0 := of_decide_eq_true (hf (.cmp .geq (.var 0) (.lit 0), true) (by simp [inF]))
  have b1 : ρ.I 0 ≤ 255 := of_decide_eq_true (hf (.cmp .leq (.var 0) (.lit 255), true) (by simp [inF]))
  have key : ∀ (c : Int) (b : Bool), ρ.I 0 = c → isSt c = b → RunsIs CA08 24 rightF 47 (rightA c) (.tc (.sc (.bool b))) → RunsIs CA08 24 rightF 49 (rightA c) (.tc (.sc (.bool b))) →
      CallsTo CA08 47 (concs ρ opArgsG) (boolv (isSt (ρ.I 0))) ∧ CallsTo CA08 49 (concs ρ opArgsG) (boolv (isSt (ρ.I 0))) := fun c b hc hb r1 r2 => by
    have e : concs ρ opArgsG = concs ρ (rightA c) := by simp only [opArgsG, rightA, concs, conc, concT, STy.val, den, hc]
    rw [e, hc, hb]
    exact ⟨r1.calls (CA08_ok _) hr, r2.calls (CA08_ok _) hr⟩
  have h : ρ.I 0 = 0 ∨ ρ.I 0 = 1 ∨ ρ.I 0 = 2 ∨ ρ.I 0 = 3 ∨ ρ.I 0 = 4 ∨ ρ.I 0 = 5 ∨ ρ.I 0 = 6 ∨ ρ.I 0 = 7 ∨ ρ.I 0 = 8 ∨ ρ.I 0 = 9 ∨ ρ.I 0 = 10 ∨ ρ.I 0 = 11 ∨ ρ.I 0 = 12 ∨ ρ.I 0 = 13 ∨ ρ.I 0 = 14 ∨ ρ.I 0 = 15 ∨ ρ.I 0 = 16 ∨ ρ.I 0 = 17 ∨ ρ.I 0 = 18 ∨ ρ.I 0 = 19 ∨ ρ.I 0 = 20 ∨ ρ.I 0 = 21 ∨ ρ.I 0 = 22 ∨ ρ.I 0 = 23 ∨ ρ.I 0 = 24 ∨ ρ.I 0 = 25 ∨ ρ.I 0 = 26 ∨ ρ.I 0 = 27 ∨ ρ.I 0 = 28 ∨ ρ.I 0 = 29 ∨ ρ.I 0 = 30 ∨ ρ.I 0 = 31 ∨ 32 ≤ ρ.I 0 := by omega
  rcases h with h | h | h | h | h | h | h | h | h | h | h | h | h | h | h | h | h | h | h | h | h | h | h | h | h | h | h | h | h | h | h | h | h
  · exact key 0 _ h rfl store_run0 stoq_run0
  · exact key 1 _ h rfl store_run1 stoq_run1
  · exact key 2 _ h rfl store_run2 stoq_run2
  · exact key 3 _ h rfl store_run3 stoq_run3
  · exact key 4 _ h rfl store_run4 stoq_run4
  · exact key 5 _ h rfl store_run5 stoq_run5
  · exact key 6 _ h rfl store_run6 stoq_run6
  · exact key 7 _ h rfl store_run7 stoq_run7
  · exact key 8 _ h rfl store_run8 stoq_run8
  · exact key 9 _ h rfl store_run9 stoq_run9
  · exact key 10 _ h rfl store_run10 stoq_run10
  · exact key 11 _ h rfl store_run11 stoq_run11
  · exact key 12 _ h rfl store_run12 stoq_run12
  · exact key 13 _ h rfl store_run13 stoq_run13
  · exact key 14 _ h rfl store_run14 stoq_run14
  · exact key 15 _ h rfl store_run15 stoq_run15
  · exact key 16 _ h rfl store_run16 stoq_run16
  · exact key 17 _ h rfl store_run17 stoq_run17
  · exact key 18 _ h rfl store_run18 stoq_run18
  · exact key 19 _ h rfl store_run19 stoq_run19
  · exact key 20 _ h rfl store_run20 stoq_run20
  · exact key 21 _ h rfl store_run21 stoq_run21
  · exact key 22 _ h rfl store_run22 stoq_run22
  · exact key 23 _ h rfl store_run23 stoq_run23
  · exact key 24 _ h rfl store_run24 stoq_run24
  · exact key 25 _ h rfl store_run25 stoq_run25
  · exact key 26 _ h rfl store_run26 stoq_run26
  · exact key 27 _ h rfl store_run27 stoq_run27
  · exact key 28 _ h rfl store_run28 stoq_run28
  · exact key 29 _ h rfl store_run29 stoq_run29
  · exact key 30 _ h rfl store_run30 stoq_run30
  · exact key 31 _ h rfl store_run31 stoq_run31
  · have hg : FactsOk ρ opG := fun p hp => by
      simp only [opG, List.mem_cons] at hp
      rcases hp with rfl | rfl | hp
      · exact decide_eq_true h
      · exact decide_eq_true b1
      · exact hr p hp
    have e : isSt (ρ.I 0) = false := by
      unfold isSt
      rw [decide_eq_false (show ¬ ρ.I 0 ≤ 26 by omega), Bool.and_false]
    rw [e]
    exact ⟨store_runG.calls (CA08_ok _) hg, stoq_runG.calls (CA08_ok _) hg⟩
end Go.Proofs.YthabafmieebmmaaDoor
