/- The word of any instruction. -/
import Derived.Test.YtamhmfdbnlkmkaaDoorKnECBA
import Derived.Test.YtamhmfdbnlkmkaaDoorKnECBB
import Derived.Test.YtamhmfdbnlkmkaaDoorKnECBC
import Derived.Test.YtamhmfdbnlkmkaaDoorKnECBD
set_option linter.unusedVariables false
set_option linter.unusedSimpArgs false
set_option maxRecDepth 100000
namespace Go.Proofs.YtamhmfdbnlkmkaaDoor
open Go Go.RowKit


theorem ebBF_sub {ρ : Env} (hf : FactsOk ρ ebBK) : FactsOk ρ ebBF := fun p hp => hf p (List.mem_cons_of_mem _ (List.mem_cons_of_mem _ hp))

theorem wt_no {ρ : Env} (hf : FactsOk ρ ebBK) (h : CallsTo CX06 8 [conc ρ ebBJ] (blV false)) : ∃ v u said rt ft, WordTold (conc ρ ebBJ) (conc ρ ebBP) (ρ.B 8) v u said rt ft := by
  have hs : Summ ρ (ctxT CX06 ebBK ebN) := ctxT_ok (CX06_ok ρ) hf fun p hp q hq => by
    simp only [ebN, List.mem_cons, List.not_mem_nil, or_false] at hp
    subst hp
    simp only [List.mem_cons, List.not_mem_nil, or_false] at hq
    subst hq
    exact h
  exact ⟨0, 0, false, false, false, (ebB_no.calls hs hf).of rfl rfl, h, (fun h => by cases h), rfl, fun _ => ⟨rfl, rfl⟩, fun h => by cases h⟩

theorem wt_nf {ρ : Env} (hf : FactsOk ρ ebBK) (hx : ρ.B 8 = false) (h : CallsTo CX06 8 [conc ρ ebBJ] (blV true)) (h2 : CallsTo CX06 9 [conc ρ ebBJ, conc ρ ebBP] (blV false)) : ∃ v u said rt ft, WordTold (conc ρ ebBJ) (conc ρ ebBP) (ρ.B 8) v u said rt ft := by
  have hf2 : FactsOk ρ ((.var 8, false) :: ebBK) := hf.cons hx
  have hs : Summ ρ (ctxT CX06 ((.var 8, false) :: ebBK) ebM) := ctxT_ok (CX06_ok ρ) hf2 fun p hp q hq => by
    simp only [ebM, List.mem_cons, List.not_mem_nil, or_false] at hp
    rcases hp with rfl | rfl
    · simp only [List.mem_cons, List.not_mem_nil, or_false] at hq
      subst hq
      exact h
    · simp only [List.mem_cons, List.not_mem_nil, or_false] at hq
      subst hq
      exact h2
  exact ⟨0, 0, false, true, false, (ebB_nf.calls hs hf2).of rfl rfl, h, fun _ => h2, by rw [hx]; rfl, fun _ => ⟨rfl, rfl⟩, fun h => by cases h⟩

theorem FactsOk.bit {ρ : Env} {fs : Facts} {i : Nat} {b : Bool} (hf : FactsOk ρ fs) (h : ρ.B i = b) : FactsOk ρ ((.var i, b) :: fs) := hf.cons h

/-- One variable more. -/
def zE (ρ : Env) (z : Int) : Env := { ρ with I := fun i => match i with | 12 => z | i => ρ.I i }

theorem zE_facts {ρ : Env} (hf : FactsOk ρ ebBF) (z : Int) : FactsOk (zE ρ z) ebBF := fun p hp => by
  have := hf p hp
  simp only [ebBF, rightF, List.mem_cons, List.not_mem_nil, or_false] at hp
  rcases hp with rfl | rfl | rfl | rfl | rfl | rfl | rfl | rfl | rfl | rfl | rfl | rfl | rfl | rfl | rfl | rfl | rfl | rfl <;> exact this

theorem zF_ok {ρ : Env} (hf : FactsOk ρ ebBF) {z a b : Int} (h1 : a ≤ z) (h2 : z ≤ b) : FactsOk (zE ρ z) (ebZF a b) := FactsOk.cons (FactsOk.cons (zE_facts hf z) (decide_eq_true h2)) (decide_eq_true h1)

theorem wrap_u32 (n : Int) : IntKind.u32.wrap n = n % 4294967296 := by simp [IntKind.wrap, IntKind.bits, IntKind.signed]

theorem w64i {x : Int} (h0 : -9223372036854775808 ≤ x) (h1 : x ≤ 9223372036854775807) : IntKind.i64.wrap x = x := wrap_id (k := .i64) h0 h1

theorem relX_den {ρ : Env} {k r : Int} (h0 : 0 ≤ ρ.I 11) (h1 : ρ.I 11 ≤ 4294967295) (h2 : -4294967296 ≤ k) (h3 : k ≤ 4294967296) (h4 : 0 ≤ r) (h5 : r ≤ 4) : (den (zE ρ k) (relX r 10)).i = (ρ.I 11 + (k * 4 + r)) % 4294967296 := by
  show IntKind.u32.wrap (IntKind.i64.wrap (ρ.I 11 + IntKind.i64.wrap (IntKind.i64.wrap (k * 4) + r))) = _
  rw [w64i (x := k * 4) (by omega) (by omega), w64i (x := k * 4 + r) (by omega) (by omega), w64i (by omega) (by omega), wrap_u32]

theorem relY_den {ρ : Env} {k : Int} (h0 : 0 ≤ ρ.I 11) (h1 : ρ.I 11 ≤ 4294967295) (h2 : -4294967296 ≤ k) (h3 : k ≤ 4294967296) : (den (zE ρ k) (relY 10)).i = (ρ.I 11 + k) % 4294967296 := by
  show IntKind.u32.wrap (IntKind.i64.wrap (ρ.I 11 + k)) = _
  rw [w64i (by omega) (by omega), wrap_u32]

theorem immY_den {ρ : Env} {k s r x : Int} (hx : k * s + r = x) (h2 : -9223372036854775808 ≤ x) (h3 : x ≤ 9223372036854775807) (h4 : -9223372036854775808 ≤ k * s) (h5 : k * s ≤ 9223372036854775807) : (den (zE ρ k) (immY s r 10)).i = x := by
  show IntKind.i64.wrap (IntKind.i64.wrap (k * s) + r) = _
  rw [w64i (x := k * s) h4 h5, hx, w64i h2 h3]

theorem zI_conc {ρ : Env} {z c : Int} {e : Sx} (h : (den (zE ρ z) e).i = ρ.I 10) : conc (zE ρ z) (ebZI c e) = conc ρ (ebBI c) := by
  simp only [ebZI, ebBI, conc, concs, concT, STy.val, h]
  rfl

theorem zP_conc (ρ : Env) (z : Int) : conc (zE ρ z) ebBP = conc ρ ebBP := rfl

theorem wt1 {ρ : Env} (hf : FactsOk ρ ebBK) (hr : (den ρ (rightE 1 .var)).b = true) (hc : ρ.I 0 = 1) (r0 : CallsTo CX06 8 [conc ρ ebBJ] (blV true)) : ∃ v u said rt ft, WordTold (conc ρ ebBJ) (conc ρ ebBP) (ρ.B 8) v u said rt ft := by
  have hb := ebBF_sub hf
  have e : conc ρ (ebBI 1) = conc ρ ebBJ := by rw [← hc]; rfl
  have := wordTold (addFact_ok (rightE 1 .var) hb hr) ebB_run1
  rwa [e] at this
theorem wt2 {ρ : Env} (hf : FactsOk ρ ebBK) (hr : (den ρ (rightE 2 .var)).b = true) (hc : ρ.I 0 = 2) (r0 : CallsTo CX06 8 [conc ρ ebBJ] (blV true)) : ∃ v u said rt ft, WordTold (conc ρ ebBJ) (conc ρ ebBP) (ρ.B 8) v u said rt ft := by
  have hb := ebBF_sub hf
  have e : conc ρ (ebBI 2) = conc ρ ebBJ := by rw [← hc]; rfl
  have := wordTold (addFact_ok (rightE 2 .var) hb hr) ebB_run2
  rwa [e] at this
theorem wt3 {ρ : Env} (hf : FactsOk ρ ebBK) (hr : (den ρ (rightE 3 .var)).b = true) (hc : ρ.I 0 = 3) (r0 : CallsTo CX06 8 [conc ρ ebBJ] (blV true)) : ∃ v u said rt ft, WordTold (conc ρ ebBJ) (conc ρ ebBP) (ρ.B 8) v u said rt ft := by
  have hb := ebBF_sub hf
  have e : conc ρ (ebBI 3) = conc ρ ebBJ := by rw [← hc]; rfl
  have := wordTold (addFact_ok (rightE 3 .var) hb hr) ebB_run3
  rwa [e] at this
theorem wt4 {ρ : Env} (hf : FactsOk ρ ebBK) (hr : (den ρ (rightE 4 .var)).b = true) (hc : ρ.I 0 = 4) (r0 : CallsTo CX06 8 [conc ρ ebBJ] (blV true)) : ∃ v u said rt ft, WordTold (conc ρ ebBJ) (conc ρ ebBP) (ρ.B 8) v u said rt ft := by
  have hb := ebBF_sub hf
  have e : conc ρ (ebBI 4) = conc ρ ebBJ := by rw [← hc]; rfl
  have := wordTold (addFact_ok (rightE 4 .var) hb hr) ebB_run4
  rwa [e] at this
theorem wt5 {ρ : Env} (hf : FactsOk ρ ebBK) (hr : (den ρ (rightE 5 .var)).b = true) (hc : ρ.I 0 = 5) (r0 : CallsTo CX06 8 [conc ρ ebBJ] (blV true)) : ∃ v u said rt ft, WordTold (conc ρ ebBJ) (conc ρ ebBP) (ρ.B 8) v u said rt ft := by
  have hb := ebBF_sub hf
  have e : conc ρ (ebBI 5) = conc ρ ebBJ := by rw [← hc]; rfl
  have := wordTold (addFact_ok (rightE 5 .var) hb hr) ebB_run5
  rwa [e] at this
theorem wt6 {ρ : Env} (hf : FactsOk ρ ebBK) (hr : (den ρ (rightE 6 .var)).b = true) (hc : ρ.I 0 = 6) (r0 : CallsTo CX06 8 [conc ρ ebBJ] (blV true)) : ∃ v u said rt ft, WordTold (conc ρ ebBJ) (conc ρ ebBP) (ρ.B 8) v u said rt ft := by
  have hb := ebBF_sub hf
  have e : conc ρ (ebBI 6) = conc ρ ebBJ := by rw [← hc]; rfl
  have := wordTold (addFact_ok (rightE 6 .var) hb hr) ebB_run6
  rwa [e] at this
theorem wt7 {ρ : Env} (hf : FactsOk ρ ebBK) (hr : (den ρ (rightE 7 .var)).b = true) (hc : ρ.I 0 = 7) (r0 : CallsTo CX06 8 [conc ρ ebBJ] (blV true)) : ∃ v u said rt ft, WordTold (conc ρ ebBJ) (conc ρ ebBP) (ρ.B 8) v u said rt ft := by
  have hb := ebBF_sub hf
  have e : conc ρ (ebBI 7) = conc ρ ebBJ := by rw [← hc]; rfl
  have p0 : 0 ≤ ρ.I 11 := of_decide_eq_true (hf (.cmp .geq (.var 11) (.lit 0), true) (by simp [ebBK, ebBF]))
  have p1 : ρ.I 11 ≤ 4294967295 := of_decide_eq_true (hf (.cmp .leq (.var 11) (.lit 4294967295), true) (by simp [ebBK, ebBF]))
  have q0 : -9223372036854775808 ≤ ρ.I 10 := of_decide_eq_true (hf (.cmp .geq (.var 10) (.lit (-9223372036854775808)), true) (by simp [ebBK, ebBF, rightF]))
  have q1 : ρ.I 10 ≤ 9223372036854775807 := of_decide_eq_true (hf (.cmp .leq (.var 10) (.lit 9223372036854775807), true) (by simp [ebBK, ebBF, rightF]))
  cases h8 : ρ.B 8 with
  | true =>
    rw [← h8]
    have := wordTold ((addFact_ok (rightE 7 .var) hb hr).bit h8) ebB_run7t
    rwa [e] at this
  | false =>
    rw [← h8]
    obtain ⟨z, hz0⟩ : ∃ z, z = ρ.I 10 / 1 := ⟨_, rfl⟩
    by_cases hl : z ≤ -8193
    · have hd : (den (zE ρ z) (immY 1 0 10)).i = ρ.I 10 := immY_den (by omega) q0 q1 (by omega) (by omega)
      have hr2 : (den (zE ρ z) (rightE 7 (immY 1 0))).b = true := by
        rw [← hr]
        simp only [rightE, den, hd]
        rfl
      have hn := knowN_ok ((zF_ok hb (z := z) (a := (-9223372036854775808)) (b := (-8193)) (by omega) (by omega)).bit h8) ebB_z7l
      rw [hr2] at hn
      cases hn
    by_cases hh : z ≥ 8192
    · have hd : (den (zE ρ z) (immY 1 0 10)).i = ρ.I 10 := immY_den (by omega) q0 q1 (by omega) (by omega)
      have hr2 : (den (zE ρ z) (rightE 7 (immY 1 0))).b = true := by
        rw [← hr]
        simp only [rightE, den, hd]
        rfl
      have hn := knowN_ok ((zF_ok hb (z := z) (a := 8192) (b := 9223372036854775807) (by omega) (by omega)).bit h8) ebB_z7h
      rw [hr2] at hn
      cases hn
    by_cases hs : z ≤ -1
    · have hd : (den (zE ρ (z + 16384)) (immY 1 (-16384) 10)).i = ρ.I 10 := immY_den (by omega) q0 q1 (by omega) (by omega)
      have hr2 : (den (zE ρ (z + 16384)) (rightE 7 (immY 1 (-16384)))).b = true := by
        rw [← hr]
        simp only [rightE, den, hd]
        rfl
      have hz := addFact_ok (rightE 7 (immY 1 (-16384))) (zF_ok hb (z := (z + 16384)) (a := 8192) (b := 16383) (by omega) (by omega)) hr2
      have := wordTold (hz.bit h8) ebB_run7fn
      rw [zI_conc hd, zP_conc, e] at this
      exact this
    · have hd : (den (zE ρ z) (immY 1 0 10)).i = ρ.I 10 := immY_den (by omega) q0 q1 (by omega) (by omega)
      have hr2 : (den (zE ρ z) (rightE 7 (immY 1 0))).b = true := by
        rw [← hr]
        simp only [rightE, den, hd]
        rfl
      have hz := addFact_ok (rightE 7 (immY 1 0)) (zF_ok hb (z := z) (a := 0) (b := 8191) (by omega) (by omega)) hr2
      have := wordTold (hz.bit h8) ebB_run7fp
      rw [zI_conc hd, zP_conc, e] at this
      exact this
theorem wt8 {ρ : Env} (hf : FactsOk ρ ebBK) (hr : (den ρ (rightE 8 .var)).b = true) (hc : ρ.I 0 = 8) (r0 : CallsTo CX06 8 [conc ρ ebBJ] (blV true)) : ∃ v u said rt ft, WordTold (conc ρ ebBJ) (conc ρ ebBP) (ρ.B 8) v u said rt ft := by
  have hb := ebBF_sub hf
  have e : conc ρ (ebBI 8) = conc ρ ebBJ := by rw [← hc]; rfl
  have p0 : 0 ≤ ρ.I 11 := of_decide_eq_true (hf (.cmp .geq (.var 11) (.lit 0), true) (by simp [ebBK, ebBF]))
  have p1 : ρ.I 11 ≤ 4294967295 := of_decide_eq_true (hf (.cmp .leq (.var 11) (.lit 4294967295), true) (by simp [ebBK, ebBF]))
  have q0 : -9223372036854775808 ≤ ρ.I 10 := of_decide_eq_true (hf (.cmp .geq (.var 10) (.lit (-9223372036854775808)), true) (by simp [ebBK, ebBF, rightF]))
  have q1 : ρ.I 10 ≤ 9223372036854775807 := of_decide_eq_true (hf (.cmp .leq (.var 10) (.lit 9223372036854775807), true) (by simp [ebBK, ebBF, rightF]))
  cases h8 : ρ.B 8 with
  | true =>
    rw [← h8]
    have := wordTold ((addFact_ok (rightE 8 .var) hb hr).bit h8) ebB_run8t
    rwa [e] at this
  | false =>
    rw [← h8]
    obtain ⟨z, hz0⟩ : ∃ z, z = ρ.I 10 / 1 := ⟨_, rfl⟩
    by_cases hl : z ≤ -8193
    · have hd : (den (zE ρ z) (immY 1 0 10)).i = ρ.I 10 := immY_den (by omega) q0 q1 (by omega) (by omega)
      have hr2 : (den (zE ρ z) (rightE 8 (immY 1 0))).b = true := by
        rw [← hr]
        simp only [rightE, den, hd]
        rfl
      have hn := knowN_ok ((zF_ok hb (z := z) (a := (-9223372036854775808)) (b := (-8193)) (by omega) (by omega)).bit h8) ebB_z8l
      rw [hr2] at hn
      cases hn
    by_cases hh : z ≥ 8192
    · have hd : (den (zE ρ z) (immY 1 0 10)).i = ρ.I 10 := immY_den (by omega) q0 q1 (by omega) (by omega)
      have hr2 : (den (zE ρ z) (rightE 8 (immY 1 0))).b = true := by
        rw [← hr]
        simp only [rightE, den, hd]
        rfl
      have hn := knowN_ok ((zF_ok hb (z := z) (a := 8192) (b := 9223372036854775807) (by omega) (by omega)).bit h8) ebB_z8h
      rw [hr2] at hn
      cases hn
    by_cases hs : z ≤ -1
    · have hd : (den (zE ρ (z + 16384)) (immY 1 (-16384) 10)).i = ρ.I 10 := immY_den (by omega) q0 q1 (by omega) (by omega)
      have hr2 : (den (zE ρ (z + 16384)) (rightE 8 (immY 1 (-16384)))).b = true := by
        rw [← hr]
        simp only [rightE, den, hd]
        rfl
      have hz := addFact_ok (rightE 8 (immY 1 (-16384))) (zF_ok hb (z := (z + 16384)) (a := 8192) (b := 16383) (by omega) (by omega)) hr2
      have := wordTold (hz.bit h8) ebB_run8fn
      rw [zI_conc hd, zP_conc, e] at this
      exact this
    · have hd : (den (zE ρ z) (immY 1 0 10)).i = ρ.I 10 := immY_den (by omega) q0 q1 (by omega) (by omega)
      have hr2 : (den (zE ρ z) (rightE 8 (immY 1 0))).b = true := by
        rw [← hr]
        simp only [rightE, den, hd]
        rfl
      have hz := addFact_ok (rightE 8 (immY 1 0)) (zF_ok hb (z := z) (a := 0) (b := 8191) (by omega) (by omega)) hr2
      have := wordTold (hz.bit h8) ebB_run8fp
      rw [zI_conc hd, zP_conc, e] at this
      exact this
theorem wt9 {ρ : Env} (hf : FactsOk ρ ebBK) (hr : (den ρ (rightE 9 .var)).b = true) (hc : ρ.I 0 = 9) (r0 : CallsTo CX06 8 [conc ρ ebBJ] (blV true)) : ∃ v u said rt ft, WordTold (conc ρ ebBJ) (conc ρ ebBP) (ρ.B 8) v u said rt ft := by
  have hb := ebBF_sub hf
  have e : conc ρ (ebBI 9) = conc ρ ebBJ := by rw [← hc]; rfl
  have := wordTold (addFact_ok (rightE 9 .var) hb hr) ebB_run9
  rwa [e] at this
theorem wt10 {ρ : Env} (hf : FactsOk ρ ebBK) (hr : (den ρ (rightE 10 .var)).b = true) (hc : ρ.I 0 = 10) (r0 : CallsTo CX06 8 [conc ρ ebBJ] (blV true)) : ∃ v u said rt ft, WordTold (conc ρ ebBJ) (conc ρ ebBP) (ρ.B 8) v u said rt ft := by
  have hb := ebBF_sub hf
  have e : conc ρ (ebBI 10) = conc ρ ebBJ := by rw [← hc]; rfl
  have := wordTold (addFact_ok (rightE 10 .var) hb hr) ebB_run10
  rwa [e] at this
theorem wt11 {ρ : Env} (hf : FactsOk ρ ebBK) (hr : (den ρ (rightE 11 .var)).b = true) (hc : ρ.I 0 = 11) (r0 : CallsTo CX06 8 [conc ρ ebBJ] (blV true)) : ∃ v u said rt ft, WordTold (conc ρ ebBJ) (conc ρ ebBP) (ρ.B 8) v u said rt ft := by
  have hb := ebBF_sub hf
  have e : conc ρ (ebBI 11) = conc ρ ebBJ := by rw [← hc]; rfl
  have := wordTold (addFact_ok (rightE 11 .var) hb hr) ebB_run11
  rwa [e] at this
theorem wt12 {ρ : Env} (hf : FactsOk ρ ebBK) (hr : (den ρ (rightE 12 .var)).b = true) (hc : ρ.I 0 = 12) (r0 : CallsTo CX06 8 [conc ρ ebBJ] (blV true)) : ∃ v u said rt ft, WordTold (conc ρ ebBJ) (conc ρ ebBP) (ρ.B 8) v u said rt ft := by
  have hb := ebBF_sub hf
  have e : conc ρ (ebBI 12) = conc ρ ebBJ := by rw [← hc]; rfl
  have := wordTold (addFact_ok (rightE 12 .var) hb hr) ebB_run12
  rwa [e] at this
theorem wt13 {ρ : Env} (hf : FactsOk ρ ebBK) (hr : (den ρ (rightE 13 .var)).b = true) (hc : ρ.I 0 = 13) (r0 : CallsTo CX06 8 [conc ρ ebBJ] (blV true)) : ∃ v u said rt ft, WordTold (conc ρ ebBJ) (conc ρ ebBP) (ρ.B 8) v u said rt ft := by
  have hb := ebBF_sub hf
  have e : conc ρ (ebBI 13) = conc ρ ebBJ := by rw [← hc]; rfl
  have p0 : 0 ≤ ρ.I 11 := of_decide_eq_true (hf (.cmp .geq (.var 11) (.lit 0), true) (by simp [ebBK, ebBF]))
  have p1 : ρ.I 11 ≤ 4294967295 := of_decide_eq_true (hf (.cmp .leq (.var 11) (.lit 4294967295), true) (by simp [ebBK, ebBF]))
  have q0 : -9223372036854775808 ≤ ρ.I 10 := of_decide_eq_true (hf (.cmp .geq (.var 10) (.lit (-9223372036854775808)), true) (by simp [ebBK, ebBF, rightF]))
  have q1 : ρ.I 10 ≤ 9223372036854775807 := of_decide_eq_true (hf (.cmp .leq (.var 10) (.lit 9223372036854775807), true) (by simp [ebBK, ebBF, rightF]))
  cases h8 : ρ.B 8 with
  | true =>
    rw [← h8]
    have := wordTold ((addFact_ok (rightE 13 .var) hb hr).bit h8) ebB_run13t
    rwa [e] at this
  | false =>
    rw [← h8]
    obtain ⟨z, hz0⟩ : ∃ z, z = ρ.I 10 / 1 := ⟨_, rfl⟩
    by_cases hl : z ≤ -8193
    · have hd : (den (zE ρ z) (immY 1 0 10)).i = ρ.I 10 := immY_den (by omega) q0 q1 (by omega) (by omega)
      have hr2 : (den (zE ρ z) (rightE 13 (immY 1 0))).b = true := by
        rw [← hr]
        simp only [rightE, den, hd]
        rfl
      have hn := knowN_ok ((zF_ok hb (z := z) (a := (-9223372036854775808)) (b := (-8193)) (by omega) (by omega)).bit h8) ebB_z13l
      rw [hr2] at hn
      cases hn
    by_cases hh : z ≥ 8192
    · have hd : (den (zE ρ z) (immY 1 0 10)).i = ρ.I 10 := immY_den (by omega) q0 q1 (by omega) (by omega)
      have hr2 : (den (zE ρ z) (rightE 13 (immY 1 0))).b = true := by
        rw [← hr]
        simp only [rightE, den, hd]
        rfl
      have hn := knowN_ok ((zF_ok hb (z := z) (a := 8192) (b := 9223372036854775807) (by omega) (by omega)).bit h8) ebB_z13h
      rw [hr2] at hn
      cases hn
    by_cases hs : z ≤ -1
    · have hd : (den (zE ρ (z + 16384)) (immY 1 (-16384) 10)).i = ρ.I 10 := immY_den (by omega) q0 q1 (by omega) (by omega)
      have hr2 : (den (zE ρ (z + 16384)) (rightE 13 (immY 1 (-16384)))).b = true := by
        rw [← hr]
        simp only [rightE, den, hd]
        rfl
      have hz := addFact_ok (rightE 13 (immY 1 (-16384))) (zF_ok hb (z := (z + 16384)) (a := 8192) (b := 16383) (by omega) (by omega)) hr2
      have := wordTold (hz.bit h8) ebB_run13fn
      rw [zI_conc hd, zP_conc, e] at this
      exact this
    · have hd : (den (zE ρ z) (immY 1 0 10)).i = ρ.I 10 := immY_den (by omega) q0 q1 (by omega) (by omega)
      have hr2 : (den (zE ρ z) (rightE 13 (immY 1 0))).b = true := by
        rw [← hr]
        simp only [rightE, den, hd]
        rfl
      have hz := addFact_ok (rightE 13 (immY 1 0)) (zF_ok hb (z := z) (a := 0) (b := 8191) (by omega) (by omega)) hr2
      have := wordTold (hz.bit h8) ebB_run13fp
      rw [zI_conc hd, zP_conc, e] at this
      exact this
theorem wt14 {ρ : Env} (hf : FactsOk ρ ebBK) (hr : (den ρ (rightE 14 .var)).b = true) (hc : ρ.I 0 = 14) (r0 : CallsTo CX06 8 [conc ρ ebBJ] (blV true)) : ∃ v u said rt ft, WordTold (conc ρ ebBJ) (conc ρ ebBP) (ρ.B 8) v u said rt ft := by
  have hb := ebBF_sub hf
  have e : conc ρ (ebBI 14) = conc ρ ebBJ := by rw [← hc]; rfl
  have := wordTold (addFact_ok (rightE 14 .var) hb hr) ebB_run14
  rwa [e] at this
theorem wt15 {ρ : Env} (hf : FactsOk ρ ebBK) (hr : (den ρ (rightE 15 .var)).b = true) (hc : ρ.I 0 = 15) (r0 : CallsTo CX06 8 [conc ρ ebBJ] (blV true)) : ∃ v u said rt ft, WordTold (conc ρ ebBJ) (conc ρ ebBP) (ρ.B 8) v u said rt ft := by
  have hb := ebBF_sub hf
  have e : conc ρ (ebBI 15) = conc ρ ebBJ := by rw [← hc]; rfl
  have := wordTold (addFact_ok (rightE 15 .var) hb hr) ebB_run15
  rwa [e] at this
theorem wt16 {ρ : Env} (hf : FactsOk ρ ebBK) (hr : (den ρ (rightE 16 .var)).b = true) (hc : ρ.I 0 = 16) (r0 : CallsTo CX06 8 [conc ρ ebBJ] (blV true)) : ∃ v u said rt ft, WordTold (conc ρ ebBJ) (conc ρ ebBP) (ρ.B 8) v u said rt ft := by
  have hb := ebBF_sub hf
  have e : conc ρ (ebBI 16) = conc ρ ebBJ := by rw [← hc]; rfl
  have := wordTold (addFact_ok (rightE 16 .var) hb hr) ebB_run16
  rwa [e] at this
theorem wt17 {ρ : Env} (hf : FactsOk ρ ebBK) (hr : (den ρ (rightE 17 .var)).b = true) (hc : ρ.I 0 = 17) (r0 : CallsTo CX06 8 [conc ρ ebBJ] (blV true)) : ∃ v u said rt ft, WordTold (conc ρ ebBJ) (conc ρ ebBP) (ρ.B 8) v u said rt ft := by
  have hb := ebBF_sub hf
  have e : conc ρ (ebBI 17) = conc ρ ebBJ := by rw [← hc]; rfl
  have := wordTold (addFact_ok (rightE 17 .var) hb hr) ebB_run17
  rwa [e] at this
theorem wt18 {ρ : Env} (hf : FactsOk ρ ebBK) (hr : (den ρ (rightE 18 .var)).b = true) (hc : ρ.I 0 = 18) (r0 : CallsTo CX06 8 [conc ρ ebBJ] (blV true)) : ∃ v u said rt ft, WordTold (conc ρ ebBJ) (conc ρ ebBP) (ρ.B 8) v u said rt ft := by
  have hb := ebBF_sub hf
  have e : conc ρ (ebBI 18) = conc ρ ebBJ := by rw [← hc]; rfl
  have := wordTold (addFact_ok (rightE 18 .var) hb hr) ebB_run18
  rwa [e] at this
theorem wt19 {ρ : Env} (hf : FactsOk ρ ebBK) (hr : (den ρ (rightE 19 .var)).b = true) (hc : ρ.I 0 = 19) (r0 : CallsTo CX06 8 [conc ρ ebBJ] (blV true)) : ∃ v u said rt ft, WordTold (conc ρ ebBJ) (conc ρ ebBP) (ρ.B 8) v u said rt ft := by
  have hb := ebBF_sub hf
  have e : conc ρ (ebBI 19) = conc ρ ebBJ := by rw [← hc]; rfl
  have := wordTold (addFact_ok (rightE 19 .var) hb hr) ebB_run19
  rwa [e] at this
theorem wt20 {ρ : Env} (hf : FactsOk ρ ebBK) (hr : (den ρ (rightE 20 .var)).b = true) (hc : ρ.I 0 = 20) (r0 : CallsTo CX06 8 [conc ρ ebBJ] (blV true)) : ∃ v u said rt ft, WordTold (conc ρ ebBJ) (conc ρ ebBP) (ρ.B 8) v u said rt ft := by
  have hb := ebBF_sub hf
  have e : conc ρ (ebBI 20) = conc ρ ebBJ := by rw [← hc]; rfl
  have := wordTold (addFact_ok (rightE 20 .var) hb hr) ebB_run20
  rwa [e] at this
theorem wt21 {ρ : Env} (hf : FactsOk ρ ebBK) (hr : (den ρ (rightE 21 .var)).b = true) (hc : ρ.I 0 = 21) (r0 : CallsTo CX06 8 [conc ρ ebBJ] (blV true)) : ∃ v u said rt ft, WordTold (conc ρ ebBJ) (conc ρ ebBP) (ρ.B 8) v u said rt ft := by
  have hb := ebBF_sub hf
  have e : conc ρ (ebBI 21) = conc ρ ebBJ := by rw [← hc]; rfl
  have p0 : 0 ≤ ρ.I 11 := of_decide_eq_true (hf (.cmp .geq (.var 11) (.lit 0), true) (by simp [ebBK, ebBF]))
  have p1 : ρ.I 11 ≤ 4294967295 := of_decide_eq_true (hf (.cmp .leq (.var 11) (.lit 4294967295), true) (by simp [ebBK, ebBF]))
  have q0 : -9223372036854775808 ≤ ρ.I 10 := of_decide_eq_true (hf (.cmp .geq (.var 10) (.lit (-9223372036854775808)), true) (by simp [ebBK, ebBF, rightF]))
  have q1 : ρ.I 10 ≤ 9223372036854775807 := of_decide_eq_true (hf (.cmp .leq (.var 10) (.lit 9223372036854775807), true) (by simp [ebBK, ebBF, rightF]))
  cases h8 : ρ.B 8 with
  | true =>
    rw [← h8]
    have := wordTold ((addFact_ok (rightE 21 .var) hb hr).bit h8) ebB_run21t
    rwa [e] at this
  | false =>
    rw [← h8]
    obtain ⟨z, hz0⟩ : ∃ z, z = ρ.I 10 / 4 := ⟨_, rfl⟩
    by_cases h4 : ρ.I 10 % 4 = 1
    · have hd : (den (zE ρ z) (immY 4 1 10)).i = ρ.I 10 := immY_den (by omega) q0 q1 (by omega) (by omega)
      have hr2 : (den (zE ρ z) (rightE 21 (immY 4 1))).b = true := by
        rw [← hr]
        simp only [rightE, den, hd]
        rfl
      have hn := knowN_ok ((zF_ok hb (z := z) (a := (-2305843009213693952)) (b := 2305843009213693951) (by omega) (by omega)).bit h8) ebB_z21_1
      rw [hr2] at hn
      cases hn
    by_cases h4 : ρ.I 10 % 4 = 2
    · have hd : (den (zE ρ z) (immY 4 2 10)).i = ρ.I 10 := immY_den (by omega) q0 q1 (by omega) (by omega)
      have hr2 : (den (zE ρ z) (rightE 21 (immY 4 2))).b = true := by
        rw [← hr]
        simp only [rightE, den, hd]
        rfl
      have hn := knowN_ok ((zF_ok hb (z := z) (a := (-2305843009213693952)) (b := 2305843009213693951) (by omega) (by omega)).bit h8) ebB_z21_2
      rw [hr2] at hn
      cases hn
    by_cases h4 : ρ.I 10 % 4 = 3
    · have hd : (den (zE ρ z) (immY 4 3 10)).i = ρ.I 10 := immY_den (by omega) q0 q1 (by omega) (by omega)
      have hr2 : (den (zE ρ z) (rightE 21 (immY 4 3))).b = true := by
        rw [← hr]
        simp only [rightE, den, hd]
        rfl
      have hn := knowN_ok ((zF_ok hb (z := z) (a := (-2305843009213693952)) (b := 2305843009213693951) (by omega) (by omega)).bit h8) ebB_z21_3
      rw [hr2] at hn
      cases hn
    by_cases hl : z ≤ -2049
    · have hd : (den (zE ρ z) (immY 4 0 10)).i = ρ.I 10 := immY_den (by omega) q0 q1 (by omega) (by omega)
      have hr2 : (den (zE ρ z) (rightE 21 (immY 4 0))).b = true := by
        rw [← hr]
        simp only [rightE, den, hd]
        rfl
      have hn := knowN_ok ((zF_ok hb (z := z) (a := (-2305843009213693952)) (b := (-2049)) (by omega) (by omega)).bit h8) ebB_z21l
      rw [hr2] at hn
      cases hn
    by_cases hh : z ≥ 2048
    · have hd : (den (zE ρ z) (immY 4 0 10)).i = ρ.I 10 := immY_den (by omega) q0 q1 (by omega) (by omega)
      have hr2 : (den (zE ρ z) (rightE 21 (immY 4 0))).b = true := by
        rw [← hr]
        simp only [rightE, den, hd]
        rfl
      have hn := knowN_ok ((zF_ok hb (z := z) (a := 2048) (b := 2305843009213693951) (by omega) (by omega)).bit h8) ebB_z21h
      rw [hr2] at hn
      cases hn
    by_cases hs : z ≤ -1
    · have hd : (den (zE ρ (z + 4096)) (immY 4 (-16384) 10)).i = ρ.I 10 := immY_den (by omega) q0 q1 (by omega) (by omega)
      have hr2 : (den (zE ρ (z + 4096)) (rightE 21 (immY 4 (-16384)))).b = true := by
        rw [← hr]
        simp only [rightE, den, hd]
        rfl
      have hz := addFact_ok (rightE 21 (immY 4 (-16384))) (zF_ok hb (z := (z + 4096)) (a := 2048) (b := 4095) (by omega) (by omega)) hr2
      have := wordTold (hz.bit h8) ebB_run21fn
      rw [zI_conc hd, zP_conc, e] at this
      exact this
    · have hd : (den (zE ρ z) (immY 4 0 10)).i = ρ.I 10 := immY_den (by omega) q0 q1 (by omega) (by omega)
      have hr2 : (den (zE ρ z) (rightE 21 (immY 4 0))).b = true := by
        rw [← hr]
        simp only [rightE, den, hd]
        rfl
      have hz := addFact_ok (rightE 21 (immY 4 0)) (zF_ok hb (z := z) (a := 0) (b := 2047) (by omega) (by omega)) hr2
      have := wordTold (hz.bit h8) ebB_run21fp
      rw [zI_conc hd, zP_conc, e] at this
      exact this
theorem wt22 {ρ : Env} (hf : FactsOk ρ ebBK) (hr : (den ρ (rightE 22 .var)).b = true) (hc : ρ.I 0 = 22) (r0 : CallsTo CX06 8 [conc ρ ebBJ] (blV true)) : ∃ v u said rt ft, WordTold (conc ρ ebBJ) (conc ρ ebBP) (ρ.B 8) v u said rt ft := by
  have hb := ebBF_sub hf
  have e : conc ρ (ebBI 22) = conc ρ ebBJ := by rw [← hc]; rfl
  have p0 : 0 ≤ ρ.I 11 := of_decide_eq_true (hf (.cmp .geq (.var 11) (.lit 0), true) (by simp [ebBK, ebBF]))
  have p1 : ρ.I 11 ≤ 4294967295 := of_decide_eq_true (hf (.cmp .leq (.var 11) (.lit 4294967295), true) (by simp [ebBK, ebBF]))
  have q0 : -9223372036854775808 ≤ ρ.I 10 := of_decide_eq_true (hf (.cmp .geq (.var 10) (.lit (-9223372036854775808)), true) (by simp [ebBK, ebBF, rightF]))
  have q1 : ρ.I 10 ≤ 9223372036854775807 := of_decide_eq_true (hf (.cmp .leq (.var 10) (.lit 9223372036854775807), true) (by simp [ebBK, ebBF, rightF]))
  cases h8 : ρ.B 8 with
  | true =>
    rw [← h8]
    have := wordTold ((addFact_ok (rightE 22 .var) hb hr).bit h8) ebB_run22t
    rwa [e] at this
  | false =>
    rw [← h8]
    obtain ⟨z, hz0⟩ : ∃ z, z = ρ.I 10 / 2 := ⟨_, rfl⟩
    by_cases h4 : ρ.I 10 % 2 = 1
    · have hd : (den (zE ρ z) (immY 2 1 10)).i = ρ.I 10 := immY_den (by omega) q0 q1 (by omega) (by omega)
      have hr2 : (den (zE ρ z) (rightE 22 (immY 2 1))).b = true := by
        rw [← hr]
        simp only [rightE, den, hd]
        rfl
      have hn := knowN_ok ((zF_ok hb (z := z) (a := (-4611686018427387904)) (b := 4611686018427387903) (by omega) (by omega)).bit h8) ebB_z22_1
      rw [hr2] at hn
      cases hn
    by_cases hl : z ≤ -2049
    · have hd : (den (zE ρ z) (immY 2 0 10)).i = ρ.I 10 := immY_den (by omega) q0 q1 (by omega) (by omega)
      have hr2 : (den (zE ρ z) (rightE 22 (immY 2 0))).b = true := by
        rw [← hr]
        simp only [rightE, den, hd]
        rfl
      have hn := knowN_ok ((zF_ok hb (z := z) (a := (-4611686018427387904)) (b := (-2049)) (by omega) (by omega)).bit h8) ebB_z22l
      rw [hr2] at hn
      cases hn
    by_cases hh : z ≥ 2048
    · have hd : (den (zE ρ z) (immY 2 0 10)).i = ρ.I 10 := immY_den (by omega) q0 q1 (by omega) (by omega)
      have hr2 : (den (zE ρ z) (rightE 22 (immY 2 0))).b = true := by
        rw [← hr]
        simp only [rightE, den, hd]
        rfl
      have hn := knowN_ok ((zF_ok hb (z := z) (a := 2048) (b := 4611686018427387903) (by omega) (by omega)).bit h8) ebB_z22h
      rw [hr2] at hn
      cases hn
    by_cases hs : z ≤ -1
    · have hd : (den (zE ρ (z + 4096)) (immY 2 (-8192) 10)).i = ρ.I 10 := immY_den (by omega) q0 q1 (by omega) (by omega)
      have hr2 : (den (zE ρ (z + 4096)) (rightE 22 (immY 2 (-8192)))).b = true := by
        rw [← hr]
        simp only [rightE, den, hd]
        rfl
      have hz := addFact_ok (rightE 22 (immY 2 (-8192))) (zF_ok hb (z := (z + 4096)) (a := 2048) (b := 4095) (by omega) (by omega)) hr2
      have := wordTold (hz.bit h8) ebB_run22fn
      rw [zI_conc hd, zP_conc, e] at this
      exact this
    · have hd : (den (zE ρ z) (immY 2 0 10)).i = ρ.I 10 := immY_den (by omega) q0 q1 (by omega) (by omega)
      have hr2 : (den (zE ρ z) (rightE 22 (immY 2 0))).b = true := by
        rw [← hr]
        simp only [rightE, den, hd]
        rfl
      have hz := addFact_ok (rightE 22 (immY 2 0)) (zF_ok hb (z := z) (a := 0) (b := 2047) (by omega) (by omega)) hr2
      have := wordTold (hz.bit h8) ebB_run22fp
      rw [zI_conc hd, zP_conc, e] at this
      exact this
theorem wt23 {ρ : Env} (hf : FactsOk ρ ebBK) (hr : (den ρ (rightE 23 .var)).b = true) (hc : ρ.I 0 = 23) (r0 : CallsTo CX06 8 [conc ρ ebBJ] (blV true)) : ∃ v u said rt ft, WordTold (conc ρ ebBJ) (conc ρ ebBP) (ρ.B 8) v u said rt ft := by
  have hb := ebBF_sub hf
  have e : conc ρ (ebBI 23) = conc ρ ebBJ := by rw [← hc]; rfl
  have p0 : 0 ≤ ρ.I 11 := of_decide_eq_true (hf (.cmp .geq (.var 11) (.lit 0), true) (by simp [ebBK, ebBF]))
  have p1 : ρ.I 11 ≤ 4294967295 := of_decide_eq_true (hf (.cmp .leq (.var 11) (.lit 4294967295), true) (by simp [ebBK, ebBF]))
  have q0 : -9223372036854775808 ≤ ρ.I 10 := of_decide_eq_true (hf (.cmp .geq (.var 10) (.lit (-9223372036854775808)), true) (by simp [ebBK, ebBF, rightF]))
  have q1 : ρ.I 10 ≤ 9223372036854775807 := of_decide_eq_true (hf (.cmp .leq (.var 10) (.lit 9223372036854775807), true) (by simp [ebBK, ebBF, rightF]))
  cases h8 : ρ.B 8 with
  | true =>
    rw [← h8]
    have := wordTold ((addFact_ok (rightE 23 .var) hb hr).bit h8) ebB_run23t
    rwa [e] at this
  | false =>
    rw [← h8]
    obtain ⟨z, hz0⟩ : ∃ z, z = ρ.I 10 / 1 := ⟨_, rfl⟩
    by_cases hl : z ≤ -2049
    · have hd : (den (zE ρ z) (immY 1 0 10)).i = ρ.I 10 := immY_den (by omega) q0 q1 (by omega) (by omega)
      have hr2 : (den (zE ρ z) (rightE 23 (immY 1 0))).b = true := by
        rw [← hr]
        simp only [rightE, den, hd]
        rfl
      have hn := knowN_ok ((zF_ok hb (z := z) (a := (-9223372036854775808)) (b := (-2049)) (by omega) (by omega)).bit h8) ebB_z23l
      rw [hr2] at hn
      cases hn
    by_cases hh : z ≥ 2048
    · have hd : (den (zE ρ z) (immY 1 0 10)).i = ρ.I 10 := immY_den (by omega) q0 q1 (by omega) (by omega)
      have hr2 : (den (zE ρ z) (rightE 23 (immY 1 0))).b = true := by
        rw [← hr]
        simp only [rightE, den, hd]
        rfl
      have hn := knowN_ok ((zF_ok hb (z := z) (a := 2048) (b := 9223372036854775807) (by omega) (by omega)).bit h8) ebB_z23h
      rw [hr2] at hn
      cases hn
    by_cases hs : z ≤ -1
    · have hd : (den (zE ρ (z + 4096)) (immY 1 (-4096) 10)).i = ρ.I 10 := immY_den (by omega) q0 q1 (by omega) (by omega)
      have hr2 : (den (zE ρ (z + 4096)) (rightE 23 (immY 1 (-4096)))).b = true := by
        rw [← hr]
        simp only [rightE, den, hd]
        rfl
      have hz := addFact_ok (rightE 23 (immY 1 (-4096))) (zF_ok hb (z := (z + 4096)) (a := 2048) (b := 4095) (by omega) (by omega)) hr2
      have := wordTold (hz.bit h8) ebB_run23fn
      rw [zI_conc hd, zP_conc, e] at this
      exact this
    · have hd : (den (zE ρ z) (immY 1 0 10)).i = ρ.I 10 := immY_den (by omega) q0 q1 (by omega) (by omega)
      have hr2 : (den (zE ρ z) (rightE 23 (immY 1 0))).b = true := by
        rw [← hr]
        simp only [rightE, den, hd]
        rfl
      have hz := addFact_ok (rightE 23 (immY 1 0)) (zF_ok hb (z := z) (a := 0) (b := 2047) (by omega) (by omega)) hr2
      have := wordTold (hz.bit h8) ebB_run23fp
      rw [zI_conc hd, zP_conc, e] at this
      exact this
theorem wt24 {ρ : Env} (hf : FactsOk ρ ebBK) (hr : (den ρ (rightE 24 .var)).b = true) (hc : ρ.I 0 = 24) (r0 : CallsTo CX06 8 [conc ρ ebBJ] (blV true)) : ∃ v u said rt ft, WordTold (conc ρ ebBJ) (conc ρ ebBP) (ρ.B 8) v u said rt ft := by
  have hb := ebBF_sub hf
  have e : conc ρ (ebBI 24) = conc ρ ebBJ := by rw [← hc]; rfl
  have p0 : 0 ≤ ρ.I 11 := of_decide_eq_true (hf (.cmp .geq (.var 11) (.lit 0), true) (by simp [ebBK, ebBF]))
  have p1 : ρ.I 11 ≤ 4294967295 := of_decide_eq_true (hf (.cmp .leq (.var 11) (.lit 4294967295), true) (by simp [ebBK, ebBF]))
  have q0 : -9223372036854775808 ≤ ρ.I 10 := of_decide_eq_true (hf (.cmp .geq (.var 10) (.lit (-9223372036854775808)), true) (by simp [ebBK, ebBF, rightF]))
  have q1 : ρ.I 10 ≤ 9223372036854775807 := of_decide_eq_true (hf (.cmp .leq (.var 10) (.lit 9223372036854775807), true) (by simp [ebBK, ebBF, rightF]))
  cases h8 : ρ.B 8 with
  | true =>
    rw [← h8]
    cases h7 : ρ.B 7 with
    | true =>
      have := wordTold (((addFact_ok (rightE 24 .var) hb hr).bit h7).bit h8) ebB_run24tt
      rwa [e] at this
    | false =>
      have := wordTold (((addFact_ok (rightE 24 .var) hb hr).bit h7).bit h8) ebB_run24tf
      rwa [e] at this
  | false =>
    rw [← h8]
    obtain ⟨z, hz0⟩ : ∃ z, z = ρ.I 10 / 4 := ⟨_, rfl⟩
    by_cases h4 : ρ.I 10 % 4 = 1
    · have hd : (den (zE ρ z) (immY 4 1 10)).i = ρ.I 10 := immY_den (by omega) q0 q1 (by omega) (by omega)
      have hr2 : (den (zE ρ z) (rightE 24 (immY 4 1))).b = true := by
        rw [← hr]
        simp only [rightE, den, hd]
        rfl
      have hn := knowN_ok ((zF_ok hb (z := z) (a := (-2305843009213693952)) (b := 2305843009213693951) (by omega) (by omega)).bit h8) ebB_z24_1
      rw [hr2] at hn
      cases hn
    by_cases h4 : ρ.I 10 % 4 = 2
    · have hd : (den (zE ρ z) (immY 4 2 10)).i = ρ.I 10 := immY_den (by omega) q0 q1 (by omega) (by omega)
      have hr2 : (den (zE ρ z) (rightE 24 (immY 4 2))).b = true := by
        rw [← hr]
        simp only [rightE, den, hd]
        rfl
      have hn := knowN_ok ((zF_ok hb (z := z) (a := (-2305843009213693952)) (b := 2305843009213693951) (by omega) (by omega)).bit h8) ebB_z24_2
      rw [hr2] at hn
      cases hn
    by_cases h4 : ρ.I 10 % 4 = 3
    · have hd : (den (zE ρ z) (immY 4 3 10)).i = ρ.I 10 := immY_den (by omega) q0 q1 (by omega) (by omega)
      have hr2 : (den (zE ρ z) (rightE 24 (immY 4 3))).b = true := by
        rw [← hr]
        simp only [rightE, den, hd]
        rfl
      have hn := knowN_ok ((zF_ok hb (z := z) (a := (-2305843009213693952)) (b := 2305843009213693951) (by omega) (by omega)).bit h8) ebB_z24_3
      rw [hr2] at hn
      cases hn
    by_cases hl : z ≤ -2049
    · have hd : (den (zE ρ z) (immY 4 0 10)).i = ρ.I 10 := immY_den (by omega) q0 q1 (by omega) (by omega)
      have hr2 : (den (zE ρ z) (rightE 24 (immY 4 0))).b = true := by
        rw [← hr]
        simp only [rightE, den, hd]
        rfl
      have hn := knowN_ok ((zF_ok hb (z := z) (a := (-2305843009213693952)) (b := (-2049)) (by omega) (by omega)).bit h8) ebB_z24l
      rw [hr2] at hn
      cases hn
    by_cases hh : z ≥ 2048
    · have hd : (den (zE ρ z) (immY 4 0 10)).i = ρ.I 10 := immY_den (by omega) q0 q1 (by omega) (by omega)
      have hr2 : (den (zE ρ z) (rightE 24 (immY 4 0))).b = true := by
        rw [← hr]
        simp only [rightE, den, hd]
        rfl
      have hn := knowN_ok ((zF_ok hb (z := z) (a := 2048) (b := 2305843009213693951) (by omega) (by omega)).bit h8) ebB_z24h
      rw [hr2] at hn
      cases hn
    by_cases hs : z ≤ -1
    · cases h7 : ρ.B 7 with
      | true =>
        have hd : (den (zE ρ (z + 4096)) (immY 4 (-16384) 10)).i = ρ.I 10 := immY_den (by omega) q0 q1 (by omega) (by omega)
        have hr2 : (den (zE ρ (z + 4096)) (rightE 24 (immY 4 (-16384)))).b = true := by
          rw [← hr]
          simp only [rightE, den, hd]
          rfl
        have hz := addFact_ok (rightE 24 (immY 4 (-16384))) (zF_ok hb (z := (z + 4096)) (a := 2048) (b := 4095) (by omega) (by omega)) hr2
        have := wordTold ((hz.bit h7).bit h8) ebB_run24ftn
        rw [zI_conc hd, zP_conc, e] at this
        exact this
      | false =>
        have hd : (den (zE ρ (z + 4096)) (immY 4 (-16384) 10)).i = ρ.I 10 := immY_den (by omega) q0 q1 (by omega) (by omega)
        have hr2 : (den (zE ρ (z + 4096)) (rightE 24 (immY 4 (-16384)))).b = true := by
          rw [← hr]
          simp only [rightE, den, hd]
          rfl
        have hz := addFact_ok (rightE 24 (immY 4 (-16384))) (zF_ok hb (z := (z + 4096)) (a := 2048) (b := 4095) (by omega) (by omega)) hr2
        have := wordTold ((hz.bit h7).bit h8) ebB_run24ffn
        rw [zI_conc hd, zP_conc, e] at this
        exact this
    · cases h7 : ρ.B 7 with
      | true =>
        have hd : (den (zE ρ z) (immY 4 0 10)).i = ρ.I 10 := immY_den (by omega) q0 q1 (by omega) (by omega)
        have hr2 : (den (zE ρ z) (rightE 24 (immY 4 0))).b = true := by
          rw [← hr]
          simp only [rightE, den, hd]
          rfl
        have hz := addFact_ok (rightE 24 (immY 4 0)) (zF_ok hb (z := z) (a := 0) (b := 2047) (by omega) (by omega)) hr2
        have := wordTold ((hz.bit h7).bit h8) ebB_run24ftp
        rw [zI_conc hd, zP_conc, e] at this
        exact this
      | false =>
        have hd : (den (zE ρ z) (immY 4 0 10)).i = ρ.I 10 := immY_den (by omega) q0 q1 (by omega) (by omega)
        have hr2 : (den (zE ρ z) (rightE 24 (immY 4 0))).b = true := by
          rw [← hr]
          simp only [rightE, den, hd]
          rfl
        have hz := addFact_ok (rightE 24 (immY 4 0)) (zF_ok hb (z := z) (a := 0) (b := 2047) (by omega) (by omega)) hr2
        have := wordTold ((hz.bit h7).bit h8) ebB_run24ffp
        rw [zI_conc hd, zP_conc, e] at this
        exact this
theorem wt25 {ρ : Env} (hf : FactsOk ρ ebBK) (hr : (den ρ (rightE 25 .var)).b = true) (hc : ρ.I 0 = 25) (r0 : CallsTo CX06 8 [conc ρ ebBJ] (blV true)) : ∃ v u said rt ft, WordTold (conc ρ ebBJ) (conc ρ ebBP) (ρ.B 8) v u said rt ft := by
  have hb := ebBF_sub hf
  have e : conc ρ (ebBI 25) = conc ρ ebBJ := by rw [← hc]; rfl
  have p0 : 0 ≤ ρ.I 11 := of_decide_eq_true (hf (.cmp .geq (.var 11) (.lit 0), true) (by simp [ebBK, ebBF]))
  have p1 : ρ.I 11 ≤ 4294967295 := of_decide_eq_true (hf (.cmp .leq (.var 11) (.lit 4294967295), true) (by simp [ebBK, ebBF]))
  have q0 : -9223372036854775808 ≤ ρ.I 10 := of_decide_eq_true (hf (.cmp .geq (.var 10) (.lit (-9223372036854775808)), true) (by simp [ebBK, ebBF, rightF]))
  have q1 : ρ.I 10 ≤ 9223372036854775807 := of_decide_eq_true (hf (.cmp .leq (.var 10) (.lit 9223372036854775807), true) (by simp [ebBK, ebBF, rightF]))
  cases h8 : ρ.B 8 with
  | true =>
    rw [← h8]
    cases h7 : ρ.B 7 with
    | true =>
      have := wordTold (((addFact_ok (rightE 25 .var) hb hr).bit h7).bit h8) ebB_run25tt
      rwa [e] at this
    | false =>
      have := wordTold (((addFact_ok (rightE 25 .var) hb hr).bit h7).bit h8) ebB_run25tf
      rwa [e] at this
  | false =>
    rw [← h8]
    obtain ⟨z, hz0⟩ : ∃ z, z = ρ.I 10 / 2 := ⟨_, rfl⟩
    by_cases h4 : ρ.I 10 % 2 = 1
    · have hd : (den (zE ρ z) (immY 2 1 10)).i = ρ.I 10 := immY_den (by omega) q0 q1 (by omega) (by omega)
      have hr2 : (den (zE ρ z) (rightE 25 (immY 2 1))).b = true := by
        rw [← hr]
        simp only [rightE, den, hd]
        rfl
      have hn := knowN_ok ((zF_ok hb (z := z) (a := (-4611686018427387904)) (b := 4611686018427387903) (by omega) (by omega)).bit h8) ebB_z25_1
      rw [hr2] at hn
      cases hn
    by_cases hl : z ≤ -2049
    · have hd : (den (zE ρ z) (immY 2 0 10)).i = ρ.I 10 := immY_den (by omega) q0 q1 (by omega) (by omega)
      have hr2 : (den (zE ρ z) (rightE 25 (immY 2 0))).b = true := by
        rw [← hr]
        simp only [rightE, den, hd]
        rfl
      have hn := knowN_ok ((zF_ok hb (z := z) (a := (-4611686018427387904)) (b := (-2049)) (by omega) (by omega)).bit h8) ebB_z25l
      rw [hr2] at hn
      cases hn
    by_cases hh : z ≥ 2048
    · have hd : (den (zE ρ z) (immY 2 0 10)).i = ρ.I 10 := immY_den (by omega) q0 q1 (by omega) (by omega)
      have hr2 : (den (zE ρ z) (rightE 25 (immY 2 0))).b = true := by
        rw [← hr]
        simp only [rightE, den, hd]
        rfl
      have hn := knowN_ok ((zF_ok hb (z := z) (a := 2048) (b := 4611686018427387903) (by omega) (by omega)).bit h8) ebB_z25h
      rw [hr2] at hn
      cases hn
    by_cases hs : z ≤ -1
    · cases h7 : ρ.B 7 with
      | true =>
        have hd : (den (zE ρ (z + 4096)) (immY 2 (-8192) 10)).i = ρ.I 10 := immY_den (by omega) q0 q1 (by omega) (by omega)
        have hr2 : (den (zE ρ (z + 4096)) (rightE 25 (immY 2 (-8192)))).b = true := by
          rw [← hr]
          simp only [rightE, den, hd]
          rfl
        have hz := addFact_ok (rightE 25 (immY 2 (-8192))) (zF_ok hb (z := (z + 4096)) (a := 2048) (b := 4095) (by omega) (by omega)) hr2
        have := wordTold ((hz.bit h7).bit h8) ebB_run25ftn
        rw [zI_conc hd, zP_conc, e] at this
        exact this
      | false =>
        have hd : (den (zE ρ (z + 4096)) (immY 2 (-8192) 10)).i = ρ.I 10 := immY_den (by omega) q0 q1 (by omega) (by omega)
        have hr2 : (den (zE ρ (z + 4096)) (rightE 25 (immY 2 (-8192)))).b = true := by
          rw [← hr]
          simp only [rightE, den, hd]
          rfl
        have hz := addFact_ok (rightE 25 (immY 2 (-8192))) (zF_ok hb (z := (z + 4096)) (a := 2048) (b := 4095) (by omega) (by omega)) hr2
        have := wordTold ((hz.bit h7).bit h8) ebB_run25ffn
        rw [zI_conc hd, zP_conc, e] at this
        exact this
    · cases h7 : ρ.B 7 with
      | true =>
        have hd : (den (zE ρ z) (immY 2 0 10)).i = ρ.I 10 := immY_den (by omega) q0 q1 (by omega) (by omega)
        have hr2 : (den (zE ρ z) (rightE 25 (immY 2 0))).b = true := by
          rw [← hr]
          simp only [rightE, den, hd]
          rfl
        have hz := addFact_ok (rightE 25 (immY 2 0)) (zF_ok hb (z := z) (a := 0) (b := 2047) (by omega) (by omega)) hr2
        have := wordTold ((hz.bit h7).bit h8) ebB_run25ftp
        rw [zI_conc hd, zP_conc, e] at this
        exact this
      | false =>
        have hd : (den (zE ρ z) (immY 2 0 10)).i = ρ.I 10 := immY_den (by omega) q0 q1 (by omega) (by omega)
        have hr2 : (den (zE ρ z) (rightE 25 (immY 2 0))).b = true := by
          rw [← hr]
          simp only [rightE, den, hd]
          rfl
        have hz := addFact_ok (rightE 25 (immY 2 0)) (zF_ok hb (z := z) (a := 0) (b := 2047) (by omega) (by omega)) hr2
        have := wordTold ((hz.bit h7).bit h8) ebB_run25ffp
        rw [zI_conc hd, zP_conc, e] at this
        exact this
theorem wt26 {ρ : Env} (hf : FactsOk ρ ebBK) (hr : (den ρ (rightE 26 .var)).b = true) (hc : ρ.I 0 = 26) (r0 : CallsTo CX06 8 [conc ρ ebBJ] (blV true)) : ∃ v u said rt ft, WordTold (conc ρ ebBJ) (conc ρ ebBP) (ρ.B 8) v u said rt ft := by
  have hb := ebBF_sub hf
  have e : conc ρ (ebBI 26) = conc ρ ebBJ := by rw [← hc]; rfl
  have p0 : 0 ≤ ρ.I 11 := of_decide_eq_true (hf (.cmp .geq (.var 11) (.lit 0), true) (by simp [ebBK, ebBF]))
  have p1 : ρ.I 11 ≤ 4294967295 := of_decide_eq_true (hf (.cmp .leq (.var 11) (.lit 4294967295), true) (by simp [ebBK, ebBF]))
  have q0 : -9223372036854775808 ≤ ρ.I 10 := of_decide_eq_true (hf (.cmp .geq (.var 10) (.lit (-9223372036854775808)), true) (by simp [ebBK, ebBF, rightF]))
  have q1 : ρ.I 10 ≤ 9223372036854775807 := of_decide_eq_true (hf (.cmp .leq (.var 10) (.lit 9223372036854775807), true) (by simp [ebBK, ebBF, rightF]))
  cases h8 : ρ.B 8 with
  | true =>
    rw [← h8]
    cases h7 : ρ.B 7 with
    | true =>
      have := wordTold (((addFact_ok (rightE 26 .var) hb hr).bit h7).bit h8) ebB_run26tt
      rwa [e] at this
    | false =>
      have := wordTold (((addFact_ok (rightE 26 .var) hb hr).bit h7).bit h8) ebB_run26tf
      rwa [e] at this
  | false =>
    rw [← h8]
    obtain ⟨z, hz0⟩ : ∃ z, z = ρ.I 10 / 1 := ⟨_, rfl⟩
    by_cases hl : z ≤ -2049
    · have hd : (den (zE ρ z) (immY 1 0 10)).i = ρ.I 10 := immY_den (by omega) q0 q1 (by omega) (by omega)
      have hr2 : (den (zE ρ z) (rightE 26 (immY 1 0))).b = true := by
        rw [← hr]
        simp only [rightE, den, hd]
        rfl
      have hn := knowN_ok ((zF_ok hb (z := z) (a := (-9223372036854775808)) (b := (-2049)) (by omega) (by omega)).bit h8) ebB_z26l
      rw [hr2] at hn
      cases hn
    by_cases hh : z ≥ 2048
    · have hd : (den (zE ρ z) (immY 1 0 10)).i = ρ.I 10 := immY_den (by omega) q0 q1 (by omega) (by omega)
      have hr2 : (den (zE ρ z) (rightE 26 (immY 1 0))).b = true := by
        rw [← hr]
        simp only [rightE, den, hd]
        rfl
      have hn := knowN_ok ((zF_ok hb (z := z) (a := 2048) (b := 9223372036854775807) (by omega) (by omega)).bit h8) ebB_z26h
      rw [hr2] at hn
      cases hn
    by_cases hs : z ≤ -1
    · cases h7 : ρ.B 7 with
      | true =>
        have hd : (den (zE ρ (z + 4096)) (immY 1 (-4096) 10)).i = ρ.I 10 := immY_den (by omega) q0 q1 (by omega) (by omega)
        have hr2 : (den (zE ρ (z + 4096)) (rightE 26 (immY 1 (-4096)))).b = true := by
          rw [← hr]
          simp only [rightE, den, hd]
          rfl
        have hz := addFact_ok (rightE 26 (immY 1 (-4096))) (zF_ok hb (z := (z + 4096)) (a := 2048) (b := 4095) (by omega) (by omega)) hr2
        have := wordTold ((hz.bit h7).bit h8) ebB_run26ftn
        rw [zI_conc hd, zP_conc, e] at this
        exact this
      | false =>
        have hd : (den (zE ρ (z + 4096)) (immY 1 (-4096) 10)).i = ρ.I 10 := immY_den (by omega) q0 q1 (by omega) (by omega)
        have hr2 : (den (zE ρ (z + 4096)) (rightE 26 (immY 1 (-4096)))).b = true := by
          rw [← hr]
          simp only [rightE, den, hd]
          rfl
        have hz := addFact_ok (rightE 26 (immY 1 (-4096))) (zF_ok hb (z := (z + 4096)) (a := 2048) (b := 4095) (by omega) (by omega)) hr2
        have := wordTold ((hz.bit h7).bit h8) ebB_run26ffn
        rw [zI_conc hd, zP_conc, e] at this
        exact this
    · cases h7 : ρ.B 7 with
      | true =>
        have hd : (den (zE ρ z) (immY 1 0 10)).i = ρ.I 10 := immY_den (by omega) q0 q1 (by omega) (by omega)
        have hr2 : (den (zE ρ z) (rightE 26 (immY 1 0))).b = true := by
          rw [← hr]
          simp only [rightE, den, hd]
          rfl
        have hz := addFact_ok (rightE 26 (immY 1 0)) (zF_ok hb (z := z) (a := 0) (b := 2047) (by omega) (by omega)) hr2
        have := wordTold ((hz.bit h7).bit h8) ebB_run26ftp
        rw [zI_conc hd, zP_conc, e] at this
        exact this
      | false =>
        have hd : (den (zE ρ z) (immY 1 0 10)).i = ρ.I 10 := immY_den (by omega) q0 q1 (by omega) (by omega)
        have hr2 : (den (zE ρ z) (rightE 26 (immY 1 0))).b = true := by
          rw [← hr]
          simp only [rightE, den, hd]
          rfl
        have hz := addFact_ok (rightE 26 (immY 1 0)) (zF_ok hb (z := z) (a := 0) (b := 2047) (by omega) (by omega)) hr2
        have := wordTold ((hz.bit h7).bit h8) ebB_run26ffp
        rw [zI_conc hd, zP_conc, e] at this
        exact this
theorem wt27 {ρ : Env} (hf : FactsOk ρ ebBK) (hr : (den ρ (rightE 27 .var)).b = true) (hc : ρ.I 0 = 27) (r0 : CallsTo CX06 8 [conc ρ ebBJ] (blV true)) : ∃ v u said rt ft, WordTold (conc ρ ebBJ) (conc ρ ebBP) (ρ.B 8) v u said rt ft := by
  have hb := ebBF_sub hf
  have e : conc ρ (ebBI 27) = conc ρ ebBJ := by rw [← hc]; rfl
  have p0 : 0 ≤ ρ.I 11 := of_decide_eq_true (hf (.cmp .geq (.var 11) (.lit 0), true) (by simp [ebBK, ebBF]))
  have p1 : ρ.I 11 ≤ 4294967295 := of_decide_eq_true (hf (.cmp .leq (.var 11) (.lit 4294967295), true) (by simp [ebBK, ebBF]))
  have q0 : -9223372036854775808 ≤ ρ.I 10 := of_decide_eq_true (hf (.cmp .geq (.var 10) (.lit (-9223372036854775808)), true) (by simp [ebBK, ebBF, rightF]))
  have q1 : ρ.I 10 ≤ 9223372036854775807 := of_decide_eq_true (hf (.cmp .leq (.var 10) (.lit 9223372036854775807), true) (by simp [ebBK, ebBF, rightF]))
  have hb2 := both_ok ebB_b27
  have b0 : 0 ≤ ρ.I 10 := of_decide_eq_true (knowN_ok (addFact_ok (rightE 27 .var) hb hr) hb2.1)
  have b1 : ρ.I 10 ≤ 4294967295 := of_decide_eq_true (knowN_ok (addFact_ok (rightE 27 .var) hb hr) hb2.2)
  cases h8 : ρ.B 8 with
  | true =>
    rw [← h8]
    obtain ⟨z, hz0⟩ : ∃ z, z = (ρ.I 10 - ρ.I 11 + 2147483648) % 4294967296 - 2147483648 := ⟨_, rfl⟩
    have hd : (den (zE ρ z) (relY 10)).i = ρ.I 10 := by rw [relY_den p0 p1 (by omega) (by omega)]; omega
    have hr2 : (den (zE ρ z) (rightE 27 (relY))).b = true := by
      rw [← hr]
      simp only [rightE, den, hd]
      rfl
    have hz := addFact_ok (rightE 27 (relY)) (zF_ok hb (z := z) (a := (-2147483648)) (b := 2147483647) (by omega) (by omega)) hr2
    have := wordTold (hz.bit h8) ebB_run27t
    rw [zI_conc hd, zP_conc, e] at this
    exact this
  | false =>
    rw [← h8]
    obtain ⟨y, hy0⟩ : ∃ y, y = (ρ.I 10 - ρ.I 11 + 2147483648) % 4294967296 - 2147483648 := ⟨_, rfl⟩
    obtain ⟨z, hz0⟩ : ∃ z, z = y / 4 := ⟨_, rfl⟩
    have h4 : y % 4 = 0 ∨ y % 4 = 1 ∨ y % 4 = 2 ∨ y % 4 = 3 := by omega
    rcases h4 with h4 | h4 | h4 | h4
    · by_cases hl : z ≤ -262145
      · have hd : (den (zE ρ z) (relX 0 10)).i = ρ.I 10 := by rw [relX_den p0 p1 (by omega) (by omega) (by omega) (by omega)]; omega
        have h2 := ebB_z27l.calls (CX06_ok _) (zF_ok hb (z := z) (a := (-536870912)) (b := (-262145)) (by omega) (by omega))
        simp only [concs, zI_conc hd, zP_conc, e] at h2
        exact wt_nf hf h8 r0 h2
      by_cases hh : z ≥ 262144
      · have hd : (den (zE ρ z) (relX 0 10)).i = ρ.I 10 := by rw [relX_den p0 p1 (by omega) (by omega) (by omega) (by omega)]; omega
        have h2 := ebB_z27h.calls (CX06_ok _) (zF_ok hb (z := z) (a := 262144) (b := 536870911) (by omega) (by omega))
        simp only [concs, zI_conc hd, zP_conc, e] at h2
        exact wt_nf hf h8 r0 h2
      by_cases hs : z ≤ -1
      · have hd : (den (zE ρ z) (relX 0 10)).i = ρ.I 10 := by rw [relX_den p0 p1 (by omega) (by omega) (by omega) (by omega)]; omega
        have hr2 : (den (zE ρ z) (rightE 27 (relX 0))).b = true := by
          rw [← hr]
          simp only [rightE, den, hd]
          rfl
        have hz := addFact_ok (rightE 27 (relX 0)) (zF_ok hb (z := z) (a := (-262144)) (b := (-1)) (by omega) (by omega)) hr2
        have := wordTold (hz.bit h8) ebB_run27fn
        rw [zI_conc hd, zP_conc, e] at this
        exact this
      · have hd : (den (zE ρ z) (relX 0 10)).i = ρ.I 10 := by rw [relX_den p0 p1 (by omega) (by omega) (by omega) (by omega)]; omega
        have hr2 : (den (zE ρ z) (rightE 27 (relX 0))).b = true := by
          rw [← hr]
          simp only [rightE, den, hd]
          rfl
        have hz := addFact_ok (rightE 27 (relX 0)) (zF_ok hb (z := z) (a := 0) (b := 262143) (by omega) (by omega)) hr2
        have := wordTold (hz.bit h8) ebB_run27fp
        rw [zI_conc hd, zP_conc, e] at this
        exact this
    · have hd : (den (zE ρ z) (relX 1 10)).i = ρ.I 10 := by rw [relX_den p0 p1 (by omega) (by omega) (by omega) (by omega)]; omega
      have h2 := ebB_z27_1.calls (CX06_ok _) (zF_ok hb (z := z) (a := (-536870912)) (b := 536870911) (by omega) (by omega))
      simp only [concs, zI_conc hd, zP_conc, e] at h2
      exact wt_nf hf h8 r0 h2
    · have hd : (den (zE ρ z) (relX 2 10)).i = ρ.I 10 := by rw [relX_den p0 p1 (by omega) (by omega) (by omega) (by omega)]; omega
      have h2 := ebB_z27_2.calls (CX06_ok _) (zF_ok hb (z := z) (a := (-536870912)) (b := 536870911) (by omega) (by omega))
      simp only [concs, zI_conc hd, zP_conc, e] at h2
      exact wt_nf hf h8 r0 h2
    · have hd : (den (zE ρ z) (relX 3 10)).i = ρ.I 10 := by rw [relX_den p0 p1 (by omega) (by omega) (by omega) (by omega)]; omega
      have h2 := ebB_z27_3.calls (CX06_ok _) (zF_ok hb (z := z) (a := (-536870912)) (b := 536870911) (by omega) (by omega))
      simp only [concs, zI_conc hd, zP_conc, e] at h2
      exact wt_nf hf h8 r0 h2
theorem wt28 {ρ : Env} (hf : FactsOk ρ ebBK) (hr : (den ρ (rightE 28 .var)).b = true) (hc : ρ.I 0 = 28) (r0 : CallsTo CX06 8 [conc ρ ebBJ] (blV true)) : ∃ v u said rt ft, WordTold (conc ρ ebBJ) (conc ρ ebBP) (ρ.B 8) v u said rt ft := by
  have hb := ebBF_sub hf
  have e : conc ρ (ebBI 28) = conc ρ ebBJ := by rw [← hc]; rfl
  have := wordTold (addFact_ok (rightE 28 .var) hb hr) ebB_run28
  rwa [e] at this
theorem wt29 {ρ : Env} (hf : FactsOk ρ ebBK) (hr : (den ρ (rightE 29 .var)).b = true) (hc : ρ.I 0 = 29) (r0 : CallsTo CX06 8 [conc ρ ebBJ] (blV true)) : ∃ v u said rt ft, WordTold (conc ρ ebBJ) (conc ρ ebBP) (ρ.B 8) v u said rt ft := by
  have hb := ebBF_sub hf
  have e : conc ρ (ebBI 29) = conc ρ ebBJ := by rw [← hc]; rfl
  have p0 : 0 ≤ ρ.I 11 := of_decide_eq_true (hf (.cmp .geq (.var 11) (.lit 0), true) (by simp [ebBK, ebBF]))
  have p1 : ρ.I 11 ≤ 4294967295 := of_decide_eq_true (hf (.cmp .leq (.var 11) (.lit 4294967295), true) (by simp [ebBK, ebBF]))
  have q0 : -9223372036854775808 ≤ ρ.I 10 := of_decide_eq_true (hf (.cmp .geq (.var 10) (.lit (-9223372036854775808)), true) (by simp [ebBK, ebBF, rightF]))
  have q1 : ρ.I 10 ≤ 9223372036854775807 := of_decide_eq_true (hf (.cmp .leq (.var 10) (.lit 9223372036854775807), true) (by simp [ebBK, ebBF, rightF]))
  have hb2 := both_ok ebB_b29
  have b0 : 0 ≤ ρ.I 10 := of_decide_eq_true (knowN_ok (addFact_ok (rightE 29 .var) hb hr) hb2.1)
  have b1 : ρ.I 10 ≤ 4294967295 := of_decide_eq_true (knowN_ok (addFact_ok (rightE 29 .var) hb hr) hb2.2)
  cases h8 : ρ.B 8 with
  | true =>
    rw [← h8]
    obtain ⟨z, hz0⟩ : ∃ z, z = (ρ.I 10 - ρ.I 11 + 2147483648) % 4294967296 - 2147483648 := ⟨_, rfl⟩
    have hd : (den (zE ρ z) (relY 10)).i = ρ.I 10 := by rw [relY_den p0 p1 (by omega) (by omega)]; omega
    have hr2 : (den (zE ρ z) (rightE 29 (relY))).b = true := by
      rw [← hr]
      simp only [rightE, den, hd]
      rfl
    have hz := addFact_ok (rightE 29 (relY)) (zF_ok hb (z := z) (a := (-2147483648)) (b := 2147483647) (by omega) (by omega)) hr2
    have := wordTold (hz.bit h8) ebB_run29t
    rw [zI_conc hd, zP_conc, e] at this
    exact this
  | false =>
    rw [← h8]
    obtain ⟨y, hy0⟩ : ∃ y, y = (ρ.I 10 - ρ.I 11 + 2147483648) % 4294967296 - 2147483648 := ⟨_, rfl⟩
    obtain ⟨z, hz0⟩ : ∃ z, z = y / 4 := ⟨_, rfl⟩
    have h4 : y % 4 = 0 ∨ y % 4 = 1 ∨ y % 4 = 2 ∨ y % 4 = 3 := by omega
    rcases h4 with h4 | h4 | h4 | h4
    · by_cases hl : z ≤ -8388609
      · have hd : (den (zE ρ z) (relX 0 10)).i = ρ.I 10 := by rw [relX_den p0 p1 (by omega) (by omega) (by omega) (by omega)]; omega
        have h2 := ebB_z29l.calls (CX06_ok _) (zF_ok hb (z := z) (a := (-536870912)) (b := (-8388609)) (by omega) (by omega))
        simp only [concs, zI_conc hd, zP_conc, e] at h2
        exact wt_nf hf h8 r0 h2
      by_cases hh : z ≥ 8388608
      · have hd : (den (zE ρ z) (relX 0 10)).i = ρ.I 10 := by rw [relX_den p0 p1 (by omega) (by omega) (by omega) (by omega)]; omega
        have h2 := ebB_z29h.calls (CX06_ok _) (zF_ok hb (z := z) (a := 8388608) (b := 536870911) (by omega) (by omega))
        simp only [concs, zI_conc hd, zP_conc, e] at h2
        exact wt_nf hf h8 r0 h2
      by_cases hs : z ≤ -1
      · have hd : (den (zE ρ z) (relX 0 10)).i = ρ.I 10 := by rw [relX_den p0 p1 (by omega) (by omega) (by omega) (by omega)]; omega
        have hr2 : (den (zE ρ z) (rightE 29 (relX 0))).b = true := by
          rw [← hr]
          simp only [rightE, den, hd]
          rfl
        have hz := addFact_ok (rightE 29 (relX 0)) (zF_ok hb (z := z) (a := (-8388608)) (b := (-1)) (by omega) (by omega)) hr2
        have := wordTold (hz.bit h8) ebB_run29fn
        rw [zI_conc hd, zP_conc, e] at this
        exact this
      · have hd : (den (zE ρ z) (relX 0 10)).i = ρ.I 10 := by rw [relX_den p0 p1 (by omega) (by omega) (by omega) (by omega)]; omega
        have hr2 : (den (zE ρ z) (rightE 29 (relX 0))).b = true := by
          rw [← hr]
          simp only [rightE, den, hd]
          rfl
        have hz := addFact_ok (rightE 29 (relX 0)) (zF_ok hb (z := z) (a := 0) (b := 8388607) (by omega) (by omega)) hr2
        have := wordTold (hz.bit h8) ebB_run29fp
        rw [zI_conc hd, zP_conc, e] at this
        exact this
    · have hd : (den (zE ρ z) (relX 1 10)).i = ρ.I 10 := by rw [relX_den p0 p1 (by omega) (by omega) (by omega) (by omega)]; omega
      have h2 := ebB_z29_1.calls (CX06_ok _) (zF_ok hb (z := z) (a := (-536870912)) (b := 536870911) (by omega) (by omega))
      simp only [concs, zI_conc hd, zP_conc, e] at h2
      exact wt_nf hf h8 r0 h2
    · have hd : (den (zE ρ z) (relX 2 10)).i = ρ.I 10 := by rw [relX_den p0 p1 (by omega) (by omega) (by omega) (by omega)]; omega
      have h2 := ebB_z29_2.calls (CX06_ok _) (zF_ok hb (z := z) (a := (-536870912)) (b := 536870911) (by omega) (by omega))
      simp only [concs, zI_conc hd, zP_conc, e] at h2
      exact wt_nf hf h8 r0 h2
    · have hd : (den (zE ρ z) (relX 3 10)).i = ρ.I 10 := by rw [relX_den p0 p1 (by omega) (by omega) (by omega) (by omega)]; omega
      have h2 := ebB_z29_3.calls (CX06_ok _) (zF_ok hb (z := z) (a := (-536870912)) (b := 536870911) (by omega) (by omega))
      simp only [concs, zI_conc hd, zP_conc, e] at h2
      exact wt_nf hf h8 r0 h2
theorem wt30 {ρ : Env} (hf : FactsOk ρ ebBK) (hr : (den ρ (rightE 30 .var)).b = true) (hc : ρ.I 0 = 30) (r0 : CallsTo CX06 8 [conc ρ ebBJ] (blV true)) : ∃ v u said rt ft, WordTold (conc ρ ebBJ) (conc ρ ebBP) (ρ.B 8) v u said rt ft := by
  have hb := ebBF_sub hf
  have e : conc ρ (ebBI 30) = conc ρ ebBJ := by rw [← hc]; rfl
  have p0 : 0 ≤ ρ.I 11 := of_decide_eq_true (hf (.cmp .geq (.var 11) (.lit 0), true) (by simp [ebBK, ebBF]))
  have p1 : ρ.I 11 ≤ 4294967295 := of_decide_eq_true (hf (.cmp .leq (.var 11) (.lit 4294967295), true) (by simp [ebBK, ebBF]))
  have q0 : -9223372036854775808 ≤ ρ.I 10 := of_decide_eq_true (hf (.cmp .geq (.var 10) (.lit (-9223372036854775808)), true) (by simp [ebBK, ebBF, rightF]))
  have q1 : ρ.I 10 ≤ 9223372036854775807 := of_decide_eq_true (hf (.cmp .leq (.var 10) (.lit 9223372036854775807), true) (by simp [ebBK, ebBF, rightF]))
  have hb2 := both_ok ebB_b30
  have b0 : 0 ≤ ρ.I 10 := of_decide_eq_true (knowN_ok (addFact_ok (rightE 30 .var) hb hr) hb2.1)
  have b1 : ρ.I 10 ≤ 4294967295 := of_decide_eq_true (knowN_ok (addFact_ok (rightE 30 .var) hb hr) hb2.2)
  cases h8 : ρ.B 8 with
  | true =>
    rw [← h8]
    obtain ⟨z, hz0⟩ : ∃ z, z = (ρ.I 10 - ρ.I 11 + 2147483648) % 4294967296 - 2147483648 := ⟨_, rfl⟩
    have hd : (den (zE ρ z) (relY 10)).i = ρ.I 10 := by rw [relY_den p0 p1 (by omega) (by omega)]; omega
    have hr2 : (den (zE ρ z) (rightE 30 (relY))).b = true := by
      rw [← hr]
      simp only [rightE, den, hd]
      rfl
    have hz := addFact_ok (rightE 30 (relY)) (zF_ok hb (z := z) (a := (-2147483648)) (b := 2147483647) (by omega) (by omega)) hr2
    have := wordTold (hz.bit h8) ebB_run30t
    rw [zI_conc hd, zP_conc, e] at this
    exact this
  | false =>
    rw [← h8]
    obtain ⟨y, hy0⟩ : ∃ y, y = (ρ.I 10 - ρ.I 11 + 2147483648) % 4294967296 - 2147483648 := ⟨_, rfl⟩
    obtain ⟨z, hz0⟩ : ∃ z, z = y / 4 := ⟨_, rfl⟩
    have h4 : y % 4 = 0 ∨ y % 4 = 1 ∨ y % 4 = 2 ∨ y % 4 = 3 := by omega
    rcases h4 with h4 | h4 | h4 | h4
    · by_cases hl : z ≤ -2049
      · have hd : (den (zE ρ z) (relX 0 10)).i = ρ.I 10 := by rw [relX_den p0 p1 (by omega) (by omega) (by omega) (by omega)]; omega
        have h2 := ebB_z30l.calls (CX06_ok _) (zF_ok hb (z := z) (a := (-536870912)) (b := (-2049)) (by omega) (by omega))
        simp only [concs, zI_conc hd, zP_conc, e] at h2
        exact wt_nf hf h8 r0 h2
      by_cases hh : z ≥ 2048
      · have hd : (den (zE ρ z) (relX 0 10)).i = ρ.I 10 := by rw [relX_den p0 p1 (by omega) (by omega) (by omega) (by omega)]; omega
        have h2 := ebB_z30h.calls (CX06_ok _) (zF_ok hb (z := z) (a := 2048) (b := 536870911) (by omega) (by omega))
        simp only [concs, zI_conc hd, zP_conc, e] at h2
        exact wt_nf hf h8 r0 h2
      by_cases hs : z ≤ -1
      · have hd : (den (zE ρ z) (relX 0 10)).i = ρ.I 10 := by rw [relX_den p0 p1 (by omega) (by omega) (by omega) (by omega)]; omega
        have hr2 : (den (zE ρ z) (rightE 30 (relX 0))).b = true := by
          rw [← hr]
          simp only [rightE, den, hd]
          rfl
        have hz := addFact_ok (rightE 30 (relX 0)) (zF_ok hb (z := z) (a := (-2048)) (b := (-1)) (by omega) (by omega)) hr2
        have := wordTold (hz.bit h8) ebB_run30fn
        rw [zI_conc hd, zP_conc, e] at this
        exact this
      · have hd : (den (zE ρ z) (relX 0 10)).i = ρ.I 10 := by rw [relX_den p0 p1 (by omega) (by omega) (by omega) (by omega)]; omega
        have hr2 : (den (zE ρ z) (rightE 30 (relX 0))).b = true := by
          rw [← hr]
          simp only [rightE, den, hd]
          rfl
        have hz := addFact_ok (rightE 30 (relX 0)) (zF_ok hb (z := z) (a := 0) (b := 2047) (by omega) (by omega)) hr2
        have := wordTold (hz.bit h8) ebB_run30fp
        rw [zI_conc hd, zP_conc, e] at this
        exact this
    · have hd : (den (zE ρ z) (relX 1 10)).i = ρ.I 10 := by rw [relX_den p0 p1 (by omega) (by omega) (by omega) (by omega)]; omega
      have h2 := ebB_z30_1.calls (CX06_ok _) (zF_ok hb (z := z) (a := (-536870912)) (b := 536870911) (by omega) (by omega))
      simp only [concs, zI_conc hd, zP_conc, e] at h2
      exact wt_nf hf h8 r0 h2
    · have hd : (den (zE ρ z) (relX 2 10)).i = ρ.I 10 := by rw [relX_den p0 p1 (by omega) (by omega) (by omega) (by omega)]; omega
      have h2 := ebB_z30_2.calls (CX06_ok _) (zF_ok hb (z := z) (a := (-536870912)) (b := 536870911) (by omega) (by omega))
      simp only [concs, zI_conc hd, zP_conc, e] at h2
      exact wt_nf hf h8 r0 h2
    · have hd : (den (zE ρ z) (relX 3 10)).i = ρ.I 10 := by rw [relX_den p0 p1 (by omega) (by omega) (by omega) (by omega)]; omega
      have h2 := ebB_z30_3.calls (CX06_ok _) (zF_ok hb (z := z) (a := (-536870912)) (b := 536870911) (by omega) (by omega))
      simp only [concs, zI_conc hd, zP_conc, e] at h2
      exact wt_nf hf h8 r0 h2
theorem wt31 {ρ : Env} (hf : FactsOk ρ ebBK) (hr : (den ρ (rightE 31 .var)).b = true) (hc : ρ.I 0 = 31) (r0 : CallsTo CX06 8 [conc ρ ebBJ] (blV true)) : ∃ v u said rt ft, WordTold (conc ρ ebBJ) (conc ρ ebBP) (ρ.B 8) v u said rt ft := by
  have hb := ebBF_sub hf
  have e : conc ρ (ebBI 31) = conc ρ ebBJ := by rw [← hc]; rfl
  have p0 : 0 ≤ ρ.I 11 := of_decide_eq_true (hf (.cmp .geq (.var 11) (.lit 0), true) (by simp [ebBK, ebBF]))
  have p1 : ρ.I 11 ≤ 4294967295 := of_decide_eq_true (hf (.cmp .leq (.var 11) (.lit 4294967295), true) (by simp [ebBK, ebBF]))
  have q0 : -9223372036854775808 ≤ ρ.I 10 := of_decide_eq_true (hf (.cmp .geq (.var 10) (.lit (-9223372036854775808)), true) (by simp [ebBK, ebBF, rightF]))
  have q1 : ρ.I 10 ≤ 9223372036854775807 := of_decide_eq_true (hf (.cmp .leq (.var 10) (.lit 9223372036854775807), true) (by simp [ebBK, ebBF, rightF]))
  have hb2 := both_ok ebB_b31
  have b0 : 0 ≤ ρ.I 10 := of_decide_eq_true (knowN_ok (addFact_ok (rightE 31 .var) hb hr) hb2.1)
  have b1 : ρ.I 10 ≤ 4294967295 := of_decide_eq_true (knowN_ok (addFact_ok (rightE 31 .var) hb hr) hb2.2)
  cases h8 : ρ.B 8 with
  | true =>
    rw [← h8]
    obtain ⟨z, hz0⟩ : ∃ z, z = (ρ.I 10 - ρ.I 11 + 2147483648) % 4294967296 - 2147483648 := ⟨_, rfl⟩
    have hd : (den (zE ρ z) (relY 10)).i = ρ.I 10 := by rw [relY_den p0 p1 (by omega) (by omega)]; omega
    have hr2 : (den (zE ρ z) (rightE 31 (relY))).b = true := by
      rw [← hr]
      simp only [rightE, den, hd]
      rfl
    have hz := addFact_ok (rightE 31 (relY)) (zF_ok hb (z := z) (a := (-2147483648)) (b := 2147483647) (by omega) (by omega)) hr2
    have := wordTold (hz.bit h8) ebB_run31t
    rw [zI_conc hd, zP_conc, e] at this
    exact this
  | false =>
    rw [← h8]
    obtain ⟨y, hy0⟩ : ∃ y, y = (ρ.I 10 - ρ.I 11 + 2147483648) % 4294967296 - 2147483648 := ⟨_, rfl⟩
    obtain ⟨z, hz0⟩ : ∃ z, z = y / 4 := ⟨_, rfl⟩
    have h4 : y % 4 = 0 ∨ y % 4 = 1 ∨ y % 4 = 2 ∨ y % 4 = 3 := by omega
    rcases h4 with h4 | h4 | h4 | h4
    · by_cases hl : z ≤ -2049
      · have hd : (den (zE ρ z) (relX 0 10)).i = ρ.I 10 := by rw [relX_den p0 p1 (by omega) (by omega) (by omega) (by omega)]; omega
        have h2 := ebB_z31l.calls (CX06_ok _) (zF_ok hb (z := z) (a := (-536870912)) (b := (-2049)) (by omega) (by omega))
        simp only [concs, zI_conc hd, zP_conc, e] at h2
        exact wt_nf hf h8 r0 h2
      by_cases hh : z ≥ 2048
      · have hd : (den (zE ρ z) (relX 0 10)).i = ρ.I 10 := by rw [relX_den p0 p1 (by omega) (by omega) (by omega) (by omega)]; omega
        have h2 := ebB_z31h.calls (CX06_ok _) (zF_ok hb (z := z) (a := 2048) (b := 536870911) (by omega) (by omega))
        simp only [concs, zI_conc hd, zP_conc, e] at h2
        exact wt_nf hf h8 r0 h2
      by_cases hs : z ≤ -1
      · have hd : (den (zE ρ z) (relX 0 10)).i = ρ.I 10 := by rw [relX_den p0 p1 (by omega) (by omega) (by omega) (by omega)]; omega
        have hr2 : (den (zE ρ z) (rightE 31 (relX 0))).b = true := by
          rw [← hr]
          simp only [rightE, den, hd]
          rfl
        have hz := addFact_ok (rightE 31 (relX 0)) (zF_ok hb (z := z) (a := (-2048)) (b := (-1)) (by omega) (by omega)) hr2
        have := wordTold (hz.bit h8) ebB_run31fn
        rw [zI_conc hd, zP_conc, e] at this
        exact this
      · have hd : (den (zE ρ z) (relX 0 10)).i = ρ.I 10 := by rw [relX_den p0 p1 (by omega) (by omega) (by omega) (by omega)]; omega
        have hr2 : (den (zE ρ z) (rightE 31 (relX 0))).b = true := by
          rw [← hr]
          simp only [rightE, den, hd]
          rfl
        have hz := addFact_ok (rightE 31 (relX 0)) (zF_ok hb (z := z) (a := 0) (b := 2047) (by omega) (by omega)) hr2
        have := wordTold (hz.bit h8) ebB_run31fp
        rw [zI_conc hd, zP_conc, e] at this
        exact this
    · have hd : (den (zE ρ z) (relX 1 10)).i = ρ.I 10 := by rw [relX_den p0 p1 (by omega) (by omega) (by omega) (by omega)]; omega
      have h2 := ebB_z31_1.calls (CX06_ok _) (zF_ok hb (z := z) (a := (-536870912)) (b := 536870911) (by omega) (by omega))
      simp only [concs, zI_conc hd, zP_conc, e] at h2
      exact wt_nf hf h8 r0 h2
    · have hd : (den (zE ρ z) (relX 2 10)).i = ρ.I 10 := by rw [relX_den p0 p1 (by omega) (by omega) (by omega) (by omega)]; omega
      have h2 := ebB_z31_2.calls (CX06_ok _) (zF_ok hb (z := z) (a := (-536870912)) (b := 536870911) (by omega) (by omega))
      simp only [concs, zI_conc hd, zP_conc, e] at h2
      exact wt_nf hf h8 r0 h2
    · have hd : (den (zE ρ z) (relX 3 10)).i = ρ.I 10 := by rw [relX_den p0 p1 (by omega) (by omega) (by omega) (by omega)]; omega
      have h2 := ebB_z31_3.calls (CX06_ok _) (zF_ok hb (z := z) (a := (-536870912)) (b := 536870911) (by omega) (by omega))
      simp only [concs, zI_conc hd, zP_conc, e] at h2
      exact wt_nf hf h8 r0 h2

/-- The word of any instruction. -/
theorem wt_any {ρ : Env} (hf : FactsOk ρ ebBK) : ∃ v u said rt ft, WordTold (conc ρ ebBJ) (conc ρ ebBP) (ρ.B 8) v u said rt ft := by
  have h0 : 0 ≤ ρ.I 0 := of_decide_eq_true (hf (.cmp .geq (.var 0) (.lit 0), true) (by simp [ebBK]))
  have h1 : ρ.I 0 ≤ 255 := of_decide_eq_true (hf (.cmp .leq (.var 0) (.lit 255), true) (by simp [ebBK]))
  have hb := ebBF_sub hf
  have hrf : FactsOk ρ rightF := fun p hp => hb p (List.mem_cons_of_mem _ (List.mem_cons_of_mem _ hp))
  by_cases hc : ρ.I 0 ≤ 31
  case neg =>
    have hf2 : FactsOk ρ ebBG := FactsOk.cons (FactsOk.cons hb (decide_eq_true h1)) (decide_eq_true (show ρ.I 0 ≥ 32 by omega))
    exact wt_no hf (ebB_run.calls (CX06_ok _) hf2)
  have h : ρ.I 0 = 0 ∨ ρ.I 0 = 1 ∨ ρ.I 0 = 2 ∨ ρ.I 0 = 3 ∨ ρ.I 0 = 4 ∨ ρ.I 0 = 5 ∨ ρ.I 0 = 6 ∨ ρ.I 0 = 7 ∨ ρ.I 0 = 8 ∨ ρ.I 0 = 9 ∨ ρ.I 0 = 10 ∨ ρ.I 0 = 11 ∨ ρ.I 0 = 12 ∨ ρ.I 0 = 13 ∨ ρ.I 0 = 14 ∨ ρ.I 0 = 15 ∨ ρ.I 0 = 16 ∨ ρ.I 0 = 17 ∨ ρ.I 0 = 18 ∨ ρ.I 0 = 19 ∨ ρ.I 0 = 20 ∨ ρ.I 0 = 21 ∨ ρ.I 0 = 22 ∨ ρ.I 0 = 23 ∨ ρ.I 0 = 24 ∨ ρ.I 0 = 25 ∨ ρ.I 0 = 26 ∨ ρ.I 0 = 27 ∨ ρ.I 0 = 28 ∨ ρ.I 0 = 29 ∨ ρ.I 0 = 30 ∨ ρ.I 0 = 31 := by omega
  rcases h with h | h | h | h | h | h | h | h | h | h | h | h | h | h | h | h | h | h | h | h | h | h | h | h | h | h | h | h | h | h | h | h
  · have r := ebB_run0.calls (CX06_ok _) hb
    have e : conc ρ (ebBI 0) = conc ρ ebBJ := by rw [← h]; rfl
    simp only [concs, e] at r
    exact wt_no hf r
  · have e : concs ρ (rightA 1) = [conc ρ ebBJ] := by rw [← h]; rfl
    have r := rightP_all 1 (by decide) (by decide) ρ hrf
    rw [e] at r
    cases hr : (den ρ (rightE 1 .var)).b with
    | true => exact wt1 hf hr h (by simpa only [conc, concT, STy.val, hr, blV] using r)
    | false => exact wt_no hf (by simpa only [conc, concT, STy.val, hr, blV] using r)
  · have e : concs ρ (rightA 2) = [conc ρ ebBJ] := by rw [← h]; rfl
    have r := rightP_all 2 (by decide) (by decide) ρ hrf
    rw [e] at r
    cases hr : (den ρ (rightE 2 .var)).b with
    | true => exact wt2 hf hr h (by simpa only [conc, concT, STy.val, hr, blV] using r)
    | false => exact wt_no hf (by simpa only [conc, concT, STy.val, hr, blV] using r)
  · have e : concs ρ (rightA 3) = [conc ρ ebBJ] := by rw [← h]; rfl
    have r := rightP_all 3 (by decide) (by decide) ρ hrf
    rw [e] at r
    cases hr : (den ρ (rightE 3 .var)).b with
    | true => exact wt3 hf hr h (by simpa only [conc, concT, STy.val, hr, blV] using r)
    | false => exact wt_no hf (by simpa only [conc, concT, STy.val, hr, blV] using r)
  · have e : concs ρ (rightA 4) = [conc ρ ebBJ] := by rw [← h]; rfl
    have r := rightP_all 4 (by decide) (by decide) ρ hrf
    rw [e] at r
    cases hr : (den ρ (rightE 4 .var)).b with
    | true => exact wt4 hf hr h (by simpa only [conc, concT, STy.val, hr, blV] using r)
    | false => exact wt_no hf (by simpa only [conc, concT, STy.val, hr, blV] using r)
  · have e : concs ρ (rightA 5) = [conc ρ ebBJ] := by rw [← h]; rfl
    have r := rightP_all 5 (by decide) (by decide) ρ hrf
    rw [e] at r
    cases hr : (den ρ (rightE 5 .var)).b with
    | true => exact wt5 hf hr h (by simpa only [conc, concT, STy.val, hr, blV] using r)
    | false => exact wt_no hf (by simpa only [conc, concT, STy.val, hr, blV] using r)
  · have e : concs ρ (rightA 6) = [conc ρ ebBJ] := by rw [← h]; rfl
    have r := rightP_all 6 (by decide) (by decide) ρ hrf
    rw [e] at r
    cases hr : (den ρ (rightE 6 .var)).b with
    | true => exact wt6 hf hr h (by simpa only [conc, concT, STy.val, hr, blV] using r)
    | false => exact wt_no hf (by simpa only [conc, concT, STy.val, hr, blV] using r)
  · have e : concs ρ (rightA 7) = [conc ρ ebBJ] := by rw [← h]; rfl
    have r := rightP_all 7 (by decide) (by decide) ρ hrf
    rw [e] at r
    cases hr : (den ρ (rightE 7 .var)).b with
    | true => exact wt7 hf hr h (by simpa only [conc, concT, STy.val, hr, blV] using r)
    | false => exact wt_no hf (by simpa only [conc, concT, STy.val, hr, blV] using r)
  · have e : concs ρ (rightA 8) = [conc ρ ebBJ] := by rw [← h]; rfl
    have r := rightP_all 8 (by decide) (by decide) ρ hrf
    rw [e] at r
    cases hr : (den ρ (rightE 8 .var)).b with
    | true => exact wt8 hf hr h (by simpa only [conc, concT, STy.val, hr, blV] using r)
    | false => exact wt_no hf (by simpa only [conc, concT, STy.val, hr, blV] using r)
  · have e : concs ρ (rightA 9) = [conc ρ ebBJ] := by rw [← h]; rfl
    have r := rightP_all 9 (by decide) (by decide) ρ hrf
    rw [e] at r
    cases hr : (den ρ (rightE 9 .var)).b with
    | true => exact wt9 hf hr h (by simpa only [conc, concT, STy.val, hr, blV] using r)
    | false => exact wt_no hf (by simpa only [conc, concT, STy.val, hr, blV] using r)
  · have e : concs ρ (rightA 10) = [conc ρ ebBJ] := by rw [← h]; rfl
    have r := rightP_all 10 (by decide) (by decide) ρ hrf
    rw [e] at r
    cases hr : (den ρ (rightE 10 .var)).b with
    | true => exact wt10 hf hr h (by simpa only [conc, concT, STy.val, hr, blV] using r)
    | false => exact wt_no hf (by simpa only [conc, concT, STy.val, hr, blV] using r)
  · have e : concs ρ (rightA 11) = [conc ρ ebBJ] := by rw [← h]; rfl
    have r := rightP_all 11 (by decide) (by decide) ρ hrf
    rw [e] at r
    cases hr : (den ρ (rightE 11 .var)).b with
    | true => exact wt11 hf hr h (by simpa only [conc, concT, STy.val, hr, blV] using r)
    | false => exact wt_no hf (by simpa only [conc, concT, STy.val, hr, blV] using r)
  · have e : concs ρ (rightA 12) = [conc ρ ebBJ] := by rw [← h]; rfl
    have r := rightP_all 12 (by decide) (by decide) ρ hrf
    rw [e] at r
    cases hr : (den ρ (rightE 12 .var)).b with
    | true => exact wt12 hf hr h (by simpa only [conc, concT, STy.val, hr, blV] using r)
    | false => exact wt_no hf (by simpa only [conc, concT, STy.val, hr, blV] using r)
  · have e : concs ρ (rightA 13) = [conc ρ ebBJ] := by rw [← h]; rfl
    have r := rightP_all 13 (by decide) (by decide) ρ hrf
    rw [e] at r
    cases hr : (den ρ (rightE 13 .var)).b with
    | true => exact wt13 hf hr h (by simpa only [conc, concT, STy.val, hr, blV] using r)
    | false => exact wt_no hf (by simpa only [conc, concT, STy.val, hr, blV] using r)
  · have e : concs ρ (rightA 14) = [conc ρ ebBJ] := by rw [← h]; rfl
    have r := rightP_all 14 (by decide) (by decide) ρ hrf
    rw [e] at r
    cases hr : (den ρ (rightE 14 .var)).b with
    | true => exact wt14 hf hr h (by simpa only [conc, concT, STy.val, hr, blV] using r)
    | false => exact wt_no hf (by simpa only [conc, concT, STy.val, hr, blV] using r)
  · have e : concs ρ (rightA 15) = [conc ρ ebBJ] := by rw [← h]; rfl
    have r := rightP_all 15 (by decide) (by decide) ρ hrf
    rw [e] at r
    cases hr : (den ρ (rightE 15 .var)).b with
    | true => exact wt15 hf hr h (by simpa only [conc, concT, STy.val, hr, blV] using r)
    | false => exact wt_no hf (by simpa only [conc, concT, STy.val, hr, blV] using r)
  · have e : concs ρ (rightA 16) = [conc ρ ebBJ] := by rw [← h]; rfl
    have r := rightP_all 16 (by decide) (by decide) ρ hrf
    rw [e] at r
    cases hr : (den ρ (rightE 16 .var)).b with
    | true => exact wt16 hf hr h (by simpa only [conc, concT, STy.val, hr, blV] using r)
    | false => exact wt_no hf (by simpa only [conc, concT, STy.val, hr, blV] using r)
  · have e : concs ρ (rightA 17) = [conc ρ ebBJ] := by rw [← h]; rfl
    have r := rightP_all 17 (by decide) (by decide) ρ hrf
    rw [e] at r
    cases hr : (den ρ (rightE 17 .var)).b with
    | true => exact wt17 hf hr h (by simpa only [conc, concT, STy.val, hr, blV] using r)
    | false => exact wt_no hf (by simpa only [conc, concT, STy.val, hr, blV] using r)
  · have e : concs ρ (rightA 18) = [conc ρ ebBJ] := by rw [← h]; rfl
    have r := rightP_all 18 (by decide) (by decide) ρ hrf
    rw [e] at r
    cases hr : (den ρ (rightE 18 .var)).b with
    | true => exact wt18 hf hr h (by simpa only [conc, concT, STy.val, hr, blV] using r)
    | false => exact wt_no hf (by simpa only [conc, concT, STy.val, hr, blV] using r)
  · have e : concs ρ (rightA 19) = [conc ρ ebBJ] := by rw [← h]; rfl
    have r := rightP_all 19 (by decide) (by decide) ρ hrf
    rw [e] at r
    cases hr : (den ρ (rightE 19 .var)).b with
    | true => exact wt19 hf hr h (by simpa only [conc, concT, STy.val, hr, blV] using r)
    | false => exact wt_no hf (by simpa only [conc, concT, STy.val, hr, blV] using r)
  · have e : concs ρ (rightA 20) = [conc ρ ebBJ] := by rw [← h]; rfl
    have r := rightP_all 20 (by decide) (by decide) ρ hrf
    rw [e] at r
    cases hr : (den ρ (rightE 20 .var)).b with
    | true => exact wt20 hf hr h (by simpa only [conc, concT, STy.val, hr, blV] using r)
    | false => exact wt_no hf (by simpa only [conc, concT, STy.val, hr, blV] using r)
  · have e : concs ρ (rightA 21) = [conc ρ ebBJ] := by rw [← h]; rfl
    have r := rightP_all 21 (by decide) (by decide) ρ hrf
    rw [e] at r
    cases hr : (den ρ (rightE 21 .var)).b with
    | true => exact wt21 hf hr h (by simpa only [conc, concT, STy.val, hr, blV] using r)
    | false => exact wt_no hf (by simpa only [conc, concT, STy.val, hr, blV] using r)
  · have e : concs ρ (rightA 22) = [conc ρ ebBJ] := by rw [← h]; rfl
    have r := rightP_all 22 (by decide) (by decide) ρ hrf
    rw [e] at r
    cases hr : (den ρ (rightE 22 .var)).b with
    | true => exact wt22 hf hr h (by simpa only [conc, concT, STy.val, hr, blV] using r)
    | false => exact wt_no hf (by simpa only [conc, concT, STy.val, hr, blV] using r)
  · have e : concs ρ (rightA 23) = [conc ρ ebBJ] := by rw [← h]; rfl
    have r := rightP_all 23 (by decide) (by decide) ρ hrf
    rw [e] at r
    cases hr : (den ρ (rightE 23 .var)).b with
    | true => exact wt23 hf hr h (by simpa only [conc, concT, STy.val, hr, blV] using r)
    | false => exact wt_no hf (by simpa only [conc, concT, STy.val, hr, blV] using r)
  · have e : concs ρ (rightA 24) = [conc ρ ebBJ] := by rw [← h]; rfl
    have r := rightP_all 24 (by decide) (by decide) ρ hrf
    rw [e] at r
    cases hr : (den ρ (rightE 24 .var)).b with
    | true => exact wt24 hf hr h (by simpa only [conc, concT, STy.val, hr, blV] using r)
    | false => exact wt_no hf (by simpa only [conc, concT, STy.val, hr, blV] using r)
  · have e : concs ρ (rightA 25) = [conc ρ ebBJ] := by rw [← h]; rfl
    have r := rightP_all 25 (by decide) (by decide) ρ hrf
    rw [e] at r
    cases hr : (den ρ (rightE 25 .var)).b with
    | true => exact wt25 hf hr h (by simpa only [conc, concT, STy.val, hr, blV] using r)
    | false => exact wt_no hf (by simpa only [conc, concT, STy.val, hr, blV] using r)
  · have e : concs ρ (rightA 26) = [conc ρ ebBJ] := by rw [← h]; rfl
    have r := rightP_all 26 (by decide) (by decide) ρ hrf
    rw [e] at r
    cases hr : (den ρ (rightE 26 .var)).b with
    | true => exact wt26 hf hr h (by simpa only [conc, concT, STy.val, hr, blV] using r)
    | false => exact wt_no hf (by simpa only [conc, concT, STy.val, hr, blV] using r)
  · have e : concs ρ (rightA 27) = [conc ρ ebBJ] := by rw [← h]; rfl
    have r := rightP_all 27 (by decide) (by decide) ρ hrf
    rw [e] at r
    cases hr : (den ρ (rightE 27 .var)).b with
    | true => exact wt27 hf hr h (by simpa only [conc, concT, STy.val, hr, blV] using r)
    | false => exact wt_no hf (by simpa only [conc, concT, STy.val, hr, blV] using r)
  · have e : concs ρ (rightA 28) = [conc ρ ebBJ] := by rw [← h]; rfl
    have r := rightP_all 28 (by decide) (by decide) ρ hrf
    rw [e] at r
    cases hr : (den ρ (rightE 28 .var)).b with
    | true => exact wt28 hf hr h (by simpa only [conc, concT, STy.val, hr, blV] using r)
    | false => exact wt_no hf (by simpa only [conc, concT, STy.val, hr, blV] using r)
  · have e : concs ρ (rightA 29) = [conc ρ ebBJ] := by rw [← h]; rfl
    have r := rightP_all 29 (by decide) (by decide) ρ hrf
    rw [e] at r
    cases hr : (den ρ (rightE 29 .var)).b with
    | true => exact wt29 hf hr h (by simpa only [conc, concT, STy.val, hr, blV] using r)
    | false => exact wt_no hf (by simpa only [conc, concT, STy.val, hr, blV] using r)
  · have e : concs ρ (rightA 30) = [conc ρ ebBJ] := by rw [← h]; rfl
    have r := rightP_all 30 (by decide) (by decide) ρ hrf
    rw [e] at r
    cases hr : (den ρ (rightE 30 .var)).b with
    | true => exact wt30 hf hr h (by simpa only [conc, concT, STy.val, hr, blV] using r)
    | false => exact wt_no hf (by simpa only [conc, concT, STy.val, hr, blV] using r)
  · have e : concs ρ (rightA 31) = [conc ρ ebBJ] := by rw [← h]; rfl
    have r := rightP_all 31 (by decide) (by decide) ρ hrf
    rw [e] at r
    cases hr : (den ρ (rightE 31 .var)).b with
    | true => exact wt31 hf hr h (by simpa only [conc, concT, STy.val, hr, blV] using r)
    | false => exact wt_no hf (by simpa only [conc, concT, STy.val, hr, blV] using r)
end Go.Proofs.YtamhmfdbnlkmkaaDoor
