/- The law SubBack: a run of it with what is told of small instructions. -/
import Derived.Test.YthabafmieebmmaaDoorKnS07R
import Derived.Test.YthabafmieebmmaaDoorMg8
import Derived.Test.YthabafmieebmmaaDoorRows
set_option linter.unusedVariables false
set_option linter.unusedSimpArgs false
set_option maxRecDepth 100000
namespace Go.Proofs.YthabafmieebmmaaDoor
open Go Go.RowKit

def subBack_facts : Facts := [(.cmp .geq (.var 0) (.lit 0), true), (.cmp .leq (.var 0) (.lit 65535), true), (.cmp .geq (.var 1) (.lit 0), true), (.cmp .leq (.var 1) (.lit 255), true), (.cmp .geq (.var 2) (.lit 0), true), (.cmp .leq (.var 2) (.lit 255), true), (.cmp .geq (.var 3) (.lit 0), true), (.cmp .leq (.var 3) (.lit 255), true), (.cmp .geq (.var 4) (.lit 0), true), (.cmp .leq (.var 4) (.lit 255), true), (.cmp .geq (.var 5) (.lit 0), true), (.cmp .leq (.var 5) (.lit 255), true), (.cmp .geq (.var 6) (.lit 0), true), (.cmp .leq (.var 6) (.lit 255), true), (.cmp .geq (.var 7) (.lit 0), true), (.cmp .leq (.var 7) (.lit 255), true), (.cmp .geq (.var 10) (.lit 0), true), (.cmp .leq (.var 10) (.lit 65535), true), (.cmp .geq (.var 11) (.lit (-9223372036854775808)), true), (.cmp .leq (.var 11) (.lit 9223372036854775807), true)]
def subBack_args : List AV := [.tc (.sy (.int .u16) (.var 0)), .agg [.tc (.sy (.int .u8) (.var 1)), .tc (.sy (.int .u8) (.var 2)), .tc (.sy (.int .u8) (.var 3)), .tc (.sy (.int .u8) (.var 4)), .tc (.sy (.int .u8) (.var 5)), .tc (.sy (.int .u8) (.var 6)), .tc (.sy (.int .u8) (.var 7)), .tc (.sy .bool (.var 8)), .tc (.sy .bool (.var 9)), .tc (.sy (.int .u16) (.var 10)), .tc (.sy (.int .i64) (.var 11))]]
def sbIn : AV := .agg [.tc (.sy (.int .u8) (.var 1)), .tc (.sy (.int .u8) (.var 2)), .tc (.sy (.int .u8) (.var 3)), .tc (.sy (.int .u8) (.var 4)), .tc (.sy (.int .u8) (.var 5)), .tc (.sy (.int .u8) (.var 6)), .tc (.sy (.int .u8) (.var 7)), .tc (.sy .bool (.var 8)), .tc (.sy .bool (.var 9)), .tc (.sy (.int .u16) (.var 10)), .tc (.sy (.int .i64) (.var 11))]
def sbA : AV := .agg [.tc (.sy (.int .u8) (.var 12)), .tc (.sy (.int .u8) (.var 13)), .tc (.sy (.int .u8) (.var 14)), .tc (.sy (.int .u8) (.var 15)), u8v 0, u8v 0, u8v 0, .tc (.sc (.bool false)), .tc (.sc (.bool false)), .tc (.sc (.int .u16 0)), .tc (.sy (.int .i64) (.var 16))]
def sS : AV := .tc (.sy (.int .u16) (.var 0))
def sX17 : AV := .tc (.sy (.int .u16) (.var 17))
def bV (b : Bool) : AV := .tc (.sc (.bool b))
def sbTI (a b : Bool) : List (List AV × AV) := ([sS], .tuple [cond a sbA (inV zero7), bV a]) :: cond b [([sX17], .tuple [sbIn, bV true])] []
def sbTO (a b : Bool) : List (List AV × AV) := ([sbIn], cond b (.tuple [sX17, bV true]) (.tuple [.tc (.sc (.int .u16 0)), bV false])) :: cond a [([sbA], .tuple [sS, bV true])] []
def sbTR (a : Bool) : List (List AV × AV) := cond a [([sbA], bV true)] []
def sbF (a : Bool) : Facts := cond a ((.cmp .leq (.var 0) (.lit 20479), true) :: subBack_facts) subBack_facts
noncomputable def CSB1 (a b : Bool) : Ctx := { CA07 with summ := sum1 24 (tabN (sbF a) (sbTR a)) CA07.summ, pure := fun f => cond (f == 24) true (CA07.pure f) }
noncomputable def CSB2 (a b : Bool) : Ctx := { CSB1 a b with summ := sum1 21 (tabN (sbF a) (sbTO a b)) (CSB1 a b).summ, pure := fun f => cond (f == 21) true ((CSB1 a b).pure f) }
noncomputable def CSB (a b : Bool) : Ctx := { CSB2 a b with summ := sum1 19 (tabN (sbF a) (sbTI a b)) (CSB2 a b).summ, pure := fun f => cond (f == 19) true ((CSB2 a b).pure f) }
theorem subBack_runtt : RunsN (CSB true true) 24 (sbF true) 5 subBack_args := .code codeSub_ok rfl (by kernel_rfl)
theorem subBack_runtf : RunsN (CSB true false) 24 (sbF true) 5 subBack_args := .code codeSub_ok rfl (by kernel_rfl)
theorem subBack_runft : RunsN (CSB false true) 24 (sbF false) 5 subBack_args := .code codeSub_ok rfl (by kernel_rfl)
theorem subBack_runff : RunsN (CSB false false) 24 (sbF false) 5 subBack_args := .code codeSub_ok rfl (by kernel_rfl)
theorem subBack_run (a b : Bool) : RunsN (CSB a b) 24 (sbF a) 5 subBack_args := by
  cases a <;> cases b
  · exact subBack_runff
  · exact subBack_runft
  · exact subBack_runtf
  · exact subBack_runtt

/-- The instruction's cells alone. -/
def sbEnv (ρ : Env) : Env := ⟨fun i => ρ.I (i + 1), fun i => ρ.B (i + 1), ρ.S, ρ.F⟩
/-- What is told, as variables. -/
def sbEnv2 (ρ : Env) (i : I7) (x : Int) : Env := { ρ with I := fun k => match k with | 12 => i.op | 13 => i.d | 14 => i.s | 15 => i.t | 16 => i.imm | 17 => x | k => ρ.I k }

theorem subBack_calls {ρ : Env} (hf : FactsOk ρ subBack_facts) : CallsTo CA07 5 (concs ρ subBack_args) (.sc (.bool true)) := by
  have h0 : 0 ≤ ρ.I 0 := of_decide_eq_true (hf (.cmp .geq (.var 0) (.lit 0), true) (by simp [subBack_facts]))
  have h1 : ρ.I 0 ≤ 65535 := of_decide_eq_true (hf (.cmp .leq (.var 0) (.lit 65535), true) (by simp [subBack_facts]))
  have hi : FactsOk (sbEnv ρ) inF := by
    intro p hp
    simp only [inF, rightF, List.mem_cons, List.not_mem_nil, or_false] at hp
    have key : ∀ (op : BinOp) (i : Nat) (n : Int), ((.cmp op (.var (i + 1)) (.lit n), true) : Sx × Bool) ∈ subBack_facts → (den (sbEnv ρ) (.cmp op (.var i) (.lit n))).b = true := fun op i n hm => hf _ hm
    rcases hp with rfl | rfl | rfl | rfl | rfl | rfl | rfl | rfl | rfl | rfl | rfl | rfl | rfl | rfl | rfl | rfl | rfl | rfl
    all_goals exact key _ _ _ (by simp [subBack_facts])
  have hof := sub_of hi
  have hin := (sub_inst h0 h1).1
  have main : ∀ (a b : Bool) (i : I7) (x : Int), FactsOk (sbEnv2 ρ i x) (sbF a) → Summ (sbEnv2 ρ i x) (CSB a b) → CallsTo CA07 5 (concs ρ subBack_args) (.sc (.bool true)) := fun a b i x g1 g2 => by
    have e : concs ρ subBack_args = concs (sbEnv2 ρ i x) subBack_args := rfl
    rw [e]
    exact ((subBack_run a b).calls g2 g1).of rfl rfl
  have fo : ∀ i x, FactsOk (sbEnv2 ρ i x) subBack_facts := fun i x p hp => by
    have := hf p hp
    simp only [subBack_facts, List.mem_cons, List.not_mem_nil, or_false] at hp
    rcases hp with rfl | rfl | rfl | rfl | rfl | rfl | rfl | rfl | rfl | rfl | rfl | rfl | rfl | rfl | rfl | rfl | rfl | rfl | rfl | rfl <;> exact this
  have summ : ∀ (a b : Bool) (i : I7) (x : Int), FactsOk (sbEnv2 ρ i x) (sbF a) → (∀ p ∈ sbTR a, CallsTo CA07 24 (concs (sbEnv2 ρ i x) p.1) (conc (sbEnv2 ρ i x) p.2)) → (∀ p ∈ sbTO a b, CallsTo CA07 21 (concs (sbEnv2 ρ i x) p.1) (conc (sbEnv2 ρ i x) p.2)) →
      (∀ p ∈ sbTI a b, CallsTo CA07 19 (concs (sbEnv2 ρ i x) p.1) (conc (sbEnv2 ρ i x) p.2)) → Summ (sbEnv2 ρ i x) (CSB a b) := fun a b i x g1 g2 g3 g4 =>
    summ_cons (C := CSB2 a b) (q := CA07.flat) (summ_cons (C := CSB1 a b) (q := CA07.flat) (summ_cons (C := CA07) (q := CA07.flat) (CA07_ok _) fun args r h => tabN_ok g1 g2 args r h) fun args r h => (tabN_ok g1 g3 args r h).of rfl rfl) fun args r h => (tabN_ok g1 g4 args r h).of rfl rfl
  have eI : ∀ i x, concs (sbEnv2 ρ i x) [sbIn] = concs (sbEnv ρ) opArgsG := fun i x => rfl
  have eA : ∀ i x, concs (sbEnv2 ρ i x) [sbA] = [inV i] := fun i x => rfl
  have eS : ∀ i x, concs (sbEnv2 ρ i x) [sS] = [.tc (.sc (.int .u16 (ρ.I 0)))] := fun i x => rfl
  -- both answers
  cases ha : inst7 (ρ.I 0) with
  | some i =>
    have hin' : CallsTo CA07 19 [.tc (.sc (.int .u16 (ρ.I 0)))] (.tuple [inV i, bV true]) := by unfold inR7 at hin; rw [ha] at hin; exact hin
    have hlt := (of_inst7 h0 h1 ha).2
    have g1 : ∀ x, FactsOk (sbEnv2 ρ i x) (sbF true) := fun x => (fo i x).cons (decide_eq_true hlt)
    have gR : ∀ x, ∀ p ∈ sbTR true, CallsTo CA07 24 (concs (sbEnv2 ρ i x) p.1) (conc (sbEnv2 ρ i x) p.2) := fun x p hp => by
      simp only [sbTR, cond_true, List.mem_cons, List.not_mem_nil, or_false] at hp
      subst hp
      rw [eA]
      exact right7 ha
    have gA : ∀ x, CallsTo CA07 21 (concs (sbEnv2 ρ i x) [sbA]) (conc (sbEnv2 ρ i x) (.tuple [sS, bV true])) := fun x => by
      rw [eA]
      exact sub_of7 h0 h1 ha
    cases hb : of11 (sbEnv ρ) with
    | some x =>
      rw [hb] at hof
      obtain ⟨q1, q2, q3⟩ := sub_inst7 hb
      refine main true true i x (g1 x) (summ true true i x (g1 x) (gR x) (fun p hp => ?_) fun p hp => ?_)
      · simp only [sbTO, cond_true, List.mem_cons, List.not_mem_nil, or_false] at hp
        rcases hp with rfl | rfl
        · exact hof
        · exact gA x
      · simp only [sbTI, cond_true, List.mem_cons, List.not_mem_nil, or_false] at hp
        rcases hp with rfl | rfl
        · exact hin'
        · exact q1
    | none =>
      rw [hb] at hof
      refine main true false i 0 (g1 0) (summ true false i 0 (g1 0) (gR 0) (fun p hp => ?_) fun p hp => ?_)
      · simp only [sbTO, cond_true, _root_.cond_false, List.mem_cons, List.not_mem_nil, or_false] at hp
        rcases hp with rfl | rfl
        · exact hof
        · exact gA 0
      · simp only [sbTI, cond_true, _root_.cond_false, List.mem_cons, List.not_mem_nil, or_false] at hp
        subst hp
        exact hin'
  | none =>
    have hin' : CallsTo CA07 19 [.tc (.sc (.int .u16 (ρ.I 0)))] (.tuple [inV zero7, bV false]) := by unfold inR7 at hin; rw [ha] at hin; exact hin
    have gR : ∀ x, ∀ p ∈ sbTR false, CallsTo CA07 24 (concs (sbEnv2 ρ zero7 x) p.1) (conc (sbEnv2 ρ zero7 x) p.2) := fun x p hp => by
      simp only [sbTR, _root_.cond_false, List.not_mem_nil] at hp
    cases hb : of11 (sbEnv ρ) with
    | some x =>
      rw [hb] at hof
      obtain ⟨q1, q2, q3⟩ := sub_inst7 hb
      refine main false true zero7 x (fo _ _) (summ false true zero7 x (fo _ _) (gR x) (fun p hp => ?_) fun p hp => ?_)
      · simp only [sbTO, cond_true, _root_.cond_false, List.mem_cons, List.not_mem_nil, or_false] at hp
        subst hp
        exact hof
      · simp only [sbTI, cond_true, _root_.cond_false, List.mem_cons, List.not_mem_nil, or_false] at hp
        rcases hp with rfl | rfl
        · exact hin'
        · exact q1
    | none =>
      rw [hb] at hof
      refine main false false zero7 0 (fo _ _) (summ false false zero7 0 (fo _ _) (gR 0) (fun p hp => ?_) fun p hp => ?_)
      · simp only [sbTO, _root_.cond_false, List.mem_cons, List.not_mem_nil, or_false] at hp
        subst hp
        exact hof
      · simp only [sbTI, _root_.cond_false, List.mem_cons, List.not_mem_nil, or_false] at hp
        subst hp
        exact hin'

theorem subBack_glob : GlobOk Tryd.prog Rows.subBackRow.laid globSub := ⟨⟨"coxless/sub.rows", Rows.laid_coxless_sub_rows, .head _, by kernel_rfl, by kernel_rfl⟩, trivial⟩

theorem subBack_walk (a0 : Int) (w0 : IntKind.min .u16 ≤ a0 ∧ a0 ≤ IntKind.max .u16) (a1 : Int) (w1 : IntKind.min .u8 ≤ a1 ∧ a1 ≤ IntKind.max .u8) (a2 : Int) (w2 : IntKind.min .u8 ≤ a2 ∧ a2 ≤ IntKind.max .u8) (a3 : Int) (w3 : IntKind.min .u8 ≤ a3 ∧ a3 ≤ IntKind.max .u8) (a4 : Int) (w4 : IntKind.min .u8 ≤ a4 ∧ a4 ≤ IntKind.max .u8) (a5 : Int) (w5 : IntKind.min .u8 ≤ a5 ∧ a5 ≤ IntKind.max .u8) (a6 : Int) (w6 : IntKind.min .u8 ≤ a6 ∧ a6 ≤ IntKind.max .u8) (a7 : Int) (w7 : IntKind.min .u8 ≤ a7 ∧ a7 ≤ IntKind.max .u8) (a8 : Bool) (a9 : Bool) (a10 : Int) (w10 : IntKind.min .u16 ≤ a10 ∧ a10 ≤ IntKind.max .u16) (a11 : Int) (w11 : IntKind.min .i64 ≤ a11 ∧ a11 ≤ IntKind.max .i64) (w : World) (hL : laidMetH Tryd.prog Rows.subBackRow.laid w) : Calls Tryd.prog 5 #[.int .u16 a0, .agg #[.int .u8 a1, .int .u8 a2, .int .u8 a3, .int .u8 a4, .int .u8 a5, .int .u8 a6, .int .u8 a7, .bool a8, .bool a9, .int .u16 a10, .int .i64 a11]] w fun e w' => e = .returned (.bool true) ∧ Below w.heap.size w w' := by
  have hf : FactsOk ⟨fun i => [a0, a1, a2, a3, a4, a5, a6, a7, 0, 0, a10, a11].getD i 0, fun i => [false, false, false, false, false, false, false, false, a8, a9, false, false].getD i false, fun i => [ByteArray.empty, ByteArray.empty, ByteArray.empty, ByteArray.empty, ByteArray.empty, ByteArray.empty, ByteArray.empty, ByteArray.empty, ByteArray.empty, ByteArray.empty, ByteArray.empty, ByteArray.empty].getD i ByteArray.empty, FF0⟩ subBack_facts := by
    intro p hp
    simp only [subBack_facts, List.mem_cons, List.not_mem_nil, or_false] at hp
    rcases hp with rfl | rfl | rfl | rfl | rfl | rfl | rfl | rfl | rfl | rfl | rfl | rfl | rfl | rfl | rfl | rfl | rfl | rfl | rfl | rfl
    · exact decide_eq_true w0.1
    · exact decide_eq_true w0.2
    · exact decide_eq_true w1.1
    · exact decide_eq_true w1.2
    · exact decide_eq_true w2.1
    · exact decide_eq_true w2.2
    · exact decide_eq_true w3.1
    · exact decide_eq_true w3.2
    · exact decide_eq_true w4.1
    · exact decide_eq_true w4.2
    · exact decide_eq_true w5.1
    · exact decide_eq_true w5.2
    · exact decide_eq_true w6.1
    · exact decide_eq_true w6.2
    · exact decide_eq_true w7.1
    · exact decide_eq_true w7.2
    · exact decide_eq_true w10.1
    · exact decide_eq_true w10.2
    · exact decide_eq_true w11.1
    · exact decide_eq_true w11.2
  refine walk_laid_of (C := CA07) (subBack_calls hf) rfl subBack_glob (by kernel_rfl) w (fun ob => ?_) hL
  refine ⟨rfl, fun i a v hi hv => ?_⟩
  match i, hi, hv with
  | 0, hi, hv =>
    obtain rfl := Option.some.inj hi
    obtain rfl := Option.some.inj hv
    exact .of_sc _ _ _ _
  | 1, hi, hv =>
    obtain rfl := Option.some.inj hi
    obtain rfl := Option.some.inj hv
    exact relA_scs _ _ _ #[.int .u8 a1, .int .u8 a2, .int .u8 a3, .int .u8 a4, .int .u8 a5, .int .u8 a6, .int .u8 a7, .bool a8, .bool a9, .int .u16 a10, .int .i64 a11]
  | k + 2, hi, _ => simp [concs, subBack_args] at hi
end Go.Proofs.YthabafmieebmmaaDoor
