/- The law SubTells: a run of it with what is told of small instructions. -/
import Derived.Test.YthabafmieebmmaaDoorKnS07F
import Derived.Test.YthabafmieebmmaaDoorMg8
import Derived.Test.YthabafmieebmmaaDoorRows
set_option linter.unusedVariables false
set_option linter.unusedSimpArgs false
set_option maxRecDepth 100000
namespace Go.Proofs.YthabafmieebmmaaDoor
open Go Go.RowKit

def subTells_facts : Facts := [(.cmp .geq (.var 0) (.lit 0), true), (.cmp .leq (.var 0) (.lit 65535), true), (.cmp .geq (.var 1) (.lit 0), true), (.cmp .leq (.var 1) (.lit 255), true), (.cmp .geq (.var 2) (.lit 0), true), (.cmp .leq (.var 2) (.lit 255), true), (.cmp .geq (.var 3) (.lit 0), true), (.cmp .leq (.var 3) (.lit 255), true), (.cmp .geq (.var 4) (.lit 0), true), (.cmp .leq (.var 4) (.lit 255), true), (.cmp .geq (.var 5) (.lit 0), true), (.cmp .leq (.var 5) (.lit 255), true), (.cmp .geq (.var 6) (.lit 0), true), (.cmp .leq (.var 6) (.lit 255), true), (.cmp .geq (.var 7) (.lit 0), true), (.cmp .leq (.var 7) (.lit 255), true), (.cmp .geq (.var 10) (.lit 0), true), (.cmp .leq (.var 10) (.lit 65535), true), (.cmp .geq (.var 11) (.lit (-9223372036854775808)), true), (.cmp .leq (.var 11) (.lit 9223372036854775807), true)]
def subTells_args : List AV := [.tc (.sy (.int .u16) (.var 0)), .agg [.tc (.sy (.int .u8) (.var 1)), .tc (.sy (.int .u8) (.var 2)), .tc (.sy (.int .u8) (.var 3)), .tc (.sy (.int .u8) (.var 4)), .tc (.sy (.int .u8) (.var 5)), .tc (.sy (.int .u8) (.var 6)), .tc (.sy (.int .u8) (.var 7)), .tc (.sy .bool (.var 8)), .tc (.sy .bool (.var 9)), .tc (.sy (.int .u16) (.var 10)), .tc (.sy (.int .i64) (.var 11))]]
def sbIn : AV := .agg [.tc (.sy (.int .u8) (.var 1)), .tc (.sy (.int .u8) (.var 2)), .tc (.sy (.int .u8) (.var 3)), .tc (.sy (.int .u8) (.var 4)), .tc (.sy (.int .u8) (.var 5)), .tc (.sy (.int .u8) (.var 6)), .tc (.sy (.int .u8) (.var 7)), .tc (.sy .bool (.var 8)), .tc (.sy .bool (.var 9)), .tc (.sy (.int .u16) (.var 10)), .tc (.sy (.int .i64) (.var 11))]
def sbA : AV := .agg [.tc (.sy (.int .u8) (.var 12)), .tc (.sy (.int .u8) (.var 13)), .tc (.sy (.int .u8) (.var 14)), .tc (.sy (.int .u8) (.var 15)), u8v 0, u8v 0, u8v 0, .tc (.sc (.bool false)), .tc (.sc (.bool false)), .tc (.sc (.int .u16 0)), .tc (.sy (.int .i64) (.var 16))]
def bV (b : Bool) : AV := .tc (.sc (.bool b))
def sbTabs (a b : Bool) : Tabs := [(19, [([.tc (.sy (.int .u16) (.var 0))], .tuple [cond a sbA (inV zero7), bV a])]), (20, [([.tc (.sy (.int .i64) (.var 0))], .tuple [cond a sbA (inV zero7), bV a])]),
  (21, [([sbIn], cond b (.tuple [.tc (.sy (.int .u16) (.var 17)), bV true]) (.tuple [.tc (.sc (.int .u16 0)), bV false]))]), (22, [([sbIn], cond b (.tuple [.tc (.sy (.int .i64) (.var 17)), bV true]) (.tuple [.tc (.sc (.int .i64 0)), bV false]))])]
def sbF : Facts := (.cmp .geq (.var 17) (.lit 0), true) :: (.cmp .leq (.var 17) (.lit 20479), true) :: subTells_facts
theorem subTells_runtt : RunsN (ctxT CA07 sbF (sbTabs true true)) 24 sbF 4 subTells_args := .code codeSub_ok rfl (by kernel_rfl)
theorem subTells_runtf : RunsN (ctxT CA07 sbF (sbTabs true false)) 24 sbF 4 subTells_args := .code codeSub_ok rfl (by kernel_rfl)
theorem subTells_runft : RunsN (ctxT CA07 sbF (sbTabs false true)) 24 sbF 4 subTells_args := .code codeSub_ok rfl (by kernel_rfl)
theorem subTells_runff : RunsN (ctxT CA07 sbF (sbTabs false false)) 24 sbF 4 subTells_args := .code codeSub_ok rfl (by kernel_rfl)
theorem subTells_run (a b : Bool) : RunsN (ctxT CA07 sbF (sbTabs a b)) 24 sbF 4 subTells_args := by
  cases a <;> cases b
  · exact subTells_runff
  · exact subTells_runft
  · exact subTells_runtf
  · exact subTells_runtt

def sbEnv (ρ : Env) : Env := ⟨fun i => ρ.I (i + 1), fun i => ρ.B (i + 1), ρ.S, ρ.F⟩
def sbEnv2 (ρ : Env) (i : I7) (x : Int) : Env := { ρ with I := fun k => match k with | 12 => i.op | 13 => i.d | 14 => i.s | 15 => i.t | 16 => i.imm | 17 => x | k => ρ.I k }

theorem subTells_calls {ρ : Env} (hf : FactsOk ρ subTells_facts) : CallsTo CA07 4 (concs ρ subTells_args) (.sc (.bool true)) := by
  have h0 : 0 ≤ ρ.I 0 := of_decide_eq_true (hf (.cmp .geq (.var 0) (.lit 0), true) (by simp [subTells_facts]))
  have h1 : ρ.I 0 ≤ 65535 := of_decide_eq_true (hf (.cmp .leq (.var 0) (.lit 65535), true) (by simp [subTells_facts]))
  have hi : FactsOk (sbEnv ρ) inF := by
    intro p hp
    simp only [inF, rightF, List.mem_cons, List.not_mem_nil, or_false] at hp
    have key : ∀ (op : BinOp) (i : Nat) (n : Int), ((.cmp op (.var (i + 1)) (.lit n), true) : Sx × Bool) ∈ subTells_facts → (den (sbEnv ρ) (.cmp op (.var i) (.lit n))).b = true := fun op i n hm => hf _ hm
    rcases hp with rfl | rfl | rfl | rfl | rfl | rfl | rfl | rfl | rfl | rfl | rfl | rfl | rfl | rfl | rfl | rfl | rfl | rfl
    all_goals exact key _ _ _ (by simp [subTells_facts])
  have hof := sub_of hi
  have hrf := ref_of hi
  obtain ⟨hin, hir⟩ := sub_inst h0 h1
  have main : ∀ (a b : Bool) (i : I7) (x : Int), (0 ≤ x ∧ x ≤ 20479) → inR7 (ρ.I 0) = .tuple [cond a (inV i) (inV zero7), bV a] → ofR (of11 (sbEnv ρ)) = cond b (.tuple [.tc (.sc (.int .u16 x)), bV true]) (.tuple [.tc (.sc (.int .u16 0)), bV false]) →
      ofR64 (of11 (sbEnv ρ)) = cond b (.tuple [i64V x, bV true]) (.tuple [i64V 0, bV false]) → CallsTo CA07 4 (concs ρ subTells_args) (.sc (.bool true)) := fun a b i x hx q1 q2 q3 => by
    have f1 : FactsOk (sbEnv2 ρ i x) subTells_facts := fun p hp => by
      have := hf p hp
      simp only [subTells_facts, List.mem_cons, List.not_mem_nil, or_false] at hp
      rcases hp with rfl | rfl | rfl | rfl | rfl | rfl | rfl | rfl | rfl | rfl | rfl | rfl | rfl | rfl | rfl | rfl | rfl | rfl | rfl | rfl <;> exact this
    have f2 : FactsOk (sbEnv2 ρ i x) sbF := (FactsOk.cons (e := .cmp .leq (.var 17) (.lit 20479)) (b := true) f1 (decide_eq_true hx.2)).cons (e := .cmp .geq (.var 17) (.lit 0)) (b := true) (decide_eq_true hx.1)
    have e : concs ρ subTells_args = concs (sbEnv2 ρ i x) subTells_args := rfl
    rw [e]
    refine ((subTells_run a b).calls (ctxT_ok (CA07_ok _) f2 fun p hp q hq => ?_) f2).of rfl rfl
    simp only [sbTabs, List.mem_cons, List.not_mem_nil, or_false] at hp
    rw [q1] at hin hir
    rw [q2] at hof
    rw [q3] at hrf
    rcases hp with rfl | rfl | rfl | rfl
    all_goals
      simp only [List.mem_cons, List.not_mem_nil, or_false] at hq
      subst hq
    · cases a <;> exact hin
    · cases a <;> exact hir
    · cases b <;> exact hof
    · cases b <;> exact hrf
  cases ha : inst7 (ρ.I 0) with
  | some i =>
    cases hb : of11 (sbEnv ρ) with
    | some x => exact main true true i x (sub_inst7 hb).2 (by unfold inR7; rw [ha]; rfl) (by rw [hb]; rfl) (by rw [hb]; rfl)
    | none => exact main true false i 0 ⟨by decide, by decide⟩ (by unfold inR7; rw [ha]; rfl) (by rw [hb]; rfl) (by rw [hb]; rfl)
  | none =>
    cases hb : of11 (sbEnv ρ) with
    | some x => exact main false true zero7 x (sub_inst7 hb).2 (by unfold inR7; rw [ha]; rfl) (by rw [hb]; rfl) (by rw [hb]; rfl)
    | none => exact main false false zero7 0 ⟨by decide, by decide⟩ (by unfold inR7; rw [ha]; rfl) (by rw [hb]; rfl) (by rw [hb]; rfl)

theorem subTells_glob : GlobOk Tryd.prog Rows.subTellsRow.laid globSub := ⟨⟨"coxless/sub.rows", Rows.laid_coxless_sub_rows, .head _, by kernel_rfl, by kernel_rfl⟩, trivial⟩

theorem subTells_walk (a0 : Int) (w0 : IntKind.min .u16 ≤ a0 ∧ a0 ≤ IntKind.max .u16) (a1 : Int) (w1 : IntKind.min .u8 ≤ a1 ∧ a1 ≤ IntKind.max .u8) (a2 : Int) (w2 : IntKind.min .u8 ≤ a2 ∧ a2 ≤ IntKind.max .u8) (a3 : Int) (w3 : IntKind.min .u8 ≤ a3 ∧ a3 ≤ IntKind.max .u8) (a4 : Int) (w4 : IntKind.min .u8 ≤ a4 ∧ a4 ≤ IntKind.max .u8) (a5 : Int) (w5 : IntKind.min .u8 ≤ a5 ∧ a5 ≤ IntKind.max .u8) (a6 : Int) (w6 : IntKind.min .u8 ≤ a6 ∧ a6 ≤ IntKind.max .u8) (a7 : Int) (w7 : IntKind.min .u8 ≤ a7 ∧ a7 ≤ IntKind.max .u8) (a8 : Bool) (a9 : Bool) (a10 : Int) (w10 : IntKind.min .u16 ≤ a10 ∧ a10 ≤ IntKind.max .u16) (a11 : Int) (w11 : IntKind.min .i64 ≤ a11 ∧ a11 ≤ IntKind.max .i64) (w : World) (hL : laidMetH Tryd.prog Rows.subTellsRow.laid w) : Calls Tryd.prog 4 #[.int .u16 a0, .agg #[.int .u8 a1, .int .u8 a2, .int .u8 a3, .int .u8 a4, .int .u8 a5, .int .u8 a6, .int .u8 a7, .bool a8, .bool a9, .int .u16 a10, .int .i64 a11]] w fun e w' => e = .returned (.bool true) ∧ Below w.heap.size w w' := by
  have hf : FactsOk ⟨fun i => [a0, a1, a2, a3, a4, a5, a6, a7, 0, 0, a10, a11].getD i 0, fun i => [false, false, false, false, false, false, false, false, a8, a9, false, false].getD i false, fun i => [ByteArray.empty, ByteArray.empty, ByteArray.empty, ByteArray.empty, ByteArray.empty, ByteArray.empty, ByteArray.empty, ByteArray.empty, ByteArray.empty, ByteArray.empty, ByteArray.empty, ByteArray.empty].getD i ByteArray.empty, FF0⟩ subTells_facts := by
    intro p hp
    simp only [subTells_facts, List.mem_cons, List.not_mem_nil, or_false] at hp
    rcases hp with rfl | rfl | rfl | rfl | rfl | rfl | rfl | rfl | rfl | rfl | rfl | rfl | rfl | rfl | rfl | rfl | rfl | rfl | rfl | rfl
    · exact decide_eq_true w0.1
    · exact decide_eq_true w0.2
    · exact decide_eq_true w1.1
    · exact decide_eq_true w1.2
    · exact decide_eq_true w2.1
    · exact decide_eq_true w2.2
    · exact decide_eq_true w3.1
    · exact decide_eq_true w3.2
    · exact decide_eq_true w4.1
    · exact decide_eq_true w4.2
    · exact decide_eq_true w5.1
    · exact decide_eq_true w5.2
    · exact decide_eq_true w6.1
    · exact decide_eq_true w6.2
    · exact decide_eq_true w7.1
    · exact decide_eq_true w7.2
    · exact decide_eq_true w10.1
    · exact decide_eq_true w10.2
    · exact decide_eq_true w11.1
    · exact decide_eq_true w11.2
  refine walk_laid_of (C := CA07) (subTells_calls hf) rfl subTells_glob (by kernel_rfl) w (fun ob => ?_) hL
  refine ⟨rfl, fun i a v hi hv => ?_⟩
  match i, hi, hv with
  | 0, hi, hv =>
    obtain rfl := Option.some.inj hi
    obtain rfl := Option.some.inj hv
    exact .of_sc _ _ _ _
  | 1, hi, hv =>
    obtain rfl := Option.some.inj hi
    obtain rfl := Option.some.inj hv
    exact relA_scs _ _ _ #[.int .u8 a1, .int .u8 a2, .int .u8 a3, .int .u8 a4, .int .u8 a5, .int .u8 a6, .int .u8 a7, .bool a8, .bool a9, .int .u16 a10, .int .i64 a11]
  | k + 2, hi, _ => simp [concs, subTells_args] at hi
end Go.Proofs.YthabafmieebmmaaDoor
