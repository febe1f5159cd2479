/- The law LegalKnown: its walk, by a run; what it asks is told. -/
import Derived.Test.YthabafmieebmmaaDoorKnLegalC
set_option linter.unusedVariables false
set_option maxRecDepth 100000
namespace Go.Proofs.YthabafmieebmmaaDoor
open Go Go.RowKit

def legalAwakeT : List (List AV × AV) := [([], .sc (.bool true))]
noncomputable def CL1 : Ctx := { CL0 with summ := sum1 18 (tabF legalAwakeT) CL0.summ }
theorem CL1_ok (ρ : Env) : Summ ρ CL1 := summ_cons (C := CL0) (p := CL0.pure) (q := CL0.flat) (CL0_ok ρ) (tabF_ok fun p hp => by
  simp only [legalAwakeT, List.mem_cons, List.not_mem_nil, or_false] at hp
  subst hp
  exact legalAwake_run.calls (CL0_ok ρ) (fun p hp => by simp at hp) rfl)
def legalChooseT : List (List AV × AV) := [([legalCa0], legalCr0), ([legalCa1], legalCr1), ([legalCa2], legalCr2)]
noncomputable def CL2 : Ctx := { CL1 with summ := sum1 16 (tabF legalChooseT) CL1.summ }
theorem CL2_ok (ρ : Env) : Summ ρ CL2 := summ_cons (C := CL1) (p := CL1.pure) (q := CL1.flat) (CL1_ok ρ) (tabF_ok fun p hp => by
  simp only [legalChooseT, List.mem_cons, List.not_mem_nil, or_false] at hp
  rcases hp with rfl | rfl | rfl
  · exact (legalChoose0_run.calls (CL0_ok ρ) (fun p hp => by simp at hp) rfl).of rfl rfl
  · exact (legalChoose1_run.calls (CL0_ok ρ) (fun p hp => by simp at hp) rfl).of rfl rfl
  · exact (legalChoose2_run.calls (CL0_ok ρ) (fun p hp => by simp at hp) rfl).of rfl rfl)
def legalCheckT : List (List AV × AV) := [([legalPa0], .tc (.sc (.int .i64 9))), ([legalPa1], .tc (.sc (.int .i64 9))), ([legalPa2], .tc (.sc (.int .i64 9))), ([legalPa3], .tc (.sc (.int .i64 9))), ([legalPa4], .tc (.sc (.int .i64 10))), ([legalPa5], .tc (.sc (.int .i64 0))), ([legalPa6], .tc (.sc (.int .i64 13))), ([legalPa7], .tc (.sc (.int .i64 0))), ([legalPa8], .tc (.sc (.int .i64 13))), ([legalPa9], .tc (.sc (.int .i64 0))), ([legalPa10], .tc (.sc (.int .i64 9))), ([legalPa11], .tc (.sc (.int .i64 9))), ([legalPa12], .tc (.sc (.int .i64 8))), ([legalPa13], .tc (.sc (.int .i64 0))), ([legalPa14], .tc (.sc (.int .i64 11))), ([legalPa15], .tc (.sc (.int .i64 9)))]
noncomputable def pureLegal : FuncId → Bool := fun f => match f with
  | 12 => true
  | 14 => true
  | 13 => true
  | 10 => true
  | 11 => true
  | 15 => true
  | 16 => true
  | 18 => true
  | f => CK.pure f
noncomputable def flatLegal : FuncId → Bool := fun f => match f with
  | 12 => false
  | 14 => false
  | _ => true
noncomputable def CL3 : Ctx := { CL2 with summ := sum1 15 (tabF legalCheckT) CL2.summ, pure := pureLegal, flat := flatLegal }
theorem CL3_ok (ρ : Env) : Summ ρ CL3 := summ_cons (C := CL2) (p := pureLegal) (q := flatLegal) (CL2_ok ρ) (tabF_ok fun p hp => by
  simp only [legalCheckT, List.mem_cons, List.not_mem_nil, or_false] at hp
  rcases hp with rfl | rfl | rfl | rfl | rfl | rfl | rfl | rfl | rfl | rfl | rfl | rfl | rfl | rfl | rfl | rfl
  · exact (legalCheck0_run.calls (CL0_ok ρ) (fun p hp => by simp at hp) rfl).of rfl rfl
  · exact (legalCheck1_run.calls (CL0_ok ρ) (fun p hp => by simp at hp) rfl).of rfl rfl
  · exact (legalCheck2_run.calls (CL0_ok ρ) (fun p hp => by simp at hp) rfl).of rfl rfl
  · exact (legalCheck3_run.calls (CL0_ok ρ) (fun p hp => by simp at hp) rfl).of rfl rfl
  · exact (legalCheck4_run.calls (CL0_ok ρ) (fun p hp => by simp at hp) rfl).of rfl rfl
  · exact (legalCheck5_run.calls (CL0_ok ρ) (fun p hp => by simp at hp) rfl).of rfl rfl
  · exact (legalCheck6_run.calls (CL0_ok ρ) (fun p hp => by simp at hp) rfl).of rfl rfl
  · exact (legalCheck7_run.calls (CL0_ok ρ) (fun p hp => by simp at hp) rfl).of rfl rfl
  · exact (legalCheck8_run.calls (CL0_ok ρ) (fun p hp => by simp at hp) rfl).of rfl rfl
  · exact (legalCheck9_run.calls (CL0_ok ρ) (fun p hp => by simp at hp) rfl).of rfl rfl
  · exact (legalCheck10_run.calls (CL0_ok ρ) (fun p hp => by simp at hp) rfl).of rfl rfl
  · exact (legalCheck11_run.calls (CL0_ok ρ) (fun p hp => by simp at hp) rfl).of rfl rfl
  · exact (legalCheck12_run.calls (CL0_ok ρ) (fun p hp => by simp at hp) rfl).of rfl rfl
  · exact (legalCheck13_run.calls (CL0_ok ρ) (fun p hp => by simp at hp) rfl).of rfl rfl
  · exact (legalCheck14_run.calls (CL0_ok ρ) (fun p hp => by simp at hp) rfl).of rfl rfl
  · exact (legalCheck15_run.calls (CL0_ok ρ) (fun p hp => by simp at hp) rfl).of rfl rfl)
theorem legalKnown_glob : GlobOk Tryd.prog Rows.legalKnownRow.laid globLegalKnown := ⟨⟨"coxless/bits.ends", Rows.laid_coxless_bits_ends, .head _, by kernel_rfl, by kernel_rfl⟩, ⟨"coxless/bits.parseAt", Rows.laid_coxless_bits_parseAt, .tail _ (.head _), by kernel_rfl, by kernel_rfl⟩, ⟨"coxless/bits.upper", Rows.laid_coxless_bits_upper, .tail _ (.tail _ (.head _)), by kernel_rfl, by kernel_rfl⟩, ⟨"coxless/sub.rows", Rows.laid_coxless_sub_rows, .tail _ (.tail _ (.tail _ (.head _))), by kernel_rfl, by kernel_rfl⟩, trivial⟩
theorem legalKnown_run : RunIs CL3 60 [] 3 [] (.leaf (.sc (.bool true))) := .code codeLegalKnown_ok rfl (by kernel_rfl)

theorem legalKnown_walk (w : World) (hL : laidMetH Tryd.prog Rows.legalKnownRow.laid w) : Calls Tryd.prog 3 #[] w fun e w' => e = .returned (.bool true) ∧ Below w.heap.size w w' :=
  walk_laid (C := CL3) legalKnown_run (CL3_ok _) rfl legalKnown_glob (by kernel_rfl) w hL
end Go.Proofs.YthabafmieebmmaaDoor
