/- The law coxlesslaw05.ExtTells: whatever the input, it answers true, and the input reads as it did. No condition. -/
import Derived.Test.YtgpijioodocplaaRows
import Derived.Test.YtgpijioodocplaaKnExtTells
import Derived.WalkKit
import Derived.ProofKit
import Derived.OpenShut
import Derived.ShutString
import Derived.ChangeOld
import Derived.Below
import Derived.SizedLaws
namespace Go.Proofs.Ytgpijioodocplaa.extTells
open Go.ChangeShapes Go.WideShapes Go.ChangeAt Go.RowKit
open Go.ChangeMaps (open_string shut_string)
set_option linter.unusedVariables false
theorem own : ownKnob Try.prog.godebug = none := by kernel_rfl
set_option maxRecDepth 100000 in
theorem lifted (os : Os) (started : os.Started) (H : Type) (enc : TypeId × Value → H) :
    ReturnsInHanded {} Try.checked os 6 .any (Rows.extTellsSpec.pre6 enc Try.prog Try.f6 Rows.extTellsRow.domain false) (Rows.extTellsSpec.post enc Try.prog Try.f6 false true false false) := by
  refine returnsInHanded_of_change_sized (C := Try.checked) own started (by kernel_rfl) Try.func6
    (ChangeSpec.witness6 (enc := enc) (C := Try.checked) false ⟨#[], #[.agg #[.int .u8 0, .int .u8 0, .int .u8 0, .int .u8 0, .int .u8 0, .int .u8 0, .int .u8 0, .bool false, .bool false, .int .u16 0, .int .i64 0], .int .u32 0], []⟩ 8 (by kernel_rfl) (by kernel_rfl) (by kernel_rfl) (by kernel_rfl)) ?_
  intro W base args ds gs before hval0 hW hcnd hsz0 _
  have hsz : (DataW.weightsEach Try.prog (Try.f6.params.toList ++ Rows.extTellsSpec.plain.varTypes Try.prog) (ds ++ gs)).all (· ≤ reachBytes) = true := hsz0
  have hval : ∀ (j : Nat) t v, Try.f6.params[j]? = some t → args[j]? = some v → Value.okWide Try.prog W .any base t v := hval0
  have hW' := hW
  obtain ⟨p, q, hA0, hV, rfl, hfz, hnd⟩ := hW
  have hA : DataW.TrodAll enc Try.prog W 0 (fun _ => true) true Try.f6.params.toList args.toList ds p := hA0
  rw [Try.params6] at hA hval hsz
  obtain ⟨v0, vs0, d0, ds0, p0, q0, hargs, rfl, rfl, h0, r0⟩ := trodAll_cons hA
  obtain ⟨v1, vs1, d1, ds1, p1, q1, rfl, rfl, rfl, h1, r1⟩ := trodAll_cons r0
  obtain ⟨rfl, rfl, rfl⟩ := trodAll_nil r1
  obtain rfl : args = #[v0, v1] := by cases args; simp_all
  obtain ⟨rfl, rfl⟩ := trodVars_none hV
  obtain ⟨l0, rfl, t0⟩ := open_flat (fs := _) (ks := [.int .u8, .int .u8, .int .u8, .int .u8, .int .u8, .int .u8, .int .u8, .bool, .bool, .int .u16, .int .i64]) Try.underlying48 (by kernel_rfl) (by kernel_rfl) (hval 0 48 v0 rfl rfl) h0
  cases l0 with
  | nil => exact t0.elim
  | cons y0 l0_0 =>
  obtain ⟨⟨a0, rfl, w0⟩, t0⟩ := t0
  cases l0_0 with
  | nil => exact t0.elim
  | cons y1 l0_1 =>
  obtain ⟨⟨a1, rfl, w1⟩, t0⟩ := t0
  cases l0_1 with
  | nil => exact t0.elim
  | cons y2 l0_2 =>
  obtain ⟨⟨a2, rfl, w2⟩, t0⟩ := t0
  cases l0_2 with
  | nil => exact t0.elim
  | cons y3 l0_3 =>
  obtain ⟨⟨a3, rfl, w3⟩, t0⟩ := t0
  cases l0_3 with
  | nil => exact t0.elim
  | cons y4 l0_4 =>
  obtain ⟨⟨a4, rfl, w4⟩, t0⟩ := t0
  cases l0_4 with
  | nil => exact t0.elim
  | cons y5 l0_5 =>
  obtain ⟨⟨a5, rfl, w5⟩, t0⟩ := t0
  cases l0_5 with
  | nil => exact t0.elim
  | cons y6 l0_6 =>
  obtain ⟨⟨a6, rfl, w6⟩, t0⟩ := t0
  cases l0_6 with
  | nil => exact t0.elim
  | cons y7 l0_7 =>
  obtain ⟨⟨a7, rfl⟩, t0⟩ := t0
  cases l0_7 with
  | nil => exact t0.elim
  | cons y8 l0_8 =>
  obtain ⟨⟨a8, rfl⟩, t0⟩ := t0
  cases l0_8 with
  | nil => exact t0.elim
  | cons y9 l0_9 =>
  obtain ⟨⟨a9, rfl, w9⟩, t0⟩ := t0
  cases l0_9 with
  | nil => exact t0.elim
  | cons y10 l0_10 =>
  obtain ⟨⟨a10, rfl, w10⟩, t0⟩ := t0
  cases l0_10 with
  | cons y l => exact t0.elim
  | nil =>
  obtain ⟨a11, rfl, rfl, rfl, z11⟩ := open_int Try.underlying49 (hval 1 49 v1 rfl rfl) h1
  have w11 : IntKind.min .u32 ≤ a11 ∧ a11 ≤ IntKind.max .u32 := by simpa [Lit.wf] using z11
  refine (extTells_walk a0 w0 a1 w1 a2 w2 a3 w3 a4 w4 a5 w5 a6 w6 a7 a8 a9 w9 a10 w10 a11 w11 W).mono fun e W' ⟨he, bel⟩ => ?_
  subst he
  exact ⟨_, rfl, _, _, _, [], _, [], hW', trodAll_mk1 (shut_bool Try.underlying4 _), (trodAll_cons_mk (flat_world (fs := _) (ks := [.int .u8, .int .u8, .int .u8, .int .u8, .int .u8, .int .u8, .int .u8, .bool, .bool, .int .u16, .int .i64]) Try.underlying48 (by kernel_rfl) h0) (trodAll_cons_mk (shut_int Try.underlying49 z11) trodAll_mk0)), rfl, bel.frame _, fun h => by cases h⟩
theorem over : Rows.extTellsRow.holds Try.pinned (OpenSpec.ofChange Rows.extTellsSpec) :=
  OpenClaim.holds_of_wide 6 Try.f6 rfl rfl rfl rfl rfl rfl rfl ⟨rfl, rfl, rfl, rfl, rfl⟩ rfl rfl rfl rfl rfl (by kernel_rfl) Try.func6 (by kernel_rfl)
    (of_decide_eq_true (by kernel_rfl)) (by unfold Func.isWrapper; first | (rw [if_pos (by decide +kernel)]; kernel_rfl) | (rw [if_neg (by decide +kernel)]; exact ⟨rfl, rfl⟩))
    (fun os started H enc _ => lifted os started H enc)
theorem proved : Rows.ExtTellsSaid := over
#print axioms proved
end Go.Proofs.Ytgpijioodocplaa.extTells
namespace Go.Proofs.Ytgpijioodocplaa
/-- The row, under a short name, for the claim. -/
theorem extTells_holds : Rows.ExtTellsSaid := extTells.proved
end Go.Proofs.Ytgpijioodocplaa
