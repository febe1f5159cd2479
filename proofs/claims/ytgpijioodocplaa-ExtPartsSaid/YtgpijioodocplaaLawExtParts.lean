/- The law coxlesslaw05.ExtParts: whatever the input, it answers true, and the input reads as it did. No condition. -/
import Derived.Test.YtgpijioodocplaaRows
import Derived.Test.YtgpijioodocplaaKnExtParts
import Derived.WalkKit
import Derived.ProofKit
import Derived.OpenShut
import Derived.ShutString
import Derived.ChangeOld
import Derived.Below
import Derived.SizedLaws
namespace Go.Proofs.Ytgpijioodocplaa.extParts
open Go.ChangeShapes Go.WideShapes Go.ChangeAt Go.RowKit
open Go.ChangeMaps (open_string shut_string)
set_option linter.unusedVariables false
theorem own : ownKnob Try.prog.godebug = none := by kernel_rfl
set_option maxRecDepth 100000 in
theorem lifted (os : Os) (started : os.Started) (H : Type) (enc : TypeId × Value → H) :
    ReturnsInHanded {} Try.checked os 8 .any (Rows.extPartsSpec.pre6 enc Try.prog Try.f8 Rows.extPartsRow.domain false) (Rows.extPartsSpec.post enc Try.prog Try.f8 false true false false) := by
  refine returnsInHanded_of_change_sized (C := Try.checked) own started (by kernel_rfl) Try.func8
    (ChangeSpec.witness6 (enc := enc) (C := Try.checked) false ⟨#[], #[.int .i64 0, .int .u32 0, .int .u32 0, .int .u32 0], []⟩ 8 (by kernel_rfl) (by kernel_rfl) (by kernel_rfl) (by kernel_rfl)) ?_
  intro W base args ds gs before hval0 hW hcnd hsz0 _
  have hsz : (DataW.weightsEach Try.prog (Try.f8.params.toList ++ Rows.extPartsSpec.plain.varTypes Try.prog) (ds ++ gs)).all (· ≤ reachBytes) = true := hsz0
  have hval : ∀ (j : Nat) t v, Try.f8.params[j]? = some t → args[j]? = some v → Value.okWide Try.prog W .any base t v := hval0
  have hW' := hW
  obtain ⟨p, q, hA0, hV, rfl, hfz, hnd⟩ := hW
  have hA : DataW.TrodAll enc Try.prog W 0 (fun _ => true) true Try.f8.params.toList args.toList ds p := hA0
  rw [Try.params8] at hA hval hsz
  obtain ⟨v0, vs0, d0, ds0, p0, q0, hargs, rfl, rfl, h0, r0⟩ := trodAll_cons hA
  obtain ⟨v1, vs1, d1, ds1, p1, q1, rfl, rfl, rfl, h1, r1⟩ := trodAll_cons r0
  obtain ⟨v2, vs2, d2, ds2, p2, q2, rfl, rfl, rfl, h2, r2⟩ := trodAll_cons r1
  obtain ⟨v3, vs3, d3, ds3, p3, q3, rfl, rfl, rfl, h3, r3⟩ := trodAll_cons r2
  obtain ⟨rfl, rfl, rfl⟩ := trodAll_nil r3
  obtain rfl : args = #[v0, v1, v2, v3] := by cases args; simp_all
  obtain ⟨rfl, rfl⟩ := trodVars_none hV
  obtain ⟨a0, rfl, rfl, rfl, z0⟩ := open_int Try.underlying2 (hval 0 2 v0 rfl rfl) h0
  have w0 : IntKind.min .i64 ≤ a0 ∧ a0 ≤ IntKind.max .i64 := by simpa [Lit.wf] using z0
  obtain ⟨a1, rfl, rfl, rfl, z1⟩ := open_int Try.underlying49 (hval 1 49 v1 rfl rfl) h1
  have w1 : IntKind.min .u32 ≤ a1 ∧ a1 ≤ IntKind.max .u32 := by simpa [Lit.wf] using z1
  obtain ⟨a2, rfl, rfl, rfl, z2⟩ := open_int Try.underlying49 (hval 2 49 v2 rfl rfl) h2
  have w2 : IntKind.min .u32 ≤ a2 ∧ a2 ≤ IntKind.max .u32 := by simpa [Lit.wf] using z2
  obtain ⟨a3, rfl, rfl, rfl, z3⟩ := open_int Try.underlying49 (hval 3 49 v3 rfl rfl) h3
  have w3 : IntKind.min .u32 ≤ a3 ∧ a3 ≤ IntKind.max .u32 := by simpa [Lit.wf] using z3
  refine (extParts_walk a0 w0 a1 w1 a2 w2 a3 w3 W).mono fun e W' ⟨he, bel⟩ => ?_
  subst he
  exact ⟨_, rfl, _, _, _, [], _, [], hW', trodAll_mk1 (shut_bool Try.underlying4 _), (trodAll_cons_mk (shut_int Try.underlying2 z0) (trodAll_cons_mk (shut_int Try.underlying49 z1) (trodAll_cons_mk (shut_int Try.underlying49 z2) (trodAll_cons_mk (shut_int Try.underlying49 z3) trodAll_mk0)))), rfl, bel.frame _, fun h => by cases h⟩
theorem over : Rows.extPartsRow.holds Try.pinned (OpenSpec.ofChange Rows.extPartsSpec) :=
  OpenClaim.holds_of_wide 8 Try.f8 rfl rfl rfl rfl rfl rfl rfl ⟨rfl, rfl, rfl, rfl, rfl⟩ rfl rfl rfl rfl rfl (by kernel_rfl) Try.func8 (by kernel_rfl)
    (of_decide_eq_true (by kernel_rfl)) (by unfold Func.isWrapper; first | (rw [if_pos (by decide +kernel)]; kernel_rfl) | (rw [if_neg (by decide +kernel)]; exact ⟨rfl, rfl⟩))
    (fun os started H enc _ => lifted os started H enc)
theorem proved : Rows.ExtPartsSaid := over
#print axioms proved
end Go.Proofs.Ytgpijioodocplaa.extParts
namespace Go.Proofs.Ytgpijioodocplaa
/-- The row, under a short name, for the claim. -/
theorem extParts_holds : Rows.ExtPartsSaid := extParts.proved
end Go.Proofs.Ytgpijioodocplaa
