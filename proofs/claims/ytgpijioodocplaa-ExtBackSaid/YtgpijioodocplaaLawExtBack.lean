/- The law coxlesslaw05.ExtBack: whatever the input, it answers true, and the input reads as it did. No condition. -/
import Derived.Test.YtgpijioodocplaaRows
import Derived.Test.YtgpijioodocplaaKnExtBack
import Derived.WalkKit
import Derived.ProofKit
import Derived.OpenShut
import Derived.ShutString
import Derived.ChangeOld
import Derived.Below
import Derived.SizedLaws
namespace Go.Proofs.Ytgpijioodocplaa.extBack
open Go.ChangeShapes Go.WideShapes Go.ChangeAt Go.RowKit
open Go.ChangeMaps (open_string shut_string)
set_option linter.unusedVariables false
theorem own : ownKnob Try.prog.godebug = none := by kernel_rfl
set_option maxRecDepth 100000 in
theorem lifted (os : Os) (started : os.Started) (H : Type) (enc : TypeId × Value → H) :
    ReturnsInHanded {} Try.checked os 9 .any (Rows.extBackSpec.pre6 enc Try.prog Try.f9 Rows.extBackRow.domain false) (Rows.extBackSpec.post enc Try.prog Try.f9 false true false false) := by
  refine returnsInHanded_of_change_sized (C := Try.checked) own started (by kernel_rfl) Try.func9
    (ChangeSpec.witness6 (enc := enc) (C := Try.checked) false ⟨#[], #[.int .i32 0, .int .u32 0, .int .u32 0, .agg #[.int .u8 0, .int .u8 0, .int .u8 0, .int .u8 0, .int .u8 0, .int .u8 0, .int .u8 0, .bool false, .bool false, .int .u16 0, .int .i64 0], .int .u32 0], []⟩ 8 (by kernel_rfl) (by kernel_rfl) (by kernel_rfl) (by kernel_rfl)) ?_
  intro W base args ds gs before hval0 hW hcnd hsz0 _
  have hsz : (DataW.weightsEach Try.prog (Try.f9.params.toList ++ Rows.extBackSpec.plain.varTypes Try.prog) (ds ++ gs)).all (· ≤ reachBytes) = true := hsz0
  have hval : ∀ (j : Nat) t v, Try.f9.params[j]? = some t → args[j]? = some v → Value.okWide Try.prog W .any base t v := hval0
  have hW' := hW
  obtain ⟨p, q, hA0, hV, rfl, hfz, hnd⟩ := hW
  have hA : DataW.TrodAll enc Try.prog W 0 (fun _ => true) true Try.f9.params.toList args.toList ds p := hA0
  rw [Try.params9] at hA hval hsz
  obtain ⟨v0, vs0, d0, ds0, p0, q0, hargs, rfl, rfl, h0, r0⟩ := trodAll_cons hA
  obtain ⟨v1, vs1, d1, ds1, p1, q1, rfl, rfl, rfl, h1, r1⟩ := trodAll_cons r0
  obtain ⟨v2, vs2, d2, ds2, p2, q2, rfl, rfl, rfl, h2, r2⟩ := trodAll_cons r1
  obtain ⟨v3, vs3, d3, ds3, p3, q3, rfl, rfl, rfl, h3, r3⟩ := trodAll_cons r2
  obtain ⟨v4, vs4, d4, ds4, p4, q4, rfl, rfl, rfl, h4, r4⟩ := trodAll_cons r3
  obtain ⟨rfl, rfl, rfl⟩ := trodAll_nil r4
  obtain rfl : args = #[v0, v1, v2, v3, v4] := by cases args; simp_all
  obtain ⟨rfl, rfl⟩ := trodVars_none hV
  obtain ⟨a0, rfl, rfl, rfl, z0⟩ := open_int Try.underlying21 (hval 0 21 v0 rfl rfl) h0
  have w0 : IntKind.min .i32 ≤ a0 ∧ a0 ≤ IntKind.max .i32 := by simpa [Lit.wf] using z0
  obtain ⟨a1, rfl, rfl, rfl, z1⟩ := open_int Try.underlying49 (hval 1 49 v1 rfl rfl) h1
  have w1 : IntKind.min .u32 ≤ a1 ∧ a1 ≤ IntKind.max .u32 := by simpa [Lit.wf] using z1
  obtain ⟨a2, rfl, rfl, rfl, z2⟩ := open_int Try.underlying49 (hval 2 49 v2 rfl rfl) h2
  have w2 : IntKind.min .u32 ≤ a2 ∧ a2 ≤ IntKind.max .u32 := by simpa [Lit.wf] using z2
  obtain ⟨l3, rfl, t3⟩ := open_flat (fs := _) (ks := [.int .u8, .int .u8, .int .u8, .int .u8, .int .u8, .int .u8, .int .u8, .bool, .bool, .int .u16, .int .i64]) Try.underlying48 (by kernel_rfl) (by kernel_rfl) (hval 3 48 v3 rfl rfl) h3
  cases l3 with
  | nil => exact t3.elim
  | cons y3 l3_0 =>
  obtain ⟨⟨a3, rfl, w3⟩, t3⟩ := t3
  cases l3_0 with
  | nil => exact t3.elim
  | cons y4 l3_1 =>
  obtain ⟨⟨a4, rfl, w4⟩, t3⟩ := t3
  cases l3_1 with
  | nil => exact t3.elim
  | cons y5 l3_2 =>
  obtain ⟨⟨a5, rfl, w5⟩, t3⟩ := t3
  cases l3_2 with
  | nil => exact t3.elim
  | cons y6 l3_3 =>
  obtain ⟨⟨a6, rfl, w6⟩, t3⟩ := t3
  cases l3_3 with
  | nil => exact t3.elim
  | cons y7 l3_4 =>
  obtain ⟨⟨a7, rfl, w7⟩, t3⟩ := t3
  cases l3_4 with
  | nil => exact t3.elim
  | cons y8 l3_5 =>
  obtain ⟨⟨a8, rfl, w8⟩, t3⟩ := t3
  cases l3_5 with
  | nil => exact t3.elim
  | cons y9 l3_6 =>
  obtain ⟨⟨a9, rfl, w9⟩, t3⟩ := t3
  cases l3_6 with
  | nil => exact t3.elim
  | cons y10 l3_7 =>
  obtain ⟨⟨a10, rfl⟩, t3⟩ := t3
  cases l3_7 with
  | nil => exact t3.elim
  | cons y11 l3_8 =>
  obtain ⟨⟨a11, rfl⟩, t3⟩ := t3
  cases l3_8 with
  | nil => exact t3.elim
  | cons y12 l3_9 =>
  obtain ⟨⟨a12, rfl, w12⟩, t3⟩ := t3
  cases l3_9 with
  | nil => exact t3.elim
  | cons y13 l3_10 =>
  obtain ⟨⟨a13, rfl, w13⟩, t3⟩ := t3
  cases l3_10 with
  | cons y l => exact t3.elim
  | nil =>
  obtain ⟨a14, rfl, rfl, rfl, z14⟩ := open_int Try.underlying49 (hval 4 49 v4 rfl rfl) h4
  have w14 : IntKind.min .u32 ≤ a14 ∧ a14 ≤ IntKind.max .u32 := by simpa [Lit.wf] using z14
  refine (extBack_walk a0 w0 a1 w1 a2 w2 a3 w3 a4 w4 a5 w5 a6 w6 a7 w7 a8 w8 a9 w9 a10 a11 a12 w12 a13 w13 a14 w14 W).mono fun e W' ⟨he, bel⟩ => ?_
  subst he
  exact ⟨_, rfl, _, _, _, [], _, [], hW', trodAll_mk1 (shut_bool Try.underlying4 _), (trodAll_cons_mk (shut_int Try.underlying21 z0) (trodAll_cons_mk (shut_int Try.underlying49 z1) (trodAll_cons_mk (shut_int Try.underlying49 z2) (trodAll_cons_mk (flat_world (fs := _) (ks := [.int .u8, .int .u8, .int .u8, .int .u8, .int .u8, .int .u8, .int .u8, .bool, .bool, .int .u16, .int .i64]) Try.underlying48 (by kernel_rfl) h3) (trodAll_cons_mk (shut_int Try.underlying49 z14) trodAll_mk0))))), rfl, bel.frame _, fun h => by cases h⟩
theorem over : Rows.extBackRow.holds Try.pinned (OpenSpec.ofChange Rows.extBackSpec) :=
  OpenClaim.holds_of_wide 9 Try.f9 rfl rfl rfl rfl rfl rfl rfl ⟨rfl, rfl, rfl, rfl, rfl⟩ rfl rfl rfl rfl rfl (by kernel_rfl) Try.func9 (by kernel_rfl)
    (of_decide_eq_true (by kernel_rfl)) (by unfold Func.isWrapper; first | (rw [if_pos (by decide +kernel)]; kernel_rfl) | (rw [if_neg (by decide +kernel)]; exact ⟨rfl, rfl⟩))
    (fun os started H enc _ => lifted os started H enc)
theorem proved : Rows.ExtBackSaid := over
#print axioms proved
end Go.Proofs.Ytgpijioodocplaa.extBack
namespace Go.Proofs.Ytgpijioodocplaa
/-- The row, under a short name, for the claim. -/
theorem extBack_holds : Rows.ExtBackSaid := extBack.proved
end Go.Proofs.Ytgpijioodocplaa
