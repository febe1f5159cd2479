/- The law coxlesslaw06.EncMoves: whatever the input, it answers true, and the input reads as it did. No condition. -/
import Derived.Test.YtgpijioodocplaaDoorRows
import Derived.Test.YtgpijioodocplaaDoorKnEncMoves
import Derived.Test.YtgpijioodocplaaDoorTie
import Derived.Test.YtgpijioodocplaaDoorCards
import Derived.SevenTiedAt
import Derived.WalkKit
import Derived.ProofKit
import Derived.OpenShut
import Derived.ShutString
import Derived.ChangeOld
import Derived.Below
import Derived.SizedLaws
import Derived.LaidMore
import Derived.Stop.Joined
namespace Go.Proofs.YtgpijioodocplaaDoor.encMoves
open Go.ChangeShapes Go.WideShapes Go.ChangeAt Go.RowKit
open Go.ChangeMaps (open_string shut_string)
set_option linter.unusedVariables false
theorem own : ownKnob Tryd.prog.godebug = none := by kernel_rfl
/-- The heap that the door itself leaves meets the condition. -/
theorem door_met (os : Os) (args : Array Value) : laidMetH Tryd.prog Rows.encMovesRow.laid ((World.doorLaid Tryd.prog 2000 os).forCall (fun _ _ => 0) ⟨#[], args, []⟩).memory :=
  laidMetH_of_parts3 (fuel := 8) (laidMet_of_run' 8 (by kernel_rfl) (by kernel_rfl)) (by kernel_rfl) (by kernel_rfl)
set_option maxRecDepth 100000 in
theorem lifted (os : Os) (started : os.Started) (H : Type) (enc : TypeId × Value → H) :
    ReturnsInHanded {} Tryd.checked os 4 .any (fun w args => (Rows.encMovesSpec.pre enc Tryd.prog Tryd.f4 [] false w args ∧ laidMetH Tryd.prog Rows.encMovesRow.laid w) ∧ sizedMet enc Tryd.prog Tryd.f4 (OpenSpec.ofChange Rows.encMovesSpec) false w args) (Rows.encMovesSpec.post enc Tryd.prog Tryd.f4 false true false false) := by
  refine returnsInHanded_of_change_and (C := Tryd.checked) (X := fun w _ => laidMetH Tryd.prog Rows.encMovesRow.laid w) (fun _ _ _ hh h => h.of_heap hh) own started (by kernel_rfl) Tryd.func4
    (ChangeSpec.witness_shaped (enc := enc) (C := Tryd.checked) (os := os) (X := fun w _ => laidMetH Tryd.prog Rows.encMovesRow.laid w) false (World.doorLaid Tryd.prog 2000 os) #[.agg #[.int .u8 0, .int .u8 0, .int .u8 0, .int .u8 0, .int .u8 0, .int .u8 0, .int .u8 0, .bool false, .bool false, .int .u16 0, .int .i64 0], .int .u32 0, .int .u32 0] 8 rfl (World.shaped_of_RefB (by kernel_rfl) (by kernel_rfl)) (by kernel_rfl) (by kernel_rfl) (by kernel_rfl) (door_met os _)) ?_
  intro W base args ds gs before hval0 hW hcnd hsz0 hL _
  have hsz : (DataW.weightsEach Tryd.prog (Tryd.f4.params.toList ++ Rows.encMovesSpec.plain.varTypes Tryd.prog) (ds ++ gs)).all (· ≤ reachBytes) = true := hsz0
  have hval : ∀ (j : Nat) t v, Tryd.f4.params[j]? = some t → args[j]? = some v → Value.okWide Tryd.prog W .any base t v := hval0
  have hW' := hW
  obtain ⟨p, q, hA0, hV, rfl, hfz, hnd⟩ := hW
  have hA : DataW.TrodAll enc Tryd.prog W 0 (fun _ => true) true Tryd.f4.params.toList args.toList ds p := hA0
  rw [Tryd.params4] at hA hval hsz
  obtain ⟨v0, vs0, d0, ds0, p0, q0, hargs, rfl, rfl, h0, r0⟩ := trodAll_cons hA
  obtain ⟨v1, vs1, d1, ds1, p1, q1, rfl, rfl, rfl, h1, r1⟩ := trodAll_cons r0
  obtain ⟨v2, vs2, d2, ds2, p2, q2, rfl, rfl, rfl, h2, r2⟩ := trodAll_cons r1
  obtain ⟨rfl, rfl, rfl⟩ := trodAll_nil r2
  obtain rfl : args = #[v0, v1, v2] := by cases args; simp_all
  obtain ⟨rfl, rfl⟩ := trodVars_none hV
  obtain ⟨l0, rfl, t0⟩ := open_flat (fs := _) (ks := [.int .u8, .int .u8, .int .u8, .int .u8, .int .u8, .int .u8, .int .u8, .bool, .bool, .int .u16, .int .i64]) Tryd.underlying24 (by kernel_rfl) (by kernel_rfl) (hval 0 24 v0 rfl rfl) h0
  cases l0 with
  | nil => exact t0.elim
  | cons y0 l0_0 =>
  obtain ⟨⟨a0, rfl, w0⟩, t0⟩ := t0
  cases l0_0 with
  | nil => exact t0.elim
  | cons y1 l0_1 =>
  obtain ⟨⟨a1, rfl, w1⟩, t0⟩ := t0
  cases l0_1 with
  | nil => exact t0.elim
  | cons y2 l0_2 =>
  obtain ⟨⟨a2, rfl, w2⟩, t0⟩ := t0
  cases l0_2 with
  | nil => exact t0.elim
  | cons y3 l0_3 =>
  obtain ⟨⟨a3, rfl, w3⟩, t0⟩ := t0
  cases l0_3 with
  | nil => exact t0.elim
  | cons y4 l0_4 =>
  obtain ⟨⟨a4, rfl, w4⟩, t0⟩ := t0
  cases l0_4 with
  | nil => exact t0.elim
  | cons y5 l0_5 =>
  obtain ⟨⟨a5, rfl, w5⟩, t0⟩ := t0
  cases l0_5 with
  | nil => exact t0.elim
  | cons y6 l0_6 =>
  obtain ⟨⟨a6, rfl, w6⟩, t0⟩ := t0
  cases l0_6 with
  | nil => exact t0.elim
  | cons y7 l0_7 =>
  obtain ⟨⟨a7, rfl⟩, t0⟩ := t0
  cases l0_7 with
  | nil => exact t0.elim
  | cons y8 l0_8 =>
  obtain ⟨⟨a8, rfl⟩, t0⟩ := t0
  cases l0_8 with
  | nil => exact t0.elim
  | cons y9 l0_9 =>
  obtain ⟨⟨a9, rfl, w9⟩, t0⟩ := t0
  cases l0_9 with
  | nil => exact t0.elim
  | cons y10 l0_10 =>
  obtain ⟨⟨a10, rfl, w10⟩, t0⟩ := t0
  cases l0_10 with
  | cons y l => exact t0.elim
  | nil =>
  obtain ⟨a11, rfl, rfl, rfl, z11⟩ := open_int Tryd.underlying25 (hval 1 25 v1 rfl rfl) h1
  have w11 : IntKind.min .u32 ≤ a11 ∧ a11 ≤ IntKind.max .u32 := by simpa [Lit.wf] using z11
  obtain ⟨a12, rfl, rfl, rfl, z12⟩ := open_int Tryd.underlying25 (hval 2 25 v2 rfl rfl) h2
  have w12 : IntKind.min .u32 ≤ a12 ∧ a12 ≤ IntKind.max .u32 := by simpa [Lit.wf] using z12
  refine (encMoves_walk a0 w0 a1 w1 a2 w2 a3 w3 a4 w4 a5 w5 a6 w6 a7 a8 a9 w9 a10 w10 a11 w11 a12 w12 W hL).mono fun e W' ⟨he, bel⟩ => ?_
  subst he
  exact ⟨_, rfl, _, _, _, [], _, [], hW', trodAll_mk1 (shut_bool Tryd.underlying4 _), (trodAll_cons_mk (flat_world (fs := _) (ks := [.int .u8, .int .u8, .int .u8, .int .u8, .int .u8, .int .u8, .int .u8, .bool, .bool, .int .u16, .int .i64]) Tryd.underlying24 (by kernel_rfl) h0) (trodAll_cons_mk (shut_int Tryd.underlying25 z11) (trodAll_cons_mk (shut_int Tryd.underlying25 z12) trodAll_mk0))), rfl, bel.frame _, fun h => by cases h⟩
theorem over : Rows.encMovesRow.holds Tryd.pinned (OpenSpec.ofChange Rows.encMovesSpec) :=
  OpenClaim.holds_of_wide 4 Tryd.f4 rfl rfl rfl rfl rfl rfl rfl ⟨rfl, rfl, rfl, rfl, rfl⟩ rfl rfl rfl rfl rfl (by kernel_rfl) Tryd.func4 (by kernel_rfl)
    (of_decide_eq_true (by kernel_rfl)) (by unfold Func.isWrapper; first | (rw [if_pos (by decide +kernel)]; kernel_rfl) | (rw [if_neg (by decide +kernel)]; exact ⟨rfl, rfl⟩))
    (fun os started H enc _ => lifted os started H enc)
theorem proved : Rows.EncMovesSaid := over
#print axioms proved
end Go.Proofs.YtgpijioodocplaaDoor.encMoves
namespace Go.Proofs.YtgpijioodocplaaDoor
open Go
/-- The card, its one call. -/
theorem encMovesCard_holds : Rows.EncMovesCardSaid :=
  Claim7.holds_tied_plain_at .later [] [.wider, .wider, .wider] true (true, "48d9828c0a099450fec4782cc9c51a2628fafea80031559ecc606a04af997acf") false
    encMoves.proved (fun _ h => by cases h) (by kernel_rfl) (fun _ h => by cases h) encMoves_row_tie rfl ⟨rfl, rfl⟩ (by kernel_rfl) rfl
    (fun f fn hf hfn => by
      obtain rfl : f = 4 := Option.some.inj ((show Tryd.prog.funcNamed "coxless/coxlesslaw06.EncMoves" = some 4 by kernel_rfl).symm.trans hf) |>.symm
      obtain rfl : fn = Tryd.f4 := (Option.some.inj (Tryd.func4.symm.trans hfn)).symm
      exact ⟨by kernel_rfl, fun j t ht => by
        rw [Tryd.params4] at ht
        match j, ht with
        | 0, ht => obtain rfl := Option.some.inj ht; exact (show Tryd.prog.wantsStandIn 24 = false by kernel_rfl)
        | 1, ht => obtain rfl := Option.some.inj ht; exact (show Tryd.prog.wantsStandIn 25 = false by kernel_rfl)
        | 2, ht => obtain rfl := Option.some.inj ht; exact (show Tryd.prog.wantsStandIn 25 = false by kernel_rfl)
        | k + 3, ht => simp at ht⟩)
    (by kernel_rfl)
#print axioms encMovesCard_holds
end Go.Proofs.YtgpijioodocplaaDoor
