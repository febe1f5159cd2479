/- The law coxlesslaw06.EncBack: whatever the input, it answers true, and the input reads as it did. No condition. -/
import Derived.Test.YtamhmfdbnlkmkaaDoorRows
import Derived.Test.YtamhmfdbnlkmkaaDoorKnEncBack
import Derived.Test.YtamhmfdbnlkmkaaDoorTie
import Derived.Test.YtamhmfdbnlkmkaaDoorCards
import Derived.SevenTiedAt
import Derived.WalkKit
import Derived.ProofKit
import Derived.OpenShut
import Derived.ShutString
import Derived.ChangeOld
import Derived.Below
import Derived.SizedLaws
import Derived.LaidMore
import Derived.Stop.Joined
namespace Go.Proofs.YtamhmfdbnlkmkaaDoor.encBack
open Go.ChangeShapes Go.WideShapes Go.ChangeAt Go.RowKit
open Go.ChangeMaps (open_string shut_string)
set_option linter.unusedVariables false
theorem own : ownKnob Tryd.prog.godebug = none := by kernel_rfl
/-- The heap that the door itself leaves meets the condition. -/
theorem door_met (os : Os) (args : Array Value) : laidMetH Tryd.prog Rows.encBackRow.laid ((World.doorLaid Tryd.prog 2000 os).forCall (fun _ _ => 0) ⟨#[], args, []⟩).memory :=
  laidMetH_of_parts3 (fuel := 8) (laidMet_of_run' 8 (by kernel_rfl) (by kernel_rfl)) (by kernel_rfl) (by kernel_rfl)
set_option maxRecDepth 100000 in
theorem lifted (os : Os) (started : os.Started) (H : Type) (enc : TypeId × Value → H) :
    ReturnsInHanded {} Tryd.checked os 3 .any (fun w args => (Rows.encBackSpec.pre enc Tryd.prog Tryd.f3 [] false w args ∧ laidMetH Tryd.prog Rows.encBackRow.laid w) ∧ sizedMet enc Tryd.prog Tryd.f3 (OpenSpec.ofChange Rows.encBackSpec) false w args) (Rows.encBackSpec.post enc Tryd.prog Tryd.f3 false true false false) := by
  refine returnsInHanded_of_change_and (C := Tryd.checked) (X := fun w _ => laidMetH Tryd.prog Rows.encBackRow.laid w) (fun _ _ _ hh h => h.of_heap hh) own started (by kernel_rfl) Tryd.func3
    (ChangeSpec.witness_shaped (enc := enc) (C := Tryd.checked) (os := os) (X := fun w _ => laidMetH Tryd.prog Rows.encBackRow.laid w) false (World.doorLaid Tryd.prog 2000 os) #[.int .u32 0, .int .u32 0, .bool false, .agg #[.int .u8 0, .int .u8 0, .int .u8 0, .int .u8 0, .int .u8 0, .int .u8 0, .int .u8 0, .bool false, .bool false, .int .u16 0, .int .i64 0], .int .u32 0, .int .u8 0] 8 rfl (World.shaped_of_RefB (by kernel_rfl) (by kernel_rfl)) (by kernel_rfl) (by kernel_rfl) (by kernel_rfl) (door_met os _)) ?_
  intro W base args ds gs before hval0 hW hcnd hsz0 hL _
  have hsz : (DataW.weightsEach Tryd.prog (Tryd.f3.params.toList ++ Rows.encBackSpec.plain.varTypes Tryd.prog) (ds ++ gs)).all (· ≤ reachBytes) = true := hsz0
  have hval : ∀ (j : Nat) t v, Tryd.f3.params[j]? = some t → args[j]? = some v → Value.okWide Tryd.prog W .any base t v := hval0
  have hW' := hW
  obtain ⟨p, q, hA0, hV, rfl, hfz, hnd⟩ := hW
  have hA : DataW.TrodAll enc Tryd.prog W 0 (fun _ => true) true Tryd.f3.params.toList args.toList ds p := hA0
  rw [Tryd.params3] at hA hval hsz
  obtain ⟨v0, vs0, d0, ds0, p0, q0, hargs, rfl, rfl, h0, r0⟩ := trodAll_cons hA
  obtain ⟨v1, vs1, d1, ds1, p1, q1, rfl, rfl, rfl, h1, r1⟩ := trodAll_cons r0
  obtain ⟨v2, vs2, d2, ds2, p2, q2, rfl, rfl, rfl, h2, r2⟩ := trodAll_cons r1
  obtain ⟨v3, vs3, d3, ds3, p3, q3, rfl, rfl, rfl, h3, r3⟩ := trodAll_cons r2
  obtain ⟨v4, vs4, d4, ds4, p4, q4, rfl, rfl, rfl, h4, r4⟩ := trodAll_cons r3
  obtain ⟨v5, vs5, d5, ds5, p5, q5, rfl, rfl, rfl, h5, r5⟩ := trodAll_cons r4
  obtain ⟨rfl, rfl, rfl⟩ := trodAll_nil r5
  obtain rfl : args = #[v0, v1, v2, v3, v4, v5] := by cases args; simp_all
  obtain ⟨rfl, rfl⟩ := trodVars_none hV
  obtain ⟨a0, rfl, rfl, rfl, z0⟩ := open_int Tryd.underlying22 (hval 0 22 v0 rfl rfl) h0
  have w0 : IntKind.min .u32 ≤ a0 ∧ a0 ≤ IntKind.max .u32 := by simpa [Lit.wf] using z0
  obtain ⟨a1, rfl, rfl, rfl, z1⟩ := open_int Tryd.underlying22 (hval 1 22 v1 rfl rfl) h1
  have w1 : IntKind.min .u32 ≤ a1 ∧ a1 ≤ IntKind.max .u32 := by simpa [Lit.wf] using z1
  obtain ⟨a2, rfl, rfl, rfl⟩ := open_bool Tryd.underlying4 (hval 2 4 v2 rfl rfl) h2
  obtain ⟨l3, rfl, t3⟩ := open_flat (fs := _) (ks := [.int .u8, .int .u8, .int .u8, .int .u8, .int .u8, .int .u8, .int .u8, .bool, .bool, .int .u16, .int .i64]) Tryd.underlying25 (by kernel_rfl) (by kernel_rfl) (hval 3 25 v3 rfl rfl) h3
  cases l3 with
  | nil => exact t3.elim
  | cons y3 l3_0 =>
  obtain ⟨⟨a3, rfl, w3⟩, t3⟩ := t3
  cases l3_0 with
  | nil => exact t3.elim
  | cons y4 l3_1 =>
  obtain ⟨⟨a4, rfl, w4⟩, t3⟩ := t3
  cases l3_1 with
  | nil => exact t3.elim
  | cons y5 l3_2 =>
  obtain ⟨⟨a5, rfl, w5⟩, t3⟩ := t3
  cases l3_2 with
  | nil => exact t3.elim
  | cons y6 l3_3 =>
  obtain ⟨⟨a6, rfl, w6⟩, t3⟩ := t3
  cases l3_3 with
  | nil => exact t3.elim
  | cons y7 l3_4 =>
  obtain ⟨⟨a7, rfl, w7⟩, t3⟩ := t3
  cases l3_4 with
  | nil => exact t3.elim
  | cons y8 l3_5 =>
  obtain ⟨⟨a8, rfl, w8⟩, t3⟩ := t3
  cases l3_5 with
  | nil => exact t3.elim
  | cons y9 l3_6 =>
  obtain ⟨⟨a9, rfl, w9⟩, t3⟩ := t3
  cases l3_6 with
  | nil => exact t3.elim
  | cons y10 l3_7 =>
  obtain ⟨⟨a10, rfl⟩, t3⟩ := t3
  cases l3_7 with
  | nil => exact t3.elim
  | cons y11 l3_8 =>
  obtain ⟨⟨a11, rfl⟩, t3⟩ := t3
  cases l3_8 with
  | nil => exact t3.elim
  | cons y12 l3_9 =>
  obtain ⟨⟨a12, rfl, w12⟩, t3⟩ := t3
  cases l3_9 with
  | nil => exact t3.elim
  | cons y13 l3_10 =>
  obtain ⟨⟨a13, rfl, w13⟩, t3⟩ := t3
  cases l3_10 with
  | cons y l => exact t3.elim
  | nil =>
  obtain ⟨a14, rfl, rfl, rfl, z14⟩ := open_int Tryd.underlying22 (hval 4 22 v4 rfl rfl) h4
  have w14 : IntKind.min .u32 ≤ a14 ∧ a14 ≤ IntKind.max .u32 := by simpa [Lit.wf] using z14
  obtain ⟨a15, rfl, rfl, rfl, z15⟩ := open_int Tryd.underlying5 (hval 5 5 v5 rfl rfl) h5
  have w15 : IntKind.min .u8 ≤ a15 ∧ a15 ≤ IntKind.max .u8 := by simpa [Lit.wf] using z15
  refine (encBack_walk a0 w0 a1 w1 a2 a3 w3 a4 w4 a5 w5 a6 w6 a7 w7 a8 w8 a9 w9 a10 a11 a12 w12 a13 w13 a14 w14 a15 w15 W hL).mono fun e W' ⟨he, bel⟩ => ?_
  subst he
  exact ⟨_, rfl, _, _, _, [], _, [], hW', trodAll_mk1 (shut_bool Tryd.underlying4 _), (trodAll_cons_mk (shut_int Tryd.underlying22 z0) (trodAll_cons_mk (shut_int Tryd.underlying22 z1) (trodAll_cons_mk (shut_bool Tryd.underlying4 _) (trodAll_cons_mk (flat_world (fs := _) (ks := [.int .u8, .int .u8, .int .u8, .int .u8, .int .u8, .int .u8, .int .u8, .bool, .bool, .int .u16, .int .i64]) Tryd.underlying25 (by kernel_rfl) h3) (trodAll_cons_mk (shut_int Tryd.underlying22 z14) (trodAll_cons_mk (shut_int Tryd.underlying5 z15) trodAll_mk0)))))), rfl, bel.frame _, fun h => by cases h⟩
theorem over : Rows.encBackRow.holds Tryd.pinned (OpenSpec.ofChange Rows.encBackSpec) :=
  OpenClaim.holds_of_wide 3 Tryd.f3 rfl rfl rfl rfl rfl rfl rfl ⟨rfl, rfl, rfl, rfl, rfl⟩ rfl rfl rfl rfl rfl (by kernel_rfl) Tryd.func3 (by kernel_rfl)
    (of_decide_eq_true (by kernel_rfl)) (by unfold Func.isWrapper; first | (rw [if_pos (by decide +kernel)]; kernel_rfl) | (rw [if_neg (by decide +kernel)]; exact ⟨rfl, rfl⟩))
    (fun os started H enc _ => lifted os started H enc)
theorem proved : Rows.EncBackSaid := over
#print axioms proved
end Go.Proofs.YtamhmfdbnlkmkaaDoor.encBack
namespace Go.Proofs.YtamhmfdbnlkmkaaDoor
open Go
/-- The card, its one call. -/
theorem encBackCard_holds : Rows.EncBackCardSaid :=
  Claim7.holds_tied_plain_at .later [] [.wider, .wider, .wider] true (true, "f834800b45c4d09689c21745fc09d777aa8bd6b355151e95b5faa760c032973f") false
    encBack.proved (fun _ h => by cases h) (by kernel_rfl) (fun _ h => by cases h) encBack_row_tie rfl ⟨rfl, rfl⟩ (by kernel_rfl) rfl
    (fun f fn hf hfn => by
      obtain rfl : f = 3 := Option.some.inj ((show Tryd.prog.funcNamed "coxless/coxlesslaw06.EncBack" = some 3 by kernel_rfl).symm.trans hf) |>.symm
      obtain rfl : fn = Tryd.f3 := (Option.some.inj (Tryd.func3.symm.trans hfn)).symm
      exact ⟨by kernel_rfl, fun j t ht => by
        rw [Tryd.params3] at ht
        match j, ht with
        | 0, ht => obtain rfl := Option.some.inj ht; exact (show Tryd.prog.wantsStandIn 22 = false by kernel_rfl)
        | 1, ht => obtain rfl := Option.some.inj ht; exact (show Tryd.prog.wantsStandIn 22 = false by kernel_rfl)
        | 2, ht => obtain rfl := Option.some.inj ht; exact (show Tryd.prog.wantsStandIn 4 = false by kernel_rfl)
        | 3, ht => obtain rfl := Option.some.inj ht; exact (show Tryd.prog.wantsStandIn 25 = false by kernel_rfl)
        | 4, ht => obtain rfl := Option.some.inj ht; exact (show Tryd.prog.wantsStandIn 22 = false by kernel_rfl)
        | 5, ht => obtain rfl := Option.some.inj ht; exact (show Tryd.prog.wantsStandIn 5 = false by kernel_rfl)
        | k + 6, ht => simp at ht⟩)
    (by kernel_rfl)
#print axioms encBackCard_holds
end Go.Proofs.YtamhmfdbnlkmkaaDoor
