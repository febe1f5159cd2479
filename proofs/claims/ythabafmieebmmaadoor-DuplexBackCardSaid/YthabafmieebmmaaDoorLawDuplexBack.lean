/- The law coxlesslaw08.DuplexBack: whatever the input, it answers true, and the input reads as it did. No condition. -/
import Derived.Test.YthabafmieebmmaaDoorRows
import Derived.Test.YthabafmieebmmaaDoorKnDuplexBack
import Derived.Test.YthabafmieebmmaaDoorTie
import Derived.Test.YthabafmieebmmaaDoorCards
import Derived.SevenTiedAt
import Derived.WalkKit
import Derived.ProofKit
import Derived.OpenShut
import Derived.ShutString
import Derived.ChangeOld
import Derived.Below
import Derived.SizedLaws
import Derived.LaidMore
import Derived.Stop.Joined
namespace Go.Proofs.YthabafmieebmmaaDoor.duplexBack
open Go.ChangeShapes Go.WideShapes Go.ChangeAt Go.RowKit
open Go.ChangeMaps (open_string shut_string)
set_option linter.unusedVariables false
theorem own : ownKnob Tryd.prog.godebug = none := by kernel_rfl
/-- The heap that the door itself leaves meets the condition. -/
theorem door_met (os : Os) (args : Array Value) : laidMetH Tryd.prog Rows.duplexBackRow.laid ((World.doorLaid Tryd.prog 2000 os).forCall (fun _ _ => 0) ⟨#[], args, []⟩).memory :=
  laidMetH_of_parts3 (fuel := 8) (laidMet_of_run' 8 (by kernel_rfl) (by kernel_rfl)) (by kernel_rfl) (by kernel_rfl)
set_option maxRecDepth 100000 in
theorem lifted (os : Os) (started : os.Started) (H : Type) (enc : TypeId × Value → H) :
    ReturnsInHanded {} Tryd.checked os 7 .any (fun w args => (Rows.duplexBackSpec.pre enc Tryd.prog Tryd.f7 [] false w args ∧ laidMetH Tryd.prog Rows.duplexBackRow.laid w) ∧ sizedMet enc Tryd.prog Tryd.f7 (OpenSpec.ofChange Rows.duplexBackSpec) false w args) (Rows.duplexBackSpec.post enc Tryd.prog Tryd.f7 false true false false) := by
  refine returnsInHanded_of_change_and (C := Tryd.checked) (X := fun w _ => laidMetH Tryd.prog Rows.duplexBackRow.laid w) (fun _ _ _ hh h => h.of_heap hh) own started (by kernel_rfl) Tryd.func7
    (ChangeSpec.witness_shaped (enc := enc) (C := Tryd.checked) (os := os) (X := fun w _ => laidMetH Tryd.prog Rows.duplexBackRow.laid w) false (World.doorLaid Tryd.prog 2000 os) #[.agg #[.int .u8 0, .int .u8 0, .int .u8 0, .int .u8 0, .int .u8 0, .int .u8 0, .int .u8 0, .bool false, .bool false, .int .u16 0, .int .i64 0], .agg #[.int .u8 0, .int .u8 0, .int .u8 0, .int .u8 0, .int .u8 0, .int .u8 0, .int .u8 0, .bool false, .bool false, .int .u16 0, .int .i64 0]] 8 rfl (World.shaped_of_RefB (by kernel_rfl) (by kernel_rfl)) (by kernel_rfl) (by kernel_rfl) (by kernel_rfl) (door_met os _)) ?_
  intro W base args ds gs before hval0 hW hcnd hsz0 hL _
  have hsz : (DataW.weightsEach Tryd.prog (Tryd.f7.params.toList ++ Rows.duplexBackSpec.plain.varTypes Tryd.prog) (ds ++ gs)).all (· ≤ reachBytes) = true := hsz0
  have hval : ∀ (j : Nat) t v, Tryd.f7.params[j]? = some t → args[j]? = some v → Value.okWide Tryd.prog W .any base t v := hval0
  have hW' := hW
  obtain ⟨p, q, hA0, hV, rfl, hfz, hnd⟩ := hW
  have hA : DataW.TrodAll enc Tryd.prog W 0 (fun _ => true) true Tryd.f7.params.toList args.toList ds p := hA0
  rw [Tryd.params7] at hA hval hsz
  obtain ⟨v0, vs0, d0, ds0, p0, q0, hargs, rfl, rfl, h0, r0⟩ := trodAll_cons hA
  obtain ⟨v1, vs1, d1, ds1, p1, q1, rfl, rfl, rfl, h1, r1⟩ := trodAll_cons r0
  obtain ⟨rfl, rfl, rfl⟩ := trodAll_nil r1
  obtain rfl : args = #[v0, v1] := by cases args; simp_all
  obtain ⟨rfl, rfl⟩ := trodVars_none hV
  obtain ⟨l0, rfl, t0⟩ := open_flat (fs := _) (ks := [.int .u8, .int .u8, .int .u8, .int .u8, .int .u8, .int .u8, .int .u8, .bool, .bool, .int .u16, .int .i64]) Tryd.underlying24 (by kernel_rfl) (by kernel_rfl) (hval 0 24 v0 rfl rfl) h0
  cases l0 with
  | nil => exact t0.elim
  | cons y0 l0_0 =>
  obtain ⟨⟨a0, rfl, w0⟩, t0⟩ := t0
  cases l0_0 with
  | nil => exact t0.elim
  | cons y1 l0_1 =>
  obtain ⟨⟨a1, rfl, w1⟩, t0⟩ := t0
  cases l0_1 with
  | nil => exact t0.elim
  | cons y2 l0_2 =>
  obtain ⟨⟨a2, rfl, w2⟩, t0⟩ := t0
  cases l0_2 with
  | nil => exact t0.elim
  | cons y3 l0_3 =>
  obtain ⟨⟨a3, rfl, w3⟩, t0⟩ := t0
  cases l0_3 with
  | nil => exact t0.elim
  | cons y4 l0_4 =>
  obtain ⟨⟨a4, rfl, w4⟩, t0⟩ := t0
  cases l0_4 with
  | nil => exact t0.elim
  | cons y5 l0_5 =>
  obtain ⟨⟨a5, rfl, w5⟩, t0⟩ := t0
  cases l0_5 with
  | nil => exact t0.elim
  | cons y6 l0_6 =>
  obtain ⟨⟨a6, rfl, w6⟩, t0⟩ := t0
  cases l0_6 with
  | nil => exact t0.elim
  | cons y7 l0_7 =>
  obtain ⟨⟨a7, rfl⟩, t0⟩ := t0
  cases l0_7 with
  | nil => exact t0.elim
  | cons y8 l0_8 =>
  obtain ⟨⟨a8, rfl⟩, t0⟩ := t0
  cases l0_8 with
  | nil => exact t0.elim
  | cons y9 l0_9 =>
  obtain ⟨⟨a9, rfl, w9⟩, t0⟩ := t0
  cases l0_9 with
  | nil => exact t0.elim
  | cons y10 l0_10 =>
  obtain ⟨⟨a10, rfl, w10⟩, t0⟩ := t0
  cases l0_10 with
  | cons y l => exact t0.elim
  | nil =>
  obtain ⟨l1, rfl, t1⟩ := open_flat (fs := _) (ks := [.int .u8, .int .u8, .int .u8, .int .u8, .int .u8, .int .u8, .int .u8, .bool, .bool, .int .u16, .int .i64]) Tryd.underlying24 (by kernel_rfl) (by kernel_rfl) (hval 1 24 v1 rfl rfl) h1
  cases l1 with
  | nil => exact t1.elim
  | cons y11 l1_0 =>
  obtain ⟨⟨a11, rfl, w11⟩, t1⟩ := t1
  cases l1_0 with
  | nil => exact t1.elim
  | cons y12 l1_1 =>
  obtain ⟨⟨a12, rfl, w12⟩, t1⟩ := t1
  cases l1_1 with
  | nil => exact t1.elim
  | cons y13 l1_2 =>
  obtain ⟨⟨a13, rfl, w13⟩, t1⟩ := t1
  cases l1_2 with
  | nil => exact t1.elim
  | cons y14 l1_3 =>
  obtain ⟨⟨a14, rfl, w14⟩, t1⟩ := t1
  cases l1_3 with
  | nil => exact t1.elim
  | cons y15 l1_4 =>
  obtain ⟨⟨a15, rfl, w15⟩, t1⟩ := t1
  cases l1_4 with
  | nil => exact t1.elim
  | cons y16 l1_5 =>
  obtain ⟨⟨a16, rfl, w16⟩, t1⟩ := t1
  cases l1_5 with
  | nil => exact t1.elim
  | cons y17 l1_6 =>
  obtain ⟨⟨a17, rfl, w17⟩, t1⟩ := t1
  cases l1_6 with
  | nil => exact t1.elim
  | cons y18 l1_7 =>
  obtain ⟨⟨a18, rfl⟩, t1⟩ := t1
  cases l1_7 with
  | nil => exact t1.elim
  | cons y19 l1_8 =>
  obtain ⟨⟨a19, rfl⟩, t1⟩ := t1
  cases l1_8 with
  | nil => exact t1.elim
  | cons y20 l1_9 =>
  obtain ⟨⟨a20, rfl, w20⟩, t1⟩ := t1
  cases l1_9 with
  | nil => exact t1.elim
  | cons y21 l1_10 =>
  obtain ⟨⟨a21, rfl, w21⟩, t1⟩ := t1
  cases l1_10 with
  | cons y l => exact t1.elim
  | nil =>
  refine (duplexBack_walk a0 w0 a1 w1 a2 w2 a3 w3 a4 w4 a5 w5 a6 w6 a7 a8 a9 w9 a10 w10 a11 w11 a12 w12 a13 w13 a14 w14 a15 w15 a16 w16 a17 w17 a18 a19 a20 w20 a21 w21 W hL).mono fun e W' ⟨he, bel⟩ => ?_
  subst he
  exact ⟨_, rfl, _, _, _, [], _, [], hW', trodAll_mk1 (shut_bool Tryd.underlying4 _), (trodAll_cons_mk (flat_world (fs := _) (ks := [.int .u8, .int .u8, .int .u8, .int .u8, .int .u8, .int .u8, .int .u8, .bool, .bool, .int .u16, .int .i64]) Tryd.underlying24 (by kernel_rfl) h0) (trodAll_cons_mk (flat_world (fs := _) (ks := [.int .u8, .int .u8, .int .u8, .int .u8, .int .u8, .int .u8, .int .u8, .bool, .bool, .int .u16, .int .i64]) Tryd.underlying24 (by kernel_rfl) h1) trodAll_mk0)), rfl, bel.frame _, fun h => by cases h⟩
theorem over : Rows.duplexBackRow.holds Tryd.pinned (OpenSpec.ofChange Rows.duplexBackSpec) :=
  OpenClaim.holds_of_wide 7 Tryd.f7 rfl rfl rfl rfl rfl rfl rfl ⟨rfl, rfl, rfl, rfl, rfl⟩ rfl rfl rfl rfl rfl (by kernel_rfl) Tryd.func7 (by kernel_rfl)
    (of_decide_eq_true (by kernel_rfl)) (by unfold Func.isWrapper; first | (rw [if_pos (by decide +kernel)]; kernel_rfl) | (rw [if_neg (by decide +kernel)]; exact ⟨rfl, rfl⟩))
    (fun os started H enc _ => lifted os started H enc)
theorem proved : Rows.DuplexBackSaid := over
#print axioms proved
end Go.Proofs.YthabafmieebmmaaDoor.duplexBack
namespace Go.Proofs.YthabafmieebmmaaDoor
open Go
/-- The card, its one call. -/
theorem duplexBackCard_holds : Rows.DuplexBackCardSaid :=
  Claim7.holds_tied_plain_at .later [] [.wider, .wider, .wider, .wider, .data] true (true, "03d763d436fc5466796b35be6fb1e759326b3c944bbffa4497a44ad4e545ec90") false
    duplexBack.proved (fun _ h => by cases h) (by kernel_rfl) (fun _ h => by cases h) duplexBack_row_tie rfl ⟨rfl, rfl⟩ (by kernel_rfl) rfl
    (fun f fn hf hfn => by
      obtain rfl : f = 7 := Option.some.inj ((show Tryd.prog.funcNamed "coxless/coxlesslaw08.DuplexBack" = some 7 by kernel_rfl).symm.trans hf) |>.symm
      obtain rfl : fn = Tryd.f7 := (Option.some.inj (Tryd.func7.symm.trans hfn)).symm
      exact ⟨by kernel_rfl, fun j t ht => by
        rw [Tryd.params7] at ht
        match j, ht with
        | 0, ht => obtain rfl := Option.some.inj ht; exact (show Tryd.prog.wantsStandIn 24 = false by kernel_rfl)
        | 1, ht => obtain rfl := Option.some.inj ht; exact (show Tryd.prog.wantsStandIn 24 = false by kernel_rfl)
        | k + 2, ht => simp at ht⟩)
    (by kernel_rfl)
#print axioms duplexBackCard_holds
end Go.Proofs.YthabafmieebmmaaDoor
