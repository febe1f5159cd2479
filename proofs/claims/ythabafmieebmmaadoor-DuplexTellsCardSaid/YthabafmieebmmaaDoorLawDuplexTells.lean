/- The law coxlesslaw08.DuplexTells: whatever the input, it answers true, and the input reads as it did. No condition. -/
import Derived.Test.YthabafmieebmmaaDoorRows
import Derived.Test.YthabafmieebmmaaDoorKnDuplexTells
import Derived.Test.YthabafmieebmmaaDoorTie
import Derived.Test.YthabafmieebmmaaDoorCards
import Derived.SevenTiedAt
import Derived.WalkKit
import Derived.ProofKit
import Derived.OpenShut
import Derived.ShutString
import Derived.ChangeOld
import Derived.Below
import Derived.SizedLaws
import Derived.LaidMore
import Derived.Stop.Joined
namespace Go.Proofs.YthabafmieebmmaaDoor.duplexTells
open Go.ChangeShapes Go.WideShapes Go.ChangeAt Go.RowKit
open Go.ChangeMaps (open_string shut_string)
set_option linter.unusedVariables false
theorem own : ownKnob Tryd.prog.godebug = none := by kernel_rfl
/-- The heap that the door itself leaves meets the condition. -/
theorem door_met (os : Os) (args : Array Value) : laidMetH Tryd.prog Rows.duplexTellsRow.laid ((World.doorLaid Tryd.prog 2000 os).forCall (fun _ _ => 0) ⟨#[], args, []⟩).memory :=
  laidMetH_of_parts3 (fuel := 8) (laidMet_of_run' 8 (by kernel_rfl) (by kernel_rfl)) (by kernel_rfl) (by kernel_rfl)
set_option maxRecDepth 100000 in
theorem lifted (os : Os) (started : os.Started) (H : Type) (enc : TypeId × Value → H) :
    ReturnsInHanded {} Tryd.checked os 6 .any (fun w args => (Rows.duplexTellsSpec.pre enc Tryd.prog Tryd.f6 [] false w args ∧ laidMetH Tryd.prog Rows.duplexTellsRow.laid w) ∧ sizedMet enc Tryd.prog Tryd.f6 (OpenSpec.ofChange Rows.duplexTellsSpec) false w args) (Rows.duplexTellsSpec.post enc Tryd.prog Tryd.f6 false true false false) := by
  refine returnsInHanded_of_change_and (C := Tryd.checked) (X := fun w _ => laidMetH Tryd.prog Rows.duplexTellsRow.laid w) (fun _ _ _ hh h => h.of_heap hh) own started (by kernel_rfl) Tryd.func6
    (ChangeSpec.witness_shaped (enc := enc) (C := Tryd.checked) (os := os) (X := fun w _ => laidMetH Tryd.prog Rows.duplexTellsRow.laid w) false (World.doorLaid Tryd.prog 2000 os) #[.int .u32 0, .agg #[.int .u8 0, .int .u8 0, .int .u8 0, .int .u8 0, .int .u8 0, .int .u8 0, .int .u8 0, .bool false, .bool false, .int .u16 0, .int .i64 0], .agg #[.int .u8 0, .int .u8 0, .int .u8 0, .int .u8 0, .int .u8 0, .int .u8 0, .int .u8 0, .bool false, .bool false, .int .u16 0, .int .i64 0]] 8 rfl (World.shaped_of_RefB (by kernel_rfl) (by kernel_rfl)) (by kernel_rfl) (by kernel_rfl) (by kernel_rfl) (door_met os _)) ?_
  intro W base args ds gs before hval0 hW hcnd hsz0 hL _
  have hsz : (DataW.weightsEach Tryd.prog (Tryd.f6.params.toList ++ Rows.duplexTellsSpec.plain.varTypes Tryd.prog) (ds ++ gs)).all (· ≤ reachBytes) = true := hsz0
  have hval : ∀ (j : Nat) t v, Tryd.f6.params[j]? = some t → args[j]? = some v → Value.okWide Tryd.prog W .any base t v := hval0
  have hW' := hW
  obtain ⟨p, q, hA0, hV, rfl, hfz, hnd⟩ := hW
  have hA : DataW.TrodAll enc Tryd.prog W 0 (fun _ => true) true Tryd.f6.params.toList args.toList ds p := hA0
  rw [Tryd.params6] at hA hval hsz
  obtain ⟨v0, vs0, d0, ds0, p0, q0, hargs, rfl, rfl, h0, r0⟩ := trodAll_cons hA
  obtain ⟨v1, vs1, d1, ds1, p1, q1, rfl, rfl, rfl, h1, r1⟩ := trodAll_cons r0
  obtain ⟨v2, vs2, d2, ds2, p2, q2, rfl, rfl, rfl, h2, r2⟩ := trodAll_cons r1
  obtain ⟨rfl, rfl, rfl⟩ := trodAll_nil r2
  obtain rfl : args = #[v0, v1, v2] := by cases args; simp_all
  obtain ⟨rfl, rfl⟩ := trodVars_none hV
  obtain ⟨a0, rfl, rfl, rfl, z0⟩ := open_int Tryd.underlying48 (hval 0 48 v0 rfl rfl) h0
  have w0 : IntKind.min .u32 ≤ a0 ∧ a0 ≤ IntKind.max .u32 := by simpa [Lit.wf] using z0
  obtain ⟨l1, rfl, t1⟩ := open_flat (fs := _) (ks := [.int .u8, .int .u8, .int .u8, .int .u8, .int .u8, .int .u8, .int .u8, .bool, .bool, .int .u16, .int .i64]) Tryd.underlying24 (by kernel_rfl) (by kernel_rfl) (hval 1 24 v1 rfl rfl) h1
  cases l1 with
  | nil => exact t1.elim
  | cons y1 l1_0 =>
  obtain ⟨⟨a1, rfl, w1⟩, t1⟩ := t1
  cases l1_0 with
  | nil => exact t1.elim
  | cons y2 l1_1 =>
  obtain ⟨⟨a2, rfl, w2⟩, t1⟩ := t1
  cases l1_1 with
  | nil => exact t1.elim
  | cons y3 l1_2 =>
  obtain ⟨⟨a3, rfl, w3⟩, t1⟩ := t1
  cases l1_2 with
  | nil => exact t1.elim
  | cons y4 l1_3 =>
  obtain ⟨⟨a4, rfl, w4⟩, t1⟩ := t1
  cases l1_3 with
  | nil => exact t1.elim
  | cons y5 l1_4 =>
  obtain ⟨⟨a5, rfl, w5⟩, t1⟩ := t1
  cases l1_4 with
  | nil => exact t1.elim
  | cons y6 l1_5 =>
  obtain ⟨⟨a6, rfl, w6⟩, t1⟩ := t1
  cases l1_5 with
  | nil => exact t1.elim
  | cons y7 l1_6 =>
  obtain ⟨⟨a7, rfl, w7⟩, t1⟩ := t1
  cases l1_6 with
  | nil => exact t1.elim
  | cons y8 l1_7 =>
  obtain ⟨⟨a8, rfl⟩, t1⟩ := t1
  cases l1_7 with
  | nil => exact t1.elim
  | cons y9 l1_8 =>
  obtain ⟨⟨a9, rfl⟩, t1⟩ := t1
  cases l1_8 with
  | nil => exact t1.elim
  | cons y10 l1_9 =>
  obtain ⟨⟨a10, rfl, w10⟩, t1⟩ := t1
  cases l1_9 with
  | nil => exact t1.elim
  | cons y11 l1_10 =>
  obtain ⟨⟨a11, rfl, w11⟩, t1⟩ := t1
  cases l1_10 with
  | cons y l => exact t1.elim
  | nil =>
  obtain ⟨l2, rfl, t2⟩ := open_flat (fs := _) (ks := [.int .u8, .int .u8, .int .u8, .int .u8, .int .u8, .int .u8, .int .u8, .bool, .bool, .int .u16, .int .i64]) Tryd.underlying24 (by kernel_rfl) (by kernel_rfl) (hval 2 24 v2 rfl rfl) h2
  cases l2 with
  | nil => exact t2.elim
  | cons y12 l2_0 =>
  obtain ⟨⟨a12, rfl, w12⟩, t2⟩ := t2
  cases l2_0 with
  | nil => exact t2.elim
  | cons y13 l2_1 =>
  obtain ⟨⟨a13, rfl, w13⟩, t2⟩ := t2
  cases l2_1 with
  | nil => exact t2.elim
  | cons y14 l2_2 =>
  obtain ⟨⟨a14, rfl, w14⟩, t2⟩ := t2
  cases l2_2 with
  | nil => exact t2.elim
  | cons y15 l2_3 =>
  obtain ⟨⟨a15, rfl, w15⟩, t2⟩ := t2
  cases l2_3 with
  | nil => exact t2.elim
  | cons y16 l2_4 =>
  obtain ⟨⟨a16, rfl, w16⟩, t2⟩ := t2
  cases l2_4 with
  | nil => exact t2.elim
  | cons y17 l2_5 =>
  obtain ⟨⟨a17, rfl, w17⟩, t2⟩ := t2
  cases l2_5 with
  | nil => exact t2.elim
  | cons y18 l2_6 =>
  obtain ⟨⟨a18, rfl, w18⟩, t2⟩ := t2
  cases l2_6 with
  | nil => exact t2.elim
  | cons y19 l2_7 =>
  obtain ⟨⟨a19, rfl⟩, t2⟩ := t2
  cases l2_7 with
  | nil => exact t2.elim
  | cons y20 l2_8 =>
  obtain ⟨⟨a20, rfl⟩, t2⟩ := t2
  cases l2_8 with
  | nil => exact t2.elim
  | cons y21 l2_9 =>
  obtain ⟨⟨a21, rfl, w21⟩, t2⟩ := t2
  cases l2_9 with
  | nil => exact t2.elim
  | cons y22 l2_10 =>
  obtain ⟨⟨a22, rfl, w22⟩, t2⟩ := t2
  cases l2_10 with
  | cons y l => exact t2.elim
  | nil =>
  refine (duplexTells_walk a0 w0 a1 w1 a2 w2 a3 w3 a4 w4 a5 w5 a6 w6 a7 w7 a8 a9 a10 w10 a11 w11 a12 w12 a13 w13 a14 w14 a15 w15 a16 w16 a17 w17 a18 w18 a19 a20 a21 w21 a22 w22 W hL).mono fun e W' ⟨he, bel⟩ => ?_
  subst he
  exact ⟨_, rfl, _, _, _, [], _, [], hW', trodAll_mk1 (shut_bool Tryd.underlying4 _), (trodAll_cons_mk (shut_int Tryd.underlying48 z0) (trodAll_cons_mk (flat_world (fs := _) (ks := [.int .u8, .int .u8, .int .u8, .int .u8, .int .u8, .int .u8, .int .u8, .bool, .bool, .int .u16, .int .i64]) Tryd.underlying24 (by kernel_rfl) h1) (trodAll_cons_mk (flat_world (fs := _) (ks := [.int .u8, .int .u8, .int .u8, .int .u8, .int .u8, .int .u8, .int .u8, .bool, .bool, .int .u16, .int .i64]) Tryd.underlying24 (by kernel_rfl) h2) trodAll_mk0))), rfl, bel.frame _, fun h => by cases h⟩
theorem over : Rows.duplexTellsRow.holds Tryd.pinned (OpenSpec.ofChange Rows.duplexTellsSpec) :=
  OpenClaim.holds_of_wide 6 Tryd.f6 rfl rfl rfl rfl rfl rfl rfl ⟨rfl, rfl, rfl, rfl, rfl⟩ rfl rfl rfl rfl rfl (by kernel_rfl) Tryd.func6 (by kernel_rfl)
    (of_decide_eq_true (by kernel_rfl)) (by unfold Func.isWrapper; first | (rw [if_pos (by decide +kernel)]; kernel_rfl) | (rw [if_neg (by decide +kernel)]; exact ⟨rfl, rfl⟩))
    (fun os started H enc _ => lifted os started H enc)
theorem proved : Rows.DuplexTellsSaid := over
#print axioms proved
end Go.Proofs.YthabafmieebmmaaDoor.duplexTells
namespace Go.Proofs.YthabafmieebmmaaDoor
open Go
/-- The card, its one call. -/
theorem duplexTellsCard_holds : Rows.DuplexTellsCardSaid :=
  Claim7.holds_tied_plain_at .later [] [.wider, .wider, .wider, .wider, .data] true (true, "03d763d436fc5466796b35be6fb1e759326b3c944bbffa4497a44ad4e545ec90") false
    duplexTells.proved (fun _ h => by cases h) (by kernel_rfl) (fun _ h => by cases h) duplexTells_row_tie rfl ⟨rfl, rfl⟩ (by kernel_rfl) rfl
    (fun f fn hf hfn => by
      obtain rfl : f = 6 := Option.some.inj ((show Tryd.prog.funcNamed "coxless/coxlesslaw08.DuplexTells" = some 6 by kernel_rfl).symm.trans hf) |>.symm
      obtain rfl : fn = Tryd.f6 := (Option.some.inj (Tryd.func6.symm.trans hfn)).symm
      exact ⟨by kernel_rfl, fun j t ht => by
        rw [Tryd.params6] at ht
        match j, ht with
        | 0, ht => obtain rfl := Option.some.inj ht; exact (show Tryd.prog.wantsStandIn 48 = false by kernel_rfl)
        | 1, ht => obtain rfl := Option.some.inj ht; exact (show Tryd.prog.wantsStandIn 24 = false by kernel_rfl)
        | 2, ht => obtain rfl := Option.some.inj ht; exact (show Tryd.prog.wantsStandIn 24 = false by kernel_rfl)
        | k + 3, ht => simp at ht⟩)
    (by kernel_rfl)
#print axioms duplexTellsCard_holds
end Go.Proofs.YthabafmieebmmaaDoor
