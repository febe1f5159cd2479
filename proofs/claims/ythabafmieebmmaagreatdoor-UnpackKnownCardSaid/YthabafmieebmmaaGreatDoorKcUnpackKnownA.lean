/- Code made ready ahead, UnpackKnown: each is what the program says. -/
import Derived.Test.YthabafmieebmmaaGreatDoorKcBase
import Derived.Test.YthabafmieebmmaaGreatDoorMg8
set_option linter.unusedVariables false
set_option maxRecDepth 100000
namespace Go.Proofs.YthabafmieebmmaaGreatDoor
open Go

/-- What coxless/bits.codeAt holds. -/
noncomputable def glUnpackKnown0 : List TC := [(.sc (.int .i64 26)), (.sc (.int .i64 6))]
noncomputable def gwUnpackKnown0 : Nat := 2
/-- What coxless/bits.ends holds. -/
noncomputable def glUnpackKnown1 : List TC := [(.sc (.int .i64 0)), (.sc (.int .i64 14)), (.sc (.int .i64 16)), (.sc (.int .i64 10))]
noncomputable def gwUnpackKnown1 : Nat := 4
/-- What coxless/bits.parseAt holds. -/
noncomputable def glUnpackKnown2 : List TC := [(.sc (.int .i64 14)), (.sc (.int .i64 2))]
noncomputable def gwUnpackKnown2 : Nat := 2
/-- What coxless/bits.upper holds. -/
noncomputable def glUnpackKnown4 : List TC := [(.sc (.int .i64 16)), (.sc (.int .i64 16))]
noncomputable def gwUnpackKnown4 : Nat := 2
/-- What coxless/sub.rows holds. -/
noncomputable def glUnpackKnown3 : List TC := [(.sl 10 [[(.sc (.int .u8 8)), (.sc (.int .i64 1)), (.sc (.int .i64 4)), (.sc (.int .i64 0)), (.sc (.int .i64 5)), (.sc (.int .i64 7)), (.sc (.int .i64 0)), (.sc (.int .i64 0)), (.sc (.int .i64 0)), (.sc (.int .i64 0))], [(.sc (.int .u8 7)), (.sc (.int .i64 4)), (.sc (.int .i64 4)), (.sc (.int .i64 0)), (.sc (.int .i64 6)), (.sc (.int .i64 7)), (.sc (.int .i64 0)), (.sc (.int .i64 0)), (.sc (.int .i64 0)), (.sc (.int .i64 0))], [(.sc (.int .u8 9)), (.sc (.int .i64 1)), (.sc (.int .i64 4)), (.sc (.int .i64 0)), (.sc (.int .i64 2)), (.sc (.int .i64 4)), (.sc (.int .i64 0)), (.sc (.int .i64 0)), (.sc (.int .i64 0)), (.sc (.int .i64 0))], [(.sc (.int .u8 2)), (.sc (.int .i64 4)), (.sc (.int .i64 4)), (.sc (.int .i64 0)), (.sc (.int .i64 3)), (.sc (.int .i64 4)), (.sc (.int .i64 0)), (.sc (.int .i64 0)), (.sc (.int .i64 0)), (.sc (.int .i64 0))], [(.sc (.int .u8 21)), (.sc (.int .i64 1)), (.sc (.int .i64 4)), (.sc (.int .i64 0)), (.sc (.int .i64 2)), (.sc (.int .i64 4)), (.sc (.int .i64 0)), (.sc (.int .i64 5)), (.sc (.int .i64 3)), (.sc (.int .i64 2))], [(.sc (.int .u8 24)), (.sc (.int .i64 2)), (.sc (.int .i64 4)), (.sc (.int .i64 0)), (.sc (.int .i64 3)), (.sc (.int .i64 4)), (.sc (.int .i64 0)), (.sc (.int .i64 5)), (.sc (.int .i64 3)), (.sc (.int .i64 2))], [(.sc (.int .u8 23)), (.sc (.int .i64 1)), (.sc (.int .i64 4)), (.sc (.int .i64 0)), (.sc (.int .i64 2)), (.sc (.int .i64 4)), (.sc (.int .i64 0)), (.sc (.int .i64 5)), (.sc (.int .i64 3)), (.sc (.int .i64 0))], [(.sc (.int .u8 26)), (.sc (.int .i64 2)), (.sc (.int .i64 4)), (.sc (.int .i64 0)), (.sc (.int .i64 3)), (.sc (.int .i64 4)), (.sc (.int .i64 0)), (.sc (.int .i64 5)), (.sc (.int .i64 3)), (.sc (.int .i64 0))], [(.sc (.int .u8 13)), (.sc (.int .i64 2)), (.sc (.int .i64 4)), (.sc (.int .i64 0)), (.sc (.int .i64 5)), (.sc (.int .i64 7)), (.sc (.int .i64 0)), (.sc (.int .i64 0)), (.sc (.int .i64 0)), (.sc (.int .i64 0))]])]
noncomputable def gwUnpackKnown3 : Nat := 1
noncomputable def globUnpackKnown : List (Nat × List TC) := [(0, glUnpackKnown0), (1, glUnpackKnown1), (2, glUnpackKnown2), (4, glUnpackKnown4), (3, glUnpackKnown3)]
noncomputable def SBUnpackKnown : Base := ⟨XP, globAt globUnpackKnown, 4294967296⟩
noncomputable def ff4 : FF := .t3 ⟨151,
 (.seq (.reg [.p (.mv (kc (.tc (.sc (.bool false))))) (i0 s0)])
 (.seq (.reg [.p (.bs 1 2 [[(.tc (.sc (.int .u32 0)))], [(.tc (.sc (.int .u32 0)))]] [(.mk 0 1 (kc (.tc (.sc (.int .u32 67158016))))), (.mk 1 1 (kc (.tc (.sc (.int .u32 5)))))] (G3 4 1 0)) (i0 s26),
  .p (.call 10 [(h0 g26)] (G3 4 1 1)) (i0 s27),
  .p (.mv (h0 g27)) (i0 s25),
  .p (.ex (h0 g25) 0) (i0 s28),
  .p (.ex (h0 g25) 1) (i0 s29),
  .p (.mv (h0 g28)) (i0 s1),
  .p (.mv (h0 g29)) (i0 s2)])
 (.seq (.reg [.p (.bs 1 5 [[(.tc (.sc (.int .u32 0)))], [(.tc (.sc (.int .u32 0)))], [(.tc (.sc (.int .u32 0)))], [(.tc (.sc (.int .u32 0)))], [(.tc (.sc (.int .u32 0)))]] [(.mk 0 1 (kc (.tc (.sc (.int .u32 67125248))))), (.mk 1 1 (kc (.tc (.sc (.int .u32 67125248))))), (.mk 2 1 (kc (.tc (.sc (.int .u32 67141632))))), (.mk 3 1 (kc (.tc (.sc (.int .u32 67125248))))), (.mk 4 1 (kc (.tc (.sc (.int .u32 67158016)))))] (G3 4 2 0)) (i0 s31),
  .p (.call 10 [(h0 g31)] (G3 4 2 1)) (i0 s32),
  .p (.mv (h0 g32)) (i0 s30),
  .p (.ex (h0 g30) 0) (i0 s33),
  .p (.ex (h0 g30) 1) (i0 s34),
  .p (.mv (h0 g33)) (i0 s3),
  .p (.mv (h0 g34)) (i0 s4)])
 (.seq (.reg [.p (.bs 1 2 [[(.tc (.sc (.int .u32 0)))], [(.tc (.sc (.int .u32 0)))]] [(.mk 0 1 (kc (.tc (.sc (.int .u32 537149445))))), (.mk 1 1 (kc (.tc (.sc (.int .u32 134333488)))))] (G3 4 3 0)) (i0 s36),
  .p (.call 11 [(h0 g36), (kc (.tc (.sc (.int .u32 0))))] (G3 4 3 1)) (i0 s37),
  .p (.mv (h0 g37)) (i0 s35),
  .p (.ex (h0 g35) 0) (i0 s38),
  .p (.ex (h0 g35) 1) (i0 s39),
  .p (.al 5 [(.sc (.slice none 0 0)), (.sc (.bool false)), (.sc (.bool false)), (.sc (.bool false)), (.sc (.bool false))]) (i0 s5),
  .n (.st 5 (h0 g5) (h0 g38) (G3 4 3 6)),
  .p (.mv (h0 g39)) (i0 s6)])
 (.seq (.reg [.p (.bs 1 2 [[(.tc (.sc (.int .u32 0)))], [(.tc (.sc (.int .u32 0)))]] [(.mk 0 1 (kc (.tc (.sc (.int .u32 537149445))))), (.mk 1 1 (kc (.tc (.sc (.int .u32 134333488)))))] (G3 4 4 0)) (i0 s41),
  .p (.call 12 [(h0 g41), (kc (.tc (.sc (.int .u32 0))))] (G3 4 4 1)) (i0 s42),
  .p (.mv (h0 g42)) (i0 s40),
  .p (.ex (h0 g40) 0) (i0 s43),
  .p (.ex (h0 g40) 1) (i0 s44),
  .p (.al 5 [(.sc (.slice none 0 0)), (.sc (.bool false)), (.sc (.bool false)), (.sc (.bool false)), (.sc (.bool false))]) (i0 s7),
  .n (.st 5 (h0 g7) (h0 g43) (G3 4 4 6)),
  .p (.mv (h0 g44)) (i0 s8)])
 (.seq (.reg [.p (.bs 1 1 [[(.tc (.sc (.int .u32 0)))]] [(.mk 0 1 (kc (.tc (.sc (.int .u32 0)))))] (G3 4 5 0)) (i0 s46),
  .p (.call 11 [(h0 g46), (kc (.tc (.sc (.int .u32 0))))] (G3 4 5 1)) (i0 s47),
  .p (.mv (h0 g47)) (i0 s45),
  .p (.ex (h0 g45) 0) (i0 s48),
  .p (.ex (h0 g45) 1) (i0 s49),
  .p (.al 5 [(.sc (.slice none 0 0)), (.sc (.bool false)), (.sc (.bool false)), (.sc (.bool false)), (.sc (.bool false))]) (i0 s9),
  .n (.st 5 (h0 g9) (h0 g48) (G3 4 5 6)),
  .p (.mv (h0 g49)) (i0 s10)])
 (.seq (.reg [.p (.bs 1 2 [[(.tc (.sc (.int .u32 0)))], [(.tc (.sc (.int .u32 0)))]] [(.mk 0 1 (kc (.tc (.sc (.int .u32 4748374))))), (.mk 1 1 (kc (.tc (.sc (.int .u32 67158016)))))] (G3 4 6 0)) (i0 s51),
  .p (.call 11 [(h0 g51), (kc (.tc (.sc (.int .u32 0))))] (G3 4 6 1)) (i0 s52),
  .p (.mv (h0 g52)) (i0 s50),
  .p (.ex (h0 g50) 0) (i0 s53),
  .p (.ex (h0 g50) 1) (i0 s54),
  .p (.al 5 [(.sc (.slice none 0 0)), (.sc (.bool false)), (.sc (.bool false)), (.sc (.bool false)), (.sc (.bool false))]) (i0 s11),
  .n (.st 5 (h0 g11) (h0 g53) (G3 4 6 6)),
  .p (.mv (h0 g54)) (i0 s12)])
 (.seq (.reg [.p (.bs 1 1 [[(.tc (.sc (.int .u32 0)))]] [(.mk 0 1 (kc (.tc (.sc (.int .u32 67125248)))))] (G3 4 7 0)) (i0 s56),
  .p (.call 11 [(h0 g56), (kc (.tc (.sc (.int .u32 0))))] (G3 4 7 1)) (i0 s57),
  .p (.mv (h0 g57)) (i0 s55),
  .p (.ex (h0 g55) 0) (i0 s58),
  .p (.ex (h0 g55) 1) (i0 s59),
  .p (.al 5 [(.sc (.slice none 0 0)), (.sc (.bool false)), (.sc (.bool false)), (.sc (.bool false)), (.sc (.bool false))]) (i0 s13),
  .n (.st 5 (h0 g13) (h0 g58) (G3 4 7 6)),
  .p (.mv (h0 g59)) (i0 s14)])
 (.seq (.reg [.p (.bs 1 4 [[(.tc (.sc (.int .u32 0)))], [(.tc (.sc (.int .u32 0)))], [(.tc (.sc (.int .u32 0)))], [(.tc (.sc (.int .u32 0)))]] [(.mk 0 1 (kc (.tc (.sc (.int .u32 67125248))))), (.mk 1 1 (kc (.tc (.sc (.int .u32 67125248))))), (.mk 2 1 (kc (.tc (.sc (.int .u32 67141632))))), (.mk 3 1 (kc (.tc (.sc (.int .u32 67158016)))))] (G3 4 8 0)) (i0 s61),
  .p (.call 11 [(h0 g61), (kc (.tc (.sc (.int .u32 0))))] (G3 4 8 1)) (i0 s62),
  .p (.mv (h0 g62)) (i0 s60),
  .p (.ex (h0 g60) 0) (i0 s63),
  .p (.ex (h0 g60) 1) (i1 s0),
  .p (.al 5 [(.sc (.slice none 0 0)), (.sc (.bool false)), (.sc (.bool false)), (.sc (.bool false)), (.sc (.bool false))]) (i0 s15),
  .n (.st 5 (h0 g15) (h0 g63) (G3 4 8 6)),
  .p (.mv (h1 g0)) (i0 s16)])
 (.seq (.reg [.p (.bs 1 2 [[(.tc (.sc (.int .u32 0)))], [(.tc (.sc (.int .u32 0)))]] [(.mk 0 1 (kc (.tc (.sc (.int .u32 4748374))))), (.mk 1 1 (kc (.tc (.sc (.int .u32 536985720)))))] (G3 4 9 0)) (i1 s2),
  .p (.call 11 [(h1 g2), (kc (.tc (.sc (.int .u32 0))))] (G3 4 9 1)) (i1 s3),
  .p (.mv (h1 g3)) (i1 s1),
  .p (.ex (h1 g1) 0) (i1 s4),
  .p (.ex (h1 g1) 1) (i1 s5),
  .p (.al 5 [(.sc (.slice none 0 0)), (.sc (.bool false)), (.sc (.bool false)), (.sc (.bool false)), (.sc (.bool false))]) (i0 s17),
  .n (.st 5 (h0 g17) (h1 g4) (G3 4 9 6)),
  .p (.mv (h1 g5)) (i0 s18)])
 (.seq (.reg [.p (.bs 1 1 [[(.tc (.sc (.int .u32 0)))]] [(.mk 0 1 (kc (.tc (.sc (.int .u32 4748374)))))] (G3 4 10 0)) (i1 s7),
  .p (.call 11 [(h1 g7), (kc (.tc (.sc (.int .u32 0))))] (G3 4 10 1)) (i1 s8),
  .p (.mv (h1 g8)) (i1 s6),
  .p (.ex (h1 g6) 0) (i1 s9),
  .p (.ex (h1 g6) 1) (i1 s10),
  .p (.al 5 [(.sc (.slice none 0 0)), (.sc (.bool false)), (.sc (.bool false)), (.sc (.bool false)), (.sc (.bool false))]) (i0 s19),
  .n (.st 5 (h0 g19) (h1 g9) (G3 4 10 6)),
  .p (.mv (h1 g10)) (i0 s20)])
 (.seq (.reg [.p (.call 11 [(kc (.tc (.sc (.slice none 0 0)))), (kc (.tc (.sc (.int .u32 0))))] (G3 4 11 0)) (i1 s12),
  .p (.mv (h1 g12)) (i1 s11),
  .p (.ex (h1 g11) 0) (i1 s13),
  .p (.ex (h1 g11) 1) (i1 s14),
  .p (.al 5 [(.sc (.slice none 0 0)), (.sc (.bool false)), (.sc (.bool false)), (.sc (.bool false)), (.sc (.bool false))]) (i0 s21),
  .n (.st 5 (h0 g21) (h1 g13) (G3 4 11 5)),
  .p (.mv (h1 g14)) (i0 s22)])
 (.seq (.reg [.p (.bs 1 3 [[(.tc (.sc (.int .u32 0)))], [(.tc (.sc (.int .u32 0)))], [(.tc (.sc (.int .u32 0)))]] [(.mk 0 1 (kc (.tc (.sc (.int .u32 4734976))))), (.mk 1 1 (kc (.tc (.sc (.int .u32 4734976))))), (.mk 2 1 (kc (.tc (.sc (.int .u32 536985720)))))] (G3 4 12 0)) (i1 s16),
  .p (.call 11 [(h1 g16), (kc (.tc (.sc (.int .u32 0))))] (G3 4 12 1)) (i1 s17),
  .p (.mv (h1 g17)) (i1 s15),
  .p (.ex (h1 g15) 0) (i1 s18),
  .p (.ex (h1 g15) 1) (i1 s19),
  .p (.al 5 [(.sc (.slice none 0 0)), (.sc (.bool false)), (.sc (.bool false)), (.sc (.bool false)), (.sc (.bool false))]) (i0 s23),
  .n (.st 5 (h0 g23) (h1 g18) (G3 4 12 6)),
  .p (.mv (h1 g19)) (i0 s24)])
 (.seq (.reg [.p (.mv (h0 g1)) (i1 s20),
  .p (.bin .eql (h1 g20) (kc (.tc (.sc (.int .i64 1)))) (G3 4 13 1)) (i1 s21),
  .p (.mv (h1 g21)) (i1 s22),
  .gp (h1 g22) true (.mv (h0 g2)) (i1 s23),
  .p (.pk (h1 g22) (h1 g23) (kc (.tc (.sc (.bool false))))) (i1 s24),
  .p (.mv (h1 g24)) (i1 s25),
  .gp (h1 g25) true (.mv (h0 g4)) (i1 s26),
  .gp (h1 g25) true (.nt (h1 g26) (G3 4 13 7)) (i1 s27),
  .p (.pk (h1 g25) (h1 g27) (kc (.tc (.sc (.bool false))))) (i1 s28),
  .p (.mv (h1 g28)) (i1 s29),
  .gp (h1 g29) true (.mv (h0 g6)) (i1 s30),
  .gp (h1 g29) true (.bin .eql (h1 g30) (kc (.tc (.sc (.int .i64 0)))) (G3 4 13 11)) (i1 s31),
  .p (.pk (h1 g29) (h1 g31) (kc (.tc (.sc (.bool false))))) (i1 s32),
  .p (.mv (h1 g32)) (i1 s33),
  .gp (h1 g33) true (.ld true 5 (h0 g5)) (i1 s34),
  .gp (h1 g33) true (.bd [(.tc (.sc (.int .u8 0))), (.tc (.sc (.int .u8 0))), (.tc (.sc (.int .u8 0))), (.tc (.sc (.int .u8 0))), (.tc (.sc (.int .u8 0))), (.tc (.sc (.int .u8 0))), (.tc (.sc (.int .u8 0))), (.tc (.sc (.bool false))), (.tc (.sc (.bool false))), (.tc (.sc (.int .u16 0))), (.tc (.sc (.int .i64 0)))] [(.mk 0 1 (kc (.tc (.sc (.int .u8 8))))), (.mk 1 1 (kc (.tc (.sc (.int .u8 4))))), (.mk 10 1 (kc (.tc (.sc (.int .i64 5)))))] (G3 4 13 15)) (i1 s35),
  .gp (h1 g33) true (.bd [(.tc (.sc (.int .u8 0))), (.tc (.sc (.int .u8 0))), (.tc (.sc (.int .u8 0))), (.tc (.sc (.int .u8 0))), (.tc (.sc (.int .u8 0))), (.tc (.sc (.int .u8 0))), (.tc (.sc (.int .u8 0))), (.tc (.sc (.bool false))), (.tc (.sc (.bool false))), (.tc (.sc (.int .u16 0))), (.tc (.sc (.int .i64 0)))] [(.mk 0 1 (kc (.tc (.sc (.int .u8 2))))), (.mk 1 1 (kc (.tc (.sc (.int .u8 1))))), (.mk 2 1 (kc (.tc (.sc (.int .u8 2))))), (.mk 3 1 (kc (.tc (.sc (.int .u8 3)))))] (G3 4 13 16)) (i1 s36),
  .gp (h1 g33) true (.bs 11 2 [[(.tc (.sc (.int .u8 0))), (.tc (.sc (.int .u8 0))), (.tc (.sc (.int .u8 0))), (.tc (.sc (.int .u8 0))), (.tc (.sc (.int .u8 0))), (.tc (.sc (.int .u8 0))), (.tc (.sc (.int .u8 0))), (.tc (.sc (.bool false))), (.tc (.sc (.bool false))), (.tc (.sc (.int .u16 0))), (.tc (.sc (.int .i64 0)))], [(.tc (.sc (.int .u8 0))), (.tc (.sc (.int .u8 0))), (.tc (.sc (.int .u8 0))), (.tc (.sc (.int .u8 0))), (.tc (.sc (.int .u8 0))), (.tc (.sc (.int .u8 0))), (.tc (.sc (.int .u8 0))), (.tc (.sc (.bool false))), (.tc (.sc (.bool false))), (.tc (.sc (.int .u16 0))), (.tc (.sc (.int .i64 0)))]] [(.mk 0 11 (h1 g35)), (.mk 1 11 (h1 g36))] (G3 4 13 17)) (i1 s37),
  .gp (h1 g33) true (.bd [(.tc (.sc (.slice none 0 0))), (.tc (.sc (.bool false))), (.tc (.sc (.bool false))), (.tc (.sc (.bool false))), (.tc (.sc (.bool false)))] [(.mk 0 1 (h1 g37)), (.mk 3 1 (kc (.tc (.sc (.bool true)))))] (G3 4 13 18)) (i1 s38),
  .gp (h1 g33) true (.call 13 [(h1 g34), (h1 g38)] (G3 4 13 19)) (i1 s39),
  .p (.pk (h1 g33) (h1 g39) (kc (.tc (.sc (.bool false))))) (i1 s40),
  .p (.mv (h1 g40)) (i1 s41),
  .gp (h1 g41) true (.mv (h0 g8)) (i1 s42),
  .gp (h1 g41) true (.nt (h1 g42) (G3 4 13 23)) (i1 s43),
  .p (.pk (h1 g41) (h1 g43) (kc (.tc (.sc (.bool false))))) (i1 s44),
  .p (.mv (h1 g44)) (i1 s45),
  .gp (h1 g45) true (.mv (h0 g10)) (i1 s46),
  .gp (h1 g45) true (.bin .eql (h1 g46) (kc (.tc (.sc (.int .i64 8)))) (G3 4 13 27)) (i1 s47),
  .p (.pk (h1 g45) (h1 g47) (kc (.tc (.sc (.bool false))))) (i1 s48),
  .p (.mv (h1 g48)) (i1 s49),
  .gp (h1 g49) true (.mv (h0 g12)) (i1 s50),
  .gp (h1 g49) true (.bin .eql (h1 g50) (kc (.tc (.sc (.int .i64 8)))) (G3 4 13 31)) (i1 s51),
  .p (.pk (h1 g49) (h1 g51) (kc (.tc (.sc (.bool false))))) (i1 s52),
  .p (.mv (h1 g52)) (i1 s53),
  .gp (h1 g53) true (.mv (h0 g14)) (i1 s54),
  .gp (h1 g53) true (.bin .eql (h1 g54) (kc (.tc (.sc (.int .i64 1)))) (G3 4 13 35)) (i1 s55),
  .p (.pk (h1 g53) (h1 g55) (kc (.tc (.sc (.bool false))))) (i1 s56),
  .p (.mv (h1 g56)) (i1 s57),
  .gp (h1 g57) true (.mv (h0 g16)) (i1 s58),
  .gp (h1 g57) true (.bin .eql (h1 g58) (kc (.tc (.sc (.int .i64 8)))) (G3 4 13 39)) (i1 s59),
  .p (.pk (h1 g57) (h1 g59) (kc (.tc (.sc (.bool false))))) (i1 s60),
  .p (.mv (h1 g60)) (i1 s61),
  .gp (h1 g61) true (.mv (h0 g18)) (i1 s62),
  .gp (h1 g61) true (.bin .eql (h1 g62) (kc (.tc (.sc (.int .i64 0)))) (G3 4 13 43)) (i1 s63),
  .p (.pk (h1 g61) (h1 g63) (kc (.tc (.sc (.bool false))))) (i2 s0),
  .p (.mv (h2 g0)) (i2 s1),
  .gp (h2 g1) true (.ld true 5 (h0 g17)) (i2 s2),
  .gp (h2 g1) true (.bd [(.tc (.sc (.int .u8 0))), (.tc (.sc (.int .u8 0))), (.tc (.sc (.int .u8 0))), (.tc (.sc (.int .u8 0))), (.tc (.sc (.int .u8 0))), (.tc (.sc (.int .u8 0))), (.tc (.sc (.int .u8 0))), (.tc (.sc (.bool false))), (.tc (.sc (.bool false))), (.tc (.sc (.int .u16 0))), (.tc (.sc (.int .i64 0)))] [(.mk 0 1 (kc (.tc (.sc (.int .u8 8))))), (.mk 1 1 (kc (.tc (.sc (.int .u8 1))))), (.mk 10 1 (kc (.tc (.sc (.int .i64 305419896))))), (.mk 8 1 (kc (.tc (.sc (.bool true)))))] (G3 4 13 47)) (i2 s3),
  .gp (h2 g1) true (.bs 11 1 [[(.tc (.sc (.int .u8 0))), (.tc (.sc (.int .u8 0))), (.tc (.sc (.int .u8 0))), (.tc (.sc (.int .u8 0))), (.tc (.sc (.int .u8 0))), (.tc (.sc (.int .u8 0))), (.tc (.sc (.int .u8 0))), (.tc (.sc (.bool false))), (.tc (.sc (.bool false))), (.tc (.sc (.int .u16 0))), (.tc (.sc (.int .i64 0)))]] [(.mk 0 11 (h2 g3))] (G3 4 13 48)) (i2 s4),
  .gp (h2 g1) true (.bd [(.tc (.sc (.slice none 0 0))), (.tc (.sc (.bool false))), (.tc (.sc (.bool false))), (.tc (.sc (.bool false))), (.tc (.sc (.bool false)))] [(.mk 0 1 (h2 g4))] (G3 4 13 49)) (i2 s5),
  .gp (h2 g1) true (.call 13 [(h2 g2), (h2 g5)] (G3 4 13 50)) (i2 s6),
  .p (.pk (h2 g1) (h2 g6) (kc (.tc (.sc (.bool false))))) (i2 s7),
  .p (.mv (h2 g7)) (i2 s8),
  .gp (h2 g8) true (.mv (h0 g20)) (i2 s9),
  .gp (h2 g8) true (.bin .eql (h2 g9) (kc (.tc (.sc (.int .i64 1)))) (G3 4 13 54)) (i2 s10),
  .p (.pk (h2 g8) (h2 g10) (kc (.tc (.sc (.bool false))))) (i2 s11),
  .p (.mv (h2 g11)) (i2 s12),
  .gp (h2 g12) true (.mv (h0 g22)) (i2 s13),
  .gp (h2 g12) true (.bin .eql (h2 g13) (kc (.tc (.sc (.int .i64 1)))) (G3 4 13 58)) (i2 s14),
  .p (.pk (h2 g12) (h2 g14) (kc (.tc (.sc (.bool false))))) (i2 s15),
  .p (.mv (h2 g15)) (i2 s16),
  .gp (h2 g16) true (.mv (h0 g24)) (i2 s17),
  .gp (h2 g16) true (.bin .eql (h2 g17) (kc (.tc (.sc (.int .i64 8)))) (G3 4 13 62)) (i2 s18),
  .p (.pk (h2 g16) (h2 g18) (kc (.tc (.sc (.bool false))))) (i2 s19),
  .p (.mv (h2 g19)) (i2 s20),
  .gp (h2 g20) true (.call 14 [] (G3 4 13 65)) (i2 s21),
  .p (.pk (h2 g20) (h2 g21) (kc (.tc (.sc (.bool false))))) (i2 s22),
  .p (.mv (h2 g22)) (i0 s0)])
 .ret)))))))))))))),
 [.tmp (h0 g0)]⟩
theorem ff4_ok : compF SBUnpackKnown 4 = ff4 := by kernel_rfl
noncomputable def ff10 : FF := .t2 ⟨29,
 (.seq (.reg [.p (.mv (kc (.tc (.sc (.int .i64 0))))) s2,
  .p (.mv (kc (.tc (.sc (.bool false))))) s3])
 (.seq (.seq (.reg [.p (.mv g0) s7,
  .p (.mv g0) s8,
  .p (.len g8 (G2 10 1 2)) s9,
  .p (.gen (G2 10 1 3)) s10,
  .p (.sl 1 g7 none (some g10) none (G2 10 1 4)) s11,
  .p (.len g11 (G2 10 1 5)) s12,
  .p (.mv (kc (.tc (.sc (.int .i64 0))))) s13])
 (.block 0 (.loop 4294967296 (.seq (.reg [.p (.bin .lss g13 g12 (G2 10 2 0)) s14])
 (.seq (.cond g14 .skip
 (.exit 0))
 (.seq (.block 1 (.seq (.reg [.p (.mv g13) s15,
  .p (.ia 1 g11 g13 (G2 10 3 1)) s16,
  .p (.ld false 1 g16) s17,
  .p (.mv g15) s4,
  .p (.mv g17) s5])
 (.seq (.reg [.p (.mv g5) s18,
  .p (.call 38 [g18] (G2 10 4 1)) s19,
  .p (.mv g19) s6])
 (.seq (.reg [.p (.mv g6) s20,
  .p (.bin .eql g20 (kc (.tc (.sc (.int .u8 0)))) (G2 10 5 1)) s21,
  .p (.mv g21) s22,
  .gp g22 false (.mv g6) s23,
  .gp g22 false (.bin .eql g23 (kc (.tc (.sc (.int .u8 3)))) (G2 10 5 4)) s24,
  .p (.pk g22 (kc (.tc (.sc (.bool true)))) g24) s25])
 (.cond g25 (.seq (.reg [.p (.mv g4) s26,
  .p (.bin .add g26 (kc (.tc (.sc (.int .i64 1)))) (G2 10 6 1)) s27,
  .p (.mv g27) s2,
  .p (.mv (kc (.tc (.sc (.bool true))))) s3])
 .ret)
 .skip)))))
 (.reg [.p (.bin .add g13 (kc (.tc (.sc (.int .i64 1)))) (G2 10 7 0)) s28,
  .p (.mv g28) s13])))))))
 (.seq (.reg [.p (.mv (kc (.tc (.sc (.int .i64 0))))) s2,
  .p (.mv (kc (.tc (.sc (.bool false))))) s3])
 .ret))),
 [.tmp g2, .tmp g3]⟩
theorem ff10_ok : compF SBUnpackKnown 10 = ff10 := by kernel_rfl
noncomputable def ff38 : FF := .t2 ⟨13,
 (.seq (.reg [.p (.mv (kc (.tc (.sc (.int .u8 0))))) s2])
 (.seq (.reg [.p (.mv g0) s7,
  .p (.call 71 [g7] (G2 38 1 1)) s8,
  .p (.mv g8) s6,
  .p (.ex g6 0) s9,
  .p (.ex g6 1) s10,
  .p (.ex g6 2) s11,
  .p (.mv g9) s3,
  .p (.mv g10) s4,
  .p (.mv g11) s5])
 (.seq (.reg [.p (.mv g5) s12,
  .p (.mv g12) s2])
 .ret))),
 [.tmp g2]⟩
theorem ff38_ok : compF SBUnpackKnown 38 = ff38 := by kernel_rfl
noncomputable def ff71 : FF := .t2 ⟨27,
 (.seq (.reg [.p (.mv (kc (.tc (.sc (.int .u8 0))))) s2,
  .p (.mv (kc (.tc (.sc (.int .u32 0))))) s3,
  .p (.mv (kc (.tc (.sc (.int .u8 0))))) s4])
 (.seq (.regD [0, 1, 0, 7, 0, 16, 0, 127, 0, 256, 768, 2047, 4095, 8191] [.no, (.rd (.ld true 2 g5) g6), .no, .no, .no, (.rd (.ld true 2 g9) g10), .no, .no, .no, .no, (.rd (.ld false 1 g14) g15), .no, .no, .no] [.mk .none .yes (.gen (G2 71 1 0)) (.gen (G2 71 1 0)) (some s5),
  .mk .none .yes (.ld true 2 g5) (.ld true 2 g5) (some s6),
  .mk .none .yes (.mv g0) (.mv g0) (some s7),
  .mk .none (.dyn 124 [g6, g7]) (.call 124 [g6, g7] (G2 71 1 3)) (.call 124 [g6, g7] (G2 71 1 3)) (some s8),
  .mk .none .yes (.gen (G2 71 1 4)) (.gen (G2 71 1 4)) (some s9),
  .mk .none .yes (.ld true 2 g9) (.ld true 2 g9) (some s10),
  .mk .none .yes (.mv g0) (.mv g0) (some s11),
  .mk .none (.dyn 124 [g10, g11]) (.call 124 [g10, g11] (G2 71 1 7)) (.call 124 [g10, g11] (G2 71 1 7)) (some s12),
  .mk .none .yes (.gen (G2 71 1 8)) (.gen (G2 71 1 8)) (some s13),
  .mk .none .yes (.fa 1 g13) (.fa 1 g13) (some s14),
  .mk .none .yes (.ld false 1 g14) (.ld false 1 g14) (some s15),
  .mk .none .yes (.bin .shl g12 g15 (G2 71 1 11)) (.bin .shl g12 g15 (G2 71 1 11)) (some s16),
  .mk .none .yes (.bin .or g8 g16 (G2 71 1 12)) (.bin .or g8 g16 (G2 71 1 12)) (some s17),
  .mk .none .yes (.mv g17) (.mv g17) (some s3)])
 (.seq (.regD [0, 0, 3, 7, 0, 0, 0, 103, 231, 239, 767, 2047] [(.rd (.ld true 2 (kc (.vptr gwUnpackKnown0 [glUnpackKnown0] 0 0))) g18), .no, .no, (.rd (.cv .u8 g20 (G2 71 2 3)) g21), .no, (.rd (.ld true 2 (kc (.vptr gwUnpackKnown2 [glUnpackKnown2] 0 0))) g23), .no, .no, (.rd (.cv .u8 g25 (G2 71 2 8)) g26), .no, .no, .no] [.mk .none .yes (.ld true 2 (kc (.vptr gwUnpackKnown0 [glUnpackKnown0] 0 0))) (.ld true 2 (kc (.vptr gwUnpackKnown0 [glUnpackKnown0] 0 0))) (some s18),
  .mk .none .yes (.mv g0) (.mv g0) (some s19),
  .mk .none (.dyn 124 [g18, g19]) (.call 124 [g18, g19] (G2 71 2 2)) (.call 124 [g18, g19] (G2 71 2 2)) (some s20),
  .mk .none .yes (.cv .u8 g20 (G2 71 2 3)) (.cv .u8 g20 (G2 71 2 3)) (some s21),
  .mk .none .yes (.mv g3) (.mv g3) (some s22),
  .mk .none .yes (.ld true 2 (kc (.vptr gwUnpackKnown2 [glUnpackKnown2] 0 0))) (.ld true 2 (kc (.vptr gwUnpackKnown2 [glUnpackKnown2] 0 0))) (some s23),
  .mk .none .yes (.mv g0) (.mv g0) (some s24),
  .mk .none (.dyn 124 [g23, g24]) (.call 124 [g23, g24] (G2 71 2 7)) (.call 124 [g23, g24] (G2 71 2 7)) (some s25),
  .mk .none .yes (.cv .u8 g25 (G2 71 2 8)) (.cv .u8 g25 (G2 71 2 8)) (some s26),
  .mk .none .yes (.mv g21) (.mv g21) (some s2),
  .mk .none .yes (.mv g22) (.mv g22) (some s3),
  .mk .none .yes (.mv g26) (.mv g26) (some s4)])
 .ret))),
 [.tmp g2, .tmp g3, .tmp g4]⟩
theorem ff71_ok : compF SBUnpackKnown 71 = ff71 := by kernel_rfl
noncomputable def ff124 : FF := .t2 ⟨14,
 (.seq (.reg [.p (.bx 2 g0 (G2 124 0 0)) s2,
  .p (.mv (kc (.tc (.sc (.int .u32 0))))) s4])
 (.seq (.regD [0, 1, 0, 4, 15, 31, 0, 64, 255, 511] [.no, (.rd (.cv .u64 g5 (G2 124 1 1)) g6), .no, (.rd (.ld false 1 g7) g8), .no, (.rd (.cv .u32 g9 (G2 124 1 5)) g10), (.rd (.ld true 2 g2) g11), .no, .no, .no] [.mk .none .yes (.mv g1) (.mv g1) (some s5),
  .mk .none .yes (.cv .u64 g5 (G2 124 1 1)) (.cv .u64 g5 (G2 124 1 1)) (some s6),
  .mk .none .yes (.fa 0 g2) (.fa 0 g2) (some s7),
  .mk .none .yes (.ld false 1 g7) (.ld false 1 g7) (some s8),
  .mk .none .yes (.bin .shr g6 g8 (G2 124 1 4)) (.bin .shr g6 g8 (G2 124 1 4)) (some s9),
  .mk .none .yes (.cv .u32 g9 (G2 124 1 5)) (.cv .u32 g9 (G2 124 1 5)) (some s10),
  .mk .none .yes (.ld true 2 g2) (.ld true 2 g2) (some s11),
  .mk .none (.dyn 120 [g11]) (.call 120 [g11] (G2 124 1 7)) (.call 120 [g11] (G2 124 1 7)) (some s12),
  .mk .none .yes (.bin .and g10 g12 (G2 124 1 8)) (.bin .and g10 g12 (G2 124 1 8)) (some s13),
  .mk .none .yes (.mv g13) (.mv g13) (some s4)])
 .ret)),
 [.tmp g4]⟩
theorem ff124_ok : compF SBUnpackKnown 124 = ff124 := by kernel_rfl
noncomputable def ff120 : FF := .t2 ⟨8,
 (.seq (.reg [.p (.bx 2 g0 (G2 120 0 0)) s1,
  .p (.mv (kc (.tc (.sc (.int .u32 0))))) s2])
 (.seq (.reg [.p (.fa 1 g1) s3,
  .p (.ld false 1 g3) s4,
  .p (.bin .shl (kc (.tc (.sc (.int .u64 1)))) g4 (G2 120 1 2)) s5,
  .p (.bin .sub g5 (kc (.tc (.sc (.int .u64 1)))) (G2 120 1 3)) s6,
  .p (.cv .u32 g6 (G2 120 1 4)) s7,
  .p (.mv g7) s2])
 .ret)),
 [.tmp g2]⟩
theorem ff120_ok : compF SBUnpackKnown 120 = ff120 := by kernel_rfl
noncomputable def ff11 : FF := .t3 ⟨83,
 (.seq (.reg [.p (.al 5 [(.sc (.slice none 0 0)), (.sc (.bool false)), (.sc (.bool false)), (.sc (.bool false)), (.sc (.bool false))]) (i0 s4),
  .p (.mv (kc (.tc (.sc (.int .i64 0))))) (i0 s5)])
 (.seq (.seq (.reg [.p (.mv (h0 g0)) (i0 s12),
  .p (.call 10 [(h0 g12)] (G3 11 1 1)) (i0 s13),
  .p (.mv (h0 g13)) (i0 s11),
  .p (.ex (h0 g11) 0) (i0 s14),
  .p (.ex (h0 g11) 1) (i0 s15),
  .p (.mv (h0 g14)) (i0 s6),
  .p (.mv (h0 g15)) (i0 s7)])
 (.seq (.reg [.p (.mv (h0 g7)) (i0 s16),
  .p (.nt (h0 g16) (G3 11 2 1)) (i0 s17),
  .p (.mv (h0 g17)) (i0 s18),
  .gp (h0 g18) false (.mv (h0 g6)) (i0 s19),
  .gp (h0 g18) false (.mv (h0 g0)) (i0 s20),
  .gp (h0 g18) false (.len (h0 g20) (G3 11 2 5)) (i0 s21),
  .gp (h0 g18) false (.bin .neq (h0 g19) (h0 g21) (G3 11 2 6)) (i0 s22),
  .p (.pk (h0 g18) (kc (.tc (.sc (.bool true)))) (h0 g22)) (i0 s23)])
 (.cond (h0 g23) (.seq (.reg [.p (.bd [(.tc (.sc (.slice none 0 0))), (.tc (.sc (.bool false))), (.tc (.sc (.bool false))), (.tc (.sc (.bool false))), (.tc (.sc (.bool false)))] [] (G3 11 3 0)) (i0 s24),
  .n (.st 5 (h0 g4) (h0 g24) (G3 11 3 1)),
  .p (.mv (kc (.tc (.sc (.int .i64 1))))) (i0 s5)])
 .ret)
 .skip)))
 (.seq (.reg [.p (.mv (h0 g0)) (i0 s25),
  .p (.mv (h0 g1)) (i0 s26),
  .p (.bd [(.tc (.sc (.slice none 0 0))), (.tc (.sc (.int .u32 0))), (.tc (.sc (.slice none 0 0))), (.tc (.sc (.bool false))), (.tc (.sc (.bool false))), (.tc (.sc (.bool false))), (.tc (.sc (.bool false)))] [(.mk 0 1 (h0 g25)), (.mk 1 1 (h0 g26))] (G3 11 4 2)) (i0 s27),
  .p (.bx 7 (h0 g27) (G3 11 4 3)) (i0 s28),
  .p (.mv (h0 g28)) (i0 s8)])
 (.seq (.reg [.p (.mv (kc (.tc (.sc (.bool false))))) (i0 s9)])
 (.seq (.seq (.reg [.p (.mv (h0 g8)) (i0 s30),
  .p (.mv (h0 g8)) (i0 s31),
  .p (.mv (h0 g0)) (i0 s32),
  .p (.call 39 [(h0 g32)] (G3 11 6 3)) (i0 s33),
  .p (.mv (h0 g33)) (i0 s29),
  .p (.ex (h0 g29) 0) (i0 s34),
  .p (.ex (h0 g29) 1) (i0 s35),
  .p (.ex (h0 g29) 2) (i0 s36),
  .p (.nc (h0 g30) (G3 11 6 8)) (i0 s37),
  .p (.fa 2 (h0 g37)) (i0 s38),
  .p (.fa 1 (h0 g38)) (i0 s39),
  .n (.st 1 (h0 g39) (h0 g34) (G3 11 6 11)),
  .p (.nc (h0 g31) (G3 11 6 12)) (i0 s40),
  .p (.fa 2 (h0 g40)) (i0 s41),
  .p (.fa 2 (h0 g41)) (i0 s42),
  .n (.st 1 (h0 g42) (h0 g35) (G3 11 6 15)),
  .p (.mv (h0 g36)) (i0 s9)])
 (.seq (.reg [.p (.mv (h0 g9)) (i0 s43),
  .p (.nt (h0 g43) (G3 11 7 1)) (i0 s44),
  .p (.mv (h0 g44)) (i0 s45),
  .gp (h0 g45) false (.mv (h0 g8)) (i0 s46),
  .gp (h0 g45) false (.call 40 [(h0 g46)] (G3 11 7 4)) (i0 s47),
  .gp (h0 g45) false (.nt (h0 g47) (G3 11 7 5)) (i0 s48),
  .p (.pk (h0 g45) (kc (.tc (.sc (.bool true)))) (h0 g48)) (i0 s49)])
 (.cond (h0 g49) (.seq (.reg [.p (.bd [(.tc (.sc (.slice none 0 0))), (.tc (.sc (.bool false))), (.tc (.sc (.bool false))), (.tc (.sc (.bool false))), (.tc (.sc (.bool false)))] [] (G3 11 8 0)) (i0 s50),
  .n (.st 5 (h0 g4) (h0 g50) (G3 11 8 1)),
  .p (.mv (kc (.tc (.sc (.int .i64 8))))) (i0 s5)])
 .ret)
 .skip)))
 (.seq (.reg [.p (.mv (h0 g8)) (i0 s51),
  .p (.mv (h0 g8)) (i0 s52),
  .p (.nc (h0 g52) (G3 11 9 2)) (i0 s53),
  .p (.fa 2 (h0 g53)) (i0 s54),
  .p (.fa 4 (h0 g54)) (i0 s55),
  .p (.ld false 1 (h0 g55)) (i0 s56),
  .p (.nt (h0 g56) (G3 11 9 6)) (i0 s57),
  .p (.mv (h0 g57)) (i0 s58),
  .gp (h0 g58) true (.mv (h0 g8)) (i0 s59),
  .gp (h0 g58) true (.nc (h0 g59) (G3 11 9 9)) (i0 s60),
  .gp (h0 g58) true (.fa 2 (h0 g60)) (i0 s61),
  .gp (h0 g58) true (.fa 0 (h0 g61)) (i0 s62),
  .gp (h0 g58) true (.ld false 1 (h0 g62)) (i0 s63),
  .gp (h0 g58) true (.len (h0 g63) (G3 11 9 13)) (i1 s0),
  .gp (h0 g58) true (.bin .gtr (h1 g0) (kc (.tc (.sc (.int .i64 1)))) (G3 11 9 14)) (i1 s1),
  .p (.pk (h0 g58) (h1 g1) (kc (.tc (.sc (.bool false))))) (i1 s2),
  .p (.nc (h0 g51) (G3 11 9 16)) (i1 s3),
  .p (.fa 2 (h1 g3)) (i1 s4),
  .p (.fa 3 (h1 g4)) (i1 s5),
  .n (.st 1 (h1 g5) (h1 g2) (G3 11 9 19))])
 (.seq (.seq (.reg [.p (.mv (h0 g8)) (i1 s6),
  .p (.nc (h1 g6) (G3 11 10 1)) (i1 s7),
  .p (.fa 2 (h1 g7)) (i1 s8),
  .p (.ld true 5 (h1 g8)) (i1 s9),
  .p (.call 30 [(h1 g9)] (G3 11 10 4)) (i1 s10),
  .p (.mv (h1 g10)) (i0 s10)])
 (.seq (.reg [.p (.mv (h0 g10)) (i1 s11),
  .p (.bin .neq (h1 g11) (kc (.tc (.sc (.int .i64 0)))) (G3 11 11 1)) (i1 s12)])
 (.cond (h1 g12) (.seq (.reg [.p (.bd [(.tc (.sc (.slice none 0 0))), (.tc (.sc (.bool false))), (.tc (.sc (.bool false))), (.tc (.sc (.bool false))), (.tc (.sc (.bool false)))] [] (G3 11 12 0)) (i1 s13),
  .p (.mv (h0 g10)) (i1 s14),
  .n (.st 5 (h0 g4) (h1 g13) (G3 11 12 2)),
  .p (.mv (h1 g14)) (i0 s5)])
 .ret)
 .skip)))
 (.seq (.reg [.p (.mv (h0 g8)) (i1 s15),
  .p (.nc (h1 g15) (G3 11 13 1)) (i1 s16),
  .p (.fa 2 (h1 g16)) (i1 s17),
  .p (.ld true 5 (h1 g17)) (i1 s18),
  .n (.st 5 (h0 g4) (h1 g18) (G3 11 13 4)),
  .p (.mv (kc (.tc (.sc (.int .i64 0))))) (i0 s5)])
 .ret)))))))),
 [.cell (h0 g4) true 5, .tmp (h0 g5)]⟩
theorem ff11_ok : compF SBUnpackKnown 11 = ff11 := by kernel_rfl
noncomputable def ff39 : FF := .t2 ⟨31,
 (.seq (.reg [.p (.mv (kc (.tc (.sc (.bool false))))) s2,
  .p (.mv (kc (.tc (.sc (.bool false))))) s3,
  .p (.mv (kc (.tc (.sc (.bool false))))) s4])
 (.seq (.seq (.reg [.p (.mv g0) s7,
  .p (.mv g0) s8,
  .p (.len g8 (G2 39 1 2)) s9,
  .p (.bin .sub g9 (kc (.tc (.sc (.int .i64 1)))) (G2 39 1 3)) s10,
  .p (.sl 1 g7 none (some g10) none (G2 39 1 4)) s11,
  .p (.len g11 (G2 39 1 5)) s12,
  .p (.mv (kc (.tc (.sc (.int .i64 0))))) s13])
 (.block 0 (.loop 4294967296 (.seq (.reg [.p (.bin .lss g13 g12 (G2 39 2 0)) s14])
 (.seq (.cond g14 .skip
 (.exit 0))
 (.seq (.block 1 (.seq (.reg [.p (.mv g13) s15,
  .p (.ia 1 g11 g13 (G2 39 3 1)) s16,
  .p (.ld false 1 g16) s17,
  .p (.mv g15) s5,
  .p (.mv g17) s6])
 (.block 2 (.seq (.reg [.p (.mv g6) s19,
  .p (.call 38 [g19] (G2 39 4 1)) s20,
  .p (.bin .eql g20 (kc (.tc (.sc (.int .u8 1)))) (G2 39 4 2)) s21,
  .p (.mv g21) s18])
 (.cond g18 .skip
 (.seq (.reg [.p (.mv g5) s23,
  .p (.bin .eql g23 (kc (.tc (.sc (.int .i64 0)))) (G2 39 5 1)) s24,
  .p (.mv g24) s22])
 (.cond g22 (.reg [.p (.mv (kc (.tc (.sc (.bool true))))) s2])
 (.seq (.reg [.p (.mv g5) s26,
  .p (.bin .eql g26 (kc (.tc (.sc (.int .i64 1)))) (G2 39 7 1)) s27,
  .p (.mv g27) s25])
 (.cond g25 (.reg [.p (.mv (kc (.tc (.sc (.bool true))))) s3])
 (.seq (.reg [.p (.mv (kc (.tc (.sc (.bool false))))) s2,
  .p (.mv (kc (.tc (.sc (.bool false))))) s3,
  .p (.mv (kc (.tc (.sc (.bool false))))) s4])
 .ret))))))))))
 (.reg [.p (.bin .add g13 (kc (.tc (.sc (.int .i64 1)))) (G2 39 10 0)) s28,
  .p (.mv g28) s13])))))))
 (.seq (.reg [.p (.mv g2) s29,
  .p (.mv g3) s30,
  .p (.mv g29) s2,
  .p (.mv g30) s3,
  .p (.mv (kc (.tc (.sc (.bool true))))) s4])
 .ret))),
 [.tmp g2, .tmp g3, .tmp g4]⟩
theorem ff39_ok : compF SBUnpackKnown 39 = ff39 := by kernel_rfl
noncomputable def ff40 : FF := .t3 ⟨69,
 (.seq (.reg [.p (.mv (kc (.tc (.sc (.bool false))))) (i0 s2)])
 (.seq (.reg [.p (.mv (kc (.tc (.sc (.int .u32 0))))) (i0 s3),
  .p (.mv (kc (.tc (.sc (.bool false))))) (i0 s4)])
 (.seq (.seq (.reg [.p (.mv (h0 g0)) (i0 s11),
  .p (.nc (h0 g11) (G3 40 2 1)) (i0 s12),
  .p (.fa 0 (h0 g12)) (i0 s13),
  .p (.ld false 1 (h0 g13)) (i0 s14),
  .p (.len (h0 g14) (G3 40 2 4)) (i0 s15),
  .p (.mv (kc (.tc (.sc (.int .i64 0))))) (i0 s16)])
 (.block 0 (.loop 4294967296 (.seq (.reg [.p (.bin .lss (h0 g16) (h0 g15) (G3 40 3 0)) (i0 s17)])
 (.seq (.cond (h0 g17) .skip
 (.exit 0))
 (.seq (.block 1 (.seq (.reg [.p (.mv (h0 g16)) (i0 s18),
  .p (.ia 1 (h0 g14) (h0 g16) (G3 40 4 1)) (i0 s19),
  .p (.ld false 1 (h0 g19)) (i0 s20),
  .p (.mv (h0 g18)) (i0 s5),
  .p (.mv (h0 g20)) (i0 s6)])
 (.seq (.reg [.p (.mv (h0 g6)) (i0 s22),
  .p (.call 71 [(h0 g22)] (G3 40 5 1)) (i0 s23),
  .p (.mv (h0 g23)) (i0 s21),
  .p (.ex (h0 g21) 0) (i0 s24),
  .p (.ex (h0 g21) 1) (i0 s25),
  .p (.ex (h0 g21) 2) (i0 s26),
  .p (.mv (h0 g24)) (i0 s7),
  .p (.mv (h0 g25)) (i0 s8),
  .p (.mv (h0 g26)) (i0 s9)])
 (.seq (.reg [.p (.mv (h0 g5)) (i0 s27),
  .p (.mv (h0 g0)) (i0 s28),
  .p (.nc (h0 g28) (G3 40 6 2)) (i0 s29),
  .p (.fa 0 (h0 g29)) (i0 s30),
  .p (.ld false 1 (h0 g30)) (i0 s31),
  .p (.len (h0 g31) (G3 40 6 5)) (i0 s32),
  .p (.bin .sub (h0 g32) (kc (.tc (.sc (.int .i64 1)))) (G3 40 6 6)) (i0 s33),
  .p (.bin .eql (h0 g27) (h0 g33) (G3 40 6 7)) (i0 s34),
  .p (.mv (h0 g34)) (i0 s10)])
 (.seq (.block 2 (.seq (.reg [.p (.mv (h0 g10)) (i0 s36),
  .p (.mv (h0 g36)) (i0 s37),
  .gp (h0 g37) true (.mv (h0 g9)) (i0 s38),
  .gp (h0 g37) true (.bin .eql (h0 g38) (kc (.tc (.sc (.int .u8 0)))) (G3 40 7 3)) (i0 s39),
  .p (.pk (h0 g37) (h0 g39) (kc (.tc (.sc (.bool false))))) (i0 s40),
  .p (.mv (h0 g40)) (i0 s35)])
 (.cond (h0 g35) (.seq (.reg [.p (.mv (h0 g4)) (i0 s41),
  .p (.nt (h0 g41) (G3 40 8 1)) (i0 s42),
  .p (.mv (h0 g42)) (i0 s43),
  .gp (h0 g43) true (.mv (h0 g0)) (i0 s44),
  .gp (h0 g43) true (.mv (h0 g6)) (i0 s45),
  .gp (h0 g43) true (.call 72 [(h0 g44), (h0 g45)] (G3 40 8 5)) (i0 s46),
  .p (.pk (h0 g43) (h0 g46) (kc (.tc (.sc (.bool false))))) (i0 s47),
  .p (.mv (h0 g47)) (i0 s2)])
 .ret)
 (.seq (.reg [.p (.mv (h0 g7)) (i0 s49),
  .p (.bin .eql (h0 g49) (kc (.tc (.sc (.int .u8 0)))) (G3 40 9 1)) (i0 s50),
  .p (.mv (h0 g50)) (i0 s51),
  .gp (h0 g51) true (.mv (h0 g4)) (i0 s52),
  .gp (h0 g51) true (.mv (h0 g52)) (i0 s53),
  .gp (h0 g53) false (.mv (h0 g10)) (i0 s54),
  .gp (h0 g51) true (.pk (h0 g53) (kc (.tc (.sc (.bool true)))) (h0 g54)) (i0 s55),
  .p (.pk (h0 g51) (h0 g55) (kc (.tc (.sc (.bool false))))) (i0 s56),
  .p (.mv (h0 g56)) (i0 s48)])
 (.cond (h0 g48) (.seq (.reg [.p (.mv (kc (.tc (.sc (.bool false))))) (i0 s2)])
 .ret)
 (.seq (.reg [.p (.mv (h0 g7)) (i0 s58),
  .p (.bin .eql (h0 g58) (kc (.tc (.sc (.int .u8 0)))) (G3 40 11 1)) (i0 s59),
  .p (.mv (h0 g59)) (i0 s57)])
 (.cond (h0 g57) (.seq (.reg [.p (.mv (h0 g8)) (i0 s60),
  .p (.mv (h0 g60)) (i0 s3),
  .p (.mv (kc (.tc (.sc (.bool true))))) (i0 s4)])
 (.exit 1))
 (.seq (.reg [.p (.mv (h0 g0)) (i0 s62),
  .p (.mv (h0 g6)) (i0 s63),
  .p (.mv (h0 g3)) (i1 s0),
  .p (.mv (h0 g4)) (i1 s1),
  .p (.call 73 [(h0 g62), (h0 g63), (h1 g0), (h1 g1)] (G3 40 13 4)) (i1 s2),
  .p (.nt (h1 g2) (G3 40 13 5)) (i1 s3),
  .p (.mv (h1 g3)) (i0 s61)])
 (.cond (h0 g61) (.seq (.reg [.p (.mv (kc (.tc (.sc (.bool false))))) (i0 s2)])
 .ret)
 .skip)))))))))
 (.reg [.p (.mv (kc (.tc (.sc (.int .u32 0))))) (i0 s3),
  .p (.mv (kc (.tc (.sc (.bool false))))) (i0 s4)]))))))
 (.reg [.p (.bin .add (h0 g16) (kc (.tc (.sc (.int .i64 1)))) (G3 40 16 0)) (i1 s4),
  .p (.mv (h1 g4)) (i0 s16)])))))))
 (.seq (.reg [.p (.mv (kc (.tc (.sc (.bool true))))) (i0 s2)])
 .ret)))),
 [.tmp (h0 g2)]⟩
theorem ff40_ok : compF SBUnpackKnown 40 = ff40 := by kernel_rfl
noncomputable def ff72 : FF := .t2 ⟨32,
 (.seq (.reg [.p (.mv (kc (.tc (.sc (.bool false))))) s4])
 (.seq (.reg [.p (.mv g1) s9,
  .p (.call 125 [g9] (G2 72 1 1)) s10,
  .p (.mv g10) s8,
  .p (.ex g8 0) s11,
  .p (.ex g8 1) s12,
  .p (.ex g8 2) s13,
  .p (.al 11 [(.sc (.int .u8 0)), (.sc (.int .u8 0)), (.sc (.int .u8 0)), (.sc (.int .u8 0)), (.sc (.int .u8 0)), (.sc (.int .u8 0)), (.sc (.int .u8 0)), (.sc (.bool false)), (.sc (.bool false)), (.sc (.int .u16 0)), (.sc (.int .i64 0))]) s5,
  .p (.al 11 [(.sc (.int .u8 0)), (.sc (.int .u8 0)), (.sc (.int .u8 0)), (.sc (.int .u8 0)), (.sc (.int .u8 0)), (.sc (.int .u8 0)), (.sc (.int .u8 0)), (.sc (.bool false)), (.sc (.bool false)), (.sc (.int .u16 0)), (.sc (.int .i64 0))]) s6,
  .n (.st 11 g5 g11 (G2 72 1 8)),
  .n (.st 11 g6 g12 (G2 72 1 9)),
  .p (.mv g13) s7])
 (.seq (.regD [0, 0, 0, 4, 12, 28, 60, 0, 0, 384, 1020, 2045, 4093, 8189, 16381, 32767, 65535, 131071, 262143] [.no, .no, .no, .no, .no, .no, (.rd (.ld false 1 g19) g20), (.rd (.ld true 11 g5) g21), (.rd (.ld true 11 g6) g22), .no, .no, .no, .no, .no, .no, .no, .no, .no, .no] [.mk .none .yes (.mv g0) (.mv g0) (some s14),
  .mk .none .yes (.mv g0) (.mv g0) (some s15),
  .mk .none .yes (.mv g0) (.mv g0) (some s16),
  .mk .none .yes (.nc g16 (G2 72 2 3)) (.nc g16 (G2 72 2 3)) (some s17),
  .mk .none .yes (.fa 2 g17) (.fa 2 g17) (some s18),
  .mk .none .yes (.fa 0 g18) (.fa 0 g18) (some s19),
  .mk .none .yes (.ld false 1 g19) (.ld false 1 g19) (some s20),
  .mk .none .yes (.ld true 11 g5) (.ld true 11 g5) (some s21),
  .mk .none .yes (.ld true 11 g6) (.ld true 11 g6) (some s22),
  .mk .none (.gen (G2 72 2 9)) (.bt 11 [[(.tc (.sc (.int .u8 0))), (.tc (.sc (.int .u8 0))), (.tc (.sc (.int .u8 0))), (.tc (.sc (.int .u8 0))), (.tc (.sc (.int .u8 0))), (.tc (.sc (.int .u8 0))), (.tc (.sc (.int .u8 0))), (.tc (.sc (.bool false))), (.tc (.sc (.bool false))), (.tc (.sc (.int .u16 0))), (.tc (.sc (.int .i64 0)))], [(.tc (.sc (.int .u8 0))), (.tc (.sc (.int .u8 0))), (.tc (.sc (.int .u8 0))), (.tc (.sc (.int .u8 0))), (.tc (.sc (.int .u8 0))), (.tc (.sc (.int .u8 0))), (.tc (.sc (.int .u8 0))), (.tc (.sc (.bool false))), (.tc (.sc (.bool false))), (.tc (.sc (.int .u16 0))), (.tc (.sc (.int .i64 0)))]] [(.mk 0 11 g21), (.mk 1 11 g22)] (G2 72 2 9)) (.bs 11 2 [[(.tc (.sc (.int .u8 0))), (.tc (.sc (.int .u8 0))), (.tc (.sc (.int .u8 0))), (.tc (.sc (.int .u8 0))), (.tc (.sc (.int .u8 0))), (.tc (.sc (.int .u8 0))), (.tc (.sc (.int .u8 0))), (.tc (.sc (.bool false))), (.tc (.sc (.bool false))), (.tc (.sc (.int .u16 0))), (.tc (.sc (.int .i64 0)))], [(.tc (.sc (.int .u8 0))), (.tc (.sc (.int .u8 0))), (.tc (.sc (.int .u8 0))), (.tc (.sc (.int .u8 0))), (.tc (.sc (.int .u8 0))), (.tc (.sc (.int .u8 0))), (.tc (.sc (.int .u8 0))), (.tc (.sc (.bool false))), (.tc (.sc (.bool false))), (.tc (.sc (.int .u16 0))), (.tc (.sc (.int .i64 0)))]] [(.mk 0 11 g21), (.mk 1 11 g22)] (G2 72 2 9)) (some s23),
  .mk .none .no (.ap 11 24 g20 g23) (.ap 11 24 g20 g23) (some s24),
  .mk .none .yes (.nc g14 (G2 72 2 11)) (.nc g14 (G2 72 2 11)) (some s25),
  .mk .none .yes (.fa 2 g25) (.fa 2 g25) (some s26),
  .mk .none .yes (.fa 0 g26) (.fa 0 g26) (some s27),
  .mk .none .no (.st 1 g27 g24 (G2 72 2 14)) (.st 1 g27 g24 (G2 72 2 14)) none,
  .mk .none .yes (.nc g15 (G2 72 2 15)) (.nc g15 (G2 72 2 15)) (some s28),
  .mk .none .yes (.fa 2 g28) (.fa 2 g28) (some s29),
  .mk .none .yes (.fa 4 g29) (.fa 4 g29) (some s30),
  .mk .none .no (.st 1 g30 (kc (.tc (.sc (.bool true)))) (G2 72 2 18)) (.st 1 g30 (kc (.tc (.sc (.bool true)))) (G2 72 2 18)) none])
 (.seq (.reg [.p (.mv g7) s31,
  .p (.mv g31) s4])
 .ret)))),
 [.tmp g4]⟩
theorem ff72_ok : compF SBUnpackKnown 72 = ff72 := by kernel_rfl
noncomputable def ff125 : FF := .t2 ⟨52,
 (.seq (.reg [.p (.al 11 [(.sc (.int .u8 0)), (.sc (.int .u8 0)), (.sc (.int .u8 0)), (.sc (.int .u8 0)), (.sc (.int .u8 0)), (.sc (.int .u8 0)), (.sc (.int .u8 0)), (.sc (.bool false)), (.sc (.bool false)), (.sc (.int .u16 0)), (.sc (.int .i64 0))]) s2,
  .p (.al 11 [(.sc (.int .u8 0)), (.sc (.int .u8 0)), (.sc (.int .u8 0)), (.sc (.int .u8 0)), (.sc (.int .u8 0)), (.sc (.int .u8 0)), (.sc (.int .u8 0)), (.sc (.bool false)), (.sc (.bool false)), (.sc (.int .u16 0)), (.sc (.int .i64 0))]) s3,
  .p (.mv (kc (.tc (.sc (.bool false))))) s4])
 (.seq (.seq (.reg [.p (.mv g0) s13,
  .p (.call 71 [g13] (G2 125 1 1)) s14,
  .p (.mv g14) s12,
  .p (.ex g12 0) s15,
  .p (.ex g12 1) s16,
  .p (.ex g12 2) s17,
  .p (.mv g15) s5,
  .p (.mv g16) s6,
  .p (.mv g17) s7])
 (.seq (.reg [.p (.mv g7) s18,
  .p (.bin .neq g18 (kc (.tc (.sc (.int .u8 0)))) (G2 125 2 1)) s19])
 (.cond g19 (.seq (.reg [.p (.bd [(.tc (.sc (.int .u8 0))), (.tc (.sc (.int .u8 0))), (.tc (.sc (.int .u8 0))), (.tc (.sc (.int .u8 0))), (.tc (.sc (.int .u8 0))), (.tc (.sc (.int .u8 0))), (.tc (.sc (.int .u8 0))), (.tc (.sc (.bool false))), (.tc (.sc (.bool false))), (.tc (.sc (.int .u16 0))), (.tc (.sc (.int .i64 0)))] [] (G2 125 3 0)) s20,
  .p (.bd [(.tc (.sc (.int .u8 0))), (.tc (.sc (.int .u8 0))), (.tc (.sc (.int .u8 0))), (.tc (.sc (.int .u8 0))), (.tc (.sc (.int .u8 0))), (.tc (.sc (.int .u8 0))), (.tc (.sc (.int .u8 0))), (.tc (.sc (.bool false))), (.tc (.sc (.bool false))), (.tc (.sc (.int .u16 0))), (.tc (.sc (.int .i64 0)))] [] (G2 125 3 1)) s21,
  .n (.st 11 g2 g20 (G2 125 3 2)),
  .n (.st 11 g3 g21 (G2 125 3 3)),
  .p (.mv (kc (.tc (.sc (.bool false))))) s4])
 .ret)
 .skip)))
 (.seq (.reg [.p (.mv g0) s22,
  .p (.call 70 [g22] (G2 125 4 1)) s23,
  .p (.mv g23) s8])
 (.seq (.reg [.p (.mv g8) s25,
  .p (.bin .shr g25 (kc (.tc (.sc (.int .u64 15)))) (G2 125 5 1)) s26,
  .p (.cv .u16 g26 (G2 125 5 2)) s27,
  .p (.call 122 [g27] (G2 125 5 3)) s28,
  .p (.mv g28) s24,
  .p (.ex g24 0) s29,
  .p (.ex g24 1) s30,
  .p (.al 11 [(.sc (.int .u8 0)), (.sc (.int .u8 0)), (.sc (.int .u8 0)), (.sc (.int .u8 0)), (.sc (.int .u8 0)), (.sc (.int .u8 0)), (.sc (.int .u8 0)), (.sc (.bool false)), (.sc (.bool false)), (.sc (.int .u16 0)), (.sc (.int .i64 0))]) s9,
  .n (.st 11 g9 g29 (G2 125 5 8)),
  .p (.mv g30) s4])
 (.seq (.reg [.p (.mv g8) s32,
  .p (.bin .and g32 (kc (.tc (.sc (.int .u32 32767)))) (G2 125 6 1)) s33,
  .p (.cv .u16 g33 (G2 125 6 2)) s34,
  .p (.call 122 [g34] (G2 125 6 3)) s35,
  .p (.mv g35) s31,
  .p (.ex g31 0) s36,
  .p (.ex g31 1) s37,
  .p (.al 11 [(.sc (.int .u8 0)), (.sc (.int .u8 0)), (.sc (.int .u8 0)), (.sc (.int .u8 0)), (.sc (.int .u8 0)), (.sc (.int .u8 0)), (.sc (.int .u8 0)), (.sc (.bool false)), (.sc (.bool false)), (.sc (.int .u16 0)), (.sc (.int .i64 0))]) s10,
  .n (.st 11 g10 g36 (G2 125 6 8)),
  .p (.mv g37) s11])
 (.seq (.seq (.reg [.p (.mv g4) s38,
  .p (.nt g38 (G2 125 7 1)) s39,
  .p (.mv g39) s40,
  .gp g40 false (.mv g11) s41,
  .gp g40 false (.nt g41 (G2 125 7 4)) s42,
  .p (.pk g40 (kc (.tc (.sc (.bool true)))) g42) s43,
  .p (.mv g43) s44,
  .gp g44 false (.ld true 11 g9) s45,
  .gp g44 false (.call 67 [g45] (G2 125 7 8)) s46,
  .p (.pk g44 (kc (.tc (.sc (.bool true)))) g46) s47])
 (.cond g47 (.seq (.reg [.p (.bd [(.tc (.sc (.int .u8 0))), (.tc (.sc (.int .u8 0))), (.tc (.sc (.int .u8 0))), (.tc (.sc (.int .u8 0))), (.tc (.sc (.int .u8 0))), (.tc (.sc (.int .u8 0))), (.tc (.sc (.int .u8 0))), (.tc (.sc (.bool false))), (.tc (.sc (.bool false))), (.tc (.sc (.int .u16 0))), (.tc (.sc (.int .i64 0)))] [] (G2 125 8 0)) s48,
  .p (.bd [(.tc (.sc (.int .u8 0))), (.tc (.sc (.int .u8 0))), (.tc (.sc (.int .u8 0))), (.tc (.sc (.int .u8 0))), (.tc (.sc (.int .u8 0))), (.tc (.sc (.int .u8 0))), (.tc (.sc (.int .u8 0))), (.tc (.sc (.bool false))), (.tc (.sc (.bool false))), (.tc (.sc (.int .u16 0))), (.tc (.sc (.int .i64 0)))] [] (G2 125 8 1)) s49,
  .n (.st 11 g2 g48 (G2 125 8 2)),
  .n (.st 11 g3 g49 (G2 125 8 3)),
  .p (.mv (kc (.tc (.sc (.bool false))))) s4])
 .ret)
 .skip))
 (.seq (.regD [0, 0, 1, 7, 15] [(.rd (.ld true 11 g9) g50), (.rd (.ld true 11 g10) g51), .no, .no, .no] [.mk .none .yes (.ld true 11 g9) (.ld true 11 g9) (some s50),
  .mk .none .yes (.ld true 11 g10) (.ld true 11 g10) (some s51),
  .mk .none .no (.st 11 g2 g50 (G2 125 9 2)) (.st 11 g2 g50 (G2 125 9 2)) none,
  .mk .none .no (.st 11 g3 g51 (G2 125 9 3)) (.st 11 g3 g51 (G2 125 9 3)) none,
  .mk .none .yes (.mv (kc (.tc (.sc (.bool true))))) (.mv (kc (.tc (.sc (.bool true))))) (some s4)])
 .ret))))))),
 [.cell g2 true 11, .cell g3 true 11, .tmp g4]⟩
theorem ff125_ok : compF SBUnpackKnown 125 = ff125 := by kernel_rfl
noncomputable def ff70 : FF := .t2 ⟨15,
 (.seq (.reg [.p (.mv (kc (.tc (.sc (.int .u32 0))))) s2])
 (.seq (.regD [0, 1, 0, 7, 0, 0, 63, 0, 128, 384, 1023, 2047, 4095] [.no, (.rd (.ld true 2 g3) g4), .no, .no, (.rd (.ld true 2 (kc (.vptr gwUnpackKnown4 [glUnpackKnown4] 0 0))) g7), .no, .no, .no, .no, (.rd (.ld false 1 g11) g12), .no, .no, .no] [.mk .none .yes (.gen (G2 70 1 0)) (.gen (G2 70 1 0)) (some s3),
  .mk .none .yes (.ld true 2 g3) (.ld true 2 g3) (some s4),
  .mk .none .yes (.mv g0) (.mv g0) (some s5),
  .mk .none (.dyn 124 [g4, g5]) (.call 124 [g4, g5] (G2 70 1 3)) (.call 124 [g4, g5] (G2 70 1 3)) (some s6),
  .mk .none .yes (.ld true 2 (kc (.vptr gwUnpackKnown4 [glUnpackKnown4] 0 0))) (.ld true 2 (kc (.vptr gwUnpackKnown4 [glUnpackKnown4] 0 0))) (some s7),
  .mk .none .yes (.mv g0) (.mv g0) (some s8),
  .mk .none (.dyn 124 [g7, g8]) (.call 124 [g7, g8] (G2 70 1 6)) (.call 124 [g7, g8] (G2 70 1 6)) (some s9),
  .mk .none .yes (.gen (G2 70 1 7)) (.gen (G2 70 1 7)) (some s10),
  .mk .none .yes (.fa 1 g10) (.fa 1 g10) (some s11),
  .mk .none .yes (.ld false 1 g11) (.ld false 1 g11) (some s12),
  .mk .none .yes (.bin .shl g9 g12 (G2 70 1 10)) (.bin .shl g9 g12 (G2 70 1 10)) (some s13),
  .mk .none .yes (.bin .or g6 g13 (G2 70 1 11)) (.bin .or g6 g13 (G2 70 1 11)) (some s14),
  .mk .none .yes (.mv g14) (.mv g14) (some s2)])
 .ret)),
 [.tmp g2]⟩
theorem ff70_ok : compF SBUnpackKnown 70 = ff70 := by kernel_rfl
noncomputable def ff122 : FF := .t2 ⟨60,
 (.seq (.reg [.p (.al 11 [(.sc (.int .u8 0)), (.sc (.int .u8 0)), (.sc (.int .u8 0)), (.sc (.int .u8 0)), (.sc (.int .u8 0)), (.sc (.int .u8 0)), (.sc (.int .u8 0)), (.sc (.bool false)), (.sc (.bool false)), (.sc (.int .u16 0)), (.sc (.int .i64 0))]) s2,
  .p (.mv (kc (.tc (.sc (.bool false))))) s3])
 (.seq (.reg [.p (.mv g0) s10,
  .p (.bin .shr g10 (kc (.tc (.sc (.int .u64 11)))) (G2 122 1 1)) s11,
  .p (.cv .i64 g11 (G2 122 1 2)) s12,
  .p (.mv g12) s4])
 (.seq (.seq (.reg [.p (.mv g4) s13,
  .p (.bin .lss g13 (kc (.tc (.sc (.int .i64 1)))) (G2 122 2 1)) s14,
  .p (.mv g14) s15,
  .gp g15 false (.mv g4) s16,
  .gp g15 false (.ld false 1 (kc (.vptr gwUnpackKnown3 [glUnpackKnown3] 0 0))) s17,
  .gp g15 false (.len g17 (G2 122 2 5)) s18,
  .gp g15 false (.bin .gtr g16 g18 (G2 122 2 6)) s19,
  .p (.pk g15 (kc (.tc (.sc (.bool true)))) g19) s20])
 (.cond g20 (.seq (.reg [.p (.bd [(.tc (.sc (.int .u8 0))), (.tc (.sc (.int .u8 0))), (.tc (.sc (.int .u8 0))), (.tc (.sc (.int .u8 0))), (.tc (.sc (.int .u8 0))), (.tc (.sc (.int .u8 0))), (.tc (.sc (.int .u8 0))), (.tc (.sc (.bool false))), (.tc (.sc (.bool false))), (.tc (.sc (.int .u16 0))), (.tc (.sc (.int .i64 0)))] [] (G2 122 3 0)) s21,
  .n (.st 11 g2 g21 (G2 122 3 1)),
  .p (.mv (kc (.tc (.sc (.bool false))))) s3])
 .ret)
 .skip))
 (.seq (.reg [.p (.ld false 1 (kc (.vptr gwUnpackKnown3 [glUnpackKnown3] 0 0))) s22,
  .p (.mv g4) s23,
  .p (.bin .sub g23 (kc (.tc (.sc (.int .i64 1)))) (G2 122 4 2)) s24,
  .p (.ia 10 g22 g24 (G2 122 4 3)) s25,
  .p (.ld true 10 g25) s26,
  .p (.al 10 [(.sc (.int .u8 0)), (.sc (.int .i64 0)), (.sc (.int .i64 0)), (.sc (.int .i64 0)), (.sc (.int .i64 0)), (.sc (.int .i64 0)), (.sc (.int .i64 0)), (.sc (.int .i64 0)), (.sc (.int .i64 0)), (.sc (.int .i64 0))]) s5,
  .n (.st 10 g5 g26 (G2 122 4 6))])
 (.seq (.reg [.p (.fa 0 g5) s27,
  .p (.ld false 1 g27) s28,
  .p (.bd [(.tc (.sc (.int .u8 0))), (.tc (.sc (.int .u8 0))), (.tc (.sc (.int .u8 0))), (.tc (.sc (.int .u8 0))), (.tc (.sc (.int .u8 0))), (.tc (.sc (.int .u8 0))), (.tc (.sc (.int .u8 0))), (.tc (.sc (.bool false))), (.tc (.sc (.bool false))), (.tc (.sc (.int .u16 0))), (.tc (.sc (.int .i64 0)))] [(.mk 0 1 g28)] (G2 122 5 2)) s29,
  .p (.al 11 [(.sc (.int .u8 0)), (.sc (.int .u8 0)), (.sc (.int .u8 0)), (.sc (.int .u8 0)), (.sc (.int .u8 0)), (.sc (.int .u8 0)), (.sc (.int .u8 0)), (.sc (.bool false)), (.sc (.bool false)), (.sc (.int .u16 0)), (.sc (.int .i64 0))]) s6,
  .n (.st 11 g6 g29 (G2 122 5 4))])
 (.seq (.reg [.p (.mv (kc (.tc (.sc (.int .i64 11))))) s7])
 (.seq (.seq (.reg [.p (.fa 1 g5) s30,
  .p (.ld true 9 g30) s31,
  .p (.mv (kc (.tc (.sc (.int .i64 0))))) s32])
 (.block 0 (.loop 4294967296 (.seq (.reg [.p (.bin .lss g32 (kc (.tc (.sc (.int .i64 3)))) (G2 122 8 0)) s33])
 (.seq (.cond g33 .skip
 (.exit 0))
 (.seq (.block 1 (.seq (.reg [.p (.gen (G2 122 9 0)) s34,
  .p (.al 3 [(.sc (.int .i64 0)), (.sc (.int .i64 0)), (.sc (.int .i64 0))]) s9,
  .n (.st 3 g9 g34 (G2 122 9 2))])
 (.seq (.reg [.p (.mv g7) s35,
  .p (.fa 1 g9) s36,
  .p (.ld false 1 g36) s37,
  .p (.bin .sub g35 g37 (G2 122 10 3)) s38,
  .p (.mv g38) s7])
 (.regD [0, 0, 2, 0, 0, 16, 62, 127] [(.rd (.ld true 3 g9) g39), .no, (.rd (.cv .u32 g40 (G2 122 11 2)) g41), .no, .no, (.rd (.ld false 1 g43) g44), .no, .no] [.mk .none .yes (.ld true 3 g9) (.ld true 3 g9) (some s39),
  .mk .none .yes (.mv g0) (.mv g0) (some s40),
  .mk .none .yes (.cv .u32 g40 (G2 122 11 2)) (.cv .u32 g40 (G2 122 11 2)) (some s41),
  .mk .none .yes (.mv g7) (.mv g7) (some s42),
  .mk .none .yes (.fa 1 g9) (.fa 1 g9) (some s43),
  .mk .none .yes (.ld false 1 g43) (.ld false 1 g43) (some s44),
  .mk .none (.dyn 161 [g41, g42, g44]) (.call 161 [g41, g42, g44] (G2 122 11 6)) (.call 161 [g41, g42, g44] (G2 122 11 6)) (some s45),
  .mk .none (.dyn 160 [g39, g6, g45]) (.call 160 [g39, g6, g45] (G2 122 11 7)) (.call 160 [g39, g6, g45] (G2 122 11 7)) (some s46)]))))
 (.reg [.p (.bin .add g32 (kc (.tc (.sc (.int .i64 1)))) (G2 122 12 0)) s47,
  .p (.mv g47) s32])))))))
 (.seq (.seq (.reg [.p (.mv g0) s48,
  .p (.cv .u32 g48 (G2 122 13 1)) s49,
  .p (.mv g7) s50,
  .p (.call 161 [g49, (kc (.tc (.sc (.int .i64 0)))), g50] (G2 122 13 3)) s51,
  .p (.bin .neq g51 (kc (.tc (.sc (.int .u32 0)))) (G2 122 13 4)) s52,
  .p (.mv g52) s53,
  .gp g53 false (.ld true 11 g6) s54,
  .gp g53 false (.call 104 [g54] (G2 122 13 7)) s55,
  .gp g53 false (.nt g55 (G2 122 13 8)) s56,
  .p (.pk g53 (kc (.tc (.sc (.bool true)))) g56) s57])
 (.cond g57 (.seq (.reg [.p (.bd [(.tc (.sc (.int .u8 0))), (.tc (.sc (.int .u8 0))), (.tc (.sc (.int .u8 0))), (.tc (.sc (.int .u8 0))), (.tc (.sc (.int .u8 0))), (.tc (.sc (.int .u8 0))), (.tc (.sc (.int .u8 0))), (.tc (.sc (.bool false))), (.tc (.sc (.bool false))), (.tc (.sc (.int .u16 0))), (.tc (.sc (.int .i64 0)))] [] (G2 122 14 0)) s58,
  .n (.st 11 g2 g58 (G2 122 14 1)),
  .p (.mv (kc (.tc (.sc (.bool false))))) s3])
 .ret)
 .skip))
 (.seq (.reg [.p (.ld true 11 g6) s59,
  .n (.st 11 g2 g59 (G2 122 15 1)),
  .p (.mv (kc (.tc (.sc (.bool true))))) s3])
 .ret))))))))),
 [.cell g2 true 11, .tmp g3]⟩
theorem ff122_ok : compF SBUnpackKnown 122 = ff122 := by kernel_rfl
noncomputable def ff161 : FF := .t2 ⟨17,
 (.seq (.reg [.p (.mv (kc (.tc (.sc (.int .u32 0))))) s6])
 (.seq (.reg [.p (.mv g1) s8,
  .p (.mv g2) s9,
  .p (.bd [(.tc (.sc (.int .i64 0))), (.tc (.sc (.int .i64 0)))] [(.mk 0 1 g8), (.mk 1 1 g9)] (G2 161 1 2)) s10,
  .p (.al 2 [(.sc (.int .i64 0)), (.sc (.int .i64 0))]) s7,
  .n (.st 2 g7 g10 (G2 161 1 4))])
 (.seq (.seq (.reg [.p (.ld true 2 g7) s11,
  .p (.call 154 [g11] (G2 161 2 1)) s12,
  .p (.nt g12 (G2 161 2 2)) s13])
 (.cond g13 (.seq (.reg [.p (.mv (kc (.tc (.sc (.int .u32 0))))) s6])
 .ret)
 .skip))
 (.seq (.reg [.p (.ld true 2 g7) s14,
  .p (.mv g0) s15,
  .p (.call 124 [g14, g15] (G2 161 4 2)) s16,
  .p (.mv g16) s6])
 .ret)))),
 [.tmp g6]⟩
theorem ff161_ok : compF SBUnpackKnown 161 = ff161 := by kernel_rfl
noncomputable def ff154 : FF := .t2 ⟨24,
 (.seq (.reg [.p (.bx 2 g0 (G2 154 0 0)) s1,
  .p (.mv (kc (.tc (.sc (.bool false))))) s2])
 (.seq (.reg [.p (.fa 0 g1) s3,
  .p (.ld false 1 g3) s4,
  .p (.bin .geq g4 (kc (.tc (.sc (.int .i64 0)))) (G2 154 1 2)) s5,
  .p (.mv g5) s6,
  .gp g6 true (.fa 1 g1) s7,
  .gp g6 true (.ld false 1 g7) s8,
  .gp g6 true (.bin .geq g8 (kc (.tc (.sc (.int .i64 0)))) (G2 154 1 6)) s9,
  .p (.pk g6 g9 (kc (.tc (.sc (.bool false))))) s10,
  .p (.mv g10) s11,
  .gp g11 true (.fa 0 g1) s12,
  .gp g11 true (.ld false 1 g12) s13,
  .gp g11 true (.bin .leq g13 (kc (.tc (.sc (.int .i64 32)))) (G2 154 1 11)) s14,
  .p (.pk g11 g14 (kc (.tc (.sc (.bool false))))) s15,
  .p (.mv g15) s16,
  .gp g16 true (.fa 1 g1) s17,
  .gp g16 true (.ld false 1 g17) s18,
  .gp g16 true (.fa 0 g1) s19,
  .gp g16 true (.ld false 1 g19) s20,
  .gp g16 true (.bin .sub (kc (.tc (.sc (.int .i64 32)))) g20 (G2 154 1 18)) s21,
  .gp g16 true (.bin .leq g18 g21 (G2 154 1 19)) s22,
  .p (.pk g16 g22 (kc (.tc (.sc (.bool false))))) s23,
  .p (.mv g23) s2])
 .ret)),
 [.tmp g2]⟩
theorem ff154_ok : compF SBUnpackKnown 154 = ff154 := by kernel_rfl
noncomputable def ff160 : FF := .t2 ⟨63,
 (.seq (.reg [.p (.bx 3 g0 (G2 160 0 0)) s3])
 (.seq (.reg [.p (.fa 0 g3) s6,
  .p (.ld false 1 g6) s7])
 (.block 0 (.seq (.reg [.p (.bin .eql g7 (kc (.tc (.sc (.int .i64 1)))) (G2 160 2 0)) s9,
  .p (.mv g9) s8])
 (.cond g8 (.reg [.p (.mv g1) s10,
  .p (.mv g2) s11,
  .p (.call 184 [g11] (G2 160 3 2)) s12,
  .p (.nc g10 (G2 160 3 3)) s13,
  .p (.fa 1 g13) s14,
  .n (.st 1 g14 g12 (G2 160 3 5))])
 (.seq (.reg [.p (.bin .eql g7 (kc (.tc (.sc (.int .i64 2)))) (G2 160 4 0)) s16,
  .p (.mv g16) s15])
 (.cond g15 (.reg [.p (.mv g1) s17,
  .p (.mv g2) s18,
  .p (.call 184 [g18] (G2 160 5 2)) s19,
  .p (.nc g17 (G2 160 5 3)) s20,
  .p (.fa 2 g20) s21,
  .n (.st 1 g21 g19 (G2 160 5 5))])
 (.seq (.reg [.p (.bin .eql g7 (kc (.tc (.sc (.int .i64 3)))) (G2 160 6 0)) s23,
  .p (.mv g23) s22])
 (.cond g22 (.reg [.p (.mv g1) s24,
  .p (.mv g2) s25,
  .p (.call 184 [g25] (G2 160 7 2)) s26,
  .p (.nc g24 (G2 160 7 3)) s27,
  .p (.fa 3 g27) s28,
  .n (.st 1 g28 g26 (G2 160 7 5))])
 (.seq (.reg [.p (.bin .eql g7 (kc (.tc (.sc (.int .i64 4)))) (G2 160 8 0)) s30,
  .p (.mv g30) s29])
 (.cond g29 (.reg [.p (.mv g1) s31,
  .p (.mv g1) s32,
  .p (.mv g2) s33,
  .p (.call 184 [g33] (G2 160 9 3)) s34,
  .p (.mv g2) s35,
  .p (.call 184 [g35] (G2 160 9 5)) s36,
  .p (.nc g31 (G2 160 9 6)) s37,
  .p (.fa 1 g37) s38,
  .n (.st 1 g38 g34 (G2 160 9 8)),
  .p (.nc g32 (G2 160 9 9)) s39,
  .p (.fa 2 g39) s40,
  .n (.st 1 g40 g36 (G2 160 9 11))])
 (.seq (.reg [.p (.bin .eql g7 (kc (.tc (.sc (.int .i64 5)))) (G2 160 10 0)) s42,
  .p (.mv g42) s41])
 (.cond g41 (.reg [.p (.mv g1) s43,
  .p (.mv g2) s44,
  .p (.cv .i64 g44 (G2 160 11 2)) s45,
  .p (.fa 2 g3) s46,
  .p (.ld false 1 g46) s47,
  .p (.bin .shl g45 g47 (G2 160 11 5)) s48,
  .p (.nc g43 (G2 160 11 6)) s49,
  .p (.fa 10 g49) s50,
  .n (.st 1 g50 g48 (G2 160 11 8))])
 (.seq (.reg [.p (.bin .eql g7 (kc (.tc (.sc (.int .i64 6)))) (G2 160 12 0)) s52,
  .p (.mv g52) s51])
 (.cond g51 (.regD [0, 0, 0, 4, 14, 0, 32, 126, 255, 511, 1023] [.no, .no, .no, (.rd (.ld false 1 g55) g56), .no, .no, (.rd (.ld false 1 g58) g59), .no, .no, .no, .no] [.mk .none .yes (.mv g1) (.mv g1) (some s53),
  .mk .none .yes (.mv g2) (.mv g2) (some s54),
  .mk .none .yes (.fa 1 g3) (.fa 1 g3) (some s55),
  .mk .none .yes (.ld false 1 g55) (.ld false 1 g55) (some s56),
  .mk .none (.dyn 172 [g54, g56]) (.call 172 [g54, g56] (G2 160 13 4)) (.call 172 [g54, g56] (G2 160 13 4)) (some s57),
  .mk .none .yes (.fa 2 g3) (.fa 2 g3) (some s58),
  .mk .none .yes (.ld false 1 g58) (.ld false 1 g58) (some s59),
  .mk .none .yes (.bin .shl g57 g59 (G2 160 13 7)) (.bin .shl g57 g59 (G2 160 13 7)) (some s60),
  .mk .none .yes (.nc g53 (G2 160 13 8)) (.nc g53 (G2 160 13 8)) (some s61),
  .mk .none .yes (.fa 10 g61) (.fa 10 g61) (some s62),
  .mk .none .no (.st 1 g62 g60 (G2 160 13 10)) (.st 1 g62 g60 (G2 160 13 10)) none])
 .skip))))))))))))))),
 []⟩
theorem ff160_ok : compF SBUnpackKnown 160 = ff160 := by kernel_rfl
noncomputable def ff184 : FF := .t2 ⟨10,
 (.seq (.reg [.p (.mv (kc (.tc (.sc (.int .u8 0))))) s2])
 (.seq (.seq (.reg [.p (.mv g0) s3,
  .p (.bin .lss g3 (kc (.tc (.sc (.int .u32 8)))) (G2 184 1 1)) s4])
 (.cond g4 (.seq (.reg [.p (.mv g0) s5,
  .p (.cv .u8 g5 (G2 184 2 1)) s6,
  .p (.mv g6) s2])
 .ret)
 .skip))
 (.seq (.reg [.p (.mv g0) s7,
  .p (.bin .add g7 (kc (.tc (.sc (.int .u32 8)))) (G2 184 3 1)) s8,
  .p (.cv .u8 g8 (G2 184 3 2)) s9,
  .p (.mv g9) s2])
 .ret))),
 [.tmp g2]⟩
theorem ff184_ok : compF SBUnpackKnown 184 = ff184 := by kernel_rfl
noncomputable def ff172 : FF := .t2 ⟨27,
 (.seq (.reg [.p (.mv (kc (.tc (.sc (.int .i64 0))))) s4])
 (.seq (.seq (.reg [.p (.mv g1) s6,
  .p (.bin .lss g6 (kc (.tc (.sc (.int .i64 1)))) (G2 172 1 1)) s7,
  .p (.mv g7) s8,
  .gp g8 false (.mv g1) s9,
  .gp g8 false (.bin .gtr g9 (kc (.tc (.sc (.int .i64 32)))) (G2 172 1 4)) s10,
  .p (.pk g8 (kc (.tc (.sc (.bool true)))) g10) s11])
 (.cond g11 (.seq (.reg [.p (.mv (kc (.tc (.sc (.int .i64 0))))) s4])
 .ret)
 .skip))
 (.seq (.reg [.p (.mv g1) s12,
  .p (.bd [(.tc (.sc (.int .i64 0))), (.tc (.sc (.int .i64 0)))] [(.mk 0 1 (kc (.tc (.sc (.int .i64 0))))), (.mk 1 1 g12)] (G2 172 3 1)) s13,
  .p (.mv g0) s14,
  .p (.call 124 [g13, g14] (G2 172 3 3)) s15,
  .p (.cv .i64 g15 (G2 172 3 4)) s16,
  .p (.mv g16) s5])
 (.seq (.seq (.reg [.p (.mv g5) s17,
  .p (.mv g1) s18,
  .p (.bin .sub g18 (kc (.tc (.sc (.int .i64 1)))) (G2 172 4 2)) s19,
  .p (.bin .shr g17 g19 (G2 172 4 3)) s20,
  .p (.bin .eql g20 (kc (.tc (.sc (.int .i64 1)))) (G2 172 4 4)) s21])
 (.cond g21 (.seq (.reg [.p (.mv g5) s22,
  .p (.mv g1) s23,
  .p (.bin .shl (kc (.tc (.sc (.int .i64 1)))) g23 (G2 172 5 2)) s24,
  .p (.bin .sub g22 g24 (G2 172 5 3)) s25,
  .p (.mv g25) s4])
 .ret)
 .skip))
 (.seq (.reg [.p (.mv g5) s26,
  .p (.mv g26) s4])
 .ret))))),
 [.tmp g4]⟩
theorem ff172_ok : compF SBUnpackKnown 172 = ff172 := by kernel_rfl
noncomputable def ff104 : FF := .t2 ⟨54,
 (.seq (.reg [.p (.bx 11 g0 (G2 104 0 0)) s1,
  .p (.mv (kc (.tc (.sc (.bool false))))) s2])
 (.seq (.reg [.p (.fa 0 g1) s9,
  .p (.ld false 1 g9) s10,
  .p (.call 59 [g10] (G2 104 1 2)) s11,
  .p (.mv g11) s8,
  .p (.ex g8 0) s12,
  .p (.ex g8 1) s13,
  .p (.al 5 [(.sc (.int .u8 0)), (.sc (.string ⟨#[]⟩)), (.sc (.int .u8 0)), (.sc (.int .u8 0)), (.sc (.slice none 0 0))]) s3,
  .n (.st 5 g3 g12 (G2 104 1 7)),
  .p (.mv g13) s4])
 (.seq (.reg [.p (.ld true 11 g1) s14,
  .p (.al 11 [(.sc (.int .u8 0)), (.sc (.int .u8 0)), (.sc (.int .u8 0)), (.sc (.int .u8 0)), (.sc (.int .u8 0)), (.sc (.int .u8 0)), (.sc (.int .u8 0)), (.sc (.bool false)), (.sc (.bool false)), (.sc (.int .u16 0)), (.sc (.int .i64 0))]) s5,
  .n (.st 11 g5 g14 (G2 104 2 2))])
 (.seq (.reg [.p (.fa 0 g5) s15,
  .n (.st 1 g15 (kc (.tc (.sc (.int .u8 0)))) (G2 104 3 1))])
 (.seq (.seq (.reg [.p (.fa 4 g3) s16,
  .p (.ld false 1 g16) s17,
  .p (.len g17 (G2 104 4 2)) s18,
  .p (.mv (kc (.tc (.sc (.int .i64 0))))) s19])
 (.block 0 (.loop 4294967296 (.seq (.reg [.p (.bin .lss g19 g18 (G2 104 5 0)) s20])
 (.seq (.cond g20 .skip
 (.exit 0))
 (.seq (.block 1 (.seq (.reg [.p (.ia 5 g17 g19 (G2 104 6 0)) s21,
  .p (.ld true 5 g21) s22,
  .p (.al 5 [(.sc (.int .u8 0)), (.sc (.int .i64 0)), (.sc (.int .i64 0)), (.sc (.bool false)), (.sc (.bool false))]) s7,
  .n (.st 5 g7 g22 (G2 104 6 3))])
 (.seq (.reg [.p (.ld true 11 g5) s23,
  .p (.ld true 5 g7) s24,
  .p (.call 139 [g23, g24] (G2 104 7 2)) s25,
  .n (.st 11 g5 g25 (G2 104 7 3))])
 (.reg [.p (.mv g4) s26,
  .p (.mv g26) s27,
  .gp g27 true (.ld true 11 g1) s28,
  .gp g27 true (.ld true 5 g7) s29,
  .gp g27 true (.call 140 [g28, g29] (G2 104 8 4)) s30,
  .p (.pk g27 g30 (kc (.tc (.sc (.bool false))))) s31,
  .p (.mv g31) s4]))))
 (.reg [.p (.bin .add g19 (kc (.tc (.sc (.int .i64 1)))) (G2 104 9 0)) s32,
  .p (.mv g32) s19])))))))
 (.seq (.reg [.p (.mv g4) s33,
  .p (.mv g33) s34,
  .gp g34 true (.ld true 11 g5) s35,
  .gp g34 true (.bd [(.tc (.sc (.int .u8 0))), (.tc (.sc (.int .u8 0))), (.tc (.sc (.int .u8 0))), (.tc (.sc (.int .u8 0))), (.tc (.sc (.int .u8 0))), (.tc (.sc (.int .u8 0))), (.tc (.sc (.int .u8 0))), (.tc (.sc (.bool false))), (.tc (.sc (.bool false))), (.tc (.sc (.int .u16 0))), (.tc (.sc (.int .i64 0)))] [] (G2 104 10 3)) s36,
  .gp g34 true (.eqs .eql [(.mk 0 .int), (.mk 1 .int), (.mk 2 .int), (.mk 3 .int), (.mk 4 .int), (.mk 5 .int), (.mk 6 .int), (.mk 7 .bool), (.mk 8 .bool), (.mk 9 .int), (.mk 10 .int)] g35 g36 (G2 104 10 4)) s37,
  .p (.pk g34 g37 (kc (.tc (.sc (.bool false))))) s38,
  .p (.mv g38) s39,
  .gp g39 true (.ld true 11 g1) s40,
  .gp g39 true (.call 141 [g40] (G2 104 10 8)) s41,
  .gp g39 true (.mv g41) s42,
  .gp g42 true (.fa 6 g1) s43,
  .gp g42 true (.ld false 1 g43) s44,
  .gp g42 true (.bin .eql g44 (kc (.tc (.sc (.int .u8 0)))) (G2 104 10 12)) s45,
  .gp g39 true (.pk g42 g45 (kc (.tc (.sc (.bool false))))) s46,
  .gp g39 true (.mv g46) s47,
  .gp g47 true (.fa 5 g1) s48,
  .gp g47 true (.ld false 1 g48) s49,
  .gp g47 true (.bin .neq g49 (kc (.tc (.sc (.int .u8 0)))) (G2 104 10 17)) s50,
  .gp g39 true (.pk g47 g50 (kc (.tc (.sc (.bool false))))) s51,
  .gp g39 true (.nt g51 (G2 104 10 19)) s52,
  .p (.pk g39 g52 (kc (.tc (.sc (.bool false))))) s53,
  .p (.mv g53) s2])
 .ret)))))),
 [.tmp g2]⟩
theorem ff104_ok : compF SBUnpackKnown 104 = ff104 := by kernel_rfl
noncomputable def ff59 : FF := .t2 ⟨17,
 (.seq (.reg [.p (.al 5 [(.sc (.int .u8 0)), (.sc (.string ⟨#[]⟩)), (.sc (.int .u8 0)), (.sc (.int .u8 0)), (.sc (.slice none 0 0))]) s2,
  .p (.mv (kc (.tc (.sc (.bool false))))) s3])
 (.seq (.reg [.p (.mv g0) s7,
  .p (.call 115 [g7] (G2 59 1 1)) s8,
  .p (.mv g8) s6,
  .p (.ex g6 0) s9,
  .p (.ex g6 1) s10,
  .p (.al 5 [(.sc (.int .u8 0)), (.sc (.string ⟨#[]⟩)), (.sc (.int .u8 0)), (.sc (.int .u8 0)), (.sc (.slice none 0 0))]) s4,
  .n (.st 5 g4 g9 (G2 59 1 6)),
  .p (.mv g10) s5])
 (.seq (.reg [.p (.fa 4 g4) s11,
  .p (.ld false 1 g11) s12,
  .p (.call 116 [g12] (G2 59 2 2)) s13,
  .p (.fa 4 g4) s14,
  .n (.st 1 g14 g13 (G2 59 2 4))])
 (.seq (.reg [.p (.ld true 5 g4) s15,
  .p (.mv g5) s16,
  .n (.st 5 g2 g15 (G2 59 3 2)),
  .p (.mv g16) s3])
 .ret)))),
 [.cell g2 true 5, .tmp g3]⟩
theorem ff59_ok : compF SBUnpackKnown 59 = ff59 := by kernel_rfl
noncomputable def ff115 : FF := .t2 ⟨21,
 (.seq (.reg [.p (.al 5 [(.sc (.int .u8 0)), (.sc (.string ⟨#[]⟩)), (.sc (.int .u8 0)), (.sc (.int .u8 0)), (.sc (.slice none 0 0))]) s2,
  .p (.mv (kc (.tc (.sc (.bool false))))) s3])
 (.seq (.reg [.p (.call 155 [] (G2 115 1 0)) s5,
  .p (.mv g5) s4])
 (.seq (.seq (.reg [.p (.mv g0) s6,
  .p (.bin .lss g6 (kc (.tc (.sc (.int .u8 1)))) (G2 115 2 1)) s7,
  .p (.mv g7) s8,
  .gp g8 false (.mv g0) s9,
  .gp g8 false (.cv .i64 g9 (G2 115 2 4)) s10,
  .gp g8 false (.mv g4) s11,
  .gp g8 false (.len g11 (G2 115 2 6)) s12,
  .gp g8 false (.bin .gtr g10 g12 (G2 115 2 7)) s13,
  .p (.pk g8 (kc (.tc (.sc (.bool true)))) g13) s14])
 (.cond g14 (.seq (.reg [.p (.bd [(.tc (.sc (.int .u8 0))), (.tc (.sc (.string ⟨#[]⟩))), (.tc (.sc (.int .u8 0))), (.tc (.sc (.int .u8 0))), (.tc (.sc (.slice none 0 0)))] [] (G2 115 3 0)) s15,
  .n (.st 5 g2 g15 (G2 115 3 1)),
  .p (.mv (kc (.tc (.sc (.bool false))))) s3])
 .ret)
 .skip))
 (.seq (.reg [.p (.mv g4) s16,
  .p (.mv g0) s17,
  .p (.bin .sub g17 (kc (.tc (.sc (.int .u8 1)))) (G2 115 4 2)) s18,
  .p (.ia 5 g16 g18 (G2 115 4 3)) s19,
  .p (.ld true 5 g19) s20,
  .n (.st 5 g2 g20 (G2 115 4 5)),
  .p (.mv (kc (.tc (.sc (.bool true))))) s3])
 .ret)))),
 [.cell g2 true 5, .tmp g3]⟩
theorem ff115_ok : compF SBUnpackKnown 115 = ff115 := by kernel_rfl
noncomputable def ff155 : FF := .t3 ⟨158,
 (.seq (.reg [.p (.mv (kc (.tc (.sc (.slice none 0 0))))) (i0 s0)])
 (.seq (.reg [.p (.call 173 [(kc (.tc (.sc (.int .u8 1)))), (kc (.tc (.sc (.string ⟨#[110, 111, 112]⟩)))), (kc (.tc (.sc (.int .u8 1)))), (kc (.tc (.sc (.slice none 0 0))))] (G3 155 1 0)) (i0 s1),
  .p (.call 174 [] (G3 155 1 1)) (i0 s2),
  .p (.call 175 [] (G3 155 1 2)) (i0 s3),
  .p (.call 176 [] (G3 155 1 3)) (i0 s4),
  .p (.call 177 [] (G3 155 1 4)) (i0 s5),
  .p (.bs 1 4 [[(.tc (.sc (.slice none 0 0)))], [(.tc (.sc (.slice none 0 0)))], [(.tc (.sc (.slice none 0 0)))], [(.tc (.sc (.slice none 0 0)))]] [(.mk 0 1 (h0 g2)), (.mk 1 1 (h0 g3)), (.mk 2 1 (h0 g4)), (.mk 3 1 (h0 g5))] (G3 155 1 5)) (i0 s6),
  .p (.call 173 [(kc (.tc (.sc (.int .u8 2)))), (kc (.tc (.sc (.string ⟨#[97, 100, 100]⟩)))), (kc (.tc (.sc (.int .u8 1)))), (h0 g6)] (G3 155 1 6)) (i0 s7),
  .p (.call 174 [] (G3 155 1 7)) (i0 s8),
  .p (.call 175 [] (G3 155 1 8)) (i0 s9),
  .p (.call 176 [] (G3 155 1 9)) (i0 s10),
  .p (.call 177 [] (G3 155 1 10)) (i0 s11),
  .p (.bs 1 4 [[(.tc (.sc (.slice none 0 0)))], [(.tc (.sc (.slice none 0 0)))], [(.tc (.sc (.slice none 0 0)))], [(.tc (.sc (.slice none 0 0)))]] [(.mk 0 1 (h0 g8)), (.mk 1 1 (h0 g9)), (.mk 2 1 (h0 g10)), (.mk 3 1 (h0 g11))] (G3 155 1 11)) (i0 s12),
  .p (.call 173 [(kc (.tc (.sc (.int .u8 3)))), (kc (.tc (.sc (.string ⟨#[115, 117, 98]⟩)))), (kc (.tc (.sc (.int .u8 1)))), (h0 g12)] (G3 155 1 12)) (i0 s13),
  .p (.call 174 [] (G3 155 1 13)) (i0 s14),
  .p (.call 175 [] (G3 155 1 14)) (i0 s15),
  .p (.call 176 [] (G3 155 1 15)) (i0 s16),
  .p (.call 177 [] (G3 155 1 16)) (i0 s17),
  .p (.bs 1 4 [[(.tc (.sc (.slice none 0 0)))], [(.tc (.sc (.slice none 0 0)))], [(.tc (.sc (.slice none 0 0)))], [(.tc (.sc (.slice none 0 0)))]] [(.mk 0 1 (h0 g14)), (.mk 1 1 (h0 g15)), (.mk 2 1 (h0 g16)), (.mk 3 1 (h0 g17))] (G3 155 1 17)) (i0 s18),
  .p (.call 173 [(kc (.tc (.sc (.int .u8 4)))), (kc (.tc (.sc (.string ⟨#[97, 110, 100]⟩)))), (kc (.tc (.sc (.int .u8 1)))), (h0 g18)] (G3 155 1 18)) (i0 s19),
  .p (.call 174 [] (G3 155 1 19)) (i0 s20),
  .p (.call 175 [] (G3 155 1 20)) (i0 s21),
  .p (.call 176 [] (G3 155 1 21)) (i0 s22),
  .p (.call 177 [] (G3 155 1 22)) (i0 s23),
  .p (.bs 1 4 [[(.tc (.sc (.slice none 0 0)))], [(.tc (.sc (.slice none 0 0)))], [(.tc (.sc (.slice none 0 0)))], [(.tc (.sc (.slice none 0 0)))]] [(.mk 0 1 (h0 g20)), (.mk 1 1 (h0 g21)), (.mk 2 1 (h0 g22)), (.mk 3 1 (h0 g23))] (G3 155 1 23)) (i0 s24),
  .p (.call 173 [(kc (.tc (.sc (.int .u8 5)))), (kc (.tc (.sc (.string ⟨#[111, 114]⟩)))), (kc (.tc (.sc (.int .u8 1)))), (h0 g24)] (G3 155 1 24)) (i0 s25),
  .p (.call 174 [] (G3 155 1 25)) (i0 s26),
  .p (.call 175 [] (G3 155 1 26)) (i0 s27),
  .p (.call 176 [] (G3 155 1 27)) (i0 s28),
  .p (.call 177 [] (G3 155 1 28)) (i0 s29),
  .p (.bs 1 4 [[(.tc (.sc (.slice none 0 0)))], [(.tc (.sc (.slice none 0 0)))], [(.tc (.sc (.slice none 0 0)))], [(.tc (.sc (.slice none 0 0)))]] [(.mk 0 1 (h0 g26)), (.mk 1 1 (h0 g27)), (.mk 2 1 (h0 g28)), (.mk 3 1 (h0 g29))] (G3 155 1 29)) (i0 s30),
  .p (.call 173 [(kc (.tc (.sc (.int .u8 6)))), (kc (.tc (.sc (.string ⟨#[120, 111, 114]⟩)))), (kc (.tc (.sc (.int .u8 1)))), (h0 g30)] (G3 155 1 30)) (i0 s31),
  .p (.call 175 [] (G3 155 1 31)) (i0 s32),
  .p (.call 176 [] (G3 155 1 32)) (i0 s33),
  .p (.call 178 [(kc (.tc (.sc (.int .i64 14)))), (kc (.tc (.sc (.int .i64 0))))] (G3 155 1 33)) (i0 s34),
  .p (.bs 1 3 [[(.tc (.sc (.slice none 0 0)))], [(.tc (.sc (.slice none 0 0)))], [(.tc (.sc (.slice none 0 0)))]] [(.mk 0 1 (h0 g32)), (.mk 1 1 (h0 g33)), (.mk 2 1 (h0 g34))] (G3 155 1 34)) (i0 s35),
  .p (.call 173 [(kc (.tc (.sc (.int .u8 7)))), (kc (.tc (.sc (.string ⟨#[97, 100, 100, 105]⟩)))), (kc (.tc (.sc (.int .u8 1)))), (h0 g35)] (G3 155 1 35)) (i0 s36),
  .p (.call 174 [] (G3 155 1 36)) (i0 s37),
  .p (.call 175 [] (G3 155 1 37)) (i0 s38),
  .p (.call 178 [(kc (.tc (.sc (.int .i64 14)))), (kc (.tc (.sc (.int .i64 0))))] (G3 155 1 38)) (i0 s39),
  .p (.bs 1 3 [[(.tc (.sc (.slice none 0 0)))], [(.tc (.sc (.slice none 0 0)))], [(.tc (.sc (.slice none 0 0)))]] [(.mk 0 1 (h0 g37)), (.mk 1 1 (h0 g38)), (.mk 2 1 (h0 g39))] (G3 155 1 39)) (i0 s40),
  .p (.call 173 [(kc (.tc (.sc (.int .u8 8)))), (kc (.tc (.sc (.string ⟨#[109, 111, 118, 105]⟩)))), (kc (.tc (.sc (.int .u8 1)))), (h0 g40)] (G3 155 1 40)) (i0 s41),
  .p (.call 174 [] (G3 155 1 41)) (i0 s42),
  .p (.call 175 [] (G3 155 1 42)) (i0 s43),
  .p (.call 176 [] (G3 155 1 43)) (i0 s44),
  .p (.bs 1 3 [[(.tc (.sc (.slice none 0 0)))], [(.tc (.sc (.slice none 0 0)))], [(.tc (.sc (.slice none 0 0)))]] [(.mk 0 1 (h0 g42)), (.mk 1 1 (h0 g43)), (.mk 2 1 (h0 g44))] (G3 155 1 44)) (i0 s45),
  .p (.call 173 [(kc (.tc (.sc (.int .u8 9)))), (kc (.tc (.sc (.string ⟨#[109, 111, 118]⟩)))), (kc (.tc (.sc (.int .u8 1)))), (h0 g45)] (G3 155 1 45)) (i0 s46),
  .p (.call 179 [] (G3 155 1 46)) (i0 s47),
  .p (.call 176 [] (G3 155 1 47)) (i0 s48),
  .p (.call 177 [] (G3 155 1 48)) (i0 s49),
  .p (.bs 1 3 [[(.tc (.sc (.slice none 0 0)))], [(.tc (.sc (.slice none 0 0)))], [(.tc (.sc (.slice none 0 0)))]] [(.mk 0 1 (h0 g47)), (.mk 1 1 (h0 g48)), (.mk 2 1 (h0 g49))] (G3 155 1 49)) (i0 s50),
  .p (.call 173 [(kc (.tc (.sc (.int .u8 10)))), (kc (.tc (.sc (.string ⟨#[99, 109, 112, 101, 113]⟩)))), (kc (.tc (.sc (.int .u8 1)))), (h0 g50)] (G3 155 1 50)) (i0 s51),
  .p (.call 179 [] (G3 155 1 51)) (i0 s52),
  .p (.call 176 [] (G3 155 1 52)) (i0 s53),
  .p (.call 177 [] (G3 155 1 53)) (i0 s54),
  .p (.bs 1 3 [[(.tc (.sc (.slice none 0 0)))], [(.tc (.sc (.slice none 0 0)))], [(.tc (.sc (.slice none 0 0)))]] [(.mk 0 1 (h0 g52)), (.mk 1 1 (h0 g53)), (.mk 2 1 (h0 g54))] (G3 155 1 54)) (i0 s55),
  .p (.call 173 [(kc (.tc (.sc (.int .u8 11)))), (kc (.tc (.sc (.string ⟨#[99, 109, 112, 103, 116]⟩)))), (kc (.tc (.sc (.int .u8 1)))), (h0 g55)] (G3 155 1 55)) (i0 s56),
  .p (.call 179 [] (G3 155 1 56)) (i0 s57),
  .p (.call 176 [] (G3 155 1 57)) (i0 s58),
  .p (.call 177 [] (G3 155 1 58)) (i0 s59),
  .p (.bs 1 3 [[(.tc (.sc (.slice none 0 0)))], [(.tc (.sc (.slice none 0 0)))], [(.tc (.sc (.slice none 0 0)))]] [(.mk 0 1 (h0 g57)), (.mk 1 1 (h0 g58)), (.mk 2 1 (h0 g59))] (G3 155 1 59)) (i0 s60),
  .p (.call 173 [(kc (.tc (.sc (.int .u8 12)))), (kc (.tc (.sc (.string ⟨#[99, 109, 112, 103, 116, 117]⟩)))), (kc (.tc (.sc (.int .u8 1)))), (h0 g60)] (G3 155 1 60)) (i0 s61),
  .p (.call 179 [] (G3 155 1 61)) (i0 s62),
  .p (.call 176 [] (G3 155 1 62)) (i0 s63),
  .p (.call 178 [(kc (.tc (.sc (.int .i64 14)))), (kc (.tc (.sc (.int .i64 0))))] (G3 155 1 63)) (i1 s0),
  .p (.bs 1 3 [[(.tc (.sc (.slice none 0 0)))], [(.tc (.sc (.slice none 0 0)))], [(.tc (.sc (.slice none 0 0)))]] [(.mk 0 1 (h0 g62)), (.mk 1 1 (h0 g63)), (.mk 2 1 (h1 g0))] (G3 155 1 64)) (i1 s1),
  .p (.call 173 [(kc (.tc (.sc (.int .u8 13)))), (kc (.tc (.sc (.string ⟨#[99, 109, 112, 101, 113, 105]⟩)))), (kc (.tc (.sc (.int .u8 1)))), (h1 g1)] (G3 155 1 65)) (i1 s2),
  .p (.call 175 [] (G3 155 1 66)) (i1 s3),
  .p (.call 180 [(kc (.tc (.sc (.int .u8 2)))), (kc (.tc (.sc (.int .i64 2))))] (G3 155 1 67)) (i1 s4),
  .p (.call 176 [] (G3 155 1 68)) (i1 s5),
  .p (.call 177 [] (G3 155 1 69)) (i1 s6),
  .p (.bs 1 4 [[(.tc (.sc (.slice none 0 0)))], [(.tc (.sc (.slice none 0 0)))], [(.tc (.sc (.slice none 0 0)))], [(.tc (.sc (.slice none 0 0)))]] [(.mk 0 1 (h1 g3)), (.mk 1 1 (h1 g4)), (.mk 2 1 (h1 g5)), (.mk 3 1 (h1 g6))] (G3 155 1 70)) (i1 s7),
  .p (.call 173 [(kc (.tc (.sc (.int .u8 14)))), (kc (.tc (.sc (.string ⟨#[109, 117, 120]⟩)))), (kc (.tc (.sc (.int .u8 1)))), (h1 g7)] (G3 155 1 71)) (i1 s8),
  .p (.call 175 [] (G3 155 1 72)) (i1 s9),
  .p (.call 176 [] (G3 155 1 73)) (i1 s10),
  .p (.call 180 [(kc (.tc (.sc (.int .u8 9)))), (kc (.tc (.sc (.int .i64 5))))] (G3 155 1 74)) (i1 s11),
  .p (.bs 1 3 [[(.tc (.sc (.slice none 0 0)))], [(.tc (.sc (.slice none 0 0)))], [(.tc (.sc (.slice none 0 0)))]] [(.mk 0 1 (h1 g9)), (.mk 1 1 (h1 g10)), (.mk 2 1 (h1 g11))] (G3 155 1 75)) (i1 s12),
  .p (.call 173 [(kc (.tc (.sc (.int .u8 15)))), (kc (.tc (.sc (.string ⟨#[97, 115, 108]⟩)))), (kc (.tc (.sc (.int .u8 2)))), (h1 g12)] (G3 155 1 76)) (i1 s13),
  .p (.call 175 [] (G3 155 1 77)) (i1 s14),
  .p (.call 176 [] (G3 155 1 78)) (i1 s15),
  .p (.call 180 [(kc (.tc (.sc (.int .u8 9)))), (kc (.tc (.sc (.int .i64 5))))] (G3 155 1 79)) (i1 s16),
  .p (.bs 1 3 [[(.tc (.sc (.slice none 0 0)))], [(.tc (.sc (.slice none 0 0)))], [(.tc (.sc (.slice none 0 0)))]] [(.mk 0 1 (h1 g14)), (.mk 1 1 (h1 g15)), (.mk 2 1 (h1 g16))] (G3 155 1 80)) (i1 s17),
  .p (.call 173 [(kc (.tc (.sc (.int .u8 16)))), (kc (.tc (.sc (.string ⟨#[108, 115, 114]⟩)))), (kc (.tc (.sc (.int .u8 2)))), (h1 g17)] (G3 155 1 81)) (i1 s18),
  .p (.call 175 [] (G3 155 1 82)) (i1 s19),
  .p (.call 176 [] (G3 155 1 83)) (i1 s20),
  .p (.call 180 [(kc (.tc (.sc (.int .u8 9)))), (kc (.tc (.sc (.int .i64 5))))] (G3 155 1 84)) (i1 s21),
  .p (.bs 1 3 [[(.tc (.sc (.slice none 0 0)))], [(.tc (.sc (.slice none 0 0)))], [(.tc (.sc (.slice none 0 0)))]] [(.mk 0 1 (h1 g19)), (.mk 1 1 (h1 g20)), (.mk 2 1 (h1 g21))] (G3 155 1 85)) (i1 s22),
  .p (.call 173 [(kc (.tc (.sc (.int .u8 17)))), (kc (.tc (.sc (.string ⟨#[97, 115, 114]⟩)))), (kc (.tc (.sc (.int .u8 2)))), (h1 g22)] (G3 155 1 86)) (i1 s23),
  .p (.call 175 [] (G3 155 1 87)) (i1 s24),
  .p (.call 176 [] (G3 155 1 88)) (i1 s25),
  .p (.call 177 [] (G3 155 1 89)) (i1 s26),
  .p (.bs 1 3 [[(.tc (.sc (.slice none 0 0)))], [(.tc (.sc (.slice none 0 0)))], [(.tc (.sc (.slice none 0 0)))]] [(.mk 0 1 (h1 g24)), (.mk 1 1 (h1 g25)), (.mk 2 1 (h1 g26))] (G3 155 1 90)) (i1 s27),
  .p (.call 173 [(kc (.tc (.sc (.int .u8 18)))), (kc (.tc (.sc (.string ⟨#[109, 112, 121]⟩)))), (kc (.tc (.sc (.int .u8 2)))), (h1 g27)] (G3 155 1 91)) (i1 s28),
  .p (.call 175 [] (G3 155 1 92)) (i1 s29),
  .p (.call 176 [] (G3 155 1 93)) (i1 s30),
  .p (.call 177 [] (G3 155 1 94)) (i1 s31),
  .p (.bs 1 3 [[(.tc (.sc (.slice none 0 0)))], [(.tc (.sc (.slice none 0 0)))], [(.tc (.sc (.slice none 0 0)))]] [(.mk 0 1 (h1 g29)), (.mk 1 1 (h1 g30)), (.mk 2 1 (h1 g31))] (G3 155 1 95)) (i1 s32),
  .p (.call 173 [(kc (.tc (.sc (.int .u8 19)))), (kc (.tc (.sc (.string ⟨#[99, 109, 112, 121]⟩)))), (kc (.tc (.sc (.int .u8 2)))), (h1 g32)] (G3 155 1 96)) (i1 s33),
  .p (.call 175 [] (G3 155 1 97)) (i1 s34),
  .p (.call 176 [] (G3 155 1 98)) (i1 s35),
  .p (.call 177 [] (G3 155 1 99)) (i1 s36),
  .p (.bs 1 3 [[(.tc (.sc (.slice none 0 0)))], [(.tc (.sc (.slice none 0 0)))], [(.tc (.sc (.slice none 0 0)))]] [(.mk 0 1 (h1 g34)), (.mk 1 1 (h1 g35)), (.mk 2 1 (h1 g36))] (G3 155 1 100)) (i1 s37),
  .p (.call 173 [(kc (.tc (.sc (.int .u8 20)))), (kc (.tc (.sc (.string ⟨#[99, 109, 112, 121, 99]⟩)))), (kc (.tc (.sc (.int .u8 2)))), (h1 g37)] (G3 155 1 101)) (i1 s38),
  .p (.call 175 [] (G3 155 1 102)) (i1 s39),
  .p (.call 176 [] (G3 155 1 103)) (i1 s40),
  .p (.call 178 [(kc (.tc (.sc (.int .i64 12)))), (kc (.tc (.sc (.int .i64 2))))] (G3 155 1 104)) (i1 s41),
  .p (.bs 1 3 [[(.tc (.sc (.slice none 0 0)))], [(.tc (.sc (.slice none 0 0)))], [(.tc (.sc (.slice none 0 0)))]] [(.mk 0 1 (h1 g39)), (.mk 1 1 (h1 g40)), (.mk 2 1 (h1 g41))] (G3 155 1 105)) (i1 s42),
  .p (.call 173 [(kc (.tc (.sc (.int .u8 21)))), (kc (.tc (.sc (.string ⟨#[108, 100, 119]⟩)))), (kc (.tc (.sc (.int .u8 3)))), (h1 g42)] (G3 155 1 106)) (i1 s43),
  .p (.call 175 [] (G3 155 1 107)) (i1 s44),
  .p (.call 176 [] (G3 155 1 108)) (i1 s45),
  .p (.call 178 [(kc (.tc (.sc (.int .i64 12)))), (kc (.tc (.sc (.int .i64 1))))] (G3 155 1 109)) (i1 s46),
  .p (.bs 1 3 [[(.tc (.sc (.slice none 0 0)))], [(.tc (.sc (.slice none 0 0)))], [(.tc (.sc (.slice none 0 0)))]] [(.mk 0 1 (h1 g44)), (.mk 1 1 (h1 g45)), (.mk 2 1 (h1 g46))] (G3 155 1 110)) (i1 s47),
  .p (.call 173 [(kc (.tc (.sc (.int .u8 22)))), (kc (.tc (.sc (.string ⟨#[108, 100, 104]⟩)))), (kc (.tc (.sc (.int .u8 3)))), (h1 g47)] (G3 155 1 111)) (i1 s48),
  .p (.call 175 [] (G3 155 1 112)) (i1 s49),
  .p (.call 176 [] (G3 155 1 113)) (i1 s50),
  .p (.call 178 [(kc (.tc (.sc (.int .i64 12)))), (kc (.tc (.sc (.int .i64 0))))] (G3 155 1 114)) (i1 s51),
  .p (.bs 1 3 [[(.tc (.sc (.slice none 0 0)))], [(.tc (.sc (.slice none 0 0)))], [(.tc (.sc (.slice none 0 0)))]] [(.mk 0 1 (h1 g49)), (.mk 1 1 (h1 g50)), (.mk 2 1 (h1 g51))] (G3 155 1 115)) (i1 s52),
  .p (.call 173 [(kc (.tc (.sc (.int .u8 23)))), (kc (.tc (.sc (.string ⟨#[108, 100, 98]⟩)))), (kc (.tc (.sc (.int .u8 3)))), (h1 g52)] (G3 155 1 116)) (i1 s53),
  .p (.call 176 [] (G3 155 1 117)) (i1 s54),
  .p (.call 180 [(kc (.tc (.sc (.int .u8 8)))), (kc (.tc (.sc (.int .i64 1))))] (G3 155 1 118)) (i1 s55),
  .p (.call 177 [] (G3 155 1 119)) (i1 s56),
  .p (.call 178 [(kc (.tc (.sc (.int .i64 12)))), (kc (.tc (.sc (.int .i64 2))))] (G3 155 1 120)) (i1 s57),
  .p (.bs 1 4 [[(.tc (.sc (.slice none 0 0)))], [(.tc (.sc (.slice none 0 0)))], [(.tc (.sc (.slice none 0 0)))], [(.tc (.sc (.slice none 0 0)))]] [(.mk 0 1 (h1 g54)), (.mk 1 1 (h1 g55)), (.mk 2 1 (h1 g56)), (.mk 3 1 (h1 g57))] (G3 155 1 121)) (i1 s58),
  .p (.call 173 [(kc (.tc (.sc (.int .u8 24)))), (kc (.tc (.sc (.string ⟨#[115, 116, 119]⟩)))), (kc (.tc (.sc (.int .u8 4)))), (h1 g58)] (G3 155 1 122)) (i1 s59),
  .p (.call 176 [] (G3 155 1 123)) (i1 s60),
  .p (.call 180 [(kc (.tc (.sc (.int .u8 8)))), (kc (.tc (.sc (.int .i64 1))))] (G3 155 1 124)) (i1 s61),
  .p (.call 177 [] (G3 155 1 125)) (i1 s62),
  .p (.call 178 [(kc (.tc (.sc (.int .i64 12)))), (kc (.tc (.sc (.int .i64 1))))] (G3 155 1 126)) (i1 s63),
  .p (.bs 1 4 [[(.tc (.sc (.slice none 0 0)))], [(.tc (.sc (.slice none 0 0)))], [(.tc (.sc (.slice none 0 0)))], [(.tc (.sc (.slice none 0 0)))]] [(.mk 0 1 (h1 g60)), (.mk 1 1 (h1 g61)), (.mk 2 1 (h1 g62)), (.mk 3 1 (h1 g63))] (G3 155 1 127)) (i2 s0),
  .p (.call 173 [(kc (.tc (.sc (.int .u8 25)))), (kc (.tc (.sc (.string ⟨#[115, 116, 104]⟩)))), (kc (.tc (.sc (.int .u8 4)))), (h2 g0)] (G3 155 1 128)) (i2 s1),
  .p (.call 176 [] (G3 155 1 129)) (i2 s2),
  .p (.call 180 [(kc (.tc (.sc (.int .u8 8)))), (kc (.tc (.sc (.int .i64 1))))] (G3 155 1 130)) (i2 s3),
  .p (.call 177 [] (G3 155 1 131)) (i2 s4),
  .p (.call 178 [(kc (.tc (.sc (.int .i64 12)))), (kc (.tc (.sc (.int .i64 0))))] (G3 155 1 132)) (i2 s5),
  .p (.bs 1 4 [[(.tc (.sc (.slice none 0 0)))], [(.tc (.sc (.slice none 0 0)))], [(.tc (.sc (.slice none 0 0)))], [(.tc (.sc (.slice none 0 0)))]] [(.mk 0 1 (h2 g2)), (.mk 1 1 (h2 g3)), (.mk 2 1 (h2 g4)), (.mk 3 1 (h2 g5))] (G3 155 1 133)) (i2 s6),
  .p (.call 173 [(kc (.tc (.sc (.int .u8 26)))), (kc (.tc (.sc (.string ⟨#[115, 116, 98]⟩)))), (kc (.tc (.sc (.int .u8 4)))), (h2 g6)] (G3 155 1 134)) (i2 s7),
  .p (.call 174 [] (G3 155 1 135)) (i2 s8),
  .p (.call 181 [(kc (.tc (.sc (.int .i64 19))))] (G3 155 1 136)) (i2 s9),
  .p (.bs 1 2 [[(.tc (.sc (.slice none 0 0)))], [(.tc (.sc (.slice none 0 0)))]] [(.mk 0 1 (h2 g8)), (.mk 1 1 (h2 g9))] (G3 155 1 137)) (i2 s10),
  .p (.call 173 [(kc (.tc (.sc (.int .u8 27)))), (kc (.tc (.sc (.string ⟨#[106, 117, 109, 112]⟩)))), (kc (.tc (.sc (.int .u8 5)))), (h2 g10)] (G3 155 1 138)) (i2 s11),
  .p (.call 174 [] (G3 155 1 139)) (i2 s12),
  .p (.call 176 [] (G3 155 1 140)) (i2 s13),
  .p (.bs 1 2 [[(.tc (.sc (.slice none 0 0)))], [(.tc (.sc (.slice none 0 0)))]] [(.mk 0 1 (h2 g12)), (.mk 1 1 (h2 g13))] (G3 155 1 141)) (i2 s14),
  .p (.call 173 [(kc (.tc (.sc (.int .u8 28)))), (kc (.tc (.sc (.string ⟨#[106, 117, 109, 112, 114]⟩)))), (kc (.tc (.sc (.int .u8 5)))), (h2 g14)] (G3 155 1 142)) (i2 s15),
  .p (.call 181 [(kc (.tc (.sc (.int .i64 24))))] (G3 155 1 143)) (i2 s16),
  .p (.bs 1 1 [[(.tc (.sc (.slice none 0 0)))]] [(.mk 0 1 (h2 g16))] (G3 155 1 144)) (i2 s17),
  .p (.call 173 [(kc (.tc (.sc (.int .u8 29)))), (kc (.tc (.sc (.string ⟨#[99, 97, 108, 108]⟩)))), (kc (.tc (.sc (.int .u8 5)))), (h2 g17)] (G3 155 1 145)) (i2 s18),
  .p (.call 180 [(kc (.tc (.sc (.int .u8 7)))), (kc (.tc (.sc (.int .i64 1))))] (G3 155 1 146)) (i2 s19),
  .p (.call 181 [(kc (.tc (.sc (.int .i64 12))))] (G3 155 1 147)) (i2 s20),
  .p (.call 180 [(kc (.tc (.sc (.int .u8 11)))), (kc (.tc (.sc (.int .i64 11))))] (G3 155 1 148)) (i2 s21),
  .p (.bs 1 3 [[(.tc (.sc (.slice none 0 0)))], [(.tc (.sc (.slice none 0 0)))], [(.tc (.sc (.slice none 0 0)))]] [(.mk 0 1 (h2 g19)), (.mk 1 1 (h2 g20)), (.mk 2 1 (h2 g21))] (G3 155 1 149)) (i2 s22),
  .p (.call 173 [(kc (.tc (.sc (.int .u8 30)))), (kc (.tc (.sc (.string ⟨#[108, 111, 111, 112, 105]⟩)))), (kc (.tc (.sc (.int .u8 6)))), (h2 g22)] (G3 155 1 150)) (i2 s23),
  .p (.call 180 [(kc (.tc (.sc (.int .u8 7)))), (kc (.tc (.sc (.int .i64 1))))] (G3 155 1 151)) (i2 s24),
  .p (.call 181 [(kc (.tc (.sc (.int .i64 12))))] (G3 155 1 152)) (i2 s25),
  .p (.call 176 [] (G3 155 1 153)) (i2 s26),
  .p (.bs 1 3 [[(.tc (.sc (.slice none 0 0)))], [(.tc (.sc (.slice none 0 0)))], [(.tc (.sc (.slice none 0 0)))]] [(.mk 0 1 (h2 g24)), (.mk 1 1 (h2 g25)), (.mk 2 1 (h2 g26))] (G3 155 1 154)) (i2 s27),
  .p (.call 173 [(kc (.tc (.sc (.int .u8 31)))), (kc (.tc (.sc (.string ⟨#[108, 111, 111, 112, 114]⟩)))), (kc (.tc (.sc (.int .u8 6)))), (h2 g27)] (G3 155 1 155)) (i2 s28),
  .p (.bs 5 31 [[(.tc (.sc (.int .u8 0))), (.tc (.sc (.string ⟨#[]⟩))), (.tc (.sc (.int .u8 0))), (.tc (.sc (.int .u8 0))), (.tc (.sc (.slice none 0 0)))], [(.tc (.sc (.int .u8 0))), (.tc (.sc (.string ⟨#[]⟩))), (.tc (.sc (.int .u8 0))), (.tc (.sc (.int .u8 0))), (.tc (.sc (.slice none 0 0)))], [(.tc (.sc (.int .u8 0))), (.tc (.sc (.string ⟨#[]⟩))), (.tc (.sc (.int .u8 0))), (.tc (.sc (.int .u8 0))), (.tc (.sc (.slice none 0 0)))], [(.tc (.sc (.int .u8 0))), (.tc (.sc (.string ⟨#[]⟩))), (.tc (.sc (.int .u8 0))), (.tc (.sc (.int .u8 0))), (.tc (.sc (.slice none 0 0)))], [(.tc (.sc (.int .u8 0))), (.tc (.sc (.string ⟨#[]⟩))), (.tc (.sc (.int .u8 0))), (.tc (.sc (.int .u8 0))), (.tc (.sc (.slice none 0 0)))], [(.tc (.sc (.int .u8 0))), (.tc (.sc (.string ⟨#[]⟩))), (.tc (.sc (.int .u8 0))), (.tc (.sc (.int .u8 0))), (.tc (.sc (.slice none 0 0)))], [(.tc (.sc (.int .u8 0))), (.tc (.sc (.string ⟨#[]⟩))), (.tc (.sc (.int .u8 0))), (.tc (.sc (.int .u8 0))), (.tc (.sc (.slice none 0 0)))], [(.tc (.sc (.int .u8 0))), (.tc (.sc (.string ⟨#[]⟩))), (.tc (.sc (.int .u8 0))), (.tc (.sc (.int .u8 0))), (.tc (.sc (.slice none 0 0)))], [(.tc (.sc (.int .u8 0))), (.tc (.sc (.string ⟨#[]⟩))), (.tc (.sc (.int .u8 0))), (.tc (.sc (.int .u8 0))), (.tc (.sc (.slice none 0 0)))], [(.tc (.sc (.int .u8 0))), (.tc (.sc (.string ⟨#[]⟩))), (.tc (.sc (.int .u8 0))), (.tc (.sc (.int .u8 0))), (.tc (.sc (.slice none 0 0)))], [(.tc (.sc (.int .u8 0))), (.tc (.sc (.string ⟨#[]⟩))), (.tc (.sc (.int .u8 0))), (.tc (.sc (.int .u8 0))), (.tc (.sc (.slice none 0 0)))], [(.tc (.sc (.int .u8 0))), (.tc (.sc (.string ⟨#[]⟩))), (.tc (.sc (.int .u8 0))), (.tc (.sc (.int .u8 0))), (.tc (.sc (.slice none 0 0)))], [(.tc (.sc (.int .u8 0))), (.tc (.sc (.string ⟨#[]⟩))), (.tc (.sc (.int .u8 0))), (.tc (.sc (.int .u8 0))), (.tc (.sc (.slice none 0 0)))], [(.tc (.sc (.int .u8 0))), (.tc (.sc (.string ⟨#[]⟩))), (.tc (.sc (.int .u8 0))), (.tc (.sc (.int .u8 0))), (.tc (.sc (.slice none 0 0)))], [(.tc (.sc (.int .u8 0))), (.tc (.sc (.string ⟨#[]⟩))), (.tc (.sc (.int .u8 0))), (.tc (.sc (.int .u8 0))), (.tc (.sc (.slice none 0 0)))], [(.tc (.sc (.int .u8 0))), (.tc (.sc (.string ⟨#[]⟩))), (.tc (.sc (.int .u8 0))), (.tc (.sc (.int .u8 0))), (.tc (.sc (.slice none 0 0)))], [(.tc (.sc (.int .u8 0))), (.tc (.sc (.string ⟨#[]⟩))), (.tc (.sc (.int .u8 0))), (.tc (.sc (.int .u8 0))), (.tc (.sc (.slice none 0 0)))], [(.tc (.sc (.int .u8 0))), (.tc (.sc (.string ⟨#[]⟩))), (.tc (.sc (.int .u8 0))), (.tc (.sc (.int .u8 0))), (.tc (.sc (.slice none 0 0)))], [(.tc (.sc (.int .u8 0))), (.tc (.sc (.string ⟨#[]⟩))), (.tc (.sc (.int .u8 0))), (.tc (.sc (.int .u8 0))), (.tc (.sc (.slice none 0 0)))], [(.tc (.sc (.int .u8 0))), (.tc (.sc (.string ⟨#[]⟩))), (.tc (.sc (.int .u8 0))), (.tc (.sc (.int .u8 0))), (.tc (.sc (.slice none 0 0)))], [(.tc (.sc (.int .u8 0))), (.tc (.sc (.string ⟨#[]⟩))), (.tc (.sc (.int .u8 0))), (.tc (.sc (.int .u8 0))), (.tc (.sc (.slice none 0 0)))], [(.tc (.sc (.int .u8 0))), (.tc (.sc (.string ⟨#[]⟩))), (.tc (.sc (.int .u8 0))), (.tc (.sc (.int .u8 0))), (.tc (.sc (.slice none 0 0)))], [(.tc (.sc (.int .u8 0))), (.tc (.sc (.string ⟨#[]⟩))), (.tc (.sc (.int .u8 0))), (.tc (.sc (.int .u8 0))), (.tc (.sc (.slice none 0 0)))], [(.tc (.sc (.int .u8 0))), (.tc (.sc (.string ⟨#[]⟩))), (.tc (.sc (.int .u8 0))), (.tc (.sc (.int .u8 0))), (.tc (.sc (.slice none 0 0)))], [(.tc (.sc (.int .u8 0))), (.tc (.sc (.string ⟨#[]⟩))), (.tc (.sc (.int .u8 0))), (.tc (.sc (.int .u8 0))), (.tc (.sc (.slice none 0 0)))], [(.tc (.sc (.int .u8 0))), (.tc (.sc (.string ⟨#[]⟩))), (.tc (.sc (.int .u8 0))), (.tc (.sc (.int .u8 0))), (.tc (.sc (.slice none 0 0)))], [(.tc (.sc (.int .u8 0))), (.tc (.sc (.string ⟨#[]⟩))), (.tc (.sc (.int .u8 0))), (.tc (.sc (.int .u8 0))), (.tc (.sc (.slice none 0 0)))], [(.tc (.sc (.int .u8 0))), (.tc (.sc (.string ⟨#[]⟩))), (.tc (.sc (.int .u8 0))), (.tc (.sc (.int .u8 0))), (.tc (.sc (.slice none 0 0)))], [(.tc (.sc (.int .u8 0))), (.tc (.sc (.string ⟨#[]⟩))), (.tc (.sc (.int .u8 0))), (.tc (.sc (.int .u8 0))), (.tc (.sc (.slice none 0 0)))], [(.tc (.sc (.int .u8 0))), (.tc (.sc (.string ⟨#[]⟩))), (.tc (.sc (.int .u8 0))), (.tc (.sc (.int .u8 0))), (.tc (.sc (.slice none 0 0)))], [(.tc (.sc (.int .u8 0))), (.tc (.sc (.string ⟨#[]⟩))), (.tc (.sc (.int .u8 0))), (.tc (.sc (.int .u8 0))), (.tc (.sc (.slice none 0 0)))]] [(.mk 0 5 (h0 g1)), (.mk 1 5 (h0 g7)), (.mk 2 5 (h0 g13)), (.mk 3 5 (h0 g19)), (.mk 4 5 (h0 g25)), (.mk 5 5 (h0 g31)), (.mk 6 5 (h0 g36)), (.mk 7 5 (h0 g41)), (.mk 8 5 (h0 g46)), (.mk 9 5 (h0 g51)), (.mk 10 5 (h0 g56)), (.mk 11 5 (h0 g61)), (.mk 12 5 (h1 g2)), (.mk 13 5 (h1 g8)), (.mk 14 5 (h1 g13)), (.mk 15 5 (h1 g18)), (.mk 16 5 (h1 g23)), (.mk 17 5 (h1 g28)), (.mk 18 5 (h1 g33)), (.mk 19 5 (h1 g38)), (.mk 20 5 (h1 g43)), (.mk 21 5 (h1 g48)), (.mk 22 5 (h1 g53)), (.mk 23 5 (h1 g59)), (.mk 24 5 (h2 g1)), (.mk 25 5 (h2 g7)), (.mk 26 5 (h2 g11)), (.mk 27 5 (h2 g15)), (.mk 28 5 (h2 g18)), (.mk 29 5 (h2 g23)), (.mk 30 5 (h2 g28))] (G3 155 1 156)) (i2 s29),
  .p (.mv (h2 g29)) (i0 s0)])
 .ret)),
 [.tmp (h0 g0)]⟩
theorem ff155_ok : compF SBUnpackKnown 155 = ff155 := by kernel_rfl
noncomputable def ff173 : FF := .t2 ⟨17,
 (.seq (.reg [.p (.al 5 [(.sc (.int .u8 0)), (.sc (.string ⟨#[]⟩)), (.sc (.int .u8 0)), (.sc (.int .u8 0)), (.sc (.slice none 0 0))]) s8])
 (.seq (.reg [.p (.mv g0) s9,
  .p (.mv g1) s10,
  .p (.mv g2) s11,
  .p (.mv g2) s12,
  .p (.call 150 [g12] (G2 173 1 4)) s13,
  .p (.mv g3) s14,
  .p (.call 192 [g14] (G2 173 1 6)) s15,
  .p (.bd [(.tc (.sc (.int .u8 0))), (.tc (.sc (.string ⟨#[]⟩))), (.tc (.sc (.int .u8 0))), (.tc (.sc (.int .u8 0))), (.tc (.sc (.slice none 0 0)))] [(.mk 0 1 g9), (.mk 1 1 g10), (.mk 2 1 g11), (.mk 3 1 g13), (.mk 4 1 g15)] (G2 173 1 7)) s16,
  .n (.st 5 g8 g16 (G2 173 1 8))])
 .ret)),
 [.cell g8 true 5]⟩
theorem ff173_ok : compF SBUnpackKnown 173 = ff173 := by kernel_rfl
noncomputable def ff150 : FF := .t2 ⟨15,
 (.seq (.reg [.p (.mv (kc (.tc (.sc (.int .u8 0))))) s2])
 (.seq (.seq (.reg [.p (.mv g0) s3])
 (.block 0 (.seq (.reg [.p (.bin .eql g3 (kc (.tc (.sc (.int .u8 1)))) (G2 150 2 0)) s5,
  .p (.mv g5) s4])
 (.cond g4 (.seq (.reg [.p (.mv (kc (.tc (.sc (.int .u8 15))))) s2])
 .ret)
 (.seq (.seq (.reg [.p (.bin .eql g3 (kc (.tc (.sc (.int .u8 2)))) (G2 150 4 0)) s7,
  .p (.mv g7) s6])
 (.cond g6 .skip
 (.reg [.p (.bin .eql g3 (kc (.tc (.sc (.int .u8 5)))) (G2 150 5 0)) s8,
  .p (.mv g8) s6])))
 (.cond g6 (.seq (.reg [.p (.mv (kc (.tc (.sc (.int .u8 12))))) s2])
 .ret)
 (.seq (.reg [.p (.bin .eql g3 (kc (.tc (.sc (.int .u8 3)))) (G2 150 7 0)) s10,
  .p (.mv g10) s9])
 (.cond g9 (.seq (.reg [.p (.mv (kc (.tc (.sc (.int .u8 3))))) s2])
 .ret)
 (.seq (.reg [.p (.bin .eql g3 (kc (.tc (.sc (.int .u8 4)))) (G2 150 9 0)) s12,
  .p (.mv g12) s11])
 (.cond g11 (.seq (.reg [.p (.mv (kc (.tc (.sc (.int .u8 1))))) s2])
 .ret)
 (.seq (.reg [.p (.bin .eql g3 (kc (.tc (.sc (.int .u8 6)))) (G2 150 11 0)) s14,
  .p (.mv g14) s13])
 (.cond g13 (.seq (.reg [.p (.mv (kc (.tc (.sc (.int .u8 8))))) s2])
 .ret)
 .skip))))))))))))
 (.seq (.reg [.p (.mv (kc (.tc (.sc (.int .u8 0))))) s2])
 .ret))),
 [.tmp g2]⟩
theorem ff150_ok : compF SBUnpackKnown 150 = ff150 := by kernel_rfl
noncomputable def ff192 : FF := .t2 ⟨36,
 (.seq (.reg [.p (.mv (kc (.tc (.sc (.slice none 0 0))))) s2])
 (.seq (.reg [.p (.mv (kc (.tc (.sc (.int .i64 0))))) s3])
 (.seq (.seq (.reg [.p (.mv g0) s9,
  .p (.len g9 (G2 192 2 1)) s10,
  .p (.mv (kc (.tc (.sc (.int .i64 0))))) s11])
 (.block 0 (.loop 4294967296 (.seq (.reg [.p (.bin .lss g11 g10 (G2 192 3 0)) s12])
 (.seq (.cond g12 .skip
 (.exit 0))
 (.seq (.block 1 (.seq (.reg [.p (.ia 1 g9 g11 (G2 192 4 0)) s13,
  .p (.ld false 1 g13) s14,
  .p (.mv g14) s5])
 (.seq (.reg [.p (.mv g3) s15,
  .p (.mv g5) s16,
  .p (.len g16 (G2 192 5 2)) s17,
  .p (.bin .add g15 g17 (G2 192 5 3)) s18,
  .p (.mv g18) s3])
 (.seq (.reg [.p (.mv g3) s19,
  .p (.bin .lss g19 (kc (.tc (.sc (.int .i64 0)))) (G2 192 6 1)) s20])
 (.cond g20 (.reg [.p (.gen (G2 192 7 0)) s21,
  .n (.gen (G2 192 7 1))])
 .skip)))))
 (.reg [.p (.bin .add g11 (kc (.tc (.sc (.int .i64 1)))) (G2 192 8 0)) s22,
  .p (.mv g22) s11])))))))
 (.seq (.reg [.p (.mv g3) s23,
  .p (.call 195 [(kc (.tc (.sc (.slice none 0 0)))), g23] (G2 192 9 1)) s24,
  .p (.mv g24) s6])
 (.seq (.seq (.reg [.p (.mv g0) s25,
  .p (.len g25 (G2 192 10 1)) s26,
  .p (.mv (kc (.tc (.sc (.int .i64 0))))) s27])
 (.block 2 (.loop 4294967296 (.seq (.reg [.p (.bin .lss g27 g26 (G2 192 11 0)) s28])
 (.seq (.cond g28 .skip
 (.exit 2))
 (.seq (.block 3 (.seq (.reg [.p (.ia 1 g25 g27 (G2 192 12 0)) s29,
  .p (.ld false 1 g29) s30,
  .p (.mv g30) s8])
 (.reg [.p (.mv g6) s31,
  .p (.mv g8) s32,
  .p (.ap 5 32 g31 g32) s33,
  .p (.mv g33) s6])))
 (.reg [.p (.bin .add g27 (kc (.tc (.sc (.int .i64 1)))) (G2 192 14 0)) s34,
  .p (.mv g34) s27])))))))
 (.seq (.reg [.p (.mv g6) s35,
  .p (.mv g35) s2])
 .ret)))))),
 [.tmp g2]⟩
theorem ff192_ok : compF SBUnpackKnown 192 = ff192 := by kernel_rfl
noncomputable def ff195 : FF := .t2 ⟨27,
 (.seq (.reg [.p (.mv (kc (.tc (.sc (.slice none 0 0))))) s4])
 (.seq (.seq (.reg [.p (.mv g1) s5,
  .p (.bin .lss g5 (kc (.tc (.sc (.int .i64 0)))) (G2 195 1 1)) s6])
 (.cond g6 (.reg [.p (.gen (G2 195 2 0)) s7,
  .n (.gen (G2 195 2 1))])
 .skip))
 (.seq (.seq (.reg [.p (.mv g1) s8,
  .p (.mv g0) s9,
  .p (.gen (G2 195 3 2)) s10,
  .p (.mv g0) s11,
  .p (.len g11 (G2 195 3 4)) s12,
  .p (.bin .sub g10 g12 (G2 195 3 5)) s13,
  .p (.bin .sub g8 g13 (G2 195 3 6)) s14,
  .p (.mv g14) s1])
 (.seq (.reg [.p (.mv g1) s15,
  .p (.bin .gtr g15 (kc (.tc (.sc (.int .i64 0)))) (G2 195 4 1)) s16])
 (.cond g16 (.reg [.p (.mv g0) s17,
  .p (.mv g0) s18,
  .p (.gen (G2 195 5 2)) s19,
  .p (.sl 5 g17 none (some g19) none (G2 195 5 3)) s20,
  .p (.mv g1) s21,
  .p (.gen (G2 195 5 5)) s22,
  .p (.mv g0) s23,
  .p (.len g23 (G2 195 5 7)) s24,
  .p (.sl 5 g22 none (some g24) none (G2 195 5 8)) s25,
  .p (.mv g25) s0])
 .skip)))
 (.seq (.reg [.p (.mv g0) s26,
  .p (.mv g26) s4])
 .ret)))),
 [.tmp g4]⟩
theorem ff195_ok : compF SBUnpackKnown 195 = ff195 := by kernel_rfl
noncomputable def ff174 : FF := .t2 ⟨4,
 (.seq (.reg [.p (.mv (kc (.tc (.sc (.slice none 0 0))))) s0])
 (.seq (.reg [.p (.call 180 [(kc (.tc (.sc (.int .u8 1)))), (kc (.tc (.sc (.int .i64 3))))] (G2 174 1 0)) s1,
  .p (.call 180 [(kc (.tc (.sc (.int .u8 2)))), (kc (.tc (.sc (.int .i64 2))))] (G2 174 1 1)) s2,
  .p (.ap 5 32 g1 g2) s3,
  .p (.mv g3) s0])
 .ret)),
 [.tmp g0]⟩
theorem ff174_ok : compF SBUnpackKnown 174 = ff174 := by kernel_rfl
noncomputable def ff180 : FF := .t2 ⟨9,
 (.seq (.reg [.p (.mv (kc (.tc (.sc (.slice none 0 0))))) s4])
 (.seq (.reg [.p (.mv g0) s5,
  .p (.mv g1) s6,
  .p (.bd [(.tc (.sc (.int .u8 0))), (.tc (.sc (.int .i64 0))), (.tc (.sc (.int .i64 0))), (.tc (.sc (.bool false))), (.tc (.sc (.bool false)))] [(.mk 0 1 g5), (.mk 1 1 g6)] (G2 180 1 2)) s7,
  .p (.bs 5 1 [[(.tc (.sc (.int .u8 0))), (.tc (.sc (.int .i64 0))), (.tc (.sc (.int .i64 0))), (.tc (.sc (.bool false))), (.tc (.sc (.bool false)))]] [(.mk 0 5 g7)] (G2 180 1 3)) s8,
  .p (.mv g8) s4])
 .ret)),
 [.tmp g4]⟩
theorem ff180_ok : compF SBUnpackKnown 180 = ff180 := by kernel_rfl
noncomputable def ff175 : FF := .t2 ⟨2,
 (.seq (.reg [.p (.mv (kc (.tc (.sc (.slice none 0 0))))) s0])
 (.seq (.reg [.p (.call 180 [(kc (.tc (.sc (.int .u8 3)))), (kc (.tc (.sc (.int .i64 5))))] (G2 175 1 0)) s1,
  .p (.mv g1) s0])
 .ret)),
 [.tmp g0]⟩
theorem ff175_ok : compF SBUnpackKnown 175 = ff175 := by kernel_rfl
noncomputable def ff176 : FF := .t2 ⟨2,
 (.seq (.reg [.p (.mv (kc (.tc (.sc (.slice none 0 0))))) s0])
 (.seq (.reg [.p (.call 180 [(kc (.tc (.sc (.int .u8 5)))), (kc (.tc (.sc (.int .i64 5))))] (G2 176 1 0)) s1,
  .p (.mv g1) s0])
 .ret)),
 [.tmp g0]⟩
theorem ff176_ok : compF SBUnpackKnown 176 = ff176 := by kernel_rfl
noncomputable def ff177 : FF := .t2 ⟨2,
 (.seq (.reg [.p (.mv (kc (.tc (.sc (.slice none 0 0))))) s0])
 (.seq (.reg [.p (.call 180 [(kc (.tc (.sc (.int .u8 6)))), (kc (.tc (.sc (.int .i64 5))))] (G2 177 1 0)) s1,
  .p (.mv g1) s0])
 .ret)),
 [.tmp g0]⟩
theorem ff177_ok : compF SBUnpackKnown 177 = ff177 := by kernel_rfl
noncomputable def ff178 : FF := .t2 ⟨9,
 (.seq (.reg [.p (.mv (kc (.tc (.sc (.slice none 0 0))))) s4])
 (.seq (.reg [.p (.mv g0) s5,
  .p (.mv g1) s6,
  .p (.bd [(.tc (.sc (.int .u8 0))), (.tc (.sc (.int .i64 0))), (.tc (.sc (.int .i64 0))), (.tc (.sc (.bool false))), (.tc (.sc (.bool false)))] [(.mk 0 1 (kc (.tc (.sc (.int .u8 9))))), (.mk 1 1 g5), (.mk 2 1 g6), (.mk 3 1 (kc (.tc (.sc (.bool true))))), (.mk 4 1 (kc (.tc (.sc (.bool true)))))] (G2 178 1 2)) s7,
  .p (.bs 5 1 [[(.tc (.sc (.int .u8 0))), (.tc (.sc (.int .i64 0))), (.tc (.sc (.int .i64 0))), (.tc (.sc (.bool false))), (.tc (.sc (.bool false)))]] [(.mk 0 5 g7)] (G2 178 1 3)) s8,
  .p (.mv g8) s4])
 .ret)),
 [.tmp g4]⟩
theorem ff178_ok : compF SBUnpackKnown 178 = ff178 := by kernel_rfl
noncomputable def ff179 : FF := .t2 ⟨2,
 (.seq (.reg [.p (.mv (kc (.tc (.sc (.slice none 0 0))))) s0])
 (.seq (.reg [.p (.call 180 [(kc (.tc (.sc (.int .u8 4)))), (kc (.tc (.sc (.int .i64 2))))] (G2 179 1 0)) s1,
  .p (.mv g1) s0])
 .ret)),
 [.tmp g0]⟩
theorem ff179_ok : compF SBUnpackKnown 179 = ff179 := by kernel_rfl
noncomputable def ff181 : FF := .t2 ⟨6,
 (.seq (.reg [.p (.mv (kc (.tc (.sc (.slice none 0 0))))) s2])
 (.seq (.reg [.p (.mv g0) s3,
  .p (.bd [(.tc (.sc (.int .u8 0))), (.tc (.sc (.int .i64 0))), (.tc (.sc (.int .i64 0))), (.tc (.sc (.bool false))), (.tc (.sc (.bool false)))] [(.mk 0 1 (kc (.tc (.sc (.int .u8 10))))), (.mk 1 1 g3), (.mk 2 1 (kc (.tc (.sc (.int .i64 2))))), (.mk 3 1 (kc (.tc (.sc (.bool true))))), (.mk 4 1 (kc (.tc (.sc (.bool true)))))] (G2 181 1 1)) s4,
  .p (.bs 5 1 [[(.tc (.sc (.int .u8 0))), (.tc (.sc (.int .i64 0))), (.tc (.sc (.int .i64 0))), (.tc (.sc (.bool false))), (.tc (.sc (.bool false)))]] [(.mk 0 5 g4)] (G2 181 1 2)) s5,
  .p (.mv g5) s2])
 .ret)),
 [.tmp g2]⟩
theorem ff181_ok : compF SBUnpackKnown 181 = ff181 := by kernel_rfl
noncomputable def ff116 : FF := .t2 ⟨8,
 (.seq (.reg [.p (.mv (kc (.tc (.sc (.slice none 0 0))))) s2])
 (.seq (.seq (.reg [.p (.mv g0) s3,
  .p (.bin .eql g3 (kc (.tc (.sc (.slice none 0 0)))) (G2 116 1 1)) s4])
 (.cond g4 (.seq (.reg [.p (.mv (kc (.tc (.sc (.slice none 0 0))))) s2])
 .ret)
 .skip))
 (.seq (.reg [.p (.bs 5 0 [] [] (G2 116 3 0)) s5,
  .p (.mv g0) s6,
  .p (.ap 5 32 g5 g6) s7,
  .p (.mv g7) s2])
 .ret))),
 [.tmp g2]⟩
theorem ff116_ok : compF SBUnpackKnown 116 = ff116 := by kernel_rfl
noncomputable def ff139 : FF := .t2 ⟨40,
 (.seq (.reg [.p (.bx 11 g0 (G2 139 0 0)) s2,
  .p (.bx 5 g1 (G2 139 0 1)) s3,
  .p (.al 11 [(.sc (.int .u8 0)), (.sc (.int .u8 0)), (.sc (.int .u8 0)), (.sc (.int .u8 0)), (.sc (.int .u8 0)), (.sc (.int .u8 0)), (.sc (.int .u8 0)), (.sc (.bool false)), (.sc (.bool false)), (.sc (.int .u16 0)), (.sc (.int .i64 0))]) s4])
 (.seq (.seq (.reg [.p (.fa 0 g3) s5,
  .p (.ld false 1 g5) s6])
 (.block 0 (.seq (.reg [.p (.bin .eql g6 (kc (.tc (.sc (.int .u8 1)))) (G2 139 2 0)) s8,
  .p (.mv g8) s7])
 (.cond g7 (.reg [.p (.fa 6 g2) s9,
  .n (.st 1 g9 (kc (.tc (.sc (.int .u8 0)))) (G2 139 3 1))])
 (.seq (.reg [.p (.bin .eql g6 (kc (.tc (.sc (.int .u8 2)))) (G2 139 4 0)) s11,
  .p (.mv g11) s10])
 (.cond g10 (.reg [.p (.fa 5 g2) s12,
  .n (.st 1 g12 (kc (.tc (.sc (.int .u8 0)))) (G2 139 5 1))])
 (.seq (.seq (.reg [.p (.bin .eql g6 (kc (.tc (.sc (.int .u8 3)))) (G2 139 6 0)) s14,
  .p (.mv g14) s13])
 (.cond g13 .skip
 (.reg [.p (.bin .eql g6 (kc (.tc (.sc (.int .u8 4)))) (G2 139 7 0)) s15,
  .p (.mv g15) s13])))
 (.cond g13 (.reg [.p (.fa 1 g2) s16,
  .n (.st 1 g16 (kc (.tc (.sc (.int .u8 0)))) (G2 139 8 1))])
 (.seq (.reg [.p (.bin .eql g6 (kc (.tc (.sc (.int .u8 5)))) (G2 139 9 0)) s18,
  .p (.mv g18) s17])
 (.cond g17 (.reg [.p (.fa 2 g2) s19,
  .n (.st 1 g19 (kc (.tc (.sc (.int .u8 0)))) (G2 139 10 1))])
 (.seq (.reg [.p (.bin .eql g6 (kc (.tc (.sc (.int .u8 6)))) (G2 139 11 0)) s21,
  .p (.mv g21) s20])
 (.cond g20 (.reg [.p (.fa 3 g2) s22,
  .n (.st 1 g22 (kc (.tc (.sc (.int .u8 0)))) (G2 139 12 1))])
 (.seq (.reg [.p (.bin .eql g6 (kc (.tc (.sc (.int .u8 7)))) (G2 139 13 0)) s24,
  .p (.mv g24) s23])
 (.cond g23 (.reg [.p (.fa 4 g2) s25,
  .n (.st 1 g25 (kc (.tc (.sc (.int .u8 0)))) (G2 139 14 1))])
 (.seq (.reg [.p (.bin .eql g6 (kc (.tc (.sc (.int .u8 8)))) (G2 139 15 0)) s27,
  .p (.mv g27) s26])
 (.cond g26 (.reg [.p (.fa 7 g2) s28,
  .n (.st 1 g28 (kc (.tc (.sc (.bool false)))) (G2 139 16 1))])
 (.seq (.seq (.reg [.p (.bin .eql g6 (kc (.tc (.sc (.int .u8 9)))) (G2 139 17 0)) s30,
  .p (.mv g30) s29])
 (.cond g29 .skip
 (.reg [.p (.bin .eql g6 (kc (.tc (.sc (.int .u8 10)))) (G2 139 18 0)) s31,
  .p (.mv g31) s29])))
 (.cond g29 (.reg [.p (.fa 10 g2) s32,
  .n (.st 1 g32 (kc (.tc (.sc (.int .i64 0)))) (G2 139 19 1))])
 (.seq (.reg [.p (.bin .eql g6 (kc (.tc (.sc (.int .u8 11)))) (G2 139 20 0)) s34,
  .p (.mv g34) s33])
 (.cond g33 (.reg [.p (.fa 9 g2) s35,
  .n (.st 1 g35 (kc (.tc (.sc (.int .u16 0)))) (G2 139 21 1))])
 .skip))))))))))))))))))))
 (.seq (.seq (.reg [.p (.fa 4 g3) s36,
  .p (.ld false 1 g36) s37])
 (.cond g37 (.reg [.p (.fa 8 g2) s38,
  .n (.st 1 g38 (kc (.tc (.sc (.bool false)))) (G2 139 23 1))])
 .skip))
 (.seq (.reg [.p (.ld true 11 g2) s39,
  .n (.st 11 g4 g39 (G2 139 24 1))])
 .ret)))),
 [.cell g4 true 11]⟩
theorem ff139_ok : compF SBUnpackKnown 139 = ff139 := by kernel_rfl
noncomputable def ff140 : FF := .t3 ⟨84,
 (.seq (.reg [.p (.bx 11 (h0 g0) (G3 140 0 0)) (i0 s2),
  .p (.bx 5 (h0 g1) (G3 140 0 1)) (i0 s3),
  .p (.mv (kc (.tc (.sc (.bool false))))) (i0 s4)])
 (.seq (.seq (.reg [.p (.fa 0 (h0 g3)) (i0 s5),
  .p (.ld false 1 (h0 g5)) (i0 s6)])
 (.block 0 (.seq (.reg [.p (.bin .eql (h0 g6) (kc (.tc (.sc (.int .u8 1)))) (G3 140 2 0)) (i0 s8),
  .p (.mv (h0 g8)) (i0 s7)])
 (.cond (h0 g7) (.seq (.reg [.p (.fa 6 (h0 g2)) (i0 s9),
  .p (.ld false 1 (h0 g9)) (i0 s10),
  .p (.bin .leq (h0 g10) (kc (.tc (.sc (.int .u8 4)))) (G3 140 3 2)) (i0 s11),
  .p (.mv (h0 g11)) (i0 s4)])
 .ret)
 (.seq (.reg [.p (.bin .eql (h0 g6) (kc (.tc (.sc (.int .u8 2)))) (G3 140 4 0)) (i0 s13),
  .p (.mv (h0 g13)) (i0 s12)])
 (.cond (h0 g12) (.seq (.reg [.p (.fa 5 (h0 g2)) (i0 s14),
  .p (.ld false 1 (h0 g14)) (i0 s15),
  .p (.bin .lss (h0 g15) (kc (.tc (.sc (.int .u8 4)))) (G3 140 5 2)) (i0 s16),
  .p (.mv (h0 g16)) (i0 s4)])
 .ret)
 (.seq (.reg [.p (.bin .eql (h0 g6) (kc (.tc (.sc (.int .u8 3)))) (G3 140 6 0)) (i0 s18),
  .p (.mv (h0 g18)) (i0 s17)])
 (.cond (h0 g17) (.seq (.reg [.p (.fa 1 (h0 g2)) (i0 s19),
  .p (.ld false 1 (h0 g19)) (i0 s20),
  .p (.bin .lss (h0 g20) (kc (.tc (.sc (.int .u8 32)))) (G3 140 7 2)) (i0 s21),
  .p (.mv (h0 g21)) (i0 s4)])
 .ret)
 (.seq (.reg [.p (.bin .eql (h0 g6) (kc (.tc (.sc (.int .u8 4)))) (G3 140 8 0)) (i0 s23),
  .p (.mv (h0 g23)) (i0 s22)])
 (.cond (h0 g22) (.seq (.reg [.p (.fa 1 (h0 g2)) (i0 s24),
  .p (.ld false 1 (h0 g24)) (i0 s25),
  .p (.bin .lss (h0 g25) (kc (.tc (.sc (.int .u8 4)))) (G3 140 9 2)) (i0 s26),
  .p (.mv (h0 g26)) (i0 s4)])
 .ret)
 (.seq (.reg [.p (.bin .eql (h0 g6) (kc (.tc (.sc (.int .u8 5)))) (G3 140 10 0)) (i0 s28),
  .p (.mv (h0 g28)) (i0 s27)])
 (.cond (h0 g27) (.seq (.reg [.p (.fa 2 (h0 g2)) (i0 s29),
  .p (.ld false 1 (h0 g29)) (i0 s30),
  .p (.bin .lss (h0 g30) (kc (.tc (.sc (.int .u8 32)))) (G3 140 11 2)) (i0 s31),
  .p (.mv (h0 g31)) (i0 s4)])
 .ret)
 (.seq (.reg [.p (.bin .eql (h0 g6) (kc (.tc (.sc (.int .u8 6)))) (G3 140 12 0)) (i0 s33),
  .p (.mv (h0 g33)) (i0 s32)])
 (.cond (h0 g32) (.seq (.reg [.p (.fa 3 (h0 g2)) (i0 s34),
  .p (.ld false 1 (h0 g34)) (i0 s35),
  .p (.bin .lss (h0 g35) (kc (.tc (.sc (.int .u8 32)))) (G3 140 13 2)) (i0 s36),
  .p (.mv (h0 g36)) (i0 s4)])
 .ret)
 (.seq (.reg [.p (.bin .eql (h0 g6) (kc (.tc (.sc (.int .u8 7)))) (G3 140 14 0)) (i0 s38),
  .p (.mv (h0 g38)) (i0 s37)])
 (.cond (h0 g37) (.seq (.reg [.p (.fa 4 (h0 g2)) (i0 s39),
  .p (.ld false 1 (h0 g39)) (i0 s40),
  .p (.bin .lss (h0 g40) (kc (.tc (.sc (.int .u8 2)))) (G3 140 15 2)) (i0 s41),
  .p (.mv (h0 g41)) (i0 s4)])
 .ret)
 (.seq (.reg [.p (.bin .eql (h0 g6) (kc (.tc (.sc (.int .u8 9)))) (G3 140 16 0)) (i0 s43),
  .p (.mv (h0 g43)) (i0 s42)])
 (.cond (h0 g42) (.seq (.seq (.reg [.p (.fa 8 (h0 g2)) (i0 s44),
  .p (.ld false 1 (h0 g44)) (i0 s45)])
 (.cond (h0 g45) (.seq (.reg [.p (.fa 10 (h0 g2)) (i0 s46),
  .p (.ld false 1 (h0 g46)) (i0 s47),
  .p (.bin .geq (h0 g47) (kc (.tc (.sc (.int .i64 (-2147483648))))) (G3 140 18 2)) (i0 s48),
  .p (.mv (h0 g48)) (i0 s49),
  .gp (h0 g49) true (.fa 10 (h0 g2)) (i0 s50),
  .gp (h0 g49) true (.ld false 1 (h0 g50)) (i0 s51),
  .gp (h0 g49) true (.bin .leq (h0 g51) (kc (.tc (.sc (.int .i64 2147483647)))) (G3 140 18 6)) (i0 s52),
  .p (.pk (h0 g49) (h0 g52) (kc (.tc (.sc (.bool false))))) (i0 s53),
  .p (.mv (h0 g53)) (i0 s4)])
 .ret)
 .skip))
 (.seq (.reg [.p (.fa 10 (h0 g2)) (i0 s54),
  .p (.ld false 1 (h0 g54)) (i0 s55),
  .p (.fa 1 (h0 g3)) (i0 s56),
  .p (.ld false 1 (h0 g56)) (i0 s57),
  .p (.fa 2 (h0 g3)) (i0 s58),
  .p (.ld false 1 (h0 g58)) (i0 s59),
  .p (.fa 3 (h0 g3)) (i0 s60),
  .p (.ld false 1 (h0 g60)) (i0 s61),
  .p (.call 152 [(h0 g55), (h0 g57), (h0 g59), (h0 g61)] (G3 140 19 8)) (i0 s62),
  .p (.mv (h0 g62)) (i0 s4)])
 .ret))
 (.seq (.reg [.p (.bin .eql (h0 g6) (kc (.tc (.sc (.int .u8 10)))) (G3 140 20 0)) (i1 s0),
  .p (.mv (h1 g0)) (i0 s63)])
 (.cond (h0 g63) (.seq (.reg [.p (.fa 10 (h0 g2)) (i1 s1),
  .p (.ld false 1 (h1 g1)) (i1 s2),
  .p (.bin .geq (h1 g2) (kc (.tc (.sc (.int .i64 0)))) (G3 140 21 2)) (i1 s3),
  .p (.mv (h1 g3)) (i1 s4),
  .gp (h1 g4) true (.fa 10 (h0 g2)) (i1 s5),
  .gp (h1 g4) true (.ld false 1 (h1 g5)) (i1 s6),
  .gp (h1 g4) true (.bin .lss (h1 g6) (kc (.tc (.sc (.int .i64 4294967296)))) (G3 140 21 6)) (i1 s7),
  .p (.pk (h1 g4) (h1 g7) (kc (.tc (.sc (.bool false))))) (i1 s8),
  .p (.mv (h1 g8)) (i1 s9),
  .gp (h1 g9) true (.fa 10 (h0 g2)) (i1 s10),
  .gp (h1 g9) true (.ld false 1 (h1 g10)) (i1 s11),
  .gp (h1 g9) true (.bin .rem (h1 g11) (kc (.tc (.sc (.int .i64 4)))) (G3 140 21 11)) (i1 s12),
  .gp (h1 g9) true (.bin .eql (h1 g12) (kc (.tc (.sc (.int .i64 0)))) (G3 140 21 12)) (i1 s13),
  .p (.pk (h1 g9) (h1 g13) (kc (.tc (.sc (.bool false))))) (i1 s14),
  .p (.mv (h1 g14)) (i0 s4)])
 .ret)
 (.seq (.reg [.p (.bin .eql (h0 g6) (kc (.tc (.sc (.int .u8 11)))) (G3 140 22 0)) (i1 s16),
  .p (.mv (h1 g16)) (i1 s15)])
 (.cond (h1 g15) (.seq (.reg [.p (.fa 9 (h0 g2)) (i1 s17),
  .p (.ld false 1 (h1 g17)) (i1 s18),
  .p (.bin .lss (h1 g18) (kc (.tc (.sc (.int .u16 2048)))) (G3 140 23 2)) (i1 s19),
  .p (.mv (h1 g19)) (i0 s4)])
 .ret)
 .skip))))))))))))))))))))))
 (.seq (.reg [.p (.mv (kc (.tc (.sc (.bool true))))) (i0 s4)])
 .ret))),
 [.tmp (h0 g4)]⟩
theorem ff140_ok : compF SBUnpackKnown 140 = ff140 := by kernel_rfl
noncomputable def ff152 : FF := .t2 ⟨48,
 (.seq (.reg [.p (.mv (kc (.tc (.sc (.bool false))))) s8])
 (.seq (.seq (.reg [.p (.mv g1) s9,
  .p (.bin .lss g9 (kc (.tc (.sc (.int .i64 1)))) (G2 152 1 1)) s10,
  .p (.mv g10) s11,
  .gp g11 false (.mv g1) s12,
  .gp g11 false (.bin .gtr g12 (kc (.tc (.sc (.int .i64 32)))) (G2 152 1 4)) s13,
  .p (.pk g11 (kc (.tc (.sc (.bool true)))) g13) s14,
  .p (.mv g14) s15,
  .gp g15 false (.mv g2) s16,
  .gp g15 false (.bin .lss g16 (kc (.tc (.sc (.int .i64 0)))) (G2 152 1 8)) s17,
  .p (.pk g15 (kc (.tc (.sc (.bool true)))) g17) s18,
  .p (.mv g18) s19,
  .gp g19 false (.mv g2) s20,
  .gp g19 false (.bin .gtr g20 (kc (.tc (.sc (.int .i64 8)))) (G2 152 1 12)) s21,
  .p (.pk g19 (kc (.tc (.sc (.bool true)))) g21) s22,
  .p (.mv g22) s23,
  .gp g23 false (.mv g0) s24,
  .gp g23 false (.mv g2) s25,
  .gp g23 false (.bin .shl (kc (.tc (.sc (.int .i64 1)))) g25 (G2 152 1 17)) s26,
  .gp g23 false (.bin .sub g26 (kc (.tc (.sc (.int .i64 1)))) (G2 152 1 18)) s27,
  .gp g23 false (.bin .and g24 g27 (G2 152 1 19)) s28,
  .gp g23 false (.bin .neq g28 (kc (.tc (.sc (.int .i64 0)))) (G2 152 1 20)) s29,
  .p (.pk g23 (kc (.tc (.sc (.bool true)))) g29) s30])
 (.cond g30 (.seq (.reg [.p (.mv (kc (.tc (.sc (.bool false))))) s8])
 .ret)
 .skip))
 (.seq (.reg [.p (.mv g0) s31,
  .p (.mv g2) s32,
  .p (.bin .shr g31 g32 (G2 152 3 2)) s33,
  .p (.mv g33) s0])
 (.seq (.seq (.reg [.p (.mv g3) s34])
 (.cond g34 (.reg [.p (.mv g0) s35,
  .p (.mv g1) s36,
  .p (.bin .sub g36 (kc (.tc (.sc (.int .i64 1)))) (G2 152 5 2)) s37,
  .p (.bin .shl (kc (.tc (.sc (.int .i64 1)))) g37 (G2 152 5 3)) s38,
  .p (.bin .add g35 g38 (G2 152 5 4)) s39,
  .p (.mv g39) s0])
 .skip))
 (.seq (.reg [.p (.mv g0) s40,
  .p (.bin .geq g40 (kc (.tc (.sc (.int .i64 0)))) (G2 152 6 1)) s41,
  .p (.mv g41) s42,
  .gp g42 true (.mv g0) s43,
  .gp g42 true (.mv g1) s44,
  .gp g42 true (.bin .shl (kc (.tc (.sc (.int .i64 1)))) g44 (G2 152 6 5)) s45,
  .gp g42 true (.bin .lss g43 g45 (G2 152 6 6)) s46,
  .p (.pk g42 g46 (kc (.tc (.sc (.bool false))))) s47,
  .p (.mv g47) s8])
 .ret))))),
 [.tmp g8]⟩
theorem ff152_ok : compF SBUnpackKnown 152 = ff152 := by kernel_rfl
noncomputable def ff141 : FF := .t2 ⟨5,
 (.seq (.reg [.p (.bx 11 g0 (G2 141 0 0)) s1,
  .p (.mv (kc (.tc (.sc (.bool false))))) s2])
 (.seq (.reg [.p (.ld true 11 g1) s3,
  .p (.call 169 [g3, (kc (.tc (.sc (.int .u8 1))))] (G2 141 1 1)) s4,
  .p (.mv g4) s2])
 .ret)),
 [.tmp g2]⟩
theorem ff141_ok : compF SBUnpackKnown 141 = ff141 := by kernel_rfl
noncomputable def ff169 : FF := .t2 ⟨17,
 (.seq (.reg [.p (.bx 11 g0 (G2 169 0 0)) s2,
  .p (.mv (kc (.tc (.sc (.bool false))))) s4])
 (.seq (.reg [.p (.fa 0 g2) s9,
  .p (.ld false 1 g9) s10,
  .p (.mv g1) s11,
  .p (.call 111 [g10, g11] (G2 169 1 3)) s12,
  .p (.mv g12) s8,
  .p (.ex g8 0) s13,
  .p (.ex g8 1) s14,
  .p (.ex g8 2) s15,
  .p (.al 5 [(.sc (.int .u8 0)), (.sc (.int .i64 0)), (.sc (.int .i64 0)), (.sc (.bool false)), (.sc (.bool false))]) s5,
  .n (.st 5 g5 g13 (G2 169 1 9)),
  .p (.mv g14) s6,
  .p (.mv g15) s7])
 (.seq (.reg [.p (.mv g7) s16,
  .p (.mv g16) s4])
 .ret))),
 [.tmp g4]⟩
theorem ff169_ok : compF SBUnpackKnown 169 = ff169 := by kernel_rfl
noncomputable def ff111 : FF := .t2 ⟨35,
 (.seq (.reg [.p (.al 5 [(.sc (.int .u8 0)), (.sc (.int .i64 0)), (.sc (.int .i64 0)), (.sc (.bool false)), (.sc (.bool false))]) s4,
  .p (.mv (kc (.tc (.sc (.int .i64 0))))) s5,
  .p (.mv (kc (.tc (.sc (.bool false))))) s6])
 (.seq (.reg [.p (.mv g0) s12,
  .p (.call 115 [g12] (G2 111 1 1)) s13,
  .p (.mv g13) s11,
  .p (.ex g11 0) s14,
  .p (.ex g11 1) s15,
  .p (.al 5 [(.sc (.int .u8 0)), (.sc (.string ⟨#[]⟩)), (.sc (.int .u8 0)), (.sc (.int .u8 0)), (.sc (.slice none 0 0))]) s7,
  .n (.st 5 g7 g14 (G2 111 1 6)),
  .p (.mv g15) s8])
 (.seq (.reg [.p (.mv (kc (.tc (.sc (.int .i64 24))))) s5])
 (.seq (.seq (.reg [.p (.fa 4 g7) s16,
  .p (.ld false 1 g16) s17,
  .p (.len g17 (G2 111 3 2)) s18,
  .p (.mv (kc (.tc (.sc (.int .i64 0))))) s19])
 (.block 0 (.loop 4294967296 (.seq (.reg [.p (.bin .lss g19 g18 (G2 111 4 0)) s20])
 (.seq (.cond g20 .skip
 (.exit 0))
 (.seq (.block 1 (.seq (.reg [.p (.ia 5 g17 g19 (G2 111 5 0)) s21,
  .p (.ld true 5 g21) s22,
  .p (.al 5 [(.sc (.int .u8 0)), (.sc (.int .i64 0)), (.sc (.int .i64 0)), (.sc (.bool false)), (.sc (.bool false))]) s10,
  .n (.st 5 g10 g22 (G2 111 5 3))])
 (.seq (.reg [.p (.mv g5) s23,
  .p (.fa 1 g10) s24,
  .p (.ld false 1 g24) s25,
  .p (.bin .sub g23 g25 (G2 111 6 3)) s26,
  .p (.mv g26) s5])
 (.seq (.reg [.p (.fa 0 g10) s27,
  .p (.ld false 1 g27) s28,
  .p (.mv g1) s29,
  .p (.bin .eql g28 g29 (G2 111 7 3)) s30])
 (.cond g30 (.seq (.reg [.p (.ld true 5 g10) s31,
  .p (.mv g5) s32,
  .n (.st 5 g4 g31 (G2 111 8 2)),
  .p (.mv g32) s5,
  .p (.mv (kc (.tc (.sc (.bool true))))) s6])
 .ret)
 .skip)))))
 (.reg [.p (.bin .add g19 (kc (.tc (.sc (.int .i64 1)))) (G2 111 9 0)) s33,
  .p (.mv g33) s19])))))))
 (.seq (.reg [.p (.bd [(.tc (.sc (.int .u8 0))), (.tc (.sc (.int .i64 0))), (.tc (.sc (.int .i64 0))), (.tc (.sc (.bool false))), (.tc (.sc (.bool false)))] [] (G2 111 10 0)) s34,
  .n (.st 5 g4 g34 (G2 111 10 1)),
  .p (.mv (kc (.tc (.sc (.int .i64 0))))) s5,
  .p (.mv (kc (.tc (.sc (.bool false))))) s6])
 .ret))))),
 [.cell g4 true 5, .tmp g5, .tmp g6]⟩
theorem ff111_ok : compF SBUnpackKnown 111 = ff111 := by kernel_rfl
noncomputable def ff67 : FF := .t2 ⟨6,
 (.seq (.reg [.p (.bx 11 g0 (G2 67 0 0)) s1,
  .p (.mv (kc (.tc (.sc (.bool false))))) s2])
 (.seq (.reg [.p (.ld true 11 g1) s3,
  .p (.call 123 [g3] (G2 67 1 1)) s4,
  .p (.bin .eql g4 (kc (.tc (.sc (.int .u8 4)))) (G2 67 1 2)) s5,
  .p (.mv g5) s2])
 .ret)),
 [.tmp g2]⟩
theorem ff67_ok : compF SBUnpackKnown 67 = ff67 := by kernel_rfl
noncomputable def ff123 : FF := .t2 ⟨13,
 (.seq (.reg [.p (.bx 11 g0 (G2 123 0 0)) s1,
  .p (.mv (kc (.tc (.sc (.int .u8 0))))) s2])
 (.seq (.reg [.p (.fa 0 g1) s6,
  .p (.ld false 1 g6) s7,
  .p (.call 59 [g7] (G2 123 1 2)) s8,
  .p (.mv g8) s5,
  .p (.ex g5 0) s9,
  .p (.ex g5 1) s10,
  .p (.al 5 [(.sc (.int .u8 0)), (.sc (.string ⟨#[]⟩)), (.sc (.int .u8 0)), (.sc (.int .u8 0)), (.sc (.slice none 0 0))]) s3,
  .n (.st 5 g3 g9 (G2 123 1 7)),
  .p (.mv g10) s4])
 (.seq (.reg [.p (.fa 2 g3) s11,
  .p (.ld false 1 g11) s12,
  .p (.mv g12) s2])
 .ret))),
 [.tmp g2]⟩
theorem ff123_ok : compF SBUnpackKnown 123 = ff123 := by kernel_rfl
noncomputable def ff73 : FF := .t2 ⟨35,
 (.seq (.reg [.p (.mv (kc (.tc (.sc (.bool false))))) s8])
 (.seq (.reg [.p (.mv g1) s12,
  .p (.mv g2) s13,
  .p (.mv g3) s14,
  .p (.mv g0) s15,
  .p (.nc g15 (G2 73 1 4)) s16,
  .p (.fa 1 g16) s17,
  .p (.ld false 1 g17) s18,
  .p (.call 126 [g12, g13, g14, g18] (G2 73 1 7)) s19,
  .p (.mv g19) s11,
  .p (.ex g11 0) s20,
  .p (.ex g11 1) s21,
  .p (.al 11 [(.sc (.int .u8 0)), (.sc (.int .u8 0)), (.sc (.int .u8 0)), (.sc (.int .u8 0)), (.sc (.int .u8 0)), (.sc (.int .u8 0)), (.sc (.int .u8 0)), (.sc (.bool false)), (.sc (.bool false)), (.sc (.int .u16 0)), (.sc (.int .i64 0))]) s9,
  .n (.st 11 g9 g20 (G2 73 1 12)),
  .p (.mv g21) s10])
 (.seq (.regD [0, 0, 2, 6, 14, 30, 0, 64, 254, 511, 1023, 2047, 4095] [.no, .no, .no, .no, .no, (.rd (.ld false 1 g26) g27), (.rd (.ld true 11 g9) g28), .no, .no, .no, .no, .no, .no] [.mk .none .yes (.mv g0) (.mv g0) (some s22),
  .mk .none .yes (.mv g0) (.mv g0) (some s23),
  .mk .none .yes (.nc g23 (G2 73 2 2)) (.nc g23 (G2 73 2 2)) (some s24),
  .mk .none .yes (.fa 2 g24) (.fa 2 g24) (some s25),
  .mk .none .yes (.fa 0 g25) (.fa 0 g25) (some s26),
  .mk .none .yes (.ld false 1 g26) (.ld false 1 g26) (some s27),
  .mk .none .yes (.ld true 11 g9) (.ld true 11 g9) (some s28),
  .mk .none (.gen (G2 73 2 7)) (.bt 11 [[(.tc (.sc (.int .u8 0))), (.tc (.sc (.int .u8 0))), (.tc (.sc (.int .u8 0))), (.tc (.sc (.int .u8 0))), (.tc (.sc (.int .u8 0))), (.tc (.sc (.int .u8 0))), (.tc (.sc (.int .u8 0))), (.tc (.sc (.bool false))), (.tc (.sc (.bool false))), (.tc (.sc (.int .u16 0))), (.tc (.sc (.int .i64 0)))]] [(.mk 0 11 g28)] (G2 73 2 7)) (.bs 11 1 [[(.tc (.sc (.int .u8 0))), (.tc (.sc (.int .u8 0))), (.tc (.sc (.int .u8 0))), (.tc (.sc (.int .u8 0))), (.tc (.sc (.int .u8 0))), (.tc (.sc (.int .u8 0))), (.tc (.sc (.int .u8 0))), (.tc (.sc (.bool false))), (.tc (.sc (.bool false))), (.tc (.sc (.int .u16 0))), (.tc (.sc (.int .i64 0)))]] [(.mk 0 11 g28)] (G2 73 2 7)) (some s29),
  .mk .none .no (.ap 11 24 g27 g29) (.ap 11 24 g27 g29) (some s30),
  .mk .none .yes (.nc g22 (G2 73 2 9)) (.nc g22 (G2 73 2 9)) (some s31),
  .mk .none .yes (.fa 2 g31) (.fa 2 g31) (some s32),
  .mk .none .yes (.fa 0 g32) (.fa 0 g32) (some s33),
  .mk .none .no (.st 1 g33 g30 (G2 73 2 12)) (.st 1 g33 g30 (G2 73 2 12)) none])
 (.seq (.reg [.p (.mv g10) s34,
  .p (.mv g34) s8])
 .ret)))),
 [.tmp g8]⟩
theorem ff73_ok : compF SBUnpackKnown 73 = ff73 := by kernel_rfl
noncomputable def ff126 : FF := .t3 ⟨144,
 (.seq (.reg [.p (.al 11 [(.sc (.int .u8 0)), (.sc (.int .u8 0)), (.sc (.int .u8 0)), (.sc (.int .u8 0)), (.sc (.int .u8 0)), (.sc (.int .u8 0)), (.sc (.int .u8 0)), (.sc (.bool false)), (.sc (.bool false)), (.sc (.int .u16 0)), (.sc (.int .i64 0))]) (i0 s8),
  .p (.mv (kc (.tc (.sc (.bool false))))) (i0 s9)])
 (.seq (.reg [.p (.mv (h0 g0)) (i0 s24),
  .p (.call 71 [(h0 g24)] (G3 126 1 1)) (i0 s25),
  .p (.mv (h0 g25)) (i0 s23),
  .p (.ex (h0 g23) 0) (i0 s26),
  .p (.ex (h0 g23) 1) (i0 s27),
  .p (.ex (h0 g23) 2) (i0 s28),
  .p (.mv (h0 g26)) (i0 s10),
  .p (.mv (h0 g27)) (i0 s11),
  .p (.mv (h0 g28)) (i0 s12)])
 (.seq (.reg [.p (.mv (h0 g10)) (i0 s30),
  .p (.call 59 [(h0 g30)] (G3 126 2 1)) (i0 s31),
  .p (.mv (h0 g31)) (i0 s29),
  .p (.ex (h0 g29) 0) (i0 s32),
  .p (.ex (h0 g29) 1) (i0 s33),
  .p (.al 5 [(.sc (.int .u8 0)), (.sc (.string ⟨#[]⟩)), (.sc (.int .u8 0)), (.sc (.int .u8 0)), (.sc (.slice none 0 0))]) (i0 s13),
  .n (.st 5 (h0 g13) (h0 g32) (G3 126 2 6)),
  .p (.mv (h0 g33)) (i0 s14)])
 (.seq (.seq (.reg [.p (.mv (h0 g14)) (i0 s34),
  .p (.nt (h0 g34) (G3 126 3 1)) (i0 s35),
  .p (.mv (h0 g35)) (i0 s36),
  .gp (h0 g36) false (.mv (h0 g2)) (i0 s37),
  .gp (h0 g36) false (.mv (h0 g37)) (i0 s38),
  .gp (h0 g38) true (.mv (h0 g10)) (i0 s39),
  .gp (h0 g38) true (.call 88 [(h0 g39)] (G3 126 3 6)) (i0 s40),
  .gp (h0 g38) true (.nt (h0 g40) (G3 126 3 7)) (i0 s41),
  .gp (h0 g36) false (.pk (h0 g38) (h0 g41) (kc (.tc (.sc (.bool false))))) (i0 s42),
  .p (.pk (h0 g36) (kc (.tc (.sc (.bool true)))) (h0 g42)) (i0 s43),
  .p (.mv (h0 g43)) (i0 s44),
  .gp (h0 g44) false (.mv (h0 g1)) (i0 s45),
  .gp (h0 g44) false (.bin .shr (h0 g45) (kc (.tc (.sc (.int .u64 24)))) (G3 126 3 12)) (i0 s46),
  .gp (h0 g44) false (.bin .neq (h0 g46) (kc (.tc (.sc (.int .u32 0)))) (G3 126 3 13)) (i0 s47),
  .p (.pk (h0 g44) (kc (.tc (.sc (.bool true)))) (h0 g47)) (i0 s48)])
 (.cond (h0 g48) (.seq (.reg [.p (.bd [(.tc (.sc (.int .u8 0))), (.tc (.sc (.int .u8 0))), (.tc (.sc (.int .u8 0))), (.tc (.sc (.int .u8 0))), (.tc (.sc (.int .u8 0))), (.tc (.sc (.int .u8 0))), (.tc (.sc (.int .u8 0))), (.tc (.sc (.bool false))), (.tc (.sc (.bool false))), (.tc (.sc (.int .u16 0))), (.tc (.sc (.int .i64 0)))] [] (G3 126 4 0)) (i0 s49),
  .n (.st 11 (h0 g8) (h0 g49) (G3 126 4 1)),
  .p (.mv (kc (.tc (.sc (.bool false))))) (i0 s9)])
 .ret)
 .skip))
 (.seq (.reg [.p (.mv (h0 g10)) (i0 s50),
  .p (.mv (h0 g2)) (i0 s51),
  .p (.bd [(.tc (.sc (.int .u8 0))), (.tc (.sc (.int .u8 0))), (.tc (.sc (.int .u8 0))), (.tc (.sc (.int .u8 0))), (.tc (.sc (.int .u8 0))), (.tc (.sc (.int .u8 0))), (.tc (.sc (.int .u8 0))), (.tc (.sc (.bool false))), (.tc (.sc (.bool false))), (.tc (.sc (.int .u16 0))), (.tc (.sc (.int .i64 0)))] [(.mk 0 1 (h0 g50)), (.mk 8 1 (h0 g51))] (G3 126 5 2)) (i0 s52),
  .p (.al 11 [(.sc (.int .u8 0)), (.sc (.int .u8 0)), (.sc (.int .u8 0)), (.sc (.int .u8 0)), (.sc (.int .u8 0)), (.sc (.int .u8 0)), (.sc (.int .u8 0)), (.sc (.bool false)), (.sc (.bool false)), (.sc (.int .u16 0)), (.sc (.int .i64 0))]) (i0 s15),
  .n (.st 11 (h0 g15) (h0 g52) (G3 126 5 4))])
 (.seq (.reg [.p (.mv (h0 g11)) (i0 s53),
  .p (.mv (h0 g53)) (i0 s16)])
 (.seq (.seq (.reg [.p (.fa 4 (h0 g13)) (i0 s54),
  .p (.ld false 1 (h0 g54)) (i0 s55),
  .p (.len (h0 g55) (G3 126 7 2)) (i0 s56),
  .p (.mv (kc (.tc (.sc (.int .i64 0))))) (i0 s57)])
 (.block 0 (.loop 4294967296 (.seq (.reg [.p (.bin .lss (h0 g57) (h0 g56) (G3 126 8 0)) (i0 s58)])
 (.seq (.cond (h0 g58) .skip
 (.exit 0))
 (.seq (.block 1 (.seq (.reg [.p (.ia 5 (h0 g55) (h0 g57) (G3 126 9 0)) (i0 s59),
  .p (.ld true 5 (h0 g59)) (i0 s60),
  .p (.al 5 [(.sc (.int .u8 0)), (.sc (.int .i64 0)), (.sc (.int .i64 0)), (.sc (.bool false)), (.sc (.bool false))]) (i0 s18),
  .n (.st 5 (h0 g18) (h0 g60) (G3 126 9 3))])
 (.seq (.reg [.p (.mv (h0 g10)) (i0 s62),
  .p (.fa 0 (h0 g18)) (i0 s63),
  .p (.ld false 1 (h0 g63)) (i1 s0),
  .p (.call 111 [(h0 g62), (h1 g0)] (G3 126 10 3)) (i1 s1),
  .p (.mv (h1 g1)) (i0 s61),
  .p (.ex (h0 g61) 0) (i1 s2),
  .p (.ex (h0 g61) 1) (i1 s3),
  .p (.ex (h0 g61) 2) (i1 s4),
  .p (.al 5 [(.sc (.int .u8 0)), (.sc (.int .i64 0)), (.sc (.int .i64 0)), (.sc (.bool false)), (.sc (.bool false))]) (i0 s19),
  .n (.st 5 (h0 g19) (h1 g2) (G3 126 10 9)),
  .p (.mv (h1 g3)) (i0 s20),
  .p (.mv (h1 g4)) (i0 s21)])
 (.seq (.reg [.p (.mv (h0 g11)) (i1 s5),
  .p (.mv (h0 g20)) (i1 s6),
  .p (.fa 1 (h0 g18)) (i1 s7),
  .p (.ld false 1 (h1 g7)) (i1 s8),
  .p (.call 161 [(h1 g5), (h1 g6), (h1 g8)] (G3 126 11 4)) (i1 s9),
  .p (.mv (h1 g9)) (i0 s22)])
 (.seq (.reg [.p (.mv (h0 g16)) (i1 s10),
  .p (.mv (h0 g20)) (i1 s11),
  .p (.fa 1 (h0 g18)) (i1 s12),
  .p (.ld false 1 (h1 g12)) (i1 s13),
  .p (.call 114 [(h1 g10), (h1 g11), (h1 g13), (kc (.tc (.sc (.int .u32 0))))] (G3 126 12 4)) (i1 s14),
  .p (.mv (h1 g14)) (i0 s16)])
 (.seq (.reg [.p (.fa 0 (h0 g18)) (i1 s15),
  .p (.ld false 1 (h1 g15)) (i1 s16)])
 (.block 2 (.seq (.reg [.p (.bin .eql (h1 g16) (kc (.tc (.sc (.int .u8 1)))) (G3 126 14 0)) (i1 s30),
  .p (.mv (h1 g30)) (i1 s29)])
 (.cond (h1 g29) (.reg [.p (.mv (h0 g22)) (i1 s31),
  .p (.cv .u8 (h1 g31) (G3 126 15 1)) (i1 s32),
  .p (.fa 6 (h0 g15)) (i1 s33),
  .n (.st 1 (h1 g33) (h1 g32) (G3 126 15 3))])
 (.seq (.reg [.p (.bin .eql (h1 g16) (kc (.tc (.sc (.int .u8 2)))) (G3 126 16 0)) (i1 s35),
  .p (.mv (h1 g35)) (i1 s34)])
 (.cond (h1 g34) (.reg [.p (.mv (h0 g22)) (i1 s36),
  .p (.cv .u8 (h1 g36) (G3 126 17 1)) (i1 s37),
  .p (.fa 5 (h0 g15)) (i1 s38),
  .n (.st 1 (h1 g38) (h1 g37) (G3 126 17 3))])
 (.seq (.seq (.reg [.p (.bin .eql (h1 g16) (kc (.tc (.sc (.int .u8 3)))) (G3 126 18 0)) (i1 s40),
  .p (.mv (h1 g40)) (i1 s39)])
 (.cond (h1 g39) .skip
 (.reg [.p (.bin .eql (h1 g16) (kc (.tc (.sc (.int .u8 4)))) (G3 126 19 0)) (i1 s41),
  .p (.mv (h1 g41)) (i1 s39)])))
 (.cond (h1 g39) (.reg [.p (.mv (h0 g22)) (i1 s42),
  .p (.cv .u8 (h1 g42) (G3 126 20 1)) (i1 s43),
  .p (.fa 1 (h0 g15)) (i1 s44),
  .n (.st 1 (h1 g44) (h1 g43) (G3 126 20 3))])
 (.seq (.reg [.p (.bin .eql (h1 g16) (kc (.tc (.sc (.int .u8 5)))) (G3 126 21 0)) (i1 s46),
  .p (.mv (h1 g46)) (i1 s45)])
 (.cond (h1 g45) (.reg [.p (.mv (h0 g22)) (i1 s47),
  .p (.cv .u8 (h1 g47) (G3 126 22 1)) (i1 s48),
  .p (.fa 2 (h0 g15)) (i1 s49),
  .n (.st 1 (h1 g49) (h1 g48) (G3 126 22 3))])
 (.seq (.reg [.p (.bin .eql (h1 g16) (kc (.tc (.sc (.int .u8 6)))) (G3 126 23 0)) (i1 s51),
  .p (.mv (h1 g51)) (i1 s50)])
 (.cond (h1 g50) (.reg [.p (.mv (h0 g22)) (i1 s52),
  .p (.cv .u8 (h1 g52) (G3 126 24 1)) (i1 s53),
  .p (.fa 3 (h0 g15)) (i1 s54),
  .n (.st 1 (h1 g54) (h1 g53) (G3 126 24 3))])
 (.seq (.reg [.p (.bin .eql (h1 g16) (kc (.tc (.sc (.int .u8 7)))) (G3 126 25 0)) (i1 s56),
  .p (.mv (h1 g56)) (i1 s55)])
 (.cond (h1 g55) (.reg [.p (.mv (h0 g22)) (i1 s57),
  .p (.cv .u8 (h1 g57) (G3 126 26 1)) (i1 s58),
  .p (.fa 4 (h0 g15)) (i1 s59),
  .n (.st 1 (h1 g59) (h1 g58) (G3 126 26 3))])
 (.seq (.reg [.p (.bin .eql (h1 g16) (kc (.tc (.sc (.int .u8 8)))) (G3 126 27 0)) (i1 s61),
  .p (.mv (h1 g61)) (i1 s60)])
 (.cond (h1 g60) (.reg [.p (.mv (h0 g22)) (i1 s62),
  .p (.bin .eql (h1 g62) (kc (.tc (.sc (.int .u32 1)))) (G3 126 28 1)) (i1 s63),
  .p (.fa 7 (h0 g15)) (i2 s0),
  .n (.st 1 (h2 g0) (h1 g63) (G3 126 28 3))])
 (.seq (.reg [.p (.bin .eql (h1 g16) (kc (.tc (.sc (.int .u8 11)))) (G3 126 29 0)) (i2 s2),
  .p (.mv (h2 g2)) (i2 s1)])
 (.cond (h2 g1) (.reg [.p (.mv (h0 g22)) (i2 s3),
  .p (.cv .u16 (h2 g3) (G3 126 30 1)) (i2 s4),
  .p (.fa 9 (h0 g15)) (i2 s5),
  .n (.st 1 (h2 g5) (h2 g4) (G3 126 30 3))])
 (.seq (.reg [.p (.ld true 11 (h0 g15)) (i1 s18),
  .p (.ld true 5 (h0 g18)) (i1 s19),
  .p (.mv (h0 g22)) (i1 s20),
  .p (.mv (h0 g1)) (i1 s21),
  .p (.mv (h0 g3)) (i1 s22),
  .p (.call 162 [(h1 g18), (h1 g19), (h1 g20), (h1 g21), (h1 g22)] (G3 126 31 5)) (i1 s23),
  .p (.mv (h1 g23)) (i1 s17),
  .p (.ex (h1 g17) 0) (i1 s24),
  .p (.ex (h1 g17) 1) (i1 s25),
  .n (.st 11 (h0 g15) (h1 g24) (G3 126 31 9)),
  .p (.mv (h1 g25)) (i0 s14)])
 (.seq (.reg [.p (.mv (h0 g14)) (i1 s26),
  .p (.nt (h1 g26) (G3 126 32 1)) (i1 s27)])
 (.cond (h1 g27) (.seq (.reg [.p (.bd [(.tc (.sc (.int .u8 0))), (.tc (.sc (.int .u8 0))), (.tc (.sc (.int .u8 0))), (.tc (.sc (.int .u8 0))), (.tc (.sc (.int .u8 0))), (.tc (.sc (.int .u8 0))), (.tc (.sc (.int .u8 0))), (.tc (.sc (.bool false))), (.tc (.sc (.bool false))), (.tc (.sc (.int .u16 0))), (.tc (.sc (.int .i64 0)))] [] (G3 126 33 0)) (i1 s28),
  .n (.st 11 (h0 g8) (h1 g28) (G3 126 33 1)),
  .p (.mv (kc (.tc (.sc (.bool false))))) (i0 s9)])
 .ret)
 .skip))))))))))))))))))))))))))
 (.reg [.p (.bin .add (h0 g57) (kc (.tc (.sc (.int .i64 1)))) (G3 126 34 0)) (i2 s6),
  .p (.mv (h2 g6)) (i0 s57)])))))))
 (.seq (.seq (.reg [.p (.mv (h0 g16)) (i2 s7),
  .p (.bin .neq (h2 g7) (kc (.tc (.sc (.int .u32 0)))) (G3 126 35 1)) (i2 s8),
  .p (.mv (h2 g8)) (i2 s9),
  .gp (h2 g9) false (.ld true 11 (h0 g15)) (i2 s10),
  .gp (h2 g9) false (.call 104 [(h2 g10)] (G3 126 35 4)) (i2 s11),
  .gp (h2 g9) false (.nt (h2 g11) (G3 126 35 5)) (i2 s12),
  .p (.pk (h2 g9) (kc (.tc (.sc (.bool true)))) (h2 g12)) (i2 s13)])
 (.cond (h2 g13) (.seq (.reg [.p (.bd [(.tc (.sc (.int .u8 0))), (.tc (.sc (.int .u8 0))), (.tc (.sc (.int .u8 0))), (.tc (.sc (.int .u8 0))), (.tc (.sc (.int .u8 0))), (.tc (.sc (.int .u8 0))), (.tc (.sc (.int .u8 0))), (.tc (.sc (.bool false))), (.tc (.sc (.bool false))), (.tc (.sc (.int .u16 0))), (.tc (.sc (.int .i64 0)))] [] (G3 126 36 0)) (i2 s14),
  .n (.st 11 (h0 g8) (h2 g14) (G3 126 36 1)),
  .p (.mv (kc (.tc (.sc (.bool false))))) (i0 s9)])
 .ret)
 .skip))
 (.seq (.reg [.p (.ld true 11 (h0 g15)) (i2 s15),
  .n (.st 11 (h0 g8) (h2 g15) (G3 126 37 1)),
  .p (.mv (kc (.tc (.sc (.bool true))))) (i0 s9)])
 .ret))))))))),
 [.cell (h0 g8) true 11, .tmp (h0 g9)]⟩
theorem ff126_ok : compF SBUnpackKnown 126 = ff126 := by kernel_rfl
noncomputable def ff88 : FF := .t2 ⟨15,
 (.seq (.reg [.p (.mv (kc (.tc (.sc (.bool false))))) s2])
 (.seq (.reg [.p (.mv g0) s6,
  .p (.call 132 [g6] (G2 88 1 1)) s7,
  .p (.mv g7) s5,
  .p (.ex g5 0) s8,
  .p (.ex g5 1) s9,
  .p (.al 5 [(.sc (.int .u8 0)), (.sc (.int .i64 0)), (.sc (.int .i64 0)), (.sc (.bool false)), (.sc (.bool false))]) s3,
  .n (.st 5 g3 g8 (G2 88 1 6)),
  .p (.mv g9) s4])
 (.seq (.reg [.p (.mv g4) s10,
  .p (.mv g10) s11,
  .gp g11 true (.fa 4 g3) s12,
  .gp g11 true (.ld false 1 g12) s13,
  .p (.pk g11 g13 (kc (.tc (.sc (.bool false))))) s14,
  .p (.mv g14) s2])
 .ret))),
 [.tmp g2]⟩
theorem ff88_ok : compF SBUnpackKnown 88 = ff88 := by kernel_rfl
noncomputable def ff132 : FF := .t2 ⟨26,
 (.seq (.reg [.p (.al 5 [(.sc (.int .u8 0)), (.sc (.int .i64 0)), (.sc (.int .i64 0)), (.sc (.bool false)), (.sc (.bool false))]) s2,
  .p (.mv (kc (.tc (.sc (.bool false))))) s3])
 (.seq (.seq (.reg [.p (.bs 1 2 [[(.tc (.sc (.int .u8 0)))], [(.tc (.sc (.int .u8 0)))]] [(.mk 0 1 (kc (.tc (.sc (.int .u8 9))))), (.mk 1 1 (kc (.tc (.sc (.int .u8 10)))))] (G2 132 1 0)) s9,
  .p (.len g9 (G2 132 1 1)) s10,
  .p (.mv (kc (.tc (.sc (.int .i64 0))))) s11])
 (.block 0 (.loop 4294967296 (.seq (.reg [.p (.bin .lss g11 g10 (G2 132 2 0)) s12])
 (.seq (.cond g12 .skip
 (.exit 0))
 (.seq (.block 1 (.seq (.reg [.p (.ia 1 g9 g11 (G2 132 3 0)) s13,
  .p (.ld false 1 g13) s14,
  .p (.mv g14) s5])
 (.seq (.reg [.p (.mv g0) s16,
  .p (.mv g5) s17,
  .p (.call 111 [g16, g17] (G2 132 4 2)) s18,
  .p (.mv g18) s15,
  .p (.ex g15 0) s19,
  .p (.ex g15 1) s20,
  .p (.ex g15 2) s21,
  .p (.al 5 [(.sc (.int .u8 0)), (.sc (.int .i64 0)), (.sc (.int .i64 0)), (.sc (.bool false)), (.sc (.bool false))]) s6,
  .n (.st 5 g6 g19 (G2 132 4 8)),
  .p (.mv g20) s7,
  .p (.mv g21) s8])
 (.seq (.reg [.p (.mv g8) s22])
 (.cond g22 (.seq (.reg [.p (.ld true 5 g6) s23,
  .n (.st 5 g2 g23 (G2 132 6 1)),
  .p (.mv (kc (.tc (.sc (.bool true))))) s3])
 .ret)
 .skip)))))
 (.reg [.p (.bin .add g11 (kc (.tc (.sc (.int .i64 1)))) (G2 132 7 0)) s24,
  .p (.mv g24) s11])))))))
 (.seq (.reg [.p (.bd [(.tc (.sc (.int .u8 0))), (.tc (.sc (.int .i64 0))), (.tc (.sc (.int .i64 0))), (.tc (.sc (.bool false))), (.tc (.sc (.bool false)))] [] (G2 132 8 0)) s25,
  .n (.st 5 g2 g25 (G2 132 8 1)),
  .p (.mv (kc (.tc (.sc (.bool false))))) s3])
 .ret))),
 [.cell g2 true 5, .tmp g3]⟩
theorem ff132_ok : compF SBUnpackKnown 132 = ff132 := by kernel_rfl
noncomputable def ff114 : FF := .t2 ⟨21,
 (.seq (.reg [.p (.mv (kc (.tc (.sc (.int .u32 0))))) s8])
 (.seq (.reg [.p (.mv g1) s10,
  .p (.mv g2) s11,
  .p (.bd [(.tc (.sc (.int .i64 0))), (.tc (.sc (.int .i64 0)))] [(.mk 0 1 g10), (.mk 1 1 g11)] (G2 114 1 2)) s12,
  .p (.al 2 [(.sc (.int .i64 0)), (.sc (.int .i64 0))]) s9,
  .n (.st 2 g9 g12 (G2 114 1 4))])
 (.seq (.seq (.reg [.p (.ld true 2 g9) s13,
  .p (.call 154 [g13] (G2 114 2 1)) s14,
  .p (.nt g14 (G2 114 2 2)) s15])
 (.cond g15 (.seq (.reg [.p (.mv g0) s16,
  .p (.mv g16) s8])
 .ret)
 .skip))
 (.seq (.reg [.p (.ld true 2 g9) s17,
  .p (.mv g0) s18,
  .p (.mv g3) s19,
  .p (.call 65 [g17, g18, g19] (G2 114 4 3)) s20,
  .p (.mv g20) s8])
 .ret)))),
 [.tmp g8]⟩
theorem ff114_ok : compF SBUnpackKnown 114 = ff114 := by kernel_rfl
noncomputable def ff65 : FF := .t2 ⟨26,
 (.seq (.reg [.p (.bx 2 g0 (G2 65 0 0)) s3,
  .p (.mv (kc (.tc (.sc (.int .u32 0))))) s6])
 (.seq (.seq (.reg [.p (.fa 1 g3) s7,
  .p (.ld false 1 g7) s8,
  .p (.bin .eql g8 (kc (.tc (.sc (.int .i64 0)))) (G2 65 1 2)) s9])
 (.cond g9 (.seq (.reg [.p (.mv g1) s10,
  .p (.mv g10) s6])
 .ret)
 .skip))
 (.seq (.regD [0, 0, 2, 0, 8, 30, 63, 0, 0, 262, 902, 0, 2048, 8070, 16383, 32767] [.no, (.rd (.ld true 2 g3) g12), .no, .no, (.rd (.ld false 1 g14) g15), .no, .no, .no, (.rd (.ld true 2 g3) g19), .no, .no, .no, (.rd (.ld false 1 g22) g23), .no, .no, .no] [.mk .none .yes (.mv g1) (.mv g1) (some s11),
  .mk .none .yes (.ld true 2 g3) (.ld true 2 g3) (some s12),
  .mk .none (.dyn 120 [g12]) (.call 120 [g12] (G2 65 3 2)) (.call 120 [g12] (G2 65 3 2)) (some s13),
  .mk .none .yes (.fa 0 g3) (.fa 0 g3) (some s14),
  .mk .none .yes (.ld false 1 g14) (.ld false 1 g14) (some s15),
  .mk .none .yes (.bin .shl g13 g15 (G2 65 3 5)) (.bin .shl g13 g15 (G2 65 3 5)) (some s16),
  .mk .none .yes (.bin .andNot g11 g16 (G2 65 3 6)) (.bin .andNot g11 g16 (G2 65 3 6)) (some s17),
  .mk .none .yes (.mv g2) (.mv g2) (some s18),
  .mk .none .yes (.ld true 2 g3) (.ld true 2 g3) (some s19),
  .mk .none (.dyn 120 [g19]) (.call 120 [g19] (G2 65 3 9)) (.call 120 [g19] (G2 65 3 9)) (some s20),
  .mk .none .yes (.bin .and g18 g20 (G2 65 3 10)) (.bin .and g18 g20 (G2 65 3 10)) (some s21),
  .mk .none .yes (.fa 0 g3) (.fa 0 g3) (some s22),
  .mk .none .yes (.ld false 1 g22) (.ld false 1 g22) (some s23),
  .mk .none .yes (.bin .shl g21 g23 (G2 65 3 13)) (.bin .shl g21 g23 (G2 65 3 13)) (some s24),
  .mk .none .yes (.bin .or g17 g24 (G2 65 3 14)) (.bin .or g17 g24 (G2 65 3 14)) (some s25),
  .mk .none .yes (.mv g25) (.mv g25) (some s6)])
 .ret))),
 [.tmp g6]⟩
theorem ff65_ok : compF SBUnpackKnown 65 = ff65 := by kernel_rfl
noncomputable def ff162 : FF := .t2 ⟨59,
 (.seq (.reg [.p (.bx 11 g0 (G2 162 0 0)) s5,
  .p (.bx 5 g1 (G2 162 0 1)) s6,
  .p (.al 11 [(.sc (.int .u8 0)), (.sc (.int .u8 0)), (.sc (.int .u8 0)), (.sc (.int .u8 0)), (.sc (.int .u8 0)), (.sc (.int .u8 0)), (.sc (.int .u8 0)), (.sc (.bool false)), (.sc (.bool false)), (.sc (.int .u16 0)), (.sc (.int .i64 0))]) s10,
  .p (.mv (kc (.tc (.sc (.bool false))))) s11])
 (.seq (.regD [0, 0, 2, 7, 0, 16, 63, 127] [.no, .no, (.rd (.ld false 1 g14) g15), .no, .no, (.rd (.ld false 1 g17) g18), .no, .no] [.mk .none .yes (.mv g2) (.mv g2) (some s13),
  .mk .none .yes (.fa 1 g6) (.fa 1 g6) (some s14),
  .mk .none .yes (.ld false 1 g14) (.ld false 1 g14) (some s15),
  .mk .none (.dyn 172 [g13, g15]) (.call 172 [g13, g15] (G2 162 1 3)) (.call 172 [g13, g15] (G2 162 1 3)) (some s16),
  .mk .none .yes (.fa 2 g6) (.fa 2 g6) (some s17),
  .mk .none .yes (.ld false 1 g17) (.ld false 1 g17) (some s18),
  .mk .none .yes (.bin .shl g16 g18 (G2 162 1 6)) (.bin .shl g16 g18 (G2 162 1 6)) (some s19),
  .mk .none .yes (.mv g19) (.mv g19) (some s12)])
 (.seq (.block 0 (.seq (.reg [.p (.fa 8 g5) s21,
  .p (.ld false 1 g21) s22,
  .p (.mv g22) s23,
  .gp g23 true (.fa 4 g6) s24,
  .gp g23 true (.ld false 1 g24) s25,
  .gp g23 true (.nt g25 (G2 162 2 5)) s26,
  .gp g23 true (.mv g26) s27,
  .gp g27 false (.mv g2) s28,
  .gp g27 false (.bin .shr g28 (kc (.tc (.sc (.int .u64 8)))) (G2 162 2 8)) s29,
  .gp g27 false (.bin .neq g29 (kc (.tc (.sc (.int .u32 0)))) (G2 162 2 9)) s30,
  .gp g23 true (.pk g27 (kc (.tc (.sc (.bool true)))) g30) s31,
  .p (.pk g23 g31 (kc (.tc (.sc (.bool false))))) s32,
  .p (.mv g32) s20])
 (.cond g20 (.seq (.reg [.p (.ld true 11 g5) s33,
  .n (.st 11 g10 g33 (G2 162 3 1)),
  .p (.mv (kc (.tc (.sc (.bool false))))) s11])
 .ret)
 (.seq (.reg [.p (.fa 8 g5) s35,
  .p (.ld false 1 g35) s36,
  .p (.mv g36) s34])
 (.cond g34 (.reg [.p (.mv g3) s37,
  .p (.mv g2) s38,
  .p (.call 185 [g37, g38] (G2 162 5 2)) s39,
  .p (.mv g39) s12])
 (.seq (.reg [.p (.fa 3 g6) s41,
  .p (.ld false 1 g41) s42,
  .p (.nt g42 (G2 162 6 2)) s43,
  .p (.mv g43) s40])
 (.cond g40 (.reg [.p (.mv g2) s44,
  .p (.cv .i64 g44 (G2 162 7 1)) s45,
  .p (.fa 2 g6) s46,
  .p (.ld false 1 g46) s47,
  .p (.bin .shl g45 g47 (G2 162 7 4)) s48,
  .p (.mv g48) s12])
 .skip)))))))
 (.seq (.reg [.p (.mv g12) s49,
  .p (.fa 10 g5) s50,
  .n (.st 1 g50 g49 (G2 162 8 2))])
 (.seq (.seq (.reg [.p (.fa 0 g6) s51,
  .p (.ld false 1 g51) s52,
  .p (.bin .eql g52 (kc (.tc (.sc (.int .u8 10)))) (G2 162 9 2)) s53])
 (.cond g53 (.reg [.p (.mv g12) s54,
  .p (.mv g4) s55,
  .p (.call 186 [g54, g55] (G2 162 10 2)) s56,
  .p (.fa 10 g5) s57,
  .n (.st 1 g57 g56 (G2 162 10 4))])
 .skip))
 (.seq (.reg [.p (.ld true 11 g5) s58,
  .n (.st 11 g10 g58 (G2 162 11 1)),
  .p (.mv (kc (.tc (.sc (.bool true))))) s11])
 .ret)))))),
 [.cell g10 true 11, .tmp g11]⟩
theorem ff162_ok : compF SBUnpackKnown 162 = ff162 := by kernel_rfl
noncomputable def ff185 : FF := .t2 ⟨12,
 (.seq (.reg [.p (.mv (kc (.tc (.sc (.int .i64 0))))) s4])
 (.seq (.reg [.p (.mv g0) s6,
  .p (.call 114 [(kc (.tc (.sc (.int .u32 0)))), (kc (.tc (.sc (.int .i64 8)))), (kc (.tc (.sc (.int .i64 24)))), g6] (G2 185 1 1)) s7,
  .p (.mv g7) s5])
 (.seq (.reg [.p (.mv g5) s8,
  .p (.mv g1) s9,
  .p (.call 114 [g8, (kc (.tc (.sc (.int .i64 0)))), (kc (.tc (.sc (.int .i64 8)))), g9] (G2 185 2 2)) s10,
  .p (.call 172 [g10, (kc (.tc (.sc (.int .i64 32))))] (G2 185 2 3)) s11,
  .p (.mv g11) s4])
 .ret))),
 [.tmp g4]⟩
theorem ff185_ok : compF SBUnpackKnown 185 = ff185 := by kernel_rfl
noncomputable def ff186 : FF := .t2 ⟨10,
 (.seq (.reg [.p (.mv (kc (.tc (.sc (.int .i64 0))))) s4])
 (.seq (.reg [.p (.mv g1) s5,
  .p (.mv g0) s6,
  .p (.cv .u32 g6 (G2 186 1 2)) s7,
  .p (.bin .add g5 g7 (G2 186 1 3)) s8,
  .p (.cv .i64 g8 (G2 186 1 4)) s9,
  .p (.mv g9) s4])
 .ret)),
 [.tmp g4]⟩
theorem ff186_ok : compF SBUnpackKnown 186 = ff186 := by kernel_rfl
noncomputable def ff30 : FF := .t2 ⟨26,
 (.seq (.reg [.p (.bx 5 g0 (G2 30 0 0)) s1,
  .p (.mv (kc (.tc (.sc (.int .i64 0))))) s2])
 (.seq (.reg [.p (.ld true 5 g1) s4,
  .p (.call 54 [g4] (G2 30 1 1)) s5,
  .p (.mv g5) s3])
 (.seq (.block 0 (.seq (.reg [.p (.mv g3) s7,
  .p (.bin .eql g7 (kc (.tc (.sc (.int .i64 8)))) (G2 30 2 1)) s8,
  .p (.mv g8) s6])
 (.cond g6 (.seq (.reg [.p (.mv g3) s9,
  .p (.mv g9) s2])
 .ret)
 (.seq (.reg [.p (.ld true 5 g1) s11,
  .p (.call 55 [g11] (G2 30 4 1)) s12,
  .p (.nt g12 (G2 30 4 2)) s13,
  .p (.mv g13) s10])
 (.cond g10 (.seq (.reg [.p (.mv (kc (.tc (.sc (.int .i64 9))))) s2])
 .ret)
 (.seq (.reg [.p (.ld true 5 g1) s15,
  .p (.call 56 [g15] (G2 30 6 1)) s16,
  .p (.bin .gtr g16 (kc (.tc (.sc (.int .i64 4)))) (G2 30 6 2)) s17,
  .p (.mv g17) s14])
 (.cond g14 (.seq (.reg [.p (.mv (kc (.tc (.sc (.int .i64 10))))) s2])
 .ret)
 (.seq (.reg [.p (.mv g3) s19,
  .p (.bin .neq g19 (kc (.tc (.sc (.int .i64 0)))) (G2 30 8 1)) s20,
  .p (.mv g20) s18])
 (.cond g18 (.seq (.reg [.p (.mv g3) s21,
  .p (.mv g21) s2])
 .ret)
 (.seq (.reg [.p (.ld true 5 g1) s23,
  .p (.call 57 [g23] (G2 30 10 1)) s24,
  .p (.nt g24 (G2 30 10 2)) s25,
  .p (.mv g25) s22])
 (.cond g22 (.seq (.reg [.p (.mv (kc (.tc (.sc (.int .i64 13))))) s2])
 .ret)
 .skip)))))))))))
 (.seq (.reg [.p (.mv (kc (.tc (.sc (.int .i64 0))))) s2])
 .ret)))),
 [.tmp g2]⟩
theorem ff30_ok : compF SBUnpackKnown 30 = ff30 := by kernel_rfl
noncomputable def ff54 : FF := .t3 ⟨65,
 (.seq (.reg [.p (.bx 5 (h0 g0) (G3 54 0 0)) (i0 s1),
  .p (.mv (kc (.tc (.sc (.int .i64 0))))) (i0 s2)])
 (.seq (.reg [.p (.fa 0 (h0 g1)) (i0 s7),
  .p (.ld false 1 (h0 g7)) (i0 s8),
  .p (.al 1 [(.sc (.slice none 0 0))]) (i0 s3),
  .n (.st 1 (h0 g3) (h0 g8) (G3 54 1 3))])
 (.seq (.reg [.p (.mv (kc (.tc (.sc (.int .i64 0))))) (i0 s4)])
 (.seq (.seq (.reg [.p (.ld false 1 (h0 g3)) (i0 s9),
  .p (.len (h0 g9) (G3 54 3 1)) (i0 s10),
  .p (.mv (kc (.tc (.sc (.int .i64 0))))) (i0 s11)])
 (.block 0 (.loop 4294967296 (.seq (.reg [.p (.bin .lss (h0 g11) (h0 g10) (G3 54 4 0)) (i0 s12)])
 (.seq (.cond (h0 g12) .skip
 (.exit 0))
 (.seq (.block 1 (.seq (.reg [.p (.ia 11 (h0 g9) (h0 g11) (G3 54 5 0)) (i0 s13),
  .p (.ld true 11 (h0 g13)) (i0 s14),
  .p (.al 11 [(.sc (.int .u8 0)), (.sc (.int .u8 0)), (.sc (.int .u8 0)), (.sc (.int .u8 0)), (.sc (.int .u8 0)), (.sc (.int .u8 0)), (.sc (.int .u8 0)), (.sc (.bool false)), (.sc (.bool false)), (.sc (.int .u16 0)), (.sc (.int .i64 0))]) (i0 s6),
  .n (.st 11 (h0 g6) (h0 g14) (G3 54 5 3))])
 (.seq (.regD [0, 1, 0, 7] [.no, .no, (.rd (.ld true 11 (h0 g6)) (h0 g17)), .no] [.mk .none (.gen (G3 54 6 0)) (.bt 1 [[(.tc (.sc (.int .u8 0)))]] [(.mk 0 1 (kc (.tc (.sc (.int .u8 5)))))] (G3 54 6 0)) (.bs 1 1 [[(.tc (.sc (.int .u8 0)))]] [(.mk 0 1 (kc (.tc (.sc (.int .u8 5)))))] (G3 54 6 0)) (some (i0 s15)),
  .mk .none (.dyn 101 [(h0 g15)]) (.call 101 [(h0 g15)] (G3 54 6 1)) (.call 101 [(h0 g15)] (G3 54 6 1)) (some (i0 s16)),
  .mk .none .yes (.ld true 11 (h0 g6)) (.ld true 11 (h0 g6)) (some (i0 s17)),
  .mk .none (.gen (G3 54 6 3)) (.gen (G3 54 6 3)) (.gen (G3 54 6 3)) (some (i0 s18))])
 (.cond (h0 g18) (.reg [.p (.mv (h0 g4)) (i0 s19),
  .p (.bin .add (h0 g19) (kc (.tc (.sc (.int .i64 1)))) (G3 54 7 1)) (i0 s20),
  .p (.mv (h0 g20)) (i0 s4)])
 .skip))))
 (.reg [.p (.bin .add (h0 g11) (kc (.tc (.sc (.int .i64 1)))) (G3 54 8 0)) (i0 s21),
  .p (.mv (h0 g21)) (i0 s11)])))))))
 (.seq (.block 2 (.seq (.reg [.p (.ld false 1 (h0 g3)) (i0 s23),
  .p (.len (h0 g23) (G3 54 9 1)) (i0 s24),
  .p (.bin .lss (h0 g24) (kc (.tc (.sc (.int .i64 1)))) (G3 54 9 2)) (i0 s25),
  .p (.mv (h0 g25)) (i0 s26),
  .gp (h0 g26) false (.ld false 1 (h0 g3)) (i0 s27),
  .gp (h0 g26) false (.len (h0 g27) (G3 54 9 5)) (i0 s28),
  .gp (h0 g26) false (.bin .gtr (h0 g28) (kc (.tc (.sc (.int .i64 4)))) (G3 54 9 6)) (i0 s29),
  .p (.pk (h0 g26) (kc (.tc (.sc (.bool true)))) (h0 g29)) (i0 s30),
  .p (.mv (h0 g30)) (i0 s31),
  .gp (h0 g31) false (.fa 3 (h0 g1)) (i0 s32),
  .gp (h0 g31) false (.ld false 1 (h0 g32)) (i0 s33),
  .gp (h0 g31) false (.mv (h0 g33)) (i0 s34),
  .gp (h0 g34) true (.fa 4 (h0 g1)) (i0 s35),
  .gp (h0 g34) true (.ld false 1 (h0 g35)) (i0 s36),
  .gp (h0 g31) false (.pk (h0 g34) (h0 g36) (kc (.tc (.sc (.bool false))))) (i0 s37),
  .p (.pk (h0 g31) (kc (.tc (.sc (.bool true)))) (h0 g37)) (i0 s38),
  .p (.mv (h0 g38)) (i0 s22)])
 (.cond (h0 g22) (.seq (.reg [.p (.mv (kc (.tc (.sc (.int .i64 8))))) (i0 s2)])
 .ret)
 (.seq (.reg [.p (.ld false 1 (h0 g3)) (i0 s40),
  .p (.call 102 [(h0 g40), (kc (.tc (.sc (.func (.func 103) #[] #[]))))] (G3 54 11 1)) (i0 s41),
  .p (.mv (h0 g41)) (i0 s39)])
 (.cond (h0 g39) (.seq (.reg [.p (.mv (kc (.tc (.sc (.int .i64 8))))) (i0 s2)])
 .ret)
 (.seq (.reg [.p (.mv (h0 g4)) (i0 s43),
  .p (.bin .gtr (h0 g43) (kc (.tc (.sc (.int .i64 1)))) (G3 54 13 1)) (i0 s44),
  .p (.mv (h0 g44)) (i0 s42)])
 (.cond (h0 g42) (.seq (.reg [.p (.mv (kc (.tc (.sc (.int .i64 14))))) (i0 s2)])
 .ret)
 (.seq (.reg [.p (.ld false 1 (h0 g3)) (i0 s46),
  .p (.call 105 [(h0 g46)] (G3 54 15 1)) (i0 s47),
  .p (.mv (h0 g47)) (i0 s45)])
 (.cond (h0 g45) (.seq (.reg [.p (.mv (kc (.tc (.sc (.int .i64 11))))) (i0 s2)])
 .ret)
 (.seq (.reg [.p (.ld false 1 (h0 g3)) (i0 s49),
  .p (.mf (.func 106) [] [(h0 g3)]) (i0 s50),
  .p (.call 102 [(h0 g49), (h0 g50)] (G3 54 17 2)) (i0 s51),
  .p (.mv (h0 g51)) (i0 s48)])
 (.cond (h0 g48) (.seq (.reg [.p (.mv (kc (.tc (.sc (.int .i64 12))))) (i0 s2)])
 .ret)
 (.seq (.regD [0, 1, 3, 7, 15, 31, 63, 127, 127, 383, 1023, 2047, 4095] [.no, (.rd (.ld false 1 (h0 g53)) (h0 g54)), .no, .no, (.rd (.ld false 1 (h0 g56)) (h0 g57)), .no, .no, (.rd (.ld false 1 (h0 g3)) (h0 g60)), .no, .no, .no, .no, .no] [.mk .none .yes (.fa 1 (h0 g1)) (.fa 1 (h0 g1)) (some (i0 s53)),
  .mk .none .yes (.ld false 1 (h0 g53)) (.ld false 1 (h0 g53)) (some (i0 s54)),
  .mk .none .yes (.mv (h0 g54)) (.mv (h0 g54)) (some (i0 s55)),
  .mk (.on (h0 g55) false) .yes (.fa 2 (h0 g1)) (.fa 2 (h0 g1)) (some (i0 s56)),
  .mk (.on (h0 g55) false) .yes (.ld false 1 (h0 g56)) (.ld false 1 (h0 g56)) (some (i0 s57)),
  .mk .none .yes (.pk (h0 g55) (kc (.tc (.sc (.bool true)))) (h0 g57)) (.pk (h0 g55) (kc (.tc (.sc (.bool true)))) (h0 g57)) (some (i0 s58)),
  .mk .none .yes (.mv (h0 g58)) (.mv (h0 g58)) (some (i0 s59)),
  .mk (.on (h0 g59) true) .yes (.ld false 1 (h0 g3)) (.ld false 1 (h0 g3)) (some (i0 s60)),
  .mk (.on (h0 g59) true) (.gen (G3 54 19 8)) (.bt 1 [[(.tc (.sc (.int .u8 0)))], [(.tc (.sc (.int .u8 0)))]] [(.mk 0 1 (kc (.tc (.sc (.int .u8 5))))), (.mk 1 1 (kc (.tc (.sc (.int .u8 6)))))] (G3 54 19 8)) (.bs 1 2 [[(.tc (.sc (.int .u8 0)))], [(.tc (.sc (.int .u8 0)))]] [(.mk 0 1 (kc (.tc (.sc (.int .u8 5))))), (.mk 1 1 (kc (.tc (.sc (.int .u8 6)))))] (G3 54 19 8)) (some (i0 s61)),
  .mk (.on (h0 g59) true) (.dyn 101 [(h0 g61)]) (.call 101 [(h0 g61)] (G3 54 19 9)) (.call 101 [(h0 g61)] (G3 54 19 9)) (some (i0 s62)),
  .mk (.on (h0 g59) true) (.dyn 102 [(h0 g60), (h0 g62)]) (.call 102 [(h0 g60), (h0 g62)] (G3 54 19 10)) (.call 102 [(h0 g60), (h0 g62)] (G3 54 19 10)) (some (i0 s63)),
  .mk .none .yes (.pk (h0 g59) (h0 g63) (kc (.tc (.sc (.bool false))))) (.pk (h0 g59) (h0 g63) (kc (.tc (.sc (.bool false))))) (some (i1 s0)),
  .mk .none .yes (.mv (h1 g0)) (.mv (h1 g0)) (some (i0 s52))])
 (.cond (h0 g52) (.seq (.reg [.p (.mv (kc (.tc (.sc (.int .i64 13))))) (i0 s2)])
 .ret)
 .skip)))))))))))))
 (.seq (.reg [.p (.mv (kc (.tc (.sc (.int .i64 0))))) (i0 s2)])
 .ret)))))),
 [.tmp (h0 g2)]⟩
theorem ff54_ok : compF SBUnpackKnown 54 = ff54 := by kernel_rfl
noncomputable def ff101 : FF := .t2 ⟨4,
 (.seq (.reg [.p (.bx 1 g0 (G2 101 0 0)) s1,
  .p (.mv (kc (.tc (.sc .nilFunc)))) s2])
 (.seq (.reg [.p (.mf (.func 136) [] [g1]) s3,
  .p (.mv g3) s2])
 .ret)),
 [.tmp g2]⟩
theorem ff101_ok : compF SBUnpackKnown 101 = ff101 := by kernel_rfl
noncomputable def ff136 : FF := .t2 ⟨8,
 (.seq (.reg [.p (.bx 11 g0 (G2 136 0 0)) s2,
  .p (.mv (kc (.tc (.sc (.bool false))))) s3])
 (.seq (.regD [0, 0, 2, 7, 15] [(.rd (.ld false 1 g1) g4), (.rd (.ld true 11 g2) g5), .no, .no, .no] [.mk .none .yes (.ld false 1 g1) (.ld false 1 g1) (some s4),
  .mk .none .yes (.ld true 11 g2) (.ld true 11 g2) (some s5),
  .mk .none (.dyn 123 [g5]) (.call 123 [g5] (G2 136 1 2)) (.call 123 [g5] (G2 136 1 2)) (some s6),
  .mk .none (.dyn 137 [g4, g6]) (.call 137 [g4, g6] (G2 136 1 3)) (.call 137 [g4, g6] (G2 136 1 3)) (some s7),
  .mk .none .yes (.mv g7) (.mv g7) (some s3)])
 .ret)),
 [.tmp g3]⟩
theorem ff136_ok : compF SBUnpackKnown 136 = ff136 := by kernel_rfl
noncomputable def ff137 : FF := .t2 ⟨9,
 (.seq (.reg [.p (.mv (kc (.tc (.sc (.bool false))))) s4])
 (.seq (.reg [.p (.mv g0) s5,
  .p (.mv g1) s6,
  .p (.call 117 [g5, g6] (G2 137 1 2)) s7,
  .p (.bin .geq g7 (kc (.tc (.sc (.int .i64 0)))) (G2 137 1 3)) s8,
  .p (.mv g8) s4])
 .ret)),
 [.tmp g4]⟩
theorem ff137_ok : compF SBUnpackKnown 137 = ff137 := by kernel_rfl
noncomputable def ff117 : FF := .t2 ⟨19,
 (.seq (.reg [.p (.mv (kc (.tc (.sc (.int .i64 0))))) s4])
 (.seq (.seq (.reg [.p (.mv g0) s6,
  .p (.len g6 (G2 117 1 1)) s7,
  .p (.mv (kc (.tc (.sc (.int .i64 0))))) s8])
 (.block 0 (.loop 4294967296 (.seq (.reg [.p (.bin .lss g8 g7 (G2 117 2 0)) s9])
 (.seq (.cond g9 .skip
 (.exit 0))
 (.seq (.block 1 (.seq (.reg [.p (.mv g8) s10,
  .p (.mv g10) s5])
 (.seq (.reg [.p (.mv g1) s11,
  .p (.mv g0) s12,
  .p (.mv g5) s13,
  .p (.ia 1 g12 g13 (G2 117 4 3)) s14,
  .p (.ld false 1 g14) s15,
  .p (.bin .eql g11 g15 (G2 117 4 5)) s16])
 (.cond g16 (.seq (.reg [.p (.mv g5) s17,
  .p (.mv g17) s4])
 .ret)
 .skip))))
 (.reg [.p (.bin .add g8 (kc (.tc (.sc (.int .i64 1)))) (G2 117 6 0)) s18,
  .p (.mv g18) s8])))))))
 (.seq (.reg [.p (.mv (kc (.tc (.sc (.int .i64 (-1)))))) s4])
 .ret))),
 [.tmp g4]⟩
theorem ff117_ok : compF SBUnpackKnown 117 = ff117 := by kernel_rfl
noncomputable def ff102 : FF := .t2 ⟨9,
 (.seq (.reg [.p (.mv (kc (.tc (.sc (.bool false))))) s4])
 (.seq (.reg [.p (.mv g0) s5,
  .p (.mv g1) s6,
  .p (.call 138 [g5, g6] (G2 102 1 2)) s7,
  .p (.bin .geq g7 (kc (.tc (.sc (.int .i64 0)))) (G2 102 1 3)) s8,
  .p (.mv g8) s4])
 .ret)),
 [.tmp g4]⟩
theorem ff102_ok : compF SBUnpackKnown 102 = ff102 := by kernel_rfl
noncomputable def ff138 : FF := .t2 ⟨19,
 (.seq (.reg [.p (.mv (kc (.tc (.sc (.int .i64 0))))) s4])
 (.seq (.seq (.reg [.p (.mv g0) s6,
  .p (.len g6 (G2 138 1 1)) s7,
  .p (.mv (kc (.tc (.sc (.int .i64 0))))) s8])
 (.block 0 (.loop 4294967296 (.seq (.reg [.p (.bin .lss g8 g7 (G2 138 2 0)) s9])
 (.seq (.cond g9 .skip
 (.exit 0))
 (.seq (.block 1 (.seq (.reg [.p (.mv g8) s10,
  .p (.mv g10) s5])
 (.seq (.reg [.p (.mv g1) s11,
  .p (.mv g0) s12,
  .p (.mv g5) s13,
  .p (.ia 11 g12 g13 (G2 138 4 3)) s14,
  .p (.ld true 11 g14) s15,
  .p (.gen (G2 138 4 5)) s16])
 (.cond g16 (.seq (.reg [.p (.mv g5) s17,
  .p (.mv g17) s4])
 .ret)
 .skip))))
 (.reg [.p (.bin .add g8 (kc (.tc (.sc (.int .i64 1)))) (G2 138 6 0)) s18,
  .p (.mv g18) s8])))))))
 (.seq (.reg [.p (.mv (kc (.tc (.sc (.int .i64 (-1)))))) s4])
 .ret))),
 [.tmp g4]⟩
theorem ff138_ok : compF SBUnpackKnown 138 = ff138 := by kernel_rfl
noncomputable def ff103 : FF := .t2 ⟨6,
 (.seq (.reg [.p (.bx 11 g0 (G2 103 0 0)) s1,
  .p (.mv (kc (.tc (.sc (.bool false))))) s2])
 (.seq (.reg [.p (.ld true 11 g1) s3,
  .p (.call 104 [g3] (G2 103 1 1)) s4,
  .p (.nt g4 (G2 103 1 2)) s5,
  .p (.mv g5) s2])
 .ret)),
 [.tmp g2]⟩
theorem ff103_ok : compF SBUnpackKnown 103 = ff103 := by kernel_rfl
noncomputable def ff105 : FF := .t2 ⟨19,
 (.seq (.reg [.p (.mv (kc (.tc (.sc (.bool false))))) s2])
 (.seq (.seq (.reg [.p (.mv g0) s5,
  .p (.len g5 (G2 105 1 1)) s6,
  .p (.mv (kc (.tc (.sc (.int .i64 0))))) s7])
 (.block 0 (.loop 4294967296 (.seq (.reg [.p (.bin .lss g7 g6 (G2 105 2 0)) s8])
 (.seq (.cond g8 .skip
 (.exit 0))
 (.seq (.block 1 (.seq (.reg [.p (.mv g7) s9,
  .p (.ia 11 g5 g7 (G2 105 3 1)) s10,
  .p (.ld true 11 g10) s11,
  .p (.al 11 [(.sc (.int .u8 0)), (.sc (.int .u8 0)), (.sc (.int .u8 0)), (.sc (.int .u8 0)), (.sc (.int .u8 0)), (.sc (.int .u8 0)), (.sc (.int .u8 0)), (.sc (.bool false)), (.sc (.bool false)), (.sc (.int .u16 0)), (.sc (.int .i64 0))]) s4,
  .p (.mv g9) s3,
  .n (.st 11 g4 g11 (G2 105 3 5))])
 (.seq (.reg [.p (.mv g0) s12,
  .p (.mv g3) s13,
  .p (.bin .add g13 (kc (.tc (.sc (.int .i64 1)))) (G2 105 4 2)) s14,
  .p (.sl 11 g12 (some g14) none none (G2 105 4 3)) s15,
  .p (.mf (.func 142) [] [g4]) s16,
  .p (.call 102 [g15, g16] (G2 105 4 5)) s17])
 (.cond g17 (.seq (.reg [.p (.mv (kc (.tc (.sc (.bool true))))) s2])
 .ret)
 .skip))))
 (.reg [.p (.bin .add g7 (kc (.tc (.sc (.int .i64 1)))) (G2 105 6 0)) s18,
  .p (.mv g18) s7])))))))
 (.seq (.reg [.p (.mv (kc (.tc (.sc (.bool false))))) s2])
 .ret))),
 [.tmp g2]⟩
theorem ff105_ok : compF SBUnpackKnown 105 = ff105 := by kernel_rfl
noncomputable def ff142 : FF := .t2 ⟨7,
 (.seq (.reg [.p (.bx 11 g0 (G2 142 0 0)) s2,
  .p (.mv (kc (.tc (.sc (.bool false))))) s3])
 (.seq (.reg [.p (.ld true 11 g1) s4,
  .p (.ld true 11 g2) s5,
  .p (.call 143 [g4, g5] (G2 142 1 2)) s6,
  .p (.mv g6) s3])
 .ret)),
 [.tmp g3]⟩
theorem ff142_ok : compF SBUnpackKnown 142 = ff142 := by kernel_rfl
noncomputable def ff143 : FF := .t2 ⟨53,
 (.seq (.reg [.p (.bx 11 g0 (G2 143 0 0)) s2,
  .p (.bx 11 g1 (G2 143 0 1)) s3,
  .p (.mv (kc (.tc (.sc (.bool false))))) s4])
 (.seq (.reg [.p (.ld true 11 g2) s12,
  .p (.call 147 [g12] (G2 143 1 1)) s13,
  .p (.mv g13) s11,
  .p (.ex g11 0) s14,
  .p (.ex g11 1) s15,
  .p (.mv g14) s5,
  .p (.mv g15) s6])
 (.seq (.reg [.p (.ld true 11 g3) s17,
  .p (.call 147 [g17] (G2 143 2 1)) s18,
  .p (.mv g18) s16,
  .p (.ex g16 0) s19,
  .p (.ex g16 1) s20,
  .p (.mv g19) s7,
  .p (.mv g20) s8])
 (.seq (.seq (.reg [.p (.mv g6) s21,
  .p (.mv g21) s22,
  .gp g22 true (.mv g8) s23,
  .p (.pk g22 g23 (kc (.tc (.sc (.bool false))))) s24,
  .p (.mv g24) s25,
  .gp g25 true (.mv g5) s26,
  .gp g25 true (.mv g7) s27,
  .gp g25 true (.bin .eql g26 g27 (G2 143 3 7)) s28,
  .p (.pk g25 g28 (kc (.tc (.sc (.bool false))))) s29])
 (.cond g29 (.seq (.reg [.p (.ld true 11 g2) s30,
  .p (.ld true 11 g3) s31,
  .p (.call 170 [g30, g31] (G2 143 4 2)) s32,
  .p (.nt g32 (G2 143 4 3)) s33,
  .p (.mv g33) s4])
 .ret)
 .skip))
 (.seq (.reg [.p (.ld true 11 g2) s35,
  .p (.call 146 [g35] (G2 143 5 1)) s36,
  .p (.mv g36) s34,
  .p (.ex g34 0) s37,
  .p (.ex g34 1) s38,
  .p (.mv g37) s9,
  .p (.mv g38) s6])
 (.seq (.reg [.p (.ld true 11 g3) s40,
  .p (.call 146 [g40] (G2 143 6 1)) s41,
  .p (.mv g41) s39,
  .p (.ex g39 0) s42,
  .p (.ex g39 1) s43,
  .p (.mv g42) s10,
  .p (.mv g43) s8])
 (.seq (.reg [.p (.mv g6) s44,
  .p (.mv g44) s45,
  .gp g45 true (.mv g8) s46,
  .p (.pk g45 g46 (kc (.tc (.sc (.bool false))))) s47,
  .p (.mv g47) s48,
  .gp g48 true (.mv g9) s49,
  .gp g48 true (.mv g10) s50,
  .gp g48 true (.bin .eql g49 g50 (G2 143 7 7)) s51,
  .p (.pk g48 g51 (kc (.tc (.sc (.bool false))))) s52,
  .p (.mv g52) s4])
 .ret))))))),
 [.tmp g4]⟩
theorem ff143_ok : compF SBUnpackKnown 143 = ff143 := by kernel_rfl
noncomputable def ff147 : FF := .t2 ⟨18,
 (.seq (.reg [.p (.bx 11 g0 (G2 147 0 0)) s1,
  .p (.mv (kc (.tc (.sc (.int .u8 0))))) s2,
  .p (.mv (kc (.tc (.sc (.bool false))))) s3])
 (.seq (.block 0 (.seq (.reg [.p (.ld true 11 g1) s5,
  .p (.call 104 [g5] (G2 147 1 1)) s6,
  .p (.nt g6 (G2 147 1 2)) s7,
  .p (.mv g7) s4])
 (.cond g4 (.seq (.reg [.p (.mv (kc (.tc (.sc (.int .u8 0))))) s2,
  .p (.mv (kc (.tc (.sc (.bool false))))) s3])
 .ret)
 (.seq (.reg [.p (.fa 0 g1) s9,
  .p (.ld false 1 g9) s10,
  .p (.bin .eql g10 (kc (.tc (.sc (.int .u8 29)))) (G2 147 3 2)) s11,
  .p (.mv g11) s8])
 (.cond g8 (.seq (.reg [.p (.mv (kc (.tc (.sc (.int .u8 31))))) s2,
  .p (.mv (kc (.tc (.sc (.bool true))))) s3])
 .ret)
 (.seq (.reg [.p (.ld true 11 g1) s13,
  .p (.call 169 [g13, (kc (.tc (.sc (.int .u8 3))))] (G2 147 5 1)) s14,
  .p (.nt g14 (G2 147 5 2)) s15,
  .p (.mv g15) s12])
 (.cond g12 (.seq (.reg [.p (.mv (kc (.tc (.sc (.int .u8 0))))) s2,
  .p (.mv (kc (.tc (.sc (.bool false))))) s3])
 .ret)
 .skip)))))))
 (.seq (.reg [.p (.fa 1 g1) s16,
  .p (.ld false 1 g16) s17,
  .p (.mv g17) s2,
  .p (.mv (kc (.tc (.sc (.bool true))))) s3])
 .ret))),
 [.tmp g2, .tmp g3]⟩
theorem ff147_ok : compF SBUnpackKnown 147 = ff147 := by kernel_rfl
noncomputable def ff170 : FF := .t2 ⟨36,
 (.seq (.reg [.p (.bx 11 g0 (G2 170 0 0)) s2,
  .p (.bx 11 g1 (G2 170 0 1)) s3,
  .p (.mv (kc (.tc (.sc (.bool false))))) s4])
 (.seq (.seq (.reg [.p (.fa 5 g2) s7,
  .p (.ld false 1 g7) s8,
  .p (.fa 5 g3) s9,
  .p (.ld false 1 g9) s10,
  .p (.bin .neq g8 g10 (G2 170 1 4)) s11])
 (.cond g11 (.seq (.reg [.p (.mv (kc (.tc (.sc (.bool false))))) s4])
 .ret)
 .skip))
 (.seq (.regD [0, 1, 0, 4, 15, 0, 32, 0, 128, 480, 31, 2047] [.no, (.rd (.ld false 1 g12) g13), .no, (.rd (.ld false 1 g14) g15), .no, .no, (.rd (.ld false 1 g17) g18), .no, (.rd (.ld false 1 g19) g20), .no, .no, .no] [.mk .none .yes (.fa 6 g2) (.fa 6 g2) (some s12),
  .mk .none .yes (.ld false 1 g12) (.ld false 1 g12) (some s13),
  .mk .none .yes (.fa 6 g3) (.fa 6 g3) (some s14),
  .mk .none .yes (.ld false 1 g14) (.ld false 1 g14) (some s15),
  .mk .none .yes (.gen (G2 170 3 4)) (.gen (G2 170 3 4)) (some s16),
  .mk .none .yes (.fa 6 g2) (.fa 6 g2) (some s17),
  .mk .none .yes (.ld false 1 g17) (.ld false 1 g17) (some s18),
  .mk .none .yes (.fa 6 g3) (.fa 6 g3) (some s19),
  .mk .none .yes (.ld false 1 g19) (.ld false 1 g19) (some s20),
  .mk .none .yes (.gen (G2 170 3 9)) (.gen (G2 170 3 9)) (some s21),
  .mk .none .yes (.mv g16) (.mv g16) (some s5),
  .mk .none .yes (.mv g21) (.mv g21) (some s6)])
 (.seq (.reg [.p (.mv g5) s22,
  .p (.bin .eql g22 (kc (.tc (.sc (.int .u8 1)))) (G2 170 4 1)) s23,
  .p (.mv g23) s24,
  .gp g24 true (.mv g6) s25,
  .gp g24 true (.bin .eql g25 (kc (.tc (.sc (.int .u8 2)))) (G2 170 4 4)) s26,
  .p (.pk g24 g26 (kc (.tc (.sc (.bool false))))) s27,
  .p (.mv g27) s28,
  .gp g28 false (.mv g5) s29,
  .gp g28 false (.bin .eql g29 (kc (.tc (.sc (.int .u8 3)))) (G2 170 4 8)) s30,
  .gp g28 false (.mv g30) s31,
  .gp g31 true (.mv g6) s32,
  .gp g31 true (.bin .eql g32 (kc (.tc (.sc (.int .u8 4)))) (G2 170 4 11)) s33,
  .gp g28 false (.pk g31 g33 (kc (.tc (.sc (.bool false))))) s34,
  .p (.pk g28 (kc (.tc (.sc (.bool true)))) g34) s35,
  .p (.mv g35) s4])
 .ret)))),
 [.tmp g4]⟩
theorem ff170_ok : compF SBUnpackKnown 170 = ff170 := by kernel_rfl
noncomputable def ff146 : FF := .t2 ⟨14,
 (.seq (.reg [.p (.bx 11 g0 (G2 146 0 0)) s1,
  .p (.mv (kc (.tc (.sc (.int .u8 0))))) s2,
  .p (.mv (kc (.tc (.sc (.bool false))))) s3])
 (.seq (.seq (.reg [.p (.ld true 11 g1) s4,
  .p (.call 104 [g4] (G2 146 1 1)) s5,
  .p (.nt g5 (G2 146 1 2)) s6,
  .p (.mv g6) s7,
  .gp g7 false (.ld true 11 g1) s8,
  .gp g7 false (.call 169 [g8, (kc (.tc (.sc (.int .u8 4))))] (G2 146 1 5)) s9,
  .gp g7 false (.nt g9 (G2 146 1 6)) s10,
  .p (.pk g7 (kc (.tc (.sc (.bool true)))) g10) s11])
 (.cond g11 (.seq (.reg [.p (.mv (kc (.tc (.sc (.int .u8 0))))) s2,
  .p (.mv (kc (.tc (.sc (.bool false))))) s3])
 .ret)
 .skip))
 (.seq (.reg [.p (.fa 1 g1) s12,
  .p (.ld false 1 g12) s13,
  .p (.mv g13) s2,
  .p (.mv (kc (.tc (.sc (.bool true))))) s3])
 .ret))),
 [.tmp g2, .tmp g3]⟩
theorem ff146_ok : compF SBUnpackKnown 146 = ff146 := by kernel_rfl
noncomputable def ff106 : FF := .t2 ⟨8,
 (.seq (.reg [.p (.bx 11 g0 (G2 106 0 0)) s2,
  .p (.mv (kc (.tc (.sc (.bool false))))) s3])
 (.seq (.reg [.p (.ld true 11 g2) s4,
  .p (.ld false 1 g1) s5,
  .p (.call 107 [g4, g5] (G2 106 1 2)) s6,
  .p (.nt g6 (G2 106 1 3)) s7,
  .p (.mv g7) s3])
 .ret)),
 [.tmp g3]⟩
theorem ff106_ok : compF SBUnpackKnown 106 = ff106 := by kernel_rfl
noncomputable def ff107 : FF := .t2 ⟨62,
 (.seq (.reg [.p (.bx 11 g0 (G2 107 0 0)) s2,
  .p (.mv (kc (.tc (.sc (.bool false))))) s4])
 (.seq (.seq (.reg [.p (.ld true 11 g2) s15,
  .p (.call 144 [g15] (G2 107 1 1)) s16,
  .p (.mv g16) s14,
  .p (.ex g14 0) s17,
  .p (.ex g14 1) s18,
  .p (.ex g14 2) s19,
  .p (.al 1 [(.sc (.int .u8 0))]) s5,
  .n (.st 1 g5 g17 (G2 107 1 7)),
  .p (.mv g18) s6,
  .p (.mv g19) s7])
 (.seq (.reg [.p (.mv g6) s20])
 (.cond g20 (.seq (.reg [.p (.mv g1) s21,
  .p (.mf (.func 145) [] [g5]) s22,
  .p (.call 102 [g21, g22] (G2 107 3 2)) s23,
  .p (.mv g23) s4])
 .ret)
 .skip)))
 (.seq (.seq (.reg [.p (.fa 7 g2) s24,
  .p (.ld false 1 g24) s25,
  .p (.nt g25 (G2 107 4 2)) s26])
 (.cond g26 (.seq (.reg [.p (.mv (kc (.tc (.sc (.bool true))))) s4])
 .ret)
 .skip))
 (.seq (.reg [.p (.mv (kc (.tc (.sc (.int .i64 0))))) s8,
  .p (.mv (kc (.tc (.sc (.bool true))))) s9])
 (.seq (.seq (.reg [.p (.mv g1) s27,
  .p (.len g27 (G2 107 7 1)) s28,
  .p (.mv (kc (.tc (.sc (.int .i64 0))))) s29])
 (.block 0 (.loop 4294967296 (.seq (.reg [.p (.bin .lss g29 g28 (G2 107 8 0)) s30])
 (.seq (.cond g30 .skip
 (.exit 0))
 (.seq (.block 1 (.seq (.reg [.p (.ia 11 g27 g29 (G2 107 9 0)) s31,
  .p (.ld true 11 g31) s32,
  .p (.al 11 [(.sc (.int .u8 0)), (.sc (.int .u8 0)), (.sc (.int .u8 0)), (.sc (.int .u8 0)), (.sc (.int .u8 0)), (.sc (.int .u8 0)), (.sc (.int .u8 0)), (.sc (.bool false)), (.sc (.bool false)), (.sc (.int .u16 0)), (.sc (.int .i64 0))]) s11,
  .n (.st 11 g11 g32 (G2 107 9 3))])
 (.seq (.reg [.p (.ld true 11 g11) s34,
  .p (.call 147 [g34] (G2 107 10 1)) s35,
  .p (.mv g35) s33,
  .p (.ex g33 0) s36,
  .p (.ex g33 1) s37,
  .p (.mv g36) s12,
  .p (.mv g37) s13])
 (.seq (.reg [.p (.mv g13) s38,
  .p (.mv g38) s39,
  .gp g39 true (.mv g12) s40,
  .gp g39 true (.fa 3 g2) s41,
  .gp g39 true (.ld false 1 g41) s42,
  .gp g39 true (.bin .eql g40 g42 (G2 107 11 5)) s43,
  .p (.pk g39 g43 (kc (.tc (.sc (.bool false))))) s44])
 (.cond g44 (.seq (.reg [.p (.mv g8) s45,
  .p (.bin .add g45 (kc (.tc (.sc (.int .i64 1)))) (G2 107 12 1)) s46,
  .p (.mv g46) s8])
 (.regD [0, 1, 3, 7, 15, 31, 15, 127, 255, 511] [.no, (.rd (.ld false 1 g47) g48), .no, .no, .no, .no, (.rd (.ld true 11 g11) g53), .no, .no, .no] [.mk .none .yes (.fa 6 g11) (.fa 6 g11) (some s47),
  .mk .none .yes (.ld false 1 g47) (.ld false 1 g47) (some s48),
  .mk .none .yes (.bin .eql g48 (kc (.tc (.sc (.int .u8 0)))) (G2 107 13 2)) (.bin .eql g48 (kc (.tc (.sc (.int .u8 0)))) (G2 107 13 2)) (some s49),
  .mk .none .yes (.mv g49) (.mv g49) (some s50),
  .mk (.on g50 true) (.gen (G2 107 13 4)) (.bt 1 [[(.tc (.sc (.int .u8 0)))], [(.tc (.sc (.int .u8 0)))]] [(.mk 0 1 (kc (.tc (.sc (.int .u8 1))))), (.mk 1 1 (kc (.tc (.sc (.int .u8 2)))))] (G2 107 13 4)) (.bs 1 2 [[(.tc (.sc (.int .u8 0)))], [(.tc (.sc (.int .u8 0)))]] [(.mk 0 1 (kc (.tc (.sc (.int .u8 1))))), (.mk 1 1 (kc (.tc (.sc (.int .u8 2)))))] (G2 107 13 4)) (some s51),
  .mk (.on g50 true) (.dyn 101 [g51]) (.call 101 [g51] (G2 107 13 5)) (.call 101 [g51] (G2 107 13 5)) (some s52),
  .mk (.on g50 true) .yes (.ld true 11 g11) (.ld true 11 g11) (some s53),
  .mk (.on g50 true) (.gen (G2 107 13 7)) (.gen (G2 107 13 7)) (.gen (G2 107 13 7)) (some s54),
  .mk .none .yes (.pk g50 g54 (kc (.tc (.sc (.bool false))))) (.pk g50 g54 (kc (.tc (.sc (.bool false))))) (some s55),
  .mk .none .yes (.mv g55) (.mv g55) (some s9)]))
 .skip)))))
 (.reg [.p (.bin .add g29 (kc (.tc (.sc (.int .i64 1)))) (G2 107 14 0)) s56,
  .p (.mv g56) s29])))))))
 (.seq (.reg [.p (.mv g8) s57,
  .p (.bin .eql g57 (kc (.tc (.sc (.int .i64 1)))) (G2 107 15 1)) s58,
  .p (.mv g58) s59,
  .gp g59 true (.mv g9) s60,
  .p (.pk g59 g60 (kc (.tc (.sc (.bool false))))) s61,
  .p (.mv g61) s4])
 .ret)))))),
 [.tmp g4]⟩
theorem ff107_ok : compF SBUnpackKnown 107 = ff107 := by kernel_rfl
noncomputable def ff144 : FF := .t2 ⟨23,
 (.seq (.reg [.p (.bx 11 g0 (G2 144 0 0)) s1,
  .p (.mv (kc (.tc (.sc (.int .u8 0))))) s2,
  .p (.mv (kc (.tc (.sc (.bool false))))) s3,
  .p (.mv (kc (.tc (.sc (.bool false))))) s4])
 (.seq (.seq (.reg [.p (.ld true 11 g1) s5,
  .p (.call 104 [g5] (G2 144 1 1)) s6,
  .p (.nt g6 (G2 144 1 2)) s7,
  .p (.mv g7) s8,
  .gp g8 false (.fa 0 g1) s9,
  .gp g8 false (.ld false 1 g9) s10,
  .gp g8 false (.bin .neq g10 (kc (.tc (.sc (.int .u8 14)))) (G2 144 1 6)) s11,
  .gp g8 false (.mv g11) s12,
  .gp g12 true (.fa 6 g1) s13,
  .gp g12 true (.ld false 1 g13) s14,
  .gp g12 true (.bin .eql g14 (kc (.tc (.sc (.int .u8 0)))) (G2 144 1 10)) s15,
  .gp g8 false (.pk g12 g15 (kc (.tc (.sc (.bool false))))) s16,
  .p (.pk g8 (kc (.tc (.sc (.bool true)))) g16) s17])
 (.cond g17 (.seq (.reg [.p (.mv (kc (.tc (.sc (.int .u8 0))))) s2,
  .p (.mv (kc (.tc (.sc (.bool false))))) s3,
  .p (.mv (kc (.tc (.sc (.bool false))))) s4])
 .ret)
 .skip))
 (.seq (.regD [0, 1, 0, 4, 12, 3, 63, 127] [.no, (.rd (.ld false 1 g18) g19), .no, (.rd (.ld false 1 g20) g21), .no, .no, .no, .no] [.mk .none .yes (.fa 5 g1) (.fa 5 g1) (some s18),
  .mk .none .yes (.ld false 1 g18) (.ld false 1 g18) (some s19),
  .mk .none .yes (.fa 6 g1) (.fa 6 g1) (some s20),
  .mk .none .yes (.ld false 1 g20) (.ld false 1 g20) (some s21),
  .mk .none .yes (.bin .geq g21 (kc (.tc (.sc (.int .u8 3)))) (G2 144 3 4)) (.bin .geq g21 (kc (.tc (.sc (.int .u8 3)))) (G2 144 3 4)) (some s22),
  .mk .none .yes (.mv g19) (.mv g19) (some s2),
  .mk .none .yes (.mv g22) (.mv g22) (some s3),
  .mk .none .yes (.mv (kc (.tc (.sc (.bool true))))) (.mv (kc (.tc (.sc (.bool true))))) (some s4)])
 .ret))),
 [.tmp g2, .tmp g3, .tmp g4]⟩
theorem ff144_ok : compF SBUnpackKnown 144 = ff144 := by kernel_rfl
noncomputable def ff145 : FF := .t2 ⟨17,
 (.seq (.reg [.p (.bx 11 g0 (G2 145 0 0)) s2,
  .p (.mv (kc (.tc (.sc (.bool false))))) s3])
 (.seq (.reg [.p (.ld true 11 g2) s7,
  .p (.call 146 [g7] (G2 145 1 1)) s8,
  .p (.mv g8) s6,
  .p (.ex g6 0) s9,
  .p (.ex g6 1) s10,
  .p (.mv g9) s4,
  .p (.mv g10) s5])
 (.seq (.reg [.p (.mv g5) s11,
  .p (.mv g11) s12,
  .gp g12 true (.mv g4) s13,
  .gp g12 true (.ld false 1 g1) s14,
  .gp g12 true (.bin .eql g13 g14 (G2 145 2 4)) s15,
  .p (.pk g12 g15 (kc (.tc (.sc (.bool false))))) s16,
  .p (.mv g16) s3])
 .ret))),
 [.tmp g3]⟩
theorem ff145_ok : compF SBUnpackKnown 145 = ff145 := by kernel_rfl
noncomputable def ff55 : FF := .t2 ⟨20,
 (.seq (.reg [.p (.bx 5 g0 (G2 55 0 0)) s1,
  .p (.mv (kc (.tc (.sc (.bool false))))) s2])
 (.seq (.seq (.reg [.p (.fa 4 g1) s6,
  .p (.ld false 1 g6) s7])
 (.cond g7 (.seq (.reg [.p (.fa 0 g1) s9,
  .p (.ld false 1 g9) s10,
  .p (.call 32 [g10] (G2 55 2 2)) s11,
  .p (.mv g11) s8,
  .p (.ex g8 0) s12,
  .p (.ex g8 1) s13,
  .p (.ex g8 2) s14,
  .p (.mv g12) s3,
  .p (.mv g13) s4,
  .p (.mv g14) s5])
 (.seq (.reg [.p (.mv g5) s15,
  .p (.mv g15) s2])
 .ret))
 .skip))
 (.seq (.reg [.p (.fa 0 g1) s16,
  .p (.ld false 1 g16) s17,
  .p (.call 109 [g17, (kc (.tc (.sc (.int .u8 15))))] (G2 55 4 2)) s18,
  .p (.call 108 [g18] (G2 55 4 3)) s19,
  .p (.mv g19) s2])
 .ret))),
 [.tmp g2]⟩
theorem ff55_ok : compF SBUnpackKnown 55 = ff55 := by kernel_rfl
noncomputable def ff32 : FF := .t2 ⟨27,
 (.seq (.reg [.p (.mv (kc (.tc (.sc (.int .i64 0))))) s2,
  .p (.mv (kc (.tc (.sc (.int .i64 0))))) s3,
  .p (.mv (kc (.tc (.sc (.bool false))))) s4])
 (.seq (.seq (.reg [.p (.mv g0) s7,
  .p (.len g7 (G2 32 1 1)) s8,
  .p (.mv (kc (.tc (.sc (.int .i64 0))))) s9])
 (.block 0 (.loop 4294967296 (.seq (.reg [.p (.bin .lss g9 g8 (G2 32 2 0)) s10])
 (.seq (.cond g10 .skip
 (.exit 0))
 (.seq (.block 1 (.seq (.reg [.p (.mv g9) s11,
  .p (.mv g11) s5])
 (.seq (.reg [.p (.mv g5) s12,
  .p (.bin .add g12 (kc (.tc (.sc (.int .i64 1)))) (G2 32 4 1)) s13,
  .p (.mv g13) s6])
 (.block 2 (.loop 4294967296 (.seq (.seq (.reg [.p (.mv g6) s14,
  .p (.mv g0) s15,
  .p (.len g15 (G2 32 5 2)) s16,
  .p (.bin .lss g14 g16 (G2 32 5 3)) s17])
 (.cond g17 .skip
 (.exit 2)))
 (.seq (.block 3 (.seq (.reg [.p (.mv g0) s20,
  .p (.mv g5) s21,
  .p (.mv g6) s22,
  .p (.call 64 [g20, g21, g22] (G2 32 6 3)) s23])
 (.cond g23 (.seq (.reg [.p (.mv g5) s24,
  .p (.mv g6) s25,
  .p (.mv g24) s2,
  .p (.mv g25) s3,
  .p (.mv (kc (.tc (.sc (.bool true))))) s4])
 .ret)
 .skip)))
 (.reg [.p (.mv g6) s18,
  .p (.bin .add g18 (kc (.tc (.sc (.int .i64 1)))) (G2 32 8 1)) s19,
  .p (.mv g19) s6]))))))))
 (.reg [.p (.bin .add g9 (kc (.tc (.sc (.int .i64 1)))) (G2 32 9 0)) s26,
  .p (.mv g26) s9])))))))
 (.seq (.reg [.p (.mv (kc (.tc (.sc (.int .i64 0))))) s2,
  .p (.mv (kc (.tc (.sc (.int .i64 0))))) s3,
  .p (.mv (kc (.tc (.sc (.bool false))))) s4])
 .ret))),
 [.tmp g2, .tmp g3, .tmp g4]⟩
theorem ff32_ok : compF SBUnpackKnown 32 = ff32 := by kernel_rfl
noncomputable def ff64 : FF := .t2 ⟨49,
 (.seq (.reg [.p (.mv (kc (.tc (.sc (.bool false))))) s6])
 (.seq (.seq (.regD [0, 0, 3, 7, 0, 0, 48, 112, 255, 511, 1023, 1023, 2047, 8191] [.no, .no, .no, (.rd (.ld true 11 g15) g16), .no, .no, .no, (.rd (.ld true 11 g19) g20), .no, .no, .no, .no, .no, .no] [.mk .none .yes (.mv g0) (.mv g0) (some s13),
  .mk .none .yes (.mv g1) (.mv g1) (some s14),
  .mk .none .yes (.ia 11 g13 g14 (G2 64 1 2)) (.ia 11 g13 g14 (G2 64 1 2)) (some s15),
  .mk .none .yes (.ld true 11 g15) (.ld true 11 g15) (some s16),
  .mk .none .yes (.mv g0) (.mv g0) (some s17),
  .mk .none .yes (.mv g2) (.mv g2) (some s18),
  .mk .none .yes (.ia 11 g17 g18 (G2 64 1 6)) (.ia 11 g17 g18 (G2 64 1 6)) (some s19),
  .mk .none .yes (.ld true 11 g19) (.ld true 11 g19) (some s20),
  .mk .none (.dyn 35 [g16, g20]) (.call 35 [g16, g20] (G2 64 1 8)) (.call 35 [g16, g20] (G2 64 1 8)) (some s21),
  .mk .none .yes (.mv g21) (.mv g21) (some s12),
  .mk .none .yes (.ex g12 0) (.ex g12 0) (some s22),
  .mk .none .yes (.ex g12 1) (.ex g12 1) (some s23),
  .mk .none .yes (.mv g22) (.mv g22) (some s7),
  .mk .none .yes (.mv g23) (.mv g23) (some s8)])
 (.seq (.reg [.p (.mv g8) s24,
  .p (.nt g24 (G2 64 2 1)) s25])
 (.cond g25 (.seq (.reg [.p (.mv (kc (.tc (.sc (.bool false))))) s6])
 .ret)
 .skip)))
 (.seq (.reg [.p (.mv (kc (.tc (.sc (.slice none 0 0))))) s9])
 (.seq (.seq (.reg [.p (.mv g0) s26,
  .p (.len g26 (G2 64 5 1)) s27,
  .p (.mv (kc (.tc (.sc (.int .i64 0))))) s28])
 (.block 0 (.loop 4294967296 (.seq (.reg [.p (.bin .lss g28 g27 (G2 64 6 0)) s29])
 (.seq (.cond g29 .skip
 (.exit 0))
 (.seq (.block 1 (.seq (.reg [.p (.mv g28) s30,
  .p (.ia 11 g26 g28 (G2 64 7 1)) s31,
  .p (.ld true 11 g31) s32,
  .p (.al 11 [(.sc (.int .u8 0)), (.sc (.int .u8 0)), (.sc (.int .u8 0)), (.sc (.int .u8 0)), (.sc (.int .u8 0)), (.sc (.int .u8 0)), (.sc (.int .u8 0)), (.sc (.bool false)), (.sc (.bool false)), (.sc (.int .u16 0)), (.sc (.int .i64 0))]) s11,
  .p (.mv g30) s10,
  .n (.st 11 g11 g32 (G2 64 7 5))])
 (.seq (.reg [.p (.mv g10) s33,
  .p (.mv g1) s34,
  .p (.bin .neq g33 g34 (G2 64 8 2)) s35,
  .p (.mv g35) s36,
  .gp g36 true (.mv g10) s37,
  .gp g36 true (.mv g2) s38,
  .gp g36 true (.bin .neq g37 g38 (G2 64 8 6)) s39,
  .p (.pk g36 g39 (kc (.tc (.sc (.bool false))))) s40])
 (.cond g40 (.reg [.p (.mv g9) s41,
  .p (.ld true 11 g11) s42,
  .p (.bs 11 1 [[(.tc (.sc (.int .u8 0))), (.tc (.sc (.int .u8 0))), (.tc (.sc (.int .u8 0))), (.tc (.sc (.int .u8 0))), (.tc (.sc (.int .u8 0))), (.tc (.sc (.int .u8 0))), (.tc (.sc (.int .u8 0))), (.tc (.sc (.bool false))), (.tc (.sc (.bool false))), (.tc (.sc (.int .u16 0))), (.tc (.sc (.int .i64 0)))]] [(.mk 0 11 g42)] (G2 64 9 2)) s43,
  .p (.ap 11 24 g41 g43) s44,
  .p (.mv g44) s9])
 .skip))))
 (.reg [.p (.bin .add g28 (kc (.tc (.sc (.int .i64 1)))) (G2 64 10 0)) s45,
  .p (.mv g45) s28])))))))
 (.seq (.reg [.p (.mv g9) s46,
  .p (.call 109 [g46, (kc (.tc (.sc (.int .u8 12))))] (G2 64 11 1)) s47,
  .p (.call 108 [g47] (G2 64 11 2)) s48,
  .p (.mv g48) s6])
 .ret))))),
 [.tmp g6]⟩
theorem ff64_ok : compF SBUnpackKnown 64 = ff64 := by kernel_rfl
noncomputable def ff35 : FF := .t2 ⟨51,
 (.seq (.reg [.p (.bx 11 g0 (G2 35 0 0)) s2,
  .p (.bx 11 g1 (G2 35 0 1)) s3,
  .p (.mv (kc (.tc (.sc (.int .u32 0))))) s4,
  .p (.mv (kc (.tc (.sc (.bool false))))) s5])
 (.seq (.reg [.p (.ld true 11 g2) s11,
  .p (.call 66 [g11] (G2 35 1 1)) s12,
  .p (.mv g12) s10,
  .p (.ex g10 0) s13,
  .p (.ex g10 1) s14,
  .p (.mv g13) s6,
  .p (.mv g14) s7])
 (.seq (.reg [.p (.ld true 11 g3) s16,
  .p (.call 66 [g16] (G2 35 2 1)) s17,
  .p (.mv g17) s15,
  .p (.ex g15 0) s18,
  .p (.ex g15 1) s19,
  .p (.mv g18) s8,
  .p (.mv g19) s9])
 (.seq (.seq (.reg [.p (.mv g7) s20,
  .p (.nt g20 (G2 35 3 1)) s21,
  .p (.mv g21) s22,
  .gp g22 false (.mv g9) s23,
  .gp g22 false (.nt g23 (G2 35 3 4)) s24,
  .p (.pk g22 (kc (.tc (.sc (.bool true)))) g24) s25,
  .p (.mv g25) s26,
  .gp g26 false (.ld true 11 g2) s27,
  .gp g26 false (.call 67 [g27] (G2 35 3 8)) s28,
  .gp g26 false (.mv g28) s29,
  .gp g29 true (.ld true 11 g3) s30,
  .gp g29 true (.call 67 [g30] (G2 35 3 11)) s31,
  .gp g26 false (.pk g29 g31 (kc (.tc (.sc (.bool false))))) s32,
  .p (.pk g26 (kc (.tc (.sc (.bool true)))) g32) s33])
 (.cond g33 (.seq (.reg [.p (.mv (kc (.tc (.sc (.int .u32 0))))) s4,
  .p (.mv (kc (.tc (.sc (.bool false))))) s5])
 .ret)
 .skip))
 (.seq (.seq (.reg [.p (.ld true 11 g2) s34,
  .p (.call 67 [g34] (G2 35 5 1)) s35,
  .p (.mv g35) s36,
  .gp g36 false (.ld true 11 g3) s37,
  .gp g36 false (.call 67 [g37] (G2 35 5 4)) s38,
  .gp g36 false (.nt g38 (G2 35 5 5)) s39,
  .gp g36 false (.mv g39) s40,
  .gp g40 true (.mv g6) s41,
  .gp g40 true (.mv g8) s42,
  .gp g40 true (.bin .lss g41 g42 (G2 35 5 9)) s43,
  .gp g36 false (.pk g40 g43 (kc (.tc (.sc (.bool false))))) s44,
  .p (.pk g36 (kc (.tc (.sc (.bool true)))) g44) s45])
 (.cond g45 (.reg [.p (.mv g8) s46,
  .p (.mv g6) s47,
  .p (.mv g46) s6,
  .p (.mv g47) s8])
 .skip))
 (.seq (.reg [.p (.mv g6) s48,
  .p (.mv g8) s49,
  .p (.call 68 [g48, g49] (G2 35 7 2)) s50,
  .p (.mv g50) s4,
  .p (.mv (kc (.tc (.sc (.bool true))))) s5])
 .ret)))))),
 [.tmp g4, .tmp g5]⟩
theorem ff35_ok : compF SBUnpackKnown 35 = ff35 := by kernel_rfl
noncomputable def ff66 : FF := .t2 ⟨46,
 (.seq (.reg [.p (.bx 11 g0 (G2 66 0 0)) s1,
  .p (.mv (kc (.tc (.sc (.int .u16 0))))) s2,
  .p (.mv (kc (.tc (.sc (.bool false))))) s3])
 (.seq (.seq (.reg [.p (.ld false 1 (kc (.vptr gwUnpackKnown3 [glUnpackKnown3] 0 0))) s10,
  .p (.len g10 (G2 66 1 1)) s11,
  .p (.mv (kc (.tc (.sc (.int .i64 0))))) s12])
 (.block 0 (.loop 4294967296 (.seq (.reg [.p (.bin .lss g12 g11 (G2 66 2 0)) s13])
 (.seq (.cond g13 .skip
 (.exit 0))
 (.seq (.block 1 (.seq (.reg [.p (.mv g12) s14,
  .p (.ia 10 g10 g12 (G2 66 3 1)) s15,
  .p (.ld true 10 g15) s16,
  .p (.al 10 [(.sc (.int .u8 0)), (.sc (.int .i64 0)), (.sc (.int .i64 0)), (.sc (.int .i64 0)), (.sc (.int .i64 0)), (.sc (.int .i64 0)), (.sc (.int .i64 0)), (.sc (.int .i64 0)), (.sc (.int .i64 0)), (.sc (.int .i64 0))]) s5,
  .p (.mv g14) s4,
  .n (.st 10 g5 g16 (G2 66 3 5))])
 (.seq (.seq (.reg [.p (.fa 0 g5) s17,
  .p (.ld false 1 g17) s18,
  .p (.fa 0 g1) s19,
  .p (.ld false 1 g19) s20,
  .p (.bin .neq g18 g20 (G2 66 4 4)) s21])
 (.cond g21 (.exit 1)
 .skip))
 (.seq (.reg [.p (.ld true 10 g5) s23,
  .p (.ld true 11 g1) s24,
  .p (.mv g4) s25,
  .p (.bin .add g25 (kc (.tc (.sc (.int .i64 1)))) (G2 66 5 3)) s26,
  .p (.call 121 [g23, g24, g26] (G2 66 5 4)) s27,
  .p (.mv g27) s22,
  .p (.ex g22 0) s28,
  .p (.ex g22 1) s29,
  .p (.mv g28) s6,
  .p (.mv g29) s7])
 (.seq (.reg [.p (.mv g6) s31,
  .p (.call 122 [g31] (G2 66 6 1)) s32,
  .p (.mv g32) s30,
  .p (.ex g30 0) s33,
  .p (.ex g30 1) s34,
  .p (.al 11 [(.sc (.int .u8 0)), (.sc (.int .u8 0)), (.sc (.int .u8 0)), (.sc (.int .u8 0)), (.sc (.int .u8 0)), (.sc (.int .u8 0)), (.sc (.int .u8 0)), (.sc (.bool false)), (.sc (.bool false)), (.sc (.int .u16 0)), (.sc (.int .i64 0))]) s8,
  .n (.st 11 g8 g33 (G2 66 6 6)),
  .p (.mv g34) s9])
 (.seq (.reg [.p (.mv g7) s35,
  .p (.mv g35) s36,
  .gp g36 true (.mv g9) s37,
  .p (.pk g36 g37 (kc (.tc (.sc (.bool false))))) s38,
  .p (.mv g38) s39,
  .gp g39 true (.ld true 11 g8) s40,
  .gp g39 true (.ld true 11 g1) s41,
  .gp g39 true (.eqs .eql [(.mk 0 .int), (.mk 1 .int), (.mk 2 .int), (.mk 3 .int), (.mk 4 .int), (.mk 5 .int), (.mk 6 .int), (.mk 7 .bool), (.mk 8 .bool), (.mk 9 .int), (.mk 10 .int)] g40 g41 (G2 66 7 7)) s42,
  .p (.pk g39 g42 (kc (.tc (.sc (.bool false))))) s43])
 (.cond g43 (.seq (.reg [.p (.mv g6) s44,
  .p (.mv g44) s2,
  .p (.mv (kc (.tc (.sc (.bool true))))) s3])
 .ret)
 .skip)))))))
 (.reg [.p (.bin .add g12 (kc (.tc (.sc (.int .i64 1)))) (G2 66 9 0)) s45,
  .p (.mv g45) s12])))))))
 (.seq (.reg [.p (.mv (kc (.tc (.sc (.int .u16 0))))) s2,
  .p (.mv (kc (.tc (.sc (.bool false))))) s3])
 .ret))),
 [.tmp g2, .tmp g3]⟩
theorem ff66_ok : compF SBUnpackKnown 66 = ff66 := by kernel_rfl
noncomputable def ff121 : FF := .t2 ⟨43,
 (.seq (.reg [.p (.bx 10 g0 (G2 121 0 0)) s3,
  .p (.bx 11 g1 (G2 121 0 1)) s4,
  .p (.mv (kc (.tc (.sc (.int .u16 0))))) s6,
  .p (.mv (kc (.tc (.sc (.bool false))))) s7])
 (.seq (.reg [.p (.mv g2) s14,
  .p (.cv .u32 g14 (G2 121 1 1)) s15,
  .p (.call 114 [(kc (.tc (.sc (.int .u32 0)))), (kc (.tc (.sc (.int .i64 11)))), (kc (.tc (.sc (.int .i64 4)))), g15] (G2 121 1 2)) s16,
  .p (.mv g16) s8])
 (.seq (.reg [.p (.mv (kc (.tc (.sc (.int .i64 11))))) s9])
 (.seq (.seq (.reg [.p (.fa 1 g3) s17,
  .p (.ld true 9 g17) s18,
  .p (.mv (kc (.tc (.sc (.int .i64 0))))) s19])
 (.block 0 (.loop 4294967296 (.seq (.reg [.p (.bin .lss g19 (kc (.tc (.sc (.int .i64 3)))) (G2 121 4 0)) s20])
 (.seq (.cond g20 .skip
 (.exit 0))
 (.seq (.block 1 (.seq (.reg [.p (.gen (G2 121 5 0)) s21,
  .p (.al 3 [(.sc (.int .i64 0)), (.sc (.int .i64 0)), (.sc (.int .i64 0))]) s11,
  .n (.st 3 g11 g21 (G2 121 5 2))])
 (.seq (.reg [.p (.ld true 3 g11) s23,
  .p (.ld true 11 g4) s24,
  .p (.call 159 [g23, g24] (G2 121 6 2)) s25,
  .p (.mv g25) s22,
  .p (.ex g22 0) s26,
  .p (.ex g22 1) s27,
  .p (.mv g26) s12,
  .p (.mv g27) s13])
 (.seq (.seq (.reg [.p (.mv g13) s28,
  .p (.nt g28 (G2 121 7 1)) s29])
 (.cond g29 (.seq (.reg [.p (.mv (kc (.tc (.sc (.int .u16 0))))) s6,
  .p (.mv (kc (.tc (.sc (.bool false))))) s7])
 .ret)
 .skip))
 (.seq (.reg [.p (.mv g9) s30,
  .p (.fa 1 g11) s31,
  .p (.ld false 1 g31) s32,
  .p (.bin .sub g30 g32 (G2 121 9 3)) s33,
  .p (.mv g33) s9])
 (.reg [.p (.mv g8) s34,
  .p (.mv g9) s35,
  .p (.fa 1 g11) s36,
  .p (.ld false 1 g36) s37,
  .p (.mv g12) s38,
  .p (.call 114 [g34, g35, g37, g38] (G2 121 10 5)) s39,
  .p (.mv g39) s8]))))))
 (.reg [.p (.bin .add g19 (kc (.tc (.sc (.int .i64 1)))) (G2 121 11 0)) s40,
  .p (.mv g40) s19])))))))
 (.seq (.reg [.p (.mv g8) s41,
  .p (.cv .u16 g41 (G2 121 12 1)) s42,
  .p (.mv g42) s6,
  .p (.mv (kc (.tc (.sc (.bool true))))) s7])
 .ret))))),
 [.tmp g6, .tmp g7]⟩
theorem ff121_ok : compF SBUnpackKnown 121 = ff121 := by kernel_rfl
noncomputable def ff159 : FF := .t3 ⟨67,
 (.seq (.reg [.p (.bx 3 (h0 g0) (G3 159 0 0)) (i0 s2),
  .p (.bx 11 (h0 g1) (G3 159 0 1)) (i0 s3),
  .p (.mv (kc (.tc (.sc (.int .u32 0))))) (i0 s4),
  .p (.mv (kc (.tc (.sc (.bool false))))) (i0 s5)])
 (.seq (.seq (.reg [.p (.fa 0 (h0 g2)) (i0 s8),
  .p (.ld false 1 (h0 g8)) (i0 s9)])
 (.block 0 (.seq (.reg [.p (.bin .eql (h0 g9) (kc (.tc (.sc (.int .i64 1)))) (G3 159 2 0)) (i0 s11),
  .p (.mv (h0 g11)) (i0 s10)])
 (.cond (h0 g10) (.seq (.reg [.p (.fa 1 (h0 g3)) (i0 s12),
  .p (.ld false 1 (h0 g12)) (i0 s13),
  .p (.call 183 [(h0 g13)] (G3 159 3 2)) (i0 s14),
  .p (.ex (h0 g14) 0) (i0 s15),
  .p (.ex (h0 g14) 1) (i0 s16),
  .p (.mv (h0 g15)) (i0 s4),
  .p (.mv (h0 g16)) (i0 s5)])
 .ret)
 (.seq (.reg [.p (.bin .eql (h0 g9) (kc (.tc (.sc (.int .i64 2)))) (G3 159 4 0)) (i0 s18),
  .p (.mv (h0 g18)) (i0 s17)])
 (.cond (h0 g17) (.seq (.reg [.p (.fa 2 (h0 g3)) (i0 s19),
  .p (.ld false 1 (h0 g19)) (i0 s20),
  .p (.call 183 [(h0 g20)] (G3 159 5 2)) (i0 s21),
  .p (.ex (h0 g21) 0) (i0 s22),
  .p (.ex (h0 g21) 1) (i0 s23),
  .p (.mv (h0 g22)) (i0 s4),
  .p (.mv (h0 g23)) (i0 s5)])
 .ret)
 (.seq (.reg [.p (.bin .eql (h0 g9) (kc (.tc (.sc (.int .i64 3)))) (G3 159 6 0)) (i0 s25),
  .p (.mv (h0 g25)) (i0 s24)])
 (.cond (h0 g24) (.seq (.reg [.p (.fa 3 (h0 g3)) (i0 s26),
  .p (.ld false 1 (h0 g26)) (i0 s27),
  .p (.call 183 [(h0 g27)] (G3 159 7 2)) (i0 s28),
  .p (.ex (h0 g28) 0) (i0 s29),
  .p (.ex (h0 g28) 1) (i0 s30),
  .p (.mv (h0 g29)) (i0 s4),
  .p (.mv (h0 g30)) (i0 s5)])
 .ret)
 (.seq (.reg [.p (.bin .eql (h0 g9) (kc (.tc (.sc (.int .i64 4)))) (G3 159 8 0)) (i0 s32),
  .p (.mv (h0 g32)) (i0 s31)])
 (.cond (h0 g31) (.seq (.reg [.p (.fa 1 (h0 g3)) (i0 s34),
  .p (.ld false 1 (h0 g34)) (i0 s35),
  .p (.call 183 [(h0 g35)] (G3 159 9 2)) (i0 s36),
  .p (.mv (h0 g36)) (i0 s33),
  .p (.ex (h0 g33) 0) (i0 s37),
  .p (.ex (h0 g33) 1) (i0 s38),
  .p (.mv (h0 g37)) (i0 s6),
  .p (.mv (h0 g38)) (i0 s7)])
 (.seq (.regD [0, 0, 2, 6, 14, 6, 38, 126, 254, 7, 1023] [.no, .no, .no, .no, (.rd (.ld false 1 (h0 g42)) (h0 g43)), .no, (.rd (.ld false 1 (h0 g44)) (h0 g45)), .no, .no, .no, .no] [.mk .none .yes (.mv (h0 g6)) (.mv (h0 g6)) (some (i0 s39)),
  .mk .none .yes (.mv (h0 g7)) (.mv (h0 g7)) (some (i0 s40)),
  .mk .none .yes (.mv (h0 g40)) (.mv (h0 g40)) (some (i0 s41)),
  .mk (.on (h0 g41) true) .yes (.fa 1 (h0 g3)) (.fa 1 (h0 g3)) (some (i0 s42)),
  .mk (.on (h0 g41) true) .yes (.ld false 1 (h0 g42)) (.ld false 1 (h0 g42)) (some (i0 s43)),
  .mk (.on (h0 g41) true) .yes (.fa 2 (h0 g3)) (.fa 2 (h0 g3)) (some (i0 s44)),
  .mk (.on (h0 g41) true) .yes (.ld false 1 (h0 g44)) (.ld false 1 (h0 g44)) (some (i0 s45)),
  .mk (.on (h0 g41) true) .yes (.bin .eql (h0 g43) (h0 g45) (G3 159 10 7)) (.bin .eql (h0 g43) (h0 g45) (G3 159 10 7)) (some (i0 s46)),
  .mk .none .yes (.pk (h0 g41) (h0 g46) (kc (.tc (.sc (.bool false))))) (.pk (h0 g41) (h0 g46) (kc (.tc (.sc (.bool false))))) (some (i0 s47)),
  .mk .none .yes (.mv (h0 g39)) (.mv (h0 g39)) (some (i0 s4)),
  .mk .none .yes (.mv (h0 g47)) (.mv (h0 g47)) (some (i0 s5))])
 .ret))
 (.seq (.seq (.reg [.p (.bin .eql (h0 g9) (kc (.tc (.sc (.int .i64 5)))) (G3 159 11 0)) (i0 s49),
  .p (.mv (h0 g49)) (i0 s48)])
 (.cond (h0 g48) .skip
 (.reg [.p (.bin .eql (h0 g9) (kc (.tc (.sc (.int .i64 6)))) (G3 159 12 0)) (i0 s50),
  .p (.mv (h0 g50)) (i0 s48)])))
 (.cond (h0 g48) (.seq (.regD [0, 1, 0, 4, 15, 31, 0, 64, 0, 256, 0, 1024, 0, 4096, 12288, 32704, 65535, 131071] [.no, (.rd (.ld false 1 (h0 g51)) (h0 g52)), .no, (.rd (.ld false 1 (h0 g53)) (h0 g54)), .no, (.rd (.cv .u32 (h0 g55) (G3 159 13 5)) (h0 g56)), .no, (.rd (.ld false 1 (h0 g57)) (h0 g58)), .no, (.rd (.ld false 1 (h0 g59)) (h0 g60)), .no, (.rd (.ld false 1 (h0 g61)) (h0 g62)), .no, (.rd (.ld false 1 (h0 g63)) (h1 g0)), .no, .no, .no, .no] [.mk .none .yes (.fa 10 (h0 g3)) (.fa 10 (h0 g3)) (some (i0 s51)),
  .mk .none .yes (.ld false 1 (h0 g51)) (.ld false 1 (h0 g51)) (some (i0 s52)),
  .mk .none .yes (.fa 2 (h0 g2)) (.fa 2 (h0 g2)) (some (i0 s53)),
  .mk .none .yes (.ld false 1 (h0 g53)) (.ld false 1 (h0 g53)) (some (i0 s54)),
  .mk .none .yes (.bin .shr (h0 g52) (h0 g54) (G3 159 13 4)) (.bin .shr (h0 g52) (h0 g54) (G3 159 13 4)) (some (i0 s55)),
  .mk .none .yes (.cv .u32 (h0 g55) (G3 159 13 5)) (.cv .u32 (h0 g55) (G3 159 13 5)) (some (i0 s56)),
  .mk .none .yes (.fa 10 (h0 g3)) (.fa 10 (h0 g3)) (some (i0 s57)),
  .mk .none .yes (.ld false 1 (h0 g57)) (.ld false 1 (h0 g57)) (some (i0 s58)),
  .mk .none .yes (.fa 1 (h0 g2)) (.fa 1 (h0 g2)) (some (i0 s59)),
  .mk .none .yes (.ld false 1 (h0 g59)) (.ld false 1 (h0 g59)) (some (i0 s60)),
  .mk .none .yes (.fa 2 (h0 g2)) (.fa 2 (h0 g2)) (some (i0 s61)),
  .mk .none .yes (.ld false 1 (h0 g61)) (.ld false 1 (h0 g61)) (some (i0 s62)),
  .mk .none .yes (.fa 0 (h0 g2)) (.fa 0 (h0 g2)) (some (i0 s63)),
  .mk .none .yes (.ld false 1 (h0 g63)) (.ld false 1 (h0 g63)) (some (i1 s0)),
  .mk .none .yes (.bin .eql (h1 g0) (kc (.tc (.sc (.int .i64 6)))) (G3 159 13 14)) (.bin .eql (h1 g0) (kc (.tc (.sc (.int .i64 6)))) (G3 159 13 14)) (some (i1 s1)),
  .mk .none (.dyn 152 [(h0 g58), (h0 g60), (h0 g62), (h1 g1)]) (.call 152 [(h0 g58), (h0 g60), (h0 g62), (h1 g1)] (G3 159 13 15)) (.call 152 [(h0 g58), (h0 g60), (h0 g62), (h1 g1)] (G3 159 13 15)) (some (i1 s2)),
  .mk .none .yes (.mv (h0 g56)) (.mv (h0 g56)) (some (i0 s4)),
  .mk .none .yes (.mv (h1 g2)) (.mv (h1 g2)) (some (i0 s5))])
 .ret)
 .skip))))))))))))
 (.seq (.reg [.p (.mv (kc (.tc (.sc (.int .u32 0))))) (i0 s4),
  .p (.mv (kc (.tc (.sc (.bool true))))) (i0 s5)])
 .ret))),
 [.tmp (h0 g4), .tmp (h0 g5)]⟩
theorem ff159_ok : compF SBUnpackKnown 159 = ff159 := by kernel_rfl
noncomputable def ff183 : FF := .t2 ⟨19,
 (.seq (.reg [.p (.mv (kc (.tc (.sc (.int .u32 0))))) s2,
  .p (.mv (kc (.tc (.sc (.bool false))))) s3])
 (.seq (.block 0 (.seq (.reg [.p (.mv g0) s5,
  .p (.bin .lss g5 (kc (.tc (.sc (.int .u8 8)))) (G2 183 1 1)) s6,
  .p (.mv g6) s4])
 (.cond g4 (.seq (.reg [.p (.mv g0) s7,
  .p (.cv .u32 g7 (G2 183 2 1)) s8,
  .p (.mv g8) s2,
  .p (.mv (kc (.tc (.sc (.bool true))))) s3])
 .ret)
 (.seq (.reg [.p (.mv g0) s10,
  .p (.bin .geq g10 (kc (.tc (.sc (.int .u8 16)))) (G2 183 3 1)) s11,
  .p (.mv g11) s12,
  .gp g12 true (.mv g0) s13,
  .gp g12 true (.bin .lss g13 (kc (.tc (.sc (.int .u8 24)))) (G2 183 3 4)) s14,
  .p (.pk g12 g14 (kc (.tc (.sc (.bool false))))) s15,
  .p (.mv g15) s9])
 (.cond g9 (.seq (.reg [.p (.mv g0) s16,
  .p (.bin .sub g16 (kc (.tc (.sc (.int .u8 8)))) (G2 183 4 1)) s17,
  .p (.cv .u32 g17 (G2 183 4 2)) s18,
  .p (.mv g18) s2,
  .p (.mv (kc (.tc (.sc (.bool true))))) s3])
 .ret)
 .skip)))))
 (.seq (.reg [.p (.mv (kc (.tc (.sc (.int .u32 0))))) s2,
  .p (.mv (kc (.tc (.sc (.bool false))))) s3])
 .ret))),
 [.tmp g2, .tmp g3]⟩
theorem ff183_ok : compF SBUnpackKnown 183 = ff183 := by kernel_rfl
noncomputable def ff68 : FF := .t2 ⟨12,
 (.seq (.reg [.p (.mv (kc (.tc (.sc (.int .u32 0))))) s4])
 (.seq (.reg [.p (.mv g0) s5,
  .p (.cv .u32 g5 (G2 68 1 1)) s6,
  .p (.bin .shl g6 (kc (.tc (.sc (.int .u64 15)))) (G2 68 1 2)) s7,
  .p (.mv g1) s8,
  .p (.cv .u32 g8 (G2 68 1 4)) s9,
  .p (.bin .or g7 g9 (G2 68 1 5)) s10,
  .p (.call 69 [g10, (kc (.tc (.sc (.int .u8 0))))] (G2 68 1 6)) s11,
  .p (.mv g11) s4])
 .ret)),
 [.tmp g4]⟩
theorem ff68_ok : compF SBUnpackKnown 68 = ff68 := by kernel_rfl
noncomputable def ff69 : FF := .t2 ⟨23,
 (.seq (.reg [.p (.mv (kc (.tc (.sc (.int .u32 0))))) s4])
 (.seq (.reg [.p (.gen (G2 69 1 0)) s6,
  .p (.ld true 2 g6) s7,
  .p (.mv g0) s8,
  .p (.call 65 [g7, (kc (.tc (.sc (.int .u32 0)))), g8] (G2 69 1 3)) s9,
  .p (.mv g9) s5])
 (.seq (.regD [0, 0, 0, 0, 8, 24, 60, 127, 255] [(.rd (.ld true 2 (kc (.vptr gwUnpackKnown4 [glUnpackKnown4] 0 0))) g10), .no, .no, .no, .no, (.rd (.ld false 1 g14) g15), .no, .no, .no] [.mk .none .yes (.ld true 2 (kc (.vptr gwUnpackKnown4 [glUnpackKnown4] 0 0))) (.ld true 2 (kc (.vptr gwUnpackKnown4 [glUnpackKnown4] 0 0))) (some s10),
  .mk .none .yes (.mv g5) (.mv g5) (some s11),
  .mk .none .yes (.mv g0) (.mv g0) (some s12),
  .mk .none .yes (.gen (G2 69 2 3)) (.gen (G2 69 2 3)) (some s13),
  .mk .none .yes (.fa 1 g13) (.fa 1 g13) (some s14),
  .mk .none .yes (.ld false 1 g14) (.ld false 1 g14) (some s15),
  .mk .none .yes (.bin .shr g12 g15 (G2 69 2 6)) (.bin .shr g12 g15 (G2 69 2 6)) (some s16),
  .mk .none (.dyn 65 [g10, g11, g16]) (.call 65 [g10, g11, g16] (G2 69 2 7)) (.call 65 [g10, g11, g16] (G2 69 2 7)) (some s17),
  .mk .none .yes (.mv g17) (.mv g17) (some s5)])
 (.seq (.reg [.p (.ld true 2 (kc (.vptr gwUnpackKnown2 [glUnpackKnown2] 0 0))) s18,
  .p (.mv g5) s19,
  .p (.mv g1) s20,
  .p (.cv .u32 g20 (G2 69 3 3)) s21,
  .p (.call 65 [g18, g19, g21] (G2 69 3 4)) s22,
  .p (.mv g22) s4])
 .ret)))),
 [.tmp g4]⟩
theorem ff69_ok : compF SBUnpackKnown 69 = ff69 := by kernel_rfl
noncomputable def ff109 : FF := .t2 ⟨29,
 (.seq (.reg [.p (.mv (kc (.tc (.sc (.slice none 0 0))))) s4])
 (.seq (.reg [.p (.mv (kc (.tc (.sc (.slice none 0 0))))) s5])
 (.seq (.seq (.reg [.p (.mv g0) s9,
  .p (.len g9 (G2 109 2 1)) s10,
  .p (.mv (kc (.tc (.sc (.int .i64 0))))) s11])
 (.block 0 (.loop 4294967296 (.seq (.reg [.p (.bin .lss g11 g10 (G2 109 3 0)) s12])
 (.seq (.cond g12 .skip
 (.exit 0))
 (.seq (.block 1 (.seq (.reg [.p (.ia 11 g9 g11 (G2 109 4 0)) s13,
  .p (.ld true 11 g13) s14,
  .p (.al 11 [(.sc (.int .u8 0)), (.sc (.int .u8 0)), (.sc (.int .u8 0)), (.sc (.int .u8 0)), (.sc (.int .u8 0)), (.sc (.int .u8 0)), (.sc (.int .u8 0)), (.sc (.bool false)), (.sc (.bool false)), (.sc (.int .u16 0)), (.sc (.int .i64 0))]) s7,
  .n (.st 11 g7 g14 (G2 109 4 3))])
 (.seq (.reg [.p (.ld true 11 g7) s15,
  .p (.call 123 [g15] (G2 109 5 1)) s16,
  .p (.call 150 [g16] (G2 109 5 2)) s17,
  .p (.mv g1) s18,
  .p (.bin .and g17 g18 (G2 109 5 4)) s19,
  .p (.mv g19) s8])
 (.seq (.seq (.reg [.p (.ld true 11 g7) s20,
  .p (.call 104 [g20] (G2 109 6 1)) s21,
  .p (.nt g21 (G2 109 6 2)) s22])
 (.cond g22 (.reg [.p (.mv (kc (.tc (.sc (.int .u8 0))))) s8])
 .skip))
 (.reg [.p (.mv g5) s23,
  .p (.mv g8) s24,
  .p (.bs 1 1 [[(.tc (.sc (.int .u8 0)))]] [(.mk 0 1 g24)] (G2 109 8 2)) s25,
  .p (.ap 1 1 g23 g25) s26,
  .p (.mv g26) s5])))))
 (.reg [.p (.bin .add g11 (kc (.tc (.sc (.int .i64 1)))) (G2 109 9 0)) s27,
  .p (.mv g27) s11])))))))
 (.seq (.reg [.p (.mv g5) s28,
  .p (.mv g28) s4])
 .ret)))),
 [.tmp g4]⟩
theorem ff109_ok : compF SBUnpackKnown 109 = ff109 := by kernel_rfl
noncomputable def ff108 : FF := .t2 ⟨11,
 (.seq (.reg [.p (.mv (kc (.tc (.sc (.bool false))))) s2])
 (.seq (.reg [.p (.mv g0) s3,
  .p (.len g3 (G2 108 1 1)) s4,
  .p (.bin .leq g4 (kc (.tc (.sc (.int .i64 4)))) (G2 108 1 2)) s5,
  .p (.mv g5) s6,
  .gp g6 true (.mv g0) s7,
  .gp g6 true (.call 148 [g7, (kc (.tc (.sc (.slice none 0 0))))] (G2 108 1 5)) s8,
  .gp g6 true (.call 149 [g8, (kc (.tc (.sc (.int .i64 0))))] (G2 108 1 6)) s9,
  .p (.pk g6 g9 (kc (.tc (.sc (.bool false))))) s10,
  .p (.mv g10) s2])
 .ret)),
 [.tmp g2]⟩
theorem ff108_ok : compF SBUnpackKnown 108 = ff108 := by kernel_rfl
noncomputable def ff148 : FF := .t2 ⟨27,
 (.seq (.reg [.p (.mv (kc (.tc (.sc (.pointer none))))) s4])
 (.seq (.reg [.p (.mv g0) s8,
  .p (.gen (G2 148 1 1)) s9,
  .p (.bd [(.tc (.sc (.slice none 0 0))), (.tc (.sc (.int .i64 0))), (.tc (.sc (.int .i64 0))), (.tc (.sc (.int .i64 0))), (.tc (.sc (.int .i64 0)))] [(.mk 0 1 g8), (.mk 1 4 g9)] (G2 148 1 2)) s10,
  .p (.bx 5 g10 (G2 148 1 3)) s11,
  .p (.mv g11) s5])
 (.seq (.seq (.reg [.p (.mv g1) s12,
  .p (.len g12 (G2 148 2 1)) s13,
  .p (.mv (kc (.tc (.sc (.int .i64 0))))) s14])
 (.block 0 (.loop 4294967296 (.seq (.reg [.p (.bin .lss g14 g13 (G2 148 3 0)) s15])
 (.seq (.cond g15 .skip
 (.exit 0))
 (.seq (.block 1 (.seq (.reg [.p (.mv g14) s16,
  .p (.ia 1 g12 g14 (G2 148 4 1)) s17,
  .p (.ld false 1 g17) s18,
  .p (.mv g16) s6,
  .p (.mv g18) s7])
 (.reg [.p (.mv g5) s19,
  .p (.mv g7) s20,
  .p (.mv g6) s21,
  .p (.nc g19 (G2 148 5 3)) s22,
  .p (.fa 1 g22) s23,
  .p (.gen (G2 148 5 5)) s24,
  .n (.st 1 g24 g21 (G2 148 5 6))])))
 (.reg [.p (.bin .add g14 (kc (.tc (.sc (.int .i64 1)))) (G2 148 6 0)) s25,
  .p (.mv g25) s14])))))))
 (.seq (.reg [.p (.mv g5) s26,
  .p (.mv g26) s4])
 .ret)))),
 [.tmp g4]⟩
theorem ff148_ok : compF SBUnpackKnown 148 = ff148 := by kernel_rfl
noncomputable def ff149 : FF := .t2 ⟨23,
 (.seq (.reg [.p (.mv (kc (.tc (.sc (.bool false))))) s4])
 (.seq (.seq (.reg [.p (.mv g1) s6,
  .p (.mv g6) s5])
 (.block 0 (.loop 4294967296 (.seq (.seq (.reg [.p (.mv g5) s7,
  .p (.mv g0) s8,
  .p (.nc g8 (G2 149 2 2)) s9,
  .p (.fa 0 g9) s10,
  .p (.ld false 1 g10) s11,
  .p (.len g11 (G2 149 2 5)) s12,
  .p (.bin .lss g7 g12 (G2 149 2 6)) s13])
 (.cond g13 .skip
 (.exit 0)))
 (.seq (.block 1 (.seq (.reg [.p (.mv g0) s16,
  .p (.mv g5) s17,
  .p (.gen (G2 149 3 2)) s18,
  .p (.bx 4 g18 (G2 149 3 3)) s19,
  .p (.mv g1) s20,
  .p (.call 171 [g16, g17, g19, g20] (G2 149 3 5)) s21,
  .p (.nt g21 (G2 149 3 6)) s22])
 (.cond g22 (.seq (.reg [.p (.mv (kc (.tc (.sc (.bool false))))) s4])
 .ret)
 .skip)))
 (.reg [.p (.mv g5) s14,
  .p (.bin .add g14 (kc (.tc (.sc (.int .i64 1)))) (G2 149 5 1)) s15,
  .p (.mv g15) s5]))))))
 (.seq (.reg [.p (.mv (kc (.tc (.sc (.bool true))))) s4])
 .ret))),
 [.tmp g4]⟩
theorem ff149_ok : compF SBUnpackKnown 149 = ff149 := by kernel_rfl
noncomputable def ff171 : FF := .t2 ⟨64,
 (.seq (.reg [.p (.mv (kc (.tc (.sc (.bool false))))) s8])
 (.seq (.seq (.reg [.p (.mv (kc (.tc (.sc (.int .i64 0))))) s11])
 (.block 0 (.loop 4294967296 (.seq (.reg [.p (.bin .lss g11 (kc (.tc (.sc (.int .i64 4)))) (G2 171 2 0)) s12])
 (.seq (.cond g12 .skip
 (.exit 0))
 (.seq (.block 1 (.seq (.reg [.p (.mv g11) s13,
  .p (.mv g13) s9])
 (.seq (.seq (.reg [.p (.mv g0) s14,
  .p (.nc g14 (G2 171 4 1)) s15,
  .p (.fa 0 g15) s16,
  .p (.ld false 1 g16) s17,
  .p (.mv g1) s18,
  .p (.ia 1 g17 g18 (G2 171 4 5)) s19,
  .p (.ld false 1 g19) s20,
  .p (.mv g9) s21,
  .p (.bin .shr g20 g21 (G2 171 4 8)) s22,
  .p (.bin .and g22 (kc (.tc (.sc (.int .u8 1)))) (G2 171 4 9)) s23,
  .p (.bin .eql g23 (kc (.tc (.sc (.int .u8 0)))) (G2 171 4 10)) s24,
  .p (.mv g24) s25,
  .gp g25 false (.mv g2) s26,
  .gp g25 false (.mv g9) s27,
  .gp g25 false (.nc g26 (G2 171 4 14)) s28,
  .gp g25 false (.gen (G2 171 4 15)) s29,
  .gp g25 false (.ld false 1 g29) s30,
  .p (.pk g25 (kc (.tc (.sc (.bool true)))) g30) s31])
 (.cond g31 (.exit 1)
 .skip))
 (.seq (.reg [.p (.mv g2) s32,
  .p (.mv g9) s33,
  .p (.nc g32 (G2 171 5 2)) s34,
  .p (.gen (G2 171 5 3)) s35,
  .n (.st 1 g35 (kc (.tc (.sc (.bool true)))) (G2 171 5 4))])
 (.seq (.reg [.p (.mv g0) s36,
  .p (.mv g9) s37,
  .p (.nc g36 (G2 171 6 2)) s38,
  .p (.fa 1 g38) s39,
  .p (.gen (G2 171 6 4)) s40,
  .p (.ld false 1 g40) s41,
  .p (.mv g41) s10])
 (.seq (.seq (.reg [.p (.mv g10) s42,
  .p (.bin .geq g42 (kc (.tc (.sc (.int .i64 0)))) (G2 171 7 1)) s43,
  .p (.mv g43) s44,
  .gp g44 true (.mv g10) s45,
  .gp g44 true (.mv g3) s46,
  .gp g44 true (.bin .lss g45 g46 (G2 171 7 5)) s47,
  .gp g44 true (.mv g47) s48,
  .gp g48 false (.mv g0) s49,
  .gp g48 false (.mv g10) s50,
  .gp g48 false (.mv g2) s51,
  .gp g48 false (.mv g3) s52,
  .gp g48 false (.call 171 [g49, g50, g51, g52] (G2 171 7 11)) s53,
  .gp g48 false (.nt g53 (G2 171 7 12)) s54,
  .gp g44 true (.pk g48 (kc (.tc (.sc (.bool true)))) g54) s55,
  .p (.pk g44 g55 (kc (.tc (.sc (.bool false))))) s56])
 (.cond g56 (.exit 1)
 .skip))
 (.seq (.reg [.p (.mv g0) s57,
  .p (.mv g9) s58,
  .p (.mv g1) s59,
  .p (.nc g57 (G2 171 8 3)) s60,
  .p (.fa 1 g60) s61,
  .p (.gen (G2 171 8 5)) s62,
  .n (.st 1 g62 g59 (G2 171 8 6))])
 (.seq (.reg [.p (.mv (kc (.tc (.sc (.bool true))))) s8])
 .ret))))))))
 (.reg [.p (.bin .add g11 (kc (.tc (.sc (.int .i64 1)))) (G2 171 10 0)) s63,
  .p (.mv g63) s11])))))))
 (.seq (.reg [.p (.mv (kc (.tc (.sc (.bool false))))) s8])
 .ret))),
 [.tmp g8]⟩
theorem ff171_ok : compF SBUnpackKnown 171 = ff171 := by kernel_rfl
noncomputable def ff56 : FF := .t2 ⟨26,
 (.seq (.reg [.p (.bx 5 g0 (G2 56 0 0)) s1,
  .p (.mv (kc (.tc (.sc (.int .i64 0))))) s2])
 (.seq (.reg [.p (.fa 0 g1) s6,
  .p (.ld false 1 g6) s7,
  .p (.len g7 (G2 56 1 2)) s8,
  .p (.mv g8) s3])
 (.seq (.seq (.reg [.p (.fa 0 g1) s9,
  .p (.ld false 1 g9) s10,
  .p (.len g10 (G2 56 2 2)) s11,
  .p (.mv (kc (.tc (.sc (.int .i64 0))))) s12])
 (.block 0 (.loop 4294967296 (.seq (.reg [.p (.bin .lss g12 g11 (G2 56 3 0)) s13])
 (.seq (.cond g13 .skip
 (.exit 0))
 (.seq (.block 1 (.seq (.reg [.p (.ia 11 g10 g12 (G2 56 4 0)) s14,
  .p (.ld true 11 g14) s15,
  .p (.al 11 [(.sc (.int .u8 0)), (.sc (.int .u8 0)), (.sc (.int .u8 0)), (.sc (.int .u8 0)), (.sc (.int .u8 0)), (.sc (.int .u8 0)), (.sc (.int .u8 0)), (.sc (.bool false)), (.sc (.bool false)), (.sc (.int .u16 0)), (.sc (.int .i64 0))]) s5,
  .n (.st 11 g5 g15 (G2 56 4 3))])
 (.seq (.reg [.p (.fa 8 g5) s16,
  .p (.ld false 1 g16) s17])
 (.cond g17 (.reg [.p (.mv g3) s18,
  .p (.bin .add g18 (kc (.tc (.sc (.int .i64 1)))) (G2 56 6 1)) s19,
  .p (.mv g19) s3])
 .skip))))
 (.reg [.p (.bin .add g12 (kc (.tc (.sc (.int .i64 1)))) (G2 56 7 0)) s20,
  .p (.mv g20) s12])))))))
 (.seq (.seq (.reg [.p (.fa 4 g1) s21,
  .p (.ld false 1 g21) s22])
 (.cond g22 (.reg [.p (.mv g3) s23,
  .p (.bin .sub g23 (kc (.tc (.sc (.int .i64 1)))) (G2 56 9 1)) s24,
  .p (.mv g24) s3])
 .skip))
 (.seq (.reg [.p (.mv g3) s25,
  .p (.mv g25) s2])
 .ret))))),
 [.tmp g2]⟩
theorem ff56_ok : compF SBUnpackKnown 56 = ff56 := by kernel_rfl
noncomputable def ff57 : FF := .t2 ⟨21,
 (.seq (.reg [.p (.bx 5 g0 (G2 57 0 0)) s1,
  .p (.mv (kc (.tc (.sc (.bool false))))) s2])
 (.seq (.reg [.p (.ld true 5 g1) s4,
  .p (.call 56 [g4] (G2 57 1 1)) s5,
  .p (.mv g5) s3])
 (.seq (.reg [.p (.fa 1 g1) s6,
  .p (.ld false 1 g6) s7,
  .p (.mv g7) s8,
  .gp g8 true (.mv g3) s9,
  .gp g8 true (.bin .lss g9 (kc (.tc (.sc (.int .i64 2)))) (G2 57 2 4)) s10,
  .p (.pk g8 g10 (kc (.tc (.sc (.bool false))))) s11,
  .p (.mv g11) s12,
  .gp g12 false (.fa 2 g1) s13,
  .gp g12 false (.ld false 1 g13) s14,
  .gp g12 false (.mv g14) s15,
  .gp g15 true (.mv g3) s16,
  .gp g15 true (.bin .lss g16 (kc (.tc (.sc (.int .i64 3)))) (G2 57 2 11)) s17,
  .gp g12 false (.pk g15 g17 (kc (.tc (.sc (.bool false))))) s18,
  .p (.pk g12 (kc (.tc (.sc (.bool true)))) g18) s19,
  .p (.nt g19 (G2 57 2 14)) s20,
  .p (.mv g20) s2])
 .ret))),
 [.tmp g2]⟩
theorem ff57_ok : compF SBUnpackKnown 57 = ff57 := by kernel_rfl
noncomputable def ff12 : FF := .t2 ⟨35,
 (.seq (.reg [.p (.al 5 [(.sc (.slice none 0 0)), (.sc (.bool false)), (.sc (.bool false)), (.sc (.bool false)), (.sc (.bool false))]) s4,
  .p (.mv (kc (.tc (.sc (.bool false))))) s5])
 (.seq (.reg [.p (.mv g0) s11,
  .p (.mv g1) s12,
  .p (.call 11 [g11, g12] (G2 12 1 2)) s13,
  .p (.mv g13) s10,
  .p (.ex g10 0) s14,
  .p (.ex g10 1) s15,
  .p (.al 5 [(.sc (.slice none 0 0)), (.sc (.bool false)), (.sc (.bool false)), (.sc (.bool false)), (.sc (.bool false))]) s6,
  .n (.st 5 g6 g14 (G2 12 1 7)),
  .p (.mv g15) s7])
 (.seq (.seq (.reg [.p (.mv g7) s16,
  .p (.bin .neq g16 (kc (.tc (.sc (.int .i64 0)))) (G2 12 2 1)) s17])
 (.cond g17 (.seq (.reg [.p (.bd [(.tc (.sc (.slice none 0 0))), (.tc (.sc (.bool false))), (.tc (.sc (.bool false))), (.tc (.sc (.bool false))), (.tc (.sc (.bool false)))] [] (G2 12 3 0)) s18,
  .n (.st 5 g4 g18 (G2 12 3 1)),
  .p (.mv (kc (.tc (.sc (.bool false))))) s5])
 .ret)
 .skip))
 (.seq (.seq (.reg [.p (.ld true 5 g6) s20,
  .p (.mv g1) s21,
  .p (.call 7 [g20, g21] (G2 12 4 2)) s22,
  .p (.mv g22) s19,
  .p (.ex g19 0) s23,
  .p (.ex g19 1) s24,
  .p (.mv g23) s8,
  .p (.mv g24) s9])
 (.seq (.reg [.p (.mv g9) s25,
  .p (.bin .neq g25 (kc (.tc (.sc (.int .i64 0)))) (G2 12 5 1)) s26,
  .p (.mv g26) s27,
  .gp g27 false (.mv g8) s28,
  .gp g27 false (.mv g0) s29,
  .gp g27 false (.call 41 [g28, g29] (G2 12 5 5)) s30,
  .gp g27 false (.nt g30 (G2 12 5 6)) s31,
  .p (.pk g27 (kc (.tc (.sc (.bool true)))) g31) s32])
 (.cond g32 (.seq (.reg [.p (.bd [(.tc (.sc (.slice none 0 0))), (.tc (.sc (.bool false))), (.tc (.sc (.bool false))), (.tc (.sc (.bool false))), (.tc (.sc (.bool false)))] [] (G2 12 6 0)) s33,
  .n (.st 5 g4 g33 (G2 12 6 1)),
  .p (.mv (kc (.tc (.sc (.bool false))))) s5])
 .ret)
 .skip)))
 (.seq (.reg [.p (.ld true 5 g6) s34,
  .n (.st 5 g4 g34 (G2 12 7 1)),
  .p (.mv (kc (.tc (.sc (.bool true))))) s5])
 .ret))))),
 [.cell g4 true 5, .tmp g5]⟩
theorem ff12_ok : compF SBUnpackKnown 12 = ff12 := by kernel_rfl
noncomputable def ff7 : FF := .t3 ⟨96,
 (.seq (.reg [.p (.bx 5 (h0 g0) (G3 7 0 0)) (i0 s2),
  .p (.mv (kc (.tc (.sc (.slice none 0 0))))) (i0 s4),
  .p (.mv (kc (.tc (.sc (.int .i64 0))))) (i0 s5)])
 (.seq (.seq (.reg [.p (.ld true 5 (h0 g2)) (i0 s16),
  .p (.call 30 [(h0 g16)] (G3 7 1 1)) (i0 s17),
  .p (.mv (h0 g17)) (i0 s6)])
 (.seq (.reg [.p (.mv (h0 g6)) (i0 s18),
  .p (.bin .neq (h0 g18) (kc (.tc (.sc (.int .i64 0)))) (G3 7 2 1)) (i0 s19)])
 (.cond (h0 g19) (.seq (.reg [.p (.mv (h0 g6)) (i0 s20),
  .p (.mv (kc (.tc (.sc (.slice none 0 0))))) (i0 s4),
  .p (.mv (h0 g20)) (i0 s5)])
 .ret)
 .skip)))
 (.seq (.reg [.p (.fa 0 (h0 g2)) (i0 s22),
  .p (.ld false 1 (h0 g22)) (i0 s23),
  .p (.mv (h0 g1)) (i0 s24),
  .p (.call 31 [(h0 g23), (h0 g24)] (G3 7 4 3)) (i0 s25),
  .p (.mv (h0 g25)) (i0 s21),
  .p (.ex (h0 g21) 0) (i0 s26),
  .p (.ex (h0 g21) 1) (i0 s27),
  .p (.mv (h0 g26)) (i0 s7),
  .p (.mv (h0 g27)) (i0 s8)])
 (.seq (.seq (.reg [.p (.mv (h0 g8)) (i0 s28),
  .p (.nt (h0 g28) (G3 7 5 1)) (i0 s29)])
 (.cond (h0 g29) (.seq (.reg [.p (.mv (kc (.tc (.sc (.slice none 0 0))))) (i0 s4),
  .p (.mv (kc (.tc (.sc (.int .i64 6))))) (i0 s5)])
 .ret)
 .skip))
 (.seq (.reg [.p (.mv (kc (.tc (.sc (.int .i64 (-1)))))) (i0 s9),
  .p (.mv (kc (.tc (.sc (.int .i64 (-1)))))) (i0 s10)])
 (.seq (.seq (.reg [.p (.fa 4 (h0 g2)) (i0 s30),
  .p (.ld false 1 (h0 g30)) (i0 s31)])
 (.cond (h0 g31) (.reg [.p (.mv (h0 g7)) (i0 s33),
  .p (.call 33 [(h0 g33)] (G3 7 9 1)) (i0 s34),
  .p (.call 32 [(h0 g34)] (G3 7 9 2)) (i0 s35),
  .p (.mv (h0 g35)) (i0 s32),
  .p (.ex (h0 g32) 0) (i0 s36),
  .p (.ex (h0 g32) 1) (i0 s37),
  .p (.ex (h0 g32) 2) (i0 s38),
  .p (.mv (h0 g36)) (i0 s9),
  .p (.mv (h0 g37)) (i0 s10)])
 .skip))
 (.seq (.reg [.p (.mv (kc (.tc (.sc (.slice none 0 0))))) (i0 s11)])
 (.seq (.seq (.reg [.p (.mv (h0 g7)) (i0 s39),
  .p (.len (h0 g39) (G3 7 11 1)) (i0 s40),
  .p (.mv (kc (.tc (.sc (.int .i64 0))))) (i0 s41)])
 (.block 0 (.loop 4294967296 (.seq (.reg [.p (.bin .lss (h0 g41) (h0 g40) (G3 7 12 0)) (i0 s42)])
 (.seq (.cond (h0 g42) .skip
 (.exit 0))
 (.seq (.block 1 (.seq (.reg [.p (.mv (h0 g41)) (i0 s43),
  .p (.ia 15 (h0 g39) (h0 g41) (G3 7 13 1)) (i0 s44),
  .p (.ld true 15 (h0 g44)) (i0 s45),
  .p (.al 15 [(.sc (.int .i64 0)), (.sc (.int .u32 0)), (.sc (.int .u32 0)), (.sc (.bool false)), (.sc (.int .u8 0)), (.sc (.int .u8 0)), (.sc (.int .u8 0)), (.sc (.int .u8 0)), (.sc (.int .u8 0)), (.sc (.int .u8 0)), (.sc (.int .u8 0)), (.sc (.bool false)), (.sc (.bool false)), (.sc (.int .u16 0)), (.sc (.int .i64 0))]) (i0 s13),
  .p (.mv (h0 g43)) (i0 s12),
  .n (.st 15 (h0 g13) (h0 g45) (G3 7 13 5))])
 (.seq (.seq (.reg [.p (.mv (h0 g12)) (i0 s46),
  .p (.mv (h0 g9)) (i0 s47),
  .p (.bin .eql (h0 g46) (h0 g47) (G3 7 14 2)) (i0 s48),
  .p (.mv (h0 g48)) (i0 s49),
  .gp (h0 g49) false (.mv (h0 g12)) (i0 s50),
  .gp (h0 g49) false (.mv (h0 g10)) (i0 s51),
  .gp (h0 g49) false (.bin .eql (h0 g50) (h0 g51) (G3 7 14 6)) (i0 s52),
  .p (.pk (h0 g49) (kc (.tc (.sc (.bool true)))) (h0 g52)) (i0 s53)])
 (.cond (h0 g53) (.exit 1)
 .skip))
 (.seq (.seq (.reg [.p (.fa 0 (h0 g13)) (i0 s54),
  .p (.fa 3 (h0 g54)) (i0 s55),
  .p (.ld false 1 (h0 g55)) (i0 s56)])
 (.cond (h0 g56) (.reg [.p (.mv (h0 g11)) (i0 s57),
  .p (.fa 0 (h0 g13)) (i0 s58),
  .p (.fa 2 (h0 g58)) (i0 s59),
  .p (.ld false 1 (h0 g59)) (i0 s60),
  .p (.call 34 [(kc (.tc (.sc (.int .u8 0)))), (h0 g60), (kc (.tc (.sc (.int .u8 0))))] (G3 7 16 4)) (i0 s61),
  .p (.bs 1 1 [[(.tc (.sc (.int .u32 0)))]] [(.mk 0 1 (h0 g61))] (G3 7 16 5)) (i0 s62),
  .p (.ap 1 4 (h0 g57) (h0 g62)) (i0 s63),
  .p (.mv (h0 g63)) (i0 s11)])
 .skip))
 (.reg [.p (.mv (h0 g11)) (i1 s0),
  .p (.fa 0 (h0 g13)) (i1 s1),
  .p (.fa 1 (h1 g1)) (i1 s2),
  .p (.ld false 1 (h1 g2)) (i1 s3),
  .p (.bs 1 1 [[(.tc (.sc (.int .u32 0)))]] [(.mk 0 1 (h1 g3))] (G3 7 17 4)) (i1 s4),
  .p (.ap 1 4 (h1 g0) (h1 g4)) (i1 s5),
  .p (.mv (h1 g5)) (i0 s11)])))))
 (.reg [.p (.bin .add (h0 g41) (kc (.tc (.sc (.int .i64 1)))) (G3 7 18 0)) (i1 s6),
  .p (.mv (h1 g6)) (i0 s41)])))))))
 (.seq (.seq (.reg [.p (.fa 4 (h0 g2)) (i1 s7),
  .p (.ld false 1 (h1 g7)) (i1 s8)])
 (.cond (h1 g8) (.seq (.regD [0, 0, 3, 7, 15, 0, 0, 96, 224, 480, 1023, 2047, 4095, 4095, 8191, 32767] [.no, .no, .no, .no, (.rd (.ld true 11 (h1 g13)) (h1 g14)), .no, .no, .no, .no, (.rd (.ld true 11 (h1 g18)) (h1 g19)), .no, .no, .no, .no, .no, .no] [.mk .none .yes (.mv (h0 g7)) (.mv (h0 g7)) (some (i1 s10)),
  .mk .none .yes (.mv (h0 g9)) (.mv (h0 g9)) (some (i1 s11)),
  .mk .none .yes (.ia 15 (h1 g10) (h1 g11) (G3 7 20 2)) (.ia 15 (h1 g10) (h1 g11) (G3 7 20 2)) (some (i1 s12)),
  .mk .none .yes (.fa 4 (h1 g12)) (.fa 4 (h1 g12)) (some (i1 s13)),
  .mk .none .yes (.ld true 11 (h1 g13)) (.ld true 11 (h1 g13)) (some (i1 s14)),
  .mk .none .yes (.mv (h0 g7)) (.mv (h0 g7)) (some (i1 s15)),
  .mk .none .yes (.mv (h0 g10)) (.mv (h0 g10)) (some (i1 s16)),
  .mk .none .yes (.ia 15 (h1 g15) (h1 g16) (G3 7 20 7)) (.ia 15 (h1 g15) (h1 g16) (G3 7 20 7)) (some (i1 s17)),
  .mk .none .yes (.fa 4 (h1 g17)) (.fa 4 (h1 g17)) (some (i1 s18)),
  .mk .none .yes (.ld true 11 (h1 g18)) (.ld true 11 (h1 g18)) (some (i1 s19)),
  .mk .none (.dyn 35 [(h1 g14), (h1 g19)]) (.call 35 [(h1 g14), (h1 g19)] (G3 7 20 10)) (.call 35 [(h1 g14), (h1 g19)] (G3 7 20 10)) (some (i1 s20)),
  .mk .none .yes (.mv (h1 g20)) (.mv (h1 g20)) (some (i1 s9)),
  .mk .none .yes (.ex (h1 g9) 0) (.ex (h1 g9) 0) (some (i1 s21)),
  .mk .none .yes (.ex (h1 g9) 1) (.ex (h1 g9) 1) (some (i1 s22)),
  .mk .none .yes (.mv (h1 g21)) (.mv (h1 g21)) (some (i0 s14)),
  .mk .none .yes (.mv (h1 g22)) (.mv (h1 g22)) (some (i0 s15))])
 (.seq (.seq (.reg [.p (.mv (h0 g15)) (i1 s23),
  .p (.nt (h1 g23) (G3 7 21 1)) (i1 s24)])
 (.cond (h1 g24) (.seq (.reg [.p (.mv (kc (.tc (.sc (.slice none 0 0))))) (i0 s4),
  .p (.mv (kc (.tc (.sc (.int .i64 9))))) (i0 s5)])
 .ret)
 .skip))
 (.reg [.p (.mv (h0 g11)) (i1 s25),
  .p (.mv (h0 g14)) (i1 s26),
  .p (.bs 1 1 [[(.tc (.sc (.int .u32 0)))]] [(.mk 0 1 (h1 g26))] (G3 7 23 2)) (i1 s27),
  .p (.ap 1 4 (h1 g25) (h1 g27)) (i1 s28),
  .p (.mv (h1 g28)) (i0 s11)])))
 .skip))
 (.seq (.reg [.p (.ld true 5 (h0 g2)) (i1 s29),
  .p (.mv (h0 g11)) (i1 s30),
  .p (.call 36 [(h1 g29), (h1 g30)] (G3 7 24 2)) (i1 s31),
  .p (.mv (h1 g31)) (i0 s4),
  .p (.mv (kc (.tc (.sc (.int .i64 0))))) (i0 s5)])
 .ret)))))))))),
 [.tmp (h0 g4), .tmp (h0 g5)]⟩
theorem ff7_ok : compF SBUnpackKnown 7 = ff7 := by kernel_rfl
noncomputable def ff31 : FF := .t2 ⟨55,
 (.seq (.reg [.p (.mv (kc (.tc (.sc (.slice none 0 0))))) s4,
  .p (.mv (kc (.tc (.sc (.bool false))))) s5])
 (.seq (.seq (.reg [.p (.mv g0) s14,
  .p (.len g14 (G2 31 1 1)) s15,
  .p (.bin .gtr g15 (kc (.tc (.sc (.int .i64 4)))) (G2 31 1 2)) s16])
 (.cond g16 (.seq (.reg [.p (.mv (kc (.tc (.sc (.slice none 0 0))))) s4,
  .p (.mv (kc (.tc (.sc (.bool false))))) s5])
 .ret)
 .skip))
 (.seq (.reg [.p (.mv (kc (.tc (.sc (.slice none 0 0))))) s6])
 (.seq (.seq (.reg [.p (.mv g0) s17,
  .p (.len g17 (G2 31 4 1)) s18,
  .p (.mv (kc (.tc (.sc (.int .i64 0))))) s19])
 (.block 0 (.loop 4294967296 (.seq (.reg [.p (.bin .lss g19 g18 (G2 31 5 0)) s20])
 (.seq (.cond g20 .skip
 (.exit 0))
 (.seq (.block 1 (.seq (.reg [.p (.ia 11 g17 g19 (G2 31 6 0)) s21,
  .p (.ld true 11 g21) s22,
  .p (.al 11 [(.sc (.int .u8 0)), (.sc (.int .u8 0)), (.sc (.int .u8 0)), (.sc (.int .u8 0)), (.sc (.int .u8 0)), (.sc (.int .u8 0)), (.sc (.int .u8 0)), (.sc (.bool false)), (.sc (.bool false)), (.sc (.int .u16 0)), (.sc (.int .i64 0))]) s8,
  .n (.st 11 g8 g22 (G2 31 6 3))])
 (.seq (.reg [.p (.ld true 11 g8) s24,
  .p (.mv g1) s25,
  .p (.call 58 [g24, g25] (G2 31 7 2)) s26,
  .p (.mv g26) s23,
  .p (.ex g23 0) s27,
  .p (.ex g23 1) s28,
  .p (.ex g23 2) s29,
  .p (.mv g27) s9,
  .p (.mv g28) s10,
  .p (.mv g29) s11])
 (.seq (.seq (.reg [.p (.mv g11) s30,
  .p (.nt g30 (G2 31 8 1)) s31])
 (.cond g31 (.seq (.reg [.p (.mv (kc (.tc (.sc (.slice none 0 0))))) s4,
  .p (.mv (kc (.tc (.sc (.bool false))))) s5])
 .ret)
 .skip))
 (.seq (.reg [.p (.fa 0 g8) s33,
  .p (.ld false 1 g33) s34,
  .p (.call 59 [g34] (G2 31 10 2)) s35,
  .p (.mv g35) s32,
  .p (.ex g32 0) s36,
  .p (.ex g32 1) s37,
  .p (.al 5 [(.sc (.int .u8 0)), (.sc (.string ⟨#[]⟩)), (.sc (.int .u8 0)), (.sc (.int .u8 0)), (.sc (.slice none 0 0))]) s12,
  .n (.st 5 g12 g36 (G2 31 10 7)),
  .p (.mv g37) s13])
 (.regD [0, 0, 2, 6, 0, 0, 0, 64, 254, 0, 1022, 2046, 4095, 8191] [.no, .no, (.rd (.ld false 1 g39) g40), .no, .no, .no, .no, (.rd (.ld false 1 g44) g45), .no, (.rd (.ld true 11 g8) g47), .no, .no, .no, .no] [.mk .none .yes (.mv g6) (.mv g6) (some s38),
  .mk .none .yes (.fa 2 g12) (.fa 2 g12) (some s39),
  .mk .none .yes (.ld false 1 g39) (.ld false 1 g39) (some s40),
  .mk .none (.dyn 60 [g40]) (.call 60 [g40] (G2 31 11 3)) (.call 60 [g40] (G2 31 11 3)) (some s41),
  .mk .none .yes (.mv g9) (.mv g9) (some s42),
  .mk .none .yes (.mv g10) (.mv g10) (some s43),
  .mk .none .yes (.fa 8 g8) (.fa 8 g8) (some s44),
  .mk .none .yes (.ld false 1 g44) (.ld false 1 g44) (some s45),
  .mk .none .yes (.bd [(.tc (.sc (.int .i64 0))), (.tc (.sc (.int .u32 0))), (.tc (.sc (.int .u32 0))), (.tc (.sc (.bool false)))] [(.mk 0 1 g41), (.mk 1 1 g42), (.mk 2 1 g43), (.mk 3 1 g45)] (G2 31 11 8)) (.bd [(.tc (.sc (.int .i64 0))), (.tc (.sc (.int .u32 0))), (.tc (.sc (.int .u32 0))), (.tc (.sc (.bool false)))] [(.mk 0 1 g41), (.mk 1 1 g42), (.mk 2 1 g43), (.mk 3 1 g45)] (G2 31 11 8)) (some s46),
  .mk .none .yes (.ld true 11 g8) (.ld true 11 g8) (some s47),
  .mk .none .yes (.bd [(.tc (.sc (.int .i64 0))), (.tc (.sc (.int .u32 0))), (.tc (.sc (.int .u32 0))), (.tc (.sc (.bool false))), (.tc (.sc (.int .u8 0))), (.tc (.sc (.int .u8 0))), (.tc (.sc (.int .u8 0))), (.tc (.sc (.int .u8 0))), (.tc (.sc (.int .u8 0))), (.tc (.sc (.int .u8 0))), (.tc (.sc (.int .u8 0))), (.tc (.sc (.bool false))), (.tc (.sc (.bool false))), (.tc (.sc (.int .u16 0))), (.tc (.sc (.int .i64 0)))] [(.mk 0 4 g46), (.mk 4 11 g47)] (G2 31 11 10)) (.bd [(.tc (.sc (.int .i64 0))), (.tc (.sc (.int .u32 0))), (.tc (.sc (.int .u32 0))), (.tc (.sc (.bool false))), (.tc (.sc (.int .u8 0))), (.tc (.sc (.int .u8 0))), (.tc (.sc (.int .u8 0))), (.tc (.sc (.int .u8 0))), (.tc (.sc (.int .u8 0))), (.tc (.sc (.int .u8 0))), (.tc (.sc (.int .u8 0))), (.tc (.sc (.bool false))), (.tc (.sc (.bool false))), (.tc (.sc (.int .u16 0))), (.tc (.sc (.int .i64 0)))] [(.mk 0 4 g46), (.mk 4 11 g47)] (G2 31 11 10)) (some s48),
  .mk .none (.gen (G2 31 11 11)) (.bt 15 [[(.tc (.sc (.int .i64 0))), (.tc (.sc (.int .u32 0))), (.tc (.sc (.int .u32 0))), (.tc (.sc (.bool false))), (.tc (.sc (.int .u8 0))), (.tc (.sc (.int .u8 0))), (.tc (.sc (.int .u8 0))), (.tc (.sc (.int .u8 0))), (.tc (.sc (.int .u8 0))), (.tc (.sc (.int .u8 0))), (.tc (.sc (.int .u8 0))), (.tc (.sc (.bool false))), (.tc (.sc (.bool false))), (.tc (.sc (.int .u16 0))), (.tc (.sc (.int .i64 0)))]] [(.mk 0 15 g48)] (G2 31 11 11)) (.bs 15 1 [[(.tc (.sc (.int .i64 0))), (.tc (.sc (.int .u32 0))), (.tc (.sc (.int .u32 0))), (.tc (.sc (.bool false))), (.tc (.sc (.int .u8 0))), (.tc (.sc (.int .u8 0))), (.tc (.sc (.int .u8 0))), (.tc (.sc (.int .u8 0))), (.tc (.sc (.int .u8 0))), (.tc (.sc (.int .u8 0))), (.tc (.sc (.int .u8 0))), (.tc (.sc (.bool false))), (.tc (.sc (.bool false))), (.tc (.sc (.int .u16 0))), (.tc (.sc (.int .i64 0)))]] [(.mk 0 15 g48)] (G2 31 11 11)) (some s49),
  .mk .none .no (.ap 15 48 g38 g49) (.ap 15 48 g38 g49) (some s50),
  .mk .none .yes (.mv g50) (.mv g50) (some s6)]))))))
 (.reg [.p (.bin .add g19 (kc (.tc (.sc (.int .i64 1)))) (G2 31 12 0)) s51,
  .p (.mv g51) s19])))))))
 (.seq (.reg [.p (.mv g6) s52,
  .p (.call 61 [g52, (kc (.tc (.sc (.func (.func 62) #[] #[]))))] (G2 31 13 1)) s53])
 (.seq (.reg [.p (.mv g6) s54,
  .p (.mv g54) s4,
  .p (.mv (kc (.tc (.sc (.bool true))))) s5])
 .ret)))))),
 [.tmp g4, .tmp g5]⟩
theorem ff31_ok : compF SBUnpackKnown 31 = ff31 := by kernel_rfl
noncomputable def ff58 : FF := .t3 ⟨117,
 (.seq (.reg [.p (.bx 11 (h0 g0) (G3 58 0 0)) (i0 s2),
  .p (.mv (kc (.tc (.sc (.int .u32 0))))) (i0 s4),
  .p (.mv (kc (.tc (.sc (.int .u32 0))))) (i0 s5),
  .p (.mv (kc (.tc (.sc (.bool false))))) (i0 s6)])
 (.seq (.seq (.reg [.p (.ld true 11 (h0 g2)) (i0 s16),
  .p (.call 104 [(h0 g16)] (G3 58 1 1)) (i0 s17),
  .p (.nt (h0 g17) (G3 58 1 2)) (i0 s18),
  .p (.mv (h0 g18)) (i0 s19),
  .gp (h0 g19) false (.fa 8 (h0 g2)) (i0 s20),
  .gp (h0 g19) false (.ld false 1 (h0 g20)) (i0 s21),
  .gp (h0 g19) false (.nt (h0 g21) (G3 58 1 6)) (i0 s22),
  .gp (h0 g19) false (.mv (h0 g22)) (i0 s23),
  .gp (h0 g23) true (.ld true 11 (h0 g2)) (i0 s24),
  .gp (h0 g23) true (.mv (h0 g1)) (i0 s25),
  .gp (h0 g23) true (.call 110 [(h0 g24), (h0 g25)] (G3 58 1 10)) (i0 s26),
  .gp (h0 g23) true (.nt (h0 g26) (G3 58 1 11)) (i0 s27),
  .gp (h0 g19) false (.pk (h0 g23) (h0 g27) (kc (.tc (.sc (.bool false))))) (i0 s28),
  .p (.pk (h0 g19) (kc (.tc (.sc (.bool true)))) (h0 g28)) (i0 s29)])
 (.cond (h0 g29) (.seq (.reg [.p (.mv (kc (.tc (.sc (.int .u32 0))))) (i0 s4),
  .p (.mv (kc (.tc (.sc (.int .u32 0))))) (i0 s5),
  .p (.mv (kc (.tc (.sc (.bool false))))) (i0 s6)])
 .ret)
 .skip))
 (.seq (.reg [.p (.fa 0 (h0 g2)) (i0 s31),
  .p (.ld false 1 (h0 g31)) (i0 s32),
  .p (.call 59 [(h0 g32)] (G3 58 3 2)) (i0 s33),
  .p (.mv (h0 g33)) (i0 s30),
  .p (.ex (h0 g30) 0) (i0 s34),
  .p (.ex (h0 g30) 1) (i0 s35),
  .p (.al 5 [(.sc (.int .u8 0)), (.sc (.string ⟨#[]⟩)), (.sc (.int .u8 0)), (.sc (.int .u8 0)), (.sc (.slice none 0 0))]) (i0 s7),
  .n (.st 5 (h0 g7) (h0 g34) (G3 58 3 7)),
  .p (.mv (h0 g35)) (i0 s8)])
 (.seq (.reg [.p (.mv (kc (.tc (.sc (.int .u32 0))))) (i0 s9)])
 (.seq (.seq (.reg [.p (.fa 4 (h0 g7)) (i0 s36),
  .p (.ld false 1 (h0 g36)) (i0 s37),
  .p (.len (h0 g37) (G3 58 5 2)) (i0 s38),
  .p (.mv (kc (.tc (.sc (.int .i64 0))))) (i0 s39)])
 (.block 0 (.loop 4294967296 (.seq (.reg [.p (.bin .lss (h0 g39) (h0 g38) (G3 58 6 0)) (i0 s40)])
 (.seq (.cond (h0 g40) .skip
 (.exit 0))
 (.seq (.block 1 (.seq (.reg [.p (.ia 5 (h0 g37) (h0 g39) (G3 58 7 0)) (i0 s41),
  .p (.ld true 5 (h0 g41)) (i0 s42),
  .p (.al 5 [(.sc (.int .u8 0)), (.sc (.int .i64 0)), (.sc (.int .i64 0)), (.sc (.bool false)), (.sc (.bool false))]) (i0 s11),
  .n (.st 5 (h0 g11) (h0 g42) (G3 58 7 3))])
 (.seq (.reg [.p (.fa 0 (h0 g2)) (i0 s44),
  .p (.ld false 1 (h0 g44)) (i0 s45),
  .p (.fa 0 (h0 g11)) (i0 s46),
  .p (.ld false 1 (h0 g46)) (i0 s47),
  .p (.call 111 [(h0 g45), (h0 g47)] (G3 58 8 4)) (i0 s48),
  .p (.mv (h0 g48)) (i0 s43),
  .p (.ex (h0 g43) 0) (i0 s49),
  .p (.ex (h0 g43) 1) (i0 s50),
  .p (.ex (h0 g43) 2) (i0 s51),
  .p (.al 5 [(.sc (.int .u8 0)), (.sc (.int .i64 0)), (.sc (.int .i64 0)), (.sc (.bool false)), (.sc (.bool false))]) (i0 s12),
  .n (.st 5 (h0 g12) (h0 g49) (G3 58 8 10)),
  .p (.mv (h0 g50)) (i0 s13),
  .p (.mv (h0 g51)) (i0 s14)])
 (.seq (.reg [.p (.mv (kc (.tc (.sc (.int .u32 0))))) (i0 s15)])
 (.seq (.seq (.reg [.p (.fa 0 (h0 g11)) (i0 s52),
  .p (.ld false 1 (h0 g52)) (i0 s53)])
 (.block 2 (.seq (.reg [.p (.bin .eql (h0 g53) (kc (.tc (.sc (.int .u8 1)))) (G3 58 11 0)) (i0 s55),
  .p (.mv (h0 g55)) (i0 s54)])
 (.cond (h0 g54) (.reg [.p (.fa 6 (h0 g2)) (i0 s56),
  .p (.ld false 1 (h0 g56)) (i0 s57),
  .p (.cv .u32 (h0 g57) (G3 58 12 2)) (i0 s58),
  .p (.mv (h0 g58)) (i0 s15)])
 (.seq (.reg [.p (.bin .eql (h0 g53) (kc (.tc (.sc (.int .u8 2)))) (G3 58 13 0)) (i0 s60),
  .p (.mv (h0 g60)) (i0 s59)])
 (.cond (h0 g59) (.reg [.p (.fa 5 (h0 g2)) (i0 s61),
  .p (.ld false 1 (h0 g61)) (i0 s62),
  .p (.cv .u32 (h0 g62) (G3 58 14 2)) (i0 s63),
  .p (.mv (h0 g63)) (i0 s15)])
 (.seq (.seq (.reg [.p (.bin .eql (h0 g53) (kc (.tc (.sc (.int .u8 3)))) (G3 58 15 0)) (i1 s1),
  .p (.mv (h1 g1)) (i1 s0)])
 (.cond (h1 g0) .skip
 (.reg [.p (.bin .eql (h0 g53) (kc (.tc (.sc (.int .u8 4)))) (G3 58 16 0)) (i1 s2),
  .p (.mv (h1 g2)) (i1 s0)])))
 (.cond (h1 g0) (.reg [.p (.fa 1 (h0 g2)) (i1 s3),
  .p (.ld false 1 (h1 g3)) (i1 s4),
  .p (.cv .u32 (h1 g4) (G3 58 17 2)) (i1 s5),
  .p (.mv (h1 g5)) (i0 s15)])
 (.seq (.reg [.p (.bin .eql (h0 g53) (kc (.tc (.sc (.int .u8 5)))) (G3 58 18 0)) (i1 s7),
  .p (.mv (h1 g7)) (i1 s6)])
 (.cond (h1 g6) (.reg [.p (.fa 2 (h0 g2)) (i1 s8),
  .p (.ld false 1 (h1 g8)) (i1 s9),
  .p (.cv .u32 (h1 g9) (G3 58 19 2)) (i1 s10),
  .p (.mv (h1 g10)) (i0 s15)])
 (.seq (.reg [.p (.bin .eql (h0 g53) (kc (.tc (.sc (.int .u8 6)))) (G3 58 20 0)) (i1 s12),
  .p (.mv (h1 g12)) (i1 s11)])
 (.cond (h1 g11) (.reg [.p (.fa 3 (h0 g2)) (i1 s13),
  .p (.ld false 1 (h1 g13)) (i1 s14),
  .p (.cv .u32 (h1 g14) (G3 58 21 2)) (i1 s15),
  .p (.mv (h1 g15)) (i0 s15)])
 (.seq (.reg [.p (.bin .eql (h0 g53) (kc (.tc (.sc (.int .u8 7)))) (G3 58 22 0)) (i1 s17),
  .p (.mv (h1 g17)) (i1 s16)])
 (.cond (h1 g16) (.reg [.p (.fa 4 (h0 g2)) (i1 s18),
  .p (.ld false 1 (h1 g18)) (i1 s19),
  .p (.cv .u32 (h1 g19) (G3 58 23 2)) (i1 s20),
  .p (.mv (h1 g20)) (i0 s15)])
 (.seq (.reg [.p (.bin .eql (h0 g53) (kc (.tc (.sc (.int .u8 8)))) (G3 58 24 0)) (i1 s22),
  .p (.mv (h1 g22)) (i1 s21)])
 (.cond (h1 g21) (.reg [.p (.fa 7 (h0 g2)) (i1 s23),
  .p (.ld false 1 (h1 g23)) (i1 s24),
  .p (.call 112 [(h1 g24)] (G3 58 25 2)) (i1 s25),
  .p (.mv (h1 g25)) (i0 s15)])
 (.seq (.reg [.p (.bin .eql (h0 g53) (kc (.tc (.sc (.int .u8 11)))) (G3 58 26 0)) (i1 s27),
  .p (.mv (h1 g27)) (i1 s26)])
 (.cond (h1 g26) (.reg [.p (.fa 9 (h0 g2)) (i1 s28),
  .p (.ld false 1 (h1 g28)) (i1 s29),
  .p (.cv .u32 (h1 g29) (G3 58 27 2)) (i1 s30),
  .p (.mv (h1 g30)) (i0 s15)])
 (.seq (.seq (.reg [.p (.bin .eql (h0 g53) (kc (.tc (.sc (.int .u8 9)))) (G3 58 28 0)) (i1 s32),
  .p (.mv (h1 g32)) (i1 s31)])
 (.cond (h1 g31) .skip
 (.reg [.p (.bin .eql (h0 g53) (kc (.tc (.sc (.int .u8 10)))) (G3 58 29 0)) (i1 s33),
  .p (.mv (h1 g33)) (i1 s31)])))
 (.cond (h1 g31) (.reg [.p (.ld true 11 (h0 g2)) (i1 s35),
  .p (.ld true 5 (h0 g11)) (i1 s36),
  .p (.mv (h0 g1)) (i1 s37),
  .p (.call 113 [(h1 g35), (h1 g36), (h1 g37)] (G3 58 30 3)) (i1 s38),
  .p (.mv (h1 g38)) (i1 s34),
  .p (.ex (h1 g34) 0) (i1 s39),
  .p (.ex (h1 g34) 1) (i1 s40),
  .p (.mv (h1 g39)) (i0 s15),
  .p (.mv (h1 g40)) (i0 s5)])
 .skip))))))))))))))))))))
 (.reg [.p (.mv (h0 g9)) (i1 s41),
  .p (.mv (h0 g13)) (i1 s42),
  .p (.fa 1 (h0 g11)) (i1 s43),
  .p (.ld false 1 (h1 g43)) (i1 s44),
  .p (.mv (h0 g15)) (i1 s45),
  .p (.call 114 [(h1 g41), (h1 g42), (h1 g44), (h1 g45)] (G3 58 31 5)) (i1 s46),
  .p (.mv (h1 g46)) (i0 s9)]))))))
 (.reg [.p (.bin .add (h0 g39) (kc (.tc (.sc (.int .i64 1)))) (G3 58 32 0)) (i1 s47),
  .p (.mv (h1 g47)) (i0 s39)])))))))
 (.seq (.reg [.p (.fa 0 (h0 g2)) (i1 s48),
  .p (.ld false 1 (h1 g48)) (i1 s49),
  .p (.mv (h0 g9)) (i1 s50),
  .p (.call 34 [(h1 g49), (h1 g50), (kc (.tc (.sc (.int .u8 0))))] (G3 58 33 3)) (i1 s51),
  .p (.mv (h0 g5)) (i1 s52),
  .p (.mv (h1 g51)) (i0 s4),
  .p (.mv (h1 g52)) (i0 s5),
  .p (.mv (kc (.tc (.sc (.bool true))))) (i0 s6)])
 .ret)))))),
 [.tmp (h0 g4), .tmp (h0 g5), .tmp (h0 g6)]⟩
theorem ff58_ok : compF SBUnpackKnown 58 = ff58 := by kernel_rfl
noncomputable def ff110 : FF := .t2 ⟨33,
 (.seq (.reg [.p (.bx 11 g0 (G2 110 0 0)) s2,
  .p (.mv (kc (.tc (.sc (.bool false))))) s4])
 (.seq (.reg [.p (.fa 0 g2) s10,
  .p (.ld false 1 g10) s11,
  .p (.call 132 [g11] (G2 110 1 2)) s12,
  .p (.mv g12) s9,
  .p (.ex g9 0) s13,
  .p (.ex g9 1) s14,
  .p (.al 5 [(.sc (.int .u8 0)), (.sc (.int .i64 0)), (.sc (.int .i64 0)), (.sc (.bool false)), (.sc (.bool false))]) s5,
  .n (.st 5 g5 g13 (G2 110 1 7)),
  .p (.mv g14) s6])
 (.seq (.reg [.p (.ld true 11 g2) s16,
  .p (.mv g1) s17,
  .p (.call 151 [g16, g17] (G2 110 2 2)) s18,
  .p (.mv g18) s15,
  .p (.ex g15 0) s19,
  .p (.ex g15 1) s20,
  .p (.mv g19) s7,
  .p (.mv g20) s8])
 (.seq (.reg [.p (.mv g6) s21,
  .p (.nt g21 (G2 110 3 1)) s22,
  .p (.mv g22) s23,
  .gp g23 false (.mv g7) s24,
  .gp g23 false (.fa 1 g5) s25,
  .gp g23 false (.ld false 1 g25) s26,
  .gp g23 false (.fa 2 g5) s27,
  .gp g23 false (.ld false 1 g27) s28,
  .gp g23 false (.fa 3 g5) s29,
  .gp g23 false (.ld false 1 g29) s30,
  .gp g23 false (.call 152 [g24, g26, g28, g30] (G2 110 3 10)) s31,
  .p (.pk g23 (kc (.tc (.sc (.bool true)))) g31) s32,
  .p (.mv g32) s4])
 .ret)))),
 [.tmp g4]⟩
theorem ff110_ok : compF SBUnpackKnown 110 = ff110 := by kernel_rfl
noncomputable def ff151 : FF := .t2 ⟨29,
 (.seq (.reg [.p (.bx 11 g0 (G2 151 0 0)) s2,
  .p (.mv (kc (.tc (.sc (.int .i64 0))))) s4,
  .p (.mv (kc (.tc (.sc (.bool false))))) s5])
 (.seq (.reg [.p (.fa 0 g2) s9,
  .p (.ld false 1 g9) s10,
  .p (.call 132 [g10] (G2 151 1 2)) s11,
  .p (.mv g11) s8,
  .p (.ex g8 0) s12,
  .p (.ex g8 1) s13,
  .p (.al 5 [(.sc (.int .u8 0)), (.sc (.int .i64 0)), (.sc (.int .i64 0)), (.sc (.bool false)), (.sc (.bool false))]) s6,
  .n (.st 5 g6 g12 (G2 151 1 7)),
  .p (.mv g13) s7])
 (.seq (.block 0 (.seq (.reg [.p (.mv g7) s15,
  .p (.nt g15 (G2 151 2 1)) s16,
  .p (.mv g16) s14])
 (.cond g14 (.seq (.reg [.p (.mv (kc (.tc (.sc (.int .i64 0))))) s4,
  .p (.mv (kc (.tc (.sc (.bool false))))) s5])
 .ret)
 (.seq (.reg [.p (.fa 0 g6) s18,
  .p (.ld false 1 g18) s19,
  .p (.bin .eql g19 (kc (.tc (.sc (.int .u8 10)))) (G2 151 4 2)) s20,
  .p (.mv g20) s17])
 (.cond g17 (.seq (.reg [.p (.fa 10 g2) s21,
  .p (.ld false 1 g21) s22,
  .p (.cv .u32 g22 (G2 151 5 2)) s23,
  .p (.mv g1) s24,
  .p (.bin .sub g23 g24 (G2 151 5 4)) s25,
  .p (.call 172 [g25, (kc (.tc (.sc (.int .i64 32))))] (G2 151 5 5)) s26,
  .p (.mv g26) s4,
  .p (.mv (kc (.tc (.sc (.bool true))))) s5])
 .ret)
 .skip)))))
 (.seq (.reg [.p (.fa 10 g2) s27,
  .p (.ld false 1 g27) s28,
  .p (.mv g28) s4,
  .p (.mv (kc (.tc (.sc (.bool true))))) s5])
 .ret)))),
 [.tmp g4, .tmp g5]⟩
theorem ff151_ok : compF SBUnpackKnown 151 = ff151 := by kernel_rfl
noncomputable def ff112 : FF := .t2 ⟨4,
 (.seq (.reg [.p (.mv (kc (.tc (.sc (.int .u32 0))))) s2])
 (.seq (.seq (.reg [.p (.mv g0) s3])
 (.cond g3 (.seq (.reg [.p (.mv (kc (.tc (.sc (.int .u32 1))))) s2])
 .ret)
 .skip))
 (.seq (.reg [.p (.mv (kc (.tc (.sc (.int .u32 0))))) s2])
 .ret))),
 [.tmp g2]⟩
theorem ff112_ok : compF SBUnpackKnown 112 = ff112 := by kernel_rfl
noncomputable def ff113 : FF := .t2 ⟨30,
 (.seq (.reg [.p (.bx 11 g0 (G2 113 0 0)) s3,
  .p (.bx 5 g1 (G2 113 0 1)) s4,
  .p (.mv (kc (.tc (.sc (.int .u32 0))))) s6,
  .p (.mv (kc (.tc (.sc (.int .u32 0))))) s7])
 (.seq (.reg [.p (.ld true 11 g3) s11,
  .p (.mv g2) s12,
  .p (.call 151 [g11, g12] (G2 113 1 2)) s13,
  .p (.mv g13) s10,
  .p (.ex g10 0) s14,
  .p (.ex g10 1) s15,
  .p (.mv g14) s8,
  .p (.mv g15) s9])
 (.seq (.seq (.reg [.p (.fa 8 g3) s16,
  .p (.ld false 1 g16) s17])
 (.cond g17 (.seq (.reg [.p (.mv g8) s19,
  .p (.call 153 [g19] (G2 113 3 1)) s20,
  .p (.mv g20) s18,
  .p (.ex g18 0) s21,
  .p (.ex g18 1) s22,
  .p (.mv g21) s7,
  .p (.mv g22) s6])
 (.seq (.reg [.p (.mv g6) s23,
  .p (.mv g7) s24,
  .p (.mv g23) s6,
  .p (.mv g24) s7])
 .ret))
 .skip))
 (.seq (.reg [.p (.mv g8) s25,
  .p (.fa 2 g4) s26,
  .p (.ld false 1 g26) s27,
  .p (.bin .shr g25 g27 (G2 113 5 3)) s28,
  .p (.cv .u32 g28 (G2 113 5 4)) s29,
  .p (.mv g29) s6,
  .p (.mv (kc (.tc (.sc (.int .u32 0))))) s7])
 .ret)))),
 [.tmp g6, .tmp g7]⟩
theorem ff113_ok : compF SBUnpackKnown 113 = ff113 := by kernel_rfl
noncomputable def ff153 : FF := .t2 ⟨11,
 (.seq (.reg [.p (.mv (kc (.tc (.sc (.int .u32 0))))) s2,
  .p (.mv (kc (.tc (.sc (.int .u32 0))))) s3])
 (.seq (.reg [.p (.mv g0) s5,
  .p (.cv .u32 g5 (G2 153 1 1)) s6,
  .p (.mv g6) s4])
 (.seq (.reg [.p (.mv g4) s7,
  .p (.call 161 [g7, (kc (.tc (.sc (.int .i64 8)))), (kc (.tc (.sc (.int .i64 24))))] (G2 153 2 1)) s8,
  .p (.mv g4) s9,
  .p (.call 161 [g9, (kc (.tc (.sc (.int .i64 0)))), (kc (.tc (.sc (.int .i64 8))))] (G2 153 2 3)) s10,
  .p (.mv g8) s2,
  .p (.mv g10) s3])
 .ret))),
 [.tmp g2, .tmp g3]⟩
theorem ff153_ok : compF SBUnpackKnown 153 = ff153 := by kernel_rfl
noncomputable def ff34 : FF := .t2 ⟨31,
 (.seq (.reg [.p (.mv (kc (.tc (.sc (.int .u32 0))))) s6])
 (.seq (.reg [.p (.ld true 2 (kc (.vptr gwUnpackKnown0 [glUnpackKnown0] 0 0))) s8,
  .p (.mv g0) s9,
  .p (.cv .u32 g9 (G2 34 1 2)) s10,
  .p (.call 65 [g8, (kc (.tc (.sc (.int .u32 0)))), g10] (G2 34 1 3)) s11,
  .p (.mv g11) s7])
 (.seq (.reg [.p (.gen (G2 34 2 0)) s12,
  .p (.ld true 2 g12) s13,
  .p (.mv g7) s14,
  .p (.mv g1) s15,
  .p (.call 65 [g13, g14, g15] (G2 34 2 4)) s16,
  .p (.mv g16) s7])
 (.seq (.regD [0, 1, 0, 0, 0, 16, 48, 120, 255, 511] [.no, (.rd (.ld true 2 g17) g18), .no, .no, .no, .no, (.rd (.ld false 1 g22) g23), .no, .no, .no] [.mk .none .yes (.gen (G2 34 3 0)) (.gen (G2 34 3 0)) (some s17),
  .mk .none .yes (.ld true 2 g17) (.ld true 2 g17) (some s18),
  .mk .none .yes (.mv g7) (.mv g7) (some s19),
  .mk .none .yes (.mv g1) (.mv g1) (some s20),
  .mk .none .yes (.gen (G2 34 3 4)) (.gen (G2 34 3 4)) (some s21),
  .mk .none .yes (.fa 1 g21) (.fa 1 g21) (some s22),
  .mk .none .yes (.ld false 1 g22) (.ld false 1 g22) (some s23),
  .mk .none .yes (.bin .shr g20 g23 (G2 34 3 7)) (.bin .shr g20 g23 (G2 34 3 7)) (some s24),
  .mk .none (.dyn 65 [g18, g19, g24]) (.call 65 [g18, g19, g24] (G2 34 3 8)) (.call 65 [g18, g19, g24] (G2 34 3 8)) (some s25),
  .mk .none .yes (.mv g25) (.mv g25) (some s7)])
 (.seq (.reg [.p (.ld true 2 (kc (.vptr gwUnpackKnown2 [glUnpackKnown2] 0 0))) s26,
  .p (.mv g7) s27,
  .p (.mv g2) s28,
  .p (.cv .u32 g28 (G2 34 4 3)) s29,
  .p (.call 65 [g26, g27, g29] (G2 34 4 4)) s30,
  .p (.mv g30) s6])
 .ret))))),
 [.tmp g6]⟩
theorem ff34_ok : compF SBUnpackKnown 34 = ff34 := by kernel_rfl
noncomputable def ff60 : FF := .t2 ⟨6,
 (.seq (.reg [.p (.mv (kc (.tc (.sc (.int .i64 0))))) s2])
 (.seq (.reg [.p (.bs 1 6 [[(.tc (.sc (.int .u8 0)))], [(.tc (.sc (.int .u8 0)))], [(.tc (.sc (.int .u8 0)))], [(.tc (.sc (.int .u8 0)))], [(.tc (.sc (.int .u8 0)))], [(.tc (.sc (.int .u8 0)))]] [(.mk 0 1 (kc (.tc (.sc (.int .u8 6))))), (.mk 1 1 (kc (.tc (.sc (.int .u8 5))))), (.mk 2 1 (kc (.tc (.sc (.int .u8 2))))), (.mk 3 1 (kc (.tc (.sc (.int .u8 1))))), (.mk 4 1 (kc (.tc (.sc (.int .u8 3))))), (.mk 5 1 (kc (.tc (.sc (.int .u8 4)))))] (G2 60 1 0)) s3,
  .p (.mv g0) s4,
  .p (.call 117 [g3, g4] (G2 60 1 2)) s5,
  .p (.mv g5) s2])
 .ret)),
 [.tmp g2]⟩
theorem ff60_ok : compF SBUnpackKnown 60 = ff60 := by kernel_rfl
noncomputable def ff61 : FF := .t2 ⟨9,
 (.reg [.p (.mv g0) s4,
  .p (.mv g0) s5,
  .p (.len g5 (G2 61 0 2)) s6,
  .p (.mv g1) s7,
  .p (.call 118 [g4, g6, g7] (G2 61 0 4)) s8]),
 []⟩
theorem ff61_ok : compF SBUnpackKnown 61 = ff61 := by kernel_rfl
noncomputable def ff118 : FF := .t2 ⟨63,
 (.seq (.reg [.p (.mv (kc (.tc (.sc (.int .i64 20))))) s6])
 (.seq (.reg [.p (.mv g6) s10,
  .p (.mv (kc (.tc (.sc (.int .i64 0))))) s7,
  .p (.mv g10) s8])
 (.seq (.block 0 (.loop 4294967296 (.seq (.seq (.reg [.p (.mv g8) s11,
  .p (.mv g1) s12,
  .p (.bin .leq g11 g12 (G2 118 2 2)) s13])
 (.cond g13 .skip
 (.exit 0)))
 (.block 1 (.seq (.reg [.p (.mv g0) s14,
  .p (.mv g7) s15,
  .p (.mv g8) s16,
  .p (.mv g2) s17,
  .p (.call 156 [g14, g15, g16, g17] (G2 118 3 4)) s18])
 (.seq (.reg [.p (.mv g8) s19,
  .p (.mv g19) s7])
 (.reg [.p (.mv g8) s20,
  .p (.mv g6) s21,
  .p (.bin .add g20 g21 (G2 118 5 2)) s22,
  .p (.mv g22) s8])))))))
 (.seq (.reg [.p (.mv g0) s23,
  .p (.mv g7) s24,
  .p (.mv g1) s25,
  .p (.mv g2) s26,
  .p (.call 156 [g23, g24, g25, g26] (G2 118 6 4)) s27])
 (.block 2 (.loop 4294967296 (.seq (.seq (.reg [.p (.mv g6) s28,
  .p (.mv g1) s29,
  .p (.bin .lss g28 g29 (G2 118 7 2)) s30])
 (.cond g30 .skip
 (.exit 2)))
 (.block 3 (.seq (.reg [.p (.mv g6) s31,
  .p (.bin .mul (kc (.tc (.sc (.int .i64 2)))) g31 (G2 118 8 1)) s32,
  .p (.mv (kc (.tc (.sc (.int .i64 0))))) s7,
  .p (.mv g32) s8])
 (.seq (.block 4 (.loop 4294967296 (.seq (.seq (.reg [.p (.mv g8) s33,
  .p (.mv g1) s34,
  .p (.bin .leq g33 g34 (G2 118 9 2)) s35])
 (.cond g35 .skip
 (.exit 4)))
 (.block 5 (.seq (.reg [.p (.mv g0) s36,
  .p (.mv g7) s37,
  .p (.mv g7) s38,
  .p (.mv g6) s39,
  .p (.bin .add g38 g39 (G2 118 10 4)) s40,
  .p (.mv g8) s41,
  .p (.mv g2) s42,
  .p (.call 157 [g36, g37, g40, g41, g42] (G2 118 10 7)) s43])
 (.seq (.reg [.p (.mv g8) s44,
  .p (.mv g44) s7])
 (.reg [.p (.mv g8) s45,
  .p (.mv g6) s46,
  .p (.bin .mul (kc (.tc (.sc (.int .i64 2)))) g46 (G2 118 12 2)) s47,
  .p (.bin .add g45 g47 (G2 118 12 3)) s48,
  .p (.mv g48) s8])))))))
 (.seq (.seq (.reg [.p (.mv g7) s49,
  .p (.mv g6) s50,
  .p (.bin .add g49 g50 (G2 118 13 2)) s51,
  .p (.mv g51) s9])
 (.seq (.reg [.p (.mv g9) s52,
  .p (.mv g1) s53,
  .p (.bin .lss g52 g53 (G2 118 14 2)) s54])
 (.cond g54 (.reg [.p (.mv g0) s55,
  .p (.mv g7) s56,
  .p (.mv g9) s57,
  .p (.mv g1) s58,
  .p (.mv g2) s59,
  .p (.call 157 [g55, g56, g57, g58, g59] (G2 118 15 5)) s60])
 .skip)))
 (.reg [.p (.mv g6) s61,
  .p (.bin .mul g61 (kc (.tc (.sc (.int .i64 2)))) (G2 118 16 1)) s62,
  .p (.mv g62) s6])))))))))))),
 []⟩
theorem ff118_ok : compF SBUnpackKnown 118 = ff118 := by kernel_rfl
noncomputable def ff156 : FF := .t2 ⟨53,
 (.seq (.reg [.p (.mv g1) s10,
  .p (.bin .add g10 (kc (.tc (.sc (.int .i64 1)))) (G2 156 0 1)) s11,
  .p (.mv g11) s8])
 (.block 0 (.loop 4294967296 (.seq (.seq (.reg [.p (.mv g8) s12,
  .p (.mv g2) s13,
  .p (.bin .lss g12 g13 (G2 156 1 2)) s14])
 (.cond g14 .skip
 (.exit 0)))
 (.seq (.block 1 (.seq (.reg [.p (.mv g8) s17,
  .p (.mv g17) s9])
 (.block 2 (.loop 4294967296 (.seq (.seq (.regD [0, 0, 3, 7, 15, 15, 15, 111, 239, 15, 15, 1039, 3599, 7695, 16383, 32767, 65535] [.no, .no, .no, .no, .no, .no, .no, .no, (.rd (.ld true 15 g25) g26), .no, .no, .no, .no, (.rd (.ld true 15 g30) g31), .no, .no, .no] [.mk .none .yes (.mv g9) (.mv g9) (some s18),
  .mk .none .yes (.mv g1) (.mv g1) (some s19),
  .mk .none .yes (.bin .gtr g18 g19 (G2 156 3 2)) (.bin .gtr g18 g19 (G2 156 3 2)) (some s20),
  .mk .none .yes (.mv g20) (.mv g20) (some s21),
  .mk (.on g21 true) .yes (.mv g3) (.mv g3) (some s22),
  .mk (.on g21 true) .yes (.mv g0) (.mv g0) (some s23),
  .mk (.on g21 true) .yes (.mv g9) (.mv g9) (some s24),
  .mk (.on g21 true) .yes (.ia 15 g23 g24 (G2 156 3 7)) (.ia 15 g23 g24 (G2 156 3 7)) (some s25),
  .mk (.on g21 true) .yes (.ld true 15 g25) (.ld true 15 g25) (some s26),
  .mk (.on g21 true) .yes (.mv g0) (.mv g0) (some s27),
  .mk (.on g21 true) .yes (.mv g9) (.mv g9) (some s28),
  .mk (.on g21 true) .yes (.bin .sub g28 (kc (.tc (.sc (.int .i64 1)))) (G2 156 3 11)) (.bin .sub g28 (kc (.tc (.sc (.int .i64 1)))) (G2 156 3 11)) (some s29),
  .mk (.on g21 true) .yes (.ia 15 g27 g29 (G2 156 3 12)) (.ia 15 g27 g29 (G2 156 3 12)) (some s30),
  .mk (.on g21 true) .yes (.ld true 15 g30) (.ld true 15 g30) (some s31),
  .mk (.on g21 true) (.gen (G2 156 3 14)) (.gen (G2 156 3 14)) (.gen (G2 156 3 14)) (some s32),
  .mk (.on g21 true) .yes (.bin .lss g32 (kc (.tc (.sc (.int .i64 0)))) (G2 156 3 15)) (.bin .lss g32 (kc (.tc (.sc (.int .i64 0)))) (G2 156 3 15)) (some s33),
  .mk .none .yes (.pk g21 g33 (kc (.tc (.sc (.bool false))))) (.pk g21 g33 (kc (.tc (.sc (.bool false))))) (some s34)])
 (.cond g34 .skip
 (.exit 2)))
 (.seq (.block 3 (.regD [0, 0, 0, 0, 8, 0, 0, 64, 224, 480, 0, 0, 3072, 7168, 16355, 32739, 65535, 131071] [.no, .no, .no, .no, .no, .no, .no, .no, .no, (.rd (.ld true 15 g45) g46), .no, .no, .no, (.rd (.ld true 15 g49) g50), .no, .no, .no, .no] [.mk .none .yes (.mv g0) (.mv g0) (some s37),
  .mk .none .yes (.mv g9) (.mv g9) (some s38),
  .mk .none .yes (.mv g0) (.mv g0) (some s39),
  .mk .none .yes (.mv g9) (.mv g9) (some s40),
  .mk .none .yes (.bin .sub g40 (kc (.tc (.sc (.int .i64 1)))) (G2 156 4 4)) (.bin .sub g40 (kc (.tc (.sc (.int .i64 1)))) (G2 156 4 4)) (some s41),
  .mk .none .yes (.mv g0) (.mv g0) (some s42),
  .mk .none .yes (.mv g9) (.mv g9) (some s43),
  .mk .none .yes (.bin .sub g43 (kc (.tc (.sc (.int .i64 1)))) (G2 156 4 7)) (.bin .sub g43 (kc (.tc (.sc (.int .i64 1)))) (G2 156 4 7)) (some s44),
  .mk .none .yes (.ia 15 g42 g44 (G2 156 4 8)) (.ia 15 g42 g44 (G2 156 4 8)) (some s45),
  .mk .none .yes (.ld true 15 g45) (.ld true 15 g45) (some s46),
  .mk .none .yes (.mv g0) (.mv g0) (some s47),
  .mk .none .yes (.mv g9) (.mv g9) (some s48),
  .mk .none .yes (.ia 15 g47 g48 (G2 156 4 12)) (.ia 15 g47 g48 (G2 156 4 12)) (some s49),
  .mk .none .yes (.ld true 15 g49) (.ld true 15 g49) (some s50),
  .mk .none .yes (.ia 15 g37 g38 (G2 156 4 14)) (.ia 15 g37 g38 (G2 156 4 14)) (some s51),
  .mk .none .no (.st 15 g51 g46 (G2 156 4 15)) (.st 15 g51 g46 (G2 156 4 15)) none,
  .mk .none .yes (.ia 15 g39 g41 (G2 156 4 16)) (.ia 15 g39 g41 (G2 156 4 16)) (some s52),
  .mk .none .no (.st 15 g52 g50 (G2 156 4 17)) (.st 15 g52 g50 (G2 156 4 17)) none]))
 (.reg [.p (.mv g9) s35,
  .p (.bin .sub g35 (kc (.tc (.sc (.int .i64 1)))) (G2 156 5 1)) s36,
  .p (.mv g36) s9])))))))
 (.reg [.p (.mv g8) s15,
  .p (.bin .add g15 (kc (.tc (.sc (.int .i64 1)))) (G2 156 6 1)) s16,
  .p (.mv g16) s8])))))),
 []⟩
theorem ff156_ok : compF SBUnpackKnown 156 = ff156 := by kernel_rfl
end Go.Proofs.YthabafmieebmmaaGreatDoor
