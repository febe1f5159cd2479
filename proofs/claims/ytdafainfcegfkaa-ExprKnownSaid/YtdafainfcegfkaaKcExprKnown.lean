/- Code made ready ahead, ExprKnown: each is what the program says. -/
import Derived.Test.YtdafainfcegfkaaKcBase
set_option linter.unusedVariables false
set_option maxRecDepth 100000
namespace Go.Proofs.Ytdafainfcegfkaa
open Go

noncomputable def ff7 : FF := .t3 ⟨174,
 (.seq (.reg [.p (.mv (kc (.tc (.sc (.bool false))))) (i0 s0)])
 (.seq (.reg [.p (.bs 1 11 [[(.tc (.sc (.string ⟨#[]⟩)))], [(.tc (.sc (.string ⟨#[]⟩)))], [(.tc (.sc (.string ⟨#[]⟩)))], [(.tc (.sc (.string ⟨#[]⟩)))], [(.tc (.sc (.string ⟨#[]⟩)))], [(.tc (.sc (.string ⟨#[]⟩)))], [(.tc (.sc (.string ⟨#[]⟩)))], [(.tc (.sc (.string ⟨#[]⟩)))], [(.tc (.sc (.string ⟨#[]⟩)))], [(.tc (.sc (.string ⟨#[]⟩)))], [(.tc (.sc (.string ⟨#[]⟩)))]] [(.mk 0 1 (kc (.tc (.sc (.string ⟨#[49, 32, 43]⟩))))), (.mk 1 1 (kc (.tc (.sc (.string ⟨#[41]⟩))))), (.mk 2 1 (kc (.tc (.sc (.string ⟨#[49, 32, 50]⟩))))), (.mk 3 1 (kc (.tc (.sc (.string ⟨#[40, 32, 49]⟩))))), (.mk 4 1 (kc (.tc (.sc (.string ⟨#[]⟩))))), (.mk 5 1 (kc (.tc (.sc (.string ⟨#[42, 32, 49]⟩))))), (.mk 6 1 (kc (.tc (.sc (.string ⟨#[49, 32, 61, 32, 50]⟩))))), (.mk 7 1 (kc (.tc (.sc (.string ⟨#[49, 32, 43, 32, 42, 32, 50]⟩))))), (.mk 8 1 (kc (.tc (.sc (.string ⟨#[40, 40, 40, 40, 40, 40, 40, 40, 40, 40, 40, 40, 40, 40, 40, 40, 49]⟩))))), (.mk 9 1 (kc (.tc (.sc (.string ⟨#[40, 40, 40, 40, 40, 40, 40, 40, 40, 40, 40, 40, 40, 40, 40, 40, 40, 49]⟩))))), (.mk 10 1 (kc (.tc (.sc (.string ⟨#[45, 45, 45, 45, 45, 45, 45, 45, 45, 45, 45, 45, 45, 45, 45, 45, 45, 49]⟩)))))] (G3 7 1 0)) (i0 s24),
  .p (.mv (h0 g24)) (i0 s1)])
 (.seq (.reg [.p (.bs 1 11 [[(.tc (.sc (.int .i64 0)))], [(.tc (.sc (.int .i64 0)))], [(.tc (.sc (.int .i64 0)))], [(.tc (.sc (.int .i64 0)))], [(.tc (.sc (.int .i64 0)))], [(.tc (.sc (.int .i64 0)))], [(.tc (.sc (.int .i64 0)))], [(.tc (.sc (.int .i64 0)))], [(.tc (.sc (.int .i64 0)))], [(.tc (.sc (.int .i64 0)))], [(.tc (.sc (.int .i64 0)))]] [(.mk 0 1 (kc (.tc (.sc (.int .i64 2))))), (.mk 1 1 (kc (.tc (.sc (.int .i64 0))))), (.mk 2 1 (kc (.tc (.sc (.int .i64 1))))), (.mk 3 1 (kc (.tc (.sc (.int .i64 2))))), (.mk 4 1 (kc (.tc (.sc (.int .i64 0))))), (.mk 5 1 (kc (.tc (.sc (.int .i64 0))))), (.mk 6 1 (kc (.tc (.sc (.int .i64 1))))), (.mk 7 1 (kc (.tc (.sc (.int .i64 2))))), (.mk 8 1 (kc (.tc (.sc (.int .i64 17))))), (.mk 9 1 (kc (.tc (.sc (.int .i64 16))))), (.mk 10 1 (kc (.tc (.sc (.int .i64 16)))))] (G3 7 2 0)) (i0 s25),
  .p (.mv (h0 g25)) (i0 s2)])
 (.seq (.reg [.p (.bs 1 11 [[(.tc (.sc (.int .i64 0)))], [(.tc (.sc (.int .i64 0)))], [(.tc (.sc (.int .i64 0)))], [(.tc (.sc (.int .i64 0)))], [(.tc (.sc (.int .i64 0)))], [(.tc (.sc (.int .i64 0)))], [(.tc (.sc (.int .i64 0)))], [(.tc (.sc (.int .i64 0)))], [(.tc (.sc (.int .i64 0)))], [(.tc (.sc (.int .i64 0)))], [(.tc (.sc (.int .i64 0)))]] [(.mk 0 1 (kc (.tc (.sc (.int .i64 8))))), (.mk 1 1 (kc (.tc (.sc (.int .i64 8))))), (.mk 2 1 (kc (.tc (.sc (.int .i64 0))))), (.mk 3 1 (kc (.tc (.sc (.int .i64 8))))), (.mk 4 1 (kc (.tc (.sc (.int .i64 8))))), (.mk 5 1 (kc (.tc (.sc (.int .i64 8))))), (.mk 6 1 (kc (.tc (.sc (.int .i64 0))))), (.mk 7 1 (kc (.tc (.sc (.int .i64 8))))), (.mk 8 1 (kc (.tc (.sc (.int .i64 8))))), (.mk 9 1 (kc (.tc (.sc (.int .i64 3))))), (.mk 10 1 (kc (.tc (.sc (.int .i64 3)))))] (G3 7 3 0)) (i0 s26),
  .p (.mv (h0 g26)) (i0 s3)])
 (.seq (.seq (.reg [.p (.mv (kc (.tc (.sc (.int .i64 0))))) (i0 s4)])
 (.block 0 (.loop 4294967296 (.seq (.seq (.reg [.p (.mv (h0 g4)) (i0 s27),
  .p (.mv (h0 g1)) (i0 s28),
  .p (.len (h0 g28) (G3 7 5 2)) (i0 s29),
  .p (.bin .lss (h0 g27) (h0 g29) (G3 7 5 3)) (i0 s30)])
 (.cond (h0 g30) .skip
 (.exit 0)))
 (.seq (.block 1 (.seq (.reg [.p (.mv (h0 g1)) (i0 s34),
  .p (.mv (h0 g4)) (i0 s35),
  .p (.ia 1 (h0 g34) (h0 g35) (G3 7 6 2)) (i0 s36),
  .p (.ld false 1 (h0 g36)) (i0 s37),
  .p (.call 30 [(h0 g37)] (G3 7 6 4)) (i0 s38),
  .p (.call 29 [(h0 g38)] (G3 7 6 5)) (i0 s39),
  .p (.mv (h0 g39)) (i0 s33),
  .p (.ex (h0 g33) 0) (i0 s40),
  .p (.ex (h0 g33) 1) (i0 s41),
  .p (.ex (h0 g33) 2) (i0 s42),
  .p (.mv (h0 g40)) (i0 s5),
  .p (.mv (h0 g41)) (i0 s6),
  .p (.mv (h0 g42)) (i0 s7)])
 (.seq (.reg [.p (.mv (h0 g6)) (i0 s43),
  .p (.mv (h0 g2)) (i0 s44),
  .p (.mv (h0 g4)) (i0 s45),
  .p (.ia 1 (h0 g44) (h0 g45) (G3 7 7 3)) (i0 s46),
  .p (.ld false 1 (h0 g46)) (i0 s47),
  .p (.bin .neq (h0 g43) (h0 g47) (G3 7 7 5)) (i0 s48),
  .p (.mv (h0 g48)) (i0 s49),
  .gp (h0 g49) false (.mv (h0 g7)) (i0 s50),
  .gp (h0 g49) false (.mv (h0 g3)) (i0 s51),
  .gp (h0 g49) false (.mv (h0 g4)) (i0 s52),
  .gp (h0 g49) false (.ia 1 (h0 g51) (h0 g52) (G3 7 7 10)) (i0 s53),
  .gp (h0 g49) false (.ld false 1 (h0 g53)) (i0 s54),
  .gp (h0 g49) false (.bin .neq (h0 g50) (h0 g54) (G3 7 7 12)) (i0 s55),
  .p (.pk (h0 g49) (kc (.tc (.sc (.bool true)))) (h0 g55)) (i0 s56),
  .p (.mv (h0 g56)) (i0 s57),
  .gp (h0 g57) false (.mv (h0 g7)) (i0 s58),
  .gp (h0 g57) false (.bin .eql (h0 g58) (kc (.tc (.sc (.int .i64 0)))) (G3 7 7 16)) (i0 s59),
  .gp (h0 g57) false (.mv (h0 g59)) (i0 s60),
  .gp (h0 g60) true (.mv (h0 g5)) (i0 s61),
  .gp (h0 g60) true (.len (h0 g61) (G3 7 7 19)) (i0 s62),
  .gp (h0 g60) true (.bin .neq (h0 g62) (kc (.tc (.sc (.int .i64 1)))) (G3 7 7 20)) (i0 s63),
  .gp (h0 g57) false (.pk (h0 g60) (h0 g63) (kc (.tc (.sc (.bool false))))) (i1 s0),
  .p (.pk (h0 g57) (kc (.tc (.sc (.bool true)))) (h1 g0)) (i1 s1),
  .p (.mv (h1 g1)) (i1 s2),
  .gp (h1 g2) false (.mv (h0 g7)) (i1 s3),
  .gp (h1 g2) false (.bin .neq (h1 g3) (kc (.tc (.sc (.int .i64 0)))) (G3 7 7 25)) (i1 s4),
  .gp (h1 g2) false (.mv (h1 g4)) (i1 s5),
  .gp (h1 g5) true (.mv (h0 g5)) (i1 s6),
  .gp (h1 g5) true (.len (h1 g6) (G3 7 7 28)) (i1 s7),
  .gp (h1 g5) true (.bin .neq (h1 g7) (kc (.tc (.sc (.int .i64 0)))) (G3 7 7 29)) (i1 s8),
  .gp (h1 g2) false (.pk (h1 g5) (h1 g8) (kc (.tc (.sc (.bool false))))) (i1 s9),
  .p (.pk (h1 g2) (kc (.tc (.sc (.bool true)))) (h1 g9)) (i1 s10)])
 (.cond (h1 g10) (.seq (.reg [.p (.mv (kc (.tc (.sc (.bool false))))) (i0 s0)])
 .ret)
 .skip))))
 (.reg [.p (.mv (h0 g4)) (i0 s31),
  .p (.bin .add (h0 g31) (kc (.tc (.sc (.int .i64 1)))) (G3 7 9 1)) (i0 s32),
  .p (.mv (h0 g32)) (i0 s4)]))))))
 (.seq (.reg [.p (.call 31 [(kc (.tc (.sc (.string ⟨#[49, 48, 57, 57, 53, 49, 49, 54, 50, 55, 55, 55, 54, 32, 43, 32, 49]⟩))))] (G3 7 10 0)) (i1 s12),
  .p (.mv (h1 g12)) (i1 s11),
  .p (.ex (h1 g11) 0) (i1 s13),
  .p (.ex (h1 g11) 1) (i1 s14),
  .p (.mv (h1 g13)) (i0 s8),
  .p (.mv (h1 g14)) (i0 s9)])
 (.seq (.reg [.p (.call 31 [(kc (.tc (.sc (.string ⟨#[99]⟩))))] (G3 7 11 0)) (i1 s16),
  .p (.mv (h1 g16)) (i1 s15),
  .p (.ex (h1 g15) 0) (i1 s17),
  .p (.ex (h1 g15) 1) (i1 s18),
  .p (.mv (h1 g17)) (i0 s10),
  .p (.mv (h1 g18)) (i0 s11)])
 (.seq (.reg [.p (.call 31 [(kc (.tc (.sc (.string ⟨#[49, 48, 57, 57, 53, 49, 49, 54, 50, 55, 55, 55, 54, 32, 42, 32, 49, 48, 57, 57, 53, 49, 49, 54, 50, 55, 55, 55, 54]⟩))))] (G3 7 12 0)) (i1 s20),
  .p (.mv (h1 g20)) (i1 s19),
  .p (.ex (h1 g19) 0) (i1 s21),
  .p (.ex (h1 g19) 1) (i1 s22),
  .p (.mv (h1 g21)) (i0 s12),
  .p (.mv (h1 g22)) (i0 s13)])
 (.seq (.reg [.p (.call 33 [(kc (.tc (.sc (.slice none 0 0))))] (G3 7 13 0)) (i1 s24),
  .p (.call 32 [(kc (.tc (.sc (.slice none 0 0)))), (h1 g24)] (G3 7 13 1)) (i1 s25),
  .p (.mv (h1 g25)) (i1 s23),
  .p (.ex (h1 g23) 0) (i1 s26),
  .p (.ex (h1 g23) 1) (i1 s27),
  .p (.mv (h1 g26)) (i0 s14),
  .p (.mv (h1 g27)) (i0 s15)])
 (.seq (.reg [.p (.bd [(.tc (.sc (.int .u8 0))), (.tc (.sc (.int .i64 0))), (.tc (.sc (.string ⟨#[]⟩))), (.tc (.sc (.int .i64 0))), (.tc (.sc (.int .i64 0)))] [(.mk 0 1 (kc (.tc (.sc (.int .u8 1)))))] (G3 7 14 0)) (i1 s29),
  .p (.bs 5 1 [[(.tc (.sc (.int .u8 0))), (.tc (.sc (.int .i64 0))), (.tc (.sc (.string ⟨#[]⟩))), (.tc (.sc (.int .i64 0))), (.tc (.sc (.int .i64 0)))]] [(.mk 0 5 (h1 g29))] (G3 7 14 1)) (i1 s30),
  .p (.call 32 [(h1 g30), (kc (.tc (.sc .nilFunc)))] (G3 7 14 2)) (i1 s31),
  .p (.mv (h1 g31)) (i1 s28),
  .p (.ex (h1 g28) 0) (i1 s32),
  .p (.ex (h1 g28) 1) (i1 s33),
  .p (.mv (h1 g32)) (i0 s16),
  .p (.mv (h1 g33)) (i0 s17)])
 (.seq (.reg [.p (.bd [(.tc (.sc (.int .u8 0))), (.tc (.sc (.int .i64 0))), (.tc (.sc (.string ⟨#[]⟩))), (.tc (.sc (.int .i64 0))), (.tc (.sc (.int .i64 0)))] [(.mk 0 1 (kc (.tc (.sc (.int .u8 2))))), (.mk 2 1 (kc (.tc (.sc (.string ⟨#[97]⟩)))))] (G3 7 15 0)) (i1 s34),
  .p (.bd [(.tc (.sc (.int .u8 0))), (.tc (.sc (.int .i64 0))), (.tc (.sc (.string ⟨#[]⟩))), (.tc (.sc (.int .i64 0))), (.tc (.sc (.int .i64 0)))] [(.mk 0 1 (kc (.tc (.sc (.int .u8 2))))), (.mk 2 1 (kc (.tc (.sc (.string ⟨#[122]⟩)))))] (G3 7 15 1)) (i1 s35),
  .p (.bd [(.tc (.sc (.int .u8 0))), (.tc (.sc (.int .i64 0))), (.tc (.sc (.string ⟨#[]⟩))), (.tc (.sc (.int .i64 0))), (.tc (.sc (.int .i64 0)))] [(.mk 0 1 (kc (.tc (.sc (.int .u8 5)))))] (G3 7 15 2)) (i1 s36),
  .p (.bs 5 3 [[(.tc (.sc (.int .u8 0))), (.tc (.sc (.int .i64 0))), (.tc (.sc (.string ⟨#[]⟩))), (.tc (.sc (.int .i64 0))), (.tc (.sc (.int .i64 0)))], [(.tc (.sc (.int .u8 0))), (.tc (.sc (.int .i64 0))), (.tc (.sc (.string ⟨#[]⟩))), (.tc (.sc (.int .i64 0))), (.tc (.sc (.int .i64 0)))], [(.tc (.sc (.int .u8 0))), (.tc (.sc (.int .i64 0))), (.tc (.sc (.string ⟨#[]⟩))), (.tc (.sc (.int .i64 0))), (.tc (.sc (.int .i64 0)))]] [(.mk 0 5 (h1 g34)), (.mk 1 5 (h1 g35)), (.mk 2 5 (h1 g36))] (G3 7 15 3)) (i1 s37),
  .p (.mv (h1 g37)) (i0 s18)])
 (.seq (.reg [.p (.mv (h0 g18)) (i1 s39),
  .p (.bd [(.tc (.sc (.string ⟨#[]⟩))), (.tc (.sc (.int .i64 0))), (.tc (.sc (.int .i64 0)))] [(.mk 0 1 (kc (.tc (.sc (.string ⟨#[97]⟩))))), (.mk 1 1 (kc (.tc (.sc (.int .i64 3)))))] (G3 7 16 1)) (i1 s40),
  .p (.bs 3 1 [[(.tc (.sc (.string ⟨#[]⟩))), (.tc (.sc (.int .i64 0))), (.tc (.sc (.int .i64 0)))]] [(.mk 0 3 (h1 g40))] (G3 7 16 2)) (i1 s41),
  .p (.call 33 [(h1 g41)] (G3 7 16 3)) (i1 s42),
  .p (.call 32 [(h1 g39), (h1 g42)] (G3 7 16 4)) (i1 s43),
  .p (.mv (h1 g43)) (i1 s38),
  .p (.ex (h1 g38) 0) (i1 s44),
  .p (.ex (h1 g38) 1) (i1 s45),
  .p (.mv (h1 g44)) (i0 s19),
  .p (.mv (h1 g45)) (i0 s20)])
 (.seq (.reg [.p (.bd [(.tc (.sc (.int .u8 0))), (.tc (.sc (.string ⟨#[]⟩))), (.tc (.sc (.int .i64 0))), (.tc (.sc (.int .i64 0))), (.tc (.sc (.int .i64 0)))] [(.mk 0 1 (kc (.tc (.sc (.int .u8 2))))), (.mk 2 1 (kc (.tc (.sc (.int .i64 (-1))))))] (G3 7 17 0)) (i1 s47),
  .p (.bs 5 1 [[(.tc (.sc (.int .u8 0))), (.tc (.sc (.string ⟨#[]⟩))), (.tc (.sc (.int .i64 0))), (.tc (.sc (.int .i64 0))), (.tc (.sc (.int .i64 0)))]] [(.mk 0 5 (h1 g47))] (G3 7 17 1)) (i1 s48),
  .p (.call 29 [(h1 g48)] (G3 7 17 2)) (i1 s49),
  .p (.mv (h1 g49)) (i1 s46),
  .p (.ex (h1 g46) 0) (i1 s50),
  .p (.ex (h1 g46) 1) (i1 s51),
  .p (.ex (h1 g46) 2) (i1 s52),
  .p (.mv (h1 g50)) (i0 s21),
  .p (.mv (h1 g51)) (i0 s22),
  .p (.mv (h1 g52)) (i0 s23)])
 (.seq (.seq (.reg [.p (.mv (h0 g9)) (i1 s53),
  .p (.bin .neq (h1 g53) (kc (.tc (.sc (.int .i64 6)))) (G3 7 18 1)) (i1 s54),
  .p (.mv (h1 g54)) (i1 s55),
  .gp (h1 g55) false (.mv (h0 g11)) (i1 s56),
  .gp (h1 g55) false (.bin .neq (h1 g56) (kc (.tc (.sc (.int .i64 4)))) (G3 7 18 4)) (i1 s57),
  .p (.pk (h1 g55) (kc (.tc (.sc (.bool true)))) (h1 g57)) (i1 s58),
  .p (.mv (h1 g58)) (i1 s59),
  .gp (h1 g59) false (.mv (h0 g13)) (i1 s60),
  .gp (h1 g59) false (.bin .neq (h1 g60) (kc (.tc (.sc (.int .i64 6)))) (G3 7 18 8)) (i1 s61),
  .p (.pk (h1 g59) (kc (.tc (.sc (.bool true)))) (h1 g61)) (i1 s62),
  .p (.mv (h1 g62)) (i1 s63),
  .gp (h1 g63) false (.mv (h0 g15)) (i2 s0),
  .gp (h1 g63) false (.bin .neq (h2 g0) (kc (.tc (.sc (.int .i64 1)))) (G3 7 18 12)) (i2 s1),
  .p (.pk (h1 g63) (kc (.tc (.sc (.bool true)))) (h2 g1)) (i2 s2),
  .p (.mv (h2 g2)) (i2 s3),
  .gp (h2 g3) false (.mv (h0 g17)) (i2 s4),
  .gp (h2 g3) false (.bin .neq (h2 g4) (kc (.tc (.sc (.int .i64 1)))) (G3 7 18 16)) (i2 s5),
  .p (.pk (h2 g3) (kc (.tc (.sc (.bool true)))) (h2 g5)) (i2 s6),
  .p (.mv (h2 g6)) (i2 s7),
  .gp (h2 g7) false (.mv (h0 g19)) (i2 s8),
  .gp (h2 g7) false (.bin .neq (h2 g8) (kc (.tc (.sc (.int .i64 9)))) (G3 7 18 20)) (i2 s9),
  .p (.pk (h2 g7) (kc (.tc (.sc (.bool true)))) (h2 g9)) (i2 s10),
  .p (.mv (h2 g10)) (i2 s11),
  .gp (h2 g11) false (.mv (h0 g20)) (i2 s12),
  .gp (h2 g11) false (.bin .neq (h2 g12) (kc (.tc (.sc (.int .i64 0)))) (G3 7 18 24)) (i2 s13),
  .p (.pk (h2 g11) (kc (.tc (.sc (.bool true)))) (h2 g13)) (i2 s14),
  .p (.mv (h2 g14)) (i2 s15),
  .gp (h2 g15) false (.mv (h0 g18)) (i2 s16),
  .gp (h2 g15) false (.call 35 [(h2 g16)] (G3 7 18 28)) (i2 s17),
  .gp (h2 g15) false (.bs 1 1 [[(.tc (.sc (.string ⟨#[]⟩)))]] [(.mk 0 1 (kc (.tc (.sc (.string ⟨#[97]⟩)))))] (G3 7 18 29)) (i2 s18),
  .gp (h2 g15) false (.call 34 [(h2 g17), (h2 g18)] (G3 7 18 30)) (i2 s19),
  .gp (h2 g15) false (.nt (h2 g19) (G3 7 18 31)) (i2 s20),
  .p (.pk (h2 g15) (kc (.tc (.sc (.bool true)))) (h2 g20)) (i2 s21),
  .p (.mv (h2 g21)) (i2 s22),
  .gp (h2 g22) false (.mv (h0 g22)) (i2 s23),
  .gp (h2 g22) false (.bin .neq (h2 g23) (kc (.tc (.sc (.int .i64 0)))) (G3 7 18 35)) (i2 s24),
  .p (.pk (h2 g22) (kc (.tc (.sc (.bool true)))) (h2 g24)) (i2 s25),
  .p (.mv (h2 g25)) (i2 s26),
  .gp (h2 g26) false (.mv (h0 g23)) (i2 s27),
  .gp (h2 g26) false (.bin .neq (h2 g27) (kc (.tc (.sc (.int .i64 8)))) (G3 7 18 39)) (i2 s28),
  .p (.pk (h2 g26) (kc (.tc (.sc (.bool true)))) (h2 g28)) (i2 s29)])
 (.cond (h2 g29) (.seq (.reg [.p (.mv (kc (.tc (.sc (.bool false))))) (i0 s0)])
 .ret)
 .skip))
 (.seq (.reg [.p (.call 36 [(kc (.tc (.sc (.string ⟨#[45, 40, 50, 41]⟩)))), (kc (.tc (.sc (.int .i64 (-2)))))] (G3 7 20 0)) (i2 s30),
  .p (.mv (h2 g30)) (i2 s31),
  .gp (h2 g31) true (.call 36 [(kc (.tc (.sc (.string ⟨#[45, 45, 45, 45, 45, 45, 45, 45, 45, 45, 45, 45, 45, 45, 45, 45, 49]⟩)))), (kc (.tc (.sc (.int .i64 1))))] (G3 7 20 2)) (i2 s32),
  .p (.pk (h2 g31) (h2 g32) (kc (.tc (.sc (.bool false))))) (i2 s33),
  .p (.mv (h2 g33)) (i2 s34),
  .gp (h2 g34) true (.call 36 [(kc (.tc (.sc (.string ⟨#[49, 48, 57, 57, 53, 49, 49, 54, 50, 55, 55, 55, 54]⟩)))), (kc (.tc (.sc (.int .i64 1099511627776))))] (G3 7 20 5)) (i2 s35),
  .p (.pk (h2 g34) (h2 g35) (kc (.tc (.sc (.bool false))))) (i2 s36),
  .p (.mv (h2 g36)) (i2 s37),
  .gp (h2 g37) true (.call 36 [(kc (.tc (.sc (.string ⟨#[49, 48, 57, 57, 53, 49, 49, 54, 50, 55, 55, 55, 54, 45, 49]⟩)))), (kc (.tc (.sc (.int .i64 1099511627775))))] (G3 7 20 8)) (i2 s38),
  .p (.pk (h2 g37) (h2 g38) (kc (.tc (.sc (.bool false))))) (i2 s39),
  .p (.mv (h2 g39)) (i2 s40),
  .gp (h2 g40) true (.call 36 [(kc (.tc (.sc (.string ⟨#[48, 42, 97, 45, 49, 48, 57, 57, 53, 49, 49, 54, 50, 55, 55, 55, 54]⟩)))), (kc (.tc (.sc (.int .i64 (-1099511627776)))))] (G3 7 20 11)) (i2 s41),
  .p (.pk (h2 g40) (h2 g41) (kc (.tc (.sc (.bool false))))) (i2 s42),
  .p (.mv (h2 g42)) (i2 s43),
  .gp (h2 g43) true (.call 37 [] (G3 7 20 14)) (i2 s44),
  .p (.pk (h2 g43) (h2 g44) (kc (.tc (.sc (.bool false))))) (i2 s45),
  .p (.mv (h2 g45)) (i0 s0)])
 .ret))))))))))))))),
 [.tmp (h0 g0)]⟩
theorem ff7_ok : compF SBase 7 = ff7 := by kernel_rfl
noncomputable def ff30 : FF := .t2 ⟨18,
 (.seq (.reg [.p (.mv (kc (.tc (.sc (.slice none 0 0))))) s2])
 (.seq (.reg [.p (.mv g0) s6,
  .p (.call 8 [g6] (G2 30 1 1)) s7,
  .p (.mv g7) s5,
  .p (.ex g5 0) s8,
  .p (.ex g5 1) s9,
  .p (.mv g8) s3,
  .p (.mv g9) s4])
 (.seq (.seq (.reg [.p (.mv g3) s10,
  .p (.len g10 (G2 30 2 1)) s11,
  .p (.bin .eql g11 (kc (.tc (.sc (.int .i64 0)))) (G2 30 2 2)) s12])
 (.cond g12 (.seq (.reg [.p (.mv (kc (.tc (.sc (.slice none 0 0))))) s2])
 .ret)
 .skip))
 (.seq (.reg [.p (.mv g3) s13,
  .p (.mv g3) s14,
  .p (.len g14 (G2 30 4 2)) s15,
  .p (.bin .sub g15 (kc (.tc (.sc (.int .i64 1)))) (G2 30 4 3)) s16,
  .p (.sl 5 g13 none (some g16) none (G2 30 4 4)) s17,
  .p (.mv g17) s2])
 .ret)))),
 [.tmp g2]⟩
theorem ff30_ok : compF SBase 30 = ff30 := by kernel_rfl
noncomputable def ff8 : FF := .t2 ⟨23,
 (.seq (.reg [.p (.mv (kc (.tc (.sc (.slice none 0 0))))) s2,
  .p (.mv (kc (.tc (.sc (.slice none 0 0))))) s3])
 (.seq (.seq (.reg [.p (.mv g0) s5,
  .p (.ls g5 (G2 8 1 1)) s6,
  .p (.bin .gtr g6 (kc (.tc (.sc (.int .i64 33554432)))) (G2 8 1 2)) s7])
 (.cond g7 (.seq (.reg [.p (.bd [(.tc (.sc (.int .i64 0))), (.tc (.sc (.int .i64 0))), (.tc (.sc (.int .i64 0)))] [(.mk 0 1 (kc (.tc (.sc (.int .i64 1))))), (.mk 1 1 (kc (.tc (.sc (.int .i64 1))))), (.mk 2 1 (kc (.tc (.sc (.int .i64 3)))))] (G2 8 2 0)) s8,
  .p (.bs 3 1 [[(.tc (.sc (.int .i64 0))), (.tc (.sc (.int .i64 0))), (.tc (.sc (.int .i64 0)))]] [(.mk 0 3 g8)] (G2 8 2 1)) s9,
  .p (.mv (kc (.tc (.sc (.slice none 0 0))))) s2,
  .p (.mv g9) s3])
 .ret)
 .skip))
 (.seq (.reg [.p (.mv g0) s10,
  .p (.bd [(.tc (.sc (.string ⟨#[]⟩))), (.tc (.sc (.int .i64 0))), (.tc (.sc (.int .i64 0))), (.tc (.sc (.int .i64 0))), (.tc (.sc (.slice none 0 0))), (.tc (.sc (.slice none 0 0)))] [(.mk 0 1 g10), (.mk 2 1 (kc (.tc (.sc (.int .i64 1)))))] (G2 8 3 1)) s11,
  .p (.bx 6 g11 (G2 8 3 2)) s12,
  .p (.mv g12) s4])
 (.seq (.reg [.p (.mv g4) s13,
  .p (.call 38 [g13] (G2 8 4 1)) s14])
 (.seq (.regD [0, 1, 3, 7, 0, 16, 48, 112, 15, 511] [.no, .no, .no, (.rd (.ld false 1 g17) g18), .no, .no, .no, (.rd (.ld false 1 g21) g22), .no, .no] [.mk .none .yes (.mv g4) (.mv g4) (some s15),
  .mk .none .yes (.nc g15 (G2 8 5 1)) (.nc g15 (G2 8 5 1)) (some s16),
  .mk .none .yes (.fa 4 g16) (.fa 4 g16) (some s17),
  .mk .none .yes (.ld false 1 g17) (.ld false 1 g17) (some s18),
  .mk .none .yes (.mv g4) (.mv g4) (some s19),
  .mk .none .yes (.nc g19 (G2 8 5 5)) (.nc g19 (G2 8 5 5)) (some s20),
  .mk .none .yes (.fa 5 g20) (.fa 5 g20) (some s21),
  .mk .none .yes (.ld false 1 g21) (.ld false 1 g21) (some s22),
  .mk .none .yes (.mv g18) (.mv g18) (some s2),
  .mk .none .yes (.mv g22) (.mv g22) (some s3)])
 .ret))))),
 [.tmp g2, .tmp g3]⟩
theorem ff8_ok : compF SBase 8 = ff8 := by kernel_rfl
noncomputable def ff38 : FF := .t3 ⟨171,
 (.scope 4294967296 (.seq (.label 1)
 (.seq (.seq (.regD [0, 1, 3, 7, 0, 16, 48, 112, 240, 511] [.no, .no, .no, (.rd (.ld false 1 (h0 g7)) (h0 g8)), .no, .no, .no, (.rd (.ld false 1 (h0 g11)) (h0 g12)), .no, .no] [.mk .none .yes (.mv (h0 g0)) (.mv (h0 g0)) (some (i0 s5)),
  .mk .none .yes (.nc (h0 g5) (G3 38 0 1)) (.nc (h0 g5) (G3 38 0 1)) (some (i0 s6)),
  .mk .none .yes (.fa 1 (h0 g6)) (.fa 1 (h0 g6)) (some (i0 s7)),
  .mk .none .yes (.ld false 1 (h0 g7)) (.ld false 1 (h0 g7)) (some (i0 s8)),
  .mk .none .yes (.mv (h0 g0)) (.mv (h0 g0)) (some (i0 s9)),
  .mk .none .yes (.nc (h0 g9) (G3 38 0 5)) (.nc (h0 g9) (G3 38 0 5)) (some (i0 s10)),
  .mk .none .yes (.fa 0 (h0 g10)) (.fa 0 (h0 g10)) (some (i0 s11)),
  .mk .none .yes (.ld false 1 (h0 g11)) (.ld false 1 (h0 g11)) (some (i0 s12)),
  .mk .none .yes (.ls (h0 g12) (G3 38 0 8)) (.ls (h0 g12) (G3 38 0 8)) (some (i0 s13)),
  .mk .none .yes (.bin .eql (h0 g8) (h0 g13) (G3 38 0 9)) (.bin .eql (h0 g8) (h0 g13) (G3 38 0 9)) (some (i0 s14))])
 (.cond (h0 g14) (.goto 0)
 .skip))
 (.seq (.seq (.regD [0, 1, 3, 7, 0, 16, 48, 112, 255, 511] [.no, .no, .no, (.rd (.ld false 1 (h0 g17)) (h0 g18)), .no, .no, .no, (.rd (.ld false 1 (h0 g21)) (h0 g22)), .no, .no] [.mk .none .yes (.mv (h0 g0)) (.mv (h0 g0)) (some (i0 s15)),
  .mk .none .yes (.nc (h0 g15) (G3 38 1 1)) (.nc (h0 g15) (G3 38 1 1)) (some (i0 s16)),
  .mk .none .yes (.fa 0 (h0 g16)) (.fa 0 (h0 g16)) (some (i0 s17)),
  .mk .none .yes (.ld false 1 (h0 g17)) (.ld false 1 (h0 g17)) (some (i0 s18)),
  .mk .none .yes (.mv (h0 g0)) (.mv (h0 g0)) (some (i0 s19)),
  .mk .none .yes (.nc (h0 g19) (G3 38 1 5)) (.nc (h0 g19) (G3 38 1 5)) (some (i0 s20)),
  .mk .none .yes (.fa 1 (h0 g20)) (.fa 1 (h0 g20)) (some (i0 s21)),
  .mk .none .yes (.ld false 1 (h0 g21)) (.ld false 1 (h0 g21)) (some (i0 s22)),
  .mk .none .yes (.ix (h0 g18) (h0 g22) (G3 38 1 8)) (.ix (h0 g18) (h0 g22) (G3 38 1 8)) (some (i0 s23)),
  .mk .none .yes (.mv (h0 g23)) (.mv (h0 g23)) (some (i0 s2))])
 (.block 0 (.seq (.reg [.p (.mv (h0 g2)) (i0 s25),
  .p (.bin .eql (h0 g25) (kc (.tc (.sc (.int .u8 10)))) (G3 38 2 1)) (i0 s26),
  .p (.mv (h0 g26)) (i0 s24)])
 (.cond (h0 g24) (.goto 2)
 (.seq (.reg [.p (.mv (h0 g2)) (i0 s28),
  .p (.bin .eql (h0 g28) (kc (.tc (.sc (.int .u8 32)))) (G3 38 3 1)) (i0 s29),
  .p (.mv (h0 g29)) (i0 s30),
  .gp (h0 g30) false (.mv (h0 g2)) (i0 s31),
  .gp (h0 g30) false (.bin .eql (h0 g31) (kc (.tc (.sc (.int .u8 9)))) (G3 38 3 4)) (i0 s32),
  .p (.pk (h0 g30) (kc (.tc (.sc (.bool true)))) (h0 g32)) (i0 s33),
  .p (.mv (h0 g33)) (i0 s34),
  .gp (h0 g34) false (.mv (h0 g2)) (i0 s35),
  .gp (h0 g34) false (.bin .eql (h0 g35) (kc (.tc (.sc (.int .u8 13)))) (G3 38 3 8)) (i0 s36),
  .p (.pk (h0 g34) (kc (.tc (.sc (.bool true)))) (h0 g36)) (i0 s37),
  .p (.mv (h0 g37)) (i0 s27)])
 (.cond (h0 g27) (.seq (.reg [.p (.mv (h0 g0)) (i0 s38),
  .p (.nc (h0 g38) (G3 38 4 1)) (i0 s39),
  .p (.fa 1 (h0 g39)) (i0 s40),
  .p (.ld false 1 (h0 g40)) (i0 s41),
  .p (.bin .add (h0 g41) (kc (.tc (.sc (.int .i64 1)))) (G3 38 4 4)) (i0 s42),
  .p (.nc (h0 g38) (G3 38 4 5)) (i0 s43),
  .p (.fa 1 (h0 g43)) (i0 s44),
  .n (.st 1 (h0 g44) (h0 g42) (G3 38 4 7))])
 (.goto 1))
 (.seq (.reg [.p (.mv (h0 g2)) (i0 s46),
  .p (.call 62 [(h0 g46)] (G3 38 5 1)) (i0 s47),
  .p (.mv (h0 g47)) (i0 s48),
  .gp (h0 g48) false (.mv (h0 g2)) (i0 s49),
  .gp (h0 g48) false (.bin .eql (h0 g49) (kc (.tc (.sc (.int .u8 46)))) (G3 38 5 4)) (i0 s50),
  .p (.pk (h0 g48) (kc (.tc (.sc (.bool true)))) (h0 g50)) (i0 s51),
  .p (.mv (h0 g51)) (i0 s45)])
 (.cond (h0 g45) (.goto 3)
 (.seq (.reg [.p (.mv (h0 g2)) (i0 s53),
  .p (.call 63 [(h0 g53)] (G3 38 6 1)) (i0 s54),
  .p (.mv (h0 g54)) (i0 s52)])
 (.cond (h0 g52) (.goto 4)
 (.seq (.regD [0, 1, 3, 7, 0, 16, 48, 112, 255, 511, 1023] [.no, .no, .no, (.rd (.ld false 1 (h0 g58)) (h0 g59)), .no, .no, .no, (.rd (.ld false 1 (h0 g62)) (h0 g63)), .no, .no, .no] [.mk .none .yes (.mv (h0 g0)) (.mv (h0 g0)) (some (i0 s56)),
  .mk .none .yes (.nc (h0 g56) (G3 38 7 1)) (.nc (h0 g56) (G3 38 7 1)) (some (i0 s57)),
  .mk .none .yes (.fa 0 (h0 g57)) (.fa 0 (h0 g57)) (some (i0 s58)),
  .mk .none .yes (.ld false 1 (h0 g58)) (.ld false 1 (h0 g58)) (some (i0 s59)),
  .mk .none .yes (.mv (h0 g0)) (.mv (h0 g0)) (some (i0 s60)),
  .mk .none .yes (.nc (h0 g60) (G3 38 7 5)) (.nc (h0 g60) (G3 38 7 5)) (some (i0 s61)),
  .mk .none .yes (.fa 1 (h0 g61)) (.fa 1 (h0 g61)) (some (i0 s62)),
  .mk .none .yes (.ld false 1 (h0 g62)) (.ld false 1 (h0 g62)) (some (i0 s63)),
  .mk .none .yes (.ss (h0 g59) (some (h0 g63)) none none (G3 38 7 8)) (.ss (h0 g59) (some (h0 g63)) none none (G3 38 7 8)) (some (i1 s0)),
  .mk .none (.dyn 64 [(h1 g0), (kc (.tc (.sc (.string ⟨#[47, 47]⟩))))]) (.call 64 [(h1 g0), (kc (.tc (.sc (.string ⟨#[47, 47]⟩))))] (G3 38 7 9)) (.call 64 [(h1 g0), (kc (.tc (.sc (.string ⟨#[47, 47]⟩))))] (G3 38 7 9)) (some (i1 s1)),
  .mk .none .yes (.mv (h1 g1)) (.mv (h1 g1)) (some (i0 s55))])
 (.cond (h0 g55) (.goto 5)
 (.seq (.regD [0, 1, 3, 7, 0, 16, 48, 112, 255, 511, 1023] [.no, .no, .no, (.rd (.ld false 1 (h1 g5)) (h1 g6)), .no, .no, .no, (.rd (.ld false 1 (h1 g9)) (h1 g10)), .no, .no, .no] [.mk .none .yes (.mv (h0 g0)) (.mv (h0 g0)) (some (i1 s3)),
  .mk .none .yes (.nc (h1 g3) (G3 38 8 1)) (.nc (h1 g3) (G3 38 8 1)) (some (i1 s4)),
  .mk .none .yes (.fa 0 (h1 g4)) (.fa 0 (h1 g4)) (some (i1 s5)),
  .mk .none .yes (.ld false 1 (h1 g5)) (.ld false 1 (h1 g5)) (some (i1 s6)),
  .mk .none .yes (.mv (h0 g0)) (.mv (h0 g0)) (some (i1 s7)),
  .mk .none .yes (.nc (h1 g7) (G3 38 8 5)) (.nc (h1 g7) (G3 38 8 5)) (some (i1 s8)),
  .mk .none .yes (.fa 1 (h1 g8)) (.fa 1 (h1 g8)) (some (i1 s9)),
  .mk .none .yes (.ld false 1 (h1 g9)) (.ld false 1 (h1 g9)) (some (i1 s10)),
  .mk .none .yes (.ss (h1 g6) (some (h1 g10)) none none (G3 38 8 8)) (.ss (h1 g6) (some (h1 g10)) none none (G3 38 8 8)) (some (i1 s11)),
  .mk .none (.dyn 64 [(h1 g11), (kc (.tc (.sc (.string ⟨#[35, 35]⟩))))]) (.call 64 [(h1 g11), (kc (.tc (.sc (.string ⟨#[35, 35]⟩))))] (G3 38 8 9)) (.call 64 [(h1 g11), (kc (.tc (.sc (.string ⟨#[35, 35]⟩))))] (G3 38 8 9)) (some (i1 s12)),
  .mk .none .yes (.mv (h1 g12)) (.mv (h1 g12)) (some (i1 s2))])
 (.cond (h1 g2) (.seq (.reg [.p (.mv (h0 g0)) (i1 s13),
  .p (.call 65 [(h1 g13), (kc (.tc (.sc (.int .u8 3)))), (kc (.tc (.sc (.string ⟨#[35, 35]⟩)))), (kc (.tc (.sc (.int .i64 0))))] (G3 38 9 1)) (i1 s14)])
 (.goto 1))
 (.seq (.reg [.p (.mv (h0 g2)) (i1 s16),
  .p (.call 66 [(kc (.tc (.sc (.string ⟨#[123, 125, 59, 58, 40, 41, 44, 61, 43, 45, 42, 33, 35]⟩)))), (h1 g16)] (G3 38 10 1)) (i1 s17),
  .p (.bin .geq (h1 g17) (kc (.tc (.sc (.int .i64 0)))) (G3 38 10 2)) (i1 s18),
  .p (.mv (h1 g18)) (i1 s15)])
 (.cond (h1 g15) (.seq (.regD [0, 0, 2, 6, 14, 0, 32, 96, 224, 0, 512, 1536, 3584, 7680, 16382, 32767] [.no, .no, .no, .no, (.rd (.ld false 1 (h1 g22)) (h1 g23)), .no, .no, .no, (.rd (.ld false 1 (h1 g26)) (h1 g27)), .no, .no, .no, (.rd (.ld false 1 (h1 g30)) (h1 g31)), .no, .no, .no] [.mk .none .yes (.mv (h0 g0)) (.mv (h0 g0)) (some (i1 s19)),
  .mk .none .yes (.mv (h0 g0)) (.mv (h0 g0)) (some (i1 s20)),
  .mk .none .yes (.nc (h1 g20) (G3 38 11 2)) (.nc (h1 g20) (G3 38 11 2)) (some (i1 s21)),
  .mk .none .yes (.fa 0 (h1 g21)) (.fa 0 (h1 g21)) (some (i1 s22)),
  .mk .none .yes (.ld false 1 (h1 g22)) (.ld false 1 (h1 g22)) (some (i1 s23)),
  .mk .none .yes (.mv (h0 g0)) (.mv (h0 g0)) (some (i1 s24)),
  .mk .none .yes (.nc (h1 g24) (G3 38 11 6)) (.nc (h1 g24) (G3 38 11 6)) (some (i1 s25)),
  .mk .none .yes (.fa 1 (h1 g25)) (.fa 1 (h1 g25)) (some (i1 s26)),
  .mk .none .yes (.ld false 1 (h1 g26)) (.ld false 1 (h1 g26)) (some (i1 s27)),
  .mk .none .yes (.mv (h0 g0)) (.mv (h0 g0)) (some (i1 s28)),
  .mk .none .yes (.nc (h1 g28) (G3 38 11 10)) (.nc (h1 g28) (G3 38 11 10)) (some (i1 s29)),
  .mk .none .yes (.fa 1 (h1 g29)) (.fa 1 (h1 g29)) (some (i1 s30)),
  .mk .none .yes (.ld false 1 (h1 g30)) (.ld false 1 (h1 g30)) (some (i1 s31)),
  .mk .none .yes (.bin .add (h1 g31) (kc (.tc (.sc (.int .i64 1)))) (G3 38 11 13)) (.bin .add (h1 g31) (kc (.tc (.sc (.int .i64 1)))) (G3 38 11 13)) (some (i1 s32)),
  .mk .none .yes (.ss (h1 g23) (some (h1 g27)) (some (h1 g32)) none (G3 38 11 14)) (.ss (h1 g23) (some (h1 g27)) (some (h1 g32)) none (G3 38 11 14)) (some (i1 s33)),
  .mk .none (.dyn 65 [(h1 g19), (kc (.tc (.sc (.int .u8 3)))), (h1 g33), (kc (.tc (.sc (.int .i64 0))))]) (.call 65 [(h1 g19), (kc (.tc (.sc (.int .u8 3)))), (h1 g33), (kc (.tc (.sc (.int .i64 0))))] (G3 38 11 15)) (.call 65 [(h1 g19), (kc (.tc (.sc (.int .u8 3)))), (h1 g33), (kc (.tc (.sc (.int .i64 0))))] (G3 38 11 15)) (some (i1 s34))])
 (.goto 1))
 .skip))))))))))))))))
 (.seq (.reg [.p (.mv (h0 g0)) (i1 s35),
  .p (.call 67 [(h1 g35), (kc (.tc (.sc (.int .i64 8)))), (kc (.tc (.sc (.int .i64 1))))] (G3 38 12 1)) (i1 s36)])
 (.seq (.goto 1)
 (.seq (.label 2)
 (.seq (.reg [.p (.mv (h0 g0)) (i1 s37),
  .p (.call 65 [(h1 g37), (kc (.tc (.sc (.int .u8 4)))), (kc (.tc (.sc (.string ⟨#[]⟩)))), (kc (.tc (.sc (.int .i64 0))))] (G3 38 13 1)) (i1 s38)])
 (.seq (.reg [.p (.mv (h0 g0)) (i1 s39),
  .p (.nc (h1 g39) (G3 38 14 1)) (i1 s40),
  .p (.fa 1 (h1 g40)) (i1 s41),
  .p (.ld false 1 (h1 g41)) (i1 s42),
  .p (.bin .add (h1 g42) (kc (.tc (.sc (.int .i64 1)))) (G3 38 14 4)) (i1 s43),
  .p (.nc (h1 g39) (G3 38 14 5)) (i1 s44),
  .p (.fa 1 (h1 g44)) (i1 s45),
  .n (.st 1 (h1 g45) (h1 g43) (G3 38 14 7))])
 (.seq (.regD [0, 0, 0, 4, 12, 28, 60, 0, 128, 384, 896, 2045, 4093, 8189, 16383, 32767, 65535] [.no, .no, .no, .no, .no, (.rd (.ld false 1 (h1 g50)) (h1 g51)), .no, .no, .no, .no, (.rd (.ld false 1 (h1 g55)) (h1 g56)), .no, .no, .no, .no, .no, .no] [.mk .none .yes (.mv (h0 g0)) (.mv (h0 g0)) (some (i1 s46)),
  .mk .none .yes (.mv (h0 g0)) (.mv (h0 g0)) (some (i1 s47)),
  .mk .none .yes (.mv (h0 g0)) (.mv (h0 g0)) (some (i1 s48)),
  .mk .none .yes (.nc (h1 g48) (G3 38 15 3)) (.nc (h1 g48) (G3 38 15 3)) (some (i1 s49)),
  .mk .none .yes (.fa 2 (h1 g49)) (.fa 2 (h1 g49)) (some (i1 s50)),
  .mk .none .yes (.ld false 1 (h1 g50)) (.ld false 1 (h1 g50)) (some (i1 s51)),
  .mk .none .yes (.bin .add (h1 g51) (kc (.tc (.sc (.int .i64 1)))) (G3 38 15 6)) (.bin .add (h1 g51) (kc (.tc (.sc (.int .i64 1)))) (G3 38 15 6)) (some (i1 s52)),
  .mk .none .yes (.mv (h0 g0)) (.mv (h0 g0)) (some (i1 s53)),
  .mk .none .yes (.nc (h1 g53) (G3 38 15 8)) (.nc (h1 g53) (G3 38 15 8)) (some (i1 s54)),
  .mk .none .yes (.fa 1 (h1 g54)) (.fa 1 (h1 g54)) (some (i1 s55)),
  .mk .none .yes (.ld false 1 (h1 g55)) (.ld false 1 (h1 g55)) (some (i1 s56)),
  .mk .none .yes (.nc (h1 g46) (G3 38 15 11)) (.nc (h1 g46) (G3 38 15 11)) (some (i1 s57)),
  .mk .none .yes (.fa 2 (h1 g57)) (.fa 2 (h1 g57)) (some (i1 s58)),
  .mk .none .no (.st 1 (h1 g58) (h1 g52) (G3 38 15 13)) (.st 1 (h1 g58) (h1 g52) (G3 38 15 13)) none,
  .mk .none .yes (.nc (h1 g47) (G3 38 15 14)) (.nc (h1 g47) (G3 38 15 14)) (some (i1 s59)),
  .mk .none .yes (.fa 3 (h1 g59)) (.fa 3 (h1 g59)) (some (i1 s60)),
  .mk .none .no (.st 1 (h1 g60) (h1 g56) (G3 38 15 16)) (.st 1 (h1 g60) (h1 g56) (G3 38 15 16)) none])
 (.seq (.goto 1)
 (.seq (.label 5)
 (.seq (.seq (.regD [0, 1, 3, 7, 0, 16, 48, 112, 255, 511, 1023] [.no, .no, .no, (.rd (.ld false 1 (h1 g63)) (h2 g0)), .no, .no, .no, (.rd (.ld false 1 (h2 g3)) (h2 g4)), .no, .no, .no] [.mk .none .yes (.mv (h0 g0)) (.mv (h0 g0)) (some (i1 s61)),
  .mk .none .yes (.nc (h1 g61) (G3 38 16 1)) (.nc (h1 g61) (G3 38 16 1)) (some (i1 s62)),
  .mk .none .yes (.fa 0 (h1 g62)) (.fa 0 (h1 g62)) (some (i1 s63)),
  .mk .none .yes (.ld false 1 (h1 g63)) (.ld false 1 (h1 g63)) (some (i2 s0)),
  .mk .none .yes (.mv (h0 g0)) (.mv (h0 g0)) (some (i2 s1)),
  .mk .none .yes (.nc (h2 g1) (G3 38 16 5)) (.nc (h2 g1) (G3 38 16 5)) (some (i2 s2)),
  .mk .none .yes (.fa 1 (h2 g2)) (.fa 1 (h2 g2)) (some (i2 s3)),
  .mk .none .yes (.ld false 1 (h2 g3)) (.ld false 1 (h2 g3)) (some (i2 s4)),
  .mk .none .yes (.ss (h2 g0) (some (h2 g4)) none none (G3 38 16 8)) (.ss (h2 g0) (some (h2 g4)) none none (G3 38 16 8)) (some (i2 s5)),
  .mk .none (.dyn 66 [(h2 g5), (kc (.tc (.sc (.int .u8 10))))]) (.call 66 [(h2 g5), (kc (.tc (.sc (.int .u8 10))))] (G3 38 16 9)) (.call 66 [(h2 g5), (kc (.tc (.sc (.int .u8 10))))] (G3 38 16 9)) (some (i2 s6)),
  .mk .none .yes (.mv (h2 g6)) (.mv (h2 g6)) (some (i0 s3))])
 (.seq (.reg [.p (.mv (h0 g3)) (i2 s7),
  .p (.bin .geq (h2 g7) (kc (.tc (.sc (.int .i64 0)))) (G3 38 17 1)) (i2 s8)])
 (.cond (h2 g8) (.seq (.reg [.p (.mv (h0 g0)) (i2 s9),
  .p (.nc (h2 g9) (G3 38 18 1)) (i2 s10),
  .p (.fa 1 (h2 g10)) (i2 s11),
  .p (.ld false 1 (h2 g11)) (i2 s12),
  .p (.mv (h0 g3)) (i2 s13),
  .p (.bin .add (h2 g12) (h2 g13) (G3 38 18 5)) (i2 s14),
  .p (.nc (h2 g9) (G3 38 18 6)) (i2 s15),
  .p (.fa 1 (h2 g15)) (i2 s16),
  .n (.st 1 (h2 g16) (h2 g14) (G3 38 18 8))])
 (.goto 2))
 .skip)))
 (.seq (.reg [.p (.mv (h0 g0)) (i2 s17),
  .p (.mv (h0 g0)) (i2 s18),
  .p (.nc (h2 g18) (G3 38 19 2)) (i2 s19),
  .p (.fa 0 (h2 g19)) (i2 s20),
  .p (.ld false 1 (h2 g20)) (i2 s21),
  .p (.ls (h2 g21) (G3 38 19 5)) (i2 s22),
  .p (.nc (h2 g17) (G3 38 19 6)) (i2 s23),
  .p (.fa 1 (h2 g23)) (i2 s24),
  .n (.st 1 (h2 g24) (h2 g22) (G3 38 19 8))])
 (.seq (.goto 0)
 (.seq (.label 3)
 (.seq (.seq (.reg [.p (.mv (h0 g0)) (i2 s25),
  .p (.call 68 [(h2 g25), (kc (.tc (.sc (.string ⟨#[46]⟩))))] (G3 38 20 1)) (i2 s26),
  .p (.mv (h2 g26)) (i0 s4)])
 (.seq (.reg [.p (.mv (h0 g4)) (i2 s27),
  .p (.ls (h2 g27) (G3 38 21 1)) (i2 s28),
  .p (.bin .gtr (h2 g28) (kc (.tc (.sc (.int .i64 32)))) (G3 38 21 2)) (i2 s29)])
 (.cond (h2 g29) (.reg [.p (.mv (h0 g0)) (i2 s30),
  .p (.mv (h0 g4)) (i2 s31),
  .p (.ls (h2 g31) (G3 38 22 2)) (i2 s32),
  .p (.call 67 [(h2 g30), (kc (.tc (.sc (.int .i64 3)))), (h2 g32)] (G3 38 22 3)) (i2 s33)])
 (.reg [.p (.mv (h0 g0)) (i2 s34),
  .p (.mv (h0 g4)) (i2 s35),
  .p (.call 65 [(h2 g34), (kc (.tc (.sc (.int .u8 1)))), (h2 g35), (kc (.tc (.sc (.int .i64 0))))] (G3 38 23 2)) (i2 s36)]))))
 (.seq (.goto 1)
 (.seq (.label 4)
 (.seq (.reg [.p (.mv (h0 g0)) (i2 s37),
  .p (.mv (h0 g0)) (i2 s38),
  .p (.call 68 [(h2 g38), (kc (.tc (.sc (.string ⟨#[]⟩))))] (G3 38 24 2)) (i2 s39),
  .p (.call 69 [(h2 g37), (h2 g39)] (G3 38 24 3)) (i2 s40)])
 (.seq (.goto 1)
 (.seq (.label 0)
 (.reg [.p (.mv (h0 g0)) (i2 s41),
  .p (.call 65 [(h2 g41), (kc (.tc (.sc (.int .u8 4)))), (kc (.tc (.sc (.string ⟨#[]⟩)))), (kc (.tc (.sc (.int .i64 0))))] (G3 38 25 1)) (i2 s42)]))))))))))))))))))))))),
 []⟩
theorem ff38_ok : compF SBase 38 = ff38 := by kernel_rfl
noncomputable def ff62 : FF := .t2 ⟨15,
 (.seq (.reg [.p (.mv (kc (.tc (.sc (.bool false))))) s2])
 (.seq (.reg [.p (.mv g0) s3,
  .p (.bin .or g3 (kc (.tc (.sc (.int .u8 32)))) (G2 62 1 1)) s4,
  .p (.bin .geq g4 (kc (.tc (.sc (.int .u8 97)))) (G2 62 1 2)) s5,
  .p (.mv g5) s6,
  .gp g6 true (.mv g0) s7,
  .gp g6 true (.bin .or g7 (kc (.tc (.sc (.int .u8 32)))) (G2 62 1 5)) s8,
  .gp g6 true (.bin .leq g8 (kc (.tc (.sc (.int .u8 122)))) (G2 62 1 6)) s9,
  .p (.pk g6 g9 (kc (.tc (.sc (.bool false))))) s10,
  .p (.mv g10) s11,
  .gp g11 false (.mv g0) s12,
  .gp g11 false (.bin .eql g12 (kc (.tc (.sc (.int .u8 95)))) (G2 62 1 10)) s13,
  .p (.pk g11 (kc (.tc (.sc (.bool true)))) g13) s14,
  .p (.mv g14) s2])
 .ret)),
 [.tmp g2]⟩
theorem ff62_ok : compF SBase 62 = ff62 := by kernel_rfl
noncomputable def ff63 : FF := .t2 ⟨9,
 (.seq (.reg [.p (.mv (kc (.tc (.sc (.bool false))))) s2])
 (.seq (.reg [.p (.mv g0) s3,
  .p (.bin .geq g3 (kc (.tc (.sc (.int .u8 48)))) (G2 63 1 1)) s4,
  .p (.mv g4) s5,
  .gp g5 true (.mv g0) s6,
  .gp g5 true (.bin .leq g6 (kc (.tc (.sc (.int .u8 57)))) (G2 63 1 4)) s7,
  .p (.pk g5 g7 (kc (.tc (.sc (.bool false))))) s8,
  .p (.mv g8) s2])
 .ret)),
 [.tmp g2]⟩
theorem ff63_ok : compF SBase 63 = ff63 := by kernel_rfl
noncomputable def ff64 : FF := .t2 ⟨8,
 (.seq (.reg [.p (.mv (kc (.tc (.sc (.bool false))))) s4])
 (.seq (.reg [.p (.mv g0) s5,
  .p (.mv g1) s6,
  .p (.call 96 [g5, g6] (G2 64 1 2)) s7,
  .p (.mv g7) s4])
 .ret)),
 [.tmp g4]⟩
theorem ff64_ok : compF SBase 64 = ff64 := by kernel_rfl
noncomputable def ff96 : FF := .t2 ⟨18,
 (.seq (.reg [.p (.mv (kc (.tc (.sc (.bool false))))) s4])
 (.seq (.reg [.p (.mv g0) s5,
  .p (.ls g5 (G2 96 1 1)) s6,
  .p (.mv g1) s7,
  .p (.ls g7 (G2 96 1 3)) s8,
  .p (.bin .geq g6 g8 (G2 96 1 4)) s9,
  .p (.mv g9) s10,
  .gp g10 true (.mv g0) s11,
  .gp g10 true (.mv g1) s12,
  .gp g10 true (.ls g12 (G2 96 1 8)) s13,
  .gp g10 true (.ss g11 none (some g13) none (G2 96 1 9)) s14,
  .gp g10 true (.mv g1) s15,
  .gp g10 true (.bin .eql g14 g15 (G2 96 1 11)) s16,
  .p (.pk g10 g16 (kc (.tc (.sc (.bool false))))) s17,
  .p (.mv g17) s4])
 .ret)),
 [.tmp g4]⟩
theorem ff96_ok : compF SBase 96 = ff96 := by kernel_rfl
noncomputable def ff65 : FF := .t2 ⟨44,
 (.seq (.regD [0, 0, 2, 6, 14, 0, 0, 0, 0, 256, 768, 1792, 0, 4096, 12288, 28672, 0, 65536, 196608, 458752, 1044480, 2093056, 4194272, 8388576, 16777214, 33554431, 67108863, 134217727] [.no, .no, .no, .no, (.rd (.ld false 1 g11) g12), .no, .no, .no, .no, .no, .no, (.rd (.ld false 1 g18) g19), .no, .no, .no, (.rd (.ld false 1 g22) g23), .no, .no, .no, (.rd (.ld false 1 g26) g27), .no, .no, .no, .no, .no, .no, .no, .no] [.mk .none .yes (.mv g0) (.mv g0) (some s8),
  .mk .none .yes (.mv g0) (.mv g0) (some s9),
  .mk .none .yes (.nc g9 (G2 65 0 2)) (.nc g9 (G2 65 0 2)) (some s10),
  .mk .none .yes (.fa 4 g10) (.fa 4 g10) (some s11),
  .mk .none .yes (.ld false 1 g11) (.ld false 1 g11) (some s12),
  .mk .none .yes (.mv g1) (.mv g1) (some s13),
  .mk .none .yes (.mv g2) (.mv g2) (some s14),
  .mk .none .yes (.mv g3) (.mv g3) (some s15),
  .mk .none .yes (.mv g0) (.mv g0) (some s16),
  .mk .none .yes (.nc g16 (G2 65 0 9)) (.nc g16 (G2 65 0 9)) (some s17),
  .mk .none .yes (.fa 2 g17) (.fa 2 g17) (some s18),
  .mk .none .yes (.ld false 1 g18) (.ld false 1 g18) (some s19),
  .mk .none .yes (.mv g0) (.mv g0) (some s20),
  .mk .none .yes (.nc g20 (G2 65 0 13)) (.nc g20 (G2 65 0 13)) (some s21),
  .mk .none .yes (.fa 1 g21) (.fa 1 g21) (some s22),
  .mk .none .yes (.ld false 1 g22) (.ld false 1 g22) (some s23),
  .mk .none .yes (.mv g0) (.mv g0) (some s24),
  .mk .none .yes (.nc g24 (G2 65 0 17)) (.nc g24 (G2 65 0 17)) (some s25),
  .mk .none .yes (.fa 3 g25) (.fa 3 g25) (some s26),
  .mk .none .yes (.ld false 1 g26) (.ld false 1 g26) (some s27),
  .mk .none .yes (.bin .sub g23 g27 (G2 65 0 20)) (.bin .sub g23 g27 (G2 65 0 20)) (some s28),
  .mk .none .yes (.bin .add g28 (kc (.tc (.sc (.int .i64 1)))) (G2 65 0 21)) (.bin .add g28 (kc (.tc (.sc (.int .i64 1)))) (G2 65 0 21)) (some s29),
  .mk .none .yes (.bd [(.tc (.sc (.int .u8 0))), (.tc (.sc (.string ⟨#[]⟩))), (.tc (.sc (.int .i64 0))), (.tc (.sc (.int .i64 0))), (.tc (.sc (.int .i64 0)))] [(.mk 0 1 g13), (.mk 1 1 g14), (.mk 2 1 g15), (.mk 3 1 g19), (.mk 4 1 g29)] (G2 65 0 22)) (.bd [(.tc (.sc (.int .u8 0))), (.tc (.sc (.string ⟨#[]⟩))), (.tc (.sc (.int .i64 0))), (.tc (.sc (.int .i64 0))), (.tc (.sc (.int .i64 0)))] [(.mk 0 1 g13), (.mk 1 1 g14), (.mk 2 1 g15), (.mk 3 1 g19), (.mk 4 1 g29)] (G2 65 0 22)) (some s30),
  .mk .none .yes (.bt 5 [[(.tc (.sc (.int .u8 0))), (.tc (.sc (.string ⟨#[]⟩))), (.tc (.sc (.int .i64 0))), (.tc (.sc (.int .i64 0))), (.tc (.sc (.int .i64 0)))]] [(.mk 0 5 g30)] (G2 65 0 23)) (.bs 5 1 [[(.tc (.sc (.int .u8 0))), (.tc (.sc (.string ⟨#[]⟩))), (.tc (.sc (.int .i64 0))), (.tc (.sc (.int .i64 0))), (.tc (.sc (.int .i64 0)))]] [(.mk 0 5 g30)] (G2 65 0 23)) (some s31),
  .mk .none .no (.ap 5 48 g12 g31) (.ap 5 48 g12 g31) (some s32),
  .mk .none .yes (.nc g8 (G2 65 0 25)) (.nc g8 (G2 65 0 25)) (some s33),
  .mk .none .yes (.fa 4 g33) (.fa 4 g33) (some s34),
  .mk .none .no (.st 1 g34 g32 (G2 65 0 27)) (.st 1 g34 g32 (G2 65 0 27)) none])
 (.reg [.p (.mv g0) s35,
  .p (.nc g35 (G2 65 1 1)) s36,
  .p (.fa 1 g36) s37,
  .p (.ld false 1 g37) s38,
  .p (.mv g2) s39,
  .p (.ls g39 (G2 65 1 5)) s40,
  .p (.bin .add g38 g40 (G2 65 1 6)) s41,
  .p (.nc g35 (G2 65 1 7)) s42,
  .p (.fa 1 g42) s43,
  .n (.st 1 g43 g41 (G2 65 1 9))])),
 []⟩
theorem ff65_ok : compF SBase 65 = ff65 := by kernel_rfl
noncomputable def ff66 : FF := .t2 ⟨8,
 (.seq (.reg [.p (.mv (kc (.tc (.sc (.int .i64 0))))) s4])
 (.seq (.reg [.p (.mv g0) s5,
  .p (.mv g1) s6,
  .p (.call 97 [g5, g6] (G2 66 1 2)) s7,
  .p (.mv g7) s4])
 .ret)),
 [.tmp g4]⟩
theorem ff66_ok : compF SBase 66 = ff66 := by kernel_rfl
noncomputable def ff97 : FF := .t2 ⟨8,
 (.seq (.reg [.p (.mv (kc (.tc (.sc (.int .i64 0))))) s4])
 (.seq (.reg [.p (.mv g0) s5,
  .p (.mv g1) s6,
  .p (.xi [g5, g6]) s7,
  .p (.mv g7) s4])
 .ret)),
 [.tmp g4]⟩
theorem ff97_ok : compF SBase 97 = ff97 := by kernel_rfl
noncomputable def ff67 : FF := .t2 ⟨45,
 (.seq (.seq (.reg [.p (.mv g0) s6,
  .p (.nc g6 (G2 67 0 1)) s7,
  .p (.fa 5 g7) s8,
  .p (.ld false 1 g8) s9,
  .p (.len g9 (G2 67 0 4)) s10,
  .p (.bin .lss g10 (kc (.tc (.sc (.int .i64 100)))) (G2 67 0 5)) s11])
 (.cond g11 (.regD [0, 0, 2, 6, 14, 0, 32, 96, 224, 0, 512, 1536, 3584, 0, 8192, 24576, 57344, 130560, 261632, 0, 1048544, 2097120, 4194302, 8388607, 16777215, 33554431] [.no, .no, .no, .no, (.rd (.ld false 1 g15) g16), .no, .no, .no, (.rd (.ld false 1 g19) g20), .no, .no, .no, (.rd (.ld false 1 g23) g24), .no, .no, .no, (.rd (.ld false 1 g27) g28), .no, .no, .no, .no, .no, .no, .no, .no, .no] [.mk .none .yes (.mv g0) (.mv g0) (some s12),
  .mk .none .yes (.mv g0) (.mv g0) (some s13),
  .mk .none .yes (.nc g13 (G2 67 1 2)) (.nc g13 (G2 67 1 2)) (some s14),
  .mk .none .yes (.fa 5 g14) (.fa 5 g14) (some s15),
  .mk .none .yes (.ld false 1 g15) (.ld false 1 g15) (some s16),
  .mk .none .yes (.mv g0) (.mv g0) (some s17),
  .mk .none .yes (.nc g17 (G2 67 1 6)) (.nc g17 (G2 67 1 6)) (some s18),
  .mk .none .yes (.fa 2 g18) (.fa 2 g18) (some s19),
  .mk .none .yes (.ld false 1 g19) (.ld false 1 g19) (some s20),
  .mk .none .yes (.mv g0) (.mv g0) (some s21),
  .mk .none .yes (.nc g21 (G2 67 1 10)) (.nc g21 (G2 67 1 10)) (some s22),
  .mk .none .yes (.fa 1 g22) (.fa 1 g22) (some s23),
  .mk .none .yes (.ld false 1 g23) (.ld false 1 g23) (some s24),
  .mk .none .yes (.mv g0) (.mv g0) (some s25),
  .mk .none .yes (.nc g25 (G2 67 1 14)) (.nc g25 (G2 67 1 14)) (some s26),
  .mk .none .yes (.fa 3 g26) (.fa 3 g26) (some s27),
  .mk .none .yes (.ld false 1 g27) (.ld false 1 g27) (some s28),
  .mk .none .yes (.bin .sub g24 g28 (G2 67 1 17)) (.bin .sub g24 g28 (G2 67 1 17)) (some s29),
  .mk .none .yes (.bin .add g29 (kc (.tc (.sc (.int .i64 1)))) (G2 67 1 18)) (.bin .add g29 (kc (.tc (.sc (.int .i64 1)))) (G2 67 1 18)) (some s30),
  .mk .none .yes (.mv g1) (.mv g1) (some s31),
  .mk .none .yes (.bd [(.tc (.sc (.int .i64 0))), (.tc (.sc (.int .i64 0))), (.tc (.sc (.int .i64 0)))] [(.mk 0 1 g20), (.mk 1 1 g30), (.mk 2 1 g31)] (G2 67 1 20)) (.bd [(.tc (.sc (.int .i64 0))), (.tc (.sc (.int .i64 0))), (.tc (.sc (.int .i64 0)))] [(.mk 0 1 g20), (.mk 1 1 g30), (.mk 2 1 g31)] (G2 67 1 20)) (some s32),
  .mk .none .yes (.bt 3 [[(.tc (.sc (.int .i64 0))), (.tc (.sc (.int .i64 0))), (.tc (.sc (.int .i64 0)))]] [(.mk 0 3 g32)] (G2 67 1 21)) (.bs 3 1 [[(.tc (.sc (.int .i64 0))), (.tc (.sc (.int .i64 0))), (.tc (.sc (.int .i64 0)))]] [(.mk 0 3 g32)] (G2 67 1 21)) (some s33),
  .mk .none .no (.ap 3 24 g16 g33) (.ap 3 24 g16 g33) (some s34),
  .mk .none .yes (.nc g12 (G2 67 1 23)) (.nc g12 (G2 67 1 23)) (some s35),
  .mk .none .yes (.fa 5 g35) (.fa 5 g35) (some s36),
  .mk .none .no (.st 1 g36 g34 (G2 67 1 25)) (.st 1 g36 g34 (G2 67 1 25)) none])
 .skip))
 (.reg [.p (.mv g0) s37,
  .p (.nc g37 (G2 67 2 1)) s38,
  .p (.fa 1 g38) s39,
  .p (.ld false 1 g39) s40,
  .p (.mv g2) s41,
  .p (.bin .add g40 g41 (G2 67 2 5)) s42,
  .p (.nc g37 (G2 67 2 6)) s43,
  .p (.fa 1 g43) s44,
  .n (.st 1 g44 g42 (G2 67 2 8))])),
 []⟩
theorem ff67_ok : compF SBase 67 = ff67 := by kernel_rfl
noncomputable def ff68 : FF := .t2 ⟨58,
 (.seq (.reg [.p (.mv (kc (.tc (.sc (.string ⟨#[]⟩))))) s4])
 (.seq (.reg [.p (.mv g0) s6,
  .p (.nc g6 (G2 68 1 1)) s7,
  .p (.fa 1 g7) s8,
  .p (.ld false 1 g8) s9,
  .p (.mv g9) s5])
 (.seq (.block 0 (.loop 4294967296 (.seq (.seq (.reg [.p (.mv g5) s10,
  .p (.mv g0) s11,
  .p (.nc g11 (G2 68 2 2)) s12,
  .p (.fa 0 g12) s13,
  .p (.ld false 1 g13) s14,
  .p (.ls g14 (G2 68 2 5)) s15,
  .p (.bin .lss g10 g15 (G2 68 2 6)) s16,
  .p (.mv g16) s17,
  .gp g17 true (.mv g0) s18,
  .gp g17 true (.nc g18 (G2 68 2 9)) s19,
  .gp g17 true (.fa 0 g19) s20,
  .gp g17 true (.ld false 1 g20) s21,
  .gp g17 true (.mv g5) s22,
  .gp g17 true (.ix g21 g22 (G2 68 2 13)) s23,
  .gp g17 true (.call 62 [g23] (G2 68 2 14)) s24,
  .gp g17 true (.mv g24) s25,
  .gp g25 false (.mv g0) s26,
  .gp g25 false (.nc g26 (G2 68 2 17)) s27,
  .gp g25 false (.fa 0 g27) s28,
  .gp g25 false (.ld false 1 g28) s29,
  .gp g25 false (.mv g5) s30,
  .gp g25 false (.ix g29 g30 (G2 68 2 21)) s31,
  .gp g25 false (.call 63 [g31] (G2 68 2 22)) s32,
  .gp g17 true (.pk g25 (kc (.tc (.sc (.bool true)))) g32) s33,
  .gp g17 true (.mv g33) s34,
  .gp g34 false (.mv g1) s35,
  .gp g34 false (.mv g0) s36,
  .gp g34 false (.nc g36 (G2 68 2 27)) s37,
  .gp g34 false (.fa 0 g37) s38,
  .gp g34 false (.ld false 1 g38) s39,
  .gp g34 false (.mv g5) s40,
  .gp g34 false (.ix g39 g40 (G2 68 2 31)) s41,
  .gp g34 false (.call 66 [g35, g41] (G2 68 2 32)) s42,
  .gp g34 false (.bin .geq g42 (kc (.tc (.sc (.int .i64 0)))) (G2 68 2 33)) s43,
  .gp g17 true (.pk g34 (kc (.tc (.sc (.bool true)))) g43) s44,
  .p (.pk g17 g44 (kc (.tc (.sc (.bool false))))) s45])
 (.cond g45 .skip
 (.exit 0)))
 (.block 1 (.reg [.p (.mv g5) s46,
  .p (.bin .add g46 (kc (.tc (.sc (.int .i64 1)))) (G2 68 3 1)) s47,
  .p (.mv g47) s5])))))
 (.seq (.regD [0, 1, 3, 7, 0, 16, 48, 112, 0, 511, 1023] [.no, .no, .no, (.rd (.ld false 1 g50) g51), .no, .no, .no, (.rd (.ld false 1 g54) g55), .no, .no, .no] [.mk .none .yes (.mv g0) (.mv g0) (some s48),
  .mk .none .yes (.nc g48 (G2 68 4 1)) (.nc g48 (G2 68 4 1)) (some s49),
  .mk .none .yes (.fa 0 g49) (.fa 0 g49) (some s50),
  .mk .none .yes (.ld false 1 g50) (.ld false 1 g50) (some s51),
  .mk .none .yes (.mv g0) (.mv g0) (some s52),
  .mk .none .yes (.nc g52 (G2 68 4 5)) (.nc g52 (G2 68 4 5)) (some s53),
  .mk .none .yes (.fa 1 g53) (.fa 1 g53) (some s54),
  .mk .none .yes (.ld false 1 g54) (.ld false 1 g54) (some s55),
  .mk .none .yes (.mv g5) (.mv g5) (some s56),
  .mk .none .yes (.ss g51 (some g55) (some g56) none (G2 68 4 9)) (.ss g51 (some g55) (some g56) none (G2 68 4 9)) (some s57),
  .mk .none .yes (.mv g57) (.mv g57) (some s4)])
 .ret)))),
 [.tmp g4]⟩
theorem ff68_ok : compF SBase 68 = ff68 := by kernel_rfl
noncomputable def ff69 : FF := .t2 ⟨22,
 (.seq (.reg [.p (.mv g1) s7,
  .p (.call 98 [g7] (G2 69 0 1)) s8,
  .p (.mv g8) s6,
  .p (.ex g6 0) s9,
  .p (.ex g6 1) s10,
  .p (.mv g9) s4,
  .p (.mv g10) s5])
 (.seq (.reg [.p (.mv g5) s11,
  .p (.bin .neq g11 (kc (.tc (.sc (.int .i64 0)))) (G2 69 1 1)) s12])
 (.cond g12 (.reg [.p (.mv g0) s13,
  .p (.mv g5) s14,
  .p (.mv g1) s15,
  .p (.ls g15 (G2 69 2 3)) s16,
  .p (.call 67 [g13, g14, g16] (G2 69 2 4)) s17])
 (.reg [.p (.mv g0) s18,
  .p (.mv g1) s19,
  .p (.mv g4) s20,
  .p (.call 65 [g18, (kc (.tc (.sc (.int .u8 2)))), g19, g20] (G2 69 3 3)) s21])))),
 []⟩
theorem ff69_ok : compF SBase 69 = ff69 := by kernel_rfl
noncomputable def ff98 : FF := .t2 ⟨50,
 (.seq (.reg [.p (.mv (kc (.tc (.sc (.int .i64 0))))) s2,
  .p (.mv (kc (.tc (.sc (.int .i64 0))))) s3])
 (.seq (.reg [.p (.mv (kc (.tc (.sc (.int .i64 10))))) s4])
 (.seq (.seq (.reg [.p (.mv g0) s9,
  .p (.ls g9 (G2 98 2 1)) s10,
  .p (.bin .gtr g10 (kc (.tc (.sc (.int .i64 1)))) (G2 98 2 2)) s11,
  .p (.mv g11) s12,
  .gp g12 true (.mv g0) s13,
  .gp g12 true (.ix g13 (kc (.tc (.sc (.int .i64 0)))) (G2 98 2 5)) s14,
  .gp g12 true (.bin .eql g14 (kc (.tc (.sc (.int .u8 48)))) (G2 98 2 6)) s15,
  .p (.pk g12 g15 (kc (.tc (.sc (.bool false))))) s16,
  .p (.mv g16) s17,
  .gp g17 true (.mv g0) s18,
  .gp g17 true (.ix g18 (kc (.tc (.sc (.int .i64 1)))) (G2 98 2 10)) s19,
  .gp g17 true (.bin .or g19 (kc (.tc (.sc (.int .u8 32)))) (G2 98 2 11)) s20,
  .gp g17 true (.bin .eql g20 (kc (.tc (.sc (.int .u8 120)))) (G2 98 2 12)) s21,
  .p (.pk g17 g21 (kc (.tc (.sc (.bool false))))) s22])
 (.cond g22 (.regD [0, 1, 0, 7] [.no, .no, .no, .no] [.mk .none .yes (.mv g0) (.mv g0) (some s23),
  .mk .none .yes (.ss g23 (some (kc (.tc (.sc (.int .i64 2))))) none none (G2 98 3 1)) (.ss g23 (some (kc (.tc (.sc (.int .i64 2))))) none none (G2 98 3 1)) (some s24),
  .mk .none .yes (.mv (kc (.tc (.sc (.int .i64 16))))) (.mv (kc (.tc (.sc (.int .i64 16))))) (some s4),
  .mk .none .yes (.mv g24) (.mv g24) (some s0)])
 .skip))
 (.seq (.reg [.p (.mv (kc (.tc (.sc (.int .i64 0))))) s5,
  .p (.mv (kc (.tc (.sc (.int .i64 0))))) s6])
 (.seq (.seq (.reg [.p (.mv g0) s25,
  .p (.bin .eql g25 (kc (.tc (.sc (.string ⟨#[]⟩)))) (G2 98 5 1)) s26])
 (.cond g26 (.reg [.p (.mv (kc (.tc (.sc (.int .i64 8))))) s6])
 .skip))
 (.seq (.seq (.reg [.p (.mv g0) s27,
  .p (.ls g27 (G2 98 7 1)) s28,
  .p (.mv (kc (.tc (.sc (.int .i64 0))))) s29])
 (.block 0 (.loop 4294967296 (.seq (.reg [.p (.bin .lss g29 g28 (G2 98 8 0)) s30])
 (.seq (.cond g30 .skip
 (.exit 0))
 (.seq (.block 1 (.seq (.reg [.p (.mv g29) s31,
  .p (.mv g31) s7])
 (.seq (.reg [.p (.mv g0) s32,
  .p (.mv g7) s33,
  .p (.ix g32 g33 (G2 98 10 2)) s34,
  .p (.call 109 [g34] (G2 98 10 3)) s35,
  .p (.mv g35) s8])
 (.seq (.seq (.reg [.p (.mv g8) s36,
  .p (.mv g4) s37,
  .p (.bin .geq g36 g37 (G2 98 11 2)) s38])
 (.cond g38 (.seq (.reg [.p (.mv (kc (.tc (.sc (.int .i64 0))))) s2,
  .p (.mv (kc (.tc (.sc (.int .i64 8))))) s3])
 .ret)
 .skip))
 (.reg [.p (.mv g5) s39,
  .p (.mv g4) s40,
  .p (.bin .mul g39 g40 (G2 98 13 2)) s41,
  .p (.mv g8) s42,
  .p (.bin .add g41 g42 (G2 98 13 4)) s43,
  .p (.gen (G2 98 13 5)) s44,
  .p (.mv g44) s5])))))
 (.reg [.p (.bin .add g29 (kc (.tc (.sc (.int .i64 1)))) (G2 98 14 0)) s45,
  .p (.mv g45) s29])))))))
 (.seq (.seq (.reg [.p (.mv g5) s46,
  .p (.bin .gtr g46 (kc (.tc (.sc (.int .i64 1099511627776)))) (G2 98 15 1)) s47])
 (.cond g47 (.seq (.reg [.p (.mv (kc (.tc (.sc (.int .i64 0))))) s2,
  .p (.mv (kc (.tc (.sc (.int .i64 6))))) s3])
 .ret)
 .skip))
 (.seq (.reg [.p (.mv g5) s48,
  .p (.mv g6) s49,
  .p (.mv g48) s2,
  .p (.mv g49) s3])
 .ret)))))))),
 [.tmp g2, .tmp g3]⟩
theorem ff98_ok : compF SBase 98 = ff98 := by kernel_rfl
noncomputable def ff109 : FF := .t2 ⟨23,
 (.seq (.reg [.p (.mv (kc (.tc (.sc (.int .i64 0))))) s2])
 (.seq (.block 0 (.seq (.reg [.p (.mv g0) s4,
  .p (.call 63 [g4] (G2 109 1 1)) s5,
  .p (.mv g5) s3])
 (.cond g3 (.seq (.reg [.p (.mv g0) s6,
  .p (.bin .sub g6 (kc (.tc (.sc (.int .u8 48)))) (G2 109 2 1)) s7,
  .p (.cv .i64 g7 (G2 109 2 2)) s8,
  .p (.mv g8) s2])
 .ret)
 (.seq (.reg [.p (.mv g0) s10,
  .p (.bin .or g10 (kc (.tc (.sc (.int .u8 32)))) (G2 109 3 1)) s11,
  .p (.bin .geq g11 (kc (.tc (.sc (.int .u8 97)))) (G2 109 3 2)) s12,
  .p (.mv g12) s13,
  .gp g13 true (.mv g0) s14,
  .gp g13 true (.bin .or g14 (kc (.tc (.sc (.int .u8 32)))) (G2 109 3 5)) s15,
  .gp g13 true (.bin .leq g15 (kc (.tc (.sc (.int .u8 102)))) (G2 109 3 6)) s16,
  .p (.pk g13 g16 (kc (.tc (.sc (.bool false))))) s17,
  .p (.mv g17) s9])
 (.cond g9 (.seq (.reg [.p (.mv g0) s18,
  .p (.bin .or g18 (kc (.tc (.sc (.int .u8 32)))) (G2 109 4 1)) s19,
  .p (.bin .sub g19 (kc (.tc (.sc (.int .u8 97)))) (G2 109 4 2)) s20,
  .p (.cv .i64 g20 (G2 109 4 3)) s21,
  .p (.bin .add g21 (kc (.tc (.sc (.int .i64 10)))) (G2 109 4 4)) s22,
  .p (.mv g22) s2])
 .ret)
 .skip)))))
 (.seq (.reg [.p (.mv (kc (.tc (.sc (.int .i64 16))))) s2])
 .ret))),
 [.tmp g2]⟩
theorem ff109_ok : compF SBase 109 = ff109 := by kernel_rfl
noncomputable def ff29 : FF := .t2 ⟨34,
 (.seq (.reg [.p (.mv (kc (.tc (.sc (.slice none 0 0))))) s2,
  .p (.mv (kc (.tc (.sc (.int .i64 0))))) s3,
  .p (.mv (kc (.tc (.sc (.int .i64 0))))) s4])
 (.seq (.reg [.p (.mv g0) s8,
  .p (.bd [(.tc (.sc (.slice none 0 0))), (.tc (.sc (.int .i64 0))), (.tc (.sc (.int .i64 0))), (.tc (.sc (.slice none 0 0))), (.tc (.sc (.int .i64 0)))] [(.mk 0 1 g8)] (G2 29 1 1)) s9,
  .p (.bx 5 g9 (G2 29 1 2)) s10,
  .p (.mv g10) s5])
 (.seq (.seq (.reg [.p (.mv g5) s12,
  .p (.call 56 [g12] (G2 29 2 1)) s13,
  .p (.mv g13) s11,
  .p (.ex g11 0) s14,
  .p (.ex g11 1) s15,
  .p (.mv g14) s6,
  .p (.mv g15) s7])
 (.seq (.reg [.p (.mv g7) s16,
  .p (.nt g16 (G2 29 3 1)) s17])
 (.cond g17 (.seq (.regD [0, 1, 3, 7, 0, 16, 48, 112, 0, 271, 1023] [.no, .no, .no, (.rd (.ld false 1 g20) g21), .no, .no, .no, (.rd (.ld false 1 g24) g25), .no, .no, .no] [.mk .none .yes (.mv g5) (.mv g5) (some s18),
  .mk .none .yes (.nc g18 (G2 29 4 1)) (.nc g18 (G2 29 4 1)) (some s19),
  .mk .none .yes (.fa 1 g19) (.fa 1 g19) (some s20),
  .mk .none .yes (.ld false 1 g20) (.ld false 1 g20) (some s21),
  .mk .none .yes (.mv g5) (.mv g5) (some s22),
  .mk .none .yes (.nc g22 (G2 29 4 5)) (.nc g22 (G2 29 4 5)) (some s23),
  .mk .none .yes (.fa 4 g23) (.fa 4 g23) (some s24),
  .mk .none .yes (.ld false 1 g24) (.ld false 1 g24) (some s25),
  .mk .none .yes (.mv (kc (.tc (.sc (.slice none 0 0))))) (.mv (kc (.tc (.sc (.slice none 0 0))))) (some s2),
  .mk .none .yes (.mv g21) (.mv g21) (some s3),
  .mk .none .yes (.mv g25) (.mv g25) (some s4)])
 .ret)
 .skip)))
 (.seq (.regD [0, 1, 3, 7, 0, 16, 48, 112, 15, 511, 1023] [.no, .no, .no, (.rd (.ld false 1 g28) g29), .no, .no, .no, (.rd (.ld false 1 g32) g33), .no, .no, .no] [.mk .none .yes (.mv g5) (.mv g5) (some s26),
  .mk .none .yes (.nc g26 (G2 29 5 1)) (.nc g26 (G2 29 5 1)) (some s27),
  .mk .none .yes (.fa 3 g27) (.fa 3 g27) (some s28),
  .mk .none .yes (.ld false 1 g28) (.ld false 1 g28) (some s29),
  .mk .none .yes (.mv g5) (.mv g5) (some s30),
  .mk .none .yes (.nc g30 (G2 29 5 5)) (.nc g30 (G2 29 5 5)) (some s31),
  .mk .none .yes (.fa 1 g31) (.fa 1 g31) (some s32),
  .mk .none .yes (.ld false 1 g32) (.ld false 1 g32) (some s33),
  .mk .none .yes (.mv g29) (.mv g29) (some s2),
  .mk .none .yes (.mv g33) (.mv g33) (some s3),
  .mk .none .yes (.mv (kc (.tc (.sc (.int .i64 0))))) (.mv (kc (.tc (.sc (.int .i64 0))))) (some s4)])
 .ret)))),
 [.tmp g2, .tmp g3, .tmp g4]⟩
theorem ff29_ok : compF SBase 29 = ff29 := by kernel_rfl
noncomputable def ff56 : FF := .t2 ⟨12,
 (.seq (.reg [.p (.mv (kc (.tc (.sc (.int .i64 0))))) s2,
  .p (.mv (kc (.tc (.sc (.bool false))))) s3])
 (.seq (.reg [.p (.mv g0) s4,
  .p (.mv g0) s5,
  .p (.mf (.func 90) [g5] []) s6,
  .p (.gen (G2 56 1 3)) s7,
  .n (.gen (G2 56 1 4)),
  .n (.gen (G2 56 1 5)),
  .p (.mv g7) s8,
  .p (.call 89 [g4, g6, g8] (G2 56 1 7)) s9,
  .p (.ex g9 0) s10,
  .p (.ex g9 1) s11,
  .p (.mv g10) s2,
  .p (.mv g11) s3])
 .ret)),
 [.tmp g2, .tmp g3]⟩
theorem ff56_ok : compF SBase 56 = ff56 := by kernel_rfl
noncomputable def ff90 : FF := .t2 ⟨12,
 (.seq (.reg [.p (.mv (kc (.tc (.sc (.int .i64 0))))) s2,
  .p (.mv (kc (.tc (.sc (.bool false))))) s3])
 (.seq (.reg [.p (.mv g0) s4,
  .p (.mv g0) s5,
  .p (.mf (.func 107) [g5] []) s6,
  .p (.gen (G2 90 1 3)) s7,
  .n (.gen (G2 90 1 4)),
  .p (.mv g7) s8,
  .p (.call 89 [g4, g6, g8] (G2 90 1 6)) s9,
  .p (.ex g9 0) s10,
  .p (.ex g9 1) s11,
  .p (.mv g10) s2,
  .p (.mv g11) s3])
 .ret)),
 [.tmp g2, .tmp g3]⟩
theorem ff90_ok : compF SBase 90 = ff90 := by kernel_rfl
noncomputable def ff107 : FF := .t2 ⟨59,
 (.seq (.reg [.p (.mv (kc (.tc (.sc (.int .i64 0))))) s2,
  .p (.mv (kc (.tc (.sc (.bool false))))) s3])
 (.seq (.seq (.reg [.p (.mv g0) s8,
  .p (.call 105 [g8] (G2 107 1 1)) s9])
 (.block 0 (.seq (.reg [.p (.bin .eql g9 (kc (.tc (.sc (.string ⟨#[40]⟩)))) (G2 107 2 0)) s11,
  .p (.mv g11) s10])
 (.cond g10 (.seq (.reg [.p (.mv g0) s13,
  .p (.mv g0) s14,
  .p (.mf (.func 56) [g14] []) s15,
  .p (.call 111 [g13, g15] (G2 107 3 3)) s16,
  .p (.mv g16) s12,
  .p (.ex g12 0) s17,
  .p (.ex g12 1) s18,
  .p (.mv g17) s4,
  .p (.mv g18) s5])
 (.seq (.seq (.reg [.p (.mv g5) s19,
  .p (.mv g19) s20,
  .gp g20 true (.mv g0) s21,
  .gp g20 true (.call 105 [g21] (G2 107 4 3)) s22,
  .gp g20 true (.bin .neq g22 (kc (.tc (.sc (.string ⟨#[41]⟩)))) (G2 107 4 4)) s23,
  .p (.pk g20 g23 (kc (.tc (.sc (.bool false))))) s24])
 (.cond g24 (.seq (.reg [.p (.mv g0) s25,
  .p (.call 112 [g25, (kc (.tc (.sc (.int .i64 8))))] (G2 107 5 1)) s26,
  .p (.ex g26 0) s27,
  .p (.ex g26 1) s28,
  .p (.mv g27) s2,
  .p (.mv g28) s3])
 .ret)
 .skip))
 (.seq (.seq (.reg [.p (.mv g5) s29])
 (.cond g29 (.reg [.p (.mv g0) s30,
  .p (.nc g30 (G2 107 7 1)) s31,
  .p (.fa 1 g31) s32,
  .p (.ld false 1 g32) s33,
  .p (.bin .add g33 (kc (.tc (.sc (.int .i64 1)))) (G2 107 7 4)) s34,
  .p (.nc g30 (G2 107 7 5)) s35,
  .p (.fa 1 g35) s36,
  .n (.st 1 g36 g34 (G2 107 7 7))])
 .skip))
 (.seq (.reg [.p (.mv g4) s37,
  .p (.mv g5) s38,
  .p (.mv g37) s2,
  .p (.mv g38) s3])
 .ret))))
 (.seq (.reg [.p (.bin .eql g9 (kc (.tc (.sc (.string ⟨#[45]⟩)))) (G2 107 9 0)) s40,
  .p (.mv g40) s39])
 (.cond g39 (.seq (.reg [.p (.mv g0) s42,
  .p (.mv g0) s43,
  .p (.mf (.func 107) [g43] []) s44,
  .p (.call 111 [g42, g44] (G2 107 10 3)) s45,
  .p (.mv g45) s41,
  .p (.ex g41 0) s46,
  .p (.ex g41 1) s47,
  .p (.mv g46) s6,
  .p (.mv g47) s7])
 (.seq (.seq (.reg [.p (.mv g7) s48])
 (.cond g48 (.reg [.p (.mv g0) s49,
  .p (.mv g6) s50,
  .p (.bd [(.tc (.sc (.int .u8 0))), (.tc (.sc (.int .i64 0))), (.tc (.sc (.string ⟨#[]⟩))), (.tc (.sc (.int .i64 0))), (.tc (.sc (.int .i64 0)))] [(.mk 0 1 (kc (.tc (.sc (.int .u8 6))))), (.mk 3 1 g50)] (G2 107 12 2)) s51,
  .p (.call 106 [g49, g51] (G2 107 12 3)) s52,
  .p (.mv g52) s6])
 .skip))
 (.seq (.reg [.p (.mv g6) s53,
  .p (.mv g7) s54,
  .p (.mv g53) s2,
  .p (.mv g54) s3])
 .ret)))
 .skip))))))
 (.seq (.reg [.p (.mv g0) s55,
  .p (.call 113 [g55] (G2 107 14 1)) s56,
  .p (.ex g56 0) s57,
  .p (.ex g56 1) s58,
  .p (.mv g57) s2,
  .p (.mv g58) s3])
 .ret))),
 [.tmp g2, .tmp g3]⟩
theorem ff107_ok : compF SBase 107 = ff107 := by kernel_rfl
noncomputable def ff105 : FF := .t2 ⟨38,
 (.seq (.reg [.p (.mv (kc (.tc (.sc (.string ⟨#[]⟩))))) s2])
 (.seq (.seq (.regD [0, 1, 3, 7, 0, 16, 48, 112, 240, 511, 1023, 2047, 4095, 8191, 16383, 2047, 34815, 100351, 231423, 524287, 1048575, 2097151, 4194303, 8388607] [.no, .no, .no, (.rd (.ld false 1 g5) g6), .no, .no, .no, (.rd (.ld false 1 g9) g10), .no, .no, .no, .no, .no, .no, (.rd (.ld false 1 g16) g17), .no, .no, .no, (.rd (.ld false 1 g20) g21), .no, .no, (.rd (.ld false 1 g23) g24), .no, .no] [.mk .none .yes (.mv g0) (.mv g0) (some s3),
  .mk .none .yes (.nc g3 (G2 105 1 1)) (.nc g3 (G2 105 1 1)) (some s4),
  .mk .none .yes (.fa 1 g4) (.fa 1 g4) (some s5),
  .mk .none .yes (.ld false 1 g5) (.ld false 1 g5) (some s6),
  .mk .none .yes (.mv g0) (.mv g0) (some s7),
  .mk .none .yes (.nc g7 (G2 105 1 5)) (.nc g7 (G2 105 1 5)) (some s8),
  .mk .none .yes (.fa 0 g8) (.fa 0 g8) (some s9),
  .mk .none .yes (.ld false 1 g9) (.ld false 1 g9) (some s10),
  .mk .none .yes (.len g10 (G2 105 1 8)) (.len g10 (G2 105 1 8)) (some s11),
  .mk .none .yes (.bin .lss g6 g11 (G2 105 1 9)) (.bin .lss g6 g11 (G2 105 1 9)) (some s12),
  .mk .none .yes (.mv g12) (.mv g12) (some s13),
  .mk (.on g13 true) .yes (.mv g0) (.mv g0) (some s14),
  .mk (.on g13 true) .yes (.nc g14 (G2 105 1 12)) (.nc g14 (G2 105 1 12)) (some s15),
  .mk (.on g13 true) .yes (.fa 0 g15) (.fa 0 g15) (some s16),
  .mk (.on g13 true) .yes (.ld false 1 g16) (.ld false 1 g16) (some s17),
  .mk (.on g13 true) .yes (.mv g0) (.mv g0) (some s18),
  .mk (.on g13 true) .yes (.nc g18 (G2 105 1 16)) (.nc g18 (G2 105 1 16)) (some s19),
  .mk (.on g13 true) .yes (.fa 1 g19) (.fa 1 g19) (some s20),
  .mk (.on g13 true) .yes (.ld false 1 g20) (.ld false 1 g20) (some s21),
  .mk (.on g13 true) .yes (.ia 5 g17 g21 (G2 105 1 19)) (.ia 5 g17 g21 (G2 105 1 19)) (some s22),
  .mk (.on g13 true) .yes (.fa 0 g22) (.fa 0 g22) (some s23),
  .mk (.on g13 true) .yes (.ld false 1 g23) (.ld false 1 g23) (some s24),
  .mk (.on g13 true) .yes (.bin .eql g24 (kc (.tc (.sc (.int .u8 3)))) (G2 105 1 22)) (.bin .eql g24 (kc (.tc (.sc (.int .u8 3)))) (G2 105 1 22)) (some s25),
  .mk .none .yes (.pk g13 g25 (kc (.tc (.sc (.bool false))))) (.pk g13 g25 (kc (.tc (.sc (.bool false))))) (some s26)])
 (.cond g26 (.seq (.regD [0, 1, 3, 7, 0, 16, 48, 112, 255, 511, 1023, 2047] [.no, .no, .no, (.rd (.ld false 1 g29) g30), .no, .no, .no, (.rd (.ld false 1 g33) g34), .no, .no, (.rd (.ld false 1 g36) g37), .no] [.mk .none .yes (.mv g0) (.mv g0) (some s27),
  .mk .none .yes (.nc g27 (G2 105 2 1)) (.nc g27 (G2 105 2 1)) (some s28),
  .mk .none .yes (.fa 0 g28) (.fa 0 g28) (some s29),
  .mk .none .yes (.ld false 1 g29) (.ld false 1 g29) (some s30),
  .mk .none .yes (.mv g0) (.mv g0) (some s31),
  .mk .none .yes (.nc g31 (G2 105 2 5)) (.nc g31 (G2 105 2 5)) (some s32),
  .mk .none .yes (.fa 1 g32) (.fa 1 g32) (some s33),
  .mk .none .yes (.ld false 1 g33) (.ld false 1 g33) (some s34),
  .mk .none .yes (.ia 5 g30 g34 (G2 105 2 8)) (.ia 5 g30 g34 (G2 105 2 8)) (some s35),
  .mk .none .yes (.fa 1 g35) (.fa 1 g35) (some s36),
  .mk .none .yes (.ld false 1 g36) (.ld false 1 g36) (some s37),
  .mk .none .yes (.mv g37) (.mv g37) (some s2)])
 .ret)
 .skip))
 (.seq (.reg [.p (.mv (kc (.tc (.sc (.string ⟨#[]⟩))))) s2])
 .ret))),
 [.tmp g2]⟩
theorem ff105_ok : compF SBase 105 = ff105 := by kernel_rfl
noncomputable def ff111 : FF := .t2 ⟨45,
 (.seq (.reg [.p (.mv (kc (.tc (.sc (.int .i64 0))))) s4,
  .p (.mv (kc (.tc (.sc (.bool false))))) s5])
 (.seq (.seq (.reg [.p (.mv g0) s8,
  .p (.nc g8 (G2 111 1 1)) s9,
  .p (.fa 2 g9) s10,
  .p (.ld false 1 g10) s11,
  .p (.bin .eql g11 (kc (.tc (.sc (.int .i64 16)))) (G2 111 1 4)) s12])
 (.cond g12 (.seq (.reg [.p (.mv g0) s13,
  .p (.call 112 [g13, (kc (.tc (.sc (.int .i64 3))))] (G2 111 2 1)) s14,
  .p (.ex g14 0) s15,
  .p (.ex g14 1) s16,
  .p (.mv g15) s4,
  .p (.mv g16) s5])
 .ret)
 .skip))
 (.seq (.reg [.p (.mv g0) s17,
  .p (.nc g17 (G2 111 3 1)) s18,
  .p (.fa 1 g18) s19,
  .p (.ld false 1 g19) s20,
  .p (.bin .add g20 (kc (.tc (.sc (.int .i64 1)))) (G2 111 3 4)) s21,
  .p (.nc g17 (G2 111 3 5)) s22,
  .p (.fa 1 g22) s23,
  .n (.st 1 g23 g21 (G2 111 3 7))])
 (.seq (.reg [.p (.mv g0) s24,
  .p (.nc g24 (G2 111 4 1)) s25,
  .p (.fa 2 g25) s26,
  .p (.ld false 1 g26) s27,
  .p (.bin .add g27 (kc (.tc (.sc (.int .i64 1)))) (G2 111 4 4)) s28,
  .p (.nc g24 (G2 111 4 5)) s29,
  .p (.fa 2 g29) s30,
  .n (.st 1 g30 g28 (G2 111 4 7))])
 (.seq (.reg [.p (.mv g1) s32,
  .p (.gen (G2 111 5 1)) s33,
  .p (.mv g33) s31,
  .p (.ex g31 0) s34,
  .p (.ex g31 1) s35,
  .p (.mv g34) s6,
  .p (.mv g35) s7])
 (.seq (.reg [.p (.mv g0) s36,
  .p (.nc g36 (G2 111 6 1)) s37,
  .p (.fa 2 g37) s38,
  .p (.ld false 1 g38) s39,
  .p (.bin .sub g39 (kc (.tc (.sc (.int .i64 1)))) (G2 111 6 4)) s40,
  .p (.nc g36 (G2 111 6 5)) s41,
  .p (.fa 2 g41) s42,
  .n (.st 1 g42 g40 (G2 111 6 7))])
 (.seq (.reg [.p (.mv g6) s43,
  .p (.mv g7) s44,
  .p (.mv g43) s4,
  .p (.mv g44) s5])
 .ret))))))),
 [.tmp g4, .tmp g5]⟩
theorem ff111_ok : compF SBase 111 = ff111 := by kernel_rfl
noncomputable def ff112 : FF := .t2 ⟨10,
 (.seq (.reg [.p (.mv (kc (.tc (.sc (.int .i64 0))))) s4,
  .p (.mv (kc (.tc (.sc (.bool false))))) s5])
 (.seq (.reg [.p (.mv g0) s6,
  .p (.mv g1) s7,
  .p (.nc g6 (G2 112 1 2)) s8,
  .p (.fa 4 g8) s9,
  .n (.st 1 g9 g7 (G2 112 1 4))])
 (.seq (.reg [.p (.mv (kc (.tc (.sc (.int .i64 0))))) s4,
  .p (.mv (kc (.tc (.sc (.bool false))))) s5])
 .ret))),
 [.tmp g4, .tmp g5]⟩
theorem ff112_ok : compF SBase 112 = ff112 := by kernel_rfl
noncomputable def ff106 : FF := .t2 ⟨21,
 (.seq (.reg [.p (.bx 5 g1 (G2 106 0 0)) s3,
  .p (.mv (kc (.tc (.sc (.int .i64 0))))) s4])
 (.seq (.regD [0, 0, 2, 6, 14, 0, 32, 126, 255, 511, 1023] [.no, .no, .no, .no, (.rd (.ld false 1 g8) g9), (.rd (.ld true 5 g3) g10), .no, .no, .no, .no, .no] [.mk .none .yes (.mv g0) (.mv g0) (some s5),
  .mk .none .yes (.mv g0) (.mv g0) (some s6),
  .mk .none .yes (.nc g6 (G2 106 1 2)) (.nc g6 (G2 106 1 2)) (some s7),
  .mk .none .yes (.fa 3 g7) (.fa 3 g7) (some s8),
  .mk .none .yes (.ld false 1 g8) (.ld false 1 g8) (some s9),
  .mk .none .yes (.ld true 5 g3) (.ld true 5 g3) (some s10),
  .mk .none .yes (.bt 5 [[(.tc (.sc (.int .u8 0))), (.tc (.sc (.int .i64 0))), (.tc (.sc (.string ⟨#[]⟩))), (.tc (.sc (.int .i64 0))), (.tc (.sc (.int .i64 0)))]] [(.mk 0 5 g10)] (G2 106 1 6)) (.bs 5 1 [[(.tc (.sc (.int .u8 0))), (.tc (.sc (.int .i64 0))), (.tc (.sc (.string ⟨#[]⟩))), (.tc (.sc (.int .i64 0))), (.tc (.sc (.int .i64 0)))]] [(.mk 0 5 g10)] (G2 106 1 6)) (some s11),
  .mk .none .no (.ap 5 48 g9 g11) (.ap 5 48 g9 g11) (some s12),
  .mk .none .yes (.nc g5 (G2 106 1 8)) (.nc g5 (G2 106 1 8)) (some s13),
  .mk .none .yes (.fa 3 g13) (.fa 3 g13) (some s14),
  .mk .none .no (.st 1 g14 g12 (G2 106 1 10)) (.st 1 g14 g12 (G2 106 1 10)) none])
 (.seq (.reg [.p (.mv g0) s15,
  .p (.nc g15 (G2 106 2 1)) s16,
  .p (.fa 3 g16) s17,
  .p (.ld false 1 g17) s18,
  .p (.len g18 (G2 106 2 4)) s19,
  .p (.bin .sub g19 (kc (.tc (.sc (.int .i64 1)))) (G2 106 2 5)) s20,
  .p (.mv g20) s4])
 .ret))),
 [.tmp g4]⟩
theorem ff106_ok : compF SBase 106 = ff106 := by kernel_rfl
noncomputable def ff113 : FF := .t2 ⟨63,
 (.seq (.reg [.p (.mv (kc (.tc (.sc (.int .i64 0))))) s2,
  .p (.mv (kc (.tc (.sc (.bool false))))) s3])
 (.seq (.seq (.regD [0, 1, 3, 7, 0, 16, 48, 112, 240, 511] [.no, .no, .no, (.rd (.ld false 1 g8) g9), .no, .no, .no, (.rd (.ld false 1 g12) g13), .no, .no] [.mk .none .yes (.mv g0) (.mv g0) (some s6),
  .mk .none .yes (.nc g6 (G2 113 1 1)) (.nc g6 (G2 113 1 1)) (some s7),
  .mk .none .yes (.fa 1 g7) (.fa 1 g7) (some s8),
  .mk .none .yes (.ld false 1 g8) (.ld false 1 g8) (some s9),
  .mk .none .yes (.mv g0) (.mv g0) (some s10),
  .mk .none .yes (.nc g10 (G2 113 1 5)) (.nc g10 (G2 113 1 5)) (some s11),
  .mk .none .yes (.fa 0 g11) (.fa 0 g11) (some s12),
  .mk .none .yes (.ld false 1 g12) (.ld false 1 g12) (some s13),
  .mk .none .yes (.len g13 (G2 113 1 8)) (.len g13 (G2 113 1 8)) (some s14),
  .mk .none .yes (.bin .eql g9 g14 (G2 113 1 9)) (.bin .eql g9 g14 (G2 113 1 9)) (some s15)])
 (.cond g15 (.seq (.reg [.p (.mv g0) s16,
  .p (.call 112 [g16, (kc (.tc (.sc (.int .i64 8))))] (G2 113 2 1)) s17,
  .p (.ex g17 0) s18,
  .p (.ex g17 1) s19,
  .p (.mv g18) s2,
  .p (.mv g19) s3])
 .ret)
 .skip))
 (.seq (.regD [0, 1, 3, 7, 0, 16, 48, 112, 255, 511, 0, 2047] [.no, .no, .no, (.rd (.ld false 1 g22) g23), .no, .no, .no, (.rd (.ld false 1 g26) g27), .no, (.rd (.ld true 5 g28) g29), .no, .no] [.mk .none .yes (.mv g0) (.mv g0) (some s20),
  .mk .none .yes (.nc g20 (G2 113 3 1)) (.nc g20 (G2 113 3 1)) (some s21),
  .mk .none .yes (.fa 0 g21) (.fa 0 g21) (some s22),
  .mk .none .yes (.ld false 1 g22) (.ld false 1 g22) (some s23),
  .mk .none .yes (.mv g0) (.mv g0) (some s24),
  .mk .none .yes (.nc g24 (G2 113 3 5)) (.nc g24 (G2 113 3 5)) (some s25),
  .mk .none .yes (.fa 1 g25) (.fa 1 g25) (some s26),
  .mk .none .yes (.ld false 1 g26) (.ld false 1 g26) (some s27),
  .mk .none .yes (.ia 5 g23 g27 (G2 113 3 8)) (.ia 5 g23 g27 (G2 113 3 8)) (some s28),
  .mk .none .yes (.ld true 5 g28) (.ld true 5 g28) (some s29),
  .mk .none .no (.al 5 [(.sc (.int .u8 0)), (.sc (.string ⟨#[]⟩)), (.sc (.int .i64 0)), (.sc (.int .i64 0)), (.sc (.int .i64 0))]) (.al 5 [(.sc (.int .u8 0)), (.sc (.string ⟨#[]⟩)), (.sc (.int .i64 0)), (.sc (.int .i64 0)), (.sc (.int .i64 0))]) (some s4),
  .mk .none .no (.st 5 g4 g29 (G2 113 3 11)) (.st 5 g4 g29 (G2 113 3 11)) none])
 (.seq (.reg [.p (.fa 2 g4) s30,
  .p (.ld false 1 g30) s31,
  .p (.bd [(.tc (.sc (.int .u8 0))), (.tc (.sc (.int .i64 0))), (.tc (.sc (.string ⟨#[]⟩))), (.tc (.sc (.int .i64 0))), (.tc (.sc (.int .i64 0)))] [(.mk 0 1 (kc (.tc (.sc (.int .u8 1))))), (.mk 1 1 g31)] (G2 113 4 2)) s32,
  .p (.al 5 [(.sc (.int .u8 0)), (.sc (.int .i64 0)), (.sc (.string ⟨#[]⟩)), (.sc (.int .i64 0)), (.sc (.int .i64 0))]) s5,
  .n (.st 5 g5 g32 (G2 113 4 4))])
 (.seq (.seq (.reg [.p (.fa 0 g4) s33,
  .p (.ld false 1 g33) s34])
 (.block 0 (.seq (.reg [.p (.bin .eql g34 (kc (.tc (.sc (.int .u8 2)))) (G2 113 6 0)) s40,
  .p (.mv g40) s39])
 (.cond g39 .skip
 (.seq (.reg [.p (.bin .eql g34 (kc (.tc (.sc (.int .u8 1)))) (G2 113 7 0)) s42,
  .p (.mv g42) s41])
 (.cond g41 (.reg [.p (.fa 1 g4) s43,
  .p (.ld false 1 g43) s44,
  .p (.bd [(.tc (.sc (.int .u8 0))), (.tc (.sc (.int .i64 0))), (.tc (.sc (.string ⟨#[]⟩))), (.tc (.sc (.int .i64 0))), (.tc (.sc (.int .i64 0)))] [(.mk 0 1 (kc (.tc (.sc (.int .u8 2))))), (.mk 2 1 g44)] (G2 113 8 2)) s45,
  .n (.st 5 g5 g45 (G2 113 8 3))])
 (.seq (.reg [.p (.mv g0) s35,
  .p (.call 112 [g35, (kc (.tc (.sc (.int .i64 8))))] (G2 113 9 1)) s36,
  .p (.ex g36 0) s37,
  .p (.ex g36 1) s38,
  .p (.mv g37) s2,
  .p (.mv g38) s3])
 .ret)))))))
 (.seq (.seq (.reg [.p (.ld true 5 g5) s46,
  .p (.call 91 [g46, (kc (.tc (.sc (.int .i64 0))))] (G2 113 10 1)) s47,
  .p (.nt g47 (G2 113 10 2)) s48])
 (.cond g48 (.seq (.reg [.p (.mv g0) s49,
  .p (.call 112 [g49, (kc (.tc (.sc (.int .i64 8))))] (G2 113 11 1)) s50,
  .p (.ex g50 0) s51,
  .p (.ex g50 1) s52,
  .p (.mv g51) s2,
  .p (.mv g52) s3])
 .ret)
 .skip))
 (.seq (.reg [.p (.mv g0) s53,
  .p (.nc g53 (G2 113 12 1)) s54,
  .p (.fa 1 g54) s55,
  .p (.ld false 1 g55) s56,
  .p (.bin .add g56 (kc (.tc (.sc (.int .i64 1)))) (G2 113 12 4)) s57,
  .p (.nc g53 (G2 113 12 5)) s58,
  .p (.fa 1 g58) s59,
  .n (.st 1 g59 g57 (G2 113 12 7))])
 (.seq (.reg [.p (.mv g0) s60,
  .p (.ld true 5 g5) s61,
  .p (.call 106 [g60, g61] (G2 113 13 2)) s62,
  .p (.mv g62) s2,
  .p (.mv (kc (.tc (.sc (.bool true))))) s3])
 .ret)))))))),
 [.tmp g2, .tmp g3]⟩
theorem ff113_ok : compF SBase 113 = ff113 := by kernel_rfl
noncomputable def ff91 : FF := .t3 ⟨84,
 (.seq (.reg [.p (.bx 5 (h0 g0) (G3 91 0 0)) (i0 s2),
  .p (.mv (kc (.tc (.sc (.bool false))))) (i0 s4)])
 (.seq (.reg [.p (.fa 0 (h0 g2)) (i0 s6),
  .p (.ld false 1 (h0 g6)) (i0 s7),
  .p (.bd [(.tc (.sc (.int .u8 0))), (.tc (.sc (.int .i64 0))), (.tc (.sc (.string ⟨#[]⟩))), (.tc (.sc (.int .i64 0))), (.tc (.sc (.int .i64 0)))] [(.mk 0 1 (h0 g7))] (G3 91 1 2)) (i0 s8),
  .p (.al 5 [(.sc (.int .u8 0)), (.sc (.int .i64 0)), (.sc (.string ⟨#[]⟩)), (.sc (.int .i64 0)), (.sc (.int .i64 0))]) (i0 s5),
  .n (.st 5 (h0 g5) (h0 g8) (G3 91 1 4))])
 (.seq (.block 0 (.seq (.reg [.p (.fa 0 (h0 g2)) (i0 s10),
  .p (.ld false 1 (h0 g10)) (i0 s11),
  .p (.bin .eql (h0 g11) (kc (.tc (.sc (.int .u8 1)))) (G3 91 2 2)) (i0 s12),
  .p (.mv (h0 g12)) (i0 s9)])
 (.cond (h0 g9) (.seq (.reg [.p (.fa 1 (h0 g2)) (i0 s13),
  .p (.ld false 1 (h0 g13)) (i0 s14),
  .p (.fa 1 (h0 g5)) (i0 s15),
  .n (.st 1 (h0 g15) (h0 g14) (G3 91 3 3))])
 (.seq (.reg [.p (.ld true 5 (h0 g2)) (i0 s16),
  .p (.ld true 5 (h0 g5)) (i0 s17),
  .p (.eqs .eql [(.mk 0 .int), (.mk 1 .int), (.mk 2 .str), (.mk 3 .int), (.mk 4 .int)] (h0 g16) (h0 g17) (G3 91 4 2)) (i0 s18),
  .p (.mv (h0 g18)) (i0 s19),
  .gp (h0 g19) true (.fa 1 (h0 g2)) (i0 s20),
  .gp (h0 g19) true (.ld false 1 (h0 g20)) (i0 s21),
  .gp (h0 g19) true (.bin .geq (h0 g21) (kc (.tc (.sc (.int .i64 0)))) (G3 91 4 6)) (i0 s22),
  .p (.pk (h0 g19) (h0 g22) (kc (.tc (.sc (.bool false))))) (i0 s23),
  .p (.mv (h0 g23)) (i0 s24),
  .gp (h0 g24) true (.fa 1 (h0 g2)) (i0 s25),
  .gp (h0 g24) true (.ld false 1 (h0 g25)) (i0 s26),
  .gp (h0 g24) true (.bin .leq (h0 g26) (kc (.tc (.sc (.int .i64 1099511627776)))) (G3 91 4 11)) (i0 s27),
  .p (.pk (h0 g24) (h0 g27) (kc (.tc (.sc (.bool false))))) (i0 s28),
  .p (.mv (h0 g28)) (i0 s4)])
 .ret))
 (.seq (.reg [.p (.fa 0 (h0 g2)) (i0 s30),
  .p (.ld false 1 (h0 g30)) (i0 s31),
  .p (.bin .eql (h0 g31) (kc (.tc (.sc (.int .u8 2)))) (G3 91 5 2)) (i0 s32),
  .p (.mv (h0 g32)) (i0 s29)])
 (.cond (h0 g29) (.seq (.reg [.p (.fa 2 (h0 g2)) (i0 s33),
  .p (.ld false 1 (h0 g33)) (i0 s34),
  .p (.fa 2 (h0 g5)) (i0 s35),
  .n (.st 1 (h0 g35) (h0 g34) (G3 91 6 3))])
 (.seq (.reg [.p (.ld true 5 (h0 g2)) (i0 s36),
  .p (.ld true 5 (h0 g5)) (i0 s37),
  .p (.eqs .eql [(.mk 0 .int), (.mk 1 .int), (.mk 2 .str), (.mk 3 .int), (.mk 4 .int)] (h0 g36) (h0 g37) (G3 91 7 2)) (i0 s38),
  .p (.mv (h0 g38)) (i0 s39),
  .gp (h0 g39) true (.fa 2 (h0 g2)) (i0 s40),
  .gp (h0 g39) true (.ld false 1 (h0 g40)) (i0 s41),
  .gp (h0 g39) true (.bin .neq (h0 g41) (kc (.tc (.sc (.string ⟨#[]⟩)))) (G3 91 7 6)) (i0 s42),
  .p (.pk (h0 g39) (h0 g42) (kc (.tc (.sc (.bool false))))) (i0 s43),
  .p (.mv (h0 g43)) (i0 s4)])
 .ret))
 (.seq (.reg [.p (.ld true 5 (h0 g2)) (i0 s45),
  .p (.call 92 [(h0 g45)] (G3 91 8 1)) (i0 s46),
  .p (.mv (h0 g46)) (i0 s44)])
 (.cond (h0 g44) (.regD [0, 1, 0, 4, 3, 19, 63, 127] [.no, (.rd (.ld false 1 (h0 g47)) (h0 g48)), .no, (.rd (.ld false 1 (h0 g49)) (h0 g50)), .no, .no, .no, .no] [.mk .none .yes (.fa 3 (h0 g2)) (.fa 3 (h0 g2)) (some (i0 s47)),
  .mk .none .yes (.ld false 1 (h0 g47)) (.ld false 1 (h0 g47)) (some (i0 s48)),
  .mk .none .yes (.fa 4 (h0 g2)) (.fa 4 (h0 g2)) (some (i0 s49)),
  .mk .none .yes (.ld false 1 (h0 g49)) (.ld false 1 (h0 g49)) (some (i0 s50)),
  .mk .none .yes (.fa 3 (h0 g5)) (.fa 3 (h0 g5)) (some (i0 s51)),
  .mk .none .no (.st 1 (h0 g51) (h0 g48) (G3 91 9 5)) (.st 1 (h0 g51) (h0 g48) (G3 91 9 5)) none,
  .mk .none .yes (.fa 4 (h0 g5)) (.fa 4 (h0 g5)) (some (i0 s52)),
  .mk .none .no (.st 1 (h0 g52) (h0 g50) (G3 91 9 7)) (.st 1 (h0 g52) (h0 g50) (G3 91 9 7)) none])
 (.seq (.reg [.p (.ld true 5 (h0 g2)) (i0 s54),
  .p (.call 93 [(h0 g54)] (G3 91 10 1)) (i0 s55),
  .p (.mv (h0 g55)) (i0 s53)])
 (.cond (h0 g53) (.reg [.p (.fa 3 (h0 g2)) (i0 s56),
  .p (.ld false 1 (h0 g56)) (i0 s57),
  .p (.fa 3 (h0 g5)) (i0 s58),
  .n (.st 1 (h0 g58) (h0 g57) (G3 91 11 3))])
 (.seq (.reg [.p (.mv (kc (.tc (.sc (.bool false))))) (i0 s4)])
 .ret))))))))))
 (.seq (.reg [.p (.ld true 5 (h0 g2)) (i0 s59),
  .p (.ld true 5 (h0 g5)) (i0 s60),
  .p (.eqs .eql [(.mk 0 .int), (.mk 1 .int), (.mk 2 .str), (.mk 3 .int), (.mk 4 .int)] (h0 g59) (h0 g60) (G3 91 13 2)) (i0 s61),
  .p (.mv (h0 g61)) (i0 s62),
  .gp (h0 g62) true (.fa 3 (h0 g2)) (i0 s63),
  .gp (h0 g62) true (.ld false 1 (h0 g63)) (i1 s0),
  .gp (h0 g62) true (.bin .geq (h1 g0) (kc (.tc (.sc (.int .i64 0)))) (G3 91 13 6)) (i1 s1),
  .p (.pk (h0 g62) (h1 g1) (kc (.tc (.sc (.bool false))))) (i1 s2),
  .p (.mv (h1 g2)) (i1 s3),
  .gp (h1 g3) true (.fa 3 (h0 g2)) (i1 s4),
  .gp (h1 g3) true (.ld false 1 (h1 g4)) (i1 s5),
  .gp (h1 g3) true (.mv (h0 g1)) (i1 s6),
  .gp (h1 g3) true (.bin .lss (h1 g5) (h1 g6) (G3 91 13 12)) (i1 s7),
  .p (.pk (h1 g3) (h1 g7) (kc (.tc (.sc (.bool false))))) (i1 s8),
  .p (.mv (h1 g8)) (i1 s9),
  .gp (h1 g9) true (.fa 4 (h0 g2)) (i1 s10),
  .gp (h1 g9) true (.ld false 1 (h1 g10)) (i1 s11),
  .gp (h1 g9) true (.bin .geq (h1 g11) (kc (.tc (.sc (.int .i64 0)))) (G3 91 13 17)) (i1 s12),
  .p (.pk (h1 g9) (h1 g12) (kc (.tc (.sc (.bool false))))) (i1 s13),
  .p (.mv (h1 g13)) (i1 s14),
  .gp (h1 g14) true (.fa 4 (h0 g2)) (i1 s15),
  .gp (h1 g14) true (.ld false 1 (h1 g15)) (i1 s16),
  .gp (h1 g14) true (.mv (h0 g1)) (i1 s17),
  .gp (h1 g14) true (.bin .lss (h1 g16) (h1 g17) (G3 91 13 23)) (i1 s18),
  .p (.pk (h1 g14) (h1 g18) (kc (.tc (.sc (.bool false))))) (i1 s19),
  .p (.mv (h1 g19)) (i0 s4)])
 .ret)))),
 [.tmp (h0 g4)]⟩
theorem ff91_ok : compF SBase 91 = ff91 := by kernel_rfl
noncomputable def ff92 : FF := .t2 ⟨11,
 (.seq (.reg [.p (.bx 5 g0 (G2 92 0 0)) s1,
  .p (.mv (kc (.tc (.sc (.bool false))))) s2])
 (.seq (.reg [.p (.fa 0 g1) s3,
  .p (.ld false 1 g3) s4,
  .p (.bin .geq g4 (kc (.tc (.sc (.int .u8 3)))) (G2 92 1 2)) s5,
  .p (.mv g5) s6,
  .gp g6 true (.fa 0 g1) s7,
  .gp g6 true (.ld false 1 g7) s8,
  .gp g6 true (.bin .leq g8 (kc (.tc (.sc (.int .u8 5)))) (G2 92 1 6)) s9,
  .p (.pk g6 g9 (kc (.tc (.sc (.bool false))))) s10,
  .p (.mv g10) s2])
 .ret)),
 [.tmp g2]⟩
theorem ff92_ok : compF SBase 92 = ff92 := by kernel_rfl
noncomputable def ff93 : FF := .t2 ⟨6,
 (.seq (.reg [.p (.bx 5 g0 (G2 93 0 0)) s1,
  .p (.mv (kc (.tc (.sc (.bool false))))) s2])
 (.seq (.reg [.p (.fa 0 g1) s3,
  .p (.ld false 1 g3) s4,
  .p (.bin .eql g4 (kc (.tc (.sc (.int .u8 6)))) (G2 93 1 2)) s5,
  .p (.mv g5) s2])
 .ret)),
 [.tmp g2]⟩
theorem ff93_ok : compF SBase 93 = ff93 := by kernel_rfl
noncomputable def ff89 : FF := .t2 ⟨50,
 (.seq (.reg [.p (.mv (kc (.tc (.sc (.int .i64 0))))) s6,
  .p (.mv (kc (.tc (.sc (.bool false))))) s7])
 (.seq (.reg [.p (.mv g1) s14,
  .p (.gen (G2 89 1 1)) s15,
  .p (.mv g15) s13,
  .p (.ex g13 0) s16,
  .p (.ex g13 1) s17,
  .p (.mv g16) s8,
  .p (.mv g17) s9])
 (.seq (.block 0 (.loop 4294967296 (.seq (.seq (.reg [.p (.mv g9) s18])
 (.cond g18 .skip
 (.exit 0)))
 (.block 1 (.seq (.reg [.p (.mv g2) s20,
  .p (.mv g0) s21,
  .p (.call 105 [g21] (G2 89 3 2)) s22,
  .p (.gen (G2 89 3 3)) s23,
  .p (.mv g23) s19,
  .p (.ex g19 0) s24,
  .p (.ex g19 1) s25,
  .p (.mv g24) s10,
  .p (.mv g25) s11])
 (.seq (.seq (.reg [.p (.mv g11) s26,
  .p (.nt g26 (G2 89 4 1)) s27])
 (.cond g27 (.seq (.reg [.p (.mv g8) s28,
  .p (.mv g28) s6,
  .p (.mv (kc (.tc (.sc (.bool true))))) s7])
 .ret)
 .skip))
 (.seq (.reg [.p (.mv g0) s29,
  .p (.nc g29 (G2 89 6 1)) s30,
  .p (.fa 1 g30) s31,
  .p (.ld false 1 g31) s32,
  .p (.bin .add g32 (kc (.tc (.sc (.int .i64 1)))) (G2 89 6 4)) s33,
  .p (.nc g29 (G2 89 6 5)) s34,
  .p (.fa 1 g34) s35,
  .n (.st 1 g35 g33 (G2 89 6 7))])
 (.seq (.reg [.p (.mv (kc (.tc (.sc (.int .i64 0))))) s12])
 (.seq (.reg [.p (.mv g1) s37,
  .p (.gen (G2 89 8 1)) s38,
  .p (.mv g38) s36,
  .p (.ex g36 0) s39,
  .p (.ex g36 1) s40,
  .p (.mv g39) s12,
  .p (.mv g40) s9])
 (.seq (.reg [.p (.mv g9) s41])
 (.cond g41 (.reg [.p (.mv g0) s42,
  .p (.mv g10) s43,
  .p (.mv g8) s44,
  .p (.mv g12) s45,
  .p (.bd [(.tc (.sc (.int .u8 0))), (.tc (.sc (.int .i64 0))), (.tc (.sc (.string ⟨#[]⟩))), (.tc (.sc (.int .i64 0))), (.tc (.sc (.int .i64 0)))] [(.mk 0 1 g43), (.mk 3 1 g44), (.mk 4 1 g45)] (G2 89 10 4)) s46,
  .p (.call 106 [g42, g46] (G2 89 10 5)) s47,
  .p (.mv g47) s8])
 .skip)))))))))))
 (.seq (.reg [.p (.mv g8) s48,
  .p (.mv g9) s49,
  .p (.mv g48) s6,
  .p (.mv g49) s7])
 .ret)))),
 [.tmp g6, .tmp g7]⟩
theorem ff89_ok : compF SBase 89 = ff89 := by kernel_rfl
noncomputable def ff31 : FF := .t2 ⟨31,
 (.seq (.reg [.p (.mv (kc (.tc (.sc (.int .i64 0))))) s2,
  .p (.mv (kc (.tc (.sc (.int .i64 0))))) s3])
 (.seq (.reg [.p (.mv g0) s8,
  .p (.call 30 [g8] (G2 31 1 1)) s9,
  .p (.call 29 [g9] (G2 31 1 2)) s10,
  .p (.mv g10) s7,
  .p (.ex g7 0) s11,
  .p (.ex g7 1) s12,
  .p (.ex g7 2) s13,
  .p (.mv g11) s4,
  .p (.mv g12) s5,
  .p (.mv g13) s6])
 (.seq (.seq (.reg [.p (.mv g6) s14,
  .p (.bin .neq g14 (kc (.tc (.sc (.int .i64 0)))) (G2 31 2 1)) s15,
  .p (.mv g15) s16,
  .gp g16 false (.mv g5) s17,
  .gp g16 false (.mv g0) s18,
  .gp g16 false (.call 30 [g18] (G2 31 2 5)) s19,
  .gp g16 false (.len g19 (G2 31 2 6)) s20,
  .gp g16 false (.bin .neq g17 g20 (G2 31 2 7)) s21,
  .p (.pk g16 (kc (.tc (.sc (.bool true)))) g21) s22])
 (.cond g22 (.seq (.reg [.p (.mv (kc (.tc (.sc (.int .i64 0))))) s2,
  .p (.mv (kc (.tc (.sc (.int .i64 8))))) s3])
 .ret)
 .skip))
 (.seq (.reg [.p (.mv g4) s23,
  .p (.bd [(.tc (.sc (.string ⟨#[]⟩))), (.tc (.sc (.int .i64 0))), (.tc (.sc (.int .i64 0)))] [(.mk 0 1 (kc (.tc (.sc (.string ⟨#[97]⟩))))), (.mk 1 1 (kc (.tc (.sc (.int .i64 3)))))] (G2 31 4 1)) s24,
  .p (.bd [(.tc (.sc (.string ⟨#[]⟩))), (.tc (.sc (.int .i64 0))), (.tc (.sc (.int .i64 0)))] [(.mk 0 1 (kc (.tc (.sc (.string ⟨#[98]⟩))))), (.mk 1 1 (kc (.tc (.sc (.int .i64 1)))))] (G2 31 4 2)) s25,
  .p (.bs 3 2 [[(.tc (.sc (.string ⟨#[]⟩))), (.tc (.sc (.int .i64 0))), (.tc (.sc (.int .i64 0)))], [(.tc (.sc (.string ⟨#[]⟩))), (.tc (.sc (.int .i64 0))), (.tc (.sc (.int .i64 0)))]] [(.mk 0 3 g24), (.mk 1 3 g25)] (G2 31 4 3)) s26,
  .p (.call 33 [g26] (G2 31 4 4)) s27,
  .p (.call 32 [g23, g27] (G2 31 4 5)) s28,
  .p (.ex g28 0) s29,
  .p (.ex g28 1) s30,
  .p (.mv g29) s2,
  .p (.mv g30) s3])
 .ret)))),
 [.tmp g2, .tmp g3]⟩
theorem ff31_ok : compF SBase 31 = ff31 := by kernel_rfl
noncomputable def ff33 : FF := .t2 ⟨4,
 (.seq (.reg [.p (.bx 1 g0 (G2 33 0 0)) s1,
  .p (.mv (kc (.tc (.sc .nilFunc)))) s2])
 (.seq (.reg [.p (.mf (.func 60) [] [g1]) s3,
  .p (.mv g3) s2])
 .ret)),
 [.tmp g2]⟩
theorem ff33_ok : compF SBase 33 = ff33 := by kernel_rfl
noncomputable def ff60 : FF := .t2 ⟨29,
 (.seq (.reg [.p (.mv (kc (.tc (.sc (.int .i64 0))))) s3,
  .p (.mv (kc (.tc (.sc (.int .i64 0))))) s4])
 (.seq (.seq (.reg [.p (.mv (kc (.tc (.sc (.int .i64 0))))) s5])
 (.block 0 (.loop 4294967296 (.seq (.seq (.reg [.p (.mv g5) s6,
  .p (.ld false 1 g1) s7,
  .p (.len g7 (G2 60 2 2)) s8,
  .p (.bin .lss g6 g8 (G2 60 2 3)) s9])
 (.cond g9 .skip
 (.exit 0)))
 (.seq (.block 1 (.seq (.reg [.p (.ld false 1 g1) s12,
  .p (.mv g5) s13,
  .p (.ia 3 g12 g13 (G2 60 3 2)) s14,
  .p (.fa 0 g14) s15,
  .p (.ld false 1 g15) s16,
  .p (.mv g0) s17,
  .p (.bin .eql g16 g17 (G2 60 3 6)) s18])
 (.cond g18 (.seq (.regD [0, 0, 3, 7, 15, 0, 0, 96, 224, 480, 31, 2047] [(.rd (.ld false 1 g1) g19), .no, .no, .no, (.rd (.ld false 1 g22) g23), (.rd (.ld false 1 g1) g24), .no, .no, .no, (.rd (.ld false 1 g27) g28), .no, .no] [.mk .none .yes (.ld false 1 g1) (.ld false 1 g1) (some s19),
  .mk .none .yes (.mv g5) (.mv g5) (some s20),
  .mk .none .yes (.ia 3 g19 g20 (G2 60 4 2)) (.ia 3 g19 g20 (G2 60 4 2)) (some s21),
  .mk .none .yes (.fa 1 g21) (.fa 1 g21) (some s22),
  .mk .none .yes (.ld false 1 g22) (.ld false 1 g22) (some s23),
  .mk .none .yes (.ld false 1 g1) (.ld false 1 g1) (some s24),
  .mk .none .yes (.mv g5) (.mv g5) (some s25),
  .mk .none .yes (.ia 3 g24 g25 (G2 60 4 7)) (.ia 3 g24 g25 (G2 60 4 7)) (some s26),
  .mk .none .yes (.fa 2 g26) (.fa 2 g26) (some s27),
  .mk .none .yes (.ld false 1 g27) (.ld false 1 g27) (some s28),
  .mk .none .yes (.mv g23) (.mv g23) (some s3),
  .mk .none .yes (.mv g28) (.mv g28) (some s4)])
 .ret)
 .skip)))
 (.reg [.p (.mv g5) s10,
  .p (.bin .add g10 (kc (.tc (.sc (.int .i64 1)))) (G2 60 5 1)) s11,
  .p (.mv g11) s5]))))))
 (.seq (.reg [.p (.mv (kc (.tc (.sc (.int .i64 0))))) s3,
  .p (.mv (kc (.tc (.sc (.int .i64 4))))) s4])
 .ret))),
 [.tmp g3, .tmp g4]⟩
theorem ff60_ok : compF SBase 60 = ff60 := by kernel_rfl
noncomputable def ff32 : FF := .t3 ⟨65,
 (.seq (.reg [.p (.mv (kc (.tc (.sc (.int .i64 0))))) (i0 s4),
  .p (.mv (kc (.tc (.sc (.int .i64 0))))) (i0 s5)])
 (.seq (.seq (.reg [.p (.mv (h0 g0)) (i0 s12),
  .p (.call 57 [(h0 g12)] (G3 32 1 1)) (i0 s13),
  .p (.nt (h0 g13) (G3 32 1 2)) (i0 s14),
  .p (.mv (h0 g14)) (i0 s15),
  .gp (h0 g15) false (.mv (h0 g1)) (i0 s16),
  .gp (h0 g15) false (.bin .eql (h0 g16) (kc (.tc (.sc .nilFunc))) (G3 32 1 5)) (i0 s17),
  .p (.pk (h0 g15) (kc (.tc (.sc (.bool true)))) (h0 g17)) (i0 s18)])
 (.cond (h0 g18) (.seq (.reg [.p (.mv (kc (.tc (.sc (.int .i64 0))))) (i0 s4),
  .p (.mv (kc (.tc (.sc (.int .i64 1))))) (i0 s5)])
 .ret)
 .skip))
 (.seq (.reg [.p (.mv (h0 g0)) (i0 s19),
  .p (.call 58 [(h0 g19)] (G3 32 3 1)) (i0 s20),
  .p (.mv (h0 g20)) (i0 s6)])
 (.seq (.reg [.p (.mv (h0 g0)) (i0 s21),
  .p (.len (h0 g21) (G3 32 4 1)) (i0 s22),
  .p (.gen (G3 32 4 2)) (i0 s23),
  .p (.mv (h0 g23)) (i0 s7)])
 (.seq (.seq (.reg [.p (.mv (h0 g0)) (i0 s24),
  .p (.len (h0 g24) (G3 32 5 1)) (i0 s25),
  .p (.mv (kc (.tc (.sc (.int .i64 0))))) (i0 s26)])
 (.block 0 (.loop 4294967296 (.seq (.reg [.p (.bin .lss (h0 g26) (h0 g25) (G3 32 6 0)) (i0 s27)])
 (.seq (.cond (h0 g27) .skip
 (.exit 0))
 (.seq (.block 1 (.seq (.reg [.p (.mv (h0 g26)) (i0 s28),
  .p (.ia 5 (h0 g24) (h0 g26) (G3 32 7 1)) (i0 s29),
  .p (.ld true 5 (h0 g29)) (i0 s30),
  .p (.al 5 [(.sc (.int .u8 0)), (.sc (.int .i64 0)), (.sc (.string ⟨#[]⟩)), (.sc (.int .i64 0)), (.sc (.int .i64 0))]) (i0 s9),
  .p (.mv (h0 g28)) (i0 s8),
  .n (.st 5 (h0 g9) (h0 g30) (G3 32 7 5))])
 (.seq (.seq (.reg [.p (.mv (h0 g6)) (i0 s31),
  .p (.mv (h0 g8)) (i0 s32),
  .p (.ia 1 (h0 g31) (h0 g32) (G3 32 8 2)) (i0 s33),
  .p (.ld false 1 (h0 g33)) (i0 s34),
  .p (.nt (h0 g34) (G3 32 8 4)) (i0 s35)])
 (.cond (h0 g35) (.exit 1)
 .skip))
 (.seq (.reg [.p (.ld true 5 (h0 g9)) (i0 s37),
  .p (.mv (h0 g7)) (i0 s38),
  .p (.mv (h0 g1)) (i0 s39),
  .p (.call 59 [(h0 g37), (h0 g38), (h0 g39)] (G3 32 9 3)) (i0 s40),
  .p (.mv (h0 g40)) (i0 s36),
  .p (.ex (h0 g36) 0) (i0 s41),
  .p (.ex (h0 g36) 1) (i0 s42),
  .p (.mv (h0 g41)) (i0 s10),
  .p (.mv (h0 g42)) (i0 s11)])
 (.seq (.block 2 (.seq (.reg [.p (.mv (h0 g11)) (i0 s44),
  .p (.bin .neq (h0 g44) (kc (.tc (.sc (.int .i64 0)))) (G3 32 10 1)) (i0 s45),
  .p (.mv (h0 g45)) (i0 s43)])
 (.cond (h0 g43) (.seq (.reg [.p (.mv (h0 g11)) (i0 s46),
  .p (.mv (kc (.tc (.sc (.int .i64 0))))) (i0 s4),
  .p (.mv (h0 g46)) (i0 s5)])
 .ret)
 (.seq (.reg [.p (.mv (h0 g10)) (i0 s48),
  .p (.bin .lss (h0 g48) (kc (.tc (.sc (.int .i64 (-1099511627776))))) (G3 32 12 1)) (i0 s49),
  .p (.mv (h0 g49)) (i0 s50),
  .gp (h0 g50) false (.mv (h0 g10)) (i0 s51),
  .gp (h0 g50) false (.bin .gtr (h0 g51) (kc (.tc (.sc (.int .i64 1099511627776)))) (G3 32 12 4)) (i0 s52),
  .p (.pk (h0 g50) (kc (.tc (.sc (.bool true)))) (h0 g52)) (i0 s53),
  .p (.mv (h0 g53)) (i0 s47)])
 (.cond (h0 g47) (.seq (.reg [.p (.mv (kc (.tc (.sc (.int .i64 0))))) (i0 s4),
  .p (.mv (kc (.tc (.sc (.int .i64 6))))) (i0 s5)])
 .ret)
 .skip)))))
 (.reg [.p (.mv (h0 g7)) (i0 s54),
  .p (.mv (h0 g8)) (i0 s55),
  .p (.mv (h0 g10)) (i0 s56),
  .p (.ia 1 (h0 g54) (h0 g55) (G3 32 14 3)) (i0 s57),
  .n (.st 1 (h0 g57) (h0 g56) (G3 32 14 4))]))))))
 (.reg [.p (.bin .add (h0 g26) (kc (.tc (.sc (.int .i64 1)))) (G3 32 15 0)) (i0 s58),
  .p (.mv (h0 g58)) (i0 s26)])))))))
 (.seq (.reg [.p (.mv (h0 g7)) (i0 s59),
  .p (.mv (h0 g7)) (i0 s60),
  .p (.len (h0 g60) (G3 32 16 2)) (i0 s61),
  .p (.bin .sub (h0 g61) (kc (.tc (.sc (.int .i64 1)))) (G3 32 16 3)) (i0 s62),
  .p (.ia 1 (h0 g59) (h0 g62) (G3 32 16 4)) (i0 s63),
  .p (.ld false 1 (h0 g63)) (i1 s0),
  .p (.mv (h1 g0)) (i0 s4),
  .p (.mv (kc (.tc (.sc (.int .i64 0))))) (i0 s5)])
 .ret)))))),
 [.tmp (h0 g4), .tmp (h0 g5)]⟩
theorem ff32_ok : compF SBase 32 = ff32 := by kernel_rfl
noncomputable def ff57 : FF := .t2 ⟨20,
 (.seq (.reg [.p (.mv (kc (.tc (.sc (.bool false))))) s2])
 (.seq (.seq (.reg [.p (.mv g0) s5,
  .p (.len g5 (G2 57 1 1)) s6,
  .p (.bin .eql g6 (kc (.tc (.sc (.int .i64 0)))) (G2 57 1 2)) s7])
 (.cond g7 (.seq (.reg [.p (.mv (kc (.tc (.sc (.bool false))))) s2])
 .ret)
 .skip))
 (.seq (.seq (.reg [.p (.mv g0) s8,
  .p (.len g8 (G2 57 3 1)) s9,
  .p (.mv (kc (.tc (.sc (.int .i64 0))))) s10])
 (.block 0 (.loop 4294967296 (.seq (.reg [.p (.bin .lss g10 g9 (G2 57 4 0)) s11])
 (.seq (.cond g11 .skip
 (.exit 0))
 (.seq (.block 1 (.seq (.reg [.p (.mv g10) s12,
  .p (.ia 5 g8 g10 (G2 57 5 1)) s13,
  .p (.ld true 5 g13) s14,
  .p (.al 5 [(.sc (.int .u8 0)), (.sc (.int .i64 0)), (.sc (.string ⟨#[]⟩)), (.sc (.int .i64 0)), (.sc (.int .i64 0))]) s4,
  .p (.mv g12) s3,
  .n (.st 5 g4 g14 (G2 57 5 5))])
 (.seq (.reg [.p (.ld true 5 g4) s15,
  .p (.mv g3) s16,
  .p (.call 91 [g15, g16] (G2 57 6 2)) s17,
  .p (.nt g17 (G2 57 6 3)) s18])
 (.cond g18 (.seq (.reg [.p (.mv (kc (.tc (.sc (.bool false))))) s2])
 .ret)
 .skip))))
 (.reg [.p (.bin .add g10 (kc (.tc (.sc (.int .i64 1)))) (G2 57 8 0)) s19,
  .p (.mv g19) s10])))))))
 (.seq (.reg [.p (.mv (kc (.tc (.sc (.bool true))))) s2])
 .ret)))),
 [.tmp g2]⟩
theorem ff57_ok : compF SBase 57 = ff57 := by kernel_rfl
noncomputable def ff58 : FF := .t2 ⟨57,
 (.seq (.reg [.p (.mv (kc (.tc (.sc (.slice none 0 0))))) s2])
 (.seq (.reg [.p (.mv g0) s5,
  .p (.len g5 (G2 58 1 1)) s6,
  .p (.gen (G2 58 1 2)) s7,
  .p (.mv g7) s3])
 (.seq (.reg [.p (.mv g3) s8,
  .p (.mv g0) s9,
  .p (.len g9 (G2 58 2 2)) s10,
  .p (.bin .sub g10 (kc (.tc (.sc (.int .i64 1)))) (G2 58 2 3)) s11,
  .p (.ia 1 g8 g11 (G2 58 2 4)) s12,
  .n (.st 1 g12 (kc (.tc (.sc (.bool true)))) (G2 58 2 5))])
 (.seq (.seq (.reg [.p (.mv g0) s13,
  .p (.len g13 (G2 58 3 1)) s14,
  .p (.bin .sub g14 (kc (.tc (.sc (.int .i64 1)))) (G2 58 3 2)) s15,
  .p (.mv g15) s4])
 (.block 0 (.loop 4294967296 (.seq (.seq (.reg [.p (.mv g4) s16,
  .p (.bin .geq g16 (kc (.tc (.sc (.int .i64 0)))) (G2 58 4 1)) s17])
 (.cond g17 .skip
 (.exit 0)))
 (.seq (.block 1 (.seq (.seq (.reg [.p (.mv g3) s20,
  .p (.mv g4) s21,
  .p (.ia 1 g20 g21 (G2 58 5 2)) s22,
  .p (.ld false 1 g22) s23,
  .p (.nt g23 (G2 58 5 4)) s24])
 (.cond g24 (.exit 1)
 .skip))
 (.seq (.seq (.reg [.p (.mv g0) s25,
  .p (.mv g4) s26,
  .p (.ia 5 g25 g26 (G2 58 6 2)) s27,
  .p (.ld true 5 g27) s28,
  .p (.call 92 [g28] (G2 58 6 4)) s29])
 (.cond g29 (.regD [0, 0, 0, 6, 14, 30, 0, 0, 0, 384, 896, 1920, 4031, 8127, 16383, 32767] [.no, .no, .no, .no, .no, (.rd (.ld false 1 g34) g35), .no, .no, .no, .no, .no, (.rd (.ld false 1 g40) g41), .no, .no, .no, .no] [.mk .none .yes (.mv g3) (.mv g3) (some s30),
  .mk .none .yes (.mv g0) (.mv g0) (some s31),
  .mk .none .yes (.mv g4) (.mv g4) (some s32),
  .mk .none .yes (.ia 5 g31 g32 (G2 58 7 3)) (.ia 5 g31 g32 (G2 58 7 3)) (some s33),
  .mk .none .yes (.fa 3 g33) (.fa 3 g33) (some s34),
  .mk .none .yes (.ld false 1 g34) (.ld false 1 g34) (some s35),
  .mk .none .yes (.mv g3) (.mv g3) (some s36),
  .mk .none .yes (.mv g0) (.mv g0) (some s37),
  .mk .none .yes (.mv g4) (.mv g4) (some s38),
  .mk .none .yes (.ia 5 g37 g38 (G2 58 7 9)) (.ia 5 g37 g38 (G2 58 7 9)) (some s39),
  .mk .none .yes (.fa 4 g39) (.fa 4 g39) (some s40),
  .mk .none .yes (.ld false 1 g40) (.ld false 1 g40) (some s41),
  .mk .none .yes (.ia 1 g30 g35 (G2 58 7 12)) (.ia 1 g30 g35 (G2 58 7 12)) (some s42),
  .mk .none .no (.st 1 g42 (kc (.tc (.sc (.bool true)))) (G2 58 7 13)) (.st 1 g42 (kc (.tc (.sc (.bool true)))) (G2 58 7 13)) none,
  .mk .none .yes (.ia 1 g36 g41 (G2 58 7 14)) (.ia 1 g36 g41 (G2 58 7 14)) (some s43),
  .mk .none .no (.st 1 g43 (kc (.tc (.sc (.bool true)))) (G2 58 7 15)) (.st 1 g43 (kc (.tc (.sc (.bool true)))) (G2 58 7 15)) none])
 .skip))
 (.seq (.reg [.p (.mv g0) s44,
  .p (.mv g4) s45,
  .p (.ia 5 g44 g45 (G2 58 8 2)) s46,
  .p (.ld true 5 g46) s47,
  .p (.call 93 [g47] (G2 58 8 4)) s48])
 (.cond g48 (.reg [.p (.mv g3) s49,
  .p (.mv g0) s50,
  .p (.mv g4) s51,
  .p (.ia 5 g50 g51 (G2 58 9 3)) s52,
  .p (.fa 3 g52) s53,
  .p (.ld false 1 g53) s54,
  .p (.ia 1 g49 g54 (G2 58 9 6)) s55,
  .n (.st 1 g55 (kc (.tc (.sc (.bool true)))) (G2 58 9 7))])
 .skip)))))
 (.reg [.p (.mv g4) s18,
  .p (.bin .sub g18 (kc (.tc (.sc (.int .i64 1)))) (G2 58 10 1)) s19,
  .p (.mv g19) s4]))))))
 (.seq (.reg [.p (.mv g3) s56,
  .p (.mv g56) s2])
 .ret))))),
 [.tmp g2]⟩
theorem ff58_ok : compF SBase 58 = ff58 := by kernel_rfl
noncomputable def ff59 : FF := .t3 ⟨67,
 (.seq (.reg [.p (.bx 5 (h0 g0) (G3 59 0 0)) (i0 s3),
  .p (.mv (kc (.tc (.sc (.int .i64 0))))) (i0 s6),
  .p (.mv (kc (.tc (.sc (.int .i64 0))))) (i0 s7)])
 (.seq (.seq (.reg [.p (.fa 0 (h0 g3)) (i0 s8),
  .p (.ld false 1 (h0 g8)) (i0 s9)])
 (.block 0 (.seq (.reg [.p (.bin .eql (h0 g9) (kc (.tc (.sc (.int .u8 2)))) (G3 59 2 0)) (i0 s11),
  .p (.mv (h0 g11)) (i0 s10)])
 (.cond (h0 g10) (.seq (.reg [.p (.mv (h0 g2)) (i0 s12),
  .p (.fa 2 (h0 g3)) (i0 s13),
  .p (.ld false 1 (h0 g13)) (i0 s14),
  .p (.gen (G3 59 3 3)) (i0 s15),
  .p (.ex (h0 g15) 0) (i0 s16),
  .p (.ex (h0 g15) 1) (i0 s17),
  .p (.mv (h0 g16)) (i0 s6),
  .p (.mv (h0 g17)) (i0 s7)])
 .ret)
 (.seq (.reg [.p (.bin .eql (h0 g9) (kc (.tc (.sc (.int .u8 3)))) (G3 59 4 0)) (i0 s19),
  .p (.mv (h0 g19)) (i0 s18)])
 (.cond (h0 g18) (.seq (.regD [0, 0, 2, 7, 15, 0, 0, 64, 224, 480, 1023, 2047, 4095] [.no, .no, (.rd (.ld false 1 (h0 g21)) (h0 g22)), .no, (.rd (.ld false 1 (h0 g23)) (h0 g24)), .no, .no, (.rd (.ld false 1 (h0 g26)) (h0 g27)), .no, (.rd (.ld false 1 (h0 g28)) (h0 g29)), .no, .no, .no] [.mk .none .yes (.mv (h0 g1)) (.mv (h0 g1)) (some (i0 s20)),
  .mk .none .yes (.fa 3 (h0 g3)) (.fa 3 (h0 g3)) (some (i0 s21)),
  .mk .none .yes (.ld false 1 (h0 g21)) (.ld false 1 (h0 g21)) (some (i0 s22)),
  .mk .none .yes (.ia 1 (h0 g20) (h0 g22) (G3 59 5 3)) (.ia 1 (h0 g20) (h0 g22) (G3 59 5 3)) (some (i0 s23)),
  .mk .none .yes (.ld false 1 (h0 g23)) (.ld false 1 (h0 g23)) (some (i0 s24)),
  .mk .none .yes (.mv (h0 g1)) (.mv (h0 g1)) (some (i0 s25)),
  .mk .none .yes (.fa 4 (h0 g3)) (.fa 4 (h0 g3)) (some (i0 s26)),
  .mk .none .yes (.ld false 1 (h0 g26)) (.ld false 1 (h0 g26)) (some (i0 s27)),
  .mk .none .yes (.ia 1 (h0 g25) (h0 g27) (G3 59 5 8)) (.ia 1 (h0 g25) (h0 g27) (G3 59 5 8)) (some (i0 s28)),
  .mk .none .yes (.ld false 1 (h0 g28)) (.ld false 1 (h0 g28)) (some (i0 s29)),
  .mk .none .yes (.bin .add (h0 g24) (h0 g29) (G3 59 5 10)) (.bin .add (h0 g24) (h0 g29) (G3 59 5 10)) (some (i0 s30)),
  .mk .none .yes (.mv (h0 g30)) (.mv (h0 g30)) (some (i0 s6)),
  .mk .none .yes (.mv (kc (.tc (.sc (.int .i64 0))))) (.mv (kc (.tc (.sc (.int .i64 0))))) (some (i0 s7))])
 .ret)
 (.seq (.reg [.p (.bin .eql (h0 g9) (kc (.tc (.sc (.int .u8 4)))) (G3 59 6 0)) (i0 s32),
  .p (.mv (h0 g32)) (i0 s31)])
 (.cond (h0 g31) (.seq (.regD [0, 0, 2, 7, 15, 0, 0, 64, 224, 480, 1023, 2047, 4095] [.no, .no, (.rd (.ld false 1 (h0 g34)) (h0 g35)), .no, (.rd (.ld false 1 (h0 g36)) (h0 g37)), .no, .no, (.rd (.ld false 1 (h0 g39)) (h0 g40)), .no, (.rd (.ld false 1 (h0 g41)) (h0 g42)), .no, .no, .no] [.mk .none .yes (.mv (h0 g1)) (.mv (h0 g1)) (some (i0 s33)),
  .mk .none .yes (.fa 3 (h0 g3)) (.fa 3 (h0 g3)) (some (i0 s34)),
  .mk .none .yes (.ld false 1 (h0 g34)) (.ld false 1 (h0 g34)) (some (i0 s35)),
  .mk .none .yes (.ia 1 (h0 g33) (h0 g35) (G3 59 7 3)) (.ia 1 (h0 g33) (h0 g35) (G3 59 7 3)) (some (i0 s36)),
  .mk .none .yes (.ld false 1 (h0 g36)) (.ld false 1 (h0 g36)) (some (i0 s37)),
  .mk .none .yes (.mv (h0 g1)) (.mv (h0 g1)) (some (i0 s38)),
  .mk .none .yes (.fa 4 (h0 g3)) (.fa 4 (h0 g3)) (some (i0 s39)),
  .mk .none .yes (.ld false 1 (h0 g39)) (.ld false 1 (h0 g39)) (some (i0 s40)),
  .mk .none .yes (.ia 1 (h0 g38) (h0 g40) (G3 59 7 8)) (.ia 1 (h0 g38) (h0 g40) (G3 59 7 8)) (some (i0 s41)),
  .mk .none .yes (.ld false 1 (h0 g41)) (.ld false 1 (h0 g41)) (some (i0 s42)),
  .mk .none .yes (.bin .sub (h0 g37) (h0 g42) (G3 59 7 10)) (.bin .sub (h0 g37) (h0 g42) (G3 59 7 10)) (some (i0 s43)),
  .mk .none .yes (.mv (h0 g43)) (.mv (h0 g43)) (some (i0 s6)),
  .mk .none .yes (.mv (kc (.tc (.sc (.int .i64 0))))) (.mv (kc (.tc (.sc (.int .i64 0))))) (some (i0 s7))])
 .ret)
 (.seq (.reg [.p (.bin .eql (h0 g9) (kc (.tc (.sc (.int .u8 5)))) (G3 59 8 0)) (i0 s45),
  .p (.mv (h0 g45)) (i0 s44)])
 (.cond (h0 g44) (.seq (.regD [0, 0, 2, 7, 15, 0, 0, 64, 224, 480, 1023, 2047, 4095] [.no, .no, (.rd (.ld false 1 (h0 g47)) (h0 g48)), .no, (.rd (.ld false 1 (h0 g49)) (h0 g50)), .no, .no, (.rd (.ld false 1 (h0 g52)) (h0 g53)), .no, (.rd (.ld false 1 (h0 g54)) (h0 g55)), .no, .no, .no] [.mk .none .yes (.mv (h0 g1)) (.mv (h0 g1)) (some (i0 s46)),
  .mk .none .yes (.fa 3 (h0 g3)) (.fa 3 (h0 g3)) (some (i0 s47)),
  .mk .none .yes (.ld false 1 (h0 g47)) (.ld false 1 (h0 g47)) (some (i0 s48)),
  .mk .none .yes (.ia 1 (h0 g46) (h0 g48) (G3 59 9 3)) (.ia 1 (h0 g46) (h0 g48) (G3 59 9 3)) (some (i0 s49)),
  .mk .none .yes (.ld false 1 (h0 g49)) (.ld false 1 (h0 g49)) (some (i0 s50)),
  .mk .none .yes (.mv (h0 g1)) (.mv (h0 g1)) (some (i0 s51)),
  .mk .none .yes (.fa 4 (h0 g3)) (.fa 4 (h0 g3)) (some (i0 s52)),
  .mk .none .yes (.ld false 1 (h0 g52)) (.ld false 1 (h0 g52)) (some (i0 s53)),
  .mk .none .yes (.ia 1 (h0 g51) (h0 g53) (G3 59 9 8)) (.ia 1 (h0 g51) (h0 g53) (G3 59 9 8)) (some (i0 s54)),
  .mk .none .yes (.ld false 1 (h0 g54)) (.ld false 1 (h0 g54)) (some (i0 s55)),
  .mk .none (.dyn 94 [(h0 g50), (h0 g55)]) (.call 94 [(h0 g50), (h0 g55)] (G3 59 9 10)) (.call 94 [(h0 g50), (h0 g55)] (G3 59 9 10)) (some (i0 s56)),
  .mk .none .yes (.mv (h0 g56)) (.mv (h0 g56)) (some (i0 s6)),
  .mk .none .yes (.mv (kc (.tc (.sc (.int .i64 0))))) (.mv (kc (.tc (.sc (.int .i64 0))))) (some (i0 s7))])
 .ret)
 (.seq (.reg [.p (.bin .eql (h0 g9) (kc (.tc (.sc (.int .u8 6)))) (G3 59 10 0)) (i0 s58),
  .p (.mv (h0 g58)) (i0 s57)])
 (.cond (h0 g57) (.seq (.reg [.p (.mv (h0 g1)) (i0 s59),
  .p (.fa 3 (h0 g3)) (i0 s60),
  .p (.ld false 1 (h0 g60)) (i0 s61),
  .p (.ia 1 (h0 g59) (h0 g61) (G3 59 11 3)) (i0 s62),
  .p (.ld false 1 (h0 g62)) (i0 s63),
  .p (.gen (G3 59 11 5)) (i1 s0),
  .p (.mv (h1 g0)) (i0 s6),
  .p (.mv (kc (.tc (.sc (.int .i64 0))))) (i0 s7)])
 .ret)
 .skip))))))))))))
 (.seq (.reg [.p (.fa 1 (h0 g3)) (i1 s1),
  .p (.ld false 1 (h1 g1)) (i1 s2),
  .p (.mv (h1 g2)) (i0 s6),
  .p (.mv (kc (.tc (.sc (.int .i64 0))))) (i0 s7)])
 .ret))),
 [.tmp (h0 g6), .tmp (h0 g7)]⟩
theorem ff59_ok : compF SBase 59 = ff59 := by kernel_rfl
noncomputable def ff94 : FF := .t2 ⟨26,
 (.seq (.reg [.p (.mv (kc (.tc (.sc (.int .i64 0))))) s4])
 (.seq (.seq (.reg [.p (.mv g0) s5,
  .p (.bin .neq g5 (kc (.tc (.sc (.int .i64 0)))) (G2 94 1 1)) s6,
  .p (.mv g6) s7,
  .gp g7 true (.mv g1) s8,
  .gp g7 true (.bin .neq g8 (kc (.tc (.sc (.int .i64 0)))) (G2 94 1 4)) s9,
  .p (.pk g7 g9 (kc (.tc (.sc (.bool false))))) s10,
  .p (.mv g10) s11,
  .gp g11 true (.mv g0) s12,
  .gp g11 true (.mv g0) s13,
  .gp g11 true (.gen (G2 94 1 9)) s14,
  .gp g11 true (.gen (G2 94 1 10)) s15,
  .gp g11 true (.mv g1) s16,
  .gp g11 true (.mv g1) s17,
  .gp g11 true (.gen (G2 94 1 13)) s18,
  .gp g11 true (.gen (G2 94 1 14)) s19,
  .gp g11 true (.bin .quo (kc (.tc (.sc (.int .i64 1099511627776)))) g19 (G2 94 1 15)) s20,
  .gp g11 true (.bin .gtr g15 g20 (G2 94 1 16)) s21,
  .p (.pk g11 g21 (kc (.tc (.sc (.bool false))))) s22])
 (.cond g22 (.seq (.reg [.p (.mv (kc (.tc (.sc (.int .i64 1099511627777))))) s4])
 .ret)
 .skip))
 (.seq (.reg [.p (.mv g0) s23,
  .p (.mv g1) s24,
  .p (.bin .mul g23 g24 (G2 94 3 2)) s25,
  .p (.mv g25) s4])
 .ret))),
 [.tmp g4]⟩
theorem ff94_ok : compF SBase 94 = ff94 := by kernel_rfl
noncomputable def ff35 : FF := .t2 ⟨42,
 (.seq (.reg [.p (.mv (kc (.tc (.sc (.slice none 0 0))))) s2])
 (.seq (.seq (.reg [.p (.mv g0) s7,
  .p (.call 57 [g7] (G2 35 1 1)) s8,
  .p (.nt g8 (G2 35 1 2)) s9])
 (.cond g9 (.seq (.reg [.p (.mv (kc (.tc (.sc (.slice none 0 0))))) s2])
 .ret)
 .skip))
 (.seq (.reg [.p (.mv (kc (.tc (.sc (.slice none 0 0))))) s3])
 (.seq (.reg [.p (.mv g0) s10,
  .p (.call 58 [g10] (G2 35 4 1)) s11,
  .p (.mv g11) s4])
 (.seq (.seq (.reg [.p (.mv g0) s12,
  .p (.len g12 (G2 35 5 1)) s13,
  .p (.mv (kc (.tc (.sc (.int .i64 0))))) s14])
 (.block 0 (.loop 4294967296 (.seq (.reg [.p (.bin .lss g14 g13 (G2 35 6 0)) s15])
 (.seq (.cond g15 .skip
 (.exit 0))
 (.seq (.block 1 (.seq (.reg [.p (.mv g14) s16,
  .p (.ia 5 g12 g14 (G2 35 7 1)) s17,
  .p (.ld true 5 g17) s18,
  .p (.al 5 [(.sc (.int .u8 0)), (.sc (.int .i64 0)), (.sc (.string ⟨#[]⟩)), (.sc (.int .i64 0)), (.sc (.int .i64 0))]) s6,
  .p (.mv g16) s5,
  .n (.st 5 g6 g18 (G2 35 7 5))])
 (.seq (.reg [.p (.fa 0 g6) s19,
  .p (.ld false 1 g19) s20,
  .p (.bin .eql g20 (kc (.tc (.sc (.int .u8 2)))) (G2 35 8 2)) s21,
  .p (.mv g21) s22,
  .gp g22 true (.mv g4) s23,
  .gp g22 true (.mv g5) s24,
  .gp g22 true (.ia 1 g23 g24 (G2 35 8 6)) s25,
  .gp g22 true (.ld false 1 g25) s26,
  .p (.pk g22 g26 (kc (.tc (.sc (.bool false))))) s27,
  .p (.mv g27) s28,
  .gp g28 true (.mv g3) s29,
  .gp g28 true (.fa 2 g6) s30,
  .gp g28 true (.ld false 1 g30) s31,
  .gp g28 true (.call 61 [g29, g31] (G2 35 8 13)) s32,
  .gp g28 true (.nt g32 (G2 35 8 14)) s33,
  .p (.pk g28 g33 (kc (.tc (.sc (.bool false))))) s34])
 (.cond g34 (.reg [.p (.mv g3) s35,
  .p (.fa 2 g6) s36,
  .p (.ld false 1 g36) s37,
  .p (.bs 1 1 [[(.tc (.sc (.string ⟨#[]⟩)))]] [(.mk 0 1 g37)] (G2 35 9 3)) s38,
  .p (.ap 1 16 g35 g38) s39,
  .p (.mv g39) s3])
 .skip))))
 (.reg [.p (.bin .add g14 (kc (.tc (.sc (.int .i64 1)))) (G2 35 10 0)) s40,
  .p (.mv g40) s14])))))))
 (.seq (.reg [.p (.mv g3) s41,
  .p (.mv g41) s2])
 .ret)))))),
 [.tmp g2]⟩
theorem ff35_ok : compF SBase 35 = ff35 := by kernel_rfl
noncomputable def ff61 : FF := .t2 ⟨9,
 (.seq (.reg [.p (.mv (kc (.tc (.sc (.bool false))))) s4])
 (.seq (.reg [.p (.mv g0) s5,
  .p (.mv g1) s6,
  .p (.call 95 [g5, g6] (G2 61 1 2)) s7,
  .p (.bin .geq g7 (kc (.tc (.sc (.int .i64 0)))) (G2 61 1 3)) s8,
  .p (.mv g8) s4])
 .ret)),
 [.tmp g4]⟩
theorem ff61_ok : compF SBase 61 = ff61 := by kernel_rfl
noncomputable def ff95 : FF := .t2 ⟨19,
 (.seq (.reg [.p (.mv (kc (.tc (.sc (.int .i64 0))))) s4])
 (.seq (.seq (.reg [.p (.mv g0) s6,
  .p (.len g6 (G2 95 1 1)) s7,
  .p (.mv (kc (.tc (.sc (.int .i64 0))))) s8])
 (.block 0 (.loop 4294967296 (.seq (.reg [.p (.bin .lss g8 g7 (G2 95 2 0)) s9])
 (.seq (.cond g9 .skip
 (.exit 0))
 (.seq (.block 1 (.seq (.reg [.p (.mv g8) s10,
  .p (.mv g10) s5])
 (.seq (.reg [.p (.mv g1) s11,
  .p (.mv g0) s12,
  .p (.mv g5) s13,
  .p (.ia 1 g12 g13 (G2 95 4 3)) s14,
  .p (.ld false 1 g14) s15,
  .p (.bin .eql g11 g15 (G2 95 4 5)) s16])
 (.cond g16 (.seq (.reg [.p (.mv g5) s17,
  .p (.mv g17) s4])
 .ret)
 .skip))))
 (.reg [.p (.bin .add g8 (kc (.tc (.sc (.int .i64 1)))) (G2 95 6 0)) s18,
  .p (.mv g18) s8])))))))
 (.seq (.reg [.p (.mv (kc (.tc (.sc (.int .i64 (-1)))))) s4])
 .ret))),
 [.tmp g4]⟩
theorem ff95_ok : compF SBase 95 = ff95 := by kernel_rfl
noncomputable def ff34 : FF := .t2 ⟨26,
 (.seq (.reg [.p (.mv (kc (.tc (.sc (.bool false))))) s4])
 (.seq (.seq (.reg [.p (.mv g0) s6,
  .p (.len g6 (G2 34 1 1)) s7,
  .p (.mv g1) s8,
  .p (.len g8 (G2 34 1 3)) s9,
  .p (.bin .neq g7 g9 (G2 34 1 4)) s10])
 (.cond g10 (.seq (.reg [.p (.mv (kc (.tc (.sc (.bool false))))) s4])
 .ret)
 .skip))
 (.seq (.seq (.reg [.p (.mv (kc (.tc (.sc (.int .i64 0))))) s5])
 (.block 0 (.loop 4294967296 (.seq (.seq (.reg [.p (.mv g5) s11,
  .p (.mv g0) s12,
  .p (.len g12 (G2 34 4 2)) s13,
  .p (.bin .lss g11 g13 (G2 34 4 3)) s14])
 (.cond g14 .skip
 (.exit 0)))
 (.seq (.block 1 (.seq (.regD [0, 0, 3, 7, 0, 0, 48, 112, 255] [.no, .no, .no, (.rd (.ld false 1 g19) g20), .no, .no, .no, (.rd (.ld false 1 g23) g24), .no] [.mk .none .yes (.mv g0) (.mv g0) (some s17),
  .mk .none .yes (.mv g5) (.mv g5) (some s18),
  .mk .none .yes (.ia 1 g17 g18 (G2 34 5 2)) (.ia 1 g17 g18 (G2 34 5 2)) (some s19),
  .mk .none .yes (.ld false 1 g19) (.ld false 1 g19) (some s20),
  .mk .none .yes (.mv g1) (.mv g1) (some s21),
  .mk .none .yes (.mv g5) (.mv g5) (some s22),
  .mk .none .yes (.ia 1 g21 g22 (G2 34 5 6)) (.ia 1 g21 g22 (G2 34 5 6)) (some s23),
  .mk .none .yes (.ld false 1 g23) (.ld false 1 g23) (some s24),
  .mk .none .yes (.bin .neq g20 g24 (G2 34 5 8)) (.bin .neq g20 g24 (G2 34 5 8)) (some s25)])
 (.cond g25 (.seq (.reg [.p (.mv (kc (.tc (.sc (.bool false))))) s4])
 .ret)
 .skip)))
 (.reg [.p (.mv g5) s15,
  .p (.bin .add g15 (kc (.tc (.sc (.int .i64 1)))) (G2 34 7 1)) s16,
  .p (.mv g16) s5]))))))
 (.seq (.reg [.p (.mv (kc (.tc (.sc (.bool true))))) s4])
 .ret)))),
 [.tmp g4]⟩
theorem ff34_ok : compF SBase 34 = ff34 := by kernel_rfl
noncomputable def ff36 : FF := .t2 ⟨19,
 (.seq (.reg [.p (.mv (kc (.tc (.sc (.bool false))))) s4])
 (.seq (.reg [.p (.mv g0) s8,
  .p (.call 31 [g8] (G2 36 1 1)) s9,
  .p (.mv g9) s7,
  .p (.ex g7 0) s10,
  .p (.ex g7 1) s11,
  .p (.mv g10) s5,
  .p (.mv g11) s6])
 (.seq (.reg [.p (.mv g5) s12,
  .p (.mv g1) s13,
  .p (.bin .eql g12 g13 (G2 36 2 2)) s14,
  .p (.mv g14) s15,
  .gp g15 true (.mv g6) s16,
  .gp g15 true (.bin .eql g16 (kc (.tc (.sc (.int .i64 0)))) (G2 36 2 5)) s17,
  .p (.pk g15 g17 (kc (.tc (.sc (.bool false))))) s18,
  .p (.mv g18) s4])
 .ret))),
 [.tmp g4]⟩
theorem ff36_ok : compF SBase 36 = ff36 := by kernel_rfl
noncomputable def ff37 : FF := .t2 ⟨14,
 (.seq (.reg [.p (.mv (kc (.tc (.sc (.bool false))))) s0])
 (.seq (.reg [.p (.call 36 [(kc (.tc (.sc (.string ⟨#[49, 43, 50, 42, 51]⟩)))), (kc (.tc (.sc (.int .i64 7))))] (G2 37 1 0)) s1,
  .p (.mv g1) s2,
  .gp g2 true (.call 36 [(kc (.tc (.sc (.string ⟨#[40, 49, 43, 50, 41, 42, 51]⟩)))), (kc (.tc (.sc (.int .i64 9))))] (G2 37 1 2)) s3,
  .p (.pk g2 g3 (kc (.tc (.sc (.bool false))))) s4,
  .p (.mv g4) s5,
  .gp g5 true (.call 36 [(kc (.tc (.sc (.string ⟨#[50, 45, 51, 45, 52]⟩)))), (kc (.tc (.sc (.int .i64 (-5)))))] (G2 37 1 5)) s6,
  .p (.pk g5 g6 (kc (.tc (.sc (.bool false))))) s7,
  .p (.mv g7) s8,
  .gp g8 true (.call 36 [(kc (.tc (.sc (.string ⟨#[45, 32, 45, 53]⟩)))), (kc (.tc (.sc (.int .i64 5))))] (G2 37 1 8)) s9,
  .p (.pk g8 g9 (kc (.tc (.sc (.bool false))))) s10,
  .p (.mv g10) s11,
  .gp g11 true (.call 36 [(kc (.tc (.sc (.string ⟨#[97, 42, 97, 45, 98]⟩)))), (kc (.tc (.sc (.int .i64 8))))] (G2 37 1 11)) s12,
  .p (.pk g11 g12 (kc (.tc (.sc (.bool false))))) s13,
  .p (.mv g13) s0])
 .ret)),
 [.tmp g0]⟩
theorem ff37_ok : compF SBase 37 = ff37 := by kernel_rfl

noncomputable def codeExprKnown (f : FuncId) : FF := match f with
  | 7 => ff7
  | 30 => ff30
  | 8 => ff8
  | 38 => ff38
  | 62 => ff62
  | 63 => ff63
  | 64 => ff64
  | 96 => ff96
  | 65 => ff65
  | 66 => ff66
  | 97 => ff97
  | 67 => ff67
  | 68 => ff68
  | 69 => ff69
  | 98 => ff98
  | 109 => ff109
  | 29 => ff29
  | 56 => ff56
  | 90 => ff90
  | 107 => ff107
  | 105 => ff105
  | 111 => ff111
  | 112 => ff112
  | 106 => ff106
  | 113 => ff113
  | 91 => ff91
  | 92 => ff92
  | 93 => ff93
  | 89 => ff89
  | 31 => ff31
  | 33 => ff33
  | 60 => ff60
  | 32 => ff32
  | 57 => ff57
  | 58 => ff58
  | 59 => ff59
  | 94 => ff94
  | 35 => ff35
  | 61 => ff61
  | 95 => ff95
  | 34 => ff34
  | 36 => ff36
  | 37 => ff37
  | _ => .bad
theorem codeExprKnown_ok : ∀ f, codeExprKnown f = .bad ∨ codeExprKnown f = compF SBase f := by
  intro f
  unfold codeExprKnown
  split
  · exact .inr ff7_ok.symm
  · exact .inr ff30_ok.symm
  · exact .inr ff8_ok.symm
  · exact .inr ff38_ok.symm
  · exact .inr ff62_ok.symm
  · exact .inr ff63_ok.symm
  · exact .inr ff64_ok.symm
  · exact .inr ff96_ok.symm
  · exact .inr ff65_ok.symm
  · exact .inr ff66_ok.symm
  · exact .inr ff97_ok.symm
  · exact .inr ff67_ok.symm
  · exact .inr ff68_ok.symm
  · exact .inr ff69_ok.symm
  · exact .inr ff98_ok.symm
  · exact .inr ff109_ok.symm
  · exact .inr ff29_ok.symm
  · exact .inr ff56_ok.symm
  · exact .inr ff90_ok.symm
  · exact .inr ff107_ok.symm
  · exact .inr ff105_ok.symm
  · exact .inr ff111_ok.symm
  · exact .inr ff112_ok.symm
  · exact .inr ff106_ok.symm
  · exact .inr ff113_ok.symm
  · exact .inr ff91_ok.symm
  · exact .inr ff92_ok.symm
  · exact .inr ff93_ok.symm
  · exact .inr ff89_ok.symm
  · exact .inr ff31_ok.symm
  · exact .inr ff33_ok.symm
  · exact .inr ff60_ok.symm
  · exact .inr ff32_ok.symm
  · exact .inr ff57_ok.symm
  · exact .inr ff58_ok.symm
  · exact .inr ff59_ok.symm
  · exact .inr ff94_ok.symm
  · exact .inr ff35_ok.symm
  · exact .inr ff61_ok.symm
  · exact .inr ff95_ok.symm
  · exact .inr ff34_ok.symm
  · exact .inr ff36_ok.symm
  · exact .inr ff37_ok.symm
  · exact .inl rfl
end Go.Proofs.Ytdafainfcegfkaa
