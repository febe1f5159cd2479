/- Code made ready ahead, LexKnown: each is what the program says. -/
import Derived.Test.YtdafainfcegfkaaKcBase
set_option linter.unusedVariables false
set_option maxRecDepth 100000
namespace Go.Proofs.Ytdafainfcegfkaa
open Go

noncomputable def ff3 : FF := .t3 ⟨303,
 (.seq (.reg [.p (.mv (kc (.tc (.sc (.bool false))))) (i0 s0)])
 (.seq (.reg [.p (.call 8 [(kc (.tc (.sc (.string ⟨#[76, 95, 49, 58, 32, 46, 111, 114, 103, 32, 49, 50]⟩))))] (G3 3 1 0)) (i0 s20),
  .p (.mv (h0 g20)) (i0 s19),
  .p (.ex (h0 g19) 0) (i0 s21),
  .p (.ex (h0 g19) 1) (i0 s22),
  .p (.mv (h0 g21)) (i0 s1),
  .p (.mv (h0 g22)) (i0 s2)])
 (.seq (.reg [.p (.call 8 [(kc (.tc (.sc (.string ⟨#[97, 32, 37, 49, 50, 10, 49, 120, 32, 46, 98]⟩))))] (G3 3 2 0)) (i0 s24),
  .p (.mv (h0 g24)) (i0 s23),
  .p (.ex (h0 g23) 0) (i0 s25),
  .p (.ex (h0 g23) 1) (i0 s26),
  .p (.mv (h0 g25)) (i0 s3),
  .p (.mv (h0 g26)) (i0 s4)])
 (.seq (.reg [.p (.call 8 [(kc (.tc (.sc (.string ⟨#[49, 48, 57, 57, 53, 49, 49, 54, 50, 55, 55, 55, 55]⟩))))] (G3 3 3 0)) (i0 s28),
  .p (.mv (h0 g28)) (i0 s27),
  .p (.ex (h0 g27) 0) (i0 s29),
  .p (.ex (h0 g27) 1) (i0 s30),
  .p (.mv (h0 g29)) (i0 s5),
  .p (.mv (h0 g30)) (i0 s6)])
 (.seq (.reg [.p (.call 8 [(kc (.tc (.sc (.string ⟨#[48, 120]⟩))))] (G3 3 4 0)) (i0 s32),
  .p (.mv (h0 g32)) (i0 s31),
  .p (.ex (h0 g31) 0) (i0 s33),
  .p (.ex (h0 g31) 1) (i0 s34),
  .p (.mv (h0 g33)) (i0 s7),
  .p (.mv (h0 g34)) (i0 s8)])
 (.seq (.reg [.p (.call 8 [(kc (.tc (.sc (.string ⟨#[]⟩))))] (G3 3 5 0)) (i0 s36),
  .p (.mv (h0 g36)) (i0 s35),
  .p (.ex (h0 g35) 0) (i0 s37),
  .p (.ex (h0 g35) 1) (i0 s38),
  .p (.mv (h0 g37)) (i0 s9),
  .p (.mv (h0 g38)) (i0 s10)])
 (.seq (.reg [.p (.call 8 [(kc (.tc (.sc (.string ⟨#[47, 32, 47, 47, 123, 125, 10, 35, 35, 35]⟩))))] (G3 3 6 0)) (i0 s40),
  .p (.mv (h0 g40)) (i0 s39),
  .p (.ex (h0 g39) 0) (i0 s41),
  .p (.ex (h0 g39) 1) (i0 s42),
  .p (.mv (h0 g41)) (i0 s11),
  .p (.mv (h0 g42)) (i0 s12)])
 (.seq (.reg [.p (.call 8 [(kc (.tc (.sc (.string ⟨#[49, 48, 57, 57, 53, 49, 49, 54, 50, 55, 55, 55, 54, 32, 48, 88, 48, 97, 32, 48, 48, 55]⟩))))] (G3 3 7 0)) (i0 s44),
  .p (.mv (h0 g44)) (i0 s43),
  .p (.ex (h0 g43) 0) (i0 s45),
  .p (.ex (h0 g43) 1) (i0 s46),
  .p (.mv (h0 g45)) (i0 s13),
  .p (.mv (h0 g46)) (i0 s14)])
 (.seq (.reg [.p (.gen (G3 3 8 0)) (i0 s48),
  .p (.gen (G3 3 8 1)) (i0 s49),
  .p (.call 8 [(h0 g49)] (G3 3 8 2)) (i0 s50),
  .p (.mv (h0 g50)) (i0 s47),
  .p (.ex (h0 g47) 0) (i0 s51),
  .p (.ex (h0 g47) 1) (i0 s52),
  .p (.mv (h0 g51)) (i0 s15),
  .p (.mv (h0 g52)) (i0 s16)])
 (.seq (.reg [.p (.call 8 [(kc (.tc (.sc (.string ⟨#[97, 98, 99, 100, 101, 102, 103, 104, 105, 106, 107, 108, 109, 110, 111, 112, 113, 114, 115, 116, 117, 118, 119, 120, 121, 122, 48, 49, 50, 51, 52, 53, 54, 32, 97, 98, 99, 100, 101, 102, 103, 104, 105, 106, 107, 108, 109, 110, 111, 112, 113, 114, 115, 116, 117, 118, 119, 120, 121, 122, 48, 49, 50, 51, 52, 53]⟩))))] (G3 3 9 0)) (i0 s54),
  .p (.mv (h0 g54)) (i0 s53),
  .p (.ex (h0 g53) 0) (i0 s55),
  .p (.ex (h0 g53) 1) (i0 s56),
  .p (.mv (h0 g55)) (i0 s17),
  .p (.mv (h0 g56)) (i0 s18)])
 (.seq (.seq (.reg [.p (.mv (h0 g1)) (i0 s57),
  .p (.len (h0 g57) (G3 3 10 1)) (i0 s58),
  .p (.bin .neq (h0 g58) (kc (.tc (.sc (.int .i64 5)))) (G3 3 10 2)) (i0 s59),
  .p (.mv (h0 g59)) (i0 s60),
  .gp (h0 g60) false (.mv (h0 g2)) (i0 s61),
  .gp (h0 g60) false (.len (h0 g61) (G3 3 10 5)) (i0 s62),
  .gp (h0 g60) false (.bin .neq (h0 g62) (kc (.tc (.sc (.int .i64 0)))) (G3 3 10 6)) (i0 s63),
  .p (.pk (h0 g60) (kc (.tc (.sc (.bool true)))) (h0 g63)) (i1 s0),
  .p (.mv (h1 g0)) (i1 s1),
  .gp (h1 g1) false (.mv (h0 g1)) (i1 s2),
  .gp (h1 g1) false (.ia 5 (h1 g2) (kc (.tc (.sc (.int .i64 0)))) (G3 3 10 10)) (i1 s3),
  .gp (h1 g1) false (.fa 1 (h1 g3)) (i1 s4),
  .gp (h1 g1) false (.ld false 1 (h1 g4)) (i1 s5),
  .gp (h1 g1) false (.bin .neq (h1 g5) (kc (.tc (.sc (.string ⟨#[76, 95, 49]⟩)))) (G3 3 10 13)) (i1 s6),
  .p (.pk (h1 g1) (kc (.tc (.sc (.bool true)))) (h1 g6)) (i1 s7),
  .p (.mv (h1 g7)) (i1 s8),
  .gp (h1 g8) false (.mv (h0 g1)) (i1 s9),
  .gp (h1 g8) false (.ia 5 (h1 g9) (kc (.tc (.sc (.int .i64 1)))) (G3 3 10 17)) (i1 s10),
  .gp (h1 g8) false (.fa 1 (h1 g10)) (i1 s11),
  .gp (h1 g8) false (.ld false 1 (h1 g11)) (i1 s12),
  .gp (h1 g8) false (.bin .neq (h1 g12) (kc (.tc (.sc (.string ⟨#[58]⟩)))) (G3 3 10 20)) (i1 s13),
  .p (.pk (h1 g8) (kc (.tc (.sc (.bool true)))) (h1 g13)) (i1 s14),
  .p (.mv (h1 g14)) (i1 s15),
  .gp (h1 g15) false (.mv (h0 g1)) (i1 s16),
  .gp (h1 g15) false (.ia 5 (h1 g16) (kc (.tc (.sc (.int .i64 2)))) (G3 3 10 24)) (i1 s17),
  .gp (h1 g15) false (.fa 1 (h1 g17)) (i1 s18),
  .gp (h1 g15) false (.ld false 1 (h1 g18)) (i1 s19),
  .gp (h1 g15) false (.bin .neq (h1 g19) (kc (.tc (.sc (.string ⟨#[46, 111, 114, 103]⟩)))) (G3 3 10 27)) (i1 s20),
  .p (.pk (h1 g15) (kc (.tc (.sc (.bool true)))) (h1 g20)) (i1 s21),
  .p (.mv (h1 g21)) (i1 s22),
  .gp (h1 g22) false (.mv (h0 g1)) (i1 s23),
  .gp (h1 g22) false (.ia 5 (h1 g23) (kc (.tc (.sc (.int .i64 3)))) (G3 3 10 31)) (i1 s24),
  .gp (h1 g22) false (.fa 2 (h1 g24)) (i1 s25),
  .gp (h1 g22) false (.ld false 1 (h1 g25)) (i1 s26),
  .gp (h1 g22) false (.bin .neq (h1 g26) (kc (.tc (.sc (.int .i64 12)))) (G3 3 10 34)) (i1 s27),
  .p (.pk (h1 g22) (kc (.tc (.sc (.bool true)))) (h1 g27)) (i1 s28),
  .p (.mv (h1 g28)) (i1 s29),
  .gp (h1 g29) false (.mv (h0 g1)) (i1 s30),
  .gp (h1 g29) false (.ia 5 (h1 g30) (kc (.tc (.sc (.int .i64 3)))) (G3 3 10 38)) (i1 s31),
  .gp (h1 g29) false (.fa 4 (h1 g31)) (i1 s32),
  .gp (h1 g29) false (.ld false 1 (h1 g32)) (i1 s33),
  .gp (h1 g29) false (.bin .neq (h1 g33) (kc (.tc (.sc (.int .i64 11)))) (G3 3 10 41)) (i1 s34),
  .p (.pk (h1 g29) (kc (.tc (.sc (.bool true)))) (h1 g34)) (i1 s35),
  .p (.mv (h1 g35)) (i1 s36),
  .gp (h1 g36) false (.mv (h0 g3)) (i1 s37),
  .gp (h1 g36) false (.len (h1 g37) (G3 3 10 45)) (i1 s38),
  .gp (h1 g36) false (.bin .neq (h1 g38) (kc (.tc (.sc (.int .i64 5)))) (G3 3 10 46)) (i1 s39),
  .p (.pk (h1 g36) (kc (.tc (.sc (.bool true)))) (h1 g39)) (i1 s40),
  .p (.mv (h1 g40)) (i1 s41),
  .gp (h1 g41) false (.mv (h0 g4)) (i1 s42),
  .gp (h1 g41) false (.len (h1 g42) (G3 3 10 50)) (i1 s43),
  .gp (h1 g41) false (.bin .neq (h1 g43) (kc (.tc (.sc (.int .i64 2)))) (G3 3 10 51)) (i1 s44),
  .p (.pk (h1 g41) (kc (.tc (.sc (.bool true)))) (h1 g44)) (i1 s45),
  .p (.mv (h1 g45)) (i1 s46),
  .gp (h1 g46) false (.mv (h0 g4)) (i1 s47),
  .gp (h1 g46) false (.ia 3 (h1 g47) (kc (.tc (.sc (.int .i64 0)))) (G3 3 10 55)) (i1 s48),
  .gp (h1 g46) false (.ld true 3 (h1 g48)) (i1 s49),
  .gp (h1 g46) false (.bd [(.tc (.sc (.int .i64 0))), (.tc (.sc (.int .i64 0))), (.tc (.sc (.int .i64 0)))] [(.mk 0 1 (kc (.tc (.sc (.int .i64 1))))), (.mk 1 1 (kc (.tc (.sc (.int .i64 3))))), (.mk 2 1 (kc (.tc (.sc (.int .i64 8)))))] (G3 3 10 57)) (i1 s50),
  .gp (h1 g46) false (.eqs .neq [(.mk 0 .int), (.mk 1 .int), (.mk 2 .int)] (h1 g49) (h1 g50) (G3 3 10 58)) (i1 s51),
  .p (.pk (h1 g46) (kc (.tc (.sc (.bool true)))) (h1 g51)) (i1 s52),
  .p (.mv (h1 g52)) (i1 s53),
  .gp (h1 g53) false (.mv (h0 g4)) (i1 s54),
  .gp (h1 g53) false (.ia 3 (h1 g54) (kc (.tc (.sc (.int .i64 1)))) (G3 3 10 62)) (i1 s55),
  .gp (h1 g53) false (.ld true 3 (h1 g55)) (i1 s56),
  .gp (h1 g53) false (.bd [(.tc (.sc (.int .i64 0))), (.tc (.sc (.int .i64 0))), (.tc (.sc (.int .i64 0)))] [(.mk 0 1 (kc (.tc (.sc (.int .i64 2))))), (.mk 1 1 (kc (.tc (.sc (.int .i64 1))))), (.mk 2 1 (kc (.tc (.sc (.int .i64 8)))))] (G3 3 10 64)) (i1 s57),
  .gp (h1 g53) false (.eqs .neq [(.mk 0 .int), (.mk 1 .int), (.mk 2 .int)] (h1 g56) (h1 g57) (G3 3 10 65)) (i1 s58),
  .p (.pk (h1 g53) (kc (.tc (.sc (.bool true)))) (h1 g58)) (i1 s59),
  .p (.mv (h1 g59)) (i1 s60),
  .gp (h1 g60) false (.mv (h0 g3)) (i1 s61),
  .gp (h1 g60) false (.ia 5 (h1 g61) (kc (.tc (.sc (.int .i64 1)))) (G3 3 10 69)) (i1 s62),
  .gp (h1 g60) false (.fa 2 (h1 g62)) (i1 s63),
  .gp (h1 g60) false (.ld false 1 (h1 g63)) (i2 s0),
  .gp (h1 g60) false (.bin .neq (h2 g0) (kc (.tc (.sc (.int .i64 12)))) (G3 3 10 72)) (i2 s1),
  .p (.pk (h1 g60) (kc (.tc (.sc (.bool true)))) (h2 g1)) (i2 s2),
  .p (.mv (h2 g2)) (i2 s3),
  .gp (h2 g3) false (.mv (h0 g3)) (i2 s4),
  .gp (h2 g3) false (.ia 5 (h2 g4) (kc (.tc (.sc (.int .i64 3)))) (G3 3 10 76)) (i2 s5),
  .gp (h2 g3) false (.fa 1 (h2 g5)) (i2 s6),
  .gp (h2 g3) false (.ld false 1 (h2 g6)) (i2 s7),
  .gp (h2 g3) false (.bin .neq (h2 g7) (kc (.tc (.sc (.string ⟨#[46, 98]⟩)))) (G3 3 10 79)) (i2 s8),
  .p (.pk (h2 g3) (kc (.tc (.sc (.bool true)))) (h2 g8)) (i2 s9)])
 (.cond (h2 g9) (.seq (.reg [.p (.mv (kc (.tc (.sc (.bool false))))) (i0 s0)])
 .ret)
 .skip))
 (.seq (.seq (.reg [.p (.mv (h0 g5)) (i2 s10),
  .p (.len (h2 g10) (G3 3 12 1)) (i2 s11),
  .p (.bin .neq (h2 g11) (kc (.tc (.sc (.int .i64 1)))) (G3 3 12 2)) (i2 s12),
  .p (.mv (h2 g12)) (i2 s13),
  .gp (h2 g13) false (.mv (h0 g6)) (i2 s14),
  .gp (h2 g13) false (.len (h2 g14) (G3 3 12 5)) (i2 s15),
  .gp (h2 g13) false (.bin .neq (h2 g15) (kc (.tc (.sc (.int .i64 1)))) (G3 3 12 6)) (i2 s16),
  .p (.pk (h2 g13) (kc (.tc (.sc (.bool true)))) (h2 g16)) (i2 s17),
  .p (.mv (h2 g17)) (i2 s18),
  .gp (h2 g18) false (.mv (h0 g6)) (i2 s19),
  .gp (h2 g18) false (.ia 3 (h2 g19) (kc (.tc (.sc (.int .i64 0)))) (G3 3 12 10)) (i2 s20),
  .gp (h2 g18) false (.fa 2 (h2 g20)) (i2 s21),
  .gp (h2 g18) false (.ld false 1 (h2 g21)) (i2 s22),
  .gp (h2 g18) false (.bin .neq (h2 g22) (kc (.tc (.sc (.int .i64 6)))) (G3 3 12 13)) (i2 s23),
  .p (.pk (h2 g18) (kc (.tc (.sc (.bool true)))) (h2 g23)) (i2 s24),
  .p (.mv (h2 g24)) (i2 s25),
  .gp (h2 g25) false (.mv (h0 g7)) (i2 s26),
  .gp (h2 g25) false (.len (h2 g26) (G3 3 12 17)) (i2 s27),
  .gp (h2 g25) false (.bin .neq (h2 g27) (kc (.tc (.sc (.int .i64 1)))) (G3 3 12 18)) (i2 s28),
  .p (.pk (h2 g25) (kc (.tc (.sc (.bool true)))) (h2 g28)) (i2 s29),
  .p (.mv (h2 g29)) (i2 s30),
  .gp (h2 g30) false (.mv (h0 g8)) (i2 s31),
  .gp (h2 g30) false (.len (h2 g31) (G3 3 12 22)) (i2 s32),
  .gp (h2 g30) false (.bin .neq (h2 g32) (kc (.tc (.sc (.int .i64 1)))) (G3 3 12 23)) (i2 s33),
  .p (.pk (h2 g30) (kc (.tc (.sc (.bool true)))) (h2 g33)) (i2 s34),
  .p (.mv (h2 g34)) (i2 s35),
  .gp (h2 g35) false (.mv (h0 g8)) (i2 s36),
  .gp (h2 g35) false (.ia 3 (h2 g36) (kc (.tc (.sc (.int .i64 0)))) (G3 3 12 27)) (i2 s37),
  .gp (h2 g35) false (.fa 2 (h2 g37)) (i2 s38),
  .gp (h2 g35) false (.ld false 1 (h2 g38)) (i2 s39),
  .gp (h2 g35) false (.bin .neq (h2 g39) (kc (.tc (.sc (.int .i64 8)))) (G3 3 12 30)) (i2 s40),
  .p (.pk (h2 g35) (kc (.tc (.sc (.bool true)))) (h2 g40)) (i2 s41),
  .p (.mv (h2 g41)) (i2 s42),
  .gp (h2 g42) false (.mv (h0 g9)) (i2 s43),
  .gp (h2 g42) false (.len (h2 g43) (G3 3 12 34)) (i2 s44),
  .gp (h2 g42) false (.bin .neq (h2 g44) (kc (.tc (.sc (.int .i64 1)))) (G3 3 12 35)) (i2 s45),
  .p (.pk (h2 g42) (kc (.tc (.sc (.bool true)))) (h2 g45)) (i2 s46),
  .p (.mv (h2 g46)) (i2 s47),
  .gp (h2 g47) false (.mv (h0 g10)) (i2 s48),
  .gp (h2 g47) false (.len (h2 g48) (G3 3 12 39)) (i2 s49),
  .gp (h2 g47) false (.bin .neq (h2 g49) (kc (.tc (.sc (.int .i64 0)))) (G3 3 12 40)) (i2 s50),
  .p (.pk (h2 g47) (kc (.tc (.sc (.bool true)))) (h2 g50)) (i2 s51),
  .p (.mv (h2 g51)) (i2 s52),
  .gp (h2 g52) false (.mv (h0 g9)) (i2 s53),
  .gp (h2 g52) false (.ia 5 (h2 g53) (kc (.tc (.sc (.int .i64 0)))) (G3 3 12 44)) (i2 s54),
  .gp (h2 g52) false (.ld true 5 (h2 g54)) (i2 s55),
  .gp (h2 g52) false (.bd [(.tc (.sc (.int .u8 0))), (.tc (.sc (.string ⟨#[]⟩))), (.tc (.sc (.int .i64 0))), (.tc (.sc (.int .i64 0))), (.tc (.sc (.int .i64 0)))] [(.mk 0 1 (kc (.tc (.sc (.int .u8 4))))), (.mk 3 1 (kc (.tc (.sc (.int .i64 1))))), (.mk 4 1 (kc (.tc (.sc (.int .i64 1)))))] (G3 3 12 46)) (i2 s56),
  .gp (h2 g52) false (.eqs .neq [(.mk 0 .int), (.mk 1 .str), (.mk 2 .int), (.mk 3 .int), (.mk 4 .int)] (h2 g55) (h2 g56) (G3 3 12 47)) (i2 s57),
  .p (.pk (h2 g52) (kc (.tc (.sc (.bool true)))) (h2 g57)) (i2 s58)])
 (.cond (h2 g58) (.seq (.reg [.p (.mv (kc (.tc (.sc (.bool false))))) (i0 s0)])
 .ret)
 .skip))
 (.seq (.seq (.reg [.p (.mv (h0 g11)) (i2 s59),
  .p (.len (h2 g59) (G3 3 14 1)) (i2 s60),
  .p (.bin .neq (h2 g60) (kc (.tc (.sc (.int .i64 4)))) (G3 3 14 2)) (i2 s61),
  .p (.mv (h2 g61)) (i2 s62),
  .gp (h2 g62) false (.mv (h0 g12)) (i2 s63),
  .gp (h2 g62) false (.len (h2 g63) (G3 3 14 5)) (i3 s0),
  .gp (h2 g62) false (.bin .neq (h3 g0) (kc (.tc (.sc (.int .i64 1)))) (G3 3 14 6)) (i3 s1),
  .p (.pk (h2 g62) (kc (.tc (.sc (.bool true)))) (h3 g1)) (i3 s2),
  .p (.mv (h3 g2)) (i3 s3),
  .gp (h3 g3) false (.mv (h0 g12)) (i3 s4),
  .gp (h3 g3) false (.ia 3 (h3 g4) (kc (.tc (.sc (.int .i64 0)))) (G3 3 14 10)) (i3 s5),
  .gp (h3 g3) false (.fa 1 (h3 g5)) (i3 s6),
  .gp (h3 g3) false (.ld false 1 (h3 g6)) (i3 s7),
  .gp (h3 g3) false (.bin .neq (h3 g7) (kc (.tc (.sc (.int .i64 1)))) (G3 3 14 13)) (i3 s8),
  .p (.pk (h3 g3) (kc (.tc (.sc (.bool true)))) (h3 g8)) (i3 s9),
  .p (.mv (h3 g9)) (i3 s10),
  .gp (h3 g10) false (.mv (h0 g11)) (i3 s11),
  .gp (h3 g10) false (.ia 5 (h3 g11) (kc (.tc (.sc (.int .i64 0)))) (G3 3 14 17)) (i3 s12),
  .gp (h3 g10) false (.fa 3 (h3 g12)) (i3 s13),
  .gp (h3 g10) false (.ld false 1 (h3 g13)) (i3 s14),
  .gp (h3 g10) false (.bin .neq (h3 g14) (kc (.tc (.sc (.int .i64 1)))) (G3 3 14 20)) (i3 s15),
  .p (.pk (h3 g10) (kc (.tc (.sc (.bool true)))) (h3 g15)) (i3 s16),
  .p (.mv (h3 g16)) (i3 s17),
  .gp (h3 g17) false (.mv (h0 g11)) (i3 s18),
  .gp (h3 g17) false (.ia 5 (h3 g18) (kc (.tc (.sc (.int .i64 0)))) (G3 3 14 24)) (i3 s19),
  .gp (h3 g17) false (.fa 4 (h3 g19)) (i3 s20),
  .gp (h3 g17) false (.ld false 1 (h3 g20)) (i3 s21),
  .gp (h3 g17) false (.bin .neq (h3 g21) (kc (.tc (.sc (.int .i64 7)))) (G3 3 14 27)) (i3 s22),
  .p (.pk (h3 g17) (kc (.tc (.sc (.bool true)))) (h3 g22)) (i3 s23),
  .p (.mv (h3 g23)) (i3 s24),
  .gp (h3 g24) false (.mv (h0 g11)) (i3 s25),
  .gp (h3 g24) false (.ia 5 (h3 g25) (kc (.tc (.sc (.int .i64 1)))) (G3 3 14 31)) (i3 s26),
  .gp (h3 g24) false (.fa 1 (h3 g26)) (i3 s27),
  .gp (h3 g24) false (.ld false 1 (h3 g27)) (i3 s28),
  .gp (h3 g24) false (.bin .neq (h3 g28) (kc (.tc (.sc (.string ⟨#[35, 35]⟩)))) (G3 3 14 34)) (i3 s29),
  .p (.pk (h3 g24) (kc (.tc (.sc (.bool true)))) (h3 g29)) (i3 s30),
  .p (.mv (h3 g30)) (i3 s31),
  .gp (h3 g31) false (.mv (h0 g11)) (i3 s32),
  .gp (h3 g31) false (.ia 5 (h3 g32) (kc (.tc (.sc (.int .i64 2)))) (G3 3 14 38)) (i3 s33),
  .gp (h3 g31) false (.fa 1 (h3 g33)) (i3 s34),
  .gp (h3 g31) false (.ld false 1 (h3 g34)) (i3 s35),
  .gp (h3 g31) false (.bin .neq (h3 g35) (kc (.tc (.sc (.string ⟨#[35]⟩)))) (G3 3 14 41)) (i3 s36),
  .p (.pk (h3 g31) (kc (.tc (.sc (.bool true)))) (h3 g36)) (i3 s37),
  .p (.mv (h3 g37)) (i3 s38),
  .gp (h3 g38) false (.mv (h0 g11)) (i3 s39),
  .gp (h3 g38) false (.ia 5 (h3 g39) (kc (.tc (.sc (.int .i64 2)))) (G3 3 14 45)) (i3 s40),
  .gp (h3 g38) false (.fa 4 (h3 g40)) (i3 s41),
  .gp (h3 g38) false (.ld false 1 (h3 g41)) (i3 s42),
  .gp (h3 g38) false (.bin .neq (h3 g42) (kc (.tc (.sc (.int .i64 3)))) (G3 3 14 48)) (i3 s43),
  .p (.pk (h3 g38) (kc (.tc (.sc (.bool true)))) (h3 g43)) (i3 s44)])
 (.cond (h3 g44) (.seq (.reg [.p (.mv (kc (.tc (.sc (.bool false))))) (i0 s0)])
 .ret)
 .skip))
 (.seq (.reg [.p (.mv (h0 g13)) (i3 s45),
  .p (.len (h3 g45) (G3 3 16 1)) (i3 s46),
  .p (.bin .eql (h3 g46) (kc (.tc (.sc (.int .i64 4)))) (G3 3 16 2)) (i3 s47),
  .p (.mv (h3 g47)) (i3 s48),
  .gp (h3 g48) true (.mv (h0 g14)) (i3 s49),
  .gp (h3 g48) true (.len (h3 g49) (G3 3 16 5)) (i3 s50),
  .gp (h3 g48) true (.bin .eql (h3 g50) (kc (.tc (.sc (.int .i64 0)))) (G3 3 16 6)) (i3 s51),
  .p (.pk (h3 g48) (h3 g51) (kc (.tc (.sc (.bool false))))) (i3 s52),
  .p (.mv (h3 g52)) (i3 s53),
  .gp (h3 g53) true (.mv (h0 g13)) (i3 s54),
  .gp (h3 g53) true (.ia 5 (h3 g54) (kc (.tc (.sc (.int .i64 0)))) (G3 3 16 10)) (i3 s55),
  .gp (h3 g53) true (.fa 2 (h3 g55)) (i3 s56),
  .gp (h3 g53) true (.ld false 1 (h3 g56)) (i3 s57),
  .gp (h3 g53) true (.bin .eql (h3 g57) (kc (.tc (.sc (.int .i64 1099511627776)))) (G3 3 16 13)) (i3 s58),
  .p (.pk (h3 g53) (h3 g58) (kc (.tc (.sc (.bool false))))) (i3 s59),
  .p (.mv (h3 g59)) (i3 s60),
  .gp (h3 g60) true (.mv (h0 g13)) (i3 s61),
  .gp (h3 g60) true (.ia 5 (h3 g61) (kc (.tc (.sc (.int .i64 1)))) (G3 3 16 17)) (i3 s62),
  .gp (h3 g60) true (.fa 2 (h3 g62)) (i3 s63),
  .gp (h3 g60) true (.ld false 1 (h3 g63)) (i4 s0),
  .gp (h3 g60) true (.bin .eql (h4 g0) (kc (.tc (.sc (.int .i64 10)))) (G3 3 16 20)) (i4 s1),
  .p (.pk (h3 g60) (h4 g1) (kc (.tc (.sc (.bool false))))) (i4 s2),
  .p (.mv (h4 g2)) (i4 s3),
  .gp (h4 g3) true (.mv (h0 g13)) (i4 s4),
  .gp (h4 g3) true (.ia 5 (h4 g4) (kc (.tc (.sc (.int .i64 2)))) (G3 3 16 24)) (i4 s5),
  .gp (h4 g3) true (.fa 2 (h4 g5)) (i4 s6),
  .gp (h4 g3) true (.ld false 1 (h4 g6)) (i4 s7),
  .gp (h4 g3) true (.bin .eql (h4 g7) (kc (.tc (.sc (.int .i64 7)))) (G3 3 16 27)) (i4 s8),
  .p (.pk (h4 g3) (h4 g8) (kc (.tc (.sc (.bool false))))) (i4 s9),
  .p (.mv (h4 g9)) (i4 s10),
  .gp (h4 g10) true (.mv (h0 g15)) (i4 s11),
  .gp (h4 g10) true (.len (h4 g11) (G3 3 16 31)) (i4 s12),
  .gp (h4 g10) true (.bin .eql (h4 g12) (kc (.tc (.sc (.int .i64 1)))) (G3 3 16 32)) (i4 s13),
  .p (.pk (h4 g10) (h4 g13) (kc (.tc (.sc (.bool false))))) (i4 s14),
  .p (.mv (h4 g14)) (i4 s15),
  .gp (h4 g15) true (.mv (h0 g16)) (i4 s16),
  .gp (h4 g15) true (.len (h4 g16) (G3 3 16 36)) (i4 s17),
  .gp (h4 g15) true (.bin .eql (h4 g17) (kc (.tc (.sc (.int .i64 100)))) (G3 3 16 37)) (i4 s18),
  .p (.pk (h4 g15) (h4 g18) (kc (.tc (.sc (.bool false))))) (i4 s19),
  .p (.mv (h4 g19)) (i4 s20),
  .gp (h4 g20) true (.mv (h0 g17)) (i4 s21),
  .gp (h4 g20) true (.len (h4 g21) (G3 3 16 41)) (i4 s22),
  .gp (h4 g20) true (.bin .eql (h4 g22) (kc (.tc (.sc (.int .i64 2)))) (G3 3 16 42)) (i4 s23),
  .p (.pk (h4 g20) (h4 g23) (kc (.tc (.sc (.bool false))))) (i4 s24),
  .p (.mv (h4 g24)) (i4 s25),
  .gp (h4 g25) true (.mv (h0 g18)) (i4 s26),
  .gp (h4 g25) true (.len (h4 g26) (G3 3 16 46)) (i4 s27),
  .gp (h4 g25) true (.bin .eql (h4 g27) (kc (.tc (.sc (.int .i64 1)))) (G3 3 16 47)) (i4 s28),
  .p (.pk (h4 g25) (h4 g28) (kc (.tc (.sc (.bool false))))) (i4 s29),
  .p (.mv (h4 g29)) (i4 s30),
  .gp (h4 g30) true (.mv (h0 g18)) (i4 s31),
  .gp (h4 g30) true (.ia 3 (h4 g31) (kc (.tc (.sc (.int .i64 0)))) (G3 3 16 51)) (i4 s32),
  .gp (h4 g30) true (.fa 2 (h4 g32)) (i4 s33),
  .gp (h4 g30) true (.ld false 1 (h4 g33)) (i4 s34),
  .gp (h4 g30) true (.bin .eql (h4 g34) (kc (.tc (.sc (.int .i64 3)))) (G3 3 16 54)) (i4 s35),
  .p (.pk (h4 g30) (h4 g35) (kc (.tc (.sc (.bool false))))) (i4 s36),
  .p (.mv (h4 g36)) (i4 s37),
  .gp (h4 g37) true (.mv (h0 g18)) (i4 s38),
  .gp (h4 g37) true (.ia 3 (h4 g38) (kc (.tc (.sc (.int .i64 0)))) (G3 3 16 58)) (i4 s39),
  .gp (h4 g37) true (.fa 1 (h4 g39)) (i4 s40),
  .gp (h4 g37) true (.ld false 1 (h4 g40)) (i4 s41),
  .gp (h4 g37) true (.bin .eql (h4 g41) (kc (.tc (.sc (.int .i64 1)))) (G3 3 16 61)) (i4 s42),
  .p (.pk (h4 g37) (h4 g42) (kc (.tc (.sc (.bool false))))) (i4 s43),
  .p (.mv (h4 g43)) (i4 s44),
  .gp (h4 g44) true (.call 9 [] (G3 3 16 64)) (i4 s45),
  .p (.pk (h4 g44) (h4 g45) (kc (.tc (.sc (.bool false))))) (i4 s46),
  .p (.mv (h4 g46)) (i0 s0)])
 .ret)))))))))))))),
 [.tmp (h0 g0)]⟩
theorem ff3_ok : compF SBase 3 = ff3 := by kernel_rfl
noncomputable def ff8 : FF := .t2 ⟨23,
 (.seq (.reg [.p (.mv (kc (.tc (.sc (.slice none 0 0))))) s2,
  .p (.mv (kc (.tc (.sc (.slice none 0 0))))) s3])
 (.seq (.seq (.reg [.p (.mv g0) s5,
  .p (.ls g5 (G2 8 1 1)) s6,
  .p (.bin .gtr g6 (kc (.tc (.sc (.int .i64 33554432)))) (G2 8 1 2)) s7])
 (.cond g7 (.seq (.reg [.p (.bd [(.tc (.sc (.int .i64 0))), (.tc (.sc (.int .i64 0))), (.tc (.sc (.int .i64 0)))] [(.mk 0 1 (kc (.tc (.sc (.int .i64 1))))), (.mk 1 1 (kc (.tc (.sc (.int .i64 1))))), (.mk 2 1 (kc (.tc (.sc (.int .i64 3)))))] (G2 8 2 0)) s8,
  .p (.bs 3 1 [[(.tc (.sc (.int .i64 0))), (.tc (.sc (.int .i64 0))), (.tc (.sc (.int .i64 0)))]] [(.mk 0 3 g8)] (G2 8 2 1)) s9,
  .p (.mv (kc (.tc (.sc (.slice none 0 0))))) s2,
  .p (.mv g9) s3])
 .ret)
 .skip))
 (.seq (.reg [.p (.mv g0) s10,
  .p (.bd [(.tc (.sc (.string ⟨#[]⟩))), (.tc (.sc (.int .i64 0))), (.tc (.sc (.int .i64 0))), (.tc (.sc (.int .i64 0))), (.tc (.sc (.slice none 0 0))), (.tc (.sc (.slice none 0 0)))] [(.mk 0 1 g10), (.mk 2 1 (kc (.tc (.sc (.int .i64 1)))))] (G2 8 3 1)) s11,
  .p (.bx 6 g11 (G2 8 3 2)) s12,
  .p (.mv g12) s4])
 (.seq (.reg [.p (.mv g4) s13,
  .p (.call 38 [g13] (G2 8 4 1)) s14])
 (.seq (.regD (E2.dec 23) (regAt XP 8 5) [0, 1, 3, 7, 0, 16, 48, 112, 15, 511] [.mk .none .yes (.mv g4) (.mv g4) (some s15),
  .mk .none .yes (.nc g15 (G2 8 5 1)) (.nc g15 (G2 8 5 1)) (some s16),
  .mk .none .yes (.fa 4 g16) (.fa 4 g16) (some s17),
  .mk .none .yes (.ld false 1 g17) (.ld false 1 g17) (some s18),
  .mk .none .yes (.mv g4) (.mv g4) (some s19),
  .mk .none .yes (.nc g19 (G2 8 5 5)) (.nc g19 (G2 8 5 5)) (some s20),
  .mk .none .yes (.fa 5 g20) (.fa 5 g20) (some s21),
  .mk .none .yes (.ld false 1 g21) (.ld false 1 g21) (some s22),
  .mk .none .yes (.mv g18) (.mv g18) (some s2),
  .mk .none .yes (.mv g22) (.mv g22) (some s3)])
 .ret))))),
 [.tmp g2, .tmp g3]⟩
theorem ff8_ok : compF SBase 8 = ff8 := by kernel_rfl
noncomputable def ff38 : FF := .t3 ⟨171,
 (.scope 4294967296 (.seq (.label 1)
 (.seq (.seq (.regD (E3.dec 171) (regAt XP 38 0) [0, 1, 3, 7, 0, 16, 48, 112, 240, 511] [.mk .none .yes (.mv (h0 g0)) (.mv (h0 g0)) (some (i0 s5)),
  .mk .none .yes (.nc (h0 g5) (G3 38 0 1)) (.nc (h0 g5) (G3 38 0 1)) (some (i0 s6)),
  .mk .none .yes (.fa 1 (h0 g6)) (.fa 1 (h0 g6)) (some (i0 s7)),
  .mk .none .yes (.ld false 1 (h0 g7)) (.ld false 1 (h0 g7)) (some (i0 s8)),
  .mk .none .yes (.mv (h0 g0)) (.mv (h0 g0)) (some (i0 s9)),
  .mk .none .yes (.nc (h0 g9) (G3 38 0 5)) (.nc (h0 g9) (G3 38 0 5)) (some (i0 s10)),
  .mk .none .yes (.fa 0 (h0 g10)) (.fa 0 (h0 g10)) (some (i0 s11)),
  .mk .none .yes (.ld false 1 (h0 g11)) (.ld false 1 (h0 g11)) (some (i0 s12)),
  .mk .none .yes (.ls (h0 g12) (G3 38 0 8)) (.ls (h0 g12) (G3 38 0 8)) (some (i0 s13)),
  .mk .none .yes (.bin .eql (h0 g8) (h0 g13) (G3 38 0 9)) (.bin .eql (h0 g8) (h0 g13) (G3 38 0 9)) (some (i0 s14))])
 (.cond (h0 g14) (.goto 0)
 .skip))
 (.seq (.seq (.regD (E3.dec 171) (regAt XP 38 1) [0, 1, 3, 7, 0, 16, 48, 112, 255, 511] [.mk .none .yes (.mv (h0 g0)) (.mv (h0 g0)) (some (i0 s15)),
  .mk .none .yes (.nc (h0 g15) (G3 38 1 1)) (.nc (h0 g15) (G3 38 1 1)) (some (i0 s16)),
  .mk .none .yes (.fa 0 (h0 g16)) (.fa 0 (h0 g16)) (some (i0 s17)),
  .mk .none .yes (.ld false 1 (h0 g17)) (.ld false 1 (h0 g17)) (some (i0 s18)),
  .mk .none .yes (.mv (h0 g0)) (.mv (h0 g0)) (some (i0 s19)),
  .mk .none .yes (.nc (h0 g19) (G3 38 1 5)) (.nc (h0 g19) (G3 38 1 5)) (some (i0 s20)),
  .mk .none .yes (.fa 1 (h0 g20)) (.fa 1 (h0 g20)) (some (i0 s21)),
  .mk .none .yes (.ld false 1 (h0 g21)) (.ld false 1 (h0 g21)) (some (i0 s22)),
  .mk .none .yes (.ix (h0 g18) (h0 g22) (G3 38 1 8)) (.ix (h0 g18) (h0 g22) (G3 38 1 8)) (some (i0 s23)),
  .mk .none .yes (.mv (h0 g23)) (.mv (h0 g23)) (some (i0 s2))])
 (.block 0 (.seq (.reg [.p (.mv (h0 g2)) (i0 s25),
  .p (.bin .eql (h0 g25) (kc (.tc (.sc (.int .u8 10)))) (G3 38 2 1)) (i0 s26),
  .p (.mv (h0 g26)) (i0 s24)])
 (.cond (h0 g24) (.goto 2)
 (.seq (.reg [.p (.mv (h0 g2)) (i0 s28),
  .p (.bin .eql (h0 g28) (kc (.tc (.sc (.int .u8 32)))) (G3 38 3 1)) (i0 s29),
  .p (.mv (h0 g29)) (i0 s30),
  .gp (h0 g30) false (.mv (h0 g2)) (i0 s31),
  .gp (h0 g30) false (.bin .eql (h0 g31) (kc (.tc (.sc (.int .u8 9)))) (G3 38 3 4)) (i0 s32),
  .p (.pk (h0 g30) (kc (.tc (.sc (.bool true)))) (h0 g32)) (i0 s33),
  .p (.mv (h0 g33)) (i0 s34),
  .gp (h0 g34) false (.mv (h0 g2)) (i0 s35),
  .gp (h0 g34) false (.bin .eql (h0 g35) (kc (.tc (.sc (.int .u8 13)))) (G3 38 3 8)) (i0 s36),
  .p (.pk (h0 g34) (kc (.tc (.sc (.bool true)))) (h0 g36)) (i0 s37),
  .p (.mv (h0 g37)) (i0 s27)])
 (.cond (h0 g27) (.seq (.reg [.p (.mv (h0 g0)) (i0 s38),
  .p (.nc (h0 g38) (G3 38 4 1)) (i0 s39),
  .p (.fa 1 (h0 g39)) (i0 s40),
  .p (.ld false 1 (h0 g40)) (i0 s41),
  .p (.bin .add (h0 g41) (kc (.tc (.sc (.int .i64 1)))) (G3 38 4 4)) (i0 s42),
  .p (.nc (h0 g38) (G3 38 4 5)) (i0 s43),
  .p (.fa 1 (h0 g43)) (i0 s44),
  .n (.st 1 (h0 g44) (h0 g42) (G3 38 4 7))])
 (.goto 1))
 (.seq (.reg [.p (.mv (h0 g2)) (i0 s46),
  .p (.call 62 [(h0 g46)] (G3 38 5 1)) (i0 s47),
  .p (.mv (h0 g47)) (i0 s48),
  .gp (h0 g48) false (.mv (h0 g2)) (i0 s49),
  .gp (h0 g48) false (.bin .eql (h0 g49) (kc (.tc (.sc (.int .u8 46)))) (G3 38 5 4)) (i0 s50),
  .p (.pk (h0 g48) (kc (.tc (.sc (.bool true)))) (h0 g50)) (i0 s51),
  .p (.mv (h0 g51)) (i0 s45)])
 (.cond (h0 g45) (.goto 3)
 (.seq (.reg [.p (.mv (h0 g2)) (i0 s53),
  .p (.call 63 [(h0 g53)] (G3 38 6 1)) (i0 s54),
  .p (.mv (h0 g54)) (i0 s52)])
 (.cond (h0 g52) (.goto 4)
 (.seq (.regD (E3.dec 171) (regAt XP 38 7) [0, 1, 3, 7, 0, 16, 48, 112, 255, 511, 1023] [.mk .none .yes (.mv (h0 g0)) (.mv (h0 g0)) (some (i0 s56)),
  .mk .none .yes (.nc (h0 g56) (G3 38 7 1)) (.nc (h0 g56) (G3 38 7 1)) (some (i0 s57)),
  .mk .none .yes (.fa 0 (h0 g57)) (.fa 0 (h0 g57)) (some (i0 s58)),
  .mk .none .yes (.ld false 1 (h0 g58)) (.ld false 1 (h0 g58)) (some (i0 s59)),
  .mk .none .yes (.mv (h0 g0)) (.mv (h0 g0)) (some (i0 s60)),
  .mk .none .yes (.nc (h0 g60) (G3 38 7 5)) (.nc (h0 g60) (G3 38 7 5)) (some (i0 s61)),
  .mk .none .yes (.fa 1 (h0 g61)) (.fa 1 (h0 g61)) (some (i0 s62)),
  .mk .none .yes (.ld false 1 (h0 g62)) (.ld false 1 (h0 g62)) (some (i0 s63)),
  .mk .none .yes (.ss (h0 g59) (some (h0 g63)) none none (G3 38 7 8)) (.ss (h0 g59) (some (h0 g63)) none none (G3 38 7 8)) (some (i1 s0)),
  .mk .none (.dyn 64 [(h1 g0), (kc (.tc (.sc (.string ⟨#[47, 47]⟩))))]) (.call 64 [(h1 g0), (kc (.tc (.sc (.string ⟨#[47, 47]⟩))))] (G3 38 7 9)) (.call 64 [(h1 g0), (kc (.tc (.sc (.string ⟨#[47, 47]⟩))))] (G3 38 7 9)) (some (i1 s1)),
  .mk .none .yes (.mv (h1 g1)) (.mv (h1 g1)) (some (i0 s55))])
 (.cond (h0 g55) (.goto 5)
 (.seq (.regD (E3.dec 171) (regAt XP 38 8) [0, 1, 3, 7, 0, 16, 48, 112, 255, 511, 1023] [.mk .none .yes (.mv (h0 g0)) (.mv (h0 g0)) (some (i1 s3)),
  .mk .none .yes (.nc (h1 g3) (G3 38 8 1)) (.nc (h1 g3) (G3 38 8 1)) (some (i1 s4)),
  .mk .none .yes (.fa 0 (h1 g4)) (.fa 0 (h1 g4)) (some (i1 s5)),
  .mk .none .yes (.ld false 1 (h1 g5)) (.ld false 1 (h1 g5)) (some (i1 s6)),
  .mk .none .yes (.mv (h0 g0)) (.mv (h0 g0)) (some (i1 s7)),
  .mk .none .yes (.nc (h1 g7) (G3 38 8 5)) (.nc (h1 g7) (G3 38 8 5)) (some (i1 s8)),
  .mk .none .yes (.fa 1 (h1 g8)) (.fa 1 (h1 g8)) (some (i1 s9)),
  .mk .none .yes (.ld false 1 (h1 g9)) (.ld false 1 (h1 g9)) (some (i1 s10)),
  .mk .none .yes (.ss (h1 g6) (some (h1 g10)) none none (G3 38 8 8)) (.ss (h1 g6) (some (h1 g10)) none none (G3 38 8 8)) (some (i1 s11)),
  .mk .none (.dyn 64 [(h1 g11), (kc (.tc (.sc (.string ⟨#[35, 35]⟩))))]) (.call 64 [(h1 g11), (kc (.tc (.sc (.string ⟨#[35, 35]⟩))))] (G3 38 8 9)) (.call 64 [(h1 g11), (kc (.tc (.sc (.string ⟨#[35, 35]⟩))))] (G3 38 8 9)) (some (i1 s12)),
  .mk .none .yes (.mv (h1 g12)) (.mv (h1 g12)) (some (i1 s2))])
 (.cond (h1 g2) (.seq (.reg [.p (.mv (h0 g0)) (i1 s13),
  .p (.call 65 [(h1 g13), (kc (.tc (.sc (.int .u8 3)))), (kc (.tc (.sc (.string ⟨#[35, 35]⟩)))), (kc (.tc (.sc (.int .i64 0))))] (G3 38 9 1)) (i1 s14)])
 (.goto 1))
 (.seq (.reg [.p (.mv (h0 g2)) (i1 s16),
  .p (.call 66 [(kc (.tc (.sc (.string ⟨#[123, 125, 59, 58, 40, 41, 44, 61, 43, 45, 42, 33, 35]⟩)))), (h1 g16)] (G3 38 10 1)) (i1 s17),
  .p (.bin .geq (h1 g17) (kc (.tc (.sc (.int .i64 0)))) (G3 38 10 2)) (i1 s18),
  .p (.mv (h1 g18)) (i1 s15)])
 (.cond (h1 g15) (.seq (.regD (E3.dec 171) (regAt XP 38 11) [0, 0, 2, 6, 14, 0, 32, 96, 224, 0, 512, 1536, 3584, 7680, 16382, 32767] [.mk .none .yes (.mv (h0 g0)) (.mv (h0 g0)) (some (i1 s19)),
  .mk .none .yes (.mv (h0 g0)) (.mv (h0 g0)) (some (i1 s20)),
  .mk .none .yes (.nc (h1 g20) (G3 38 11 2)) (.nc (h1 g20) (G3 38 11 2)) (some (i1 s21)),
  .mk .none .yes (.fa 0 (h1 g21)) (.fa 0 (h1 g21)) (some (i1 s22)),
  .mk .none .yes (.ld false 1 (h1 g22)) (.ld false 1 (h1 g22)) (some (i1 s23)),
  .mk .none .yes (.mv (h0 g0)) (.mv (h0 g0)) (some (i1 s24)),
  .mk .none .yes (.nc (h1 g24) (G3 38 11 6)) (.nc (h1 g24) (G3 38 11 6)) (some (i1 s25)),
  .mk .none .yes (.fa 1 (h1 g25)) (.fa 1 (h1 g25)) (some (i1 s26)),
  .mk .none .yes (.ld false 1 (h1 g26)) (.ld false 1 (h1 g26)) (some (i1 s27)),
  .mk .none .yes (.mv (h0 g0)) (.mv (h0 g0)) (some (i1 s28)),
  .mk .none .yes (.nc (h1 g28) (G3 38 11 10)) (.nc (h1 g28) (G3 38 11 10)) (some (i1 s29)),
  .mk .none .yes (.fa 1 (h1 g29)) (.fa 1 (h1 g29)) (some (i1 s30)),
  .mk .none .yes (.ld false 1 (h1 g30)) (.ld false 1 (h1 g30)) (some (i1 s31)),
  .mk .none .yes (.bin .add (h1 g31) (kc (.tc (.sc (.int .i64 1)))) (G3 38 11 13)) (.bin .add (h1 g31) (kc (.tc (.sc (.int .i64 1)))) (G3 38 11 13)) (some (i1 s32)),
  .mk .none .yes (.ss (h1 g23) (some (h1 g27)) (some (h1 g32)) none (G3 38 11 14)) (.ss (h1 g23) (some (h1 g27)) (some (h1 g32)) none (G3 38 11 14)) (some (i1 s33)),
  .mk .none (.dyn 65 [(h1 g19), (kc (.tc (.sc (.int .u8 3)))), (h1 g33), (kc (.tc (.sc (.int .i64 0))))]) (.call 65 [(h1 g19), (kc (.tc (.sc (.int .u8 3)))), (h1 g33), (kc (.tc (.sc (.int .i64 0))))] (G3 38 11 15)) (.call 65 [(h1 g19), (kc (.tc (.sc (.int .u8 3)))), (h1 g33), (kc (.tc (.sc (.int .i64 0))))] (G3 38 11 15)) (some (i1 s34))])
 (.goto 1))
 .skip))))))))))))))))
 (.seq (.reg [.p (.mv (h0 g0)) (i1 s35),
  .p (.call 67 [(h1 g35), (kc (.tc (.sc (.int .i64 8)))), (kc (.tc (.sc (.int .i64 1))))] (G3 38 12 1)) (i1 s36)])
 (.seq (.goto 1)
 (.seq (.label 2)
 (.seq (.reg [.p (.mv (h0 g0)) (i1 s37),
  .p (.call 65 [(h1 g37), (kc (.tc (.sc (.int .u8 4)))), (kc (.tc (.sc (.string ⟨#[]⟩)))), (kc (.tc (.sc (.int .i64 0))))] (G3 38 13 1)) (i1 s38)])
 (.seq (.reg [.p (.mv (h0 g0)) (i1 s39),
  .p (.nc (h1 g39) (G3 38 14 1)) (i1 s40),
  .p (.fa 1 (h1 g40)) (i1 s41),
  .p (.ld false 1 (h1 g41)) (i1 s42),
  .p (.bin .add (h1 g42) (kc (.tc (.sc (.int .i64 1)))) (G3 38 14 4)) (i1 s43),
  .p (.nc (h1 g39) (G3 38 14 5)) (i1 s44),
  .p (.fa 1 (h1 g44)) (i1 s45),
  .n (.st 1 (h1 g45) (h1 g43) (G3 38 14 7))])
 (.seq (.regD (E3.dec 171) (regAt XP 38 15) [0, 0, 0, 4, 12, 28, 60, 0, 128, 384, 896, 2045, 4093, 8189, 16383, 32767, 65535] [.mk .none .yes (.mv (h0 g0)) (.mv (h0 g0)) (some (i1 s46)),
  .mk .none .yes (.mv (h0 g0)) (.mv (h0 g0)) (some (i1 s47)),
  .mk .none .yes (.mv (h0 g0)) (.mv (h0 g0)) (some (i1 s48)),
  .mk .none .yes (.nc (h1 g48) (G3 38 15 3)) (.nc (h1 g48) (G3 38 15 3)) (some (i1 s49)),
  .mk .none .yes (.fa 2 (h1 g49)) (.fa 2 (h1 g49)) (some (i1 s50)),
  .mk .none .yes (.ld false 1 (h1 g50)) (.ld false 1 (h1 g50)) (some (i1 s51)),
  .mk .none .yes (.bin .add (h1 g51) (kc (.tc (.sc (.int .i64 1)))) (G3 38 15 6)) (.bin .add (h1 g51) (kc (.tc (.sc (.int .i64 1)))) (G3 38 15 6)) (some (i1 s52)),
  .mk .none .yes (.mv (h0 g0)) (.mv (h0 g0)) (some (i1 s53)),
  .mk .none .yes (.nc (h1 g53) (G3 38 15 8)) (.nc (h1 g53) (G3 38 15 8)) (some (i1 s54)),
  .mk .none .yes (.fa 1 (h1 g54)) (.fa 1 (h1 g54)) (some (i1 s55)),
  .mk .none .yes (.ld false 1 (h1 g55)) (.ld false 1 (h1 g55)) (some (i1 s56)),
  .mk .none .yes (.nc (h1 g46) (G3 38 15 11)) (.nc (h1 g46) (G3 38 15 11)) (some (i1 s57)),
  .mk .none .yes (.fa 2 (h1 g57)) (.fa 2 (h1 g57)) (some (i1 s58)),
  .mk .none .no (.st 1 (h1 g58) (h1 g52) (G3 38 15 13)) (.st 1 (h1 g58) (h1 g52) (G3 38 15 13)) none,
  .mk .none .yes (.nc (h1 g47) (G3 38 15 14)) (.nc (h1 g47) (G3 38 15 14)) (some (i1 s59)),
  .mk .none .yes (.fa 3 (h1 g59)) (.fa 3 (h1 g59)) (some (i1 s60)),
  .mk .none .no (.st 1 (h1 g60) (h1 g56) (G3 38 15 16)) (.st 1 (h1 g60) (h1 g56) (G3 38 15 16)) none])
 (.seq (.goto 1)
 (.seq (.label 5)
 (.seq (.seq (.regD (E3.dec 171) (regAt XP 38 16) [0, 1, 3, 7, 0, 16, 48, 112, 255, 511, 1023] [.mk .none .yes (.mv (h0 g0)) (.mv (h0 g0)) (some (i1 s61)),
  .mk .none .yes (.nc (h1 g61) (G3 38 16 1)) (.nc (h1 g61) (G3 38 16 1)) (some (i1 s62)),
  .mk .none .yes (.fa 0 (h1 g62)) (.fa 0 (h1 g62)) (some (i1 s63)),
  .mk .none .yes (.ld false 1 (h1 g63)) (.ld false 1 (h1 g63)) (some (i2 s0)),
  .mk .none .yes (.mv (h0 g0)) (.mv (h0 g0)) (some (i2 s1)),
  .mk .none .yes (.nc (h2 g1) (G3 38 16 5)) (.nc (h2 g1) (G3 38 16 5)) (some (i2 s2)),
  .mk .none .yes (.fa 1 (h2 g2)) (.fa 1 (h2 g2)) (some (i2 s3)),
  .mk .none .yes (.ld false 1 (h2 g3)) (.ld false 1 (h2 g3)) (some (i2 s4)),
  .mk .none .yes (.ss (h2 g0) (some (h2 g4)) none none (G3 38 16 8)) (.ss (h2 g0) (some (h2 g4)) none none (G3 38 16 8)) (some (i2 s5)),
  .mk .none (.dyn 66 [(h2 g5), (kc (.tc (.sc (.int .u8 10))))]) (.call 66 [(h2 g5), (kc (.tc (.sc (.int .u8 10))))] (G3 38 16 9)) (.call 66 [(h2 g5), (kc (.tc (.sc (.int .u8 10))))] (G3 38 16 9)) (some (i2 s6)),
  .mk .none .yes (.mv (h2 g6)) (.mv (h2 g6)) (some (i0 s3))])
 (.seq (.reg [.p (.mv (h0 g3)) (i2 s7),
  .p (.bin .geq (h2 g7) (kc (.tc (.sc (.int .i64 0)))) (G3 38 17 1)) (i2 s8)])
 (.cond (h2 g8) (.seq (.reg [.p (.mv (h0 g0)) (i2 s9),
  .p (.nc (h2 g9) (G3 38 18 1)) (i2 s10),
  .p (.fa 1 (h2 g10)) (i2 s11),
  .p (.ld false 1 (h2 g11)) (i2 s12),
  .p (.mv (h0 g3)) (i2 s13),
  .p (.bin .add (h2 g12) (h2 g13) (G3 38 18 5)) (i2 s14),
  .p (.nc (h2 g9) (G3 38 18 6)) (i2 s15),
  .p (.fa 1 (h2 g15)) (i2 s16),
  .n (.st 1 (h2 g16) (h2 g14) (G3 38 18 8))])
 (.goto 2))
 .skip)))
 (.seq (.reg [.p (.mv (h0 g0)) (i2 s17),
  .p (.mv (h0 g0)) (i2 s18),
  .p (.nc (h2 g18) (G3 38 19 2)) (i2 s19),
  .p (.fa 0 (h2 g19)) (i2 s20),
  .p (.ld false 1 (h2 g20)) (i2 s21),
  .p (.ls (h2 g21) (G3 38 19 5)) (i2 s22),
  .p (.nc (h2 g17) (G3 38 19 6)) (i2 s23),
  .p (.fa 1 (h2 g23)) (i2 s24),
  .n (.st 1 (h2 g24) (h2 g22) (G3 38 19 8))])
 (.seq (.goto 0)
 (.seq (.label 3)
 (.seq (.seq (.reg [.p (.mv (h0 g0)) (i2 s25),
  .p (.call 68 [(h2 g25), (kc (.tc (.sc (.string ⟨#[46]⟩))))] (G3 38 20 1)) (i2 s26),
  .p (.mv (h2 g26)) (i0 s4)])
 (.seq (.reg [.p (.mv (h0 g4)) (i2 s27),
  .p (.ls (h2 g27) (G3 38 21 1)) (i2 s28),
  .p (.bin .gtr (h2 g28) (kc (.tc (.sc (.int .i64 32)))) (G3 38 21 2)) (i2 s29)])
 (.cond (h2 g29) (.reg [.p (.mv (h0 g0)) (i2 s30),
  .p (.mv (h0 g4)) (i2 s31),
  .p (.ls (h2 g31) (G3 38 22 2)) (i2 s32),
  .p (.call 67 [(h2 g30), (kc (.tc (.sc (.int .i64 3)))), (h2 g32)] (G3 38 22 3)) (i2 s33)])
 (.reg [.p (.mv (h0 g0)) (i2 s34),
  .p (.mv (h0 g4)) (i2 s35),
  .p (.call 65 [(h2 g34), (kc (.tc (.sc (.int .u8 1)))), (h2 g35), (kc (.tc (.sc (.int .i64 0))))] (G3 38 23 2)) (i2 s36)]))))
 (.seq (.goto 1)
 (.seq (.label 4)
 (.seq (.reg [.p (.mv (h0 g0)) (i2 s37),
  .p (.mv (h0 g0)) (i2 s38),
  .p (.call 68 [(h2 g38), (kc (.tc (.sc (.string ⟨#[]⟩))))] (G3 38 24 2)) (i2 s39),
  .p (.call 69 [(h2 g37), (h2 g39)] (G3 38 24 3)) (i2 s40)])
 (.seq (.goto 1)
 (.seq (.label 0)
 (.reg [.p (.mv (h0 g0)) (i2 s41),
  .p (.call 65 [(h2 g41), (kc (.tc (.sc (.int .u8 4)))), (kc (.tc (.sc (.string ⟨#[]⟩)))), (kc (.tc (.sc (.int .i64 0))))] (G3 38 25 1)) (i2 s42)]))))))))))))))))))))))),
 []⟩
theorem ff38_ok : compF SBase 38 = ff38 := by kernel_rfl
noncomputable def ff62 : FF := .t2 ⟨15,
 (.seq (.reg [.p (.mv (kc (.tc (.sc (.bool false))))) s2])
 (.seq (.reg [.p (.mv g0) s3,
  .p (.bin .or g3 (kc (.tc (.sc (.int .u8 32)))) (G2 62 1 1)) s4,
  .p (.bin .geq g4 (kc (.tc (.sc (.int .u8 97)))) (G2 62 1 2)) s5,
  .p (.mv g5) s6,
  .gp g6 true (.mv g0) s7,
  .gp g6 true (.bin .or g7 (kc (.tc (.sc (.int .u8 32)))) (G2 62 1 5)) s8,
  .gp g6 true (.bin .leq g8 (kc (.tc (.sc (.int .u8 122)))) (G2 62 1 6)) s9,
  .p (.pk g6 g9 (kc (.tc (.sc (.bool false))))) s10,
  .p (.mv g10) s11,
  .gp g11 false (.mv g0) s12,
  .gp g11 false (.bin .eql g12 (kc (.tc (.sc (.int .u8 95)))) (G2 62 1 10)) s13,
  .p (.pk g11 (kc (.tc (.sc (.bool true)))) g13) s14,
  .p (.mv g14) s2])
 .ret)),
 [.tmp g2]⟩
theorem ff62_ok : compF SBase 62 = ff62 := by kernel_rfl
noncomputable def ff63 : FF := .t2 ⟨9,
 (.seq (.reg [.p (.mv (kc (.tc (.sc (.bool false))))) s2])
 (.seq (.reg [.p (.mv g0) s3,
  .p (.bin .geq g3 (kc (.tc (.sc (.int .u8 48)))) (G2 63 1 1)) s4,
  .p (.mv g4) s5,
  .gp g5 true (.mv g0) s6,
  .gp g5 true (.bin .leq g6 (kc (.tc (.sc (.int .u8 57)))) (G2 63 1 4)) s7,
  .p (.pk g5 g7 (kc (.tc (.sc (.bool false))))) s8,
  .p (.mv g8) s2])
 .ret)),
 [.tmp g2]⟩
theorem ff63_ok : compF SBase 63 = ff63 := by kernel_rfl
noncomputable def ff64 : FF := .t2 ⟨8,
 (.seq (.reg [.p (.mv (kc (.tc (.sc (.bool false))))) s4])
 (.seq (.reg [.p (.mv g0) s5,
  .p (.mv g1) s6,
  .p (.call 96 [g5, g6] (G2 64 1 2)) s7,
  .p (.mv g7) s4])
 .ret)),
 [.tmp g4]⟩
theorem ff64_ok : compF SBase 64 = ff64 := by kernel_rfl
noncomputable def ff96 : FF := .t2 ⟨18,
 (.seq (.reg [.p (.mv (kc (.tc (.sc (.bool false))))) s4])
 (.seq (.reg [.p (.mv g0) s5,
  .p (.ls g5 (G2 96 1 1)) s6,
  .p (.mv g1) s7,
  .p (.ls g7 (G2 96 1 3)) s8,
  .p (.bin .geq g6 g8 (G2 96 1 4)) s9,
  .p (.mv g9) s10,
  .gp g10 true (.mv g0) s11,
  .gp g10 true (.mv g1) s12,
  .gp g10 true (.ls g12 (G2 96 1 8)) s13,
  .gp g10 true (.ss g11 none (some g13) none (G2 96 1 9)) s14,
  .gp g10 true (.mv g1) s15,
  .gp g10 true (.bin .eql g14 g15 (G2 96 1 11)) s16,
  .p (.pk g10 g16 (kc (.tc (.sc (.bool false))))) s17,
  .p (.mv g17) s4])
 .ret)),
 [.tmp g4]⟩
theorem ff96_ok : compF SBase 96 = ff96 := by kernel_rfl
noncomputable def ff65 : FF := .t2 ⟨44,
 (.seq (.regD (E2.dec 44) (regAt XP 65 0) [0, 0, 2, 6, 14, 0, 0, 0, 0, 256, 768, 1792, 0, 4096, 12288, 28672, 0, 65536, 196608, 458752, 1044480, 2093056, 4194272, 8388576, 16777214, 33554431, 67108863, 134217727] [.mk .none .yes (.mv g0) (.mv g0) (some s8),
  .mk .none .yes (.mv g0) (.mv g0) (some s9),
  .mk .none .yes (.nc g9 (G2 65 0 2)) (.nc g9 (G2 65 0 2)) (some s10),
  .mk .none .yes (.fa 4 g10) (.fa 4 g10) (some s11),
  .mk .none .yes (.ld false 1 g11) (.ld false 1 g11) (some s12),
  .mk .none .yes (.mv g1) (.mv g1) (some s13),
  .mk .none .yes (.mv g2) (.mv g2) (some s14),
  .mk .none .yes (.mv g3) (.mv g3) (some s15),
  .mk .none .yes (.mv g0) (.mv g0) (some s16),
  .mk .none .yes (.nc g16 (G2 65 0 9)) (.nc g16 (G2 65 0 9)) (some s17),
  .mk .none .yes (.fa 2 g17) (.fa 2 g17) (some s18),
  .mk .none .yes (.ld false 1 g18) (.ld false 1 g18) (some s19),
  .mk .none .yes (.mv g0) (.mv g0) (some s20),
  .mk .none .yes (.nc g20 (G2 65 0 13)) (.nc g20 (G2 65 0 13)) (some s21),
  .mk .none .yes (.fa 1 g21) (.fa 1 g21) (some s22),
  .mk .none .yes (.ld false 1 g22) (.ld false 1 g22) (some s23),
  .mk .none .yes (.mv g0) (.mv g0) (some s24),
  .mk .none .yes (.nc g24 (G2 65 0 17)) (.nc g24 (G2 65 0 17)) (some s25),
  .mk .none .yes (.fa 3 g25) (.fa 3 g25) (some s26),
  .mk .none .yes (.ld false 1 g26) (.ld false 1 g26) (some s27),
  .mk .none .yes (.bin .sub g23 g27 (G2 65 0 20)) (.bin .sub g23 g27 (G2 65 0 20)) (some s28),
  .mk .none .yes (.bin .add g28 (kc (.tc (.sc (.int .i64 1)))) (G2 65 0 21)) (.bin .add g28 (kc (.tc (.sc (.int .i64 1)))) (G2 65 0 21)) (some s29),
  .mk .none .yes (.bd [(.tc (.sc (.int .u8 0))), (.tc (.sc (.string ⟨#[]⟩))), (.tc (.sc (.int .i64 0))), (.tc (.sc (.int .i64 0))), (.tc (.sc (.int .i64 0)))] [(.mk 0 1 g13), (.mk 1 1 g14), (.mk 2 1 g15), (.mk 3 1 g19), (.mk 4 1 g29)] (G2 65 0 22)) (.bd [(.tc (.sc (.int .u8 0))), (.tc (.sc (.string ⟨#[]⟩))), (.tc (.sc (.int .i64 0))), (.tc (.sc (.int .i64 0))), (.tc (.sc (.int .i64 0)))] [(.mk 0 1 g13), (.mk 1 1 g14), (.mk 2 1 g15), (.mk 3 1 g19), (.mk 4 1 g29)] (G2 65 0 22)) (some s30),
  .mk .none .yes (.bt 5 [[(.tc (.sc (.int .u8 0))), (.tc (.sc (.string ⟨#[]⟩))), (.tc (.sc (.int .i64 0))), (.tc (.sc (.int .i64 0))), (.tc (.sc (.int .i64 0)))]] [(.mk 0 5 g30)] (G2 65 0 23)) (.bs 5 1 [[(.tc (.sc (.int .u8 0))), (.tc (.sc (.string ⟨#[]⟩))), (.tc (.sc (.int .i64 0))), (.tc (.sc (.int .i64 0))), (.tc (.sc (.int .i64 0)))]] [(.mk 0 5 g30)] (G2 65 0 23)) (some s31),
  .mk .none .no (.ap 5 48 g12 g31) (.ap 5 48 g12 g31) (some s32),
  .mk .none .yes (.nc g8 (G2 65 0 25)) (.nc g8 (G2 65 0 25)) (some s33),
  .mk .none .yes (.fa 4 g33) (.fa 4 g33) (some s34),
  .mk .none .no (.st 1 g34 g32 (G2 65 0 27)) (.st 1 g34 g32 (G2 65 0 27)) none])
 (.reg [.p (.mv g0) s35,
  .p (.nc g35 (G2 65 1 1)) s36,
  .p (.fa 1 g36) s37,
  .p (.ld false 1 g37) s38,
  .p (.mv g2) s39,
  .p (.ls g39 (G2 65 1 5)) s40,
  .p (.bin .add g38 g40 (G2 65 1 6)) s41,
  .p (.nc g35 (G2 65 1 7)) s42,
  .p (.fa 1 g42) s43,
  .n (.st 1 g43 g41 (G2 65 1 9))])),
 []⟩
theorem ff65_ok : compF SBase 65 = ff65 := by kernel_rfl
noncomputable def ff66 : FF := .t2 ⟨8,
 (.seq (.reg [.p (.mv (kc (.tc (.sc (.int .i64 0))))) s4])
 (.seq (.reg [.p (.mv g0) s5,
  .p (.mv g1) s6,
  .p (.call 97 [g5, g6] (G2 66 1 2)) s7,
  .p (.mv g7) s4])
 .ret)),
 [.tmp g4]⟩
theorem ff66_ok : compF SBase 66 = ff66 := by kernel_rfl
noncomputable def ff97 : FF := .t2 ⟨8,
 (.seq (.reg [.p (.mv (kc (.tc (.sc (.int .i64 0))))) s4])
 (.seq (.reg [.p (.mv g0) s5,
  .p (.mv g1) s6,
  .p (.xi [g5, g6]) s7,
  .p (.mv g7) s4])
 .ret)),
 [.tmp g4]⟩
theorem ff97_ok : compF SBase 97 = ff97 := by kernel_rfl
noncomputable def ff67 : FF := .t2 ⟨45,
 (.seq (.seq (.reg [.p (.mv g0) s6,
  .p (.nc g6 (G2 67 0 1)) s7,
  .p (.fa 5 g7) s8,
  .p (.ld false 1 g8) s9,
  .p (.len g9 (G2 67 0 4)) s10,
  .p (.bin .lss g10 (kc (.tc (.sc (.int .i64 100)))) (G2 67 0 5)) s11])
 (.cond g11 (.regD (E2.dec 45) (regAt XP 67 1) [0, 0, 2, 6, 14, 0, 32, 96, 224, 0, 512, 1536, 3584, 0, 8192, 24576, 57344, 130560, 261632, 0, 1048544, 2097120, 4194302, 8388607, 16777215, 33554431] [.mk .none .yes (.mv g0) (.mv g0) (some s12),
  .mk .none .yes (.mv g0) (.mv g0) (some s13),
  .mk .none .yes (.nc g13 (G2 67 1 2)) (.nc g13 (G2 67 1 2)) (some s14),
  .mk .none .yes (.fa 5 g14) (.fa 5 g14) (some s15),
  .mk .none .yes (.ld false 1 g15) (.ld false 1 g15) (some s16),
  .mk .none .yes (.mv g0) (.mv g0) (some s17),
  .mk .none .yes (.nc g17 (G2 67 1 6)) (.nc g17 (G2 67 1 6)) (some s18),
  .mk .none .yes (.fa 2 g18) (.fa 2 g18) (some s19),
  .mk .none .yes (.ld false 1 g19) (.ld false 1 g19) (some s20),
  .mk .none .yes (.mv g0) (.mv g0) (some s21),
  .mk .none .yes (.nc g21 (G2 67 1 10)) (.nc g21 (G2 67 1 10)) (some s22),
  .mk .none .yes (.fa 1 g22) (.fa 1 g22) (some s23),
  .mk .none .yes (.ld false 1 g23) (.ld false 1 g23) (some s24),
  .mk .none .yes (.mv g0) (.mv g0) (some s25),
  .mk .none .yes (.nc g25 (G2 67 1 14)) (.nc g25 (G2 67 1 14)) (some s26),
  .mk .none .yes (.fa 3 g26) (.fa 3 g26) (some s27),
  .mk .none .yes (.ld false 1 g27) (.ld false 1 g27) (some s28),
  .mk .none .yes (.bin .sub g24 g28 (G2 67 1 17)) (.bin .sub g24 g28 (G2 67 1 17)) (some s29),
  .mk .none .yes (.bin .add g29 (kc (.tc (.sc (.int .i64 1)))) (G2 67 1 18)) (.bin .add g29 (kc (.tc (.sc (.int .i64 1)))) (G2 67 1 18)) (some s30),
  .mk .none .yes (.mv g1) (.mv g1) (some s31),
  .mk .none .yes (.bd [(.tc (.sc (.int .i64 0))), (.tc (.sc (.int .i64 0))), (.tc (.sc (.int .i64 0)))] [(.mk 0 1 g20), (.mk 1 1 g30), (.mk 2 1 g31)] (G2 67 1 20)) (.bd [(.tc (.sc (.int .i64 0))), (.tc (.sc (.int .i64 0))), (.tc (.sc (.int .i64 0)))] [(.mk 0 1 g20), (.mk 1 1 g30), (.mk 2 1 g31)] (G2 67 1 20)) (some s32),
  .mk .none .yes (.bt 3 [[(.tc (.sc (.int .i64 0))), (.tc (.sc (.int .i64 0))), (.tc (.sc (.int .i64 0)))]] [(.mk 0 3 g32)] (G2 67 1 21)) (.bs 3 1 [[(.tc (.sc (.int .i64 0))), (.tc (.sc (.int .i64 0))), (.tc (.sc (.int .i64 0)))]] [(.mk 0 3 g32)] (G2 67 1 21)) (some s33),
  .mk .none .no (.ap 3 24 g16 g33) (.ap 3 24 g16 g33) (some s34),
  .mk .none .yes (.nc g12 (G2 67 1 23)) (.nc g12 (G2 67 1 23)) (some s35),
  .mk .none .yes (.fa 5 g35) (.fa 5 g35) (some s36),
  .mk .none .no (.st 1 g36 g34 (G2 67 1 25)) (.st 1 g36 g34 (G2 67 1 25)) none])
 .skip))
 (.reg [.p (.mv g0) s37,
  .p (.nc g37 (G2 67 2 1)) s38,
  .p (.fa 1 g38) s39,
  .p (.ld false 1 g39) s40,
  .p (.mv g2) s41,
  .p (.bin .add g40 g41 (G2 67 2 5)) s42,
  .p (.nc g37 (G2 67 2 6)) s43,
  .p (.fa 1 g43) s44,
  .n (.st 1 g44 g42 (G2 67 2 8))])),
 []⟩
theorem ff67_ok : compF SBase 67 = ff67 := by kernel_rfl
noncomputable def ff68 : FF := .t2 ⟨58,
 (.seq (.reg [.p (.mv (kc (.tc (.sc (.string ⟨#[]⟩))))) s4])
 (.seq (.reg [.p (.mv g0) s6,
  .p (.nc g6 (G2 68 1 1)) s7,
  .p (.fa 1 g7) s8,
  .p (.ld false 1 g8) s9,
  .p (.mv g9) s5])
 (.seq (.block 0 (.loop 4294967296 (.seq (.seq (.reg [.p (.mv g5) s10,
  .p (.mv g0) s11,
  .p (.nc g11 (G2 68 2 2)) s12,
  .p (.fa 0 g12) s13,
  .p (.ld false 1 g13) s14,
  .p (.ls g14 (G2 68 2 5)) s15,
  .p (.bin .lss g10 g15 (G2 68 2 6)) s16,
  .p (.mv g16) s17,
  .gp g17 true (.mv g0) s18,
  .gp g17 true (.nc g18 (G2 68 2 9)) s19,
  .gp g17 true (.fa 0 g19) s20,
  .gp g17 true (.ld false 1 g20) s21,
  .gp g17 true (.mv g5) s22,
  .gp g17 true (.ix g21 g22 (G2 68 2 13)) s23,
  .gp g17 true (.call 62 [g23] (G2 68 2 14)) s24,
  .gp g17 true (.mv g24) s25,
  .gp g25 false (.mv g0) s26,
  .gp g25 false (.nc g26 (G2 68 2 17)) s27,
  .gp g25 false (.fa 0 g27) s28,
  .gp g25 false (.ld false 1 g28) s29,
  .gp g25 false (.mv g5) s30,
  .gp g25 false (.ix g29 g30 (G2 68 2 21)) s31,
  .gp g25 false (.call 63 [g31] (G2 68 2 22)) s32,
  .gp g17 true (.pk g25 (kc (.tc (.sc (.bool true)))) g32) s33,
  .gp g17 true (.mv g33) s34,
  .gp g34 false (.mv g1) s35,
  .gp g34 false (.mv g0) s36,
  .gp g34 false (.nc g36 (G2 68 2 27)) s37,
  .gp g34 false (.fa 0 g37) s38,
  .gp g34 false (.ld false 1 g38) s39,
  .gp g34 false (.mv g5) s40,
  .gp g34 false (.ix g39 g40 (G2 68 2 31)) s41,
  .gp g34 false (.call 66 [g35, g41] (G2 68 2 32)) s42,
  .gp g34 false (.bin .geq g42 (kc (.tc (.sc (.int .i64 0)))) (G2 68 2 33)) s43,
  .gp g17 true (.pk g34 (kc (.tc (.sc (.bool true)))) g43) s44,
  .p (.pk g17 g44 (kc (.tc (.sc (.bool false))))) s45])
 (.cond g45 .skip
 (.exit 0)))
 (.block 1 (.reg [.p (.mv g5) s46,
  .p (.bin .add g46 (kc (.tc (.sc (.int .i64 1)))) (G2 68 3 1)) s47,
  .p (.mv g47) s5])))))
 (.seq (.regD (E2.dec 58) (regAt XP 68 4) [0, 1, 3, 7, 0, 16, 48, 112, 0, 511, 1023] [.mk .none .yes (.mv g0) (.mv g0) (some s48),
  .mk .none .yes (.nc g48 (G2 68 4 1)) (.nc g48 (G2 68 4 1)) (some s49),
  .mk .none .yes (.fa 0 g49) (.fa 0 g49) (some s50),
  .mk .none .yes (.ld false 1 g50) (.ld false 1 g50) (some s51),
  .mk .none .yes (.mv g0) (.mv g0) (some s52),
  .mk .none .yes (.nc g52 (G2 68 4 5)) (.nc g52 (G2 68 4 5)) (some s53),
  .mk .none .yes (.fa 1 g53) (.fa 1 g53) (some s54),
  .mk .none .yes (.ld false 1 g54) (.ld false 1 g54) (some s55),
  .mk .none .yes (.mv g5) (.mv g5) (some s56),
  .mk .none .yes (.ss g51 (some g55) (some g56) none (G2 68 4 9)) (.ss g51 (some g55) (some g56) none (G2 68 4 9)) (some s57),
  .mk .none .yes (.mv g57) (.mv g57) (some s4)])
 .ret)))),
 [.tmp g4]⟩
theorem ff68_ok : compF SBase 68 = ff68 := by kernel_rfl
noncomputable def ff69 : FF := .t2 ⟨22,
 (.seq (.reg [.p (.mv g1) s7,
  .p (.call 98 [g7] (G2 69 0 1)) s8,
  .p (.mv g8) s6,
  .p (.ex g6 0) s9,
  .p (.ex g6 1) s10,
  .p (.mv g9) s4,
  .p (.mv g10) s5])
 (.seq (.reg [.p (.mv g5) s11,
  .p (.bin .neq g11 (kc (.tc (.sc (.int .i64 0)))) (G2 69 1 1)) s12])
 (.cond g12 (.reg [.p (.mv g0) s13,
  .p (.mv g5) s14,
  .p (.mv g1) s15,
  .p (.ls g15 (G2 69 2 3)) s16,
  .p (.call 67 [g13, g14, g16] (G2 69 2 4)) s17])
 (.reg [.p (.mv g0) s18,
  .p (.mv g1) s19,
  .p (.mv g4) s20,
  .p (.call 65 [g18, (kc (.tc (.sc (.int .u8 2)))), g19, g20] (G2 69 3 3)) s21])))),
 []⟩
theorem ff69_ok : compF SBase 69 = ff69 := by kernel_rfl
noncomputable def ff98 : FF := .t2 ⟨50,
 (.seq (.reg [.p (.mv (kc (.tc (.sc (.int .i64 0))))) s2,
  .p (.mv (kc (.tc (.sc (.int .i64 0))))) s3])
 (.seq (.reg [.p (.mv (kc (.tc (.sc (.int .i64 10))))) s4])
 (.seq (.seq (.reg [.p (.mv g0) s9,
  .p (.ls g9 (G2 98 2 1)) s10,
  .p (.bin .gtr g10 (kc (.tc (.sc (.int .i64 1)))) (G2 98 2 2)) s11,
  .p (.mv g11) s12,
  .gp g12 true (.mv g0) s13,
  .gp g12 true (.ix g13 (kc (.tc (.sc (.int .i64 0)))) (G2 98 2 5)) s14,
  .gp g12 true (.bin .eql g14 (kc (.tc (.sc (.int .u8 48)))) (G2 98 2 6)) s15,
  .p (.pk g12 g15 (kc (.tc (.sc (.bool false))))) s16,
  .p (.mv g16) s17,
  .gp g17 true (.mv g0) s18,
  .gp g17 true (.ix g18 (kc (.tc (.sc (.int .i64 1)))) (G2 98 2 10)) s19,
  .gp g17 true (.bin .or g19 (kc (.tc (.sc (.int .u8 32)))) (G2 98 2 11)) s20,
  .gp g17 true (.bin .eql g20 (kc (.tc (.sc (.int .u8 120)))) (G2 98 2 12)) s21,
  .p (.pk g17 g21 (kc (.tc (.sc (.bool false))))) s22])
 (.cond g22 (.regD (E2.dec 50) (regAt XP 98 3) [0, 1, 0, 7] [.mk .none .yes (.mv g0) (.mv g0) (some s23),
  .mk .none .yes (.ss g23 (some (kc (.tc (.sc (.int .i64 2))))) none none (G2 98 3 1)) (.ss g23 (some (kc (.tc (.sc (.int .i64 2))))) none none (G2 98 3 1)) (some s24),
  .mk .none .yes (.mv (kc (.tc (.sc (.int .i64 16))))) (.mv (kc (.tc (.sc (.int .i64 16))))) (some s4),
  .mk .none .yes (.mv g24) (.mv g24) (some s0)])
 .skip))
 (.seq (.reg [.p (.mv (kc (.tc (.sc (.int .i64 0))))) s5,
  .p (.mv (kc (.tc (.sc (.int .i64 0))))) s6])
 (.seq (.seq (.reg [.p (.mv g0) s25,
  .p (.bin .eql g25 (kc (.tc (.sc (.string ⟨#[]⟩)))) (G2 98 5 1)) s26])
 (.cond g26 (.reg [.p (.mv (kc (.tc (.sc (.int .i64 8))))) s6])
 .skip))
 (.seq (.seq (.reg [.p (.mv g0) s27,
  .p (.ls g27 (G2 98 7 1)) s28,
  .p (.mv (kc (.tc (.sc (.int .i64 0))))) s29])
 (.block 0 (.loop 4294967296 (.seq (.reg [.p (.bin .lss g29 g28 (G2 98 8 0)) s30])
 (.seq (.cond g30 .skip
 (.exit 0))
 (.seq (.block 1 (.seq (.reg [.p (.mv g29) s31,
  .p (.mv g31) s7])
 (.seq (.reg [.p (.mv g0) s32,
  .p (.mv g7) s33,
  .p (.ix g32 g33 (G2 98 10 2)) s34,
  .p (.call 109 [g34] (G2 98 10 3)) s35,
  .p (.mv g35) s8])
 (.seq (.seq (.reg [.p (.mv g8) s36,
  .p (.mv g4) s37,
  .p (.bin .geq g36 g37 (G2 98 11 2)) s38])
 (.cond g38 (.seq (.reg [.p (.mv (kc (.tc (.sc (.int .i64 0))))) s2,
  .p (.mv (kc (.tc (.sc (.int .i64 8))))) s3])
 .ret)
 .skip))
 (.reg [.p (.mv g5) s39,
  .p (.mv g4) s40,
  .p (.bin .mul g39 g40 (G2 98 13 2)) s41,
  .p (.mv g8) s42,
  .p (.bin .add g41 g42 (G2 98 13 4)) s43,
  .p (.gen (G2 98 13 5)) s44,
  .p (.mv g44) s5])))))
 (.reg [.p (.bin .add g29 (kc (.tc (.sc (.int .i64 1)))) (G2 98 14 0)) s45,
  .p (.mv g45) s29])))))))
 (.seq (.seq (.reg [.p (.mv g5) s46,
  .p (.bin .gtr g46 (kc (.tc (.sc (.int .i64 1099511627776)))) (G2 98 15 1)) s47])
 (.cond g47 (.seq (.reg [.p (.mv (kc (.tc (.sc (.int .i64 0))))) s2,
  .p (.mv (kc (.tc (.sc (.int .i64 6))))) s3])
 .ret)
 .skip))
 (.seq (.reg [.p (.mv g5) s48,
  .p (.mv g6) s49,
  .p (.mv g48) s2,
  .p (.mv g49) s3])
 .ret)))))))),
 [.tmp g2, .tmp g3]⟩
theorem ff98_ok : compF SBase 98 = ff98 := by kernel_rfl
noncomputable def ff109 : FF := .t2 ⟨23,
 (.seq (.reg [.p (.mv (kc (.tc (.sc (.int .i64 0))))) s2])
 (.seq (.block 0 (.seq (.reg [.p (.mv g0) s4,
  .p (.call 63 [g4] (G2 109 1 1)) s5,
  .p (.mv g5) s3])
 (.cond g3 (.seq (.reg [.p (.mv g0) s6,
  .p (.bin .sub g6 (kc (.tc (.sc (.int .u8 48)))) (G2 109 2 1)) s7,
  .p (.cv .i64 g7 (G2 109 2 2)) s8,
  .p (.mv g8) s2])
 .ret)
 (.seq (.reg [.p (.mv g0) s10,
  .p (.bin .or g10 (kc (.tc (.sc (.int .u8 32)))) (G2 109 3 1)) s11,
  .p (.bin .geq g11 (kc (.tc (.sc (.int .u8 97)))) (G2 109 3 2)) s12,
  .p (.mv g12) s13,
  .gp g13 true (.mv g0) s14,
  .gp g13 true (.bin .or g14 (kc (.tc (.sc (.int .u8 32)))) (G2 109 3 5)) s15,
  .gp g13 true (.bin .leq g15 (kc (.tc (.sc (.int .u8 102)))) (G2 109 3 6)) s16,
  .p (.pk g13 g16 (kc (.tc (.sc (.bool false))))) s17,
  .p (.mv g17) s9])
 (.cond g9 (.seq (.reg [.p (.mv g0) s18,
  .p (.bin .or g18 (kc (.tc (.sc (.int .u8 32)))) (G2 109 4 1)) s19,
  .p (.bin .sub g19 (kc (.tc (.sc (.int .u8 97)))) (G2 109 4 2)) s20,
  .p (.cv .i64 g20 (G2 109 4 3)) s21,
  .p (.bin .add g21 (kc (.tc (.sc (.int .i64 10)))) (G2 109 4 4)) s22,
  .p (.mv g22) s2])
 .ret)
 .skip)))))
 (.seq (.reg [.p (.mv (kc (.tc (.sc (.int .i64 16))))) s2])
 .ret))),
 [.tmp g2]⟩
theorem ff109_ok : compF SBase 109 = ff109 := by kernel_rfl
noncomputable def ff9 : FF := .t2 ⟨50,
 (.seq (.reg [.p (.mv (kc (.tc (.sc (.bool false))))) s0])
 (.seq (.reg [.p (.call 8 [(kc (.tc (.sc (.string ⟨#[114, 49, 61, 97, 100, 100, 40, 114, 50, 44, 35, 35, 48, 120, 49, 70, 41, 47, 47, 120]⟩))))] (G2 9 1 0)) s4,
  .p (.mv g4) s3,
  .p (.ex g3 0) s5,
  .p (.ex g3 1) s6,
  .p (.mv g5) s1,
  .p (.mv g6) s2])
 (.seq (.reg [.p (.mv g1) s7,
  .p (.len g7 (G2 9 2 1)) s8,
  .p (.bin .eql g8 (kc (.tc (.sc (.int .i64 10)))) (G2 9 2 2)) s9,
  .p (.mv g9) s10,
  .gp g10 true (.mv g2) s11,
  .gp g10 true (.len g11 (G2 9 2 5)) s12,
  .gp g10 true (.bin .eql g12 (kc (.tc (.sc (.int .i64 0)))) (G2 9 2 6)) s13,
  .p (.pk g10 g13 (kc (.tc (.sc (.bool false))))) s14,
  .p (.mv g14) s15,
  .gp g15 true (.mv g1) s16,
  .gp g15 true (.ia 5 g16 (kc (.tc (.sc (.int .i64 0)))) (G2 9 2 10)) s17,
  .gp g15 true (.fa 1 g17) s18,
  .gp g15 true (.ld false 1 g18) s19,
  .gp g15 true (.bin .eql g19 (kc (.tc (.sc (.string ⟨#[114, 49]⟩)))) (G2 9 2 13)) s20,
  .p (.pk g15 g20 (kc (.tc (.sc (.bool false))))) s21,
  .p (.mv g21) s22,
  .gp g22 true (.mv g1) s23,
  .gp g22 true (.ia 5 g23 (kc (.tc (.sc (.int .i64 2)))) (G2 9 2 17)) s24,
  .gp g22 true (.fa 1 g24) s25,
  .gp g22 true (.ld false 1 g25) s26,
  .gp g22 true (.bin .eql g26 (kc (.tc (.sc (.string ⟨#[97, 100, 100]⟩)))) (G2 9 2 20)) s27,
  .p (.pk g22 g27 (kc (.tc (.sc (.bool false))))) s28,
  .p (.mv g28) s29,
  .gp g29 true (.mv g1) s30,
  .gp g29 true (.ia 5 g30 (kc (.tc (.sc (.int .i64 6)))) (G2 9 2 24)) s31,
  .gp g29 true (.fa 1 g31) s32,
  .gp g29 true (.ld false 1 g32) s33,
  .gp g29 true (.bin .eql g33 (kc (.tc (.sc (.string ⟨#[35, 35]⟩)))) (G2 9 2 27)) s34,
  .p (.pk g29 g34 (kc (.tc (.sc (.bool false))))) s35,
  .p (.mv g35) s36,
  .gp g36 true (.mv g1) s37,
  .gp g36 true (.ia 5 g37 (kc (.tc (.sc (.int .i64 7)))) (G2 9 2 31)) s38,
  .gp g36 true (.ld true 5 g38) s39,
  .gp g36 true (.bd [(.tc (.sc (.int .u8 0))), (.tc (.sc (.string ⟨#[]⟩))), (.tc (.sc (.int .i64 0))), (.tc (.sc (.int .i64 0))), (.tc (.sc (.int .i64 0)))] [(.mk 0 1 (kc (.tc (.sc (.int .u8 2))))), (.mk 1 1 (kc (.tc (.sc (.string ⟨#[48, 120, 49, 70]⟩))))), (.mk 2 1 (kc (.tc (.sc (.int .i64 31))))), (.mk 3 1 (kc (.tc (.sc (.int .i64 1))))), (.mk 4 1 (kc (.tc (.sc (.int .i64 13)))))] (G2 9 2 33)) s40,
  .gp g36 true (.eqs .eql [(.mk 0 .int), (.mk 1 .str), (.mk 2 .int), (.mk 3 .int), (.mk 4 .int)] g39 g40 (G2 9 2 34)) s41,
  .p (.pk g36 g41 (kc (.tc (.sc (.bool false))))) s42,
  .p (.mv g42) s43,
  .gp g43 true (.mv g1) s44,
  .gp g43 true (.ia 5 g44 (kc (.tc (.sc (.int .i64 9)))) (G2 9 2 38)) s45,
  .gp g43 true (.fa 0 g45) s46,
  .gp g43 true (.ld false 1 g46) s47,
  .gp g43 true (.bin .eql g47 (kc (.tc (.sc (.int .u8 4)))) (G2 9 2 41)) s48,
  .p (.pk g43 g48 (kc (.tc (.sc (.bool false))))) s49,
  .p (.mv g49) s0])
 .ret))),
 [.tmp g0]⟩
theorem ff9_ok : compF SBase 9 = ff9 := by kernel_rfl

noncomputable def codeLexKnown (f : FuncId) : FF := match f with
  | 3 => ff3
  | 8 => ff8
  | 38 => ff38
  | 62 => ff62
  | 63 => ff63
  | 64 => ff64
  | 96 => ff96
  | 65 => ff65
  | 66 => ff66
  | 97 => ff97
  | 67 => ff67
  | 68 => ff68
  | 69 => ff69
  | 98 => ff98
  | 109 => ff109
  | 9 => ff9
  | _ => .bad
theorem codeLexKnown_ok : ∀ f, codeLexKnown f = .bad ∨ codeLexKnown f = compF SBase f := by
  intro f
  unfold codeLexKnown
  split
  · exact .inr ff3_ok.symm
  · exact .inr ff8_ok.symm
  · exact .inr ff38_ok.symm
  · exact .inr ff62_ok.symm
  · exact .inr ff63_ok.symm
  · exact .inr ff64_ok.symm
  · exact .inr ff96_ok.symm
  · exact .inr ff65_ok.symm
  · exact .inr ff66_ok.symm
  · exact .inr ff97_ok.symm
  · exact .inr ff67_ok.symm
  · exact .inr ff68_ok.symm
  · exact .inr ff69_ok.symm
  · exact .inr ff98_ok.symm
  · exact .inr ff109_ok.symm
  · exact .inr ff9_ok.symm
  · exact .inl rfl
end Go.Proofs.Ytdafainfcegfkaa
