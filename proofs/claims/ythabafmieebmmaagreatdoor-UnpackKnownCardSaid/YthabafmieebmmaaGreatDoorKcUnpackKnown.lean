/- Code made ready ahead, UnpackKnown: each is what the program says. -/
import Derived.Test.YthabafmieebmmaaGreatDoorKcUnpackKnownA
set_option linter.unusedVariables false
set_option maxRecDepth 100000
namespace Go.Proofs.YthabafmieebmmaaGreatDoor
open Go

noncomputable def ff157 : FF := .t3 ⟨220,
 (.seq (.seq (.reg [.p (.mv (h0 g2)) (i0 s25),
  .p (.mv (h0 g1)) (i0 s26),
  .p (.bin .sub (h0 g25) (h0 g26) (G3 157 0 2)) (i0 s27),
  .p (.bin .eql (h0 g27) (kc (.tc (.sc (.int .i64 1)))) (G3 157 0 3)) (i0 s28)])
 (.cond (h0 g28) (.seq (.reg [.p (.mv (h0 g2)) (i0 s29),
  .p (.mv (h0 g29)) (i0 s10)])
 (.seq (.reg [.p (.mv (h0 g3)) (i0 s30),
  .p (.mv (h0 g30)) (i0 s11)])
 (.seq (.block 0 (.loop 4294967296 (.seq (.seq (.reg [.p (.mv (h0 g10)) (i0 s31),
  .p (.mv (h0 g11)) (i0 s32),
  .p (.bin .lss (h0 g31) (h0 g32) (G3 157 3 2)) (i0 s33)])
 (.cond (h0 g33) .skip
 (.exit 0)))
 (.block 1 (.seq (.reg [.p (.mv (h0 g10)) (i0 s34),
  .p (.mv (h0 g11)) (i0 s35),
  .p (.bin .add (h0 g34) (h0 g35) (G3 157 4 2)) (i0 s36),
  .p (.cv .u64 (h0 g36) (G3 157 4 3)) (i0 s37),
  .p (.bin .shr (h0 g37) (kc (.tc (.sc (.int .u64 1)))) (G3 157 4 4)) (i0 s38),
  .p (.cv .i64 (h0 g38) (G3 157 4 5)) (i0 s39),
  .p (.mv (h0 g39)) (i0 s12)])
 (.seq (.regD [0, 0, 0, 6, 14, 0, 0, 96, 224, 511, 1023] [.no, .no, .no, .no, (.rd (.ld true 15 (h0 g43)) (h0 g44)), .no, .no, .no, (.rd (.ld true 15 (h0 g47)) (h0 g48)), .no, .no] [.mk .none .yes (.mv (h0 g4)) (.mv (h0 g4)) (some (i0 s40)),
  .mk .none .yes (.mv (h0 g0)) (.mv (h0 g0)) (some (i0 s41)),
  .mk .none .yes (.mv (h0 g12)) (.mv (h0 g12)) (some (i0 s42)),
  .mk .none .yes (.ia 15 (h0 g41) (h0 g42) (G3 157 5 3)) (.ia 15 (h0 g41) (h0 g42) (G3 157 5 3)) (some (i0 s43)),
  .mk .none .yes (.ld true 15 (h0 g43)) (.ld true 15 (h0 g43)) (some (i0 s44)),
  .mk .none .yes (.mv (h0 g0)) (.mv (h0 g0)) (some (i0 s45)),
  .mk .none .yes (.mv (h0 g1)) (.mv (h0 g1)) (some (i0 s46)),
  .mk .none .yes (.ia 15 (h0 g45) (h0 g46) (G3 157 5 7)) (.ia 15 (h0 g45) (h0 g46) (G3 157 5 7)) (some (i0 s47)),
  .mk .none .yes (.ld true 15 (h0 g47)) (.ld true 15 (h0 g47)) (some (i0 s48)),
  .mk .none (.gen (G3 157 5 9)) (.gen (G3 157 5 9)) (.gen (G3 157 5 9)) (some (i0 s49)),
  .mk .none .yes (.bin .lss (h0 g49) (kc (.tc (.sc (.int .i64 0)))) (G3 157 5 10)) (.bin .lss (h0 g49) (kc (.tc (.sc (.int .i64 0)))) (G3 157 5 10)) (some (i0 s50))])
 (.cond (h0 g50) (.reg [.p (.mv (h0 g12)) (i0 s51),
  .p (.bin .add (h0 g51) (kc (.tc (.sc (.int .i64 1)))) (G3 157 6 1)) (i0 s52),
  .p (.mv (h0 g52)) (i0 s10)])
 (.reg [.p (.mv (h0 g12)) (i0 s53),
  .p (.mv (h0 g53)) (i0 s11)]))))))))
 (.seq (.seq (.reg [.p (.mv (h0 g1)) (i0 s54),
  .p (.mv (h0 g54)) (i0 s13)])
 (.block 2 (.loop 4294967296 (.seq (.seq (.reg [.p (.mv (h0 g13)) (i0 s55),
  .p (.mv (h0 g10)) (i0 s56),
  .p (.bin .sub (h0 g56) (kc (.tc (.sc (.int .i64 1)))) (G3 157 9 2)) (i0 s57),
  .p (.bin .lss (h0 g55) (h0 g57) (G3 157 9 3)) (i0 s58)])
 (.cond (h0 g58) .skip
 (.exit 2)))
 (.seq (.block 3 (.regD [0, 0, 0, 0, 8, 0, 0, 64, 224, 480, 0, 0, 3072, 7168, 16355, 32739, 65535, 131071] [.no, .no, .no, .no, .no, .no, .no, .no, .no, (.rd (.ld true 15 (h1 g5)) (h1 g6)), .no, .no, .no, (.rd (.ld true 15 (h1 g9)) (h1 g10)), .no, .no, .no, .no] [.mk .none .yes (.mv (h0 g0)) (.mv (h0 g0)) (some (i0 s61)),
  .mk .none .yes (.mv (h0 g13)) (.mv (h0 g13)) (some (i0 s62)),
  .mk .none .yes (.mv (h0 g0)) (.mv (h0 g0)) (some (i0 s63)),
  .mk .none .yes (.mv (h0 g13)) (.mv (h0 g13)) (some (i1 s0)),
  .mk .none .yes (.bin .add (h1 g0) (kc (.tc (.sc (.int .i64 1)))) (G3 157 10 4)) (.bin .add (h1 g0) (kc (.tc (.sc (.int .i64 1)))) (G3 157 10 4)) (some (i1 s1)),
  .mk .none .yes (.mv (h0 g0)) (.mv (h0 g0)) (some (i1 s2)),
  .mk .none .yes (.mv (h0 g13)) (.mv (h0 g13)) (some (i1 s3)),
  .mk .none .yes (.bin .add (h1 g3) (kc (.tc (.sc (.int .i64 1)))) (G3 157 10 7)) (.bin .add (h1 g3) (kc (.tc (.sc (.int .i64 1)))) (G3 157 10 7)) (some (i1 s4)),
  .mk .none .yes (.ia 15 (h1 g2) (h1 g4) (G3 157 10 8)) (.ia 15 (h1 g2) (h1 g4) (G3 157 10 8)) (some (i1 s5)),
  .mk .none .yes (.ld true 15 (h1 g5)) (.ld true 15 (h1 g5)) (some (i1 s6)),
  .mk .none .yes (.mv (h0 g0)) (.mv (h0 g0)) (some (i1 s7)),
  .mk .none .yes (.mv (h0 g13)) (.mv (h0 g13)) (some (i1 s8)),
  .mk .none .yes (.ia 15 (h1 g7) (h1 g8) (G3 157 10 12)) (.ia 15 (h1 g7) (h1 g8) (G3 157 10 12)) (some (i1 s9)),
  .mk .none .yes (.ld true 15 (h1 g9)) (.ld true 15 (h1 g9)) (some (i1 s10)),
  .mk .none .yes (.ia 15 (h0 g61) (h0 g62) (G3 157 10 14)) (.ia 15 (h0 g61) (h0 g62) (G3 157 10 14)) (some (i1 s11)),
  .mk .none .no (.st 15 (h1 g11) (h1 g6) (G3 157 10 15)) (.st 15 (h1 g11) (h1 g6) (G3 157 10 15)) none,
  .mk .none .yes (.ia 15 (h0 g63) (h1 g1) (G3 157 10 16)) (.ia 15 (h0 g63) (h1 g1) (G3 157 10 16)) (some (i1 s12)),
  .mk .none .no (.st 15 (h1 g12) (h1 g10) (G3 157 10 17)) (.st 15 (h1 g12) (h1 g10) (G3 157 10 17)) none]))
 (.reg [.p (.mv (h0 g13)) (i0 s59),
  .p (.bin .add (h0 g59) (kc (.tc (.sc (.int .i64 1)))) (G3 157 11 1)) (i0 s60),
  .p (.mv (h0 g60)) (i0 s13)]))))))
 .ret))))
 .skip))
 (.seq (.seq (.reg [.p (.mv (h0 g3)) (i1 s13),
  .p (.mv (h0 g2)) (i1 s14),
  .p (.bin .sub (h1 g13) (h1 g14) (G3 157 12 2)) (i1 s15),
  .p (.bin .eql (h1 g15) (kc (.tc (.sc (.int .i64 1)))) (G3 157 12 3)) (i1 s16)])
 (.cond (h1 g16) (.seq (.reg [.p (.mv (h0 g1)) (i1 s17),
  .p (.mv (h1 g17)) (i0 s14)])
 (.seq (.reg [.p (.mv (h0 g2)) (i1 s18),
  .p (.mv (h1 g18)) (i0 s15)])
 (.seq (.block 4 (.loop 4294967296 (.seq (.seq (.reg [.p (.mv (h0 g14)) (i1 s19),
  .p (.mv (h0 g15)) (i1 s20),
  .p (.bin .lss (h1 g19) (h1 g20) (G3 157 15 2)) (i1 s21)])
 (.cond (h1 g21) .skip
 (.exit 4)))
 (.block 5 (.seq (.reg [.p (.mv (h0 g14)) (i1 s22),
  .p (.mv (h0 g15)) (i1 s23),
  .p (.bin .add (h1 g22) (h1 g23) (G3 157 16 2)) (i1 s24),
  .p (.cv .u64 (h1 g24) (G3 157 16 3)) (i1 s25),
  .p (.bin .shr (h1 g25) (kc (.tc (.sc (.int .u64 1)))) (G3 157 16 4)) (i1 s26),
  .p (.cv .i64 (h1 g26) (G3 157 16 5)) (i1 s27),
  .p (.mv (h1 g27)) (i0 s16)])
 (.seq (.regD [0, 0, 0, 6, 14, 0, 0, 96, 224, 511, 1023, 2047] [.no, .no, .no, .no, (.rd (.ld true 15 (h1 g31)) (h1 g32)), .no, .no, .no, (.rd (.ld true 15 (h1 g35)) (h1 g36)), .no, .no, .no] [.mk .none .yes (.mv (h0 g4)) (.mv (h0 g4)) (some (i1 s28)),
  .mk .none .yes (.mv (h0 g0)) (.mv (h0 g0)) (some (i1 s29)),
  .mk .none .yes (.mv (h0 g2)) (.mv (h0 g2)) (some (i1 s30)),
  .mk .none .yes (.ia 15 (h1 g29) (h1 g30) (G3 157 17 3)) (.ia 15 (h1 g29) (h1 g30) (G3 157 17 3)) (some (i1 s31)),
  .mk .none .yes (.ld true 15 (h1 g31)) (.ld true 15 (h1 g31)) (some (i1 s32)),
  .mk .none .yes (.mv (h0 g0)) (.mv (h0 g0)) (some (i1 s33)),
  .mk .none .yes (.mv (h0 g16)) (.mv (h0 g16)) (some (i1 s34)),
  .mk .none .yes (.ia 15 (h1 g33) (h1 g34) (G3 157 17 7)) (.ia 15 (h1 g33) (h1 g34) (G3 157 17 7)) (some (i1 s35)),
  .mk .none .yes (.ld true 15 (h1 g35)) (.ld true 15 (h1 g35)) (some (i1 s36)),
  .mk .none (.gen (G3 157 17 9)) (.gen (G3 157 17 9)) (.gen (G3 157 17 9)) (some (i1 s37)),
  .mk .none .yes (.bin .lss (h1 g37) (kc (.tc (.sc (.int .i64 0)))) (G3 157 17 10)) (.bin .lss (h1 g37) (kc (.tc (.sc (.int .i64 0)))) (G3 157 17 10)) (some (i1 s38)),
  .mk .none .yes (.nt (h1 g38) (G3 157 17 11)) (.nt (h1 g38) (G3 157 17 11)) (some (i1 s39))])
 (.cond (h1 g39) (.reg [.p (.mv (h0 g16)) (i1 s40),
  .p (.bin .add (h1 g40) (kc (.tc (.sc (.int .i64 1)))) (G3 157 18 1)) (i1 s41),
  .p (.mv (h1 g41)) (i0 s14)])
 (.reg [.p (.mv (h0 g16)) (i1 s42),
  .p (.mv (h1 g42)) (i0 s15)]))))))))
 (.seq (.seq (.reg [.p (.mv (h0 g2)) (i1 s43),
  .p (.mv (h1 g43)) (i0 s17)])
 (.block 6 (.loop 4294967296 (.seq (.seq (.reg [.p (.mv (h0 g17)) (i1 s44),
  .p (.mv (h0 g14)) (i1 s45),
  .p (.bin .gtr (h1 g44) (h1 g45) (G3 157 21 2)) (i1 s46)])
 (.cond (h1 g46) .skip
 (.exit 6)))
 (.seq (.block 7 (.regD [0, 0, 0, 0, 8, 0, 0, 64, 224, 480, 0, 0, 3072, 7168, 16355, 32739, 65535, 131071] [.no, .no, .no, .no, .no, .no, .no, .no, .no, (.rd (.ld true 15 (h1 g57)) (h1 g58)), .no, .no, .no, (.rd (.ld true 15 (h1 g61)) (h1 g62)), .no, .no, .no, .no] [.mk .none .yes (.mv (h0 g0)) (.mv (h0 g0)) (some (i1 s49)),
  .mk .none .yes (.mv (h0 g17)) (.mv (h0 g17)) (some (i1 s50)),
  .mk .none .yes (.mv (h0 g0)) (.mv (h0 g0)) (some (i1 s51)),
  .mk .none .yes (.mv (h0 g17)) (.mv (h0 g17)) (some (i1 s52)),
  .mk .none .yes (.bin .sub (h1 g52) (kc (.tc (.sc (.int .i64 1)))) (G3 157 22 4)) (.bin .sub (h1 g52) (kc (.tc (.sc (.int .i64 1)))) (G3 157 22 4)) (some (i1 s53)),
  .mk .none .yes (.mv (h0 g0)) (.mv (h0 g0)) (some (i1 s54)),
  .mk .none .yes (.mv (h0 g17)) (.mv (h0 g17)) (some (i1 s55)),
  .mk .none .yes (.bin .sub (h1 g55) (kc (.tc (.sc (.int .i64 1)))) (G3 157 22 7)) (.bin .sub (h1 g55) (kc (.tc (.sc (.int .i64 1)))) (G3 157 22 7)) (some (i1 s56)),
  .mk .none .yes (.ia 15 (h1 g54) (h1 g56) (G3 157 22 8)) (.ia 15 (h1 g54) (h1 g56) (G3 157 22 8)) (some (i1 s57)),
  .mk .none .yes (.ld true 15 (h1 g57)) (.ld true 15 (h1 g57)) (some (i1 s58)),
  .mk .none .yes (.mv (h0 g0)) (.mv (h0 g0)) (some (i1 s59)),
  .mk .none .yes (.mv (h0 g17)) (.mv (h0 g17)) (some (i1 s60)),
  .mk .none .yes (.ia 15 (h1 g59) (h1 g60) (G3 157 22 12)) (.ia 15 (h1 g59) (h1 g60) (G3 157 22 12)) (some (i1 s61)),
  .mk .none .yes (.ld true 15 (h1 g61)) (.ld true 15 (h1 g61)) (some (i1 s62)),
  .mk .none .yes (.ia 15 (h1 g49) (h1 g50) (G3 157 22 14)) (.ia 15 (h1 g49) (h1 g50) (G3 157 22 14)) (some (i1 s63)),
  .mk .none .no (.st 15 (h1 g63) (h1 g58) (G3 157 22 15)) (.st 15 (h1 g63) (h1 g58) (G3 157 22 15)) none,
  .mk .none .yes (.ia 15 (h1 g51) (h1 g53) (G3 157 22 16)) (.ia 15 (h1 g51) (h1 g53) (G3 157 22 16)) (some (i2 s0)),
  .mk .none .no (.st 15 (h2 g0) (h1 g62) (G3 157 22 17)) (.st 15 (h2 g0) (h1 g62) (G3 157 22 17)) none]))
 (.reg [.p (.mv (h0 g17)) (i1 s47),
  .p (.bin .sub (h1 g47) (kc (.tc (.sc (.int .i64 1)))) (G3 157 23 1)) (i1 s48),
  .p (.mv (h1 g48)) (i0 s17)]))))))
 .ret))))
 .skip))
 (.seq (.reg [.p (.mv (h0 g1)) (i2 s1),
  .p (.mv (h0 g3)) (i2 s2),
  .p (.bin .add (h2 g1) (h2 g2) (G3 157 24 2)) (i2 s3),
  .p (.cv .u64 (h2 g3) (G3 157 24 3)) (i2 s4),
  .p (.bin .shr (h2 g4) (kc (.tc (.sc (.int .u64 1)))) (G3 157 24 4)) (i2 s5),
  .p (.cv .i64 (h2 g5) (G3 157 24 5)) (i2 s6),
  .p (.mv (h2 g6)) (i0 s18)])
 (.seq (.reg [.p (.mv (h0 g18)) (i2 s7),
  .p (.mv (h0 g2)) (i2 s8),
  .p (.bin .add (h2 g7) (h2 g8) (G3 157 25 2)) (i2 s9),
  .p (.mv (h2 g9)) (i0 s19)])
 (.seq (.reg [.p (.mv (kc (.tc (.sc (.int .i64 0))))) (i0 s20),
  .p (.mv (kc (.tc (.sc (.int .i64 0))))) (i0 s21)])
 (.seq (.seq (.reg [.p (.mv (h0 g2)) (i2 s10),
  .p (.mv (h0 g18)) (i2 s11),
  .p (.bin .gtr (h2 g10) (h2 g11) (G3 157 27 2)) (i2 s12)])
 (.cond (h2 g12) (.seq (.reg [.p (.mv (h0 g19)) (i2 s13),
  .p (.mv (h0 g3)) (i2 s14),
  .p (.bin .sub (h2 g13) (h2 g14) (G3 157 28 2)) (i2 s15),
  .p (.mv (h2 g15)) (i0 s20)])
 (.reg [.p (.mv (h0 g18)) (i2 s16),
  .p (.mv (h2 g16)) (i0 s21)]))
 (.seq (.reg [.p (.mv (h0 g1)) (i2 s17),
  .p (.mv (h2 g17)) (i0 s20)])
 (.reg [.p (.mv (h0 g2)) (i2 s18),
  .p (.mv (h2 g18)) (i0 s21)]))))
 (.seq (.reg [.p (.mv (h0 g19)) (i2 s19),
  .p (.bin .sub (h2 g19) (kc (.tc (.sc (.int .i64 1)))) (G3 157 32 1)) (i2 s20),
  .p (.mv (h2 g20)) (i0 s22)])
 (.seq (.block 8 (.loop 4294967296 (.seq (.seq (.reg [.p (.mv (h0 g20)) (i2 s21),
  .p (.mv (h0 g21)) (i2 s22),
  .p (.bin .lss (h2 g21) (h2 g22) (G3 157 33 2)) (i2 s23)])
 (.cond (h2 g23) .skip
 (.exit 8)))
 (.block 9 (.seq (.reg [.p (.mv (h0 g20)) (i2 s24),
  .p (.mv (h0 g21)) (i2 s25),
  .p (.bin .add (h2 g24) (h2 g25) (G3 157 34 2)) (i2 s26),
  .p (.cv .u64 (h2 g26) (G3 157 34 3)) (i2 s27),
  .p (.bin .shr (h2 g27) (kc (.tc (.sc (.int .u64 1)))) (G3 157 34 4)) (i2 s28),
  .p (.cv .i64 (h2 g28) (G3 157 34 5)) (i2 s29),
  .p (.mv (h2 g29)) (i0 s23)])
 (.seq (.regD [0, 0, 0, 0, 12, 30, 62, 0, 0, 384, 896, 2047, 4095, 8191] [.no, .no, .no, .no, .no, .no, (.rd (.ld true 15 (h2 g35)) (h2 g36)), .no, .no, .no, (.rd (.ld true 15 (h2 g39)) (h2 g40)), .no, .no, .no] [.mk .none .yes (.mv (h0 g4)) (.mv (h0 g4)) (some (i2 s30)),
  .mk .none .yes (.mv (h0 g0)) (.mv (h0 g0)) (some (i2 s31)),
  .mk .none .yes (.mv (h0 g22)) (.mv (h0 g22)) (some (i2 s32)),
  .mk .none .yes (.mv (h0 g23)) (.mv (h0 g23)) (some (i2 s33)),
  .mk .none .yes (.bin .sub (h2 g32) (h2 g33) (G3 157 35 4)) (.bin .sub (h2 g32) (h2 g33) (G3 157 35 4)) (some (i2 s34)),
  .mk .none .yes (.ia 15 (h2 g31) (h2 g34) (G3 157 35 5)) (.ia 15 (h2 g31) (h2 g34) (G3 157 35 5)) (some (i2 s35)),
  .mk .none .yes (.ld true 15 (h2 g35)) (.ld true 15 (h2 g35)) (some (i2 s36)),
  .mk .none .yes (.mv (h0 g0)) (.mv (h0 g0)) (some (i2 s37)),
  .mk .none .yes (.mv (h0 g23)) (.mv (h0 g23)) (some (i2 s38)),
  .mk .none .yes (.ia 15 (h2 g37) (h2 g38) (G3 157 35 9)) (.ia 15 (h2 g37) (h2 g38) (G3 157 35 9)) (some (i2 s39)),
  .mk .none .yes (.ld true 15 (h2 g39)) (.ld true 15 (h2 g39)) (some (i2 s40)),
  .mk .none (.gen (G3 157 35 11)) (.gen (G3 157 35 11)) (.gen (G3 157 35 11)) (some (i2 s41)),
  .mk .none .yes (.bin .lss (h2 g41) (kc (.tc (.sc (.int .i64 0)))) (G3 157 35 12)) (.bin .lss (h2 g41) (kc (.tc (.sc (.int .i64 0)))) (G3 157 35 12)) (some (i2 s42)),
  .mk .none .yes (.nt (h2 g42) (G3 157 35 13)) (.nt (h2 g42) (G3 157 35 13)) (some (i2 s43))])
 (.cond (h2 g43) (.reg [.p (.mv (h0 g23)) (i2 s44),
  .p (.bin .add (h2 g44) (kc (.tc (.sc (.int .i64 1)))) (G3 157 36 1)) (i2 s45),
  .p (.mv (h2 g45)) (i0 s20)])
 (.reg [.p (.mv (h0 g23)) (i2 s46),
  .p (.mv (h2 g46)) (i0 s21)]))))))))
 (.seq (.reg [.p (.mv (h0 g19)) (i2 s47),
  .p (.mv (h0 g20)) (i2 s48),
  .p (.bin .sub (h2 g47) (h2 g48) (G3 157 38 2)) (i2 s49),
  .p (.mv (h2 g49)) (i0 s24)])
 (.seq (.seq (.reg [.p (.mv (h0 g20)) (i2 s50),
  .p (.mv (h0 g2)) (i2 s51),
  .p (.bin .lss (h2 g50) (h2 g51) (G3 157 39 2)) (i2 s52),
  .p (.mv (h2 g52)) (i2 s53),
  .gp (h2 g53) true (.mv (h0 g2)) (i2 s54),
  .gp (h2 g53) true (.mv (h0 g24)) (i2 s55),
  .gp (h2 g53) true (.bin .lss (h2 g54) (h2 g55) (G3 157 39 6)) (i2 s56),
  .p (.pk (h2 g53) (h2 g56) (kc (.tc (.sc (.bool false))))) (i2 s57)])
 (.cond (h2 g57) (.reg [.p (.mv (h0 g0)) (i2 s58),
  .p (.mv (h0 g20)) (i2 s59),
  .p (.mv (h0 g2)) (i2 s60),
  .p (.mv (h0 g24)) (i2 s61),
  .p (.mv (h0 g4)) (i2 s62),
  .p (.call 182 [(h2 g58), (h2 g59), (h2 g60), (h2 g61), (h2 g62)] (G3 157 40 5)) (i2 s63)])
 .skip))
 (.seq (.seq (.reg [.p (.mv (h0 g1)) (i3 s0),
  .p (.mv (h0 g20)) (i3 s1),
  .p (.bin .lss (h3 g0) (h3 g1) (G3 157 41 2)) (i3 s2),
  .p (.mv (h3 g2)) (i3 s3),
  .gp (h3 g3) true (.mv (h0 g20)) (i3 s4),
  .gp (h3 g3) true (.mv (h0 g18)) (i3 s5),
  .gp (h3 g3) true (.bin .lss (h3 g4) (h3 g5) (G3 157 41 6)) (i3 s6),
  .p (.pk (h3 g3) (h3 g6) (kc (.tc (.sc (.bool false))))) (i3 s7)])
 (.cond (h3 g7) (.reg [.p (.mv (h0 g0)) (i3 s8),
  .p (.mv (h0 g1)) (i3 s9),
  .p (.mv (h0 g20)) (i3 s10),
  .p (.mv (h0 g18)) (i3 s11),
  .p (.mv (h0 g4)) (i3 s12),
  .p (.call 157 [(h3 g8), (h3 g9), (h3 g10), (h3 g11), (h3 g12)] (G3 157 42 5)) (i3 s13)])
 .skip))
 (.seq (.reg [.p (.mv (h0 g18)) (i3 s14),
  .p (.mv (h0 g24)) (i3 s15),
  .p (.bin .lss (h3 g14) (h3 g15) (G3 157 43 2)) (i3 s16),
  .p (.mv (h3 g16)) (i3 s17),
  .gp (h3 g17) true (.mv (h0 g24)) (i3 s18),
  .gp (h3 g17) true (.mv (h0 g3)) (i3 s19),
  .gp (h3 g17) true (.bin .lss (h3 g18) (h3 g19) (G3 157 43 6)) (i3 s20),
  .p (.pk (h3 g17) (h3 g20) (kc (.tc (.sc (.bool false))))) (i3 s21)])
 (.cond (h3 g21) (.reg [.p (.mv (h0 g0)) (i3 s22),
  .p (.mv (h0 g18)) (i3 s23),
  .p (.mv (h0 g24)) (i3 s24),
  .p (.mv (h0 g3)) (i3 s25),
  .p (.mv (h0 g4)) (i3 s26),
  .p (.call 157 [(h3 g22), (h3 g23), (h3 g24), (h3 g25), (h3 g26)] (G3 157 44 5)) (i3 s27)])
 .skip))))))))))))),
 []⟩
theorem ff157_ok : compF SBUnpackKnown 157 = ff157 := by kernel_rfl
noncomputable def ff182 : FF := .t2 ⟨58,
 (.seq (.reg [.p (.mv g2) s12,
  .p (.mv g1) s13,
  .p (.bin .sub g12 g13 (G2 182 0 2)) s14,
  .p (.mv g14) s10])
 (.seq (.reg [.p (.mv g3) s15,
  .p (.mv g2) s16,
  .p (.bin .sub g15 g16 (G2 182 1 2)) s17,
  .p (.mv g17) s11])
 (.seq (.block 0 (.loop 4294967296 (.seq (.seq (.reg [.p (.mv g10) s18,
  .p (.mv g11) s19,
  .p (.bin .neq g18 g19 (G2 182 2 2)) s20])
 (.cond g20 .skip
 (.exit 0)))
 (.block 1 (.seq (.reg [.p (.mv g10) s21,
  .p (.mv g11) s22,
  .p (.bin .gtr g21 g22 (G2 182 3 2)) s23])
 (.cond g23 (.seq (.reg [.p (.mv g0) s24,
  .p (.mv g2) s25,
  .p (.mv g10) s26,
  .p (.bin .sub g25 g26 (G2 182 4 3)) s27,
  .p (.mv g2) s28,
  .p (.mv g11) s29,
  .p (.mv g4) s30,
  .p (.call 193 [g24, g27, g28, g29, g30] (G2 182 4 7)) s31])
 (.reg [.p (.mv g10) s32,
  .p (.mv g11) s33,
  .p (.bin .sub g32 g33 (G2 182 5 2)) s34,
  .p (.mv g34) s10]))
 (.seq (.reg [.p (.mv g0) s35,
  .p (.mv g2) s36,
  .p (.mv g10) s37,
  .p (.bin .sub g36 g37 (G2 182 6 3)) s38,
  .p (.mv g2) s39,
  .p (.mv g11) s40,
  .p (.bin .add g39 g40 (G2 182 6 6)) s41,
  .p (.mv g10) s42,
  .p (.bin .sub g41 g42 (G2 182 6 8)) s43,
  .p (.mv g10) s44,
  .p (.mv g4) s45,
  .p (.call 193 [g35, g38, g43, g44, g45] (G2 182 6 11)) s46])
 (.reg [.p (.mv g11) s47,
  .p (.mv g10) s48,
  .p (.bin .sub g47 g48 (G2 182 7 2)) s49,
  .p (.mv g49) s11]))))))))
 (.reg [.p (.mv g0) s50,
  .p (.mv g2) s51,
  .p (.mv g10) s52,
  .p (.bin .sub g51 g52 (G2 182 8 3)) s53,
  .p (.mv g2) s54,
  .p (.mv g10) s55,
  .p (.mv g4) s56,
  .p (.call 193 [g50, g53, g54, g55, g56] (G2 182 8 7)) s57])))),
 []⟩
theorem ff182_ok : compF SBUnpackKnown 182 = ff182 := by kernel_rfl
noncomputable def ff193 : FF := .t2 ⟨38,
 (.seq (.reg [.p (.mv (kc (.tc (.sc (.int .i64 0))))) s10])
 (.block 0 (.loop 4294967296 (.seq (.seq (.reg [.p (.mv g10) s11,
  .p (.mv g3) s12,
  .p (.bin .lss g11 g12 (G2 193 1 2)) s13])
 (.cond g13 .skip
 (.exit 0)))
 (.seq (.block 1 (.regD [0, 0, 0, 6, 0, 0, 0, 96, 0, 0, 0, 1536, 3840, 7936, 0, 0, 0, 98304, 245760, 507904, 1048335, 2096911, 4194303, 8388607] [.no, .no, .no, .no, .no, .no, .no, .no, .no, .no, .no, .no, .no, (.rd (.ld true 15 g28) g29), .no, .no, .no, .no, .no, (.rd (.ld true 15 g34) g35), .no, .no, .no, .no] [.mk .none .yes (.mv g0) (.mv g0) (some s16),
  .mk .none .yes (.mv g1) (.mv g1) (some s17),
  .mk .none .yes (.mv g10) (.mv g10) (some s18),
  .mk .none .yes (.bin .add g17 g18 (G2 193 2 3)) (.bin .add g17 g18 (G2 193 2 3)) (some s19),
  .mk .none .yes (.mv g0) (.mv g0) (some s20),
  .mk .none .yes (.mv g2) (.mv g2) (some s21),
  .mk .none .yes (.mv g10) (.mv g10) (some s22),
  .mk .none .yes (.bin .add g21 g22 (G2 193 2 7)) (.bin .add g21 g22 (G2 193 2 7)) (some s23),
  .mk .none .yes (.mv g0) (.mv g0) (some s24),
  .mk .none .yes (.mv g2) (.mv g2) (some s25),
  .mk .none .yes (.mv g10) (.mv g10) (some s26),
  .mk .none .yes (.bin .add g25 g26 (G2 193 2 11)) (.bin .add g25 g26 (G2 193 2 11)) (some s27),
  .mk .none .yes (.ia 15 g24 g27 (G2 193 2 12)) (.ia 15 g24 g27 (G2 193 2 12)) (some s28),
  .mk .none .yes (.ld true 15 g28) (.ld true 15 g28) (some s29),
  .mk .none .yes (.mv g0) (.mv g0) (some s30),
  .mk .none .yes (.mv g1) (.mv g1) (some s31),
  .mk .none .yes (.mv g10) (.mv g10) (some s32),
  .mk .none .yes (.bin .add g31 g32 (G2 193 2 17)) (.bin .add g31 g32 (G2 193 2 17)) (some s33),
  .mk .none .yes (.ia 15 g30 g33 (G2 193 2 18)) (.ia 15 g30 g33 (G2 193 2 18)) (some s34),
  .mk .none .yes (.ld true 15 g34) (.ld true 15 g34) (some s35),
  .mk .none .yes (.ia 15 g16 g19 (G2 193 2 20)) (.ia 15 g16 g19 (G2 193 2 20)) (some s36),
  .mk .none .no (.st 15 g36 g29 (G2 193 2 21)) (.st 15 g36 g29 (G2 193 2 21)) none,
  .mk .none .yes (.ia 15 g20 g23 (G2 193 2 22)) (.ia 15 g20 g23 (G2 193 2 22)) (some s37),
  .mk .none .no (.st 15 g37 g35 (G2 193 2 23)) (.st 15 g37 g35 (G2 193 2 23)) none]))
 (.reg [.p (.mv g10) s14,
  .p (.bin .add g14 (kc (.tc (.sc (.int .i64 1)))) (G2 193 3 1)) s15,
  .p (.mv g15) s10])))))),
 []⟩
theorem ff193_ok : compF SBUnpackKnown 193 = ff193 := by kernel_rfl
noncomputable def ff62 : FF := .t2 ⟨10,
 (.seq (.reg [.p (.bx 15 g0 (G2 62 0 0)) s2,
  .p (.bx 15 g1 (G2 62 0 1)) s3,
  .p (.mv (kc (.tc (.sc (.int .i64 0))))) s4])
 (.seq (.reg [.p (.fa 0 g2) s5,
  .p (.ld true 4 g5) s6,
  .p (.fa 0 g3) s7,
  .p (.ld true 4 g7) s8,
  .p (.call 63 [g6, g8] (G2 62 1 4)) s9,
  .p (.mv g9) s4])
 .ret)),
 [.tmp g4]⟩
theorem ff62_ok : compF SBUnpackKnown 62 = ff62 := by kernel_rfl
noncomputable def ff63 : FF := .t2 ⟨34,
 (.seq (.reg [.p (.bx 4 g0 (G2 63 0 0)) s2,
  .p (.bx 4 g1 (G2 63 0 1)) s3,
  .p (.mv (kc (.tc (.sc (.int .i64 0))))) s4])
 (.seq (.seq (.reg [.p (.ld true 4 g2) s6,
  .p (.ld true 4 g3) s7,
  .p (.eqs .eql [(.mk 0 .int), (.mk 1 .int), (.mk 2 .int), (.mk 3 .bool)] g6 g7 (G2 63 1 2)) s8])
 (.cond g8 (.seq (.reg [.p (.mv (kc (.tc (.sc (.int .i64 0))))) s4])
 .ret)
 .skip))
 (.seq (.reg [.p (.mv (kc (.tc (.sc (.int .i64 0))))) s5])
 (.seq (.seq (.reg [.p (.fa 3 g2) s9,
  .p (.ld false 1 g9) s10,
  .p (.fa 3 g3) s11,
  .p (.ld false 1 g11) s12,
  .p (.bin .neq g10 g12 (G2 63 4 4)) s13])
 (.cond g13 (.seq (.reg [.p (.mv (kc (.tc (.sc (.int .i64 (-1)))))) s5])
 (.seq (.reg [.p (.fa 3 g2) s14,
  .p (.ld false 1 g14) s15])
 (.cond g15 (.reg [.p (.mv (kc (.tc (.sc (.int .i64 1))))) s5])
 .skip)))
 .skip))
 (.seq (.regD [0, 1, 0, 4, 15, 0, 32, 0, 128, 511, 0, 1024, 0, 4096, 16383, 0, 65535, 131071, 262143] [.no, (.rd (.ld false 1 g16) g17), .no, (.rd (.ld false 1 g18) g19), .no, .no, (.rd (.ld false 1 g21) g22), .no, (.rd (.ld false 1 g23) g24), .no, .no, (.rd (.ld false 1 g26) g27), .no, (.rd (.ld false 1 g28) g29), .no, .no, .no, .no, .no] [.mk .none .yes (.fa 0 g2) (.fa 0 g2) (some s16),
  .mk .none .yes (.ld false 1 g16) (.ld false 1 g16) (some s17),
  .mk .none .yes (.fa 0 g3) (.fa 0 g3) (some s18),
  .mk .none .yes (.ld false 1 g18) (.ld false 1 g18) (some s19),
  .mk .none (.dyn 84 [g17, g19]) (.call 84 [g17, g19] (G2 63 8 4)) (.call 84 [g17, g19] (G2 63 8 4)) (some s20),
  .mk .none .yes (.fa 1 g2) (.fa 1 g2) (some s21),
  .mk .none .yes (.ld false 1 g21) (.ld false 1 g21) (some s22),
  .mk .none .yes (.fa 1 g3) (.fa 1 g3) (some s23),
  .mk .none .yes (.ld false 1 g23) (.ld false 1 g23) (some s24),
  .mk .none (.dyn 119 [g22, g24]) (.call 119 [g22, g24] (G2 63 8 9)) (.call 119 [g22, g24] (G2 63 8 9)) (some s25),
  .mk .none .yes (.fa 2 g2) (.fa 2 g2) (some s26),
  .mk .none .yes (.ld false 1 g26) (.ld false 1 g26) (some s27),
  .mk .none .yes (.fa 2 g3) (.fa 2 g3) (some s28),
  .mk .none .yes (.ld false 1 g28) (.ld false 1 g28) (some s29),
  .mk .none (.dyn 119 [g27, g29]) (.call 119 [g27, g29] (G2 63 8 14)) (.call 119 [g27, g29] (G2 63 8 14)) (some s30),
  .mk .none .yes (.mv g5) (.mv g5) (some s31),
  .mk .none (.gen (G2 63 8 16)) (.bt 1 [[(.tc (.sc (.int .i64 0)))], [(.tc (.sc (.int .i64 0)))], [(.tc (.sc (.int .i64 0)))], [(.tc (.sc (.int .i64 0)))]] [(.mk 0 1 g20), (.mk 1 1 g25), (.mk 2 1 g30), (.mk 3 1 g31)] (G2 63 8 16)) (.bs 1 4 [[(.tc (.sc (.int .i64 0)))], [(.tc (.sc (.int .i64 0)))], [(.tc (.sc (.int .i64 0)))], [(.tc (.sc (.int .i64 0)))]] [(.mk 0 1 g20), (.mk 1 1 g25), (.mk 2 1 g30), (.mk 3 1 g31)] (G2 63 8 16)) (some s32),
  .mk .none (.dyn 83 [g32]) (.call 83 [g32] (G2 63 8 17)) (.call 83 [g32] (G2 63 8 17)) (some s33),
  .mk .none .yes (.mv g33) (.mv g33) (some s4)])
 .ret))))),
 [.tmp g4]⟩
theorem ff63_ok : compF SBUnpackKnown 63 = ff63 := by kernel_rfl
noncomputable def ff84 : FF := .t2 ⟨20,
 (.seq (.reg [.p (.mv (kc (.tc (.sc (.int .i64 0))))) s4])
 (.seq (.reg [.p (.mv g0) s7,
  .p (.call 131 [g7] (G2 84 1 1)) s8,
  .p (.mv g8) s5])
 (.seq (.reg [.p (.mv g1) s9,
  .p (.call 131 [g9] (G2 84 2 1)) s10,
  .p (.mv g10) s6])
 (.seq (.seq (.reg [.p (.mv g5) s11])
 (.cond g11 (.seq (.seq (.reg [.p (.mv g6) s12])
 (.cond g12 (.seq (.reg [.p (.mv (kc (.tc (.sc (.int .i64 0))))) s4])
 .ret)
 .skip))
 (.seq (.reg [.p (.mv (kc (.tc (.sc (.int .i64 (-1)))))) s4])
 .ret))
 .skip))
 (.seq (.seq (.reg [.p (.mv g6) s13])
 (.cond g13 (.seq (.reg [.p (.mv (kc (.tc (.sc (.int .i64 1))))) s4])
 .ret)
 .skip))
 (.seq (.seq (.reg [.p (.mv g0) s14,
  .p (.mv g1) s15,
  .p (.bin .lss g14 g15 (G2 84 9 2)) s16])
 (.cond g16 (.seq (.reg [.p (.mv (kc (.tc (.sc (.int .i64 (-1)))))) s4])
 .ret)
 .skip))
 (.seq (.seq (.reg [.p (.mv g0) s17,
  .p (.mv g1) s18,
  .p (.bin .gtr g17 g18 (G2 84 11 2)) s19])
 (.cond g19 (.seq (.reg [.p (.mv (kc (.tc (.sc (.int .i64 1))))) s4])
 .ret)
 .skip))
 (.seq (.reg [.p (.mv (kc (.tc (.sc (.int .i64 0))))) s4])
 .ret)))))))),
 [.tmp g4]⟩
theorem ff84_ok : compF SBUnpackKnown 84 = ff84 := by kernel_rfl
noncomputable def ff131 : FF := .t2 ⟨6,
 (.seq (.reg [.p (.mv (kc (.tc (.sc (.bool false))))) s2])
 (.seq (.reg [.p (.mv g0) s3,
  .p (.mv g0) s4,
  .p (.bin .neq g3 g4 (G2 131 1 2)) s5,
  .p (.mv g5) s2])
 .ret)),
 [.tmp g2]⟩
theorem ff131_ok : compF SBUnpackKnown 131 = ff131 := by kernel_rfl
noncomputable def ff119 : FF := .t2 ⟨20,
 (.seq (.reg [.p (.mv (kc (.tc (.sc (.int .i64 0))))) s4])
 (.seq (.reg [.p (.mv g0) s7,
  .p (.call 158 [g7] (G2 119 1 1)) s8,
  .p (.mv g8) s5])
 (.seq (.reg [.p (.mv g1) s9,
  .p (.call 158 [g9] (G2 119 2 1)) s10,
  .p (.mv g10) s6])
 (.seq (.seq (.reg [.p (.mv g5) s11])
 (.cond g11 (.seq (.seq (.reg [.p (.mv g6) s12])
 (.cond g12 (.seq (.reg [.p (.mv (kc (.tc (.sc (.int .i64 0))))) s4])
 .ret)
 .skip))
 (.seq (.reg [.p (.mv (kc (.tc (.sc (.int .i64 (-1)))))) s4])
 .ret))
 .skip))
 (.seq (.seq (.reg [.p (.mv g6) s13])
 (.cond g13 (.seq (.reg [.p (.mv (kc (.tc (.sc (.int .i64 1))))) s4])
 .ret)
 .skip))
 (.seq (.seq (.reg [.p (.mv g0) s14,
  .p (.mv g1) s15,
  .p (.bin .lss g14 g15 (G2 119 9 2)) s16])
 (.cond g16 (.seq (.reg [.p (.mv (kc (.tc (.sc (.int .i64 (-1)))))) s4])
 .ret)
 .skip))
 (.seq (.seq (.reg [.p (.mv g0) s17,
  .p (.mv g1) s18,
  .p (.bin .gtr g17 g18 (G2 119 11 2)) s19])
 (.cond g19 (.seq (.reg [.p (.mv (kc (.tc (.sc (.int .i64 1))))) s4])
 .ret)
 .skip))
 (.seq (.reg [.p (.mv (kc (.tc (.sc (.int .i64 0))))) s4])
 .ret)))))))),
 [.tmp g4]⟩
theorem ff119_ok : compF SBUnpackKnown 119 = ff119 := by kernel_rfl
noncomputable def ff158 : FF := .t2 ⟨6,
 (.seq (.reg [.p (.mv (kc (.tc (.sc (.bool false))))) s2])
 (.seq (.reg [.p (.mv g0) s3,
  .p (.mv g0) s4,
  .p (.bin .neq g3 g4 (G2 158 1 2)) s5,
  .p (.mv g5) s2])
 .ret)),
 [.tmp g2]⟩
theorem ff158_ok : compF SBUnpackKnown 158 = ff158 := by kernel_rfl
noncomputable def ff83 : FF := .t2 ⟨18,
 (.seq (.reg [.p (.mv (kc (.tc (.sc (.int .i64 0))))) s2])
 (.seq (.reg [.p (.mv (kc (.tc (.sc (.int .i64 0))))) s3])
 (.seq (.seq (.reg [.p (.mv g0) s6,
  .p (.len g6 (G2 83 2 1)) s7,
  .p (.mv (kc (.tc (.sc (.int .i64 0))))) s8])
 (.block 0 (.loop 4294967296 (.seq (.reg [.p (.bin .lss g8 g7 (G2 83 3 0)) s9])
 (.seq (.cond g9 .skip
 (.exit 0))
 (.seq (.block 1 (.seq (.reg [.p (.ia 1 g6 g8 (G2 83 4 0)) s10,
  .p (.ld false 1 g10) s11,
  .p (.mv g11) s5])
 (.seq (.reg [.p (.mv g5) s12,
  .p (.mv g3) s13,
  .p (.bin .neq g12 g13 (G2 83 5 2)) s14])
 (.cond g14 (.seq (.reg [.p (.mv g5) s15,
  .p (.mv g15) s2])
 .ret)
 .skip))))
 (.reg [.p (.bin .add g8 (kc (.tc (.sc (.int .i64 1)))) (G2 83 7 0)) s16,
  .p (.mv g16) s8])))))))
 (.seq (.reg [.p (.mv g3) s17,
  .p (.mv g17) s2])
 .ret)))),
 [.tmp g2]⟩
theorem ff83_ok : compF SBUnpackKnown 83 = ff83 := by kernel_rfl
noncomputable def ff33 : FF := .t2 ⟨19,
 (.seq (.reg [.p (.mv (kc (.tc (.sc (.slice none 0 0))))) s2])
 (.seq (.reg [.p (.mv (kc (.tc (.sc (.slice none 0 0))))) s3])
 (.seq (.seq (.reg [.p (.mv g0) s6,
  .p (.len g6 (G2 33 2 1)) s7,
  .p (.mv (kc (.tc (.sc (.int .i64 0))))) s8])
 (.block 0 (.loop 4294967296 (.seq (.reg [.p (.bin .lss g8 g7 (G2 33 3 0)) s9])
 (.seq (.cond g9 .skip
 (.exit 0))
 (.seq (.block 1 (.seq (.reg [.p (.ia 15 g6 g8 (G2 33 4 0)) s10,
  .p (.ld true 15 g10) s11,
  .p (.al 15 [(.sc (.int .i64 0)), (.sc (.int .u32 0)), (.sc (.int .u32 0)), (.sc (.bool false)), (.sc (.int .u8 0)), (.sc (.int .u8 0)), (.sc (.int .u8 0)), (.sc (.int .u8 0)), (.sc (.int .u8 0)), (.sc (.int .u8 0)), (.sc (.int .u8 0)), (.sc (.bool false)), (.sc (.bool false)), (.sc (.int .u16 0)), (.sc (.int .i64 0))]) s5,
  .n (.st 15 g5 g11 (G2 33 4 3))])
 (.reg [.p (.mv g3) s12,
  .p (.fa 4 g5) s13,
  .p (.ld true 11 g13) s14,
  .p (.bs 11 1 [[(.tc (.sc (.int .u8 0))), (.tc (.sc (.int .u8 0))), (.tc (.sc (.int .u8 0))), (.tc (.sc (.int .u8 0))), (.tc (.sc (.int .u8 0))), (.tc (.sc (.int .u8 0))), (.tc (.sc (.int .u8 0))), (.tc (.sc (.bool false))), (.tc (.sc (.bool false))), (.tc (.sc (.int .u16 0))), (.tc (.sc (.int .i64 0)))]] [(.mk 0 11 g14)] (G2 33 5 3)) s15,
  .p (.ap 11 24 g12 g15) s16,
  .p (.mv g16) s3])))
 (.reg [.p (.bin .add g8 (kc (.tc (.sc (.int .i64 1)))) (G2 33 6 0)) s17,
  .p (.mv g17) s8])))))))
 (.seq (.reg [.p (.mv g3) s18,
  .p (.mv g18) s2])
 .ret)))),
 [.tmp g2]⟩
theorem ff33_ok : compF SBUnpackKnown 33 = ff33 := by kernel_rfl
noncomputable def ff36 : FF := .t2 ⟨53,
 (.seq (.reg [.p (.bx 5 g0 (G2 36 0 0)) s2,
  .p (.mv (kc (.tc (.sc (.slice none 0 0))))) s4])
 (.seq (.seq (.reg [.p (.mv g1) s8,
  .p (.len g8 (G2 36 1 1)) s9,
  .p (.mv (kc (.tc (.sc (.int .i64 0))))) s10])
 (.block 0 (.loop 4294967296 (.seq (.reg [.p (.bin .lss g10 g9 (G2 36 2 0)) s11])
 (.seq (.cond g11 .skip
 (.exit 0))
 (.seq (.block 1 (.seq (.reg [.p (.mv g10) s12,
  .p (.ia 1 g8 g10 (G2 36 3 1)) s13,
  .p (.ld false 1 g13) s14,
  .p (.mv g12) s5,
  .p (.mv g14) s6])
 (.seq (.reg [.p (.mv (kc (.tc (.sc (.int .u8 1))))) s7])
 (.seq (.block 2 (.seq (.reg [.p (.mv g5) s16,
  .p (.mv g1) s17,
  .p (.len g17 (G2 36 5 2)) s18,
  .p (.bin .sub g18 (kc (.tc (.sc (.int .i64 1)))) (G2 36 5 3)) s19,
  .p (.bin .eql g16 g19 (G2 36 5 4)) s20,
  .p (.mv g20) s21,
  .gp g21 true (.fa 4 g2) s22,
  .gp g21 true (.ld false 1 g22) s23,
  .p (.pk g21 g23 (kc (.tc (.sc (.bool false))))) s24,
  .p (.mv g24) s15])
 (.cond g15 (.reg [.p (.mv (kc (.tc (.sc (.int .u8 0))))) s7])
 (.seq (.reg [.p (.mv g5) s26,
  .p (.mv g1) s27,
  .p (.len g27 (G2 36 7 2)) s28,
  .p (.bin .sub g28 (kc (.tc (.sc (.int .i64 1)))) (G2 36 7 3)) s29,
  .p (.bin .eql g26 g29 (G2 36 7 4)) s30,
  .p (.mv g30) s25])
 (.cond g25 (.reg [.p (.mv (kc (.tc (.sc (.int .u8 3))))) s7])
 (.seq (.seq (.reg [.p (.mv g5) s32,
  .p (.bin .eql g32 (kc (.tc (.sc (.int .i64 0)))) (G2 36 9 1)) s33,
  .p (.mv g33) s34,
  .gp g34 true (.fa 1 g2) s35,
  .gp g34 true (.ld false 1 g35) s36,
  .p (.pk g34 g36 (kc (.tc (.sc (.bool false))))) s37,
  .p (.mv g37) s31])
 (.cond g31 .skip
 (.reg [.p (.mv g5) s38,
  .p (.bin .eql g38 (kc (.tc (.sc (.int .i64 1)))) (G2 36 10 1)) s39,
  .p (.mv g39) s40,
  .gp g40 true (.fa 2 g2) s41,
  .gp g40 true (.ld false 1 g41) s42,
  .p (.pk g40 g42 (kc (.tc (.sc (.bool false))))) s43,
  .p (.mv g43) s31])))
 (.cond g31 (.reg [.p (.mv (kc (.tc (.sc (.int .u8 2))))) s7])
 .skip)))))))
 (.reg [.p (.mv g1) s44,
  .p (.mv g5) s45,
  .p (.mv g6) s46,
  .p (.call 70 [g46] (G2 36 12 3)) s47,
  .p (.mv g7) s48,
  .p (.call 69 [g47, g48] (G2 36 12 5)) s49,
  .p (.ia 1 g44 g45 (G2 36 12 6)) s50,
  .n (.st 1 g50 g49 (G2 36 12 7))])))))
 (.reg [.p (.bin .add g10 (kc (.tc (.sc (.int .i64 1)))) (G2 36 13 0)) s51,
  .p (.mv g51) s10])))))))
 (.seq (.reg [.p (.mv g1) s52,
  .p (.mv g52) s4])
 .ret))),
 [.tmp g4]⟩
theorem ff36_ok : compF SBUnpackKnown 36 = ff36 := by kernel_rfl
noncomputable def ff41 : FF := .t2 ⟨26,
 (.seq (.reg [.p (.mv (kc (.tc (.sc (.bool false))))) s4])
 (.seq (.seq (.reg [.p (.mv g0) s6,
  .p (.len g6 (G2 41 1 1)) s7,
  .p (.mv g1) s8,
  .p (.len g8 (G2 41 1 3)) s9,
  .p (.bin .neq g7 g9 (G2 41 1 4)) s10])
 (.cond g10 (.seq (.reg [.p (.mv (kc (.tc (.sc (.bool false))))) s4])
 .ret)
 .skip))
 (.seq (.seq (.reg [.p (.mv g0) s11,
  .p (.len g11 (G2 41 3 1)) s12,
  .p (.mv (kc (.tc (.sc (.int .i64 0))))) s13])
 (.block 0 (.loop 4294967296 (.seq (.reg [.p (.bin .lss g13 g12 (G2 41 4 0)) s14])
 (.seq (.cond g14 .skip
 (.exit 0))
 (.seq (.block 1 (.seq (.reg [.p (.mv g13) s15,
  .p (.mv g15) s5])
 (.seq (.regD [0, 0, 3, 7, 0, 0, 48, 112, 255] [.no, .no, .no, (.rd (.ld false 1 g18) g19), .no, .no, .no, (.rd (.ld false 1 g22) g23), .no] [.mk .none .yes (.mv g0) (.mv g0) (some s16),
  .mk .none .yes (.mv g5) (.mv g5) (some s17),
  .mk .none .yes (.ia 1 g16 g17 (G2 41 6 2)) (.ia 1 g16 g17 (G2 41 6 2)) (some s18),
  .mk .none .yes (.ld false 1 g18) (.ld false 1 g18) (some s19),
  .mk .none .yes (.mv g1) (.mv g1) (some s20),
  .mk .none .yes (.mv g5) (.mv g5) (some s21),
  .mk .none .yes (.ia 1 g20 g21 (G2 41 6 6)) (.ia 1 g20 g21 (G2 41 6 6)) (some s22),
  .mk .none .yes (.ld false 1 g22) (.ld false 1 g22) (some s23),
  .mk .none .yes (.bin .neq g19 g23 (G2 41 6 8)) (.bin .neq g19 g23 (G2 41 6 8)) (some s24)])
 (.cond g24 (.seq (.reg [.p (.mv (kc (.tc (.sc (.bool false))))) s4])
 .ret)
 .skip))))
 (.reg [.p (.bin .add g13 (kc (.tc (.sc (.int .i64 1)))) (G2 41 8 0)) s25,
  .p (.mv g25) s13])))))))
 (.seq (.reg [.p (.mv (kc (.tc (.sc (.bool true))))) s4])
 .ret)))),
 [.tmp g4]⟩
theorem ff41_ok : compF SBUnpackKnown 41 = ff41 := by kernel_rfl
noncomputable def ff13 : FF := .t2 ⟨38,
 (.seq (.reg [.p (.bx 5 g0 (G2 13 0 0)) s2,
  .p (.bx 5 g1 (G2 13 0 1)) s3,
  .p (.mv (kc (.tc (.sc (.bool false))))) s4])
 (.seq (.reg [.p (.fa 0 g2) s5,
  .p (.ld false 1 g5) s6,
  .p (.fa 0 g3) s7,
  .p (.ld false 1 g7) s8,
  .p (.call 42 [g6, g8] (G2 13 1 4)) s9,
  .p (.mv g9) s10,
  .gp g10 true (.fa 1 g2) s11,
  .gp g10 true (.ld false 1 g11) s12,
  .gp g10 true (.fa 1 g3) s13,
  .gp g10 true (.ld false 1 g13) s14,
  .gp g10 true (.bin .eql g12 g14 (G2 13 1 10)) s15,
  .p (.pk g10 g15 (kc (.tc (.sc (.bool false))))) s16,
  .p (.mv g16) s17,
  .gp g17 true (.fa 2 g2) s18,
  .gp g17 true (.ld false 1 g18) s19,
  .gp g17 true (.fa 2 g3) s20,
  .gp g17 true (.ld false 1 g20) s21,
  .gp g17 true (.bin .eql g19 g21 (G2 13 1 17)) s22,
  .p (.pk g17 g22 (kc (.tc (.sc (.bool false))))) s23,
  .p (.mv g23) s24,
  .gp g24 true (.fa 3 g2) s25,
  .gp g24 true (.ld false 1 g25) s26,
  .gp g24 true (.fa 3 g3) s27,
  .gp g24 true (.ld false 1 g27) s28,
  .gp g24 true (.bin .eql g26 g28 (G2 13 1 24)) s29,
  .p (.pk g24 g29 (kc (.tc (.sc (.bool false))))) s30,
  .p (.mv g30) s31,
  .gp g31 true (.fa 4 g2) s32,
  .gp g31 true (.ld false 1 g32) s33,
  .gp g31 true (.fa 4 g3) s34,
  .gp g31 true (.ld false 1 g34) s35,
  .gp g31 true (.bin .eql g33 g35 (G2 13 1 31)) s36,
  .p (.pk g31 g36 (kc (.tc (.sc (.bool false))))) s37,
  .p (.mv g37) s4])
 .ret)),
 [.tmp g4]⟩
theorem ff13_ok : compF SBUnpackKnown 13 = ff13 := by kernel_rfl
noncomputable def ff42 : FF := .t2 ⟨26,
 (.seq (.reg [.p (.mv (kc (.tc (.sc (.bool false))))) s4])
 (.seq (.seq (.reg [.p (.mv g0) s6,
  .p (.len g6 (G2 42 1 1)) s7,
  .p (.mv g1) s8,
  .p (.len g8 (G2 42 1 3)) s9,
  .p (.bin .neq g7 g9 (G2 42 1 4)) s10])
 (.cond g10 (.seq (.reg [.p (.mv (kc (.tc (.sc (.bool false))))) s4])
 .ret)
 .skip))
 (.seq (.seq (.reg [.p (.mv (kc (.tc (.sc (.int .i64 0))))) s5])
 (.block 0 (.loop 4294967296 (.seq (.seq (.reg [.p (.mv g5) s11,
  .p (.mv g0) s12,
  .p (.len g12 (G2 42 4 2)) s13,
  .p (.bin .lss g11 g13 (G2 42 4 3)) s14])
 (.cond g14 .skip
 (.exit 0)))
 (.seq (.block 1 (.seq (.regD [0, 0, 3, 7, 0, 0, 48, 112, 255] [.no, .no, .no, (.rd (.ld true 11 g19) g20), .no, .no, .no, (.rd (.ld true 11 g23) g24), .no] [.mk .none .yes (.mv g0) (.mv g0) (some s17),
  .mk .none .yes (.mv g5) (.mv g5) (some s18),
  .mk .none .yes (.ia 11 g17 g18 (G2 42 5 2)) (.ia 11 g17 g18 (G2 42 5 2)) (some s19),
  .mk .none .yes (.ld true 11 g19) (.ld true 11 g19) (some s20),
  .mk .none .yes (.mv g1) (.mv g1) (some s21),
  .mk .none .yes (.mv g5) (.mv g5) (some s22),
  .mk .none .yes (.ia 11 g21 g22 (G2 42 5 6)) (.ia 11 g21 g22 (G2 42 5 6)) (some s23),
  .mk .none .yes (.ld true 11 g23) (.ld true 11 g23) (some s24),
  .mk .none .yes (.eqs .neq [(.mk 0 .int), (.mk 1 .int), (.mk 2 .int), (.mk 3 .int), (.mk 4 .int), (.mk 5 .int), (.mk 6 .int), (.mk 7 .bool), (.mk 8 .bool), (.mk 9 .int), (.mk 10 .int)] g20 g24 (G2 42 5 8)) (.eqs .neq [(.mk 0 .int), (.mk 1 .int), (.mk 2 .int), (.mk 3 .int), (.mk 4 .int), (.mk 5 .int), (.mk 6 .int), (.mk 7 .bool), (.mk 8 .bool), (.mk 9 .int), (.mk 10 .int)] g20 g24 (G2 42 5 8)) (some s25)])
 (.cond g25 (.seq (.reg [.p (.mv (kc (.tc (.sc (.bool false))))) s4])
 .ret)
 .skip)))
 (.reg [.p (.mv g5) s15,
  .p (.bin .add g15 (kc (.tc (.sc (.int .i64 1)))) (G2 42 7 1)) s16,
  .p (.mv g16) s5]))))))
 (.seq (.reg [.p (.mv (kc (.tc (.sc (.bool true))))) s4])
 .ret)))),
 [.tmp g4]⟩
theorem ff42_ok : compF SBUnpackKnown 42 = ff42 := by kernel_rfl
noncomputable def ff14 : FF := .t2 ⟨35,
 (.seq (.reg [.p (.mv (kc (.tc (.sc (.bool false))))) s0])
 (.seq (.reg [.p (.bs 1 2 [[(.tc (.sc (.int .u32 0)))], [(.tc (.sc (.int .u32 0)))]] [(.mk 0 1 (kc (.tc (.sc (.int .u32 134317104))))), (.mk 1 1 (kc (.tc (.sc (.int .u32 537182213)))))] (G2 14 1 0)) s7,
  .p (.mv g7) s1])
 (.seq (.reg [.p (.bd [(.tc (.sc (.int .u8 0))), (.tc (.sc (.int .u8 0))), (.tc (.sc (.int .u8 0))), (.tc (.sc (.int .u8 0))), (.tc (.sc (.int .u8 0))), (.tc (.sc (.int .u8 0))), (.tc (.sc (.int .u8 0))), (.tc (.sc (.bool false))), (.tc (.sc (.bool false))), (.tc (.sc (.int .u16 0))), (.tc (.sc (.int .i64 0)))] [(.mk 0 1 (kc (.tc (.sc (.int .u8 2))))), (.mk 1 1 (kc (.tc (.sc (.int .u8 1))))), (.mk 2 1 (kc (.tc (.sc (.int .u8 2))))), (.mk 3 1 (kc (.tc (.sc (.int .u8 3)))))] (G2 14 2 0)) s8,
  .p (.bd [(.tc (.sc (.int .u8 0))), (.tc (.sc (.int .u8 0))), (.tc (.sc (.int .u8 0))), (.tc (.sc (.int .u8 0))), (.tc (.sc (.int .u8 0))), (.tc (.sc (.int .u8 0))), (.tc (.sc (.int .u8 0))), (.tc (.sc (.bool false))), (.tc (.sc (.bool false))), (.tc (.sc (.int .u16 0))), (.tc (.sc (.int .i64 0)))] [(.mk 0 1 (kc (.tc (.sc (.int .u8 8))))), (.mk 1 1 (kc (.tc (.sc (.int .u8 4))))), (.mk 10 1 (kc (.tc (.sc (.int .i64 5)))))] (G2 14 2 1)) s9,
  .p (.bs 11 2 [[(.tc (.sc (.int .u8 0))), (.tc (.sc (.int .u8 0))), (.tc (.sc (.int .u8 0))), (.tc (.sc (.int .u8 0))), (.tc (.sc (.int .u8 0))), (.tc (.sc (.int .u8 0))), (.tc (.sc (.int .u8 0))), (.tc (.sc (.bool false))), (.tc (.sc (.bool false))), (.tc (.sc (.int .u16 0))), (.tc (.sc (.int .i64 0)))], [(.tc (.sc (.int .u8 0))), (.tc (.sc (.int .u8 0))), (.tc (.sc (.int .u8 0))), (.tc (.sc (.int .u8 0))), (.tc (.sc (.int .u8 0))), (.tc (.sc (.int .u8 0))), (.tc (.sc (.int .u8 0))), (.tc (.sc (.bool false))), (.tc (.sc (.bool false))), (.tc (.sc (.int .u16 0))), (.tc (.sc (.int .i64 0)))]] [(.mk 0 11 g8), (.mk 1 11 g9)] (G2 14 2 2)) s10,
  .p (.bd [(.tc (.sc (.slice none 0 0))), (.tc (.sc (.bool false))), (.tc (.sc (.bool false))), (.tc (.sc (.bool false))), (.tc (.sc (.bool false)))] [(.mk 0 1 g10), (.mk 1 1 (kc (.tc (.sc (.bool true))))), (.mk 3 1 (kc (.tc (.sc (.bool true)))))] (G2 14 2 3)) s11,
  .p (.al 5 [(.sc (.slice none 0 0)), (.sc (.bool false)), (.sc (.bool false)), (.sc (.bool false)), (.sc (.bool false))]) s2,
  .n (.st 5 g2 g11 (G2 14 2 5))])
 (.seq (.reg [.p (.mv g1) s13,
  .p (.call 12 [g13, (kc (.tc (.sc (.int .u32 0))))] (G2 14 3 1)) s14,
  .p (.mv g14) s12,
  .p (.ex g12 0) s15,
  .p (.ex g12 1) s16,
  .p (.al 5 [(.sc (.slice none 0 0)), (.sc (.bool false)), (.sc (.bool false)), (.sc (.bool false)), (.sc (.bool false))]) s3,
  .n (.st 5 g3 g15 (G2 14 3 6)),
  .p (.mv g16) s4])
 (.seq (.reg [.p (.mv g1) s18,
  .p (.call 10 [g18] (G2 14 4 1)) s19,
  .p (.mv g19) s17,
  .p (.ex g17 0) s20,
  .p (.ex g17 1) s21,
  .p (.mv g20) s5,
  .p (.mv g21) s6])
 (.seq (.reg [.p (.mv g4) s22,
  .p (.mv g22) s23,
  .gp g23 true (.ld true 5 g3) s24,
  .gp g23 true (.ld true 5 g2) s25,
  .gp g23 true (.call 13 [g24, g25] (G2 14 5 4)) s26,
  .p (.pk g23 g26 (kc (.tc (.sc (.bool false))))) s27,
  .p (.mv g27) s28,
  .gp g28 true (.mv g5) s29,
  .gp g28 true (.bin .eql g29 (kc (.tc (.sc (.int .i64 2)))) (G2 14 5 8)) s30,
  .p (.pk g28 g30 (kc (.tc (.sc (.bool false))))) s31,
  .p (.mv g31) s32,
  .gp g32 true (.mv g6) s33,
  .p (.pk g32 g33 (kc (.tc (.sc (.bool false))))) s34,
  .p (.mv g34) s0])
 .ret)))))),
 [.tmp g0]⟩
theorem ff14_ok : compF SBUnpackKnown 14 = ff14 := by kernel_rfl

noncomputable def codeUnpackKnown (f : FuncId) : FF := match f with
  | 4 => ff4
  | 10 => ff10
  | 38 => ff38
  | 71 => ff71
  | 124 => ff124
  | 120 => ff120
  | 11 => ff11
  | 39 => ff39
  | 40 => ff40
  | 72 => ff72
  | 125 => ff125
  | 70 => ff70
  | 122 => ff122
  | 161 => ff161
  | 154 => ff154
  | 160 => ff160
  | 184 => ff184
  | 172 => ff172
  | 104 => ff104
  | 59 => ff59
  | 115 => ff115
  | 155 => ff155
  | 173 => ff173
  | 150 => ff150
  | 192 => ff192
  | 195 => ff195
  | 174 => ff174
  | 180 => ff180
  | 175 => ff175
  | 176 => ff176
  | 177 => ff177
  | 178 => ff178
  | 179 => ff179
  | 181 => ff181
  | 116 => ff116
  | 139 => ff139
  | 140 => ff140
  | 152 => ff152
  | 141 => ff141
  | 169 => ff169
  | 111 => ff111
  | 67 => ff67
  | 123 => ff123
  | 73 => ff73
  | 126 => ff126
  | 88 => ff88
  | 132 => ff132
  | 114 => ff114
  | 65 => ff65
  | 162 => ff162
  | 185 => ff185
  | 186 => ff186
  | 30 => ff30
  | 54 => ff54
  | 101 => ff101
  | 136 => ff136
  | 137 => ff137
  | 117 => ff117
  | 102 => ff102
  | 138 => ff138
  | 103 => ff103
  | 105 => ff105
  | 142 => ff142
  | 143 => ff143
  | 147 => ff147
  | 170 => ff170
  | 146 => ff146
  | 106 => ff106
  | 107 => ff107
  | 144 => ff144
  | 145 => ff145
  | 55 => ff55
  | 32 => ff32
  | 64 => ff64
  | 35 => ff35
  | 66 => ff66
  | 121 => ff121
  | 159 => ff159
  | 183 => ff183
  | 68 => ff68
  | 69 => ff69
  | 109 => ff109
  | 108 => ff108
  | 148 => ff148
  | 149 => ff149
  | 171 => ff171
  | 56 => ff56
  | 57 => ff57
  | 12 => ff12
  | 7 => ff7
  | 31 => ff31
  | 58 => ff58
  | 110 => ff110
  | 151 => ff151
  | 112 => ff112
  | 113 => ff113
  | 153 => ff153
  | 34 => ff34
  | 60 => ff60
  | 61 => ff61
  | 118 => ff118
  | 156 => ff156
  | 157 => ff157
  | 182 => ff182
  | 193 => ff193
  | 62 => ff62
  | 63 => ff63
  | 84 => ff84
  | 131 => ff131
  | 119 => ff119
  | 158 => ff158
  | 83 => ff83
  | 33 => ff33
  | 36 => ff36
  | 41 => ff41
  | 13 => ff13
  | 42 => ff42
  | 14 => ff14
  | _ => .bad
theorem codeUnpackKnown_ok : ∀ f, codeUnpackKnown f = .bad ∨ codeUnpackKnown f = compF SBUnpackKnown f := by
  intro f
  unfold codeUnpackKnown
  split
  · exact .inr ff4_ok.symm
  · exact .inr ff10_ok.symm
  · exact .inr ff38_ok.symm
  · exact .inr ff71_ok.symm
  · exact .inr ff124_ok.symm
  · exact .inr ff120_ok.symm
  · exact .inr ff11_ok.symm
  · exact .inr ff39_ok.symm
  · exact .inr ff40_ok.symm
  · exact .inr ff72_ok.symm
  · exact .inr ff125_ok.symm
  · exact .inr ff70_ok.symm
  · exact .inr ff122_ok.symm
  · exact .inr ff161_ok.symm
  · exact .inr ff154_ok.symm
  · exact .inr ff160_ok.symm
  · exact .inr ff184_ok.symm
  · exact .inr ff172_ok.symm
  · exact .inr ff104_ok.symm
  · exact .inr ff59_ok.symm
  · exact .inr ff115_ok.symm
  · exact .inr ff155_ok.symm
  · exact .inr ff173_ok.symm
  · exact .inr ff150_ok.symm
  · exact .inr ff192_ok.symm
  · exact .inr ff195_ok.symm
  · exact .inr ff174_ok.symm
  · exact .inr ff180_ok.symm
  · exact .inr ff175_ok.symm
  · exact .inr ff176_ok.symm
  · exact .inr ff177_ok.symm
  · exact .inr ff178_ok.symm
  · exact .inr ff179_ok.symm
  · exact .inr ff181_ok.symm
  · exact .inr ff116_ok.symm
  · exact .inr ff139_ok.symm
  · exact .inr ff140_ok.symm
  · exact .inr ff152_ok.symm
  · exact .inr ff141_ok.symm
  · exact .inr ff169_ok.symm
  · exact .inr ff111_ok.symm
  · exact .inr ff67_ok.symm
  · exact .inr ff123_ok.symm
  · exact .inr ff73_ok.symm
  · exact .inr ff126_ok.symm
  · exact .inr ff88_ok.symm
  · exact .inr ff132_ok.symm
  · exact .inr ff114_ok.symm
  · exact .inr ff65_ok.symm
  · exact .inr ff162_ok.symm
  · exact .inr ff185_ok.symm
  · exact .inr ff186_ok.symm
  · exact .inr ff30_ok.symm
  · exact .inr ff54_ok.symm
  · exact .inr ff101_ok.symm
  · exact .inr ff136_ok.symm
  · exact .inr ff137_ok.symm
  · exact .inr ff117_ok.symm
  · exact .inr ff102_ok.symm
  · exact .inr ff138_ok.symm
  · exact .inr ff103_ok.symm
  · exact .inr ff105_ok.symm
  · exact .inr ff142_ok.symm
  · exact .inr ff143_ok.symm
  · exact .inr ff147_ok.symm
  · exact .inr ff170_ok.symm
  · exact .inr ff146_ok.symm
  · exact .inr ff106_ok.symm
  · exact .inr ff107_ok.symm
  · exact .inr ff144_ok.symm
  · exact .inr ff145_ok.symm
  · exact .inr ff55_ok.symm
  · exact .inr ff32_ok.symm
  · exact .inr ff64_ok.symm
  · exact .inr ff35_ok.symm
  · exact .inr ff66_ok.symm
  · exact .inr ff121_ok.symm
  · exact .inr ff159_ok.symm
  · exact .inr ff183_ok.symm
  · exact .inr ff68_ok.symm
  · exact .inr ff69_ok.symm
  · exact .inr ff109_ok.symm
  · exact .inr ff108_ok.symm
  · exact .inr ff148_ok.symm
  · exact .inr ff149_ok.symm
  · exact .inr ff171_ok.symm
  · exact .inr ff56_ok.symm
  · exact .inr ff57_ok.symm
  · exact .inr ff12_ok.symm
  · exact .inr ff7_ok.symm
  · exact .inr ff31_ok.symm
  · exact .inr ff58_ok.symm
  · exact .inr ff110_ok.symm
  · exact .inr ff151_ok.symm
  · exact .inr ff112_ok.symm
  · exact .inr ff113_ok.symm
  · exact .inr ff153_ok.symm
  · exact .inr ff34_ok.symm
  · exact .inr ff60_ok.symm
  · exact .inr ff61_ok.symm
  · exact .inr ff118_ok.symm
  · exact .inr ff156_ok.symm
  · exact .inr ff157_ok.symm
  · exact .inr ff182_ok.symm
  · exact .inr ff193_ok.symm
  · exact .inr ff62_ok.symm
  · exact .inr ff63_ok.symm
  · exact .inr ff84_ok.symm
  · exact .inr ff131_ok.symm
  · exact .inr ff119_ok.symm
  · exact .inr ff158_ok.symm
  · exact .inr ff83_ok.symm
  · exact .inr ff33_ok.symm
  · exact .inr ff36_ok.symm
  · exact .inr ff41_ok.symm
  · exact .inr ff13_ok.symm
  · exact .inr ff42_ok.symm
  · exact .inr ff14_ok.symm
  · exact .inl rfl
end Go.Proofs.YthabafmieebmmaaGreatDoor
