/- Code made ready ahead, LegalKnown: each is what the program says. -/
import Derived.Test.YthabafmieebmmaaDoorKcBase
import Derived.Test.YthabafmieebmmaaDoorMg8
set_option linter.unusedVariables false
set_option maxRecDepth 100000
namespace Go.Proofs.YthabafmieebmmaaDoor
open Go

/-- What coxless/bits.ends holds. -/
noncomputable def glLegalKnown1 : List TC := [(.sc (.int .i64 0)), (.sc (.int .i64 14)), (.sc (.int .i64 16)), (.sc (.int .i64 10))]
noncomputable def gwLegalKnown1 : Nat := 4
/-- What coxless/bits.parseAt holds. -/
noncomputable def glLegalKnown3 : List TC := [(.sc (.int .i64 14)), (.sc (.int .i64 2))]
noncomputable def gwLegalKnown3 : Nat := 2
/-- What coxless/bits.upper holds. -/
noncomputable def glLegalKnown4 : List TC := [(.sc (.int .i64 16)), (.sc (.int .i64 16))]
noncomputable def gwLegalKnown4 : Nat := 2
/-- What coxless/sub.rows holds. -/
noncomputable def glLegalKnown0 : List TC := [(.sl 10 [[(.sc (.int .u8 8)), (.sc (.int .i64 1)), (.sc (.int .i64 4)), (.sc (.int .i64 0)), (.sc (.int .i64 5)), (.sc (.int .i64 7)), (.sc (.int .i64 0)), (.sc (.int .i64 0)), (.sc (.int .i64 0)), (.sc (.int .i64 0))], [(.sc (.int .u8 7)), (.sc (.int .i64 4)), (.sc (.int .i64 4)), (.sc (.int .i64 0)), (.sc (.int .i64 6)), (.sc (.int .i64 7)), (.sc (.int .i64 0)), (.sc (.int .i64 0)), (.sc (.int .i64 0)), (.sc (.int .i64 0))], [(.sc (.int .u8 9)), (.sc (.int .i64 1)), (.sc (.int .i64 4)), (.sc (.int .i64 0)), (.sc (.int .i64 2)), (.sc (.int .i64 4)), (.sc (.int .i64 0)), (.sc (.int .i64 0)), (.sc (.int .i64 0)), (.sc (.int .i64 0))], [(.sc (.int .u8 2)), (.sc (.int .i64 4)), (.sc (.int .i64 4)), (.sc (.int .i64 0)), (.sc (.int .i64 3)), (.sc (.int .i64 4)), (.sc (.int .i64 0)), (.sc (.int .i64 0)), (.sc (.int .i64 0)), (.sc (.int .i64 0))], [(.sc (.int .u8 21)), (.sc (.int .i64 1)), (.sc (.int .i64 4)), (.sc (.int .i64 0)), (.sc (.int .i64 2)), (.sc (.int .i64 4)), (.sc (.int .i64 0)), (.sc (.int .i64 5)), (.sc (.int .i64 3)), (.sc (.int .i64 2))], [(.sc (.int .u8 24)), (.sc (.int .i64 2)), (.sc (.int .i64 4)), (.sc (.int .i64 0)), (.sc (.int .i64 3)), (.sc (.int .i64 4)), (.sc (.int .i64 0)), (.sc (.int .i64 5)), (.sc (.int .i64 3)), (.sc (.int .i64 2))], [(.sc (.int .u8 23)), (.sc (.int .i64 1)), (.sc (.int .i64 4)), (.sc (.int .i64 0)), (.sc (.int .i64 2)), (.sc (.int .i64 4)), (.sc (.int .i64 0)), (.sc (.int .i64 5)), (.sc (.int .i64 3)), (.sc (.int .i64 0))], [(.sc (.int .u8 26)), (.sc (.int .i64 2)), (.sc (.int .i64 4)), (.sc (.int .i64 0)), (.sc (.int .i64 3)), (.sc (.int .i64 4)), (.sc (.int .i64 0)), (.sc (.int .i64 5)), (.sc (.int .i64 3)), (.sc (.int .i64 0))], [(.sc (.int .u8 13)), (.sc (.int .i64 2)), (.sc (.int .i64 4)), (.sc (.int .i64 0)), (.sc (.int .i64 5)), (.sc (.int .i64 7)), (.sc (.int .i64 0)), (.sc (.int .i64 0)), (.sc (.int .i64 0)), (.sc (.int .i64 0))]])]
noncomputable def gwLegalKnown0 : Nat := 1
noncomputable def globLegalKnown : List (Nat × List TC) := [(1, glLegalKnown1), (3, glLegalKnown3), (4, glLegalKnown4), (0, glLegalKnown0)]
noncomputable def SBLegalKnown : Base := ⟨XP, globAt globLegalKnown, 4294967296⟩
noncomputable def ff3 : FF := .t3 ⟨192,
 (.seq (.reg [.p (.mv (kc (.tc (.sc (.bool false))))) (i0 s0)])
 (.seq (.reg [.p (.mv (kc (.tc (.sc (.func (.func 10) #[] #[]))))) (i0 s1)])
 (.seq (.reg [.p (.bd [(.tc (.sc (.int .u8 0))), (.tc (.sc (.int .u8 0))), (.tc (.sc (.int .u8 0))), (.tc (.sc (.int .u8 0))), (.tc (.sc (.int .u8 0))), (.tc (.sc (.int .u8 0))), (.tc (.sc (.int .u8 0))), (.tc (.sc (.bool false))), (.tc (.sc (.bool false))), (.tc (.sc (.int .u16 0))), (.tc (.sc (.int .i64 0)))] [(.mk 0 1 (kc (.tc (.sc (.int .u8 24)))))] (G3 3 2 0)) (i0 s22),
  .p (.al 11 [(.sc (.int .u8 0)), (.sc (.int .u8 0)), (.sc (.int .u8 0)), (.sc (.int .u8 0)), (.sc (.int .u8 0)), (.sc (.int .u8 0)), (.sc (.int .u8 0)), (.sc (.bool false)), (.sc (.bool false)), (.sc (.int .u16 0)), (.sc (.int .i64 0))]) (i0 s2),
  .n (.st 11 (h0 g2) (h0 g22) (G3 3 2 2))])
 (.seq (.reg [.p (.mv (kc (.tc (.sc (.func (.func 11) #[] #[]))))) (i0 s3)])
 (.seq (.reg [.p (.bd [(.tc (.sc (.int .u8 0))), (.tc (.sc (.int .u8 0))), (.tc (.sc (.int .u8 0))), (.tc (.sc (.int .u8 0))), (.tc (.sc (.int .u8 0))), (.tc (.sc (.int .u8 0))), (.tc (.sc (.int .u8 0))), (.tc (.sc (.bool false))), (.tc (.sc (.bool false))), (.tc (.sc (.int .u16 0))), (.tc (.sc (.int .i64 0)))] [(.mk 0 1 (kc (.tc (.sc (.int .u8 1)))))] (G3 3 4 0)) (i0 s23),
  .p (.al 11 [(.sc (.int .u8 0)), (.sc (.int .u8 0)), (.sc (.int .u8 0)), (.sc (.int .u8 0)), (.sc (.int .u8 0)), (.sc (.int .u8 0)), (.sc (.int .u8 0)), (.sc (.bool false)), (.sc (.bool false)), (.sc (.int .u16 0)), (.sc (.int .i64 0))]) (i0 s4),
  .n (.st 11 (h0 g4) (h0 g23) (G3 3 4 2))])
 (.seq (.reg [.p (.bd [(.tc (.sc (.int .u8 0))), (.tc (.sc (.int .u8 0))), (.tc (.sc (.int .u8 0))), (.tc (.sc (.int .u8 0))), (.tc (.sc (.int .u8 0))), (.tc (.sc (.int .u8 0))), (.tc (.sc (.int .u8 0))), (.tc (.sc (.bool false))), (.tc (.sc (.bool false))), (.tc (.sc (.int .u16 0))), (.tc (.sc (.int .i64 0)))] [(.mk 0 1 (kc (.tc (.sc (.int .u8 8))))), (.mk 1 1 (kc (.tc (.sc (.int .u8 2))))), (.mk 10 1 (kc (.tc (.sc (.int .i64 1048576))))), (.mk 8 1 (kc (.tc (.sc (.bool true)))))] (G3 3 5 0)) (i0 s24),
  .p (.al 11 [(.sc (.int .u8 0)), (.sc (.int .u8 0)), (.sc (.int .u8 0)), (.sc (.int .u8 0)), (.sc (.int .u8 0)), (.sc (.int .u8 0)), (.sc (.int .u8 0)), (.sc (.bool false)), (.sc (.bool false)), (.sc (.int .u16 0)), (.sc (.int .i64 0))]) (i0 s5),
  .n (.st 11 (h0 g5) (h0 g24) (G3 3 5 2))])
 (.seq (.reg [.p (.ld true 11 (h0 g4)) (i0 s25),
  .p (.bs 11 1 [[(.tc (.sc (.int .u8 0))), (.tc (.sc (.int .u8 0))), (.tc (.sc (.int .u8 0))), (.tc (.sc (.int .u8 0))), (.tc (.sc (.int .u8 0))), (.tc (.sc (.int .u8 0))), (.tc (.sc (.int .u8 0))), (.tc (.sc (.bool false))), (.tc (.sc (.bool false))), (.tc (.sc (.int .u16 0))), (.tc (.sc (.int .i64 0)))]] [(.mk 0 11 (h0 g25))] (G3 3 6 1)) (i0 s26),
  .p (.call 12 [(h0 g26)] (G3 3 6 2)) (i0 s27),
  .p (.al 5 [(.sc (.slice none 0 0)), (.sc (.bool false)), (.sc (.bool false)), (.sc (.bool false)), (.sc (.bool false))]) (i0 s6),
  .n (.st 5 (h0 g6) (h0 g27) (G3 3 6 4))])
 (.seq (.reg [.p (.fa 1 (h0 g6)) (i0 s28),
  .n (.st 1 (h0 g28) (kc (.tc (.sc (.bool true)))) (G3 3 7 1))])
 (.seq (.reg [.p (.ld true 11 (h0 g5)) (i0 s29),
  .p (.bs 11 1 [[(.tc (.sc (.int .u8 0))), (.tc (.sc (.int .u8 0))), (.tc (.sc (.int .u8 0))), (.tc (.sc (.int .u8 0))), (.tc (.sc (.int .u8 0))), (.tc (.sc (.int .u8 0))), (.tc (.sc (.int .u8 0))), (.tc (.sc (.bool false))), (.tc (.sc (.bool false))), (.tc (.sc (.int .u16 0))), (.tc (.sc (.int .i64 0)))]] [(.mk 0 11 (h0 g29))] (G3 3 8 1)) (i0 s30),
  .p (.call 12 [(h0 g30)] (G3 3 8 2)) (i0 s31),
  .p (.al 5 [(.sc (.slice none 0 0)), (.sc (.bool false)), (.sc (.bool false)), (.sc (.bool false)), (.sc (.bool false))]) (i0 s7),
  .n (.st 5 (h0 g7) (h0 g31) (G3 3 8 4))])
 (.seq (.reg [.p (.fa 1 (h0 g7)) (i0 s32),
  .n (.st 1 (h0 g32) (kc (.tc (.sc (.bool true)))) (G3 3 9 1))])
 (.seq (.reg [.p (.ld true 5 (h0 g7)) (i0 s33),
  .p (.al 5 [(.sc (.slice none 0 0)), (.sc (.bool false)), (.sc (.bool false)), (.sc (.bool false)), (.sc (.bool false))]) (i0 s8),
  .n (.st 5 (h0 g8) (h0 g33) (G3 3 10 2))])
 (.seq (.reg [.p (.fa 1 (h0 g8)) (i0 s34),
  .n (.st 1 (h0 g34) (kc (.tc (.sc (.bool false)))) (G3 3 11 1)),
  .p (.fa 2 (h0 g8)) (i0 s35),
  .n (.st 1 (h0 g35) (kc (.tc (.sc (.bool true)))) (G3 3 11 3))])
 (.seq (.reg [.p (.call 13 [(kc (.tc (.sc (.int .u8 0))))] (G3 3 12 0)) (i0 s36),
  .p (.call 13 [(kc (.tc (.sc (.int .u8 1))))] (G3 3 12 1)) (i0 s37),
  .p (.bs 11 2 [[(.tc (.sc (.int .u8 0))), (.tc (.sc (.int .u8 0))), (.tc (.sc (.int .u8 0))), (.tc (.sc (.int .u8 0))), (.tc (.sc (.int .u8 0))), (.tc (.sc (.int .u8 0))), (.tc (.sc (.int .u8 0))), (.tc (.sc (.bool false))), (.tc (.sc (.bool false))), (.tc (.sc (.int .u16 0))), (.tc (.sc (.int .i64 0)))], [(.tc (.sc (.int .u8 0))), (.tc (.sc (.int .u8 0))), (.tc (.sc (.int .u8 0))), (.tc (.sc (.int .u8 0))), (.tc (.sc (.int .u8 0))), (.tc (.sc (.int .u8 0))), (.tc (.sc (.int .u8 0))), (.tc (.sc (.bool false))), (.tc (.sc (.bool false))), (.tc (.sc (.int .u16 0))), (.tc (.sc (.int .i64 0)))]] [(.mk 0 11 (h0 g36)), (.mk 1 11 (h0 g37))] (G3 3 12 2)) (i0 s38),
  .p (.call 12 [(h0 g38)] (G3 3 12 3)) (i0 s39),
  .p (.al 5 [(.sc (.slice none 0 0)), (.sc (.bool false)), (.sc (.bool false)), (.sc (.bool false)), (.sc (.bool false))]) (i0 s9),
  .n (.st 5 (h0 g9) (h0 g39) (G3 3 12 5))])
 (.seq (.reg [.p (.fa 3 (h0 g9)) (i0 s40),
  .n (.st 1 (h0 g40) (kc (.tc (.sc (.bool true)))) (G3 3 13 1))])
 (.seq (.regD [0, 1, 0, 7, 0, 31, 63, 127, 0, 0, 768, 2047, 0, 8191, 0, 32767, 0, 131071, 262143, 524287, 0, 0, 3145728, 8388607, 0, 0, 0, 0, 251658240, 536870911, 1073741823, 2147483647, 0, 0, 17179869183, 34359738367, 0, 0, 0, 0, 0, 0, 3298534883328, 7765300871167, 16561393893375, 0, 0, 104522324115455, 0, 526734789181439, 1124869114691583, 2250769021534207, 4502568835219455, 0, 18013367717330943, 0, 0, 108085360264740863, 0, 576459721511272447, 1152920473814695935, 2305841978421542911, 4611684987635236863, 9223371006062624767, 18446743042917400575, 0, 73786975264046055423, 0, 295147904148560674815, 0, 1180591619686619152383, 2361183240404030455807, 4722366481838853062655, 9444732965739290427391, 18889465931478580854783] [.no, .no, .no, .no, .no, .no, .no, .no, (.rd (.ld true 11 (h0 g2)) (h0 g49)), (.rd (.ld true 11 (h0 g2)) (h0 g50)), .no, .no, .no, .no, .no, .no, .no, .no, .no, .no, .no, .no, .no, .no, (.rd (.ld true 11 (h0 g4)) (h1 g1)), (.rd (.ld true 11 (h0 g4)) (h1 g2)), (.rd (.ld true 11 (h0 g4)) (h1 g3)), (.rd (.ld true 11 (h0 g5)) (h1 g4)), .no, .no, .no, .no, (.rd (.ld true 11 (h0 g4)) (h1 g9)), (.rd (.ld true 11 (h0 g5)) (h1 g10)), .no, .no, (.rd (.ld true 5 (h0 g6)) (h1 g13)), (.rd (.ld true 5 (h0 g7)) (h1 g14)), (.rd (.ld true 5 (h0 g8)) (h1 g15)), (.rd (.ld true 5 (h0 g9)) (h1 g16)), (.rd (.ld true 11 (h0 g4)) (h1 g17)), (.rd (.ld true 11 (h0 g4)) (h1 g18)), .no, .no, .no, (.rd (.ld true 11 (h0 g2)) (h1 g22)), .no, .no, .no, .no, .no, .no, .no, .no, .no, (.rd (.ld true 11 (h0 g2)) (h1 g32)), .no, .no, .no, .no, .no, .no, .no, .no, .no, .no, .no, .no, .no, .no, .no, .no, .no, .no, .no] [.mk .none .yes (.mv (h0 g1)) (.mv (h0 g1)) (some (i0 s41)),
  .mk .none (.gen (G3 3 14 1)) (.gen (G3 3 14 1)) (.gen (G3 3 14 1)) (some (i0 s42)),
  .mk .none .yes (.mv (h0 g1)) (.mv (h0 g1)) (some (i0 s43)),
  .mk .none (.gen (G3 3 14 3)) (.gen (G3 3 14 3)) (.gen (G3 3 14 3)) (some (i0 s44)),
  .mk .none .yes (.mv (h0 g1)) (.mv (h0 g1)) (some (i0 s45)),
  .mk .none (.gen (G3 3 14 5)) (.gen (G3 3 14 5)) (.gen (G3 3 14 5)) (some (i0 s46)),
  .mk .none (.gen (G3 3 14 6)) (.bt 11 [[(.tc (.sc (.int .u8 0))), (.tc (.sc (.int .u8 0))), (.tc (.sc (.int .u8 0))), (.tc (.sc (.int .u8 0))), (.tc (.sc (.int .u8 0))), (.tc (.sc (.int .u8 0))), (.tc (.sc (.int .u8 0))), (.tc (.sc (.bool false))), (.tc (.sc (.bool false))), (.tc (.sc (.int .u16 0))), (.tc (.sc (.int .i64 0)))], [(.tc (.sc (.int .u8 0))), (.tc (.sc (.int .u8 0))), (.tc (.sc (.int .u8 0))), (.tc (.sc (.int .u8 0))), (.tc (.sc (.int .u8 0))), (.tc (.sc (.int .u8 0))), (.tc (.sc (.int .u8 0))), (.tc (.sc (.bool false))), (.tc (.sc (.bool false))), (.tc (.sc (.int .u16 0))), (.tc (.sc (.int .i64 0)))], [(.tc (.sc (.int .u8 0))), (.tc (.sc (.int .u8 0))), (.tc (.sc (.int .u8 0))), (.tc (.sc (.int .u8 0))), (.tc (.sc (.int .u8 0))), (.tc (.sc (.int .u8 0))), (.tc (.sc (.int .u8 0))), (.tc (.sc (.bool false))), (.tc (.sc (.bool false))), (.tc (.sc (.int .u16 0))), (.tc (.sc (.int .i64 0)))]] [(.mk 0 11 (h0 g42)), (.mk 1 11 (h0 g44)), (.mk 2 11 (h0 g46))] (G3 3 14 6)) (.bs 11 3 [[(.tc (.sc (.int .u8 0))), (.tc (.sc (.int .u8 0))), (.tc (.sc (.int .u8 0))), (.tc (.sc (.int .u8 0))), (.tc (.sc (.int .u8 0))), (.tc (.sc (.int .u8 0))), (.tc (.sc (.int .u8 0))), (.tc (.sc (.bool false))), (.tc (.sc (.bool false))), (.tc (.sc (.int .u16 0))), (.tc (.sc (.int .i64 0)))], [(.tc (.sc (.int .u8 0))), (.tc (.sc (.int .u8 0))), (.tc (.sc (.int .u8 0))), (.tc (.sc (.int .u8 0))), (.tc (.sc (.int .u8 0))), (.tc (.sc (.int .u8 0))), (.tc (.sc (.int .u8 0))), (.tc (.sc (.bool false))), (.tc (.sc (.bool false))), (.tc (.sc (.int .u16 0))), (.tc (.sc (.int .i64 0)))], [(.tc (.sc (.int .u8 0))), (.tc (.sc (.int .u8 0))), (.tc (.sc (.int .u8 0))), (.tc (.sc (.int .u8 0))), (.tc (.sc (.int .u8 0))), (.tc (.sc (.int .u8 0))), (.tc (.sc (.int .u8 0))), (.tc (.sc (.bool false))), (.tc (.sc (.bool false))), (.tc (.sc (.int .u16 0))), (.tc (.sc (.int .i64 0)))]] [(.mk 0 11 (h0 g42)), (.mk 1 11 (h0 g44)), (.mk 2 11 (h0 g46))] (G3 3 14 6)) (some (i0 s47)),
  .mk .none (.dyn 12 [(h0 g47)]) (.call 12 [(h0 g47)] (G3 3 14 7)) (.call 12 [(h0 g47)] (G3 3 14 7)) (some (i0 s48)),
  .mk .none .yes (.ld true 11 (h0 g2)) (.ld true 11 (h0 g2)) (some (i0 s49)),
  .mk .none .yes (.ld true 11 (h0 g2)) (.ld true 11 (h0 g2)) (some (i0 s50)),
  .mk .none (.gen (G3 3 14 10)) (.bt 11 [[(.tc (.sc (.int .u8 0))), (.tc (.sc (.int .u8 0))), (.tc (.sc (.int .u8 0))), (.tc (.sc (.int .u8 0))), (.tc (.sc (.int .u8 0))), (.tc (.sc (.int .u8 0))), (.tc (.sc (.int .u8 0))), (.tc (.sc (.bool false))), (.tc (.sc (.bool false))), (.tc (.sc (.int .u16 0))), (.tc (.sc (.int .i64 0)))], [(.tc (.sc (.int .u8 0))), (.tc (.sc (.int .u8 0))), (.tc (.sc (.int .u8 0))), (.tc (.sc (.int .u8 0))), (.tc (.sc (.int .u8 0))), (.tc (.sc (.int .u8 0))), (.tc (.sc (.int .u8 0))), (.tc (.sc (.bool false))), (.tc (.sc (.bool false))), (.tc (.sc (.int .u16 0))), (.tc (.sc (.int .i64 0)))]] [(.mk 0 11 (h0 g49)), (.mk 1 11 (h0 g50))] (G3 3 14 10)) (.bs 11 2 [[(.tc (.sc (.int .u8 0))), (.tc (.sc (.int .u8 0))), (.tc (.sc (.int .u8 0))), (.tc (.sc (.int .u8 0))), (.tc (.sc (.int .u8 0))), (.tc (.sc (.int .u8 0))), (.tc (.sc (.int .u8 0))), (.tc (.sc (.bool false))), (.tc (.sc (.bool false))), (.tc (.sc (.int .u16 0))), (.tc (.sc (.int .i64 0)))], [(.tc (.sc (.int .u8 0))), (.tc (.sc (.int .u8 0))), (.tc (.sc (.int .u8 0))), (.tc (.sc (.int .u8 0))), (.tc (.sc (.int .u8 0))), (.tc (.sc (.int .u8 0))), (.tc (.sc (.int .u8 0))), (.tc (.sc (.bool false))), (.tc (.sc (.bool false))), (.tc (.sc (.int .u16 0))), (.tc (.sc (.int .i64 0)))]] [(.mk 0 11 (h0 g49)), (.mk 1 11 (h0 g50))] (G3 3 14 10)) (some (i0 s51)),
  .mk .none (.dyn 12 [(h0 g51)]) (.call 12 [(h0 g51)] (G3 3 14 11)) (.call 12 [(h0 g51)] (G3 3 14 11)) (some (i0 s52)),
  .mk .none .yes (.mv (h0 g3)) (.mv (h0 g3)) (some (i0 s53)),
  .mk .none (.gen (G3 3 14 13)) (.gen (G3 3 14 13)) (.gen (G3 3 14 13)) (some (i0 s54)),
  .mk .none .yes (.mv (h0 g3)) (.mv (h0 g3)) (some (i0 s55)),
  .mk .none (.gen (G3 3 14 15)) (.gen (G3 3 14 15)) (.gen (G3 3 14 15)) (some (i0 s56)),
  .mk .none .yes (.mv (h0 g3)) (.mv (h0 g3)) (some (i0 s57)),
  .mk .none (.gen (G3 3 14 17)) (.gen (G3 3 14 17)) (.gen (G3 3 14 17)) (some (i0 s58)),
  .mk .none (.gen (G3 3 14 18)) (.bt 11 [[(.tc (.sc (.int .u8 0))), (.tc (.sc (.int .u8 0))), (.tc (.sc (.int .u8 0))), (.tc (.sc (.int .u8 0))), (.tc (.sc (.int .u8 0))), (.tc (.sc (.int .u8 0))), (.tc (.sc (.int .u8 0))), (.tc (.sc (.bool false))), (.tc (.sc (.bool false))), (.tc (.sc (.int .u16 0))), (.tc (.sc (.int .i64 0)))], [(.tc (.sc (.int .u8 0))), (.tc (.sc (.int .u8 0))), (.tc (.sc (.int .u8 0))), (.tc (.sc (.int .u8 0))), (.tc (.sc (.int .u8 0))), (.tc (.sc (.int .u8 0))), (.tc (.sc (.int .u8 0))), (.tc (.sc (.bool false))), (.tc (.sc (.bool false))), (.tc (.sc (.int .u16 0))), (.tc (.sc (.int .i64 0)))], [(.tc (.sc (.int .u8 0))), (.tc (.sc (.int .u8 0))), (.tc (.sc (.int .u8 0))), (.tc (.sc (.int .u8 0))), (.tc (.sc (.int .u8 0))), (.tc (.sc (.int .u8 0))), (.tc (.sc (.int .u8 0))), (.tc (.sc (.bool false))), (.tc (.sc (.bool false))), (.tc (.sc (.int .u16 0))), (.tc (.sc (.int .i64 0)))]] [(.mk 0 11 (h0 g54)), (.mk 1 11 (h0 g56)), (.mk 2 11 (h0 g58))] (G3 3 14 18)) (.bs 11 3 [[(.tc (.sc (.int .u8 0))), (.tc (.sc (.int .u8 0))), (.tc (.sc (.int .u8 0))), (.tc (.sc (.int .u8 0))), (.tc (.sc (.int .u8 0))), (.tc (.sc (.int .u8 0))), (.tc (.sc (.int .u8 0))), (.tc (.sc (.bool false))), (.tc (.sc (.bool false))), (.tc (.sc (.int .u16 0))), (.tc (.sc (.int .i64 0)))], [(.tc (.sc (.int .u8 0))), (.tc (.sc (.int .u8 0))), (.tc (.sc (.int .u8 0))), (.tc (.sc (.int .u8 0))), (.tc (.sc (.int .u8 0))), (.tc (.sc (.int .u8 0))), (.tc (.sc (.int .u8 0))), (.tc (.sc (.bool false))), (.tc (.sc (.bool false))), (.tc (.sc (.int .u16 0))), (.tc (.sc (.int .i64 0)))], [(.tc (.sc (.int .u8 0))), (.tc (.sc (.int .u8 0))), (.tc (.sc (.int .u8 0))), (.tc (.sc (.int .u8 0))), (.tc (.sc (.int .u8 0))), (.tc (.sc (.int .u8 0))), (.tc (.sc (.int .u8 0))), (.tc (.sc (.bool false))), (.tc (.sc (.bool false))), (.tc (.sc (.int .u16 0))), (.tc (.sc (.int .i64 0)))]] [(.mk 0 11 (h0 g54)), (.mk 1 11 (h0 g56)), (.mk 2 11 (h0 g58))] (G3 3 14 18)) (some (i0 s59)),
  .mk .none (.dyn 12 [(h0 g59)]) (.call 12 [(h0 g59)] (G3 3 14 19)) (.call 12 [(h0 g59)] (G3 3 14 19)) (some (i0 s60)),
  .mk .none .yes (.bd [(.tc (.sc (.int .u8 0))), (.tc (.sc (.int .u8 0))), (.tc (.sc (.int .u8 0))), (.tc (.sc (.int .u8 0))), (.tc (.sc (.int .u8 0))), (.tc (.sc (.int .u8 0))), (.tc (.sc (.int .u8 0))), (.tc (.sc (.bool false))), (.tc (.sc (.bool false))), (.tc (.sc (.int .u16 0))), (.tc (.sc (.int .i64 0)))] [(.mk 0 1 (kc (.tc (.sc (.int .u8 30)))))] (G3 3 14 20)) (.bd [(.tc (.sc (.int .u8 0))), (.tc (.sc (.int .u8 0))), (.tc (.sc (.int .u8 0))), (.tc (.sc (.int .u8 0))), (.tc (.sc (.int .u8 0))), (.tc (.sc (.int .u8 0))), (.tc (.sc (.int .u8 0))), (.tc (.sc (.bool false))), (.tc (.sc (.bool false))), (.tc (.sc (.int .u16 0))), (.tc (.sc (.int .i64 0)))] [(.mk 0 1 (kc (.tc (.sc (.int .u8 30)))))] (G3 3 14 20)) (some (i0 s61)),
  .mk .none .yes (.bd [(.tc (.sc (.int .u8 0))), (.tc (.sc (.int .u8 0))), (.tc (.sc (.int .u8 0))), (.tc (.sc (.int .u8 0))), (.tc (.sc (.int .u8 0))), (.tc (.sc (.int .u8 0))), (.tc (.sc (.int .u8 0))), (.tc (.sc (.bool false))), (.tc (.sc (.bool false))), (.tc (.sc (.int .u16 0))), (.tc (.sc (.int .i64 0)))] [(.mk 0 1 (kc (.tc (.sc (.int .u8 31)))))] (G3 3 14 21)) (.bd [(.tc (.sc (.int .u8 0))), (.tc (.sc (.int .u8 0))), (.tc (.sc (.int .u8 0))), (.tc (.sc (.int .u8 0))), (.tc (.sc (.int .u8 0))), (.tc (.sc (.int .u8 0))), (.tc (.sc (.int .u8 0))), (.tc (.sc (.bool false))), (.tc (.sc (.bool false))), (.tc (.sc (.int .u16 0))), (.tc (.sc (.int .i64 0)))] [(.mk 0 1 (kc (.tc (.sc (.int .u8 31)))))] (G3 3 14 21)) (some (i0 s62)),
  .mk .none (.gen (G3 3 14 22)) (.bt 11 [[(.tc (.sc (.int .u8 0))), (.tc (.sc (.int .u8 0))), (.tc (.sc (.int .u8 0))), (.tc (.sc (.int .u8 0))), (.tc (.sc (.int .u8 0))), (.tc (.sc (.int .u8 0))), (.tc (.sc (.int .u8 0))), (.tc (.sc (.bool false))), (.tc (.sc (.bool false))), (.tc (.sc (.int .u16 0))), (.tc (.sc (.int .i64 0)))], [(.tc (.sc (.int .u8 0))), (.tc (.sc (.int .u8 0))), (.tc (.sc (.int .u8 0))), (.tc (.sc (.int .u8 0))), (.tc (.sc (.int .u8 0))), (.tc (.sc (.int .u8 0))), (.tc (.sc (.int .u8 0))), (.tc (.sc (.bool false))), (.tc (.sc (.bool false))), (.tc (.sc (.int .u16 0))), (.tc (.sc (.int .i64 0)))]] [(.mk 0 11 (h0 g61)), (.mk 1 11 (h0 g62))] (G3 3 14 22)) (.bs 11 2 [[(.tc (.sc (.int .u8 0))), (.tc (.sc (.int .u8 0))), (.tc (.sc (.int .u8 0))), (.tc (.sc (.int .u8 0))), (.tc (.sc (.int .u8 0))), (.tc (.sc (.int .u8 0))), (.tc (.sc (.int .u8 0))), (.tc (.sc (.bool false))), (.tc (.sc (.bool false))), (.tc (.sc (.int .u16 0))), (.tc (.sc (.int .i64 0)))], [(.tc (.sc (.int .u8 0))), (.tc (.sc (.int .u8 0))), (.tc (.sc (.int .u8 0))), (.tc (.sc (.int .u8 0))), (.tc (.sc (.int .u8 0))), (.tc (.sc (.int .u8 0))), (.tc (.sc (.int .u8 0))), (.tc (.sc (.bool false))), (.tc (.sc (.bool false))), (.tc (.sc (.int .u16 0))), (.tc (.sc (.int .i64 0)))]] [(.mk 0 11 (h0 g61)), (.mk 1 11 (h0 g62))] (G3 3 14 22)) (some (i0 s63)),
  .mk .none (.dyn 12 [(h0 g63)]) (.call 12 [(h0 g63)] (G3 3 14 23)) (.call 12 [(h0 g63)] (G3 3 14 23)) (some (i1 s0)),
  .mk .none .yes (.ld true 11 (h0 g4)) (.ld true 11 (h0 g4)) (some (i1 s1)),
  .mk .none .yes (.ld true 11 (h0 g4)) (.ld true 11 (h0 g4)) (some (i1 s2)),
  .mk .none .yes (.ld true 11 (h0 g4)) (.ld true 11 (h0 g4)) (some (i1 s3)),
  .mk .none .yes (.ld true 11 (h0 g5)) (.ld true 11 (h0 g5)) (some (i1 s4)),
  .mk .none (.gen (G3 3 14 28)) (.bt 11 [[(.tc (.sc (.int .u8 0))), (.tc (.sc (.int .u8 0))), (.tc (.sc (.int .u8 0))), (.tc (.sc (.int .u8 0))), (.tc (.sc (.int .u8 0))), (.tc (.sc (.int .u8 0))), (.tc (.sc (.int .u8 0))), (.tc (.sc (.bool false))), (.tc (.sc (.bool false))), (.tc (.sc (.int .u16 0))), (.tc (.sc (.int .i64 0)))], [(.tc (.sc (.int .u8 0))), (.tc (.sc (.int .u8 0))), (.tc (.sc (.int .u8 0))), (.tc (.sc (.int .u8 0))), (.tc (.sc (.int .u8 0))), (.tc (.sc (.int .u8 0))), (.tc (.sc (.int .u8 0))), (.tc (.sc (.bool false))), (.tc (.sc (.bool false))), (.tc (.sc (.int .u16 0))), (.tc (.sc (.int .i64 0)))], [(.tc (.sc (.int .u8 0))), (.tc (.sc (.int .u8 0))), (.tc (.sc (.int .u8 0))), (.tc (.sc (.int .u8 0))), (.tc (.sc (.int .u8 0))), (.tc (.sc (.int .u8 0))), (.tc (.sc (.int .u8 0))), (.tc (.sc (.bool false))), (.tc (.sc (.bool false))), (.tc (.sc (.int .u16 0))), (.tc (.sc (.int .i64 0)))], [(.tc (.sc (.int .u8 0))), (.tc (.sc (.int .u8 0))), (.tc (.sc (.int .u8 0))), (.tc (.sc (.int .u8 0))), (.tc (.sc (.int .u8 0))), (.tc (.sc (.int .u8 0))), (.tc (.sc (.int .u8 0))), (.tc (.sc (.bool false))), (.tc (.sc (.bool false))), (.tc (.sc (.int .u16 0))), (.tc (.sc (.int .i64 0)))]] [(.mk 0 11 (h1 g1)), (.mk 1 11 (h1 g2)), (.mk 2 11 (h1 g3)), (.mk 3 11 (h1 g4))] (G3 3 14 28)) (.bs 11 4 [[(.tc (.sc (.int .u8 0))), (.tc (.sc (.int .u8 0))), (.tc (.sc (.int .u8 0))), (.tc (.sc (.int .u8 0))), (.tc (.sc (.int .u8 0))), (.tc (.sc (.int .u8 0))), (.tc (.sc (.int .u8 0))), (.tc (.sc (.bool false))), (.tc (.sc (.bool false))), (.tc (.sc (.int .u16 0))), (.tc (.sc (.int .i64 0)))], [(.tc (.sc (.int .u8 0))), (.tc (.sc (.int .u8 0))), (.tc (.sc (.int .u8 0))), (.tc (.sc (.int .u8 0))), (.tc (.sc (.int .u8 0))), (.tc (.sc (.int .u8 0))), (.tc (.sc (.int .u8 0))), (.tc (.sc (.bool false))), (.tc (.sc (.bool false))), (.tc (.sc (.int .u16 0))), (.tc (.sc (.int .i64 0)))], [(.tc (.sc (.int .u8 0))), (.tc (.sc (.int .u8 0))), (.tc (.sc (.int .u8 0))), (.tc (.sc (.int .u8 0))), (.tc (.sc (.int .u8 0))), (.tc (.sc (.int .u8 0))), (.tc (.sc (.int .u8 0))), (.tc (.sc (.bool false))), (.tc (.sc (.bool false))), (.tc (.sc (.int .u16 0))), (.tc (.sc (.int .i64 0)))], [(.tc (.sc (.int .u8 0))), (.tc (.sc (.int .u8 0))), (.tc (.sc (.int .u8 0))), (.tc (.sc (.int .u8 0))), (.tc (.sc (.int .u8 0))), (.tc (.sc (.int .u8 0))), (.tc (.sc (.int .u8 0))), (.tc (.sc (.bool false))), (.tc (.sc (.bool false))), (.tc (.sc (.int .u16 0))), (.tc (.sc (.int .i64 0)))]] [(.mk 0 11 (h1 g1)), (.mk 1 11 (h1 g2)), (.mk 2 11 (h1 g3)), (.mk 3 11 (h1 g4))] (G3 3 14 28)) (some (i1 s5)),
  .mk .none (.dyn 12 [(h1 g5)]) (.call 12 [(h1 g5)] (G3 3 14 29)) (.call 12 [(h1 g5)] (G3 3 14 29)) (some (i1 s6)),
  .mk .none (.dyn 13 [(kc (.tc (.sc (.int .u8 0))))]) (.call 13 [(kc (.tc (.sc (.int .u8 0))))] (G3 3 14 30)) (.call 13 [(kc (.tc (.sc (.int .u8 0))))] (G3 3 14 30)) (some (i1 s7)),
  .mk .none (.dyn 13 [(kc (.tc (.sc (.int .u8 1))))]) (.call 13 [(kc (.tc (.sc (.int .u8 1))))] (G3 3 14 31)) (.call 13 [(kc (.tc (.sc (.int .u8 1))))] (G3 3 14 31)) (some (i1 s8)),
  .mk .none .yes (.ld true 11 (h0 g4)) (.ld true 11 (h0 g4)) (some (i1 s9)),
  .mk .none .yes (.ld true 11 (h0 g5)) (.ld true 11 (h0 g5)) (some (i1 s10)),
  .mk .none (.gen (G3 3 14 34)) (.bt 11 [[(.tc (.sc (.int .u8 0))), (.tc (.sc (.int .u8 0))), (.tc (.sc (.int .u8 0))), (.tc (.sc (.int .u8 0))), (.tc (.sc (.int .u8 0))), (.tc (.sc (.int .u8 0))), (.tc (.sc (.int .u8 0))), (.tc (.sc (.bool false))), (.tc (.sc (.bool false))), (.tc (.sc (.int .u16 0))), (.tc (.sc (.int .i64 0)))], [(.tc (.sc (.int .u8 0))), (.tc (.sc (.int .u8 0))), (.tc (.sc (.int .u8 0))), (.tc (.sc (.int .u8 0))), (.tc (.sc (.int .u8 0))), (.tc (.sc (.int .u8 0))), (.tc (.sc (.int .u8 0))), (.tc (.sc (.bool false))), (.tc (.sc (.bool false))), (.tc (.sc (.int .u16 0))), (.tc (.sc (.int .i64 0)))], [(.tc (.sc (.int .u8 0))), (.tc (.sc (.int .u8 0))), (.tc (.sc (.int .u8 0))), (.tc (.sc (.int .u8 0))), (.tc (.sc (.int .u8 0))), (.tc (.sc (.int .u8 0))), (.tc (.sc (.int .u8 0))), (.tc (.sc (.bool false))), (.tc (.sc (.bool false))), (.tc (.sc (.int .u16 0))), (.tc (.sc (.int .i64 0)))], [(.tc (.sc (.int .u8 0))), (.tc (.sc (.int .u8 0))), (.tc (.sc (.int .u8 0))), (.tc (.sc (.int .u8 0))), (.tc (.sc (.int .u8 0))), (.tc (.sc (.int .u8 0))), (.tc (.sc (.int .u8 0))), (.tc (.sc (.bool false))), (.tc (.sc (.bool false))), (.tc (.sc (.int .u16 0))), (.tc (.sc (.int .i64 0)))]] [(.mk 0 11 (h1 g7)), (.mk 1 11 (h1 g8)), (.mk 2 11 (h1 g9)), (.mk 3 11 (h1 g10))] (G3 3 14 34)) (.bs 11 4 [[(.tc (.sc (.int .u8 0))), (.tc (.sc (.int .u8 0))), (.tc (.sc (.int .u8 0))), (.tc (.sc (.int .u8 0))), (.tc (.sc (.int .u8 0))), (.tc (.sc (.int .u8 0))), (.tc (.sc (.int .u8 0))), (.tc (.sc (.bool false))), (.tc (.sc (.bool false))), (.tc (.sc (.int .u16 0))), (.tc (.sc (.int .i64 0)))], [(.tc (.sc (.int .u8 0))), (.tc (.sc (.int .u8 0))), (.tc (.sc (.int .u8 0))), (.tc (.sc (.int .u8 0))), (.tc (.sc (.int .u8 0))), (.tc (.sc (.int .u8 0))), (.tc (.sc (.int .u8 0))), (.tc (.sc (.bool false))), (.tc (.sc (.bool false))), (.tc (.sc (.int .u16 0))), (.tc (.sc (.int .i64 0)))], [(.tc (.sc (.int .u8 0))), (.tc (.sc (.int .u8 0))), (.tc (.sc (.int .u8 0))), (.tc (.sc (.int .u8 0))), (.tc (.sc (.int .u8 0))), (.tc (.sc (.int .u8 0))), (.tc (.sc (.int .u8 0))), (.tc (.sc (.bool false))), (.tc (.sc (.bool false))), (.tc (.sc (.int .u16 0))), (.tc (.sc (.int .i64 0)))], [(.tc (.sc (.int .u8 0))), (.tc (.sc (.int .u8 0))), (.tc (.sc (.int .u8 0))), (.tc (.sc (.int .u8 0))), (.tc (.sc (.int .u8 0))), (.tc (.sc (.int .u8 0))), (.tc (.sc (.int .u8 0))), (.tc (.sc (.bool false))), (.tc (.sc (.bool false))), (.tc (.sc (.int .u16 0))), (.tc (.sc (.int .i64 0)))]] [(.mk 0 11 (h1 g7)), (.mk 1 11 (h1 g8)), (.mk 2 11 (h1 g9)), (.mk 3 11 (h1 g10))] (G3 3 14 34)) (some (i1 s11)),
  .mk .none (.dyn 14 [(h1 g11)]) (.call 14 [(h1 g11)] (G3 3 14 35)) (.call 14 [(h1 g11)] (G3 3 14 35)) (some (i1 s12)),
  .mk .none .yes (.ld true 5 (h0 g6)) (.ld true 5 (h0 g6)) (some (i1 s13)),
  .mk .none .yes (.ld true 5 (h0 g7)) (.ld true 5 (h0 g7)) (some (i1 s14)),
  .mk .none .yes (.ld true 5 (h0 g8)) (.ld true 5 (h0 g8)) (some (i1 s15)),
  .mk .none .yes (.ld true 5 (h0 g9)) (.ld true 5 (h0 g9)) (some (i1 s16)),
  .mk .none .yes (.ld true 11 (h0 g4)) (.ld true 11 (h0 g4)) (some (i1 s17)),
  .mk .none .yes (.ld true 11 (h0 g4)) (.ld true 11 (h0 g4)) (some (i1 s18)),
  .mk .none (.gen (G3 3 14 42)) (.bt 11 [[(.tc (.sc (.int .u8 0))), (.tc (.sc (.int .u8 0))), (.tc (.sc (.int .u8 0))), (.tc (.sc (.int .u8 0))), (.tc (.sc (.int .u8 0))), (.tc (.sc (.int .u8 0))), (.tc (.sc (.int .u8 0))), (.tc (.sc (.bool false))), (.tc (.sc (.bool false))), (.tc (.sc (.int .u16 0))), (.tc (.sc (.int .i64 0)))], [(.tc (.sc (.int .u8 0))), (.tc (.sc (.int .u8 0))), (.tc (.sc (.int .u8 0))), (.tc (.sc (.int .u8 0))), (.tc (.sc (.int .u8 0))), (.tc (.sc (.int .u8 0))), (.tc (.sc (.int .u8 0))), (.tc (.sc (.bool false))), (.tc (.sc (.bool false))), (.tc (.sc (.int .u16 0))), (.tc (.sc (.int .i64 0)))]] [(.mk 0 11 (h1 g17)), (.mk 1 11 (h1 g18))] (G3 3 14 42)) (.bs 11 2 [[(.tc (.sc (.int .u8 0))), (.tc (.sc (.int .u8 0))), (.tc (.sc (.int .u8 0))), (.tc (.sc (.int .u8 0))), (.tc (.sc (.int .u8 0))), (.tc (.sc (.int .u8 0))), (.tc (.sc (.int .u8 0))), (.tc (.sc (.bool false))), (.tc (.sc (.bool false))), (.tc (.sc (.int .u16 0))), (.tc (.sc (.int .i64 0)))], [(.tc (.sc (.int .u8 0))), (.tc (.sc (.int .u8 0))), (.tc (.sc (.int .u8 0))), (.tc (.sc (.int .u8 0))), (.tc (.sc (.int .u8 0))), (.tc (.sc (.int .u8 0))), (.tc (.sc (.int .u8 0))), (.tc (.sc (.bool false))), (.tc (.sc (.bool false))), (.tc (.sc (.int .u16 0))), (.tc (.sc (.int .i64 0)))]] [(.mk 0 11 (h1 g17)), (.mk 1 11 (h1 g18))] (G3 3 14 42)) (some (i1 s19)),
  .mk .none (.dyn 14 [(h1 g19)]) (.call 14 [(h1 g19)] (G3 3 14 43)) (.call 14 [(h1 g19)] (G3 3 14 43)) (some (i1 s20)),
  .mk .none (.dyn 13 [(kc (.tc (.sc (.int .u8 0))))]) (.call 13 [(kc (.tc (.sc (.int .u8 0))))] (G3 3 14 44)) (.call 13 [(kc (.tc (.sc (.int .u8 0))))] (G3 3 14 44)) (some (i1 s21)),
  .mk .none .yes (.ld true 11 (h0 g2)) (.ld true 11 (h0 g2)) (some (i1 s22)),
  .mk .none .yes (.mv (h0 g1)) (.mv (h0 g1)) (some (i1 s23)),
  .mk .none (.gen (G3 3 14 47)) (.gen (G3 3 14 47)) (.gen (G3 3 14 47)) (some (i1 s24)),
  .mk .none .yes (.mv (h0 g1)) (.mv (h0 g1)) (some (i1 s25)),
  .mk .none (.gen (G3 3 14 49)) (.gen (G3 3 14 49)) (.gen (G3 3 14 49)) (some (i1 s26)),
  .mk .none (.gen (G3 3 14 50)) (.bt 11 [[(.tc (.sc (.int .u8 0))), (.tc (.sc (.int .u8 0))), (.tc (.sc (.int .u8 0))), (.tc (.sc (.int .u8 0))), (.tc (.sc (.int .u8 0))), (.tc (.sc (.int .u8 0))), (.tc (.sc (.int .u8 0))), (.tc (.sc (.bool false))), (.tc (.sc (.bool false))), (.tc (.sc (.int .u16 0))), (.tc (.sc (.int .i64 0)))], [(.tc (.sc (.int .u8 0))), (.tc (.sc (.int .u8 0))), (.tc (.sc (.int .u8 0))), (.tc (.sc (.int .u8 0))), (.tc (.sc (.int .u8 0))), (.tc (.sc (.int .u8 0))), (.tc (.sc (.int .u8 0))), (.tc (.sc (.bool false))), (.tc (.sc (.bool false))), (.tc (.sc (.int .u16 0))), (.tc (.sc (.int .i64 0)))], [(.tc (.sc (.int .u8 0))), (.tc (.sc (.int .u8 0))), (.tc (.sc (.int .u8 0))), (.tc (.sc (.int .u8 0))), (.tc (.sc (.int .u8 0))), (.tc (.sc (.int .u8 0))), (.tc (.sc (.int .u8 0))), (.tc (.sc (.bool false))), (.tc (.sc (.bool false))), (.tc (.sc (.int .u16 0))), (.tc (.sc (.int .i64 0)))], [(.tc (.sc (.int .u8 0))), (.tc (.sc (.int .u8 0))), (.tc (.sc (.int .u8 0))), (.tc (.sc (.int .u8 0))), (.tc (.sc (.int .u8 0))), (.tc (.sc (.int .u8 0))), (.tc (.sc (.int .u8 0))), (.tc (.sc (.bool false))), (.tc (.sc (.bool false))), (.tc (.sc (.int .u16 0))), (.tc (.sc (.int .i64 0)))]] [(.mk 0 11 (h1 g21)), (.mk 1 11 (h1 g22)), (.mk 2 11 (h1 g24)), (.mk 3 11 (h1 g26))] (G3 3 14 50)) (.bs 11 4 [[(.tc (.sc (.int .u8 0))), (.tc (.sc (.int .u8 0))), (.tc (.sc (.int .u8 0))), (.tc (.sc (.int .u8 0))), (.tc (.sc (.int .u8 0))), (.tc (.sc (.int .u8 0))), (.tc (.sc (.int .u8 0))), (.tc (.sc (.bool false))), (.tc (.sc (.bool false))), (.tc (.sc (.int .u16 0))), (.tc (.sc (.int .i64 0)))], [(.tc (.sc (.int .u8 0))), (.tc (.sc (.int .u8 0))), (.tc (.sc (.int .u8 0))), (.tc (.sc (.int .u8 0))), (.tc (.sc (.int .u8 0))), (.tc (.sc (.int .u8 0))), (.tc (.sc (.int .u8 0))), (.tc (.sc (.bool false))), (.tc (.sc (.bool false))), (.tc (.sc (.int .u16 0))), (.tc (.sc (.int .i64 0)))], [(.tc (.sc (.int .u8 0))), (.tc (.sc (.int .u8 0))), (.tc (.sc (.int .u8 0))), (.tc (.sc (.int .u8 0))), (.tc (.sc (.int .u8 0))), (.tc (.sc (.int .u8 0))), (.tc (.sc (.int .u8 0))), (.tc (.sc (.bool false))), (.tc (.sc (.bool false))), (.tc (.sc (.int .u16 0))), (.tc (.sc (.int .i64 0)))], [(.tc (.sc (.int .u8 0))), (.tc (.sc (.int .u8 0))), (.tc (.sc (.int .u8 0))), (.tc (.sc (.int .u8 0))), (.tc (.sc (.int .u8 0))), (.tc (.sc (.int .u8 0))), (.tc (.sc (.int .u8 0))), (.tc (.sc (.bool false))), (.tc (.sc (.bool false))), (.tc (.sc (.int .u16 0))), (.tc (.sc (.int .i64 0)))]] [(.mk 0 11 (h1 g21)), (.mk 1 11 (h1 g22)), (.mk 2 11 (h1 g24)), (.mk 3 11 (h1 g26))] (G3 3 14 50)) (some (i1 s27)),
  .mk .none (.dyn 14 [(h1 g27)]) (.call 14 [(h1 g27)] (G3 3 14 51)) (.call 14 [(h1 g27)] (G3 3 14 51)) (some (i1 s28)),
  .mk .none (.dyn 12 [(kc (.tc (.sc (.slice none 0 0))))]) (.call 12 [(kc (.tc (.sc (.slice none 0 0))))] (G3 3 14 52)) (.call 12 [(kc (.tc (.sc (.slice none 0 0))))] (G3 3 14 52)) (some (i1 s29)),
  .mk .none .yes (.mv (h0 g1)) (.mv (h0 g1)) (some (i1 s30)),
  .mk .none (.gen (G3 3 14 54)) (.gen (G3 3 14 54)) (.gen (G3 3 14 54)) (some (i1 s31)),
  .mk .none .yes (.ld true 11 (h0 g2)) (.ld true 11 (h0 g2)) (some (i1 s32)),
  .mk .none .yes (.mv (h0 g3)) (.mv (h0 g3)) (some (i1 s33)),
  .mk .none (.gen (G3 3 14 57)) (.gen (G3 3 14 57)) (.gen (G3 3 14 57)) (some (i1 s34)),
  .mk .none .yes (.bd [(.tc (.sc (.int .u8 0))), (.tc (.sc (.int .u8 0))), (.tc (.sc (.int .u8 0))), (.tc (.sc (.int .u8 0))), (.tc (.sc (.int .u8 0))), (.tc (.sc (.int .u8 0))), (.tc (.sc (.int .u8 0))), (.tc (.sc (.bool false))), (.tc (.sc (.bool false))), (.tc (.sc (.int .u16 0))), (.tc (.sc (.int .i64 0)))] [(.mk 0 1 (kc (.tc (.sc (.int .u8 30)))))] (G3 3 14 58)) (.bd [(.tc (.sc (.int .u8 0))), (.tc (.sc (.int .u8 0))), (.tc (.sc (.int .u8 0))), (.tc (.sc (.int .u8 0))), (.tc (.sc (.int .u8 0))), (.tc (.sc (.int .u8 0))), (.tc (.sc (.int .u8 0))), (.tc (.sc (.bool false))), (.tc (.sc (.bool false))), (.tc (.sc (.int .u16 0))), (.tc (.sc (.int .i64 0)))] [(.mk 0 1 (kc (.tc (.sc (.int .u8 30)))))] (G3 3 14 58)) (some (i1 s35)),
  .mk .none (.gen (G3 3 14 59)) (.bt 11 [[(.tc (.sc (.int .u8 0))), (.tc (.sc (.int .u8 0))), (.tc (.sc (.int .u8 0))), (.tc (.sc (.int .u8 0))), (.tc (.sc (.int .u8 0))), (.tc (.sc (.int .u8 0))), (.tc (.sc (.int .u8 0))), (.tc (.sc (.bool false))), (.tc (.sc (.bool false))), (.tc (.sc (.int .u16 0))), (.tc (.sc (.int .i64 0)))], [(.tc (.sc (.int .u8 0))), (.tc (.sc (.int .u8 0))), (.tc (.sc (.int .u8 0))), (.tc (.sc (.int .u8 0))), (.tc (.sc (.int .u8 0))), (.tc (.sc (.int .u8 0))), (.tc (.sc (.int .u8 0))), (.tc (.sc (.bool false))), (.tc (.sc (.bool false))), (.tc (.sc (.int .u16 0))), (.tc (.sc (.int .i64 0)))], [(.tc (.sc (.int .u8 0))), (.tc (.sc (.int .u8 0))), (.tc (.sc (.int .u8 0))), (.tc (.sc (.int .u8 0))), (.tc (.sc (.int .u8 0))), (.tc (.sc (.int .u8 0))), (.tc (.sc (.int .u8 0))), (.tc (.sc (.bool false))), (.tc (.sc (.bool false))), (.tc (.sc (.int .u16 0))), (.tc (.sc (.int .i64 0)))], [(.tc (.sc (.int .u8 0))), (.tc (.sc (.int .u8 0))), (.tc (.sc (.int .u8 0))), (.tc (.sc (.int .u8 0))), (.tc (.sc (.int .u8 0))), (.tc (.sc (.int .u8 0))), (.tc (.sc (.int .u8 0))), (.tc (.sc (.bool false))), (.tc (.sc (.bool false))), (.tc (.sc (.int .u16 0))), (.tc (.sc (.int .i64 0)))]] [(.mk 0 11 (h1 g31)), (.mk 1 11 (h1 g32)), (.mk 2 11 (h1 g34)), (.mk 3 11 (h1 g35))] (G3 3 14 59)) (.bs 11 4 [[(.tc (.sc (.int .u8 0))), (.tc (.sc (.int .u8 0))), (.tc (.sc (.int .u8 0))), (.tc (.sc (.int .u8 0))), (.tc (.sc (.int .u8 0))), (.tc (.sc (.int .u8 0))), (.tc (.sc (.int .u8 0))), (.tc (.sc (.bool false))), (.tc (.sc (.bool false))), (.tc (.sc (.int .u16 0))), (.tc (.sc (.int .i64 0)))], [(.tc (.sc (.int .u8 0))), (.tc (.sc (.int .u8 0))), (.tc (.sc (.int .u8 0))), (.tc (.sc (.int .u8 0))), (.tc (.sc (.int .u8 0))), (.tc (.sc (.int .u8 0))), (.tc (.sc (.int .u8 0))), (.tc (.sc (.bool false))), (.tc (.sc (.bool false))), (.tc (.sc (.int .u16 0))), (.tc (.sc (.int .i64 0)))], [(.tc (.sc (.int .u8 0))), (.tc (.sc (.int .u8 0))), (.tc (.sc (.int .u8 0))), (.tc (.sc (.int .u8 0))), (.tc (.sc (.int .u8 0))), (.tc (.sc (.int .u8 0))), (.tc (.sc (.int .u8 0))), (.tc (.sc (.bool false))), (.tc (.sc (.bool false))), (.tc (.sc (.int .u16 0))), (.tc (.sc (.int .i64 0)))], [(.tc (.sc (.int .u8 0))), (.tc (.sc (.int .u8 0))), (.tc (.sc (.int .u8 0))), (.tc (.sc (.int .u8 0))), (.tc (.sc (.int .u8 0))), (.tc (.sc (.int .u8 0))), (.tc (.sc (.int .u8 0))), (.tc (.sc (.bool false))), (.tc (.sc (.bool false))), (.tc (.sc (.int .u16 0))), (.tc (.sc (.int .i64 0)))]] [(.mk 0 11 (h1 g31)), (.mk 1 11 (h1 g32)), (.mk 2 11 (h1 g34)), (.mk 3 11 (h1 g35))] (G3 3 14 59)) (some (i1 s36)),
  .mk .none (.dyn 12 [(h1 g36)]) (.call 12 [(h1 g36)] (G3 3 14 60)) (.call 12 [(h1 g36)] (G3 3 14 60)) (some (i1 s37)),
  .mk .none (.dyn 13 [(kc (.tc (.sc (.int .u8 1))))]) (.call 13 [(kc (.tc (.sc (.int .u8 1))))] (G3 3 14 61)) (.call 13 [(kc (.tc (.sc (.int .u8 1))))] (G3 3 14 61)) (some (i1 s38)),
  .mk .none (.dyn 13 [(kc (.tc (.sc (.int .u8 1))))]) (.call 13 [(kc (.tc (.sc (.int .u8 1))))] (G3 3 14 62)) (.call 13 [(kc (.tc (.sc (.int .u8 1))))] (G3 3 14 62)) (some (i1 s39)),
  .mk .none (.gen (G3 3 14 63)) (.bt 11 [[(.tc (.sc (.int .u8 0))), (.tc (.sc (.int .u8 0))), (.tc (.sc (.int .u8 0))), (.tc (.sc (.int .u8 0))), (.tc (.sc (.int .u8 0))), (.tc (.sc (.int .u8 0))), (.tc (.sc (.int .u8 0))), (.tc (.sc (.bool false))), (.tc (.sc (.bool false))), (.tc (.sc (.int .u16 0))), (.tc (.sc (.int .i64 0)))], [(.tc (.sc (.int .u8 0))), (.tc (.sc (.int .u8 0))), (.tc (.sc (.int .u8 0))), (.tc (.sc (.int .u8 0))), (.tc (.sc (.int .u8 0))), (.tc (.sc (.int .u8 0))), (.tc (.sc (.int .u8 0))), (.tc (.sc (.bool false))), (.tc (.sc (.bool false))), (.tc (.sc (.int .u16 0))), (.tc (.sc (.int .i64 0)))]] [(.mk 0 11 (h1 g38)), (.mk 1 11 (h1 g39))] (G3 3 14 63)) (.bs 11 2 [[(.tc (.sc (.int .u8 0))), (.tc (.sc (.int .u8 0))), (.tc (.sc (.int .u8 0))), (.tc (.sc (.int .u8 0))), (.tc (.sc (.int .u8 0))), (.tc (.sc (.int .u8 0))), (.tc (.sc (.int .u8 0))), (.tc (.sc (.bool false))), (.tc (.sc (.bool false))), (.tc (.sc (.int .u16 0))), (.tc (.sc (.int .i64 0)))], [(.tc (.sc (.int .u8 0))), (.tc (.sc (.int .u8 0))), (.tc (.sc (.int .u8 0))), (.tc (.sc (.int .u8 0))), (.tc (.sc (.int .u8 0))), (.tc (.sc (.int .u8 0))), (.tc (.sc (.int .u8 0))), (.tc (.sc (.bool false))), (.tc (.sc (.bool false))), (.tc (.sc (.int .u16 0))), (.tc (.sc (.int .i64 0)))]] [(.mk 0 11 (h1 g38)), (.mk 1 11 (h1 g39))] (G3 3 14 63)) (some (i1 s40)),
  .mk .none (.dyn 12 [(h1 g40)]) (.call 12 [(h1 g40)] (G3 3 14 64)) (.call 12 [(h1 g40)] (G3 3 14 64)) (some (i1 s41)),
  .mk .none .yes (.mv (h0 g1)) (.mv (h0 g1)) (some (i1 s42)),
  .mk .none (.gen (G3 3 14 66)) (.gen (G3 3 14 66)) (.gen (G3 3 14 66)) (some (i1 s43)),
  .mk .none .yes (.mv (h0 g1)) (.mv (h0 g1)) (some (i1 s44)),
  .mk .none (.gen (G3 3 14 68)) (.gen (G3 3 14 68)) (.gen (G3 3 14 68)) (some (i1 s45)),
  .mk .none .yes (.mv (h0 g1)) (.mv (h0 g1)) (some (i1 s46)),
  .mk .none (.gen (G3 3 14 70)) (.gen (G3 3 14 70)) (.gen (G3 3 14 70)) (some (i1 s47)),
  .mk .none (.gen (G3 3 14 71)) (.bt 11 [[(.tc (.sc (.int .u8 0))), (.tc (.sc (.int .u8 0))), (.tc (.sc (.int .u8 0))), (.tc (.sc (.int .u8 0))), (.tc (.sc (.int .u8 0))), (.tc (.sc (.int .u8 0))), (.tc (.sc (.int .u8 0))), (.tc (.sc (.bool false))), (.tc (.sc (.bool false))), (.tc (.sc (.int .u16 0))), (.tc (.sc (.int .i64 0)))], [(.tc (.sc (.int .u8 0))), (.tc (.sc (.int .u8 0))), (.tc (.sc (.int .u8 0))), (.tc (.sc (.int .u8 0))), (.tc (.sc (.int .u8 0))), (.tc (.sc (.int .u8 0))), (.tc (.sc (.int .u8 0))), (.tc (.sc (.bool false))), (.tc (.sc (.bool false))), (.tc (.sc (.int .u16 0))), (.tc (.sc (.int .i64 0)))], [(.tc (.sc (.int .u8 0))), (.tc (.sc (.int .u8 0))), (.tc (.sc (.int .u8 0))), (.tc (.sc (.int .u8 0))), (.tc (.sc (.int .u8 0))), (.tc (.sc (.int .u8 0))), (.tc (.sc (.int .u8 0))), (.tc (.sc (.bool false))), (.tc (.sc (.bool false))), (.tc (.sc (.int .u16 0))), (.tc (.sc (.int .i64 0)))]] [(.mk 0 11 (h1 g43)), (.mk 1 11 (h1 g45)), (.mk 2 11 (h1 g47))] (G3 3 14 71)) (.bs 11 3 [[(.tc (.sc (.int .u8 0))), (.tc (.sc (.int .u8 0))), (.tc (.sc (.int .u8 0))), (.tc (.sc (.int .u8 0))), (.tc (.sc (.int .u8 0))), (.tc (.sc (.int .u8 0))), (.tc (.sc (.int .u8 0))), (.tc (.sc (.bool false))), (.tc (.sc (.bool false))), (.tc (.sc (.int .u16 0))), (.tc (.sc (.int .i64 0)))], [(.tc (.sc (.int .u8 0))), (.tc (.sc (.int .u8 0))), (.tc (.sc (.int .u8 0))), (.tc (.sc (.int .u8 0))), (.tc (.sc (.int .u8 0))), (.tc (.sc (.int .u8 0))), (.tc (.sc (.int .u8 0))), (.tc (.sc (.bool false))), (.tc (.sc (.bool false))), (.tc (.sc (.int .u16 0))), (.tc (.sc (.int .i64 0)))], [(.tc (.sc (.int .u8 0))), (.tc (.sc (.int .u8 0))), (.tc (.sc (.int .u8 0))), (.tc (.sc (.int .u8 0))), (.tc (.sc (.int .u8 0))), (.tc (.sc (.int .u8 0))), (.tc (.sc (.int .u8 0))), (.tc (.sc (.bool false))), (.tc (.sc (.bool false))), (.tc (.sc (.int .u16 0))), (.tc (.sc (.int .i64 0)))]] [(.mk 0 11 (h1 g43)), (.mk 1 11 (h1 g45)), (.mk 2 11 (h1 g47))] (G3 3 14 71)) (some (i1 s48)),
  .mk .none (.dyn 12 [(h1 g48)]) (.call 12 [(h1 g48)] (G3 3 14 72)) (.call 12 [(h1 g48)] (G3 3 14 72)) (some (i1 s49)),
  .mk .none (.gen (G3 3 14 73)) (.bt 5 [[(.tc (.sc (.slice none 0 0))), (.tc (.sc (.bool false))), (.tc (.sc (.bool false))), (.tc (.sc (.bool false))), (.tc (.sc (.bool false)))], [(.tc (.sc (.slice none 0 0))), (.tc (.sc (.bool false))), (.tc (.sc (.bool false))), (.tc (.sc (.bool false))), (.tc (.sc (.bool false)))], [(.tc (.sc (.slice none 0 0))), (.tc (.sc (.bool false))), (.tc (.sc (.bool false))), (.tc (.sc (.bool false))), (.tc (.sc (.bool false)))], [(.tc (.sc (.slice none 0 0))), (.tc (.sc (.bool false))), (.tc (.sc (.bool false))), (.tc (.sc (.bool false))), (.tc (.sc (.bool false)))], [(.tc (.sc (.slice none 0 0))), (.tc (.sc (.bool false))), (.tc (.sc (.bool false))), (.tc (.sc (.bool false))), (.tc (.sc (.bool false)))], [(.tc (.sc (.slice none 0 0))), (.tc (.sc (.bool false))), (.tc (.sc (.bool false))), (.tc (.sc (.bool false))), (.tc (.sc (.bool false)))], [(.tc (.sc (.slice none 0 0))), (.tc (.sc (.bool false))), (.tc (.sc (.bool false))), (.tc (.sc (.bool false))), (.tc (.sc (.bool false)))], [(.tc (.sc (.slice none 0 0))), (.tc (.sc (.bool false))), (.tc (.sc (.bool false))), (.tc (.sc (.bool false))), (.tc (.sc (.bool false)))], [(.tc (.sc (.slice none 0 0))), (.tc (.sc (.bool false))), (.tc (.sc (.bool false))), (.tc (.sc (.bool false))), (.tc (.sc (.bool false)))], [(.tc (.sc (.slice none 0 0))), (.tc (.sc (.bool false))), (.tc (.sc (.bool false))), (.tc (.sc (.bool false))), (.tc (.sc (.bool false)))], [(.tc (.sc (.slice none 0 0))), (.tc (.sc (.bool false))), (.tc (.sc (.bool false))), (.tc (.sc (.bool false))), (.tc (.sc (.bool false)))], [(.tc (.sc (.slice none 0 0))), (.tc (.sc (.bool false))), (.tc (.sc (.bool false))), (.tc (.sc (.bool false))), (.tc (.sc (.bool false)))], [(.tc (.sc (.slice none 0 0))), (.tc (.sc (.bool false))), (.tc (.sc (.bool false))), (.tc (.sc (.bool false))), (.tc (.sc (.bool false)))], [(.tc (.sc (.slice none 0 0))), (.tc (.sc (.bool false))), (.tc (.sc (.bool false))), (.tc (.sc (.bool false))), (.tc (.sc (.bool false)))], [(.tc (.sc (.slice none 0 0))), (.tc (.sc (.bool false))), (.tc (.sc (.bool false))), (.tc (.sc (.bool false))), (.tc (.sc (.bool false)))], [(.tc (.sc (.slice none 0 0))), (.tc (.sc (.bool false))), (.tc (.sc (.bool false))), (.tc (.sc (.bool false))), (.tc (.sc (.bool false)))]] [(.mk 0 5 (h0 g48)), (.mk 1 5 (h0 g52)), (.mk 2 5 (h0 g60)), (.mk 3 5 (h1 g0)), (.mk 4 5 (h1 g6)), (.mk 5 5 (h1 g12)), (.mk 6 5 (h1 g13)), (.mk 7 5 (h1 g14)), (.mk 8 5 (h1 g15)), (.mk 9 5 (h1 g16)), (.mk 10 5 (h1 g20)), (.mk 11 5 (h1 g28)), (.mk 12 5 (h1 g29)), (.mk 13 5 (h1 g37)), (.mk 14 5 (h1 g41)), (.mk 15 5 (h1 g49))] (G3 3 14 73)) (.bs 5 16 [[(.tc (.sc (.slice none 0 0))), (.tc (.sc (.bool false))), (.tc (.sc (.bool false))), (.tc (.sc (.bool false))), (.tc (.sc (.bool false)))], [(.tc (.sc (.slice none 0 0))), (.tc (.sc (.bool false))), (.tc (.sc (.bool false))), (.tc (.sc (.bool false))), (.tc (.sc (.bool false)))], [(.tc (.sc (.slice none 0 0))), (.tc (.sc (.bool false))), (.tc (.sc (.bool false))), (.tc (.sc (.bool false))), (.tc (.sc (.bool false)))], [(.tc (.sc (.slice none 0 0))), (.tc (.sc (.bool false))), (.tc (.sc (.bool false))), (.tc (.sc (.bool false))), (.tc (.sc (.bool false)))], [(.tc (.sc (.slice none 0 0))), (.tc (.sc (.bool false))), (.tc (.sc (.bool false))), (.tc (.sc (.bool false))), (.tc (.sc (.bool false)))], [(.tc (.sc (.slice none 0 0))), (.tc (.sc (.bool false))), (.tc (.sc (.bool false))), (.tc (.sc (.bool false))), (.tc (.sc (.bool false)))], [(.tc (.sc (.slice none 0 0))), (.tc (.sc (.bool false))), (.tc (.sc (.bool false))), (.tc (.sc (.bool false))), (.tc (.sc (.bool false)))], [(.tc (.sc (.slice none 0 0))), (.tc (.sc (.bool false))), (.tc (.sc (.bool false))), (.tc (.sc (.bool false))), (.tc (.sc (.bool false)))], [(.tc (.sc (.slice none 0 0))), (.tc (.sc (.bool false))), (.tc (.sc (.bool false))), (.tc (.sc (.bool false))), (.tc (.sc (.bool false)))], [(.tc (.sc (.slice none 0 0))), (.tc (.sc (.bool false))), (.tc (.sc (.bool false))), (.tc (.sc (.bool false))), (.tc (.sc (.bool false)))], [(.tc (.sc (.slice none 0 0))), (.tc (.sc (.bool false))), (.tc (.sc (.bool false))), (.tc (.sc (.bool false))), (.tc (.sc (.bool false)))], [(.tc (.sc (.slice none 0 0))), (.tc (.sc (.bool false))), (.tc (.sc (.bool false))), (.tc (.sc (.bool false))), (.tc (.sc (.bool false)))], [(.tc (.sc (.slice none 0 0))), (.tc (.sc (.bool false))), (.tc (.sc (.bool false))), (.tc (.sc (.bool false))), (.tc (.sc (.bool false)))], [(.tc (.sc (.slice none 0 0))), (.tc (.sc (.bool false))), (.tc (.sc (.bool false))), (.tc (.sc (.bool false))), (.tc (.sc (.bool false)))], [(.tc (.sc (.slice none 0 0))), (.tc (.sc (.bool false))), (.tc (.sc (.bool false))), (.tc (.sc (.bool false))), (.tc (.sc (.bool false)))], [(.tc (.sc (.slice none 0 0))), (.tc (.sc (.bool false))), (.tc (.sc (.bool false))), (.tc (.sc (.bool false))), (.tc (.sc (.bool false)))]] [(.mk 0 5 (h0 g48)), (.mk 1 5 (h0 g52)), (.mk 2 5 (h0 g60)), (.mk 3 5 (h1 g0)), (.mk 4 5 (h1 g6)), (.mk 5 5 (h1 g12)), (.mk 6 5 (h1 g13)), (.mk 7 5 (h1 g14)), (.mk 8 5 (h1 g15)), (.mk 9 5 (h1 g16)), (.mk 10 5 (h1 g20)), (.mk 11 5 (h1 g28)), (.mk 12 5 (h1 g29)), (.mk 13 5 (h1 g37)), (.mk 14 5 (h1 g41)), (.mk 15 5 (h1 g49))] (G3 3 14 73)) (some (i1 s50)),
  .mk .none .yes (.mv (h1 g50)) (.mv (h1 g50)) (some (i0 s10))])
 (.seq (.reg [.p (.bs 1 16 [[(.tc (.sc (.int .i64 0)))], [(.tc (.sc (.int .i64 0)))], [(.tc (.sc (.int .i64 0)))], [(.tc (.sc (.int .i64 0)))], [(.tc (.sc (.int .i64 0)))], [(.tc (.sc (.int .i64 0)))], [(.tc (.sc (.int .i64 0)))], [(.tc (.sc (.int .i64 0)))], [(.tc (.sc (.int .i64 0)))], [(.tc (.sc (.int .i64 0)))], [(.tc (.sc (.int .i64 0)))], [(.tc (.sc (.int .i64 0)))], [(.tc (.sc (.int .i64 0)))], [(.tc (.sc (.int .i64 0)))], [(.tc (.sc (.int .i64 0)))], [(.tc (.sc (.int .i64 0)))]] [(.mk 0 1 (kc (.tc (.sc (.int .i64 9))))), (.mk 1 1 (kc (.tc (.sc (.int .i64 9))))), (.mk 2 1 (kc (.tc (.sc (.int .i64 9))))), (.mk 3 1 (kc (.tc (.sc (.int .i64 9))))), (.mk 4 1 (kc (.tc (.sc (.int .i64 10))))), (.mk 5 1 (kc (.tc (.sc (.int .i64 0))))), (.mk 6 1 (kc (.tc (.sc (.int .i64 13))))), (.mk 7 1 (kc (.tc (.sc (.int .i64 0))))), (.mk 8 1 (kc (.tc (.sc (.int .i64 13))))), (.mk 9 1 (kc (.tc (.sc (.int .i64 0))))), (.mk 10 1 (kc (.tc (.sc (.int .i64 9))))), (.mk 11 1 (kc (.tc (.sc (.int .i64 9))))), (.mk 12 1 (kc (.tc (.sc (.int .i64 8))))), (.mk 13 1 (kc (.tc (.sc (.int .i64 0))))), (.mk 14 1 (kc (.tc (.sc (.int .i64 11))))), (.mk 15 1 (kc (.tc (.sc (.int .i64 9)))))] (G3 3 15 0)) (i1 s51),
  .p (.mv (h1 g51)) (i0 s11)])
 (.seq (.seq (.reg [.p (.mv (kc (.tc (.sc (.int .i64 0))))) (i0 s12)])
 (.block 0 (.loop 4294967296 (.seq (.seq (.reg [.p (.mv (h0 g12)) (i1 s52),
  .p (.mv (h0 g10)) (i1 s53),
  .p (.len (h1 g53) (G3 3 17 2)) (i1 s54),
  .p (.bin .lss (h1 g52) (h1 g54) (G3 3 17 3)) (i1 s55)])
 (.cond (h1 g55) .skip
 (.exit 0)))
 (.seq (.block 1 (.seq (.regD [0, 0, 3, 7, 15, 0, 0, 96, 224, 511] [.no, .no, .no, (.rd (.ld true 5 (h1 g60)) (h1 g61)), .no, .no, .no, .no, (.rd (.ld false 1 (h2 g1)) (h2 g2)), .no] [.mk .none .yes (.mv (h0 g10)) (.mv (h0 g10)) (some (i1 s58)),
  .mk .none .yes (.mv (h0 g12)) (.mv (h0 g12)) (some (i1 s59)),
  .mk .none .yes (.ia 5 (h1 g58) (h1 g59) (G3 3 18 2)) (.ia 5 (h1 g58) (h1 g59) (G3 3 18 2)) (some (i1 s60)),
  .mk .none .yes (.ld true 5 (h1 g60)) (.ld true 5 (h1 g60)) (some (i1 s61)),
  .mk .none (.dyn 15 [(h1 g61)]) (.call 15 [(h1 g61)] (G3 3 18 4)) (.call 15 [(h1 g61)] (G3 3 18 4)) (some (i1 s62)),
  .mk .none .yes (.mv (h0 g11)) (.mv (h0 g11)) (some (i1 s63)),
  .mk .none .yes (.mv (h0 g12)) (.mv (h0 g12)) (some (i2 s0)),
  .mk .none .yes (.ia 1 (h1 g63) (h2 g0) (G3 3 18 7)) (.ia 1 (h1 g63) (h2 g0) (G3 3 18 7)) (some (i2 s1)),
  .mk .none .yes (.ld false 1 (h2 g1)) (.ld false 1 (h2 g1)) (some (i2 s2)),
  .mk .none .yes (.bin .neq (h1 g62) (h2 g2) (G3 3 18 9)) (.bin .neq (h1 g62) (h2 g2) (G3 3 18 9)) (some (i2 s3))])
 (.cond (h2 g3) (.seq (.reg [.p (.mv (kc (.tc (.sc (.bool false))))) (i0 s0)])
 .ret)
 .skip)))
 (.reg [.p (.mv (h0 g12)) (i1 s56),
  .p (.bin .add (h1 g56) (kc (.tc (.sc (.int .i64 1)))) (G3 3 20 1)) (i1 s57),
  .p (.mv (h1 g57)) (i0 s12)]))))))
 (.seq (.reg [.p (.bd [(.tc (.sc (.int .u8 0))), (.tc (.sc (.int .u8 0))), (.tc (.sc (.int .u8 0))), (.tc (.sc (.int .u8 0))), (.tc (.sc (.int .u8 0))), (.tc (.sc (.int .u8 0))), (.tc (.sc (.int .u8 0))), (.tc (.sc (.bool false))), (.tc (.sc (.bool false))), (.tc (.sc (.int .u16 0))), (.tc (.sc (.int .i64 0)))] [(.mk 0 1 (kc (.tc (.sc (.int .u8 2))))), (.mk 1 1 (kc (.tc (.sc (.int .u8 1))))), (.mk 2 1 (kc (.tc (.sc (.int .u8 2))))), (.mk 3 1 (kc (.tc (.sc (.int .u8 3)))))] (G3 3 21 0)) (i2 s5),
  .p (.call 13 [(kc (.tc (.sc (.int .u8 0))))] (G3 3 21 1)) (i2 s6),
  .p (.call 13 [(kc (.tc (.sc (.int .u8 1))))] (G3 3 21 2)) (i2 s7),
  .p (.bs 11 3 [[(.tc (.sc (.int .u8 0))), (.tc (.sc (.int .u8 0))), (.tc (.sc (.int .u8 0))), (.tc (.sc (.int .u8 0))), (.tc (.sc (.int .u8 0))), (.tc (.sc (.int .u8 0))), (.tc (.sc (.int .u8 0))), (.tc (.sc (.bool false))), (.tc (.sc (.bool false))), (.tc (.sc (.int .u16 0))), (.tc (.sc (.int .i64 0)))], [(.tc (.sc (.int .u8 0))), (.tc (.sc (.int .u8 0))), (.tc (.sc (.int .u8 0))), (.tc (.sc (.int .u8 0))), (.tc (.sc (.int .u8 0))), (.tc (.sc (.int .u8 0))), (.tc (.sc (.int .u8 0))), (.tc (.sc (.bool false))), (.tc (.sc (.bool false))), (.tc (.sc (.int .u16 0))), (.tc (.sc (.int .i64 0)))], [(.tc (.sc (.int .u8 0))), (.tc (.sc (.int .u8 0))), (.tc (.sc (.int .u8 0))), (.tc (.sc (.int .u8 0))), (.tc (.sc (.int .u8 0))), (.tc (.sc (.int .u8 0))), (.tc (.sc (.int .u8 0))), (.tc (.sc (.bool false))), (.tc (.sc (.bool false))), (.tc (.sc (.int .u16 0))), (.tc (.sc (.int .i64 0)))]] [(.mk 0 11 (h2 g5)), (.mk 1 11 (h2 g6)), (.mk 2 11 (h2 g7))] (G3 3 21 3)) (i2 s8),
  .p (.call 16 [(h2 g8)] (G3 3 21 4)) (i2 s9),
  .p (.mv (h2 g9)) (i2 s4),
  .p (.ex (h2 g4) 0) (i2 s10),
  .p (.ex (h2 g4) 1) (i2 s11),
  .p (.ex (h2 g4) 2) (i2 s12),
  .p (.mv (h2 g10)) (i0 s13),
  .p (.mv (h2 g11)) (i0 s14),
  .p (.mv (h2 g12)) (i0 s15)])
 (.seq (.reg [.p (.mv (h0 g1)) (i2 s14),
  .p (.gen (G3 3 22 1)) (i2 s15),
  .p (.call 13 [(kc (.tc (.sc (.int .u8 1))))] (G3 3 22 2)) (i2 s16),
  .p (.call 13 [(kc (.tc (.sc (.int .u8 2))))] (G3 3 22 3)) (i2 s17),
  .p (.bd [(.tc (.sc (.int .u8 0))), (.tc (.sc (.int .u8 0))), (.tc (.sc (.int .u8 0))), (.tc (.sc (.int .u8 0))), (.tc (.sc (.int .u8 0))), (.tc (.sc (.int .u8 0))), (.tc (.sc (.int .u8 0))), (.tc (.sc (.bool false))), (.tc (.sc (.bool false))), (.tc (.sc (.int .u16 0))), (.tc (.sc (.int .i64 0)))] [(.mk 0 1 (kc (.tc (.sc (.int .u8 23))))), (.mk 1 1 (kc (.tc (.sc (.int .u8 3)))))] (G3 3 22 4)) (i2 s18),
  .p (.bs 11 4 [[(.tc (.sc (.int .u8 0))), (.tc (.sc (.int .u8 0))), (.tc (.sc (.int .u8 0))), (.tc (.sc (.int .u8 0))), (.tc (.sc (.int .u8 0))), (.tc (.sc (.int .u8 0))), (.tc (.sc (.int .u8 0))), (.tc (.sc (.bool false))), (.tc (.sc (.bool false))), (.tc (.sc (.int .u16 0))), (.tc (.sc (.int .i64 0)))], [(.tc (.sc (.int .u8 0))), (.tc (.sc (.int .u8 0))), (.tc (.sc (.int .u8 0))), (.tc (.sc (.int .u8 0))), (.tc (.sc (.int .u8 0))), (.tc (.sc (.int .u8 0))), (.tc (.sc (.int .u8 0))), (.tc (.sc (.bool false))), (.tc (.sc (.bool false))), (.tc (.sc (.int .u16 0))), (.tc (.sc (.int .i64 0)))], [(.tc (.sc (.int .u8 0))), (.tc (.sc (.int .u8 0))), (.tc (.sc (.int .u8 0))), (.tc (.sc (.int .u8 0))), (.tc (.sc (.int .u8 0))), (.tc (.sc (.int .u8 0))), (.tc (.sc (.int .u8 0))), (.tc (.sc (.bool false))), (.tc (.sc (.bool false))), (.tc (.sc (.int .u16 0))), (.tc (.sc (.int .i64 0)))], [(.tc (.sc (.int .u8 0))), (.tc (.sc (.int .u8 0))), (.tc (.sc (.int .u8 0))), (.tc (.sc (.int .u8 0))), (.tc (.sc (.int .u8 0))), (.tc (.sc (.int .u8 0))), (.tc (.sc (.int .u8 0))), (.tc (.sc (.bool false))), (.tc (.sc (.bool false))), (.tc (.sc (.int .u16 0))), (.tc (.sc (.int .i64 0)))]] [(.mk 0 11 (h2 g15)), (.mk 1 11 (h2 g16)), (.mk 2 11 (h2 g17)), (.mk 3 11 (h2 g18))] (G3 3 22 5)) (i2 s19),
  .p (.call 16 [(h2 g19)] (G3 3 22 6)) (i2 s20),
  .p (.mv (h2 g20)) (i2 s13),
  .p (.ex (h2 g13) 0) (i2 s21),
  .p (.ex (h2 g13) 1) (i2 s22),
  .p (.ex (h2 g13) 2) (i2 s23),
  .p (.mv (h2 g21)) (i0 s16),
  .p (.mv (h2 g22)) (i0 s17),
  .p (.mv (h2 g23)) (i0 s18)])
 (.seq (.regD [0, 0, 3, 7, 15, 31, 31, 31, 63, 383, 1023] [.no, (.rd (.ld true 11 (h0 g4)) (h2 g26)), .no, .no, .no, .no, .no, .no, .no, .no, .no] [.mk .none (.dyn 13 [(kc (.tc (.sc (.int .u8 0))))]) (.call 13 [(kc (.tc (.sc (.int .u8 0))))] (G3 3 23 0)) (.call 13 [(kc (.tc (.sc (.int .u8 0))))] (G3 3 23 0)) (some (i2 s25)),
  .mk .none .yes (.ld true 11 (h0 g4)) (.ld true 11 (h0 g4)) (some (i2 s26)),
  .mk .none (.gen (G3 3 23 2)) (.bt 11 [[(.tc (.sc (.int .u8 0))), (.tc (.sc (.int .u8 0))), (.tc (.sc (.int .u8 0))), (.tc (.sc (.int .u8 0))), (.tc (.sc (.int .u8 0))), (.tc (.sc (.int .u8 0))), (.tc (.sc (.int .u8 0))), (.tc (.sc (.bool false))), (.tc (.sc (.bool false))), (.tc (.sc (.int .u16 0))), (.tc (.sc (.int .i64 0)))], [(.tc (.sc (.int .u8 0))), (.tc (.sc (.int .u8 0))), (.tc (.sc (.int .u8 0))), (.tc (.sc (.int .u8 0))), (.tc (.sc (.int .u8 0))), (.tc (.sc (.int .u8 0))), (.tc (.sc (.int .u8 0))), (.tc (.sc (.bool false))), (.tc (.sc (.bool false))), (.tc (.sc (.int .u16 0))), (.tc (.sc (.int .i64 0)))]] [(.mk 0 11 (h2 g25)), (.mk 1 11 (h2 g26))] (G3 3 23 2)) (.bs 11 2 [[(.tc (.sc (.int .u8 0))), (.tc (.sc (.int .u8 0))), (.tc (.sc (.int .u8 0))), (.tc (.sc (.int .u8 0))), (.tc (.sc (.int .u8 0))), (.tc (.sc (.int .u8 0))), (.tc (.sc (.int .u8 0))), (.tc (.sc (.bool false))), (.tc (.sc (.bool false))), (.tc (.sc (.int .u16 0))), (.tc (.sc (.int .i64 0)))], [(.tc (.sc (.int .u8 0))), (.tc (.sc (.int .u8 0))), (.tc (.sc (.int .u8 0))), (.tc (.sc (.int .u8 0))), (.tc (.sc (.int .u8 0))), (.tc (.sc (.int .u8 0))), (.tc (.sc (.int .u8 0))), (.tc (.sc (.bool false))), (.tc (.sc (.bool false))), (.tc (.sc (.int .u16 0))), (.tc (.sc (.int .i64 0)))]] [(.mk 0 11 (h2 g25)), (.mk 1 11 (h2 g26))] (G3 3 23 2)) (some (i2 s27)),
  .mk .none (.dyn 16 [(h2 g27)]) (.call 16 [(h2 g27)] (G3 3 23 3)) (.call 16 [(h2 g27)] (G3 3 23 3)) (some (i2 s28)),
  .mk .none .yes (.mv (h2 g28)) (.mv (h2 g28)) (some (i2 s24)),
  .mk .none .yes (.ex (h2 g24) 0) (.ex (h2 g24) 0) (some (i2 s29)),
  .mk .none .yes (.ex (h2 g24) 1) (.ex (h2 g24) 1) (some (i2 s30)),
  .mk .none .yes (.ex (h2 g24) 2) (.ex (h2 g24) 2) (some (i2 s31)),
  .mk .none .yes (.mv (h2 g29)) (.mv (h2 g29)) (some (i0 s19)),
  .mk .none .yes (.mv (h2 g30)) (.mv (h2 g30)) (some (i0 s20)),
  .mk .none .yes (.mv (h2 g31)) (.mv (h2 g31)) (some (i0 s21))])
 (.seq (.reg [.p (.mv (h0 g13)) (i2 s32),
  .p (.bin .eql (h2 g32) (kc (.tc (.sc (.int .i64 1)))) (G3 3 24 1)) (i2 s33),
  .p (.mv (h2 g33)) (i2 s34),
  .gp (h2 g34) true (.mv (h0 g14)) (i2 s35),
  .gp (h2 g34) true (.bin .eql (h2 g35) (kc (.tc (.sc (.int .i64 2)))) (G3 3 24 4)) (i2 s36),
  .p (.pk (h2 g34) (h2 g36) (kc (.tc (.sc (.bool false))))) (i2 s37),
  .p (.mv (h2 g37)) (i2 s38),
  .gp (h2 g38) true (.mv (h0 g15)) (i2 s39),
  .p (.pk (h2 g38) (h2 g39) (kc (.tc (.sc (.bool false))))) (i2 s40),
  .p (.mv (h2 g40)) (i2 s41),
  .gp (h2 g41) true (.mv (h0 g16)) (i2 s42),
  .gp (h2 g41) true (.bin .eql (h2 g42) (kc (.tc (.sc (.int .i64 0)))) (G3 3 24 11)) (i2 s43),
  .p (.pk (h2 g41) (h2 g43) (kc (.tc (.sc (.bool false))))) (i2 s44),
  .p (.mv (h2 g44)) (i2 s45),
  .gp (h2 g45) true (.mv (h0 g17)) (i2 s46),
  .gp (h2 g45) true (.bin .eql (h2 g46) (kc (.tc (.sc (.int .i64 3)))) (G3 3 24 15)) (i2 s47),
  .p (.pk (h2 g45) (h2 g47) (kc (.tc (.sc (.bool false))))) (i2 s48),
  .p (.mv (h2 g48)) (i2 s49),
  .gp (h2 g49) true (.mv (h0 g18)) (i2 s50),
  .p (.pk (h2 g49) (h2 g50) (kc (.tc (.sc (.bool false))))) (i2 s51),
  .p (.mv (h2 g51)) (i2 s52),
  .gp (h2 g52) true (.mv (h0 g21)) (i2 s53),
  .gp (h2 g52) true (.nt (h2 g53) (G3 3 24 22)) (i2 s54),
  .p (.pk (h2 g52) (h2 g54) (kc (.tc (.sc (.bool false))))) (i2 s55),
  .p (.mv (h2 g55)) (i2 s56),
  .gp (h2 g56) true (.ld true 5 (h0 g9)) (i2 s57),
  .gp (h2 g56) true (.call 17 [(h2 g57)] (G3 3 24 26)) (i2 s58),
  .gp (h2 g56) true (.nt (h2 g58) (G3 3 24 27)) (i2 s59),
  .p (.pk (h2 g56) (h2 g59) (kc (.tc (.sc (.bool false))))) (i2 s60),
  .p (.mv (h2 g60)) (i2 s61),
  .gp (h2 g61) true (.call 18 [] (G3 3 24 30)) (i2 s62),
  .p (.pk (h2 g61) (h2 g62) (kc (.tc (.sc (.bool false))))) (i2 s63),
  .p (.mv (h2 g63)) (i0 s0)])
 .ret))))))))))))))))))))),
 [.tmp (h0 g0)]⟩
theorem ff3_ok : compF SBLegalKnown 3 = ff3 := by kernel_rfl
noncomputable def ff10 : FF := .t2 ⟨5,
 (.seq (.reg [.p (.al 11 [(.sc (.int .u8 0)), (.sc (.int .u8 0)), (.sc (.int .u8 0)), (.sc (.int .u8 0)), (.sc (.int .u8 0)), (.sc (.int .u8 0)), (.sc (.int .u8 0)), (.sc (.bool false)), (.sc (.bool false)), (.sc (.int .u16 0)), (.sc (.int .i64 0))]) s2])
 (.seq (.reg [.p (.mv g0) s3,
  .p (.bd [(.tc (.sc (.int .u8 0))), (.tc (.sc (.int .u8 0))), (.tc (.sc (.int .u8 0))), (.tc (.sc (.int .u8 0))), (.tc (.sc (.int .u8 0))), (.tc (.sc (.int .u8 0))), (.tc (.sc (.int .u8 0))), (.tc (.sc (.bool false))), (.tc (.sc (.bool false))), (.tc (.sc (.int .u16 0))), (.tc (.sc (.int .i64 0)))] [(.mk 0 1 (kc (.tc (.sc (.int .u8 21))))), (.mk 1 1 g3)] (G2 10 1 1)) s4,
  .n (.st 11 g2 g4 (G2 10 1 2))])
 .ret)),
 [.cell g2 true 11]⟩
theorem ff10_ok : compF SBLegalKnown 10 = ff10 := by kernel_rfl
noncomputable def ff11 : FF := .t2 ⟨5,
 (.seq (.reg [.p (.al 11 [(.sc (.int .u8 0)), (.sc (.int .u8 0)), (.sc (.int .u8 0)), (.sc (.int .u8 0)), (.sc (.int .u8 0)), (.sc (.int .u8 0)), (.sc (.int .u8 0)), (.sc (.bool false)), (.sc (.bool false)), (.sc (.int .u16 0)), (.sc (.int .i64 0))]) s2])
 (.seq (.reg [.p (.mv g0) s3,
  .p (.bd [(.tc (.sc (.int .u8 0))), (.tc (.sc (.int .u8 0))), (.tc (.sc (.int .u8 0))), (.tc (.sc (.int .u8 0))), (.tc (.sc (.int .u8 0))), (.tc (.sc (.int .u8 0))), (.tc (.sc (.int .u8 0))), (.tc (.sc (.bool false))), (.tc (.sc (.bool false))), (.tc (.sc (.int .u16 0))), (.tc (.sc (.int .i64 0)))] [(.mk 0 1 (kc (.tc (.sc (.int .u8 15))))), (.mk 1 1 g3)] (G2 11 1 1)) s4,
  .n (.st 11 g2 g4 (G2 11 1 2))])
 .ret)),
 [.cell g2 true 11]⟩
theorem ff11_ok : compF SBLegalKnown 11 = ff11 := by kernel_rfl
noncomputable def ff12 : FF := .t2 ⟨5,
 (.seq (.reg [.p (.al 5 [(.sc (.slice none 0 0)), (.sc (.bool false)), (.sc (.bool false)), (.sc (.bool false)), (.sc (.bool false))]) s2])
 (.seq (.reg [.p (.mv g0) s3,
  .p (.bd [(.tc (.sc (.slice none 0 0))), (.tc (.sc (.bool false))), (.tc (.sc (.bool false))), (.tc (.sc (.bool false))), (.tc (.sc (.bool false)))] [(.mk 0 1 g3)] (G2 12 1 1)) s4,
  .n (.st 5 g2 g4 (G2 12 1 2))])
 .ret)),
 [.cell g2 true 5]⟩
theorem ff12_ok : compF SBLegalKnown 12 = ff12 := by kernel_rfl
noncomputable def ff13 : FF := .t2 ⟨5,
 (.seq (.reg [.p (.al 11 [(.sc (.int .u8 0)), (.sc (.int .u8 0)), (.sc (.int .u8 0)), (.sc (.int .u8 0)), (.sc (.int .u8 0)), (.sc (.int .u8 0)), (.sc (.int .u8 0)), (.sc (.bool false)), (.sc (.bool false)), (.sc (.int .u16 0)), (.sc (.int .i64 0))]) s2])
 (.seq (.reg [.p (.mv g0) s3,
  .p (.bd [(.tc (.sc (.int .u8 0))), (.tc (.sc (.int .u8 0))), (.tc (.sc (.int .u8 0))), (.tc (.sc (.int .u8 0))), (.tc (.sc (.int .u8 0))), (.tc (.sc (.int .u8 0))), (.tc (.sc (.int .u8 0))), (.tc (.sc (.bool false))), (.tc (.sc (.bool false))), (.tc (.sc (.int .u16 0))), (.tc (.sc (.int .i64 0)))] [(.mk 0 1 (kc (.tc (.sc (.int .u8 8))))), (.mk 1 1 g3)] (G2 13 1 1)) s4,
  .n (.st 11 g2 g4 (G2 13 1 2))])
 .ret)),
 [.cell g2 true 11]⟩
theorem ff13_ok : compF SBLegalKnown 13 = ff13 := by kernel_rfl
noncomputable def ff14 : FF := .t2 ⟨5,
 (.seq (.reg [.p (.al 5 [(.sc (.slice none 0 0)), (.sc (.bool false)), (.sc (.bool false)), (.sc (.bool false)), (.sc (.bool false))]) s2])
 (.seq (.reg [.p (.mv g0) s3,
  .p (.bd [(.tc (.sc (.slice none 0 0))), (.tc (.sc (.bool false))), (.tc (.sc (.bool false))), (.tc (.sc (.bool false))), (.tc (.sc (.bool false)))] [(.mk 0 1 g3), (.mk 4 1 (kc (.tc (.sc (.bool true)))))] (G2 14 1 1)) s4,
  .n (.st 5 g2 g4 (G2 14 1 2))])
 .ret)),
 [.cell g2 true 5]⟩
theorem ff14_ok : compF SBLegalKnown 14 = ff14 := by kernel_rfl
noncomputable def ff15 : FF := .t2 ⟨26,
 (.seq (.reg [.p (.bx 5 g0 (G2 15 0 0)) s1,
  .p (.mv (kc (.tc (.sc (.int .i64 0))))) s2])
 (.seq (.reg [.p (.ld true 5 g1) s4,
  .p (.call 33 [g4] (G2 15 1 1)) s5,
  .p (.mv g5) s3])
 (.seq (.block 0 (.seq (.reg [.p (.mv g3) s7,
  .p (.bin .eql g7 (kc (.tc (.sc (.int .i64 8)))) (G2 15 2 1)) s8,
  .p (.mv g8) s6])
 (.cond g6 (.seq (.reg [.p (.mv g3) s9,
  .p (.mv g9) s2])
 .ret)
 (.seq (.reg [.p (.ld true 5 g1) s11,
  .p (.call 34 [g11] (G2 15 4 1)) s12,
  .p (.nt g12 (G2 15 4 2)) s13,
  .p (.mv g13) s10])
 (.cond g10 (.seq (.reg [.p (.mv (kc (.tc (.sc (.int .i64 9))))) s2])
 .ret)
 (.seq (.reg [.p (.ld true 5 g1) s15,
  .p (.call 35 [g15] (G2 15 6 1)) s16,
  .p (.bin .gtr g16 (kc (.tc (.sc (.int .i64 4)))) (G2 15 6 2)) s17,
  .p (.mv g17) s14])
 (.cond g14 (.seq (.reg [.p (.mv (kc (.tc (.sc (.int .i64 10))))) s2])
 .ret)
 (.seq (.reg [.p (.mv g3) s19,
  .p (.bin .neq g19 (kc (.tc (.sc (.int .i64 0)))) (G2 15 8 1)) s20,
  .p (.mv g20) s18])
 (.cond g18 (.seq (.reg [.p (.mv g3) s21,
  .p (.mv g21) s2])
 .ret)
 (.seq (.reg [.p (.ld true 5 g1) s23,
  .p (.call 36 [g23] (G2 15 10 1)) s24,
  .p (.nt g24 (G2 15 10 2)) s25,
  .p (.mv g25) s22])
 (.cond g22 (.seq (.reg [.p (.mv (kc (.tc (.sc (.int .i64 13))))) s2])
 .ret)
 .skip)))))))))))
 (.seq (.reg [.p (.mv (kc (.tc (.sc (.int .i64 0))))) s2])
 .ret)))),
 [.tmp g2]⟩
theorem ff15_ok : compF SBLegalKnown 15 = ff15 := by kernel_rfl
noncomputable def ff33 : FF := .t3 ⟨65,
 (.seq (.reg [.p (.bx 5 (h0 g0) (G3 33 0 0)) (i0 s1),
  .p (.mv (kc (.tc (.sc (.int .i64 0))))) (i0 s2)])
 (.seq (.reg [.p (.fa 0 (h0 g1)) (i0 s7),
  .p (.ld false 1 (h0 g7)) (i0 s8),
  .p (.al 1 [(.sc (.slice none 0 0))]) (i0 s3),
  .n (.st 1 (h0 g3) (h0 g8) (G3 33 1 3))])
 (.seq (.reg [.p (.mv (kc (.tc (.sc (.int .i64 0))))) (i0 s4)])
 (.seq (.seq (.reg [.p (.ld false 1 (h0 g3)) (i0 s9),
  .p (.len (h0 g9) (G3 33 3 1)) (i0 s10),
  .p (.mv (kc (.tc (.sc (.int .i64 0))))) (i0 s11)])
 (.block 0 (.loop 4294967296 (.seq (.reg [.p (.bin .lss (h0 g11) (h0 g10) (G3 33 4 0)) (i0 s12)])
 (.seq (.cond (h0 g12) .skip
 (.exit 0))
 (.seq (.block 1 (.seq (.reg [.p (.ia 11 (h0 g9) (h0 g11) (G3 33 5 0)) (i0 s13),
  .p (.ld true 11 (h0 g13)) (i0 s14),
  .p (.al 11 [(.sc (.int .u8 0)), (.sc (.int .u8 0)), (.sc (.int .u8 0)), (.sc (.int .u8 0)), (.sc (.int .u8 0)), (.sc (.int .u8 0)), (.sc (.int .u8 0)), (.sc (.bool false)), (.sc (.bool false)), (.sc (.int .u16 0)), (.sc (.int .i64 0))]) (i0 s6),
  .n (.st 11 (h0 g6) (h0 g14) (G3 33 5 3))])
 (.seq (.regD [0, 1, 0, 7] [.no, .no, (.rd (.ld true 11 (h0 g6)) (h0 g17)), .no] [.mk .none (.gen (G3 33 6 0)) (.bt 1 [[(.tc (.sc (.int .u8 0)))]] [(.mk 0 1 (kc (.tc (.sc (.int .u8 5)))))] (G3 33 6 0)) (.bs 1 1 [[(.tc (.sc (.int .u8 0)))]] [(.mk 0 1 (kc (.tc (.sc (.int .u8 5)))))] (G3 33 6 0)) (some (i0 s15)),
  .mk .none (.dyn 54 [(h0 g15)]) (.call 54 [(h0 g15)] (G3 33 6 1)) (.call 54 [(h0 g15)] (G3 33 6 1)) (some (i0 s16)),
  .mk .none .yes (.ld true 11 (h0 g6)) (.ld true 11 (h0 g6)) (some (i0 s17)),
  .mk .none (.gen (G3 33 6 3)) (.gen (G3 33 6 3)) (.gen (G3 33 6 3)) (some (i0 s18))])
 (.cond (h0 g18) (.reg [.p (.mv (h0 g4)) (i0 s19),
  .p (.bin .add (h0 g19) (kc (.tc (.sc (.int .i64 1)))) (G3 33 7 1)) (i0 s20),
  .p (.mv (h0 g20)) (i0 s4)])
 .skip))))
 (.reg [.p (.bin .add (h0 g11) (kc (.tc (.sc (.int .i64 1)))) (G3 33 8 0)) (i0 s21),
  .p (.mv (h0 g21)) (i0 s11)])))))))
 (.seq (.block 2 (.seq (.reg [.p (.ld false 1 (h0 g3)) (i0 s23),
  .p (.len (h0 g23) (G3 33 9 1)) (i0 s24),
  .p (.bin .lss (h0 g24) (kc (.tc (.sc (.int .i64 1)))) (G3 33 9 2)) (i0 s25),
  .p (.mv (h0 g25)) (i0 s26),
  .gp (h0 g26) false (.ld false 1 (h0 g3)) (i0 s27),
  .gp (h0 g26) false (.len (h0 g27) (G3 33 9 5)) (i0 s28),
  .gp (h0 g26) false (.bin .gtr (h0 g28) (kc (.tc (.sc (.int .i64 4)))) (G3 33 9 6)) (i0 s29),
  .p (.pk (h0 g26) (kc (.tc (.sc (.bool true)))) (h0 g29)) (i0 s30),
  .p (.mv (h0 g30)) (i0 s31),
  .gp (h0 g31) false (.fa 3 (h0 g1)) (i0 s32),
  .gp (h0 g31) false (.ld false 1 (h0 g32)) (i0 s33),
  .gp (h0 g31) false (.mv (h0 g33)) (i0 s34),
  .gp (h0 g34) true (.fa 4 (h0 g1)) (i0 s35),
  .gp (h0 g34) true (.ld false 1 (h0 g35)) (i0 s36),
  .gp (h0 g31) false (.pk (h0 g34) (h0 g36) (kc (.tc (.sc (.bool false))))) (i0 s37),
  .p (.pk (h0 g31) (kc (.tc (.sc (.bool true)))) (h0 g37)) (i0 s38),
  .p (.mv (h0 g38)) (i0 s22)])
 (.cond (h0 g22) (.seq (.reg [.p (.mv (kc (.tc (.sc (.int .i64 8))))) (i0 s2)])
 .ret)
 (.seq (.reg [.p (.ld false 1 (h0 g3)) (i0 s40),
  .p (.call 55 [(h0 g40), (kc (.tc (.sc (.func (.func 56) #[] #[]))))] (G3 33 11 1)) (i0 s41),
  .p (.mv (h0 g41)) (i0 s39)])
 (.cond (h0 g39) (.seq (.reg [.p (.mv (kc (.tc (.sc (.int .i64 8))))) (i0 s2)])
 .ret)
 (.seq (.reg [.p (.mv (h0 g4)) (i0 s43),
  .p (.bin .gtr (h0 g43) (kc (.tc (.sc (.int .i64 1)))) (G3 33 13 1)) (i0 s44),
  .p (.mv (h0 g44)) (i0 s42)])
 (.cond (h0 g42) (.seq (.reg [.p (.mv (kc (.tc (.sc (.int .i64 14))))) (i0 s2)])
 .ret)
 (.seq (.reg [.p (.ld false 1 (h0 g3)) (i0 s46),
  .p (.call 57 [(h0 g46)] (G3 33 15 1)) (i0 s47),
  .p (.mv (h0 g47)) (i0 s45)])
 (.cond (h0 g45) (.seq (.reg [.p (.mv (kc (.tc (.sc (.int .i64 11))))) (i0 s2)])
 .ret)
 (.seq (.reg [.p (.ld false 1 (h0 g3)) (i0 s49),
  .p (.mf (.func 58) [] [(h0 g3)]) (i0 s50),
  .p (.call 55 [(h0 g49), (h0 g50)] (G3 33 17 2)) (i0 s51),
  .p (.mv (h0 g51)) (i0 s48)])
 (.cond (h0 g48) (.seq (.reg [.p (.mv (kc (.tc (.sc (.int .i64 12))))) (i0 s2)])
 .ret)
 (.seq (.regD [0, 1, 3, 7, 15, 31, 63, 127, 127, 383, 1023, 2047, 4095] [.no, (.rd (.ld false 1 (h0 g53)) (h0 g54)), .no, .no, (.rd (.ld false 1 (h0 g56)) (h0 g57)), .no, .no, (.rd (.ld false 1 (h0 g3)) (h0 g60)), .no, .no, .no, .no, .no] [.mk .none .yes (.fa 1 (h0 g1)) (.fa 1 (h0 g1)) (some (i0 s53)),
  .mk .none .yes (.ld false 1 (h0 g53)) (.ld false 1 (h0 g53)) (some (i0 s54)),
  .mk .none .yes (.mv (h0 g54)) (.mv (h0 g54)) (some (i0 s55)),
  .mk (.on (h0 g55) false) .yes (.fa 2 (h0 g1)) (.fa 2 (h0 g1)) (some (i0 s56)),
  .mk (.on (h0 g55) false) .yes (.ld false 1 (h0 g56)) (.ld false 1 (h0 g56)) (some (i0 s57)),
  .mk .none .yes (.pk (h0 g55) (kc (.tc (.sc (.bool true)))) (h0 g57)) (.pk (h0 g55) (kc (.tc (.sc (.bool true)))) (h0 g57)) (some (i0 s58)),
  .mk .none .yes (.mv (h0 g58)) (.mv (h0 g58)) (some (i0 s59)),
  .mk (.on (h0 g59) true) .yes (.ld false 1 (h0 g3)) (.ld false 1 (h0 g3)) (some (i0 s60)),
  .mk (.on (h0 g59) true) (.gen (G3 33 19 8)) (.bt 1 [[(.tc (.sc (.int .u8 0)))], [(.tc (.sc (.int .u8 0)))]] [(.mk 0 1 (kc (.tc (.sc (.int .u8 5))))), (.mk 1 1 (kc (.tc (.sc (.int .u8 6)))))] (G3 33 19 8)) (.bs 1 2 [[(.tc (.sc (.int .u8 0)))], [(.tc (.sc (.int .u8 0)))]] [(.mk 0 1 (kc (.tc (.sc (.int .u8 5))))), (.mk 1 1 (kc (.tc (.sc (.int .u8 6)))))] (G3 33 19 8)) (some (i0 s61)),
  .mk (.on (h0 g59) true) (.dyn 54 [(h0 g61)]) (.call 54 [(h0 g61)] (G3 33 19 9)) (.call 54 [(h0 g61)] (G3 33 19 9)) (some (i0 s62)),
  .mk (.on (h0 g59) true) (.dyn 55 [(h0 g60), (h0 g62)]) (.call 55 [(h0 g60), (h0 g62)] (G3 33 19 10)) (.call 55 [(h0 g60), (h0 g62)] (G3 33 19 10)) (some (i0 s63)),
  .mk .none .yes (.pk (h0 g59) (h0 g63) (kc (.tc (.sc (.bool false))))) (.pk (h0 g59) (h0 g63) (kc (.tc (.sc (.bool false))))) (some (i1 s0)),
  .mk .none .yes (.mv (h1 g0)) (.mv (h1 g0)) (some (i0 s52))])
 (.cond (h0 g52) (.seq (.reg [.p (.mv (kc (.tc (.sc (.int .i64 13))))) (i0 s2)])
 .ret)
 .skip)))))))))))))
 (.seq (.reg [.p (.mv (kc (.tc (.sc (.int .i64 0))))) (i0 s2)])
 .ret)))))),
 [.tmp (h0 g2)]⟩
theorem ff33_ok : compF SBLegalKnown 33 = ff33 := by kernel_rfl
noncomputable def ff54 : FF := .t2 ⟨4,
 (.seq (.reg [.p (.bx 1 g0 (G2 54 0 0)) s1,
  .p (.mv (kc (.tc (.sc .nilFunc)))) s2])
 (.seq (.reg [.p (.mf (.func 74) [] [g1]) s3,
  .p (.mv g3) s2])
 .ret)),
 [.tmp g2]⟩
theorem ff54_ok : compF SBLegalKnown 54 = ff54 := by kernel_rfl
noncomputable def ff74 : FF := .t2 ⟨8,
 (.seq (.reg [.p (.bx 11 g0 (G2 74 0 0)) s2,
  .p (.mv (kc (.tc (.sc (.bool false))))) s3])
 (.seq (.regD [0, 0, 2, 7, 15] [(.rd (.ld false 1 g1) g4), (.rd (.ld true 11 g2) g5), .no, .no, .no] [.mk .none .yes (.ld false 1 g1) (.ld false 1 g1) (some s4),
  .mk .none .yes (.ld true 11 g2) (.ld true 11 g2) (some s5),
  .mk .none (.dyn 71 [g5]) (.call 71 [g5] (G2 74 1 2)) (.call 71 [g5] (G2 74 1 2)) (some s6),
  .mk .none (.dyn 75 [g4, g6]) (.call 75 [g4, g6] (G2 74 1 3)) (.call 75 [g4, g6] (G2 74 1 3)) (some s7),
  .mk .none .yes (.mv g7) (.mv g7) (some s3)])
 .ret)),
 [.tmp g3]⟩
theorem ff74_ok : compF SBLegalKnown 74 = ff74 := by kernel_rfl
noncomputable def ff71 : FF := .t2 ⟨13,
 (.seq (.reg [.p (.bx 11 g0 (G2 71 0 0)) s1,
  .p (.mv (kc (.tc (.sc (.int .u8 0))))) s2])
 (.seq (.reg [.p (.fa 0 g1) s6,
  .p (.ld false 1 g6) s7,
  .p (.call 42 [g7] (G2 71 1 2)) s8,
  .p (.mv g8) s5,
  .p (.ex g5 0) s9,
  .p (.ex g5 1) s10,
  .p (.al 5 [(.sc (.int .u8 0)), (.sc (.string ⟨#[]⟩)), (.sc (.int .u8 0)), (.sc (.int .u8 0)), (.sc (.slice none 0 0))]) s3,
  .n (.st 5 g3 g9 (G2 71 1 7)),
  .p (.mv g10) s4])
 (.seq (.reg [.p (.fa 2 g3) s11,
  .p (.ld false 1 g11) s12,
  .p (.mv g12) s2])
 .ret))),
 [.tmp g2]⟩
theorem ff71_ok : compF SBLegalKnown 71 = ff71 := by kernel_rfl
noncomputable def ff42 : FF := .t2 ⟨17,
 (.seq (.reg [.p (.al 5 [(.sc (.int .u8 0)), (.sc (.string ⟨#[]⟩)), (.sc (.int .u8 0)), (.sc (.int .u8 0)), (.sc (.slice none 0 0))]) s2,
  .p (.mv (kc (.tc (.sc (.bool false))))) s3])
 (.seq (.reg [.p (.mv g0) s7,
  .p (.call 67 [g7] (G2 42 1 1)) s8,
  .p (.mv g8) s6,
  .p (.ex g6 0) s9,
  .p (.ex g6 1) s10,
  .p (.al 5 [(.sc (.int .u8 0)), (.sc (.string ⟨#[]⟩)), (.sc (.int .u8 0)), (.sc (.int .u8 0)), (.sc (.slice none 0 0))]) s4,
  .n (.st 5 g4 g9 (G2 42 1 6)),
  .p (.mv g10) s5])
 (.seq (.reg [.p (.fa 4 g4) s11,
  .p (.ld false 1 g11) s12,
  .p (.call 68 [g12] (G2 42 2 2)) s13,
  .p (.fa 4 g4) s14,
  .n (.st 1 g14 g13 (G2 42 2 4))])
 (.seq (.reg [.p (.ld true 5 g4) s15,
  .p (.mv g5) s16,
  .n (.st 5 g2 g15 (G2 42 3 2)),
  .p (.mv g16) s3])
 .ret)))),
 [.cell g2 true 5, .tmp g3]⟩
theorem ff42_ok : compF SBLegalKnown 42 = ff42 := by kernel_rfl
noncomputable def ff67 : FF := .t2 ⟨21,
 (.seq (.reg [.p (.al 5 [(.sc (.int .u8 0)), (.sc (.string ⟨#[]⟩)), (.sc (.int .u8 0)), (.sc (.int .u8 0)), (.sc (.slice none 0 0))]) s2,
  .p (.mv (kc (.tc (.sc (.bool false))))) s3])
 (.seq (.reg [.p (.call 88 [] (G2 67 1 0)) s5,
  .p (.mv g5) s4])
 (.seq (.seq (.reg [.p (.mv g0) s6,
  .p (.bin .lss g6 (kc (.tc (.sc (.int .u8 1)))) (G2 67 2 1)) s7,
  .p (.mv g7) s8,
  .gp g8 false (.mv g0) s9,
  .gp g8 false (.cv .i64 g9 (G2 67 2 4)) s10,
  .gp g8 false (.mv g4) s11,
  .gp g8 false (.len g11 (G2 67 2 6)) s12,
  .gp g8 false (.bin .gtr g10 g12 (G2 67 2 7)) s13,
  .p (.pk g8 (kc (.tc (.sc (.bool true)))) g13) s14])
 (.cond g14 (.seq (.reg [.p (.bd [(.tc (.sc (.int .u8 0))), (.tc (.sc (.string ⟨#[]⟩))), (.tc (.sc (.int .u8 0))), (.tc (.sc (.int .u8 0))), (.tc (.sc (.slice none 0 0)))] [] (G2 67 3 0)) s15,
  .n (.st 5 g2 g15 (G2 67 3 1)),
  .p (.mv (kc (.tc (.sc (.bool false))))) s3])
 .ret)
 .skip))
 (.seq (.reg [.p (.mv g4) s16,
  .p (.mv g0) s17,
  .p (.bin .sub g17 (kc (.tc (.sc (.int .u8 1)))) (G2 67 4 2)) s18,
  .p (.ia 5 g16 g18 (G2 67 4 3)) s19,
  .p (.ld true 5 g19) s20,
  .n (.st 5 g2 g20 (G2 67 4 5)),
  .p (.mv (kc (.tc (.sc (.bool true))))) s3])
 .ret)))),
 [.cell g2 true 5, .tmp g3]⟩
theorem ff67_ok : compF SBLegalKnown 67 = ff67 := by kernel_rfl
noncomputable def ff88 : FF := .t3 ⟨158,
 (.seq (.reg [.p (.mv (kc (.tc (.sc (.slice none 0 0))))) (i0 s0)])
 (.seq (.reg [.p (.call 93 [(kc (.tc (.sc (.int .u8 1)))), (kc (.tc (.sc (.string ⟨#[110, 111, 112]⟩)))), (kc (.tc (.sc (.int .u8 1)))), (kc (.tc (.sc (.slice none 0 0))))] (G3 88 1 0)) (i0 s1),
  .p (.call 94 [] (G3 88 1 1)) (i0 s2),
  .p (.call 95 [] (G3 88 1 2)) (i0 s3),
  .p (.call 96 [] (G3 88 1 3)) (i0 s4),
  .p (.call 97 [] (G3 88 1 4)) (i0 s5),
  .p (.bs 1 4 [[(.tc (.sc (.slice none 0 0)))], [(.tc (.sc (.slice none 0 0)))], [(.tc (.sc (.slice none 0 0)))], [(.tc (.sc (.slice none 0 0)))]] [(.mk 0 1 (h0 g2)), (.mk 1 1 (h0 g3)), (.mk 2 1 (h0 g4)), (.mk 3 1 (h0 g5))] (G3 88 1 5)) (i0 s6),
  .p (.call 93 [(kc (.tc (.sc (.int .u8 2)))), (kc (.tc (.sc (.string ⟨#[97, 100, 100]⟩)))), (kc (.tc (.sc (.int .u8 1)))), (h0 g6)] (G3 88 1 6)) (i0 s7),
  .p (.call 94 [] (G3 88 1 7)) (i0 s8),
  .p (.call 95 [] (G3 88 1 8)) (i0 s9),
  .p (.call 96 [] (G3 88 1 9)) (i0 s10),
  .p (.call 97 [] (G3 88 1 10)) (i0 s11),
  .p (.bs 1 4 [[(.tc (.sc (.slice none 0 0)))], [(.tc (.sc (.slice none 0 0)))], [(.tc (.sc (.slice none 0 0)))], [(.tc (.sc (.slice none 0 0)))]] [(.mk 0 1 (h0 g8)), (.mk 1 1 (h0 g9)), (.mk 2 1 (h0 g10)), (.mk 3 1 (h0 g11))] (G3 88 1 11)) (i0 s12),
  .p (.call 93 [(kc (.tc (.sc (.int .u8 3)))), (kc (.tc (.sc (.string ⟨#[115, 117, 98]⟩)))), (kc (.tc (.sc (.int .u8 1)))), (h0 g12)] (G3 88 1 12)) (i0 s13),
  .p (.call 94 [] (G3 88 1 13)) (i0 s14),
  .p (.call 95 [] (G3 88 1 14)) (i0 s15),
  .p (.call 96 [] (G3 88 1 15)) (i0 s16),
  .p (.call 97 [] (G3 88 1 16)) (i0 s17),
  .p (.bs 1 4 [[(.tc (.sc (.slice none 0 0)))], [(.tc (.sc (.slice none 0 0)))], [(.tc (.sc (.slice none 0 0)))], [(.tc (.sc (.slice none 0 0)))]] [(.mk 0 1 (h0 g14)), (.mk 1 1 (h0 g15)), (.mk 2 1 (h0 g16)), (.mk 3 1 (h0 g17))] (G3 88 1 17)) (i0 s18),
  .p (.call 93 [(kc (.tc (.sc (.int .u8 4)))), (kc (.tc (.sc (.string ⟨#[97, 110, 100]⟩)))), (kc (.tc (.sc (.int .u8 1)))), (h0 g18)] (G3 88 1 18)) (i0 s19),
  .p (.call 94 [] (G3 88 1 19)) (i0 s20),
  .p (.call 95 [] (G3 88 1 20)) (i0 s21),
  .p (.call 96 [] (G3 88 1 21)) (i0 s22),
  .p (.call 97 [] (G3 88 1 22)) (i0 s23),
  .p (.bs 1 4 [[(.tc (.sc (.slice none 0 0)))], [(.tc (.sc (.slice none 0 0)))], [(.tc (.sc (.slice none 0 0)))], [(.tc (.sc (.slice none 0 0)))]] [(.mk 0 1 (h0 g20)), (.mk 1 1 (h0 g21)), (.mk 2 1 (h0 g22)), (.mk 3 1 (h0 g23))] (G3 88 1 23)) (i0 s24),
  .p (.call 93 [(kc (.tc (.sc (.int .u8 5)))), (kc (.tc (.sc (.string ⟨#[111, 114]⟩)))), (kc (.tc (.sc (.int .u8 1)))), (h0 g24)] (G3 88 1 24)) (i0 s25),
  .p (.call 94 [] (G3 88 1 25)) (i0 s26),
  .p (.call 95 [] (G3 88 1 26)) (i0 s27),
  .p (.call 96 [] (G3 88 1 27)) (i0 s28),
  .p (.call 97 [] (G3 88 1 28)) (i0 s29),
  .p (.bs 1 4 [[(.tc (.sc (.slice none 0 0)))], [(.tc (.sc (.slice none 0 0)))], [(.tc (.sc (.slice none 0 0)))], [(.tc (.sc (.slice none 0 0)))]] [(.mk 0 1 (h0 g26)), (.mk 1 1 (h0 g27)), (.mk 2 1 (h0 g28)), (.mk 3 1 (h0 g29))] (G3 88 1 29)) (i0 s30),
  .p (.call 93 [(kc (.tc (.sc (.int .u8 6)))), (kc (.tc (.sc (.string ⟨#[120, 111, 114]⟩)))), (kc (.tc (.sc (.int .u8 1)))), (h0 g30)] (G3 88 1 30)) (i0 s31),
  .p (.call 95 [] (G3 88 1 31)) (i0 s32),
  .p (.call 96 [] (G3 88 1 32)) (i0 s33),
  .p (.call 98 [(kc (.tc (.sc (.int .i64 14)))), (kc (.tc (.sc (.int .i64 0))))] (G3 88 1 33)) (i0 s34),
  .p (.bs 1 3 [[(.tc (.sc (.slice none 0 0)))], [(.tc (.sc (.slice none 0 0)))], [(.tc (.sc (.slice none 0 0)))]] [(.mk 0 1 (h0 g32)), (.mk 1 1 (h0 g33)), (.mk 2 1 (h0 g34))] (G3 88 1 34)) (i0 s35),
  .p (.call 93 [(kc (.tc (.sc (.int .u8 7)))), (kc (.tc (.sc (.string ⟨#[97, 100, 100, 105]⟩)))), (kc (.tc (.sc (.int .u8 1)))), (h0 g35)] (G3 88 1 35)) (i0 s36),
  .p (.call 94 [] (G3 88 1 36)) (i0 s37),
  .p (.call 95 [] (G3 88 1 37)) (i0 s38),
  .p (.call 98 [(kc (.tc (.sc (.int .i64 14)))), (kc (.tc (.sc (.int .i64 0))))] (G3 88 1 38)) (i0 s39),
  .p (.bs 1 3 [[(.tc (.sc (.slice none 0 0)))], [(.tc (.sc (.slice none 0 0)))], [(.tc (.sc (.slice none 0 0)))]] [(.mk 0 1 (h0 g37)), (.mk 1 1 (h0 g38)), (.mk 2 1 (h0 g39))] (G3 88 1 39)) (i0 s40),
  .p (.call 93 [(kc (.tc (.sc (.int .u8 8)))), (kc (.tc (.sc (.string ⟨#[109, 111, 118, 105]⟩)))), (kc (.tc (.sc (.int .u8 1)))), (h0 g40)] (G3 88 1 40)) (i0 s41),
  .p (.call 94 [] (G3 88 1 41)) (i0 s42),
  .p (.call 95 [] (G3 88 1 42)) (i0 s43),
  .p (.call 96 [] (G3 88 1 43)) (i0 s44),
  .p (.bs 1 3 [[(.tc (.sc (.slice none 0 0)))], [(.tc (.sc (.slice none 0 0)))], [(.tc (.sc (.slice none 0 0)))]] [(.mk 0 1 (h0 g42)), (.mk 1 1 (h0 g43)), (.mk 2 1 (h0 g44))] (G3 88 1 44)) (i0 s45),
  .p (.call 93 [(kc (.tc (.sc (.int .u8 9)))), (kc (.tc (.sc (.string ⟨#[109, 111, 118]⟩)))), (kc (.tc (.sc (.int .u8 1)))), (h0 g45)] (G3 88 1 45)) (i0 s46),
  .p (.call 99 [] (G3 88 1 46)) (i0 s47),
  .p (.call 96 [] (G3 88 1 47)) (i0 s48),
  .p (.call 97 [] (G3 88 1 48)) (i0 s49),
  .p (.bs 1 3 [[(.tc (.sc (.slice none 0 0)))], [(.tc (.sc (.slice none 0 0)))], [(.tc (.sc (.slice none 0 0)))]] [(.mk 0 1 (h0 g47)), (.mk 1 1 (h0 g48)), (.mk 2 1 (h0 g49))] (G3 88 1 49)) (i0 s50),
  .p (.call 93 [(kc (.tc (.sc (.int .u8 10)))), (kc (.tc (.sc (.string ⟨#[99, 109, 112, 101, 113]⟩)))), (kc (.tc (.sc (.int .u8 1)))), (h0 g50)] (G3 88 1 50)) (i0 s51),
  .p (.call 99 [] (G3 88 1 51)) (i0 s52),
  .p (.call 96 [] (G3 88 1 52)) (i0 s53),
  .p (.call 97 [] (G3 88 1 53)) (i0 s54),
  .p (.bs 1 3 [[(.tc (.sc (.slice none 0 0)))], [(.tc (.sc (.slice none 0 0)))], [(.tc (.sc (.slice none 0 0)))]] [(.mk 0 1 (h0 g52)), (.mk 1 1 (h0 g53)), (.mk 2 1 (h0 g54))] (G3 88 1 54)) (i0 s55),
  .p (.call 93 [(kc (.tc (.sc (.int .u8 11)))), (kc (.tc (.sc (.string ⟨#[99, 109, 112, 103, 116]⟩)))), (kc (.tc (.sc (.int .u8 1)))), (h0 g55)] (G3 88 1 55)) (i0 s56),
  .p (.call 99 [] (G3 88 1 56)) (i0 s57),
  .p (.call 96 [] (G3 88 1 57)) (i0 s58),
  .p (.call 97 [] (G3 88 1 58)) (i0 s59),
  .p (.bs 1 3 [[(.tc (.sc (.slice none 0 0)))], [(.tc (.sc (.slice none 0 0)))], [(.tc (.sc (.slice none 0 0)))]] [(.mk 0 1 (h0 g57)), (.mk 1 1 (h0 g58)), (.mk 2 1 (h0 g59))] (G3 88 1 59)) (i0 s60),
  .p (.call 93 [(kc (.tc (.sc (.int .u8 12)))), (kc (.tc (.sc (.string ⟨#[99, 109, 112, 103, 116, 117]⟩)))), (kc (.tc (.sc (.int .u8 1)))), (h0 g60)] (G3 88 1 60)) (i0 s61),
  .p (.call 99 [] (G3 88 1 61)) (i0 s62),
  .p (.call 96 [] (G3 88 1 62)) (i0 s63),
  .p (.call 98 [(kc (.tc (.sc (.int .i64 14)))), (kc (.tc (.sc (.int .i64 0))))] (G3 88 1 63)) (i1 s0),
  .p (.bs 1 3 [[(.tc (.sc (.slice none 0 0)))], [(.tc (.sc (.slice none 0 0)))], [(.tc (.sc (.slice none 0 0)))]] [(.mk 0 1 (h0 g62)), (.mk 1 1 (h0 g63)), (.mk 2 1 (h1 g0))] (G3 88 1 64)) (i1 s1),
  .p (.call 93 [(kc (.tc (.sc (.int .u8 13)))), (kc (.tc (.sc (.string ⟨#[99, 109, 112, 101, 113, 105]⟩)))), (kc (.tc (.sc (.int .u8 1)))), (h1 g1)] (G3 88 1 65)) (i1 s2),
  .p (.call 95 [] (G3 88 1 66)) (i1 s3),
  .p (.call 100 [(kc (.tc (.sc (.int .u8 2)))), (kc (.tc (.sc (.int .i64 2))))] (G3 88 1 67)) (i1 s4),
  .p (.call 96 [] (G3 88 1 68)) (i1 s5),
  .p (.call 97 [] (G3 88 1 69)) (i1 s6),
  .p (.bs 1 4 [[(.tc (.sc (.slice none 0 0)))], [(.tc (.sc (.slice none 0 0)))], [(.tc (.sc (.slice none 0 0)))], [(.tc (.sc (.slice none 0 0)))]] [(.mk 0 1 (h1 g3)), (.mk 1 1 (h1 g4)), (.mk 2 1 (h1 g5)), (.mk 3 1 (h1 g6))] (G3 88 1 70)) (i1 s7),
  .p (.call 93 [(kc (.tc (.sc (.int .u8 14)))), (kc (.tc (.sc (.string ⟨#[109, 117, 120]⟩)))), (kc (.tc (.sc (.int .u8 1)))), (h1 g7)] (G3 88 1 71)) (i1 s8),
  .p (.call 95 [] (G3 88 1 72)) (i1 s9),
  .p (.call 96 [] (G3 88 1 73)) (i1 s10),
  .p (.call 100 [(kc (.tc (.sc (.int .u8 9)))), (kc (.tc (.sc (.int .i64 5))))] (G3 88 1 74)) (i1 s11),
  .p (.bs 1 3 [[(.tc (.sc (.slice none 0 0)))], [(.tc (.sc (.slice none 0 0)))], [(.tc (.sc (.slice none 0 0)))]] [(.mk 0 1 (h1 g9)), (.mk 1 1 (h1 g10)), (.mk 2 1 (h1 g11))] (G3 88 1 75)) (i1 s12),
  .p (.call 93 [(kc (.tc (.sc (.int .u8 15)))), (kc (.tc (.sc (.string ⟨#[97, 115, 108]⟩)))), (kc (.tc (.sc (.int .u8 2)))), (h1 g12)] (G3 88 1 76)) (i1 s13),
  .p (.call 95 [] (G3 88 1 77)) (i1 s14),
  .p (.call 96 [] (G3 88 1 78)) (i1 s15),
  .p (.call 100 [(kc (.tc (.sc (.int .u8 9)))), (kc (.tc (.sc (.int .i64 5))))] (G3 88 1 79)) (i1 s16),
  .p (.bs 1 3 [[(.tc (.sc (.slice none 0 0)))], [(.tc (.sc (.slice none 0 0)))], [(.tc (.sc (.slice none 0 0)))]] [(.mk 0 1 (h1 g14)), (.mk 1 1 (h1 g15)), (.mk 2 1 (h1 g16))] (G3 88 1 80)) (i1 s17),
  .p (.call 93 [(kc (.tc (.sc (.int .u8 16)))), (kc (.tc (.sc (.string ⟨#[108, 115, 114]⟩)))), (kc (.tc (.sc (.int .u8 2)))), (h1 g17)] (G3 88 1 81)) (i1 s18),
  .p (.call 95 [] (G3 88 1 82)) (i1 s19),
  .p (.call 96 [] (G3 88 1 83)) (i1 s20),
  .p (.call 100 [(kc (.tc (.sc (.int .u8 9)))), (kc (.tc (.sc (.int .i64 5))))] (G3 88 1 84)) (i1 s21),
  .p (.bs 1 3 [[(.tc (.sc (.slice none 0 0)))], [(.tc (.sc (.slice none 0 0)))], [(.tc (.sc (.slice none 0 0)))]] [(.mk 0 1 (h1 g19)), (.mk 1 1 (h1 g20)), (.mk 2 1 (h1 g21))] (G3 88 1 85)) (i1 s22),
  .p (.call 93 [(kc (.tc (.sc (.int .u8 17)))), (kc (.tc (.sc (.string ⟨#[97, 115, 114]⟩)))), (kc (.tc (.sc (.int .u8 2)))), (h1 g22)] (G3 88 1 86)) (i1 s23),
  .p (.call 95 [] (G3 88 1 87)) (i1 s24),
  .p (.call 96 [] (G3 88 1 88)) (i1 s25),
  .p (.call 97 [] (G3 88 1 89)) (i1 s26),
  .p (.bs 1 3 [[(.tc (.sc (.slice none 0 0)))], [(.tc (.sc (.slice none 0 0)))], [(.tc (.sc (.slice none 0 0)))]] [(.mk 0 1 (h1 g24)), (.mk 1 1 (h1 g25)), (.mk 2 1 (h1 g26))] (G3 88 1 90)) (i1 s27),
  .p (.call 93 [(kc (.tc (.sc (.int .u8 18)))), (kc (.tc (.sc (.string ⟨#[109, 112, 121]⟩)))), (kc (.tc (.sc (.int .u8 2)))), (h1 g27)] (G3 88 1 91)) (i1 s28),
  .p (.call 95 [] (G3 88 1 92)) (i1 s29),
  .p (.call 96 [] (G3 88 1 93)) (i1 s30),
  .p (.call 97 [] (G3 88 1 94)) (i1 s31),
  .p (.bs 1 3 [[(.tc (.sc (.slice none 0 0)))], [(.tc (.sc (.slice none 0 0)))], [(.tc (.sc (.slice none 0 0)))]] [(.mk 0 1 (h1 g29)), (.mk 1 1 (h1 g30)), (.mk 2 1 (h1 g31))] (G3 88 1 95)) (i1 s32),
  .p (.call 93 [(kc (.tc (.sc (.int .u8 19)))), (kc (.tc (.sc (.string ⟨#[99, 109, 112, 121]⟩)))), (kc (.tc (.sc (.int .u8 2)))), (h1 g32)] (G3 88 1 96)) (i1 s33),
  .p (.call 95 [] (G3 88 1 97)) (i1 s34),
  .p (.call 96 [] (G3 88 1 98)) (i1 s35),
  .p (.call 97 [] (G3 88 1 99)) (i1 s36),
  .p (.bs 1 3 [[(.tc (.sc (.slice none 0 0)))], [(.tc (.sc (.slice none 0 0)))], [(.tc (.sc (.slice none 0 0)))]] [(.mk 0 1 (h1 g34)), (.mk 1 1 (h1 g35)), (.mk 2 1 (h1 g36))] (G3 88 1 100)) (i1 s37),
  .p (.call 93 [(kc (.tc (.sc (.int .u8 20)))), (kc (.tc (.sc (.string ⟨#[99, 109, 112, 121, 99]⟩)))), (kc (.tc (.sc (.int .u8 2)))), (h1 g37)] (G3 88 1 101)) (i1 s38),
  .p (.call 95 [] (G3 88 1 102)) (i1 s39),
  .p (.call 96 [] (G3 88 1 103)) (i1 s40),
  .p (.call 98 [(kc (.tc (.sc (.int .i64 12)))), (kc (.tc (.sc (.int .i64 2))))] (G3 88 1 104)) (i1 s41),
  .p (.bs 1 3 [[(.tc (.sc (.slice none 0 0)))], [(.tc (.sc (.slice none 0 0)))], [(.tc (.sc (.slice none 0 0)))]] [(.mk 0 1 (h1 g39)), (.mk 1 1 (h1 g40)), (.mk 2 1 (h1 g41))] (G3 88 1 105)) (i1 s42),
  .p (.call 93 [(kc (.tc (.sc (.int .u8 21)))), (kc (.tc (.sc (.string ⟨#[108, 100, 119]⟩)))), (kc (.tc (.sc (.int .u8 3)))), (h1 g42)] (G3 88 1 106)) (i1 s43),
  .p (.call 95 [] (G3 88 1 107)) (i1 s44),
  .p (.call 96 [] (G3 88 1 108)) (i1 s45),
  .p (.call 98 [(kc (.tc (.sc (.int .i64 12)))), (kc (.tc (.sc (.int .i64 1))))] (G3 88 1 109)) (i1 s46),
  .p (.bs 1 3 [[(.tc (.sc (.slice none 0 0)))], [(.tc (.sc (.slice none 0 0)))], [(.tc (.sc (.slice none 0 0)))]] [(.mk 0 1 (h1 g44)), (.mk 1 1 (h1 g45)), (.mk 2 1 (h1 g46))] (G3 88 1 110)) (i1 s47),
  .p (.call 93 [(kc (.tc (.sc (.int .u8 22)))), (kc (.tc (.sc (.string ⟨#[108, 100, 104]⟩)))), (kc (.tc (.sc (.int .u8 3)))), (h1 g47)] (G3 88 1 111)) (i1 s48),
  .p (.call 95 [] (G3 88 1 112)) (i1 s49),
  .p (.call 96 [] (G3 88 1 113)) (i1 s50),
  .p (.call 98 [(kc (.tc (.sc (.int .i64 12)))), (kc (.tc (.sc (.int .i64 0))))] (G3 88 1 114)) (i1 s51),
  .p (.bs 1 3 [[(.tc (.sc (.slice none 0 0)))], [(.tc (.sc (.slice none 0 0)))], [(.tc (.sc (.slice none 0 0)))]] [(.mk 0 1 (h1 g49)), (.mk 1 1 (h1 g50)), (.mk 2 1 (h1 g51))] (G3 88 1 115)) (i1 s52),
  .p (.call 93 [(kc (.tc (.sc (.int .u8 23)))), (kc (.tc (.sc (.string ⟨#[108, 100, 98]⟩)))), (kc (.tc (.sc (.int .u8 3)))), (h1 g52)] (G3 88 1 116)) (i1 s53),
  .p (.call 96 [] (G3 88 1 117)) (i1 s54),
  .p (.call 100 [(kc (.tc (.sc (.int .u8 8)))), (kc (.tc (.sc (.int .i64 1))))] (G3 88 1 118)) (i1 s55),
  .p (.call 97 [] (G3 88 1 119)) (i1 s56),
  .p (.call 98 [(kc (.tc (.sc (.int .i64 12)))), (kc (.tc (.sc (.int .i64 2))))] (G3 88 1 120)) (i1 s57),
  .p (.bs 1 4 [[(.tc (.sc (.slice none 0 0)))], [(.tc (.sc (.slice none 0 0)))], [(.tc (.sc (.slice none 0 0)))], [(.tc (.sc (.slice none 0 0)))]] [(.mk 0 1 (h1 g54)), (.mk 1 1 (h1 g55)), (.mk 2 1 (h1 g56)), (.mk 3 1 (h1 g57))] (G3 88 1 121)) (i1 s58),
  .p (.call 93 [(kc (.tc (.sc (.int .u8 24)))), (kc (.tc (.sc (.string ⟨#[115, 116, 119]⟩)))), (kc (.tc (.sc (.int .u8 4)))), (h1 g58)] (G3 88 1 122)) (i1 s59),
  .p (.call 96 [] (G3 88 1 123)) (i1 s60),
  .p (.call 100 [(kc (.tc (.sc (.int .u8 8)))), (kc (.tc (.sc (.int .i64 1))))] (G3 88 1 124)) (i1 s61),
  .p (.call 97 [] (G3 88 1 125)) (i1 s62),
  .p (.call 98 [(kc (.tc (.sc (.int .i64 12)))), (kc (.tc (.sc (.int .i64 1))))] (G3 88 1 126)) (i1 s63),
  .p (.bs 1 4 [[(.tc (.sc (.slice none 0 0)))], [(.tc (.sc (.slice none 0 0)))], [(.tc (.sc (.slice none 0 0)))], [(.tc (.sc (.slice none 0 0)))]] [(.mk 0 1 (h1 g60)), (.mk 1 1 (h1 g61)), (.mk 2 1 (h1 g62)), (.mk 3 1 (h1 g63))] (G3 88 1 127)) (i2 s0),
  .p (.call 93 [(kc (.tc (.sc (.int .u8 25)))), (kc (.tc (.sc (.string ⟨#[115, 116, 104]⟩)))), (kc (.tc (.sc (.int .u8 4)))), (h2 g0)] (G3 88 1 128)) (i2 s1),
  .p (.call 96 [] (G3 88 1 129)) (i2 s2),
  .p (.call 100 [(kc (.tc (.sc (.int .u8 8)))), (kc (.tc (.sc (.int .i64 1))))] (G3 88 1 130)) (i2 s3),
  .p (.call 97 [] (G3 88 1 131)) (i2 s4),
  .p (.call 98 [(kc (.tc (.sc (.int .i64 12)))), (kc (.tc (.sc (.int .i64 0))))] (G3 88 1 132)) (i2 s5),
  .p (.bs 1 4 [[(.tc (.sc (.slice none 0 0)))], [(.tc (.sc (.slice none 0 0)))], [(.tc (.sc (.slice none 0 0)))], [(.tc (.sc (.slice none 0 0)))]] [(.mk 0 1 (h2 g2)), (.mk 1 1 (h2 g3)), (.mk 2 1 (h2 g4)), (.mk 3 1 (h2 g5))] (G3 88 1 133)) (i2 s6),
  .p (.call 93 [(kc (.tc (.sc (.int .u8 26)))), (kc (.tc (.sc (.string ⟨#[115, 116, 98]⟩)))), (kc (.tc (.sc (.int .u8 4)))), (h2 g6)] (G3 88 1 134)) (i2 s7),
  .p (.call 94 [] (G3 88 1 135)) (i2 s8),
  .p (.call 101 [(kc (.tc (.sc (.int .i64 19))))] (G3 88 1 136)) (i2 s9),
  .p (.bs 1 2 [[(.tc (.sc (.slice none 0 0)))], [(.tc (.sc (.slice none 0 0)))]] [(.mk 0 1 (h2 g8)), (.mk 1 1 (h2 g9))] (G3 88 1 137)) (i2 s10),
  .p (.call 93 [(kc (.tc (.sc (.int .u8 27)))), (kc (.tc (.sc (.string ⟨#[106, 117, 109, 112]⟩)))), (kc (.tc (.sc (.int .u8 5)))), (h2 g10)] (G3 88 1 138)) (i2 s11),
  .p (.call 94 [] (G3 88 1 139)) (i2 s12),
  .p (.call 96 [] (G3 88 1 140)) (i2 s13),
  .p (.bs 1 2 [[(.tc (.sc (.slice none 0 0)))], [(.tc (.sc (.slice none 0 0)))]] [(.mk 0 1 (h2 g12)), (.mk 1 1 (h2 g13))] (G3 88 1 141)) (i2 s14),
  .p (.call 93 [(kc (.tc (.sc (.int .u8 28)))), (kc (.tc (.sc (.string ⟨#[106, 117, 109, 112, 114]⟩)))), (kc (.tc (.sc (.int .u8 5)))), (h2 g14)] (G3 88 1 142)) (i2 s15),
  .p (.call 101 [(kc (.tc (.sc (.int .i64 24))))] (G3 88 1 143)) (i2 s16),
  .p (.bs 1 1 [[(.tc (.sc (.slice none 0 0)))]] [(.mk 0 1 (h2 g16))] (G3 88 1 144)) (i2 s17),
  .p (.call 93 [(kc (.tc (.sc (.int .u8 29)))), (kc (.tc (.sc (.string ⟨#[99, 97, 108, 108]⟩)))), (kc (.tc (.sc (.int .u8 5)))), (h2 g17)] (G3 88 1 145)) (i2 s18),
  .p (.call 100 [(kc (.tc (.sc (.int .u8 7)))), (kc (.tc (.sc (.int .i64 1))))] (G3 88 1 146)) (i2 s19),
  .p (.call 101 [(kc (.tc (.sc (.int .i64 12))))] (G3 88 1 147)) (i2 s20),
  .p (.call 100 [(kc (.tc (.sc (.int .u8 11)))), (kc (.tc (.sc (.int .i64 11))))] (G3 88 1 148)) (i2 s21),
  .p (.bs 1 3 [[(.tc (.sc (.slice none 0 0)))], [(.tc (.sc (.slice none 0 0)))], [(.tc (.sc (.slice none 0 0)))]] [(.mk 0 1 (h2 g19)), (.mk 1 1 (h2 g20)), (.mk 2 1 (h2 g21))] (G3 88 1 149)) (i2 s22),
  .p (.call 93 [(kc (.tc (.sc (.int .u8 30)))), (kc (.tc (.sc (.string ⟨#[108, 111, 111, 112, 105]⟩)))), (kc (.tc (.sc (.int .u8 6)))), (h2 g22)] (G3 88 1 150)) (i2 s23),
  .p (.call 100 [(kc (.tc (.sc (.int .u8 7)))), (kc (.tc (.sc (.int .i64 1))))] (G3 88 1 151)) (i2 s24),
  .p (.call 101 [(kc (.tc (.sc (.int .i64 12))))] (G3 88 1 152)) (i2 s25),
  .p (.call 96 [] (G3 88 1 153)) (i2 s26),
  .p (.bs 1 3 [[(.tc (.sc (.slice none 0 0)))], [(.tc (.sc (.slice none 0 0)))], [(.tc (.sc (.slice none 0 0)))]] [(.mk 0 1 (h2 g24)), (.mk 1 1 (h2 g25)), (.mk 2 1 (h2 g26))] (G3 88 1 154)) (i2 s27),
  .p (.call 93 [(kc (.tc (.sc (.int .u8 31)))), (kc (.tc (.sc (.string ⟨#[108, 111, 111, 112, 114]⟩)))), (kc (.tc (.sc (.int .u8 6)))), (h2 g27)] (G3 88 1 155)) (i2 s28),
  .p (.bs 5 31 [[(.tc (.sc (.int .u8 0))), (.tc (.sc (.string ⟨#[]⟩))), (.tc (.sc (.int .u8 0))), (.tc (.sc (.int .u8 0))), (.tc (.sc (.slice none 0 0)))], [(.tc (.sc (.int .u8 0))), (.tc (.sc (.string ⟨#[]⟩))), (.tc (.sc (.int .u8 0))), (.tc (.sc (.int .u8 0))), (.tc (.sc (.slice none 0 0)))], [(.tc (.sc (.int .u8 0))), (.tc (.sc (.string ⟨#[]⟩))), (.tc (.sc (.int .u8 0))), (.tc (.sc (.int .u8 0))), (.tc (.sc (.slice none 0 0)))], [(.tc (.sc (.int .u8 0))), (.tc (.sc (.string ⟨#[]⟩))), (.tc (.sc (.int .u8 0))), (.tc (.sc (.int .u8 0))), (.tc (.sc (.slice none 0 0)))], [(.tc (.sc (.int .u8 0))), (.tc (.sc (.string ⟨#[]⟩))), (.tc (.sc (.int .u8 0))), (.tc (.sc (.int .u8 0))), (.tc (.sc (.slice none 0 0)))], [(.tc (.sc (.int .u8 0))), (.tc (.sc (.string ⟨#[]⟩))), (.tc (.sc (.int .u8 0))), (.tc (.sc (.int .u8 0))), (.tc (.sc (.slice none 0 0)))], [(.tc (.sc (.int .u8 0))), (.tc (.sc (.string ⟨#[]⟩))), (.tc (.sc (.int .u8 0))), (.tc (.sc (.int .u8 0))), (.tc (.sc (.slice none 0 0)))], [(.tc (.sc (.int .u8 0))), (.tc (.sc (.string ⟨#[]⟩))), (.tc (.sc (.int .u8 0))), (.tc (.sc (.int .u8 0))), (.tc (.sc (.slice none 0 0)))], [(.tc (.sc (.int .u8 0))), (.tc (.sc (.string ⟨#[]⟩))), (.tc (.sc (.int .u8 0))), (.tc (.sc (.int .u8 0))), (.tc (.sc (.slice none 0 0)))], [(.tc (.sc (.int .u8 0))), (.tc (.sc (.string ⟨#[]⟩))), (.tc (.sc (.int .u8 0))), (.tc (.sc (.int .u8 0))), (.tc (.sc (.slice none 0 0)))], [(.tc (.sc (.int .u8 0))), (.tc (.sc (.string ⟨#[]⟩))), (.tc (.sc (.int .u8 0))), (.tc (.sc (.int .u8 0))), (.tc (.sc (.slice none 0 0)))], [(.tc (.sc (.int .u8 0))), (.tc (.sc (.string ⟨#[]⟩))), (.tc (.sc (.int .u8 0))), (.tc (.sc (.int .u8 0))), (.tc (.sc (.slice none 0 0)))], [(.tc (.sc (.int .u8 0))), (.tc (.sc (.string ⟨#[]⟩))), (.tc (.sc (.int .u8 0))), (.tc (.sc (.int .u8 0))), (.tc (.sc (.slice none 0 0)))], [(.tc (.sc (.int .u8 0))), (.tc (.sc (.string ⟨#[]⟩))), (.tc (.sc (.int .u8 0))), (.tc (.sc (.int .u8 0))), (.tc (.sc (.slice none 0 0)))], [(.tc (.sc (.int .u8 0))), (.tc (.sc (.string ⟨#[]⟩))), (.tc (.sc (.int .u8 0))), (.tc (.sc (.int .u8 0))), (.tc (.sc (.slice none 0 0)))], [(.tc (.sc (.int .u8 0))), (.tc (.sc (.string ⟨#[]⟩))), (.tc (.sc (.int .u8 0))), (.tc (.sc (.int .u8 0))), (.tc (.sc (.slice none 0 0)))], [(.tc (.sc (.int .u8 0))), (.tc (.sc (.string ⟨#[]⟩))), (.tc (.sc (.int .u8 0))), (.tc (.sc (.int .u8 0))), (.tc (.sc (.slice none 0 0)))], [(.tc (.sc (.int .u8 0))), (.tc (.sc (.string ⟨#[]⟩))), (.tc (.sc (.int .u8 0))), (.tc (.sc (.int .u8 0))), (.tc (.sc (.slice none 0 0)))], [(.tc (.sc (.int .u8 0))), (.tc (.sc (.string ⟨#[]⟩))), (.tc (.sc (.int .u8 0))), (.tc (.sc (.int .u8 0))), (.tc (.sc (.slice none 0 0)))], [(.tc (.sc (.int .u8 0))), (.tc (.sc (.string ⟨#[]⟩))), (.tc (.sc (.int .u8 0))), (.tc (.sc (.int .u8 0))), (.tc (.sc (.slice none 0 0)))], [(.tc (.sc (.int .u8 0))), (.tc (.sc (.string ⟨#[]⟩))), (.tc (.sc (.int .u8 0))), (.tc (.sc (.int .u8 0))), (.tc (.sc (.slice none 0 0)))], [(.tc (.sc (.int .u8 0))), (.tc (.sc (.string ⟨#[]⟩))), (.tc (.sc (.int .u8 0))), (.tc (.sc (.int .u8 0))), (.tc (.sc (.slice none 0 0)))], [(.tc (.sc (.int .u8 0))), (.tc (.sc (.string ⟨#[]⟩))), (.tc (.sc (.int .u8 0))), (.tc (.sc (.int .u8 0))), (.tc (.sc (.slice none 0 0)))], [(.tc (.sc (.int .u8 0))), (.tc (.sc (.string ⟨#[]⟩))), (.tc (.sc (.int .u8 0))), (.tc (.sc (.int .u8 0))), (.tc (.sc (.slice none 0 0)))], [(.tc (.sc (.int .u8 0))), (.tc (.sc (.string ⟨#[]⟩))), (.tc (.sc (.int .u8 0))), (.tc (.sc (.int .u8 0))), (.tc (.sc (.slice none 0 0)))], [(.tc (.sc (.int .u8 0))), (.tc (.sc (.string ⟨#[]⟩))), (.tc (.sc (.int .u8 0))), (.tc (.sc (.int .u8 0))), (.tc (.sc (.slice none 0 0)))], [(.tc (.sc (.int .u8 0))), (.tc (.sc (.string ⟨#[]⟩))), (.tc (.sc (.int .u8 0))), (.tc (.sc (.int .u8 0))), (.tc (.sc (.slice none 0 0)))], [(.tc (.sc (.int .u8 0))), (.tc (.sc (.string ⟨#[]⟩))), (.tc (.sc (.int .u8 0))), (.tc (.sc (.int .u8 0))), (.tc (.sc (.slice none 0 0)))], [(.tc (.sc (.int .u8 0))), (.tc (.sc (.string ⟨#[]⟩))), (.tc (.sc (.int .u8 0))), (.tc (.sc (.int .u8 0))), (.tc (.sc (.slice none 0 0)))], [(.tc (.sc (.int .u8 0))), (.tc (.sc (.string ⟨#[]⟩))), (.tc (.sc (.int .u8 0))), (.tc (.sc (.int .u8 0))), (.tc (.sc (.slice none 0 0)))], [(.tc (.sc (.int .u8 0))), (.tc (.sc (.string ⟨#[]⟩))), (.tc (.sc (.int .u8 0))), (.tc (.sc (.int .u8 0))), (.tc (.sc (.slice none 0 0)))]] [(.mk 0 5 (h0 g1)), (.mk 1 5 (h0 g7)), (.mk 2 5 (h0 g13)), (.mk 3 5 (h0 g19)), (.mk 4 5 (h0 g25)), (.mk 5 5 (h0 g31)), (.mk 6 5 (h0 g36)), (.mk 7 5 (h0 g41)), (.mk 8 5 (h0 g46)), (.mk 9 5 (h0 g51)), (.mk 10 5 (h0 g56)), (.mk 11 5 (h0 g61)), (.mk 12 5 (h1 g2)), (.mk 13 5 (h1 g8)), (.mk 14 5 (h1 g13)), (.mk 15 5 (h1 g18)), (.mk 16 5 (h1 g23)), (.mk 17 5 (h1 g28)), (.mk 18 5 (h1 g33)), (.mk 19 5 (h1 g38)), (.mk 20 5 (h1 g43)), (.mk 21 5 (h1 g48)), (.mk 22 5 (h1 g53)), (.mk 23 5 (h1 g59)), (.mk 24 5 (h2 g1)), (.mk 25 5 (h2 g7)), (.mk 26 5 (h2 g11)), (.mk 27 5 (h2 g15)), (.mk 28 5 (h2 g18)), (.mk 29 5 (h2 g23)), (.mk 30 5 (h2 g28))] (G3 88 1 156)) (i2 s29),
  .p (.mv (h2 g29)) (i0 s0)])
 .ret)),
 [.tmp (h0 g0)]⟩
theorem ff88_ok : compF SBLegalKnown 88 = ff88 := by kernel_rfl
noncomputable def ff93 : FF := .t2 ⟨17,
 (.seq (.reg [.p (.al 5 [(.sc (.int .u8 0)), (.sc (.string ⟨#[]⟩)), (.sc (.int .u8 0)), (.sc (.int .u8 0)), (.sc (.slice none 0 0))]) s8])
 (.seq (.reg [.p (.mv g0) s9,
  .p (.mv g1) s10,
  .p (.mv g2) s11,
  .p (.mv g2) s12,
  .p (.call 85 [g12] (G2 93 1 4)) s13,
  .p (.mv g3) s14,
  .p (.call 102 [g14] (G2 93 1 6)) s15,
  .p (.bd [(.tc (.sc (.int .u8 0))), (.tc (.sc (.string ⟨#[]⟩))), (.tc (.sc (.int .u8 0))), (.tc (.sc (.int .u8 0))), (.tc (.sc (.slice none 0 0)))] [(.mk 0 1 g9), (.mk 1 1 g10), (.mk 2 1 g11), (.mk 3 1 g13), (.mk 4 1 g15)] (G2 93 1 7)) s16,
  .n (.st 5 g8 g16 (G2 93 1 8))])
 .ret)),
 [.cell g8 true 5]⟩
theorem ff93_ok : compF SBLegalKnown 93 = ff93 := by kernel_rfl
noncomputable def ff85 : FF := .t2 ⟨15,
 (.seq (.reg [.p (.mv (kc (.tc (.sc (.int .u8 0))))) s2])
 (.seq (.seq (.reg [.p (.mv g0) s3])
 (.block 0 (.seq (.reg [.p (.bin .eql g3 (kc (.tc (.sc (.int .u8 1)))) (G2 85 2 0)) s5,
  .p (.mv g5) s4])
 (.cond g4 (.seq (.reg [.p (.mv (kc (.tc (.sc (.int .u8 15))))) s2])
 .ret)
 (.seq (.seq (.reg [.p (.bin .eql g3 (kc (.tc (.sc (.int .u8 2)))) (G2 85 4 0)) s7,
  .p (.mv g7) s6])
 (.cond g6 .skip
 (.reg [.p (.bin .eql g3 (kc (.tc (.sc (.int .u8 5)))) (G2 85 5 0)) s8,
  .p (.mv g8) s6])))
 (.cond g6 (.seq (.reg [.p (.mv (kc (.tc (.sc (.int .u8 12))))) s2])
 .ret)
 (.seq (.reg [.p (.bin .eql g3 (kc (.tc (.sc (.int .u8 3)))) (G2 85 7 0)) s10,
  .p (.mv g10) s9])
 (.cond g9 (.seq (.reg [.p (.mv (kc (.tc (.sc (.int .u8 3))))) s2])
 .ret)
 (.seq (.reg [.p (.bin .eql g3 (kc (.tc (.sc (.int .u8 4)))) (G2 85 9 0)) s12,
  .p (.mv g12) s11])
 (.cond g11 (.seq (.reg [.p (.mv (kc (.tc (.sc (.int .u8 1))))) s2])
 .ret)
 (.seq (.reg [.p (.bin .eql g3 (kc (.tc (.sc (.int .u8 6)))) (G2 85 11 0)) s14,
  .p (.mv g14) s13])
 (.cond g13 (.seq (.reg [.p (.mv (kc (.tc (.sc (.int .u8 8))))) s2])
 .ret)
 .skip))))))))))))
 (.seq (.reg [.p (.mv (kc (.tc (.sc (.int .u8 0))))) s2])
 .ret))),
 [.tmp g2]⟩
theorem ff85_ok : compF SBLegalKnown 85 = ff85 := by kernel_rfl
noncomputable def ff102 : FF := .t2 ⟨36,
 (.seq (.reg [.p (.mv (kc (.tc (.sc (.slice none 0 0))))) s2])
 (.seq (.reg [.p (.mv (kc (.tc (.sc (.int .i64 0))))) s3])
 (.seq (.seq (.reg [.p (.mv g0) s9,
  .p (.len g9 (G2 102 2 1)) s10,
  .p (.mv (kc (.tc (.sc (.int .i64 0))))) s11])
 (.block 0 (.loop 4294967296 (.seq (.reg [.p (.bin .lss g11 g10 (G2 102 3 0)) s12])
 (.seq (.cond g12 .skip
 (.exit 0))
 (.seq (.block 1 (.seq (.reg [.p (.ia 1 g9 g11 (G2 102 4 0)) s13,
  .p (.ld false 1 g13) s14,
  .p (.mv g14) s5])
 (.seq (.reg [.p (.mv g3) s15,
  .p (.mv g5) s16,
  .p (.len g16 (G2 102 5 2)) s17,
  .p (.bin .add g15 g17 (G2 102 5 3)) s18,
  .p (.mv g18) s3])
 (.seq (.reg [.p (.mv g3) s19,
  .p (.bin .lss g19 (kc (.tc (.sc (.int .i64 0)))) (G2 102 6 1)) s20])
 (.cond g20 (.reg [.p (.gen (G2 102 7 0)) s21,
  .n (.gen (G2 102 7 1))])
 .skip)))))
 (.reg [.p (.bin .add g11 (kc (.tc (.sc (.int .i64 1)))) (G2 102 8 0)) s22,
  .p (.mv g22) s11])))))))
 (.seq (.reg [.p (.mv g3) s23,
  .p (.call 103 [(kc (.tc (.sc (.slice none 0 0)))), g23] (G2 102 9 1)) s24,
  .p (.mv g24) s6])
 (.seq (.seq (.reg [.p (.mv g0) s25,
  .p (.len g25 (G2 102 10 1)) s26,
  .p (.mv (kc (.tc (.sc (.int .i64 0))))) s27])
 (.block 2 (.loop 4294967296 (.seq (.reg [.p (.bin .lss g27 g26 (G2 102 11 0)) s28])
 (.seq (.cond g28 .skip
 (.exit 2))
 (.seq (.block 3 (.seq (.reg [.p (.ia 1 g25 g27 (G2 102 12 0)) s29,
  .p (.ld false 1 g29) s30,
  .p (.mv g30) s8])
 (.reg [.p (.mv g6) s31,
  .p (.mv g8) s32,
  .p (.ap 5 32 g31 g32) s33,
  .p (.mv g33) s6])))
 (.reg [.p (.bin .add g27 (kc (.tc (.sc (.int .i64 1)))) (G2 102 14 0)) s34,
  .p (.mv g34) s27])))))))
 (.seq (.reg [.p (.mv g6) s35,
  .p (.mv g35) s2])
 .ret)))))),
 [.tmp g2]⟩
theorem ff102_ok : compF SBLegalKnown 102 = ff102 := by kernel_rfl
noncomputable def ff103 : FF := .t2 ⟨27,
 (.seq (.reg [.p (.mv (kc (.tc (.sc (.slice none 0 0))))) s4])
 (.seq (.seq (.reg [.p (.mv g1) s5,
  .p (.bin .lss g5 (kc (.tc (.sc (.int .i64 0)))) (G2 103 1 1)) s6])
 (.cond g6 (.reg [.p (.gen (G2 103 2 0)) s7,
  .n (.gen (G2 103 2 1))])
 .skip))
 (.seq (.seq (.reg [.p (.mv g1) s8,
  .p (.mv g0) s9,
  .p (.gen (G2 103 3 2)) s10,
  .p (.mv g0) s11,
  .p (.len g11 (G2 103 3 4)) s12,
  .p (.bin .sub g10 g12 (G2 103 3 5)) s13,
  .p (.bin .sub g8 g13 (G2 103 3 6)) s14,
  .p (.mv g14) s1])
 (.seq (.reg [.p (.mv g1) s15,
  .p (.bin .gtr g15 (kc (.tc (.sc (.int .i64 0)))) (G2 103 4 1)) s16])
 (.cond g16 (.reg [.p (.mv g0) s17,
  .p (.mv g0) s18,
  .p (.gen (G2 103 5 2)) s19,
  .p (.sl 5 g17 none (some g19) none (G2 103 5 3)) s20,
  .p (.mv g1) s21,
  .p (.gen (G2 103 5 5)) s22,
  .p (.mv g0) s23,
  .p (.len g23 (G2 103 5 7)) s24,
  .p (.sl 5 g22 none (some g24) none (G2 103 5 8)) s25,
  .p (.mv g25) s0])
 .skip)))
 (.seq (.reg [.p (.mv g0) s26,
  .p (.mv g26) s4])
 .ret)))),
 [.tmp g4]⟩
theorem ff103_ok : compF SBLegalKnown 103 = ff103 := by kernel_rfl
noncomputable def ff94 : FF := .t2 ⟨4,
 (.seq (.reg [.p (.mv (kc (.tc (.sc (.slice none 0 0))))) s0])
 (.seq (.reg [.p (.call 100 [(kc (.tc (.sc (.int .u8 1)))), (kc (.tc (.sc (.int .i64 3))))] (G2 94 1 0)) s1,
  .p (.call 100 [(kc (.tc (.sc (.int .u8 2)))), (kc (.tc (.sc (.int .i64 2))))] (G2 94 1 1)) s2,
  .p (.ap 5 32 g1 g2) s3,
  .p (.mv g3) s0])
 .ret)),
 [.tmp g0]⟩
theorem ff94_ok : compF SBLegalKnown 94 = ff94 := by kernel_rfl
noncomputable def ff100 : FF := .t2 ⟨9,
 (.seq (.reg [.p (.mv (kc (.tc (.sc (.slice none 0 0))))) s4])
 (.seq (.reg [.p (.mv g0) s5,
  .p (.mv g1) s6,
  .p (.bd [(.tc (.sc (.int .u8 0))), (.tc (.sc (.int .i64 0))), (.tc (.sc (.int .i64 0))), (.tc (.sc (.bool false))), (.tc (.sc (.bool false)))] [(.mk 0 1 g5), (.mk 1 1 g6)] (G2 100 1 2)) s7,
  .p (.bs 5 1 [[(.tc (.sc (.int .u8 0))), (.tc (.sc (.int .i64 0))), (.tc (.sc (.int .i64 0))), (.tc (.sc (.bool false))), (.tc (.sc (.bool false)))]] [(.mk 0 5 g7)] (G2 100 1 3)) s8,
  .p (.mv g8) s4])
 .ret)),
 [.tmp g4]⟩
theorem ff100_ok : compF SBLegalKnown 100 = ff100 := by kernel_rfl
noncomputable def ff95 : FF := .t2 ⟨2,
 (.seq (.reg [.p (.mv (kc (.tc (.sc (.slice none 0 0))))) s0])
 (.seq (.reg [.p (.call 100 [(kc (.tc (.sc (.int .u8 3)))), (kc (.tc (.sc (.int .i64 5))))] (G2 95 1 0)) s1,
  .p (.mv g1) s0])
 .ret)),
 [.tmp g0]⟩
theorem ff95_ok : compF SBLegalKnown 95 = ff95 := by kernel_rfl
noncomputable def ff96 : FF := .t2 ⟨2,
 (.seq (.reg [.p (.mv (kc (.tc (.sc (.slice none 0 0))))) s0])
 (.seq (.reg [.p (.call 100 [(kc (.tc (.sc (.int .u8 5)))), (kc (.tc (.sc (.int .i64 5))))] (G2 96 1 0)) s1,
  .p (.mv g1) s0])
 .ret)),
 [.tmp g0]⟩
theorem ff96_ok : compF SBLegalKnown 96 = ff96 := by kernel_rfl
noncomputable def ff97 : FF := .t2 ⟨2,
 (.seq (.reg [.p (.mv (kc (.tc (.sc (.slice none 0 0))))) s0])
 (.seq (.reg [.p (.call 100 [(kc (.tc (.sc (.int .u8 6)))), (kc (.tc (.sc (.int .i64 5))))] (G2 97 1 0)) s1,
  .p (.mv g1) s0])
 .ret)),
 [.tmp g0]⟩
theorem ff97_ok : compF SBLegalKnown 97 = ff97 := by kernel_rfl
noncomputable def ff98 : FF := .t2 ⟨9,
 (.seq (.reg [.p (.mv (kc (.tc (.sc (.slice none 0 0))))) s4])
 (.seq (.reg [.p (.mv g0) s5,
  .p (.mv g1) s6,
  .p (.bd [(.tc (.sc (.int .u8 0))), (.tc (.sc (.int .i64 0))), (.tc (.sc (.int .i64 0))), (.tc (.sc (.bool false))), (.tc (.sc (.bool false)))] [(.mk 0 1 (kc (.tc (.sc (.int .u8 9))))), (.mk 1 1 g5), (.mk 2 1 g6), (.mk 3 1 (kc (.tc (.sc (.bool true))))), (.mk 4 1 (kc (.tc (.sc (.bool true)))))] (G2 98 1 2)) s7,
  .p (.bs 5 1 [[(.tc (.sc (.int .u8 0))), (.tc (.sc (.int .i64 0))), (.tc (.sc (.int .i64 0))), (.tc (.sc (.bool false))), (.tc (.sc (.bool false)))]] [(.mk 0 5 g7)] (G2 98 1 3)) s8,
  .p (.mv g8) s4])
 .ret)),
 [.tmp g4]⟩
theorem ff98_ok : compF SBLegalKnown 98 = ff98 := by kernel_rfl
noncomputable def ff99 : FF := .t2 ⟨2,
 (.seq (.reg [.p (.mv (kc (.tc (.sc (.slice none 0 0))))) s0])
 (.seq (.reg [.p (.call 100 [(kc (.tc (.sc (.int .u8 4)))), (kc (.tc (.sc (.int .i64 2))))] (G2 99 1 0)) s1,
  .p (.mv g1) s0])
 .ret)),
 [.tmp g0]⟩
theorem ff99_ok : compF SBLegalKnown 99 = ff99 := by kernel_rfl
noncomputable def ff101 : FF := .t2 ⟨6,
 (.seq (.reg [.p (.mv (kc (.tc (.sc (.slice none 0 0))))) s2])
 (.seq (.reg [.p (.mv g0) s3,
  .p (.bd [(.tc (.sc (.int .u8 0))), (.tc (.sc (.int .i64 0))), (.tc (.sc (.int .i64 0))), (.tc (.sc (.bool false))), (.tc (.sc (.bool false)))] [(.mk 0 1 (kc (.tc (.sc (.int .u8 10))))), (.mk 1 1 g3), (.mk 2 1 (kc (.tc (.sc (.int .i64 2))))), (.mk 3 1 (kc (.tc (.sc (.bool true))))), (.mk 4 1 (kc (.tc (.sc (.bool true)))))] (G2 101 1 1)) s4,
  .p (.bs 5 1 [[(.tc (.sc (.int .u8 0))), (.tc (.sc (.int .i64 0))), (.tc (.sc (.int .i64 0))), (.tc (.sc (.bool false))), (.tc (.sc (.bool false)))]] [(.mk 0 5 g4)] (G2 101 1 2)) s5,
  .p (.mv g5) s2])
 .ret)),
 [.tmp g2]⟩
theorem ff101_ok : compF SBLegalKnown 101 = ff101 := by kernel_rfl
noncomputable def ff68 : FF := .t2 ⟨8,
 (.seq (.reg [.p (.mv (kc (.tc (.sc (.slice none 0 0))))) s2])
 (.seq (.seq (.reg [.p (.mv g0) s3,
  .p (.bin .eql g3 (kc (.tc (.sc (.slice none 0 0)))) (G2 68 1 1)) s4])
 (.cond g4 (.seq (.reg [.p (.mv (kc (.tc (.sc (.slice none 0 0))))) s2])
 .ret)
 .skip))
 (.seq (.reg [.p (.bs 5 0 [] [] (G2 68 3 0)) s5,
  .p (.mv g0) s6,
  .p (.ap 5 32 g5 g6) s7,
  .p (.mv g7) s2])
 .ret))),
 [.tmp g2]⟩
theorem ff68_ok : compF SBLegalKnown 68 = ff68 := by kernel_rfl
noncomputable def ff75 : FF := .t2 ⟨9,
 (.seq (.reg [.p (.mv (kc (.tc (.sc (.bool false))))) s4])
 (.seq (.reg [.p (.mv g0) s5,
  .p (.mv g1) s6,
  .p (.call 90 [g5, g6] (G2 75 1 2)) s7,
  .p (.bin .geq g7 (kc (.tc (.sc (.int .i64 0)))) (G2 75 1 3)) s8,
  .p (.mv g8) s4])
 .ret)),
 [.tmp g4]⟩
theorem ff75_ok : compF SBLegalKnown 75 = ff75 := by kernel_rfl
noncomputable def ff90 : FF := .t2 ⟨19,
 (.seq (.reg [.p (.mv (kc (.tc (.sc (.int .i64 0))))) s4])
 (.seq (.seq (.reg [.p (.mv g0) s6,
  .p (.len g6 (G2 90 1 1)) s7,
  .p (.mv (kc (.tc (.sc (.int .i64 0))))) s8])
 (.block 0 (.loop 4294967296 (.seq (.reg [.p (.bin .lss g8 g7 (G2 90 2 0)) s9])
 (.seq (.cond g9 .skip
 (.exit 0))
 (.seq (.block 1 (.seq (.reg [.p (.mv g8) s10,
  .p (.mv g10) s5])
 (.seq (.reg [.p (.mv g1) s11,
  .p (.mv g0) s12,
  .p (.mv g5) s13,
  .p (.ia 1 g12 g13 (G2 90 4 3)) s14,
  .p (.ld false 1 g14) s15,
  .p (.bin .eql g11 g15 (G2 90 4 5)) s16])
 (.cond g16 (.seq (.reg [.p (.mv g5) s17,
  .p (.mv g17) s4])
 .ret)
 .skip))))
 (.reg [.p (.bin .add g8 (kc (.tc (.sc (.int .i64 1)))) (G2 90 6 0)) s18,
  .p (.mv g18) s8])))))))
 (.seq (.reg [.p (.mv (kc (.tc (.sc (.int .i64 (-1)))))) s4])
 .ret))),
 [.tmp g4]⟩
theorem ff90_ok : compF SBLegalKnown 90 = ff90 := by kernel_rfl
noncomputable def ff55 : FF := .t2 ⟨9,
 (.seq (.reg [.p (.mv (kc (.tc (.sc (.bool false))))) s4])
 (.seq (.reg [.p (.mv g0) s5,
  .p (.mv g1) s6,
  .p (.call 76 [g5, g6] (G2 55 1 2)) s7,
  .p (.bin .geq g7 (kc (.tc (.sc (.int .i64 0)))) (G2 55 1 3)) s8,
  .p (.mv g8) s4])
 .ret)),
 [.tmp g4]⟩
theorem ff55_ok : compF SBLegalKnown 55 = ff55 := by kernel_rfl
noncomputable def ff76 : FF := .t2 ⟨19,
 (.seq (.reg [.p (.mv (kc (.tc (.sc (.int .i64 0))))) s4])
 (.seq (.seq (.reg [.p (.mv g0) s6,
  .p (.len g6 (G2 76 1 1)) s7,
  .p (.mv (kc (.tc (.sc (.int .i64 0))))) s8])
 (.block 0 (.loop 4294967296 (.seq (.reg [.p (.bin .lss g8 g7 (G2 76 2 0)) s9])
 (.seq (.cond g9 .skip
 (.exit 0))
 (.seq (.block 1 (.seq (.reg [.p (.mv g8) s10,
  .p (.mv g10) s5])
 (.seq (.reg [.p (.mv g1) s11,
  .p (.mv g0) s12,
  .p (.mv g5) s13,
  .p (.ia 11 g12 g13 (G2 76 4 3)) s14,
  .p (.ld true 11 g14) s15,
  .p (.gen (G2 76 4 5)) s16])
 (.cond g16 (.seq (.reg [.p (.mv g5) s17,
  .p (.mv g17) s4])
 .ret)
 .skip))))
 (.reg [.p (.bin .add g8 (kc (.tc (.sc (.int .i64 1)))) (G2 76 6 0)) s18,
  .p (.mv g18) s8])))))))
 (.seq (.reg [.p (.mv (kc (.tc (.sc (.int .i64 (-1)))))) s4])
 .ret))),
 [.tmp g4]⟩
theorem ff76_ok : compF SBLegalKnown 76 = ff76 := by kernel_rfl
noncomputable def ff56 : FF := .t2 ⟨6,
 (.seq (.reg [.p (.bx 11 g0 (G2 56 0 0)) s1,
  .p (.mv (kc (.tc (.sc (.bool false))))) s2])
 (.seq (.reg [.p (.ld true 11 g1) s3,
  .p (.call 24 [g3] (G2 56 1 1)) s4,
  .p (.nt g4 (G2 56 1 2)) s5,
  .p (.mv g5) s2])
 .ret)),
 [.tmp g2]⟩
theorem ff56_ok : compF SBLegalKnown 56 = ff56 := by kernel_rfl
noncomputable def ff24 : FF := .t2 ⟨54,
 (.seq (.reg [.p (.bx 11 g0 (G2 24 0 0)) s1,
  .p (.mv (kc (.tc (.sc (.bool false))))) s2])
 (.seq (.reg [.p (.fa 0 g1) s9,
  .p (.ld false 1 g9) s10,
  .p (.call 42 [g10] (G2 24 1 2)) s11,
  .p (.mv g11) s8,
  .p (.ex g8 0) s12,
  .p (.ex g8 1) s13,
  .p (.al 5 [(.sc (.int .u8 0)), (.sc (.string ⟨#[]⟩)), (.sc (.int .u8 0)), (.sc (.int .u8 0)), (.sc (.slice none 0 0))]) s3,
  .n (.st 5 g3 g12 (G2 24 1 7)),
  .p (.mv g13) s4])
 (.seq (.reg [.p (.ld true 11 g1) s14,
  .p (.al 11 [(.sc (.int .u8 0)), (.sc (.int .u8 0)), (.sc (.int .u8 0)), (.sc (.int .u8 0)), (.sc (.int .u8 0)), (.sc (.int .u8 0)), (.sc (.int .u8 0)), (.sc (.bool false)), (.sc (.bool false)), (.sc (.int .u16 0)), (.sc (.int .i64 0))]) s5,
  .n (.st 11 g5 g14 (G2 24 2 2))])
 (.seq (.reg [.p (.fa 0 g5) s15,
  .n (.st 1 g15 (kc (.tc (.sc (.int .u8 0)))) (G2 24 3 1))])
 (.seq (.seq (.reg [.p (.fa 4 g3) s16,
  .p (.ld false 1 g16) s17,
  .p (.len g17 (G2 24 4 2)) s18,
  .p (.mv (kc (.tc (.sc (.int .i64 0))))) s19])
 (.block 0 (.loop 4294967296 (.seq (.reg [.p (.bin .lss g19 g18 (G2 24 5 0)) s20])
 (.seq (.cond g20 .skip
 (.exit 0))
 (.seq (.block 1 (.seq (.reg [.p (.ia 5 g17 g19 (G2 24 6 0)) s21,
  .p (.ld true 5 g21) s22,
  .p (.al 5 [(.sc (.int .u8 0)), (.sc (.int .i64 0)), (.sc (.int .i64 0)), (.sc (.bool false)), (.sc (.bool false))]) s7,
  .n (.st 5 g7 g22 (G2 24 6 3))])
 (.seq (.reg [.p (.ld true 11 g5) s23,
  .p (.ld true 5 g7) s24,
  .p (.call 43 [g23, g24] (G2 24 7 2)) s25,
  .n (.st 11 g5 g25 (G2 24 7 3))])
 (.reg [.p (.mv g4) s26,
  .p (.mv g26) s27,
  .gp g27 true (.ld true 11 g1) s28,
  .gp g27 true (.ld true 5 g7) s29,
  .gp g27 true (.call 44 [g28, g29] (G2 24 8 4)) s30,
  .p (.pk g27 g30 (kc (.tc (.sc (.bool false))))) s31,
  .p (.mv g31) s4]))))
 (.reg [.p (.bin .add g19 (kc (.tc (.sc (.int .i64 1)))) (G2 24 9 0)) s32,
  .p (.mv g32) s19])))))))
 (.seq (.reg [.p (.mv g4) s33,
  .p (.mv g33) s34,
  .gp g34 true (.ld true 11 g5) s35,
  .gp g34 true (.bd [(.tc (.sc (.int .u8 0))), (.tc (.sc (.int .u8 0))), (.tc (.sc (.int .u8 0))), (.tc (.sc (.int .u8 0))), (.tc (.sc (.int .u8 0))), (.tc (.sc (.int .u8 0))), (.tc (.sc (.int .u8 0))), (.tc (.sc (.bool false))), (.tc (.sc (.bool false))), (.tc (.sc (.int .u16 0))), (.tc (.sc (.int .i64 0)))] [] (G2 24 10 3)) s36,
  .gp g34 true (.eqs .eql [(.mk 0 .int), (.mk 1 .int), (.mk 2 .int), (.mk 3 .int), (.mk 4 .int), (.mk 5 .int), (.mk 6 .int), (.mk 7 .bool), (.mk 8 .bool), (.mk 9 .int), (.mk 10 .int)] g35 g36 (G2 24 10 4)) s37,
  .p (.pk g34 g37 (kc (.tc (.sc (.bool false))))) s38,
  .p (.mv g38) s39,
  .gp g39 true (.ld true 11 g1) s40,
  .gp g39 true (.call 45 [g40] (G2 24 10 8)) s41,
  .gp g39 true (.mv g41) s42,
  .gp g42 true (.fa 6 g1) s43,
  .gp g42 true (.ld false 1 g43) s44,
  .gp g42 true (.bin .eql g44 (kc (.tc (.sc (.int .u8 0)))) (G2 24 10 12)) s45,
  .gp g39 true (.pk g42 g45 (kc (.tc (.sc (.bool false))))) s46,
  .gp g39 true (.mv g46) s47,
  .gp g47 true (.fa 5 g1) s48,
  .gp g47 true (.ld false 1 g48) s49,
  .gp g47 true (.bin .neq g49 (kc (.tc (.sc (.int .u8 0)))) (G2 24 10 17)) s50,
  .gp g39 true (.pk g47 g50 (kc (.tc (.sc (.bool false))))) s51,
  .gp g39 true (.nt g51 (G2 24 10 19)) s52,
  .p (.pk g39 g52 (kc (.tc (.sc (.bool false))))) s53,
  .p (.mv g53) s2])
 .ret)))))),
 [.tmp g2]⟩
theorem ff24_ok : compF SBLegalKnown 24 = ff24 := by kernel_rfl
noncomputable def ff43 : FF := .t2 ⟨40,
 (.seq (.reg [.p (.bx 11 g0 (G2 43 0 0)) s2,
  .p (.bx 5 g1 (G2 43 0 1)) s3,
  .p (.al 11 [(.sc (.int .u8 0)), (.sc (.int .u8 0)), (.sc (.int .u8 0)), (.sc (.int .u8 0)), (.sc (.int .u8 0)), (.sc (.int .u8 0)), (.sc (.int .u8 0)), (.sc (.bool false)), (.sc (.bool false)), (.sc (.int .u16 0)), (.sc (.int .i64 0))]) s4])
 (.seq (.seq (.reg [.p (.fa 0 g3) s5,
  .p (.ld false 1 g5) s6])
 (.block 0 (.seq (.reg [.p (.bin .eql g6 (kc (.tc (.sc (.int .u8 1)))) (G2 43 2 0)) s8,
  .p (.mv g8) s7])
 (.cond g7 (.reg [.p (.fa 6 g2) s9,
  .n (.st 1 g9 (kc (.tc (.sc (.int .u8 0)))) (G2 43 3 1))])
 (.seq (.reg [.p (.bin .eql g6 (kc (.tc (.sc (.int .u8 2)))) (G2 43 4 0)) s11,
  .p (.mv g11) s10])
 (.cond g10 (.reg [.p (.fa 5 g2) s12,
  .n (.st 1 g12 (kc (.tc (.sc (.int .u8 0)))) (G2 43 5 1))])
 (.seq (.seq (.reg [.p (.bin .eql g6 (kc (.tc (.sc (.int .u8 3)))) (G2 43 6 0)) s14,
  .p (.mv g14) s13])
 (.cond g13 .skip
 (.reg [.p (.bin .eql g6 (kc (.tc (.sc (.int .u8 4)))) (G2 43 7 0)) s15,
  .p (.mv g15) s13])))
 (.cond g13 (.reg [.p (.fa 1 g2) s16,
  .n (.st 1 g16 (kc (.tc (.sc (.int .u8 0)))) (G2 43 8 1))])
 (.seq (.reg [.p (.bin .eql g6 (kc (.tc (.sc (.int .u8 5)))) (G2 43 9 0)) s18,
  .p (.mv g18) s17])
 (.cond g17 (.reg [.p (.fa 2 g2) s19,
  .n (.st 1 g19 (kc (.tc (.sc (.int .u8 0)))) (G2 43 10 1))])
 (.seq (.reg [.p (.bin .eql g6 (kc (.tc (.sc (.int .u8 6)))) (G2 43 11 0)) s21,
  .p (.mv g21) s20])
 (.cond g20 (.reg [.p (.fa 3 g2) s22,
  .n (.st 1 g22 (kc (.tc (.sc (.int .u8 0)))) (G2 43 12 1))])
 (.seq (.reg [.p (.bin .eql g6 (kc (.tc (.sc (.int .u8 7)))) (G2 43 13 0)) s24,
  .p (.mv g24) s23])
 (.cond g23 (.reg [.p (.fa 4 g2) s25,
  .n (.st 1 g25 (kc (.tc (.sc (.int .u8 0)))) (G2 43 14 1))])
 (.seq (.reg [.p (.bin .eql g6 (kc (.tc (.sc (.int .u8 8)))) (G2 43 15 0)) s27,
  .p (.mv g27) s26])
 (.cond g26 (.reg [.p (.fa 7 g2) s28,
  .n (.st 1 g28 (kc (.tc (.sc (.bool false)))) (G2 43 16 1))])
 (.seq (.seq (.reg [.p (.bin .eql g6 (kc (.tc (.sc (.int .u8 9)))) (G2 43 17 0)) s30,
  .p (.mv g30) s29])
 (.cond g29 .skip
 (.reg [.p (.bin .eql g6 (kc (.tc (.sc (.int .u8 10)))) (G2 43 18 0)) s31,
  .p (.mv g31) s29])))
 (.cond g29 (.reg [.p (.fa 10 g2) s32,
  .n (.st 1 g32 (kc (.tc (.sc (.int .i64 0)))) (G2 43 19 1))])
 (.seq (.reg [.p (.bin .eql g6 (kc (.tc (.sc (.int .u8 11)))) (G2 43 20 0)) s34,
  .p (.mv g34) s33])
 (.cond g33 (.reg [.p (.fa 9 g2) s35,
  .n (.st 1 g35 (kc (.tc (.sc (.int .u16 0)))) (G2 43 21 1))])
 .skip))))))))))))))))))))
 (.seq (.seq (.reg [.p (.fa 4 g3) s36,
  .p (.ld false 1 g36) s37])
 (.cond g37 (.reg [.p (.fa 8 g2) s38,
  .n (.st 1 g38 (kc (.tc (.sc (.bool false)))) (G2 43 23 1))])
 .skip))
 (.seq (.reg [.p (.ld true 11 g2) s39,
  .n (.st 11 g4 g39 (G2 43 24 1))])
 .ret)))),
 [.cell g4 true 11]⟩
theorem ff43_ok : compF SBLegalKnown 43 = ff43 := by kernel_rfl
noncomputable def ff44 : FF := .t3 ⟨84,
 (.seq (.reg [.p (.bx 11 (h0 g0) (G3 44 0 0)) (i0 s2),
  .p (.bx 5 (h0 g1) (G3 44 0 1)) (i0 s3),
  .p (.mv (kc (.tc (.sc (.bool false))))) (i0 s4)])
 (.seq (.seq (.reg [.p (.fa 0 (h0 g3)) (i0 s5),
  .p (.ld false 1 (h0 g5)) (i0 s6)])
 (.block 0 (.seq (.reg [.p (.bin .eql (h0 g6) (kc (.tc (.sc (.int .u8 1)))) (G3 44 2 0)) (i0 s8),
  .p (.mv (h0 g8)) (i0 s7)])
 (.cond (h0 g7) (.seq (.reg [.p (.fa 6 (h0 g2)) (i0 s9),
  .p (.ld false 1 (h0 g9)) (i0 s10),
  .p (.bin .leq (h0 g10) (kc (.tc (.sc (.int .u8 4)))) (G3 44 3 2)) (i0 s11),
  .p (.mv (h0 g11)) (i0 s4)])
 .ret)
 (.seq (.reg [.p (.bin .eql (h0 g6) (kc (.tc (.sc (.int .u8 2)))) (G3 44 4 0)) (i0 s13),
  .p (.mv (h0 g13)) (i0 s12)])
 (.cond (h0 g12) (.seq (.reg [.p (.fa 5 (h0 g2)) (i0 s14),
  .p (.ld false 1 (h0 g14)) (i0 s15),
  .p (.bin .lss (h0 g15) (kc (.tc (.sc (.int .u8 4)))) (G3 44 5 2)) (i0 s16),
  .p (.mv (h0 g16)) (i0 s4)])
 .ret)
 (.seq (.reg [.p (.bin .eql (h0 g6) (kc (.tc (.sc (.int .u8 3)))) (G3 44 6 0)) (i0 s18),
  .p (.mv (h0 g18)) (i0 s17)])
 (.cond (h0 g17) (.seq (.reg [.p (.fa 1 (h0 g2)) (i0 s19),
  .p (.ld false 1 (h0 g19)) (i0 s20),
  .p (.bin .lss (h0 g20) (kc (.tc (.sc (.int .u8 32)))) (G3 44 7 2)) (i0 s21),
  .p (.mv (h0 g21)) (i0 s4)])
 .ret)
 (.seq (.reg [.p (.bin .eql (h0 g6) (kc (.tc (.sc (.int .u8 4)))) (G3 44 8 0)) (i0 s23),
  .p (.mv (h0 g23)) (i0 s22)])
 (.cond (h0 g22) (.seq (.reg [.p (.fa 1 (h0 g2)) (i0 s24),
  .p (.ld false 1 (h0 g24)) (i0 s25),
  .p (.bin .lss (h0 g25) (kc (.tc (.sc (.int .u8 4)))) (G3 44 9 2)) (i0 s26),
  .p (.mv (h0 g26)) (i0 s4)])
 .ret)
 (.seq (.reg [.p (.bin .eql (h0 g6) (kc (.tc (.sc (.int .u8 5)))) (G3 44 10 0)) (i0 s28),
  .p (.mv (h0 g28)) (i0 s27)])
 (.cond (h0 g27) (.seq (.reg [.p (.fa 2 (h0 g2)) (i0 s29),
  .p (.ld false 1 (h0 g29)) (i0 s30),
  .p (.bin .lss (h0 g30) (kc (.tc (.sc (.int .u8 32)))) (G3 44 11 2)) (i0 s31),
  .p (.mv (h0 g31)) (i0 s4)])
 .ret)
 (.seq (.reg [.p (.bin .eql (h0 g6) (kc (.tc (.sc (.int .u8 6)))) (G3 44 12 0)) (i0 s33),
  .p (.mv (h0 g33)) (i0 s32)])
 (.cond (h0 g32) (.seq (.reg [.p (.fa 3 (h0 g2)) (i0 s34),
  .p (.ld false 1 (h0 g34)) (i0 s35),
  .p (.bin .lss (h0 g35) (kc (.tc (.sc (.int .u8 32)))) (G3 44 13 2)) (i0 s36),
  .p (.mv (h0 g36)) (i0 s4)])
 .ret)
 (.seq (.reg [.p (.bin .eql (h0 g6) (kc (.tc (.sc (.int .u8 7)))) (G3 44 14 0)) (i0 s38),
  .p (.mv (h0 g38)) (i0 s37)])
 (.cond (h0 g37) (.seq (.reg [.p (.fa 4 (h0 g2)) (i0 s39),
  .p (.ld false 1 (h0 g39)) (i0 s40),
  .p (.bin .lss (h0 g40) (kc (.tc (.sc (.int .u8 2)))) (G3 44 15 2)) (i0 s41),
  .p (.mv (h0 g41)) (i0 s4)])
 .ret)
 (.seq (.reg [.p (.bin .eql (h0 g6) (kc (.tc (.sc (.int .u8 9)))) (G3 44 16 0)) (i0 s43),
  .p (.mv (h0 g43)) (i0 s42)])
 (.cond (h0 g42) (.seq (.seq (.reg [.p (.fa 8 (h0 g2)) (i0 s44),
  .p (.ld false 1 (h0 g44)) (i0 s45)])
 (.cond (h0 g45) (.seq (.reg [.p (.fa 10 (h0 g2)) (i0 s46),
  .p (.ld false 1 (h0 g46)) (i0 s47),
  .p (.bin .geq (h0 g47) (kc (.tc (.sc (.int .i64 (-2147483648))))) (G3 44 18 2)) (i0 s48),
  .p (.mv (h0 g48)) (i0 s49),
  .gp (h0 g49) true (.fa 10 (h0 g2)) (i0 s50),
  .gp (h0 g49) true (.ld false 1 (h0 g50)) (i0 s51),
  .gp (h0 g49) true (.bin .leq (h0 g51) (kc (.tc (.sc (.int .i64 2147483647)))) (G3 44 18 6)) (i0 s52),
  .p (.pk (h0 g49) (h0 g52) (kc (.tc (.sc (.bool false))))) (i0 s53),
  .p (.mv (h0 g53)) (i0 s4)])
 .ret)
 .skip))
 (.seq (.reg [.p (.fa 10 (h0 g2)) (i0 s54),
  .p (.ld false 1 (h0 g54)) (i0 s55),
  .p (.fa 1 (h0 g3)) (i0 s56),
  .p (.ld false 1 (h0 g56)) (i0 s57),
  .p (.fa 2 (h0 g3)) (i0 s58),
  .p (.ld false 1 (h0 g58)) (i0 s59),
  .p (.fa 3 (h0 g3)) (i0 s60),
  .p (.ld false 1 (h0 g60)) (i0 s61),
  .p (.call 69 [(h0 g55), (h0 g57), (h0 g59), (h0 g61)] (G3 44 19 8)) (i0 s62),
  .p (.mv (h0 g62)) (i0 s4)])
 .ret))
 (.seq (.reg [.p (.bin .eql (h0 g6) (kc (.tc (.sc (.int .u8 10)))) (G3 44 20 0)) (i1 s0),
  .p (.mv (h1 g0)) (i0 s63)])
 (.cond (h0 g63) (.seq (.reg [.p (.fa 10 (h0 g2)) (i1 s1),
  .p (.ld false 1 (h1 g1)) (i1 s2),
  .p (.bin .geq (h1 g2) (kc (.tc (.sc (.int .i64 0)))) (G3 44 21 2)) (i1 s3),
  .p (.mv (h1 g3)) (i1 s4),
  .gp (h1 g4) true (.fa 10 (h0 g2)) (i1 s5),
  .gp (h1 g4) true (.ld false 1 (h1 g5)) (i1 s6),
  .gp (h1 g4) true (.bin .lss (h1 g6) (kc (.tc (.sc (.int .i64 4294967296)))) (G3 44 21 6)) (i1 s7),
  .p (.pk (h1 g4) (h1 g7) (kc (.tc (.sc (.bool false))))) (i1 s8),
  .p (.mv (h1 g8)) (i1 s9),
  .gp (h1 g9) true (.fa 10 (h0 g2)) (i1 s10),
  .gp (h1 g9) true (.ld false 1 (h1 g10)) (i1 s11),
  .gp (h1 g9) true (.bin .rem (h1 g11) (kc (.tc (.sc (.int .i64 4)))) (G3 44 21 11)) (i1 s12),
  .gp (h1 g9) true (.bin .eql (h1 g12) (kc (.tc (.sc (.int .i64 0)))) (G3 44 21 12)) (i1 s13),
  .p (.pk (h1 g9) (h1 g13) (kc (.tc (.sc (.bool false))))) (i1 s14),
  .p (.mv (h1 g14)) (i0 s4)])
 .ret)
 (.seq (.reg [.p (.bin .eql (h0 g6) (kc (.tc (.sc (.int .u8 11)))) (G3 44 22 0)) (i1 s16),
  .p (.mv (h1 g16)) (i1 s15)])
 (.cond (h1 g15) (.seq (.reg [.p (.fa 9 (h0 g2)) (i1 s17),
  .p (.ld false 1 (h1 g17)) (i1 s18),
  .p (.bin .lss (h1 g18) (kc (.tc (.sc (.int .u16 2048)))) (G3 44 23 2)) (i1 s19),
  .p (.mv (h1 g19)) (i0 s4)])
 .ret)
 .skip))))))))))))))))))))))
 (.seq (.reg [.p (.mv (kc (.tc (.sc (.bool true))))) (i0 s4)])
 .ret))),
 [.tmp (h0 g4)]⟩
theorem ff44_ok : compF SBLegalKnown 44 = ff44 := by kernel_rfl
noncomputable def ff69 : FF := .t2 ⟨48,
 (.seq (.reg [.p (.mv (kc (.tc (.sc (.bool false))))) s8])
 (.seq (.seq (.reg [.p (.mv g1) s9,
  .p (.bin .lss g9 (kc (.tc (.sc (.int .i64 1)))) (G2 69 1 1)) s10,
  .p (.mv g10) s11,
  .gp g11 false (.mv g1) s12,
  .gp g11 false (.bin .gtr g12 (kc (.tc (.sc (.int .i64 32)))) (G2 69 1 4)) s13,
  .p (.pk g11 (kc (.tc (.sc (.bool true)))) g13) s14,
  .p (.mv g14) s15,
  .gp g15 false (.mv g2) s16,
  .gp g15 false (.bin .lss g16 (kc (.tc (.sc (.int .i64 0)))) (G2 69 1 8)) s17,
  .p (.pk g15 (kc (.tc (.sc (.bool true)))) g17) s18,
  .p (.mv g18) s19,
  .gp g19 false (.mv g2) s20,
  .gp g19 false (.bin .gtr g20 (kc (.tc (.sc (.int .i64 8)))) (G2 69 1 12)) s21,
  .p (.pk g19 (kc (.tc (.sc (.bool true)))) g21) s22,
  .p (.mv g22) s23,
  .gp g23 false (.mv g0) s24,
  .gp g23 false (.mv g2) s25,
  .gp g23 false (.bin .shl (kc (.tc (.sc (.int .i64 1)))) g25 (G2 69 1 17)) s26,
  .gp g23 false (.bin .sub g26 (kc (.tc (.sc (.int .i64 1)))) (G2 69 1 18)) s27,
  .gp g23 false (.bin .and g24 g27 (G2 69 1 19)) s28,
  .gp g23 false (.bin .neq g28 (kc (.tc (.sc (.int .i64 0)))) (G2 69 1 20)) s29,
  .p (.pk g23 (kc (.tc (.sc (.bool true)))) g29) s30])
 (.cond g30 (.seq (.reg [.p (.mv (kc (.tc (.sc (.bool false))))) s8])
 .ret)
 .skip))
 (.seq (.reg [.p (.mv g0) s31,
  .p (.mv g2) s32,
  .p (.bin .shr g31 g32 (G2 69 3 2)) s33,
  .p (.mv g33) s0])
 (.seq (.seq (.reg [.p (.mv g3) s34])
 (.cond g34 (.reg [.p (.mv g0) s35,
  .p (.mv g1) s36,
  .p (.bin .sub g36 (kc (.tc (.sc (.int .i64 1)))) (G2 69 5 2)) s37,
  .p (.bin .shl (kc (.tc (.sc (.int .i64 1)))) g37 (G2 69 5 3)) s38,
  .p (.bin .add g35 g38 (G2 69 5 4)) s39,
  .p (.mv g39) s0])
 .skip))
 (.seq (.reg [.p (.mv g0) s40,
  .p (.bin .geq g40 (kc (.tc (.sc (.int .i64 0)))) (G2 69 6 1)) s41,
  .p (.mv g41) s42,
  .gp g42 true (.mv g0) s43,
  .gp g42 true (.mv g1) s44,
  .gp g42 true (.bin .shl (kc (.tc (.sc (.int .i64 1)))) g44 (G2 69 6 5)) s45,
  .gp g42 true (.bin .lss g43 g45 (G2 69 6 6)) s46,
  .p (.pk g42 g46 (kc (.tc (.sc (.bool false))))) s47,
  .p (.mv g47) s8])
 .ret))))),
 [.tmp g8]⟩
theorem ff69_ok : compF SBLegalKnown 69 = ff69 := by kernel_rfl
noncomputable def ff45 : FF := .t2 ⟨5,
 (.seq (.reg [.p (.bx 11 g0 (G2 45 0 0)) s1,
  .p (.mv (kc (.tc (.sc (.bool false))))) s2])
 (.seq (.reg [.p (.ld true 11 g1) s3,
  .p (.call 70 [g3, (kc (.tc (.sc (.int .u8 1))))] (G2 45 1 1)) s4,
  .p (.mv g4) s2])
 .ret)),
 [.tmp g2]⟩
theorem ff45_ok : compF SBLegalKnown 45 = ff45 := by kernel_rfl
noncomputable def ff70 : FF := .t2 ⟨17,
 (.seq (.reg [.p (.bx 11 g0 (G2 70 0 0)) s2,
  .p (.mv (kc (.tc (.sc (.bool false))))) s4])
 (.seq (.reg [.p (.fa 0 g2) s9,
  .p (.ld false 1 g9) s10,
  .p (.mv g1) s11,
  .p (.call 89 [g10, g11] (G2 70 1 3)) s12,
  .p (.mv g12) s8,
  .p (.ex g8 0) s13,
  .p (.ex g8 1) s14,
  .p (.ex g8 2) s15,
  .p (.al 5 [(.sc (.int .u8 0)), (.sc (.int .i64 0)), (.sc (.int .i64 0)), (.sc (.bool false)), (.sc (.bool false))]) s5,
  .n (.st 5 g5 g13 (G2 70 1 9)),
  .p (.mv g14) s6,
  .p (.mv g15) s7])
 (.seq (.reg [.p (.mv g7) s16,
  .p (.mv g16) s4])
 .ret))),
 [.tmp g4]⟩
theorem ff70_ok : compF SBLegalKnown 70 = ff70 := by kernel_rfl
noncomputable def ff89 : FF := .t2 ⟨35,
 (.seq (.reg [.p (.al 5 [(.sc (.int .u8 0)), (.sc (.int .i64 0)), (.sc (.int .i64 0)), (.sc (.bool false)), (.sc (.bool false))]) s4,
  .p (.mv (kc (.tc (.sc (.int .i64 0))))) s5,
  .p (.mv (kc (.tc (.sc (.bool false))))) s6])
 (.seq (.reg [.p (.mv g0) s12,
  .p (.call 67 [g12] (G2 89 1 1)) s13,
  .p (.mv g13) s11,
  .p (.ex g11 0) s14,
  .p (.ex g11 1) s15,
  .p (.al 5 [(.sc (.int .u8 0)), (.sc (.string ⟨#[]⟩)), (.sc (.int .u8 0)), (.sc (.int .u8 0)), (.sc (.slice none 0 0))]) s7,
  .n (.st 5 g7 g14 (G2 89 1 6)),
  .p (.mv g15) s8])
 (.seq (.reg [.p (.mv (kc (.tc (.sc (.int .i64 24))))) s5])
 (.seq (.seq (.reg [.p (.fa 4 g7) s16,
  .p (.ld false 1 g16) s17,
  .p (.len g17 (G2 89 3 2)) s18,
  .p (.mv (kc (.tc (.sc (.int .i64 0))))) s19])
 (.block 0 (.loop 4294967296 (.seq (.reg [.p (.bin .lss g19 g18 (G2 89 4 0)) s20])
 (.seq (.cond g20 .skip
 (.exit 0))
 (.seq (.block 1 (.seq (.reg [.p (.ia 5 g17 g19 (G2 89 5 0)) s21,
  .p (.ld true 5 g21) s22,
  .p (.al 5 [(.sc (.int .u8 0)), (.sc (.int .i64 0)), (.sc (.int .i64 0)), (.sc (.bool false)), (.sc (.bool false))]) s10,
  .n (.st 5 g10 g22 (G2 89 5 3))])
 (.seq (.reg [.p (.mv g5) s23,
  .p (.fa 1 g10) s24,
  .p (.ld false 1 g24) s25,
  .p (.bin .sub g23 g25 (G2 89 6 3)) s26,
  .p (.mv g26) s5])
 (.seq (.reg [.p (.fa 0 g10) s27,
  .p (.ld false 1 g27) s28,
  .p (.mv g1) s29,
  .p (.bin .eql g28 g29 (G2 89 7 3)) s30])
 (.cond g30 (.seq (.reg [.p (.ld true 5 g10) s31,
  .p (.mv g5) s32,
  .n (.st 5 g4 g31 (G2 89 8 2)),
  .p (.mv g32) s5,
  .p (.mv (kc (.tc (.sc (.bool true))))) s6])
 .ret)
 .skip)))))
 (.reg [.p (.bin .add g19 (kc (.tc (.sc (.int .i64 1)))) (G2 89 9 0)) s33,
  .p (.mv g33) s19])))))))
 (.seq (.reg [.p (.bd [(.tc (.sc (.int .u8 0))), (.tc (.sc (.int .i64 0))), (.tc (.sc (.int .i64 0))), (.tc (.sc (.bool false))), (.tc (.sc (.bool false)))] [] (G2 89 10 0)) s34,
  .n (.st 5 g4 g34 (G2 89 10 1)),
  .p (.mv (kc (.tc (.sc (.int .i64 0))))) s5,
  .p (.mv (kc (.tc (.sc (.bool false))))) s6])
 .ret))))),
 [.cell g4 true 5, .tmp g5, .tmp g6]⟩
theorem ff89_ok : compF SBLegalKnown 89 = ff89 := by kernel_rfl
noncomputable def ff57 : FF := .t2 ⟨19,
 (.seq (.reg [.p (.mv (kc (.tc (.sc (.bool false))))) s2])
 (.seq (.seq (.reg [.p (.mv g0) s5,
  .p (.len g5 (G2 57 1 1)) s6,
  .p (.mv (kc (.tc (.sc (.int .i64 0))))) s7])
 (.block 0 (.loop 4294967296 (.seq (.reg [.p (.bin .lss g7 g6 (G2 57 2 0)) s8])
 (.seq (.cond g8 .skip
 (.exit 0))
 (.seq (.block 1 (.seq (.reg [.p (.mv g7) s9,
  .p (.ia 11 g5 g7 (G2 57 3 1)) s10,
  .p (.ld true 11 g10) s11,
  .p (.al 11 [(.sc (.int .u8 0)), (.sc (.int .u8 0)), (.sc (.int .u8 0)), (.sc (.int .u8 0)), (.sc (.int .u8 0)), (.sc (.int .u8 0)), (.sc (.int .u8 0)), (.sc (.bool false)), (.sc (.bool false)), (.sc (.int .u16 0)), (.sc (.int .i64 0))]) s4,
  .p (.mv g9) s3,
  .n (.st 11 g4 g11 (G2 57 3 5))])
 (.seq (.reg [.p (.mv g0) s12,
  .p (.mv g3) s13,
  .p (.bin .add g13 (kc (.tc (.sc (.int .i64 1)))) (G2 57 4 2)) s14,
  .p (.sl 11 g12 (some g14) none none (G2 57 4 3)) s15,
  .p (.mf (.func 77) [] [g4]) s16,
  .p (.call 55 [g15, g16] (G2 57 4 5)) s17])
 (.cond g17 (.seq (.reg [.p (.mv (kc (.tc (.sc (.bool true))))) s2])
 .ret)
 .skip))))
 (.reg [.p (.bin .add g7 (kc (.tc (.sc (.int .i64 1)))) (G2 57 6 0)) s18,
  .p (.mv g18) s7])))))))
 (.seq (.reg [.p (.mv (kc (.tc (.sc (.bool false))))) s2])
 .ret))),
 [.tmp g2]⟩
theorem ff57_ok : compF SBLegalKnown 57 = ff57 := by kernel_rfl
noncomputable def ff77 : FF := .t2 ⟨7,
 (.seq (.reg [.p (.bx 11 g0 (G2 77 0 0)) s2,
  .p (.mv (kc (.tc (.sc (.bool false))))) s3])
 (.seq (.reg [.p (.ld true 11 g1) s4,
  .p (.ld true 11 g2) s5,
  .p (.call 78 [g4, g5] (G2 77 1 2)) s6,
  .p (.mv g6) s3])
 .ret)),
 [.tmp g3]⟩
theorem ff77_ok : compF SBLegalKnown 77 = ff77 := by kernel_rfl
noncomputable def ff78 : FF := .t2 ⟨53,
 (.seq (.reg [.p (.bx 11 g0 (G2 78 0 0)) s2,
  .p (.bx 11 g1 (G2 78 0 1)) s3,
  .p (.mv (kc (.tc (.sc (.bool false))))) s4])
 (.seq (.reg [.p (.ld true 11 g2) s12,
  .p (.call 82 [g12] (G2 78 1 1)) s13,
  .p (.mv g13) s11,
  .p (.ex g11 0) s14,
  .p (.ex g11 1) s15,
  .p (.mv g14) s5,
  .p (.mv g15) s6])
 (.seq (.reg [.p (.ld true 11 g3) s17,
  .p (.call 82 [g17] (G2 78 2 1)) s18,
  .p (.mv g18) s16,
  .p (.ex g16 0) s19,
  .p (.ex g16 1) s20,
  .p (.mv g19) s7,
  .p (.mv g20) s8])
 (.seq (.seq (.reg [.p (.mv g6) s21,
  .p (.mv g21) s22,
  .gp g22 true (.mv g8) s23,
  .p (.pk g22 g23 (kc (.tc (.sc (.bool false))))) s24,
  .p (.mv g24) s25,
  .gp g25 true (.mv g5) s26,
  .gp g25 true (.mv g7) s27,
  .gp g25 true (.bin .eql g26 g27 (G2 78 3 7)) s28,
  .p (.pk g25 g28 (kc (.tc (.sc (.bool false))))) s29])
 (.cond g29 (.seq (.reg [.p (.ld true 11 g2) s30,
  .p (.ld true 11 g3) s31,
  .p (.call 91 [g30, g31] (G2 78 4 2)) s32,
  .p (.nt g32 (G2 78 4 3)) s33,
  .p (.mv g33) s4])
 .ret)
 .skip))
 (.seq (.reg [.p (.ld true 11 g2) s35,
  .p (.call 81 [g35] (G2 78 5 1)) s36,
  .p (.mv g36) s34,
  .p (.ex g34 0) s37,
  .p (.ex g34 1) s38,
  .p (.mv g37) s9,
  .p (.mv g38) s6])
 (.seq (.reg [.p (.ld true 11 g3) s40,
  .p (.call 81 [g40] (G2 78 6 1)) s41,
  .p (.mv g41) s39,
  .p (.ex g39 0) s42,
  .p (.ex g39 1) s43,
  .p (.mv g42) s10,
  .p (.mv g43) s8])
 (.seq (.reg [.p (.mv g6) s44,
  .p (.mv g44) s45,
  .gp g45 true (.mv g8) s46,
  .p (.pk g45 g46 (kc (.tc (.sc (.bool false))))) s47,
  .p (.mv g47) s48,
  .gp g48 true (.mv g9) s49,
  .gp g48 true (.mv g10) s50,
  .gp g48 true (.bin .eql g49 g50 (G2 78 7 7)) s51,
  .p (.pk g48 g51 (kc (.tc (.sc (.bool false))))) s52,
  .p (.mv g52) s4])
 .ret))))))),
 [.tmp g4]⟩
theorem ff78_ok : compF SBLegalKnown 78 = ff78 := by kernel_rfl
noncomputable def ff82 : FF := .t2 ⟨18,
 (.seq (.reg [.p (.bx 11 g0 (G2 82 0 0)) s1,
  .p (.mv (kc (.tc (.sc (.int .u8 0))))) s2,
  .p (.mv (kc (.tc (.sc (.bool false))))) s3])
 (.seq (.block 0 (.seq (.reg [.p (.ld true 11 g1) s5,
  .p (.call 24 [g5] (G2 82 1 1)) s6,
  .p (.nt g6 (G2 82 1 2)) s7,
  .p (.mv g7) s4])
 (.cond g4 (.seq (.reg [.p (.mv (kc (.tc (.sc (.int .u8 0))))) s2,
  .p (.mv (kc (.tc (.sc (.bool false))))) s3])
 .ret)
 (.seq (.reg [.p (.fa 0 g1) s9,
  .p (.ld false 1 g9) s10,
  .p (.bin .eql g10 (kc (.tc (.sc (.int .u8 29)))) (G2 82 3 2)) s11,
  .p (.mv g11) s8])
 (.cond g8 (.seq (.reg [.p (.mv (kc (.tc (.sc (.int .u8 31))))) s2,
  .p (.mv (kc (.tc (.sc (.bool true))))) s3])
 .ret)
 (.seq (.reg [.p (.ld true 11 g1) s13,
  .p (.call 70 [g13, (kc (.tc (.sc (.int .u8 3))))] (G2 82 5 1)) s14,
  .p (.nt g14 (G2 82 5 2)) s15,
  .p (.mv g15) s12])
 (.cond g12 (.seq (.reg [.p (.mv (kc (.tc (.sc (.int .u8 0))))) s2,
  .p (.mv (kc (.tc (.sc (.bool false))))) s3])
 .ret)
 .skip)))))))
 (.seq (.reg [.p (.fa 1 g1) s16,
  .p (.ld false 1 g16) s17,
  .p (.mv g17) s2,
  .p (.mv (kc (.tc (.sc (.bool true))))) s3])
 .ret))),
 [.tmp g2, .tmp g3]⟩
theorem ff82_ok : compF SBLegalKnown 82 = ff82 := by kernel_rfl
noncomputable def ff91 : FF := .t2 ⟨36,
 (.seq (.reg [.p (.bx 11 g0 (G2 91 0 0)) s2,
  .p (.bx 11 g1 (G2 91 0 1)) s3,
  .p (.mv (kc (.tc (.sc (.bool false))))) s4])
 (.seq (.seq (.reg [.p (.fa 5 g2) s7,
  .p (.ld false 1 g7) s8,
  .p (.fa 5 g3) s9,
  .p (.ld false 1 g9) s10,
  .p (.bin .neq g8 g10 (G2 91 1 4)) s11])
 (.cond g11 (.seq (.reg [.p (.mv (kc (.tc (.sc (.bool false))))) s4])
 .ret)
 .skip))
 (.seq (.regD [0, 1, 0, 4, 15, 0, 32, 0, 128, 480, 31, 2047] [.no, (.rd (.ld false 1 g12) g13), .no, (.rd (.ld false 1 g14) g15), .no, .no, (.rd (.ld false 1 g17) g18), .no, (.rd (.ld false 1 g19) g20), .no, .no, .no] [.mk .none .yes (.fa 6 g2) (.fa 6 g2) (some s12),
  .mk .none .yes (.ld false 1 g12) (.ld false 1 g12) (some s13),
  .mk .none .yes (.fa 6 g3) (.fa 6 g3) (some s14),
  .mk .none .yes (.ld false 1 g14) (.ld false 1 g14) (some s15),
  .mk .none .yes (.gen (G2 91 3 4)) (.gen (G2 91 3 4)) (some s16),
  .mk .none .yes (.fa 6 g2) (.fa 6 g2) (some s17),
  .mk .none .yes (.ld false 1 g17) (.ld false 1 g17) (some s18),
  .mk .none .yes (.fa 6 g3) (.fa 6 g3) (some s19),
  .mk .none .yes (.ld false 1 g19) (.ld false 1 g19) (some s20),
  .mk .none .yes (.gen (G2 91 3 9)) (.gen (G2 91 3 9)) (some s21),
  .mk .none .yes (.mv g16) (.mv g16) (some s5),
  .mk .none .yes (.mv g21) (.mv g21) (some s6)])
 (.seq (.reg [.p (.mv g5) s22,
  .p (.bin .eql g22 (kc (.tc (.sc (.int .u8 1)))) (G2 91 4 1)) s23,
  .p (.mv g23) s24,
  .gp g24 true (.mv g6) s25,
  .gp g24 true (.bin .eql g25 (kc (.tc (.sc (.int .u8 2)))) (G2 91 4 4)) s26,
  .p (.pk g24 g26 (kc (.tc (.sc (.bool false))))) s27,
  .p (.mv g27) s28,
  .gp g28 false (.mv g5) s29,
  .gp g28 false (.bin .eql g29 (kc (.tc (.sc (.int .u8 3)))) (G2 91 4 8)) s30,
  .gp g28 false (.mv g30) s31,
  .gp g31 true (.mv g6) s32,
  .gp g31 true (.bin .eql g32 (kc (.tc (.sc (.int .u8 4)))) (G2 91 4 11)) s33,
  .gp g28 false (.pk g31 g33 (kc (.tc (.sc (.bool false))))) s34,
  .p (.pk g28 (kc (.tc (.sc (.bool true)))) g34) s35,
  .p (.mv g35) s4])
 .ret)))),
 [.tmp g4]⟩
theorem ff91_ok : compF SBLegalKnown 91 = ff91 := by kernel_rfl
noncomputable def ff81 : FF := .t2 ⟨14,
 (.seq (.reg [.p (.bx 11 g0 (G2 81 0 0)) s1,
  .p (.mv (kc (.tc (.sc (.int .u8 0))))) s2,
  .p (.mv (kc (.tc (.sc (.bool false))))) s3])
 (.seq (.seq (.reg [.p (.ld true 11 g1) s4,
  .p (.call 24 [g4] (G2 81 1 1)) s5,
  .p (.nt g5 (G2 81 1 2)) s6,
  .p (.mv g6) s7,
  .gp g7 false (.ld true 11 g1) s8,
  .gp g7 false (.call 70 [g8, (kc (.tc (.sc (.int .u8 4))))] (G2 81 1 5)) s9,
  .gp g7 false (.nt g9 (G2 81 1 6)) s10,
  .p (.pk g7 (kc (.tc (.sc (.bool true)))) g10) s11])
 (.cond g11 (.seq (.reg [.p (.mv (kc (.tc (.sc (.int .u8 0))))) s2,
  .p (.mv (kc (.tc (.sc (.bool false))))) s3])
 .ret)
 .skip))
 (.seq (.reg [.p (.fa 1 g1) s12,
  .p (.ld false 1 g12) s13,
  .p (.mv g13) s2,
  .p (.mv (kc (.tc (.sc (.bool true))))) s3])
 .ret))),
 [.tmp g2, .tmp g3]⟩
theorem ff81_ok : compF SBLegalKnown 81 = ff81 := by kernel_rfl
noncomputable def ff58 : FF := .t2 ⟨8,
 (.seq (.reg [.p (.bx 11 g0 (G2 58 0 0)) s2,
  .p (.mv (kc (.tc (.sc (.bool false))))) s3])
 (.seq (.reg [.p (.ld true 11 g2) s4,
  .p (.ld false 1 g1) s5,
  .p (.call 59 [g4, g5] (G2 58 1 2)) s6,
  .p (.nt g6 (G2 58 1 3)) s7,
  .p (.mv g7) s3])
 .ret)),
 [.tmp g3]⟩
theorem ff58_ok : compF SBLegalKnown 58 = ff58 := by kernel_rfl
noncomputable def ff59 : FF := .t2 ⟨62,
 (.seq (.reg [.p (.bx 11 g0 (G2 59 0 0)) s2,
  .p (.mv (kc (.tc (.sc (.bool false))))) s4])
 (.seq (.seq (.reg [.p (.ld true 11 g2) s15,
  .p (.call 79 [g15] (G2 59 1 1)) s16,
  .p (.mv g16) s14,
  .p (.ex g14 0) s17,
  .p (.ex g14 1) s18,
  .p (.ex g14 2) s19,
  .p (.al 1 [(.sc (.int .u8 0))]) s5,
  .n (.st 1 g5 g17 (G2 59 1 7)),
  .p (.mv g18) s6,
  .p (.mv g19) s7])
 (.seq (.reg [.p (.mv g6) s20])
 (.cond g20 (.seq (.reg [.p (.mv g1) s21,
  .p (.mf (.func 80) [] [g5]) s22,
  .p (.call 55 [g21, g22] (G2 59 3 2)) s23,
  .p (.mv g23) s4])
 .ret)
 .skip)))
 (.seq (.seq (.reg [.p (.fa 7 g2) s24,
  .p (.ld false 1 g24) s25,
  .p (.nt g25 (G2 59 4 2)) s26])
 (.cond g26 (.seq (.reg [.p (.mv (kc (.tc (.sc (.bool true))))) s4])
 .ret)
 .skip))
 (.seq (.reg [.p (.mv (kc (.tc (.sc (.int .i64 0))))) s8,
  .p (.mv (kc (.tc (.sc (.bool true))))) s9])
 (.seq (.seq (.reg [.p (.mv g1) s27,
  .p (.len g27 (G2 59 7 1)) s28,
  .p (.mv (kc (.tc (.sc (.int .i64 0))))) s29])
 (.block 0 (.loop 4294967296 (.seq (.reg [.p (.bin .lss g29 g28 (G2 59 8 0)) s30])
 (.seq (.cond g30 .skip
 (.exit 0))
 (.seq (.block 1 (.seq (.reg [.p (.ia 11 g27 g29 (G2 59 9 0)) s31,
  .p (.ld true 11 g31) s32,
  .p (.al 11 [(.sc (.int .u8 0)), (.sc (.int .u8 0)), (.sc (.int .u8 0)), (.sc (.int .u8 0)), (.sc (.int .u8 0)), (.sc (.int .u8 0)), (.sc (.int .u8 0)), (.sc (.bool false)), (.sc (.bool false)), (.sc (.int .u16 0)), (.sc (.int .i64 0))]) s11,
  .n (.st 11 g11 g32 (G2 59 9 3))])
 (.seq (.reg [.p (.ld true 11 g11) s34,
  .p (.call 82 [g34] (G2 59 10 1)) s35,
  .p (.mv g35) s33,
  .p (.ex g33 0) s36,
  .p (.ex g33 1) s37,
  .p (.mv g36) s12,
  .p (.mv g37) s13])
 (.seq (.reg [.p (.mv g13) s38,
  .p (.mv g38) s39,
  .gp g39 true (.mv g12) s40,
  .gp g39 true (.fa 3 g2) s41,
  .gp g39 true (.ld false 1 g41) s42,
  .gp g39 true (.bin .eql g40 g42 (G2 59 11 5)) s43,
  .p (.pk g39 g43 (kc (.tc (.sc (.bool false))))) s44])
 (.cond g44 (.seq (.reg [.p (.mv g8) s45,
  .p (.bin .add g45 (kc (.tc (.sc (.int .i64 1)))) (G2 59 12 1)) s46,
  .p (.mv g46) s8])
 (.regD [0, 1, 3, 7, 15, 31, 15, 127, 255, 511] [.no, (.rd (.ld false 1 g47) g48), .no, .no, .no, .no, (.rd (.ld true 11 g11) g53), .no, .no, .no] [.mk .none .yes (.fa 6 g11) (.fa 6 g11) (some s47),
  .mk .none .yes (.ld false 1 g47) (.ld false 1 g47) (some s48),
  .mk .none .yes (.bin .eql g48 (kc (.tc (.sc (.int .u8 0)))) (G2 59 13 2)) (.bin .eql g48 (kc (.tc (.sc (.int .u8 0)))) (G2 59 13 2)) (some s49),
  .mk .none .yes (.mv g49) (.mv g49) (some s50),
  .mk (.on g50 true) (.gen (G2 59 13 4)) (.bt 1 [[(.tc (.sc (.int .u8 0)))], [(.tc (.sc (.int .u8 0)))]] [(.mk 0 1 (kc (.tc (.sc (.int .u8 1))))), (.mk 1 1 (kc (.tc (.sc (.int .u8 2)))))] (G2 59 13 4)) (.bs 1 2 [[(.tc (.sc (.int .u8 0)))], [(.tc (.sc (.int .u8 0)))]] [(.mk 0 1 (kc (.tc (.sc (.int .u8 1))))), (.mk 1 1 (kc (.tc (.sc (.int .u8 2)))))] (G2 59 13 4)) (some s51),
  .mk (.on g50 true) (.dyn 54 [g51]) (.call 54 [g51] (G2 59 13 5)) (.call 54 [g51] (G2 59 13 5)) (some s52),
  .mk (.on g50 true) .yes (.ld true 11 g11) (.ld true 11 g11) (some s53),
  .mk (.on g50 true) (.gen (G2 59 13 7)) (.gen (G2 59 13 7)) (.gen (G2 59 13 7)) (some s54),
  .mk .none .yes (.pk g50 g54 (kc (.tc (.sc (.bool false))))) (.pk g50 g54 (kc (.tc (.sc (.bool false))))) (some s55),
  .mk .none .yes (.mv g55) (.mv g55) (some s9)]))
 .skip)))))
 (.reg [.p (.bin .add g29 (kc (.tc (.sc (.int .i64 1)))) (G2 59 14 0)) s56,
  .p (.mv g56) s29])))))))
 (.seq (.reg [.p (.mv g8) s57,
  .p (.bin .eql g57 (kc (.tc (.sc (.int .i64 1)))) (G2 59 15 1)) s58,
  .p (.mv g58) s59,
  .gp g59 true (.mv g9) s60,
  .p (.pk g59 g60 (kc (.tc (.sc (.bool false))))) s61,
  .p (.mv g61) s4])
 .ret)))))),
 [.tmp g4]⟩
theorem ff59_ok : compF SBLegalKnown 59 = ff59 := by kernel_rfl
noncomputable def ff79 : FF := .t2 ⟨23,
 (.seq (.reg [.p (.bx 11 g0 (G2 79 0 0)) s1,
  .p (.mv (kc (.tc (.sc (.int .u8 0))))) s2,
  .p (.mv (kc (.tc (.sc (.bool false))))) s3,
  .p (.mv (kc (.tc (.sc (.bool false))))) s4])
 (.seq (.seq (.reg [.p (.ld true 11 g1) s5,
  .p (.call 24 [g5] (G2 79 1 1)) s6,
  .p (.nt g6 (G2 79 1 2)) s7,
  .p (.mv g7) s8,
  .gp g8 false (.fa 0 g1) s9,
  .gp g8 false (.ld false 1 g9) s10,
  .gp g8 false (.bin .neq g10 (kc (.tc (.sc (.int .u8 14)))) (G2 79 1 6)) s11,
  .gp g8 false (.mv g11) s12,
  .gp g12 true (.fa 6 g1) s13,
  .gp g12 true (.ld false 1 g13) s14,
  .gp g12 true (.bin .eql g14 (kc (.tc (.sc (.int .u8 0)))) (G2 79 1 10)) s15,
  .gp g8 false (.pk g12 g15 (kc (.tc (.sc (.bool false))))) s16,
  .p (.pk g8 (kc (.tc (.sc (.bool true)))) g16) s17])
 (.cond g17 (.seq (.reg [.p (.mv (kc (.tc (.sc (.int .u8 0))))) s2,
  .p (.mv (kc (.tc (.sc (.bool false))))) s3,
  .p (.mv (kc (.tc (.sc (.bool false))))) s4])
 .ret)
 .skip))
 (.seq (.regD [0, 1, 0, 4, 12, 3, 63, 127] [.no, (.rd (.ld false 1 g18) g19), .no, (.rd (.ld false 1 g20) g21), .no, .no, .no, .no] [.mk .none .yes (.fa 5 g1) (.fa 5 g1) (some s18),
  .mk .none .yes (.ld false 1 g18) (.ld false 1 g18) (some s19),
  .mk .none .yes (.fa 6 g1) (.fa 6 g1) (some s20),
  .mk .none .yes (.ld false 1 g20) (.ld false 1 g20) (some s21),
  .mk .none .yes (.bin .geq g21 (kc (.tc (.sc (.int .u8 3)))) (G2 79 3 4)) (.bin .geq g21 (kc (.tc (.sc (.int .u8 3)))) (G2 79 3 4)) (some s22),
  .mk .none .yes (.mv g19) (.mv g19) (some s2),
  .mk .none .yes (.mv g22) (.mv g22) (some s3),
  .mk .none .yes (.mv (kc (.tc (.sc (.bool true))))) (.mv (kc (.tc (.sc (.bool true))))) (some s4)])
 .ret))),
 [.tmp g2, .tmp g3, .tmp g4]⟩
theorem ff79_ok : compF SBLegalKnown 79 = ff79 := by kernel_rfl
noncomputable def ff80 : FF := .t2 ⟨17,
 (.seq (.reg [.p (.bx 11 g0 (G2 80 0 0)) s2,
  .p (.mv (kc (.tc (.sc (.bool false))))) s3])
 (.seq (.reg [.p (.ld true 11 g2) s7,
  .p (.call 81 [g7] (G2 80 1 1)) s8,
  .p (.mv g8) s6,
  .p (.ex g6 0) s9,
  .p (.ex g6 1) s10,
  .p (.mv g9) s4,
  .p (.mv g10) s5])
 (.seq (.reg [.p (.mv g5) s11,
  .p (.mv g11) s12,
  .gp g12 true (.mv g4) s13,
  .gp g12 true (.ld false 1 g1) s14,
  .gp g12 true (.bin .eql g13 g14 (G2 80 2 4)) s15,
  .p (.pk g12 g15 (kc (.tc (.sc (.bool false))))) s16,
  .p (.mv g16) s3])
 .ret))),
 [.tmp g3]⟩
theorem ff80_ok : compF SBLegalKnown 80 = ff80 := by kernel_rfl
noncomputable def ff34 : FF := .t2 ⟨20,
 (.seq (.reg [.p (.bx 5 g0 (G2 34 0 0)) s1,
  .p (.mv (kc (.tc (.sc (.bool false))))) s2])
 (.seq (.seq (.reg [.p (.fa 4 g1) s6,
  .p (.ld false 1 g6) s7])
 (.cond g7 (.seq (.reg [.p (.fa 0 g1) s9,
  .p (.ld false 1 g9) s10,
  .p (.call 16 [g10] (G2 34 2 2)) s11,
  .p (.mv g11) s8,
  .p (.ex g8 0) s12,
  .p (.ex g8 1) s13,
  .p (.ex g8 2) s14,
  .p (.mv g12) s3,
  .p (.mv g13) s4,
  .p (.mv g14) s5])
 (.seq (.reg [.p (.mv g5) s15,
  .p (.mv g15) s2])
 .ret))
 .skip))
 (.seq (.reg [.p (.fa 0 g1) s16,
  .p (.ld false 1 g16) s17,
  .p (.call 61 [g17, (kc (.tc (.sc (.int .u8 15))))] (G2 34 4 2)) s18,
  .p (.call 60 [g18] (G2 34 4 3)) s19,
  .p (.mv g19) s2])
 .ret))),
 [.tmp g2]⟩
theorem ff34_ok : compF SBLegalKnown 34 = ff34 := by kernel_rfl
noncomputable def ff16 : FF := .t2 ⟨27,
 (.seq (.reg [.p (.mv (kc (.tc (.sc (.int .i64 0))))) s2,
  .p (.mv (kc (.tc (.sc (.int .i64 0))))) s3,
  .p (.mv (kc (.tc (.sc (.bool false))))) s4])
 (.seq (.seq (.reg [.p (.mv g0) s7,
  .p (.len g7 (G2 16 1 1)) s8,
  .p (.mv (kc (.tc (.sc (.int .i64 0))))) s9])
 (.block 0 (.loop 4294967296 (.seq (.reg [.p (.bin .lss g9 g8 (G2 16 2 0)) s10])
 (.seq (.cond g10 .skip
 (.exit 0))
 (.seq (.block 1 (.seq (.reg [.p (.mv g9) s11,
  .p (.mv g11) s5])
 (.seq (.reg [.p (.mv g5) s12,
  .p (.bin .add g12 (kc (.tc (.sc (.int .i64 1)))) (G2 16 4 1)) s13,
  .p (.mv g13) s6])
 (.block 2 (.loop 4294967296 (.seq (.seq (.reg [.p (.mv g6) s14,
  .p (.mv g0) s15,
  .p (.len g15 (G2 16 5 2)) s16,
  .p (.bin .lss g14 g16 (G2 16 5 3)) s17])
 (.cond g17 .skip
 (.exit 2)))
 (.seq (.block 3 (.seq (.reg [.p (.mv g0) s20,
  .p (.mv g5) s21,
  .p (.mv g6) s22,
  .p (.call 37 [g20, g21, g22] (G2 16 6 3)) s23])
 (.cond g23 (.seq (.reg [.p (.mv g5) s24,
  .p (.mv g6) s25,
  .p (.mv g24) s2,
  .p (.mv g25) s3,
  .p (.mv (kc (.tc (.sc (.bool true))))) s4])
 .ret)
 .skip)))
 (.reg [.p (.mv g6) s18,
  .p (.bin .add g18 (kc (.tc (.sc (.int .i64 1)))) (G2 16 8 1)) s19,
  .p (.mv g19) s6]))))))))
 (.reg [.p (.bin .add g9 (kc (.tc (.sc (.int .i64 1)))) (G2 16 9 0)) s26,
  .p (.mv g26) s9])))))))
 (.seq (.reg [.p (.mv (kc (.tc (.sc (.int .i64 0))))) s2,
  .p (.mv (kc (.tc (.sc (.int .i64 0))))) s3,
  .p (.mv (kc (.tc (.sc (.bool false))))) s4])
 .ret))),
 [.tmp g2, .tmp g3, .tmp g4]⟩
theorem ff16_ok : compF SBLegalKnown 16 = ff16 := by kernel_rfl
noncomputable def ff37 : FF := .t2 ⟨49,
 (.seq (.reg [.p (.mv (kc (.tc (.sc (.bool false))))) s6])
 (.seq (.seq (.regD [0, 0, 3, 7, 0, 0, 48, 112, 255, 511, 1023, 1023, 2047, 8191] [.no, .no, .no, (.rd (.ld true 11 g15) g16), .no, .no, .no, (.rd (.ld true 11 g19) g20), .no, .no, .no, .no, .no, .no] [.mk .none .yes (.mv g0) (.mv g0) (some s13),
  .mk .none .yes (.mv g1) (.mv g1) (some s14),
  .mk .none .yes (.ia 11 g13 g14 (G2 37 1 2)) (.ia 11 g13 g14 (G2 37 1 2)) (some s15),
  .mk .none .yes (.ld true 11 g15) (.ld true 11 g15) (some s16),
  .mk .none .yes (.mv g0) (.mv g0) (some s17),
  .mk .none .yes (.mv g2) (.mv g2) (some s18),
  .mk .none .yes (.ia 11 g17 g18 (G2 37 1 6)) (.ia 11 g17 g18 (G2 37 1 6)) (some s19),
  .mk .none .yes (.ld true 11 g19) (.ld true 11 g19) (some s20),
  .mk .none (.dyn 27 [g16, g20]) (.call 27 [g16, g20] (G2 37 1 8)) (.call 27 [g16, g20] (G2 37 1 8)) (some s21),
  .mk .none .yes (.mv g21) (.mv g21) (some s12),
  .mk .none .yes (.ex g12 0) (.ex g12 0) (some s22),
  .mk .none .yes (.ex g12 1) (.ex g12 1) (some s23),
  .mk .none .yes (.mv g22) (.mv g22) (some s7),
  .mk .none .yes (.mv g23) (.mv g23) (some s8)])
 (.seq (.reg [.p (.mv g8) s24,
  .p (.nt g24 (G2 37 2 1)) s25])
 (.cond g25 (.seq (.reg [.p (.mv (kc (.tc (.sc (.bool false))))) s6])
 .ret)
 .skip)))
 (.seq (.reg [.p (.mv (kc (.tc (.sc (.slice none 0 0))))) s9])
 (.seq (.seq (.reg [.p (.mv g0) s26,
  .p (.len g26 (G2 37 5 1)) s27,
  .p (.mv (kc (.tc (.sc (.int .i64 0))))) s28])
 (.block 0 (.loop 4294967296 (.seq (.reg [.p (.bin .lss g28 g27 (G2 37 6 0)) s29])
 (.seq (.cond g29 .skip
 (.exit 0))
 (.seq (.block 1 (.seq (.reg [.p (.mv g28) s30,
  .p (.ia 11 g26 g28 (G2 37 7 1)) s31,
  .p (.ld true 11 g31) s32,
  .p (.al 11 [(.sc (.int .u8 0)), (.sc (.int .u8 0)), (.sc (.int .u8 0)), (.sc (.int .u8 0)), (.sc (.int .u8 0)), (.sc (.int .u8 0)), (.sc (.int .u8 0)), (.sc (.bool false)), (.sc (.bool false)), (.sc (.int .u16 0)), (.sc (.int .i64 0))]) s11,
  .p (.mv g30) s10,
  .n (.st 11 g11 g32 (G2 37 7 5))])
 (.seq (.reg [.p (.mv g10) s33,
  .p (.mv g1) s34,
  .p (.bin .neq g33 g34 (G2 37 8 2)) s35,
  .p (.mv g35) s36,
  .gp g36 true (.mv g10) s37,
  .gp g36 true (.mv g2) s38,
  .gp g36 true (.bin .neq g37 g38 (G2 37 8 6)) s39,
  .p (.pk g36 g39 (kc (.tc (.sc (.bool false))))) s40])
 (.cond g40 (.reg [.p (.mv g9) s41,
  .p (.ld true 11 g11) s42,
  .p (.bs 11 1 [[(.tc (.sc (.int .u8 0))), (.tc (.sc (.int .u8 0))), (.tc (.sc (.int .u8 0))), (.tc (.sc (.int .u8 0))), (.tc (.sc (.int .u8 0))), (.tc (.sc (.int .u8 0))), (.tc (.sc (.int .u8 0))), (.tc (.sc (.bool false))), (.tc (.sc (.bool false))), (.tc (.sc (.int .u16 0))), (.tc (.sc (.int .i64 0)))]] [(.mk 0 11 g42)] (G2 37 9 2)) s43,
  .p (.ap 11 24 g41 g43) s44,
  .p (.mv g44) s9])
 .skip))))
 (.reg [.p (.bin .add g28 (kc (.tc (.sc (.int .i64 1)))) (G2 37 10 0)) s45,
  .p (.mv g45) s28])))))))
 (.seq (.reg [.p (.mv g9) s46,
  .p (.call 61 [g46, (kc (.tc (.sc (.int .u8 12))))] (G2 37 11 1)) s47,
  .p (.call 60 [g47] (G2 37 11 2)) s48,
  .p (.mv g48) s6])
 .ret))))),
 [.tmp g6]⟩
theorem ff37_ok : compF SBLegalKnown 37 = ff37 := by kernel_rfl
noncomputable def ff27 : FF := .t2 ⟨51,
 (.seq (.reg [.p (.bx 11 g0 (G2 27 0 0)) s2,
  .p (.bx 11 g1 (G2 27 0 1)) s3,
  .p (.mv (kc (.tc (.sc (.int .u32 0))))) s4,
  .p (.mv (kc (.tc (.sc (.bool false))))) s5])
 (.seq (.reg [.p (.ld true 11 g2) s11,
  .p (.call 21 [g11] (G2 27 1 1)) s12,
  .p (.mv g12) s10,
  .p (.ex g10 0) s13,
  .p (.ex g10 1) s14,
  .p (.mv g13) s6,
  .p (.mv g14) s7])
 (.seq (.reg [.p (.ld true 11 g3) s16,
  .p (.call 21 [g16] (G2 27 2 1)) s17,
  .p (.mv g17) s15,
  .p (.ex g15 0) s18,
  .p (.ex g15 1) s19,
  .p (.mv g18) s8,
  .p (.mv g19) s9])
 (.seq (.seq (.reg [.p (.mv g7) s20,
  .p (.nt g20 (G2 27 3 1)) s21,
  .p (.mv g21) s22,
  .gp g22 false (.mv g9) s23,
  .gp g22 false (.nt g23 (G2 27 3 4)) s24,
  .p (.pk g22 (kc (.tc (.sc (.bool true)))) g24) s25,
  .p (.mv g25) s26,
  .gp g26 false (.ld true 11 g2) s27,
  .gp g26 false (.call 47 [g27] (G2 27 3 8)) s28,
  .gp g26 false (.mv g28) s29,
  .gp g29 true (.ld true 11 g3) s30,
  .gp g29 true (.call 47 [g30] (G2 27 3 11)) s31,
  .gp g26 false (.pk g29 g31 (kc (.tc (.sc (.bool false))))) s32,
  .p (.pk g26 (kc (.tc (.sc (.bool true)))) g32) s33])
 (.cond g33 (.seq (.reg [.p (.mv (kc (.tc (.sc (.int .u32 0))))) s4,
  .p (.mv (kc (.tc (.sc (.bool false))))) s5])
 .ret)
 .skip))
 (.seq (.seq (.reg [.p (.ld true 11 g2) s34,
  .p (.call 47 [g34] (G2 27 5 1)) s35,
  .p (.mv g35) s36,
  .gp g36 false (.ld true 11 g3) s37,
  .gp g36 false (.call 47 [g37] (G2 27 5 4)) s38,
  .gp g36 false (.nt g38 (G2 27 5 5)) s39,
  .gp g36 false (.mv g39) s40,
  .gp g40 true (.mv g6) s41,
  .gp g40 true (.mv g8) s42,
  .gp g40 true (.bin .lss g41 g42 (G2 27 5 9)) s43,
  .gp g36 false (.pk g40 g43 (kc (.tc (.sc (.bool false))))) s44,
  .p (.pk g36 (kc (.tc (.sc (.bool true)))) g44) s45])
 (.cond g45 (.reg [.p (.mv g8) s46,
  .p (.mv g6) s47,
  .p (.mv g46) s6,
  .p (.mv g47) s8])
 .skip))
 (.seq (.reg [.p (.mv g6) s48,
  .p (.mv g8) s49,
  .p (.call 50 [g48, g49] (G2 27 7 2)) s50,
  .p (.mv g50) s4,
  .p (.mv (kc (.tc (.sc (.bool true))))) s5])
 .ret)))))),
 [.tmp g4, .tmp g5]⟩
theorem ff27_ok : compF SBLegalKnown 27 = ff27 := by kernel_rfl
noncomputable def ff21 : FF := .t2 ⟨46,
 (.seq (.reg [.p (.bx 11 g0 (G2 21 0 0)) s1,
  .p (.mv (kc (.tc (.sc (.int .u16 0))))) s2,
  .p (.mv (kc (.tc (.sc (.bool false))))) s3])
 (.seq (.seq (.reg [.p (.ld false 1 (kc (.vptr gwLegalKnown0 [glLegalKnown0] 0 0))) s10,
  .p (.len g10 (G2 21 1 1)) s11,
  .p (.mv (kc (.tc (.sc (.int .i64 0))))) s12])
 (.block 0 (.loop 4294967296 (.seq (.reg [.p (.bin .lss g12 g11 (G2 21 2 0)) s13])
 (.seq (.cond g13 .skip
 (.exit 0))
 (.seq (.block 1 (.seq (.reg [.p (.mv g12) s14,
  .p (.ia 10 g10 g12 (G2 21 3 1)) s15,
  .p (.ld true 10 g15) s16,
  .p (.al 10 [(.sc (.int .u8 0)), (.sc (.int .i64 0)), (.sc (.int .i64 0)), (.sc (.int .i64 0)), (.sc (.int .i64 0)), (.sc (.int .i64 0)), (.sc (.int .i64 0)), (.sc (.int .i64 0)), (.sc (.int .i64 0)), (.sc (.int .i64 0))]) s5,
  .p (.mv g14) s4,
  .n (.st 10 g5 g16 (G2 21 3 5))])
 (.seq (.seq (.reg [.p (.fa 0 g5) s17,
  .p (.ld false 1 g17) s18,
  .p (.fa 0 g1) s19,
  .p (.ld false 1 g19) s20,
  .p (.bin .neq g18 g20 (G2 21 4 4)) s21])
 (.cond g21 (.exit 1)
 .skip))
 (.seq (.reg [.p (.ld true 10 g5) s23,
  .p (.ld true 11 g1) s24,
  .p (.mv g4) s25,
  .p (.bin .add g25 (kc (.tc (.sc (.int .i64 1)))) (G2 21 5 3)) s26,
  .p (.call 41 [g23, g24, g26] (G2 21 5 4)) s27,
  .p (.mv g27) s22,
  .p (.ex g22 0) s28,
  .p (.ex g22 1) s29,
  .p (.mv g28) s6,
  .p (.mv g29) s7])
 (.seq (.reg [.p (.mv g6) s31,
  .p (.call 19 [g31] (G2 21 6 1)) s32,
  .p (.mv g32) s30,
  .p (.ex g30 0) s33,
  .p (.ex g30 1) s34,
  .p (.al 11 [(.sc (.int .u8 0)), (.sc (.int .u8 0)), (.sc (.int .u8 0)), (.sc (.int .u8 0)), (.sc (.int .u8 0)), (.sc (.int .u8 0)), (.sc (.int .u8 0)), (.sc (.bool false)), (.sc (.bool false)), (.sc (.int .u16 0)), (.sc (.int .i64 0))]) s8,
  .n (.st 11 g8 g33 (G2 21 6 6)),
  .p (.mv g34) s9])
 (.seq (.reg [.p (.mv g7) s35,
  .p (.mv g35) s36,
  .gp g36 true (.mv g9) s37,
  .p (.pk g36 g37 (kc (.tc (.sc (.bool false))))) s38,
  .p (.mv g38) s39,
  .gp g39 true (.ld true 11 g8) s40,
  .gp g39 true (.ld true 11 g1) s41,
  .gp g39 true (.eqs .eql [(.mk 0 .int), (.mk 1 .int), (.mk 2 .int), (.mk 3 .int), (.mk 4 .int), (.mk 5 .int), (.mk 6 .int), (.mk 7 .bool), (.mk 8 .bool), (.mk 9 .int), (.mk 10 .int)] g40 g41 (G2 21 7 7)) s42,
  .p (.pk g39 g42 (kc (.tc (.sc (.bool false))))) s43])
 (.cond g43 (.seq (.reg [.p (.mv g6) s44,
  .p (.mv g44) s2,
  .p (.mv (kc (.tc (.sc (.bool true))))) s3])
 .ret)
 .skip)))))))
 (.reg [.p (.bin .add g12 (kc (.tc (.sc (.int .i64 1)))) (G2 21 9 0)) s45,
  .p (.mv g45) s12])))))))
 (.seq (.reg [.p (.mv (kc (.tc (.sc (.int .u16 0))))) s2,
  .p (.mv (kc (.tc (.sc (.bool false))))) s3])
 .ret))),
 [.tmp g2, .tmp g3]⟩
theorem ff21_ok : compF SBLegalKnown 21 = ff21 := by kernel_rfl
noncomputable def ff41 : FF := .t2 ⟨43,
 (.seq (.reg [.p (.bx 10 g0 (G2 41 0 0)) s3,
  .p (.bx 11 g1 (G2 41 0 1)) s4,
  .p (.mv (kc (.tc (.sc (.int .u16 0))))) s6,
  .p (.mv (kc (.tc (.sc (.bool false))))) s7])
 (.seq (.reg [.p (.mv g2) s14,
  .p (.cv .u32 g14 (G2 41 1 1)) s15,
  .p (.call 65 [(kc (.tc (.sc (.int .u32 0)))), (kc (.tc (.sc (.int .i64 11)))), (kc (.tc (.sc (.int .i64 4)))), g15] (G2 41 1 2)) s16,
  .p (.mv g16) s8])
 (.seq (.reg [.p (.mv (kc (.tc (.sc (.int .i64 11))))) s9])
 (.seq (.seq (.reg [.p (.fa 1 g3) s17,
  .p (.ld true 9 g17) s18,
  .p (.mv (kc (.tc (.sc (.int .i64 0))))) s19])
 (.block 0 (.loop 4294967296 (.seq (.reg [.p (.bin .lss g19 (kc (.tc (.sc (.int .i64 3)))) (G2 41 4 0)) s20])
 (.seq (.cond g20 .skip
 (.exit 0))
 (.seq (.block 1 (.seq (.reg [.p (.gen (G2 41 5 0)) s21,
  .p (.al 3 [(.sc (.int .i64 0)), (.sc (.int .i64 0)), (.sc (.int .i64 0))]) s11,
  .n (.st 3 g11 g21 (G2 41 5 2))])
 (.seq (.reg [.p (.ld true 3 g11) s23,
  .p (.ld true 11 g4) s24,
  .p (.call 66 [g23, g24] (G2 41 6 2)) s25,
  .p (.mv g25) s22,
  .p (.ex g22 0) s26,
  .p (.ex g22 1) s27,
  .p (.mv g26) s12,
  .p (.mv g27) s13])
 (.seq (.seq (.reg [.p (.mv g13) s28,
  .p (.nt g28 (G2 41 7 1)) s29])
 (.cond g29 (.seq (.reg [.p (.mv (kc (.tc (.sc (.int .u16 0))))) s6,
  .p (.mv (kc (.tc (.sc (.bool false))))) s7])
 .ret)
 .skip))
 (.seq (.reg [.p (.mv g9) s30,
  .p (.fa 1 g11) s31,
  .p (.ld false 1 g31) s32,
  .p (.bin .sub g30 g32 (G2 41 9 3)) s33,
  .p (.mv g33) s9])
 (.reg [.p (.mv g8) s34,
  .p (.mv g9) s35,
  .p (.fa 1 g11) s36,
  .p (.ld false 1 g36) s37,
  .p (.mv g12) s38,
  .p (.call 65 [g34, g35, g37, g38] (G2 41 10 5)) s39,
  .p (.mv g39) s8]))))))
 (.reg [.p (.bin .add g19 (kc (.tc (.sc (.int .i64 1)))) (G2 41 11 0)) s40,
  .p (.mv g40) s19])))))))
 (.seq (.reg [.p (.mv g8) s41,
  .p (.cv .u16 g41 (G2 41 12 1)) s42,
  .p (.mv g42) s6,
  .p (.mv (kc (.tc (.sc (.bool true))))) s7])
 .ret))))),
 [.tmp g6, .tmp g7]⟩
theorem ff41_ok : compF SBLegalKnown 41 = ff41 := by kernel_rfl
noncomputable def ff65 : FF := .t2 ⟨21,
 (.seq (.reg [.p (.mv (kc (.tc (.sc (.int .u32 0))))) s8])
 (.seq (.reg [.p (.mv g1) s10,
  .p (.mv g2) s11,
  .p (.bd [(.tc (.sc (.int .i64 0))), (.tc (.sc (.int .i64 0)))] [(.mk 0 1 g10), (.mk 1 1 g11)] (G2 65 1 2)) s12,
  .p (.al 2 [(.sc (.int .i64 0)), (.sc (.int .i64 0))]) s9,
  .n (.st 2 g9 g12 (G2 65 1 4))])
 (.seq (.seq (.reg [.p (.ld true 2 g9) s13,
  .p (.call 64 [g13] (G2 65 2 1)) s14,
  .p (.nt g14 (G2 65 2 2)) s15])
 (.cond g15 (.seq (.reg [.p (.mv g0) s16,
  .p (.mv g16) s8])
 .ret)
 .skip))
 (.seq (.reg [.p (.ld true 2 g9) s17,
  .p (.mv g0) s18,
  .p (.mv g3) s19,
  .p (.call 86 [g17, g18, g19] (G2 65 4 3)) s20,
  .p (.mv g20) s8])
 .ret)))),
 [.tmp g8]⟩
theorem ff65_ok : compF SBLegalKnown 65 = ff65 := by kernel_rfl
noncomputable def ff64 : FF := .t2 ⟨24,
 (.seq (.reg [.p (.bx 2 g0 (G2 64 0 0)) s1,
  .p (.mv (kc (.tc (.sc (.bool false))))) s2])
 (.seq (.reg [.p (.fa 0 g1) s3,
  .p (.ld false 1 g3) s4,
  .p (.bin .geq g4 (kc (.tc (.sc (.int .i64 0)))) (G2 64 1 2)) s5,
  .p (.mv g5) s6,
  .gp g6 true (.fa 1 g1) s7,
  .gp g6 true (.ld false 1 g7) s8,
  .gp g6 true (.bin .geq g8 (kc (.tc (.sc (.int .i64 0)))) (G2 64 1 6)) s9,
  .p (.pk g6 g9 (kc (.tc (.sc (.bool false))))) s10,
  .p (.mv g10) s11,
  .gp g11 true (.fa 0 g1) s12,
  .gp g11 true (.ld false 1 g12) s13,
  .gp g11 true (.bin .leq g13 (kc (.tc (.sc (.int .i64 32)))) (G2 64 1 11)) s14,
  .p (.pk g11 g14 (kc (.tc (.sc (.bool false))))) s15,
  .p (.mv g15) s16,
  .gp g16 true (.fa 1 g1) s17,
  .gp g16 true (.ld false 1 g17) s18,
  .gp g16 true (.fa 0 g1) s19,
  .gp g16 true (.ld false 1 g19) s20,
  .gp g16 true (.bin .sub (kc (.tc (.sc (.int .i64 32)))) g20 (G2 64 1 18)) s21,
  .gp g16 true (.bin .leq g18 g21 (G2 64 1 19)) s22,
  .p (.pk g16 g22 (kc (.tc (.sc (.bool false))))) s23,
  .p (.mv g23) s2])
 .ret)),
 [.tmp g2]⟩
theorem ff64_ok : compF SBLegalKnown 64 = ff64 := by kernel_rfl
noncomputable def ff86 : FF := .t2 ⟨26,
 (.seq (.reg [.p (.bx 2 g0 (G2 86 0 0)) s3,
  .p (.mv (kc (.tc (.sc (.int .u32 0))))) s6])
 (.seq (.seq (.reg [.p (.fa 1 g3) s7,
  .p (.ld false 1 g7) s8,
  .p (.bin .eql g8 (kc (.tc (.sc (.int .i64 0)))) (G2 86 1 2)) s9])
 (.cond g9 (.seq (.reg [.p (.mv g1) s10,
  .p (.mv g10) s6])
 .ret)
 .skip))
 (.seq (.regD [0, 0, 2, 0, 8, 30, 63, 0, 0, 262, 902, 0, 2048, 8070, 16383, 32767] [.no, (.rd (.ld true 2 g3) g12), .no, .no, (.rd (.ld false 1 g14) g15), .no, .no, .no, (.rd (.ld true 2 g3) g19), .no, .no, .no, (.rd (.ld false 1 g22) g23), .no, .no, .no] [.mk .none .yes (.mv g1) (.mv g1) (some s11),
  .mk .none .yes (.ld true 2 g3) (.ld true 2 g3) (some s12),
  .mk .none (.dyn 73 [g12]) (.call 73 [g12] (G2 86 3 2)) (.call 73 [g12] (G2 86 3 2)) (some s13),
  .mk .none .yes (.fa 0 g3) (.fa 0 g3) (some s14),
  .mk .none .yes (.ld false 1 g14) (.ld false 1 g14) (some s15),
  .mk .none .yes (.bin .shl g13 g15 (G2 86 3 5)) (.bin .shl g13 g15 (G2 86 3 5)) (some s16),
  .mk .none .yes (.bin .andNot g11 g16 (G2 86 3 6)) (.bin .andNot g11 g16 (G2 86 3 6)) (some s17),
  .mk .none .yes (.mv g2) (.mv g2) (some s18),
  .mk .none .yes (.ld true 2 g3) (.ld true 2 g3) (some s19),
  .mk .none (.dyn 73 [g19]) (.call 73 [g19] (G2 86 3 9)) (.call 73 [g19] (G2 86 3 9)) (some s20),
  .mk .none .yes (.bin .and g18 g20 (G2 86 3 10)) (.bin .and g18 g20 (G2 86 3 10)) (some s21),
  .mk .none .yes (.fa 0 g3) (.fa 0 g3) (some s22),
  .mk .none .yes (.ld false 1 g22) (.ld false 1 g22) (some s23),
  .mk .none .yes (.bin .shl g21 g23 (G2 86 3 13)) (.bin .shl g21 g23 (G2 86 3 13)) (some s24),
  .mk .none .yes (.bin .or g17 g24 (G2 86 3 14)) (.bin .or g17 g24 (G2 86 3 14)) (some s25),
  .mk .none .yes (.mv g25) (.mv g25) (some s6)])
 .ret))),
 [.tmp g6]⟩
theorem ff86_ok : compF SBLegalKnown 86 = ff86 := by kernel_rfl
noncomputable def ff73 : FF := .t2 ⟨8,
 (.seq (.reg [.p (.bx 2 g0 (G2 73 0 0)) s1,
  .p (.mv (kc (.tc (.sc (.int .u32 0))))) s2])
 (.seq (.reg [.p (.fa 1 g1) s3,
  .p (.ld false 1 g3) s4,
  .p (.bin .shl (kc (.tc (.sc (.int .u64 1)))) g4 (G2 73 1 2)) s5,
  .p (.bin .sub g5 (kc (.tc (.sc (.int .u64 1)))) (G2 73 1 3)) s6,
  .p (.cv .u32 g6 (G2 73 1 4)) s7,
  .p (.mv g7) s2])
 .ret)),
 [.tmp g2]⟩
theorem ff73_ok : compF SBLegalKnown 73 = ff73 := by kernel_rfl
noncomputable def ff66 : FF := .t3 ⟨67,
 (.seq (.reg [.p (.bx 3 (h0 g0) (G3 66 0 0)) (i0 s2),
  .p (.bx 11 (h0 g1) (G3 66 0 1)) (i0 s3),
  .p (.mv (kc (.tc (.sc (.int .u32 0))))) (i0 s4),
  .p (.mv (kc (.tc (.sc (.bool false))))) (i0 s5)])
 (.seq (.seq (.reg [.p (.fa 0 (h0 g2)) (i0 s8),
  .p (.ld false 1 (h0 g8)) (i0 s9)])
 (.block 0 (.seq (.reg [.p (.bin .eql (h0 g9) (kc (.tc (.sc (.int .i64 1)))) (G3 66 2 0)) (i0 s11),
  .p (.mv (h0 g11)) (i0 s10)])
 (.cond (h0 g10) (.seq (.reg [.p (.fa 1 (h0 g3)) (i0 s12),
  .p (.ld false 1 (h0 g12)) (i0 s13),
  .p (.call 87 [(h0 g13)] (G3 66 3 2)) (i0 s14),
  .p (.ex (h0 g14) 0) (i0 s15),
  .p (.ex (h0 g14) 1) (i0 s16),
  .p (.mv (h0 g15)) (i0 s4),
  .p (.mv (h0 g16)) (i0 s5)])
 .ret)
 (.seq (.reg [.p (.bin .eql (h0 g9) (kc (.tc (.sc (.int .i64 2)))) (G3 66 4 0)) (i0 s18),
  .p (.mv (h0 g18)) (i0 s17)])
 (.cond (h0 g17) (.seq (.reg [.p (.fa 2 (h0 g3)) (i0 s19),
  .p (.ld false 1 (h0 g19)) (i0 s20),
  .p (.call 87 [(h0 g20)] (G3 66 5 2)) (i0 s21),
  .p (.ex (h0 g21) 0) (i0 s22),
  .p (.ex (h0 g21) 1) (i0 s23),
  .p (.mv (h0 g22)) (i0 s4),
  .p (.mv (h0 g23)) (i0 s5)])
 .ret)
 (.seq (.reg [.p (.bin .eql (h0 g9) (kc (.tc (.sc (.int .i64 3)))) (G3 66 6 0)) (i0 s25),
  .p (.mv (h0 g25)) (i0 s24)])
 (.cond (h0 g24) (.seq (.reg [.p (.fa 3 (h0 g3)) (i0 s26),
  .p (.ld false 1 (h0 g26)) (i0 s27),
  .p (.call 87 [(h0 g27)] (G3 66 7 2)) (i0 s28),
  .p (.ex (h0 g28) 0) (i0 s29),
  .p (.ex (h0 g28) 1) (i0 s30),
  .p (.mv (h0 g29)) (i0 s4),
  .p (.mv (h0 g30)) (i0 s5)])
 .ret)
 (.seq (.reg [.p (.bin .eql (h0 g9) (kc (.tc (.sc (.int .i64 4)))) (G3 66 8 0)) (i0 s32),
  .p (.mv (h0 g32)) (i0 s31)])
 (.cond (h0 g31) (.seq (.reg [.p (.fa 1 (h0 g3)) (i0 s34),
  .p (.ld false 1 (h0 g34)) (i0 s35),
  .p (.call 87 [(h0 g35)] (G3 66 9 2)) (i0 s36),
  .p (.mv (h0 g36)) (i0 s33),
  .p (.ex (h0 g33) 0) (i0 s37),
  .p (.ex (h0 g33) 1) (i0 s38),
  .p (.mv (h0 g37)) (i0 s6),
  .p (.mv (h0 g38)) (i0 s7)])
 (.seq (.regD [0, 0, 2, 6, 14, 6, 38, 126, 254, 7, 1023] [.no, .no, .no, .no, (.rd (.ld false 1 (h0 g42)) (h0 g43)), .no, (.rd (.ld false 1 (h0 g44)) (h0 g45)), .no, .no, .no, .no] [.mk .none .yes (.mv (h0 g6)) (.mv (h0 g6)) (some (i0 s39)),
  .mk .none .yes (.mv (h0 g7)) (.mv (h0 g7)) (some (i0 s40)),
  .mk .none .yes (.mv (h0 g40)) (.mv (h0 g40)) (some (i0 s41)),
  .mk (.on (h0 g41) true) .yes (.fa 1 (h0 g3)) (.fa 1 (h0 g3)) (some (i0 s42)),
  .mk (.on (h0 g41) true) .yes (.ld false 1 (h0 g42)) (.ld false 1 (h0 g42)) (some (i0 s43)),
  .mk (.on (h0 g41) true) .yes (.fa 2 (h0 g3)) (.fa 2 (h0 g3)) (some (i0 s44)),
  .mk (.on (h0 g41) true) .yes (.ld false 1 (h0 g44)) (.ld false 1 (h0 g44)) (some (i0 s45)),
  .mk (.on (h0 g41) true) .yes (.bin .eql (h0 g43) (h0 g45) (G3 66 10 7)) (.bin .eql (h0 g43) (h0 g45) (G3 66 10 7)) (some (i0 s46)),
  .mk .none .yes (.pk (h0 g41) (h0 g46) (kc (.tc (.sc (.bool false))))) (.pk (h0 g41) (h0 g46) (kc (.tc (.sc (.bool false))))) (some (i0 s47)),
  .mk .none .yes (.mv (h0 g39)) (.mv (h0 g39)) (some (i0 s4)),
  .mk .none .yes (.mv (h0 g47)) (.mv (h0 g47)) (some (i0 s5))])
 .ret))
 (.seq (.seq (.reg [.p (.bin .eql (h0 g9) (kc (.tc (.sc (.int .i64 5)))) (G3 66 11 0)) (i0 s49),
  .p (.mv (h0 g49)) (i0 s48)])
 (.cond (h0 g48) .skip
 (.reg [.p (.bin .eql (h0 g9) (kc (.tc (.sc (.int .i64 6)))) (G3 66 12 0)) (i0 s50),
  .p (.mv (h0 g50)) (i0 s48)])))
 (.cond (h0 g48) (.seq (.regD [0, 1, 0, 4, 15, 31, 0, 64, 0, 256, 0, 1024, 0, 4096, 12288, 32704, 65535, 131071] [.no, (.rd (.ld false 1 (h0 g51)) (h0 g52)), .no, (.rd (.ld false 1 (h0 g53)) (h0 g54)), .no, (.rd (.cv .u32 (h0 g55) (G3 66 13 5)) (h0 g56)), .no, (.rd (.ld false 1 (h0 g57)) (h0 g58)), .no, (.rd (.ld false 1 (h0 g59)) (h0 g60)), .no, (.rd (.ld false 1 (h0 g61)) (h0 g62)), .no, (.rd (.ld false 1 (h0 g63)) (h1 g0)), .no, .no, .no, .no] [.mk .none .yes (.fa 10 (h0 g3)) (.fa 10 (h0 g3)) (some (i0 s51)),
  .mk .none .yes (.ld false 1 (h0 g51)) (.ld false 1 (h0 g51)) (some (i0 s52)),
  .mk .none .yes (.fa 2 (h0 g2)) (.fa 2 (h0 g2)) (some (i0 s53)),
  .mk .none .yes (.ld false 1 (h0 g53)) (.ld false 1 (h0 g53)) (some (i0 s54)),
  .mk .none .yes (.bin .shr (h0 g52) (h0 g54) (G3 66 13 4)) (.bin .shr (h0 g52) (h0 g54) (G3 66 13 4)) (some (i0 s55)),
  .mk .none .yes (.cv .u32 (h0 g55) (G3 66 13 5)) (.cv .u32 (h0 g55) (G3 66 13 5)) (some (i0 s56)),
  .mk .none .yes (.fa 10 (h0 g3)) (.fa 10 (h0 g3)) (some (i0 s57)),
  .mk .none .yes (.ld false 1 (h0 g57)) (.ld false 1 (h0 g57)) (some (i0 s58)),
  .mk .none .yes (.fa 1 (h0 g2)) (.fa 1 (h0 g2)) (some (i0 s59)),
  .mk .none .yes (.ld false 1 (h0 g59)) (.ld false 1 (h0 g59)) (some (i0 s60)),
  .mk .none .yes (.fa 2 (h0 g2)) (.fa 2 (h0 g2)) (some (i0 s61)),
  .mk .none .yes (.ld false 1 (h0 g61)) (.ld false 1 (h0 g61)) (some (i0 s62)),
  .mk .none .yes (.fa 0 (h0 g2)) (.fa 0 (h0 g2)) (some (i0 s63)),
  .mk .none .yes (.ld false 1 (h0 g63)) (.ld false 1 (h0 g63)) (some (i1 s0)),
  .mk .none .yes (.bin .eql (h1 g0) (kc (.tc (.sc (.int .i64 6)))) (G3 66 13 14)) (.bin .eql (h1 g0) (kc (.tc (.sc (.int .i64 6)))) (G3 66 13 14)) (some (i1 s1)),
  .mk .none (.dyn 69 [(h0 g58), (h0 g60), (h0 g62), (h1 g1)]) (.call 69 [(h0 g58), (h0 g60), (h0 g62), (h1 g1)] (G3 66 13 15)) (.call 69 [(h0 g58), (h0 g60), (h0 g62), (h1 g1)] (G3 66 13 15)) (some (i1 s2)),
  .mk .none .yes (.mv (h0 g56)) (.mv (h0 g56)) (some (i0 s4)),
  .mk .none .yes (.mv (h1 g2)) (.mv (h1 g2)) (some (i0 s5))])
 .ret)
 .skip))))))))))))
 (.seq (.reg [.p (.mv (kc (.tc (.sc (.int .u32 0))))) (i0 s4),
  .p (.mv (kc (.tc (.sc (.bool true))))) (i0 s5)])
 .ret))),
 [.tmp (h0 g4), .tmp (h0 g5)]⟩
theorem ff66_ok : compF SBLegalKnown 66 = ff66 := by kernel_rfl
noncomputable def ff87 : FF := .t2 ⟨19,
 (.seq (.reg [.p (.mv (kc (.tc (.sc (.int .u32 0))))) s2,
  .p (.mv (kc (.tc (.sc (.bool false))))) s3])
 (.seq (.block 0 (.seq (.reg [.p (.mv g0) s5,
  .p (.bin .lss g5 (kc (.tc (.sc (.int .u8 8)))) (G2 87 1 1)) s6,
  .p (.mv g6) s4])
 (.cond g4 (.seq (.reg [.p (.mv g0) s7,
  .p (.cv .u32 g7 (G2 87 2 1)) s8,
  .p (.mv g8) s2,
  .p (.mv (kc (.tc (.sc (.bool true))))) s3])
 .ret)
 (.seq (.reg [.p (.mv g0) s10,
  .p (.bin .geq g10 (kc (.tc (.sc (.int .u8 16)))) (G2 87 3 1)) s11,
  .p (.mv g11) s12,
  .gp g12 true (.mv g0) s13,
  .gp g12 true (.bin .lss g13 (kc (.tc (.sc (.int .u8 24)))) (G2 87 3 4)) s14,
  .p (.pk g12 g14 (kc (.tc (.sc (.bool false))))) s15,
  .p (.mv g15) s9])
 (.cond g9 (.seq (.reg [.p (.mv g0) s16,
  .p (.bin .sub g16 (kc (.tc (.sc (.int .u8 8)))) (G2 87 4 1)) s17,
  .p (.cv .u32 g17 (G2 87 4 2)) s18,
  .p (.mv g18) s2,
  .p (.mv (kc (.tc (.sc (.bool true))))) s3])
 .ret)
 .skip)))))
 (.seq (.reg [.p (.mv (kc (.tc (.sc (.int .u32 0))))) s2,
  .p (.mv (kc (.tc (.sc (.bool false))))) s3])
 .ret))),
 [.tmp g2, .tmp g3]⟩
theorem ff87_ok : compF SBLegalKnown 87 = ff87 := by kernel_rfl
noncomputable def ff19 : FF := .t2 ⟨60,
 (.seq (.reg [.p (.al 11 [(.sc (.int .u8 0)), (.sc (.int .u8 0)), (.sc (.int .u8 0)), (.sc (.int .u8 0)), (.sc (.int .u8 0)), (.sc (.int .u8 0)), (.sc (.int .u8 0)), (.sc (.bool false)), (.sc (.bool false)), (.sc (.int .u16 0)), (.sc (.int .i64 0))]) s2,
  .p (.mv (kc (.tc (.sc (.bool false))))) s3])
 (.seq (.reg [.p (.mv g0) s10,
  .p (.bin .shr g10 (kc (.tc (.sc (.int .u64 11)))) (G2 19 1 1)) s11,
  .p (.cv .i64 g11 (G2 19 1 2)) s12,
  .p (.mv g12) s4])
 (.seq (.seq (.reg [.p (.mv g4) s13,
  .p (.bin .lss g13 (kc (.tc (.sc (.int .i64 1)))) (G2 19 2 1)) s14,
  .p (.mv g14) s15,
  .gp g15 false (.mv g4) s16,
  .gp g15 false (.ld false 1 (kc (.vptr gwLegalKnown0 [glLegalKnown0] 0 0))) s17,
  .gp g15 false (.len g17 (G2 19 2 5)) s18,
  .gp g15 false (.bin .gtr g16 g18 (G2 19 2 6)) s19,
  .p (.pk g15 (kc (.tc (.sc (.bool true)))) g19) s20])
 (.cond g20 (.seq (.reg [.p (.bd [(.tc (.sc (.int .u8 0))), (.tc (.sc (.int .u8 0))), (.tc (.sc (.int .u8 0))), (.tc (.sc (.int .u8 0))), (.tc (.sc (.int .u8 0))), (.tc (.sc (.int .u8 0))), (.tc (.sc (.int .u8 0))), (.tc (.sc (.bool false))), (.tc (.sc (.bool false))), (.tc (.sc (.int .u16 0))), (.tc (.sc (.int .i64 0)))] [] (G2 19 3 0)) s21,
  .n (.st 11 g2 g21 (G2 19 3 1)),
  .p (.mv (kc (.tc (.sc (.bool false))))) s3])
 .ret)
 .skip))
 (.seq (.reg [.p (.ld false 1 (kc (.vptr gwLegalKnown0 [glLegalKnown0] 0 0))) s22,
  .p (.mv g4) s23,
  .p (.bin .sub g23 (kc (.tc (.sc (.int .i64 1)))) (G2 19 4 2)) s24,
  .p (.ia 10 g22 g24 (G2 19 4 3)) s25,
  .p (.ld true 10 g25) s26,
  .p (.al 10 [(.sc (.int .u8 0)), (.sc (.int .i64 0)), (.sc (.int .i64 0)), (.sc (.int .i64 0)), (.sc (.int .i64 0)), (.sc (.int .i64 0)), (.sc (.int .i64 0)), (.sc (.int .i64 0)), (.sc (.int .i64 0)), (.sc (.int .i64 0))]) s5,
  .n (.st 10 g5 g26 (G2 19 4 6))])
 (.seq (.reg [.p (.fa 0 g5) s27,
  .p (.ld false 1 g27) s28,
  .p (.bd [(.tc (.sc (.int .u8 0))), (.tc (.sc (.int .u8 0))), (.tc (.sc (.int .u8 0))), (.tc (.sc (.int .u8 0))), (.tc (.sc (.int .u8 0))), (.tc (.sc (.int .u8 0))), (.tc (.sc (.int .u8 0))), (.tc (.sc (.bool false))), (.tc (.sc (.bool false))), (.tc (.sc (.int .u16 0))), (.tc (.sc (.int .i64 0)))] [(.mk 0 1 g28)] (G2 19 5 2)) s29,
  .p (.al 11 [(.sc (.int .u8 0)), (.sc (.int .u8 0)), (.sc (.int .u8 0)), (.sc (.int .u8 0)), (.sc (.int .u8 0)), (.sc (.int .u8 0)), (.sc (.int .u8 0)), (.sc (.bool false)), (.sc (.bool false)), (.sc (.int .u16 0)), (.sc (.int .i64 0))]) s6,
  .n (.st 11 g6 g29 (G2 19 5 4))])
 (.seq (.reg [.p (.mv (kc (.tc (.sc (.int .i64 11))))) s7])
 (.seq (.seq (.reg [.p (.fa 1 g5) s30,
  .p (.ld true 9 g30) s31,
  .p (.mv (kc (.tc (.sc (.int .i64 0))))) s32])
 (.block 0 (.loop 4294967296 (.seq (.reg [.p (.bin .lss g32 (kc (.tc (.sc (.int .i64 3)))) (G2 19 8 0)) s33])
 (.seq (.cond g33 .skip
 (.exit 0))
 (.seq (.block 1 (.seq (.reg [.p (.gen (G2 19 9 0)) s34,
  .p (.al 3 [(.sc (.int .i64 0)), (.sc (.int .i64 0)), (.sc (.int .i64 0))]) s9,
  .n (.st 3 g9 g34 (G2 19 9 2))])
 (.seq (.reg [.p (.mv g7) s35,
  .p (.fa 1 g9) s36,
  .p (.ld false 1 g36) s37,
  .p (.bin .sub g35 g37 (G2 19 10 3)) s38,
  .p (.mv g38) s7])
 (.regD [0, 0, 2, 0, 0, 16, 62, 127] [(.rd (.ld true 3 g9) g39), .no, (.rd (.cv .u32 g40 (G2 19 11 2)) g41), .no, .no, (.rd (.ld false 1 g43) g44), .no, .no] [.mk .none .yes (.ld true 3 g9) (.ld true 3 g9) (some s39),
  .mk .none .yes (.mv g0) (.mv g0) (some s40),
  .mk .none .yes (.cv .u32 g40 (G2 19 11 2)) (.cv .u32 g40 (G2 19 11 2)) (some s41),
  .mk .none .yes (.mv g7) (.mv g7) (some s42),
  .mk .none .yes (.fa 1 g9) (.fa 1 g9) (some s43),
  .mk .none .yes (.ld false 1 g43) (.ld false 1 g43) (some s44),
  .mk .none (.dyn 39 [g41, g42, g44]) (.call 39 [g41, g42, g44] (G2 19 11 6)) (.call 39 [g41, g42, g44] (G2 19 11 6)) (some s45),
  .mk .none (.dyn 38 [g39, g6, g45]) (.call 38 [g39, g6, g45] (G2 19 11 7)) (.call 38 [g39, g6, g45] (G2 19 11 7)) (some s46)]))))
 (.reg [.p (.bin .add g32 (kc (.tc (.sc (.int .i64 1)))) (G2 19 12 0)) s47,
  .p (.mv g47) s32])))))))
 (.seq (.seq (.reg [.p (.mv g0) s48,
  .p (.cv .u32 g48 (G2 19 13 1)) s49,
  .p (.mv g7) s50,
  .p (.call 39 [g49, (kc (.tc (.sc (.int .i64 0)))), g50] (G2 19 13 3)) s51,
  .p (.bin .neq g51 (kc (.tc (.sc (.int .u32 0)))) (G2 19 13 4)) s52,
  .p (.mv g52) s53,
  .gp g53 false (.ld true 11 g6) s54,
  .gp g53 false (.call 24 [g54] (G2 19 13 7)) s55,
  .gp g53 false (.nt g55 (G2 19 13 8)) s56,
  .p (.pk g53 (kc (.tc (.sc (.bool true)))) g56) s57])
 (.cond g57 (.seq (.reg [.p (.bd [(.tc (.sc (.int .u8 0))), (.tc (.sc (.int .u8 0))), (.tc (.sc (.int .u8 0))), (.tc (.sc (.int .u8 0))), (.tc (.sc (.int .u8 0))), (.tc (.sc (.int .u8 0))), (.tc (.sc (.int .u8 0))), (.tc (.sc (.bool false))), (.tc (.sc (.bool false))), (.tc (.sc (.int .u16 0))), (.tc (.sc (.int .i64 0)))] [] (G2 19 14 0)) s58,
  .n (.st 11 g2 g58 (G2 19 14 1)),
  .p (.mv (kc (.tc (.sc (.bool false))))) s3])
 .ret)
 .skip))
 (.seq (.reg [.p (.ld true 11 g6) s59,
  .n (.st 11 g2 g59 (G2 19 15 1)),
  .p (.mv (kc (.tc (.sc (.bool true))))) s3])
 .ret))))))))),
 [.cell g2 true 11, .tmp g3]⟩
theorem ff19_ok : compF SBLegalKnown 19 = ff19 := by kernel_rfl
noncomputable def ff39 : FF := .t2 ⟨17,
 (.seq (.reg [.p (.mv (kc (.tc (.sc (.int .u32 0))))) s6])
 (.seq (.reg [.p (.mv g1) s8,
  .p (.mv g2) s9,
  .p (.bd [(.tc (.sc (.int .i64 0))), (.tc (.sc (.int .i64 0)))] [(.mk 0 1 g8), (.mk 1 1 g9)] (G2 39 1 2)) s10,
  .p (.al 2 [(.sc (.int .i64 0)), (.sc (.int .i64 0))]) s7,
  .n (.st 2 g7 g10 (G2 39 1 4))])
 (.seq (.seq (.reg [.p (.ld true 2 g7) s11,
  .p (.call 64 [g11] (G2 39 2 1)) s12,
  .p (.nt g12 (G2 39 2 2)) s13])
 (.cond g13 (.seq (.reg [.p (.mv (kc (.tc (.sc (.int .u32 0))))) s6])
 .ret)
 .skip))
 (.seq (.reg [.p (.ld true 2 g7) s14,
  .p (.mv g0) s15,
  .p (.call 53 [g14, g15] (G2 39 4 2)) s16,
  .p (.mv g16) s6])
 .ret)))),
 [.tmp g6]⟩
theorem ff39_ok : compF SBLegalKnown 39 = ff39 := by kernel_rfl
noncomputable def ff53 : FF := .t2 ⟨14,
 (.seq (.reg [.p (.bx 2 g0 (G2 53 0 0)) s2,
  .p (.mv (kc (.tc (.sc (.int .u32 0))))) s4])
 (.seq (.regD [0, 1, 0, 4, 15, 31, 0, 64, 255, 511] [.no, (.rd (.cv .u64 g5 (G2 53 1 1)) g6), .no, (.rd (.ld false 1 g7) g8), .no, (.rd (.cv .u32 g9 (G2 53 1 5)) g10), (.rd (.ld true 2 g2) g11), .no, .no, .no] [.mk .none .yes (.mv g1) (.mv g1) (some s5),
  .mk .none .yes (.cv .u64 g5 (G2 53 1 1)) (.cv .u64 g5 (G2 53 1 1)) (some s6),
  .mk .none .yes (.fa 0 g2) (.fa 0 g2) (some s7),
  .mk .none .yes (.ld false 1 g7) (.ld false 1 g7) (some s8),
  .mk .none .yes (.bin .shr g6 g8 (G2 53 1 4)) (.bin .shr g6 g8 (G2 53 1 4)) (some s9),
  .mk .none .yes (.cv .u32 g9 (G2 53 1 5)) (.cv .u32 g9 (G2 53 1 5)) (some s10),
  .mk .none .yes (.ld true 2 g2) (.ld true 2 g2) (some s11),
  .mk .none (.dyn 73 [g11]) (.call 73 [g11] (G2 53 1 7)) (.call 73 [g11] (G2 53 1 7)) (some s12),
  .mk .none .yes (.bin .and g10 g12 (G2 53 1 8)) (.bin .and g10 g12 (G2 53 1 8)) (some s13),
  .mk .none .yes (.mv g13) (.mv g13) (some s4)])
 .ret)),
 [.tmp g4]⟩
theorem ff53_ok : compF SBLegalKnown 53 = ff53 := by kernel_rfl
noncomputable def ff38 : FF := .t2 ⟨63,
 (.seq (.reg [.p (.bx 3 g0 (G2 38 0 0)) s3])
 (.seq (.reg [.p (.fa 0 g3) s6,
  .p (.ld false 1 g6) s7])
 (.block 0 (.seq (.reg [.p (.bin .eql g7 (kc (.tc (.sc (.int .i64 1)))) (G2 38 2 0)) s9,
  .p (.mv g9) s8])
 (.cond g8 (.reg [.p (.mv g1) s10,
  .p (.mv g2) s11,
  .p (.call 62 [g11] (G2 38 3 2)) s12,
  .p (.nc g10 (G2 38 3 3)) s13,
  .p (.fa 1 g13) s14,
  .n (.st 1 g14 g12 (G2 38 3 5))])
 (.seq (.reg [.p (.bin .eql g7 (kc (.tc (.sc (.int .i64 2)))) (G2 38 4 0)) s16,
  .p (.mv g16) s15])
 (.cond g15 (.reg [.p (.mv g1) s17,
  .p (.mv g2) s18,
  .p (.call 62 [g18] (G2 38 5 2)) s19,
  .p (.nc g17 (G2 38 5 3)) s20,
  .p (.fa 2 g20) s21,
  .n (.st 1 g21 g19 (G2 38 5 5))])
 (.seq (.reg [.p (.bin .eql g7 (kc (.tc (.sc (.int .i64 3)))) (G2 38 6 0)) s23,
  .p (.mv g23) s22])
 (.cond g22 (.reg [.p (.mv g1) s24,
  .p (.mv g2) s25,
  .p (.call 62 [g25] (G2 38 7 2)) s26,
  .p (.nc g24 (G2 38 7 3)) s27,
  .p (.fa 3 g27) s28,
  .n (.st 1 g28 g26 (G2 38 7 5))])
 (.seq (.reg [.p (.bin .eql g7 (kc (.tc (.sc (.int .i64 4)))) (G2 38 8 0)) s30,
  .p (.mv g30) s29])
 (.cond g29 (.reg [.p (.mv g1) s31,
  .p (.mv g1) s32,
  .p (.mv g2) s33,
  .p (.call 62 [g33] (G2 38 9 3)) s34,
  .p (.mv g2) s35,
  .p (.call 62 [g35] (G2 38 9 5)) s36,
  .p (.nc g31 (G2 38 9 6)) s37,
  .p (.fa 1 g37) s38,
  .n (.st 1 g38 g34 (G2 38 9 8)),
  .p (.nc g32 (G2 38 9 9)) s39,
  .p (.fa 2 g39) s40,
  .n (.st 1 g40 g36 (G2 38 9 11))])
 (.seq (.reg [.p (.bin .eql g7 (kc (.tc (.sc (.int .i64 5)))) (G2 38 10 0)) s42,
  .p (.mv g42) s41])
 (.cond g41 (.reg [.p (.mv g1) s43,
  .p (.mv g2) s44,
  .p (.cv .i64 g44 (G2 38 11 2)) s45,
  .p (.fa 2 g3) s46,
  .p (.ld false 1 g46) s47,
  .p (.bin .shl g45 g47 (G2 38 11 5)) s48,
  .p (.nc g43 (G2 38 11 6)) s49,
  .p (.fa 10 g49) s50,
  .n (.st 1 g50 g48 (G2 38 11 8))])
 (.seq (.reg [.p (.bin .eql g7 (kc (.tc (.sc (.int .i64 6)))) (G2 38 12 0)) s52,
  .p (.mv g52) s51])
 (.cond g51 (.regD [0, 0, 0, 4, 14, 0, 32, 126, 255, 511, 1023] [.no, .no, .no, (.rd (.ld false 1 g55) g56), .no, .no, (.rd (.ld false 1 g58) g59), .no, .no, .no, .no] [.mk .none .yes (.mv g1) (.mv g1) (some s53),
  .mk .none .yes (.mv g2) (.mv g2) (some s54),
  .mk .none .yes (.fa 1 g3) (.fa 1 g3) (some s55),
  .mk .none .yes (.ld false 1 g55) (.ld false 1 g55) (some s56),
  .mk .none (.dyn 63 [g54, g56]) (.call 63 [g54, g56] (G2 38 13 4)) (.call 63 [g54, g56] (G2 38 13 4)) (some s57),
  .mk .none .yes (.fa 2 g3) (.fa 2 g3) (some s58),
  .mk .none .yes (.ld false 1 g58) (.ld false 1 g58) (some s59),
  .mk .none .yes (.bin .shl g57 g59 (G2 38 13 7)) (.bin .shl g57 g59 (G2 38 13 7)) (some s60),
  .mk .none .yes (.nc g53 (G2 38 13 8)) (.nc g53 (G2 38 13 8)) (some s61),
  .mk .none .yes (.fa 10 g61) (.fa 10 g61) (some s62),
  .mk .none .no (.st 1 g62 g60 (G2 38 13 10)) (.st 1 g62 g60 (G2 38 13 10)) none])
 .skip))))))))))))))),
 []⟩
theorem ff38_ok : compF SBLegalKnown 38 = ff38 := by kernel_rfl
noncomputable def ff62 : FF := .t2 ⟨10,
 (.seq (.reg [.p (.mv (kc (.tc (.sc (.int .u8 0))))) s2])
 (.seq (.seq (.reg [.p (.mv g0) s3,
  .p (.bin .lss g3 (kc (.tc (.sc (.int .u32 8)))) (G2 62 1 1)) s4])
 (.cond g4 (.seq (.reg [.p (.mv g0) s5,
  .p (.cv .u8 g5 (G2 62 2 1)) s6,
  .p (.mv g6) s2])
 .ret)
 .skip))
 (.seq (.reg [.p (.mv g0) s7,
  .p (.bin .add g7 (kc (.tc (.sc (.int .u32 8)))) (G2 62 3 1)) s8,
  .p (.cv .u8 g8 (G2 62 3 2)) s9,
  .p (.mv g9) s2])
 .ret))),
 [.tmp g2]⟩
theorem ff62_ok : compF SBLegalKnown 62 = ff62 := by kernel_rfl
noncomputable def ff63 : FF := .t2 ⟨27,
 (.seq (.reg [.p (.mv (kc (.tc (.sc (.int .i64 0))))) s4])
 (.seq (.seq (.reg [.p (.mv g1) s6,
  .p (.bin .lss g6 (kc (.tc (.sc (.int .i64 1)))) (G2 63 1 1)) s7,
  .p (.mv g7) s8,
  .gp g8 false (.mv g1) s9,
  .gp g8 false (.bin .gtr g9 (kc (.tc (.sc (.int .i64 32)))) (G2 63 1 4)) s10,
  .p (.pk g8 (kc (.tc (.sc (.bool true)))) g10) s11])
 (.cond g11 (.seq (.reg [.p (.mv (kc (.tc (.sc (.int .i64 0))))) s4])
 .ret)
 .skip))
 (.seq (.reg [.p (.mv g1) s12,
  .p (.bd [(.tc (.sc (.int .i64 0))), (.tc (.sc (.int .i64 0)))] [(.mk 0 1 (kc (.tc (.sc (.int .i64 0))))), (.mk 1 1 g12)] (G2 63 3 1)) s13,
  .p (.mv g0) s14,
  .p (.call 53 [g13, g14] (G2 63 3 3)) s15,
  .p (.cv .i64 g15 (G2 63 3 4)) s16,
  .p (.mv g16) s5])
 (.seq (.seq (.reg [.p (.mv g5) s17,
  .p (.mv g1) s18,
  .p (.bin .sub g18 (kc (.tc (.sc (.int .i64 1)))) (G2 63 4 2)) s19,
  .p (.bin .shr g17 g19 (G2 63 4 3)) s20,
  .p (.bin .eql g20 (kc (.tc (.sc (.int .i64 1)))) (G2 63 4 4)) s21])
 (.cond g21 (.seq (.reg [.p (.mv g5) s22,
  .p (.mv g1) s23,
  .p (.bin .shl (kc (.tc (.sc (.int .i64 1)))) g23 (G2 63 5 2)) s24,
  .p (.bin .sub g22 g24 (G2 63 5 3)) s25,
  .p (.mv g25) s4])
 .ret)
 .skip))
 (.seq (.reg [.p (.mv g5) s26,
  .p (.mv g26) s4])
 .ret))))),
 [.tmp g4]⟩
theorem ff63_ok : compF SBLegalKnown 63 = ff63 := by kernel_rfl
noncomputable def ff47 : FF := .t2 ⟨6,
 (.seq (.reg [.p (.bx 11 g0 (G2 47 0 0)) s1,
  .p (.mv (kc (.tc (.sc (.bool false))))) s2])
 (.seq (.reg [.p (.ld true 11 g1) s3,
  .p (.call 71 [g3] (G2 47 1 1)) s4,
  .p (.bin .eql g4 (kc (.tc (.sc (.int .u8 4)))) (G2 47 1 2)) s5,
  .p (.mv g5) s2])
 .ret)),
 [.tmp g2]⟩
theorem ff47_ok : compF SBLegalKnown 47 = ff47 := by kernel_rfl
noncomputable def ff50 : FF := .t2 ⟨12,
 (.seq (.reg [.p (.mv (kc (.tc (.sc (.int .u32 0))))) s4])
 (.seq (.reg [.p (.mv g0) s5,
  .p (.cv .u32 g5 (G2 50 1 1)) s6,
  .p (.bin .shl g6 (kc (.tc (.sc (.int .u64 15)))) (G2 50 1 2)) s7,
  .p (.mv g1) s8,
  .p (.cv .u32 g8 (G2 50 1 4)) s9,
  .p (.bin .or g7 g9 (G2 50 1 5)) s10,
  .p (.call 72 [g10, (kc (.tc (.sc (.int .u8 0))))] (G2 50 1 6)) s11,
  .p (.mv g11) s4])
 .ret)),
 [.tmp g4]⟩
theorem ff50_ok : compF SBLegalKnown 50 = ff50 := by kernel_rfl
noncomputable def ff72 : FF := .t2 ⟨23,
 (.seq (.reg [.p (.mv (kc (.tc (.sc (.int .u32 0))))) s4])
 (.seq (.reg [.p (.gen (G2 72 1 0)) s6,
  .p (.ld true 2 g6) s7,
  .p (.mv g0) s8,
  .p (.call 86 [g7, (kc (.tc (.sc (.int .u32 0)))), g8] (G2 72 1 3)) s9,
  .p (.mv g9) s5])
 (.seq (.regD [0, 0, 0, 0, 8, 24, 60, 127, 255] [(.rd (.ld true 2 (kc (.vptr gwLegalKnown4 [glLegalKnown4] 0 0))) g10), .no, .no, .no, .no, (.rd (.ld false 1 g14) g15), .no, .no, .no] [.mk .none .yes (.ld true 2 (kc (.vptr gwLegalKnown4 [glLegalKnown4] 0 0))) (.ld true 2 (kc (.vptr gwLegalKnown4 [glLegalKnown4] 0 0))) (some s10),
  .mk .none .yes (.mv g5) (.mv g5) (some s11),
  .mk .none .yes (.mv g0) (.mv g0) (some s12),
  .mk .none .yes (.gen (G2 72 2 3)) (.gen (G2 72 2 3)) (some s13),
  .mk .none .yes (.fa 1 g13) (.fa 1 g13) (some s14),
  .mk .none .yes (.ld false 1 g14) (.ld false 1 g14) (some s15),
  .mk .none .yes (.bin .shr g12 g15 (G2 72 2 6)) (.bin .shr g12 g15 (G2 72 2 6)) (some s16),
  .mk .none (.dyn 86 [g10, g11, g16]) (.call 86 [g10, g11, g16] (G2 72 2 7)) (.call 86 [g10, g11, g16] (G2 72 2 7)) (some s17),
  .mk .none .yes (.mv g17) (.mv g17) (some s5)])
 (.seq (.reg [.p (.ld true 2 (kc (.vptr gwLegalKnown3 [glLegalKnown3] 0 0))) s18,
  .p (.mv g5) s19,
  .p (.mv g1) s20,
  .p (.cv .u32 g20 (G2 72 3 3)) s21,
  .p (.call 86 [g18, g19, g21] (G2 72 3 4)) s22,
  .p (.mv g22) s4])
 .ret)))),
 [.tmp g4]⟩
theorem ff72_ok : compF SBLegalKnown 72 = ff72 := by kernel_rfl
noncomputable def ff61 : FF := .t2 ⟨29,
 (.seq (.reg [.p (.mv (kc (.tc (.sc (.slice none 0 0))))) s4])
 (.seq (.reg [.p (.mv (kc (.tc (.sc (.slice none 0 0))))) s5])
 (.seq (.seq (.reg [.p (.mv g0) s9,
  .p (.len g9 (G2 61 2 1)) s10,
  .p (.mv (kc (.tc (.sc (.int .i64 0))))) s11])
 (.block 0 (.loop 4294967296 (.seq (.reg [.p (.bin .lss g11 g10 (G2 61 3 0)) s12])
 (.seq (.cond g12 .skip
 (.exit 0))
 (.seq (.block 1 (.seq (.reg [.p (.ia 11 g9 g11 (G2 61 4 0)) s13,
  .p (.ld true 11 g13) s14,
  .p (.al 11 [(.sc (.int .u8 0)), (.sc (.int .u8 0)), (.sc (.int .u8 0)), (.sc (.int .u8 0)), (.sc (.int .u8 0)), (.sc (.int .u8 0)), (.sc (.int .u8 0)), (.sc (.bool false)), (.sc (.bool false)), (.sc (.int .u16 0)), (.sc (.int .i64 0))]) s7,
  .n (.st 11 g7 g14 (G2 61 4 3))])
 (.seq (.reg [.p (.ld true 11 g7) s15,
  .p (.call 71 [g15] (G2 61 5 1)) s16,
  .p (.call 85 [g16] (G2 61 5 2)) s17,
  .p (.mv g1) s18,
  .p (.bin .and g17 g18 (G2 61 5 4)) s19,
  .p (.mv g19) s8])
 (.seq (.seq (.reg [.p (.ld true 11 g7) s20,
  .p (.call 24 [g20] (G2 61 6 1)) s21,
  .p (.nt g21 (G2 61 6 2)) s22])
 (.cond g22 (.reg [.p (.mv (kc (.tc (.sc (.int .u8 0))))) s8])
 .skip))
 (.reg [.p (.mv g5) s23,
  .p (.mv g8) s24,
  .p (.bs 1 1 [[(.tc (.sc (.int .u8 0)))]] [(.mk 0 1 g24)] (G2 61 8 2)) s25,
  .p (.ap 1 1 g23 g25) s26,
  .p (.mv g26) s5])))))
 (.reg [.p (.bin .add g11 (kc (.tc (.sc (.int .i64 1)))) (G2 61 9 0)) s27,
  .p (.mv g27) s11])))))))
 (.seq (.reg [.p (.mv g5) s28,
  .p (.mv g28) s4])
 .ret)))),
 [.tmp g4]⟩
theorem ff61_ok : compF SBLegalKnown 61 = ff61 := by kernel_rfl
noncomputable def ff60 : FF := .t2 ⟨11,
 (.seq (.reg [.p (.mv (kc (.tc (.sc (.bool false))))) s2])
 (.seq (.reg [.p (.mv g0) s3,
  .p (.len g3 (G2 60 1 1)) s4,
  .p (.bin .leq g4 (kc (.tc (.sc (.int .i64 4)))) (G2 60 1 2)) s5,
  .p (.mv g5) s6,
  .gp g6 true (.mv g0) s7,
  .gp g6 true (.call 83 [g7, (kc (.tc (.sc (.slice none 0 0))))] (G2 60 1 5)) s8,
  .gp g6 true (.call 84 [g8, (kc (.tc (.sc (.int .i64 0))))] (G2 60 1 6)) s9,
  .p (.pk g6 g9 (kc (.tc (.sc (.bool false))))) s10,
  .p (.mv g10) s2])
 .ret)),
 [.tmp g2]⟩
theorem ff60_ok : compF SBLegalKnown 60 = ff60 := by kernel_rfl
noncomputable def ff83 : FF := .t2 ⟨27,
 (.seq (.reg [.p (.mv (kc (.tc (.sc (.pointer none))))) s4])
 (.seq (.reg [.p (.mv g0) s8,
  .p (.gen (G2 83 1 1)) s9,
  .p (.bd [(.tc (.sc (.slice none 0 0))), (.tc (.sc (.int .i64 0))), (.tc (.sc (.int .i64 0))), (.tc (.sc (.int .i64 0))), (.tc (.sc (.int .i64 0)))] [(.mk 0 1 g8), (.mk 1 4 g9)] (G2 83 1 2)) s10,
  .p (.bx 5 g10 (G2 83 1 3)) s11,
  .p (.mv g11) s5])
 (.seq (.seq (.reg [.p (.mv g1) s12,
  .p (.len g12 (G2 83 2 1)) s13,
  .p (.mv (kc (.tc (.sc (.int .i64 0))))) s14])
 (.block 0 (.loop 4294967296 (.seq (.reg [.p (.bin .lss g14 g13 (G2 83 3 0)) s15])
 (.seq (.cond g15 .skip
 (.exit 0))
 (.seq (.block 1 (.seq (.reg [.p (.mv g14) s16,
  .p (.ia 1 g12 g14 (G2 83 4 1)) s17,
  .p (.ld false 1 g17) s18,
  .p (.mv g16) s6,
  .p (.mv g18) s7])
 (.reg [.p (.mv g5) s19,
  .p (.mv g7) s20,
  .p (.mv g6) s21,
  .p (.nc g19 (G2 83 5 3)) s22,
  .p (.fa 1 g22) s23,
  .p (.gen (G2 83 5 5)) s24,
  .n (.st 1 g24 g21 (G2 83 5 6))])))
 (.reg [.p (.bin .add g14 (kc (.tc (.sc (.int .i64 1)))) (G2 83 6 0)) s25,
  .p (.mv g25) s14])))))))
 (.seq (.reg [.p (.mv g5) s26,
  .p (.mv g26) s4])
 .ret)))),
 [.tmp g4]⟩
theorem ff83_ok : compF SBLegalKnown 83 = ff83 := by kernel_rfl
noncomputable def ff84 : FF := .t2 ⟨23,
 (.seq (.reg [.p (.mv (kc (.tc (.sc (.bool false))))) s4])
 (.seq (.seq (.reg [.p (.mv g1) s6,
  .p (.mv g6) s5])
 (.block 0 (.loop 4294967296 (.seq (.seq (.reg [.p (.mv g5) s7,
  .p (.mv g0) s8,
  .p (.nc g8 (G2 84 2 2)) s9,
  .p (.fa 0 g9) s10,
  .p (.ld false 1 g10) s11,
  .p (.len g11 (G2 84 2 5)) s12,
  .p (.bin .lss g7 g12 (G2 84 2 6)) s13])
 (.cond g13 .skip
 (.exit 0)))
 (.seq (.block 1 (.seq (.reg [.p (.mv g0) s16,
  .p (.mv g5) s17,
  .p (.gen (G2 84 3 2)) s18,
  .p (.bx 4 g18 (G2 84 3 3)) s19,
  .p (.mv g1) s20,
  .p (.call 92 [g16, g17, g19, g20] (G2 84 3 5)) s21,
  .p (.nt g21 (G2 84 3 6)) s22])
 (.cond g22 (.seq (.reg [.p (.mv (kc (.tc (.sc (.bool false))))) s4])
 .ret)
 .skip)))
 (.reg [.p (.mv g5) s14,
  .p (.bin .add g14 (kc (.tc (.sc (.int .i64 1)))) (G2 84 5 1)) s15,
  .p (.mv g15) s5]))))))
 (.seq (.reg [.p (.mv (kc (.tc (.sc (.bool true))))) s4])
 .ret))),
 [.tmp g4]⟩
theorem ff84_ok : compF SBLegalKnown 84 = ff84 := by kernel_rfl
noncomputable def ff92 : FF := .t2 ⟨64,
 (.seq (.reg [.p (.mv (kc (.tc (.sc (.bool false))))) s8])
 (.seq (.seq (.reg [.p (.mv (kc (.tc (.sc (.int .i64 0))))) s11])
 (.block 0 (.loop 4294967296 (.seq (.reg [.p (.bin .lss g11 (kc (.tc (.sc (.int .i64 4)))) (G2 92 2 0)) s12])
 (.seq (.cond g12 .skip
 (.exit 0))
 (.seq (.block 1 (.seq (.reg [.p (.mv g11) s13,
  .p (.mv g13) s9])
 (.seq (.seq (.reg [.p (.mv g0) s14,
  .p (.nc g14 (G2 92 4 1)) s15,
  .p (.fa 0 g15) s16,
  .p (.ld false 1 g16) s17,
  .p (.mv g1) s18,
  .p (.ia 1 g17 g18 (G2 92 4 5)) s19,
  .p (.ld false 1 g19) s20,
  .p (.mv g9) s21,
  .p (.bin .shr g20 g21 (G2 92 4 8)) s22,
  .p (.bin .and g22 (kc (.tc (.sc (.int .u8 1)))) (G2 92 4 9)) s23,
  .p (.bin .eql g23 (kc (.tc (.sc (.int .u8 0)))) (G2 92 4 10)) s24,
  .p (.mv g24) s25,
  .gp g25 false (.mv g2) s26,
  .gp g25 false (.mv g9) s27,
  .gp g25 false (.nc g26 (G2 92 4 14)) s28,
  .gp g25 false (.gen (G2 92 4 15)) s29,
  .gp g25 false (.ld false 1 g29) s30,
  .p (.pk g25 (kc (.tc (.sc (.bool true)))) g30) s31])
 (.cond g31 (.exit 1)
 .skip))
 (.seq (.reg [.p (.mv g2) s32,
  .p (.mv g9) s33,
  .p (.nc g32 (G2 92 5 2)) s34,
  .p (.gen (G2 92 5 3)) s35,
  .n (.st 1 g35 (kc (.tc (.sc (.bool true)))) (G2 92 5 4))])
 (.seq (.reg [.p (.mv g0) s36,
  .p (.mv g9) s37,
  .p (.nc g36 (G2 92 6 2)) s38,
  .p (.fa 1 g38) s39,
  .p (.gen (G2 92 6 4)) s40,
  .p (.ld false 1 g40) s41,
  .p (.mv g41) s10])
 (.seq (.seq (.reg [.p (.mv g10) s42,
  .p (.bin .geq g42 (kc (.tc (.sc (.int .i64 0)))) (G2 92 7 1)) s43,
  .p (.mv g43) s44,
  .gp g44 true (.mv g10) s45,
  .gp g44 true (.mv g3) s46,
  .gp g44 true (.bin .lss g45 g46 (G2 92 7 5)) s47,
  .gp g44 true (.mv g47) s48,
  .gp g48 false (.mv g0) s49,
  .gp g48 false (.mv g10) s50,
  .gp g48 false (.mv g2) s51,
  .gp g48 false (.mv g3) s52,
  .gp g48 false (.call 92 [g49, g50, g51, g52] (G2 92 7 11)) s53,
  .gp g48 false (.nt g53 (G2 92 7 12)) s54,
  .gp g44 true (.pk g48 (kc (.tc (.sc (.bool true)))) g54) s55,
  .p (.pk g44 g55 (kc (.tc (.sc (.bool false))))) s56])
 (.cond g56 (.exit 1)
 .skip))
 (.seq (.reg [.p (.mv g0) s57,
  .p (.mv g9) s58,
  .p (.mv g1) s59,
  .p (.nc g57 (G2 92 8 3)) s60,
  .p (.fa 1 g60) s61,
  .p (.gen (G2 92 8 5)) s62,
  .n (.st 1 g62 g59 (G2 92 8 6))])
 (.seq (.reg [.p (.mv (kc (.tc (.sc (.bool true))))) s8])
 .ret))))))))
 (.reg [.p (.bin .add g11 (kc (.tc (.sc (.int .i64 1)))) (G2 92 10 0)) s63,
  .p (.mv g63) s11])))))))
 (.seq (.reg [.p (.mv (kc (.tc (.sc (.bool false))))) s8])
 .ret))),
 [.tmp g8]⟩
theorem ff92_ok : compF SBLegalKnown 92 = ff92 := by kernel_rfl
noncomputable def ff35 : FF := .t2 ⟨26,
 (.seq (.reg [.p (.bx 5 g0 (G2 35 0 0)) s1,
  .p (.mv (kc (.tc (.sc (.int .i64 0))))) s2])
 (.seq (.reg [.p (.fa 0 g1) s6,
  .p (.ld false 1 g6) s7,
  .p (.len g7 (G2 35 1 2)) s8,
  .p (.mv g8) s3])
 (.seq (.seq (.reg [.p (.fa 0 g1) s9,
  .p (.ld false 1 g9) s10,
  .p (.len g10 (G2 35 2 2)) s11,
  .p (.mv (kc (.tc (.sc (.int .i64 0))))) s12])
 (.block 0 (.loop 4294967296 (.seq (.reg [.p (.bin .lss g12 g11 (G2 35 3 0)) s13])
 (.seq (.cond g13 .skip
 (.exit 0))
 (.seq (.block 1 (.seq (.reg [.p (.ia 11 g10 g12 (G2 35 4 0)) s14,
  .p (.ld true 11 g14) s15,
  .p (.al 11 [(.sc (.int .u8 0)), (.sc (.int .u8 0)), (.sc (.int .u8 0)), (.sc (.int .u8 0)), (.sc (.int .u8 0)), (.sc (.int .u8 0)), (.sc (.int .u8 0)), (.sc (.bool false)), (.sc (.bool false)), (.sc (.int .u16 0)), (.sc (.int .i64 0))]) s5,
  .n (.st 11 g5 g15 (G2 35 4 3))])
 (.seq (.reg [.p (.fa 8 g5) s16,
  .p (.ld false 1 g16) s17])
 (.cond g17 (.reg [.p (.mv g3) s18,
  .p (.bin .add g18 (kc (.tc (.sc (.int .i64 1)))) (G2 35 6 1)) s19,
  .p (.mv g19) s3])
 .skip))))
 (.reg [.p (.bin .add g12 (kc (.tc (.sc (.int .i64 1)))) (G2 35 7 0)) s20,
  .p (.mv g20) s12])))))))
 (.seq (.seq (.reg [.p (.fa 4 g1) s21,
  .p (.ld false 1 g21) s22])
 (.cond g22 (.reg [.p (.mv g3) s23,
  .p (.bin .sub g23 (kc (.tc (.sc (.int .i64 1)))) (G2 35 9 1)) s24,
  .p (.mv g24) s3])
 .skip))
 (.seq (.reg [.p (.mv g3) s25,
  .p (.mv g25) s2])
 .ret))))),
 [.tmp g2]⟩
theorem ff35_ok : compF SBLegalKnown 35 = ff35 := by kernel_rfl
noncomputable def ff36 : FF := .t2 ⟨21,
 (.seq (.reg [.p (.bx 5 g0 (G2 36 0 0)) s1,
  .p (.mv (kc (.tc (.sc (.bool false))))) s2])
 (.seq (.reg [.p (.ld true 5 g1) s4,
  .p (.call 35 [g4] (G2 36 1 1)) s5,
  .p (.mv g5) s3])
 (.seq (.reg [.p (.fa 1 g1) s6,
  .p (.ld false 1 g6) s7,
  .p (.mv g7) s8,
  .gp g8 true (.mv g3) s9,
  .gp g8 true (.bin .lss g9 (kc (.tc (.sc (.int .i64 2)))) (G2 36 2 4)) s10,
  .p (.pk g8 g10 (kc (.tc (.sc (.bool false))))) s11,
  .p (.mv g11) s12,
  .gp g12 false (.fa 2 g1) s13,
  .gp g12 false (.ld false 1 g13) s14,
  .gp g12 false (.mv g14) s15,
  .gp g15 true (.mv g3) s16,
  .gp g15 true (.bin .lss g16 (kc (.tc (.sc (.int .i64 3)))) (G2 36 2 11)) s17,
  .gp g12 false (.pk g15 g17 (kc (.tc (.sc (.bool false))))) s18,
  .p (.pk g12 (kc (.tc (.sc (.bool true)))) g18) s19,
  .p (.nt g19 (G2 36 2 14)) s20,
  .p (.mv g20) s2])
 .ret))),
 [.tmp g2]⟩
theorem ff36_ok : compF SBLegalKnown 36 = ff36 := by kernel_rfl
noncomputable def ff17 : FF := .t2 ⟨21,
 (.seq (.reg [.p (.bx 5 g0 (G2 17 0 0)) s1,
  .p (.mv (kc (.tc (.sc (.bool false))))) s2])
 (.seq (.seq (.reg [.p (.fa 3 g1) s6,
  .p (.ld false 1 g6) s7])
 (.cond g7 (.seq (.reg [.p (.mv (kc (.tc (.sc (.bool false))))) s2])
 .ret)
 .skip))
 (.seq (.reg [.p (.fa 4 g1) s8,
  .n (.st 1 g8 (kc (.tc (.sc (.bool true)))) (G2 17 3 1))])
 (.seq (.reg [.p (.fa 0 g1) s10,
  .p (.ld false 1 g10) s11,
  .p (.call 16 [g11] (G2 17 4 2)) s12,
  .p (.mv g12) s9,
  .p (.ex g9 0) s13,
  .p (.ex g9 1) s14,
  .p (.ex g9 2) s15,
  .p (.mv g13) s3,
  .p (.mv g14) s4,
  .p (.mv g15) s5])
 (.seq (.reg [.p (.mv g5) s16,
  .p (.mv g16) s17,
  .gp g17 true (.ld true 5 g1) s18,
  .gp g17 true (.call 36 [g18] (G2 17 5 3)) s19,
  .p (.pk g17 g19 (kc (.tc (.sc (.bool false))))) s20,
  .p (.mv g20) s2])
 .ret))))),
 [.tmp g2]⟩
theorem ff17_ok : compF SBLegalKnown 17 = ff17 := by kernel_rfl
noncomputable def ff18 : FF := .t2 ⟨51,
 (.seq (.reg [.p (.mv (kc (.tc (.sc (.bool false))))) s0])
 (.seq (.reg [.p (.call 13 [(kc (.tc (.sc (.int .u8 0))))] (G2 18 1 0)) s2,
  .p (.call 13 [(kc (.tc (.sc (.int .u8 1))))] (G2 18 1 1)) s3,
  .p (.bs 11 2 [[(.tc (.sc (.int .u8 0))), (.tc (.sc (.int .u8 0))), (.tc (.sc (.int .u8 0))), (.tc (.sc (.int .u8 0))), (.tc (.sc (.int .u8 0))), (.tc (.sc (.int .u8 0))), (.tc (.sc (.int .u8 0))), (.tc (.sc (.bool false))), (.tc (.sc (.bool false))), (.tc (.sc (.int .u16 0))), (.tc (.sc (.int .i64 0)))], [(.tc (.sc (.int .u8 0))), (.tc (.sc (.int .u8 0))), (.tc (.sc (.int .u8 0))), (.tc (.sc (.int .u8 0))), (.tc (.sc (.int .u8 0))), (.tc (.sc (.int .u8 0))), (.tc (.sc (.int .u8 0))), (.tc (.sc (.bool false))), (.tc (.sc (.bool false))), (.tc (.sc (.int .u16 0))), (.tc (.sc (.int .i64 0)))]] [(.mk 0 11 g2), (.mk 1 11 g3)] (G2 18 1 2)) s4,
  .p (.call 14 [g4] (G2 18 1 3)) s5,
  .p (.al 5 [(.sc (.slice none 0 0)), (.sc (.bool false)), (.sc (.bool false)), (.sc (.bool false)), (.sc (.bool false))]) s1,
  .n (.st 5 g1 g5 (G2 18 1 5))])
 (.seq (.reg [.p (.fa 1 g1) s6,
  .n (.st 1 g6 (kc (.tc (.sc (.bool true)))) (G2 18 2 1))])
 (.seq (.reg [.p (.call 13 [(kc (.tc (.sc (.int .u8 0))))] (G2 18 3 0)) s7,
  .p (.call 13 [(kc (.tc (.sc (.int .u8 1))))] (G2 18 3 1)) s8,
  .p (.bs 11 2 [[(.tc (.sc (.int .u8 0))), (.tc (.sc (.int .u8 0))), (.tc (.sc (.int .u8 0))), (.tc (.sc (.int .u8 0))), (.tc (.sc (.int .u8 0))), (.tc (.sc (.int .u8 0))), (.tc (.sc (.int .u8 0))), (.tc (.sc (.bool false))), (.tc (.sc (.bool false))), (.tc (.sc (.int .u16 0))), (.tc (.sc (.int .i64 0)))], [(.tc (.sc (.int .u8 0))), (.tc (.sc (.int .u8 0))), (.tc (.sc (.int .u8 0))), (.tc (.sc (.int .u8 0))), (.tc (.sc (.int .u8 0))), (.tc (.sc (.int .u8 0))), (.tc (.sc (.int .u8 0))), (.tc (.sc (.bool false))), (.tc (.sc (.bool false))), (.tc (.sc (.int .u16 0))), (.tc (.sc (.int .i64 0)))]] [(.mk 0 11 g7), (.mk 1 11 g8)] (G2 18 3 2)) s9,
  .p (.call 12 [g9] (G2 18 3 3)) s10,
  .p (.call 15 [g10] (G2 18 3 4)) s11,
  .p (.bin .eql g11 (kc (.tc (.sc (.int .i64 0)))) (G2 18 3 5)) s12,
  .p (.mv g12) s13,
  .gp g13 true (.call 13 [(kc (.tc (.sc (.int .u8 0))))] (G2 18 3 7)) s14,
  .gp g13 true (.call 13 [(kc (.tc (.sc (.int .u8 1))))] (G2 18 3 8)) s15,
  .gp g13 true (.bs 11 2 [[(.tc (.sc (.int .u8 0))), (.tc (.sc (.int .u8 0))), (.tc (.sc (.int .u8 0))), (.tc (.sc (.int .u8 0))), (.tc (.sc (.int .u8 0))), (.tc (.sc (.int .u8 0))), (.tc (.sc (.int .u8 0))), (.tc (.sc (.bool false))), (.tc (.sc (.bool false))), (.tc (.sc (.int .u16 0))), (.tc (.sc (.int .i64 0)))], [(.tc (.sc (.int .u8 0))), (.tc (.sc (.int .u8 0))), (.tc (.sc (.int .u8 0))), (.tc (.sc (.int .u8 0))), (.tc (.sc (.int .u8 0))), (.tc (.sc (.int .u8 0))), (.tc (.sc (.int .u8 0))), (.tc (.sc (.bool false))), (.tc (.sc (.bool false))), (.tc (.sc (.int .u16 0))), (.tc (.sc (.int .i64 0)))]] [(.mk 0 11 g14), (.mk 1 11 g15)] (G2 18 3 9)) s16,
  .gp g13 true (.call 12 [g16] (G2 18 3 10)) s17,
  .gp g13 true (.call 35 [g17] (G2 18 3 11)) s18,
  .gp g13 true (.bin .eql g18 (kc (.tc (.sc (.int .i64 2)))) (G2 18 3 12)) s19,
  .p (.pk g13 g19 (kc (.tc (.sc (.bool false))))) s20,
  .p (.mv g20) s21,
  .gp g21 true (.call 13 [(kc (.tc (.sc (.int .u8 0))))] (G2 18 3 15)) s22,
  .gp g21 true (.call 13 [(kc (.tc (.sc (.int .u8 1))))] (G2 18 3 16)) s23,
  .gp g21 true (.bs 11 2 [[(.tc (.sc (.int .u8 0))), (.tc (.sc (.int .u8 0))), (.tc (.sc (.int .u8 0))), (.tc (.sc (.int .u8 0))), (.tc (.sc (.int .u8 0))), (.tc (.sc (.int .u8 0))), (.tc (.sc (.int .u8 0))), (.tc (.sc (.bool false))), (.tc (.sc (.bool false))), (.tc (.sc (.int .u16 0))), (.tc (.sc (.int .i64 0)))], [(.tc (.sc (.int .u8 0))), (.tc (.sc (.int .u8 0))), (.tc (.sc (.int .u8 0))), (.tc (.sc (.int .u8 0))), (.tc (.sc (.int .u8 0))), (.tc (.sc (.int .u8 0))), (.tc (.sc (.int .u8 0))), (.tc (.sc (.bool false))), (.tc (.sc (.bool false))), (.tc (.sc (.int .u16 0))), (.tc (.sc (.int .i64 0)))]] [(.mk 0 11 g22), (.mk 1 11 g23)] (G2 18 3 17)) s24,
  .gp g21 true (.call 14 [g24] (G2 18 3 18)) s25,
  .gp g21 true (.call 15 [g25] (G2 18 3 19)) s26,
  .gp g21 true (.bin .eql g26 (kc (.tc (.sc (.int .i64 0)))) (G2 18 3 20)) s27,
  .p (.pk g21 g27 (kc (.tc (.sc (.bool false))))) s28,
  .p (.mv g28) s29,
  .gp g29 true (.ld true 5 g1) s30,
  .gp g29 true (.call 35 [g30] (G2 18 3 24)) s31,
  .gp g29 true (.bin .eql g31 (kc (.tc (.sc (.int .i64 1)))) (G2 18 3 25)) s32,
  .p (.pk g29 g32 (kc (.tc (.sc (.bool false))))) s33,
  .p (.mv g33) s34,
  .gp g34 true (.ld true 5 g1) s35,
  .gp g34 true (.call 15 [g35] (G2 18 3 29)) s36,
  .gp g34 true (.bin .eql g36 (kc (.tc (.sc (.int .i64 13)))) (G2 18 3 30)) s37,
  .p (.pk g34 g37 (kc (.tc (.sc (.bool false))))) s38,
  .p (.mv g38) s39,
  .gp g39 true (.ld true 5 g1) s40,
  .gp g39 true (.call 17 [g40] (G2 18 3 34)) s41,
  .gp g39 true (.nt g41 (G2 18 3 35)) s42,
  .p (.pk g39 g42 (kc (.tc (.sc (.bool false))))) s43,
  .p (.mv g43) s44,
  .gp g44 true (.call 13 [(kc (.tc (.sc (.int .u8 0))))] (G2 18 3 38)) s45,
  .gp g44 true (.call 13 [(kc (.tc (.sc (.int .u8 1))))] (G2 18 3 39)) s46,
  .gp g44 true (.bs 11 2 [[(.tc (.sc (.int .u8 0))), (.tc (.sc (.int .u8 0))), (.tc (.sc (.int .u8 0))), (.tc (.sc (.int .u8 0))), (.tc (.sc (.int .u8 0))), (.tc (.sc (.int .u8 0))), (.tc (.sc (.int .u8 0))), (.tc (.sc (.bool false))), (.tc (.sc (.bool false))), (.tc (.sc (.int .u16 0))), (.tc (.sc (.int .i64 0)))], [(.tc (.sc (.int .u8 0))), (.tc (.sc (.int .u8 0))), (.tc (.sc (.int .u8 0))), (.tc (.sc (.int .u8 0))), (.tc (.sc (.int .u8 0))), (.tc (.sc (.int .u8 0))), (.tc (.sc (.int .u8 0))), (.tc (.sc (.bool false))), (.tc (.sc (.bool false))), (.tc (.sc (.int .u16 0))), (.tc (.sc (.int .i64 0)))]] [(.mk 0 11 g45), (.mk 1 11 g46)] (G2 18 3 40)) s47,
  .gp g44 true (.call 12 [g47] (G2 18 3 41)) s48,
  .gp g44 true (.call 17 [g48] (G2 18 3 42)) s49,
  .p (.pk g44 g49 (kc (.tc (.sc (.bool false))))) s50,
  .p (.mv g50) s0])
 .ret)))),
 [.tmp g0]⟩
theorem ff18_ok : compF SBLegalKnown 18 = ff18 := by kernel_rfl

noncomputable def codeLegalKnown (f : FuncId) : FF := match f with
  | 3 => ff3
  | 10 => ff10
  | 11 => ff11
  | 12 => ff12
  | 13 => ff13
  | 14 => ff14
  | 15 => ff15
  | 33 => ff33
  | 54 => ff54
  | 74 => ff74
  | 71 => ff71
  | 42 => ff42
  | 67 => ff67
  | 88 => ff88
  | 93 => ff93
  | 85 => ff85
  | 102 => ff102
  | 103 => ff103
  | 94 => ff94
  | 100 => ff100
  | 95 => ff95
  | 96 => ff96
  | 97 => ff97
  | 98 => ff98
  | 99 => ff99
  | 101 => ff101
  | 68 => ff68
  | 75 => ff75
  | 90 => ff90
  | 55 => ff55
  | 76 => ff76
  | 56 => ff56
  | 24 => ff24
  | 43 => ff43
  | 44 => ff44
  | 69 => ff69
  | 45 => ff45
  | 70 => ff70
  | 89 => ff89
  | 57 => ff57
  | 77 => ff77
  | 78 => ff78
  | 82 => ff82
  | 91 => ff91
  | 81 => ff81
  | 58 => ff58
  | 59 => ff59
  | 79 => ff79
  | 80 => ff80
  | 34 => ff34
  | 16 => ff16
  | 37 => ff37
  | 27 => ff27
  | 21 => ff21
  | 41 => ff41
  | 65 => ff65
  | 64 => ff64
  | 86 => ff86
  | 73 => ff73
  | 66 => ff66
  | 87 => ff87
  | 19 => ff19
  | 39 => ff39
  | 53 => ff53
  | 38 => ff38
  | 62 => ff62
  | 63 => ff63
  | 47 => ff47
  | 50 => ff50
  | 72 => ff72
  | 61 => ff61
  | 60 => ff60
  | 83 => ff83
  | 84 => ff84
  | 92 => ff92
  | 35 => ff35
  | 36 => ff36
  | 17 => ff17
  | 18 => ff18
  | _ => .bad
theorem codeLegalKnown_ok : ∀ f, codeLegalKnown f = .bad ∨ codeLegalKnown f = compF SBLegalKnown f := by
  intro f
  unfold codeLegalKnown
  split
  · exact .inr ff3_ok.symm
  · exact .inr ff10_ok.symm
  · exact .inr ff11_ok.symm
  · exact .inr ff12_ok.symm
  · exact .inr ff13_ok.symm
  · exact .inr ff14_ok.symm
  · exact .inr ff15_ok.symm
  · exact .inr ff33_ok.symm
  · exact .inr ff54_ok.symm
  · exact .inr ff74_ok.symm
  · exact .inr ff71_ok.symm
  · exact .inr ff42_ok.symm
  · exact .inr ff67_ok.symm
  · exact .inr ff88_ok.symm
  · exact .inr ff93_ok.symm
  · exact .inr ff85_ok.symm
  · exact .inr ff102_ok.symm
  · exact .inr ff103_ok.symm
  · exact .inr ff94_ok.symm
  · exact .inr ff100_ok.symm
  · exact .inr ff95_ok.symm
  · exact .inr ff96_ok.symm
  · exact .inr ff97_ok.symm
  · exact .inr ff98_ok.symm
  · exact .inr ff99_ok.symm
  · exact .inr ff101_ok.symm
  · exact .inr ff68_ok.symm
  · exact .inr ff75_ok.symm
  · exact .inr ff90_ok.symm
  · exact .inr ff55_ok.symm
  · exact .inr ff76_ok.symm
  · exact .inr ff56_ok.symm
  · exact .inr ff24_ok.symm
  · exact .inr ff43_ok.symm
  · exact .inr ff44_ok.symm
  · exact .inr ff69_ok.symm
  · exact .inr ff45_ok.symm
  · exact .inr ff70_ok.symm
  · exact .inr ff89_ok.symm
  · exact .inr ff57_ok.symm
  · exact .inr ff77_ok.symm
  · exact .inr ff78_ok.symm
  · exact .inr ff82_ok.symm
  · exact .inr ff91_ok.symm
  · exact .inr ff81_ok.symm
  · exact .inr ff58_ok.symm
  · exact .inr ff59_ok.symm
  · exact .inr ff79_ok.symm
  · exact .inr ff80_ok.symm
  · exact .inr ff34_ok.symm
  · exact .inr ff16_ok.symm
  · exact .inr ff37_ok.symm
  · exact .inr ff27_ok.symm
  · exact .inr ff21_ok.symm
  · exact .inr ff41_ok.symm
  · exact .inr ff65_ok.symm
  · exact .inr ff64_ok.symm
  · exact .inr ff86_ok.symm
  · exact .inr ff73_ok.symm
  · exact .inr ff66_ok.symm
  · exact .inr ff87_ok.symm
  · exact .inr ff19_ok.symm
  · exact .inr ff39_ok.symm
  · exact .inr ff53_ok.symm
  · exact .inr ff38_ok.symm
  · exact .inr ff62_ok.symm
  · exact .inr ff63_ok.symm
  · exact .inr ff47_ok.symm
  · exact .inr ff50_ok.symm
  · exact .inr ff72_ok.symm
  · exact .inr ff61_ok.symm
  · exact .inr ff60_ok.symm
  · exact .inr ff83_ok.symm
  · exact .inr ff84_ok.symm
  · exact .inr ff92_ok.symm
  · exact .inr ff35_ok.symm
  · exact .inr ff36_ok.symm
  · exact .inr ff17_ok.symm
  · exact .inr ff18_ok.symm
  · exact .inl rfl
end Go.Proofs.YthabafmieebmmaaDoor
