/- Code made ready ahead, Rul: each is what the program says. -/
import Derived.Test.YtamhmfdbnlkmkaaKcBase
set_option linter.unusedVariables false
set_option maxRecDepth 100000
namespace Go.Proofs.Ytamhmfdbnlkmkaa
open Go

noncomputable def ffRul3 : FF := .t2 ⟨49,
 (.seq (.reg [.p (.bx 5 g0 (G2 3 0 0)) s3,
  .p (.bx 11 g1 (G2 3 0 1)) s4,
  .p (.bx 11 g2 (G2 3 0 2)) s5,
  .p (.mv (kc (.tc (.sc (.bool false))))) s6])
 (.seq (.seq (.reg [.p (.fa 0 g3) s9,
  .p (.ld false 1 g9) s10,
  .p (.len g10 (G2 3 1 2)) s11,
  .p (.bin .gtr g11 (kc (.tc (.sc (.int .i64 8)))) (G2 3 1 3)) s12])
 (.cond g12 (.seq (.reg [.p (.call 9 [] (G2 3 2 0)) s13,
  .p (.mv g13) s6])
 .ret)
 .skip))
 (.seq (.reg [.p (.bs 11 0 [] [] (G2 3 3 0)) s14,
  .p (.fa 0 g3) s15,
  .p (.ld false 1 g15) s16,
  .p (.ap 11 24 g14 g16) s17,
  .p (.mv g17) s7])
 (.seq (.seq (.regD [0, 1, 0, 7, 15, 31, 63, 63, 255, 63, 63, 2047, 4095, 8191] [(.rd (.ld true 5 g3) g18), .no, (.rd (.ld true 5 g3) g20), .no, .no, .no, (.rd (.ld true 11 g4) g24), (.rd (.ld true 11 g5) g25), .no, (.rd (.ld true 11 g4) g27), (.rd (.ld true 11 g5) g28), .no, .no, .no] [.mk .none .yes (.ld true 5 g3) (.ld true 5 g3) (some s18),
  .mk .none (.dyn 10 [g18]) (.call 10 [g18] (G2 3 4 1)) (.call 10 [g18] (G2 3 4 1)) (some s19),
  .mk .none .yes (.ld true 5 g3) (.ld true 5 g3) (some s20),
  .mk .none (.dyn 11 [g20]) (.call 11 [g20] (G2 3 4 3)) (.call 11 [g20] (G2 3 4 3)) (some s21),
  .mk .none .yes (.bin .neq g19 g21 (G2 3 4 4)) (.bin .neq g19 g21 (G2 3 4 4)) (some s22),
  .mk .none .yes (.mv g22) (.mv g22) (some s23),
  .mk (.on g23 false) .yes (.ld true 11 g4) (.ld true 11 g4) (some s24),
  .mk (.on g23 false) .yes (.ld true 11 g5) (.ld true 11 g5) (some s25),
  .mk (.on g23 false) (.dyn 12 [g24, g25]) (.call 12 [g24, g25] (G2 3 4 8)) (.call 12 [g24, g25] (G2 3 4 8)) (some s26),
  .mk (.on g23 false) .yes (.ld true 11 g4) (.ld true 11 g4) (some s27),
  .mk (.on g23 false) .yes (.ld true 11 g5) (.ld true 11 g5) (some s28),
  .mk (.on g23 false) (.dyn 13 [g27, g28]) (.call 13 [g27, g28] (G2 3 4 11)) (.call 13 [g27, g28] (G2 3 4 11)) (some s29),
  .mk (.on g23 false) .yes (.bin .neq g26 g29 (G2 3 4 12)) (.bin .neq g26 g29 (G2 3 4 12)) (some s30),
  .mk .none .yes (.pk g23 (kc (.tc (.sc (.bool true)))) g30) (.pk g23 (kc (.tc (.sc (.bool true)))) g30) (some s31)])
 (.cond g31 (.seq (.reg [.p (.mv (kc (.tc (.sc (.bool false))))) s6])
 .ret)
 .skip))
 (.seq (.seq (.reg [.p (.mv (kc (.tc (.sc (.int .i64 0))))) s8])
 (.block 0 (.loop 4294967296 (.seq (.seq (.reg [.p (.mv g8) s32,
  .p (.mv g7) s33,
  .p (.len g33 (G2 3 7 2)) s34,
  .p (.bin .lss g32 g34 (G2 3 7 3)) s35])
 (.cond g35 .skip
 (.exit 0)))
 (.seq (.block 1 (.seq (.regD [0, 1, 0, 7, 15, 0, 0, 96, 224, 511] [.no, (.rd (.ld false 1 g38) g39), .no, .no, (.rd (.ld true 11 g41) g42), .no, .no, .no, (.rd (.ld true 11 g45) g46), .no] [.mk .none .yes (.fa 0 g3) (.fa 0 g3) (some s38),
  .mk .none .yes (.ld false 1 g38) (.ld false 1 g38) (some s39),
  .mk .none .yes (.mv g8) (.mv g8) (some s40),
  .mk .none .yes (.ia 11 g39 g40 (G2 3 8 3)) (.ia 11 g39 g40 (G2 3 8 3)) (some s41),
  .mk .none .yes (.ld true 11 g41) (.ld true 11 g41) (some s42),
  .mk .none .yes (.mv g7) (.mv g7) (some s43),
  .mk .none .yes (.mv g8) (.mv g8) (some s44),
  .mk .none .yes (.ia 11 g43 g44 (G2 3 8 7)) (.ia 11 g43 g44 (G2 3 8 7)) (some s45),
  .mk .none .yes (.ld true 11 g45) (.ld true 11 g45) (some s46),
  .mk .none .yes (.eqs .neq [(.mk 0 .int), (.mk 1 .int), (.mk 2 .int), (.mk 3 .int), (.mk 4 .int), (.mk 5 .int), (.mk 6 .int), (.mk 7 .bool), (.mk 8 .bool), (.mk 9 .int), (.mk 10 .int)] g42 g46 (G2 3 8 9)) (.eqs .neq [(.mk 0 .int), (.mk 1 .int), (.mk 2 .int), (.mk 3 .int), (.mk 4 .int), (.mk 5 .int), (.mk 6 .int), (.mk 7 .bool), (.mk 8 .bool), (.mk 9 .int), (.mk 10 .int)] g42 g46 (G2 3 8 9)) (some s47)])
 (.cond g47 (.seq (.reg [.p (.mv (kc (.tc (.sc (.bool false))))) s6])
 .ret)
 .skip)))
 (.reg [.p (.mv g8) s36,
  .p (.bin .add g36 (kc (.tc (.sc (.int .i64 1)))) (G2 3 10 1)) s37,
  .p (.mv g37) s8]))))))
 (.seq (.reg [.p (.call 9 [] (G2 3 11 0)) s48,
  .p (.mv g48) s6])
 .ret)))))),
 [.tmp g6]⟩
theorem ffRul3_ok : compF SBase 3 = ffRul3 := by kernel_rfl
noncomputable def ffRul9 : FF := .t2 ⟨34,
 (.seq (.reg [.p (.mv (kc (.tc (.sc (.bool false))))) s0])
 (.seq (.reg [.p (.call 24 [(kc (.tc (.sc (.int .u8 1)))), (kc (.tc (.sc (.int .u8 0)))), (kc (.tc (.sc (.int .u8 0))))] (G2 9 1 0)) s1,
  .p (.call 24 [(kc (.tc (.sc (.int .u8 2)))), (kc (.tc (.sc (.int .u8 0)))), (kc (.tc (.sc (.int .u8 0))))] (G2 9 1 1)) s2,
  .p (.bs 11 2 [[(.tc (.sc (.int .u8 0))), (.tc (.sc (.int .u8 0))), (.tc (.sc (.int .u8 0))), (.tc (.sc (.int .u8 0))), (.tc (.sc (.int .u8 0))), (.tc (.sc (.int .u8 0))), (.tc (.sc (.int .u8 0))), (.tc (.sc (.bool false))), (.tc (.sc (.bool false))), (.tc (.sc (.int .u16 0))), (.tc (.sc (.int .i64 0)))], [(.tc (.sc (.int .u8 0))), (.tc (.sc (.int .u8 0))), (.tc (.sc (.int .u8 0))), (.tc (.sc (.int .u8 0))), (.tc (.sc (.int .u8 0))), (.tc (.sc (.int .u8 0))), (.tc (.sc (.int .u8 0))), (.tc (.sc (.bool false))), (.tc (.sc (.bool false))), (.tc (.sc (.int .u16 0))), (.tc (.sc (.int .i64 0)))]] [(.mk 0 11 g1), (.mk 1 11 g2)] (G2 9 1 2)) s3,
  .p (.call 23 [g3] (G2 9 1 3)) s4,
  .p (.call 10 [g4] (G2 9 1 4)) s5,
  .p (.bin .eql g5 (kc (.tc (.sc (.int .i64 0)))) (G2 9 1 5)) s6,
  .p (.mv g6) s7,
  .gp g7 true (.call 24 [(kc (.tc (.sc (.int .u8 1)))), (kc (.tc (.sc (.int .u8 0)))), (kc (.tc (.sc (.int .u8 0))))] (G2 9 1 7)) s8,
  .gp g7 true (.call 24 [(kc (.tc (.sc (.int .u8 1)))), (kc (.tc (.sc (.int .u8 0)))), (kc (.tc (.sc (.int .u8 0))))] (G2 9 1 8)) s9,
  .gp g7 true (.bs 11 2 [[(.tc (.sc (.int .u8 0))), (.tc (.sc (.int .u8 0))), (.tc (.sc (.int .u8 0))), (.tc (.sc (.int .u8 0))), (.tc (.sc (.int .u8 0))), (.tc (.sc (.int .u8 0))), (.tc (.sc (.int .u8 0))), (.tc (.sc (.bool false))), (.tc (.sc (.bool false))), (.tc (.sc (.int .u16 0))), (.tc (.sc (.int .i64 0)))], [(.tc (.sc (.int .u8 0))), (.tc (.sc (.int .u8 0))), (.tc (.sc (.int .u8 0))), (.tc (.sc (.int .u8 0))), (.tc (.sc (.int .u8 0))), (.tc (.sc (.int .u8 0))), (.tc (.sc (.int .u8 0))), (.tc (.sc (.bool false))), (.tc (.sc (.bool false))), (.tc (.sc (.int .u16 0))), (.tc (.sc (.int .i64 0)))]] [(.mk 0 11 g8), (.mk 1 11 g9)] (G2 9 1 9)) s10,
  .gp g7 true (.call 23 [g10] (G2 9 1 10)) s11,
  .gp g7 true (.call 10 [g11] (G2 9 1 11)) s12,
  .gp g7 true (.bin .eql g12 (kc (.tc (.sc (.int .i64 11)))) (G2 9 1 12)) s13,
  .p (.pk g7 g13 (kc (.tc (.sc (.bool false))))) s14,
  .p (.mv g14) s15,
  .gp g15 true (.call 24 [(kc (.tc (.sc (.int .u8 1)))), (kc (.tc (.sc (.int .u8 1)))), (kc (.tc (.sc (.int .u8 0))))] (G2 9 1 15)) s16,
  .gp g15 true (.call 24 [(kc (.tc (.sc (.int .u8 1)))), (kc (.tc (.sc (.int .u8 2)))), (kc (.tc (.sc (.int .u8 0))))] (G2 9 1 16)) s17,
  .gp g15 true (.bs 11 2 [[(.tc (.sc (.int .u8 0))), (.tc (.sc (.int .u8 0))), (.tc (.sc (.int .u8 0))), (.tc (.sc (.int .u8 0))), (.tc (.sc (.int .u8 0))), (.tc (.sc (.int .u8 0))), (.tc (.sc (.int .u8 0))), (.tc (.sc (.bool false))), (.tc (.sc (.bool false))), (.tc (.sc (.int .u16 0))), (.tc (.sc (.int .i64 0)))], [(.tc (.sc (.int .u8 0))), (.tc (.sc (.int .u8 0))), (.tc (.sc (.int .u8 0))), (.tc (.sc (.int .u8 0))), (.tc (.sc (.int .u8 0))), (.tc (.sc (.int .u8 0))), (.tc (.sc (.int .u8 0))), (.tc (.sc (.bool false))), (.tc (.sc (.bool false))), (.tc (.sc (.int .u16 0))), (.tc (.sc (.int .i64 0)))]] [(.mk 0 11 g16), (.mk 1 11 g17)] (G2 9 1 17)) s18,
  .gp g15 true (.call 23 [g18] (G2 9 1 18)) s19,
  .gp g15 true (.call 10 [g19] (G2 9 1 19)) s20,
  .gp g15 true (.bin .eql g20 (kc (.tc (.sc (.int .i64 0)))) (G2 9 1 20)) s21,
  .p (.pk g15 g21 (kc (.tc (.sc (.bool false))))) s22,
  .p (.mv g22) s23,
  .gp g23 true (.call 24 [(kc (.tc (.sc (.int .u8 1)))), (kc (.tc (.sc (.int .u8 0)))), (kc (.tc (.sc (.int .u8 0))))] (G2 9 1 23)) s24,
  .gp g23 true (.call 24 [(kc (.tc (.sc (.int .u8 1)))), (kc (.tc (.sc (.int .u8 1)))), (kc (.tc (.sc (.int .u8 0))))] (G2 9 1 24)) s25,
  .gp g23 true (.call 12 [g24, g25] (G2 9 1 25)) s26,
  .p (.pk g23 g26 (kc (.tc (.sc (.bool false))))) s27,
  .p (.mv g27) s28,
  .gp g28 true (.call 24 [(kc (.tc (.sc (.int .u8 1)))), (kc (.tc (.sc (.int .u8 3)))), (kc (.tc (.sc (.int .u8 1))))] (G2 9 1 28)) s29,
  .gp g28 true (.call 24 [(kc (.tc (.sc (.int .u8 1)))), (kc (.tc (.sc (.int .u8 4)))), (kc (.tc (.sc (.int .u8 1))))] (G2 9 1 29)) s30,
  .gp g28 true (.call 12 [g29, g30] (G2 9 1 30)) s31,
  .gp g28 true (.nt g31 (G2 9 1 31)) s32,
  .p (.pk g28 g32 (kc (.tc (.sc (.bool false))))) s33,
  .p (.mv g33) s0])
 .ret)),
 [.tmp g0]⟩
theorem ffRul9_ok : compF SBase 9 = ffRul9 := by kernel_rfl
noncomputable def ffRul24 : FF := .t2 ⟨11,
 (.seq (.reg [.p (.al 11 [(.sc (.int .u8 0)), (.sc (.int .u8 0)), (.sc (.int .u8 0)), (.sc (.int .u8 0)), (.sc (.int .u8 0)), (.sc (.int .u8 0)), (.sc (.int .u8 0)), (.sc (.bool false)), (.sc (.bool false)), (.sc (.int .u16 0)), (.sc (.int .i64 0))]) s6])
 (.seq (.reg [.p (.mv g0) s7,
  .p (.mv g1) s8,
  .p (.mv g2) s9,
  .p (.bd [(.tc (.sc (.int .u8 0))), (.tc (.sc (.int .u8 0))), (.tc (.sc (.int .u8 0))), (.tc (.sc (.int .u8 0))), (.tc (.sc (.int .u8 0))), (.tc (.sc (.int .u8 0))), (.tc (.sc (.int .u8 0))), (.tc (.sc (.bool false))), (.tc (.sc (.bool false))), (.tc (.sc (.int .u16 0))), (.tc (.sc (.int .i64 0)))] [(.mk 0 1 (kc (.tc (.sc (.int .u8 2))))), (.mk 1 1 g7), (.mk 6 1 g8), (.mk 5 1 g9)] (G2 24 1 3)) s10,
  .n (.st 11 g6 g10 (G2 24 1 4))])
 .ret)),
 [.cell g6 true 11]⟩
theorem ffRul24_ok : compF SBase 24 = ffRul24 := by kernel_rfl
noncomputable def ffRul23 : FF := .t2 ⟨5,
 (.seq (.reg [.p (.al 5 [(.sc (.slice none 0 0)), (.sc (.bool false)), (.sc (.bool false)), (.sc (.bool false)), (.sc (.bool false))]) s2])
 (.seq (.reg [.p (.mv g0) s3,
  .p (.bd [(.tc (.sc (.slice none 0 0))), (.tc (.sc (.bool false))), (.tc (.sc (.bool false))), (.tc (.sc (.bool false))), (.tc (.sc (.bool false)))] [(.mk 0 1 g3)] (G2 23 1 1)) s4,
  .n (.st 5 g2 g4 (G2 23 1 2))])
 .ret)),
 [.cell g2 true 5]⟩
theorem ffRul23_ok : compF SBase 23 = ffRul23 := by kernel_rfl
noncomputable def ffRul10 : FF := .t3 ⟨65,
 (.seq (.reg [.p (.bx 5 (h0 g0) (G3 10 0 0)) (i0 s1),
  .p (.mv (kc (.tc (.sc (.int .i64 0))))) (i0 s2)])
 (.seq (.reg [.p (.fa 0 (h0 g1)) (i0 s7),
  .p (.ld false 1 (h0 g7)) (i0 s8),
  .p (.al 1 [(.sc (.slice none 0 0))]) (i0 s3),
  .n (.st 1 (h0 g3) (h0 g8) (G3 10 1 3))])
 (.seq (.reg [.p (.mv (kc (.tc (.sc (.int .i64 0))))) (i0 s4)])
 (.seq (.seq (.reg [.p (.ld false 1 (h0 g3)) (i0 s9),
  .p (.len (h0 g9) (G3 10 3 1)) (i0 s10),
  .p (.mv (kc (.tc (.sc (.int .i64 0))))) (i0 s11)])
 (.block 0 (.loop 4294967296 (.seq (.reg [.p (.bin .lss (h0 g11) (h0 g10) (G3 10 4 0)) (i0 s12)])
 (.seq (.cond (h0 g12) .skip
 (.exit 0))
 (.seq (.block 1 (.seq (.reg [.p (.ia 11 (h0 g9) (h0 g11) (G3 10 5 0)) (i0 s13),
  .p (.ld true 11 (h0 g13)) (i0 s14),
  .p (.al 11 [(.sc (.int .u8 0)), (.sc (.int .u8 0)), (.sc (.int .u8 0)), (.sc (.int .u8 0)), (.sc (.int .u8 0)), (.sc (.int .u8 0)), (.sc (.int .u8 0)), (.sc (.bool false)), (.sc (.bool false)), (.sc (.int .u16 0)), (.sc (.int .i64 0))]) (i0 s6),
  .n (.st 11 (h0 g6) (h0 g14) (G3 10 5 3))])
 (.seq (.regD [0, 1, 0, 7] [.no, .no, (.rd (.ld true 11 (h0 g6)) (h0 g17)), .no] [.mk .none (.gen (G3 10 6 0)) (.bt 1 [[(.tc (.sc (.int .u8 0)))]] [(.mk 0 1 (kc (.tc (.sc (.int .u8 5)))))] (G3 10 6 0)) (.bs 1 1 [[(.tc (.sc (.int .u8 0)))]] [(.mk 0 1 (kc (.tc (.sc (.int .u8 5)))))] (G3 10 6 0)) (some (i0 s15)),
  .mk .none (.dyn 25 [(h0 g15)]) (.call 25 [(h0 g15)] (G3 10 6 1)) (.call 25 [(h0 g15)] (G3 10 6 1)) (some (i0 s16)),
  .mk .none .yes (.ld true 11 (h0 g6)) (.ld true 11 (h0 g6)) (some (i0 s17)),
  .mk .none (.gen (G3 10 6 3)) (.gen (G3 10 6 3)) (.gen (G3 10 6 3)) (some (i0 s18))])
 (.cond (h0 g18) (.reg [.p (.mv (h0 g4)) (i0 s19),
  .p (.bin .add (h0 g19) (kc (.tc (.sc (.int .i64 1)))) (G3 10 7 1)) (i0 s20),
  .p (.mv (h0 g20)) (i0 s4)])
 .skip))))
 (.reg [.p (.bin .add (h0 g11) (kc (.tc (.sc (.int .i64 1)))) (G3 10 8 0)) (i0 s21),
  .p (.mv (h0 g21)) (i0 s11)])))))))
 (.seq (.block 2 (.seq (.reg [.p (.ld false 1 (h0 g3)) (i0 s23),
  .p (.len (h0 g23) (G3 10 9 1)) (i0 s24),
  .p (.bin .lss (h0 g24) (kc (.tc (.sc (.int .i64 1)))) (G3 10 9 2)) (i0 s25),
  .p (.mv (h0 g25)) (i0 s26),
  .gp (h0 g26) false (.ld false 1 (h0 g3)) (i0 s27),
  .gp (h0 g26) false (.len (h0 g27) (G3 10 9 5)) (i0 s28),
  .gp (h0 g26) false (.bin .gtr (h0 g28) (kc (.tc (.sc (.int .i64 4)))) (G3 10 9 6)) (i0 s29),
  .p (.pk (h0 g26) (kc (.tc (.sc (.bool true)))) (h0 g29)) (i0 s30),
  .p (.mv (h0 g30)) (i0 s31),
  .gp (h0 g31) false (.fa 3 (h0 g1)) (i0 s32),
  .gp (h0 g31) false (.ld false 1 (h0 g32)) (i0 s33),
  .gp (h0 g31) false (.mv (h0 g33)) (i0 s34),
  .gp (h0 g34) true (.fa 4 (h0 g1)) (i0 s35),
  .gp (h0 g34) true (.ld false 1 (h0 g35)) (i0 s36),
  .gp (h0 g31) false (.pk (h0 g34) (h0 g36) (kc (.tc (.sc (.bool false))))) (i0 s37),
  .p (.pk (h0 g31) (kc (.tc (.sc (.bool true)))) (h0 g37)) (i0 s38),
  .p (.mv (h0 g38)) (i0 s22)])
 (.cond (h0 g22) (.seq (.reg [.p (.mv (kc (.tc (.sc (.int .i64 8))))) (i0 s2)])
 .ret)
 (.seq (.reg [.p (.ld false 1 (h0 g3)) (i0 s40),
  .p (.call 26 [(h0 g40), (kc (.tc (.sc (.func (.func 27) #[] #[]))))] (G3 10 11 1)) (i0 s41),
  .p (.mv (h0 g41)) (i0 s39)])
 (.cond (h0 g39) (.seq (.reg [.p (.mv (kc (.tc (.sc (.int .i64 8))))) (i0 s2)])
 .ret)
 (.seq (.reg [.p (.mv (h0 g4)) (i0 s43),
  .p (.bin .gtr (h0 g43) (kc (.tc (.sc (.int .i64 1)))) (G3 10 13 1)) (i0 s44),
  .p (.mv (h0 g44)) (i0 s42)])
 (.cond (h0 g42) (.seq (.reg [.p (.mv (kc (.tc (.sc (.int .i64 14))))) (i0 s2)])
 .ret)
 (.seq (.reg [.p (.ld false 1 (h0 g3)) (i0 s46),
  .p (.call 28 [(h0 g46)] (G3 10 15 1)) (i0 s47),
  .p (.mv (h0 g47)) (i0 s45)])
 (.cond (h0 g45) (.seq (.reg [.p (.mv (kc (.tc (.sc (.int .i64 11))))) (i0 s2)])
 .ret)
 (.seq (.reg [.p (.ld false 1 (h0 g3)) (i0 s49),
  .p (.mf (.func 29) [] [(h0 g3)]) (i0 s50),
  .p (.call 26 [(h0 g49), (h0 g50)] (G3 10 17 2)) (i0 s51),
  .p (.mv (h0 g51)) (i0 s48)])
 (.cond (h0 g48) (.seq (.reg [.p (.mv (kc (.tc (.sc (.int .i64 12))))) (i0 s2)])
 .ret)
 (.seq (.regD [0, 1, 3, 7, 15, 31, 63, 127, 127, 383, 1023, 2047, 4095] [.no, (.rd (.ld false 1 (h0 g53)) (h0 g54)), .no, .no, (.rd (.ld false 1 (h0 g56)) (h0 g57)), .no, .no, (.rd (.ld false 1 (h0 g3)) (h0 g60)), .no, .no, .no, .no, .no] [.mk .none .yes (.fa 1 (h0 g1)) (.fa 1 (h0 g1)) (some (i0 s53)),
  .mk .none .yes (.ld false 1 (h0 g53)) (.ld false 1 (h0 g53)) (some (i0 s54)),
  .mk .none .yes (.mv (h0 g54)) (.mv (h0 g54)) (some (i0 s55)),
  .mk (.on (h0 g55) false) .yes (.fa 2 (h0 g1)) (.fa 2 (h0 g1)) (some (i0 s56)),
  .mk (.on (h0 g55) false) .yes (.ld false 1 (h0 g56)) (.ld false 1 (h0 g56)) (some (i0 s57)),
  .mk .none .yes (.pk (h0 g55) (kc (.tc (.sc (.bool true)))) (h0 g57)) (.pk (h0 g55) (kc (.tc (.sc (.bool true)))) (h0 g57)) (some (i0 s58)),
  .mk .none .yes (.mv (h0 g58)) (.mv (h0 g58)) (some (i0 s59)),
  .mk (.on (h0 g59) true) .yes (.ld false 1 (h0 g3)) (.ld false 1 (h0 g3)) (some (i0 s60)),
  .mk (.on (h0 g59) true) (.gen (G3 10 19 8)) (.bt 1 [[(.tc (.sc (.int .u8 0)))], [(.tc (.sc (.int .u8 0)))]] [(.mk 0 1 (kc (.tc (.sc (.int .u8 5))))), (.mk 1 1 (kc (.tc (.sc (.int .u8 6)))))] (G3 10 19 8)) (.bs 1 2 [[(.tc (.sc (.int .u8 0)))], [(.tc (.sc (.int .u8 0)))]] [(.mk 0 1 (kc (.tc (.sc (.int .u8 5))))), (.mk 1 1 (kc (.tc (.sc (.int .u8 6)))))] (G3 10 19 8)) (some (i0 s61)),
  .mk (.on (h0 g59) true) (.dyn 25 [(h0 g61)]) (.call 25 [(h0 g61)] (G3 10 19 9)) (.call 25 [(h0 g61)] (G3 10 19 9)) (some (i0 s62)),
  .mk (.on (h0 g59) true) (.dyn 26 [(h0 g60), (h0 g62)]) (.call 26 [(h0 g60), (h0 g62)] (G3 10 19 10)) (.call 26 [(h0 g60), (h0 g62)] (G3 10 19 10)) (some (i0 s63)),
  .mk .none .yes (.pk (h0 g59) (h0 g63) (kc (.tc (.sc (.bool false))))) (.pk (h0 g59) (h0 g63) (kc (.tc (.sc (.bool false))))) (some (i1 s0)),
  .mk .none .yes (.mv (h1 g0)) (.mv (h1 g0)) (some (i0 s52))])
 (.cond (h0 g52) (.seq (.reg [.p (.mv (kc (.tc (.sc (.int .i64 13))))) (i0 s2)])
 .ret)
 .skip)))))))))))))
 (.seq (.reg [.p (.mv (kc (.tc (.sc (.int .i64 0))))) (i0 s2)])
 .ret)))))),
 [.tmp (h0 g2)]⟩
theorem ffRul10_ok : compF SBase 10 = ffRul10 := by kernel_rfl
noncomputable def ffRul25 : FF := .t2 ⟨4,
 (.seq (.reg [.p (.bx 1 g0 (G2 25 0 0)) s1,
  .p (.mv (kc (.tc (.sc .nilFunc)))) s2])
 (.seq (.reg [.p (.mf (.func 45) [] [g1]) s3,
  .p (.mv g3) s2])
 .ret)),
 [.tmp g2]⟩
theorem ffRul25_ok : compF SBase 25 = ffRul25 := by kernel_rfl
noncomputable def ffRul45 : FF := .t2 ⟨8,
 (.seq (.reg [.p (.bx 11 g0 (G2 45 0 0)) s2,
  .p (.mv (kc (.tc (.sc (.bool false))))) s3])
 (.seq (.regD [0, 0, 2, 7, 15] [(.rd (.ld false 1 g1) g4), (.rd (.ld true 11 g2) g5), .no, .no, .no] [.mk .none .yes (.ld false 1 g1) (.ld false 1 g1) (some s4),
  .mk .none .yes (.ld true 11 g2) (.ld true 11 g2) (some s5),
  .mk .none (.dyn 16 [g5]) (.call 16 [g5] (G2 45 1 2)) (.call 16 [g5] (G2 45 1 2)) (some s6),
  .mk .none (.dyn 46 [g4, g6]) (.call 46 [g4, g6] (G2 45 1 3)) (.call 46 [g4, g6] (G2 45 1 3)) (some s7),
  .mk .none .yes (.mv g7) (.mv g7) (some s3)])
 .ret)),
 [.tmp g3]⟩
theorem ffRul45_ok : compF SBase 45 = ffRul45 := by kernel_rfl
noncomputable def ffRul16 : FF := .t2 ⟨13,
 (.seq (.reg [.p (.bx 11 g0 (G2 16 0 0)) s1,
  .p (.mv (kc (.tc (.sc (.int .u8 0))))) s2])
 (.seq (.reg [.p (.fa 0 g1) s6,
  .p (.ld false 1 g6) s7,
  .p (.call 38 [g7] (G2 16 1 2)) s8,
  .p (.mv g8) s5,
  .p (.ex g5 0) s9,
  .p (.ex g5 1) s10,
  .p (.al 5 [(.sc (.int .u8 0)), (.sc (.string ⟨#[]⟩)), (.sc (.int .u8 0)), (.sc (.int .u8 0)), (.sc (.slice none 0 0))]) s3,
  .n (.st 5 g3 g9 (G2 16 1 7)),
  .p (.mv g10) s4])
 (.seq (.reg [.p (.fa 2 g3) s11,
  .p (.ld false 1 g11) s12,
  .p (.mv g12) s2])
 .ret))),
 [.tmp g2]⟩
theorem ffRul16_ok : compF SBase 16 = ffRul16 := by kernel_rfl
noncomputable def ffRul38 : FF := .t2 ⟨17,
 (.seq (.reg [.p (.al 5 [(.sc (.int .u8 0)), (.sc (.string ⟨#[]⟩)), (.sc (.int .u8 0)), (.sc (.int .u8 0)), (.sc (.slice none 0 0))]) s2,
  .p (.mv (kc (.tc (.sc (.bool false))))) s3])
 (.seq (.reg [.p (.mv g0) s7,
  .p (.call 54 [g7] (G2 38 1 1)) s8,
  .p (.mv g8) s6,
  .p (.ex g6 0) s9,
  .p (.ex g6 1) s10,
  .p (.al 5 [(.sc (.int .u8 0)), (.sc (.string ⟨#[]⟩)), (.sc (.int .u8 0)), (.sc (.int .u8 0)), (.sc (.slice none 0 0))]) s4,
  .n (.st 5 g4 g9 (G2 38 1 6)),
  .p (.mv g10) s5])
 (.seq (.reg [.p (.fa 4 g4) s11,
  .p (.ld false 1 g11) s12,
  .p (.call 55 [g12] (G2 38 2 2)) s13,
  .p (.fa 4 g4) s14,
  .n (.st 1 g14 g13 (G2 38 2 4))])
 (.seq (.reg [.p (.ld true 5 g4) s15,
  .p (.mv g5) s16,
  .n (.st 5 g2 g15 (G2 38 3 2)),
  .p (.mv g16) s3])
 .ret)))),
 [.cell g2 true 5, .tmp g3]⟩
theorem ffRul38_ok : compF SBase 38 = ffRul38 := by kernel_rfl
noncomputable def ffRul54 : FF := .t2 ⟨21,
 (.seq (.reg [.p (.al 5 [(.sc (.int .u8 0)), (.sc (.string ⟨#[]⟩)), (.sc (.int .u8 0)), (.sc (.int .u8 0)), (.sc (.slice none 0 0))]) s2,
  .p (.mv (kc (.tc (.sc (.bool false))))) s3])
 (.seq (.reg [.p (.call 73 [] (G2 54 1 0)) s5,
  .p (.mv g5) s4])
 (.seq (.seq (.reg [.p (.mv g0) s6,
  .p (.bin .lss g6 (kc (.tc (.sc (.int .u8 1)))) (G2 54 2 1)) s7,
  .p (.mv g7) s8,
  .gp g8 false (.mv g0) s9,
  .gp g8 false (.cv .i64 g9 (G2 54 2 4)) s10,
  .gp g8 false (.mv g4) s11,
  .gp g8 false (.len g11 (G2 54 2 6)) s12,
  .gp g8 false (.bin .gtr g10 g12 (G2 54 2 7)) s13,
  .p (.pk g8 (kc (.tc (.sc (.bool true)))) g13) s14])
 (.cond g14 (.seq (.reg [.p (.bd [(.tc (.sc (.int .u8 0))), (.tc (.sc (.string ⟨#[]⟩))), (.tc (.sc (.int .u8 0))), (.tc (.sc (.int .u8 0))), (.tc (.sc (.slice none 0 0)))] [] (G2 54 3 0)) s15,
  .n (.st 5 g2 g15 (G2 54 3 1)),
  .p (.mv (kc (.tc (.sc (.bool false))))) s3])
 .ret)
 .skip))
 (.seq (.reg [.p (.mv g4) s16,
  .p (.mv g0) s17,
  .p (.bin .sub g17 (kc (.tc (.sc (.int .u8 1)))) (G2 54 4 2)) s18,
  .p (.ia 5 g16 g18 (G2 54 4 3)) s19,
  .p (.ld true 5 g19) s20,
  .n (.st 5 g2 g20 (G2 54 4 5)),
  .p (.mv (kc (.tc (.sc (.bool true))))) s3])
 .ret)))),
 [.cell g2 true 5, .tmp g3]⟩
theorem ffRul54_ok : compF SBase 54 = ffRul54 := by kernel_rfl
noncomputable def ffRul73 : FF := .t3 ⟨158,
 (.seq (.reg [.p (.mv (kc (.tc (.sc (.slice none 0 0))))) (i0 s0)])
 (.seq (.reg [.p (.call 78 [(kc (.tc (.sc (.int .u8 1)))), (kc (.tc (.sc (.string ⟨#[110, 111, 112]⟩)))), (kc (.tc (.sc (.int .u8 1)))), (kc (.tc (.sc (.slice none 0 0))))] (G3 73 1 0)) (i0 s1),
  .p (.call 79 [] (G3 73 1 1)) (i0 s2),
  .p (.call 80 [] (G3 73 1 2)) (i0 s3),
  .p (.call 81 [] (G3 73 1 3)) (i0 s4),
  .p (.call 82 [] (G3 73 1 4)) (i0 s5),
  .p (.bs 1 4 [[(.tc (.sc (.slice none 0 0)))], [(.tc (.sc (.slice none 0 0)))], [(.tc (.sc (.slice none 0 0)))], [(.tc (.sc (.slice none 0 0)))]] [(.mk 0 1 (h0 g2)), (.mk 1 1 (h0 g3)), (.mk 2 1 (h0 g4)), (.mk 3 1 (h0 g5))] (G3 73 1 5)) (i0 s6),
  .p (.call 78 [(kc (.tc (.sc (.int .u8 2)))), (kc (.tc (.sc (.string ⟨#[97, 100, 100]⟩)))), (kc (.tc (.sc (.int .u8 1)))), (h0 g6)] (G3 73 1 6)) (i0 s7),
  .p (.call 79 [] (G3 73 1 7)) (i0 s8),
  .p (.call 80 [] (G3 73 1 8)) (i0 s9),
  .p (.call 81 [] (G3 73 1 9)) (i0 s10),
  .p (.call 82 [] (G3 73 1 10)) (i0 s11),
  .p (.bs 1 4 [[(.tc (.sc (.slice none 0 0)))], [(.tc (.sc (.slice none 0 0)))], [(.tc (.sc (.slice none 0 0)))], [(.tc (.sc (.slice none 0 0)))]] [(.mk 0 1 (h0 g8)), (.mk 1 1 (h0 g9)), (.mk 2 1 (h0 g10)), (.mk 3 1 (h0 g11))] (G3 73 1 11)) (i0 s12),
  .p (.call 78 [(kc (.tc (.sc (.int .u8 3)))), (kc (.tc (.sc (.string ⟨#[115, 117, 98]⟩)))), (kc (.tc (.sc (.int .u8 1)))), (h0 g12)] (G3 73 1 12)) (i0 s13),
  .p (.call 79 [] (G3 73 1 13)) (i0 s14),
  .p (.call 80 [] (G3 73 1 14)) (i0 s15),
  .p (.call 81 [] (G3 73 1 15)) (i0 s16),
  .p (.call 82 [] (G3 73 1 16)) (i0 s17),
  .p (.bs 1 4 [[(.tc (.sc (.slice none 0 0)))], [(.tc (.sc (.slice none 0 0)))], [(.tc (.sc (.slice none 0 0)))], [(.tc (.sc (.slice none 0 0)))]] [(.mk 0 1 (h0 g14)), (.mk 1 1 (h0 g15)), (.mk 2 1 (h0 g16)), (.mk 3 1 (h0 g17))] (G3 73 1 17)) (i0 s18),
  .p (.call 78 [(kc (.tc (.sc (.int .u8 4)))), (kc (.tc (.sc (.string ⟨#[97, 110, 100]⟩)))), (kc (.tc (.sc (.int .u8 1)))), (h0 g18)] (G3 73 1 18)) (i0 s19),
  .p (.call 79 [] (G3 73 1 19)) (i0 s20),
  .p (.call 80 [] (G3 73 1 20)) (i0 s21),
  .p (.call 81 [] (G3 73 1 21)) (i0 s22),
  .p (.call 82 [] (G3 73 1 22)) (i0 s23),
  .p (.bs 1 4 [[(.tc (.sc (.slice none 0 0)))], [(.tc (.sc (.slice none 0 0)))], [(.tc (.sc (.slice none 0 0)))], [(.tc (.sc (.slice none 0 0)))]] [(.mk 0 1 (h0 g20)), (.mk 1 1 (h0 g21)), (.mk 2 1 (h0 g22)), (.mk 3 1 (h0 g23))] (G3 73 1 23)) (i0 s24),
  .p (.call 78 [(kc (.tc (.sc (.int .u8 5)))), (kc (.tc (.sc (.string ⟨#[111, 114]⟩)))), (kc (.tc (.sc (.int .u8 1)))), (h0 g24)] (G3 73 1 24)) (i0 s25),
  .p (.call 79 [] (G3 73 1 25)) (i0 s26),
  .p (.call 80 [] (G3 73 1 26)) (i0 s27),
  .p (.call 81 [] (G3 73 1 27)) (i0 s28),
  .p (.call 82 [] (G3 73 1 28)) (i0 s29),
  .p (.bs 1 4 [[(.tc (.sc (.slice none 0 0)))], [(.tc (.sc (.slice none 0 0)))], [(.tc (.sc (.slice none 0 0)))], [(.tc (.sc (.slice none 0 0)))]] [(.mk 0 1 (h0 g26)), (.mk 1 1 (h0 g27)), (.mk 2 1 (h0 g28)), (.mk 3 1 (h0 g29))] (G3 73 1 29)) (i0 s30),
  .p (.call 78 [(kc (.tc (.sc (.int .u8 6)))), (kc (.tc (.sc (.string ⟨#[120, 111, 114]⟩)))), (kc (.tc (.sc (.int .u8 1)))), (h0 g30)] (G3 73 1 30)) (i0 s31),
  .p (.call 80 [] (G3 73 1 31)) (i0 s32),
  .p (.call 81 [] (G3 73 1 32)) (i0 s33),
  .p (.call 83 [(kc (.tc (.sc (.int .i64 14)))), (kc (.tc (.sc (.int .i64 0))))] (G3 73 1 33)) (i0 s34),
  .p (.bs 1 3 [[(.tc (.sc (.slice none 0 0)))], [(.tc (.sc (.slice none 0 0)))], [(.tc (.sc (.slice none 0 0)))]] [(.mk 0 1 (h0 g32)), (.mk 1 1 (h0 g33)), (.mk 2 1 (h0 g34))] (G3 73 1 34)) (i0 s35),
  .p (.call 78 [(kc (.tc (.sc (.int .u8 7)))), (kc (.tc (.sc (.string ⟨#[97, 100, 100, 105]⟩)))), (kc (.tc (.sc (.int .u8 1)))), (h0 g35)] (G3 73 1 35)) (i0 s36),
  .p (.call 79 [] (G3 73 1 36)) (i0 s37),
  .p (.call 80 [] (G3 73 1 37)) (i0 s38),
  .p (.call 83 [(kc (.tc (.sc (.int .i64 14)))), (kc (.tc (.sc (.int .i64 0))))] (G3 73 1 38)) (i0 s39),
  .p (.bs 1 3 [[(.tc (.sc (.slice none 0 0)))], [(.tc (.sc (.slice none 0 0)))], [(.tc (.sc (.slice none 0 0)))]] [(.mk 0 1 (h0 g37)), (.mk 1 1 (h0 g38)), (.mk 2 1 (h0 g39))] (G3 73 1 39)) (i0 s40),
  .p (.call 78 [(kc (.tc (.sc (.int .u8 8)))), (kc (.tc (.sc (.string ⟨#[109, 111, 118, 105]⟩)))), (kc (.tc (.sc (.int .u8 1)))), (h0 g40)] (G3 73 1 40)) (i0 s41),
  .p (.call 79 [] (G3 73 1 41)) (i0 s42),
  .p (.call 80 [] (G3 73 1 42)) (i0 s43),
  .p (.call 81 [] (G3 73 1 43)) (i0 s44),
  .p (.bs 1 3 [[(.tc (.sc (.slice none 0 0)))], [(.tc (.sc (.slice none 0 0)))], [(.tc (.sc (.slice none 0 0)))]] [(.mk 0 1 (h0 g42)), (.mk 1 1 (h0 g43)), (.mk 2 1 (h0 g44))] (G3 73 1 44)) (i0 s45),
  .p (.call 78 [(kc (.tc (.sc (.int .u8 9)))), (kc (.tc (.sc (.string ⟨#[109, 111, 118]⟩)))), (kc (.tc (.sc (.int .u8 1)))), (h0 g45)] (G3 73 1 45)) (i0 s46),
  .p (.call 84 [] (G3 73 1 46)) (i0 s47),
  .p (.call 81 [] (G3 73 1 47)) (i0 s48),
  .p (.call 82 [] (G3 73 1 48)) (i0 s49),
  .p (.bs 1 3 [[(.tc (.sc (.slice none 0 0)))], [(.tc (.sc (.slice none 0 0)))], [(.tc (.sc (.slice none 0 0)))]] [(.mk 0 1 (h0 g47)), (.mk 1 1 (h0 g48)), (.mk 2 1 (h0 g49))] (G3 73 1 49)) (i0 s50),
  .p (.call 78 [(kc (.tc (.sc (.int .u8 10)))), (kc (.tc (.sc (.string ⟨#[99, 109, 112, 101, 113]⟩)))), (kc (.tc (.sc (.int .u8 1)))), (h0 g50)] (G3 73 1 50)) (i0 s51),
  .p (.call 84 [] (G3 73 1 51)) (i0 s52),
  .p (.call 81 [] (G3 73 1 52)) (i0 s53),
  .p (.call 82 [] (G3 73 1 53)) (i0 s54),
  .p (.bs 1 3 [[(.tc (.sc (.slice none 0 0)))], [(.tc (.sc (.slice none 0 0)))], [(.tc (.sc (.slice none 0 0)))]] [(.mk 0 1 (h0 g52)), (.mk 1 1 (h0 g53)), (.mk 2 1 (h0 g54))] (G3 73 1 54)) (i0 s55),
  .p (.call 78 [(kc (.tc (.sc (.int .u8 11)))), (kc (.tc (.sc (.string ⟨#[99, 109, 112, 103, 116]⟩)))), (kc (.tc (.sc (.int .u8 1)))), (h0 g55)] (G3 73 1 55)) (i0 s56),
  .p (.call 84 [] (G3 73 1 56)) (i0 s57),
  .p (.call 81 [] (G3 73 1 57)) (i0 s58),
  .p (.call 82 [] (G3 73 1 58)) (i0 s59),
  .p (.bs 1 3 [[(.tc (.sc (.slice none 0 0)))], [(.tc (.sc (.slice none 0 0)))], [(.tc (.sc (.slice none 0 0)))]] [(.mk 0 1 (h0 g57)), (.mk 1 1 (h0 g58)), (.mk 2 1 (h0 g59))] (G3 73 1 59)) (i0 s60),
  .p (.call 78 [(kc (.tc (.sc (.int .u8 12)))), (kc (.tc (.sc (.string ⟨#[99, 109, 112, 103, 116, 117]⟩)))), (kc (.tc (.sc (.int .u8 1)))), (h0 g60)] (G3 73 1 60)) (i0 s61),
  .p (.call 84 [] (G3 73 1 61)) (i0 s62),
  .p (.call 81 [] (G3 73 1 62)) (i0 s63),
  .p (.call 83 [(kc (.tc (.sc (.int .i64 14)))), (kc (.tc (.sc (.int .i64 0))))] (G3 73 1 63)) (i1 s0),
  .p (.bs 1 3 [[(.tc (.sc (.slice none 0 0)))], [(.tc (.sc (.slice none 0 0)))], [(.tc (.sc (.slice none 0 0)))]] [(.mk 0 1 (h0 g62)), (.mk 1 1 (h0 g63)), (.mk 2 1 (h1 g0))] (G3 73 1 64)) (i1 s1),
  .p (.call 78 [(kc (.tc (.sc (.int .u8 13)))), (kc (.tc (.sc (.string ⟨#[99, 109, 112, 101, 113, 105]⟩)))), (kc (.tc (.sc (.int .u8 1)))), (h1 g1)] (G3 73 1 65)) (i1 s2),
  .p (.call 80 [] (G3 73 1 66)) (i1 s3),
  .p (.call 85 [(kc (.tc (.sc (.int .u8 2)))), (kc (.tc (.sc (.int .i64 2))))] (G3 73 1 67)) (i1 s4),
  .p (.call 81 [] (G3 73 1 68)) (i1 s5),
  .p (.call 82 [] (G3 73 1 69)) (i1 s6),
  .p (.bs 1 4 [[(.tc (.sc (.slice none 0 0)))], [(.tc (.sc (.slice none 0 0)))], [(.tc (.sc (.slice none 0 0)))], [(.tc (.sc (.slice none 0 0)))]] [(.mk 0 1 (h1 g3)), (.mk 1 1 (h1 g4)), (.mk 2 1 (h1 g5)), (.mk 3 1 (h1 g6))] (G3 73 1 70)) (i1 s7),
  .p (.call 78 [(kc (.tc (.sc (.int .u8 14)))), (kc (.tc (.sc (.string ⟨#[109, 117, 120]⟩)))), (kc (.tc (.sc (.int .u8 1)))), (h1 g7)] (G3 73 1 71)) (i1 s8),
  .p (.call 80 [] (G3 73 1 72)) (i1 s9),
  .p (.call 81 [] (G3 73 1 73)) (i1 s10),
  .p (.call 85 [(kc (.tc (.sc (.int .u8 9)))), (kc (.tc (.sc (.int .i64 5))))] (G3 73 1 74)) (i1 s11),
  .p (.bs 1 3 [[(.tc (.sc (.slice none 0 0)))], [(.tc (.sc (.slice none 0 0)))], [(.tc (.sc (.slice none 0 0)))]] [(.mk 0 1 (h1 g9)), (.mk 1 1 (h1 g10)), (.mk 2 1 (h1 g11))] (G3 73 1 75)) (i1 s12),
  .p (.call 78 [(kc (.tc (.sc (.int .u8 15)))), (kc (.tc (.sc (.string ⟨#[97, 115, 108]⟩)))), (kc (.tc (.sc (.int .u8 2)))), (h1 g12)] (G3 73 1 76)) (i1 s13),
  .p (.call 80 [] (G3 73 1 77)) (i1 s14),
  .p (.call 81 [] (G3 73 1 78)) (i1 s15),
  .p (.call 85 [(kc (.tc (.sc (.int .u8 9)))), (kc (.tc (.sc (.int .i64 5))))] (G3 73 1 79)) (i1 s16),
  .p (.bs 1 3 [[(.tc (.sc (.slice none 0 0)))], [(.tc (.sc (.slice none 0 0)))], [(.tc (.sc (.slice none 0 0)))]] [(.mk 0 1 (h1 g14)), (.mk 1 1 (h1 g15)), (.mk 2 1 (h1 g16))] (G3 73 1 80)) (i1 s17),
  .p (.call 78 [(kc (.tc (.sc (.int .u8 16)))), (kc (.tc (.sc (.string ⟨#[108, 115, 114]⟩)))), (kc (.tc (.sc (.int .u8 2)))), (h1 g17)] (G3 73 1 81)) (i1 s18),
  .p (.call 80 [] (G3 73 1 82)) (i1 s19),
  .p (.call 81 [] (G3 73 1 83)) (i1 s20),
  .p (.call 85 [(kc (.tc (.sc (.int .u8 9)))), (kc (.tc (.sc (.int .i64 5))))] (G3 73 1 84)) (i1 s21),
  .p (.bs 1 3 [[(.tc (.sc (.slice none 0 0)))], [(.tc (.sc (.slice none 0 0)))], [(.tc (.sc (.slice none 0 0)))]] [(.mk 0 1 (h1 g19)), (.mk 1 1 (h1 g20)), (.mk 2 1 (h1 g21))] (G3 73 1 85)) (i1 s22),
  .p (.call 78 [(kc (.tc (.sc (.int .u8 17)))), (kc (.tc (.sc (.string ⟨#[97, 115, 114]⟩)))), (kc (.tc (.sc (.int .u8 2)))), (h1 g22)] (G3 73 1 86)) (i1 s23),
  .p (.call 80 [] (G3 73 1 87)) (i1 s24),
  .p (.call 81 [] (G3 73 1 88)) (i1 s25),
  .p (.call 82 [] (G3 73 1 89)) (i1 s26),
  .p (.bs 1 3 [[(.tc (.sc (.slice none 0 0)))], [(.tc (.sc (.slice none 0 0)))], [(.tc (.sc (.slice none 0 0)))]] [(.mk 0 1 (h1 g24)), (.mk 1 1 (h1 g25)), (.mk 2 1 (h1 g26))] (G3 73 1 90)) (i1 s27),
  .p (.call 78 [(kc (.tc (.sc (.int .u8 18)))), (kc (.tc (.sc (.string ⟨#[109, 112, 121]⟩)))), (kc (.tc (.sc (.int .u8 2)))), (h1 g27)] (G3 73 1 91)) (i1 s28),
  .p (.call 80 [] (G3 73 1 92)) (i1 s29),
  .p (.call 81 [] (G3 73 1 93)) (i1 s30),
  .p (.call 82 [] (G3 73 1 94)) (i1 s31),
  .p (.bs 1 3 [[(.tc (.sc (.slice none 0 0)))], [(.tc (.sc (.slice none 0 0)))], [(.tc (.sc (.slice none 0 0)))]] [(.mk 0 1 (h1 g29)), (.mk 1 1 (h1 g30)), (.mk 2 1 (h1 g31))] (G3 73 1 95)) (i1 s32),
  .p (.call 78 [(kc (.tc (.sc (.int .u8 19)))), (kc (.tc (.sc (.string ⟨#[99, 109, 112, 121]⟩)))), (kc (.tc (.sc (.int .u8 2)))), (h1 g32)] (G3 73 1 96)) (i1 s33),
  .p (.call 80 [] (G3 73 1 97)) (i1 s34),
  .p (.call 81 [] (G3 73 1 98)) (i1 s35),
  .p (.call 82 [] (G3 73 1 99)) (i1 s36),
  .p (.bs 1 3 [[(.tc (.sc (.slice none 0 0)))], [(.tc (.sc (.slice none 0 0)))], [(.tc (.sc (.slice none 0 0)))]] [(.mk 0 1 (h1 g34)), (.mk 1 1 (h1 g35)), (.mk 2 1 (h1 g36))] (G3 73 1 100)) (i1 s37),
  .p (.call 78 [(kc (.tc (.sc (.int .u8 20)))), (kc (.tc (.sc (.string ⟨#[99, 109, 112, 121, 99]⟩)))), (kc (.tc (.sc (.int .u8 2)))), (h1 g37)] (G3 73 1 101)) (i1 s38),
  .p (.call 80 [] (G3 73 1 102)) (i1 s39),
  .p (.call 81 [] (G3 73 1 103)) (i1 s40),
  .p (.call 83 [(kc (.tc (.sc (.int .i64 12)))), (kc (.tc (.sc (.int .i64 2))))] (G3 73 1 104)) (i1 s41),
  .p (.bs 1 3 [[(.tc (.sc (.slice none 0 0)))], [(.tc (.sc (.slice none 0 0)))], [(.tc (.sc (.slice none 0 0)))]] [(.mk 0 1 (h1 g39)), (.mk 1 1 (h1 g40)), (.mk 2 1 (h1 g41))] (G3 73 1 105)) (i1 s42),
  .p (.call 78 [(kc (.tc (.sc (.int .u8 21)))), (kc (.tc (.sc (.string ⟨#[108, 100, 119]⟩)))), (kc (.tc (.sc (.int .u8 3)))), (h1 g42)] (G3 73 1 106)) (i1 s43),
  .p (.call 80 [] (G3 73 1 107)) (i1 s44),
  .p (.call 81 [] (G3 73 1 108)) (i1 s45),
  .p (.call 83 [(kc (.tc (.sc (.int .i64 12)))), (kc (.tc (.sc (.int .i64 1))))] (G3 73 1 109)) (i1 s46),
  .p (.bs 1 3 [[(.tc (.sc (.slice none 0 0)))], [(.tc (.sc (.slice none 0 0)))], [(.tc (.sc (.slice none 0 0)))]] [(.mk 0 1 (h1 g44)), (.mk 1 1 (h1 g45)), (.mk 2 1 (h1 g46))] (G3 73 1 110)) (i1 s47),
  .p (.call 78 [(kc (.tc (.sc (.int .u8 22)))), (kc (.tc (.sc (.string ⟨#[108, 100, 104]⟩)))), (kc (.tc (.sc (.int .u8 3)))), (h1 g47)] (G3 73 1 111)) (i1 s48),
  .p (.call 80 [] (G3 73 1 112)) (i1 s49),
  .p (.call 81 [] (G3 73 1 113)) (i1 s50),
  .p (.call 83 [(kc (.tc (.sc (.int .i64 12)))), (kc (.tc (.sc (.int .i64 0))))] (G3 73 1 114)) (i1 s51),
  .p (.bs 1 3 [[(.tc (.sc (.slice none 0 0)))], [(.tc (.sc (.slice none 0 0)))], [(.tc (.sc (.slice none 0 0)))]] [(.mk 0 1 (h1 g49)), (.mk 1 1 (h1 g50)), (.mk 2 1 (h1 g51))] (G3 73 1 115)) (i1 s52),
  .p (.call 78 [(kc (.tc (.sc (.int .u8 23)))), (kc (.tc (.sc (.string ⟨#[108, 100, 98]⟩)))), (kc (.tc (.sc (.int .u8 3)))), (h1 g52)] (G3 73 1 116)) (i1 s53),
  .p (.call 81 [] (G3 73 1 117)) (i1 s54),
  .p (.call 85 [(kc (.tc (.sc (.int .u8 8)))), (kc (.tc (.sc (.int .i64 1))))] (G3 73 1 118)) (i1 s55),
  .p (.call 82 [] (G3 73 1 119)) (i1 s56),
  .p (.call 83 [(kc (.tc (.sc (.int .i64 12)))), (kc (.tc (.sc (.int .i64 2))))] (G3 73 1 120)) (i1 s57),
  .p (.bs 1 4 [[(.tc (.sc (.slice none 0 0)))], [(.tc (.sc (.slice none 0 0)))], [(.tc (.sc (.slice none 0 0)))], [(.tc (.sc (.slice none 0 0)))]] [(.mk 0 1 (h1 g54)), (.mk 1 1 (h1 g55)), (.mk 2 1 (h1 g56)), (.mk 3 1 (h1 g57))] (G3 73 1 121)) (i1 s58),
  .p (.call 78 [(kc (.tc (.sc (.int .u8 24)))), (kc (.tc (.sc (.string ⟨#[115, 116, 119]⟩)))), (kc (.tc (.sc (.int .u8 4)))), (h1 g58)] (G3 73 1 122)) (i1 s59),
  .p (.call 81 [] (G3 73 1 123)) (i1 s60),
  .p (.call 85 [(kc (.tc (.sc (.int .u8 8)))), (kc (.tc (.sc (.int .i64 1))))] (G3 73 1 124)) (i1 s61),
  .p (.call 82 [] (G3 73 1 125)) (i1 s62),
  .p (.call 83 [(kc (.tc (.sc (.int .i64 12)))), (kc (.tc (.sc (.int .i64 1))))] (G3 73 1 126)) (i1 s63),
  .p (.bs 1 4 [[(.tc (.sc (.slice none 0 0)))], [(.tc (.sc (.slice none 0 0)))], [(.tc (.sc (.slice none 0 0)))], [(.tc (.sc (.slice none 0 0)))]] [(.mk 0 1 (h1 g60)), (.mk 1 1 (h1 g61)), (.mk 2 1 (h1 g62)), (.mk 3 1 (h1 g63))] (G3 73 1 127)) (i2 s0),
  .p (.call 78 [(kc (.tc (.sc (.int .u8 25)))), (kc (.tc (.sc (.string ⟨#[115, 116, 104]⟩)))), (kc (.tc (.sc (.int .u8 4)))), (h2 g0)] (G3 73 1 128)) (i2 s1),
  .p (.call 81 [] (G3 73 1 129)) (i2 s2),
  .p (.call 85 [(kc (.tc (.sc (.int .u8 8)))), (kc (.tc (.sc (.int .i64 1))))] (G3 73 1 130)) (i2 s3),
  .p (.call 82 [] (G3 73 1 131)) (i2 s4),
  .p (.call 83 [(kc (.tc (.sc (.int .i64 12)))), (kc (.tc (.sc (.int .i64 0))))] (G3 73 1 132)) (i2 s5),
  .p (.bs 1 4 [[(.tc (.sc (.slice none 0 0)))], [(.tc (.sc (.slice none 0 0)))], [(.tc (.sc (.slice none 0 0)))], [(.tc (.sc (.slice none 0 0)))]] [(.mk 0 1 (h2 g2)), (.mk 1 1 (h2 g3)), (.mk 2 1 (h2 g4)), (.mk 3 1 (h2 g5))] (G3 73 1 133)) (i2 s6),
  .p (.call 78 [(kc (.tc (.sc (.int .u8 26)))), (kc (.tc (.sc (.string ⟨#[115, 116, 98]⟩)))), (kc (.tc (.sc (.int .u8 4)))), (h2 g6)] (G3 73 1 134)) (i2 s7),
  .p (.call 79 [] (G3 73 1 135)) (i2 s8),
  .p (.call 86 [(kc (.tc (.sc (.int .i64 19))))] (G3 73 1 136)) (i2 s9),
  .p (.bs 1 2 [[(.tc (.sc (.slice none 0 0)))], [(.tc (.sc (.slice none 0 0)))]] [(.mk 0 1 (h2 g8)), (.mk 1 1 (h2 g9))] (G3 73 1 137)) (i2 s10),
  .p (.call 78 [(kc (.tc (.sc (.int .u8 27)))), (kc (.tc (.sc (.string ⟨#[106, 117, 109, 112]⟩)))), (kc (.tc (.sc (.int .u8 5)))), (h2 g10)] (G3 73 1 138)) (i2 s11),
  .p (.call 79 [] (G3 73 1 139)) (i2 s12),
  .p (.call 81 [] (G3 73 1 140)) (i2 s13),
  .p (.bs 1 2 [[(.tc (.sc (.slice none 0 0)))], [(.tc (.sc (.slice none 0 0)))]] [(.mk 0 1 (h2 g12)), (.mk 1 1 (h2 g13))] (G3 73 1 141)) (i2 s14),
  .p (.call 78 [(kc (.tc (.sc (.int .u8 28)))), (kc (.tc (.sc (.string ⟨#[106, 117, 109, 112, 114]⟩)))), (kc (.tc (.sc (.int .u8 5)))), (h2 g14)] (G3 73 1 142)) (i2 s15),
  .p (.call 86 [(kc (.tc (.sc (.int .i64 24))))] (G3 73 1 143)) (i2 s16),
  .p (.bs 1 1 [[(.tc (.sc (.slice none 0 0)))]] [(.mk 0 1 (h2 g16))] (G3 73 1 144)) (i2 s17),
  .p (.call 78 [(kc (.tc (.sc (.int .u8 29)))), (kc (.tc (.sc (.string ⟨#[99, 97, 108, 108]⟩)))), (kc (.tc (.sc (.int .u8 5)))), (h2 g17)] (G3 73 1 145)) (i2 s18),
  .p (.call 85 [(kc (.tc (.sc (.int .u8 7)))), (kc (.tc (.sc (.int .i64 1))))] (G3 73 1 146)) (i2 s19),
  .p (.call 86 [(kc (.tc (.sc (.int .i64 12))))] (G3 73 1 147)) (i2 s20),
  .p (.call 85 [(kc (.tc (.sc (.int .u8 11)))), (kc (.tc (.sc (.int .i64 11))))] (G3 73 1 148)) (i2 s21),
  .p (.bs 1 3 [[(.tc (.sc (.slice none 0 0)))], [(.tc (.sc (.slice none 0 0)))], [(.tc (.sc (.slice none 0 0)))]] [(.mk 0 1 (h2 g19)), (.mk 1 1 (h2 g20)), (.mk 2 1 (h2 g21))] (G3 73 1 149)) (i2 s22),
  .p (.call 78 [(kc (.tc (.sc (.int .u8 30)))), (kc (.tc (.sc (.string ⟨#[108, 111, 111, 112, 105]⟩)))), (kc (.tc (.sc (.int .u8 6)))), (h2 g22)] (G3 73 1 150)) (i2 s23),
  .p (.call 85 [(kc (.tc (.sc (.int .u8 7)))), (kc (.tc (.sc (.int .i64 1))))] (G3 73 1 151)) (i2 s24),
  .p (.call 86 [(kc (.tc (.sc (.int .i64 12))))] (G3 73 1 152)) (i2 s25),
  .p (.call 81 [] (G3 73 1 153)) (i2 s26),
  .p (.bs 1 3 [[(.tc (.sc (.slice none 0 0)))], [(.tc (.sc (.slice none 0 0)))], [(.tc (.sc (.slice none 0 0)))]] [(.mk 0 1 (h2 g24)), (.mk 1 1 (h2 g25)), (.mk 2 1 (h2 g26))] (G3 73 1 154)) (i2 s27),
  .p (.call 78 [(kc (.tc (.sc (.int .u8 31)))), (kc (.tc (.sc (.string ⟨#[108, 111, 111, 112, 114]⟩)))), (kc (.tc (.sc (.int .u8 6)))), (h2 g27)] (G3 73 1 155)) (i2 s28),
  .p (.bs 5 31 [[(.tc (.sc (.int .u8 0))), (.tc (.sc (.string ⟨#[]⟩))), (.tc (.sc (.int .u8 0))), (.tc (.sc (.int .u8 0))), (.tc (.sc (.slice none 0 0)))], [(.tc (.sc (.int .u8 0))), (.tc (.sc (.string ⟨#[]⟩))), (.tc (.sc (.int .u8 0))), (.tc (.sc (.int .u8 0))), (.tc (.sc (.slice none 0 0)))], [(.tc (.sc (.int .u8 0))), (.tc (.sc (.string ⟨#[]⟩))), (.tc (.sc (.int .u8 0))), (.tc (.sc (.int .u8 0))), (.tc (.sc (.slice none 0 0)))], [(.tc (.sc (.int .u8 0))), (.tc (.sc (.string ⟨#[]⟩))), (.tc (.sc (.int .u8 0))), (.tc (.sc (.int .u8 0))), (.tc (.sc (.slice none 0 0)))], [(.tc (.sc (.int .u8 0))), (.tc (.sc (.string ⟨#[]⟩))), (.tc (.sc (.int .u8 0))), (.tc (.sc (.int .u8 0))), (.tc (.sc (.slice none 0 0)))], [(.tc (.sc (.int .u8 0))), (.tc (.sc (.string ⟨#[]⟩))), (.tc (.sc (.int .u8 0))), (.tc (.sc (.int .u8 0))), (.tc (.sc (.slice none 0 0)))], [(.tc (.sc (.int .u8 0))), (.tc (.sc (.string ⟨#[]⟩))), (.tc (.sc (.int .u8 0))), (.tc (.sc (.int .u8 0))), (.tc (.sc (.slice none 0 0)))], [(.tc (.sc (.int .u8 0))), (.tc (.sc (.string ⟨#[]⟩))), (.tc (.sc (.int .u8 0))), (.tc (.sc (.int .u8 0))), (.tc (.sc (.slice none 0 0)))], [(.tc (.sc (.int .u8 0))), (.tc (.sc (.string ⟨#[]⟩))), (.tc (.sc (.int .u8 0))), (.tc (.sc (.int .u8 0))), (.tc (.sc (.slice none 0 0)))], [(.tc (.sc (.int .u8 0))), (.tc (.sc (.string ⟨#[]⟩))), (.tc (.sc (.int .u8 0))), (.tc (.sc (.int .u8 0))), (.tc (.sc (.slice none 0 0)))], [(.tc (.sc (.int .u8 0))), (.tc (.sc (.string ⟨#[]⟩))), (.tc (.sc (.int .u8 0))), (.tc (.sc (.int .u8 0))), (.tc (.sc (.slice none 0 0)))], [(.tc (.sc (.int .u8 0))), (.tc (.sc (.string ⟨#[]⟩))), (.tc (.sc (.int .u8 0))), (.tc (.sc (.int .u8 0))), (.tc (.sc (.slice none 0 0)))], [(.tc (.sc (.int .u8 0))), (.tc (.sc (.string ⟨#[]⟩))), (.tc (.sc (.int .u8 0))), (.tc (.sc (.int .u8 0))), (.tc (.sc (.slice none 0 0)))], [(.tc (.sc (.int .u8 0))), (.tc (.sc (.string ⟨#[]⟩))), (.tc (.sc (.int .u8 0))), (.tc (.sc (.int .u8 0))), (.tc (.sc (.slice none 0 0)))], [(.tc (.sc (.int .u8 0))), (.tc (.sc (.string ⟨#[]⟩))), (.tc (.sc (.int .u8 0))), (.tc (.sc (.int .u8 0))), (.tc (.sc (.slice none 0 0)))], [(.tc (.sc (.int .u8 0))), (.tc (.sc (.string ⟨#[]⟩))), (.tc (.sc (.int .u8 0))), (.tc (.sc (.int .u8 0))), (.tc (.sc (.slice none 0 0)))], [(.tc (.sc (.int .u8 0))), (.tc (.sc (.string ⟨#[]⟩))), (.tc (.sc (.int .u8 0))), (.tc (.sc (.int .u8 0))), (.tc (.sc (.slice none 0 0)))], [(.tc (.sc (.int .u8 0))), (.tc (.sc (.string ⟨#[]⟩))), (.tc (.sc (.int .u8 0))), (.tc (.sc (.int .u8 0))), (.tc (.sc (.slice none 0 0)))], [(.tc (.sc (.int .u8 0))), (.tc (.sc (.string ⟨#[]⟩))), (.tc (.sc (.int .u8 0))), (.tc (.sc (.int .u8 0))), (.tc (.sc (.slice none 0 0)))], [(.tc (.sc (.int .u8 0))), (.tc (.sc (.string ⟨#[]⟩))), (.tc (.sc (.int .u8 0))), (.tc (.sc (.int .u8 0))), (.tc (.sc (.slice none 0 0)))], [(.tc (.sc (.int .u8 0))), (.tc (.sc (.string ⟨#[]⟩))), (.tc (.sc (.int .u8 0))), (.tc (.sc (.int .u8 0))), (.tc (.sc (.slice none 0 0)))], [(.tc (.sc (.int .u8 0))), (.tc (.sc (.string ⟨#[]⟩))), (.tc (.sc (.int .u8 0))), (.tc (.sc (.int .u8 0))), (.tc (.sc (.slice none 0 0)))], [(.tc (.sc (.int .u8 0))), (.tc (.sc (.string ⟨#[]⟩))), (.tc (.sc (.int .u8 0))), (.tc (.sc (.int .u8 0))), (.tc (.sc (.slice none 0 0)))], [(.tc (.sc (.int .u8 0))), (.tc (.sc (.string ⟨#[]⟩))), (.tc (.sc (.int .u8 0))), (.tc (.sc (.int .u8 0))), (.tc (.sc (.slice none 0 0)))], [(.tc (.sc (.int .u8 0))), (.tc (.sc (.string ⟨#[]⟩))), (.tc (.sc (.int .u8 0))), (.tc (.sc (.int .u8 0))), (.tc (.sc (.slice none 0 0)))], [(.tc (.sc (.int .u8 0))), (.tc (.sc (.string ⟨#[]⟩))), (.tc (.sc (.int .u8 0))), (.tc (.sc (.int .u8 0))), (.tc (.sc (.slice none 0 0)))], [(.tc (.sc (.int .u8 0))), (.tc (.sc (.string ⟨#[]⟩))), (.tc (.sc (.int .u8 0))), (.tc (.sc (.int .u8 0))), (.tc (.sc (.slice none 0 0)))], [(.tc (.sc (.int .u8 0))), (.tc (.sc (.string ⟨#[]⟩))), (.tc (.sc (.int .u8 0))), (.tc (.sc (.int .u8 0))), (.tc (.sc (.slice none 0 0)))], [(.tc (.sc (.int .u8 0))), (.tc (.sc (.string ⟨#[]⟩))), (.tc (.sc (.int .u8 0))), (.tc (.sc (.int .u8 0))), (.tc (.sc (.slice none 0 0)))], [(.tc (.sc (.int .u8 0))), (.tc (.sc (.string ⟨#[]⟩))), (.tc (.sc (.int .u8 0))), (.tc (.sc (.int .u8 0))), (.tc (.sc (.slice none 0 0)))], [(.tc (.sc (.int .u8 0))), (.tc (.sc (.string ⟨#[]⟩))), (.tc (.sc (.int .u8 0))), (.tc (.sc (.int .u8 0))), (.tc (.sc (.slice none 0 0)))]] [(.mk 0 5 (h0 g1)), (.mk 1 5 (h0 g7)), (.mk 2 5 (h0 g13)), (.mk 3 5 (h0 g19)), (.mk 4 5 (h0 g25)), (.mk 5 5 (h0 g31)), (.mk 6 5 (h0 g36)), (.mk 7 5 (h0 g41)), (.mk 8 5 (h0 g46)), (.mk 9 5 (h0 g51)), (.mk 10 5 (h0 g56)), (.mk 11 5 (h0 g61)), (.mk 12 5 (h1 g2)), (.mk 13 5 (h1 g8)), (.mk 14 5 (h1 g13)), (.mk 15 5 (h1 g18)), (.mk 16 5 (h1 g23)), (.mk 17 5 (h1 g28)), (.mk 18 5 (h1 g33)), (.mk 19 5 (h1 g38)), (.mk 20 5 (h1 g43)), (.mk 21 5 (h1 g48)), (.mk 22 5 (h1 g53)), (.mk 23 5 (h1 g59)), (.mk 24 5 (h2 g1)), (.mk 25 5 (h2 g7)), (.mk 26 5 (h2 g11)), (.mk 27 5 (h2 g15)), (.mk 28 5 (h2 g18)), (.mk 29 5 (h2 g23)), (.mk 30 5 (h2 g28))] (G3 73 1 156)) (i2 s29),
  .p (.mv (h2 g29)) (i0 s0)])
 .ret)),
 [.tmp (h0 g0)]⟩
theorem ffRul73_ok : compF SBase 73 = ffRul73 := by kernel_rfl
noncomputable def ffRul78 : FF := .t2 ⟨17,
 (.seq (.reg [.p (.al 5 [(.sc (.int .u8 0)), (.sc (.string ⟨#[]⟩)), (.sc (.int .u8 0)), (.sc (.int .u8 0)), (.sc (.slice none 0 0))]) s8])
 (.seq (.reg [.p (.mv g0) s9,
  .p (.mv g1) s10,
  .p (.mv g2) s11,
  .p (.mv g2) s12,
  .p (.call 89 [g12] (G2 78 1 4)) s13,
  .p (.mv g3) s14,
  .p (.call 90 [g14] (G2 78 1 6)) s15,
  .p (.bd [(.tc (.sc (.int .u8 0))), (.tc (.sc (.string ⟨#[]⟩))), (.tc (.sc (.int .u8 0))), (.tc (.sc (.int .u8 0))), (.tc (.sc (.slice none 0 0)))] [(.mk 0 1 g9), (.mk 1 1 g10), (.mk 2 1 g11), (.mk 3 1 g13), (.mk 4 1 g15)] (G2 78 1 7)) s16,
  .n (.st 5 g8 g16 (G2 78 1 8))])
 .ret)),
 [.cell g8 true 5]⟩
theorem ffRul78_ok : compF SBase 78 = ffRul78 := by kernel_rfl
noncomputable def ffRul89 : FF := .t2 ⟨15,
 (.seq (.reg [.p (.mv (kc (.tc (.sc (.int .u8 0))))) s2])
 (.seq (.seq (.reg [.p (.mv g0) s3])
 (.block 0 (.seq (.reg [.p (.bin .eql g3 (kc (.tc (.sc (.int .u8 1)))) (G2 89 2 0)) s5,
  .p (.mv g5) s4])
 (.cond g4 (.seq (.reg [.p (.mv (kc (.tc (.sc (.int .u8 15))))) s2])
 .ret)
 (.seq (.seq (.reg [.p (.bin .eql g3 (kc (.tc (.sc (.int .u8 2)))) (G2 89 4 0)) s7,
  .p (.mv g7) s6])
 (.cond g6 .skip
 (.reg [.p (.bin .eql g3 (kc (.tc (.sc (.int .u8 5)))) (G2 89 5 0)) s8,
  .p (.mv g8) s6])))
 (.cond g6 (.seq (.reg [.p (.mv (kc (.tc (.sc (.int .u8 12))))) s2])
 .ret)
 (.seq (.reg [.p (.bin .eql g3 (kc (.tc (.sc (.int .u8 3)))) (G2 89 7 0)) s10,
  .p (.mv g10) s9])
 (.cond g9 (.seq (.reg [.p (.mv (kc (.tc (.sc (.int .u8 3))))) s2])
 .ret)
 (.seq (.reg [.p (.bin .eql g3 (kc (.tc (.sc (.int .u8 4)))) (G2 89 9 0)) s12,
  .p (.mv g12) s11])
 (.cond g11 (.seq (.reg [.p (.mv (kc (.tc (.sc (.int .u8 1))))) s2])
 .ret)
 (.seq (.reg [.p (.bin .eql g3 (kc (.tc (.sc (.int .u8 6)))) (G2 89 11 0)) s14,
  .p (.mv g14) s13])
 (.cond g13 (.seq (.reg [.p (.mv (kc (.tc (.sc (.int .u8 8))))) s2])
 .ret)
 .skip))))))))))))
 (.seq (.reg [.p (.mv (kc (.tc (.sc (.int .u8 0))))) s2])
 .ret))),
 [.tmp g2]⟩
theorem ffRul89_ok : compF SBase 89 = ffRul89 := by kernel_rfl
noncomputable def ffRul90 : FF := .t2 ⟨36,
 (.seq (.reg [.p (.mv (kc (.tc (.sc (.slice none 0 0))))) s2])
 (.seq (.reg [.p (.mv (kc (.tc (.sc (.int .i64 0))))) s3])
 (.seq (.seq (.reg [.p (.mv g0) s9,
  .p (.len g9 (G2 90 2 1)) s10,
  .p (.mv (kc (.tc (.sc (.int .i64 0))))) s11])
 (.block 0 (.loop 4294967296 (.seq (.reg [.p (.bin .lss g11 g10 (G2 90 3 0)) s12])
 (.seq (.cond g12 .skip
 (.exit 0))
 (.seq (.block 1 (.seq (.reg [.p (.ia 1 g9 g11 (G2 90 4 0)) s13,
  .p (.ld false 1 g13) s14,
  .p (.mv g14) s5])
 (.seq (.reg [.p (.mv g3) s15,
  .p (.mv g5) s16,
  .p (.len g16 (G2 90 5 2)) s17,
  .p (.bin .add g15 g17 (G2 90 5 3)) s18,
  .p (.mv g18) s3])
 (.seq (.reg [.p (.mv g3) s19,
  .p (.bin .lss g19 (kc (.tc (.sc (.int .i64 0)))) (G2 90 6 1)) s20])
 (.cond g20 (.reg [.p (.gen (G2 90 7 0)) s21,
  .n (.gen (G2 90 7 1))])
 .skip)))))
 (.reg [.p (.bin .add g11 (kc (.tc (.sc (.int .i64 1)))) (G2 90 8 0)) s22,
  .p (.mv g22) s11])))))))
 (.seq (.reg [.p (.mv g3) s23,
  .p (.call 91 [(kc (.tc (.sc (.slice none 0 0)))), g23] (G2 90 9 1)) s24,
  .p (.mv g24) s6])
 (.seq (.seq (.reg [.p (.mv g0) s25,
  .p (.len g25 (G2 90 10 1)) s26,
  .p (.mv (kc (.tc (.sc (.int .i64 0))))) s27])
 (.block 2 (.loop 4294967296 (.seq (.reg [.p (.bin .lss g27 g26 (G2 90 11 0)) s28])
 (.seq (.cond g28 .skip
 (.exit 2))
 (.seq (.block 3 (.seq (.reg [.p (.ia 1 g25 g27 (G2 90 12 0)) s29,
  .p (.ld false 1 g29) s30,
  .p (.mv g30) s8])
 (.reg [.p (.mv g6) s31,
  .p (.mv g8) s32,
  .p (.ap 5 32 g31 g32) s33,
  .p (.mv g33) s6])))
 (.reg [.p (.bin .add g27 (kc (.tc (.sc (.int .i64 1)))) (G2 90 14 0)) s34,
  .p (.mv g34) s27])))))))
 (.seq (.reg [.p (.mv g6) s35,
  .p (.mv g35) s2])
 .ret)))))),
 [.tmp g2]⟩
theorem ffRul90_ok : compF SBase 90 = ffRul90 := by kernel_rfl
noncomputable def ffRul91 : FF := .t2 ⟨27,
 (.seq (.reg [.p (.mv (kc (.tc (.sc (.slice none 0 0))))) s4])
 (.seq (.seq (.reg [.p (.mv g1) s5,
  .p (.bin .lss g5 (kc (.tc (.sc (.int .i64 0)))) (G2 91 1 1)) s6])
 (.cond g6 (.reg [.p (.gen (G2 91 2 0)) s7,
  .n (.gen (G2 91 2 1))])
 .skip))
 (.seq (.seq (.reg [.p (.mv g1) s8,
  .p (.mv g0) s9,
  .p (.gen (G2 91 3 2)) s10,
  .p (.mv g0) s11,
  .p (.len g11 (G2 91 3 4)) s12,
  .p (.bin .sub g10 g12 (G2 91 3 5)) s13,
  .p (.bin .sub g8 g13 (G2 91 3 6)) s14,
  .p (.mv g14) s1])
 (.seq (.reg [.p (.mv g1) s15,
  .p (.bin .gtr g15 (kc (.tc (.sc (.int .i64 0)))) (G2 91 4 1)) s16])
 (.cond g16 (.reg [.p (.mv g0) s17,
  .p (.mv g0) s18,
  .p (.gen (G2 91 5 2)) s19,
  .p (.sl 5 g17 none (some g19) none (G2 91 5 3)) s20,
  .p (.mv g1) s21,
  .p (.gen (G2 91 5 5)) s22,
  .p (.mv g0) s23,
  .p (.len g23 (G2 91 5 7)) s24,
  .p (.sl 5 g22 none (some g24) none (G2 91 5 8)) s25,
  .p (.mv g25) s0])
 .skip)))
 (.seq (.reg [.p (.mv g0) s26,
  .p (.mv g26) s4])
 .ret)))),
 [.tmp g4]⟩
theorem ffRul91_ok : compF SBase 91 = ffRul91 := by kernel_rfl
noncomputable def ffRul79 : FF := .t2 ⟨4,
 (.seq (.reg [.p (.mv (kc (.tc (.sc (.slice none 0 0))))) s0])
 (.seq (.reg [.p (.call 85 [(kc (.tc (.sc (.int .u8 1)))), (kc (.tc (.sc (.int .i64 3))))] (G2 79 1 0)) s1,
  .p (.call 85 [(kc (.tc (.sc (.int .u8 2)))), (kc (.tc (.sc (.int .i64 2))))] (G2 79 1 1)) s2,
  .p (.ap 5 32 g1 g2) s3,
  .p (.mv g3) s0])
 .ret)),
 [.tmp g0]⟩
theorem ffRul79_ok : compF SBase 79 = ffRul79 := by kernel_rfl
noncomputable def ffRul85 : FF := .t2 ⟨9,
 (.seq (.reg [.p (.mv (kc (.tc (.sc (.slice none 0 0))))) s4])
 (.seq (.reg [.p (.mv g0) s5,
  .p (.mv g1) s6,
  .p (.bd [(.tc (.sc (.int .u8 0))), (.tc (.sc (.int .i64 0))), (.tc (.sc (.int .i64 0))), (.tc (.sc (.bool false))), (.tc (.sc (.bool false)))] [(.mk 0 1 g5), (.mk 1 1 g6)] (G2 85 1 2)) s7,
  .p (.bs 5 1 [[(.tc (.sc (.int .u8 0))), (.tc (.sc (.int .i64 0))), (.tc (.sc (.int .i64 0))), (.tc (.sc (.bool false))), (.tc (.sc (.bool false)))]] [(.mk 0 5 g7)] (G2 85 1 3)) s8,
  .p (.mv g8) s4])
 .ret)),
 [.tmp g4]⟩
theorem ffRul85_ok : compF SBase 85 = ffRul85 := by kernel_rfl
noncomputable def ffRul80 : FF := .t2 ⟨2,
 (.seq (.reg [.p (.mv (kc (.tc (.sc (.slice none 0 0))))) s0])
 (.seq (.reg [.p (.call 85 [(kc (.tc (.sc (.int .u8 3)))), (kc (.tc (.sc (.int .i64 5))))] (G2 80 1 0)) s1,
  .p (.mv g1) s0])
 .ret)),
 [.tmp g0]⟩
theorem ffRul80_ok : compF SBase 80 = ffRul80 := by kernel_rfl
noncomputable def ffRul81 : FF := .t2 ⟨2,
 (.seq (.reg [.p (.mv (kc (.tc (.sc (.slice none 0 0))))) s0])
 (.seq (.reg [.p (.call 85 [(kc (.tc (.sc (.int .u8 5)))), (kc (.tc (.sc (.int .i64 5))))] (G2 81 1 0)) s1,
  .p (.mv g1) s0])
 .ret)),
 [.tmp g0]⟩
theorem ffRul81_ok : compF SBase 81 = ffRul81 := by kernel_rfl
noncomputable def ffRul82 : FF := .t2 ⟨2,
 (.seq (.reg [.p (.mv (kc (.tc (.sc (.slice none 0 0))))) s0])
 (.seq (.reg [.p (.call 85 [(kc (.tc (.sc (.int .u8 6)))), (kc (.tc (.sc (.int .i64 5))))] (G2 82 1 0)) s1,
  .p (.mv g1) s0])
 .ret)),
 [.tmp g0]⟩
theorem ffRul82_ok : compF SBase 82 = ffRul82 := by kernel_rfl
noncomputable def ffRul83 : FF := .t2 ⟨9,
 (.seq (.reg [.p (.mv (kc (.tc (.sc (.slice none 0 0))))) s4])
 (.seq (.reg [.p (.mv g0) s5,
  .p (.mv g1) s6,
  .p (.bd [(.tc (.sc (.int .u8 0))), (.tc (.sc (.int .i64 0))), (.tc (.sc (.int .i64 0))), (.tc (.sc (.bool false))), (.tc (.sc (.bool false)))] [(.mk 0 1 (kc (.tc (.sc (.int .u8 9))))), (.mk 1 1 g5), (.mk 2 1 g6), (.mk 3 1 (kc (.tc (.sc (.bool true))))), (.mk 4 1 (kc (.tc (.sc (.bool true)))))] (G2 83 1 2)) s7,
  .p (.bs 5 1 [[(.tc (.sc (.int .u8 0))), (.tc (.sc (.int .i64 0))), (.tc (.sc (.int .i64 0))), (.tc (.sc (.bool false))), (.tc (.sc (.bool false)))]] [(.mk 0 5 g7)] (G2 83 1 3)) s8,
  .p (.mv g8) s4])
 .ret)),
 [.tmp g4]⟩
theorem ffRul83_ok : compF SBase 83 = ffRul83 := by kernel_rfl
noncomputable def ffRul84 : FF := .t2 ⟨2,
 (.seq (.reg [.p (.mv (kc (.tc (.sc (.slice none 0 0))))) s0])
 (.seq (.reg [.p (.call 85 [(kc (.tc (.sc (.int .u8 4)))), (kc (.tc (.sc (.int .i64 2))))] (G2 84 1 0)) s1,
  .p (.mv g1) s0])
 .ret)),
 [.tmp g0]⟩
theorem ffRul84_ok : compF SBase 84 = ffRul84 := by kernel_rfl
noncomputable def ffRul86 : FF := .t2 ⟨6,
 (.seq (.reg [.p (.mv (kc (.tc (.sc (.slice none 0 0))))) s2])
 (.seq (.reg [.p (.mv g0) s3,
  .p (.bd [(.tc (.sc (.int .u8 0))), (.tc (.sc (.int .i64 0))), (.tc (.sc (.int .i64 0))), (.tc (.sc (.bool false))), (.tc (.sc (.bool false)))] [(.mk 0 1 (kc (.tc (.sc (.int .u8 10))))), (.mk 1 1 g3), (.mk 2 1 (kc (.tc (.sc (.int .i64 2))))), (.mk 3 1 (kc (.tc (.sc (.bool true))))), (.mk 4 1 (kc (.tc (.sc (.bool true)))))] (G2 86 1 1)) s4,
  .p (.bs 5 1 [[(.tc (.sc (.int .u8 0))), (.tc (.sc (.int .i64 0))), (.tc (.sc (.int .i64 0))), (.tc (.sc (.bool false))), (.tc (.sc (.bool false)))]] [(.mk 0 5 g4)] (G2 86 1 2)) s5,
  .p (.mv g5) s2])
 .ret)),
 [.tmp g2]⟩
theorem ffRul86_ok : compF SBase 86 = ffRul86 := by kernel_rfl
noncomputable def ffRul55 : FF := .t2 ⟨8,
 (.seq (.reg [.p (.mv (kc (.tc (.sc (.slice none 0 0))))) s2])
 (.seq (.seq (.reg [.p (.mv g0) s3,
  .p (.bin .eql g3 (kc (.tc (.sc (.slice none 0 0)))) (G2 55 1 1)) s4])
 (.cond g4 (.seq (.reg [.p (.mv (kc (.tc (.sc (.slice none 0 0))))) s2])
 .ret)
 .skip))
 (.seq (.reg [.p (.bs 5 0 [] [] (G2 55 3 0)) s5,
  .p (.mv g0) s6,
  .p (.ap 5 32 g5 g6) s7,
  .p (.mv g7) s2])
 .ret))),
 [.tmp g2]⟩
theorem ffRul55_ok : compF SBase 55 = ffRul55 := by kernel_rfl
noncomputable def ffRul46 : FF := .t2 ⟨9,
 (.seq (.reg [.p (.mv (kc (.tc (.sc (.bool false))))) s4])
 (.seq (.reg [.p (.mv g0) s5,
  .p (.mv g1) s6,
  .p (.call 68 [g5, g6] (G2 46 1 2)) s7,
  .p (.bin .geq g7 (kc (.tc (.sc (.int .i64 0)))) (G2 46 1 3)) s8,
  .p (.mv g8) s4])
 .ret)),
 [.tmp g4]⟩
theorem ffRul46_ok : compF SBase 46 = ffRul46 := by kernel_rfl
noncomputable def ffRul68 : FF := .t2 ⟨19,
 (.seq (.reg [.p (.mv (kc (.tc (.sc (.int .i64 0))))) s4])
 (.seq (.seq (.reg [.p (.mv g0) s6,
  .p (.len g6 (G2 68 1 1)) s7,
  .p (.mv (kc (.tc (.sc (.int .i64 0))))) s8])
 (.block 0 (.loop 4294967296 (.seq (.reg [.p (.bin .lss g8 g7 (G2 68 2 0)) s9])
 (.seq (.cond g9 .skip
 (.exit 0))
 (.seq (.block 1 (.seq (.reg [.p (.mv g8) s10,
  .p (.mv g10) s5])
 (.seq (.reg [.p (.mv g1) s11,
  .p (.mv g0) s12,
  .p (.mv g5) s13,
  .p (.ia 1 g12 g13 (G2 68 4 3)) s14,
  .p (.ld false 1 g14) s15,
  .p (.bin .eql g11 g15 (G2 68 4 5)) s16])
 (.cond g16 (.seq (.reg [.p (.mv g5) s17,
  .p (.mv g17) s4])
 .ret)
 .skip))))
 (.reg [.p (.bin .add g8 (kc (.tc (.sc (.int .i64 1)))) (G2 68 6 0)) s18,
  .p (.mv g18) s8])))))))
 (.seq (.reg [.p (.mv (kc (.tc (.sc (.int .i64 (-1)))))) s4])
 .ret))),
 [.tmp g4]⟩
theorem ffRul68_ok : compF SBase 68 = ffRul68 := by kernel_rfl
noncomputable def ffRul26 : FF := .t2 ⟨9,
 (.seq (.reg [.p (.mv (kc (.tc (.sc (.bool false))))) s4])
 (.seq (.reg [.p (.mv g0) s5,
  .p (.mv g1) s6,
  .p (.call 47 [g5, g6] (G2 26 1 2)) s7,
  .p (.bin .geq g7 (kc (.tc (.sc (.int .i64 0)))) (G2 26 1 3)) s8,
  .p (.mv g8) s4])
 .ret)),
 [.tmp g4]⟩
theorem ffRul26_ok : compF SBase 26 = ffRul26 := by kernel_rfl
noncomputable def ffRul47 : FF := .t2 ⟨19,
 (.seq (.reg [.p (.mv (kc (.tc (.sc (.int .i64 0))))) s4])
 (.seq (.seq (.reg [.p (.mv g0) s6,
  .p (.len g6 (G2 47 1 1)) s7,
  .p (.mv (kc (.tc (.sc (.int .i64 0))))) s8])
 (.block 0 (.loop 4294967296 (.seq (.reg [.p (.bin .lss g8 g7 (G2 47 2 0)) s9])
 (.seq (.cond g9 .skip
 (.exit 0))
 (.seq (.block 1 (.seq (.reg [.p (.mv g8) s10,
  .p (.mv g10) s5])
 (.seq (.reg [.p (.mv g1) s11,
  .p (.mv g0) s12,
  .p (.mv g5) s13,
  .p (.ia 11 g12 g13 (G2 47 4 3)) s14,
  .p (.ld true 11 g14) s15,
  .p (.gen (G2 47 4 5)) s16])
 (.cond g16 (.seq (.reg [.p (.mv g5) s17,
  .p (.mv g17) s4])
 .ret)
 .skip))))
 (.reg [.p (.bin .add g8 (kc (.tc (.sc (.int .i64 1)))) (G2 47 6 0)) s18,
  .p (.mv g18) s8])))))))
 (.seq (.reg [.p (.mv (kc (.tc (.sc (.int .i64 (-1)))))) s4])
 .ret))),
 [.tmp g4]⟩
theorem ffRul47_ok : compF SBase 47 = ffRul47 := by kernel_rfl
noncomputable def ffRul27 : FF := .t2 ⟨6,
 (.seq (.reg [.p (.bx 11 g0 (G2 27 0 0)) s1,
  .p (.mv (kc (.tc (.sc (.bool false))))) s2])
 (.seq (.reg [.p (.ld true 11 g1) s3,
  .p (.call 14 [g3] (G2 27 1 1)) s4,
  .p (.nt g4 (G2 27 1 2)) s5,
  .p (.mv g5) s2])
 .ret)),
 [.tmp g2]⟩
theorem ffRul27_ok : compF SBase 27 = ffRul27 := by kernel_rfl
noncomputable def ffRul14 : FF := .t2 ⟨54,
 (.seq (.reg [.p (.bx 11 g0 (G2 14 0 0)) s1,
  .p (.mv (kc (.tc (.sc (.bool false))))) s2])
 (.seq (.reg [.p (.fa 0 g1) s9,
  .p (.ld false 1 g9) s10,
  .p (.call 38 [g10] (G2 14 1 2)) s11,
  .p (.mv g11) s8,
  .p (.ex g8 0) s12,
  .p (.ex g8 1) s13,
  .p (.al 5 [(.sc (.int .u8 0)), (.sc (.string ⟨#[]⟩)), (.sc (.int .u8 0)), (.sc (.int .u8 0)), (.sc (.slice none 0 0))]) s3,
  .n (.st 5 g3 g12 (G2 14 1 7)),
  .p (.mv g13) s4])
 (.seq (.reg [.p (.ld true 11 g1) s14,
  .p (.al 11 [(.sc (.int .u8 0)), (.sc (.int .u8 0)), (.sc (.int .u8 0)), (.sc (.int .u8 0)), (.sc (.int .u8 0)), (.sc (.int .u8 0)), (.sc (.int .u8 0)), (.sc (.bool false)), (.sc (.bool false)), (.sc (.int .u16 0)), (.sc (.int .i64 0))]) s5,
  .n (.st 11 g5 g14 (G2 14 2 2))])
 (.seq (.reg [.p (.fa 0 g5) s15,
  .n (.st 1 g15 (kc (.tc (.sc (.int .u8 0)))) (G2 14 3 1))])
 (.seq (.seq (.reg [.p (.fa 4 g3) s16,
  .p (.ld false 1 g16) s17,
  .p (.len g17 (G2 14 4 2)) s18,
  .p (.mv (kc (.tc (.sc (.int .i64 0))))) s19])
 (.block 0 (.loop 4294967296 (.seq (.reg [.p (.bin .lss g19 g18 (G2 14 5 0)) s20])
 (.seq (.cond g20 .skip
 (.exit 0))
 (.seq (.block 1 (.seq (.reg [.p (.ia 5 g17 g19 (G2 14 6 0)) s21,
  .p (.ld true 5 g21) s22,
  .p (.al 5 [(.sc (.int .u8 0)), (.sc (.int .i64 0)), (.sc (.int .i64 0)), (.sc (.bool false)), (.sc (.bool false))]) s7,
  .n (.st 5 g7 g22 (G2 14 6 3))])
 (.seq (.reg [.p (.ld true 11 g5) s23,
  .p (.ld true 5 g7) s24,
  .p (.call 39 [g23, g24] (G2 14 7 2)) s25,
  .n (.st 11 g5 g25 (G2 14 7 3))])
 (.reg [.p (.mv g4) s26,
  .p (.mv g26) s27,
  .gp g27 true (.ld true 11 g1) s28,
  .gp g27 true (.ld true 5 g7) s29,
  .gp g27 true (.call 40 [g28, g29] (G2 14 8 4)) s30,
  .p (.pk g27 g30 (kc (.tc (.sc (.bool false))))) s31,
  .p (.mv g31) s4]))))
 (.reg [.p (.bin .add g19 (kc (.tc (.sc (.int .i64 1)))) (G2 14 9 0)) s32,
  .p (.mv g32) s19])))))))
 (.seq (.reg [.p (.mv g4) s33,
  .p (.mv g33) s34,
  .gp g34 true (.ld true 11 g5) s35,
  .gp g34 true (.bd [(.tc (.sc (.int .u8 0))), (.tc (.sc (.int .u8 0))), (.tc (.sc (.int .u8 0))), (.tc (.sc (.int .u8 0))), (.tc (.sc (.int .u8 0))), (.tc (.sc (.int .u8 0))), (.tc (.sc (.int .u8 0))), (.tc (.sc (.bool false))), (.tc (.sc (.bool false))), (.tc (.sc (.int .u16 0))), (.tc (.sc (.int .i64 0)))] [] (G2 14 10 3)) s36,
  .gp g34 true (.eqs .eql [(.mk 0 .int), (.mk 1 .int), (.mk 2 .int), (.mk 3 .int), (.mk 4 .int), (.mk 5 .int), (.mk 6 .int), (.mk 7 .bool), (.mk 8 .bool), (.mk 9 .int), (.mk 10 .int)] g35 g36 (G2 14 10 4)) s37,
  .p (.pk g34 g37 (kc (.tc (.sc (.bool false))))) s38,
  .p (.mv g38) s39,
  .gp g39 true (.ld true 11 g1) s40,
  .gp g39 true (.call 41 [g40] (G2 14 10 8)) s41,
  .gp g39 true (.mv g41) s42,
  .gp g42 true (.fa 6 g1) s43,
  .gp g42 true (.ld false 1 g43) s44,
  .gp g42 true (.bin .eql g44 (kc (.tc (.sc (.int .u8 0)))) (G2 14 10 12)) s45,
  .gp g39 true (.pk g42 g45 (kc (.tc (.sc (.bool false))))) s46,
  .gp g39 true (.mv g46) s47,
  .gp g47 true (.fa 5 g1) s48,
  .gp g47 true (.ld false 1 g48) s49,
  .gp g47 true (.bin .neq g49 (kc (.tc (.sc (.int .u8 0)))) (G2 14 10 17)) s50,
  .gp g39 true (.pk g47 g50 (kc (.tc (.sc (.bool false))))) s51,
  .gp g39 true (.nt g51 (G2 14 10 19)) s52,
  .p (.pk g39 g52 (kc (.tc (.sc (.bool false))))) s53,
  .p (.mv g53) s2])
 .ret)))))),
 [.tmp g2]⟩
theorem ffRul14_ok : compF SBase 14 = ffRul14 := by kernel_rfl
noncomputable def ffRul39 : FF := .t2 ⟨40,
 (.seq (.reg [.p (.bx 11 g0 (G2 39 0 0)) s2,
  .p (.bx 5 g1 (G2 39 0 1)) s3,
  .p (.al 11 [(.sc (.int .u8 0)), (.sc (.int .u8 0)), (.sc (.int .u8 0)), (.sc (.int .u8 0)), (.sc (.int .u8 0)), (.sc (.int .u8 0)), (.sc (.int .u8 0)), (.sc (.bool false)), (.sc (.bool false)), (.sc (.int .u16 0)), (.sc (.int .i64 0))]) s4])
 (.seq (.seq (.reg [.p (.fa 0 g3) s5,
  .p (.ld false 1 g5) s6])
 (.block 0 (.seq (.reg [.p (.bin .eql g6 (kc (.tc (.sc (.int .u8 1)))) (G2 39 2 0)) s8,
  .p (.mv g8) s7])
 (.cond g7 (.reg [.p (.fa 6 g2) s9,
  .n (.st 1 g9 (kc (.tc (.sc (.int .u8 0)))) (G2 39 3 1))])
 (.seq (.reg [.p (.bin .eql g6 (kc (.tc (.sc (.int .u8 2)))) (G2 39 4 0)) s11,
  .p (.mv g11) s10])
 (.cond g10 (.reg [.p (.fa 5 g2) s12,
  .n (.st 1 g12 (kc (.tc (.sc (.int .u8 0)))) (G2 39 5 1))])
 (.seq (.seq (.reg [.p (.bin .eql g6 (kc (.tc (.sc (.int .u8 3)))) (G2 39 6 0)) s14,
  .p (.mv g14) s13])
 (.cond g13 .skip
 (.reg [.p (.bin .eql g6 (kc (.tc (.sc (.int .u8 4)))) (G2 39 7 0)) s15,
  .p (.mv g15) s13])))
 (.cond g13 (.reg [.p (.fa 1 g2) s16,
  .n (.st 1 g16 (kc (.tc (.sc (.int .u8 0)))) (G2 39 8 1))])
 (.seq (.reg [.p (.bin .eql g6 (kc (.tc (.sc (.int .u8 5)))) (G2 39 9 0)) s18,
  .p (.mv g18) s17])
 (.cond g17 (.reg [.p (.fa 2 g2) s19,
  .n (.st 1 g19 (kc (.tc (.sc (.int .u8 0)))) (G2 39 10 1))])
 (.seq (.reg [.p (.bin .eql g6 (kc (.tc (.sc (.int .u8 6)))) (G2 39 11 0)) s21,
  .p (.mv g21) s20])
 (.cond g20 (.reg [.p (.fa 3 g2) s22,
  .n (.st 1 g22 (kc (.tc (.sc (.int .u8 0)))) (G2 39 12 1))])
 (.seq (.reg [.p (.bin .eql g6 (kc (.tc (.sc (.int .u8 7)))) (G2 39 13 0)) s24,
  .p (.mv g24) s23])
 (.cond g23 (.reg [.p (.fa 4 g2) s25,
  .n (.st 1 g25 (kc (.tc (.sc (.int .u8 0)))) (G2 39 14 1))])
 (.seq (.reg [.p (.bin .eql g6 (kc (.tc (.sc (.int .u8 8)))) (G2 39 15 0)) s27,
  .p (.mv g27) s26])
 (.cond g26 (.reg [.p (.fa 7 g2) s28,
  .n (.st 1 g28 (kc (.tc (.sc (.bool false)))) (G2 39 16 1))])
 (.seq (.seq (.reg [.p (.bin .eql g6 (kc (.tc (.sc (.int .u8 9)))) (G2 39 17 0)) s30,
  .p (.mv g30) s29])
 (.cond g29 .skip
 (.reg [.p (.bin .eql g6 (kc (.tc (.sc (.int .u8 10)))) (G2 39 18 0)) s31,
  .p (.mv g31) s29])))
 (.cond g29 (.reg [.p (.fa 10 g2) s32,
  .n (.st 1 g32 (kc (.tc (.sc (.int .i64 0)))) (G2 39 19 1))])
 (.seq (.reg [.p (.bin .eql g6 (kc (.tc (.sc (.int .u8 11)))) (G2 39 20 0)) s34,
  .p (.mv g34) s33])
 (.cond g33 (.reg [.p (.fa 9 g2) s35,
  .n (.st 1 g35 (kc (.tc (.sc (.int .u16 0)))) (G2 39 21 1))])
 .skip))))))))))))))))))))
 (.seq (.seq (.reg [.p (.fa 4 g3) s36,
  .p (.ld false 1 g36) s37])
 (.cond g37 (.reg [.p (.fa 8 g2) s38,
  .n (.st 1 g38 (kc (.tc (.sc (.bool false)))) (G2 39 23 1))])
 .skip))
 (.seq (.reg [.p (.ld true 11 g2) s39,
  .n (.st 11 g4 g39 (G2 39 24 1))])
 .ret)))),
 [.cell g4 true 11]⟩
theorem ffRul39_ok : compF SBase 39 = ffRul39 := by kernel_rfl
noncomputable def ffRul40 : FF := .t3 ⟨84,
 (.seq (.reg [.p (.bx 11 (h0 g0) (G3 40 0 0)) (i0 s2),
  .p (.bx 5 (h0 g1) (G3 40 0 1)) (i0 s3),
  .p (.mv (kc (.tc (.sc (.bool false))))) (i0 s4)])
 (.seq (.seq (.reg [.p (.fa 0 (h0 g3)) (i0 s5),
  .p (.ld false 1 (h0 g5)) (i0 s6)])
 (.block 0 (.seq (.reg [.p (.bin .eql (h0 g6) (kc (.tc (.sc (.int .u8 1)))) (G3 40 2 0)) (i0 s8),
  .p (.mv (h0 g8)) (i0 s7)])
 (.cond (h0 g7) (.seq (.reg [.p (.fa 6 (h0 g2)) (i0 s9),
  .p (.ld false 1 (h0 g9)) (i0 s10),
  .p (.bin .leq (h0 g10) (kc (.tc (.sc (.int .u8 4)))) (G3 40 3 2)) (i0 s11),
  .p (.mv (h0 g11)) (i0 s4)])
 .ret)
 (.seq (.reg [.p (.bin .eql (h0 g6) (kc (.tc (.sc (.int .u8 2)))) (G3 40 4 0)) (i0 s13),
  .p (.mv (h0 g13)) (i0 s12)])
 (.cond (h0 g12) (.seq (.reg [.p (.fa 5 (h0 g2)) (i0 s14),
  .p (.ld false 1 (h0 g14)) (i0 s15),
  .p (.bin .lss (h0 g15) (kc (.tc (.sc (.int .u8 4)))) (G3 40 5 2)) (i0 s16),
  .p (.mv (h0 g16)) (i0 s4)])
 .ret)
 (.seq (.reg [.p (.bin .eql (h0 g6) (kc (.tc (.sc (.int .u8 3)))) (G3 40 6 0)) (i0 s18),
  .p (.mv (h0 g18)) (i0 s17)])
 (.cond (h0 g17) (.seq (.reg [.p (.fa 1 (h0 g2)) (i0 s19),
  .p (.ld false 1 (h0 g19)) (i0 s20),
  .p (.bin .lss (h0 g20) (kc (.tc (.sc (.int .u8 32)))) (G3 40 7 2)) (i0 s21),
  .p (.mv (h0 g21)) (i0 s4)])
 .ret)
 (.seq (.reg [.p (.bin .eql (h0 g6) (kc (.tc (.sc (.int .u8 4)))) (G3 40 8 0)) (i0 s23),
  .p (.mv (h0 g23)) (i0 s22)])
 (.cond (h0 g22) (.seq (.reg [.p (.fa 1 (h0 g2)) (i0 s24),
  .p (.ld false 1 (h0 g24)) (i0 s25),
  .p (.bin .lss (h0 g25) (kc (.tc (.sc (.int .u8 4)))) (G3 40 9 2)) (i0 s26),
  .p (.mv (h0 g26)) (i0 s4)])
 .ret)
 (.seq (.reg [.p (.bin .eql (h0 g6) (kc (.tc (.sc (.int .u8 5)))) (G3 40 10 0)) (i0 s28),
  .p (.mv (h0 g28)) (i0 s27)])
 (.cond (h0 g27) (.seq (.reg [.p (.fa 2 (h0 g2)) (i0 s29),
  .p (.ld false 1 (h0 g29)) (i0 s30),
  .p (.bin .lss (h0 g30) (kc (.tc (.sc (.int .u8 32)))) (G3 40 11 2)) (i0 s31),
  .p (.mv (h0 g31)) (i0 s4)])
 .ret)
 (.seq (.reg [.p (.bin .eql (h0 g6) (kc (.tc (.sc (.int .u8 6)))) (G3 40 12 0)) (i0 s33),
  .p (.mv (h0 g33)) (i0 s32)])
 (.cond (h0 g32) (.seq (.reg [.p (.fa 3 (h0 g2)) (i0 s34),
  .p (.ld false 1 (h0 g34)) (i0 s35),
  .p (.bin .lss (h0 g35) (kc (.tc (.sc (.int .u8 32)))) (G3 40 13 2)) (i0 s36),
  .p (.mv (h0 g36)) (i0 s4)])
 .ret)
 (.seq (.reg [.p (.bin .eql (h0 g6) (kc (.tc (.sc (.int .u8 7)))) (G3 40 14 0)) (i0 s38),
  .p (.mv (h0 g38)) (i0 s37)])
 (.cond (h0 g37) (.seq (.reg [.p (.fa 4 (h0 g2)) (i0 s39),
  .p (.ld false 1 (h0 g39)) (i0 s40),
  .p (.bin .lss (h0 g40) (kc (.tc (.sc (.int .u8 2)))) (G3 40 15 2)) (i0 s41),
  .p (.mv (h0 g41)) (i0 s4)])
 .ret)
 (.seq (.reg [.p (.bin .eql (h0 g6) (kc (.tc (.sc (.int .u8 9)))) (G3 40 16 0)) (i0 s43),
  .p (.mv (h0 g43)) (i0 s42)])
 (.cond (h0 g42) (.seq (.seq (.reg [.p (.fa 8 (h0 g2)) (i0 s44),
  .p (.ld false 1 (h0 g44)) (i0 s45)])
 (.cond (h0 g45) (.seq (.reg [.p (.fa 10 (h0 g2)) (i0 s46),
  .p (.ld false 1 (h0 g46)) (i0 s47),
  .p (.bin .geq (h0 g47) (kc (.tc (.sc (.int .i64 (-2147483648))))) (G3 40 18 2)) (i0 s48),
  .p (.mv (h0 g48)) (i0 s49),
  .gp (h0 g49) true (.fa 10 (h0 g2)) (i0 s50),
  .gp (h0 g49) true (.ld false 1 (h0 g50)) (i0 s51),
  .gp (h0 g49) true (.bin .leq (h0 g51) (kc (.tc (.sc (.int .i64 2147483647)))) (G3 40 18 6)) (i0 s52),
  .p (.pk (h0 g49) (h0 g52) (kc (.tc (.sc (.bool false))))) (i0 s53),
  .p (.mv (h0 g53)) (i0 s4)])
 .ret)
 .skip))
 (.seq (.reg [.p (.fa 10 (h0 g2)) (i0 s54),
  .p (.ld false 1 (h0 g54)) (i0 s55),
  .p (.fa 1 (h0 g3)) (i0 s56),
  .p (.ld false 1 (h0 g56)) (i0 s57),
  .p (.fa 2 (h0 g3)) (i0 s58),
  .p (.ld false 1 (h0 g58)) (i0 s59),
  .p (.fa 3 (h0 g3)) (i0 s60),
  .p (.ld false 1 (h0 g60)) (i0 s61),
  .p (.call 56 [(h0 g55), (h0 g57), (h0 g59), (h0 g61)] (G3 40 19 8)) (i0 s62),
  .p (.mv (h0 g62)) (i0 s4)])
 .ret))
 (.seq (.reg [.p (.bin .eql (h0 g6) (kc (.tc (.sc (.int .u8 10)))) (G3 40 20 0)) (i1 s0),
  .p (.mv (h1 g0)) (i0 s63)])
 (.cond (h0 g63) (.seq (.reg [.p (.fa 10 (h0 g2)) (i1 s1),
  .p (.ld false 1 (h1 g1)) (i1 s2),
  .p (.bin .geq (h1 g2) (kc (.tc (.sc (.int .i64 0)))) (G3 40 21 2)) (i1 s3),
  .p (.mv (h1 g3)) (i1 s4),
  .gp (h1 g4) true (.fa 10 (h0 g2)) (i1 s5),
  .gp (h1 g4) true (.ld false 1 (h1 g5)) (i1 s6),
  .gp (h1 g4) true (.bin .lss (h1 g6) (kc (.tc (.sc (.int .i64 4294967296)))) (G3 40 21 6)) (i1 s7),
  .p (.pk (h1 g4) (h1 g7) (kc (.tc (.sc (.bool false))))) (i1 s8),
  .p (.mv (h1 g8)) (i1 s9),
  .gp (h1 g9) true (.fa 10 (h0 g2)) (i1 s10),
  .gp (h1 g9) true (.ld false 1 (h1 g10)) (i1 s11),
  .gp (h1 g9) true (.bin .rem (h1 g11) (kc (.tc (.sc (.int .i64 4)))) (G3 40 21 11)) (i1 s12),
  .gp (h1 g9) true (.bin .eql (h1 g12) (kc (.tc (.sc (.int .i64 0)))) (G3 40 21 12)) (i1 s13),
  .p (.pk (h1 g9) (h1 g13) (kc (.tc (.sc (.bool false))))) (i1 s14),
  .p (.mv (h1 g14)) (i0 s4)])
 .ret)
 (.seq (.reg [.p (.bin .eql (h0 g6) (kc (.tc (.sc (.int .u8 11)))) (G3 40 22 0)) (i1 s16),
  .p (.mv (h1 g16)) (i1 s15)])
 (.cond (h1 g15) (.seq (.reg [.p (.fa 9 (h0 g2)) (i1 s17),
  .p (.ld false 1 (h1 g17)) (i1 s18),
  .p (.bin .lss (h1 g18) (kc (.tc (.sc (.int .u16 2048)))) (G3 40 23 2)) (i1 s19),
  .p (.mv (h1 g19)) (i0 s4)])
 .ret)
 .skip))))))))))))))))))))))
 (.seq (.reg [.p (.mv (kc (.tc (.sc (.bool true))))) (i0 s4)])
 .ret))),
 [.tmp (h0 g4)]⟩
theorem ffRul40_ok : compF SBase 40 = ffRul40 := by kernel_rfl
noncomputable def ffRul56 : FF := .t2 ⟨48,
 (.seq (.reg [.p (.mv (kc (.tc (.sc (.bool false))))) s8])
 (.seq (.seq (.reg [.p (.mv g1) s9,
  .p (.bin .lss g9 (kc (.tc (.sc (.int .i64 1)))) (G2 56 1 1)) s10,
  .p (.mv g10) s11,
  .gp g11 false (.mv g1) s12,
  .gp g11 false (.bin .gtr g12 (kc (.tc (.sc (.int .i64 32)))) (G2 56 1 4)) s13,
  .p (.pk g11 (kc (.tc (.sc (.bool true)))) g13) s14,
  .p (.mv g14) s15,
  .gp g15 false (.mv g2) s16,
  .gp g15 false (.bin .lss g16 (kc (.tc (.sc (.int .i64 0)))) (G2 56 1 8)) s17,
  .p (.pk g15 (kc (.tc (.sc (.bool true)))) g17) s18,
  .p (.mv g18) s19,
  .gp g19 false (.mv g2) s20,
  .gp g19 false (.bin .gtr g20 (kc (.tc (.sc (.int .i64 8)))) (G2 56 1 12)) s21,
  .p (.pk g19 (kc (.tc (.sc (.bool true)))) g21) s22,
  .p (.mv g22) s23,
  .gp g23 false (.mv g0) s24,
  .gp g23 false (.mv g2) s25,
  .gp g23 false (.bin .shl (kc (.tc (.sc (.int .i64 1)))) g25 (G2 56 1 17)) s26,
  .gp g23 false (.bin .sub g26 (kc (.tc (.sc (.int .i64 1)))) (G2 56 1 18)) s27,
  .gp g23 false (.bin .and g24 g27 (G2 56 1 19)) s28,
  .gp g23 false (.bin .neq g28 (kc (.tc (.sc (.int .i64 0)))) (G2 56 1 20)) s29,
  .p (.pk g23 (kc (.tc (.sc (.bool true)))) g29) s30])
 (.cond g30 (.seq (.reg [.p (.mv (kc (.tc (.sc (.bool false))))) s8])
 .ret)
 .skip))
 (.seq (.reg [.p (.mv g0) s31,
  .p (.mv g2) s32,
  .p (.bin .shr g31 g32 (G2 56 3 2)) s33,
  .p (.mv g33) s0])
 (.seq (.seq (.reg [.p (.mv g3) s34])
 (.cond g34 (.reg [.p (.mv g0) s35,
  .p (.mv g1) s36,
  .p (.bin .sub g36 (kc (.tc (.sc (.int .i64 1)))) (G2 56 5 2)) s37,
  .p (.bin .shl (kc (.tc (.sc (.int .i64 1)))) g37 (G2 56 5 3)) s38,
  .p (.bin .add g35 g38 (G2 56 5 4)) s39,
  .p (.mv g39) s0])
 .skip))
 (.seq (.reg [.p (.mv g0) s40,
  .p (.bin .geq g40 (kc (.tc (.sc (.int .i64 0)))) (G2 56 6 1)) s41,
  .p (.mv g41) s42,
  .gp g42 true (.mv g0) s43,
  .gp g42 true (.mv g1) s44,
  .gp g42 true (.bin .shl (kc (.tc (.sc (.int .i64 1)))) g44 (G2 56 6 5)) s45,
  .gp g42 true (.bin .lss g43 g45 (G2 56 6 6)) s46,
  .p (.pk g42 g46 (kc (.tc (.sc (.bool false))))) s47,
  .p (.mv g47) s8])
 .ret))))),
 [.tmp g8]⟩
theorem ffRul56_ok : compF SBase 56 = ffRul56 := by kernel_rfl
noncomputable def ffRul41 : FF := .t2 ⟨5,
 (.seq (.reg [.p (.bx 11 g0 (G2 41 0 0)) s1,
  .p (.mv (kc (.tc (.sc (.bool false))))) s2])
 (.seq (.reg [.p (.ld true 11 g1) s3,
  .p (.call 42 [g3, (kc (.tc (.sc (.int .u8 1))))] (G2 41 1 1)) s4,
  .p (.mv g4) s2])
 .ret)),
 [.tmp g2]⟩
theorem ffRul41_ok : compF SBase 41 = ffRul41 := by kernel_rfl
noncomputable def ffRul42 : FF := .t2 ⟨17,
 (.seq (.reg [.p (.bx 11 g0 (G2 42 0 0)) s2,
  .p (.mv (kc (.tc (.sc (.bool false))))) s4])
 (.seq (.reg [.p (.fa 0 g2) s9,
  .p (.ld false 1 g9) s10,
  .p (.mv g1) s11,
  .p (.call 57 [g10, g11] (G2 42 1 3)) s12,
  .p (.mv g12) s8,
  .p (.ex g8 0) s13,
  .p (.ex g8 1) s14,
  .p (.ex g8 2) s15,
  .p (.al 5 [(.sc (.int .u8 0)), (.sc (.int .i64 0)), (.sc (.int .i64 0)), (.sc (.bool false)), (.sc (.bool false))]) s5,
  .n (.st 5 g5 g13 (G2 42 1 9)),
  .p (.mv g14) s6,
  .p (.mv g15) s7])
 (.seq (.reg [.p (.mv g7) s16,
  .p (.mv g16) s4])
 .ret))),
 [.tmp g4]⟩
theorem ffRul42_ok : compF SBase 42 = ffRul42 := by kernel_rfl
noncomputable def ffRul57 : FF := .t2 ⟨35,
 (.seq (.reg [.p (.al 5 [(.sc (.int .u8 0)), (.sc (.int .i64 0)), (.sc (.int .i64 0)), (.sc (.bool false)), (.sc (.bool false))]) s4,
  .p (.mv (kc (.tc (.sc (.int .i64 0))))) s5,
  .p (.mv (kc (.tc (.sc (.bool false))))) s6])
 (.seq (.reg [.p (.mv g0) s12,
  .p (.call 54 [g12] (G2 57 1 1)) s13,
  .p (.mv g13) s11,
  .p (.ex g11 0) s14,
  .p (.ex g11 1) s15,
  .p (.al 5 [(.sc (.int .u8 0)), (.sc (.string ⟨#[]⟩)), (.sc (.int .u8 0)), (.sc (.int .u8 0)), (.sc (.slice none 0 0))]) s7,
  .n (.st 5 g7 g14 (G2 57 1 6)),
  .p (.mv g15) s8])
 (.seq (.reg [.p (.mv (kc (.tc (.sc (.int .i64 24))))) s5])
 (.seq (.seq (.reg [.p (.fa 4 g7) s16,
  .p (.ld false 1 g16) s17,
  .p (.len g17 (G2 57 3 2)) s18,
  .p (.mv (kc (.tc (.sc (.int .i64 0))))) s19])
 (.block 0 (.loop 4294967296 (.seq (.reg [.p (.bin .lss g19 g18 (G2 57 4 0)) s20])
 (.seq (.cond g20 .skip
 (.exit 0))
 (.seq (.block 1 (.seq (.reg [.p (.ia 5 g17 g19 (G2 57 5 0)) s21,
  .p (.ld true 5 g21) s22,
  .p (.al 5 [(.sc (.int .u8 0)), (.sc (.int .i64 0)), (.sc (.int .i64 0)), (.sc (.bool false)), (.sc (.bool false))]) s10,
  .n (.st 5 g10 g22 (G2 57 5 3))])
 (.seq (.reg [.p (.mv g5) s23,
  .p (.fa 1 g10) s24,
  .p (.ld false 1 g24) s25,
  .p (.bin .sub g23 g25 (G2 57 6 3)) s26,
  .p (.mv g26) s5])
 (.seq (.reg [.p (.fa 0 g10) s27,
  .p (.ld false 1 g27) s28,
  .p (.mv g1) s29,
  .p (.bin .eql g28 g29 (G2 57 7 3)) s30])
 (.cond g30 (.seq (.reg [.p (.ld true 5 g10) s31,
  .p (.mv g5) s32,
  .n (.st 5 g4 g31 (G2 57 8 2)),
  .p (.mv g32) s5,
  .p (.mv (kc (.tc (.sc (.bool true))))) s6])
 .ret)
 .skip)))))
 (.reg [.p (.bin .add g19 (kc (.tc (.sc (.int .i64 1)))) (G2 57 9 0)) s33,
  .p (.mv g33) s19])))))))
 (.seq (.reg [.p (.bd [(.tc (.sc (.int .u8 0))), (.tc (.sc (.int .i64 0))), (.tc (.sc (.int .i64 0))), (.tc (.sc (.bool false))), (.tc (.sc (.bool false)))] [] (G2 57 10 0)) s34,
  .n (.st 5 g4 g34 (G2 57 10 1)),
  .p (.mv (kc (.tc (.sc (.int .i64 0))))) s5,
  .p (.mv (kc (.tc (.sc (.bool false))))) s6])
 .ret))))),
 [.cell g4 true 5, .tmp g5, .tmp g6]⟩
theorem ffRul57_ok : compF SBase 57 = ffRul57 := by kernel_rfl
noncomputable def ffRul28 : FF := .t2 ⟨19,
 (.seq (.reg [.p (.mv (kc (.tc (.sc (.bool false))))) s2])
 (.seq (.seq (.reg [.p (.mv g0) s5,
  .p (.len g5 (G2 28 1 1)) s6,
  .p (.mv (kc (.tc (.sc (.int .i64 0))))) s7])
 (.block 0 (.loop 4294967296 (.seq (.reg [.p (.bin .lss g7 g6 (G2 28 2 0)) s8])
 (.seq (.cond g8 .skip
 (.exit 0))
 (.seq (.block 1 (.seq (.reg [.p (.mv g7) s9,
  .p (.ia 11 g5 g7 (G2 28 3 1)) s10,
  .p (.ld true 11 g10) s11,
  .p (.al 11 [(.sc (.int .u8 0)), (.sc (.int .u8 0)), (.sc (.int .u8 0)), (.sc (.int .u8 0)), (.sc (.int .u8 0)), (.sc (.int .u8 0)), (.sc (.int .u8 0)), (.sc (.bool false)), (.sc (.bool false)), (.sc (.int .u16 0)), (.sc (.int .i64 0))]) s4,
  .p (.mv g9) s3,
  .n (.st 11 g4 g11 (G2 28 3 5))])
 (.seq (.reg [.p (.mv g0) s12,
  .p (.mv g3) s13,
  .p (.bin .add g13 (kc (.tc (.sc (.int .i64 1)))) (G2 28 4 2)) s14,
  .p (.sl 11 g12 (some g14) none none (G2 28 4 3)) s15,
  .p (.mf (.func 48) [] [g4]) s16,
  .p (.call 26 [g15, g16] (G2 28 4 5)) s17])
 (.cond g17 (.seq (.reg [.p (.mv (kc (.tc (.sc (.bool true))))) s2])
 .ret)
 .skip))))
 (.reg [.p (.bin .add g7 (kc (.tc (.sc (.int .i64 1)))) (G2 28 6 0)) s18,
  .p (.mv g18) s7])))))))
 (.seq (.reg [.p (.mv (kc (.tc (.sc (.bool false))))) s2])
 .ret))),
 [.tmp g2]⟩
theorem ffRul28_ok : compF SBase 28 = ffRul28 := by kernel_rfl
noncomputable def ffRul48 : FF := .t2 ⟨7,
 (.seq (.reg [.p (.bx 11 g0 (G2 48 0 0)) s2,
  .p (.mv (kc (.tc (.sc (.bool false))))) s3])
 (.seq (.reg [.p (.ld true 11 g1) s4,
  .p (.ld true 11 g2) s5,
  .p (.call 12 [g4, g5] (G2 48 1 2)) s6,
  .p (.mv g6) s3])
 .ret)),
 [.tmp g3]⟩
theorem ffRul48_ok : compF SBase 48 = ffRul48 := by kernel_rfl
noncomputable def ffRul12 : FF := .t2 ⟨53,
 (.seq (.reg [.p (.bx 11 g0 (G2 12 0 0)) s2,
  .p (.bx 11 g1 (G2 12 0 1)) s3,
  .p (.mv (kc (.tc (.sc (.bool false))))) s4])
 (.seq (.reg [.p (.ld true 11 g2) s12,
  .p (.call 17 [g12] (G2 12 1 1)) s13,
  .p (.mv g13) s11,
  .p (.ex g11 0) s14,
  .p (.ex g11 1) s15,
  .p (.mv g14) s5,
  .p (.mv g15) s6])
 (.seq (.reg [.p (.ld true 11 g3) s17,
  .p (.call 17 [g17] (G2 12 2 1)) s18,
  .p (.mv g18) s16,
  .p (.ex g16 0) s19,
  .p (.ex g16 1) s20,
  .p (.mv g19) s7,
  .p (.mv g20) s8])
 (.seq (.seq (.reg [.p (.mv g6) s21,
  .p (.mv g21) s22,
  .gp g22 true (.mv g8) s23,
  .p (.pk g22 g23 (kc (.tc (.sc (.bool false))))) s24,
  .p (.mv g24) s25,
  .gp g25 true (.mv g5) s26,
  .gp g25 true (.mv g7) s27,
  .gp g25 true (.bin .eql g26 g27 (G2 12 3 7)) s28,
  .p (.pk g25 g28 (kc (.tc (.sc (.bool false))))) s29])
 (.cond g29 (.seq (.reg [.p (.ld true 11 g2) s30,
  .p (.ld true 11 g3) s31,
  .p (.call 34 [g30, g31] (G2 12 4 2)) s32,
  .p (.nt g32 (G2 12 4 3)) s33,
  .p (.mv g33) s4])
 .ret)
 .skip))
 (.seq (.reg [.p (.ld true 11 g2) s35,
  .p (.call 15 [g35] (G2 12 5 1)) s36,
  .p (.mv g36) s34,
  .p (.ex g34 0) s37,
  .p (.ex g34 1) s38,
  .p (.mv g37) s9,
  .p (.mv g38) s6])
 (.seq (.reg [.p (.ld true 11 g3) s40,
  .p (.call 15 [g40] (G2 12 6 1)) s41,
  .p (.mv g41) s39,
  .p (.ex g39 0) s42,
  .p (.ex g39 1) s43,
  .p (.mv g42) s10,
  .p (.mv g43) s8])
 (.seq (.reg [.p (.mv g6) s44,
  .p (.mv g44) s45,
  .gp g45 true (.mv g8) s46,
  .p (.pk g45 g46 (kc (.tc (.sc (.bool false))))) s47,
  .p (.mv g47) s48,
  .gp g48 true (.mv g9) s49,
  .gp g48 true (.mv g10) s50,
  .gp g48 true (.bin .eql g49 g50 (G2 12 7 7)) s51,
  .p (.pk g48 g51 (kc (.tc (.sc (.bool false))))) s52,
  .p (.mv g52) s4])
 .ret))))))),
 [.tmp g4]⟩
theorem ffRul12_ok : compF SBase 12 = ffRul12 := by kernel_rfl
noncomputable def ffRul17 : FF := .t2 ⟨18,
 (.seq (.reg [.p (.bx 11 g0 (G2 17 0 0)) s1,
  .p (.mv (kc (.tc (.sc (.int .u8 0))))) s2,
  .p (.mv (kc (.tc (.sc (.bool false))))) s3])
 (.seq (.block 0 (.seq (.reg [.p (.ld true 11 g1) s5,
  .p (.call 14 [g5] (G2 17 1 1)) s6,
  .p (.nt g6 (G2 17 1 2)) s7,
  .p (.mv g7) s4])
 (.cond g4 (.seq (.reg [.p (.mv (kc (.tc (.sc (.int .u8 0))))) s2,
  .p (.mv (kc (.tc (.sc (.bool false))))) s3])
 .ret)
 (.seq (.reg [.p (.fa 0 g1) s9,
  .p (.ld false 1 g9) s10,
  .p (.bin .eql g10 (kc (.tc (.sc (.int .u8 29)))) (G2 17 3 2)) s11,
  .p (.mv g11) s8])
 (.cond g8 (.seq (.reg [.p (.mv (kc (.tc (.sc (.int .u8 31))))) s2,
  .p (.mv (kc (.tc (.sc (.bool true))))) s3])
 .ret)
 (.seq (.reg [.p (.ld true 11 g1) s13,
  .p (.call 42 [g13, (kc (.tc (.sc (.int .u8 3))))] (G2 17 5 1)) s14,
  .p (.nt g14 (G2 17 5 2)) s15,
  .p (.mv g15) s12])
 (.cond g12 (.seq (.reg [.p (.mv (kc (.tc (.sc (.int .u8 0))))) s2,
  .p (.mv (kc (.tc (.sc (.bool false))))) s3])
 .ret)
 .skip)))))))
 (.seq (.reg [.p (.fa 1 g1) s16,
  .p (.ld false 1 g16) s17,
  .p (.mv g17) s2,
  .p (.mv (kc (.tc (.sc (.bool true))))) s3])
 .ret))),
 [.tmp g2, .tmp g3]⟩
theorem ffRul17_ok : compF SBase 17 = ffRul17 := by kernel_rfl
noncomputable def ffRul34 : FF := .t2 ⟨36,
 (.seq (.reg [.p (.bx 11 g0 (G2 34 0 0)) s2,
  .p (.bx 11 g1 (G2 34 0 1)) s3,
  .p (.mv (kc (.tc (.sc (.bool false))))) s4])
 (.seq (.seq (.reg [.p (.fa 5 g2) s7,
  .p (.ld false 1 g7) s8,
  .p (.fa 5 g3) s9,
  .p (.ld false 1 g9) s10,
  .p (.bin .neq g8 g10 (G2 34 1 4)) s11])
 (.cond g11 (.seq (.reg [.p (.mv (kc (.tc (.sc (.bool false))))) s4])
 .ret)
 .skip))
 (.seq (.regD [0, 1, 0, 4, 15, 0, 32, 0, 128, 480, 31, 2047] [.no, (.rd (.ld false 1 g12) g13), .no, (.rd (.ld false 1 g14) g15), .no, .no, (.rd (.ld false 1 g17) g18), .no, (.rd (.ld false 1 g19) g20), .no, .no, .no] [.mk .none .yes (.fa 6 g2) (.fa 6 g2) (some s12),
  .mk .none .yes (.ld false 1 g12) (.ld false 1 g12) (some s13),
  .mk .none .yes (.fa 6 g3) (.fa 6 g3) (some s14),
  .mk .none .yes (.ld false 1 g14) (.ld false 1 g14) (some s15),
  .mk .none .yes (.gen (G2 34 3 4)) (.gen (G2 34 3 4)) (some s16),
  .mk .none .yes (.fa 6 g2) (.fa 6 g2) (some s17),
  .mk .none .yes (.ld false 1 g17) (.ld false 1 g17) (some s18),
  .mk .none .yes (.fa 6 g3) (.fa 6 g3) (some s19),
  .mk .none .yes (.ld false 1 g19) (.ld false 1 g19) (some s20),
  .mk .none .yes (.gen (G2 34 3 9)) (.gen (G2 34 3 9)) (some s21),
  .mk .none .yes (.mv g16) (.mv g16) (some s5),
  .mk .none .yes (.mv g21) (.mv g21) (some s6)])
 (.seq (.reg [.p (.mv g5) s22,
  .p (.bin .eql g22 (kc (.tc (.sc (.int .u8 1)))) (G2 34 4 1)) s23,
  .p (.mv g23) s24,
  .gp g24 true (.mv g6) s25,
  .gp g24 true (.bin .eql g25 (kc (.tc (.sc (.int .u8 2)))) (G2 34 4 4)) s26,
  .p (.pk g24 g26 (kc (.tc (.sc (.bool false))))) s27,
  .p (.mv g27) s28,
  .gp g28 false (.mv g5) s29,
  .gp g28 false (.bin .eql g29 (kc (.tc (.sc (.int .u8 3)))) (G2 34 4 8)) s30,
  .gp g28 false (.mv g30) s31,
  .gp g31 true (.mv g6) s32,
  .gp g31 true (.bin .eql g32 (kc (.tc (.sc (.int .u8 4)))) (G2 34 4 11)) s33,
  .gp g28 false (.pk g31 g33 (kc (.tc (.sc (.bool false))))) s34,
  .p (.pk g28 (kc (.tc (.sc (.bool true)))) g34) s35,
  .p (.mv g35) s4])
 .ret)))),
 [.tmp g4]⟩
theorem ffRul34_ok : compF SBase 34 = ffRul34 := by kernel_rfl
noncomputable def ffRul15 : FF := .t2 ⟨14,
 (.seq (.reg [.p (.bx 11 g0 (G2 15 0 0)) s1,
  .p (.mv (kc (.tc (.sc (.int .u8 0))))) s2,
  .p (.mv (kc (.tc (.sc (.bool false))))) s3])
 (.seq (.seq (.reg [.p (.ld true 11 g1) s4,
  .p (.call 14 [g4] (G2 15 1 1)) s5,
  .p (.nt g5 (G2 15 1 2)) s6,
  .p (.mv g6) s7,
  .gp g7 false (.ld true 11 g1) s8,
  .gp g7 false (.call 42 [g8, (kc (.tc (.sc (.int .u8 4))))] (G2 15 1 5)) s9,
  .gp g7 false (.nt g9 (G2 15 1 6)) s10,
  .p (.pk g7 (kc (.tc (.sc (.bool true)))) g10) s11])
 (.cond g11 (.seq (.reg [.p (.mv (kc (.tc (.sc (.int .u8 0))))) s2,
  .p (.mv (kc (.tc (.sc (.bool false))))) s3])
 .ret)
 .skip))
 (.seq (.reg [.p (.fa 1 g1) s12,
  .p (.ld false 1 g12) s13,
  .p (.mv g13) s2,
  .p (.mv (kc (.tc (.sc (.bool true))))) s3])
 .ret))),
 [.tmp g2, .tmp g3]⟩
theorem ffRul15_ok : compF SBase 15 = ffRul15 := by kernel_rfl
noncomputable def ffRul29 : FF := .t2 ⟨8,
 (.seq (.reg [.p (.bx 11 g0 (G2 29 0 0)) s2,
  .p (.mv (kc (.tc (.sc (.bool false))))) s3])
 (.seq (.reg [.p (.ld true 11 g2) s4,
  .p (.ld false 1 g1) s5,
  .p (.call 30 [g4, g5] (G2 29 1 2)) s6,
  .p (.nt g6 (G2 29 1 3)) s7,
  .p (.mv g7) s3])
 .ret)),
 [.tmp g3]⟩
theorem ffRul29_ok : compF SBase 29 = ffRul29 := by kernel_rfl
noncomputable def ffRul30 : FF := .t2 ⟨62,
 (.seq (.reg [.p (.bx 11 g0 (G2 30 0 0)) s2,
  .p (.mv (kc (.tc (.sc (.bool false))))) s4])
 (.seq (.seq (.reg [.p (.ld true 11 g2) s15,
  .p (.call 49 [g15] (G2 30 1 1)) s16,
  .p (.mv g16) s14,
  .p (.ex g14 0) s17,
  .p (.ex g14 1) s18,
  .p (.ex g14 2) s19,
  .p (.al 1 [(.sc (.int .u8 0))]) s5,
  .n (.st 1 g5 g17 (G2 30 1 7)),
  .p (.mv g18) s6,
  .p (.mv g19) s7])
 (.seq (.reg [.p (.mv g6) s20])
 (.cond g20 (.seq (.reg [.p (.mv g1) s21,
  .p (.mf (.func 50) [] [g5]) s22,
  .p (.call 26 [g21, g22] (G2 30 3 2)) s23,
  .p (.mv g23) s4])
 .ret)
 .skip)))
 (.seq (.seq (.reg [.p (.fa 7 g2) s24,
  .p (.ld false 1 g24) s25,
  .p (.nt g25 (G2 30 4 2)) s26])
 (.cond g26 (.seq (.reg [.p (.mv (kc (.tc (.sc (.bool true))))) s4])
 .ret)
 .skip))
 (.seq (.reg [.p (.mv (kc (.tc (.sc (.int .i64 0))))) s8,
  .p (.mv (kc (.tc (.sc (.bool true))))) s9])
 (.seq (.seq (.reg [.p (.mv g1) s27,
  .p (.len g27 (G2 30 7 1)) s28,
  .p (.mv (kc (.tc (.sc (.int .i64 0))))) s29])
 (.block 0 (.loop 4294967296 (.seq (.reg [.p (.bin .lss g29 g28 (G2 30 8 0)) s30])
 (.seq (.cond g30 .skip
 (.exit 0))
 (.seq (.block 1 (.seq (.reg [.p (.ia 11 g27 g29 (G2 30 9 0)) s31,
  .p (.ld true 11 g31) s32,
  .p (.al 11 [(.sc (.int .u8 0)), (.sc (.int .u8 0)), (.sc (.int .u8 0)), (.sc (.int .u8 0)), (.sc (.int .u8 0)), (.sc (.int .u8 0)), (.sc (.int .u8 0)), (.sc (.bool false)), (.sc (.bool false)), (.sc (.int .u16 0)), (.sc (.int .i64 0))]) s11,
  .n (.st 11 g11 g32 (G2 30 9 3))])
 (.seq (.reg [.p (.ld true 11 g11) s34,
  .p (.call 17 [g34] (G2 30 10 1)) s35,
  .p (.mv g35) s33,
  .p (.ex g33 0) s36,
  .p (.ex g33 1) s37,
  .p (.mv g36) s12,
  .p (.mv g37) s13])
 (.seq (.reg [.p (.mv g13) s38,
  .p (.mv g38) s39,
  .gp g39 true (.mv g12) s40,
  .gp g39 true (.fa 3 g2) s41,
  .gp g39 true (.ld false 1 g41) s42,
  .gp g39 true (.bin .eql g40 g42 (G2 30 11 5)) s43,
  .p (.pk g39 g43 (kc (.tc (.sc (.bool false))))) s44])
 (.cond g44 (.seq (.reg [.p (.mv g8) s45,
  .p (.bin .add g45 (kc (.tc (.sc (.int .i64 1)))) (G2 30 12 1)) s46,
  .p (.mv g46) s8])
 (.regD [0, 1, 3, 7, 15, 31, 15, 127, 255, 511] [.no, (.rd (.ld false 1 g47) g48), .no, .no, .no, .no, (.rd (.ld true 11 g11) g53), .no, .no, .no] [.mk .none .yes (.fa 6 g11) (.fa 6 g11) (some s47),
  .mk .none .yes (.ld false 1 g47) (.ld false 1 g47) (some s48),
  .mk .none .yes (.bin .eql g48 (kc (.tc (.sc (.int .u8 0)))) (G2 30 13 2)) (.bin .eql g48 (kc (.tc (.sc (.int .u8 0)))) (G2 30 13 2)) (some s49),
  .mk .none .yes (.mv g49) (.mv g49) (some s50),
  .mk (.on g50 true) (.gen (G2 30 13 4)) (.bt 1 [[(.tc (.sc (.int .u8 0)))], [(.tc (.sc (.int .u8 0)))]] [(.mk 0 1 (kc (.tc (.sc (.int .u8 1))))), (.mk 1 1 (kc (.tc (.sc (.int .u8 2)))))] (G2 30 13 4)) (.bs 1 2 [[(.tc (.sc (.int .u8 0)))], [(.tc (.sc (.int .u8 0)))]] [(.mk 0 1 (kc (.tc (.sc (.int .u8 1))))), (.mk 1 1 (kc (.tc (.sc (.int .u8 2)))))] (G2 30 13 4)) (some s51),
  .mk (.on g50 true) (.dyn 25 [g51]) (.call 25 [g51] (G2 30 13 5)) (.call 25 [g51] (G2 30 13 5)) (some s52),
  .mk (.on g50 true) .yes (.ld true 11 g11) (.ld true 11 g11) (some s53),
  .mk (.on g50 true) (.gen (G2 30 13 7)) (.gen (G2 30 13 7)) (.gen (G2 30 13 7)) (some s54),
  .mk .none .yes (.pk g50 g54 (kc (.tc (.sc (.bool false))))) (.pk g50 g54 (kc (.tc (.sc (.bool false))))) (some s55),
  .mk .none .yes (.mv g55) (.mv g55) (some s9)]))
 .skip)))))
 (.reg [.p (.bin .add g29 (kc (.tc (.sc (.int .i64 1)))) (G2 30 14 0)) s56,
  .p (.mv g56) s29])))))))
 (.seq (.reg [.p (.mv g8) s57,
  .p (.bin .eql g57 (kc (.tc (.sc (.int .i64 1)))) (G2 30 15 1)) s58,
  .p (.mv g58) s59,
  .gp g59 true (.mv g9) s60,
  .p (.pk g59 g60 (kc (.tc (.sc (.bool false))))) s61,
  .p (.mv g61) s4])
 .ret)))))),
 [.tmp g4]⟩
theorem ffRul30_ok : compF SBase 30 = ffRul30 := by kernel_rfl
noncomputable def ffRul49 : FF := .t2 ⟨23,
 (.seq (.reg [.p (.bx 11 g0 (G2 49 0 0)) s1,
  .p (.mv (kc (.tc (.sc (.int .u8 0))))) s2,
  .p (.mv (kc (.tc (.sc (.bool false))))) s3,
  .p (.mv (kc (.tc (.sc (.bool false))))) s4])
 (.seq (.seq (.reg [.p (.ld true 11 g1) s5,
  .p (.call 14 [g5] (G2 49 1 1)) s6,
  .p (.nt g6 (G2 49 1 2)) s7,
  .p (.mv g7) s8,
  .gp g8 false (.fa 0 g1) s9,
  .gp g8 false (.ld false 1 g9) s10,
  .gp g8 false (.bin .neq g10 (kc (.tc (.sc (.int .u8 14)))) (G2 49 1 6)) s11,
  .gp g8 false (.mv g11) s12,
  .gp g12 true (.fa 6 g1) s13,
  .gp g12 true (.ld false 1 g13) s14,
  .gp g12 true (.bin .eql g14 (kc (.tc (.sc (.int .u8 0)))) (G2 49 1 10)) s15,
  .gp g8 false (.pk g12 g15 (kc (.tc (.sc (.bool false))))) s16,
  .p (.pk g8 (kc (.tc (.sc (.bool true)))) g16) s17])
 (.cond g17 (.seq (.reg [.p (.mv (kc (.tc (.sc (.int .u8 0))))) s2,
  .p (.mv (kc (.tc (.sc (.bool false))))) s3,
  .p (.mv (kc (.tc (.sc (.bool false))))) s4])
 .ret)
 .skip))
 (.seq (.regD [0, 1, 0, 4, 12, 3, 63, 127] [.no, (.rd (.ld false 1 g18) g19), .no, (.rd (.ld false 1 g20) g21), .no, .no, .no, .no] [.mk .none .yes (.fa 5 g1) (.fa 5 g1) (some s18),
  .mk .none .yes (.ld false 1 g18) (.ld false 1 g18) (some s19),
  .mk .none .yes (.fa 6 g1) (.fa 6 g1) (some s20),
  .mk .none .yes (.ld false 1 g20) (.ld false 1 g20) (some s21),
  .mk .none .yes (.bin .geq g21 (kc (.tc (.sc (.int .u8 3)))) (G2 49 3 4)) (.bin .geq g21 (kc (.tc (.sc (.int .u8 3)))) (G2 49 3 4)) (some s22),
  .mk .none .yes (.mv g19) (.mv g19) (some s2),
  .mk .none .yes (.mv g22) (.mv g22) (some s3),
  .mk .none .yes (.mv (kc (.tc (.sc (.bool true))))) (.mv (kc (.tc (.sc (.bool true))))) (some s4)])
 .ret))),
 [.tmp g2, .tmp g3, .tmp g4]⟩
theorem ffRul49_ok : compF SBase 49 = ffRul49 := by kernel_rfl
noncomputable def ffRul50 : FF := .t2 ⟨17,
 (.seq (.reg [.p (.bx 11 g0 (G2 50 0 0)) s2,
  .p (.mv (kc (.tc (.sc (.bool false))))) s3])
 (.seq (.reg [.p (.ld true 11 g2) s7,
  .p (.call 15 [g7] (G2 50 1 1)) s8,
  .p (.mv g8) s6,
  .p (.ex g6 0) s9,
  .p (.ex g6 1) s10,
  .p (.mv g9) s4,
  .p (.mv g10) s5])
 (.seq (.reg [.p (.mv g5) s11,
  .p (.mv g11) s12,
  .gp g12 true (.mv g4) s13,
  .gp g12 true (.ld false 1 g1) s14,
  .gp g12 true (.bin .eql g13 g14 (G2 50 2 4)) s15,
  .p (.pk g12 g15 (kc (.tc (.sc (.bool false))))) s16,
  .p (.mv g16) s3])
 .ret))),
 [.tmp g3]⟩
theorem ffRul50_ok : compF SBase 50 = ffRul50 := by kernel_rfl
noncomputable def ffRul11 : FF := .t2 ⟨51,
 (.seq (.reg [.p (.bx 5 g0 (G2 11 0 0)) s1,
  .p (.mv (kc (.tc (.sc (.int .i64 0))))) s2])
 (.seq (.reg [.p (.fa 0 g1) s6,
  .p (.ld false 1 g6) s7,
  .p (.mv g7) s3])
 (.seq (.seq (.reg [.p (.ld true 5 g1) s8,
  .p (.call 31 [g8] (G2 11 2 1)) s9,
  .p (.nt g9 (G2 11 2 2)) s10])
 (.cond g10 (.seq (.reg [.p (.mv (kc (.tc (.sc (.int .i64 8))))) s2])
 .ret)
 .skip))
 (.seq (.seq (.reg [.p (.mv g3) s11,
  .p (.call 32 [g11, (kc (.tc (.sc (.int .u8 5))))] (G2 11 4 1)) s12,
  .p (.bin .gtr g12 (kc (.tc (.sc (.int .i64 1)))) (G2 11 4 2)) s13])
 (.cond g13 (.seq (.reg [.p (.mv (kc (.tc (.sc (.int .i64 14))))) s2])
 .ret)
 .skip))
 (.seq (.seq (.reg [.p (.mv (kc (.tc (.sc (.int .i64 0))))) s4])
 (.block 0 (.loop 4294967296 (.seq (.seq (.reg [.p (.mv g4) s14,
  .p (.mv g3) s15,
  .p (.len g15 (G2 11 7 2)) s16,
  .p (.bin .lss g14 g16 (G2 11 7 3)) s17])
 (.cond g17 .skip
 (.exit 0)))
 (.seq (.block 1 (.seq (.reg [.p (.mv (kc (.tc (.sc (.int .i64 0))))) s5])
 (.block 2 (.loop 4294967296 (.seq (.seq (.reg [.p (.mv g5) s20,
  .p (.mv g4) s21,
  .p (.bin .lss g20 g21 (G2 11 9 2)) s22])
 (.cond g22 .skip
 (.exit 2)))
 (.seq (.block 3 (.seq (.regD [0, 0, 3, 7, 0, 0, 48, 112, 255] [.no, .no, .no, (.rd (.ld true 11 g27) g28), .no, .no, .no, (.rd (.ld true 11 g31) g32), .no] [.mk .none .yes (.mv g3) (.mv g3) (some s25),
  .mk .none .yes (.mv g5) (.mv g5) (some s26),
  .mk .none .yes (.ia 11 g25 g26 (G2 11 10 2)) (.ia 11 g25 g26 (G2 11 10 2)) (some s27),
  .mk .none .yes (.ld true 11 g27) (.ld true 11 g27) (some s28),
  .mk .none .yes (.mv g3) (.mv g3) (some s29),
  .mk .none .yes (.mv g4) (.mv g4) (some s30),
  .mk .none .yes (.ia 11 g29 g30 (G2 11 10 6)) (.ia 11 g29 g30 (G2 11 10 6)) (some s31),
  .mk .none .yes (.ld true 11 g31) (.ld true 11 g31) (some s32),
  .mk .none (.dyn 13 [g28, g32]) (.call 13 [g28, g32] (G2 11 10 8)) (.call 13 [g28, g32] (G2 11 10 8)) (some s33)])
 (.cond g33 (.seq (.reg [.p (.mv (kc (.tc (.sc (.int .i64 11))))) s2])
 .ret)
 .skip)))
 (.reg [.p (.mv g5) s23,
  .p (.bin .add g23 (kc (.tc (.sc (.int .i64 1)))) (G2 11 12 1)) s24,
  .p (.mv g24) s5])))))))
 (.reg [.p (.mv g4) s18,
  .p (.bin .add g18 (kc (.tc (.sc (.int .i64 1)))) (G2 11 13 1)) s19,
  .p (.mv g19) s4]))))))
 (.seq (.seq (.reg [.p (.mv g3) s34,
  .p (.call 33 [g34] (G2 11 14 1)) s35,
  .p (.nt g35 (G2 11 14 2)) s36])
 (.cond g36 (.seq (.reg [.p (.mv (kc (.tc (.sc (.int .i64 12))))) s2])
 .ret)
 .skip))
 (.seq (.seq (.reg [.p (.fa 1 g1) s37,
  .p (.ld false 1 g37) s38,
  .p (.mv g38) s39,
  .gp g39 false (.fa 2 g1) s40,
  .gp g39 false (.ld false 1 g40) s41,
  .p (.pk g39 (kc (.tc (.sc (.bool true)))) g41) s42,
  .p (.mv g42) s43,
  .gp g43 true (.mv g3) s44,
  .gp g43 true (.call 32 [g44, (kc (.tc (.sc (.int .u8 5))))] (G2 11 16 8)) s45,
  .gp g43 true (.mv g3) s46,
  .gp g43 true (.call 32 [g46, (kc (.tc (.sc (.int .u8 6))))] (G2 11 16 10)) s47,
  .gp g43 true (.bin .add g45 g47 (G2 11 16 11)) s48,
  .gp g43 true (.bin .gtr g48 (kc (.tc (.sc (.int .i64 0)))) (G2 11 16 12)) s49,
  .p (.pk g43 g49 (kc (.tc (.sc (.bool false))))) s50])
 (.cond g50 (.seq (.reg [.p (.mv (kc (.tc (.sc (.int .i64 13))))) s2])
 .ret)
 .skip))
 (.seq (.reg [.p (.mv (kc (.tc (.sc (.int .i64 0))))) s2])
 .ret)))))))),
 [.tmp g2]⟩
theorem ffRul11_ok : compF SBase 11 = ffRul11 := by kernel_rfl
noncomputable def ffRul31 : FF := .t2 ⟨36,
 (.seq (.reg [.p (.bx 5 g0 (G2 31 0 0)) s1,
  .p (.mv (kc (.tc (.sc (.bool false))))) s2])
 (.seq (.seq (.reg [.p (.fa 0 g1) s4,
  .p (.ld false 1 g4) s5,
  .p (.len g5 (G2 31 1 2)) s6,
  .p (.bin .eql g6 (kc (.tc (.sc (.int .i64 0)))) (G2 31 1 3)) s7,
  .p (.mv g7) s8,
  .gp g8 false (.fa 0 g1) s9,
  .gp g8 false (.ld false 1 g9) s10,
  .gp g8 false (.len g10 (G2 31 1 7)) s11,
  .gp g8 false (.bin .gtr g11 (kc (.tc (.sc (.int .i64 4)))) (G2 31 1 8)) s12,
  .p (.pk g8 (kc (.tc (.sc (.bool true)))) g12) s13,
  .p (.mv g13) s14,
  .gp g14 false (.fa 3 g1) s15,
  .gp g14 false (.ld false 1 g15) s16,
  .gp g14 false (.mv g16) s17,
  .gp g17 true (.fa 4 g1) s18,
  .gp g17 true (.ld false 1 g18) s19,
  .gp g14 false (.pk g17 g19 (kc (.tc (.sc (.bool false))))) s20,
  .p (.pk g14 (kc (.tc (.sc (.bool true)))) g20) s21])
 (.cond g21 (.seq (.reg [.p (.mv (kc (.tc (.sc (.bool false))))) s2])
 .ret)
 .skip))
 (.seq (.seq (.reg [.p (.mv (kc (.tc (.sc (.int .i64 0))))) s3])
 (.block 0 (.loop 4294967296 (.seq (.seq (.reg [.p (.mv g3) s22,
  .p (.fa 0 g1) s23,
  .p (.ld false 1 g23) s24,
  .p (.len g24 (G2 31 4 3)) s25,
  .p (.bin .lss g22 g25 (G2 31 4 4)) s26])
 (.cond g26 .skip
 (.exit 0)))
 (.seq (.block 1 (.seq (.reg [.p (.fa 0 g1) s29,
  .p (.ld false 1 g29) s30,
  .p (.mv g3) s31,
  .p (.ia 11 g30 g31 (G2 31 5 3)) s32,
  .p (.ld true 11 g32) s33,
  .p (.call 51 [g33] (G2 31 5 5)) s34,
  .p (.nt g34 (G2 31 5 6)) s35])
 (.cond g35 (.seq (.reg [.p (.mv (kc (.tc (.sc (.bool false))))) s2])
 .ret)
 .skip)))
 (.reg [.p (.mv g3) s27,
  .p (.bin .add g27 (kc (.tc (.sc (.int .i64 1)))) (G2 31 7 1)) s28,
  .p (.mv g28) s3]))))))
 (.seq (.reg [.p (.mv (kc (.tc (.sc (.bool true))))) s2])
 .ret)))),
 [.tmp g2]⟩
theorem ffRul31_ok : compF SBase 31 = ffRul31 := by kernel_rfl
noncomputable def ffRul51 : FF := .t3 ⟨368,
 (.seq (.reg [.p (.bx 11 (h0 g0) (G3 51 0 0)) (i0 s1),
  .p (.mv (kc (.tc (.sc (.bool false))))) (i0 s2)])
 (.seq (.reg [.p (.fa 0 (h0 g1)) (i0 s5),
  .p (.ld false 1 (h0 g5)) (i0 s6),
  .p (.bd [(.tc (.sc (.int .u8 0))), (.tc (.sc (.int .u8 0))), (.tc (.sc (.int .u8 0))), (.tc (.sc (.int .u8 0))), (.tc (.sc (.int .u8 0))), (.tc (.sc (.int .u8 0))), (.tc (.sc (.int .u8 0))), (.tc (.sc (.bool false))), (.tc (.sc (.bool false))), (.tc (.sc (.int .u16 0))), (.tc (.sc (.int .i64 0)))] [(.mk 0 1 (h0 g6))] (G3 51 1 2)) (i0 s7),
  .p (.al 11 [(.sc (.int .u8 0)), (.sc (.int .u8 0)), (.sc (.int .u8 0)), (.sc (.int .u8 0)), (.sc (.int .u8 0)), (.sc (.int .u8 0)), (.sc (.int .u8 0)), (.sc (.bool false)), (.sc (.bool false)), (.sc (.int .u16 0)), (.sc (.int .i64 0))]) (i0 s3),
  .n (.st 11 (h0 g3) (h0 g7) (G3 51 1 4))])
 (.seq (.reg [.p (.fa 1 (h0 g1)) (i0 s8),
  .p (.ld false 1 (h0 g8)) (i0 s9),
  .p (.bin .lss (h0 g9) (kc (.tc (.sc (.int .u8 32)))) (G3 51 2 2)) (i0 s10),
  .p (.mv (h0 g10)) (i0 s11),
  .gp (h0 g11) true (.fa 2 (h0 g1)) (i0 s12),
  .gp (h0 g11) true (.ld false 1 (h0 g12)) (i0 s13),
  .gp (h0 g11) true (.bin .lss (h0 g13) (kc (.tc (.sc (.int .u8 32)))) (G3 51 2 6)) (i0 s14),
  .p (.pk (h0 g11) (h0 g14) (kc (.tc (.sc (.bool false))))) (i0 s15),
  .p (.mv (h0 g15)) (i0 s16),
  .gp (h0 g16) true (.fa 3 (h0 g1)) (i0 s17),
  .gp (h0 g16) true (.ld false 1 (h0 g17)) (i0 s18),
  .gp (h0 g16) true (.bin .lss (h0 g18) (kc (.tc (.sc (.int .u8 32)))) (G3 51 2 11)) (i0 s19),
  .p (.pk (h0 g16) (h0 g19) (kc (.tc (.sc (.bool false))))) (i0 s20),
  .p (.mv (h0 g20)) (i0 s4)])
 (.seq (.seq (.reg [.p (.fa 0 (h0 g1)) (i0 s21),
  .p (.ld false 1 (h0 g21)) (i0 s22),
  .p (.call 53 [(h0 g22)] (G3 51 3 2)) (i0 s23)])
 (.block 0 (.seq (.reg [.p (.bin .eql (h0 g23) (kc (.tc (.sc (.int .i64 0)))) (G3 51 4 0)) (i0 s25),
  .p (.mv (h0 g25)) (i0 s24)])
 (.cond (h0 g24) (.seq (.reg [.p (.mv (kc (.tc (.sc (.bool false))))) (i0 s2)])
 .ret)
 (.seq (.reg [.p (.bin .eql (h0 g23) (kc (.tc (.sc (.int .i64 1)))) (G3 51 6 0)) (i0 s27),
  .p (.mv (h0 g27)) (i0 s26)])
 (.cond (h0 g26) (.seq (.regD [0, 1, 0, 4, 0, 16, 0, 64, 0, 256, 3, 1027, 3087, 7183, 15423, 31807, 64767, 130303, 262143, 524287] [.no, (.rd (.ld false 1 (h0 g28)) (h0 g29)), .no, (.rd (.ld false 1 (h0 g30)) (h0 g31)), .no, (.rd (.ld false 1 (h0 g32)) (h0 g33)), .no, (.rd (.ld false 1 (h0 g34)) (h0 g35)), .no, (.rd (.ld false 1 (h0 g36)) (h0 g37)), .no, .no, .no, .no, .no, .no, .no, .no, .no, .no] [.mk .none .yes (.fa 6 (h0 g1)) (.fa 6 (h0 g1)) (some (i0 s28)),
  .mk .none .yes (.ld false 1 (h0 g28)) (.ld false 1 (h0 g28)) (some (i0 s29)),
  .mk .none .yes (.fa 5 (h0 g1)) (.fa 5 (h0 g1)) (some (i0 s30)),
  .mk .none .yes (.ld false 1 (h0 g30)) (.ld false 1 (h0 g30)) (some (i0 s31)),
  .mk .none .yes (.fa 1 (h0 g1)) (.fa 1 (h0 g1)) (some (i0 s32)),
  .mk .none .yes (.ld false 1 (h0 g32)) (.ld false 1 (h0 g32)) (some (i0 s33)),
  .mk .none .yes (.fa 2 (h0 g1)) (.fa 2 (h0 g1)) (some (i0 s34)),
  .mk .none .yes (.ld false 1 (h0 g34)) (.ld false 1 (h0 g34)) (some (i0 s35)),
  .mk .none .yes (.fa 3 (h0 g1)) (.fa 3 (h0 g1)) (some (i0 s36)),
  .mk .none .yes (.ld false 1 (h0 g36)) (.ld false 1 (h0 g36)) (some (i0 s37)),
  .mk .none .yes (.fa 6 (h0 g3)) (.fa 6 (h0 g3)) (some (i0 s38)),
  .mk .none .no (.st 1 (h0 g38) (h0 g29) (G3 51 7 11)) (.st 1 (h0 g38) (h0 g29) (G3 51 7 11)) none,
  .mk .none .yes (.fa 5 (h0 g3)) (.fa 5 (h0 g3)) (some (i0 s39)),
  .mk .none .no (.st 1 (h0 g39) (h0 g31) (G3 51 7 13)) (.st 1 (h0 g39) (h0 g31) (G3 51 7 13)) none,
  .mk .none .yes (.fa 1 (h0 g3)) (.fa 1 (h0 g3)) (some (i0 s40)),
  .mk .none .no (.st 1 (h0 g40) (h0 g33) (G3 51 7 15)) (.st 1 (h0 g40) (h0 g33) (G3 51 7 15)) none,
  .mk .none .yes (.fa 2 (h0 g3)) (.fa 2 (h0 g3)) (some (i0 s41)),
  .mk .none .no (.st 1 (h0 g41) (h0 g35) (G3 51 7 17)) (.st 1 (h0 g41) (h0 g35) (G3 51 7 17)) none,
  .mk .none .yes (.fa 3 (h0 g3)) (.fa 3 (h0 g3)) (some (i0 s42)),
  .mk .none .no (.st 1 (h0 g42) (h0 g37) (G3 51 7 19)) (.st 1 (h0 g42) (h0 g37) (G3 51 7 19)) none])
 (.reg [.p (.mv (h0 g4)) (i0 s43),
  .p (.mv (h0 g43)) (i0 s44),
  .gp (h0 g44) true (.ld true 11 (h0 g1)) (i0 s45),
  .gp (h0 g44) true (.call 69 [(h0 g45)] (G3 51 8 3)) (i0 s46),
  .p (.pk (h0 g44) (h0 g46) (kc (.tc (.sc (.bool false))))) (i0 s47),
  .p (.mv (h0 g47)) (i0 s4)]))
 (.seq (.reg [.p (.bin .eql (h0 g23) (kc (.tc (.sc (.int .i64 2)))) (G3 51 9 0)) (i0 s49),
  .p (.mv (h0 g49)) (i0 s48)])
 (.cond (h0 g48) (.seq (.regD [0, 1, 0, 4, 0, 16, 0, 64, 3, 259, 783, 1807, 3903, 7999, 16383, 32767] [.no, (.rd (.ld false 1 (h0 g50)) (h0 g51)), .no, (.rd (.ld false 1 (h0 g52)) (h0 g53)), .no, (.rd (.ld false 1 (h0 g54)) (h0 g55)), .no, (.rd (.ld false 1 (h0 g56)) (h0 g57)), .no, .no, .no, .no, .no, .no, .no, .no] [.mk .none .yes (.fa 1 (h0 g1)) (.fa 1 (h0 g1)) (some (i0 s50)),
  .mk .none .yes (.ld false 1 (h0 g50)) (.ld false 1 (h0 g50)) (some (i0 s51)),
  .mk .none .yes (.fa 2 (h0 g1)) (.fa 2 (h0 g1)) (some (i0 s52)),
  .mk .none .yes (.ld false 1 (h0 g52)) (.ld false 1 (h0 g52)) (some (i0 s53)),
  .mk .none .yes (.fa 10 (h0 g1)) (.fa 10 (h0 g1)) (some (i0 s54)),
  .mk .none .yes (.ld false 1 (h0 g54)) (.ld false 1 (h0 g54)) (some (i0 s55)),
  .mk .none .yes (.fa 8 (h0 g1)) (.fa 8 (h0 g1)) (some (i0 s56)),
  .mk .none .yes (.ld false 1 (h0 g56)) (.ld false 1 (h0 g56)) (some (i0 s57)),
  .mk .none .yes (.fa 1 (h0 g3)) (.fa 1 (h0 g3)) (some (i0 s58)),
  .mk .none .no (.st 1 (h0 g58) (h0 g51) (G3 51 10 9)) (.st 1 (h0 g58) (h0 g51) (G3 51 10 9)) none,
  .mk .none .yes (.fa 2 (h0 g3)) (.fa 2 (h0 g3)) (some (i0 s59)),
  .mk .none .no (.st 1 (h0 g59) (h0 g53) (G3 51 10 11)) (.st 1 (h0 g59) (h0 g53) (G3 51 10 11)) none,
  .mk .none .yes (.fa 10 (h0 g3)) (.fa 10 (h0 g3)) (some (i0 s60)),
  .mk .none .no (.st 1 (h0 g60) (h0 g55) (G3 51 10 13)) (.st 1 (h0 g60) (h0 g55) (G3 51 10 13)) none,
  .mk .none .yes (.fa 8 (h0 g3)) (.fa 8 (h0 g3)) (some (i0 s61)),
  .mk .none .no (.st 1 (h0 g61) (h0 g57) (G3 51 10 15)) (.st 1 (h0 g61) (h0 g57) (G3 51 10 15)) none])
 (.reg [.p (.mv (h0 g4)) (i0 s62),
  .p (.mv (h0 g62)) (i0 s63),
  .gp (h0 g63) true (.ld true 11 (h0 g1)) (i1 s0),
  .gp (h0 g63) true (.call 70 [(h1 g0), (kc (.tc (.sc (.int .i64 14)))), (kc (.tc (.sc (.int .i64 1))))] (G3 51 11 3)) (i1 s1),
  .p (.pk (h0 g63) (h1 g1) (kc (.tc (.sc (.bool false))))) (i1 s2),
  .p (.mv (h1 g2)) (i0 s4)]))
 (.seq (.reg [.p (.bin .eql (h0 g23) (kc (.tc (.sc (.int .i64 3)))) (G3 51 12 0)) (i1 s4),
  .p (.mv (h1 g4)) (i1 s3)])
 (.cond (h1 g3) (.seq (.regD [0, 1, 0, 4, 0, 16, 0, 64, 0, 256, 3, 1027, 3087, 7183, 15423, 31807, 64767, 130303, 262143, 524287] [.no, (.rd (.ld false 1 (h1 g5)) (h1 g6)), .no, (.rd (.ld false 1 (h1 g7)) (h1 g8)), .no, (.rd (.ld false 1 (h1 g9)) (h1 g10)), .no, (.rd (.ld false 1 (h1 g11)) (h1 g12)), .no, (.rd (.ld false 1 (h1 g13)) (h1 g14)), .no, .no, .no, .no, .no, .no, .no, .no, .no, .no] [.mk .none .yes (.fa 6 (h0 g1)) (.fa 6 (h0 g1)) (some (i1 s5)),
  .mk .none .yes (.ld false 1 (h1 g5)) (.ld false 1 (h1 g5)) (some (i1 s6)),
  .mk .none .yes (.fa 5 (h0 g1)) (.fa 5 (h0 g1)) (some (i1 s7)),
  .mk .none .yes (.ld false 1 (h1 g7)) (.ld false 1 (h1 g7)) (some (i1 s8)),
  .mk .none .yes (.fa 1 (h0 g1)) (.fa 1 (h0 g1)) (some (i1 s9)),
  .mk .none .yes (.ld false 1 (h1 g9)) (.ld false 1 (h1 g9)) (some (i1 s10)),
  .mk .none .yes (.fa 10 (h0 g1)) (.fa 10 (h0 g1)) (some (i1 s11)),
  .mk .none .yes (.ld false 1 (h1 g11)) (.ld false 1 (h1 g11)) (some (i1 s12)),
  .mk .none .yes (.fa 8 (h0 g1)) (.fa 8 (h0 g1)) (some (i1 s13)),
  .mk .none .yes (.ld false 1 (h1 g13)) (.ld false 1 (h1 g13)) (some (i1 s14)),
  .mk .none .yes (.fa 6 (h0 g3)) (.fa 6 (h0 g3)) (some (i1 s15)),
  .mk .none .no (.st 1 (h1 g15) (h1 g6) (G3 51 13 11)) (.st 1 (h1 g15) (h1 g6) (G3 51 13 11)) none,
  .mk .none .yes (.fa 5 (h0 g3)) (.fa 5 (h0 g3)) (some (i1 s16)),
  .mk .none .no (.st 1 (h1 g16) (h1 g8) (G3 51 13 13)) (.st 1 (h1 g16) (h1 g8) (G3 51 13 13)) none,
  .mk .none .yes (.fa 1 (h0 g3)) (.fa 1 (h0 g3)) (some (i1 s17)),
  .mk .none .no (.st 1 (h1 g17) (h1 g10) (G3 51 13 15)) (.st 1 (h1 g17) (h1 g10) (G3 51 13 15)) none,
  .mk .none .yes (.fa 10 (h0 g3)) (.fa 10 (h0 g3)) (some (i1 s18)),
  .mk .none .no (.st 1 (h1 g18) (h1 g12) (G3 51 13 17)) (.st 1 (h1 g18) (h1 g12) (G3 51 13 17)) none,
  .mk .none .yes (.fa 8 (h0 g3)) (.fa 8 (h0 g3)) (some (i1 s19)),
  .mk .none .no (.st 1 (h1 g19) (h1 g14) (G3 51 13 19)) (.st 1 (h1 g19) (h1 g14) (G3 51 13 19)) none])
 (.reg [.p (.mv (h0 g4)) (i1 s20),
  .p (.mv (h1 g20)) (i1 s21),
  .gp (h1 g21) true (.ld true 11 (h0 g1)) (i1 s22),
  .gp (h1 g21) true (.call 69 [(h1 g22)] (G3 51 14 3)) (i1 s23),
  .p (.pk (h1 g21) (h1 g23) (kc (.tc (.sc (.bool false))))) (i1 s24),
  .p (.mv (h1 g24)) (i1 s25),
  .gp (h1 g25) true (.ld true 11 (h0 g1)) (i1 s26),
  .gp (h1 g25) true (.call 70 [(h1 g26), (kc (.tc (.sc (.int .i64 14)))), (kc (.tc (.sc (.int .i64 1))))] (G3 51 14 7)) (i1 s27),
  .p (.pk (h1 g25) (h1 g27) (kc (.tc (.sc (.bool false))))) (i1 s28),
  .p (.mv (h1 g28)) (i0 s4)]))
 (.seq (.reg [.p (.bin .eql (h0 g23) (kc (.tc (.sc (.int .i64 4)))) (G3 51 15 0)) (i1 s30),
  .p (.mv (h1 g30)) (i1 s29)])
 (.cond (h1 g29) (.seq (.regD [0, 1, 0, 4, 0, 16, 0, 64, 3, 259, 783, 1807, 3903, 7999, 16383, 32767] [.no, (.rd (.ld false 1 (h1 g31)) (h1 g32)), .no, (.rd (.ld false 1 (h1 g33)) (h1 g34)), .no, (.rd (.ld false 1 (h1 g35)) (h1 g36)), .no, (.rd (.ld false 1 (h1 g37)) (h1 g38)), .no, .no, .no, .no, .no, .no, .no, .no] [.mk .none .yes (.fa 6 (h0 g1)) (.fa 6 (h0 g1)) (some (i1 s31)),
  .mk .none .yes (.ld false 1 (h1 g31)) (.ld false 1 (h1 g31)) (some (i1 s32)),
  .mk .none .yes (.fa 5 (h0 g1)) (.fa 5 (h0 g1)) (some (i1 s33)),
  .mk .none .yes (.ld false 1 (h1 g33)) (.ld false 1 (h1 g33)) (some (i1 s34)),
  .mk .none .yes (.fa 1 (h0 g1)) (.fa 1 (h0 g1)) (some (i1 s35)),
  .mk .none .yes (.ld false 1 (h1 g35)) (.ld false 1 (h1 g35)) (some (i1 s36)),
  .mk .none .yes (.fa 2 (h0 g1)) (.fa 2 (h0 g1)) (some (i1 s37)),
  .mk .none .yes (.ld false 1 (h1 g37)) (.ld false 1 (h1 g37)) (some (i1 s38)),
  .mk .none .yes (.fa 6 (h0 g3)) (.fa 6 (h0 g3)) (some (i1 s39)),
  .mk .none .no (.st 1 (h1 g39) (h1 g32) (G3 51 16 9)) (.st 1 (h1 g39) (h1 g32) (G3 51 16 9)) none,
  .mk .none .yes (.fa 5 (h0 g3)) (.fa 5 (h0 g3)) (some (i1 s40)),
  .mk .none .no (.st 1 (h1 g40) (h1 g34) (G3 51 16 11)) (.st 1 (h1 g40) (h1 g34) (G3 51 16 11)) none,
  .mk .none .yes (.fa 1 (h0 g3)) (.fa 1 (h0 g3)) (some (i1 s41)),
  .mk .none .no (.st 1 (h1 g41) (h1 g36) (G3 51 16 13)) (.st 1 (h1 g41) (h1 g36) (G3 51 16 13)) none,
  .mk .none .yes (.fa 2 (h0 g3)) (.fa 2 (h0 g3)) (some (i1 s42)),
  .mk .none .no (.st 1 (h1 g42) (h1 g38) (G3 51 16 15)) (.st 1 (h1 g42) (h1 g38) (G3 51 16 15)) none])
 (.reg [.p (.mv (h0 g4)) (i1 s43),
  .p (.mv (h1 g43)) (i1 s44),
  .gp (h1 g44) true (.ld true 11 (h0 g1)) (i1 s45),
  .gp (h1 g44) true (.call 69 [(h1 g45)] (G3 51 17 3)) (i1 s46),
  .p (.pk (h1 g44) (h1 g46) (kc (.tc (.sc (.bool false))))) (i1 s47),
  .p (.mv (h1 g47)) (i0 s4)]))
 (.seq (.reg [.p (.bin .eql (h0 g23) (kc (.tc (.sc (.int .i64 5)))) (G3 51 18 0)) (i1 s49),
  .p (.mv (h1 g49)) (i1 s48)])
 (.cond (h1 g48) (.seq (.regD [0, 1, 0, 4, 0, 16, 3, 67, 207, 463, 1023, 2047] [.no, (.rd (.ld false 1 (h1 g50)) (h1 g51)), .no, (.rd (.ld false 1 (h1 g52)) (h1 g53)), .no, (.rd (.ld false 1 (h1 g54)) (h1 g55)), .no, .no, .no, .no, .no, .no] [.mk .none .yes (.fa 1 (h0 g1)) (.fa 1 (h0 g1)) (some (i1 s50)),
  .mk .none .yes (.ld false 1 (h1 g50)) (.ld false 1 (h1 g50)) (some (i1 s51)),
  .mk .none .yes (.fa 2 (h0 g1)) (.fa 2 (h0 g1)) (some (i1 s52)),
  .mk .none .yes (.ld false 1 (h1 g52)) (.ld false 1 (h1 g52)) (some (i1 s53)),
  .mk .none .yes (.fa 3 (h0 g1)) (.fa 3 (h0 g1)) (some (i1 s54)),
  .mk .none .yes (.ld false 1 (h1 g54)) (.ld false 1 (h1 g54)) (some (i1 s55)),
  .mk .none .yes (.fa 1 (h0 g3)) (.fa 1 (h0 g3)) (some (i1 s56)),
  .mk .none .no (.st 1 (h1 g56) (h1 g51) (G3 51 19 7)) (.st 1 (h1 g56) (h1 g51) (G3 51 19 7)) none,
  .mk .none .yes (.fa 2 (h0 g3)) (.fa 2 (h0 g3)) (some (i1 s57)),
  .mk .none .no (.st 1 (h1 g57) (h1 g53) (G3 51 19 9)) (.st 1 (h1 g57) (h1 g53) (G3 51 19 9)) none,
  .mk .none .yes (.fa 3 (h0 g3)) (.fa 3 (h0 g3)) (some (i1 s58)),
  .mk .none .no (.st 1 (h1 g58) (h1 g55) (G3 51 19 11)) (.st 1 (h1 g58) (h1 g55) (G3 51 19 11)) none])
 (.reg [.p (.mv (h0 g4)) (i1 s59),
  .p (.mv (h1 g59)) (i1 s60),
  .gp (h1 g60) true (.fa 1 (h0 g1)) (i1 s61),
  .gp (h1 g60) true (.ld false 1 (h1 g61)) (i1 s62),
  .gp (h1 g60) true (.bin .lss (h1 g62) (kc (.tc (.sc (.int .u8 4)))) (G3 51 20 4)) (i1 s63),
  .p (.pk (h1 g60) (h1 g63) (kc (.tc (.sc (.bool false))))) (i2 s0),
  .p (.mv (h2 g0)) (i0 s4)]))
 (.seq (.reg [.p (.bin .eql (h0 g23) (kc (.tc (.sc (.int .i64 6)))) (G3 51 21 0)) (i2 s2),
  .p (.mv (h2 g2)) (i2 s1)])
 (.cond (h2 g1) (.seq (.regD [0, 1, 0, 4, 0, 16, 0, 64, 3, 259, 783, 1807, 3903, 7999, 16383, 32767] [.no, (.rd (.ld false 1 (h2 g3)) (h2 g4)), .no, (.rd (.ld false 1 (h2 g5)) (h2 g6)), .no, (.rd (.ld false 1 (h2 g7)) (h2 g8)), .no, (.rd (.ld false 1 (h2 g9)) (h2 g10)), .no, .no, .no, .no, .no, .no, .no, .no] [.mk .none .yes (.fa 1 (h0 g1)) (.fa 1 (h0 g1)) (some (i2 s3)),
  .mk .none .yes (.ld false 1 (h2 g3)) (.ld false 1 (h2 g3)) (some (i2 s4)),
  .mk .none .yes (.fa 2 (h0 g1)) (.fa 2 (h0 g1)) (some (i2 s5)),
  .mk .none .yes (.ld false 1 (h2 g5)) (.ld false 1 (h2 g5)) (some (i2 s6)),
  .mk .none .yes (.fa 10 (h0 g1)) (.fa 10 (h0 g1)) (some (i2 s7)),
  .mk .none .yes (.ld false 1 (h2 g7)) (.ld false 1 (h2 g7)) (some (i2 s8)),
  .mk .none .yes (.fa 8 (h0 g1)) (.fa 8 (h0 g1)) (some (i2 s9)),
  .mk .none .yes (.ld false 1 (h2 g9)) (.ld false 1 (h2 g9)) (some (i2 s10)),
  .mk .none .yes (.fa 1 (h0 g3)) (.fa 1 (h0 g3)) (some (i2 s11)),
  .mk .none .no (.st 1 (h2 g11) (h2 g4) (G3 51 22 9)) (.st 1 (h2 g11) (h2 g4) (G3 51 22 9)) none,
  .mk .none .yes (.fa 2 (h0 g3)) (.fa 2 (h0 g3)) (some (i2 s12)),
  .mk .none .no (.st 1 (h2 g12) (h2 g6) (G3 51 22 11)) (.st 1 (h2 g12) (h2 g6) (G3 51 22 11)) none,
  .mk .none .yes (.fa 10 (h0 g3)) (.fa 10 (h0 g3)) (some (i2 s13)),
  .mk .none .no (.st 1 (h2 g13) (h2 g8) (G3 51 22 13)) (.st 1 (h2 g13) (h2 g8) (G3 51 22 13)) none,
  .mk .none .yes (.fa 8 (h0 g3)) (.fa 8 (h0 g3)) (some (i2 s14)),
  .mk .none .no (.st 1 (h2 g14) (h2 g10) (G3 51 22 15)) (.st 1 (h2 g14) (h2 g10) (G3 51 22 15)) none])
 (.reg [.p (.mv (h0 g4)) (i2 s15),
  .p (.mv (h2 g15)) (i2 s16),
  .gp (h2 g16) true (.fa 1 (h0 g1)) (i2 s17),
  .gp (h2 g16) true (.ld false 1 (h2 g17)) (i2 s18),
  .gp (h2 g16) true (.bin .lss (h2 g18) (kc (.tc (.sc (.int .u8 4)))) (G3 51 23 4)) (i2 s19),
  .p (.pk (h2 g16) (h2 g19) (kc (.tc (.sc (.bool false))))) (i2 s20),
  .p (.mv (h2 g20)) (i2 s21),
  .gp (h2 g21) true (.ld true 11 (h0 g1)) (i2 s22),
  .gp (h2 g21) true (.call 70 [(h2 g22), (kc (.tc (.sc (.int .i64 14)))), (kc (.tc (.sc (.int .i64 1))))] (G3 51 23 8)) (i2 s23),
  .p (.pk (h2 g21) (h2 g23) (kc (.tc (.sc (.bool false))))) (i2 s24),
  .p (.mv (h2 g24)) (i0 s4)]))
 (.seq (.reg [.p (.bin .eql (h0 g23) (kc (.tc (.sc (.int .i64 7)))) (G3 51 24 0)) (i2 s26),
  .p (.mv (h2 g26)) (i2 s25)])
 (.cond (h2 g25) (.seq (.regD [0, 1, 0, 4, 0, 16, 0, 64, 3, 259, 783, 1807, 3903, 7999, 16383, 32767] [.no, (.rd (.ld false 1 (h2 g27)) (h2 g28)), .no, (.rd (.ld false 1 (h2 g29)) (h2 g30)), .no, (.rd (.ld false 1 (h2 g31)) (h2 g32)), .no, (.rd (.ld false 1 (h2 g33)) (h2 g34)), .no, .no, .no, .no, .no, .no, .no, .no] [.mk .none .yes (.fa 1 (h0 g1)) (.fa 1 (h0 g1)) (some (i2 s27)),
  .mk .none .yes (.ld false 1 (h2 g27)) (.ld false 1 (h2 g27)) (some (i2 s28)),
  .mk .none .yes (.fa 5 (h0 g1)) (.fa 5 (h0 g1)) (some (i2 s29)),
  .mk .none .yes (.ld false 1 (h2 g29)) (.ld false 1 (h2 g29)) (some (i2 s30)),
  .mk .none .yes (.fa 2 (h0 g1)) (.fa 2 (h0 g1)) (some (i2 s31)),
  .mk .none .yes (.ld false 1 (h2 g31)) (.ld false 1 (h2 g31)) (some (i2 s32)),
  .mk .none .yes (.fa 3 (h0 g1)) (.fa 3 (h0 g1)) (some (i2 s33)),
  .mk .none .yes (.ld false 1 (h2 g33)) (.ld false 1 (h2 g33)) (some (i2 s34)),
  .mk .none .yes (.fa 1 (h0 g3)) (.fa 1 (h0 g3)) (some (i2 s35)),
  .mk .none .no (.st 1 (h2 g35) (h2 g28) (G3 51 25 9)) (.st 1 (h2 g35) (h2 g28) (G3 51 25 9)) none,
  .mk .none .yes (.fa 5 (h0 g3)) (.fa 5 (h0 g3)) (some (i2 s36)),
  .mk .none .no (.st 1 (h2 g36) (h2 g30) (G3 51 25 11)) (.st 1 (h2 g36) (h2 g30) (G3 51 25 11)) none,
  .mk .none .yes (.fa 2 (h0 g3)) (.fa 2 (h0 g3)) (some (i2 s37)),
  .mk .none .no (.st 1 (h2 g37) (h2 g32) (G3 51 25 13)) (.st 1 (h2 g37) (h2 g32) (G3 51 25 13)) none,
  .mk .none .yes (.fa 3 (h0 g3)) (.fa 3 (h0 g3)) (some (i2 s38)),
  .mk .none .no (.st 1 (h2 g38) (h2 g34) (G3 51 25 15)) (.st 1 (h2 g38) (h2 g34) (G3 51 25 15)) none])
 (.reg [.p (.mv (h0 g4)) (i2 s39),
  .p (.mv (h2 g39)) (i2 s40),
  .gp (h2 g40) true (.fa 5 (h0 g1)) (i2 s41),
  .gp (h2 g40) true (.ld false 1 (h2 g41)) (i2 s42),
  .gp (h2 g40) true (.bin .lss (h2 g42) (kc (.tc (.sc (.int .u8 4)))) (G3 51 26 4)) (i2 s43),
  .p (.pk (h2 g40) (h2 g43) (kc (.tc (.sc (.bool false))))) (i2 s44),
  .p (.mv (h2 g44)) (i0 s4)]))
 (.seq (.reg [.p (.bin .eql (h0 g23) (kc (.tc (.sc (.int .i64 8)))) (G3 51 27 0)) (i2 s46),
  .p (.mv (h2 g46)) (i2 s45)])
 (.cond (h2 g45) (.seq (.regD [0, 1, 0, 4, 0, 16, 3, 67, 207, 463, 1023, 2047] [.no, (.rd (.ld false 1 (h2 g47)) (h2 g48)), .no, (.rd (.ld false 1 (h2 g49)) (h2 g50)), .no, (.rd (.ld false 1 (h2 g51)) (h2 g52)), .no, .no, .no, .no, .no, .no] [.mk .none .yes (.fa 1 (h0 g1)) (.fa 1 (h0 g1)) (some (i2 s47)),
  .mk .none .yes (.ld false 1 (h2 g47)) (.ld false 1 (h2 g47)) (some (i2 s48)),
  .mk .none .yes (.fa 2 (h0 g1)) (.fa 2 (h0 g1)) (some (i2 s49)),
  .mk .none .yes (.ld false 1 (h2 g49)) (.ld false 1 (h2 g49)) (some (i2 s50)),
  .mk .none .yes (.fa 10 (h0 g1)) (.fa 10 (h0 g1)) (some (i2 s51)),
  .mk .none .yes (.ld false 1 (h2 g51)) (.ld false 1 (h2 g51)) (some (i2 s52)),
  .mk .none .yes (.fa 1 (h0 g3)) (.fa 1 (h0 g3)) (some (i2 s53)),
  .mk .none .no (.st 1 (h2 g53) (h2 g48) (G3 51 28 7)) (.st 1 (h2 g53) (h2 g48) (G3 51 28 7)) none,
  .mk .none .yes (.fa 2 (h0 g3)) (.fa 2 (h0 g3)) (some (i2 s54)),
  .mk .none .no (.st 1 (h2 g54) (h2 g50) (G3 51 28 9)) (.st 1 (h2 g54) (h2 g50) (G3 51 28 9)) none,
  .mk .none .yes (.fa 10 (h0 g3)) (.fa 10 (h0 g3)) (some (i2 s55)),
  .mk .none .no (.st 1 (h2 g55) (h2 g52) (G3 51 28 11)) (.st 1 (h2 g55) (h2 g52) (G3 51 28 11)) none])
 (.reg [.p (.mv (h0 g4)) (i2 s56),
  .p (.mv (h2 g56)) (i2 s57),
  .gp (h2 g57) true (.fa 10 (h0 g1)) (i2 s58),
  .gp (h2 g57) true (.ld false 1 (h2 g58)) (i2 s59),
  .gp (h2 g57) true (.bin .geq (h2 g59) (kc (.tc (.sc (.int .i64 0)))) (G3 51 29 4)) (i2 s60),
  .p (.pk (h2 g57) (h2 g60) (kc (.tc (.sc (.bool false))))) (i2 s61),
  .p (.mv (h2 g61)) (i2 s62),
  .gp (h2 g62) true (.fa 10 (h0 g1)) (i2 s63),
  .gp (h2 g62) true (.ld false 1 (h2 g63)) (i3 s0),
  .gp (h2 g62) true (.bin .lss (h3 g0) (kc (.tc (.sc (.int .i64 32)))) (G3 51 29 9)) (i3 s1),
  .p (.pk (h2 g62) (h3 g1) (kc (.tc (.sc (.bool false))))) (i3 s2),
  .p (.mv (h3 g2)) (i0 s4)]))
 (.seq (.reg [.p (.bin .eql (h0 g23) (kc (.tc (.sc (.int .i64 9)))) (G3 51 30 0)) (i3 s4),
  .p (.mv (h3 g4)) (i3 s3)])
 (.cond (h3 g3) (.regD [0, 1, 0, 4, 0, 16, 3, 67, 207, 463, 1023, 2047] [.no, (.rd (.ld false 1 (h3 g5)) (h3 g6)), .no, (.rd (.ld false 1 (h3 g7)) (h3 g8)), .no, (.rd (.ld false 1 (h3 g9)) (h3 g10)), .no, .no, .no, .no, .no, .no] [.mk .none .yes (.fa 1 (h0 g1)) (.fa 1 (h0 g1)) (some (i3 s5)),
  .mk .none .yes (.ld false 1 (h3 g5)) (.ld false 1 (h3 g5)) (some (i3 s6)),
  .mk .none .yes (.fa 2 (h0 g1)) (.fa 2 (h0 g1)) (some (i3 s7)),
  .mk .none .yes (.ld false 1 (h3 g7)) (.ld false 1 (h3 g7)) (some (i3 s8)),
  .mk .none .yes (.fa 3 (h0 g1)) (.fa 3 (h0 g1)) (some (i3 s9)),
  .mk .none .yes (.ld false 1 (h3 g9)) (.ld false 1 (h3 g9)) (some (i3 s10)),
  .mk .none .yes (.fa 1 (h0 g3)) (.fa 1 (h0 g3)) (some (i3 s11)),
  .mk .none .no (.st 1 (h3 g11) (h3 g6) (G3 51 31 7)) (.st 1 (h3 g11) (h3 g6) (G3 51 31 7)) none,
  .mk .none .yes (.fa 2 (h0 g3)) (.fa 2 (h0 g3)) (some (i3 s12)),
  .mk .none .no (.st 1 (h3 g12) (h3 g8) (G3 51 31 9)) (.st 1 (h3 g12) (h3 g8) (G3 51 31 9)) none,
  .mk .none .yes (.fa 3 (h0 g3)) (.fa 3 (h0 g3)) (some (i3 s13)),
  .mk .none .no (.st 1 (h3 g13) (h3 g10) (G3 51 31 11)) (.st 1 (h3 g13) (h3 g10) (G3 51 31 11)) none])
 (.seq (.reg [.p (.bin .eql (h0 g23) (kc (.tc (.sc (.int .i64 10)))) (G3 51 32 0)) (i3 s15),
  .p (.mv (h3 g15)) (i3 s14)])
 (.cond (h3 g14) (.seq (.regD [0, 1, 0, 4, 0, 16, 0, 64, 3, 259, 783, 1807, 3903, 7999, 16383, 32767] [.no, (.rd (.ld false 1 (h3 g16)) (h3 g17)), .no, (.rd (.ld false 1 (h3 g18)) (h3 g19)), .no, (.rd (.ld false 1 (h3 g20)) (h3 g21)), .no, (.rd (.ld false 1 (h3 g22)) (h3 g23)), .no, .no, .no, .no, .no, .no, .no, .no] [.mk .none .yes (.fa 1 (h0 g1)) (.fa 1 (h0 g1)) (some (i3 s16)),
  .mk .none .yes (.ld false 1 (h3 g16)) (.ld false 1 (h3 g16)) (some (i3 s17)),
  .mk .none .yes (.fa 2 (h0 g1)) (.fa 2 (h0 g1)) (some (i3 s18)),
  .mk .none .yes (.ld false 1 (h3 g18)) (.ld false 1 (h3 g18)) (some (i3 s19)),
  .mk .none .yes (.fa 10 (h0 g1)) (.fa 10 (h0 g1)) (some (i3 s20)),
  .mk .none .yes (.ld false 1 (h3 g20)) (.ld false 1 (h3 g20)) (some (i3 s21)),
  .mk .none .yes (.fa 8 (h0 g1)) (.fa 8 (h0 g1)) (some (i3 s22)),
  .mk .none .yes (.ld false 1 (h3 g22)) (.ld false 1 (h3 g22)) (some (i3 s23)),
  .mk .none .yes (.fa 1 (h0 g3)) (.fa 1 (h0 g3)) (some (i3 s24)),
  .mk .none .no (.st 1 (h3 g24) (h3 g17) (G3 51 33 9)) (.st 1 (h3 g24) (h3 g17) (G3 51 33 9)) none,
  .mk .none .yes (.fa 2 (h0 g3)) (.fa 2 (h0 g3)) (some (i3 s25)),
  .mk .none .no (.st 1 (h3 g25) (h3 g19) (G3 51 33 11)) (.st 1 (h3 g25) (h3 g19) (G3 51 33 11)) none,
  .mk .none .yes (.fa 10 (h0 g3)) (.fa 10 (h0 g3)) (some (i3 s26)),
  .mk .none .no (.st 1 (h3 g26) (h3 g21) (G3 51 33 13)) (.st 1 (h3 g26) (h3 g21) (G3 51 33 13)) none,
  .mk .none .yes (.fa 8 (h0 g3)) (.fa 8 (h0 g3)) (some (i3 s27)),
  .mk .none .no (.st 1 (h3 g27) (h3 g23) (G3 51 33 15)) (.st 1 (h3 g27) (h3 g23) (G3 51 33 15)) none])
 (.regD [0, 1, 3, 3, 11, 27, 63, 127, 255] [.no, .no, (.rd (.ld true 11 (h0 g1)) (h3 g30)), .no, (.rd (.ld false 1 (h3 g31)) (h3 g32)), .no, .no, .no, .no] [.mk .none .yes (.mv (h0 g4)) (.mv (h0 g4)) (some (i3 s28)),
  .mk .none .yes (.mv (h3 g28)) (.mv (h3 g28)) (some (i3 s29)),
  .mk (.on (h3 g29) true) .yes (.ld true 11 (h0 g1)) (.ld true 11 (h0 g1)) (some (i3 s30)),
  .mk (.on (h3 g29) true) .yes (.fa 0 (h0 g1)) (.fa 0 (h0 g1)) (some (i3 s31)),
  .mk (.on (h3 g29) true) .yes (.ld false 1 (h3 g31)) (.ld false 1 (h3 g31)) (some (i3 s32)),
  .mk (.on (h3 g29) true) (.dyn 71 [(h3 g32)]) (.call 71 [(h3 g32)] (G3 51 34 5)) (.call 71 [(h3 g32)] (G3 51 34 5)) (some (i3 s33)),
  .mk (.on (h3 g29) true) (.dyn 70 [(h3 g30), (kc (.tc (.sc (.int .i64 12)))), (h3 g33)]) (.call 70 [(h3 g30), (kc (.tc (.sc (.int .i64 12)))), (h3 g33)] (G3 51 34 6)) (.call 70 [(h3 g30), (kc (.tc (.sc (.int .i64 12)))), (h3 g33)] (G3 51 34 6)) (some (i3 s34)),
  .mk .none .yes (.pk (h3 g29) (h3 g34) (kc (.tc (.sc (.bool false))))) (.pk (h3 g29) (h3 g34) (kc (.tc (.sc (.bool false))))) (some (i3 s35)),
  .mk .none .yes (.mv (h3 g35)) (.mv (h3 g35)) (some (i0 s4))]))
 (.seq (.reg [.p (.bin .eql (h0 g23) (kc (.tc (.sc (.int .i64 11)))) (G3 51 35 0)) (i3 s37),
  .p (.mv (h3 g37)) (i3 s36)])
 (.cond (h3 g36) (.seq (.regD [0, 1, 0, 4, 0, 16, 0, 64, 0, 256, 3, 1027, 3087, 7183, 15423, 31807, 64767, 130303, 262143, 524287] [.no, (.rd (.ld false 1 (h3 g38)) (h3 g39)), .no, (.rd (.ld false 1 (h3 g40)) (h3 g41)), .no, (.rd (.ld false 1 (h3 g42)) (h3 g43)), .no, (.rd (.ld false 1 (h3 g44)) (h3 g45)), .no, (.rd (.ld false 1 (h3 g46)) (h3 g47)), .no, .no, .no, .no, .no, .no, .no, .no, .no, .no] [.mk .none .yes (.fa 2 (h0 g1)) (.fa 2 (h0 g1)) (some (i3 s38)),
  .mk .none .yes (.ld false 1 (h3 g38)) (.ld false 1 (h3 g38)) (some (i3 s39)),
  .mk .none .yes (.fa 3 (h0 g1)) (.fa 3 (h0 g1)) (some (i3 s40)),
  .mk .none .yes (.ld false 1 (h3 g40)) (.ld false 1 (h3 g40)) (some (i3 s41)),
  .mk .none .yes (.fa 7 (h0 g1)) (.fa 7 (h0 g1)) (some (i3 s42)),
  .mk .none .yes (.ld false 1 (h3 g42)) (.ld false 1 (h3 g42)) (some (i3 s43)),
  .mk .none .yes (.fa 10 (h0 g1)) (.fa 10 (h0 g1)) (some (i3 s44)),
  .mk .none .yes (.ld false 1 (h3 g44)) (.ld false 1 (h3 g44)) (some (i3 s45)),
  .mk .none .yes (.fa 8 (h0 g1)) (.fa 8 (h0 g1)) (some (i3 s46)),
  .mk .none .yes (.ld false 1 (h3 g46)) (.ld false 1 (h3 g46)) (some (i3 s47)),
  .mk .none .yes (.fa 2 (h0 g3)) (.fa 2 (h0 g3)) (some (i3 s48)),
  .mk .none .no (.st 1 (h3 g48) (h3 g39) (G3 51 36 11)) (.st 1 (h3 g48) (h3 g39) (G3 51 36 11)) none,
  .mk .none .yes (.fa 3 (h0 g3)) (.fa 3 (h0 g3)) (some (i3 s49)),
  .mk .none .no (.st 1 (h3 g49) (h3 g41) (G3 51 36 13)) (.st 1 (h3 g49) (h3 g41) (G3 51 36 13)) none,
  .mk .none .yes (.fa 7 (h0 g3)) (.fa 7 (h0 g3)) (some (i3 s50)),
  .mk .none .no (.st 1 (h3 g50) (h3 g43) (G3 51 36 15)) (.st 1 (h3 g50) (h3 g43) (G3 51 36 15)) none,
  .mk .none .yes (.fa 10 (h0 g3)) (.fa 10 (h0 g3)) (some (i3 s51)),
  .mk .none .no (.st 1 (h3 g51) (h3 g45) (G3 51 36 17)) (.st 1 (h3 g51) (h3 g45) (G3 51 36 17)) none,
  .mk .none .yes (.fa 8 (h0 g3)) (.fa 8 (h0 g3)) (some (i3 s52)),
  .mk .none .no (.st 1 (h3 g52) (h3 g47) (G3 51 36 19)) (.st 1 (h3 g52) (h3 g47) (G3 51 36 19)) none])
 (.regD [0, 1, 3, 3, 11, 27, 63, 127, 255] [.no, .no, (.rd (.ld true 11 (h0 g1)) (h3 g55)), .no, (.rd (.ld false 1 (h3 g56)) (h3 g57)), .no, .no, .no, .no] [.mk .none .yes (.mv (h0 g4)) (.mv (h0 g4)) (some (i3 s53)),
  .mk .none .yes (.mv (h3 g53)) (.mv (h3 g53)) (some (i3 s54)),
  .mk (.on (h3 g54) true) .yes (.ld true 11 (h0 g1)) (.ld true 11 (h0 g1)) (some (i3 s55)),
  .mk (.on (h3 g54) true) .yes (.fa 0 (h0 g1)) (.fa 0 (h0 g1)) (some (i3 s56)),
  .mk (.on (h3 g54) true) .yes (.ld false 1 (h3 g56)) (.ld false 1 (h3 g56)) (some (i3 s57)),
  .mk (.on (h3 g54) true) (.dyn 71 [(h3 g57)]) (.call 71 [(h3 g57)] (G3 51 37 5)) (.call 71 [(h3 g57)] (G3 51 37 5)) (some (i3 s58)),
  .mk (.on (h3 g54) true) (.dyn 70 [(h3 g55), (kc (.tc (.sc (.int .i64 12)))), (h3 g58)]) (.call 70 [(h3 g55), (kc (.tc (.sc (.int .i64 12)))), (h3 g58)] (G3 51 37 6)) (.call 70 [(h3 g55), (kc (.tc (.sc (.int .i64 12)))), (h3 g58)] (G3 51 37 6)) (some (i3 s59)),
  .mk .none .yes (.pk (h3 g54) (h3 g59) (kc (.tc (.sc (.bool false))))) (.pk (h3 g54) (h3 g59) (kc (.tc (.sc (.bool false))))) (some (i3 s60)),
  .mk .none .yes (.mv (h3 g60)) (.mv (h3 g60)) (some (i0 s4))]))
 (.seq (.reg [.p (.bin .eql (h0 g23) (kc (.tc (.sc (.int .i64 12)))) (G3 51 38 0)) (i3 s62),
  .p (.mv (h3 g62)) (i3 s61)])
 (.cond (h3 g61) (.seq (.regD [0, 1, 0, 4, 0, 16, 0, 64, 3, 259, 783, 1807, 3903, 7999, 16383, 32767] [.no, (.rd (.ld false 1 (h3 g63)) (h4 g0)), .no, (.rd (.ld false 1 (h4 g1)) (h4 g2)), .no, (.rd (.ld false 1 (h4 g3)) (h4 g4)), .no, (.rd (.ld false 1 (h4 g5)) (h4 g6)), .no, .no, .no, .no, .no, .no, .no, .no] [.mk .none .yes (.fa 6 (h0 g1)) (.fa 6 (h0 g1)) (some (i3 s63)),
  .mk .none .yes (.ld false 1 (h3 g63)) (.ld false 1 (h3 g63)) (some (i4 s0)),
  .mk .none .yes (.fa 5 (h0 g1)) (.fa 5 (h0 g1)) (some (i4 s1)),
  .mk .none .yes (.ld false 1 (h4 g1)) (.ld false 1 (h4 g1)) (some (i4 s2)),
  .mk .none .yes (.fa 10 (h0 g1)) (.fa 10 (h0 g1)) (some (i4 s3)),
  .mk .none .yes (.ld false 1 (h4 g3)) (.ld false 1 (h4 g3)) (some (i4 s4)),
  .mk .none .yes (.fa 8 (h0 g1)) (.fa 8 (h0 g1)) (some (i4 s5)),
  .mk .none .yes (.ld false 1 (h4 g5)) (.ld false 1 (h4 g5)) (some (i4 s6)),
  .mk .none .yes (.fa 6 (h0 g3)) (.fa 6 (h0 g3)) (some (i4 s7)),
  .mk .none .no (.st 1 (h4 g7) (h4 g0) (G3 51 39 9)) (.st 1 (h4 g7) (h4 g0) (G3 51 39 9)) none,
  .mk .none .yes (.fa 5 (h0 g3)) (.fa 5 (h0 g3)) (some (i4 s8)),
  .mk .none .no (.st 1 (h4 g8) (h4 g2) (G3 51 39 11)) (.st 1 (h4 g8) (h4 g2) (G3 51 39 11)) none,
  .mk .none .yes (.fa 10 (h0 g3)) (.fa 10 (h0 g3)) (some (i4 s9)),
  .mk .none .no (.st 1 (h4 g9) (h4 g4) (G3 51 39 13)) (.st 1 (h4 g9) (h4 g4) (G3 51 39 13)) none,
  .mk .none .yes (.fa 8 (h0 g3)) (.fa 8 (h0 g3)) (some (i4 s10)),
  .mk .none .no (.st 1 (h4 g10) (h4 g6) (G3 51 39 15)) (.st 1 (h4 g10) (h4 g6) (G3 51 39 15)) none])
 (.reg [.p (.mv (h0 g4)) (i4 s11),
  .p (.mv (h4 g11)) (i4 s12),
  .gp (h4 g12) true (.ld true 11 (h0 g1)) (i4 s13),
  .gp (h4 g12) true (.call 69 [(h4 g13)] (G3 51 40 3)) (i4 s14),
  .p (.pk (h4 g12) (h4 g14) (kc (.tc (.sc (.bool false))))) (i4 s15),
  .p (.mv (h4 g15)) (i4 s16),
  .gp (h4 g16) true (.fa 10 (h0 g1)) (i4 s17),
  .gp (h4 g16) true (.ld false 1 (h4 g17)) (i4 s18),
  .gp (h4 g16) true (.call 72 [(h4 g18)] (G3 51 40 8)) (i4 s19),
  .p (.pk (h4 g16) (h4 g19) (kc (.tc (.sc (.bool false))))) (i4 s20),
  .p (.mv (h4 g20)) (i0 s4)]))
 (.seq (.reg [.p (.bin .eql (h0 g23) (kc (.tc (.sc (.int .i64 13)))) (G3 51 41 0)) (i4 s22),
  .p (.mv (h4 g22)) (i4 s21)])
 (.cond (h4 g21) (.seq (.regD [0, 1, 0, 4, 0, 16, 3, 67, 207, 463, 1023, 2047] [.no, (.rd (.ld false 1 (h4 g23)) (h4 g24)), .no, (.rd (.ld false 1 (h4 g25)) (h4 g26)), .no, (.rd (.ld false 1 (h4 g27)) (h4 g28)), .no, .no, .no, .no, .no, .no] [.mk .none .yes (.fa 6 (h0 g1)) (.fa 6 (h0 g1)) (some (i4 s23)),
  .mk .none .yes (.ld false 1 (h4 g23)) (.ld false 1 (h4 g23)) (some (i4 s24)),
  .mk .none .yes (.fa 5 (h0 g1)) (.fa 5 (h0 g1)) (some (i4 s25)),
  .mk .none .yes (.ld false 1 (h4 g25)) (.ld false 1 (h4 g25)) (some (i4 s26)),
  .mk .none .yes (.fa 2 (h0 g1)) (.fa 2 (h0 g1)) (some (i4 s27)),
  .mk .none .yes (.ld false 1 (h4 g27)) (.ld false 1 (h4 g27)) (some (i4 s28)),
  .mk .none .yes (.fa 6 (h0 g3)) (.fa 6 (h0 g3)) (some (i4 s29)),
  .mk .none .no (.st 1 (h4 g29) (h4 g24) (G3 51 42 7)) (.st 1 (h4 g29) (h4 g24) (G3 51 42 7)) none,
  .mk .none .yes (.fa 5 (h0 g3)) (.fa 5 (h0 g3)) (some (i4 s30)),
  .mk .none .no (.st 1 (h4 g30) (h4 g26) (G3 51 42 9)) (.st 1 (h4 g30) (h4 g26) (G3 51 42 9)) none,
  .mk .none .yes (.fa 2 (h0 g3)) (.fa 2 (h0 g3)) (some (i4 s31)),
  .mk .none .no (.st 1 (h4 g31) (h4 g28) (G3 51 42 11)) (.st 1 (h4 g31) (h4 g28) (G3 51 42 11)) none])
 (.reg [.p (.mv (h0 g4)) (i4 s32),
  .p (.mv (h4 g32)) (i4 s33),
  .gp (h4 g33) true (.ld true 11 (h0 g1)) (i4 s34),
  .gp (h4 g33) true (.call 69 [(h4 g34)] (G3 51 43 3)) (i4 s35),
  .p (.pk (h4 g33) (h4 g35) (kc (.tc (.sc (.bool false))))) (i4 s36),
  .p (.mv (h4 g36)) (i0 s4)]))
 (.seq (.reg [.p (.bin .eql (h0 g23) (kc (.tc (.sc (.int .i64 14)))) (G3 51 44 0)) (i4 s38),
  .p (.mv (h4 g38)) (i4 s37)])
 (.cond (h4 g37) (.seq (.regD [0, 1, 0, 4, 3, 19, 63, 127] [.no, (.rd (.ld false 1 (h4 g39)) (h4 g40)), .no, (.rd (.ld false 1 (h4 g41)) (h4 g42)), .no, .no, .no, .no] [.mk .none .yes (.fa 10 (h0 g1)) (.fa 10 (h0 g1)) (some (i4 s39)),
  .mk .none .yes (.ld false 1 (h4 g39)) (.ld false 1 (h4 g39)) (some (i4 s40)),
  .mk .none .yes (.fa 8 (h0 g1)) (.fa 8 (h0 g1)) (some (i4 s41)),
  .mk .none .yes (.ld false 1 (h4 g41)) (.ld false 1 (h4 g41)) (some (i4 s42)),
  .mk .none .yes (.fa 10 (h0 g3)) (.fa 10 (h0 g3)) (some (i4 s43)),
  .mk .none .no (.st 1 (h4 g43) (h4 g40) (G3 51 45 5)) (.st 1 (h4 g43) (h4 g40) (G3 51 45 5)) none,
  .mk .none .yes (.fa 8 (h0 g3)) (.fa 8 (h0 g3)) (some (i4 s44)),
  .mk .none .no (.st 1 (h4 g44) (h4 g42) (G3 51 45 7)) (.st 1 (h4 g44) (h4 g42) (G3 51 45 7)) none])
 (.reg [.p (.mv (h0 g4)) (i4 s45),
  .p (.mv (h4 g45)) (i4 s46),
  .gp (h4 g46) true (.fa 10 (h0 g1)) (i4 s47),
  .gp (h4 g46) true (.ld false 1 (h4 g47)) (i4 s48),
  .gp (h4 g46) true (.call 72 [(h4 g48)] (G3 51 46 4)) (i4 s49),
  .p (.pk (h4 g46) (h4 g49) (kc (.tc (.sc (.bool false))))) (i4 s50),
  .p (.mv (h4 g50)) (i0 s4)]))
 (.seq (.reg [.p (.bin .eql (h0 g23) (kc (.tc (.sc (.int .i64 15)))) (G3 51 47 0)) (i4 s52),
  .p (.mv (h4 g52)) (i4 s51)])
 (.cond (h4 g51) (.seq (.regD [0, 1, 0, 4, 0, 16, 0, 64, 3, 259, 783, 1807, 3903, 7999, 16383, 32767] [.no, (.rd (.ld false 1 (h4 g53)) (h4 g54)), .no, (.rd (.ld false 1 (h4 g55)) (h4 g56)), .no, (.rd (.ld false 1 (h4 g57)) (h4 g58)), .no, (.rd (.ld false 1 (h4 g59)) (h4 g60)), .no, .no, .no, .no, .no, .no, .no, .no] [.mk .none .yes (.fa 4 (h0 g1)) (.fa 4 (h0 g1)) (some (i4 s53)),
  .mk .none .yes (.ld false 1 (h4 g53)) (.ld false 1 (h4 g53)) (some (i4 s54)),
  .mk .none .yes (.fa 10 (h0 g1)) (.fa 10 (h0 g1)) (some (i4 s55)),
  .mk .none .yes (.ld false 1 (h4 g55)) (.ld false 1 (h4 g55)) (some (i4 s56)),
  .mk .none .yes (.fa 8 (h0 g1)) (.fa 8 (h0 g1)) (some (i4 s57)),
  .mk .none .yes (.ld false 1 (h4 g57)) (.ld false 1 (h4 g57)) (some (i4 s58)),
  .mk .none .yes (.fa 9 (h0 g1)) (.fa 9 (h0 g1)) (some (i4 s59)),
  .mk .none .yes (.ld false 1 (h4 g59)) (.ld false 1 (h4 g59)) (some (i4 s60)),
  .mk .none .yes (.fa 4 (h0 g3)) (.fa 4 (h0 g3)) (some (i4 s61)),
  .mk .none .no (.st 1 (h4 g61) (h4 g54) (G3 51 48 9)) (.st 1 (h4 g61) (h4 g54) (G3 51 48 9)) none,
  .mk .none .yes (.fa 10 (h0 g3)) (.fa 10 (h0 g3)) (some (i4 s62)),
  .mk .none .no (.st 1 (h4 g62) (h4 g56) (G3 51 48 11)) (.st 1 (h4 g62) (h4 g56) (G3 51 48 11)) none,
  .mk .none .yes (.fa 8 (h0 g3)) (.fa 8 (h0 g3)) (some (i4 s63)),
  .mk .none .no (.st 1 (h4 g63) (h4 g58) (G3 51 48 13)) (.st 1 (h4 g63) (h4 g58) (G3 51 48 13)) none,
  .mk .none .yes (.fa 9 (h0 g3)) (.fa 9 (h0 g3)) (some (i5 s0)),
  .mk .none .no (.st 1 (h5 g0) (h4 g60) (G3 51 48 15)) (.st 1 (h5 g0) (h4 g60) (G3 51 48 15)) none])
 (.reg [.p (.mv (h0 g4)) (i5 s1),
  .p (.mv (h5 g1)) (i5 s2),
  .gp (h5 g2) true (.fa 4 (h0 g1)) (i5 s3),
  .gp (h5 g2) true (.ld false 1 (h5 g3)) (i5 s4),
  .gp (h5 g2) true (.bin .lss (h5 g4) (kc (.tc (.sc (.int .u8 2)))) (G3 51 49 4)) (i5 s5),
  .p (.pk (h5 g2) (h5 g5) (kc (.tc (.sc (.bool false))))) (i5 s6),
  .p (.mv (h5 g6)) (i5 s7),
  .gp (h5 g7) true (.fa 10 (h0 g1)) (i5 s8),
  .gp (h5 g7) true (.ld false 1 (h5 g8)) (i5 s9),
  .gp (h5 g7) true (.call 72 [(h5 g9)] (G3 51 49 9)) (i5 s10),
  .p (.pk (h5 g7) (h5 g10) (kc (.tc (.sc (.bool false))))) (i5 s11),
  .p (.mv (h5 g11)) (i5 s12),
  .gp (h5 g12) true (.fa 9 (h0 g1)) (i5 s13),
  .gp (h5 g12) true (.ld false 1 (h5 g13)) (i5 s14),
  .gp (h5 g12) true (.bin .lss (h5 g14) (kc (.tc (.sc (.int .u16 2048)))) (G3 51 49 14)) (i5 s15),
  .p (.pk (h5 g12) (h5 g15) (kc (.tc (.sc (.bool false))))) (i5 s16),
  .p (.mv (h5 g16)) (i0 s4)]))
 (.seq (.reg [.p (.bin .eql (h0 g23) (kc (.tc (.sc (.int .i64 16)))) (G3 51 50 0)) (i5 s18),
  .p (.mv (h5 g18)) (i5 s17)])
 (.cond (h5 g17) (.seq (.regD [0, 1, 0, 4, 0, 16, 0, 64, 3, 259, 783, 1807, 3903, 7999, 16383, 32767] [.no, (.rd (.ld false 1 (h5 g19)) (h5 g20)), .no, (.rd (.ld false 1 (h5 g21)) (h5 g22)), .no, (.rd (.ld false 1 (h5 g23)) (h5 g24)), .no, (.rd (.ld false 1 (h5 g25)) (h5 g26)), .no, .no, .no, .no, .no, .no, .no, .no] [.mk .none .yes (.fa 4 (h0 g1)) (.fa 4 (h0 g1)) (some (i5 s19)),
  .mk .none .yes (.ld false 1 (h5 g19)) (.ld false 1 (h5 g19)) (some (i5 s20)),
  .mk .none .yes (.fa 10 (h0 g1)) (.fa 10 (h0 g1)) (some (i5 s21)),
  .mk .none .yes (.ld false 1 (h5 g21)) (.ld false 1 (h5 g21)) (some (i5 s22)),
  .mk .none .yes (.fa 8 (h0 g1)) (.fa 8 (h0 g1)) (some (i5 s23)),
  .mk .none .yes (.ld false 1 (h5 g23)) (.ld false 1 (h5 g23)) (some (i5 s24)),
  .mk .none .yes (.fa 2 (h0 g1)) (.fa 2 (h0 g1)) (some (i5 s25)),
  .mk .none .yes (.ld false 1 (h5 g25)) (.ld false 1 (h5 g25)) (some (i5 s26)),
  .mk .none .yes (.fa 4 (h0 g3)) (.fa 4 (h0 g3)) (some (i5 s27)),
  .mk .none .no (.st 1 (h5 g27) (h5 g20) (G3 51 51 9)) (.st 1 (h5 g27) (h5 g20) (G3 51 51 9)) none,
  .mk .none .yes (.fa 10 (h0 g3)) (.fa 10 (h0 g3)) (some (i5 s28)),
  .mk .none .no (.st 1 (h5 g28) (h5 g22) (G3 51 51 11)) (.st 1 (h5 g28) (h5 g22) (G3 51 51 11)) none,
  .mk .none .yes (.fa 8 (h0 g3)) (.fa 8 (h0 g3)) (some (i5 s29)),
  .mk .none .no (.st 1 (h5 g29) (h5 g24) (G3 51 51 13)) (.st 1 (h5 g29) (h5 g24) (G3 51 51 13)) none,
  .mk .none .yes (.fa 2 (h0 g3)) (.fa 2 (h0 g3)) (some (i5 s30)),
  .mk .none .no (.st 1 (h5 g30) (h5 g26) (G3 51 51 15)) (.st 1 (h5 g30) (h5 g26) (G3 51 51 15)) none])
 (.reg [.p (.mv (h0 g4)) (i5 s31),
  .p (.mv (h5 g31)) (i5 s32),
  .gp (h5 g32) true (.fa 4 (h0 g1)) (i5 s33),
  .gp (h5 g32) true (.ld false 1 (h5 g33)) (i5 s34),
  .gp (h5 g32) true (.bin .lss (h5 g34) (kc (.tc (.sc (.int .u8 2)))) (G3 51 52 4)) (i5 s35),
  .p (.pk (h5 g32) (h5 g35) (kc (.tc (.sc (.bool false))))) (i5 s36),
  .p (.mv (h5 g36)) (i5 s37),
  .gp (h5 g37) true (.fa 10 (h0 g1)) (i5 s38),
  .gp (h5 g37) true (.ld false 1 (h5 g38)) (i5 s39),
  .gp (h5 g37) true (.call 72 [(h5 g39)] (G3 51 52 9)) (i5 s40),
  .p (.pk (h5 g37) (h5 g40) (kc (.tc (.sc (.bool false))))) (i5 s41),
  .p (.mv (h5 g41)) (i0 s4)]))
 .skip))))))))))))))))))))))))))))))))))))
 (.seq (.reg [.p (.mv (h0 g4)) (i5 s42),
  .p (.mv (h5 g42)) (i5 s43),
  .gp (h5 g43) true (.ld true 11 (h0 g3)) (i5 s44),
  .gp (h5 g43) true (.ld true 11 (h0 g1)) (i5 s45),
  .gp (h5 g43) true (.eqs .eql [(.mk 0 .int), (.mk 1 .int), (.mk 2 .int), (.mk 3 .int), (.mk 4 .int), (.mk 5 .int), (.mk 6 .int), (.mk 7 .bool), (.mk 8 .bool), (.mk 9 .int), (.mk 10 .int)] (h5 g44) (h5 g45) (G3 51 53 4)) (i5 s46),
  .p (.pk (h5 g43) (h5 g46) (kc (.tc (.sc (.bool false))))) (i5 s47),
  .p (.mv (h5 g47)) (i0 s2)])
 .ret))))),
 [.tmp (h0 g2)]⟩
theorem ffRul51_ok : compF SBase 51 = ffRul51 := by kernel_rfl
noncomputable def ffRul53 : FF := .t2 ⟨14,
 (.seq (.reg [.p (.mv (kc (.tc (.sc (.int .i64 0))))) s2])
 (.seq (.reg [.p (.bs 1 32 [[(.tc (.sc (.int .i64 0)))], [(.tc (.sc (.int .i64 0)))], [(.tc (.sc (.int .i64 0)))], [(.tc (.sc (.int .i64 0)))], [(.tc (.sc (.int .i64 0)))], [(.tc (.sc (.int .i64 0)))], [(.tc (.sc (.int .i64 0)))], [(.tc (.sc (.int .i64 0)))], [(.tc (.sc (.int .i64 0)))], [(.tc (.sc (.int .i64 0)))], [(.tc (.sc (.int .i64 0)))], [(.tc (.sc (.int .i64 0)))], [(.tc (.sc (.int .i64 0)))], [(.tc (.sc (.int .i64 0)))], [(.tc (.sc (.int .i64 0)))], [(.tc (.sc (.int .i64 0)))], [(.tc (.sc (.int .i64 0)))], [(.tc (.sc (.int .i64 0)))], [(.tc (.sc (.int .i64 0)))], [(.tc (.sc (.int .i64 0)))], [(.tc (.sc (.int .i64 0)))], [(.tc (.sc (.int .i64 0)))], [(.tc (.sc (.int .i64 0)))], [(.tc (.sc (.int .i64 0)))], [(.tc (.sc (.int .i64 0)))], [(.tc (.sc (.int .i64 0)))], [(.tc (.sc (.int .i64 0)))], [(.tc (.sc (.int .i64 0)))], [(.tc (.sc (.int .i64 0)))], [(.tc (.sc (.int .i64 0)))], [(.tc (.sc (.int .i64 0)))], [(.tc (.sc (.int .i64 0)))]] [(.mk 0 1 (kc (.tc (.sc (.int .i64 0))))), (.mk 1 1 (kc (.tc (.sc (.int .i64 17))))), (.mk 2 1 (kc (.tc (.sc (.int .i64 1))))), (.mk 3 1 (kc (.tc (.sc (.int .i64 1))))), (.mk 4 1 (kc (.tc (.sc (.int .i64 1))))), (.mk 5 1 (kc (.tc (.sc (.int .i64 1))))), (.mk 6 1 (kc (.tc (.sc (.int .i64 1))))), (.mk 7 1 (kc (.tc (.sc (.int .i64 2))))), (.mk 8 1 (kc (.tc (.sc (.int .i64 3))))), (.mk 9 1 (kc (.tc (.sc (.int .i64 4))))), (.mk 10 1 (kc (.tc (.sc (.int .i64 5))))), (.mk 11 1 (kc (.tc (.sc (.int .i64 5))))), (.mk 12 1 (kc (.tc (.sc (.int .i64 5))))), (.mk 13 1 (kc (.tc (.sc (.int .i64 6))))), (.mk 14 1 (kc (.tc (.sc (.int .i64 7))))), (.mk 15 1 (kc (.tc (.sc (.int .i64 8))))), (.mk 16 1 (kc (.tc (.sc (.int .i64 8))))), (.mk 17 1 (kc (.tc (.sc (.int .i64 8))))), (.mk 18 1 (kc (.tc (.sc (.int .i64 9))))), (.mk 19 1 (kc (.tc (.sc (.int .i64 9))))), (.mk 20 1 (kc (.tc (.sc (.int .i64 9))))), (.mk 21 1 (kc (.tc (.sc (.int .i64 10))))), (.mk 22 1 (kc (.tc (.sc (.int .i64 10))))), (.mk 23 1 (kc (.tc (.sc (.int .i64 10))))), (.mk 24 1 (kc (.tc (.sc (.int .i64 11))))), (.mk 25 1 (kc (.tc (.sc (.int .i64 11))))), (.mk 26 1 (kc (.tc (.sc (.int .i64 11))))), (.mk 27 1 (kc (.tc (.sc (.int .i64 12))))), (.mk 28 1 (kc (.tc (.sc (.int .i64 13))))), (.mk 29 1 (kc (.tc (.sc (.int .i64 14))))), (.mk 30 1 (kc (.tc (.sc (.int .i64 15))))), (.mk 31 1 (kc (.tc (.sc (.int .i64 16)))))] (G2 53 1 0)) s4,
  .p (.mv g4) s3])
 (.seq (.seq (.reg [.p (.mv g0) s5,
  .p (.cv .i64 g5 (G2 53 2 1)) s6,
  .p (.mv g3) s7,
  .p (.len g7 (G2 53 2 3)) s8,
  .p (.bin .lss g6 g8 (G2 53 2 4)) s9])
 (.cond g9 (.seq (.reg [.p (.mv g3) s10,
  .p (.mv g0) s11,
  .p (.ia 1 g10 g11 (G2 53 3 2)) s12,
  .p (.ld false 1 g12) s13,
  .p (.mv g13) s2])
 .ret)
 .skip))
 (.seq (.reg [.p (.mv (kc (.tc (.sc (.int .i64 0))))) s2])
 .ret)))),
 [.tmp g2]⟩
theorem ffRul53_ok : compF SBase 53 = ffRul53 := by kernel_rfl
noncomputable def ffRul69 : FF := .t2 ⟨21,
 (.seq (.reg [.p (.bx 11 g0 (G2 69 0 0)) s1,
  .p (.mv (kc (.tc (.sc (.bool false))))) s2])
 (.seq (.reg [.p (.fa 6 g1) s3,
  .p (.ld false 1 g3) s4,
  .p (.bin .leq g4 (kc (.tc (.sc (.int .u8 4)))) (G2 69 1 2)) s5,
  .p (.mv g5) s6,
  .gp g6 true (.fa 5 g1) s7,
  .gp g6 true (.ld false 1 g7) s8,
  .gp g6 true (.bin .leq g8 (kc (.tc (.sc (.int .u8 3)))) (G2 69 1 6)) s9,
  .p (.pk g6 g9 (kc (.tc (.sc (.bool false))))) s10,
  .p (.mv g10) s11,
  .gp g11 true (.fa 6 g1) s12,
  .gp g11 true (.ld false 1 g12) s13,
  .gp g11 true (.bin .gtr g13 (kc (.tc (.sc (.int .u8 0)))) (G2 69 1 11)) s14,
  .gp g11 true (.mv g14) s15,
  .gp g15 false (.fa 5 g1) s16,
  .gp g15 false (.ld false 1 g16) s17,
  .gp g15 false (.bin .eql g17 (kc (.tc (.sc (.int .u8 0)))) (G2 69 1 15)) s18,
  .gp g11 true (.pk g15 (kc (.tc (.sc (.bool true)))) g18) s19,
  .p (.pk g11 g19 (kc (.tc (.sc (.bool false))))) s20,
  .p (.mv g20) s2])
 .ret)),
 [.tmp g2]⟩
theorem ffRul69_ok : compF SBase 69 = ffRul69 := by kernel_rfl
noncomputable def ffRul70 : FF := .t2 ⟨48,
 (.seq (.reg [.p (.bx 11 g0 (G2 70 0 0)) s3,
  .p (.mv (kc (.tc (.sc (.bool false))))) s6])
 (.seq (.seq (.reg [.p (.fa 8 g3) s9,
  .p (.ld false 1 g9) s10])
 (.cond g10 (.seq (.reg [.p (.fa 10 g3) s11,
  .p (.ld false 1 g11) s12,
  .p (.bin .geq g12 (kc (.tc (.sc (.int .i64 (-2147483648))))) (G2 70 2 2)) s13,
  .p (.mv g13) s14,
  .gp g14 true (.fa 10 g3) s15,
  .gp g14 true (.ld false 1 g15) s16,
  .gp g14 true (.bin .leq g16 (kc (.tc (.sc (.int .i64 2147483647)))) (G2 70 2 6)) s17,
  .p (.pk g14 g17 (kc (.tc (.sc (.bool false))))) s18,
  .p (.mv g18) s6])
 .ret)
 .skip))
 (.seq (.reg [.p (.mv (kc (.tc (.sc (.int .i64 1))))) s7])
 (.seq (.seq (.reg [.p (.mv (kc (.tc (.sc (.int .i64 1))))) s8])
 (.block 0 (.loop 4294967296 (.seq (.seq (.reg [.p (.mv g8) s19,
  .p (.mv g1) s20,
  .p (.bin .lss g19 g20 (G2 70 5 2)) s21])
 (.cond g21 .skip
 (.exit 0)))
 (.seq (.block 1 (.reg [.p (.mv g7) s24,
  .p (.bin .mul g24 (kc (.tc (.sc (.int .i64 2)))) (G2 70 6 1)) s25,
  .p (.mv g25) s7]))
 (.reg [.p (.mv g8) s22,
  .p (.bin .add g22 (kc (.tc (.sc (.int .i64 1)))) (G2 70 7 1)) s23,
  .p (.mv g23) s8]))))))
 (.seq (.reg [.p (.fa 10 g3) s26,
  .p (.ld false 1 g26) s27,
  .p (.mv g2) s28,
  .p (.bin .rem g27 g28 (G2 70 8 3)) s29,
  .p (.bin .eql g29 (kc (.tc (.sc (.int .i64 0)))) (G2 70 8 4)) s30,
  .p (.mv g30) s31,
  .gp g31 true (.fa 10 g3) s32,
  .gp g31 true (.ld false 1 g32) s33,
  .gp g31 true (.mv g2) s34,
  .gp g31 true (.bin .quo g33 g34 (G2 70 8 9)) s35,
  .gp g31 true (.mv g7) s36,
  .gp g31 true (.gen (G2 70 8 11)) s37,
  .gp g31 true (.bin .geq g35 g37 (G2 70 8 12)) s38,
  .p (.pk g31 g38 (kc (.tc (.sc (.bool false))))) s39,
  .p (.mv g39) s40,
  .gp g40 true (.fa 10 g3) s41,
  .gp g40 true (.ld false 1 g41) s42,
  .gp g40 true (.mv g2) s43,
  .gp g40 true (.bin .quo g42 g43 (G2 70 8 18)) s44,
  .gp g40 true (.mv g7) s45,
  .gp g40 true (.bin .lss g44 g45 (G2 70 8 20)) s46,
  .p (.pk g40 g46 (kc (.tc (.sc (.bool false))))) s47,
  .p (.mv g47) s6])
 .ret))))),
 [.tmp g6]⟩
theorem ffRul70_ok : compF SBase 70 = ffRul70 := by kernel_rfl
noncomputable def ffRul71 : FF := .t2 ⟨10,
 (.seq (.reg [.p (.mv (kc (.tc (.sc (.int .i64 0))))) s2])
 (.seq (.seq (.reg [.p (.mv g0) s3])
 (.block 0 (.seq (.seq (.reg [.p (.bin .eql g3 (kc (.tc (.sc (.int .u8 21)))) (G2 71 2 0)) s5,
  .p (.mv g5) s4])
 (.cond g4 .skip
 (.reg [.p (.bin .eql g3 (kc (.tc (.sc (.int .u8 24)))) (G2 71 3 0)) s6,
  .p (.mv g6) s4])))
 (.cond g4 (.seq (.reg [.p (.mv (kc (.tc (.sc (.int .i64 4))))) s2])
 .ret)
 (.seq (.seq (.reg [.p (.bin .eql g3 (kc (.tc (.sc (.int .u8 22)))) (G2 71 5 0)) s8,
  .p (.mv g8) s7])
 (.cond g7 .skip
 (.reg [.p (.bin .eql g3 (kc (.tc (.sc (.int .u8 25)))) (G2 71 6 0)) s9,
  .p (.mv g9) s7])))
 (.cond g7 (.seq (.reg [.p (.mv (kc (.tc (.sc (.int .i64 2))))) s2])
 .ret)
 .skip))))))
 (.seq (.reg [.p (.mv (kc (.tc (.sc (.int .i64 1))))) s2])
 .ret))),
 [.tmp g2]⟩
theorem ffRul71_ok : compF SBase 71 = ffRul71 := by kernel_rfl
noncomputable def ffRul72 : FF := .t2 ⟨14,
 (.seq (.reg [.p (.mv (kc (.tc (.sc (.bool false))))) s2])
 (.seq (.reg [.p (.mv g0) s3,
  .p (.bin .geq g3 (kc (.tc (.sc (.int .i64 0)))) (G2 72 1 1)) s4,
  .p (.mv g4) s5,
  .gp g5 true (.mv g0) s6,
  .gp g5 true (.bin .leq g6 (kc (.tc (.sc (.int .i64 4294967292)))) (G2 72 1 4)) s7,
  .p (.pk g5 g7 (kc (.tc (.sc (.bool false))))) s8,
  .p (.mv g8) s9,
  .gp g9 true (.mv g0) s10,
  .gp g9 true (.bin .rem g10 (kc (.tc (.sc (.int .i64 4)))) (G2 72 1 8)) s11,
  .gp g9 true (.bin .eql g11 (kc (.tc (.sc (.int .i64 0)))) (G2 72 1 9)) s12,
  .p (.pk g9 g12 (kc (.tc (.sc (.bool false))))) s13,
  .p (.mv g13) s2])
 .ret)),
 [.tmp g2]⟩
theorem ffRul72_ok : compF SBase 72 = ffRul72 := by kernel_rfl
noncomputable def ffRul32 : FF := .t2 ⟨24,
 (.seq (.reg [.p (.mv (kc (.tc (.sc (.int .i64 0))))) s4])
 (.seq (.reg [.p (.mv (kc (.tc (.sc (.int .i64 0))))) s5])
 (.seq (.seq (.reg [.p (.mv (kc (.tc (.sc (.int .i64 0))))) s6])
 (.block 0 (.loop 4294967296 (.seq (.seq (.reg [.p (.mv g6) s7,
  .p (.mv g0) s8,
  .p (.len g8 (G2 32 3 2)) s9,
  .p (.bin .lss g7 g9 (G2 32 3 3)) s10])
 (.cond g10 .skip
 (.exit 0)))
 (.seq (.block 1 (.seq (.reg [.p (.mv g0) s13,
  .p (.mv g6) s14,
  .p (.ia 11 g13 g14 (G2 32 4 2)) s15,
  .p (.fa 0 g15) s16,
  .p (.ld false 1 g16) s17,
  .p (.call 52 [g17] (G2 32 4 5)) s18,
  .p (.mv g1) s19,
  .p (.bin .eql g18 g19 (G2 32 4 7)) s20])
 (.cond g20 (.reg [.p (.mv g5) s21,
  .p (.bin .add g21 (kc (.tc (.sc (.int .i64 1)))) (G2 32 5 1)) s22,
  .p (.mv g22) s5])
 .skip)))
 (.reg [.p (.mv g6) s11,
  .p (.bin .add g11 (kc (.tc (.sc (.int .i64 1)))) (G2 32 6 1)) s12,
  .p (.mv g12) s6]))))))
 (.seq (.reg [.p (.mv g5) s23,
  .p (.mv g23) s4])
 .ret)))),
 [.tmp g4]⟩
theorem ffRul32_ok : compF SBase 32 = ffRul32 := by kernel_rfl
noncomputable def ffRul52 : FF := .t2 ⟨12,
 (.seq (.reg [.p (.mv (kc (.tc (.sc (.int .u8 0))))) s2])
 (.seq (.seq (.reg [.p (.mv g0) s3,
  .p (.bin .eql g3 (kc (.tc (.sc (.int .u8 0)))) (G2 52 1 1)) s4,
  .p (.mv g4) s5,
  .gp g5 false (.mv g0) s6,
  .gp g5 false (.bin .gtr g6 (kc (.tc (.sc (.int .u8 31)))) (G2 52 1 4)) s7,
  .p (.pk g5 (kc (.tc (.sc (.bool true)))) g7) s8])
 (.cond g8 (.seq (.reg [.p (.mv (kc (.tc (.sc (.int .u8 0))))) s2])
 .ret)
 .skip))
 (.seq (.reg [.p (.mv g0) s9,
  .p (.ix (kc (.tc (.sc (.string ⟨#[48, 49, 49, 49, 49, 49, 49, 49, 49, 49, 49, 49, 49, 49, 49, 50, 50, 50, 50, 50, 50, 51, 51, 51, 52, 52, 52, 53, 53, 53, 54, 54]⟩)))) g9 (G2 52 3 1)) s10,
  .p (.bin .sub g10 (kc (.tc (.sc (.int .u8 48)))) (G2 52 3 2)) s11,
  .p (.mv g11) s2])
 .ret))),
 [.tmp g2]⟩
theorem ffRul52_ok : compF SBase 52 = ffRul52 := by kernel_rfl
noncomputable def ffRul13 : FF := .t3 ⟨77,
 (.seq (.reg [.p (.bx 11 (h0 g0) (G3 13 0 0)) (i0 s2),
  .p (.bx 11 (h0 g1) (G3 13 0 1)) (i0 s3),
  .p (.mv (kc (.tc (.sc (.bool false))))) (i0 s4)])
 (.seq (.seq (.reg [.p (.mv (kc (.tc (.sc (.int .u8 0))))) (i0 s5)])
 (.block 0 (.loop 4294967296 (.seq (.seq (.reg [.p (.mv (h0 g5)) (i0 s15),
  .p (.bin .lss (h0 g15) (kc (.tc (.sc (.int .u8 32)))) (G3 13 2 1)) (i0 s16)])
 (.cond (h0 g16) .skip
 (.exit 0)))
 (.seq (.block 1 (.seq (.reg [.p (.ld true 11 (h0 g2)) (i0 s20),
  .p (.call 35 [(h0 g20)] (G3 13 3 1)) (i0 s21),
  .p (.mv (h0 g21)) (i0 s19),
  .p (.ex (h0 g19) 0) (i0 s22),
  .p (.ex (h0 g19) 1) (i0 s23),
  .p (.mv (h0 g22)) (i0 s6),
  .p (.mv (h0 g23)) (i0 s7)])
 (.seq (.reg [.p (.ld true 11 (h0 g3)) (i0 s25),
  .p (.call 35 [(h0 g25)] (G3 13 4 1)) (i0 s26),
  .p (.mv (h0 g26)) (i0 s24),
  .p (.ex (h0 g24) 0) (i0 s27),
  .p (.ex (h0 g24) 1) (i0 s28),
  .p (.mv (h0 g27)) (i0 s8),
  .p (.mv (h0 g28)) (i0 s9)])
 (.seq (.reg [.p (.mv (h0 g7)) (i0 s29),
  .p (.mv (h0 g29)) (i0 s30),
  .gp (h0 g30) true (.mv (h0 g9)) (i0 s31),
  .p (.pk (h0 g30) (h0 g31) (kc (.tc (.sc (.bool false))))) (i0 s32),
  .p (.mv (h0 g32)) (i0 s33),
  .gp (h0 g33) true (.mv (h0 g6)) (i0 s34),
  .gp (h0 g33) true (.mv (h0 g5)) (i0 s35),
  .gp (h0 g33) true (.bin .eql (h0 g34) (h0 g35) (G3 13 5 7)) (i0 s36),
  .p (.pk (h0 g33) (h0 g36) (kc (.tc (.sc (.bool false))))) (i0 s37),
  .p (.mv (h0 g37)) (i0 s38),
  .gp (h0 g38) true (.mv (h0 g8)) (i0 s39),
  .gp (h0 g38) true (.mv (h0 g5)) (i0 s40),
  .gp (h0 g38) true (.bin .eql (h0 g39) (h0 g40) (G3 13 5 12)) (i0 s41),
  .p (.pk (h0 g38) (h0 g41) (kc (.tc (.sc (.bool false))))) (i0 s42),
  .p (.mv (h0 g42)) (i0 s43),
  .gp (h0 g43) true (.ld true 11 (h0 g2)) (i0 s44),
  .gp (h0 g43) true (.ld true 11 (h0 g3)) (i0 s45),
  .gp (h0 g43) true (.call 36 [(h0 g44), (h0 g45)] (G3 13 5 17)) (i0 s46),
  .gp (h0 g43) true (.nt (h0 g46) (G3 13 5 18)) (i0 s47),
  .p (.pk (h0 g43) (h0 g47) (kc (.tc (.sc (.bool false))))) (i0 s48)])
 (.cond (h0 g48) (.seq (.reg [.p (.mv (kc (.tc (.sc (.bool true))))) (i0 s4)])
 .ret)
 .skip)))))
 (.reg [.p (.mv (h0 g5)) (i0 s17),
  .p (.bin .add (h0 g17) (kc (.tc (.sc (.int .u8 1)))) (G3 13 7 1)) (i0 s18),
  .p (.mv (h0 g18)) (i0 s5)]))))))
 (.seq (.seq (.reg [.p (.mv (kc (.tc (.sc (.int .u8 0))))) (i0 s10)])
 (.block 2 (.loop 4294967296 (.seq (.seq (.reg [.p (.mv (h0 g10)) (i0 s49),
  .p (.bin .lss (h0 g49) (kc (.tc (.sc (.int .u8 4)))) (G3 13 9 1)) (i0 s50)])
 (.cond (h0 g50) .skip
 (.exit 2)))
 (.seq (.block 3 (.seq (.reg [.p (.ld true 11 (h0 g2)) (i0 s54),
  .p (.call 37 [(h0 g54)] (G3 13 10 1)) (i0 s55),
  .p (.mv (h0 g55)) (i0 s53),
  .p (.ex (h0 g53) 0) (i0 s56),
  .p (.ex (h0 g53) 1) (i0 s57),
  .p (.mv (h0 g56)) (i0 s11),
  .p (.mv (h0 g57)) (i0 s12)])
 (.seq (.reg [.p (.ld true 11 (h0 g3)) (i0 s59),
  .p (.call 37 [(h0 g59)] (G3 13 11 1)) (i0 s60),
  .p (.mv (h0 g60)) (i0 s58),
  .p (.ex (h0 g58) 0) (i0 s61),
  .p (.ex (h0 g58) 1) (i0 s62),
  .p (.mv (h0 g61)) (i0 s13),
  .p (.mv (h0 g62)) (i0 s14)])
 (.seq (.reg [.p (.mv (h0 g12)) (i0 s63),
  .p (.mv (h0 g63)) (i1 s0),
  .gp (h1 g0) true (.mv (h0 g14)) (i1 s1),
  .p (.pk (h1 g0) (h1 g1) (kc (.tc (.sc (.bool false))))) (i1 s2),
  .p (.mv (h1 g2)) (i1 s3),
  .gp (h1 g3) true (.mv (h0 g11)) (i1 s4),
  .gp (h1 g3) true (.mv (h0 g10)) (i1 s5),
  .gp (h1 g3) true (.bin .eql (h1 g4) (h1 g5) (G3 13 12 7)) (i1 s6),
  .p (.pk (h1 g3) (h1 g6) (kc (.tc (.sc (.bool false))))) (i1 s7),
  .p (.mv (h1 g7)) (i1 s8),
  .gp (h1 g8) true (.mv (h0 g13)) (i1 s9),
  .gp (h1 g8) true (.mv (h0 g10)) (i1 s10),
  .gp (h1 g8) true (.bin .eql (h1 g9) (h1 g10) (G3 13 12 12)) (i1 s11),
  .p (.pk (h1 g8) (h1 g11) (kc (.tc (.sc (.bool false))))) (i1 s12)])
 (.cond (h1 g12) (.seq (.reg [.p (.mv (kc (.tc (.sc (.bool true))))) (i0 s4)])
 .ret)
 .skip)))))
 (.reg [.p (.mv (h0 g10)) (i0 s51),
  .p (.bin .add (h0 g51) (kc (.tc (.sc (.int .u8 1)))) (G3 13 14 1)) (i0 s52),
  .p (.mv (h0 g52)) (i0 s10)]))))))
 (.seq (.reg [.p (.mv (kc (.tc (.sc (.bool false))))) (i0 s4)])
 .ret)))),
 [.tmp (h0 g4)]⟩
theorem ffRul13_ok : compF SBase 13 = ffRul13 := by kernel_rfl
noncomputable def ffRul35 : FF := .t2 ⟨29,
 (.seq (.reg [.p (.bx 11 g0 (G2 35 0 0)) s1,
  .p (.mv (kc (.tc (.sc (.int .u8 0))))) s2,
  .p (.mv (kc (.tc (.sc (.bool false))))) s3])
 (.seq (.reg [.p (.fa 0 g1) s5,
  .p (.ld false 1 g5) s6,
  .p (.call 53 [g6] (G2 35 1 2)) s7,
  .p (.mv g7) s4])
 (.seq (.seq (.reg [.p (.ld true 11 g1) s8,
  .p (.call 51 [g8] (G2 35 2 1)) s9,
  .p (.nt g9 (G2 35 2 2)) s10])
 (.cond g10 (.seq (.reg [.p (.mv (kc (.tc (.sc (.int .u8 0))))) s2,
  .p (.mv (kc (.tc (.sc (.bool false))))) s3])
 .ret)
 .skip))
 (.seq (.seq (.reg [.p (.mv g4) s11,
  .p (.bin .eql g11 (kc (.tc (.sc (.int .i64 14)))) (G2 35 4 1)) s12])
 (.cond g12 (.seq (.reg [.p (.mv (kc (.tc (.sc (.int .u8 31))))) s2,
  .p (.mv (kc (.tc (.sc (.bool true))))) s3])
 .ret)
 .skip))
 (.seq (.seq (.reg [.p (.mv g4) s13,
  .p (.bin .geq g13 (kc (.tc (.sc (.int .i64 1)))) (G2 35 6 1)) s14,
  .p (.mv g14) s15,
  .gp g15 true (.mv g4) s16,
  .gp g15 true (.bin .leq g16 (kc (.tc (.sc (.int .i64 4)))) (G2 35 6 4)) s17,
  .p (.pk g15 g17 (kc (.tc (.sc (.bool false))))) s18,
  .p (.mv g18) s19,
  .gp g19 false (.mv g4) s20,
  .gp g19 false (.bin .geq g20 (kc (.tc (.sc (.int .i64 7)))) (G2 35 6 8)) s21,
  .gp g19 false (.mv g21) s22,
  .gp g22 true (.mv g4) s23,
  .gp g22 true (.bin .leq g23 (kc (.tc (.sc (.int .i64 10)))) (G2 35 6 11)) s24,
  .gp g19 false (.pk g22 g24 (kc (.tc (.sc (.bool false))))) s25,
  .p (.pk g19 (kc (.tc (.sc (.bool true)))) g25) s26])
 (.cond g26 (.seq (.reg [.p (.fa 1 g1) s27,
  .p (.ld false 1 g27) s28,
  .p (.mv g28) s2,
  .p (.mv (kc (.tc (.sc (.bool true))))) s3])
 .ret)
 .skip))
 (.seq (.reg [.p (.mv (kc (.tc (.sc (.int .u8 0))))) s2,
  .p (.mv (kc (.tc (.sc (.bool false))))) s3])
 .ret)))))),
 [.tmp g2, .tmp g3]⟩
theorem ffRul35_ok : compF SBase 35 = ffRul35 := by kernel_rfl
noncomputable def ffRul36 : FF := .t2 ⟨52,
 (.seq (.reg [.p (.bx 11 g0 (G2 36 0 0)) s2,
  .p (.bx 11 g1 (G2 36 0 1)) s3,
  .p (.mv (kc (.tc (.sc (.bool false))))) s4])
 (.seq (.reg [.p (.fa 6 g2) s6,
  .p (.ld false 1 g6) s7,
  .p (.bin .eql g7 (kc (.tc (.sc (.int .u8 1)))) (G2 36 1 2)) s8,
  .p (.mv g8) s9,
  .gp g9 true (.fa 6 g3) s10,
  .gp g9 true (.ld false 1 g10) s11,
  .gp g9 true (.bin .eql g11 (kc (.tc (.sc (.int .u8 2)))) (G2 36 1 6)) s12,
  .p (.pk g9 g12 (kc (.tc (.sc (.bool false))))) s13,
  .p (.mv g13) s14,
  .gp g14 false (.fa 6 g2) s15,
  .gp g14 false (.ld false 1 g15) s16,
  .gp g14 false (.bin .eql g16 (kc (.tc (.sc (.int .u8 2)))) (G2 36 1 11)) s17,
  .gp g14 false (.mv g17) s18,
  .gp g18 true (.fa 6 g3) s19,
  .gp g18 true (.ld false 1 g19) s20,
  .gp g18 true (.bin .eql g20 (kc (.tc (.sc (.int .u8 1)))) (G2 36 1 15)) s21,
  .gp g14 false (.pk g18 g21 (kc (.tc (.sc (.bool false))))) s22,
  .p (.pk g14 (kc (.tc (.sc (.bool true)))) g22) s23,
  .p (.mv g23) s24,
  .gp g24 false (.fa 6 g2) s25,
  .gp g24 false (.ld false 1 g25) s26,
  .gp g24 false (.bin .eql g26 (kc (.tc (.sc (.int .u8 3)))) (G2 36 1 21)) s27,
  .gp g24 false (.mv g27) s28,
  .gp g28 true (.fa 6 g3) s29,
  .gp g28 true (.ld false 1 g29) s30,
  .gp g28 true (.bin .eql g30 (kc (.tc (.sc (.int .u8 4)))) (G2 36 1 25)) s31,
  .gp g24 false (.pk g28 g31 (kc (.tc (.sc (.bool false))))) s32,
  .p (.pk g24 (kc (.tc (.sc (.bool true)))) g32) s33,
  .p (.mv g33) s34,
  .gp g34 false (.fa 6 g2) s35,
  .gp g34 false (.ld false 1 g35) s36,
  .gp g34 false (.bin .eql g36 (kc (.tc (.sc (.int .u8 4)))) (G2 36 1 31)) s37,
  .gp g34 false (.mv g37) s38,
  .gp g38 true (.fa 6 g3) s39,
  .gp g38 true (.ld false 1 g39) s40,
  .gp g38 true (.bin .eql g40 (kc (.tc (.sc (.int .u8 3)))) (G2 36 1 35)) s41,
  .gp g34 false (.pk g38 g41 (kc (.tc (.sc (.bool false))))) s42,
  .p (.pk g34 (kc (.tc (.sc (.bool true)))) g42) s43,
  .p (.mv g43) s5])
 (.seq (.reg [.p (.mv g5) s44,
  .p (.mv g44) s45,
  .gp g45 true (.fa 5 g2) s46,
  .gp g45 true (.ld false 1 g46) s47,
  .gp g45 true (.fa 5 g3) s48,
  .gp g45 true (.ld false 1 g48) s49,
  .gp g45 true (.bin .eql g47 g49 (G2 36 2 6)) s50,
  .p (.pk g45 g50 (kc (.tc (.sc (.bool false))))) s51,
  .p (.mv g51) s4])
 .ret))),
 [.tmp g4]⟩
theorem ffRul36_ok : compF SBase 36 = ffRul36 := by kernel_rfl
noncomputable def ffRul37 : FF := .t2 ⟨21,
 (.seq (.reg [.p (.bx 11 g0 (G2 37 0 0)) s1,
  .p (.mv (kc (.tc (.sc (.int .u8 0))))) s2,
  .p (.mv (kc (.tc (.sc (.bool false))))) s3])
 (.seq (.reg [.p (.fa 0 g1) s5,
  .p (.ld false 1 g5) s6,
  .p (.call 53 [g6] (G2 37 1 2)) s7,
  .p (.mv g7) s4])
 (.seq (.seq (.reg [.p (.ld true 11 g1) s8,
  .p (.call 51 [g8] (G2 37 2 1)) s9,
  .p (.nt g9 (G2 37 2 2)) s10,
  .p (.mv g10) s11,
  .gp g11 false (.mv g4) s12,
  .gp g11 false (.bin .neq g12 (kc (.tc (.sc (.int .i64 5)))) (G2 37 2 5)) s13,
  .gp g11 false (.mv g13) s14,
  .gp g14 true (.mv g4) s15,
  .gp g14 true (.bin .neq g15 (kc (.tc (.sc (.int .i64 6)))) (G2 37 2 8)) s16,
  .gp g11 false (.pk g14 g16 (kc (.tc (.sc (.bool false))))) s17,
  .p (.pk g11 (kc (.tc (.sc (.bool true)))) g17) s18])
 (.cond g18 (.seq (.reg [.p (.mv (kc (.tc (.sc (.int .u8 0))))) s2,
  .p (.mv (kc (.tc (.sc (.bool false))))) s3])
 .ret)
 .skip))
 (.seq (.reg [.p (.fa 1 g1) s19,
  .p (.ld false 1 g19) s20,
  .p (.mv g20) s2,
  .p (.mv (kc (.tc (.sc (.bool true))))) s3])
 .ret)))),
 [.tmp g2, .tmp g3]⟩
theorem ffRul37_ok : compF SBase 37 = ffRul37 := by kernel_rfl
noncomputable def ffRul33 : FF := .t3 ⟨105,
 (.seq (.reg [.p (.mv (kc (.tc (.sc (.bool false))))) (i0 s2)])
 (.seq (.seq (.reg [.p (.mv (kc (.tc (.sc (.int .i64 0))))) (i0 s3)])
 (.block 0 (.loop 4294967296 (.seq (.seq (.reg [.p (.mv (h0 g3)) (i0 s14),
  .p (.mv (h0 g0)) (i0 s15),
  .p (.len (h0 g15) (G3 33 2 2)) (i0 s16),
  .p (.bin .lss (h0 g14) (h0 g16) (G3 33 2 3)) (i0 s17)])
 (.cond (h0 g17) .skip
 (.exit 0)))
 (.seq (.block 1 (.seq (.reg [.p (.mv (h0 g0)) (i0 s20),
  .p (.mv (h0 g3)) (i0 s21),
  .p (.ia 11 (h0 g20) (h0 g21) (G3 33 3 2)) (i0 s22),
  .p (.ld true 11 (h0 g22)) (i0 s23),
  .p (.al 11 [(.sc (.int .u8 0)), (.sc (.int .u8 0)), (.sc (.int .u8 0)), (.sc (.int .u8 0)), (.sc (.int .u8 0)), (.sc (.int .u8 0)), (.sc (.int .u8 0)), (.sc (.bool false)), (.sc (.bool false)), (.sc (.int .u16 0)), (.sc (.int .i64 0))]) (i0 s4),
  .n (.st 11 (h0 g4) (h0 g23) (G3 33 3 5))])
 (.seq (.reg [.p (.mv (kc (.tc (.sc (.int .i64 0))))) (i0 s5)])
 (.seq (.reg [.p (.mv (kc (.tc (.sc (.int .i64 0))))) (i0 s6)])
 (.seq (.reg [.p (.mv (kc (.tc (.sc (.int .i64 0))))) (i0 s7)])
 (.seq (.seq (.reg [.p (.mv (kc (.tc (.sc (.int .i64 0))))) (i0 s8)])
 (.block 2 (.loop 4294967296 (.seq (.seq (.reg [.p (.mv (h0 g8)) (i0 s24),
  .p (.mv (h0 g0)) (i0 s25),
  .p (.len (h0 g25) (G3 33 8 2)) (i0 s26),
  .p (.bin .lss (h0 g24) (h0 g26) (G3 33 8 3)) (i0 s27)])
 (.cond (h0 g27) .skip
 (.exit 2)))
 (.seq (.block 3 (.seq (.reg [.p (.mv (h0 g0)) (i0 s31),
  .p (.mv (h0 g8)) (i0 s32),
  .p (.ia 11 (h0 g31) (h0 g32) (G3 33 9 2)) (i0 s33),
  .p (.ld true 11 (h0 g33)) (i0 s34),
  .p (.call 37 [(h0 g34)] (G3 33 9 4)) (i0 s35),
  .p (.mv (h0 g35)) (i0 s30),
  .p (.ex (h0 g30) 0) (i0 s36),
  .p (.ex (h0 g30) 1) (i0 s37),
  .p (.mv (h0 g36)) (i0 s9),
  .p (.mv (h0 g37)) (i0 s10)])
 (.seq (.seq (.reg [.p (.mv (h0 g10)) (i0 s38),
  .p (.mv (h0 g38)) (i0 s39),
  .gp (h0 g39) true (.mv (h0 g9)) (i0 s40),
  .gp (h0 g39) true (.fa 5 (h0 g4)) (i0 s41),
  .gp (h0 g39) true (.ld false 1 (h0 g41)) (i0 s42),
  .gp (h0 g39) true (.bin .eql (h0 g40) (h0 g42) (G3 33 10 5)) (i0 s43),
  .p (.pk (h0 g39) (h0 g43) (kc (.tc (.sc (.bool false))))) (i0 s44)])
 (.cond (h0 g44) (.reg [.p (.mv (h0 g5)) (i0 s45),
  .p (.bin .add (h0 g45) (kc (.tc (.sc (.int .i64 1)))) (G3 33 11 1)) (i0 s46),
  .p (.mv (h0 g46)) (i0 s5)])
 .skip))
 (.seq (.reg [.p (.mv (h0 g0)) (i0 s48),
  .p (.mv (h0 g8)) (i0 s49),
  .p (.ia 11 (h0 g48) (h0 g49) (G3 33 12 2)) (i0 s50),
  .p (.ld true 11 (h0 g50)) (i0 s51),
  .p (.call 35 [(h0 g51)] (G3 33 12 4)) (i0 s52),
  .p (.mv (h0 g52)) (i0 s47),
  .p (.ex (h0 g47) 0) (i0 s53),
  .p (.ex (h0 g47) 1) (i0 s54),
  .p (.mv (h0 g53)) (i0 s11),
  .p (.mv (h0 g54)) (i0 s12)])
 (.seq (.reg [.p (.mv (h0 g12)) (i0 s55),
  .p (.mv (h0 g55)) (i0 s56),
  .gp (h0 g56) true (.mv (h0 g11)) (i0 s57),
  .gp (h0 g56) true (.fa 3 (h0 g4)) (i0 s58),
  .gp (h0 g56) true (.ld false 1 (h0 g58)) (i0 s59),
  .gp (h0 g56) true (.bin .eql (h0 g57) (h0 g59) (G3 33 13 5)) (i0 s60),
  .p (.pk (h0 g56) (h0 g60) (kc (.tc (.sc (.bool false))))) (i0 s61)])
 (.cond (h0 g61) (.seq (.reg [.p (.mv (h0 g6)) (i0 s62),
  .p (.bin .add (h0 g62) (kc (.tc (.sc (.int .i64 1)))) (G3 33 14 1)) (i0 s63),
  .p (.mv (h0 g63)) (i0 s6)])
 (.seq (.reg [.p (.mv (h0 g0)) (i1 s0),
  .p (.mv (h0 g8)) (i1 s1),
  .p (.ia 11 (h1 g0) (h1 g1) (G3 33 15 2)) (i1 s2),
  .p (.fa 0 (h1 g2)) (i1 s3),
  .p (.ld false 1 (h1 g3)) (i1 s4),
  .p (.call 52 [(h1 g4)] (G3 33 15 5)) (i1 s5),
  .p (.mv (h1 g5)) (i0 s13)])
 (.seq (.reg [.p (.mv (h0 g13)) (i1 s6),
  .p (.bin .eql (h1 g6) (kc (.tc (.sc (.int .u8 1)))) (G3 33 16 1)) (i1 s7),
  .p (.mv (h1 g7)) (i1 s8),
  .gp (h1 g8) false (.mv (h0 g13)) (i1 s9),
  .gp (h1 g8) false (.bin .eql (h1 g9) (kc (.tc (.sc (.int .u8 2)))) (G3 33 16 4)) (i1 s10),
  .p (.pk (h1 g8) (kc (.tc (.sc (.bool true)))) (h1 g10)) (i1 s11),
  .p (.mv (h1 g11)) (i1 s12),
  .gp (h1 g12) true (.mv (h0 g0)) (i1 s13),
  .gp (h1 g12) true (.mv (h0 g8)) (i1 s14),
  .gp (h1 g12) true (.ia 11 (h1 g13) (h1 g14) (G3 33 16 9)) (i1 s15),
  .gp (h1 g12) true (.fa 6 (h1 g15)) (i1 s16),
  .gp (h1 g12) true (.ld false 1 (h1 g16)) (i1 s17),
  .gp (h1 g12) true (.bin .eql (h1 g17) (kc (.tc (.sc (.int .u8 0)))) (G3 33 16 12)) (i1 s18),
  .p (.pk (h1 g12) (h1 g18) (kc (.tc (.sc (.bool false))))) (i1 s19)])
 (.cond (h1 g19) (.reg [.p (.mv (h0 g7)) (i1 s20),
  .p (.bin .add (h1 g20) (kc (.tc (.sc (.int .i64 1)))) (G3 33 17 1)) (i1 s21),
  .p (.mv (h1 g21)) (i0 s7)])
 .skip))))
 .skip))))))
 (.reg [.p (.mv (h0 g8)) (i0 s28),
  .p (.bin .add (h0 g28) (kc (.tc (.sc (.int .i64 1)))) (G3 33 18 1)) (i0 s29),
  .p (.mv (h0 g29)) (i0 s8)]))))))
 (.seq (.reg [.p (.fa 6 (h0 g4)) (i1 s22),
  .p (.ld false 1 (h1 g22)) (i1 s23),
  .p (.bin .gtr (h1 g23) (kc (.tc (.sc (.int .u8 2)))) (G3 33 19 2)) (i1 s24),
  .p (.mv (h1 g24)) (i1 s25),
  .gp (h1 g25) true (.mv (h0 g5)) (i1 s26),
  .gp (h1 g25) true (.bin .eql (h1 g26) (kc (.tc (.sc (.int .i64 0)))) (G3 33 19 5)) (i1 s27),
  .p (.pk (h1 g25) (h1 g27) (kc (.tc (.sc (.bool false))))) (i1 s28),
  .p (.mv (h1 g28)) (i1 s29),
  .gp (h1 g29) false (.fa 7 (h0 g4)) (i1 s30),
  .gp (h1 g29) false (.ld false 1 (h1 g30)) (i1 s31),
  .gp (h1 g29) false (.mv (h1 g31)) (i1 s32),
  .gp (h1 g32) true (.mv (h0 g6)) (i1 s33),
  .gp (h1 g32) true (.bin .neq (h1 g33) (kc (.tc (.sc (.int .i64 1)))) (G3 33 19 12)) (i1 s34),
  .gp (h1 g32) true (.mv (h1 g34)) (i1 s35),
  .gp (h1 g35) false (.mv (h0 g7)) (i1 s36),
  .gp (h1 g35) false (.bin .neq (h1 g36) (kc (.tc (.sc (.int .i64 1)))) (G3 33 19 15)) (i1 s37),
  .gp (h1 g32) true (.pk (h1 g35) (kc (.tc (.sc (.bool true)))) (h1 g37)) (i1 s38),
  .gp (h1 g29) false (.pk (h1 g32) (h1 g38) (kc (.tc (.sc (.bool false))))) (i1 s39),
  .p (.pk (h1 g29) (kc (.tc (.sc (.bool true)))) (h1 g39)) (i1 s40)])
 (.cond (h1 g40) (.seq (.reg [.p (.mv (kc (.tc (.sc (.bool false))))) (i0 s2)])
 .ret)
 .skip))))))))
 (.reg [.p (.mv (h0 g3)) (i0 s18),
  .p (.bin .add (h0 g18) (kc (.tc (.sc (.int .i64 1)))) (G3 33 21 1)) (i0 s19),
  .p (.mv (h0 g19)) (i0 s3)]))))))
 (.seq (.reg [.p (.mv (kc (.tc (.sc (.bool true))))) (i0 s2)])
 .ret))),
 [.tmp (h0 g2)]⟩
theorem ffRul33_ok : compF SBase 33 = ffRul33 := by kernel_rfl
noncomputable def ffRul4 : FF := .t3 ⟨107,
 (.seq (.reg [.p (.bx 5 (h0 g0) (G3 4 0 0)) (i0 s3),
  .p (.bx 4 (h0 g1) (G3 4 0 1)) (i0 s4),
  .p (.bx 4 (h0 g2) (G3 4 0 2)) (i0 s5),
  .p (.mv (kc (.tc (.sc (.bool false))))) (i0 s6)])
 (.seq (.seq (.reg [.p (.fa 0 (h0 g3)) (i0 s17),
  .p (.ld false 1 (h0 g17)) (i0 s18),
  .p (.len (h0 g18) (G3 4 1 2)) (i0 s19),
  .p (.bin .gtr (h0 g19) (kc (.tc (.sc (.int .i64 8)))) (G3 4 1 3)) (i0 s20),
  .p (.mv (h0 g20)) (i0 s21),
  .gp (h0 g21) false (.ld true 5 (h0 g3)) (i0 s22),
  .gp (h0 g21) false (.call 10 [(h0 g22)] (G3 4 1 6)) (i0 s23),
  .gp (h0 g21) false (.bin .neq (h0 g23) (kc (.tc (.sc (.int .i64 0)))) (G3 4 1 7)) (i0 s24),
  .p (.pk (h0 g21) (kc (.tc (.sc (.bool true)))) (h0 g24)) (i0 s25)])
 (.cond (h0 g25) (.seq (.reg [.p (.call 9 [] (G3 4 2 0)) (i0 s26),
  .p (.mv (h0 g26)) (i0 s6)])
 .ret)
 .skip))
 (.seq (.reg [.p (.al 32 [(.sc (.int .i64 0)), (.sc (.int .i64 0)), (.sc (.int .i64 0)), (.sc (.int .i64 0)), (.sc (.int .i64 0)), (.sc (.int .i64 0)), (.sc (.int .i64 0)), (.sc (.int .i64 0)), (.sc (.int .i64 0)), (.sc (.int .i64 0)), (.sc (.int .i64 0)), (.sc (.int .i64 0)), (.sc (.int .i64 0)), (.sc (.int .i64 0)), (.sc (.int .i64 0)), (.sc (.int .i64 0)), (.sc (.int .i64 0)), (.sc (.int .i64 0)), (.sc (.int .i64 0)), (.sc (.int .i64 0)), (.sc (.int .i64 0)), (.sc (.int .i64 0)), (.sc (.int .i64 0)), (.sc (.int .i64 0)), (.sc (.int .i64 0)), (.sc (.int .i64 0)), (.sc (.int .i64 0)), (.sc (.int .i64 0)), (.sc (.int .i64 0)), (.sc (.int .i64 0)), (.sc (.int .i64 0)), (.sc (.int .i64 0))]) (i0 s7)])
 (.seq (.reg [.p (.al 4 [(.sc (.int .i64 0)), (.sc (.int .i64 0)), (.sc (.int .i64 0)), (.sc (.int .i64 0))]) (i0 s8)])
 (.seq (.reg [.p (.mv (kc (.tc (.sc (.int .i64 0))))) (i0 s9)])
 (.seq (.seq (.reg [.p (.mv (kc (.tc (.sc (.int .i64 0))))) (i0 s10)])
 (.block 0 (.loop 4294967296 (.seq (.seq (.reg [.p (.mv (h0 g10)) (i0 s27),
  .p (.fa 0 (h0 g3)) (i0 s28),
  .p (.ld false 1 (h0 g28)) (i0 s29),
  .p (.len (h0 g29) (G3 4 7 3)) (i0 s30),
  .p (.bin .lss (h0 g27) (h0 g30) (G3 4 7 4)) (i0 s31)])
 (.cond (h0 g31) .skip
 (.exit 0)))
 (.seq (.block 1 (.seq (.reg [.p (.fa 0 (h0 g3)) (i0 s34),
  .p (.ld false 1 (h0 g34)) (i0 s35),
  .p (.mv (h0 g10)) (i0 s36),
  .p (.ia 11 (h0 g35) (h0 g36) (G3 4 8 3)) (i0 s37),
  .p (.ld true 11 (h0 g37)) (i0 s38),
  .p (.al 11 [(.sc (.int .u8 0)), (.sc (.int .u8 0)), (.sc (.int .u8 0)), (.sc (.int .u8 0)), (.sc (.int .u8 0)), (.sc (.int .u8 0)), (.sc (.int .u8 0)), (.sc (.bool false)), (.sc (.bool false)), (.sc (.int .u16 0)), (.sc (.int .i64 0))]) (i0 s11),
  .n (.st 11 (h0 g11) (h0 g38) (G3 4 8 6))])
 (.seq (.seq (.reg [.p (.ld true 11 (h0 g11)) (i0 s39),
  .p (.call 14 [(h0 g39)] (G3 4 9 1)) (i0 s40),
  .p (.nt (h0 g40) (G3 4 9 2)) (i0 s41)])
 (.cond (h0 g41) (.seq (.reg [.p (.mv (kc (.tc (.sc (.bool false))))) (i0 s6)])
 .ret)
 .skip))
 (.seq (.reg [.p (.ld true 11 (h0 g11)) (i0 s43),
  .p (.call 15 [(h0 g43)] (G3 4 11 1)) (i0 s44),
  .p (.mv (h0 g44)) (i0 s42),
  .p (.ex (h0 g42) 0) (i0 s45),
  .p (.ex (h0 g42) 1) (i0 s46),
  .p (.mv (h0 g45)) (i0 s12),
  .p (.mv (h0 g46)) (i0 s13)])
 (.seq (.seq (.reg [.p (.mv (h0 g13)) (i0 s47)])
 (.cond (h0 g47) (.reg [.p (.mv (h0 g12)) (i0 s48),
  .p (.gen (G3 4 13 1)) (i0 s49),
  .p (.ld false 1 (h0 g49)) (i0 s50),
  .p (.bin .add (h0 g50) (kc (.tc (.sc (.int .i64 1)))) (G3 4 13 3)) (i0 s51),
  .p (.gen (G3 4 13 4)) (i0 s52),
  .n (.st 1 (h0 g52) (h0 g51) (G3 4 13 5))])
 .skip))
 (.seq (.seq (.reg [.p (.ld true 11 (h0 g11)) (i0 s53),
  .p (.call 16 [(h0 g53)] (G3 4 14 1)) (i0 s54),
  .p (.bin .eql (h0 g54) (kc (.tc (.sc (.int .u8 5)))) (G3 4 14 2)) (i0 s55)])
 (.cond (h0 g55) (.reg [.p (.mv (h0 g9)) (i0 s56),
  .p (.bin .add (h0 g56) (kc (.tc (.sc (.int .i64 1)))) (G3 4 15 1)) (i0 s57),
  .p (.mv (h0 g57)) (i0 s9)])
 .skip))
 (.seq (.reg [.p (.ld true 11 (h0 g11)) (i0 s59),
  .p (.call 17 [(h0 g59)] (G3 4 16 1)) (i0 s60),
  .p (.mv (h0 g60)) (i0 s58),
  .p (.ex (h0 g58) 0) (i0 s61),
  .p (.ex (h0 g58) 1) (i0 s62),
  .p (.mv (h0 g61)) (i0 s14),
  .p (.mv (h0 g62)) (i0 s15)])
 (.seq (.reg [.p (.mv (h0 g15)) (i0 s63),
  .p (.mv (h0 g63)) (i1 s0),
  .gp (h1 g0) true (.ld true 11 (h0 g11)) (i1 s1),
  .gp (h1 g0) true (.ld true 4 (h0 g4)) (i1 s2),
  .gp (h1 g0) true (.ld true 4 (h0 g5)) (i1 s3),
  .gp (h1 g0) true (.call 18 [(h1 g1), (h1 g2), (h1 g3)] (G3 4 17 5)) (i1 s4),
  .p (.pk (h1 g0) (h1 g4) (kc (.tc (.sc (.bool false))))) (i1 s5)])
 (.cond (h1 g5) (.reg [.p (.mv (h0 g14)) (i1 s6),
  .p (.gen (G3 4 18 1)) (i1 s7),
  .p (.ld false 1 (h1 g7)) (i1 s8),
  .p (.bin .add (h1 g8) (kc (.tc (.sc (.int .i64 1)))) (G3 4 18 3)) (i1 s9),
  .p (.gen (G3 4 18 4)) (i1 s10),
  .n (.st 1 (h1 g10) (h1 g9) (G3 4 18 5))])
 .skip)))))))))
 (.reg [.p (.mv (h0 g10)) (i0 s32),
  .p (.bin .add (h0 g32) (kc (.tc (.sc (.int .i64 1)))) (G3 4 19 1)) (i0 s33),
  .p (.mv (h0 g33)) (i0 s10)]))))))
 (.seq (.seq (.reg [.p (.mv (kc (.tc (.sc (.int .i64 0))))) (i0 s16)])
 (.block 2 (.loop 4294967296 (.seq (.seq (.reg [.p (.mv (h0 g16)) (i1 s11),
  .p (.bin .lss (h1 g11) (kc (.tc (.sc (.int .i64 32)))) (G3 4 21 1)) (i1 s12)])
 (.cond (h1 g12) .skip
 (.exit 2)))
 (.seq (.block 3 (.seq (.reg [.p (.mv (h0 g16)) (i1 s15),
  .p (.gen (G3 4 22 1)) (i1 s16),
  .p (.ld false 1 (h1 g16)) (i1 s17),
  .p (.bin .gtr (h1 g17) (kc (.tc (.sc (.int .i64 1)))) (G3 4 22 3)) (i1 s18),
  .p (.mv (h1 g18)) (i1 s19),
  .gp (h1 g19) false (.mv (h0 g16)) (i1 s20),
  .gp (h1 g19) false (.bin .rem (h1 g20) (kc (.tc (.sc (.int .i64 4)))) (G3 4 22 6)) (i1 s21),
  .gp (h1 g19) false (.gen (G3 4 22 7)) (i1 s22),
  .gp (h1 g19) false (.ld false 1 (h1 g22)) (i1 s23),
  .gp (h1 g19) false (.bin .gtr (h1 g23) (kc (.tc (.sc (.int .i64 1)))) (G3 4 22 9)) (i1 s24),
  .p (.pk (h1 g19) (kc (.tc (.sc (.bool true)))) (h1 g24)) (i1 s25)])
 (.cond (h1 g25) (.seq (.reg [.p (.mv (kc (.tc (.sc (.bool false))))) (i0 s6)])
 .ret)
 .skip)))
 (.reg [.p (.mv (h0 g16)) (i1 s13),
  .p (.bin .add (h1 g13) (kc (.tc (.sc (.int .i64 1)))) (G3 4 24 1)) (i1 s14),
  .p (.mv (h1 g14)) (i0 s16)]))))))
 (.seq (.reg [.p (.mv (h0 g9)) (i1 s26),
  .p (.bin .lss (h1 g26) (kc (.tc (.sc (.int .i64 2)))) (G3 4 25 1)) (i1 s27),
  .p (.mv (h1 g27)) (i1 s28),
  .gp (h1 g28) true (.fa 0 (h0 g3)) (i1 s29),
  .gp (h1 g28) true (.ld false 1 (h1 g29)) (i1 s30),
  .gp (h1 g28) true (.len (h1 g30) (G3 4 25 5)) (i1 s31),
  .gp (h1 g28) true (.bin .gtr (h1 g31) (kc (.tc (.sc (.int .i64 0)))) (G3 4 25 6)) (i1 s32),
  .p (.pk (h1 g28) (h1 g32) (kc (.tc (.sc (.bool false))))) (i1 s33),
  .p (.mv (h1 g33)) (i1 s34),
  .gp (h1 g34) true (.fa 0 (h0 g3)) (i1 s35),
  .gp (h1 g34) true (.ld false 1 (h1 g35)) (i1 s36),
  .gp (h1 g34) true (.len (h1 g36) (G3 4 25 11)) (i1 s37),
  .gp (h1 g34) true (.bin .lss (h1 g37) (kc (.tc (.sc (.int .i64 5)))) (G3 4 25 12)) (i1 s38),
  .p (.pk (h1 g34) (h1 g38) (kc (.tc (.sc (.bool false))))) (i1 s39),
  .p (.mv (h1 g39)) (i1 s40),
  .gp (h1 g40) true (.call 9 [] (G3 4 25 15)) (i1 s41),
  .p (.pk (h1 g40) (h1 g41) (kc (.tc (.sc (.bool false))))) (i1 s42),
  .p (.mv (h1 g42)) (i0 s6)])
 .ret)))))))),
 [.tmp (h0 g6)]⟩
theorem ffRul4_ok : compF SBase 4 = ffRul4 := by kernel_rfl
noncomputable def ffRul18 : FF := .t2 ⟨39,
 (.seq (.reg [.p (.bx 11 g0 (G2 18 0 0)) s3,
  .p (.bx 4 g1 (G2 18 0 1)) s4,
  .p (.bx 4 g2 (G2 18 0 2)) s5,
  .p (.mv (kc (.tc (.sc (.bool false))))) s6])
 (.seq (.seq (.reg [.p (.fa 6 g3) s7,
  .p (.ld false 1 g7) s8])
 (.block 0 (.seq (.reg [.p (.bin .eql g8 (kc (.tc (.sc (.int .u8 1)))) (G2 18 2 0)) s10,
  .p (.mv g10) s9])
 (.cond g9 (.seq (.reg [.p (.fa 5 g3) s11,
  .p (.ld false 1 g11) s12,
  .p (.bin .rem g12 (kc (.tc (.sc (.int .u8 4)))) (G2 18 3 2)) s13,
  .p (.gen (G2 18 3 3)) s14,
  .p (.ld false 1 g14) s15,
  .p (.mv g15) s6])
 .ret)
 (.seq (.reg [.p (.bin .eql g8 (kc (.tc (.sc (.int .u8 2)))) (G2 18 4 0)) s17,
  .p (.mv g17) s16])
 (.cond g16 (.seq (.reg [.p (.fa 5 g3) s18,
  .p (.ld false 1 g18) s19,
  .p (.bin .rem g19 (kc (.tc (.sc (.int .u8 4)))) (G2 18 5 2)) s20,
  .p (.gen (G2 18 5 3)) s21,
  .p (.ld false 1 g21) s22,
  .p (.nt g22 (G2 18 5 5)) s23,
  .p (.mv g23) s6])
 .ret)
 (.seq (.reg [.p (.bin .eql g8 (kc (.tc (.sc (.int .u8 3)))) (G2 18 6 0)) s25,
  .p (.mv g25) s24])
 (.cond g24 (.seq (.reg [.p (.fa 5 g3) s26,
  .p (.ld false 1 g26) s27,
  .p (.bin .rem g27 (kc (.tc (.sc (.int .u8 4)))) (G2 18 7 2)) s28,
  .p (.gen (G2 18 7 3)) s29,
  .p (.ld false 1 g29) s30,
  .p (.mv g30) s6])
 .ret)
 (.seq (.reg [.p (.bin .eql g8 (kc (.tc (.sc (.int .u8 4)))) (G2 18 8 0)) s32,
  .p (.mv g32) s31])
 (.cond g31 (.seq (.reg [.p (.fa 5 g3) s33,
  .p (.ld false 1 g33) s34,
  .p (.bin .rem g34 (kc (.tc (.sc (.int .u8 4)))) (G2 18 9 2)) s35,
  .p (.gen (G2 18 9 3)) s36,
  .p (.ld false 1 g36) s37,
  .p (.nt g37 (G2 18 9 5)) s38,
  .p (.mv g38) s6])
 .ret)
 .skip))))))))))
 (.seq (.reg [.p (.mv (kc (.tc (.sc (.bool true))))) s6])
 .ret))),
 [.tmp g6]⟩
theorem ffRul18_ok : compF SBase 18 = ffRul18 := by kernel_rfl
noncomputable def ffRul5 : FF := .t3 ⟨98,
 (.seq (.reg [.p (.bx 5 (h0 g0) (G3 5 0 0)) (i0 s2),
  .p (.mv (kc (.tc (.sc (.bool false))))) (i0 s4)])
 (.seq (.seq (.reg [.p (.fa 0 (h0 g2)) (i0 s10),
  .p (.ld false 1 (h0 g10)) (i0 s11),
  .p (.len (h0 g11) (G3 5 1 2)) (i0 s12),
  .p (.bin .gtr (h0 g12) (kc (.tc (.sc (.int .i64 8)))) (G3 5 1 3)) (i0 s13),
  .p (.mv (h0 g13)) (i0 s14),
  .gp (h0 g14) false (.mv (h0 g1)) (i0 s15),
  .gp (h0 g14) false (.len (h0 g15) (G3 5 1 6)) (i0 s16),
  .gp (h0 g14) false (.bin .gtr (h0 g16) (kc (.tc (.sc (.int .i64 20)))) (G3 5 1 7)) (i0 s17),
  .p (.pk (h0 g14) (kc (.tc (.sc (.bool true)))) (h0 g17)) (i0 s18)])
 (.cond (h0 g18) (.seq (.reg [.p (.call 9 [] (G3 5 2 0)) (i0 s19),
  .p (.mv (h0 g19)) (i0 s4)])
 .ret)
 .skip))
 (.seq (.reg [.p (.ld true 5 (h0 g2)) (i0 s20),
  .p (.al 5 [(.sc (.slice none 0 0)), (.sc (.bool false)), (.sc (.bool false)), (.sc (.bool false)), (.sc (.bool false))]) (i0 s5),
  .n (.st 5 (h0 g5) (h0 g20) (G3 5 3 2))])
 (.seq (.reg [.p (.bs 11 0 [] [] (G3 5 4 0)) (i0 s21),
  .p (.fa 0 (h0 g2)) (i0 s22),
  .p (.ld false 1 (h0 g22)) (i0 s23),
  .p (.ap 11 24 (h0 g21) (h0 g23)) (i0 s24),
  .p (.fa 0 (h0 g5)) (i0 s25),
  .n (.st 1 (h0 g25) (h0 g24) (G3 5 4 5))])
 (.seq (.reg [.p (.fa 0 (h0 g5)) (i0 s26),
  .p (.ld false 1 (h0 g26)) (i0 s27),
  .p (.len (h0 g27) (G3 5 5 2)) (i0 s28),
  .p (.mv (h0 g28)) (i0 s6)])
 (.seq (.seq (.reg [.p (.mv (kc (.tc (.sc (.int .i64 0))))) (i0 s7)])
 (.block 0 (.loop 4294967296 (.seq (.seq (.reg [.p (.mv (h0 g7)) (i0 s29),
  .p (.mv (h0 g1)) (i0 s30),
  .p (.len (h0 g30) (G3 5 7 2)) (i0 s31),
  .p (.bin .lss (h0 g29) (h0 g31) (G3 5 7 3)) (i0 s32),
  .p (.mv (h0 g32)) (i0 s33),
  .gp (h0 g33) true (.mv (h0 g6)) (i0 s34),
  .gp (h0 g33) true (.bin .gtr (h0 g34) (kc (.tc (.sc (.int .i64 0)))) (G3 5 7 6)) (i0 s35),
  .p (.pk (h0 g33) (h0 g35) (kc (.tc (.sc (.bool false))))) (i0 s36)])
 (.cond (h0 g36) .skip
 (.exit 0)))
 (.seq (.block 1 (.seq (.reg [.p (.mv (h0 g7)) (i0 s39),
  .p (.mv (h0 g6)) (i0 s40),
  .p (.bin .rem (h0 g39) (h0 g40) (G3 5 8 2)) (i0 s41),
  .p (.mv (h0 g41)) (i0 s8)])
 (.seq (.reg [.p (.mv (h0 g1)) (i0 s42),
  .p (.mv (h0 g7)) (i0 s43),
  .p (.ia 1 (h0 g42) (h0 g43) (G3 5 9 2)) (i0 s44),
  .p (.ld false 1 (h0 g44)) (i0 s45),
  .p (.cv .i64 (h0 g45) (G3 5 9 4)) (i0 s46),
  .p (.mv (h0 g6)) (i0 s47),
  .p (.bin .rem (h0 g46) (h0 g47) (G3 5 9 6)) (i0 s48),
  .p (.mv (h0 g48)) (i0 s9)])
 (.seq (.regD [0, 1, 0, 0, 8, 0, 0, 64, 0, 448, 960, 0, 2048, 0, 14336, 30720, 65479, 131015, 262143, 524287] [.no, (.rd (.ld false 1 (h0 g49)) (h0 g50)), .no, .no, (.rd (.ld false 1 (h0 g52)) (h0 g53)), .no, .no, (.rd (.ld false 1 (h0 g55)) (h0 g56)), .no, .no, (.rd (.ld true 11 (h0 g58)) (h0 g59)), .no, (.rd (.ld false 1 (h0 g60)) (h0 g61)), .no, .no, (.rd (.ld true 11 (h0 g63)) (h1 g0)), .no, .no, .no, .no] [.mk .none .yes (.fa 0 (h0 g5)) (.fa 0 (h0 g5)) (some (i0 s49)),
  .mk .none .yes (.ld false 1 (h0 g49)) (.ld false 1 (h0 g49)) (some (i0 s50)),
  .mk .none .yes (.mv (h0 g8)) (.mv (h0 g8)) (some (i0 s51)),
  .mk .none .yes (.fa 0 (h0 g5)) (.fa 0 (h0 g5)) (some (i0 s52)),
  .mk .none .yes (.ld false 1 (h0 g52)) (.ld false 1 (h0 g52)) (some (i0 s53)),
  .mk .none .yes (.mv (h0 g9)) (.mv (h0 g9)) (some (i0 s54)),
  .mk .none .yes (.fa 0 (h0 g5)) (.fa 0 (h0 g5)) (some (i0 s55)),
  .mk .none .yes (.ld false 1 (h0 g55)) (.ld false 1 (h0 g55)) (some (i0 s56)),
  .mk .none .yes (.mv (h0 g9)) (.mv (h0 g9)) (some (i0 s57)),
  .mk .none .yes (.ia 11 (h0 g56) (h0 g57) (G3 5 10 9)) (.ia 11 (h0 g56) (h0 g57) (G3 5 10 9)) (some (i0 s58)),
  .mk .none .yes (.ld true 11 (h0 g58)) (.ld true 11 (h0 g58)) (some (i0 s59)),
  .mk .none .yes (.fa 0 (h0 g5)) (.fa 0 (h0 g5)) (some (i0 s60)),
  .mk .none .yes (.ld false 1 (h0 g60)) (.ld false 1 (h0 g60)) (some (i0 s61)),
  .mk .none .yes (.mv (h0 g8)) (.mv (h0 g8)) (some (i0 s62)),
  .mk .none .yes (.ia 11 (h0 g61) (h0 g62) (G3 5 10 14)) (.ia 11 (h0 g61) (h0 g62) (G3 5 10 14)) (some (i0 s63)),
  .mk .none .yes (.ld true 11 (h0 g63)) (.ld true 11 (h0 g63)) (some (i1 s0)),
  .mk .none .yes (.ia 11 (h0 g50) (h0 g51) (G3 5 10 16)) (.ia 11 (h0 g50) (h0 g51) (G3 5 10 16)) (some (i1 s1)),
  .mk .none .no (.st 11 (h1 g1) (h0 g59) (G3 5 10 17)) (.st 11 (h1 g1) (h0 g59) (G3 5 10 17)) none,
  .mk .none .yes (.ia 11 (h0 g53) (h0 g54) (G3 5 10 18)) (.ia 11 (h0 g53) (h0 g54) (G3 5 10 18)) (some (i1 s2)),
  .mk .none .no (.st 11 (h1 g2) (h1 g0) (G3 5 10 19)) (.st 11 (h1 g2) (h1 g0) (G3 5 10 19)) none])
 (.seq (.regD [0, 1, 0, 7, 15, 0, 32, 0, 224, 480, 1023, 0, 2048, 0, 14336, 30720, 0, 65536, 0, 458752, 983040, 2097151, 4194303] [.no, (.rd (.ld false 1 (h1 g3)) (h1 g4)), .no, .no, (.rd (.ld true 11 (h1 g6)) (h1 g7)), .no, (.rd (.ld false 1 (h1 g8)) (h1 g9)), .no, .no, (.rd (.ld true 11 (h1 g11)) (h1 g12)), .no, .no, (.rd (.ld false 1 (h1 g14)) (h1 g15)), .no, .no, (.rd (.ld true 11 (h1 g17)) (h1 g18)), .no, (.rd (.ld false 1 (h1 g19)) (h1 g20)), .no, .no, (.rd (.ld true 11 (h1 g22)) (h1 g23)), .no, .no] [.mk .none .yes (.fa 0 (h0 g5)) (.fa 0 (h0 g5)) (some (i1 s3)),
  .mk .none .yes (.ld false 1 (h1 g3)) (.ld false 1 (h1 g3)) (some (i1 s4)),
  .mk .none .yes (.mv (h0 g8)) (.mv (h0 g8)) (some (i1 s5)),
  .mk .none .yes (.ia 11 (h1 g4) (h1 g5) (G3 5 11 3)) (.ia 11 (h1 g4) (h1 g5) (G3 5 11 3)) (some (i1 s6)),
  .mk .none .yes (.ld true 11 (h1 g6)) (.ld true 11 (h1 g6)) (some (i1 s7)),
  .mk .none .yes (.fa 0 (h0 g5)) (.fa 0 (h0 g5)) (some (i1 s8)),
  .mk .none .yes (.ld false 1 (h1 g8)) (.ld false 1 (h1 g8)) (some (i1 s9)),
  .mk .none .yes (.mv (h0 g9)) (.mv (h0 g9)) (some (i1 s10)),
  .mk .none .yes (.ia 11 (h1 g9) (h1 g10) (G3 5 11 8)) (.ia 11 (h1 g9) (h1 g10) (G3 5 11 8)) (some (i1 s11)),
  .mk .none .yes (.ld true 11 (h1 g11)) (.ld true 11 (h1 g11)) (some (i1 s12)),
  .mk .none (.dyn 12 [(h1 g7), (h1 g12)]) (.call 12 [(h1 g7), (h1 g12)] (G3 5 11 10)) (.call 12 [(h1 g7), (h1 g12)] (G3 5 11 10)) (some (i1 s13)),
  .mk .none .yes (.fa 0 (h0 g5)) (.fa 0 (h0 g5)) (some (i1 s14)),
  .mk .none .yes (.ld false 1 (h1 g14)) (.ld false 1 (h1 g14)) (some (i1 s15)),
  .mk .none .yes (.mv (h0 g9)) (.mv (h0 g9)) (some (i1 s16)),
  .mk .none .yes (.ia 11 (h1 g15) (h1 g16) (G3 5 11 14)) (.ia 11 (h1 g15) (h1 g16) (G3 5 11 14)) (some (i1 s17)),
  .mk .none .yes (.ld true 11 (h1 g17)) (.ld true 11 (h1 g17)) (some (i1 s18)),
  .mk .none .yes (.fa 0 (h0 g5)) (.fa 0 (h0 g5)) (some (i1 s19)),
  .mk .none .yes (.ld false 1 (h1 g19)) (.ld false 1 (h1 g19)) (some (i1 s20)),
  .mk .none .yes (.mv (h0 g8)) (.mv (h0 g8)) (some (i1 s21)),
  .mk .none .yes (.ia 11 (h1 g20) (h1 g21) (G3 5 11 19)) (.ia 11 (h1 g20) (h1 g21) (G3 5 11 19)) (some (i1 s22)),
  .mk .none .yes (.ld true 11 (h1 g22)) (.ld true 11 (h1 g22)) (some (i1 s23)),
  .mk .none (.dyn 12 [(h1 g18), (h1 g23)]) (.call 12 [(h1 g18), (h1 g23)] (G3 5 11 21)) (.call 12 [(h1 g18), (h1 g23)] (G3 5 11 21)) (some (i1 s24)),
  .mk .none .yes (.bin .neq (h1 g13) (h1 g24) (G3 5 11 22)) (.bin .neq (h1 g13) (h1 g24) (G3 5 11 22)) (some (i1 s25))])
 (.cond (h1 g25) (.seq (.reg [.p (.mv (kc (.tc (.sc (.bool false))))) (i0 s4)])
 .ret)
 .skip))))))
 (.reg [.p (.mv (h0 g7)) (i0 s37),
  .p (.bin .add (h0 g37) (kc (.tc (.sc (.int .i64 1)))) (G3 5 13 1)) (i0 s38),
  .p (.mv (h0 g38)) (i0 s7)]))))))
 (.seq (.regD [0, 1, 0, 7, 15, 31, 63, 127, 255] [(.rd (.ld true 5 (h0 g2)) (h1 g26)), .no, (.rd (.ld true 5 (h0 g5)) (h1 g28)), .no, .no, .no, .no, .no, .no] [.mk .none .yes (.ld true 5 (h0 g2)) (.ld true 5 (h0 g2)) (some (i1 s26)),
  .mk .none (.dyn 10 [(h1 g26)]) (.call 10 [(h1 g26)] (G3 5 14 1)) (.call 10 [(h1 g26)] (G3 5 14 1)) (some (i1 s27)),
  .mk .none .yes (.ld true 5 (h0 g5)) (.ld true 5 (h0 g5)) (some (i1 s28)),
  .mk .none (.dyn 10 [(h1 g28)]) (.call 10 [(h1 g28)] (G3 5 14 3)) (.call 10 [(h1 g28)] (G3 5 14 3)) (some (i1 s29)),
  .mk .none .yes (.bin .eql (h1 g27) (h1 g29) (G3 5 14 4)) (.bin .eql (h1 g27) (h1 g29) (G3 5 14 4)) (some (i1 s30)),
  .mk .none .yes (.mv (h1 g30)) (.mv (h1 g30)) (some (i1 s31)),
  .mk (.on (h1 g31) true) (.dyn 9 []) (.call 9 [] (G3 5 14 6)) (.call 9 [] (G3 5 14 6)) (some (i1 s32)),
  .mk .none .yes (.pk (h1 g31) (h1 g32) (kc (.tc (.sc (.bool false))))) (.pk (h1 g31) (h1 g32) (kc (.tc (.sc (.bool false))))) (some (i1 s33)),
  .mk .none .yes (.mv (h1 g33)) (.mv (h1 g33)) (some (i0 s4))])
 .ret))))))),
 [.tmp (h0 g4)]⟩
theorem ffRul5_ok : compF SBase 5 = ffRul5 := by kernel_rfl
noncomputable def ffRul6 : FF := .t3 ⟨81,
 (.seq (.reg [.p (.bx 5 (h0 g0) (G3 6 0 0)) (i0 s2),
  .p (.mv (kc (.tc (.sc (.bool false))))) (i0 s4)])
 (.seq (.seq (.reg [.p (.fa 0 (h0 g2)) (i0 s11),
  .p (.ld false 1 (h0 g11)) (i0 s12),
  .p (.len (h0 g12) (G3 6 1 2)) (i0 s13),
  .p (.bin .gtr (h0 g13) (kc (.tc (.sc (.int .i64 8)))) (G3 6 1 3)) (i0 s14),
  .p (.mv (h0 g14)) (i0 s15),
  .gp (h0 g15) false (.ld true 5 (h0 g2)) (i0 s16),
  .gp (h0 g15) false (.call 10 [(h0 g16)] (G3 6 1 6)) (i0 s17),
  .gp (h0 g15) false (.bin .neq (h0 g17) (kc (.tc (.sc (.int .i64 0)))) (G3 6 1 7)) (i0 s18),
  .p (.pk (h0 g15) (kc (.tc (.sc (.bool true)))) (h0 g18)) (i0 s19)])
 (.cond (h0 g19) (.seq (.reg [.p (.call 9 [] (G3 6 2 0)) (i0 s20),
  .p (.mv (h0 g20)) (i0 s4)])
 .ret)
 .skip))
 (.seq (.reg [.p (.ld true 5 (h0 g2)) (i0 s21),
  .p (.al 5 [(.sc (.slice none 0 0)), (.sc (.bool false)), (.sc (.bool false)), (.sc (.bool false)), (.sc (.bool false))]) (i0 s5),
  .n (.st 5 (h0 g5) (h0 g21) (G3 6 3 2))])
 (.seq (.reg [.p (.fa 1 (h0 g5)) (i0 s22),
  .n (.st 1 (h0 g22) (kc (.tc (.sc (.bool false)))) (G3 6 4 1)),
  .p (.fa 2 (h0 g5)) (i0 s23),
  .n (.st 1 (h0 g23) (kc (.tc (.sc (.bool false)))) (G3 6 4 3))])
 (.seq (.seq (.reg [.p (.ld true 5 (h0 g5)) (i0 s24),
  .p (.call 10 [(h0 g24)] (G3 6 5 1)) (i0 s25),
  .p (.bin .neq (h0 g25) (kc (.tc (.sc (.int .i64 0)))) (G3 6 5 2)) (i0 s26)])
 (.cond (h0 g26) (.seq (.reg [.p (.mv (kc (.tc (.sc (.bool false))))) (i0 s4)])
 .ret)
 .skip))
 (.seq (.reg [.p (.mv (h0 g1)) (i0 s27),
  .p (.cv .i64 (h0 g27) (G3 6 7 1)) (i0 s28),
  .p (.fa 0 (h0 g2)) (i0 s29),
  .p (.ld false 1 (h0 g29)) (i0 s30),
  .p (.len (h0 g30) (G3 6 7 4)) (i0 s31),
  .p (.bin .rem (h0 g28) (h0 g31) (G3 6 7 5)) (i0 s32),
  .p (.mv (h0 g32)) (i0 s6)])
 (.seq (.reg [.p (.fa 0 (h0 g2)) (i0 s34),
  .p (.ld false 1 (h0 g34)) (i0 s35),
  .p (.mv (h0 g6)) (i0 s36),
  .p (.ia 11 (h0 g35) (h0 g36) (G3 6 8 3)) (i0 s37),
  .p (.ld true 11 (h0 g37)) (i0 s38),
  .p (.call 17 [(h0 g38)] (G3 6 8 5)) (i0 s39),
  .p (.mv (h0 g39)) (i0 s33),
  .p (.ex (h0 g33) 0) (i0 s40),
  .p (.ex (h0 g33) 1) (i0 s41),
  .p (.mv (h0 g40)) (i0 s7),
  .p (.mv (h0 g41)) (i0 s8)])
 (.seq (.reg [.p (.fa 0 (h0 g2)) (i0 s43),
  .p (.ld false 1 (h0 g43)) (i0 s44),
  .p (.mv (h0 g6)) (i0 s45),
  .p (.ia 11 (h0 g44) (h0 g45) (G3 6 9 3)) (i0 s46),
  .p (.ld true 11 (h0 g46)) (i0 s47),
  .p (.call 15 [(h0 g47)] (G3 6 9 5)) (i0 s48),
  .p (.mv (h0 g48)) (i0 s42),
  .p (.ex (h0 g42) 0) (i0 s49),
  .p (.ex (h0 g42) 1) (i0 s50),
  .p (.mv (h0 g49)) (i0 s9),
  .p (.mv (h0 g50)) (i0 s10)])
 (.seq (.seq (.reg [.p (.mv (h0 g8)) (i0 s51),
  .p (.mv (h0 g51)) (i0 s52),
  .gp (h0 g52) false (.mv (h0 g10)) (i0 s53),
  .p (.pk (h0 g52) (kc (.tc (.sc (.bool true)))) (h0 g53)) (i0 s54),
  .p (.mv (h0 g54)) (i0 s55),
  .gp (h0 g55) false (.fa 0 (h0 g2)) (i0 s56),
  .gp (h0 g55) false (.ld false 1 (h0 g56)) (i0 s57),
  .gp (h0 g55) false (.len (h0 g57) (G3 6 10 7)) (i0 s58),
  .gp (h0 g55) false (.bin .eql (h0 g58) (kc (.tc (.sc (.int .i64 1)))) (G3 6 10 8)) (i0 s59),
  .p (.pk (h0 g55) (kc (.tc (.sc (.bool true)))) (h0 g59)) (i0 s60)])
 (.cond (h0 g60) (.seq (.reg [.p (.call 9 [] (G3 6 11 0)) (i0 s61),
  .p (.mv (h0 g61)) (i0 s4)])
 .ret)
 .skip))
 (.seq (.regD [0, 0, 2, 0, 14, 31, 0, 64, 0, 256, 960, 2047, 4095, 8191] [.no, .no, (.rd (.ld false 1 (h0 g63)) (h1 g0)), .no, .no, .no, .no, (.rd (.ld false 1 (h1 g4)) (h1 g5)), .no, .no, .no, .no, .no, .no] [.mk .none (.gen (G3 6 12 0)) (.bt 11 [] [] (G3 6 12 0)) (.bs 11 0 [] [] (G3 6 12 0)) (some (i0 s62)),
  .mk .none .yes (.fa 0 (h0 g2)) (.fa 0 (h0 g2)) (some (i0 s63)),
  .mk .none .yes (.ld false 1 (h0 g63)) (.ld false 1 (h0 g63)) (some (i1 s0)),
  .mk .none .yes (.mv (h0 g6)) (.mv (h0 g6)) (some (i1 s1)),
  .mk .none .yes (.sl 11 (h1 g0) none (some (h1 g1)) none (G3 6 12 4)) (.sl 11 (h1 g0) none (some (h1 g1)) none (G3 6 12 4)) (some (i1 s2)),
  .mk .none .no (.ap 11 24 (h0 g62) (h1 g2)) (.ap 11 24 (h0 g62) (h1 g2)) (some (i1 s3)),
  .mk .none .yes (.fa 0 (h0 g2)) (.fa 0 (h0 g2)) (some (i1 s4)),
  .mk .none .yes (.ld false 1 (h1 g4)) (.ld false 1 (h1 g4)) (some (i1 s5)),
  .mk .none .yes (.mv (h0 g6)) (.mv (h0 g6)) (some (i1 s6)),
  .mk .none .yes (.bin .add (h1 g6) (kc (.tc (.sc (.int .i64 1)))) (G3 6 12 9)) (.bin .add (h1 g6) (kc (.tc (.sc (.int .i64 1)))) (G3 6 12 9)) (some (i1 s7)),
  .mk .none .yes (.sl 11 (h1 g5) (some (h1 g7)) none none (G3 6 12 10)) (.sl 11 (h1 g5) (some (h1 g7)) none none (G3 6 12 10)) (some (i1 s8)),
  .mk .none .no (.ap 11 24 (h1 g3) (h1 g8)) (.ap 11 24 (h1 g3) (h1 g8)) (some (i1 s9)),
  .mk .none .yes (.fa 0 (h0 g2)) (.fa 0 (h0 g2)) (some (i1 s10)),
  .mk .none .no (.st 1 (h1 g10) (h1 g9) (G3 6 12 13)) (.st 1 (h1 g10) (h1 g9) (G3 6 12 13)) none])
 (.seq (.reg [.p (.ld true 5 (h0 g2)) (i1 s11),
  .p (.call 10 [(h1 g11)] (G3 6 13 1)) (i1 s12),
  .p (.bin .eql (h1 g12) (kc (.tc (.sc (.int .i64 0)))) (G3 6 13 2)) (i1 s13),
  .p (.mv (h1 g13)) (i1 s14),
  .gp (h1 g14) true (.call 9 [] (G3 6 13 4)) (i1 s15),
  .p (.pk (h1 g14) (h1 g15) (kc (.tc (.sc (.bool false))))) (i1 s16),
  .p (.mv (h1 g16)) (i0 s4)])
 .ret))))))))))),
 [.tmp (h0 g4)]⟩
theorem ffRul6_ok : compF SBase 6 = ffRul6 := by kernel_rfl

noncomputable def codeRul (f : FuncId) : FF := match f with
  | 3 => ffRul3
  | 9 => ffRul9
  | 24 => ffRul24
  | 23 => ffRul23
  | 10 => ffRul10
  | 25 => ffRul25
  | 45 => ffRul45
  | 16 => ffRul16
  | 38 => ffRul38
  | 54 => ffRul54
  | 73 => ffRul73
  | 78 => ffRul78
  | 89 => ffRul89
  | 90 => ffRul90
  | 91 => ffRul91
  | 79 => ffRul79
  | 85 => ffRul85
  | 80 => ffRul80
  | 81 => ffRul81
  | 82 => ffRul82
  | 83 => ffRul83
  | 84 => ffRul84
  | 86 => ffRul86
  | 55 => ffRul55
  | 46 => ffRul46
  | 68 => ffRul68
  | 26 => ffRul26
  | 47 => ffRul47
  | 27 => ffRul27
  | 14 => ffRul14
  | 39 => ffRul39
  | 40 => ffRul40
  | 56 => ffRul56
  | 41 => ffRul41
  | 42 => ffRul42
  | 57 => ffRul57
  | 28 => ffRul28
  | 48 => ffRul48
  | 12 => ffRul12
  | 17 => ffRul17
  | 34 => ffRul34
  | 15 => ffRul15
  | 29 => ffRul29
  | 30 => ffRul30
  | 49 => ffRul49
  | 50 => ffRul50
  | 11 => ffRul11
  | 31 => ffRul31
  | 51 => ffRul51
  | 53 => ffRul53
  | 69 => ffRul69
  | 70 => ffRul70
  | 71 => ffRul71
  | 72 => ffRul72
  | 32 => ffRul32
  | 52 => ffRul52
  | 13 => ffRul13
  | 35 => ffRul35
  | 36 => ffRul36
  | 37 => ffRul37
  | 33 => ffRul33
  | 4 => ffRul4
  | 18 => ffRul18
  | 5 => ffRul5
  | 6 => ffRul6
  | _ => .bad
theorem codeRul_ok : ∀ f, codeRul f = .bad ∨ codeRul f = compF SBase f := by
  intro f
  unfold codeRul
  split
  · exact .inr ffRul3_ok.symm
  · exact .inr ffRul9_ok.symm
  · exact .inr ffRul24_ok.symm
  · exact .inr ffRul23_ok.symm
  · exact .inr ffRul10_ok.symm
  · exact .inr ffRul25_ok.symm
  · exact .inr ffRul45_ok.symm
  · exact .inr ffRul16_ok.symm
  · exact .inr ffRul38_ok.symm
  · exact .inr ffRul54_ok.symm
  · exact .inr ffRul73_ok.symm
  · exact .inr ffRul78_ok.symm
  · exact .inr ffRul89_ok.symm
  · exact .inr ffRul90_ok.symm
  · exact .inr ffRul91_ok.symm
  · exact .inr ffRul79_ok.symm
  · exact .inr ffRul85_ok.symm
  · exact .inr ffRul80_ok.symm
  · exact .inr ffRul81_ok.symm
  · exact .inr ffRul82_ok.symm
  · exact .inr ffRul83_ok.symm
  · exact .inr ffRul84_ok.symm
  · exact .inr ffRul86_ok.symm
  · exact .inr ffRul55_ok.symm
  · exact .inr ffRul46_ok.symm
  · exact .inr ffRul68_ok.symm
  · exact .inr ffRul26_ok.symm
  · exact .inr ffRul47_ok.symm
  · exact .inr ffRul27_ok.symm
  · exact .inr ffRul14_ok.symm
  · exact .inr ffRul39_ok.symm
  · exact .inr ffRul40_ok.symm
  · exact .inr ffRul56_ok.symm
  · exact .inr ffRul41_ok.symm
  · exact .inr ffRul42_ok.symm
  · exact .inr ffRul57_ok.symm
  · exact .inr ffRul28_ok.symm
  · exact .inr ffRul48_ok.symm
  · exact .inr ffRul12_ok.symm
  · exact .inr ffRul17_ok.symm
  · exact .inr ffRul34_ok.symm
  · exact .inr ffRul15_ok.symm
  · exact .inr ffRul29_ok.symm
  · exact .inr ffRul30_ok.symm
  · exact .inr ffRul49_ok.symm
  · exact .inr ffRul50_ok.symm
  · exact .inr ffRul11_ok.symm
  · exact .inr ffRul31_ok.symm
  · exact .inr ffRul51_ok.symm
  · exact .inr ffRul53_ok.symm
  · exact .inr ffRul69_ok.symm
  · exact .inr ffRul70_ok.symm
  · exact .inr ffRul71_ok.symm
  · exact .inr ffRul72_ok.symm
  · exact .inr ffRul32_ok.symm
  · exact .inr ffRul52_ok.symm
  · exact .inr ffRul13_ok.symm
  · exact .inr ffRul35_ok.symm
  · exact .inr ffRul36_ok.symm
  · exact .inr ffRul37_ok.symm
  · exact .inr ffRul33_ok.symm
  · exact .inr ffRul4_ok.symm
  · exact .inr ffRul18_ok.symm
  · exact .inr ffRul5_ok.symm
  · exact .inr ffRul6_ok.symm
  · exact .inl rfl
end Go.Proofs.Ytamhmfdbnlkmkaa
