/- Code made ready ahead, Sub: each is what the program says. -/
import Derived.Test.YthabafmieebmmaaDoorKcBase
import Derived.Test.YthabafmieebmmaaDoorMg8
set_option linter.unusedVariables false
set_option maxRecDepth 100000
namespace Go.Proofs.YthabafmieebmmaaDoor
open Go

/-- What coxless/sub.rows holds. -/
noncomputable def glSub0 : List TC := [(.sl 10 [[(.sc (.int .u8 8)), (.sc (.int .i64 1)), (.sc (.int .i64 4)), (.sc (.int .i64 0)), (.sc (.int .i64 5)), (.sc (.int .i64 7)), (.sc (.int .i64 0)), (.sc (.int .i64 0)), (.sc (.int .i64 0)), (.sc (.int .i64 0))], [(.sc (.int .u8 7)), (.sc (.int .i64 4)), (.sc (.int .i64 4)), (.sc (.int .i64 0)), (.sc (.int .i64 6)), (.sc (.int .i64 7)), (.sc (.int .i64 0)), (.sc (.int .i64 0)), (.sc (.int .i64 0)), (.sc (.int .i64 0))], [(.sc (.int .u8 9)), (.sc (.int .i64 1)), (.sc (.int .i64 4)), (.sc (.int .i64 0)), (.sc (.int .i64 2)), (.sc (.int .i64 4)), (.sc (.int .i64 0)), (.sc (.int .i64 0)), (.sc (.int .i64 0)), (.sc (.int .i64 0))], [(.sc (.int .u8 2)), (.sc (.int .i64 4)), (.sc (.int .i64 4)), (.sc (.int .i64 0)), (.sc (.int .i64 3)), (.sc (.int .i64 4)), (.sc (.int .i64 0)), (.sc (.int .i64 0)), (.sc (.int .i64 0)), (.sc (.int .i64 0))], [(.sc (.int .u8 21)), (.sc (.int .i64 1)), (.sc (.int .i64 4)), (.sc (.int .i64 0)), (.sc (.int .i64 2)), (.sc (.int .i64 4)), (.sc (.int .i64 0)), (.sc (.int .i64 5)), (.sc (.int .i64 3)), (.sc (.int .i64 2))], [(.sc (.int .u8 24)), (.sc (.int .i64 2)), (.sc (.int .i64 4)), (.sc (.int .i64 0)), (.sc (.int .i64 3)), (.sc (.int .i64 4)), (.sc (.int .i64 0)), (.sc (.int .i64 5)), (.sc (.int .i64 3)), (.sc (.int .i64 2))], [(.sc (.int .u8 23)), (.sc (.int .i64 1)), (.sc (.int .i64 4)), (.sc (.int .i64 0)), (.sc (.int .i64 2)), (.sc (.int .i64 4)), (.sc (.int .i64 0)), (.sc (.int .i64 5)), (.sc (.int .i64 3)), (.sc (.int .i64 0))], [(.sc (.int .u8 26)), (.sc (.int .i64 2)), (.sc (.int .i64 4)), (.sc (.int .i64 0)), (.sc (.int .i64 3)), (.sc (.int .i64 4)), (.sc (.int .i64 0)), (.sc (.int .i64 5)), (.sc (.int .i64 3)), (.sc (.int .i64 0))], [(.sc (.int .u8 13)), (.sc (.int .i64 2)), (.sc (.int .i64 4)), (.sc (.int .i64 0)), (.sc (.int .i64 5)), (.sc (.int .i64 7)), (.sc (.int .i64 0)), (.sc (.int .i64 0)), (.sc (.int .i64 0)), (.sc (.int .i64 0))]])]
noncomputable def gwSub0 : Nat := 1
noncomputable def globSub : List (Nat × List TC) := [(0, glSub0)]
noncomputable def SBSub : Base := ⟨XP, globAt globSub, 4294967296⟩
noncomputable def ffSub4 : FF := .t2 ⟨56,
 (.seq (.reg [.p (.bx 11 g1 (G2 4 0 0)) s3,
  .p (.mv (kc (.tc (.sc (.bool false))))) s4])
 (.seq (.reg [.p (.mv g0) s14,
  .p (.call 19 [g14] (G2 4 1 1)) s15,
  .p (.mv g15) s13,
  .p (.ex g13 0) s16,
  .p (.ex g13 1) s17,
  .p (.al 11 [(.sc (.int .u8 0)), (.sc (.int .u8 0)), (.sc (.int .u8 0)), (.sc (.int .u8 0)), (.sc (.int .u8 0)), (.sc (.int .u8 0)), (.sc (.int .u8 0)), (.sc (.bool false)), (.sc (.bool false)), (.sc (.int .u16 0)), (.sc (.int .i64 0))]) s5,
  .n (.st 11 g5 g16 (G2 4 1 6)),
  .p (.mv g17) s6])
 (.seq (.reg [.p (.mv g0) s19,
  .p (.cv .i64 g19 (G2 4 2 1)) s20,
  .p (.call 20 [g20] (G2 4 2 2)) s21,
  .p (.mv g21) s18,
  .p (.ex g18 0) s22,
  .p (.ex g18 1) s23,
  .p (.al 11 [(.sc (.int .u8 0)), (.sc (.int .u8 0)), (.sc (.int .u8 0)), (.sc (.int .u8 0)), (.sc (.int .u8 0)), (.sc (.int .u8 0)), (.sc (.int .u8 0)), (.sc (.bool false)), (.sc (.bool false)), (.sc (.int .u16 0)), (.sc (.int .i64 0))]) s7,
  .n (.st 11 g7 g22 (G2 4 2 7)),
  .p (.mv g23) s8])
 (.seq (.reg [.p (.ld true 11 g3) s25,
  .p (.call 21 [g25] (G2 4 3 1)) s26,
  .p (.mv g26) s24,
  .p (.ex g24 0) s27,
  .p (.ex g24 1) s28,
  .p (.mv g27) s9,
  .p (.mv g28) s10])
 (.seq (.reg [.p (.ld true 11 g3) s30,
  .p (.call 22 [g30] (G2 4 4 1)) s31,
  .p (.mv g31) s29,
  .p (.ex g29 0) s32,
  .p (.ex g29 1) s33,
  .p (.mv g32) s11,
  .p (.mv g33) s12])
 (.seq (.reg [.p (.ld true 11 g5) s34,
  .p (.ld true 11 g7) s35,
  .p (.eqs .eql [(.mk 0 .int), (.mk 1 .int), (.mk 2 .int), (.mk 3 .int), (.mk 4 .int), (.mk 5 .int), (.mk 6 .int), (.mk 7 .bool), (.mk 8 .bool), (.mk 9 .int), (.mk 10 .int)] g34 g35 (G2 4 5 2)) s36,
  .p (.mv g36) s37,
  .gp g37 true (.mv g6) s38,
  .gp g37 true (.mv g8) s39,
  .gp g37 true (.bin .eql g38 g39 (G2 4 5 6)) s40,
  .p (.pk g37 g40 (kc (.tc (.sc (.bool false))))) s41,
  .p (.mv g41) s42,
  .gp g42 true (.mv g9) s43,
  .gp g42 true (.cv .i64 g43 (G2 4 5 10)) s44,
  .gp g42 true (.mv g11) s45,
  .gp g42 true (.bin .eql g44 g45 (G2 4 5 12)) s46,
  .p (.pk g42 g46 (kc (.tc (.sc (.bool false))))) s47,
  .p (.mv g47) s48,
  .gp g48 true (.mv g10) s49,
  .gp g48 true (.mv g12) s50,
  .gp g48 true (.bin .eql g49 g50 (G2 4 5 17)) s51,
  .p (.pk g48 g51 (kc (.tc (.sc (.bool false))))) s52,
  .p (.mv g52) s53,
  .gp g53 true (.call 23 [] (G2 4 5 20)) s54,
  .p (.pk g53 g54 (kc (.tc (.sc (.bool false))))) s55,
  .p (.mv g55) s4])
 .ret)))))),
 [.tmp g4]⟩
theorem ffSub4_ok : compF SBSub 4 = ffSub4 := by kernel_rfl
noncomputable def ffSub19 : FF := .t2 ⟨60,
 (.seq (.reg [.p (.al 11 [(.sc (.int .u8 0)), (.sc (.int .u8 0)), (.sc (.int .u8 0)), (.sc (.int .u8 0)), (.sc (.int .u8 0)), (.sc (.int .u8 0)), (.sc (.int .u8 0)), (.sc (.bool false)), (.sc (.bool false)), (.sc (.int .u16 0)), (.sc (.int .i64 0))]) s2,
  .p (.mv (kc (.tc (.sc (.bool false))))) s3])
 (.seq (.reg [.p (.mv g0) s10,
  .p (.bin .shr g10 (kc (.tc (.sc (.int .u64 11)))) (G2 19 1 1)) s11,
  .p (.cv .i64 g11 (G2 19 1 2)) s12,
  .p (.mv g12) s4])
 (.seq (.seq (.reg [.p (.mv g4) s13,
  .p (.bin .lss g13 (kc (.tc (.sc (.int .i64 1)))) (G2 19 2 1)) s14,
  .p (.mv g14) s15,
  .gp g15 false (.mv g4) s16,
  .gp g15 false (.ld false 1 (kc (.vptr gwSub0 [glSub0] 0 0))) s17,
  .gp g15 false (.len g17 (G2 19 2 5)) s18,
  .gp g15 false (.bin .gtr g16 g18 (G2 19 2 6)) s19,
  .p (.pk g15 (kc (.tc (.sc (.bool true)))) g19) s20])
 (.cond g20 (.seq (.reg [.p (.bd [(.tc (.sc (.int .u8 0))), (.tc (.sc (.int .u8 0))), (.tc (.sc (.int .u8 0))), (.tc (.sc (.int .u8 0))), (.tc (.sc (.int .u8 0))), (.tc (.sc (.int .u8 0))), (.tc (.sc (.int .u8 0))), (.tc (.sc (.bool false))), (.tc (.sc (.bool false))), (.tc (.sc (.int .u16 0))), (.tc (.sc (.int .i64 0)))] [] (G2 19 3 0)) s21,
  .n (.st 11 g2 g21 (G2 19 3 1)),
  .p (.mv (kc (.tc (.sc (.bool false))))) s3])
 .ret)
 .skip))
 (.seq (.reg [.p (.ld false 1 (kc (.vptr gwSub0 [glSub0] 0 0))) s22,
  .p (.mv g4) s23,
  .p (.bin .sub g23 (kc (.tc (.sc (.int .i64 1)))) (G2 19 4 2)) s24,
  .p (.ia 10 g22 g24 (G2 19 4 3)) s25,
  .p (.ld true 10 g25) s26,
  .p (.al 10 [(.sc (.int .u8 0)), (.sc (.int .i64 0)), (.sc (.int .i64 0)), (.sc (.int .i64 0)), (.sc (.int .i64 0)), (.sc (.int .i64 0)), (.sc (.int .i64 0)), (.sc (.int .i64 0)), (.sc (.int .i64 0)), (.sc (.int .i64 0))]) s5,
  .n (.st 10 g5 g26 (G2 19 4 6))])
 (.seq (.reg [.p (.fa 0 g5) s27,
  .p (.ld false 1 g27) s28,
  .p (.bd [(.tc (.sc (.int .u8 0))), (.tc (.sc (.int .u8 0))), (.tc (.sc (.int .u8 0))), (.tc (.sc (.int .u8 0))), (.tc (.sc (.int .u8 0))), (.tc (.sc (.int .u8 0))), (.tc (.sc (.int .u8 0))), (.tc (.sc (.bool false))), (.tc (.sc (.bool false))), (.tc (.sc (.int .u16 0))), (.tc (.sc (.int .i64 0)))] [(.mk 0 1 g28)] (G2 19 5 2)) s29,
  .p (.al 11 [(.sc (.int .u8 0)), (.sc (.int .u8 0)), (.sc (.int .u8 0)), (.sc (.int .u8 0)), (.sc (.int .u8 0)), (.sc (.int .u8 0)), (.sc (.int .u8 0)), (.sc (.bool false)), (.sc (.bool false)), (.sc (.int .u16 0)), (.sc (.int .i64 0))]) s6,
  .n (.st 11 g6 g29 (G2 19 5 4))])
 (.seq (.reg [.p (.mv (kc (.tc (.sc (.int .i64 11))))) s7])
 (.seq (.seq (.reg [.p (.fa 1 g5) s30,
  .p (.ld true 9 g30) s31,
  .p (.mv (kc (.tc (.sc (.int .i64 0))))) s32])
 (.block 0 (.loop 4294967296 (.seq (.reg [.p (.bin .lss g32 (kc (.tc (.sc (.int .i64 3)))) (G2 19 8 0)) s33])
 (.seq (.cond g33 .skip
 (.exit 0))
 (.seq (.block 1 (.seq (.reg [.p (.gen (G2 19 9 0)) s34,
  .p (.al 3 [(.sc (.int .i64 0)), (.sc (.int .i64 0)), (.sc (.int .i64 0))]) s9,
  .n (.st 3 g9 g34 (G2 19 9 2))])
 (.seq (.reg [.p (.mv g7) s35,
  .p (.fa 1 g9) s36,
  .p (.ld false 1 g36) s37,
  .p (.bin .sub g35 g37 (G2 19 10 3)) s38,
  .p (.mv g38) s7])
 (.regD [0, 0, 2, 0, 0, 16, 62, 127] [(.rd (.ld true 3 g9) g39), .no, (.rd (.cv .u32 g40 (G2 19 11 2)) g41), .no, .no, (.rd (.ld false 1 g43) g44), .no, .no] [.mk .none .yes (.ld true 3 g9) (.ld true 3 g9) (some s39),
  .mk .none .yes (.mv g0) (.mv g0) (some s40),
  .mk .none .yes (.cv .u32 g40 (G2 19 11 2)) (.cv .u32 g40 (G2 19 11 2)) (some s41),
  .mk .none .yes (.mv g7) (.mv g7) (some s42),
  .mk .none .yes (.fa 1 g9) (.fa 1 g9) (some s43),
  .mk .none .yes (.ld false 1 g43) (.ld false 1 g43) (some s44),
  .mk .none (.dyn 39 [g41, g42, g44]) (.call 39 [g41, g42, g44] (G2 19 11 6)) (.call 39 [g41, g42, g44] (G2 19 11 6)) (some s45),
  .mk .none (.dyn 38 [g39, g6, g45]) (.call 38 [g39, g6, g45] (G2 19 11 7)) (.call 38 [g39, g6, g45] (G2 19 11 7)) (some s46)]))))
 (.reg [.p (.bin .add g32 (kc (.tc (.sc (.int .i64 1)))) (G2 19 12 0)) s47,
  .p (.mv g47) s32])))))))
 (.seq (.seq (.reg [.p (.mv g0) s48,
  .p (.cv .u32 g48 (G2 19 13 1)) s49,
  .p (.mv g7) s50,
  .p (.call 39 [g49, (kc (.tc (.sc (.int .i64 0)))), g50] (G2 19 13 3)) s51,
  .p (.bin .neq g51 (kc (.tc (.sc (.int .u32 0)))) (G2 19 13 4)) s52,
  .p (.mv g52) s53,
  .gp g53 false (.ld true 11 g6) s54,
  .gp g53 false (.call 24 [g54] (G2 19 13 7)) s55,
  .gp g53 false (.nt g55 (G2 19 13 8)) s56,
  .p (.pk g53 (kc (.tc (.sc (.bool true)))) g56) s57])
 (.cond g57 (.seq (.reg [.p (.bd [(.tc (.sc (.int .u8 0))), (.tc (.sc (.int .u8 0))), (.tc (.sc (.int .u8 0))), (.tc (.sc (.int .u8 0))), (.tc (.sc (.int .u8 0))), (.tc (.sc (.int .u8 0))), (.tc (.sc (.int .u8 0))), (.tc (.sc (.bool false))), (.tc (.sc (.bool false))), (.tc (.sc (.int .u16 0))), (.tc (.sc (.int .i64 0)))] [] (G2 19 14 0)) s58,
  .n (.st 11 g2 g58 (G2 19 14 1)),
  .p (.mv (kc (.tc (.sc (.bool false))))) s3])
 .ret)
 .skip))
 (.seq (.reg [.p (.ld true 11 g6) s59,
  .n (.st 11 g2 g59 (G2 19 15 1)),
  .p (.mv (kc (.tc (.sc (.bool true))))) s3])
 .ret))))))))),
 [.cell g2 true 11, .tmp g3]⟩
theorem ffSub19_ok : compF SBSub 19 = ffSub19 := by kernel_rfl
noncomputable def ffSub39 : FF := .t2 ⟨17,
 (.seq (.reg [.p (.mv (kc (.tc (.sc (.int .u32 0))))) s6])
 (.seq (.reg [.p (.mv g1) s8,
  .p (.mv g2) s9,
  .p (.bd [(.tc (.sc (.int .i64 0))), (.tc (.sc (.int .i64 0)))] [(.mk 0 1 g8), (.mk 1 1 g9)] (G2 39 1 2)) s10,
  .p (.al 2 [(.sc (.int .i64 0)), (.sc (.int .i64 0))]) s7,
  .n (.st 2 g7 g10 (G2 39 1 4))])
 (.seq (.seq (.reg [.p (.ld true 2 g7) s11,
  .p (.call 64 [g11] (G2 39 2 1)) s12,
  .p (.nt g12 (G2 39 2 2)) s13])
 (.cond g13 (.seq (.reg [.p (.mv (kc (.tc (.sc (.int .u32 0))))) s6])
 .ret)
 .skip))
 (.seq (.reg [.p (.ld true 2 g7) s14,
  .p (.mv g0) s15,
  .p (.call 53 [g14, g15] (G2 39 4 2)) s16,
  .p (.mv g16) s6])
 .ret)))),
 [.tmp g6]⟩
theorem ffSub39_ok : compF SBSub 39 = ffSub39 := by kernel_rfl
noncomputable def ffSub64 : FF := .t2 ⟨24,
 (.seq (.reg [.p (.bx 2 g0 (G2 64 0 0)) s1,
  .p (.mv (kc (.tc (.sc (.bool false))))) s2])
 (.seq (.reg [.p (.fa 0 g1) s3,
  .p (.ld false 1 g3) s4,
  .p (.bin .geq g4 (kc (.tc (.sc (.int .i64 0)))) (G2 64 1 2)) s5,
  .p (.mv g5) s6,
  .gp g6 true (.fa 1 g1) s7,
  .gp g6 true (.ld false 1 g7) s8,
  .gp g6 true (.bin .geq g8 (kc (.tc (.sc (.int .i64 0)))) (G2 64 1 6)) s9,
  .p (.pk g6 g9 (kc (.tc (.sc (.bool false))))) s10,
  .p (.mv g10) s11,
  .gp g11 true (.fa 0 g1) s12,
  .gp g11 true (.ld false 1 g12) s13,
  .gp g11 true (.bin .leq g13 (kc (.tc (.sc (.int .i64 32)))) (G2 64 1 11)) s14,
  .p (.pk g11 g14 (kc (.tc (.sc (.bool false))))) s15,
  .p (.mv g15) s16,
  .gp g16 true (.fa 1 g1) s17,
  .gp g16 true (.ld false 1 g17) s18,
  .gp g16 true (.fa 0 g1) s19,
  .gp g16 true (.ld false 1 g19) s20,
  .gp g16 true (.bin .sub (kc (.tc (.sc (.int .i64 32)))) g20 (G2 64 1 18)) s21,
  .gp g16 true (.bin .leq g18 g21 (G2 64 1 19)) s22,
  .p (.pk g16 g22 (kc (.tc (.sc (.bool false))))) s23,
  .p (.mv g23) s2])
 .ret)),
 [.tmp g2]⟩
theorem ffSub64_ok : compF SBSub 64 = ffSub64 := by kernel_rfl
noncomputable def ffSub53 : FF := .t2 ⟨14,
 (.seq (.reg [.p (.bx 2 g0 (G2 53 0 0)) s2,
  .p (.mv (kc (.tc (.sc (.int .u32 0))))) s4])
 (.seq (.regD [0, 1, 0, 4, 15, 31, 0, 64, 255, 511] [.no, (.rd (.cv .u64 g5 (G2 53 1 1)) g6), .no, (.rd (.ld false 1 g7) g8), .no, (.rd (.cv .u32 g9 (G2 53 1 5)) g10), (.rd (.ld true 2 g2) g11), .no, .no, .no] [.mk .none .yes (.mv g1) (.mv g1) (some s5),
  .mk .none .yes (.cv .u64 g5 (G2 53 1 1)) (.cv .u64 g5 (G2 53 1 1)) (some s6),
  .mk .none .yes (.fa 0 g2) (.fa 0 g2) (some s7),
  .mk .none .yes (.ld false 1 g7) (.ld false 1 g7) (some s8),
  .mk .none .yes (.bin .shr g6 g8 (G2 53 1 4)) (.bin .shr g6 g8 (G2 53 1 4)) (some s9),
  .mk .none .yes (.cv .u32 g9 (G2 53 1 5)) (.cv .u32 g9 (G2 53 1 5)) (some s10),
  .mk .none .yes (.ld true 2 g2) (.ld true 2 g2) (some s11),
  .mk .none (.dyn 73 [g11]) (.call 73 [g11] (G2 53 1 7)) (.call 73 [g11] (G2 53 1 7)) (some s12),
  .mk .none .yes (.bin .and g10 g12 (G2 53 1 8)) (.bin .and g10 g12 (G2 53 1 8)) (some s13),
  .mk .none .yes (.mv g13) (.mv g13) (some s4)])
 .ret)),
 [.tmp g4]⟩
theorem ffSub53_ok : compF SBSub 53 = ffSub53 := by kernel_rfl
noncomputable def ffSub73 : FF := .t2 ⟨8,
 (.seq (.reg [.p (.bx 2 g0 (G2 73 0 0)) s1,
  .p (.mv (kc (.tc (.sc (.int .u32 0))))) s2])
 (.seq (.reg [.p (.fa 1 g1) s3,
  .p (.ld false 1 g3) s4,
  .p (.bin .shl (kc (.tc (.sc (.int .u64 1)))) g4 (G2 73 1 2)) s5,
  .p (.bin .sub g5 (kc (.tc (.sc (.int .u64 1)))) (G2 73 1 3)) s6,
  .p (.cv .u32 g6 (G2 73 1 4)) s7,
  .p (.mv g7) s2])
 .ret)),
 [.tmp g2]⟩
theorem ffSub73_ok : compF SBSub 73 = ffSub73 := by kernel_rfl
noncomputable def ffSub38 : FF := .t2 ⟨63,
 (.seq (.reg [.p (.bx 3 g0 (G2 38 0 0)) s3])
 (.seq (.reg [.p (.fa 0 g3) s6,
  .p (.ld false 1 g6) s7])
 (.block 0 (.seq (.reg [.p (.bin .eql g7 (kc (.tc (.sc (.int .i64 1)))) (G2 38 2 0)) s9,
  .p (.mv g9) s8])
 (.cond g8 (.reg [.p (.mv g1) s10,
  .p (.mv g2) s11,
  .p (.call 62 [g11] (G2 38 3 2)) s12,
  .p (.nc g10 (G2 38 3 3)) s13,
  .p (.fa 1 g13) s14,
  .n (.st 1 g14 g12 (G2 38 3 5))])
 (.seq (.reg [.p (.bin .eql g7 (kc (.tc (.sc (.int .i64 2)))) (G2 38 4 0)) s16,
  .p (.mv g16) s15])
 (.cond g15 (.reg [.p (.mv g1) s17,
  .p (.mv g2) s18,
  .p (.call 62 [g18] (G2 38 5 2)) s19,
  .p (.nc g17 (G2 38 5 3)) s20,
  .p (.fa 2 g20) s21,
  .n (.st 1 g21 g19 (G2 38 5 5))])
 (.seq (.reg [.p (.bin .eql g7 (kc (.tc (.sc (.int .i64 3)))) (G2 38 6 0)) s23,
  .p (.mv g23) s22])
 (.cond g22 (.reg [.p (.mv g1) s24,
  .p (.mv g2) s25,
  .p (.call 62 [g25] (G2 38 7 2)) s26,
  .p (.nc g24 (G2 38 7 3)) s27,
  .p (.fa 3 g27) s28,
  .n (.st 1 g28 g26 (G2 38 7 5))])
 (.seq (.reg [.p (.bin .eql g7 (kc (.tc (.sc (.int .i64 4)))) (G2 38 8 0)) s30,
  .p (.mv g30) s29])
 (.cond g29 (.reg [.p (.mv g1) s31,
  .p (.mv g1) s32,
  .p (.mv g2) s33,
  .p (.call 62 [g33] (G2 38 9 3)) s34,
  .p (.mv g2) s35,
  .p (.call 62 [g35] (G2 38 9 5)) s36,
  .p (.nc g31 (G2 38 9 6)) s37,
  .p (.fa 1 g37) s38,
  .n (.st 1 g38 g34 (G2 38 9 8)),
  .p (.nc g32 (G2 38 9 9)) s39,
  .p (.fa 2 g39) s40,
  .n (.st 1 g40 g36 (G2 38 9 11))])
 (.seq (.reg [.p (.bin .eql g7 (kc (.tc (.sc (.int .i64 5)))) (G2 38 10 0)) s42,
  .p (.mv g42) s41])
 (.cond g41 (.reg [.p (.mv g1) s43,
  .p (.mv g2) s44,
  .p (.cv .i64 g44 (G2 38 11 2)) s45,
  .p (.fa 2 g3) s46,
  .p (.ld false 1 g46) s47,
  .p (.bin .shl g45 g47 (G2 38 11 5)) s48,
  .p (.nc g43 (G2 38 11 6)) s49,
  .p (.fa 10 g49) s50,
  .n (.st 1 g50 g48 (G2 38 11 8))])
 (.seq (.reg [.p (.bin .eql g7 (kc (.tc (.sc (.int .i64 6)))) (G2 38 12 0)) s52,
  .p (.mv g52) s51])
 (.cond g51 (.regD [0, 0, 0, 4, 14, 0, 32, 126, 255, 511, 1023] [.no, .no, .no, (.rd (.ld false 1 g55) g56), .no, .no, (.rd (.ld false 1 g58) g59), .no, .no, .no, .no] [.mk .none .yes (.mv g1) (.mv g1) (some s53),
  .mk .none .yes (.mv g2) (.mv g2) (some s54),
  .mk .none .yes (.fa 1 g3) (.fa 1 g3) (some s55),
  .mk .none .yes (.ld false 1 g55) (.ld false 1 g55) (some s56),
  .mk .none (.dyn 63 [g54, g56]) (.call 63 [g54, g56] (G2 38 13 4)) (.call 63 [g54, g56] (G2 38 13 4)) (some s57),
  .mk .none .yes (.fa 2 g3) (.fa 2 g3) (some s58),
  .mk .none .yes (.ld false 1 g58) (.ld false 1 g58) (some s59),
  .mk .none .yes (.bin .shl g57 g59 (G2 38 13 7)) (.bin .shl g57 g59 (G2 38 13 7)) (some s60),
  .mk .none .yes (.nc g53 (G2 38 13 8)) (.nc g53 (G2 38 13 8)) (some s61),
  .mk .none .yes (.fa 10 g61) (.fa 10 g61) (some s62),
  .mk .none .no (.st 1 g62 g60 (G2 38 13 10)) (.st 1 g62 g60 (G2 38 13 10)) none])
 .skip))))))))))))))),
 []⟩
theorem ffSub38_ok : compF SBSub 38 = ffSub38 := by kernel_rfl
noncomputable def ffSub62 : FF := .t2 ⟨10,
 (.seq (.reg [.p (.mv (kc (.tc (.sc (.int .u8 0))))) s2])
 (.seq (.seq (.reg [.p (.mv g0) s3,
  .p (.bin .lss g3 (kc (.tc (.sc (.int .u32 8)))) (G2 62 1 1)) s4])
 (.cond g4 (.seq (.reg [.p (.mv g0) s5,
  .p (.cv .u8 g5 (G2 62 2 1)) s6,
  .p (.mv g6) s2])
 .ret)
 .skip))
 (.seq (.reg [.p (.mv g0) s7,
  .p (.bin .add g7 (kc (.tc (.sc (.int .u32 8)))) (G2 62 3 1)) s8,
  .p (.cv .u8 g8 (G2 62 3 2)) s9,
  .p (.mv g9) s2])
 .ret))),
 [.tmp g2]⟩
theorem ffSub62_ok : compF SBSub 62 = ffSub62 := by kernel_rfl
noncomputable def ffSub63 : FF := .t2 ⟨27,
 (.seq (.reg [.p (.mv (kc (.tc (.sc (.int .i64 0))))) s4])
 (.seq (.seq (.reg [.p (.mv g1) s6,
  .p (.bin .lss g6 (kc (.tc (.sc (.int .i64 1)))) (G2 63 1 1)) s7,
  .p (.mv g7) s8,
  .gp g8 false (.mv g1) s9,
  .gp g8 false (.bin .gtr g9 (kc (.tc (.sc (.int .i64 32)))) (G2 63 1 4)) s10,
  .p (.pk g8 (kc (.tc (.sc (.bool true)))) g10) s11])
 (.cond g11 (.seq (.reg [.p (.mv (kc (.tc (.sc (.int .i64 0))))) s4])
 .ret)
 .skip))
 (.seq (.reg [.p (.mv g1) s12,
  .p (.bd [(.tc (.sc (.int .i64 0))), (.tc (.sc (.int .i64 0)))] [(.mk 0 1 (kc (.tc (.sc (.int .i64 0))))), (.mk 1 1 g12)] (G2 63 3 1)) s13,
  .p (.mv g0) s14,
  .p (.call 53 [g13, g14] (G2 63 3 3)) s15,
  .p (.cv .i64 g15 (G2 63 3 4)) s16,
  .p (.mv g16) s5])
 (.seq (.seq (.reg [.p (.mv g5) s17,
  .p (.mv g1) s18,
  .p (.bin .sub g18 (kc (.tc (.sc (.int .i64 1)))) (G2 63 4 2)) s19,
  .p (.bin .shr g17 g19 (G2 63 4 3)) s20,
  .p (.bin .eql g20 (kc (.tc (.sc (.int .i64 1)))) (G2 63 4 4)) s21])
 (.cond g21 (.seq (.reg [.p (.mv g5) s22,
  .p (.mv g1) s23,
  .p (.bin .shl (kc (.tc (.sc (.int .i64 1)))) g23 (G2 63 5 2)) s24,
  .p (.bin .sub g22 g24 (G2 63 5 3)) s25,
  .p (.mv g25) s4])
 .ret)
 .skip))
 (.seq (.reg [.p (.mv g5) s26,
  .p (.mv g26) s4])
 .ret))))),
 [.tmp g4]⟩
theorem ffSub63_ok : compF SBSub 63 = ffSub63 := by kernel_rfl
noncomputable def ffSub24 : FF := .t2 ⟨54,
 (.seq (.reg [.p (.bx 11 g0 (G2 24 0 0)) s1,
  .p (.mv (kc (.tc (.sc (.bool false))))) s2])
 (.seq (.reg [.p (.fa 0 g1) s9,
  .p (.ld false 1 g9) s10,
  .p (.call 42 [g10] (G2 24 1 2)) s11,
  .p (.mv g11) s8,
  .p (.ex g8 0) s12,
  .p (.ex g8 1) s13,
  .p (.al 5 [(.sc (.int .u8 0)), (.sc (.string ⟨#[]⟩)), (.sc (.int .u8 0)), (.sc (.int .u8 0)), (.sc (.slice none 0 0))]) s3,
  .n (.st 5 g3 g12 (G2 24 1 7)),
  .p (.mv g13) s4])
 (.seq (.reg [.p (.ld true 11 g1) s14,
  .p (.al 11 [(.sc (.int .u8 0)), (.sc (.int .u8 0)), (.sc (.int .u8 0)), (.sc (.int .u8 0)), (.sc (.int .u8 0)), (.sc (.int .u8 0)), (.sc (.int .u8 0)), (.sc (.bool false)), (.sc (.bool false)), (.sc (.int .u16 0)), (.sc (.int .i64 0))]) s5,
  .n (.st 11 g5 g14 (G2 24 2 2))])
 (.seq (.reg [.p (.fa 0 g5) s15,
  .n (.st 1 g15 (kc (.tc (.sc (.int .u8 0)))) (G2 24 3 1))])
 (.seq (.seq (.reg [.p (.fa 4 g3) s16,
  .p (.ld false 1 g16) s17,
  .p (.len g17 (G2 24 4 2)) s18,
  .p (.mv (kc (.tc (.sc (.int .i64 0))))) s19])
 (.block 0 (.loop 4294967296 (.seq (.reg [.p (.bin .lss g19 g18 (G2 24 5 0)) s20])
 (.seq (.cond g20 .skip
 (.exit 0))
 (.seq (.block 1 (.seq (.reg [.p (.ia 5 g17 g19 (G2 24 6 0)) s21,
  .p (.ld true 5 g21) s22,
  .p (.al 5 [(.sc (.int .u8 0)), (.sc (.int .i64 0)), (.sc (.int .i64 0)), (.sc (.bool false)), (.sc (.bool false))]) s7,
  .n (.st 5 g7 g22 (G2 24 6 3))])
 (.seq (.reg [.p (.ld true 11 g5) s23,
  .p (.ld true 5 g7) s24,
  .p (.call 43 [g23, g24] (G2 24 7 2)) s25,
  .n (.st 11 g5 g25 (G2 24 7 3))])
 (.reg [.p (.mv g4) s26,
  .p (.mv g26) s27,
  .gp g27 true (.ld true 11 g1) s28,
  .gp g27 true (.ld true 5 g7) s29,
  .gp g27 true (.call 44 [g28, g29] (G2 24 8 4)) s30,
  .p (.pk g27 g30 (kc (.tc (.sc (.bool false))))) s31,
  .p (.mv g31) s4]))))
 (.reg [.p (.bin .add g19 (kc (.tc (.sc (.int .i64 1)))) (G2 24 9 0)) s32,
  .p (.mv g32) s19])))))))
 (.seq (.reg [.p (.mv g4) s33,
  .p (.mv g33) s34,
  .gp g34 true (.ld true 11 g5) s35,
  .gp g34 true (.bd [(.tc (.sc (.int .u8 0))), (.tc (.sc (.int .u8 0))), (.tc (.sc (.int .u8 0))), (.tc (.sc (.int .u8 0))), (.tc (.sc (.int .u8 0))), (.tc (.sc (.int .u8 0))), (.tc (.sc (.int .u8 0))), (.tc (.sc (.bool false))), (.tc (.sc (.bool false))), (.tc (.sc (.int .u16 0))), (.tc (.sc (.int .i64 0)))] [] (G2 24 10 3)) s36,
  .gp g34 true (.eqs .eql [(.mk 0 .int), (.mk 1 .int), (.mk 2 .int), (.mk 3 .int), (.mk 4 .int), (.mk 5 .int), (.mk 6 .int), (.mk 7 .bool), (.mk 8 .bool), (.mk 9 .int), (.mk 10 .int)] g35 g36 (G2 24 10 4)) s37,
  .p (.pk g34 g37 (kc (.tc (.sc (.bool false))))) s38,
  .p (.mv g38) s39,
  .gp g39 true (.ld true 11 g1) s40,
  .gp g39 true (.call 45 [g40] (G2 24 10 8)) s41,
  .gp g39 true (.mv g41) s42,
  .gp g42 true (.fa 6 g1) s43,
  .gp g42 true (.ld false 1 g43) s44,
  .gp g42 true (.bin .eql g44 (kc (.tc (.sc (.int .u8 0)))) (G2 24 10 12)) s45,
  .gp g39 true (.pk g42 g45 (kc (.tc (.sc (.bool false))))) s46,
  .gp g39 true (.mv g46) s47,
  .gp g47 true (.fa 5 g1) s48,
  .gp g47 true (.ld false 1 g48) s49,
  .gp g47 true (.bin .neq g49 (kc (.tc (.sc (.int .u8 0)))) (G2 24 10 17)) s50,
  .gp g39 true (.pk g47 g50 (kc (.tc (.sc (.bool false))))) s51,
  .gp g39 true (.nt g51 (G2 24 10 19)) s52,
  .p (.pk g39 g52 (kc (.tc (.sc (.bool false))))) s53,
  .p (.mv g53) s2])
 .ret)))))),
 [.tmp g2]⟩
theorem ffSub24_ok : compF SBSub 24 = ffSub24 := by kernel_rfl
noncomputable def ffSub42 : FF := .t2 ⟨17,
 (.seq (.reg [.p (.al 5 [(.sc (.int .u8 0)), (.sc (.string ⟨#[]⟩)), (.sc (.int .u8 0)), (.sc (.int .u8 0)), (.sc (.slice none 0 0))]) s2,
  .p (.mv (kc (.tc (.sc (.bool false))))) s3])
 (.seq (.reg [.p (.mv g0) s7,
  .p (.call 67 [g7] (G2 42 1 1)) s8,
  .p (.mv g8) s6,
  .p (.ex g6 0) s9,
  .p (.ex g6 1) s10,
  .p (.al 5 [(.sc (.int .u8 0)), (.sc (.string ⟨#[]⟩)), (.sc (.int .u8 0)), (.sc (.int .u8 0)), (.sc (.slice none 0 0))]) s4,
  .n (.st 5 g4 g9 (G2 42 1 6)),
  .p (.mv g10) s5])
 (.seq (.reg [.p (.fa 4 g4) s11,
  .p (.ld false 1 g11) s12,
  .p (.call 68 [g12] (G2 42 2 2)) s13,
  .p (.fa 4 g4) s14,
  .n (.st 1 g14 g13 (G2 42 2 4))])
 (.seq (.reg [.p (.ld true 5 g4) s15,
  .p (.mv g5) s16,
  .n (.st 5 g2 g15 (G2 42 3 2)),
  .p (.mv g16) s3])
 .ret)))),
 [.cell g2 true 5, .tmp g3]⟩
theorem ffSub42_ok : compF SBSub 42 = ffSub42 := by kernel_rfl
noncomputable def ffSub67 : FF := .t2 ⟨21,
 (.seq (.reg [.p (.al 5 [(.sc (.int .u8 0)), (.sc (.string ⟨#[]⟩)), (.sc (.int .u8 0)), (.sc (.int .u8 0)), (.sc (.slice none 0 0))]) s2,
  .p (.mv (kc (.tc (.sc (.bool false))))) s3])
 (.seq (.reg [.p (.call 88 [] (G2 67 1 0)) s5,
  .p (.mv g5) s4])
 (.seq (.seq (.reg [.p (.mv g0) s6,
  .p (.bin .lss g6 (kc (.tc (.sc (.int .u8 1)))) (G2 67 2 1)) s7,
  .p (.mv g7) s8,
  .gp g8 false (.mv g0) s9,
  .gp g8 false (.cv .i64 g9 (G2 67 2 4)) s10,
  .gp g8 false (.mv g4) s11,
  .gp g8 false (.len g11 (G2 67 2 6)) s12,
  .gp g8 false (.bin .gtr g10 g12 (G2 67 2 7)) s13,
  .p (.pk g8 (kc (.tc (.sc (.bool true)))) g13) s14])
 (.cond g14 (.seq (.reg [.p (.bd [(.tc (.sc (.int .u8 0))), (.tc (.sc (.string ⟨#[]⟩))), (.tc (.sc (.int .u8 0))), (.tc (.sc (.int .u8 0))), (.tc (.sc (.slice none 0 0)))] [] (G2 67 3 0)) s15,
  .n (.st 5 g2 g15 (G2 67 3 1)),
  .p (.mv (kc (.tc (.sc (.bool false))))) s3])
 .ret)
 .skip))
 (.seq (.reg [.p (.mv g4) s16,
  .p (.mv g0) s17,
  .p (.bin .sub g17 (kc (.tc (.sc (.int .u8 1)))) (G2 67 4 2)) s18,
  .p (.ia 5 g16 g18 (G2 67 4 3)) s19,
  .p (.ld true 5 g19) s20,
  .n (.st 5 g2 g20 (G2 67 4 5)),
  .p (.mv (kc (.tc (.sc (.bool true))))) s3])
 .ret)))),
 [.cell g2 true 5, .tmp g3]⟩
theorem ffSub67_ok : compF SBSub 67 = ffSub67 := by kernel_rfl
noncomputable def ffSub88 : FF := .t3 ⟨158,
 (.seq (.reg [.p (.mv (kc (.tc (.sc (.slice none 0 0))))) (i0 s0)])
 (.seq (.reg [.p (.call 93 [(kc (.tc (.sc (.int .u8 1)))), (kc (.tc (.sc (.string ⟨#[110, 111, 112]⟩)))), (kc (.tc (.sc (.int .u8 1)))), (kc (.tc (.sc (.slice none 0 0))))] (G3 88 1 0)) (i0 s1),
  .p (.call 94 [] (G3 88 1 1)) (i0 s2),
  .p (.call 95 [] (G3 88 1 2)) (i0 s3),
  .p (.call 96 [] (G3 88 1 3)) (i0 s4),
  .p (.call 97 [] (G3 88 1 4)) (i0 s5),
  .p (.bs 1 4 [[(.tc (.sc (.slice none 0 0)))], [(.tc (.sc (.slice none 0 0)))], [(.tc (.sc (.slice none 0 0)))], [(.tc (.sc (.slice none 0 0)))]] [(.mk 0 1 (h0 g2)), (.mk 1 1 (h0 g3)), (.mk 2 1 (h0 g4)), (.mk 3 1 (h0 g5))] (G3 88 1 5)) (i0 s6),
  .p (.call 93 [(kc (.tc (.sc (.int .u8 2)))), (kc (.tc (.sc (.string ⟨#[97, 100, 100]⟩)))), (kc (.tc (.sc (.int .u8 1)))), (h0 g6)] (G3 88 1 6)) (i0 s7),
  .p (.call 94 [] (G3 88 1 7)) (i0 s8),
  .p (.call 95 [] (G3 88 1 8)) (i0 s9),
  .p (.call 96 [] (G3 88 1 9)) (i0 s10),
  .p (.call 97 [] (G3 88 1 10)) (i0 s11),
  .p (.bs 1 4 [[(.tc (.sc (.slice none 0 0)))], [(.tc (.sc (.slice none 0 0)))], [(.tc (.sc (.slice none 0 0)))], [(.tc (.sc (.slice none 0 0)))]] [(.mk 0 1 (h0 g8)), (.mk 1 1 (h0 g9)), (.mk 2 1 (h0 g10)), (.mk 3 1 (h0 g11))] (G3 88 1 11)) (i0 s12),
  .p (.call 93 [(kc (.tc (.sc (.int .u8 3)))), (kc (.tc (.sc (.string ⟨#[115, 117, 98]⟩)))), (kc (.tc (.sc (.int .u8 1)))), (h0 g12)] (G3 88 1 12)) (i0 s13),
  .p (.call 94 [] (G3 88 1 13)) (i0 s14),
  .p (.call 95 [] (G3 88 1 14)) (i0 s15),
  .p (.call 96 [] (G3 88 1 15)) (i0 s16),
  .p (.call 97 [] (G3 88 1 16)) (i0 s17),
  .p (.bs 1 4 [[(.tc (.sc (.slice none 0 0)))], [(.tc (.sc (.slice none 0 0)))], [(.tc (.sc (.slice none 0 0)))], [(.tc (.sc (.slice none 0 0)))]] [(.mk 0 1 (h0 g14)), (.mk 1 1 (h0 g15)), (.mk 2 1 (h0 g16)), (.mk 3 1 (h0 g17))] (G3 88 1 17)) (i0 s18),
  .p (.call 93 [(kc (.tc (.sc (.int .u8 4)))), (kc (.tc (.sc (.string ⟨#[97, 110, 100]⟩)))), (kc (.tc (.sc (.int .u8 1)))), (h0 g18)] (G3 88 1 18)) (i0 s19),
  .p (.call 94 [] (G3 88 1 19)) (i0 s20),
  .p (.call 95 [] (G3 88 1 20)) (i0 s21),
  .p (.call 96 [] (G3 88 1 21)) (i0 s22),
  .p (.call 97 [] (G3 88 1 22)) (i0 s23),
  .p (.bs 1 4 [[(.tc (.sc (.slice none 0 0)))], [(.tc (.sc (.slice none 0 0)))], [(.tc (.sc (.slice none 0 0)))], [(.tc (.sc (.slice none 0 0)))]] [(.mk 0 1 (h0 g20)), (.mk 1 1 (h0 g21)), (.mk 2 1 (h0 g22)), (.mk 3 1 (h0 g23))] (G3 88 1 23)) (i0 s24),
  .p (.call 93 [(kc (.tc (.sc (.int .u8 5)))), (kc (.tc (.sc (.string ⟨#[111, 114]⟩)))), (kc (.tc (.sc (.int .u8 1)))), (h0 g24)] (G3 88 1 24)) (i0 s25),
  .p (.call 94 [] (G3 88 1 25)) (i0 s26),
  .p (.call 95 [] (G3 88 1 26)) (i0 s27),
  .p (.call 96 [] (G3 88 1 27)) (i0 s28),
  .p (.call 97 [] (G3 88 1 28)) (i0 s29),
  .p (.bs 1 4 [[(.tc (.sc (.slice none 0 0)))], [(.tc (.sc (.slice none 0 0)))], [(.tc (.sc (.slice none 0 0)))], [(.tc (.sc (.slice none 0 0)))]] [(.mk 0 1 (h0 g26)), (.mk 1 1 (h0 g27)), (.mk 2 1 (h0 g28)), (.mk 3 1 (h0 g29))] (G3 88 1 29)) (i0 s30),
  .p (.call 93 [(kc (.tc (.sc (.int .u8 6)))), (kc (.tc (.sc (.string ⟨#[120, 111, 114]⟩)))), (kc (.tc (.sc (.int .u8 1)))), (h0 g30)] (G3 88 1 30)) (i0 s31),
  .p (.call 95 [] (G3 88 1 31)) (i0 s32),
  .p (.call 96 [] (G3 88 1 32)) (i0 s33),
  .p (.call 98 [(kc (.tc (.sc (.int .i64 14)))), (kc (.tc (.sc (.int .i64 0))))] (G3 88 1 33)) (i0 s34),
  .p (.bs 1 3 [[(.tc (.sc (.slice none 0 0)))], [(.tc (.sc (.slice none 0 0)))], [(.tc (.sc (.slice none 0 0)))]] [(.mk 0 1 (h0 g32)), (.mk 1 1 (h0 g33)), (.mk 2 1 (h0 g34))] (G3 88 1 34)) (i0 s35),
  .p (.call 93 [(kc (.tc (.sc (.int .u8 7)))), (kc (.tc (.sc (.string ⟨#[97, 100, 100, 105]⟩)))), (kc (.tc (.sc (.int .u8 1)))), (h0 g35)] (G3 88 1 35)) (i0 s36),
  .p (.call 94 [] (G3 88 1 36)) (i0 s37),
  .p (.call 95 [] (G3 88 1 37)) (i0 s38),
  .p (.call 98 [(kc (.tc (.sc (.int .i64 14)))), (kc (.tc (.sc (.int .i64 0))))] (G3 88 1 38)) (i0 s39),
  .p (.bs 1 3 [[(.tc (.sc (.slice none 0 0)))], [(.tc (.sc (.slice none 0 0)))], [(.tc (.sc (.slice none 0 0)))]] [(.mk 0 1 (h0 g37)), (.mk 1 1 (h0 g38)), (.mk 2 1 (h0 g39))] (G3 88 1 39)) (i0 s40),
  .p (.call 93 [(kc (.tc (.sc (.int .u8 8)))), (kc (.tc (.sc (.string ⟨#[109, 111, 118, 105]⟩)))), (kc (.tc (.sc (.int .u8 1)))), (h0 g40)] (G3 88 1 40)) (i0 s41),
  .p (.call 94 [] (G3 88 1 41)) (i0 s42),
  .p (.call 95 [] (G3 88 1 42)) (i0 s43),
  .p (.call 96 [] (G3 88 1 43)) (i0 s44),
  .p (.bs 1 3 [[(.tc (.sc (.slice none 0 0)))], [(.tc (.sc (.slice none 0 0)))], [(.tc (.sc (.slice none 0 0)))]] [(.mk 0 1 (h0 g42)), (.mk 1 1 (h0 g43)), (.mk 2 1 (h0 g44))] (G3 88 1 44)) (i0 s45),
  .p (.call 93 [(kc (.tc (.sc (.int .u8 9)))), (kc (.tc (.sc (.string ⟨#[109, 111, 118]⟩)))), (kc (.tc (.sc (.int .u8 1)))), (h0 g45)] (G3 88 1 45)) (i0 s46),
  .p (.call 99 [] (G3 88 1 46)) (i0 s47),
  .p (.call 96 [] (G3 88 1 47)) (i0 s48),
  .p (.call 97 [] (G3 88 1 48)) (i0 s49),
  .p (.bs 1 3 [[(.tc (.sc (.slice none 0 0)))], [(.tc (.sc (.slice none 0 0)))], [(.tc (.sc (.slice none 0 0)))]] [(.mk 0 1 (h0 g47)), (.mk 1 1 (h0 g48)), (.mk 2 1 (h0 g49))] (G3 88 1 49)) (i0 s50),
  .p (.call 93 [(kc (.tc (.sc (.int .u8 10)))), (kc (.tc (.sc (.string ⟨#[99, 109, 112, 101, 113]⟩)))), (kc (.tc (.sc (.int .u8 1)))), (h0 g50)] (G3 88 1 50)) (i0 s51),
  .p (.call 99 [] (G3 88 1 51)) (i0 s52),
  .p (.call 96 [] (G3 88 1 52)) (i0 s53),
  .p (.call 97 [] (G3 88 1 53)) (i0 s54),
  .p (.bs 1 3 [[(.tc (.sc (.slice none 0 0)))], [(.tc (.sc (.slice none 0 0)))], [(.tc (.sc (.slice none 0 0)))]] [(.mk 0 1 (h0 g52)), (.mk 1 1 (h0 g53)), (.mk 2 1 (h0 g54))] (G3 88 1 54)) (i0 s55),
  .p (.call 93 [(kc (.tc (.sc (.int .u8 11)))), (kc (.tc (.sc (.string ⟨#[99, 109, 112, 103, 116]⟩)))), (kc (.tc (.sc (.int .u8 1)))), (h0 g55)] (G3 88 1 55)) (i0 s56),
  .p (.call 99 [] (G3 88 1 56)) (i0 s57),
  .p (.call 96 [] (G3 88 1 57)) (i0 s58),
  .p (.call 97 [] (G3 88 1 58)) (i0 s59),
  .p (.bs 1 3 [[(.tc (.sc (.slice none 0 0)))], [(.tc (.sc (.slice none 0 0)))], [(.tc (.sc (.slice none 0 0)))]] [(.mk 0 1 (h0 g57)), (.mk 1 1 (h0 g58)), (.mk 2 1 (h0 g59))] (G3 88 1 59)) (i0 s60),
  .p (.call 93 [(kc (.tc (.sc (.int .u8 12)))), (kc (.tc (.sc (.string ⟨#[99, 109, 112, 103, 116, 117]⟩)))), (kc (.tc (.sc (.int .u8 1)))), (h0 g60)] (G3 88 1 60)) (i0 s61),
  .p (.call 99 [] (G3 88 1 61)) (i0 s62),
  .p (.call 96 [] (G3 88 1 62)) (i0 s63),
  .p (.call 98 [(kc (.tc (.sc (.int .i64 14)))), (kc (.tc (.sc (.int .i64 0))))] (G3 88 1 63)) (i1 s0),
  .p (.bs 1 3 [[(.tc (.sc (.slice none 0 0)))], [(.tc (.sc (.slice none 0 0)))], [(.tc (.sc (.slice none 0 0)))]] [(.mk 0 1 (h0 g62)), (.mk 1 1 (h0 g63)), (.mk 2 1 (h1 g0))] (G3 88 1 64)) (i1 s1),
  .p (.call 93 [(kc (.tc (.sc (.int .u8 13)))), (kc (.tc (.sc (.string ⟨#[99, 109, 112, 101, 113, 105]⟩)))), (kc (.tc (.sc (.int .u8 1)))), (h1 g1)] (G3 88 1 65)) (i1 s2),
  .p (.call 95 [] (G3 88 1 66)) (i1 s3),
  .p (.call 100 [(kc (.tc (.sc (.int .u8 2)))), (kc (.tc (.sc (.int .i64 2))))] (G3 88 1 67)) (i1 s4),
  .p (.call 96 [] (G3 88 1 68)) (i1 s5),
  .p (.call 97 [] (G3 88 1 69)) (i1 s6),
  .p (.bs 1 4 [[(.tc (.sc (.slice none 0 0)))], [(.tc (.sc (.slice none 0 0)))], [(.tc (.sc (.slice none 0 0)))], [(.tc (.sc (.slice none 0 0)))]] [(.mk 0 1 (h1 g3)), (.mk 1 1 (h1 g4)), (.mk 2 1 (h1 g5)), (.mk 3 1 (h1 g6))] (G3 88 1 70)) (i1 s7),
  .p (.call 93 [(kc (.tc (.sc (.int .u8 14)))), (kc (.tc (.sc (.string ⟨#[109, 117, 120]⟩)))), (kc (.tc (.sc (.int .u8 1)))), (h1 g7)] (G3 88 1 71)) (i1 s8),
  .p (.call 95 [] (G3 88 1 72)) (i1 s9),
  .p (.call 96 [] (G3 88 1 73)) (i1 s10),
  .p (.call 100 [(kc (.tc (.sc (.int .u8 9)))), (kc (.tc (.sc (.int .i64 5))))] (G3 88 1 74)) (i1 s11),
  .p (.bs 1 3 [[(.tc (.sc (.slice none 0 0)))], [(.tc (.sc (.slice none 0 0)))], [(.tc (.sc (.slice none 0 0)))]] [(.mk 0 1 (h1 g9)), (.mk 1 1 (h1 g10)), (.mk 2 1 (h1 g11))] (G3 88 1 75)) (i1 s12),
  .p (.call 93 [(kc (.tc (.sc (.int .u8 15)))), (kc (.tc (.sc (.string ⟨#[97, 115, 108]⟩)))), (kc (.tc (.sc (.int .u8 2)))), (h1 g12)] (G3 88 1 76)) (i1 s13),
  .p (.call 95 [] (G3 88 1 77)) (i1 s14),
  .p (.call 96 [] (G3 88 1 78)) (i1 s15),
  .p (.call 100 [(kc (.tc (.sc (.int .u8 9)))), (kc (.tc (.sc (.int .i64 5))))] (G3 88 1 79)) (i1 s16),
  .p (.bs 1 3 [[(.tc (.sc (.slice none 0 0)))], [(.tc (.sc (.slice none 0 0)))], [(.tc (.sc (.slice none 0 0)))]] [(.mk 0 1 (h1 g14)), (.mk 1 1 (h1 g15)), (.mk 2 1 (h1 g16))] (G3 88 1 80)) (i1 s17),
  .p (.call 93 [(kc (.tc (.sc (.int .u8 16)))), (kc (.tc (.sc (.string ⟨#[108, 115, 114]⟩)))), (kc (.tc (.sc (.int .u8 2)))), (h1 g17)] (G3 88 1 81)) (i1 s18),
  .p (.call 95 [] (G3 88 1 82)) (i1 s19),
  .p (.call 96 [] (G3 88 1 83)) (i1 s20),
  .p (.call 100 [(kc (.tc (.sc (.int .u8 9)))), (kc (.tc (.sc (.int .i64 5))))] (G3 88 1 84)) (i1 s21),
  .p (.bs 1 3 [[(.tc (.sc (.slice none 0 0)))], [(.tc (.sc (.slice none 0 0)))], [(.tc (.sc (.slice none 0 0)))]] [(.mk 0 1 (h1 g19)), (.mk 1 1 (h1 g20)), (.mk 2 1 (h1 g21))] (G3 88 1 85)) (i1 s22),
  .p (.call 93 [(kc (.tc (.sc (.int .u8 17)))), (kc (.tc (.sc (.string ⟨#[97, 115, 114]⟩)))), (kc (.tc (.sc (.int .u8 2)))), (h1 g22)] (G3 88 1 86)) (i1 s23),
  .p (.call 95 [] (G3 88 1 87)) (i1 s24),
  .p (.call 96 [] (G3 88 1 88)) (i1 s25),
  .p (.call 97 [] (G3 88 1 89)) (i1 s26),
  .p (.bs 1 3 [[(.tc (.sc (.slice none 0 0)))], [(.tc (.sc (.slice none 0 0)))], [(.tc (.sc (.slice none 0 0)))]] [(.mk 0 1 (h1 g24)), (.mk 1 1 (h1 g25)), (.mk 2 1 (h1 g26))] (G3 88 1 90)) (i1 s27),
  .p (.call 93 [(kc (.tc (.sc (.int .u8 18)))), (kc (.tc (.sc (.string ⟨#[109, 112, 121]⟩)))), (kc (.tc (.sc (.int .u8 2)))), (h1 g27)] (G3 88 1 91)) (i1 s28),
  .p (.call 95 [] (G3 88 1 92)) (i1 s29),
  .p (.call 96 [] (G3 88 1 93)) (i1 s30),
  .p (.call 97 [] (G3 88 1 94)) (i1 s31),
  .p (.bs 1 3 [[(.tc (.sc (.slice none 0 0)))], [(.tc (.sc (.slice none 0 0)))], [(.tc (.sc (.slice none 0 0)))]] [(.mk 0 1 (h1 g29)), (.mk 1 1 (h1 g30)), (.mk 2 1 (h1 g31))] (G3 88 1 95)) (i1 s32),
  .p (.call 93 [(kc (.tc (.sc (.int .u8 19)))), (kc (.tc (.sc (.string ⟨#[99, 109, 112, 121]⟩)))), (kc (.tc (.sc (.int .u8 2)))), (h1 g32)] (G3 88 1 96)) (i1 s33),
  .p (.call 95 [] (G3 88 1 97)) (i1 s34),
  .p (.call 96 [] (G3 88 1 98)) (i1 s35),
  .p (.call 97 [] (G3 88 1 99)) (i1 s36),
  .p (.bs 1 3 [[(.tc (.sc (.slice none 0 0)))], [(.tc (.sc (.slice none 0 0)))], [(.tc (.sc (.slice none 0 0)))]] [(.mk 0 1 (h1 g34)), (.mk 1 1 (h1 g35)), (.mk 2 1 (h1 g36))] (G3 88 1 100)) (i1 s37),
  .p (.call 93 [(kc (.tc (.sc (.int .u8 20)))), (kc (.tc (.sc (.string ⟨#[99, 109, 112, 121, 99]⟩)))), (kc (.tc (.sc (.int .u8 2)))), (h1 g37)] (G3 88 1 101)) (i1 s38),
  .p (.call 95 [] (G3 88 1 102)) (i1 s39),
  .p (.call 96 [] (G3 88 1 103)) (i1 s40),
  .p (.call 98 [(kc (.tc (.sc (.int .i64 12)))), (kc (.tc (.sc (.int .i64 2))))] (G3 88 1 104)) (i1 s41),
  .p (.bs 1 3 [[(.tc (.sc (.slice none 0 0)))], [(.tc (.sc (.slice none 0 0)))], [(.tc (.sc (.slice none 0 0)))]] [(.mk 0 1 (h1 g39)), (.mk 1 1 (h1 g40)), (.mk 2 1 (h1 g41))] (G3 88 1 105)) (i1 s42),
  .p (.call 93 [(kc (.tc (.sc (.int .u8 21)))), (kc (.tc (.sc (.string ⟨#[108, 100, 119]⟩)))), (kc (.tc (.sc (.int .u8 3)))), (h1 g42)] (G3 88 1 106)) (i1 s43),
  .p (.call 95 [] (G3 88 1 107)) (i1 s44),
  .p (.call 96 [] (G3 88 1 108)) (i1 s45),
  .p (.call 98 [(kc (.tc (.sc (.int .i64 12)))), (kc (.tc (.sc (.int .i64 1))))] (G3 88 1 109)) (i1 s46),
  .p (.bs 1 3 [[(.tc (.sc (.slice none 0 0)))], [(.tc (.sc (.slice none 0 0)))], [(.tc (.sc (.slice none 0 0)))]] [(.mk 0 1 (h1 g44)), (.mk 1 1 (h1 g45)), (.mk 2 1 (h1 g46))] (G3 88 1 110)) (i1 s47),
  .p (.call 93 [(kc (.tc (.sc (.int .u8 22)))), (kc (.tc (.sc (.string ⟨#[108, 100, 104]⟩)))), (kc (.tc (.sc (.int .u8 3)))), (h1 g47)] (G3 88 1 111)) (i1 s48),
  .p (.call 95 [] (G3 88 1 112)) (i1 s49),
  .p (.call 96 [] (G3 88 1 113)) (i1 s50),
  .p (.call 98 [(kc (.tc (.sc (.int .i64 12)))), (kc (.tc (.sc (.int .i64 0))))] (G3 88 1 114)) (i1 s51),
  .p (.bs 1 3 [[(.tc (.sc (.slice none 0 0)))], [(.tc (.sc (.slice none 0 0)))], [(.tc (.sc (.slice none 0 0)))]] [(.mk 0 1 (h1 g49)), (.mk 1 1 (h1 g50)), (.mk 2 1 (h1 g51))] (G3 88 1 115)) (i1 s52),
  .p (.call 93 [(kc (.tc (.sc (.int .u8 23)))), (kc (.tc (.sc (.string ⟨#[108, 100, 98]⟩)))), (kc (.tc (.sc (.int .u8 3)))), (h1 g52)] (G3 88 1 116)) (i1 s53),
  .p (.call 96 [] (G3 88 1 117)) (i1 s54),
  .p (.call 100 [(kc (.tc (.sc (.int .u8 8)))), (kc (.tc (.sc (.int .i64 1))))] (G3 88 1 118)) (i1 s55),
  .p (.call 97 [] (G3 88 1 119)) (i1 s56),
  .p (.call 98 [(kc (.tc (.sc (.int .i64 12)))), (kc (.tc (.sc (.int .i64 2))))] (G3 88 1 120)) (i1 s57),
  .p (.bs 1 4 [[(.tc (.sc (.slice none 0 0)))], [(.tc (.sc (.slice none 0 0)))], [(.tc (.sc (.slice none 0 0)))], [(.tc (.sc (.slice none 0 0)))]] [(.mk 0 1 (h1 g54)), (.mk 1 1 (h1 g55)), (.mk 2 1 (h1 g56)), (.mk 3 1 (h1 g57))] (G3 88 1 121)) (i1 s58),
  .p (.call 93 [(kc (.tc (.sc (.int .u8 24)))), (kc (.tc (.sc (.string ⟨#[115, 116, 119]⟩)))), (kc (.tc (.sc (.int .u8 4)))), (h1 g58)] (G3 88 1 122)) (i1 s59),
  .p (.call 96 [] (G3 88 1 123)) (i1 s60),
  .p (.call 100 [(kc (.tc (.sc (.int .u8 8)))), (kc (.tc (.sc (.int .i64 1))))] (G3 88 1 124)) (i1 s61),
  .p (.call 97 [] (G3 88 1 125)) (i1 s62),
  .p (.call 98 [(kc (.tc (.sc (.int .i64 12)))), (kc (.tc (.sc (.int .i64 1))))] (G3 88 1 126)) (i1 s63),
  .p (.bs 1 4 [[(.tc (.sc (.slice none 0 0)))], [(.tc (.sc (.slice none 0 0)))], [(.tc (.sc (.slice none 0 0)))], [(.tc (.sc (.slice none 0 0)))]] [(.mk 0 1 (h1 g60)), (.mk 1 1 (h1 g61)), (.mk 2 1 (h1 g62)), (.mk 3 1 (h1 g63))] (G3 88 1 127)) (i2 s0),
  .p (.call 93 [(kc (.tc (.sc (.int .u8 25)))), (kc (.tc (.sc (.string ⟨#[115, 116, 104]⟩)))), (kc (.tc (.sc (.int .u8 4)))), (h2 g0)] (G3 88 1 128)) (i2 s1),
  .p (.call 96 [] (G3 88 1 129)) (i2 s2),
  .p (.call 100 [(kc (.tc (.sc (.int .u8 8)))), (kc (.tc (.sc (.int .i64 1))))] (G3 88 1 130)) (i2 s3),
  .p (.call 97 [] (G3 88 1 131)) (i2 s4),
  .p (.call 98 [(kc (.tc (.sc (.int .i64 12)))), (kc (.tc (.sc (.int .i64 0))))] (G3 88 1 132)) (i2 s5),
  .p (.bs 1 4 [[(.tc (.sc (.slice none 0 0)))], [(.tc (.sc (.slice none 0 0)))], [(.tc (.sc (.slice none 0 0)))], [(.tc (.sc (.slice none 0 0)))]] [(.mk 0 1 (h2 g2)), (.mk 1 1 (h2 g3)), (.mk 2 1 (h2 g4)), (.mk 3 1 (h2 g5))] (G3 88 1 133)) (i2 s6),
  .p (.call 93 [(kc (.tc (.sc (.int .u8 26)))), (kc (.tc (.sc (.string ⟨#[115, 116, 98]⟩)))), (kc (.tc (.sc (.int .u8 4)))), (h2 g6)] (G3 88 1 134)) (i2 s7),
  .p (.call 94 [] (G3 88 1 135)) (i2 s8),
  .p (.call 101 [(kc (.tc (.sc (.int .i64 19))))] (G3 88 1 136)) (i2 s9),
  .p (.bs 1 2 [[(.tc (.sc (.slice none 0 0)))], [(.tc (.sc (.slice none 0 0)))]] [(.mk 0 1 (h2 g8)), (.mk 1 1 (h2 g9))] (G3 88 1 137)) (i2 s10),
  .p (.call 93 [(kc (.tc (.sc (.int .u8 27)))), (kc (.tc (.sc (.string ⟨#[106, 117, 109, 112]⟩)))), (kc (.tc (.sc (.int .u8 5)))), (h2 g10)] (G3 88 1 138)) (i2 s11),
  .p (.call 94 [] (G3 88 1 139)) (i2 s12),
  .p (.call 96 [] (G3 88 1 140)) (i2 s13),
  .p (.bs 1 2 [[(.tc (.sc (.slice none 0 0)))], [(.tc (.sc (.slice none 0 0)))]] [(.mk 0 1 (h2 g12)), (.mk 1 1 (h2 g13))] (G3 88 1 141)) (i2 s14),
  .p (.call 93 [(kc (.tc (.sc (.int .u8 28)))), (kc (.tc (.sc (.string ⟨#[106, 117, 109, 112, 114]⟩)))), (kc (.tc (.sc (.int .u8 5)))), (h2 g14)] (G3 88 1 142)) (i2 s15),
  .p (.call 101 [(kc (.tc (.sc (.int .i64 24))))] (G3 88 1 143)) (i2 s16),
  .p (.bs 1 1 [[(.tc (.sc (.slice none 0 0)))]] [(.mk 0 1 (h2 g16))] (G3 88 1 144)) (i2 s17),
  .p (.call 93 [(kc (.tc (.sc (.int .u8 29)))), (kc (.tc (.sc (.string ⟨#[99, 97, 108, 108]⟩)))), (kc (.tc (.sc (.int .u8 5)))), (h2 g17)] (G3 88 1 145)) (i2 s18),
  .p (.call 100 [(kc (.tc (.sc (.int .u8 7)))), (kc (.tc (.sc (.int .i64 1))))] (G3 88 1 146)) (i2 s19),
  .p (.call 101 [(kc (.tc (.sc (.int .i64 12))))] (G3 88 1 147)) (i2 s20),
  .p (.call 100 [(kc (.tc (.sc (.int .u8 11)))), (kc (.tc (.sc (.int .i64 11))))] (G3 88 1 148)) (i2 s21),
  .p (.bs 1 3 [[(.tc (.sc (.slice none 0 0)))], [(.tc (.sc (.slice none 0 0)))], [(.tc (.sc (.slice none 0 0)))]] [(.mk 0 1 (h2 g19)), (.mk 1 1 (h2 g20)), (.mk 2 1 (h2 g21))] (G3 88 1 149)) (i2 s22),
  .p (.call 93 [(kc (.tc (.sc (.int .u8 30)))), (kc (.tc (.sc (.string ⟨#[108, 111, 111, 112, 105]⟩)))), (kc (.tc (.sc (.int .u8 6)))), (h2 g22)] (G3 88 1 150)) (i2 s23),
  .p (.call 100 [(kc (.tc (.sc (.int .u8 7)))), (kc (.tc (.sc (.int .i64 1))))] (G3 88 1 151)) (i2 s24),
  .p (.call 101 [(kc (.tc (.sc (.int .i64 12))))] (G3 88 1 152)) (i2 s25),
  .p (.call 96 [] (G3 88 1 153)) (i2 s26),
  .p (.bs 1 3 [[(.tc (.sc (.slice none 0 0)))], [(.tc (.sc (.slice none 0 0)))], [(.tc (.sc (.slice none 0 0)))]] [(.mk 0 1 (h2 g24)), (.mk 1 1 (h2 g25)), (.mk 2 1 (h2 g26))] (G3 88 1 154)) (i2 s27),
  .p (.call 93 [(kc (.tc (.sc (.int .u8 31)))), (kc (.tc (.sc (.string ⟨#[108, 111, 111, 112, 114]⟩)))), (kc (.tc (.sc (.int .u8 6)))), (h2 g27)] (G3 88 1 155)) (i2 s28),
  .p (.bs 5 31 [[(.tc (.sc (.int .u8 0))), (.tc (.sc (.string ⟨#[]⟩))), (.tc (.sc (.int .u8 0))), (.tc (.sc (.int .u8 0))), (.tc (.sc (.slice none 0 0)))], [(.tc (.sc (.int .u8 0))), (.tc (.sc (.string ⟨#[]⟩))), (.tc (.sc (.int .u8 0))), (.tc (.sc (.int .u8 0))), (.tc (.sc (.slice none 0 0)))], [(.tc (.sc (.int .u8 0))), (.tc (.sc (.string ⟨#[]⟩))), (.tc (.sc (.int .u8 0))), (.tc (.sc (.int .u8 0))), (.tc (.sc (.slice none 0 0)))], [(.tc (.sc (.int .u8 0))), (.tc (.sc (.string ⟨#[]⟩))), (.tc (.sc (.int .u8 0))), (.tc (.sc (.int .u8 0))), (.tc (.sc (.slice none 0 0)))], [(.tc (.sc (.int .u8 0))), (.tc (.sc (.string ⟨#[]⟩))), (.tc (.sc (.int .u8 0))), (.tc (.sc (.int .u8 0))), (.tc (.sc (.slice none 0 0)))], [(.tc (.sc (.int .u8 0))), (.tc (.sc (.string ⟨#[]⟩))), (.tc (.sc (.int .u8 0))), (.tc (.sc (.int .u8 0))), (.tc (.sc (.slice none 0 0)))], [(.tc (.sc (.int .u8 0))), (.tc (.sc (.string ⟨#[]⟩))), (.tc (.sc (.int .u8 0))), (.tc (.sc (.int .u8 0))), (.tc (.sc (.slice none 0 0)))], [(.tc (.sc (.int .u8 0))), (.tc (.sc (.string ⟨#[]⟩))), (.tc (.sc (.int .u8 0))), (.tc (.sc (.int .u8 0))), (.tc (.sc (.slice none 0 0)))], [(.tc (.sc (.int .u8 0))), (.tc (.sc (.string ⟨#[]⟩))), (.tc (.sc (.int .u8 0))), (.tc (.sc (.int .u8 0))), (.tc (.sc (.slice none 0 0)))], [(.tc (.sc (.int .u8 0))), (.tc (.sc (.string ⟨#[]⟩))), (.tc (.sc (.int .u8 0))), (.tc (.sc (.int .u8 0))), (.tc (.sc (.slice none 0 0)))], [(.tc (.sc (.int .u8 0))), (.tc (.sc (.string ⟨#[]⟩))), (.tc (.sc (.int .u8 0))), (.tc (.sc (.int .u8 0))), (.tc (.sc (.slice none 0 0)))], [(.tc (.sc (.int .u8 0))), (.tc (.sc (.string ⟨#[]⟩))), (.tc (.sc (.int .u8 0))), (.tc (.sc (.int .u8 0))), (.tc (.sc (.slice none 0 0)))], [(.tc (.sc (.int .u8 0))), (.tc (.sc (.string ⟨#[]⟩))), (.tc (.sc (.int .u8 0))), (.tc (.sc (.int .u8 0))), (.tc (.sc (.slice none 0 0)))], [(.tc (.sc (.int .u8 0))), (.tc (.sc (.string ⟨#[]⟩))), (.tc (.sc (.int .u8 0))), (.tc (.sc (.int .u8 0))), (.tc (.sc (.slice none 0 0)))], [(.tc (.sc (.int .u8 0))), (.tc (.sc (.string ⟨#[]⟩))), (.tc (.sc (.int .u8 0))), (.tc (.sc (.int .u8 0))), (.tc (.sc (.slice none 0 0)))], [(.tc (.sc (.int .u8 0))), (.tc (.sc (.string ⟨#[]⟩))), (.tc (.sc (.int .u8 0))), (.tc (.sc (.int .u8 0))), (.tc (.sc (.slice none 0 0)))], [(.tc (.sc (.int .u8 0))), (.tc (.sc (.string ⟨#[]⟩))), (.tc (.sc (.int .u8 0))), (.tc (.sc (.int .u8 0))), (.tc (.sc (.slice none 0 0)))], [(.tc (.sc (.int .u8 0))), (.tc (.sc (.string ⟨#[]⟩))), (.tc (.sc (.int .u8 0))), (.tc (.sc (.int .u8 0))), (.tc (.sc (.slice none 0 0)))], [(.tc (.sc (.int .u8 0))), (.tc (.sc (.string ⟨#[]⟩))), (.tc (.sc (.int .u8 0))), (.tc (.sc (.int .u8 0))), (.tc (.sc (.slice none 0 0)))], [(.tc (.sc (.int .u8 0))), (.tc (.sc (.string ⟨#[]⟩))), (.tc (.sc (.int .u8 0))), (.tc (.sc (.int .u8 0))), (.tc (.sc (.slice none 0 0)))], [(.tc (.sc (.int .u8 0))), (.tc (.sc (.string ⟨#[]⟩))), (.tc (.sc (.int .u8 0))), (.tc (.sc (.int .u8 0))), (.tc (.sc (.slice none 0 0)))], [(.tc (.sc (.int .u8 0))), (.tc (.sc (.string ⟨#[]⟩))), (.tc (.sc (.int .u8 0))), (.tc (.sc (.int .u8 0))), (.tc (.sc (.slice none 0 0)))], [(.tc (.sc (.int .u8 0))), (.tc (.sc (.string ⟨#[]⟩))), (.tc (.sc (.int .u8 0))), (.tc (.sc (.int .u8 0))), (.tc (.sc (.slice none 0 0)))], [(.tc (.sc (.int .u8 0))), (.tc (.sc (.string ⟨#[]⟩))), (.tc (.sc (.int .u8 0))), (.tc (.sc (.int .u8 0))), (.tc (.sc (.slice none 0 0)))], [(.tc (.sc (.int .u8 0))), (.tc (.sc (.string ⟨#[]⟩))), (.tc (.sc (.int .u8 0))), (.tc (.sc (.int .u8 0))), (.tc (.sc (.slice none 0 0)))], [(.tc (.sc (.int .u8 0))), (.tc (.sc (.string ⟨#[]⟩))), (.tc (.sc (.int .u8 0))), (.tc (.sc (.int .u8 0))), (.tc (.sc (.slice none 0 0)))], [(.tc (.sc (.int .u8 0))), (.tc (.sc (.string ⟨#[]⟩))), (.tc (.sc (.int .u8 0))), (.tc (.sc (.int .u8 0))), (.tc (.sc (.slice none 0 0)))], [(.tc (.sc (.int .u8 0))), (.tc (.sc (.string ⟨#[]⟩))), (.tc (.sc (.int .u8 0))), (.tc (.sc (.int .u8 0))), (.tc (.sc (.slice none 0 0)))], [(.tc (.sc (.int .u8 0))), (.tc (.sc (.string ⟨#[]⟩))), (.tc (.sc (.int .u8 0))), (.tc (.sc (.int .u8 0))), (.tc (.sc (.slice none 0 0)))], [(.tc (.sc (.int .u8 0))), (.tc (.sc (.string ⟨#[]⟩))), (.tc (.sc (.int .u8 0))), (.tc (.sc (.int .u8 0))), (.tc (.sc (.slice none 0 0)))], [(.tc (.sc (.int .u8 0))), (.tc (.sc (.string ⟨#[]⟩))), (.tc (.sc (.int .u8 0))), (.tc (.sc (.int .u8 0))), (.tc (.sc (.slice none 0 0)))]] [(.mk 0 5 (h0 g1)), (.mk 1 5 (h0 g7)), (.mk 2 5 (h0 g13)), (.mk 3 5 (h0 g19)), (.mk 4 5 (h0 g25)), (.mk 5 5 (h0 g31)), (.mk 6 5 (h0 g36)), (.mk 7 5 (h0 g41)), (.mk 8 5 (h0 g46)), (.mk 9 5 (h0 g51)), (.mk 10 5 (h0 g56)), (.mk 11 5 (h0 g61)), (.mk 12 5 (h1 g2)), (.mk 13 5 (h1 g8)), (.mk 14 5 (h1 g13)), (.mk 15 5 (h1 g18)), (.mk 16 5 (h1 g23)), (.mk 17 5 (h1 g28)), (.mk 18 5 (h1 g33)), (.mk 19 5 (h1 g38)), (.mk 20 5 (h1 g43)), (.mk 21 5 (h1 g48)), (.mk 22 5 (h1 g53)), (.mk 23 5 (h1 g59)), (.mk 24 5 (h2 g1)), (.mk 25 5 (h2 g7)), (.mk 26 5 (h2 g11)), (.mk 27 5 (h2 g15)), (.mk 28 5 (h2 g18)), (.mk 29 5 (h2 g23)), (.mk 30 5 (h2 g28))] (G3 88 1 156)) (i2 s29),
  .p (.mv (h2 g29)) (i0 s0)])
 .ret)),
 [.tmp (h0 g0)]⟩
theorem ffSub88_ok : compF SBSub 88 = ffSub88 := by kernel_rfl
noncomputable def ffSub93 : FF := .t2 ⟨17,
 (.seq (.reg [.p (.al 5 [(.sc (.int .u8 0)), (.sc (.string ⟨#[]⟩)), (.sc (.int .u8 0)), (.sc (.int .u8 0)), (.sc (.slice none 0 0))]) s8])
 (.seq (.reg [.p (.mv g0) s9,
  .p (.mv g1) s10,
  .p (.mv g2) s11,
  .p (.mv g2) s12,
  .p (.call 85 [g12] (G2 93 1 4)) s13,
  .p (.mv g3) s14,
  .p (.call 102 [g14] (G2 93 1 6)) s15,
  .p (.bd [(.tc (.sc (.int .u8 0))), (.tc (.sc (.string ⟨#[]⟩))), (.tc (.sc (.int .u8 0))), (.tc (.sc (.int .u8 0))), (.tc (.sc (.slice none 0 0)))] [(.mk 0 1 g9), (.mk 1 1 g10), (.mk 2 1 g11), (.mk 3 1 g13), (.mk 4 1 g15)] (G2 93 1 7)) s16,
  .n (.st 5 g8 g16 (G2 93 1 8))])
 .ret)),
 [.cell g8 true 5]⟩
theorem ffSub93_ok : compF SBSub 93 = ffSub93 := by kernel_rfl
noncomputable def ffSub85 : FF := .t2 ⟨15,
 (.seq (.reg [.p (.mv (kc (.tc (.sc (.int .u8 0))))) s2])
 (.seq (.seq (.reg [.p (.mv g0) s3])
 (.block 0 (.seq (.reg [.p (.bin .eql g3 (kc (.tc (.sc (.int .u8 1)))) (G2 85 2 0)) s5,
  .p (.mv g5) s4])
 (.cond g4 (.seq (.reg [.p (.mv (kc (.tc (.sc (.int .u8 15))))) s2])
 .ret)
 (.seq (.seq (.reg [.p (.bin .eql g3 (kc (.tc (.sc (.int .u8 2)))) (G2 85 4 0)) s7,
  .p (.mv g7) s6])
 (.cond g6 .skip
 (.reg [.p (.bin .eql g3 (kc (.tc (.sc (.int .u8 5)))) (G2 85 5 0)) s8,
  .p (.mv g8) s6])))
 (.cond g6 (.seq (.reg [.p (.mv (kc (.tc (.sc (.int .u8 12))))) s2])
 .ret)
 (.seq (.reg [.p (.bin .eql g3 (kc (.tc (.sc (.int .u8 3)))) (G2 85 7 0)) s10,
  .p (.mv g10) s9])
 (.cond g9 (.seq (.reg [.p (.mv (kc (.tc (.sc (.int .u8 3))))) s2])
 .ret)
 (.seq (.reg [.p (.bin .eql g3 (kc (.tc (.sc (.int .u8 4)))) (G2 85 9 0)) s12,
  .p (.mv g12) s11])
 (.cond g11 (.seq (.reg [.p (.mv (kc (.tc (.sc (.int .u8 1))))) s2])
 .ret)
 (.seq (.reg [.p (.bin .eql g3 (kc (.tc (.sc (.int .u8 6)))) (G2 85 11 0)) s14,
  .p (.mv g14) s13])
 (.cond g13 (.seq (.reg [.p (.mv (kc (.tc (.sc (.int .u8 8))))) s2])
 .ret)
 .skip))))))))))))
 (.seq (.reg [.p (.mv (kc (.tc (.sc (.int .u8 0))))) s2])
 .ret))),
 [.tmp g2]⟩
theorem ffSub85_ok : compF SBSub 85 = ffSub85 := by kernel_rfl
noncomputable def ffSub102 : FF := .t2 ⟨36,
 (.seq (.reg [.p (.mv (kc (.tc (.sc (.slice none 0 0))))) s2])
 (.seq (.reg [.p (.mv (kc (.tc (.sc (.int .i64 0))))) s3])
 (.seq (.seq (.reg [.p (.mv g0) s9,
  .p (.len g9 (G2 102 2 1)) s10,
  .p (.mv (kc (.tc (.sc (.int .i64 0))))) s11])
 (.block 0 (.loop 4294967296 (.seq (.reg [.p (.bin .lss g11 g10 (G2 102 3 0)) s12])
 (.seq (.cond g12 .skip
 (.exit 0))
 (.seq (.block 1 (.seq (.reg [.p (.ia 1 g9 g11 (G2 102 4 0)) s13,
  .p (.ld false 1 g13) s14,
  .p (.mv g14) s5])
 (.seq (.reg [.p (.mv g3) s15,
  .p (.mv g5) s16,
  .p (.len g16 (G2 102 5 2)) s17,
  .p (.bin .add g15 g17 (G2 102 5 3)) s18,
  .p (.mv g18) s3])
 (.seq (.reg [.p (.mv g3) s19,
  .p (.bin .lss g19 (kc (.tc (.sc (.int .i64 0)))) (G2 102 6 1)) s20])
 (.cond g20 (.reg [.p (.gen (G2 102 7 0)) s21,
  .n (.gen (G2 102 7 1))])
 .skip)))))
 (.reg [.p (.bin .add g11 (kc (.tc (.sc (.int .i64 1)))) (G2 102 8 0)) s22,
  .p (.mv g22) s11])))))))
 (.seq (.reg [.p (.mv g3) s23,
  .p (.call 103 [(kc (.tc (.sc (.slice none 0 0)))), g23] (G2 102 9 1)) s24,
  .p (.mv g24) s6])
 (.seq (.seq (.reg [.p (.mv g0) s25,
  .p (.len g25 (G2 102 10 1)) s26,
  .p (.mv (kc (.tc (.sc (.int .i64 0))))) s27])
 (.block 2 (.loop 4294967296 (.seq (.reg [.p (.bin .lss g27 g26 (G2 102 11 0)) s28])
 (.seq (.cond g28 .skip
 (.exit 2))
 (.seq (.block 3 (.seq (.reg [.p (.ia 1 g25 g27 (G2 102 12 0)) s29,
  .p (.ld false 1 g29) s30,
  .p (.mv g30) s8])
 (.reg [.p (.mv g6) s31,
  .p (.mv g8) s32,
  .p (.ap 5 32 g31 g32) s33,
  .p (.mv g33) s6])))
 (.reg [.p (.bin .add g27 (kc (.tc (.sc (.int .i64 1)))) (G2 102 14 0)) s34,
  .p (.mv g34) s27])))))))
 (.seq (.reg [.p (.mv g6) s35,
  .p (.mv g35) s2])
 .ret)))))),
 [.tmp g2]⟩
theorem ffSub102_ok : compF SBSub 102 = ffSub102 := by kernel_rfl
noncomputable def ffSub103 : FF := .t2 ⟨27,
 (.seq (.reg [.p (.mv (kc (.tc (.sc (.slice none 0 0))))) s4])
 (.seq (.seq (.reg [.p (.mv g1) s5,
  .p (.bin .lss g5 (kc (.tc (.sc (.int .i64 0)))) (G2 103 1 1)) s6])
 (.cond g6 (.reg [.p (.gen (G2 103 2 0)) s7,
  .n (.gen (G2 103 2 1))])
 .skip))
 (.seq (.seq (.reg [.p (.mv g1) s8,
  .p (.mv g0) s9,
  .p (.gen (G2 103 3 2)) s10,
  .p (.mv g0) s11,
  .p (.len g11 (G2 103 3 4)) s12,
  .p (.bin .sub g10 g12 (G2 103 3 5)) s13,
  .p (.bin .sub g8 g13 (G2 103 3 6)) s14,
  .p (.mv g14) s1])
 (.seq (.reg [.p (.mv g1) s15,
  .p (.bin .gtr g15 (kc (.tc (.sc (.int .i64 0)))) (G2 103 4 1)) s16])
 (.cond g16 (.reg [.p (.mv g0) s17,
  .p (.mv g0) s18,
  .p (.gen (G2 103 5 2)) s19,
  .p (.sl 5 g17 none (some g19) none (G2 103 5 3)) s20,
  .p (.mv g1) s21,
  .p (.gen (G2 103 5 5)) s22,
  .p (.mv g0) s23,
  .p (.len g23 (G2 103 5 7)) s24,
  .p (.sl 5 g22 none (some g24) none (G2 103 5 8)) s25,
  .p (.mv g25) s0])
 .skip)))
 (.seq (.reg [.p (.mv g0) s26,
  .p (.mv g26) s4])
 .ret)))),
 [.tmp g4]⟩
theorem ffSub103_ok : compF SBSub 103 = ffSub103 := by kernel_rfl
noncomputable def ffSub94 : FF := .t2 ⟨4,
 (.seq (.reg [.p (.mv (kc (.tc (.sc (.slice none 0 0))))) s0])
 (.seq (.reg [.p (.call 100 [(kc (.tc (.sc (.int .u8 1)))), (kc (.tc (.sc (.int .i64 3))))] (G2 94 1 0)) s1,
  .p (.call 100 [(kc (.tc (.sc (.int .u8 2)))), (kc (.tc (.sc (.int .i64 2))))] (G2 94 1 1)) s2,
  .p (.ap 5 32 g1 g2) s3,
  .p (.mv g3) s0])
 .ret)),
 [.tmp g0]⟩
theorem ffSub94_ok : compF SBSub 94 = ffSub94 := by kernel_rfl
noncomputable def ffSub100 : FF := .t2 ⟨9,
 (.seq (.reg [.p (.mv (kc (.tc (.sc (.slice none 0 0))))) s4])
 (.seq (.reg [.p (.mv g0) s5,
  .p (.mv g1) s6,
  .p (.bd [(.tc (.sc (.int .u8 0))), (.tc (.sc (.int .i64 0))), (.tc (.sc (.int .i64 0))), (.tc (.sc (.bool false))), (.tc (.sc (.bool false)))] [(.mk 0 1 g5), (.mk 1 1 g6)] (G2 100 1 2)) s7,
  .p (.bs 5 1 [[(.tc (.sc (.int .u8 0))), (.tc (.sc (.int .i64 0))), (.tc (.sc (.int .i64 0))), (.tc (.sc (.bool false))), (.tc (.sc (.bool false)))]] [(.mk 0 5 g7)] (G2 100 1 3)) s8,
  .p (.mv g8) s4])
 .ret)),
 [.tmp g4]⟩
theorem ffSub100_ok : compF SBSub 100 = ffSub100 := by kernel_rfl
noncomputable def ffSub95 : FF := .t2 ⟨2,
 (.seq (.reg [.p (.mv (kc (.tc (.sc (.slice none 0 0))))) s0])
 (.seq (.reg [.p (.call 100 [(kc (.tc (.sc (.int .u8 3)))), (kc (.tc (.sc (.int .i64 5))))] (G2 95 1 0)) s1,
  .p (.mv g1) s0])
 .ret)),
 [.tmp g0]⟩
theorem ffSub95_ok : compF SBSub 95 = ffSub95 := by kernel_rfl
noncomputable def ffSub96 : FF := .t2 ⟨2,
 (.seq (.reg [.p (.mv (kc (.tc (.sc (.slice none 0 0))))) s0])
 (.seq (.reg [.p (.call 100 [(kc (.tc (.sc (.int .u8 5)))), (kc (.tc (.sc (.int .i64 5))))] (G2 96 1 0)) s1,
  .p (.mv g1) s0])
 .ret)),
 [.tmp g0]⟩
theorem ffSub96_ok : compF SBSub 96 = ffSub96 := by kernel_rfl
noncomputable def ffSub97 : FF := .t2 ⟨2,
 (.seq (.reg [.p (.mv (kc (.tc (.sc (.slice none 0 0))))) s0])
 (.seq (.reg [.p (.call 100 [(kc (.tc (.sc (.int .u8 6)))), (kc (.tc (.sc (.int .i64 5))))] (G2 97 1 0)) s1,
  .p (.mv g1) s0])
 .ret)),
 [.tmp g0]⟩
theorem ffSub97_ok : compF SBSub 97 = ffSub97 := by kernel_rfl
noncomputable def ffSub98 : FF := .t2 ⟨9,
 (.seq (.reg [.p (.mv (kc (.tc (.sc (.slice none 0 0))))) s4])
 (.seq (.reg [.p (.mv g0) s5,
  .p (.mv g1) s6,
  .p (.bd [(.tc (.sc (.int .u8 0))), (.tc (.sc (.int .i64 0))), (.tc (.sc (.int .i64 0))), (.tc (.sc (.bool false))), (.tc (.sc (.bool false)))] [(.mk 0 1 (kc (.tc (.sc (.int .u8 9))))), (.mk 1 1 g5), (.mk 2 1 g6), (.mk 3 1 (kc (.tc (.sc (.bool true))))), (.mk 4 1 (kc (.tc (.sc (.bool true)))))] (G2 98 1 2)) s7,
  .p (.bs 5 1 [[(.tc (.sc (.int .u8 0))), (.tc (.sc (.int .i64 0))), (.tc (.sc (.int .i64 0))), (.tc (.sc (.bool false))), (.tc (.sc (.bool false)))]] [(.mk 0 5 g7)] (G2 98 1 3)) s8,
  .p (.mv g8) s4])
 .ret)),
 [.tmp g4]⟩
theorem ffSub98_ok : compF SBSub 98 = ffSub98 := by kernel_rfl
noncomputable def ffSub99 : FF := .t2 ⟨2,
 (.seq (.reg [.p (.mv (kc (.tc (.sc (.slice none 0 0))))) s0])
 (.seq (.reg [.p (.call 100 [(kc (.tc (.sc (.int .u8 4)))), (kc (.tc (.sc (.int .i64 2))))] (G2 99 1 0)) s1,
  .p (.mv g1) s0])
 .ret)),
 [.tmp g0]⟩
theorem ffSub99_ok : compF SBSub 99 = ffSub99 := by kernel_rfl
noncomputable def ffSub101 : FF := .t2 ⟨6,
 (.seq (.reg [.p (.mv (kc (.tc (.sc (.slice none 0 0))))) s2])
 (.seq (.reg [.p (.mv g0) s3,
  .p (.bd [(.tc (.sc (.int .u8 0))), (.tc (.sc (.int .i64 0))), (.tc (.sc (.int .i64 0))), (.tc (.sc (.bool false))), (.tc (.sc (.bool false)))] [(.mk 0 1 (kc (.tc (.sc (.int .u8 10))))), (.mk 1 1 g3), (.mk 2 1 (kc (.tc (.sc (.int .i64 2))))), (.mk 3 1 (kc (.tc (.sc (.bool true))))), (.mk 4 1 (kc (.tc (.sc (.bool true)))))] (G2 101 1 1)) s4,
  .p (.bs 5 1 [[(.tc (.sc (.int .u8 0))), (.tc (.sc (.int .i64 0))), (.tc (.sc (.int .i64 0))), (.tc (.sc (.bool false))), (.tc (.sc (.bool false)))]] [(.mk 0 5 g4)] (G2 101 1 2)) s5,
  .p (.mv g5) s2])
 .ret)),
 [.tmp g2]⟩
theorem ffSub101_ok : compF SBSub 101 = ffSub101 := by kernel_rfl
noncomputable def ffSub68 : FF := .t2 ⟨8,
 (.seq (.reg [.p (.mv (kc (.tc (.sc (.slice none 0 0))))) s2])
 (.seq (.seq (.reg [.p (.mv g0) s3,
  .p (.bin .eql g3 (kc (.tc (.sc (.slice none 0 0)))) (G2 68 1 1)) s4])
 (.cond g4 (.seq (.reg [.p (.mv (kc (.tc (.sc (.slice none 0 0))))) s2])
 .ret)
 .skip))
 (.seq (.reg [.p (.bs 5 0 [] [] (G2 68 3 0)) s5,
  .p (.mv g0) s6,
  .p (.ap 5 32 g5 g6) s7,
  .p (.mv g7) s2])
 .ret))),
 [.tmp g2]⟩
theorem ffSub68_ok : compF SBSub 68 = ffSub68 := by kernel_rfl
noncomputable def ffSub43 : FF := .t2 ⟨40,
 (.seq (.reg [.p (.bx 11 g0 (G2 43 0 0)) s2,
  .p (.bx 5 g1 (G2 43 0 1)) s3,
  .p (.al 11 [(.sc (.int .u8 0)), (.sc (.int .u8 0)), (.sc (.int .u8 0)), (.sc (.int .u8 0)), (.sc (.int .u8 0)), (.sc (.int .u8 0)), (.sc (.int .u8 0)), (.sc (.bool false)), (.sc (.bool false)), (.sc (.int .u16 0)), (.sc (.int .i64 0))]) s4])
 (.seq (.seq (.reg [.p (.fa 0 g3) s5,
  .p (.ld false 1 g5) s6])
 (.block 0 (.seq (.reg [.p (.bin .eql g6 (kc (.tc (.sc (.int .u8 1)))) (G2 43 2 0)) s8,
  .p (.mv g8) s7])
 (.cond g7 (.reg [.p (.fa 6 g2) s9,
  .n (.st 1 g9 (kc (.tc (.sc (.int .u8 0)))) (G2 43 3 1))])
 (.seq (.reg [.p (.bin .eql g6 (kc (.tc (.sc (.int .u8 2)))) (G2 43 4 0)) s11,
  .p (.mv g11) s10])
 (.cond g10 (.reg [.p (.fa 5 g2) s12,
  .n (.st 1 g12 (kc (.tc (.sc (.int .u8 0)))) (G2 43 5 1))])
 (.seq (.seq (.reg [.p (.bin .eql g6 (kc (.tc (.sc (.int .u8 3)))) (G2 43 6 0)) s14,
  .p (.mv g14) s13])
 (.cond g13 .skip
 (.reg [.p (.bin .eql g6 (kc (.tc (.sc (.int .u8 4)))) (G2 43 7 0)) s15,
  .p (.mv g15) s13])))
 (.cond g13 (.reg [.p (.fa 1 g2) s16,
  .n (.st 1 g16 (kc (.tc (.sc (.int .u8 0)))) (G2 43 8 1))])
 (.seq (.reg [.p (.bin .eql g6 (kc (.tc (.sc (.int .u8 5)))) (G2 43 9 0)) s18,
  .p (.mv g18) s17])
 (.cond g17 (.reg [.p (.fa 2 g2) s19,
  .n (.st 1 g19 (kc (.tc (.sc (.int .u8 0)))) (G2 43 10 1))])
 (.seq (.reg [.p (.bin .eql g6 (kc (.tc (.sc (.int .u8 6)))) (G2 43 11 0)) s21,
  .p (.mv g21) s20])
 (.cond g20 (.reg [.p (.fa 3 g2) s22,
  .n (.st 1 g22 (kc (.tc (.sc (.int .u8 0)))) (G2 43 12 1))])
 (.seq (.reg [.p (.bin .eql g6 (kc (.tc (.sc (.int .u8 7)))) (G2 43 13 0)) s24,
  .p (.mv g24) s23])
 (.cond g23 (.reg [.p (.fa 4 g2) s25,
  .n (.st 1 g25 (kc (.tc (.sc (.int .u8 0)))) (G2 43 14 1))])
 (.seq (.reg [.p (.bin .eql g6 (kc (.tc (.sc (.int .u8 8)))) (G2 43 15 0)) s27,
  .p (.mv g27) s26])
 (.cond g26 (.reg [.p (.fa 7 g2) s28,
  .n (.st 1 g28 (kc (.tc (.sc (.bool false)))) (G2 43 16 1))])
 (.seq (.seq (.reg [.p (.bin .eql g6 (kc (.tc (.sc (.int .u8 9)))) (G2 43 17 0)) s30,
  .p (.mv g30) s29])
 (.cond g29 .skip
 (.reg [.p (.bin .eql g6 (kc (.tc (.sc (.int .u8 10)))) (G2 43 18 0)) s31,
  .p (.mv g31) s29])))
 (.cond g29 (.reg [.p (.fa 10 g2) s32,
  .n (.st 1 g32 (kc (.tc (.sc (.int .i64 0)))) (G2 43 19 1))])
 (.seq (.reg [.p (.bin .eql g6 (kc (.tc (.sc (.int .u8 11)))) (G2 43 20 0)) s34,
  .p (.mv g34) s33])
 (.cond g33 (.reg [.p (.fa 9 g2) s35,
  .n (.st 1 g35 (kc (.tc (.sc (.int .u16 0)))) (G2 43 21 1))])
 .skip))))))))))))))))))))
 (.seq (.seq (.reg [.p (.fa 4 g3) s36,
  .p (.ld false 1 g36) s37])
 (.cond g37 (.reg [.p (.fa 8 g2) s38,
  .n (.st 1 g38 (kc (.tc (.sc (.bool false)))) (G2 43 23 1))])
 .skip))
 (.seq (.reg [.p (.ld true 11 g2) s39,
  .n (.st 11 g4 g39 (G2 43 24 1))])
 .ret)))),
 [.cell g4 true 11]⟩
theorem ffSub43_ok : compF SBSub 43 = ffSub43 := by kernel_rfl
noncomputable def ffSub44 : FF := .t3 ⟨84,
 (.seq (.reg [.p (.bx 11 (h0 g0) (G3 44 0 0)) (i0 s2),
  .p (.bx 5 (h0 g1) (G3 44 0 1)) (i0 s3),
  .p (.mv (kc (.tc (.sc (.bool false))))) (i0 s4)])
 (.seq (.seq (.reg [.p (.fa 0 (h0 g3)) (i0 s5),
  .p (.ld false 1 (h0 g5)) (i0 s6)])
 (.block 0 (.seq (.reg [.p (.bin .eql (h0 g6) (kc (.tc (.sc (.int .u8 1)))) (G3 44 2 0)) (i0 s8),
  .p (.mv (h0 g8)) (i0 s7)])
 (.cond (h0 g7) (.seq (.reg [.p (.fa 6 (h0 g2)) (i0 s9),
  .p (.ld false 1 (h0 g9)) (i0 s10),
  .p (.bin .leq (h0 g10) (kc (.tc (.sc (.int .u8 4)))) (G3 44 3 2)) (i0 s11),
  .p (.mv (h0 g11)) (i0 s4)])
 .ret)
 (.seq (.reg [.p (.bin .eql (h0 g6) (kc (.tc (.sc (.int .u8 2)))) (G3 44 4 0)) (i0 s13),
  .p (.mv (h0 g13)) (i0 s12)])
 (.cond (h0 g12) (.seq (.reg [.p (.fa 5 (h0 g2)) (i0 s14),
  .p (.ld false 1 (h0 g14)) (i0 s15),
  .p (.bin .lss (h0 g15) (kc (.tc (.sc (.int .u8 4)))) (G3 44 5 2)) (i0 s16),
  .p (.mv (h0 g16)) (i0 s4)])
 .ret)
 (.seq (.reg [.p (.bin .eql (h0 g6) (kc (.tc (.sc (.int .u8 3)))) (G3 44 6 0)) (i0 s18),
  .p (.mv (h0 g18)) (i0 s17)])
 (.cond (h0 g17) (.seq (.reg [.p (.fa 1 (h0 g2)) (i0 s19),
  .p (.ld false 1 (h0 g19)) (i0 s20),
  .p (.bin .lss (h0 g20) (kc (.tc (.sc (.int .u8 32)))) (G3 44 7 2)) (i0 s21),
  .p (.mv (h0 g21)) (i0 s4)])
 .ret)
 (.seq (.reg [.p (.bin .eql (h0 g6) (kc (.tc (.sc (.int .u8 4)))) (G3 44 8 0)) (i0 s23),
  .p (.mv (h0 g23)) (i0 s22)])
 (.cond (h0 g22) (.seq (.reg [.p (.fa 1 (h0 g2)) (i0 s24),
  .p (.ld false 1 (h0 g24)) (i0 s25),
  .p (.bin .lss (h0 g25) (kc (.tc (.sc (.int .u8 4)))) (G3 44 9 2)) (i0 s26),
  .p (.mv (h0 g26)) (i0 s4)])
 .ret)
 (.seq (.reg [.p (.bin .eql (h0 g6) (kc (.tc (.sc (.int .u8 5)))) (G3 44 10 0)) (i0 s28),
  .p (.mv (h0 g28)) (i0 s27)])
 (.cond (h0 g27) (.seq (.reg [.p (.fa 2 (h0 g2)) (i0 s29),
  .p (.ld false 1 (h0 g29)) (i0 s30),
  .p (.bin .lss (h0 g30) (kc (.tc (.sc (.int .u8 32)))) (G3 44 11 2)) (i0 s31),
  .p (.mv (h0 g31)) (i0 s4)])
 .ret)
 (.seq (.reg [.p (.bin .eql (h0 g6) (kc (.tc (.sc (.int .u8 6)))) (G3 44 12 0)) (i0 s33),
  .p (.mv (h0 g33)) (i0 s32)])
 (.cond (h0 g32) (.seq (.reg [.p (.fa 3 (h0 g2)) (i0 s34),
  .p (.ld false 1 (h0 g34)) (i0 s35),
  .p (.bin .lss (h0 g35) (kc (.tc (.sc (.int .u8 32)))) (G3 44 13 2)) (i0 s36),
  .p (.mv (h0 g36)) (i0 s4)])
 .ret)
 (.seq (.reg [.p (.bin .eql (h0 g6) (kc (.tc (.sc (.int .u8 7)))) (G3 44 14 0)) (i0 s38),
  .p (.mv (h0 g38)) (i0 s37)])
 (.cond (h0 g37) (.seq (.reg [.p (.fa 4 (h0 g2)) (i0 s39),
  .p (.ld false 1 (h0 g39)) (i0 s40),
  .p (.bin .lss (h0 g40) (kc (.tc (.sc (.int .u8 2)))) (G3 44 15 2)) (i0 s41),
  .p (.mv (h0 g41)) (i0 s4)])
 .ret)
 (.seq (.reg [.p (.bin .eql (h0 g6) (kc (.tc (.sc (.int .u8 9)))) (G3 44 16 0)) (i0 s43),
  .p (.mv (h0 g43)) (i0 s42)])
 (.cond (h0 g42) (.seq (.seq (.reg [.p (.fa 8 (h0 g2)) (i0 s44),
  .p (.ld false 1 (h0 g44)) (i0 s45)])
 (.cond (h0 g45) (.seq (.reg [.p (.fa 10 (h0 g2)) (i0 s46),
  .p (.ld false 1 (h0 g46)) (i0 s47),
  .p (.bin .geq (h0 g47) (kc (.tc (.sc (.int .i64 (-2147483648))))) (G3 44 18 2)) (i0 s48),
  .p (.mv (h0 g48)) (i0 s49),
  .gp (h0 g49) true (.fa 10 (h0 g2)) (i0 s50),
  .gp (h0 g49) true (.ld false 1 (h0 g50)) (i0 s51),
  .gp (h0 g49) true (.bin .leq (h0 g51) (kc (.tc (.sc (.int .i64 2147483647)))) (G3 44 18 6)) (i0 s52),
  .p (.pk (h0 g49) (h0 g52) (kc (.tc (.sc (.bool false))))) (i0 s53),
  .p (.mv (h0 g53)) (i0 s4)])
 .ret)
 .skip))
 (.seq (.reg [.p (.fa 10 (h0 g2)) (i0 s54),
  .p (.ld false 1 (h0 g54)) (i0 s55),
  .p (.fa 1 (h0 g3)) (i0 s56),
  .p (.ld false 1 (h0 g56)) (i0 s57),
  .p (.fa 2 (h0 g3)) (i0 s58),
  .p (.ld false 1 (h0 g58)) (i0 s59),
  .p (.fa 3 (h0 g3)) (i0 s60),
  .p (.ld false 1 (h0 g60)) (i0 s61),
  .p (.call 69 [(h0 g55), (h0 g57), (h0 g59), (h0 g61)] (G3 44 19 8)) (i0 s62),
  .p (.mv (h0 g62)) (i0 s4)])
 .ret))
 (.seq (.reg [.p (.bin .eql (h0 g6) (kc (.tc (.sc (.int .u8 10)))) (G3 44 20 0)) (i1 s0),
  .p (.mv (h1 g0)) (i0 s63)])
 (.cond (h0 g63) (.seq (.reg [.p (.fa 10 (h0 g2)) (i1 s1),
  .p (.ld false 1 (h1 g1)) (i1 s2),
  .p (.bin .geq (h1 g2) (kc (.tc (.sc (.int .i64 0)))) (G3 44 21 2)) (i1 s3),
  .p (.mv (h1 g3)) (i1 s4),
  .gp (h1 g4) true (.fa 10 (h0 g2)) (i1 s5),
  .gp (h1 g4) true (.ld false 1 (h1 g5)) (i1 s6),
  .gp (h1 g4) true (.bin .lss (h1 g6) (kc (.tc (.sc (.int .i64 4294967296)))) (G3 44 21 6)) (i1 s7),
  .p (.pk (h1 g4) (h1 g7) (kc (.tc (.sc (.bool false))))) (i1 s8),
  .p (.mv (h1 g8)) (i1 s9),
  .gp (h1 g9) true (.fa 10 (h0 g2)) (i1 s10),
  .gp (h1 g9) true (.ld false 1 (h1 g10)) (i1 s11),
  .gp (h1 g9) true (.bin .rem (h1 g11) (kc (.tc (.sc (.int .i64 4)))) (G3 44 21 11)) (i1 s12),
  .gp (h1 g9) true (.bin .eql (h1 g12) (kc (.tc (.sc (.int .i64 0)))) (G3 44 21 12)) (i1 s13),
  .p (.pk (h1 g9) (h1 g13) (kc (.tc (.sc (.bool false))))) (i1 s14),
  .p (.mv (h1 g14)) (i0 s4)])
 .ret)
 (.seq (.reg [.p (.bin .eql (h0 g6) (kc (.tc (.sc (.int .u8 11)))) (G3 44 22 0)) (i1 s16),
  .p (.mv (h1 g16)) (i1 s15)])
 (.cond (h1 g15) (.seq (.reg [.p (.fa 9 (h0 g2)) (i1 s17),
  .p (.ld false 1 (h1 g17)) (i1 s18),
  .p (.bin .lss (h1 g18) (kc (.tc (.sc (.int .u16 2048)))) (G3 44 23 2)) (i1 s19),
  .p (.mv (h1 g19)) (i0 s4)])
 .ret)
 .skip))))))))))))))))))))))
 (.seq (.reg [.p (.mv (kc (.tc (.sc (.bool true))))) (i0 s4)])
 .ret))),
 [.tmp (h0 g4)]⟩
theorem ffSub44_ok : compF SBSub 44 = ffSub44 := by kernel_rfl
noncomputable def ffSub69 : FF := .t2 ⟨48,
 (.seq (.reg [.p (.mv (kc (.tc (.sc (.bool false))))) s8])
 (.seq (.seq (.reg [.p (.mv g1) s9,
  .p (.bin .lss g9 (kc (.tc (.sc (.int .i64 1)))) (G2 69 1 1)) s10,
  .p (.mv g10) s11,
  .gp g11 false (.mv g1) s12,
  .gp g11 false (.bin .gtr g12 (kc (.tc (.sc (.int .i64 32)))) (G2 69 1 4)) s13,
  .p (.pk g11 (kc (.tc (.sc (.bool true)))) g13) s14,
  .p (.mv g14) s15,
  .gp g15 false (.mv g2) s16,
  .gp g15 false (.bin .lss g16 (kc (.tc (.sc (.int .i64 0)))) (G2 69 1 8)) s17,
  .p (.pk g15 (kc (.tc (.sc (.bool true)))) g17) s18,
  .p (.mv g18) s19,
  .gp g19 false (.mv g2) s20,
  .gp g19 false (.bin .gtr g20 (kc (.tc (.sc (.int .i64 8)))) (G2 69 1 12)) s21,
  .p (.pk g19 (kc (.tc (.sc (.bool true)))) g21) s22,
  .p (.mv g22) s23,
  .gp g23 false (.mv g0) s24,
  .gp g23 false (.mv g2) s25,
  .gp g23 false (.bin .shl (kc (.tc (.sc (.int .i64 1)))) g25 (G2 69 1 17)) s26,
  .gp g23 false (.bin .sub g26 (kc (.tc (.sc (.int .i64 1)))) (G2 69 1 18)) s27,
  .gp g23 false (.bin .and g24 g27 (G2 69 1 19)) s28,
  .gp g23 false (.bin .neq g28 (kc (.tc (.sc (.int .i64 0)))) (G2 69 1 20)) s29,
  .p (.pk g23 (kc (.tc (.sc (.bool true)))) g29) s30])
 (.cond g30 (.seq (.reg [.p (.mv (kc (.tc (.sc (.bool false))))) s8])
 .ret)
 .skip))
 (.seq (.reg [.p (.mv g0) s31,
  .p (.mv g2) s32,
  .p (.bin .shr g31 g32 (G2 69 3 2)) s33,
  .p (.mv g33) s0])
 (.seq (.seq (.reg [.p (.mv g3) s34])
 (.cond g34 (.reg [.p (.mv g0) s35,
  .p (.mv g1) s36,
  .p (.bin .sub g36 (kc (.tc (.sc (.int .i64 1)))) (G2 69 5 2)) s37,
  .p (.bin .shl (kc (.tc (.sc (.int .i64 1)))) g37 (G2 69 5 3)) s38,
  .p (.bin .add g35 g38 (G2 69 5 4)) s39,
  .p (.mv g39) s0])
 .skip))
 (.seq (.reg [.p (.mv g0) s40,
  .p (.bin .geq g40 (kc (.tc (.sc (.int .i64 0)))) (G2 69 6 1)) s41,
  .p (.mv g41) s42,
  .gp g42 true (.mv g0) s43,
  .gp g42 true (.mv g1) s44,
  .gp g42 true (.bin .shl (kc (.tc (.sc (.int .i64 1)))) g44 (G2 69 6 5)) s45,
  .gp g42 true (.bin .lss g43 g45 (G2 69 6 6)) s46,
  .p (.pk g42 g46 (kc (.tc (.sc (.bool false))))) s47,
  .p (.mv g47) s8])
 .ret))))),
 [.tmp g8]⟩
theorem ffSub69_ok : compF SBSub 69 = ffSub69 := by kernel_rfl
noncomputable def ffSub45 : FF := .t2 ⟨5,
 (.seq (.reg [.p (.bx 11 g0 (G2 45 0 0)) s1,
  .p (.mv (kc (.tc (.sc (.bool false))))) s2])
 (.seq (.reg [.p (.ld true 11 g1) s3,
  .p (.call 70 [g3, (kc (.tc (.sc (.int .u8 1))))] (G2 45 1 1)) s4,
  .p (.mv g4) s2])
 .ret)),
 [.tmp g2]⟩
theorem ffSub45_ok : compF SBSub 45 = ffSub45 := by kernel_rfl
noncomputable def ffSub70 : FF := .t2 ⟨17,
 (.seq (.reg [.p (.bx 11 g0 (G2 70 0 0)) s2,
  .p (.mv (kc (.tc (.sc (.bool false))))) s4])
 (.seq (.reg [.p (.fa 0 g2) s9,
  .p (.ld false 1 g9) s10,
  .p (.mv g1) s11,
  .p (.call 89 [g10, g11] (G2 70 1 3)) s12,
  .p (.mv g12) s8,
  .p (.ex g8 0) s13,
  .p (.ex g8 1) s14,
  .p (.ex g8 2) s15,
  .p (.al 5 [(.sc (.int .u8 0)), (.sc (.int .i64 0)), (.sc (.int .i64 0)), (.sc (.bool false)), (.sc (.bool false))]) s5,
  .n (.st 5 g5 g13 (G2 70 1 9)),
  .p (.mv g14) s6,
  .p (.mv g15) s7])
 (.seq (.reg [.p (.mv g7) s16,
  .p (.mv g16) s4])
 .ret))),
 [.tmp g4]⟩
theorem ffSub70_ok : compF SBSub 70 = ffSub70 := by kernel_rfl
noncomputable def ffSub89 : FF := .t2 ⟨35,
 (.seq (.reg [.p (.al 5 [(.sc (.int .u8 0)), (.sc (.int .i64 0)), (.sc (.int .i64 0)), (.sc (.bool false)), (.sc (.bool false))]) s4,
  .p (.mv (kc (.tc (.sc (.int .i64 0))))) s5,
  .p (.mv (kc (.tc (.sc (.bool false))))) s6])
 (.seq (.reg [.p (.mv g0) s12,
  .p (.call 67 [g12] (G2 89 1 1)) s13,
  .p (.mv g13) s11,
  .p (.ex g11 0) s14,
  .p (.ex g11 1) s15,
  .p (.al 5 [(.sc (.int .u8 0)), (.sc (.string ⟨#[]⟩)), (.sc (.int .u8 0)), (.sc (.int .u8 0)), (.sc (.slice none 0 0))]) s7,
  .n (.st 5 g7 g14 (G2 89 1 6)),
  .p (.mv g15) s8])
 (.seq (.reg [.p (.mv (kc (.tc (.sc (.int .i64 24))))) s5])
 (.seq (.seq (.reg [.p (.fa 4 g7) s16,
  .p (.ld false 1 g16) s17,
  .p (.len g17 (G2 89 3 2)) s18,
  .p (.mv (kc (.tc (.sc (.int .i64 0))))) s19])
 (.block 0 (.loop 4294967296 (.seq (.reg [.p (.bin .lss g19 g18 (G2 89 4 0)) s20])
 (.seq (.cond g20 .skip
 (.exit 0))
 (.seq (.block 1 (.seq (.reg [.p (.ia 5 g17 g19 (G2 89 5 0)) s21,
  .p (.ld true 5 g21) s22,
  .p (.al 5 [(.sc (.int .u8 0)), (.sc (.int .i64 0)), (.sc (.int .i64 0)), (.sc (.bool false)), (.sc (.bool false))]) s10,
  .n (.st 5 g10 g22 (G2 89 5 3))])
 (.seq (.reg [.p (.mv g5) s23,
  .p (.fa 1 g10) s24,
  .p (.ld false 1 g24) s25,
  .p (.bin .sub g23 g25 (G2 89 6 3)) s26,
  .p (.mv g26) s5])
 (.seq (.reg [.p (.fa 0 g10) s27,
  .p (.ld false 1 g27) s28,
  .p (.mv g1) s29,
  .p (.bin .eql g28 g29 (G2 89 7 3)) s30])
 (.cond g30 (.seq (.reg [.p (.ld true 5 g10) s31,
  .p (.mv g5) s32,
  .n (.st 5 g4 g31 (G2 89 8 2)),
  .p (.mv g32) s5,
  .p (.mv (kc (.tc (.sc (.bool true))))) s6])
 .ret)
 .skip)))))
 (.reg [.p (.bin .add g19 (kc (.tc (.sc (.int .i64 1)))) (G2 89 9 0)) s33,
  .p (.mv g33) s19])))))))
 (.seq (.reg [.p (.bd [(.tc (.sc (.int .u8 0))), (.tc (.sc (.int .i64 0))), (.tc (.sc (.int .i64 0))), (.tc (.sc (.bool false))), (.tc (.sc (.bool false)))] [] (G2 89 10 0)) s34,
  .n (.st 5 g4 g34 (G2 89 10 1)),
  .p (.mv (kc (.tc (.sc (.int .i64 0))))) s5,
  .p (.mv (kc (.tc (.sc (.bool false))))) s6])
 .ret))))),
 [.cell g4 true 5, .tmp g5, .tmp g6]⟩
theorem ffSub89_ok : compF SBSub 89 = ffSub89 := by kernel_rfl
noncomputable def ffSub20 : FF := .t3 ⟨101,
 (.seq (.reg [.p (.al 11 [(.sc (.int .u8 0)), (.sc (.int .u8 0)), (.sc (.int .u8 0)), (.sc (.int .u8 0)), (.sc (.int .u8 0)), (.sc (.int .u8 0)), (.sc (.int .u8 0)), (.sc (.bool false)), (.sc (.bool false)), (.sc (.int .u16 0)), (.sc (.int .i64 0))]) (i0 s2),
  .p (.mv (kc (.tc (.sc (.bool false))))) (i0 s3)])
 (.seq (.reg [.p (.mv (h0 g0)) (i0 s9),
  .p (.bin .quo (h0 g9) (kc (.tc (.sc (.int .i64 2048)))) (G3 20 1 1)) (i0 s10),
  .p (.mv (h0 g10)) (i0 s4)])
 (.seq (.reg [.p (.mv (h0 g0)) (i0 s11),
  .p (.bin .quo (h0 g11) (kc (.tc (.sc (.int .i64 128)))) (G3 20 2 1)) (i0 s12),
  .p (.bin .rem (h0 g12) (kc (.tc (.sc (.int .i64 16)))) (G3 20 2 2)) (i0 s13),
  .p (.mv (h0 g13)) (i0 s5)])
 (.seq (.reg [.p (.mv (h0 g0)) (i0 s14),
  .p (.bin .quo (h0 g14) (kc (.tc (.sc (.int .i64 8)))) (G3 20 3 1)) (i0 s15),
  .p (.bin .rem (h0 g15) (kc (.tc (.sc (.int .i64 16)))) (G3 20 3 2)) (i0 s16),
  .p (.mv (h0 g16)) (i0 s6)])
 (.seq (.reg [.p (.mv (h0 g0)) (i0 s17),
  .p (.bin .rem (h0 g17) (kc (.tc (.sc (.int .i64 8)))) (G3 20 4 1)) (i0 s18),
  .p (.mv (h0 g18)) (i0 s7)])
 (.seq (.reg [.p (.mv (h0 g0)) (i0 s19),
  .p (.bin .rem (h0 g19) (kc (.tc (.sc (.int .i64 128)))) (G3 20 5 1)) (i0 s20),
  .p (.mv (h0 g20)) (i0 s8)])
 (.seq (.seq (.reg [.p (.mv (h0 g4)) (i0 s21)])
 (.block 0 (.seq (.reg [.p (.bin .eql (h0 g21) (kc (.tc (.sc (.int .i64 1)))) (G3 20 7 0)) (i0 s23),
  .p (.mv (h0 g23)) (i0 s22)])
 (.cond (h0 g22) (.seq (.reg [.p (.mv (h0 g5)) (i0 s24),
  .p (.call 40 [(h0 g24)] (G3 20 8 1)) (i0 s25),
  .p (.mv (h0 g8)) (i0 s26),
  .p (.bd [(.tc (.sc (.int .u8 0))), (.tc (.sc (.int .u8 0))), (.tc (.sc (.int .u8 0))), (.tc (.sc (.int .u8 0))), (.tc (.sc (.int .u8 0))), (.tc (.sc (.int .u8 0))), (.tc (.sc (.int .u8 0))), (.tc (.sc (.bool false))), (.tc (.sc (.bool false))), (.tc (.sc (.int .u16 0))), (.tc (.sc (.int .i64 0)))] [(.mk 0 1 (kc (.tc (.sc (.int .u8 8))))), (.mk 1 1 (h0 g25)), (.mk 10 1 (h0 g26))] (G3 20 8 3)) (i0 s27),
  .n (.st 11 (h0 g2) (h0 g27) (G3 20 8 4)),
  .p (.mv (kc (.tc (.sc (.bool true))))) (i0 s3)])
 .ret)
 (.seq (.reg [.p (.bin .eql (h0 g21) (kc (.tc (.sc (.int .i64 2)))) (G3 20 9 0)) (i0 s29),
  .p (.mv (h0 g29)) (i0 s28)])
 (.cond (h0 g28) (.seq (.seq (.reg [.p (.mv (h0 g8)) (i0 s30),
  .p (.bin .gtr (h0 g30) (kc (.tc (.sc (.int .i64 63)))) (G3 20 10 1)) (i0 s31)])
 (.cond (h0 g31) (.reg [.p (.mv (h0 g8)) (i0 s32),
  .p (.bin .sub (h0 g32) (kc (.tc (.sc (.int .i64 128)))) (G3 20 11 1)) (i0 s33),
  .p (.mv (h0 g33)) (i0 s8)])
 .skip))
 (.seq (.reg [.p (.mv (h0 g5)) (i0 s34),
  .p (.call 40 [(h0 g34)] (G3 20 12 1)) (i0 s35),
  .p (.mv (h0 g5)) (i0 s36),
  .p (.call 40 [(h0 g36)] (G3 20 12 3)) (i0 s37),
  .p (.mv (h0 g8)) (i0 s38),
  .p (.bd [(.tc (.sc (.int .u8 0))), (.tc (.sc (.int .u8 0))), (.tc (.sc (.int .u8 0))), (.tc (.sc (.int .u8 0))), (.tc (.sc (.int .u8 0))), (.tc (.sc (.int .u8 0))), (.tc (.sc (.int .u8 0))), (.tc (.sc (.bool false))), (.tc (.sc (.bool false))), (.tc (.sc (.int .u16 0))), (.tc (.sc (.int .i64 0)))] [(.mk 0 1 (kc (.tc (.sc (.int .u8 7))))), (.mk 1 1 (h0 g35)), (.mk 2 1 (h0 g37)), (.mk 10 1 (h0 g38))] (G3 20 12 5)) (i0 s39),
  .n (.st 11 (h0 g2) (h0 g39) (G3 20 12 6)),
  .p (.mv (kc (.tc (.sc (.bool true))))) (i0 s3)])
 .ret))
 (.seq (.reg [.p (.bin .eql (h0 g21) (kc (.tc (.sc (.int .i64 3)))) (G3 20 13 0)) (i0 s41),
  .p (.mv (h0 g41)) (i0 s40)])
 (.cond (h0 g40) (.seq (.reg [.p (.mv (h0 g7)) (i0 s42),
  .p (.bin .eql (h0 g42) (kc (.tc (.sc (.int .i64 0)))) (G3 20 14 1)) (i0 s43)])
 (.cond (h0 g43) (.seq (.reg [.p (.mv (h0 g5)) (i0 s44),
  .p (.call 40 [(h0 g44)] (G3 20 15 1)) (i0 s45),
  .p (.mv (h0 g6)) (i0 s46),
  .p (.call 40 [(h0 g46)] (G3 20 15 3)) (i0 s47),
  .p (.bd [(.tc (.sc (.int .u8 0))), (.tc (.sc (.int .u8 0))), (.tc (.sc (.int .u8 0))), (.tc (.sc (.int .u8 0))), (.tc (.sc (.int .u8 0))), (.tc (.sc (.int .u8 0))), (.tc (.sc (.int .u8 0))), (.tc (.sc (.bool false))), (.tc (.sc (.bool false))), (.tc (.sc (.int .u16 0))), (.tc (.sc (.int .i64 0)))] [(.mk 0 1 (kc (.tc (.sc (.int .u8 9))))), (.mk 1 1 (h0 g45)), (.mk 2 1 (h0 g47))] (G3 20 15 4)) (i0 s48),
  .n (.st 11 (h0 g2) (h0 g48) (G3 20 15 5)),
  .p (.mv (kc (.tc (.sc (.bool true))))) (i0 s3)])
 .ret)
 .skip))
 (.seq (.reg [.p (.bin .eql (h0 g21) (kc (.tc (.sc (.int .i64 4)))) (G3 20 16 0)) (i0 s50),
  .p (.mv (h0 g50)) (i0 s49)])
 (.cond (h0 g49) (.seq (.reg [.p (.mv (h0 g7)) (i0 s51),
  .p (.bin .eql (h0 g51) (kc (.tc (.sc (.int .i64 0)))) (G3 20 17 1)) (i0 s52)])
 (.cond (h0 g52) (.seq (.reg [.p (.mv (h0 g5)) (i0 s53),
  .p (.call 40 [(h0 g53)] (G3 20 18 1)) (i0 s54),
  .p (.mv (h0 g5)) (i0 s55),
  .p (.call 40 [(h0 g55)] (G3 20 18 3)) (i0 s56),
  .p (.mv (h0 g6)) (i0 s57),
  .p (.call 40 [(h0 g57)] (G3 20 18 5)) (i0 s58),
  .p (.bd [(.tc (.sc (.int .u8 0))), (.tc (.sc (.int .u8 0))), (.tc (.sc (.int .u8 0))), (.tc (.sc (.int .u8 0))), (.tc (.sc (.int .u8 0))), (.tc (.sc (.int .u8 0))), (.tc (.sc (.int .u8 0))), (.tc (.sc (.bool false))), (.tc (.sc (.bool false))), (.tc (.sc (.int .u16 0))), (.tc (.sc (.int .i64 0)))] [(.mk 0 1 (kc (.tc (.sc (.int .u8 2))))), (.mk 1 1 (h0 g54)), (.mk 2 1 (h0 g56)), (.mk 3 1 (h0 g58))] (G3 20 18 6)) (i0 s59),
  .n (.st 11 (h0 g2) (h0 g59) (G3 20 18 7)),
  .p (.mv (kc (.tc (.sc (.bool true))))) (i0 s3)])
 .ret)
 .skip))
 (.seq (.reg [.p (.bin .eql (h0 g21) (kc (.tc (.sc (.int .i64 5)))) (G3 20 19 0)) (i0 s61),
  .p (.mv (h0 g61)) (i0 s60)])
 (.cond (h0 g60) (.seq (.reg [.p (.mv (h0 g5)) (i0 s62),
  .p (.call 40 [(h0 g62)] (G3 20 20 1)) (i0 s63),
  .p (.mv (h0 g6)) (i1 s0),
  .p (.call 40 [(h1 g0)] (G3 20 20 3)) (i1 s1),
  .p (.mv (h0 g7)) (i1 s2),
  .p (.bin .mul (kc (.tc (.sc (.int .i64 4)))) (h1 g2) (G3 20 20 5)) (i1 s3),
  .p (.bd [(.tc (.sc (.int .u8 0))), (.tc (.sc (.int .u8 0))), (.tc (.sc (.int .u8 0))), (.tc (.sc (.int .u8 0))), (.tc (.sc (.int .u8 0))), (.tc (.sc (.int .u8 0))), (.tc (.sc (.int .u8 0))), (.tc (.sc (.bool false))), (.tc (.sc (.bool false))), (.tc (.sc (.int .u16 0))), (.tc (.sc (.int .i64 0)))] [(.mk 0 1 (kc (.tc (.sc (.int .u8 21))))), (.mk 1 1 (h0 g63)), (.mk 2 1 (h1 g1)), (.mk 10 1 (h1 g3))] (G3 20 20 6)) (i1 s4),
  .n (.st 11 (h0 g2) (h1 g4) (G3 20 20 7)),
  .p (.mv (kc (.tc (.sc (.bool true))))) (i0 s3)])
 .ret)
 (.seq (.reg [.p (.bin .eql (h0 g21) (kc (.tc (.sc (.int .i64 6)))) (G3 20 21 0)) (i1 s6),
  .p (.mv (h1 g6)) (i1 s5)])
 (.cond (h1 g5) (.seq (.reg [.p (.mv (h0 g5)) (i1 s7),
  .p (.call 40 [(h1 g7)] (G3 20 22 1)) (i1 s8),
  .p (.mv (h0 g6)) (i1 s9),
  .p (.call 40 [(h1 g9)] (G3 20 22 3)) (i1 s10),
  .p (.mv (h0 g7)) (i1 s11),
  .p (.bin .mul (kc (.tc (.sc (.int .i64 4)))) (h1 g11) (G3 20 22 5)) (i1 s12),
  .p (.bd [(.tc (.sc (.int .u8 0))), (.tc (.sc (.int .u8 0))), (.tc (.sc (.int .u8 0))), (.tc (.sc (.int .u8 0))), (.tc (.sc (.int .u8 0))), (.tc (.sc (.int .u8 0))), (.tc (.sc (.int .u8 0))), (.tc (.sc (.bool false))), (.tc (.sc (.bool false))), (.tc (.sc (.int .u16 0))), (.tc (.sc (.int .i64 0)))] [(.mk 0 1 (kc (.tc (.sc (.int .u8 24))))), (.mk 2 1 (h1 g8)), (.mk 3 1 (h1 g10)), (.mk 10 1 (h1 g12))] (G3 20 22 6)) (i1 s13),
  .n (.st 11 (h0 g2) (h1 g13) (G3 20 22 7)),
  .p (.mv (kc (.tc (.sc (.bool true))))) (i0 s3)])
 .ret)
 (.seq (.reg [.p (.bin .eql (h0 g21) (kc (.tc (.sc (.int .i64 7)))) (G3 20 23 0)) (i1 s15),
  .p (.mv (h1 g15)) (i1 s14)])
 (.cond (h1 g14) (.seq (.reg [.p (.mv (h0 g5)) (i1 s16),
  .p (.call 40 [(h1 g16)] (G3 20 24 1)) (i1 s17),
  .p (.mv (h0 g6)) (i1 s18),
  .p (.call 40 [(h1 g18)] (G3 20 24 3)) (i1 s19),
  .p (.mv (h0 g7)) (i1 s20),
  .p (.bd [(.tc (.sc (.int .u8 0))), (.tc (.sc (.int .u8 0))), (.tc (.sc (.int .u8 0))), (.tc (.sc (.int .u8 0))), (.tc (.sc (.int .u8 0))), (.tc (.sc (.int .u8 0))), (.tc (.sc (.int .u8 0))), (.tc (.sc (.bool false))), (.tc (.sc (.bool false))), (.tc (.sc (.int .u16 0))), (.tc (.sc (.int .i64 0)))] [(.mk 0 1 (kc (.tc (.sc (.int .u8 23))))), (.mk 1 1 (h1 g17)), (.mk 2 1 (h1 g19)), (.mk 10 1 (h1 g20))] (G3 20 24 5)) (i1 s21),
  .n (.st 11 (h0 g2) (h1 g21) (G3 20 24 6)),
  .p (.mv (kc (.tc (.sc (.bool true))))) (i0 s3)])
 .ret)
 (.seq (.reg [.p (.bin .eql (h0 g21) (kc (.tc (.sc (.int .i64 8)))) (G3 20 25 0)) (i1 s23),
  .p (.mv (h1 g23)) (i1 s22)])
 (.cond (h1 g22) (.seq (.reg [.p (.mv (h0 g5)) (i1 s24),
  .p (.call 40 [(h1 g24)] (G3 20 26 1)) (i1 s25),
  .p (.mv (h0 g6)) (i1 s26),
  .p (.call 40 [(h1 g26)] (G3 20 26 3)) (i1 s27),
  .p (.mv (h0 g7)) (i1 s28),
  .p (.bd [(.tc (.sc (.int .u8 0))), (.tc (.sc (.int .u8 0))), (.tc (.sc (.int .u8 0))), (.tc (.sc (.int .u8 0))), (.tc (.sc (.int .u8 0))), (.tc (.sc (.int .u8 0))), (.tc (.sc (.int .u8 0))), (.tc (.sc (.bool false))), (.tc (.sc (.bool false))), (.tc (.sc (.int .u16 0))), (.tc (.sc (.int .i64 0)))] [(.mk 0 1 (kc (.tc (.sc (.int .u8 26))))), (.mk 2 1 (h1 g25)), (.mk 3 1 (h1 g27)), (.mk 10 1 (h1 g28))] (G3 20 26 5)) (i1 s29),
  .n (.st 11 (h0 g2) (h1 g29) (G3 20 26 6)),
  .p (.mv (kc (.tc (.sc (.bool true))))) (i0 s3)])
 .ret)
 (.seq (.reg [.p (.bin .eql (h0 g21) (kc (.tc (.sc (.int .i64 9)))) (G3 20 27 0)) (i1 s31),
  .p (.mv (h1 g31)) (i1 s30)])
 (.cond (h1 g30) (.seq (.reg [.p (.mv (h0 g5)) (i1 s32),
  .p (.call 40 [(h1 g32)] (G3 20 28 1)) (i1 s33),
  .p (.mv (h0 g8)) (i1 s34),
  .p (.bd [(.tc (.sc (.int .u8 0))), (.tc (.sc (.int .u8 0))), (.tc (.sc (.int .u8 0))), (.tc (.sc (.int .u8 0))), (.tc (.sc (.int .u8 0))), (.tc (.sc (.int .u8 0))), (.tc (.sc (.int .u8 0))), (.tc (.sc (.bool false))), (.tc (.sc (.bool false))), (.tc (.sc (.int .u16 0))), (.tc (.sc (.int .i64 0)))] [(.mk 0 1 (kc (.tc (.sc (.int .u8 13))))), (.mk 2 1 (h1 g33)), (.mk 10 1 (h1 g34))] (G3 20 28 3)) (i1 s35),
  .n (.st 11 (h0 g2) (h1 g35) (G3 20 28 4)),
  .p (.mv (kc (.tc (.sc (.bool true))))) (i0 s3)])
 .ret)
 .skip))))))))))))))))))))
 (.seq (.reg [.p (.bd [(.tc (.sc (.int .u8 0))), (.tc (.sc (.int .u8 0))), (.tc (.sc (.int .u8 0))), (.tc (.sc (.int .u8 0))), (.tc (.sc (.int .u8 0))), (.tc (.sc (.int .u8 0))), (.tc (.sc (.int .u8 0))), (.tc (.sc (.bool false))), (.tc (.sc (.bool false))), (.tc (.sc (.int .u16 0))), (.tc (.sc (.int .i64 0)))] [] (G3 20 29 0)) (i1 s36),
  .n (.st 11 (h0 g2) (h1 g36) (G3 20 29 1)),
  .p (.mv (kc (.tc (.sc (.bool false))))) (i0 s3)])
 .ret)))))))),
 [.cell (h0 g2) true 11, .tmp (h0 g3)]⟩
theorem ffSub20_ok : compF SBSub 20 = ffSub20 := by kernel_rfl
noncomputable def ffSub40 : FF := .t2 ⟨9,
 (.seq (.reg [.p (.mv (kc (.tc (.sc (.int .u8 0))))) s2])
 (.seq (.seq (.reg [.p (.mv g0) s3,
  .p (.bin .gtr g3 (kc (.tc (.sc (.int .i64 7)))) (G2 40 1 1)) s4])
 (.cond g4 (.reg [.p (.mv g0) s5,
  .p (.bin .add g5 (kc (.tc (.sc (.int .i64 8)))) (G2 40 2 1)) s6,
  .p (.mv g6) s0])
 .skip))
 (.seq (.reg [.p (.mv g0) s7,
  .p (.cv .u8 g7 (G2 40 3 1)) s8,
  .p (.mv g8) s2])
 .ret))),
 [.tmp g2]⟩
theorem ffSub40_ok : compF SBSub 40 = ffSub40 := by kernel_rfl
noncomputable def ffSub21 : FF := .t2 ⟨46,
 (.seq (.reg [.p (.bx 11 g0 (G2 21 0 0)) s1,
  .p (.mv (kc (.tc (.sc (.int .u16 0))))) s2,
  .p (.mv (kc (.tc (.sc (.bool false))))) s3])
 (.seq (.seq (.reg [.p (.ld false 1 (kc (.vptr gwSub0 [glSub0] 0 0))) s10,
  .p (.len g10 (G2 21 1 1)) s11,
  .p (.mv (kc (.tc (.sc (.int .i64 0))))) s12])
 (.block 0 (.loop 4294967296 (.seq (.reg [.p (.bin .lss g12 g11 (G2 21 2 0)) s13])
 (.seq (.cond g13 .skip
 (.exit 0))
 (.seq (.block 1 (.seq (.reg [.p (.mv g12) s14,
  .p (.ia 10 g10 g12 (G2 21 3 1)) s15,
  .p (.ld true 10 g15) s16,
  .p (.al 10 [(.sc (.int .u8 0)), (.sc (.int .i64 0)), (.sc (.int .i64 0)), (.sc (.int .i64 0)), (.sc (.int .i64 0)), (.sc (.int .i64 0)), (.sc (.int .i64 0)), (.sc (.int .i64 0)), (.sc (.int .i64 0)), (.sc (.int .i64 0))]) s5,
  .p (.mv g14) s4,
  .n (.st 10 g5 g16 (G2 21 3 5))])
 (.seq (.seq (.reg [.p (.fa 0 g5) s17,
  .p (.ld false 1 g17) s18,
  .p (.fa 0 g1) s19,
  .p (.ld false 1 g19) s20,
  .p (.bin .neq g18 g20 (G2 21 4 4)) s21])
 (.cond g21 (.exit 1)
 .skip))
 (.seq (.reg [.p (.ld true 10 g5) s23,
  .p (.ld true 11 g1) s24,
  .p (.mv g4) s25,
  .p (.bin .add g25 (kc (.tc (.sc (.int .i64 1)))) (G2 21 5 3)) s26,
  .p (.call 41 [g23, g24, g26] (G2 21 5 4)) s27,
  .p (.mv g27) s22,
  .p (.ex g22 0) s28,
  .p (.ex g22 1) s29,
  .p (.mv g28) s6,
  .p (.mv g29) s7])
 (.seq (.reg [.p (.mv g6) s31,
  .p (.call 19 [g31] (G2 21 6 1)) s32,
  .p (.mv g32) s30,
  .p (.ex g30 0) s33,
  .p (.ex g30 1) s34,
  .p (.al 11 [(.sc (.int .u8 0)), (.sc (.int .u8 0)), (.sc (.int .u8 0)), (.sc (.int .u8 0)), (.sc (.int .u8 0)), (.sc (.int .u8 0)), (.sc (.int .u8 0)), (.sc (.bool false)), (.sc (.bool false)), (.sc (.int .u16 0)), (.sc (.int .i64 0))]) s8,
  .n (.st 11 g8 g33 (G2 21 6 6)),
  .p (.mv g34) s9])
 (.seq (.reg [.p (.mv g7) s35,
  .p (.mv g35) s36,
  .gp g36 true (.mv g9) s37,
  .p (.pk g36 g37 (kc (.tc (.sc (.bool false))))) s38,
  .p (.mv g38) s39,
  .gp g39 true (.ld true 11 g8) s40,
  .gp g39 true (.ld true 11 g1) s41,
  .gp g39 true (.eqs .eql [(.mk 0 .int), (.mk 1 .int), (.mk 2 .int), (.mk 3 .int), (.mk 4 .int), (.mk 5 .int), (.mk 6 .int), (.mk 7 .bool), (.mk 8 .bool), (.mk 9 .int), (.mk 10 .int)] g40 g41 (G2 21 7 7)) s42,
  .p (.pk g39 g42 (kc (.tc (.sc (.bool false))))) s43])
 (.cond g43 (.seq (.reg [.p (.mv g6) s44,
  .p (.mv g44) s2,
  .p (.mv (kc (.tc (.sc (.bool true))))) s3])
 .ret)
 .skip)))))))
 (.reg [.p (.bin .add g12 (kc (.tc (.sc (.int .i64 1)))) (G2 21 9 0)) s45,
  .p (.mv g45) s12])))))))
 (.seq (.reg [.p (.mv (kc (.tc (.sc (.int .u16 0))))) s2,
  .p (.mv (kc (.tc (.sc (.bool false))))) s3])
 .ret))),
 [.tmp g2, .tmp g3]⟩
theorem ffSub21_ok : compF SBSub 21 = ffSub21 := by kernel_rfl
noncomputable def ffSub41 : FF := .t2 ⟨43,
 (.seq (.reg [.p (.bx 10 g0 (G2 41 0 0)) s3,
  .p (.bx 11 g1 (G2 41 0 1)) s4,
  .p (.mv (kc (.tc (.sc (.int .u16 0))))) s6,
  .p (.mv (kc (.tc (.sc (.bool false))))) s7])
 (.seq (.reg [.p (.mv g2) s14,
  .p (.cv .u32 g14 (G2 41 1 1)) s15,
  .p (.call 65 [(kc (.tc (.sc (.int .u32 0)))), (kc (.tc (.sc (.int .i64 11)))), (kc (.tc (.sc (.int .i64 4)))), g15] (G2 41 1 2)) s16,
  .p (.mv g16) s8])
 (.seq (.reg [.p (.mv (kc (.tc (.sc (.int .i64 11))))) s9])
 (.seq (.seq (.reg [.p (.fa 1 g3) s17,
  .p (.ld true 9 g17) s18,
  .p (.mv (kc (.tc (.sc (.int .i64 0))))) s19])
 (.block 0 (.loop 4294967296 (.seq (.reg [.p (.bin .lss g19 (kc (.tc (.sc (.int .i64 3)))) (G2 41 4 0)) s20])
 (.seq (.cond g20 .skip
 (.exit 0))
 (.seq (.block 1 (.seq (.reg [.p (.gen (G2 41 5 0)) s21,
  .p (.al 3 [(.sc (.int .i64 0)), (.sc (.int .i64 0)), (.sc (.int .i64 0))]) s11,
  .n (.st 3 g11 g21 (G2 41 5 2))])
 (.seq (.reg [.p (.ld true 3 g11) s23,
  .p (.ld true 11 g4) s24,
  .p (.call 66 [g23, g24] (G2 41 6 2)) s25,
  .p (.mv g25) s22,
  .p (.ex g22 0) s26,
  .p (.ex g22 1) s27,
  .p (.mv g26) s12,
  .p (.mv g27) s13])
 (.seq (.seq (.reg [.p (.mv g13) s28,
  .p (.nt g28 (G2 41 7 1)) s29])
 (.cond g29 (.seq (.reg [.p (.mv (kc (.tc (.sc (.int .u16 0))))) s6,
  .p (.mv (kc (.tc (.sc (.bool false))))) s7])
 .ret)
 .skip))
 (.seq (.reg [.p (.mv g9) s30,
  .p (.fa 1 g11) s31,
  .p (.ld false 1 g31) s32,
  .p (.bin .sub g30 g32 (G2 41 9 3)) s33,
  .p (.mv g33) s9])
 (.reg [.p (.mv g8) s34,
  .p (.mv g9) s35,
  .p (.fa 1 g11) s36,
  .p (.ld false 1 g36) s37,
  .p (.mv g12) s38,
  .p (.call 65 [g34, g35, g37, g38] (G2 41 10 5)) s39,
  .p (.mv g39) s8]))))))
 (.reg [.p (.bin .add g19 (kc (.tc (.sc (.int .i64 1)))) (G2 41 11 0)) s40,
  .p (.mv g40) s19])))))))
 (.seq (.reg [.p (.mv g8) s41,
  .p (.cv .u16 g41 (G2 41 12 1)) s42,
  .p (.mv g42) s6,
  .p (.mv (kc (.tc (.sc (.bool true))))) s7])
 .ret))))),
 [.tmp g6, .tmp g7]⟩
theorem ffSub41_ok : compF SBSub 41 = ffSub41 := by kernel_rfl
noncomputable def ffSub65 : FF := .t2 ⟨21,
 (.seq (.reg [.p (.mv (kc (.tc (.sc (.int .u32 0))))) s8])
 (.seq (.reg [.p (.mv g1) s10,
  .p (.mv g2) s11,
  .p (.bd [(.tc (.sc (.int .i64 0))), (.tc (.sc (.int .i64 0)))] [(.mk 0 1 g10), (.mk 1 1 g11)] (G2 65 1 2)) s12,
  .p (.al 2 [(.sc (.int .i64 0)), (.sc (.int .i64 0))]) s9,
  .n (.st 2 g9 g12 (G2 65 1 4))])
 (.seq (.seq (.reg [.p (.ld true 2 g9) s13,
  .p (.call 64 [g13] (G2 65 2 1)) s14,
  .p (.nt g14 (G2 65 2 2)) s15])
 (.cond g15 (.seq (.reg [.p (.mv g0) s16,
  .p (.mv g16) s8])
 .ret)
 .skip))
 (.seq (.reg [.p (.ld true 2 g9) s17,
  .p (.mv g0) s18,
  .p (.mv g3) s19,
  .p (.call 86 [g17, g18, g19] (G2 65 4 3)) s20,
  .p (.mv g20) s8])
 .ret)))),
 [.tmp g8]⟩
theorem ffSub65_ok : compF SBSub 65 = ffSub65 := by kernel_rfl
noncomputable def ffSub86 : FF := .t2 ⟨26,
 (.seq (.reg [.p (.bx 2 g0 (G2 86 0 0)) s3,
  .p (.mv (kc (.tc (.sc (.int .u32 0))))) s6])
 (.seq (.seq (.reg [.p (.fa 1 g3) s7,
  .p (.ld false 1 g7) s8,
  .p (.bin .eql g8 (kc (.tc (.sc (.int .i64 0)))) (G2 86 1 2)) s9])
 (.cond g9 (.seq (.reg [.p (.mv g1) s10,
  .p (.mv g10) s6])
 .ret)
 .skip))
 (.seq (.regD [0, 0, 2, 0, 8, 30, 63, 0, 0, 262, 902, 0, 2048, 8070, 16383, 32767] [.no, (.rd (.ld true 2 g3) g12), .no, .no, (.rd (.ld false 1 g14) g15), .no, .no, .no, (.rd (.ld true 2 g3) g19), .no, .no, .no, (.rd (.ld false 1 g22) g23), .no, .no, .no] [.mk .none .yes (.mv g1) (.mv g1) (some s11),
  .mk .none .yes (.ld true 2 g3) (.ld true 2 g3) (some s12),
  .mk .none (.dyn 73 [g12]) (.call 73 [g12] (G2 86 3 2)) (.call 73 [g12] (G2 86 3 2)) (some s13),
  .mk .none .yes (.fa 0 g3) (.fa 0 g3) (some s14),
  .mk .none .yes (.ld false 1 g14) (.ld false 1 g14) (some s15),
  .mk .none .yes (.bin .shl g13 g15 (G2 86 3 5)) (.bin .shl g13 g15 (G2 86 3 5)) (some s16),
  .mk .none .yes (.bin .andNot g11 g16 (G2 86 3 6)) (.bin .andNot g11 g16 (G2 86 3 6)) (some s17),
  .mk .none .yes (.mv g2) (.mv g2) (some s18),
  .mk .none .yes (.ld true 2 g3) (.ld true 2 g3) (some s19),
  .mk .none (.dyn 73 [g19]) (.call 73 [g19] (G2 86 3 9)) (.call 73 [g19] (G2 86 3 9)) (some s20),
  .mk .none .yes (.bin .and g18 g20 (G2 86 3 10)) (.bin .and g18 g20 (G2 86 3 10)) (some s21),
  .mk .none .yes (.fa 0 g3) (.fa 0 g3) (some s22),
  .mk .none .yes (.ld false 1 g22) (.ld false 1 g22) (some s23),
  .mk .none .yes (.bin .shl g21 g23 (G2 86 3 13)) (.bin .shl g21 g23 (G2 86 3 13)) (some s24),
  .mk .none .yes (.bin .or g17 g24 (G2 86 3 14)) (.bin .or g17 g24 (G2 86 3 14)) (some s25),
  .mk .none .yes (.mv g25) (.mv g25) (some s6)])
 .ret))),
 [.tmp g6]⟩
theorem ffSub86_ok : compF SBSub 86 = ffSub86 := by kernel_rfl
noncomputable def ffSub66 : FF := .t3 ⟨67,
 (.seq (.reg [.p (.bx 3 (h0 g0) (G3 66 0 0)) (i0 s2),
  .p (.bx 11 (h0 g1) (G3 66 0 1)) (i0 s3),
  .p (.mv (kc (.tc (.sc (.int .u32 0))))) (i0 s4),
  .p (.mv (kc (.tc (.sc (.bool false))))) (i0 s5)])
 (.seq (.seq (.reg [.p (.fa 0 (h0 g2)) (i0 s8),
  .p (.ld false 1 (h0 g8)) (i0 s9)])
 (.block 0 (.seq (.reg [.p (.bin .eql (h0 g9) (kc (.tc (.sc (.int .i64 1)))) (G3 66 2 0)) (i0 s11),
  .p (.mv (h0 g11)) (i0 s10)])
 (.cond (h0 g10) (.seq (.reg [.p (.fa 1 (h0 g3)) (i0 s12),
  .p (.ld false 1 (h0 g12)) (i0 s13),
  .p (.call 87 [(h0 g13)] (G3 66 3 2)) (i0 s14),
  .p (.ex (h0 g14) 0) (i0 s15),
  .p (.ex (h0 g14) 1) (i0 s16),
  .p (.mv (h0 g15)) (i0 s4),
  .p (.mv (h0 g16)) (i0 s5)])
 .ret)
 (.seq (.reg [.p (.bin .eql (h0 g9) (kc (.tc (.sc (.int .i64 2)))) (G3 66 4 0)) (i0 s18),
  .p (.mv (h0 g18)) (i0 s17)])
 (.cond (h0 g17) (.seq (.reg [.p (.fa 2 (h0 g3)) (i0 s19),
  .p (.ld false 1 (h0 g19)) (i0 s20),
  .p (.call 87 [(h0 g20)] (G3 66 5 2)) (i0 s21),
  .p (.ex (h0 g21) 0) (i0 s22),
  .p (.ex (h0 g21) 1) (i0 s23),
  .p (.mv (h0 g22)) (i0 s4),
  .p (.mv (h0 g23)) (i0 s5)])
 .ret)
 (.seq (.reg [.p (.bin .eql (h0 g9) (kc (.tc (.sc (.int .i64 3)))) (G3 66 6 0)) (i0 s25),
  .p (.mv (h0 g25)) (i0 s24)])
 (.cond (h0 g24) (.seq (.reg [.p (.fa 3 (h0 g3)) (i0 s26),
  .p (.ld false 1 (h0 g26)) (i0 s27),
  .p (.call 87 [(h0 g27)] (G3 66 7 2)) (i0 s28),
  .p (.ex (h0 g28) 0) (i0 s29),
  .p (.ex (h0 g28) 1) (i0 s30),
  .p (.mv (h0 g29)) (i0 s4),
  .p (.mv (h0 g30)) (i0 s5)])
 .ret)
 (.seq (.reg [.p (.bin .eql (h0 g9) (kc (.tc (.sc (.int .i64 4)))) (G3 66 8 0)) (i0 s32),
  .p (.mv (h0 g32)) (i0 s31)])
 (.cond (h0 g31) (.seq (.reg [.p (.fa 1 (h0 g3)) (i0 s34),
  .p (.ld false 1 (h0 g34)) (i0 s35),
  .p (.call 87 [(h0 g35)] (G3 66 9 2)) (i0 s36),
  .p (.mv (h0 g36)) (i0 s33),
  .p (.ex (h0 g33) 0) (i0 s37),
  .p (.ex (h0 g33) 1) (i0 s38),
  .p (.mv (h0 g37)) (i0 s6),
  .p (.mv (h0 g38)) (i0 s7)])
 (.seq (.regD [0, 0, 2, 6, 14, 6, 38, 126, 254, 7, 1023] [.no, .no, .no, .no, (.rd (.ld false 1 (h0 g42)) (h0 g43)), .no, (.rd (.ld false 1 (h0 g44)) (h0 g45)), .no, .no, .no, .no] [.mk .none .yes (.mv (h0 g6)) (.mv (h0 g6)) (some (i0 s39)),
  .mk .none .yes (.mv (h0 g7)) (.mv (h0 g7)) (some (i0 s40)),
  .mk .none .yes (.mv (h0 g40)) (.mv (h0 g40)) (some (i0 s41)),
  .mk (.on (h0 g41) true) .yes (.fa 1 (h0 g3)) (.fa 1 (h0 g3)) (some (i0 s42)),
  .mk (.on (h0 g41) true) .yes (.ld false 1 (h0 g42)) (.ld false 1 (h0 g42)) (some (i0 s43)),
  .mk (.on (h0 g41) true) .yes (.fa 2 (h0 g3)) (.fa 2 (h0 g3)) (some (i0 s44)),
  .mk (.on (h0 g41) true) .yes (.ld false 1 (h0 g44)) (.ld false 1 (h0 g44)) (some (i0 s45)),
  .mk (.on (h0 g41) true) .yes (.bin .eql (h0 g43) (h0 g45) (G3 66 10 7)) (.bin .eql (h0 g43) (h0 g45) (G3 66 10 7)) (some (i0 s46)),
  .mk .none .yes (.pk (h0 g41) (h0 g46) (kc (.tc (.sc (.bool false))))) (.pk (h0 g41) (h0 g46) (kc (.tc (.sc (.bool false))))) (some (i0 s47)),
  .mk .none .yes (.mv (h0 g39)) (.mv (h0 g39)) (some (i0 s4)),
  .mk .none .yes (.mv (h0 g47)) (.mv (h0 g47)) (some (i0 s5))])
 .ret))
 (.seq (.seq (.reg [.p (.bin .eql (h0 g9) (kc (.tc (.sc (.int .i64 5)))) (G3 66 11 0)) (i0 s49),
  .p (.mv (h0 g49)) (i0 s48)])
 (.cond (h0 g48) .skip
 (.reg [.p (.bin .eql (h0 g9) (kc (.tc (.sc (.int .i64 6)))) (G3 66 12 0)) (i0 s50),
  .p (.mv (h0 g50)) (i0 s48)])))
 (.cond (h0 g48) (.seq (.regD [0, 1, 0, 4, 15, 31, 0, 64, 0, 256, 0, 1024, 0, 4096, 12288, 32704, 65535, 131071] [.no, (.rd (.ld false 1 (h0 g51)) (h0 g52)), .no, (.rd (.ld false 1 (h0 g53)) (h0 g54)), .no, (.rd (.cv .u32 (h0 g55) (G3 66 13 5)) (h0 g56)), .no, (.rd (.ld false 1 (h0 g57)) (h0 g58)), .no, (.rd (.ld false 1 (h0 g59)) (h0 g60)), .no, (.rd (.ld false 1 (h0 g61)) (h0 g62)), .no, (.rd (.ld false 1 (h0 g63)) (h1 g0)), .no, .no, .no, .no] [.mk .none .yes (.fa 10 (h0 g3)) (.fa 10 (h0 g3)) (some (i0 s51)),
  .mk .none .yes (.ld false 1 (h0 g51)) (.ld false 1 (h0 g51)) (some (i0 s52)),
  .mk .none .yes (.fa 2 (h0 g2)) (.fa 2 (h0 g2)) (some (i0 s53)),
  .mk .none .yes (.ld false 1 (h0 g53)) (.ld false 1 (h0 g53)) (some (i0 s54)),
  .mk .none .yes (.bin .shr (h0 g52) (h0 g54) (G3 66 13 4)) (.bin .shr (h0 g52) (h0 g54) (G3 66 13 4)) (some (i0 s55)),
  .mk .none .yes (.cv .u32 (h0 g55) (G3 66 13 5)) (.cv .u32 (h0 g55) (G3 66 13 5)) (some (i0 s56)),
  .mk .none .yes (.fa 10 (h0 g3)) (.fa 10 (h0 g3)) (some (i0 s57)),
  .mk .none .yes (.ld false 1 (h0 g57)) (.ld false 1 (h0 g57)) (some (i0 s58)),
  .mk .none .yes (.fa 1 (h0 g2)) (.fa 1 (h0 g2)) (some (i0 s59)),
  .mk .none .yes (.ld false 1 (h0 g59)) (.ld false 1 (h0 g59)) (some (i0 s60)),
  .mk .none .yes (.fa 2 (h0 g2)) (.fa 2 (h0 g2)) (some (i0 s61)),
  .mk .none .yes (.ld false 1 (h0 g61)) (.ld false 1 (h0 g61)) (some (i0 s62)),
  .mk .none .yes (.fa 0 (h0 g2)) (.fa 0 (h0 g2)) (some (i0 s63)),
  .mk .none .yes (.ld false 1 (h0 g63)) (.ld false 1 (h0 g63)) (some (i1 s0)),
  .mk .none .yes (.bin .eql (h1 g0) (kc (.tc (.sc (.int .i64 6)))) (G3 66 13 14)) (.bin .eql (h1 g0) (kc (.tc (.sc (.int .i64 6)))) (G3 66 13 14)) (some (i1 s1)),
  .mk .none (.dyn 69 [(h0 g58), (h0 g60), (h0 g62), (h1 g1)]) (.call 69 [(h0 g58), (h0 g60), (h0 g62), (h1 g1)] (G3 66 13 15)) (.call 69 [(h0 g58), (h0 g60), (h0 g62), (h1 g1)] (G3 66 13 15)) (some (i1 s2)),
  .mk .none .yes (.mv (h0 g56)) (.mv (h0 g56)) (some (i0 s4)),
  .mk .none .yes (.mv (h1 g2)) (.mv (h1 g2)) (some (i0 s5))])
 .ret)
 .skip))))))))))))
 (.seq (.reg [.p (.mv (kc (.tc (.sc (.int .u32 0))))) (i0 s4),
  .p (.mv (kc (.tc (.sc (.bool true))))) (i0 s5)])
 .ret))),
 [.tmp (h0 g4), .tmp (h0 g5)]⟩
theorem ffSub66_ok : compF SBSub 66 = ffSub66 := by kernel_rfl
noncomputable def ffSub87 : FF := .t2 ⟨19,
 (.seq (.reg [.p (.mv (kc (.tc (.sc (.int .u32 0))))) s2,
  .p (.mv (kc (.tc (.sc (.bool false))))) s3])
 (.seq (.block 0 (.seq (.reg [.p (.mv g0) s5,
  .p (.bin .lss g5 (kc (.tc (.sc (.int .u8 8)))) (G2 87 1 1)) s6,
  .p (.mv g6) s4])
 (.cond g4 (.seq (.reg [.p (.mv g0) s7,
  .p (.cv .u32 g7 (G2 87 2 1)) s8,
  .p (.mv g8) s2,
  .p (.mv (kc (.tc (.sc (.bool true))))) s3])
 .ret)
 (.seq (.reg [.p (.mv g0) s10,
  .p (.bin .geq g10 (kc (.tc (.sc (.int .u8 16)))) (G2 87 3 1)) s11,
  .p (.mv g11) s12,
  .gp g12 true (.mv g0) s13,
  .gp g12 true (.bin .lss g13 (kc (.tc (.sc (.int .u8 24)))) (G2 87 3 4)) s14,
  .p (.pk g12 g14 (kc (.tc (.sc (.bool false))))) s15,
  .p (.mv g15) s9])
 (.cond g9 (.seq (.reg [.p (.mv g0) s16,
  .p (.bin .sub g16 (kc (.tc (.sc (.int .u8 8)))) (G2 87 4 1)) s17,
  .p (.cv .u32 g17 (G2 87 4 2)) s18,
  .p (.mv g18) s2,
  .p (.mv (kc (.tc (.sc (.bool true))))) s3])
 .ret)
 .skip)))))
 (.seq (.reg [.p (.mv (kc (.tc (.sc (.int .u32 0))))) s2,
  .p (.mv (kc (.tc (.sc (.bool false))))) s3])
 .ret))),
 [.tmp g2, .tmp g3]⟩
theorem ffSub87_ok : compF SBSub 87 = ffSub87 := by kernel_rfl
noncomputable def ffSub22 : FF := .t2 ⟨23,
 (.seq (.reg [.p (.bx 11 g0 (G2 22 0 0)) s1,
  .p (.mv (kc (.tc (.sc (.int .i64 0))))) s2,
  .p (.mv (kc (.tc (.sc (.bool false))))) s3])
 (.seq (.seq (.reg [.p (.mv (kc (.tc (.sc (.int .i64 0))))) s4])
 (.block 0 (.loop 4294967296 (.seq (.seq (.reg [.p (.mv g4) s7,
  .p (.bin .lss g7 (kc (.tc (.sc (.int .i64 32768)))) (G2 22 2 1)) s8])
 (.cond g8 .skip
 (.exit 0)))
 (.seq (.block 1 (.seq (.reg [.p (.mv g4) s12,
  .p (.call 20 [g12] (G2 22 3 1)) s13,
  .p (.mv g13) s11,
  .p (.ex g11 0) s14,
  .p (.ex g11 1) s15,
  .p (.al 11 [(.sc (.int .u8 0)), (.sc (.int .u8 0)), (.sc (.int .u8 0)), (.sc (.int .u8 0)), (.sc (.int .u8 0)), (.sc (.int .u8 0)), (.sc (.int .u8 0)), (.sc (.bool false)), (.sc (.bool false)), (.sc (.int .u16 0)), (.sc (.int .i64 0))]) s5,
  .n (.st 11 g5 g14 (G2 22 3 6)),
  .p (.mv g15) s6])
 (.seq (.reg [.p (.mv g6) s16,
  .p (.mv g16) s17,
  .gp g17 true (.ld true 11 g5) s18,
  .gp g17 true (.ld true 11 g1) s19,
  .gp g17 true (.eqs .eql [(.mk 0 .int), (.mk 1 .int), (.mk 2 .int), (.mk 3 .int), (.mk 4 .int), (.mk 5 .int), (.mk 6 .int), (.mk 7 .bool), (.mk 8 .bool), (.mk 9 .int), (.mk 10 .int)] g18 g19 (G2 22 4 4)) s20,
  .p (.pk g17 g20 (kc (.tc (.sc (.bool false))))) s21])
 (.cond g21 (.seq (.reg [.p (.mv g4) s22,
  .p (.mv g22) s2,
  .p (.mv (kc (.tc (.sc (.bool true))))) s3])
 .ret)
 .skip))))
 (.reg [.p (.mv g4) s9,
  .p (.bin .add g9 (kc (.tc (.sc (.int .i64 1)))) (G2 22 6 1)) s10,
  .p (.mv g10) s4]))))))
 (.seq (.reg [.p (.mv (kc (.tc (.sc (.int .i64 0))))) s2,
  .p (.mv (kc (.tc (.sc (.bool false))))) s3])
 .ret))),
 [.tmp g2, .tmp g3]⟩
theorem ffSub22_ok : compF SBSub 22 = ffSub22 := by kernel_rfl
noncomputable def ffSub23 : FF := .t2 ⟨37,
 (.seq (.reg [.p (.mv (kc (.tc (.sc (.bool false))))) s0])
 (.seq (.reg [.p (.bd [(.tc (.sc (.int .u8 0))), (.tc (.sc (.int .u8 0))), (.tc (.sc (.int .u8 0))), (.tc (.sc (.int .u8 0))), (.tc (.sc (.int .u8 0))), (.tc (.sc (.int .u8 0))), (.tc (.sc (.int .u8 0))), (.tc (.sc (.bool false))), (.tc (.sc (.bool false))), (.tc (.sc (.int .u16 0))), (.tc (.sc (.int .i64 0)))] [(.mk 0 1 (kc (.tc (.sc (.int .u8 8))))), (.mk 1 1 (kc (.tc (.sc (.int .u8 16))))), (.mk 10 1 (kc (.tc (.sc (.int .i64 127)))))] (G2 23 1 0)) s8,
  .p (.call 21 [g8] (G2 23 1 1)) s9,
  .p (.mv g9) s7,
  .p (.ex g7 0) s10,
  .p (.ex g7 1) s11,
  .p (.mv g10) s1,
  .p (.mv g11) s2])
 (.seq (.reg [.p (.call 19 [(kc (.tc (.sc (.int .u16 18561))))] (G2 23 2 0)) s13,
  .p (.mv g13) s12,
  .p (.ex g12 0) s14,
  .p (.ex g12 1) s15,
  .p (.al 11 [(.sc (.int .u8 0)), (.sc (.int .u8 0)), (.sc (.int .u8 0)), (.sc (.int .u8 0)), (.sc (.int .u8 0)), (.sc (.int .u8 0)), (.sc (.int .u8 0)), (.sc (.bool false)), (.sc (.bool false)), (.sc (.int .u16 0)), (.sc (.int .i64 0))]) s3,
  .n (.st 11 g3 g14 (G2 23 2 5)),
  .p (.mv g15) s4])
 (.seq (.reg [.p (.call 19 [(kc (.tc (.sc (.int .u16 0))))] (G2 23 3 0)) s17,
  .p (.mv g17) s16,
  .p (.ex g16 0) s18,
  .p (.ex g16 1) s19,
  .p (.al 11 [(.sc (.int .u8 0)), (.sc (.int .u8 0)), (.sc (.int .u8 0)), (.sc (.int .u8 0)), (.sc (.int .u8 0)), (.sc (.int .u8 0)), (.sc (.int .u8 0)), (.sc (.bool false)), (.sc (.bool false)), (.sc (.int .u16 0)), (.sc (.int .i64 0))]) s5,
  .n (.st 11 g5 g18 (G2 23 3 5)),
  .p (.mv g19) s6])
 (.seq (.reg [.p (.mv g1) s20,
  .p (.bin .eql g20 (kc (.tc (.sc (.int .u16 3199)))) (G2 23 4 1)) s21,
  .p (.mv g21) s22,
  .gp g22 true (.mv g2) s23,
  .p (.pk g22 g23 (kc (.tc (.sc (.bool false))))) s24,
  .p (.mv g24) s25,
  .gp g25 true (.ld true 11 g3) s26,
  .gp g25 true (.bd [(.tc (.sc (.int .u8 0))), (.tc (.sc (.int .u8 0))), (.tc (.sc (.int .u8 0))), (.tc (.sc (.int .u8 0))), (.tc (.sc (.int .u8 0))), (.tc (.sc (.int .u8 0))), (.tc (.sc (.int .u8 0))), (.tc (.sc (.bool false))), (.tc (.sc (.bool false))), (.tc (.sc (.int .u16 0))), (.tc (.sc (.int .i64 0)))] [(.mk 0 1 (kc (.tc (.sc (.int .u8 13))))), (.mk 2 1 (kc (.tc (.sc (.int .u8 1))))), (.mk 10 1 (kc (.tc (.sc (.int .i64 1)))))] (G2 23 4 7)) s27,
  .gp g25 true (.eqs .eql [(.mk 0 .int), (.mk 1 .int), (.mk 2 .int), (.mk 3 .int), (.mk 4 .int), (.mk 5 .int), (.mk 6 .int), (.mk 7 .bool), (.mk 8 .bool), (.mk 9 .int), (.mk 10 .int)] g26 g27 (G2 23 4 8)) s28,
  .p (.pk g25 g28 (kc (.tc (.sc (.bool false))))) s29,
  .p (.mv g29) s30,
  .gp g30 true (.mv g4) s31,
  .p (.pk g30 g31 (kc (.tc (.sc (.bool false))))) s32,
  .p (.mv g32) s33,
  .gp g33 true (.mv g6) s34,
  .gp g33 true (.nt g34 (G2 23 4 15)) s35,
  .p (.pk g33 g35 (kc (.tc (.sc (.bool false))))) s36,
  .p (.mv g36) s0])
 .ret))))),
 [.tmp g0]⟩
theorem ffSub23_ok : compF SBSub 23 = ffSub23 := by kernel_rfl
noncomputable def ffSub5 : FF := .t3 ⟨83,
 (.seq (.reg [.p (.bx 11 (h0 g1) (G3 5 0 0)) (i0 s3),
  .p (.mv (kc (.tc (.sc (.bool false))))) (i0 s4)])
 (.seq (.reg [.p (.mv (h0 g0)) (i0 s14),
  .p (.call 19 [(h0 g14)] (G3 5 1 1)) (i0 s15),
  .p (.mv (h0 g15)) (i0 s13),
  .p (.ex (h0 g13) 0) (i0 s16),
  .p (.ex (h0 g13) 1) (i0 s17),
  .p (.al 11 [(.sc (.int .u8 0)), (.sc (.int .u8 0)), (.sc (.int .u8 0)), (.sc (.int .u8 0)), (.sc (.int .u8 0)), (.sc (.int .u8 0)), (.sc (.int .u8 0)), (.sc (.bool false)), (.sc (.bool false)), (.sc (.int .u16 0)), (.sc (.int .i64 0))]) (i0 s5),
  .n (.st 11 (h0 g5) (h0 g16) (G3 5 1 6)),
  .p (.mv (h0 g17)) (i0 s6)])
 (.seq (.seq (.reg [.p (.mv (h0 g6)) (i0 s18)])
 (.cond (h0 g18) (.seq (.reg [.p (.ld true 11 (h0 g5)) (i0 s20),
  .p (.call 21 [(h0 g20)] (G3 5 3 1)) (i0 s21),
  .p (.mv (h0 g21)) (i0 s19),
  .p (.ex (h0 g19) 0) (i0 s22),
  .p (.ex (h0 g19) 1) (i0 s23),
  .p (.mv (h0 g22)) (i0 s7),
  .p (.mv (h0 g23)) (i0 s8)])
 (.seq (.reg [.p (.mv (h0 g8)) (i0 s24),
  .p (.nt (h0 g24) (G3 5 4 1)) (i0 s25),
  .p (.mv (h0 g25)) (i0 s26),
  .gp (h0 g26) false (.mv (h0 g7)) (i0 s27),
  .gp (h0 g26) false (.mv (h0 g0)) (i0 s28),
  .gp (h0 g26) false (.bin .neq (h0 g27) (h0 g28) (G3 5 4 5)) (i0 s29),
  .p (.pk (h0 g26) (kc (.tc (.sc (.bool true)))) (h0 g29)) (i0 s30),
  .p (.mv (h0 g30)) (i0 s31),
  .gp (h0 g31) false (.ld true 11 (h0 g5)) (i0 s32),
  .gp (h0 g31) false (.call 24 [(h0 g32)] (G3 5 4 9)) (i0 s33),
  .gp (h0 g31) false (.nt (h0 g33) (G3 5 4 10)) (i0 s34),
  .p (.pk (h0 g31) (kc (.tc (.sc (.bool true)))) (h0 g34)) (i0 s35),
  .p (.mv (h0 g35)) (i0 s36),
  .gp (h0 g36) false (.mv (h0 g0)) (i0 s37),
  .gp (h0 g36) false (.bin .shr (h0 g37) (kc (.tc (.sc (.int .u64 15)))) (G3 5 4 14)) (i0 s38),
  .gp (h0 g36) false (.bin .neq (h0 g38) (kc (.tc (.sc (.int .u16 0)))) (G3 5 4 15)) (i0 s39),
  .p (.pk (h0 g36) (kc (.tc (.sc (.bool true)))) (h0 g39)) (i0 s40),
  .p (.mv (h0 g40)) (i0 s41),
  .gp (h0 g41) false (.fa 6 (h0 g5)) (i0 s42),
  .gp (h0 g41) false (.ld false 1 (h0 g42)) (i0 s43),
  .gp (h0 g41) false (.bin .neq (h0 g43) (kc (.tc (.sc (.int .u8 0)))) (G3 5 4 20)) (i0 s44),
  .p (.pk (h0 g41) (kc (.tc (.sc (.bool true)))) (h0 g44)) (i0 s45),
  .p (.mv (h0 g45)) (i0 s46),
  .gp (h0 g46) false (.fa 7 (h0 g5)) (i0 s47),
  .gp (h0 g46) false (.ld false 1 (h0 g47)) (i0 s48),
  .p (.pk (h0 g46) (kc (.tc (.sc (.bool true)))) (h0 g48)) (i0 s49),
  .p (.mv (h0 g49)) (i0 s50),
  .gp (h0 g50) false (.fa 8 (h0 g5)) (i0 s51),
  .gp (h0 g50) false (.ld false 1 (h0 g51)) (i0 s52),
  .p (.pk (h0 g50) (kc (.tc (.sc (.bool true)))) (h0 g52)) (i0 s53)])
 (.cond (h0 g53) (.seq (.reg [.p (.mv (kc (.tc (.sc (.bool false))))) (i0 s4)])
 .ret)
 .skip)))
 (.seq (.reg [.p (.ld true 11 (h0 g5)) (i0 s54),
  .p (.bd [(.tc (.sc (.int .u8 0))), (.tc (.sc (.int .u8 0))), (.tc (.sc (.int .u8 0))), (.tc (.sc (.int .u8 0))), (.tc (.sc (.int .u8 0))), (.tc (.sc (.int .u8 0))), (.tc (.sc (.int .u8 0))), (.tc (.sc (.bool false))), (.tc (.sc (.bool false))), (.tc (.sc (.int .u16 0))), (.tc (.sc (.int .i64 0)))] [] (G3 5 6 1)) (i0 s55),
  .p (.eqs .neq [(.mk 0 .int), (.mk 1 .int), (.mk 2 .int), (.mk 3 .int), (.mk 4 .int), (.mk 5 .int), (.mk 6 .int), (.mk 7 .bool), (.mk 8 .bool), (.mk 9 .int), (.mk 10 .int)] (h0 g54) (h0 g55) (G3 5 6 2)) (i0 s56)])
 (.cond (h0 g56) (.seq (.reg [.p (.mv (kc (.tc (.sc (.bool false))))) (i0 s4)])
 .ret)
 .skip))))
 (.seq (.reg [.p (.ld true 11 (h0 g3)) (i0 s58),
  .p (.call 21 [(h0 g58)] (G3 5 8 1)) (i0 s59),
  .p (.mv (h0 g59)) (i0 s57),
  .p (.ex (h0 g57) 0) (i0 s60),
  .p (.ex (h0 g57) 1) (i0 s61),
  .p (.mv (h0 g60)) (i0 s9),
  .p (.mv (h0 g61)) (i0 s10)])
 (.seq (.seq (.reg [.p (.mv (h0 g10)) (i0 s62),
  .p (.nt (h0 g62) (G3 5 9 1)) (i0 s63)])
 (.cond (h0 g63) (.seq (.reg [.p (.mv (h0 g9)) (i1 s0),
  .p (.bin .eql (h1 g0) (kc (.tc (.sc (.int .u16 0)))) (G3 5 10 1)) (i1 s1),
  .p (.mv (h1 g1)) (i1 s2),
  .gp (h1 g2) true (.call 23 [] (G3 5 10 3)) (i1 s3),
  .p (.pk (h1 g2) (h1 g3) (kc (.tc (.sc (.bool false))))) (i1 s4),
  .p (.mv (h1 g4)) (i0 s4)])
 .ret)
 .skip))
 (.seq (.reg [.p (.mv (h0 g9)) (i1 s6),
  .p (.call 19 [(h1 g6)] (G3 5 11 1)) (i1 s7),
  .p (.mv (h1 g7)) (i1 s5),
  .p (.ex (h1 g5) 0) (i1 s8),
  .p (.ex (h1 g5) 1) (i1 s9),
  .p (.al 11 [(.sc (.int .u8 0)), (.sc (.int .u8 0)), (.sc (.int .u8 0)), (.sc (.int .u8 0)), (.sc (.int .u8 0)), (.sc (.int .u8 0)), (.sc (.int .u8 0)), (.sc (.bool false)), (.sc (.bool false)), (.sc (.int .u16 0)), (.sc (.int .i64 0))]) (i0 s11),
  .n (.st 11 (h0 g11) (h1 g8) (G3 5 11 6)),
  .p (.mv (h1 g9)) (i0 s12)])
 (.seq (.reg [.p (.mv (h0 g12)) (i1 s10),
  .p (.mv (h1 g10)) (i1 s11),
  .gp (h1 g11) true (.ld true 11 (h0 g11)) (i1 s12),
  .gp (h1 g11) true (.ld true 11 (h0 g3)) (i1 s13),
  .gp (h1 g11) true (.eqs .eql [(.mk 0 .int), (.mk 1 .int), (.mk 2 .int), (.mk 3 .int), (.mk 4 .int), (.mk 5 .int), (.mk 6 .int), (.mk 7 .bool), (.mk 8 .bool), (.mk 9 .int), (.mk 10 .int)] (h1 g12) (h1 g13) (G3 5 12 4)) (i1 s14),
  .p (.pk (h1 g11) (h1 g14) (kc (.tc (.sc (.bool false))))) (i1 s15),
  .p (.mv (h1 g15)) (i1 s16),
  .gp (h1 g16) true (.call 23 [] (G3 5 12 7)) (i1 s17),
  .p (.pk (h1 g16) (h1 g17) (kc (.tc (.sc (.bool false))))) (i1 s18),
  .p (.mv (h1 g18)) (i0 s4)])
 .ret))))))),
 [.tmp (h0 g4)]⟩
theorem ffSub5_ok : compF SBSub 5 = ffSub5 := by kernel_rfl

noncomputable def codeSub (f : FuncId) : FF := match f with
  | 4 => ffSub4
  | 19 => ffSub19
  | 39 => ffSub39
  | 64 => ffSub64
  | 53 => ffSub53
  | 73 => ffSub73
  | 38 => ffSub38
  | 62 => ffSub62
  | 63 => ffSub63
  | 24 => ffSub24
  | 42 => ffSub42
  | 67 => ffSub67
  | 88 => ffSub88
  | 93 => ffSub93
  | 85 => ffSub85
  | 102 => ffSub102
  | 103 => ffSub103
  | 94 => ffSub94
  | 100 => ffSub100
  | 95 => ffSub95
  | 96 => ffSub96
  | 97 => ffSub97
  | 98 => ffSub98
  | 99 => ffSub99
  | 101 => ffSub101
  | 68 => ffSub68
  | 43 => ffSub43
  | 44 => ffSub44
  | 69 => ffSub69
  | 45 => ffSub45
  | 70 => ffSub70
  | 89 => ffSub89
  | 20 => ffSub20
  | 40 => ffSub40
  | 21 => ffSub21
  | 41 => ffSub41
  | 65 => ffSub65
  | 86 => ffSub86
  | 66 => ffSub66
  | 87 => ffSub87
  | 22 => ffSub22
  | 23 => ffSub23
  | 5 => ffSub5
  | _ => .bad
theorem codeSub_ok : ∀ f, codeSub f = .bad ∨ codeSub f = compF SBSub f := by
  intro f
  unfold codeSub
  split
  · exact .inr ffSub4_ok.symm
  · exact .inr ffSub19_ok.symm
  · exact .inr ffSub39_ok.symm
  · exact .inr ffSub64_ok.symm
  · exact .inr ffSub53_ok.symm
  · exact .inr ffSub73_ok.symm
  · exact .inr ffSub38_ok.symm
  · exact .inr ffSub62_ok.symm
  · exact .inr ffSub63_ok.symm
  · exact .inr ffSub24_ok.symm
  · exact .inr ffSub42_ok.symm
  · exact .inr ffSub67_ok.symm
  · exact .inr ffSub88_ok.symm
  · exact .inr ffSub93_ok.symm
  · exact .inr ffSub85_ok.symm
  · exact .inr ffSub102_ok.symm
  · exact .inr ffSub103_ok.symm
  · exact .inr ffSub94_ok.symm
  · exact .inr ffSub100_ok.symm
  · exact .inr ffSub95_ok.symm
  · exact .inr ffSub96_ok.symm
  · exact .inr ffSub97_ok.symm
  · exact .inr ffSub98_ok.symm
  · exact .inr ffSub99_ok.symm
  · exact .inr ffSub101_ok.symm
  · exact .inr ffSub68_ok.symm
  · exact .inr ffSub43_ok.symm
  · exact .inr ffSub44_ok.symm
  · exact .inr ffSub69_ok.symm
  · exact .inr ffSub45_ok.symm
  · exact .inr ffSub70_ok.symm
  · exact .inr ffSub89_ok.symm
  · exact .inr ffSub20_ok.symm
  · exact .inr ffSub40_ok.symm
  · exact .inr ffSub21_ok.symm
  · exact .inr ffSub41_ok.symm
  · exact .inr ffSub65_ok.symm
  · exact .inr ffSub86_ok.symm
  · exact .inr ffSub66_ok.symm
  · exact .inr ffSub87_ok.symm
  · exact .inr ffSub22_ok.symm
  · exact .inr ffSub23_ok.symm
  · exact .inr ffSub5_ok.symm
  · exact .inl rfl
end Go.Proofs.YthabafmieebmmaaDoor
