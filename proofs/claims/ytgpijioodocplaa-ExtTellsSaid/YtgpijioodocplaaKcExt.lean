/- Code made ready ahead, Ext: each is what the program says. -/
import Derived.Test.YtgpijioodocplaaKcBase
set_option linter.unusedVariables false
set_option maxRecDepth 100000
namespace Go.Proofs.Ytgpijioodocplaa
open Go

noncomputable def ff6 : FF := .t3 ⟨66,
 (.seq (.reg [.p (.bx 11 (h0 g0) (G3 6 0 0)) (i0 s2),
  .p (.mv (kc (.tc (.sc (.bool false))))) (i0 s4)])
 (.seq (.reg [.p (.ld true 11 (h0 g2)) (i0 s12),
  .p (.mv (h0 g1)) (i0 s13),
  .p (.call 19 [(h0 g12), (h0 g13)] (G3 6 1 2)) (i0 s14),
  .p (.mv (h0 g14)) (i0 s11),
  .p (.ex (h0 g11) 0) (i0 s15),
  .p (.ex (h0 g11) 1) (i0 s16),
  .p (.mv (h0 g15)) (i0 s5),
  .p (.mv (h0 g16)) (i0 s6)])
 (.seq (.reg [.p (.ld true 11 (h0 g2)) (i0 s18),
  .p (.mv (h0 g1)) (i0 s19),
  .p (.call 20 [(h0 g18), (h0 g19)] (G3 6 2 2)) (i0 s20),
  .p (.mv (h0 g20)) (i0 s17),
  .p (.ex (h0 g17) 0) (i0 s21),
  .p (.ex (h0 g17) 1) (i0 s22),
  .p (.mv (h0 g21)) (i0 s7),
  .p (.mv (h0 g22)) (i0 s8)])
 (.seq (.reg [.p (.ld true 11 (h0 g2)) (i0 s23),
  .p (.mv (h0 g1)) (i0 s24),
  .p (.call 21 [(h0 g23), (h0 g24)] (G3 6 3 2)) (i0 s25),
  .p (.mv (h0 g25)) (i0 s9)])
 (.seq (.reg [.p (.fa 0 (h0 g2)) (i0 s26),
  .p (.ld false 1 (h0 g26)) (i0 s27),
  .p (.call 22 [(h0 g27)] (G3 6 4 2)) (i0 s28),
  .p (.fd false 1 3 (h0 g28)) (i0 s29),
  .p (.mv (h0 g29)) (i0 s10)])
 (.seq (.reg [.p (.mv (h0 g5)) (i0 s30),
  .p (.mv (h0 g7)) (i0 s31),
  .p (.bin .eql (h0 g30) (h0 g31) (G3 6 5 2)) (i0 s32),
  .p (.mv (h0 g32)) (i0 s33),
  .gp (h0 g33) true (.mv (h0 g6)) (i0 s34),
  .gp (h0 g33) true (.mv (h0 g8)) (i0 s35),
  .gp (h0 g33) true (.bin .eql (h0 g34) (h0 g35) (G3 6 5 6)) (i0 s36),
  .p (.pk (h0 g33) (h0 g36) (kc (.tc (.sc (.bool false))))) (i0 s37),
  .p (.mv (h0 g37)) (i0 s38),
  .gp (h0 g38) true (.ld true 11 (h0 g2)) (i0 s39),
  .gp (h0 g38) true (.mv (h0 g1)) (i0 s40),
  .gp (h0 g38) true (.call 23 [(h0 g39), (h0 g40)] (G3 6 5 11)) (i0 s41),
  .gp (h0 g38) true (.mv (h0 g9)) (i0 s42),
  .gp (h0 g38) true (.bin .eql (h0 g41) (h0 g42) (G3 6 5 13)) (i0 s43),
  .p (.pk (h0 g38) (h0 g43) (kc (.tc (.sc (.bool false))))) (i0 s44),
  .p (.mv (h0 g44)) (i0 s45),
  .gp (h0 g45) true (.fa 0 (h0 g2)) (i0 s46),
  .gp (h0 g45) true (.ld false 1 (h0 g46)) (i0 s47),
  .gp (h0 g45) true (.call 24 [(h0 g47)] (G3 6 5 18)) (i0 s48),
  .gp (h0 g45) true (.mv (h0 g10)) (i0 s49),
  .gp (h0 g45) true (.bin .eql (h0 g48) (h0 g49) (G3 6 5 20)) (i0 s50),
  .p (.pk (h0 g45) (h0 g50) (kc (.tc (.sc (.bool false))))) (i0 s51),
  .p (.mv (h0 g51)) (i0 s52),
  .gp (h0 g52) true (.ld true 11 (h0 g2)) (i0 s53),
  .gp (h0 g52) true (.mv (h0 g1)) (i0 s54),
  .gp (h0 g52) true (.call 25 [(h0 g53), (h0 g54)] (G3 6 5 25)) (i0 s55),
  .gp (h0 g52) true (.mv (h0 g10)) (i0 s56),
  .gp (h0 g52) true (.mv (h0 g56)) (i0 s57),
  .gp (h0 g57) true (.mv (h0 g9)) (i0 s58),
  .gp (h0 g57) true (.nt (h0 g58) (G3 6 5 29)) (i0 s59),
  .gp (h0 g52) true (.pk (h0 g57) (h0 g59) (kc (.tc (.sc (.bool false))))) (i0 s60),
  .gp (h0 g52) true (.bin .eql (h0 g55) (h0 g60) (G3 6 5 31)) (i0 s61),
  .p (.pk (h0 g52) (h0 g61) (kc (.tc (.sc (.bool false))))) (i0 s62),
  .p (.mv (h0 g62)) (i0 s63),
  .gp (h0 g63) true (.call 26 [] (G3 6 5 34)) (i1 s0),
  .p (.pk (h0 g63) (h1 g0) (kc (.tc (.sc (.bool false))))) (i1 s1),
  .p (.mv (h1 g1)) (i0 s4)])
 .ret)))))),
 [.tmp (h0 g4)]⟩
theorem ff6_ok : compF SBase 6 = ff6 := by kernel_rfl
noncomputable def ff19 : FF := .t2 ⟨29,
 (.seq (.reg [.p (.bx 11 g0 (G2 19 0 0)) s2,
  .p (.mv (kc (.tc (.sc (.int .i64 0))))) s4,
  .p (.mv (kc (.tc (.sc (.bool false))))) s5])
 (.seq (.reg [.p (.fa 0 g2) s9,
  .p (.ld false 1 g9) s10,
  .p (.call 38 [g10] (G2 19 1 2)) s11,
  .p (.mv g11) s8,
  .p (.ex g8 0) s12,
  .p (.ex g8 1) s13,
  .p (.al 5 [(.sc (.int .u8 0)), (.sc (.int .i64 0)), (.sc (.int .i64 0)), (.sc (.bool false)), (.sc (.bool false))]) s6,
  .n (.st 5 g6 g12 (G2 19 1 7)),
  .p (.mv g13) s7])
 (.seq (.block 0 (.seq (.reg [.p (.mv g7) s15,
  .p (.nt g15 (G2 19 2 1)) s16,
  .p (.mv g16) s14])
 (.cond g14 (.seq (.reg [.p (.mv (kc (.tc (.sc (.int .i64 0))))) s4,
  .p (.mv (kc (.tc (.sc (.bool false))))) s5])
 .ret)
 (.seq (.reg [.p (.fa 0 g6) s18,
  .p (.ld false 1 g18) s19,
  .p (.bin .eql g19 (kc (.tc (.sc (.int .u8 10)))) (G2 19 4 2)) s20,
  .p (.mv g20) s17])
 (.cond g17 (.seq (.reg [.p (.fa 10 g2) s21,
  .p (.ld false 1 g21) s22,
  .p (.cv .u32 g22 (G2 19 5 2)) s23,
  .p (.mv g1) s24,
  .p (.bin .sub g23 g24 (G2 19 5 4)) s25,
  .p (.call 39 [g25, (kc (.tc (.sc (.int .i64 32))))] (G2 19 5 5)) s26,
  .p (.mv g26) s4,
  .p (.mv (kc (.tc (.sc (.bool true))))) s5])
 .ret)
 .skip)))))
 (.seq (.reg [.p (.fa 10 g2) s27,
  .p (.ld false 1 g27) s28,
  .p (.mv g28) s4,
  .p (.mv (kc (.tc (.sc (.bool true))))) s5])
 .ret)))),
 [.tmp g4, .tmp g5]⟩
theorem ff19_ok : compF SBase 19 = ff19 := by kernel_rfl
noncomputable def ff38 : FF := .t2 ⟨26,
 (.seq (.reg [.p (.al 5 [(.sc (.int .u8 0)), (.sc (.int .i64 0)), (.sc (.int .i64 0)), (.sc (.bool false)), (.sc (.bool false))]) s2,
  .p (.mv (kc (.tc (.sc (.bool false))))) s3])
 (.seq (.seq (.reg [.p (.bs 1 2 [[(.tc (.sc (.int .u8 0)))], [(.tc (.sc (.int .u8 0)))]] [(.mk 0 1 (kc (.tc (.sc (.int .u8 9))))), (.mk 1 1 (kc (.tc (.sc (.int .u8 10)))))] (G2 38 1 0)) s9,
  .p (.len g9 (G2 38 1 1)) s10,
  .p (.mv (kc (.tc (.sc (.int .i64 0))))) s11])
 (.block 0 (.loop 4294967296 (.seq (.reg [.p (.bin .lss g11 g10 (G2 38 2 0)) s12])
 (.seq (.cond g12 .skip
 (.exit 0))
 (.seq (.block 1 (.seq (.reg [.p (.ia 1 g9 g11 (G2 38 3 0)) s13,
  .p (.ld false 1 g13) s14,
  .p (.mv g14) s5])
 (.seq (.reg [.p (.mv g0) s16,
  .p (.mv g5) s17,
  .p (.call 13 [g16, g17] (G2 38 4 2)) s18,
  .p (.mv g18) s15,
  .p (.ex g15 0) s19,
  .p (.ex g15 1) s20,
  .p (.ex g15 2) s21,
  .p (.al 5 [(.sc (.int .u8 0)), (.sc (.int .i64 0)), (.sc (.int .i64 0)), (.sc (.bool false)), (.sc (.bool false))]) s6,
  .n (.st 5 g6 g19 (G2 38 4 8)),
  .p (.mv g20) s7,
  .p (.mv g21) s8])
 (.seq (.reg [.p (.mv g8) s22])
 (.cond g22 (.seq (.reg [.p (.ld true 5 g6) s23,
  .n (.st 5 g2 g23 (G2 38 6 1)),
  .p (.mv (kc (.tc (.sc (.bool true))))) s3])
 .ret)
 .skip)))))
 (.reg [.p (.bin .add g11 (kc (.tc (.sc (.int .i64 1)))) (G2 38 7 0)) s24,
  .p (.mv g24) s11])))))))
 (.seq (.reg [.p (.bd [(.tc (.sc (.int .u8 0))), (.tc (.sc (.int .i64 0))), (.tc (.sc (.int .i64 0))), (.tc (.sc (.bool false))), (.tc (.sc (.bool false)))] [] (G2 38 8 0)) s25,
  .n (.st 5 g2 g25 (G2 38 8 1)),
  .p (.mv (kc (.tc (.sc (.bool false))))) s3])
 .ret))),
 [.cell g2 true 5, .tmp g3]⟩
theorem ff38_ok : compF SBase 38 = ff38 := by kernel_rfl
noncomputable def ff13 : FF := .t2 ⟨35,
 (.seq (.reg [.p (.al 5 [(.sc (.int .u8 0)), (.sc (.int .i64 0)), (.sc (.int .i64 0)), (.sc (.bool false)), (.sc (.bool false))]) s4,
  .p (.mv (kc (.tc (.sc (.int .i64 0))))) s5,
  .p (.mv (kc (.tc (.sc (.bool false))))) s6])
 (.seq (.reg [.p (.mv g0) s12,
  .p (.call 32 [g12] (G2 13 1 1)) s13,
  .p (.mv g13) s11,
  .p (.ex g11 0) s14,
  .p (.ex g11 1) s15,
  .p (.al 5 [(.sc (.int .u8 0)), (.sc (.string ⟨#[]⟩)), (.sc (.int .u8 0)), (.sc (.int .u8 0)), (.sc (.slice none 0 0))]) s7,
  .n (.st 5 g7 g14 (G2 13 1 6)),
  .p (.mv g15) s8])
 (.seq (.reg [.p (.mv (kc (.tc (.sc (.int .i64 24))))) s5])
 (.seq (.seq (.reg [.p (.fa 4 g7) s16,
  .p (.ld false 1 g16) s17,
  .p (.len g17 (G2 13 3 2)) s18,
  .p (.mv (kc (.tc (.sc (.int .i64 0))))) s19])
 (.block 0 (.loop 4294967296 (.seq (.reg [.p (.bin .lss g19 g18 (G2 13 4 0)) s20])
 (.seq (.cond g20 .skip
 (.exit 0))
 (.seq (.block 1 (.seq (.reg [.p (.ia 5 g17 g19 (G2 13 5 0)) s21,
  .p (.ld true 5 g21) s22,
  .p (.al 5 [(.sc (.int .u8 0)), (.sc (.int .i64 0)), (.sc (.int .i64 0)), (.sc (.bool false)), (.sc (.bool false))]) s10,
  .n (.st 5 g10 g22 (G2 13 5 3))])
 (.seq (.reg [.p (.mv g5) s23,
  .p (.fa 1 g10) s24,
  .p (.ld false 1 g24) s25,
  .p (.bin .sub g23 g25 (G2 13 6 3)) s26,
  .p (.mv g26) s5])
 (.seq (.reg [.p (.fa 0 g10) s27,
  .p (.ld false 1 g27) s28,
  .p (.mv g1) s29,
  .p (.bin .eql g28 g29 (G2 13 7 3)) s30])
 (.cond g30 (.seq (.reg [.p (.ld true 5 g10) s31,
  .p (.mv g5) s32,
  .n (.st 5 g4 g31 (G2 13 8 2)),
  .p (.mv g32) s5,
  .p (.mv (kc (.tc (.sc (.bool true))))) s6])
 .ret)
 .skip)))))
 (.reg [.p (.bin .add g19 (kc (.tc (.sc (.int .i64 1)))) (G2 13 9 0)) s33,
  .p (.mv g33) s19])))))))
 (.seq (.reg [.p (.bd [(.tc (.sc (.int .u8 0))), (.tc (.sc (.int .i64 0))), (.tc (.sc (.int .i64 0))), (.tc (.sc (.bool false))), (.tc (.sc (.bool false)))] [] (G2 13 10 0)) s34,
  .n (.st 5 g4 g34 (G2 13 10 1)),
  .p (.mv (kc (.tc (.sc (.int .i64 0))))) s5,
  .p (.mv (kc (.tc (.sc (.bool false))))) s6])
 .ret))))),
 [.cell g4 true 5, .tmp g5, .tmp g6]⟩
theorem ff13_ok : compF SBase 13 = ff13 := by kernel_rfl
noncomputable def ff32 : FF := .t2 ⟨21,
 (.seq (.reg [.p (.al 5 [(.sc (.int .u8 0)), (.sc (.string ⟨#[]⟩)), (.sc (.int .u8 0)), (.sc (.int .u8 0)), (.sc (.slice none 0 0))]) s2,
  .p (.mv (kc (.tc (.sc (.bool false))))) s3])
 (.seq (.reg [.p (.call 37 [] (G2 32 1 0)) s5,
  .p (.mv g5) s4])
 (.seq (.seq (.reg [.p (.mv g0) s6,
  .p (.bin .lss g6 (kc (.tc (.sc (.int .u8 1)))) (G2 32 2 1)) s7,
  .p (.mv g7) s8,
  .gp g8 false (.mv g0) s9,
  .gp g8 false (.cv .i64 g9 (G2 32 2 4)) s10,
  .gp g8 false (.mv g4) s11,
  .gp g8 false (.len g11 (G2 32 2 6)) s12,
  .gp g8 false (.bin .gtr g10 g12 (G2 32 2 7)) s13,
  .p (.pk g8 (kc (.tc (.sc (.bool true)))) g13) s14])
 (.cond g14 (.seq (.reg [.p (.bd [(.tc (.sc (.int .u8 0))), (.tc (.sc (.string ⟨#[]⟩))), (.tc (.sc (.int .u8 0))), (.tc (.sc (.int .u8 0))), (.tc (.sc (.slice none 0 0)))] [] (G2 32 3 0)) s15,
  .n (.st 5 g2 g15 (G2 32 3 1)),
  .p (.mv (kc (.tc (.sc (.bool false))))) s3])
 .ret)
 .skip))
 (.seq (.reg [.p (.mv g4) s16,
  .p (.mv g0) s17,
  .p (.bin .sub g17 (kc (.tc (.sc (.int .u8 1)))) (G2 32 4 2)) s18,
  .p (.ia 5 g16 g18 (G2 32 4 3)) s19,
  .p (.ld true 5 g19) s20,
  .n (.st 5 g2 g20 (G2 32 4 5)),
  .p (.mv (kc (.tc (.sc (.bool true))))) s3])
 .ret)))),
 [.cell g2 true 5, .tmp g3]⟩
theorem ff32_ok : compF SBase 32 = ff32 := by kernel_rfl
noncomputable def ff37 : FF := .t3 ⟨158,
 (.seq (.reg [.p (.mv (kc (.tc (.sc (.slice none 0 0))))) (i0 s0)])
 (.seq (.reg [.p (.call 44 [(kc (.tc (.sc (.int .u8 1)))), (kc (.tc (.sc (.string ⟨#[110, 111, 112]⟩)))), (kc (.tc (.sc (.int .u8 1)))), (kc (.tc (.sc (.slice none 0 0))))] (G3 37 1 0)) (i0 s1),
  .p (.call 45 [] (G3 37 1 1)) (i0 s2),
  .p (.call 46 [] (G3 37 1 2)) (i0 s3),
  .p (.call 47 [] (G3 37 1 3)) (i0 s4),
  .p (.call 48 [] (G3 37 1 4)) (i0 s5),
  .p (.bs 1 4 [[(.tc (.sc (.slice none 0 0)))], [(.tc (.sc (.slice none 0 0)))], [(.tc (.sc (.slice none 0 0)))], [(.tc (.sc (.slice none 0 0)))]] [(.mk 0 1 (h0 g2)), (.mk 1 1 (h0 g3)), (.mk 2 1 (h0 g4)), (.mk 3 1 (h0 g5))] (G3 37 1 5)) (i0 s6),
  .p (.call 44 [(kc (.tc (.sc (.int .u8 2)))), (kc (.tc (.sc (.string ⟨#[97, 100, 100]⟩)))), (kc (.tc (.sc (.int .u8 1)))), (h0 g6)] (G3 37 1 6)) (i0 s7),
  .p (.call 45 [] (G3 37 1 7)) (i0 s8),
  .p (.call 46 [] (G3 37 1 8)) (i0 s9),
  .p (.call 47 [] (G3 37 1 9)) (i0 s10),
  .p (.call 48 [] (G3 37 1 10)) (i0 s11),
  .p (.bs 1 4 [[(.tc (.sc (.slice none 0 0)))], [(.tc (.sc (.slice none 0 0)))], [(.tc (.sc (.slice none 0 0)))], [(.tc (.sc (.slice none 0 0)))]] [(.mk 0 1 (h0 g8)), (.mk 1 1 (h0 g9)), (.mk 2 1 (h0 g10)), (.mk 3 1 (h0 g11))] (G3 37 1 11)) (i0 s12),
  .p (.call 44 [(kc (.tc (.sc (.int .u8 3)))), (kc (.tc (.sc (.string ⟨#[115, 117, 98]⟩)))), (kc (.tc (.sc (.int .u8 1)))), (h0 g12)] (G3 37 1 12)) (i0 s13),
  .p (.call 45 [] (G3 37 1 13)) (i0 s14),
  .p (.call 46 [] (G3 37 1 14)) (i0 s15),
  .p (.call 47 [] (G3 37 1 15)) (i0 s16),
  .p (.call 48 [] (G3 37 1 16)) (i0 s17),
  .p (.bs 1 4 [[(.tc (.sc (.slice none 0 0)))], [(.tc (.sc (.slice none 0 0)))], [(.tc (.sc (.slice none 0 0)))], [(.tc (.sc (.slice none 0 0)))]] [(.mk 0 1 (h0 g14)), (.mk 1 1 (h0 g15)), (.mk 2 1 (h0 g16)), (.mk 3 1 (h0 g17))] (G3 37 1 17)) (i0 s18),
  .p (.call 44 [(kc (.tc (.sc (.int .u8 4)))), (kc (.tc (.sc (.string ⟨#[97, 110, 100]⟩)))), (kc (.tc (.sc (.int .u8 1)))), (h0 g18)] (G3 37 1 18)) (i0 s19),
  .p (.call 45 [] (G3 37 1 19)) (i0 s20),
  .p (.call 46 [] (G3 37 1 20)) (i0 s21),
  .p (.call 47 [] (G3 37 1 21)) (i0 s22),
  .p (.call 48 [] (G3 37 1 22)) (i0 s23),
  .p (.bs 1 4 [[(.tc (.sc (.slice none 0 0)))], [(.tc (.sc (.slice none 0 0)))], [(.tc (.sc (.slice none 0 0)))], [(.tc (.sc (.slice none 0 0)))]] [(.mk 0 1 (h0 g20)), (.mk 1 1 (h0 g21)), (.mk 2 1 (h0 g22)), (.mk 3 1 (h0 g23))] (G3 37 1 23)) (i0 s24),
  .p (.call 44 [(kc (.tc (.sc (.int .u8 5)))), (kc (.tc (.sc (.string ⟨#[111, 114]⟩)))), (kc (.tc (.sc (.int .u8 1)))), (h0 g24)] (G3 37 1 24)) (i0 s25),
  .p (.call 45 [] (G3 37 1 25)) (i0 s26),
  .p (.call 46 [] (G3 37 1 26)) (i0 s27),
  .p (.call 47 [] (G3 37 1 27)) (i0 s28),
  .p (.call 48 [] (G3 37 1 28)) (i0 s29),
  .p (.bs 1 4 [[(.tc (.sc (.slice none 0 0)))], [(.tc (.sc (.slice none 0 0)))], [(.tc (.sc (.slice none 0 0)))], [(.tc (.sc (.slice none 0 0)))]] [(.mk 0 1 (h0 g26)), (.mk 1 1 (h0 g27)), (.mk 2 1 (h0 g28)), (.mk 3 1 (h0 g29))] (G3 37 1 29)) (i0 s30),
  .p (.call 44 [(kc (.tc (.sc (.int .u8 6)))), (kc (.tc (.sc (.string ⟨#[120, 111, 114]⟩)))), (kc (.tc (.sc (.int .u8 1)))), (h0 g30)] (G3 37 1 30)) (i0 s31),
  .p (.call 46 [] (G3 37 1 31)) (i0 s32),
  .p (.call 47 [] (G3 37 1 32)) (i0 s33),
  .p (.call 49 [(kc (.tc (.sc (.int .i64 14)))), (kc (.tc (.sc (.int .i64 0))))] (G3 37 1 33)) (i0 s34),
  .p (.bs 1 3 [[(.tc (.sc (.slice none 0 0)))], [(.tc (.sc (.slice none 0 0)))], [(.tc (.sc (.slice none 0 0)))]] [(.mk 0 1 (h0 g32)), (.mk 1 1 (h0 g33)), (.mk 2 1 (h0 g34))] (G3 37 1 34)) (i0 s35),
  .p (.call 44 [(kc (.tc (.sc (.int .u8 7)))), (kc (.tc (.sc (.string ⟨#[97, 100, 100, 105]⟩)))), (kc (.tc (.sc (.int .u8 1)))), (h0 g35)] (G3 37 1 35)) (i0 s36),
  .p (.call 45 [] (G3 37 1 36)) (i0 s37),
  .p (.call 46 [] (G3 37 1 37)) (i0 s38),
  .p (.call 49 [(kc (.tc (.sc (.int .i64 14)))), (kc (.tc (.sc (.int .i64 0))))] (G3 37 1 38)) (i0 s39),
  .p (.bs 1 3 [[(.tc (.sc (.slice none 0 0)))], [(.tc (.sc (.slice none 0 0)))], [(.tc (.sc (.slice none 0 0)))]] [(.mk 0 1 (h0 g37)), (.mk 1 1 (h0 g38)), (.mk 2 1 (h0 g39))] (G3 37 1 39)) (i0 s40),
  .p (.call 44 [(kc (.tc (.sc (.int .u8 8)))), (kc (.tc (.sc (.string ⟨#[109, 111, 118, 105]⟩)))), (kc (.tc (.sc (.int .u8 1)))), (h0 g40)] (G3 37 1 40)) (i0 s41),
  .p (.call 45 [] (G3 37 1 41)) (i0 s42),
  .p (.call 46 [] (G3 37 1 42)) (i0 s43),
  .p (.call 47 [] (G3 37 1 43)) (i0 s44),
  .p (.bs 1 3 [[(.tc (.sc (.slice none 0 0)))], [(.tc (.sc (.slice none 0 0)))], [(.tc (.sc (.slice none 0 0)))]] [(.mk 0 1 (h0 g42)), (.mk 1 1 (h0 g43)), (.mk 2 1 (h0 g44))] (G3 37 1 44)) (i0 s45),
  .p (.call 44 [(kc (.tc (.sc (.int .u8 9)))), (kc (.tc (.sc (.string ⟨#[109, 111, 118]⟩)))), (kc (.tc (.sc (.int .u8 1)))), (h0 g45)] (G3 37 1 45)) (i0 s46),
  .p (.call 50 [] (G3 37 1 46)) (i0 s47),
  .p (.call 47 [] (G3 37 1 47)) (i0 s48),
  .p (.call 48 [] (G3 37 1 48)) (i0 s49),
  .p (.bs 1 3 [[(.tc (.sc (.slice none 0 0)))], [(.tc (.sc (.slice none 0 0)))], [(.tc (.sc (.slice none 0 0)))]] [(.mk 0 1 (h0 g47)), (.mk 1 1 (h0 g48)), (.mk 2 1 (h0 g49))] (G3 37 1 49)) (i0 s50),
  .p (.call 44 [(kc (.tc (.sc (.int .u8 10)))), (kc (.tc (.sc (.string ⟨#[99, 109, 112, 101, 113]⟩)))), (kc (.tc (.sc (.int .u8 1)))), (h0 g50)] (G3 37 1 50)) (i0 s51),
  .p (.call 50 [] (G3 37 1 51)) (i0 s52),
  .p (.call 47 [] (G3 37 1 52)) (i0 s53),
  .p (.call 48 [] (G3 37 1 53)) (i0 s54),
  .p (.bs 1 3 [[(.tc (.sc (.slice none 0 0)))], [(.tc (.sc (.slice none 0 0)))], [(.tc (.sc (.slice none 0 0)))]] [(.mk 0 1 (h0 g52)), (.mk 1 1 (h0 g53)), (.mk 2 1 (h0 g54))] (G3 37 1 54)) (i0 s55),
  .p (.call 44 [(kc (.tc (.sc (.int .u8 11)))), (kc (.tc (.sc (.string ⟨#[99, 109, 112, 103, 116]⟩)))), (kc (.tc (.sc (.int .u8 1)))), (h0 g55)] (G3 37 1 55)) (i0 s56),
  .p (.call 50 [] (G3 37 1 56)) (i0 s57),
  .p (.call 47 [] (G3 37 1 57)) (i0 s58),
  .p (.call 48 [] (G3 37 1 58)) (i0 s59),
  .p (.bs 1 3 [[(.tc (.sc (.slice none 0 0)))], [(.tc (.sc (.slice none 0 0)))], [(.tc (.sc (.slice none 0 0)))]] [(.mk 0 1 (h0 g57)), (.mk 1 1 (h0 g58)), (.mk 2 1 (h0 g59))] (G3 37 1 59)) (i0 s60),
  .p (.call 44 [(kc (.tc (.sc (.int .u8 12)))), (kc (.tc (.sc (.string ⟨#[99, 109, 112, 103, 116, 117]⟩)))), (kc (.tc (.sc (.int .u8 1)))), (h0 g60)] (G3 37 1 60)) (i0 s61),
  .p (.call 50 [] (G3 37 1 61)) (i0 s62),
  .p (.call 47 [] (G3 37 1 62)) (i0 s63),
  .p (.call 49 [(kc (.tc (.sc (.int .i64 14)))), (kc (.tc (.sc (.int .i64 0))))] (G3 37 1 63)) (i1 s0),
  .p (.bs 1 3 [[(.tc (.sc (.slice none 0 0)))], [(.tc (.sc (.slice none 0 0)))], [(.tc (.sc (.slice none 0 0)))]] [(.mk 0 1 (h0 g62)), (.mk 1 1 (h0 g63)), (.mk 2 1 (h1 g0))] (G3 37 1 64)) (i1 s1),
  .p (.call 44 [(kc (.tc (.sc (.int .u8 13)))), (kc (.tc (.sc (.string ⟨#[99, 109, 112, 101, 113, 105]⟩)))), (kc (.tc (.sc (.int .u8 1)))), (h1 g1)] (G3 37 1 65)) (i1 s2),
  .p (.call 46 [] (G3 37 1 66)) (i1 s3),
  .p (.call 51 [(kc (.tc (.sc (.int .u8 2)))), (kc (.tc (.sc (.int .i64 2))))] (G3 37 1 67)) (i1 s4),
  .p (.call 47 [] (G3 37 1 68)) (i1 s5),
  .p (.call 48 [] (G3 37 1 69)) (i1 s6),
  .p (.bs 1 4 [[(.tc (.sc (.slice none 0 0)))], [(.tc (.sc (.slice none 0 0)))], [(.tc (.sc (.slice none 0 0)))], [(.tc (.sc (.slice none 0 0)))]] [(.mk 0 1 (h1 g3)), (.mk 1 1 (h1 g4)), (.mk 2 1 (h1 g5)), (.mk 3 1 (h1 g6))] (G3 37 1 70)) (i1 s7),
  .p (.call 44 [(kc (.tc (.sc (.int .u8 14)))), (kc (.tc (.sc (.string ⟨#[109, 117, 120]⟩)))), (kc (.tc (.sc (.int .u8 1)))), (h1 g7)] (G3 37 1 71)) (i1 s8),
  .p (.call 46 [] (G3 37 1 72)) (i1 s9),
  .p (.call 47 [] (G3 37 1 73)) (i1 s10),
  .p (.call 51 [(kc (.tc (.sc (.int .u8 9)))), (kc (.tc (.sc (.int .i64 5))))] (G3 37 1 74)) (i1 s11),
  .p (.bs 1 3 [[(.tc (.sc (.slice none 0 0)))], [(.tc (.sc (.slice none 0 0)))], [(.tc (.sc (.slice none 0 0)))]] [(.mk 0 1 (h1 g9)), (.mk 1 1 (h1 g10)), (.mk 2 1 (h1 g11))] (G3 37 1 75)) (i1 s12),
  .p (.call 44 [(kc (.tc (.sc (.int .u8 15)))), (kc (.tc (.sc (.string ⟨#[97, 115, 108]⟩)))), (kc (.tc (.sc (.int .u8 2)))), (h1 g12)] (G3 37 1 76)) (i1 s13),
  .p (.call 46 [] (G3 37 1 77)) (i1 s14),
  .p (.call 47 [] (G3 37 1 78)) (i1 s15),
  .p (.call 51 [(kc (.tc (.sc (.int .u8 9)))), (kc (.tc (.sc (.int .i64 5))))] (G3 37 1 79)) (i1 s16),
  .p (.bs 1 3 [[(.tc (.sc (.slice none 0 0)))], [(.tc (.sc (.slice none 0 0)))], [(.tc (.sc (.slice none 0 0)))]] [(.mk 0 1 (h1 g14)), (.mk 1 1 (h1 g15)), (.mk 2 1 (h1 g16))] (G3 37 1 80)) (i1 s17),
  .p (.call 44 [(kc (.tc (.sc (.int .u8 16)))), (kc (.tc (.sc (.string ⟨#[108, 115, 114]⟩)))), (kc (.tc (.sc (.int .u8 2)))), (h1 g17)] (G3 37 1 81)) (i1 s18),
  .p (.call 46 [] (G3 37 1 82)) (i1 s19),
  .p (.call 47 [] (G3 37 1 83)) (i1 s20),
  .p (.call 51 [(kc (.tc (.sc (.int .u8 9)))), (kc (.tc (.sc (.int .i64 5))))] (G3 37 1 84)) (i1 s21),
  .p (.bs 1 3 [[(.tc (.sc (.slice none 0 0)))], [(.tc (.sc (.slice none 0 0)))], [(.tc (.sc (.slice none 0 0)))]] [(.mk 0 1 (h1 g19)), (.mk 1 1 (h1 g20)), (.mk 2 1 (h1 g21))] (G3 37 1 85)) (i1 s22),
  .p (.call 44 [(kc (.tc (.sc (.int .u8 17)))), (kc (.tc (.sc (.string ⟨#[97, 115, 114]⟩)))), (kc (.tc (.sc (.int .u8 2)))), (h1 g22)] (G3 37 1 86)) (i1 s23),
  .p (.call 46 [] (G3 37 1 87)) (i1 s24),
  .p (.call 47 [] (G3 37 1 88)) (i1 s25),
  .p (.call 48 [] (G3 37 1 89)) (i1 s26),
  .p (.bs 1 3 [[(.tc (.sc (.slice none 0 0)))], [(.tc (.sc (.slice none 0 0)))], [(.tc (.sc (.slice none 0 0)))]] [(.mk 0 1 (h1 g24)), (.mk 1 1 (h1 g25)), (.mk 2 1 (h1 g26))] (G3 37 1 90)) (i1 s27),
  .p (.call 44 [(kc (.tc (.sc (.int .u8 18)))), (kc (.tc (.sc (.string ⟨#[109, 112, 121]⟩)))), (kc (.tc (.sc (.int .u8 2)))), (h1 g27)] (G3 37 1 91)) (i1 s28),
  .p (.call 46 [] (G3 37 1 92)) (i1 s29),
  .p (.call 47 [] (G3 37 1 93)) (i1 s30),
  .p (.call 48 [] (G3 37 1 94)) (i1 s31),
  .p (.bs 1 3 [[(.tc (.sc (.slice none 0 0)))], [(.tc (.sc (.slice none 0 0)))], [(.tc (.sc (.slice none 0 0)))]] [(.mk 0 1 (h1 g29)), (.mk 1 1 (h1 g30)), (.mk 2 1 (h1 g31))] (G3 37 1 95)) (i1 s32),
  .p (.call 44 [(kc (.tc (.sc (.int .u8 19)))), (kc (.tc (.sc (.string ⟨#[99, 109, 112, 121]⟩)))), (kc (.tc (.sc (.int .u8 2)))), (h1 g32)] (G3 37 1 96)) (i1 s33),
  .p (.call 46 [] (G3 37 1 97)) (i1 s34),
  .p (.call 47 [] (G3 37 1 98)) (i1 s35),
  .p (.call 48 [] (G3 37 1 99)) (i1 s36),
  .p (.bs 1 3 [[(.tc (.sc (.slice none 0 0)))], [(.tc (.sc (.slice none 0 0)))], [(.tc (.sc (.slice none 0 0)))]] [(.mk 0 1 (h1 g34)), (.mk 1 1 (h1 g35)), (.mk 2 1 (h1 g36))] (G3 37 1 100)) (i1 s37),
  .p (.call 44 [(kc (.tc (.sc (.int .u8 20)))), (kc (.tc (.sc (.string ⟨#[99, 109, 112, 121, 99]⟩)))), (kc (.tc (.sc (.int .u8 2)))), (h1 g37)] (G3 37 1 101)) (i1 s38),
  .p (.call 46 [] (G3 37 1 102)) (i1 s39),
  .p (.call 47 [] (G3 37 1 103)) (i1 s40),
  .p (.call 49 [(kc (.tc (.sc (.int .i64 12)))), (kc (.tc (.sc (.int .i64 2))))] (G3 37 1 104)) (i1 s41),
  .p (.bs 1 3 [[(.tc (.sc (.slice none 0 0)))], [(.tc (.sc (.slice none 0 0)))], [(.tc (.sc (.slice none 0 0)))]] [(.mk 0 1 (h1 g39)), (.mk 1 1 (h1 g40)), (.mk 2 1 (h1 g41))] (G3 37 1 105)) (i1 s42),
  .p (.call 44 [(kc (.tc (.sc (.int .u8 21)))), (kc (.tc (.sc (.string ⟨#[108, 100, 119]⟩)))), (kc (.tc (.sc (.int .u8 3)))), (h1 g42)] (G3 37 1 106)) (i1 s43),
  .p (.call 46 [] (G3 37 1 107)) (i1 s44),
  .p (.call 47 [] (G3 37 1 108)) (i1 s45),
  .p (.call 49 [(kc (.tc (.sc (.int .i64 12)))), (kc (.tc (.sc (.int .i64 1))))] (G3 37 1 109)) (i1 s46),
  .p (.bs 1 3 [[(.tc (.sc (.slice none 0 0)))], [(.tc (.sc (.slice none 0 0)))], [(.tc (.sc (.slice none 0 0)))]] [(.mk 0 1 (h1 g44)), (.mk 1 1 (h1 g45)), (.mk 2 1 (h1 g46))] (G3 37 1 110)) (i1 s47),
  .p (.call 44 [(kc (.tc (.sc (.int .u8 22)))), (kc (.tc (.sc (.string ⟨#[108, 100, 104]⟩)))), (kc (.tc (.sc (.int .u8 3)))), (h1 g47)] (G3 37 1 111)) (i1 s48),
  .p (.call 46 [] (G3 37 1 112)) (i1 s49),
  .p (.call 47 [] (G3 37 1 113)) (i1 s50),
  .p (.call 49 [(kc (.tc (.sc (.int .i64 12)))), (kc (.tc (.sc (.int .i64 0))))] (G3 37 1 114)) (i1 s51),
  .p (.bs 1 3 [[(.tc (.sc (.slice none 0 0)))], [(.tc (.sc (.slice none 0 0)))], [(.tc (.sc (.slice none 0 0)))]] [(.mk 0 1 (h1 g49)), (.mk 1 1 (h1 g50)), (.mk 2 1 (h1 g51))] (G3 37 1 115)) (i1 s52),
  .p (.call 44 [(kc (.tc (.sc (.int .u8 23)))), (kc (.tc (.sc (.string ⟨#[108, 100, 98]⟩)))), (kc (.tc (.sc (.int .u8 3)))), (h1 g52)] (G3 37 1 116)) (i1 s53),
  .p (.call 47 [] (G3 37 1 117)) (i1 s54),
  .p (.call 51 [(kc (.tc (.sc (.int .u8 8)))), (kc (.tc (.sc (.int .i64 1))))] (G3 37 1 118)) (i1 s55),
  .p (.call 48 [] (G3 37 1 119)) (i1 s56),
  .p (.call 49 [(kc (.tc (.sc (.int .i64 12)))), (kc (.tc (.sc (.int .i64 2))))] (G3 37 1 120)) (i1 s57),
  .p (.bs 1 4 [[(.tc (.sc (.slice none 0 0)))], [(.tc (.sc (.slice none 0 0)))], [(.tc (.sc (.slice none 0 0)))], [(.tc (.sc (.slice none 0 0)))]] [(.mk 0 1 (h1 g54)), (.mk 1 1 (h1 g55)), (.mk 2 1 (h1 g56)), (.mk 3 1 (h1 g57))] (G3 37 1 121)) (i1 s58),
  .p (.call 44 [(kc (.tc (.sc (.int .u8 24)))), (kc (.tc (.sc (.string ⟨#[115, 116, 119]⟩)))), (kc (.tc (.sc (.int .u8 4)))), (h1 g58)] (G3 37 1 122)) (i1 s59),
  .p (.call 47 [] (G3 37 1 123)) (i1 s60),
  .p (.call 51 [(kc (.tc (.sc (.int .u8 8)))), (kc (.tc (.sc (.int .i64 1))))] (G3 37 1 124)) (i1 s61),
  .p (.call 48 [] (G3 37 1 125)) (i1 s62),
  .p (.call 49 [(kc (.tc (.sc (.int .i64 12)))), (kc (.tc (.sc (.int .i64 1))))] (G3 37 1 126)) (i1 s63),
  .p (.bs 1 4 [[(.tc (.sc (.slice none 0 0)))], [(.tc (.sc (.slice none 0 0)))], [(.tc (.sc (.slice none 0 0)))], [(.tc (.sc (.slice none 0 0)))]] [(.mk 0 1 (h1 g60)), (.mk 1 1 (h1 g61)), (.mk 2 1 (h1 g62)), (.mk 3 1 (h1 g63))] (G3 37 1 127)) (i2 s0),
  .p (.call 44 [(kc (.tc (.sc (.int .u8 25)))), (kc (.tc (.sc (.string ⟨#[115, 116, 104]⟩)))), (kc (.tc (.sc (.int .u8 4)))), (h2 g0)] (G3 37 1 128)) (i2 s1),
  .p (.call 47 [] (G3 37 1 129)) (i2 s2),
  .p (.call 51 [(kc (.tc (.sc (.int .u8 8)))), (kc (.tc (.sc (.int .i64 1))))] (G3 37 1 130)) (i2 s3),
  .p (.call 48 [] (G3 37 1 131)) (i2 s4),
  .p (.call 49 [(kc (.tc (.sc (.int .i64 12)))), (kc (.tc (.sc (.int .i64 0))))] (G3 37 1 132)) (i2 s5),
  .p (.bs 1 4 [[(.tc (.sc (.slice none 0 0)))], [(.tc (.sc (.slice none 0 0)))], [(.tc (.sc (.slice none 0 0)))], [(.tc (.sc (.slice none 0 0)))]] [(.mk 0 1 (h2 g2)), (.mk 1 1 (h2 g3)), (.mk 2 1 (h2 g4)), (.mk 3 1 (h2 g5))] (G3 37 1 133)) (i2 s6),
  .p (.call 44 [(kc (.tc (.sc (.int .u8 26)))), (kc (.tc (.sc (.string ⟨#[115, 116, 98]⟩)))), (kc (.tc (.sc (.int .u8 4)))), (h2 g6)] (G3 37 1 134)) (i2 s7),
  .p (.call 45 [] (G3 37 1 135)) (i2 s8),
  .p (.call 52 [(kc (.tc (.sc (.int .i64 19))))] (G3 37 1 136)) (i2 s9),
  .p (.bs 1 2 [[(.tc (.sc (.slice none 0 0)))], [(.tc (.sc (.slice none 0 0)))]] [(.mk 0 1 (h2 g8)), (.mk 1 1 (h2 g9))] (G3 37 1 137)) (i2 s10),
  .p (.call 44 [(kc (.tc (.sc (.int .u8 27)))), (kc (.tc (.sc (.string ⟨#[106, 117, 109, 112]⟩)))), (kc (.tc (.sc (.int .u8 5)))), (h2 g10)] (G3 37 1 138)) (i2 s11),
  .p (.call 45 [] (G3 37 1 139)) (i2 s12),
  .p (.call 47 [] (G3 37 1 140)) (i2 s13),
  .p (.bs 1 2 [[(.tc (.sc (.slice none 0 0)))], [(.tc (.sc (.slice none 0 0)))]] [(.mk 0 1 (h2 g12)), (.mk 1 1 (h2 g13))] (G3 37 1 141)) (i2 s14),
  .p (.call 44 [(kc (.tc (.sc (.int .u8 28)))), (kc (.tc (.sc (.string ⟨#[106, 117, 109, 112, 114]⟩)))), (kc (.tc (.sc (.int .u8 5)))), (h2 g14)] (G3 37 1 142)) (i2 s15),
  .p (.call 52 [(kc (.tc (.sc (.int .i64 24))))] (G3 37 1 143)) (i2 s16),
  .p (.bs 1 1 [[(.tc (.sc (.slice none 0 0)))]] [(.mk 0 1 (h2 g16))] (G3 37 1 144)) (i2 s17),
  .p (.call 44 [(kc (.tc (.sc (.int .u8 29)))), (kc (.tc (.sc (.string ⟨#[99, 97, 108, 108]⟩)))), (kc (.tc (.sc (.int .u8 5)))), (h2 g17)] (G3 37 1 145)) (i2 s18),
  .p (.call 51 [(kc (.tc (.sc (.int .u8 7)))), (kc (.tc (.sc (.int .i64 1))))] (G3 37 1 146)) (i2 s19),
  .p (.call 52 [(kc (.tc (.sc (.int .i64 12))))] (G3 37 1 147)) (i2 s20),
  .p (.call 51 [(kc (.tc (.sc (.int .u8 11)))), (kc (.tc (.sc (.int .i64 11))))] (G3 37 1 148)) (i2 s21),
  .p (.bs 1 3 [[(.tc (.sc (.slice none 0 0)))], [(.tc (.sc (.slice none 0 0)))], [(.tc (.sc (.slice none 0 0)))]] [(.mk 0 1 (h2 g19)), (.mk 1 1 (h2 g20)), (.mk 2 1 (h2 g21))] (G3 37 1 149)) (i2 s22),
  .p (.call 44 [(kc (.tc (.sc (.int .u8 30)))), (kc (.tc (.sc (.string ⟨#[108, 111, 111, 112, 105]⟩)))), (kc (.tc (.sc (.int .u8 6)))), (h2 g22)] (G3 37 1 150)) (i2 s23),
  .p (.call 51 [(kc (.tc (.sc (.int .u8 7)))), (kc (.tc (.sc (.int .i64 1))))] (G3 37 1 151)) (i2 s24),
  .p (.call 52 [(kc (.tc (.sc (.int .i64 12))))] (G3 37 1 152)) (i2 s25),
  .p (.call 47 [] (G3 37 1 153)) (i2 s26),
  .p (.bs 1 3 [[(.tc (.sc (.slice none 0 0)))], [(.tc (.sc (.slice none 0 0)))], [(.tc (.sc (.slice none 0 0)))]] [(.mk 0 1 (h2 g24)), (.mk 1 1 (h2 g25)), (.mk 2 1 (h2 g26))] (G3 37 1 154)) (i2 s27),
  .p (.call 44 [(kc (.tc (.sc (.int .u8 31)))), (kc (.tc (.sc (.string ⟨#[108, 111, 111, 112, 114]⟩)))), (kc (.tc (.sc (.int .u8 6)))), (h2 g27)] (G3 37 1 155)) (i2 s28),
  .p (.bs 5 31 [[(.tc (.sc (.int .u8 0))), (.tc (.sc (.string ⟨#[]⟩))), (.tc (.sc (.int .u8 0))), (.tc (.sc (.int .u8 0))), (.tc (.sc (.slice none 0 0)))], [(.tc (.sc (.int .u8 0))), (.tc (.sc (.string ⟨#[]⟩))), (.tc (.sc (.int .u8 0))), (.tc (.sc (.int .u8 0))), (.tc (.sc (.slice none 0 0)))], [(.tc (.sc (.int .u8 0))), (.tc (.sc (.string ⟨#[]⟩))), (.tc (.sc (.int .u8 0))), (.tc (.sc (.int .u8 0))), (.tc (.sc (.slice none 0 0)))], [(.tc (.sc (.int .u8 0))), (.tc (.sc (.string ⟨#[]⟩))), (.tc (.sc (.int .u8 0))), (.tc (.sc (.int .u8 0))), (.tc (.sc (.slice none 0 0)))], [(.tc (.sc (.int .u8 0))), (.tc (.sc (.string ⟨#[]⟩))), (.tc (.sc (.int .u8 0))), (.tc (.sc (.int .u8 0))), (.tc (.sc (.slice none 0 0)))], [(.tc (.sc (.int .u8 0))), (.tc (.sc (.string ⟨#[]⟩))), (.tc (.sc (.int .u8 0))), (.tc (.sc (.int .u8 0))), (.tc (.sc (.slice none 0 0)))], [(.tc (.sc (.int .u8 0))), (.tc (.sc (.string ⟨#[]⟩))), (.tc (.sc (.int .u8 0))), (.tc (.sc (.int .u8 0))), (.tc (.sc (.slice none 0 0)))], [(.tc (.sc (.int .u8 0))), (.tc (.sc (.string ⟨#[]⟩))), (.tc (.sc (.int .u8 0))), (.tc (.sc (.int .u8 0))), (.tc (.sc (.slice none 0 0)))], [(.tc (.sc (.int .u8 0))), (.tc (.sc (.string ⟨#[]⟩))), (.tc (.sc (.int .u8 0))), (.tc (.sc (.int .u8 0))), (.tc (.sc (.slice none 0 0)))], [(.tc (.sc (.int .u8 0))), (.tc (.sc (.string ⟨#[]⟩))), (.tc (.sc (.int .u8 0))), (.tc (.sc (.int .u8 0))), (.tc (.sc (.slice none 0 0)))], [(.tc (.sc (.int .u8 0))), (.tc (.sc (.string ⟨#[]⟩))), (.tc (.sc (.int .u8 0))), (.tc (.sc (.int .u8 0))), (.tc (.sc (.slice none 0 0)))], [(.tc (.sc (.int .u8 0))), (.tc (.sc (.string ⟨#[]⟩))), (.tc (.sc (.int .u8 0))), (.tc (.sc (.int .u8 0))), (.tc (.sc (.slice none 0 0)))], [(.tc (.sc (.int .u8 0))), (.tc (.sc (.string ⟨#[]⟩))), (.tc (.sc (.int .u8 0))), (.tc (.sc (.int .u8 0))), (.tc (.sc (.slice none 0 0)))], [(.tc (.sc (.int .u8 0))), (.tc (.sc (.string ⟨#[]⟩))), (.tc (.sc (.int .u8 0))), (.tc (.sc (.int .u8 0))), (.tc (.sc (.slice none 0 0)))], [(.tc (.sc (.int .u8 0))), (.tc (.sc (.string ⟨#[]⟩))), (.tc (.sc (.int .u8 0))), (.tc (.sc (.int .u8 0))), (.tc (.sc (.slice none 0 0)))], [(.tc (.sc (.int .u8 0))), (.tc (.sc (.string ⟨#[]⟩))), (.tc (.sc (.int .u8 0))), (.tc (.sc (.int .u8 0))), (.tc (.sc (.slice none 0 0)))], [(.tc (.sc (.int .u8 0))), (.tc (.sc (.string ⟨#[]⟩))), (.tc (.sc (.int .u8 0))), (.tc (.sc (.int .u8 0))), (.tc (.sc (.slice none 0 0)))], [(.tc (.sc (.int .u8 0))), (.tc (.sc (.string ⟨#[]⟩))), (.tc (.sc (.int .u8 0))), (.tc (.sc (.int .u8 0))), (.tc (.sc (.slice none 0 0)))], [(.tc (.sc (.int .u8 0))), (.tc (.sc (.string ⟨#[]⟩))), (.tc (.sc (.int .u8 0))), (.tc (.sc (.int .u8 0))), (.tc (.sc (.slice none 0 0)))], [(.tc (.sc (.int .u8 0))), (.tc (.sc (.string ⟨#[]⟩))), (.tc (.sc (.int .u8 0))), (.tc (.sc (.int .u8 0))), (.tc (.sc (.slice none 0 0)))], [(.tc (.sc (.int .u8 0))), (.tc (.sc (.string ⟨#[]⟩))), (.tc (.sc (.int .u8 0))), (.tc (.sc (.int .u8 0))), (.tc (.sc (.slice none 0 0)))], [(.tc (.sc (.int .u8 0))), (.tc (.sc (.string ⟨#[]⟩))), (.tc (.sc (.int .u8 0))), (.tc (.sc (.int .u8 0))), (.tc (.sc (.slice none 0 0)))], [(.tc (.sc (.int .u8 0))), (.tc (.sc (.string ⟨#[]⟩))), (.tc (.sc (.int .u8 0))), (.tc (.sc (.int .u8 0))), (.tc (.sc (.slice none 0 0)))], [(.tc (.sc (.int .u8 0))), (.tc (.sc (.string ⟨#[]⟩))), (.tc (.sc (.int .u8 0))), (.tc (.sc (.int .u8 0))), (.tc (.sc (.slice none 0 0)))], [(.tc (.sc (.int .u8 0))), (.tc (.sc (.string ⟨#[]⟩))), (.tc (.sc (.int .u8 0))), (.tc (.sc (.int .u8 0))), (.tc (.sc (.slice none 0 0)))], [(.tc (.sc (.int .u8 0))), (.tc (.sc (.string ⟨#[]⟩))), (.tc (.sc (.int .u8 0))), (.tc (.sc (.int .u8 0))), (.tc (.sc (.slice none 0 0)))], [(.tc (.sc (.int .u8 0))), (.tc (.sc (.string ⟨#[]⟩))), (.tc (.sc (.int .u8 0))), (.tc (.sc (.int .u8 0))), (.tc (.sc (.slice none 0 0)))], [(.tc (.sc (.int .u8 0))), (.tc (.sc (.string ⟨#[]⟩))), (.tc (.sc (.int .u8 0))), (.tc (.sc (.int .u8 0))), (.tc (.sc (.slice none 0 0)))], [(.tc (.sc (.int .u8 0))), (.tc (.sc (.string ⟨#[]⟩))), (.tc (.sc (.int .u8 0))), (.tc (.sc (.int .u8 0))), (.tc (.sc (.slice none 0 0)))], [(.tc (.sc (.int .u8 0))), (.tc (.sc (.string ⟨#[]⟩))), (.tc (.sc (.int .u8 0))), (.tc (.sc (.int .u8 0))), (.tc (.sc (.slice none 0 0)))], [(.tc (.sc (.int .u8 0))), (.tc (.sc (.string ⟨#[]⟩))), (.tc (.sc (.int .u8 0))), (.tc (.sc (.int .u8 0))), (.tc (.sc (.slice none 0 0)))]] [(.mk 0 5 (h0 g1)), (.mk 1 5 (h0 g7)), (.mk 2 5 (h0 g13)), (.mk 3 5 (h0 g19)), (.mk 4 5 (h0 g25)), (.mk 5 5 (h0 g31)), (.mk 6 5 (h0 g36)), (.mk 7 5 (h0 g41)), (.mk 8 5 (h0 g46)), (.mk 9 5 (h0 g51)), (.mk 10 5 (h0 g56)), (.mk 11 5 (h0 g61)), (.mk 12 5 (h1 g2)), (.mk 13 5 (h1 g8)), (.mk 14 5 (h1 g13)), (.mk 15 5 (h1 g18)), (.mk 16 5 (h1 g23)), (.mk 17 5 (h1 g28)), (.mk 18 5 (h1 g33)), (.mk 19 5 (h1 g38)), (.mk 20 5 (h1 g43)), (.mk 21 5 (h1 g48)), (.mk 22 5 (h1 g53)), (.mk 23 5 (h1 g59)), (.mk 24 5 (h2 g1)), (.mk 25 5 (h2 g7)), (.mk 26 5 (h2 g11)), (.mk 27 5 (h2 g15)), (.mk 28 5 (h2 g18)), (.mk 29 5 (h2 g23)), (.mk 30 5 (h2 g28))] (G3 37 1 156)) (i2 s29),
  .p (.mv (h2 g29)) (i0 s0)])
 .ret)),
 [.tmp (h0 g0)]⟩
theorem ff37_ok : compF SBase 37 = ff37 := by kernel_rfl
noncomputable def ff44 : FF := .t2 ⟨17,
 (.seq (.reg [.p (.al 5 [(.sc (.int .u8 0)), (.sc (.string ⟨#[]⟩)), (.sc (.int .u8 0)), (.sc (.int .u8 0)), (.sc (.slice none 0 0))]) s8])
 (.seq (.reg [.p (.mv g0) s9,
  .p (.mv g1) s10,
  .p (.mv g2) s11,
  .p (.mv g2) s12,
  .p (.call 17 [g12] (G2 44 1 4)) s13,
  .p (.mv g3) s14,
  .p (.call 56 [g14] (G2 44 1 6)) s15,
  .p (.bd [(.tc (.sc (.int .u8 0))), (.tc (.sc (.string ⟨#[]⟩))), (.tc (.sc (.int .u8 0))), (.tc (.sc (.int .u8 0))), (.tc (.sc (.slice none 0 0)))] [(.mk 0 1 g9), (.mk 1 1 g10), (.mk 2 1 g11), (.mk 3 1 g13), (.mk 4 1 g15)] (G2 44 1 7)) s16,
  .n (.st 5 g8 g16 (G2 44 1 8))])
 .ret)),
 [.cell g8 true 5]⟩
theorem ff44_ok : compF SBase 44 = ff44 := by kernel_rfl
noncomputable def ff17 : FF := .t2 ⟨15,
 (.seq (.reg [.p (.mv (kc (.tc (.sc (.int .u8 0))))) s2])
 (.seq (.seq (.reg [.p (.mv g0) s3])
 (.block 0 (.seq (.reg [.p (.bin .eql g3 (kc (.tc (.sc (.int .u8 1)))) (G2 17 2 0)) s5,
  .p (.mv g5) s4])
 (.cond g4 (.seq (.reg [.p (.mv (kc (.tc (.sc (.int .u8 15))))) s2])
 .ret)
 (.seq (.seq (.reg [.p (.bin .eql g3 (kc (.tc (.sc (.int .u8 2)))) (G2 17 4 0)) s7,
  .p (.mv g7) s6])
 (.cond g6 .skip
 (.reg [.p (.bin .eql g3 (kc (.tc (.sc (.int .u8 5)))) (G2 17 5 0)) s8,
  .p (.mv g8) s6])))
 (.cond g6 (.seq (.reg [.p (.mv (kc (.tc (.sc (.int .u8 12))))) s2])
 .ret)
 (.seq (.reg [.p (.bin .eql g3 (kc (.tc (.sc (.int .u8 3)))) (G2 17 7 0)) s10,
  .p (.mv g10) s9])
 (.cond g9 (.seq (.reg [.p (.mv (kc (.tc (.sc (.int .u8 3))))) s2])
 .ret)
 (.seq (.reg [.p (.bin .eql g3 (kc (.tc (.sc (.int .u8 4)))) (G2 17 9 0)) s12,
  .p (.mv g12) s11])
 (.cond g11 (.seq (.reg [.p (.mv (kc (.tc (.sc (.int .u8 1))))) s2])
 .ret)
 (.seq (.reg [.p (.bin .eql g3 (kc (.tc (.sc (.int .u8 6)))) (G2 17 11 0)) s14,
  .p (.mv g14) s13])
 (.cond g13 (.seq (.reg [.p (.mv (kc (.tc (.sc (.int .u8 8))))) s2])
 .ret)
 .skip))))))))))))
 (.seq (.reg [.p (.mv (kc (.tc (.sc (.int .u8 0))))) s2])
 .ret))),
 [.tmp g2]⟩
theorem ff17_ok : compF SBase 17 = ff17 := by kernel_rfl
noncomputable def ff56 : FF := .t2 ⟨36,
 (.seq (.reg [.p (.mv (kc (.tc (.sc (.slice none 0 0))))) s2])
 (.seq (.reg [.p (.mv (kc (.tc (.sc (.int .i64 0))))) s3])
 (.seq (.seq (.reg [.p (.mv g0) s9,
  .p (.len g9 (G2 56 2 1)) s10,
  .p (.mv (kc (.tc (.sc (.int .i64 0))))) s11])
 (.block 0 (.loop 4294967296 (.seq (.reg [.p (.bin .lss g11 g10 (G2 56 3 0)) s12])
 (.seq (.cond g12 .skip
 (.exit 0))
 (.seq (.block 1 (.seq (.reg [.p (.ia 1 g9 g11 (G2 56 4 0)) s13,
  .p (.ld false 1 g13) s14,
  .p (.mv g14) s5])
 (.seq (.reg [.p (.mv g3) s15,
  .p (.mv g5) s16,
  .p (.len g16 (G2 56 5 2)) s17,
  .p (.bin .add g15 g17 (G2 56 5 3)) s18,
  .p (.mv g18) s3])
 (.seq (.reg [.p (.mv g3) s19,
  .p (.bin .lss g19 (kc (.tc (.sc (.int .i64 0)))) (G2 56 6 1)) s20])
 (.cond g20 (.reg [.p (.gen (G2 56 7 0)) s21,
  .n (.gen (G2 56 7 1))])
 .skip)))))
 (.reg [.p (.bin .add g11 (kc (.tc (.sc (.int .i64 1)))) (G2 56 8 0)) s22,
  .p (.mv g22) s11])))))))
 (.seq (.reg [.p (.mv g3) s23,
  .p (.call 58 [(kc (.tc (.sc (.slice none 0 0)))), g23] (G2 56 9 1)) s24,
  .p (.mv g24) s6])
 (.seq (.seq (.reg [.p (.mv g0) s25,
  .p (.len g25 (G2 56 10 1)) s26,
  .p (.mv (kc (.tc (.sc (.int .i64 0))))) s27])
 (.block 2 (.loop 4294967296 (.seq (.reg [.p (.bin .lss g27 g26 (G2 56 11 0)) s28])
 (.seq (.cond g28 .skip
 (.exit 2))
 (.seq (.block 3 (.seq (.reg [.p (.ia 1 g25 g27 (G2 56 12 0)) s29,
  .p (.ld false 1 g29) s30,
  .p (.mv g30) s8])
 (.reg [.p (.mv g6) s31,
  .p (.mv g8) s32,
  .p (.ap 5 32 g31 g32) s33,
  .p (.mv g33) s6])))
 (.reg [.p (.bin .add g27 (kc (.tc (.sc (.int .i64 1)))) (G2 56 14 0)) s34,
  .p (.mv g34) s27])))))))
 (.seq (.reg [.p (.mv g6) s35,
  .p (.mv g35) s2])
 .ret)))))),
 [.tmp g2]⟩
theorem ff56_ok : compF SBase 56 = ff56 := by kernel_rfl
noncomputable def ff58 : FF := .t2 ⟨27,
 (.seq (.reg [.p (.mv (kc (.tc (.sc (.slice none 0 0))))) s4])
 (.seq (.seq (.reg [.p (.mv g1) s5,
  .p (.bin .lss g5 (kc (.tc (.sc (.int .i64 0)))) (G2 58 1 1)) s6])
 (.cond g6 (.reg [.p (.gen (G2 58 2 0)) s7,
  .n (.gen (G2 58 2 1))])
 .skip))
 (.seq (.seq (.reg [.p (.mv g1) s8,
  .p (.mv g0) s9,
  .p (.gen (G2 58 3 2)) s10,
  .p (.mv g0) s11,
  .p (.len g11 (G2 58 3 4)) s12,
  .p (.bin .sub g10 g12 (G2 58 3 5)) s13,
  .p (.bin .sub g8 g13 (G2 58 3 6)) s14,
  .p (.mv g14) s1])
 (.seq (.reg [.p (.mv g1) s15,
  .p (.bin .gtr g15 (kc (.tc (.sc (.int .i64 0)))) (G2 58 4 1)) s16])
 (.cond g16 (.reg [.p (.mv g0) s17,
  .p (.mv g0) s18,
  .p (.gen (G2 58 5 2)) s19,
  .p (.sl 5 g17 none (some g19) none (G2 58 5 3)) s20,
  .p (.mv g1) s21,
  .p (.gen (G2 58 5 5)) s22,
  .p (.mv g0) s23,
  .p (.len g23 (G2 58 5 7)) s24,
  .p (.sl 5 g22 none (some g24) none (G2 58 5 8)) s25,
  .p (.mv g25) s0])
 .skip)))
 (.seq (.reg [.p (.mv g0) s26,
  .p (.mv g26) s4])
 .ret)))),
 [.tmp g4]⟩
theorem ff58_ok : compF SBase 58 = ff58 := by kernel_rfl
noncomputable def ff45 : FF := .t2 ⟨4,
 (.seq (.reg [.p (.mv (kc (.tc (.sc (.slice none 0 0))))) s0])
 (.seq (.reg [.p (.call 51 [(kc (.tc (.sc (.int .u8 1)))), (kc (.tc (.sc (.int .i64 3))))] (G2 45 1 0)) s1,
  .p (.call 51 [(kc (.tc (.sc (.int .u8 2)))), (kc (.tc (.sc (.int .i64 2))))] (G2 45 1 1)) s2,
  .p (.ap 5 32 g1 g2) s3,
  .p (.mv g3) s0])
 .ret)),
 [.tmp g0]⟩
theorem ff45_ok : compF SBase 45 = ff45 := by kernel_rfl
noncomputable def ff51 : FF := .t2 ⟨9,
 (.seq (.reg [.p (.mv (kc (.tc (.sc (.slice none 0 0))))) s4])
 (.seq (.reg [.p (.mv g0) s5,
  .p (.mv g1) s6,
  .p (.bd [(.tc (.sc (.int .u8 0))), (.tc (.sc (.int .i64 0))), (.tc (.sc (.int .i64 0))), (.tc (.sc (.bool false))), (.tc (.sc (.bool false)))] [(.mk 0 1 g5), (.mk 1 1 g6)] (G2 51 1 2)) s7,
  .p (.bs 5 1 [[(.tc (.sc (.int .u8 0))), (.tc (.sc (.int .i64 0))), (.tc (.sc (.int .i64 0))), (.tc (.sc (.bool false))), (.tc (.sc (.bool false)))]] [(.mk 0 5 g7)] (G2 51 1 3)) s8,
  .p (.mv g8) s4])
 .ret)),
 [.tmp g4]⟩
theorem ff51_ok : compF SBase 51 = ff51 := by kernel_rfl
noncomputable def ff46 : FF := .t2 ⟨2,
 (.seq (.reg [.p (.mv (kc (.tc (.sc (.slice none 0 0))))) s0])
 (.seq (.reg [.p (.call 51 [(kc (.tc (.sc (.int .u8 3)))), (kc (.tc (.sc (.int .i64 5))))] (G2 46 1 0)) s1,
  .p (.mv g1) s0])
 .ret)),
 [.tmp g0]⟩
theorem ff46_ok : compF SBase 46 = ff46 := by kernel_rfl
noncomputable def ff47 : FF := .t2 ⟨2,
 (.seq (.reg [.p (.mv (kc (.tc (.sc (.slice none 0 0))))) s0])
 (.seq (.reg [.p (.call 51 [(kc (.tc (.sc (.int .u8 5)))), (kc (.tc (.sc (.int .i64 5))))] (G2 47 1 0)) s1,
  .p (.mv g1) s0])
 .ret)),
 [.tmp g0]⟩
theorem ff47_ok : compF SBase 47 = ff47 := by kernel_rfl
noncomputable def ff48 : FF := .t2 ⟨2,
 (.seq (.reg [.p (.mv (kc (.tc (.sc (.slice none 0 0))))) s0])
 (.seq (.reg [.p (.call 51 [(kc (.tc (.sc (.int .u8 6)))), (kc (.tc (.sc (.int .i64 5))))] (G2 48 1 0)) s1,
  .p (.mv g1) s0])
 .ret)),
 [.tmp g0]⟩
theorem ff48_ok : compF SBase 48 = ff48 := by kernel_rfl
noncomputable def ff49 : FF := .t2 ⟨9,
 (.seq (.reg [.p (.mv (kc (.tc (.sc (.slice none 0 0))))) s4])
 (.seq (.reg [.p (.mv g0) s5,
  .p (.mv g1) s6,
  .p (.bd [(.tc (.sc (.int .u8 0))), (.tc (.sc (.int .i64 0))), (.tc (.sc (.int .i64 0))), (.tc (.sc (.bool false))), (.tc (.sc (.bool false)))] [(.mk 0 1 (kc (.tc (.sc (.int .u8 9))))), (.mk 1 1 g5), (.mk 2 1 g6), (.mk 3 1 (kc (.tc (.sc (.bool true))))), (.mk 4 1 (kc (.tc (.sc (.bool true)))))] (G2 49 1 2)) s7,
  .p (.bs 5 1 [[(.tc (.sc (.int .u8 0))), (.tc (.sc (.int .i64 0))), (.tc (.sc (.int .i64 0))), (.tc (.sc (.bool false))), (.tc (.sc (.bool false)))]] [(.mk 0 5 g7)] (G2 49 1 3)) s8,
  .p (.mv g8) s4])
 .ret)),
 [.tmp g4]⟩
theorem ff49_ok : compF SBase 49 = ff49 := by kernel_rfl
noncomputable def ff50 : FF := .t2 ⟨2,
 (.seq (.reg [.p (.mv (kc (.tc (.sc (.slice none 0 0))))) s0])
 (.seq (.reg [.p (.call 51 [(kc (.tc (.sc (.int .u8 4)))), (kc (.tc (.sc (.int .i64 2))))] (G2 50 1 0)) s1,
  .p (.mv g1) s0])
 .ret)),
 [.tmp g0]⟩
theorem ff50_ok : compF SBase 50 = ff50 := by kernel_rfl
noncomputable def ff52 : FF := .t2 ⟨6,
 (.seq (.reg [.p (.mv (kc (.tc (.sc (.slice none 0 0))))) s2])
 (.seq (.reg [.p (.mv g0) s3,
  .p (.bd [(.tc (.sc (.int .u8 0))), (.tc (.sc (.int .i64 0))), (.tc (.sc (.int .i64 0))), (.tc (.sc (.bool false))), (.tc (.sc (.bool false)))] [(.mk 0 1 (kc (.tc (.sc (.int .u8 10))))), (.mk 1 1 g3), (.mk 2 1 (kc (.tc (.sc (.int .i64 2))))), (.mk 3 1 (kc (.tc (.sc (.bool true))))), (.mk 4 1 (kc (.tc (.sc (.bool true)))))] (G2 52 1 1)) s4,
  .p (.bs 5 1 [[(.tc (.sc (.int .u8 0))), (.tc (.sc (.int .i64 0))), (.tc (.sc (.int .i64 0))), (.tc (.sc (.bool false))), (.tc (.sc (.bool false)))]] [(.mk 0 5 g4)] (G2 52 1 2)) s5,
  .p (.mv g5) s2])
 .ret)),
 [.tmp g2]⟩
theorem ff52_ok : compF SBase 52 = ff52 := by kernel_rfl
noncomputable def ff39 : FF := .t2 ⟨27,
 (.seq (.reg [.p (.mv (kc (.tc (.sc (.int .i64 0))))) s4])
 (.seq (.seq (.reg [.p (.mv g1) s6,
  .p (.bin .lss g6 (kc (.tc (.sc (.int .i64 1)))) (G2 39 1 1)) s7,
  .p (.mv g7) s8,
  .gp g8 false (.mv g1) s9,
  .gp g8 false (.bin .gtr g9 (kc (.tc (.sc (.int .i64 32)))) (G2 39 1 4)) s10,
  .p (.pk g8 (kc (.tc (.sc (.bool true)))) g10) s11])
 (.cond g11 (.seq (.reg [.p (.mv (kc (.tc (.sc (.int .i64 0))))) s4])
 .ret)
 .skip))
 (.seq (.reg [.p (.mv g1) s12,
  .p (.bd [(.tc (.sc (.int .i64 0))), (.tc (.sc (.int .i64 0)))] [(.mk 0 1 (kc (.tc (.sc (.int .i64 0))))), (.mk 1 1 g12)] (G2 39 3 1)) s13,
  .p (.mv g0) s14,
  .p (.call 53 [g13, g14] (G2 39 3 3)) s15,
  .p (.cv .i64 g15 (G2 39 3 4)) s16,
  .p (.mv g16) s5])
 (.seq (.seq (.reg [.p (.mv g5) s17,
  .p (.mv g1) s18,
  .p (.bin .sub g18 (kc (.tc (.sc (.int .i64 1)))) (G2 39 4 2)) s19,
  .p (.bin .shr g17 g19 (G2 39 4 3)) s20,
  .p (.bin .eql g20 (kc (.tc (.sc (.int .i64 1)))) (G2 39 4 4)) s21])
 (.cond g21 (.seq (.reg [.p (.mv g5) s22,
  .p (.mv g1) s23,
  .p (.bin .shl (kc (.tc (.sc (.int .i64 1)))) g23 (G2 39 5 2)) s24,
  .p (.bin .sub g22 g24 (G2 39 5 3)) s25,
  .p (.mv g25) s4])
 .ret)
 .skip))
 (.seq (.reg [.p (.mv g5) s26,
  .p (.mv g26) s4])
 .ret))))),
 [.tmp g4]⟩
theorem ff39_ok : compF SBase 39 = ff39 := by kernel_rfl
noncomputable def ff53 : FF := .t2 ⟨14,
 (.seq (.reg [.p (.bx 2 g0 (G2 53 0 0)) s2,
  .p (.mv (kc (.tc (.sc (.int .u32 0))))) s4])
 (.seq (.regD [0, 1, 0, 4, 15, 31, 0, 64, 255, 511] [.no, (.rd (.cv .u64 g5 (G2 53 1 1)) g6), .no, (.rd (.ld false 1 g7) g8), .no, (.rd (.cv .u32 g9 (G2 53 1 5)) g10), (.rd (.ld true 2 g2) g11), .no, .no, .no] [.mk .none .yes (.mv g1) (.mv g1) (some s5),
  .mk .none .yes (.cv .u64 g5 (G2 53 1 1)) (.cv .u64 g5 (G2 53 1 1)) (some s6),
  .mk .none .yes (.fa 0 g2) (.fa 0 g2) (some s7),
  .mk .none .yes (.ld false 1 g7) (.ld false 1 g7) (some s8),
  .mk .none .yes (.bin .shr g6 g8 (G2 53 1 4)) (.bin .shr g6 g8 (G2 53 1 4)) (some s9),
  .mk .none .yes (.cv .u32 g9 (G2 53 1 5)) (.cv .u32 g9 (G2 53 1 5)) (some s10),
  .mk .none .yes (.ld true 2 g2) (.ld true 2 g2) (some s11),
  .mk .none (.dyn 57 [g11]) (.call 57 [g11] (G2 53 1 7)) (.call 57 [g11] (G2 53 1 7)) (some s12),
  .mk .none .yes (.bin .and g10 g12 (G2 53 1 8)) (.bin .and g10 g12 (G2 53 1 8)) (some s13),
  .mk .none .yes (.mv g13) (.mv g13) (some s4)])
 .ret)),
 [.tmp g4]⟩
theorem ff53_ok : compF SBase 53 = ff53 := by kernel_rfl
noncomputable def ff57 : FF := .t2 ⟨8,
 (.seq (.reg [.p (.bx 2 g0 (G2 57 0 0)) s1,
  .p (.mv (kc (.tc (.sc (.int .u32 0))))) s2])
 (.seq (.reg [.p (.fa 1 g1) s3,
  .p (.ld false 1 g3) s4,
  .p (.bin .shl (kc (.tc (.sc (.int .u64 1)))) g4 (G2 57 1 2)) s5,
  .p (.bin .sub g5 (kc (.tc (.sc (.int .u64 1)))) (G2 57 1 3)) s6,
  .p (.cv .u32 g6 (G2 57 1 4)) s7,
  .p (.mv g7) s2])
 .ret)),
 [.tmp g2]⟩
theorem ff57_ok : compF SBase 57 = ff57 := by kernel_rfl
noncomputable def ff20 : FF := .t2 ⟨24,
 (.seq (.reg [.p (.bx 11 g0 (G2 20 0 0)) s2,
  .p (.mv (kc (.tc (.sc (.int .i64 0))))) s4,
  .p (.mv (kc (.tc (.sc (.bool false))))) s5])
 (.seq (.reg [.p (.fa 0 g2) s7,
  .p (.ld false 1 g7) s8,
  .p (.call 22 [g8] (G2 20 1 2)) s9,
  .p (.al 5 [(.sc (.int .i64 0)), (.sc (.int .i64 0)), (.sc (.bool false)), (.sc (.bool false)), (.sc (.bool false))]) s6,
  .n (.st 5 g6 g9 (G2 20 1 4))])
 (.seq (.seq (.reg [.p (.fa 0 g6) s10,
  .p (.ld false 1 g10) s11,
  .p (.bin .eql g11 (kc (.tc (.sc (.int .i64 0)))) (G2 20 2 2)) s12])
 (.cond g12 (.seq (.reg [.p (.mv (kc (.tc (.sc (.int .i64 0))))) s4,
  .p (.mv (kc (.tc (.sc (.bool false))))) s5])
 .ret)
 .skip))
 (.seq (.seq (.reg [.p (.fa 4 g6) s13,
  .p (.ld false 1 g13) s14])
 (.cond g14 (.seq (.reg [.p (.fa 10 g2) s15,
  .p (.ld false 1 g15) s16,
  .p (.call 28 [g16] (G2 20 5 2)) s17,
  .p (.mv g1) s18,
  .p (.cv .i64 g18 (G2 20 5 4)) s19,
  .p (.bin .sub g17 g19 (G2 20 5 5)) s20,
  .p (.call 29 [g20] (G2 20 5 6)) s21,
  .p (.mv g21) s4,
  .p (.mv (kc (.tc (.sc (.bool true))))) s5])
 .ret)
 .skip))
 (.seq (.reg [.p (.fa 10 g2) s22,
  .p (.ld false 1 g22) s23,
  .p (.mv g23) s4,
  .p (.mv (kc (.tc (.sc (.bool true))))) s5])
 .ret))))),
 [.tmp g4, .tmp g5]⟩
theorem ff20_ok : compF SBase 20 = ff20 := by kernel_rfl
noncomputable def ff22 : FF := .t2 ⟨37,
 (.seq (.reg [.p (.al 5 [(.sc (.int .i64 0)), (.sc (.int .i64 0)), (.sc (.bool false)), (.sc (.bool false)), (.sc (.bool false))]) s2])
 (.seq (.seq (.reg [.p (.mv g0) s3])
 (.block 0 (.seq (.seq (.reg [.p (.bin .eql g3 (kc (.tc (.sc (.int .u8 7)))) (G2 22 2 0)) s5,
  .p (.mv g5) s4])
 (.cond g4 .skip
 (.seq (.reg [.p (.bin .eql g3 (kc (.tc (.sc (.int .u8 8)))) (G2 22 3 0)) s6,
  .p (.mv g6) s4])
 (.cond g4 .skip
 (.reg [.p (.bin .eql g3 (kc (.tc (.sc (.int .u8 13)))) (G2 22 4 0)) s7,
  .p (.mv g7) s4])))))
 (.cond g4 (.seq (.reg [.p (.bd [(.tc (.sc (.int .i64 0))), (.tc (.sc (.int .i64 0))), (.tc (.sc (.bool false))), (.tc (.sc (.bool false))), (.tc (.sc (.bool false)))] [(.mk 0 1 (kc (.tc (.sc (.int .i64 14))))), (.mk 2 1 (kc (.tc (.sc (.bool true))))), (.mk 3 1 (kc (.tc (.sc (.bool true)))))] (G2 22 5 0)) s8,
  .n (.st 5 g2 g8 (G2 22 5 1))])
 .ret)
 (.seq (.seq (.reg [.p (.bin .eql g3 (kc (.tc (.sc (.int .u8 15)))) (G2 22 6 0)) s10,
  .p (.mv g10) s9])
 (.cond g9 .skip
 (.seq (.reg [.p (.bin .eql g3 (kc (.tc (.sc (.int .u8 16)))) (G2 22 7 0)) s11,
  .p (.mv g11) s9])
 (.cond g9 .skip
 (.reg [.p (.bin .eql g3 (kc (.tc (.sc (.int .u8 17)))) (G2 22 8 0)) s12,
  .p (.mv g12) s9])))))
 (.cond g9 (.seq (.reg [.p (.bd [(.tc (.sc (.int .i64 0))), (.tc (.sc (.int .i64 0))), (.tc (.sc (.bool false))), (.tc (.sc (.bool false))), (.tc (.sc (.bool false)))] [(.mk 0 1 (kc (.tc (.sc (.int .i64 5)))))] (G2 22 9 0)) s13,
  .n (.st 5 g2 g13 (G2 22 9 1))])
 .ret)
 (.seq (.seq (.reg [.p (.bin .eql g3 (kc (.tc (.sc (.int .u8 21)))) (G2 22 10 0)) s15,
  .p (.mv g15) s14])
 (.cond g14 .skip
 (.reg [.p (.bin .eql g3 (kc (.tc (.sc (.int .u8 24)))) (G2 22 11 0)) s16,
  .p (.mv g16) s14])))
 (.cond g14 (.seq (.reg [.p (.bd [(.tc (.sc (.int .i64 0))), (.tc (.sc (.int .i64 0))), (.tc (.sc (.bool false))), (.tc (.sc (.bool false))), (.tc (.sc (.bool false)))] [(.mk 0 1 (kc (.tc (.sc (.int .i64 12))))), (.mk 1 1 (kc (.tc (.sc (.int .i64 2))))), (.mk 2 1 (kc (.tc (.sc (.bool true))))), (.mk 3 1 (kc (.tc (.sc (.bool true)))))] (G2 22 12 0)) s17,
  .n (.st 5 g2 g17 (G2 22 12 1))])
 .ret)
 (.seq (.seq (.reg [.p (.bin .eql g3 (kc (.tc (.sc (.int .u8 22)))) (G2 22 13 0)) s19,
  .p (.mv g19) s18])
 (.cond g18 .skip
 (.reg [.p (.bin .eql g3 (kc (.tc (.sc (.int .u8 25)))) (G2 22 14 0)) s20,
  .p (.mv g20) s18])))
 (.cond g18 (.seq (.reg [.p (.bd [(.tc (.sc (.int .i64 0))), (.tc (.sc (.int .i64 0))), (.tc (.sc (.bool false))), (.tc (.sc (.bool false))), (.tc (.sc (.bool false)))] [(.mk 0 1 (kc (.tc (.sc (.int .i64 12))))), (.mk 1 1 (kc (.tc (.sc (.int .i64 1))))), (.mk 2 1 (kc (.tc (.sc (.bool true))))), (.mk 3 1 (kc (.tc (.sc (.bool true)))))] (G2 22 15 0)) s21,
  .n (.st 5 g2 g21 (G2 22 15 1))])
 .ret)
 (.seq (.seq (.reg [.p (.bin .eql g3 (kc (.tc (.sc (.int .u8 23)))) (G2 22 16 0)) s23,
  .p (.mv g23) s22])
 (.cond g22 .skip
 (.reg [.p (.bin .eql g3 (kc (.tc (.sc (.int .u8 26)))) (G2 22 17 0)) s24,
  .p (.mv g24) s22])))
 (.cond g22 (.seq (.reg [.p (.bd [(.tc (.sc (.int .i64 0))), (.tc (.sc (.int .i64 0))), (.tc (.sc (.bool false))), (.tc (.sc (.bool false))), (.tc (.sc (.bool false)))] [(.mk 0 1 (kc (.tc (.sc (.int .i64 12))))), (.mk 2 1 (kc (.tc (.sc (.bool true))))), (.mk 3 1 (kc (.tc (.sc (.bool true)))))] (G2 22 18 0)) s25,
  .n (.st 5 g2 g25 (G2 22 18 1))])
 .ret)
 (.seq (.reg [.p (.bin .eql g3 (kc (.tc (.sc (.int .u8 27)))) (G2 22 19 0)) s27,
  .p (.mv g27) s26])
 (.cond g26 (.seq (.reg [.p (.bd [(.tc (.sc (.int .i64 0))), (.tc (.sc (.int .i64 0))), (.tc (.sc (.bool false))), (.tc (.sc (.bool false))), (.tc (.sc (.bool false)))] [(.mk 0 1 (kc (.tc (.sc (.int .i64 19))))), (.mk 1 1 (kc (.tc (.sc (.int .i64 2))))), (.mk 2 1 (kc (.tc (.sc (.bool true))))), (.mk 3 1 (kc (.tc (.sc (.bool true))))), (.mk 4 1 (kc (.tc (.sc (.bool true)))))] (G2 22 20 0)) s28,
  .n (.st 5 g2 g28 (G2 22 20 1))])
 .ret)
 (.seq (.reg [.p (.bin .eql g3 (kc (.tc (.sc (.int .u8 29)))) (G2 22 21 0)) s30,
  .p (.mv g30) s29])
 (.cond g29 (.seq (.reg [.p (.bd [(.tc (.sc (.int .i64 0))), (.tc (.sc (.int .i64 0))), (.tc (.sc (.bool false))), (.tc (.sc (.bool false))), (.tc (.sc (.bool false)))] [(.mk 0 1 (kc (.tc (.sc (.int .i64 24))))), (.mk 1 1 (kc (.tc (.sc (.int .i64 2))))), (.mk 2 1 (kc (.tc (.sc (.bool true))))), (.mk 3 1 (kc (.tc (.sc (.bool true))))), (.mk 4 1 (kc (.tc (.sc (.bool true)))))] (G2 22 22 0)) s31,
  .n (.st 5 g2 g31 (G2 22 22 1))])
 .ret)
 (.seq (.seq (.reg [.p (.bin .eql g3 (kc (.tc (.sc (.int .u8 30)))) (G2 22 23 0)) s33,
  .p (.mv g33) s32])
 (.cond g32 .skip
 (.reg [.p (.bin .eql g3 (kc (.tc (.sc (.int .u8 31)))) (G2 22 24 0)) s34,
  .p (.mv g34) s32])))
 (.cond g32 (.seq (.reg [.p (.bd [(.tc (.sc (.int .i64 0))), (.tc (.sc (.int .i64 0))), (.tc (.sc (.bool false))), (.tc (.sc (.bool false))), (.tc (.sc (.bool false)))] [(.mk 0 1 (kc (.tc (.sc (.int .i64 12))))), (.mk 1 1 (kc (.tc (.sc (.int .i64 2))))), (.mk 2 1 (kc (.tc (.sc (.bool true))))), (.mk 3 1 (kc (.tc (.sc (.bool true))))), (.mk 4 1 (kc (.tc (.sc (.bool true)))))] (G2 22 25 0)) s35,
  .n (.st 5 g2 g35 (G2 22 25 1))])
 .ret)
 .skip))))))))))))))))))
 (.seq (.reg [.p (.bd [(.tc (.sc (.int .i64 0))), (.tc (.sc (.int .i64 0))), (.tc (.sc (.bool false))), (.tc (.sc (.bool false))), (.tc (.sc (.bool false)))] [] (G2 22 26 0)) s36,
  .n (.st 5 g2 g36 (G2 22 26 1))])
 .ret))),
 [.cell g2 true 5]⟩
theorem ff22_ok : compF SBase 22 = ff22 := by kernel_rfl
noncomputable def ff28 : FF := .t2 ⟨10,
 (.seq (.reg [.p (.mv (kc (.tc (.sc (.int .i64 0))))) s2])
 (.seq (.reg [.p (.mv g0) s3,
  .p (.bin .rem g3 (kc (.tc (.sc (.int .i64 4294967296)))) (G2 28 1 1)) s4,
  .p (.mv g4) s0])
 (.seq (.seq (.reg [.p (.mv g0) s5,
  .p (.bin .lss g5 (kc (.tc (.sc (.int .i64 0)))) (G2 28 2 1)) s6])
 (.cond g6 (.reg [.p (.mv g0) s7,
  .p (.bin .add g7 (kc (.tc (.sc (.int .i64 4294967296)))) (G2 28 3 1)) s8,
  .p (.mv g8) s0])
 .skip))
 (.seq (.reg [.p (.mv g0) s9,
  .p (.mv g9) s2])
 .ret)))),
 [.tmp g2]⟩
theorem ff28_ok : compF SBase 28 = ff28 := by kernel_rfl
noncomputable def ff29 : FF := .t2 ⟨10,
 (.seq (.reg [.p (.mv (kc (.tc (.sc (.int .i64 0))))) s2])
 (.seq (.reg [.p (.mv g0) s3,
  .p (.call 28 [g3] (G2 29 1 1)) s4,
  .p (.mv g4) s0])
 (.seq (.seq (.reg [.p (.mv g0) s5,
  .p (.bin .geq g5 (kc (.tc (.sc (.int .i64 2147483648)))) (G2 29 2 1)) s6])
 (.cond g6 (.reg [.p (.mv g0) s7,
  .p (.bin .sub g7 (kc (.tc (.sc (.int .i64 4294967296)))) (G2 29 3 1)) s8,
  .p (.mv g8) s0])
 .skip))
 (.seq (.reg [.p (.mv g0) s9,
  .p (.mv g9) s2])
 .ret)))),
 [.tmp g2]⟩
theorem ff29_ok : compF SBase 29 = ff29 := by kernel_rfl
noncomputable def ff21 : FF := .t2 ⟨29,
 (.seq (.reg [.p (.bx 11 g0 (G2 21 0 0)) s2,
  .p (.mv (kc (.tc (.sc (.bool false))))) s4])
 (.seq (.reg [.p (.fa 0 g2) s8,
  .p (.ld false 1 g8) s9,
  .p (.call 22 [g9] (G2 21 1 2)) s10,
  .p (.al 5 [(.sc (.int .i64 0)), (.sc (.int .i64 0)), (.sc (.bool false)), (.sc (.bool false)), (.sc (.bool false))]) s5,
  .n (.st 5 g5 g10 (G2 21 1 4))])
 (.seq (.reg [.p (.ld true 11 g2) s12,
  .p (.mv g1) s13,
  .p (.call 20 [g12, g13] (G2 21 2 2)) s14,
  .p (.mv g14) s11,
  .p (.ex g11 0) s15,
  .p (.ex g11 1) s16,
  .p (.mv g15) s6,
  .p (.mv g16) s7])
 (.seq (.reg [.p (.mv g7) s17,
  .p (.nt g17 (G2 21 3 1)) s18,
  .p (.mv g18) s19,
  .gp g19 false (.mv g6) s20,
  .gp g19 false (.fa 0 g5) s21,
  .gp g19 false (.ld false 1 g21) s22,
  .gp g19 false (.fa 1 g5) s23,
  .gp g19 false (.ld false 1 g23) s24,
  .gp g19 false (.fa 2 g5) s25,
  .gp g19 false (.ld false 1 g25) s26,
  .gp g19 false (.call 40 [g20, g22, g24, g26] (G2 21 3 10)) s27,
  .p (.pk g19 (kc (.tc (.sc (.bool true)))) g27) s28,
  .p (.mv g28) s4])
 .ret)))),
 [.tmp g4]⟩
theorem ff21_ok : compF SBase 21 = ff21 := by kernel_rfl
noncomputable def ff40 : FF := .t2 ⟨62,
 (.seq (.reg [.p (.mv (kc (.tc (.sc (.bool false))))) s8])
 (.seq (.seq (.reg [.p (.mv g1) s12,
  .p (.bin .lss g12 (kc (.tc (.sc (.int .i64 1)))) (G2 40 1 1)) s13,
  .p (.mv g13) s14,
  .gp g14 false (.mv g1) s15,
  .gp g14 false (.bin .gtr g15 (kc (.tc (.sc (.int .i64 32)))) (G2 40 1 4)) s16,
  .p (.pk g14 (kc (.tc (.sc (.bool true)))) g16) s17,
  .p (.mv g17) s18,
  .gp g18 false (.mv g2) s19,
  .gp g18 false (.bin .lss g19 (kc (.tc (.sc (.int .i64 0)))) (G2 40 1 8)) s20,
  .p (.pk g18 (kc (.tc (.sc (.bool true)))) g20) s21,
  .p (.mv g21) s22,
  .gp g22 false (.mv g2) s23,
  .gp g22 false (.bin .gtr g23 (kc (.tc (.sc (.int .i64 8)))) (G2 40 1 12)) s24,
  .p (.pk g22 (kc (.tc (.sc (.bool true)))) g24) s25])
 (.cond g25 (.seq (.reg [.p (.mv (kc (.tc (.sc (.bool false))))) s8])
 .ret)
 .skip))
 (.seq (.seq (.reg [.p (.mv (kc (.tc (.sc (.int .i64 0))))) s9])
 (.block 0 (.loop 4294967296 (.seq (.seq (.reg [.p (.mv g9) s26,
  .p (.mv g2) s27,
  .p (.bin .lss g26 g27 (G2 40 4 2)) s28])
 (.cond g28 .skip
 (.exit 0)))
 (.seq (.block 1 (.seq (.seq (.reg [.p (.mv g0) s31,
  .p (.bin .rem g31 (kc (.tc (.sc (.int .i64 2)))) (G2 40 5 1)) s32,
  .p (.bin .neq g32 (kc (.tc (.sc (.int .i64 0)))) (G2 40 5 2)) s33])
 (.cond g33 (.seq (.reg [.p (.mv (kc (.tc (.sc (.bool false))))) s8])
 .ret)
 .skip))
 (.reg [.p (.mv g0) s34,
  .p (.bin .quo g34 (kc (.tc (.sc (.int .i64 2)))) (G2 40 7 1)) s35,
  .p (.mv g35) s0])))
 (.reg [.p (.mv g9) s29,
  .p (.bin .add g29 (kc (.tc (.sc (.int .i64 1)))) (G2 40 8 1)) s30,
  .p (.mv g30) s9]))))))
 (.seq (.reg [.p (.mv (kc (.tc (.sc (.int .i64 1))))) s10])
 (.seq (.seq (.reg [.p (.mv (kc (.tc (.sc (.int .i64 0))))) s11])
 (.block 2 (.loop 4294967296 (.seq (.seq (.reg [.p (.mv g11) s36,
  .p (.mv g1) s37,
  .p (.bin .lss g36 g37 (G2 40 11 2)) s38])
 (.cond g38 .skip
 (.exit 2)))
 (.seq (.block 3 (.reg [.p (.mv g10) s41,
  .p (.bin .mul (kc (.tc (.sc (.int .i64 2)))) g41 (G2 40 12 1)) s42,
  .p (.mv g42) s10]))
 (.reg [.p (.mv g11) s39,
  .p (.bin .add g39 (kc (.tc (.sc (.int .i64 1)))) (G2 40 13 1)) s40,
  .p (.mv g40) s11]))))))
 (.seq (.seq (.reg [.p (.mv g3) s43])
 (.cond g43 (.seq (.reg [.p (.mv g0) s44,
  .p (.mv g10) s45,
  .p (.bin .quo g45 (kc (.tc (.sc (.int .i64 2)))) (G2 40 15 2)) s46,
  .p (.gen (G2 40 15 3)) s47,
  .p (.bin .geq g44 g47 (G2 40 15 4)) s48,
  .p (.mv g48) s49,
  .gp g49 true (.mv g0) s50,
  .gp g49 true (.mv g10) s51,
  .gp g49 true (.bin .quo g51 (kc (.tc (.sc (.int .i64 2)))) (G2 40 15 8)) s52,
  .gp g49 true (.bin .lss g50 g52 (G2 40 15 9)) s53,
  .p (.pk g49 g53 (kc (.tc (.sc (.bool false))))) s54,
  .p (.mv g54) s8])
 .ret)
 .skip))
 (.seq (.reg [.p (.mv g0) s55,
  .p (.bin .geq g55 (kc (.tc (.sc (.int .i64 0)))) (G2 40 16 1)) s56,
  .p (.mv g56) s57,
  .gp g57 true (.mv g0) s58,
  .gp g57 true (.mv g10) s59,
  .gp g57 true (.bin .lss g58 g59 (G2 40 16 5)) s60,
  .p (.pk g57 g60 (kc (.tc (.sc (.bool false))))) s61,
  .p (.mv g61) s8])
 .ret))))))),
 [.tmp g8]⟩
theorem ff40_ok : compF SBase 40 = ff40 := by kernel_rfl
noncomputable def ff23 : FF := .t2 ⟨33,
 (.seq (.reg [.p (.bx 11 g0 (G2 23 0 0)) s2,
  .p (.mv (kc (.tc (.sc (.bool false))))) s4])
 (.seq (.reg [.p (.fa 0 g2) s10,
  .p (.ld false 1 g10) s11,
  .p (.call 38 [g11] (G2 23 1 2)) s12,
  .p (.mv g12) s9,
  .p (.ex g9 0) s13,
  .p (.ex g9 1) s14,
  .p (.al 5 [(.sc (.int .u8 0)), (.sc (.int .i64 0)), (.sc (.int .i64 0)), (.sc (.bool false)), (.sc (.bool false))]) s5,
  .n (.st 5 g5 g13 (G2 23 1 7)),
  .p (.mv g14) s6])
 (.seq (.reg [.p (.ld true 11 g2) s16,
  .p (.mv g1) s17,
  .p (.call 19 [g16, g17] (G2 23 2 2)) s18,
  .p (.mv g18) s15,
  .p (.ex g15 0) s19,
  .p (.ex g15 1) s20,
  .p (.mv g19) s7,
  .p (.mv g20) s8])
 (.seq (.reg [.p (.mv g6) s21,
  .p (.nt g21 (G2 23 3 1)) s22,
  .p (.mv g22) s23,
  .gp g23 false (.mv g7) s24,
  .gp g23 false (.fa 1 g5) s25,
  .gp g23 false (.ld false 1 g25) s26,
  .gp g23 false (.fa 2 g5) s27,
  .gp g23 false (.ld false 1 g27) s28,
  .gp g23 false (.fa 3 g5) s29,
  .gp g23 false (.ld false 1 g29) s30,
  .gp g23 false (.call 41 [g24, g26, g28, g30] (G2 23 3 10)) s31,
  .p (.pk g23 (kc (.tc (.sc (.bool true)))) g31) s32,
  .p (.mv g32) s4])
 .ret)))),
 [.tmp g4]⟩
theorem ff23_ok : compF SBase 23 = ff23 := by kernel_rfl
noncomputable def ff41 : FF := .t2 ⟨48,
 (.seq (.reg [.p (.mv (kc (.tc (.sc (.bool false))))) s8])
 (.seq (.seq (.reg [.p (.mv g1) s9,
  .p (.bin .lss g9 (kc (.tc (.sc (.int .i64 1)))) (G2 41 1 1)) s10,
  .p (.mv g10) s11,
  .gp g11 false (.mv g1) s12,
  .gp g11 false (.bin .gtr g12 (kc (.tc (.sc (.int .i64 32)))) (G2 41 1 4)) s13,
  .p (.pk g11 (kc (.tc (.sc (.bool true)))) g13) s14,
  .p (.mv g14) s15,
  .gp g15 false (.mv g2) s16,
  .gp g15 false (.bin .lss g16 (kc (.tc (.sc (.int .i64 0)))) (G2 41 1 8)) s17,
  .p (.pk g15 (kc (.tc (.sc (.bool true)))) g17) s18,
  .p (.mv g18) s19,
  .gp g19 false (.mv g2) s20,
  .gp g19 false (.bin .gtr g20 (kc (.tc (.sc (.int .i64 8)))) (G2 41 1 12)) s21,
  .p (.pk g19 (kc (.tc (.sc (.bool true)))) g21) s22,
  .p (.mv g22) s23,
  .gp g23 false (.mv g0) s24,
  .gp g23 false (.mv g2) s25,
  .gp g23 false (.bin .shl (kc (.tc (.sc (.int .i64 1)))) g25 (G2 41 1 17)) s26,
  .gp g23 false (.bin .sub g26 (kc (.tc (.sc (.int .i64 1)))) (G2 41 1 18)) s27,
  .gp g23 false (.bin .and g24 g27 (G2 41 1 19)) s28,
  .gp g23 false (.bin .neq g28 (kc (.tc (.sc (.int .i64 0)))) (G2 41 1 20)) s29,
  .p (.pk g23 (kc (.tc (.sc (.bool true)))) g29) s30])
 (.cond g30 (.seq (.reg [.p (.mv (kc (.tc (.sc (.bool false))))) s8])
 .ret)
 .skip))
 (.seq (.reg [.p (.mv g0) s31,
  .p (.mv g2) s32,
  .p (.bin .shr g31 g32 (G2 41 3 2)) s33,
  .p (.mv g33) s0])
 (.seq (.seq (.reg [.p (.mv g3) s34])
 (.cond g34 (.reg [.p (.mv g0) s35,
  .p (.mv g1) s36,
  .p (.bin .sub g36 (kc (.tc (.sc (.int .i64 1)))) (G2 41 5 2)) s37,
  .p (.bin .shl (kc (.tc (.sc (.int .i64 1)))) g37 (G2 41 5 3)) s38,
  .p (.bin .add g35 g38 (G2 41 5 4)) s39,
  .p (.mv g39) s0])
 .skip))
 (.seq (.reg [.p (.mv g0) s40,
  .p (.bin .geq g40 (kc (.tc (.sc (.int .i64 0)))) (G2 41 6 1)) s41,
  .p (.mv g41) s42,
  .gp g42 true (.mv g0) s43,
  .gp g42 true (.mv g1) s44,
  .gp g42 true (.bin .shl (kc (.tc (.sc (.int .i64 1)))) g44 (G2 41 6 5)) s45,
  .gp g42 true (.bin .lss g43 g45 (G2 41 6 6)) s46,
  .p (.pk g42 g46 (kc (.tc (.sc (.bool false))))) s47,
  .p (.mv g47) s8])
 .ret))))),
 [.tmp g8]⟩
theorem ff41_ok : compF SBase 41 = ff41 := by kernel_rfl
noncomputable def ff24 : FF := .t2 ⟨15,
 (.seq (.reg [.p (.mv (kc (.tc (.sc (.bool false))))) s2])
 (.seq (.reg [.p (.mv g0) s6,
  .p (.call 38 [g6] (G2 24 1 1)) s7,
  .p (.mv g7) s5,
  .p (.ex g5 0) s8,
  .p (.ex g5 1) s9,
  .p (.al 5 [(.sc (.int .u8 0)), (.sc (.int .i64 0)), (.sc (.int .i64 0)), (.sc (.bool false)), (.sc (.bool false))]) s3,
  .n (.st 5 g3 g8 (G2 24 1 6)),
  .p (.mv g9) s4])
 (.seq (.reg [.p (.mv g4) s10,
  .p (.mv g10) s11,
  .gp g11 true (.fa 4 g3) s12,
  .gp g11 true (.ld false 1 g12) s13,
  .p (.pk g11 g13 (kc (.tc (.sc (.bool false))))) s14,
  .p (.mv g14) s2])
 .ret))),
 [.tmp g2]⟩
theorem ff24_ok : compF SBase 24 = ff24 := by kernel_rfl
noncomputable def ff25 : FF := .t2 ⟨14,
 (.seq (.reg [.p (.bx 11 g0 (G2 25 0 0)) s2,
  .p (.mv (kc (.tc (.sc (.bool false))))) s4])
 (.seq (.reg [.p (.fa 0 g2) s5,
  .p (.ld false 1 g5) s6,
  .p (.call 24 [g6] (G2 25 1 2)) s7,
  .p (.mv g7) s8,
  .gp g8 true (.ld true 11 g2) s9,
  .gp g8 true (.mv g1) s10,
  .gp g8 true (.call 23 [g9, g10] (G2 25 1 6)) s11,
  .gp g8 true (.nt g11 (G2 25 1 7)) s12,
  .p (.pk g8 g12 (kc (.tc (.sc (.bool false))))) s13,
  .p (.mv g13) s4])
 .ret)),
 [.tmp g4]⟩
theorem ff25_ok : compF SBase 25 = ff25 := by kernel_rfl
noncomputable def ff26 : FF := .t2 ⟨30,
 (.seq (.reg [.p (.mv (kc (.tc (.sc (.bool false))))) s0])
 (.seq (.reg [.p (.bd [(.tc (.sc (.int .u8 0))), (.tc (.sc (.int .u8 0))), (.tc (.sc (.int .u8 0))), (.tc (.sc (.int .u8 0))), (.tc (.sc (.int .u8 0))), (.tc (.sc (.int .u8 0))), (.tc (.sc (.int .u8 0))), (.tc (.sc (.bool false))), (.tc (.sc (.bool false))), (.tc (.sc (.int .u16 0))), (.tc (.sc (.int .i64 0)))] [(.mk 0 1 (kc (.tc (.sc (.int .u8 27))))), (.mk 10 1 (kc (.tc (.sc (.int .i64 8)))))] (G2 26 1 0)) s4,
  .p (.call 19 [g4, (kc (.tc (.sc (.int .u32 12))))] (G2 26 1 1)) s5,
  .p (.mv g5) s3,
  .p (.ex g3 0) s6,
  .p (.ex g3 1) s7,
  .p (.mv g6) s1,
  .p (.mv g7) s2])
 (.seq (.reg [.p (.mv g1) s8,
  .p (.bin .eql g8 (kc (.tc (.sc (.int .i64 (-4))))) (G2 26 2 1)) s9,
  .p (.mv g9) s10,
  .gp g10 true (.mv g2) s11,
  .p (.pk g10 g11 (kc (.tc (.sc (.bool false))))) s12,
  .p (.mv g12) s13,
  .gp g13 true (.call 31 [(kc (.tc (.sc (.int .i64 (-4))))), (kc (.tc (.sc (.int .u32 12))))] (G2 26 2 6)) s14,
  .gp g13 true (.bin .eql g14 (kc (.tc (.sc (.int .i64 8)))) (G2 26 2 7)) s15,
  .p (.pk g13 g15 (kc (.tc (.sc (.bool false))))) s16,
  .p (.mv g16) s17,
  .gp g17 true (.bd [(.tc (.sc (.int .u8 0))), (.tc (.sc (.int .u8 0))), (.tc (.sc (.int .u8 0))), (.tc (.sc (.int .u8 0))), (.tc (.sc (.int .u8 0))), (.tc (.sc (.int .u8 0))), (.tc (.sc (.int .u8 0))), (.tc (.sc (.bool false))), (.tc (.sc (.bool false))), (.tc (.sc (.int .u16 0))), (.tc (.sc (.int .i64 0)))] [(.mk 0 1 (kc (.tc (.sc (.int .u8 8))))), (.mk 10 1 (kc (.tc (.sc (.int .i64 8192)))))] (G2 26 2 10)) s18,
  .gp g17 true (.call 25 [g18, (kc (.tc (.sc (.int .u32 0))))] (G2 26 2 11)) s19,
  .p (.pk g17 g19 (kc (.tc (.sc (.bool false))))) s20,
  .p (.mv g20) s21,
  .gp g21 true (.bd [(.tc (.sc (.int .u8 0))), (.tc (.sc (.int .u8 0))), (.tc (.sc (.int .u8 0))), (.tc (.sc (.int .u8 0))), (.tc (.sc (.int .u8 0))), (.tc (.sc (.int .u8 0))), (.tc (.sc (.int .u8 0))), (.tc (.sc (.bool false))), (.tc (.sc (.bool false))), (.tc (.sc (.int .u16 0))), (.tc (.sc (.int .i64 0)))] [(.mk 0 1 (kc (.tc (.sc (.int .u8 8))))), (.mk 10 1 (kc (.tc (.sc (.int .i64 8191)))))] (G2 26 2 14)) s22,
  .gp g21 true (.call 25 [g22, (kc (.tc (.sc (.int .u32 0))))] (G2 26 2 15)) s23,
  .gp g21 true (.nt g23 (G2 26 2 16)) s24,
  .p (.pk g21 g24 (kc (.tc (.sc (.bool false))))) s25,
  .p (.mv g25) s26,
  .gp g26 true (.call 30 [(kc (.tc (.sc (.int .u32 1)))), (kc (.tc (.sc (.int .u32 255))))] (G2 26 2 19)) s27,
  .gp g26 true (.bin .eql g27 (kc (.tc (.sc (.int .i64 511)))) (G2 26 2 20)) s28,
  .p (.pk g26 g28 (kc (.tc (.sc (.bool false))))) s29,
  .p (.mv g29) s0])
 .ret))),
 [.tmp g0]⟩
theorem ff26_ok : compF SBase 26 = ff26 := by kernel_rfl
noncomputable def ff31 : FF := .t2 ⟨10,
 (.seq (.reg [.p (.mv (kc (.tc (.sc (.int .i64 0))))) s4])
 (.seq (.reg [.p (.mv g1) s5,
  .p (.mv g0) s6,
  .p (.cv .u32 g6 (G2 31 1 2)) s7,
  .p (.bin .add g5 g7 (G2 31 1 3)) s8,
  .p (.cv .i64 g8 (G2 31 1 4)) s9,
  .p (.mv g9) s4])
 .ret)),
 [.tmp g4]⟩
theorem ff31_ok : compF SBase 31 = ff31 := by kernel_rfl
noncomputable def ff30 : FF := .t2 ⟨12,
 (.seq (.reg [.p (.mv (kc (.tc (.sc (.int .i64 0))))) s4])
 (.seq (.reg [.p (.mv g0) s6,
  .p (.call 43 [(kc (.tc (.sc (.int .u32 0)))), (kc (.tc (.sc (.int .i64 8)))), (kc (.tc (.sc (.int .i64 24)))), g6] (G2 30 1 1)) s7,
  .p (.mv g7) s5])
 (.seq (.reg [.p (.mv g5) s8,
  .p (.mv g1) s9,
  .p (.call 43 [g8, (kc (.tc (.sc (.int .i64 0)))), (kc (.tc (.sc (.int .i64 8)))), g9] (G2 30 2 2)) s10,
  .p (.call 39 [g10, (kc (.tc (.sc (.int .i64 32))))] (G2 30 2 3)) s11,
  .p (.mv g11) s4])
 .ret))),
 [.tmp g4]⟩
theorem ff30_ok : compF SBase 30 = ff30 := by kernel_rfl
noncomputable def ff43 : FF := .t2 ⟨21,
 (.seq (.reg [.p (.mv (kc (.tc (.sc (.int .u32 0))))) s8])
 (.seq (.reg [.p (.mv g1) s10,
  .p (.mv g2) s11,
  .p (.bd [(.tc (.sc (.int .i64 0))), (.tc (.sc (.int .i64 0)))] [(.mk 0 1 g10), (.mk 1 1 g11)] (G2 43 1 2)) s12,
  .p (.al 2 [(.sc (.int .i64 0)), (.sc (.int .i64 0))]) s9,
  .n (.st 2 g9 g12 (G2 43 1 4))])
 (.seq (.seq (.reg [.p (.ld true 2 g9) s13,
  .p (.call 54 [g13] (G2 43 2 1)) s14,
  .p (.nt g14 (G2 43 2 2)) s15])
 (.cond g15 (.seq (.reg [.p (.mv g0) s16,
  .p (.mv g16) s8])
 .ret)
 .skip))
 (.seq (.reg [.p (.ld true 2 g9) s17,
  .p (.mv g0) s18,
  .p (.mv g3) s19,
  .p (.call 55 [g17, g18, g19] (G2 43 4 3)) s20,
  .p (.mv g20) s8])
 .ret)))),
 [.tmp g8]⟩
theorem ff43_ok : compF SBase 43 = ff43 := by kernel_rfl
noncomputable def ff54 : FF := .t2 ⟨24,
 (.seq (.reg [.p (.bx 2 g0 (G2 54 0 0)) s1,
  .p (.mv (kc (.tc (.sc (.bool false))))) s2])
 (.seq (.reg [.p (.fa 0 g1) s3,
  .p (.ld false 1 g3) s4,
  .p (.bin .geq g4 (kc (.tc (.sc (.int .i64 0)))) (G2 54 1 2)) s5,
  .p (.mv g5) s6,
  .gp g6 true (.fa 1 g1) s7,
  .gp g6 true (.ld false 1 g7) s8,
  .gp g6 true (.bin .geq g8 (kc (.tc (.sc (.int .i64 0)))) (G2 54 1 6)) s9,
  .p (.pk g6 g9 (kc (.tc (.sc (.bool false))))) s10,
  .p (.mv g10) s11,
  .gp g11 true (.fa 0 g1) s12,
  .gp g11 true (.ld false 1 g12) s13,
  .gp g11 true (.bin .leq g13 (kc (.tc (.sc (.int .i64 32)))) (G2 54 1 11)) s14,
  .p (.pk g11 g14 (kc (.tc (.sc (.bool false))))) s15,
  .p (.mv g15) s16,
  .gp g16 true (.fa 1 g1) s17,
  .gp g16 true (.ld false 1 g17) s18,
  .gp g16 true (.fa 0 g1) s19,
  .gp g16 true (.ld false 1 g19) s20,
  .gp g16 true (.bin .sub (kc (.tc (.sc (.int .i64 32)))) g20 (G2 54 1 18)) s21,
  .gp g16 true (.bin .leq g18 g21 (G2 54 1 19)) s22,
  .p (.pk g16 g22 (kc (.tc (.sc (.bool false))))) s23,
  .p (.mv g23) s2])
 .ret)),
 [.tmp g2]⟩
theorem ff54_ok : compF SBase 54 = ff54 := by kernel_rfl
noncomputable def ff55 : FF := .t2 ⟨26,
 (.seq (.reg [.p (.bx 2 g0 (G2 55 0 0)) s3,
  .p (.mv (kc (.tc (.sc (.int .u32 0))))) s6])
 (.seq (.seq (.reg [.p (.fa 1 g3) s7,
  .p (.ld false 1 g7) s8,
  .p (.bin .eql g8 (kc (.tc (.sc (.int .i64 0)))) (G2 55 1 2)) s9])
 (.cond g9 (.seq (.reg [.p (.mv g1) s10,
  .p (.mv g10) s6])
 .ret)
 .skip))
 (.seq (.regD [0, 0, 2, 0, 8, 30, 63, 0, 0, 262, 902, 0, 2048, 8070, 16383, 32767] [.no, (.rd (.ld true 2 g3) g12), .no, .no, (.rd (.ld false 1 g14) g15), .no, .no, .no, (.rd (.ld true 2 g3) g19), .no, .no, .no, (.rd (.ld false 1 g22) g23), .no, .no, .no] [.mk .none .yes (.mv g1) (.mv g1) (some s11),
  .mk .none .yes (.ld true 2 g3) (.ld true 2 g3) (some s12),
  .mk .none (.dyn 57 [g12]) (.call 57 [g12] (G2 55 3 2)) (.call 57 [g12] (G2 55 3 2)) (some s13),
  .mk .none .yes (.fa 0 g3) (.fa 0 g3) (some s14),
  .mk .none .yes (.ld false 1 g14) (.ld false 1 g14) (some s15),
  .mk .none .yes (.bin .shl g13 g15 (G2 55 3 5)) (.bin .shl g13 g15 (G2 55 3 5)) (some s16),
  .mk .none .yes (.bin .andNot g11 g16 (G2 55 3 6)) (.bin .andNot g11 g16 (G2 55 3 6)) (some s17),
  .mk .none .yes (.mv g2) (.mv g2) (some s18),
  .mk .none .yes (.ld true 2 g3) (.ld true 2 g3) (some s19),
  .mk .none (.dyn 57 [g19]) (.call 57 [g19] (G2 55 3 9)) (.call 57 [g19] (G2 55 3 9)) (some s20),
  .mk .none .yes (.bin .and g18 g20 (G2 55 3 10)) (.bin .and g18 g20 (G2 55 3 10)) (some s21),
  .mk .none .yes (.fa 0 g3) (.fa 0 g3) (some s22),
  .mk .none .yes (.ld false 1 g22) (.ld false 1 g22) (some s23),
  .mk .none .yes (.bin .shl g21 g23 (G2 55 3 13)) (.bin .shl g21 g23 (G2 55 3 13)) (some s24),
  .mk .none .yes (.bin .or g17 g24 (G2 55 3 14)) (.bin .or g17 g24 (G2 55 3 14)) (some s25),
  .mk .none .yes (.mv g25) (.mv g25) (some s6)])
 .ret))),
 [.tmp g6]⟩
theorem ff55_ok : compF SBase 55 = ff55 := by kernel_rfl
noncomputable def ff7 : FF := .t3 ⟨68,
 (.seq (.reg [.p (.mv (kc (.tc (.sc (.bool false))))) (i0 s8)])
 (.seq (.reg [.p (.bs 1 4 [[(.tc (.sc (.int .u8 0)))], [(.tc (.sc (.int .u8 0)))], [(.tc (.sc (.int .u8 0)))], [(.tc (.sc (.int .u8 0)))]] [(.mk 0 1 (kc (.tc (.sc (.int .u8 27))))), (.mk 1 1 (kc (.tc (.sc (.int .u8 29))))), (.mk 2 1 (kc (.tc (.sc (.int .u8 30))))), (.mk 3 1 (kc (.tc (.sc (.int .u8 31)))))] (G3 7 1 0)) (i0 s16),
  .p (.mv (h0 g16)) (i0 s9)])
 (.seq (.reg [.p (.mv (h0 g9)) (i0 s17),
  .p (.mv (h0 g3)) (i0 s18),
  .p (.bin .rem (h0 g18) (kc (.tc (.sc (.int .u8 4)))) (G3 7 2 2)) (i0 s19),
  .p (.ia 1 (h0 g17) (h0 g19) (G3 7 2 3)) (i0 s20),
  .p (.ld false 1 (h0 g20)) (i0 s21),
  .p (.mv (h0 g0)) (i0 s22),
  .p (.cv .i64 (h0 g22) (G3 7 2 6)) (i0 s23),
  .p (.bd [(.tc (.sc (.int .u8 0))), (.tc (.sc (.int .u8 0))), (.tc (.sc (.int .u8 0))), (.tc (.sc (.int .u8 0))), (.tc (.sc (.int .u8 0))), (.tc (.sc (.int .u8 0))), (.tc (.sc (.int .u8 0))), (.tc (.sc (.bool false))), (.tc (.sc (.bool false))), (.tc (.sc (.int .u16 0))), (.tc (.sc (.int .i64 0)))] [(.mk 0 1 (h0 g21)), (.mk 10 1 (h0 g23))] (G3 7 2 7)) (i0 s24),
  .p (.al 11 [(.sc (.int .u8 0)), (.sc (.int .u8 0)), (.sc (.int .u8 0)), (.sc (.int .u8 0)), (.sc (.int .u8 0)), (.sc (.int .u8 0)), (.sc (.int .u8 0)), (.sc (.bool false)), (.sc (.bool false)), (.sc (.int .u16 0)), (.sc (.int .i64 0))]) (i0 s10),
  .n (.st 11 (h0 g10) (h0 g24) (G3 7 2 9))])
 (.seq (.reg [.p (.ld true 11 (h0 g10)) (i0 s25),
  .p (.al 11 [(.sc (.int .u8 0)), (.sc (.int .u8 0)), (.sc (.int .u8 0)), (.sc (.int .u8 0)), (.sc (.int .u8 0)), (.sc (.int .u8 0)), (.sc (.int .u8 0)), (.sc (.bool false)), (.sc (.bool false)), (.sc (.int .u16 0)), (.sc (.int .i64 0))]) (i0 s11),
  .n (.st 11 (h0 g11) (h0 g25) (G3 7 3 2))])
 (.seq (.reg [.p (.mv (h0 g0)) (i0 s26),
  .p (.mv (h0 g2)) (i0 s27),
  .p (.bin .add (h0 g26) (h0 g27) (G3 7 4 2)) (i0 s28),
  .p (.cv .i64 (h0 g28) (G3 7 4 3)) (i0 s29),
  .p (.fa 10 (h0 g11)) (i0 s30),
  .n (.st 1 (h0 g30) (h0 g29) (G3 7 4 5))])
 (.seq (.reg [.p (.ld true 11 (h0 g10)) (i0 s32),
  .p (.mv (h0 g1)) (i0 s33),
  .p (.call 19 [(h0 g32), (h0 g33)] (G3 7 5 2)) (i0 s34),
  .p (.mv (h0 g34)) (i0 s31),
  .p (.ex (h0 g31) 0) (i0 s35),
  .p (.ex (h0 g31) 1) (i0 s36),
  .p (.mv (h0 g35)) (i0 s12),
  .p (.mv (h0 g36)) (i0 s13)])
 (.seq (.reg [.p (.ld true 11 (h0 g11)) (i0 s38),
  .p (.mv (h0 g1)) (i0 s39),
  .p (.mv (h0 g2)) (i0 s40),
  .p (.bin .add (h0 g39) (h0 g40) (G3 7 6 3)) (i0 s41),
  .p (.call 19 [(h0 g38), (h0 g41)] (G3 7 6 4)) (i0 s42),
  .p (.mv (h0 g42)) (i0 s37),
  .p (.ex (h0 g37) 0) (i0 s43),
  .p (.ex (h0 g37) 1) (i0 s44),
  .p (.mv (h0 g43)) (i0 s14),
  .p (.mv (h0 g44)) (i0 s15)])
 (.seq (.regD [0, 1, 3, 7, 15, 31, 31, 127, 255, 511, 1023, 1023, 4095, 1023, 1023, 1023, 50175, 131071, 262143, 524287, 1048575, 2097151, 4194303, 8388607] [.no, .no, .no, .no, .no, .no, .no, .no, .no, .no, (.rd (.ld true 11 (h0 g10)) (h0 g55)), .no, .no, (.rd (.ld true 11 (h0 g11)) (h0 g58)), .no, .no, .no, .no, .no, .no, .no, .no, .no, .no] [.mk .none .yes (.mv (h0 g13)) (.mv (h0 g13)) (some (i0 s45)),
  .mk .none .yes (.mv (h0 g45)) (.mv (h0 g45)) (some (i0 s46)),
  .mk (.on (h0 g46) true) .yes (.mv (h0 g15)) (.mv (h0 g15)) (some (i0 s47)),
  .mk .none .yes (.pk (h0 g46) (h0 g47) (kc (.tc (.sc (.bool false))))) (.pk (h0 g46) (h0 g47) (kc (.tc (.sc (.bool false))))) (some (i0 s48)),
  .mk .none .yes (.mv (h0 g48)) (.mv (h0 g48)) (some (i0 s49)),
  .mk (.on (h0 g49) true) .yes (.mv (h0 g12)) (.mv (h0 g12)) (some (i0 s50)),
  .mk (.on (h0 g49) true) .yes (.mv (h0 g14)) (.mv (h0 g14)) (some (i0 s51)),
  .mk (.on (h0 g49) true) .yes (.bin .eql (h0 g50) (h0 g51) (G3 7 7 7)) (.bin .eql (h0 g50) (h0 g51) (G3 7 7 7)) (some (i0 s52)),
  .mk .none .yes (.pk (h0 g49) (h0 g52) (kc (.tc (.sc (.bool false))))) (.pk (h0 g49) (h0 g52) (kc (.tc (.sc (.bool false))))) (some (i0 s53)),
  .mk .none .yes (.mv (h0 g53)) (.mv (h0 g53)) (some (i0 s54)),
  .mk (.on (h0 g54) true) .yes (.ld true 11 (h0 g10)) (.ld true 11 (h0 g10)) (some (i0 s55)),
  .mk (.on (h0 g54) true) .yes (.mv (h0 g1)) (.mv (h0 g1)) (some (i0 s56)),
  .mk (.on (h0 g54) true) (.dyn 23 [(h0 g55), (h0 g56)]) (.call 23 [(h0 g55), (h0 g56)] (G3 7 7 12)) (.call 23 [(h0 g55), (h0 g56)] (G3 7 7 12)) (some (i0 s57)),
  .mk (.on (h0 g54) true) .yes (.ld true 11 (h0 g11)) (.ld true 11 (h0 g11)) (some (i0 s58)),
  .mk (.on (h0 g54) true) .yes (.mv (h0 g1)) (.mv (h0 g1)) (some (i0 s59)),
  .mk (.on (h0 g54) true) .yes (.mv (h0 g2)) (.mv (h0 g2)) (some (i0 s60)),
  .mk (.on (h0 g54) true) .yes (.bin .add (h0 g59) (h0 g60) (G3 7 7 16)) (.bin .add (h0 g59) (h0 g60) (G3 7 7 16)) (some (i0 s61)),
  .mk (.on (h0 g54) true) (.dyn 23 [(h0 g58), (h0 g61)]) (.call 23 [(h0 g58), (h0 g61)] (G3 7 7 17)) (.call 23 [(h0 g58), (h0 g61)] (G3 7 7 17)) (some (i0 s62)),
  .mk (.on (h0 g54) true) .yes (.bin .eql (h0 g57) (h0 g62) (G3 7 7 18)) (.bin .eql (h0 g57) (h0 g62) (G3 7 7 18)) (some (i0 s63)),
  .mk .none .yes (.pk (h0 g54) (h0 g63) (kc (.tc (.sc (.bool false))))) (.pk (h0 g54) (h0 g63) (kc (.tc (.sc (.bool false))))) (some (i1 s0)),
  .mk .none .yes (.mv (h1 g0)) (.mv (h1 g0)) (some (i1 s1)),
  .mk (.on (h1 g1) true) (.dyn 26 []) (.call 26 [] (G3 7 7 21)) (.call 26 [] (G3 7 7 21)) (some (i1 s2)),
  .mk .none .yes (.pk (h1 g1) (h1 g2) (kc (.tc (.sc (.bool false))))) (.pk (h1 g1) (h1 g2) (kc (.tc (.sc (.bool false))))) (some (i1 s3)),
  .mk .none .yes (.mv (h1 g3)) (.mv (h1 g3)) (some (i0 s8))])
 .ret)))))))),
 [.tmp (h0 g8)]⟩
theorem ff7_ok : compF SBase 7 = ff7 := by kernel_rfl
noncomputable def ff8 : FF := .t3 ⟨65,
 (.seq (.reg [.p (.mv (kc (.tc (.sc (.bool false))))) (i0 s8)])
 (.seq (.reg [.p (.mv (h0 g0)) (i0 s15),
  .p (.call 27 [(h0 g15)] (G3 8 1 1)) (i0 s16),
  .p (.mv (h0 g16)) (i0 s14),
  .p (.ex (h0 g14) 0) (i0 s17),
  .p (.ex (h0 g14) 1) (i0 s18),
  .p (.mv (h0 g17)) (i0 s9),
  .p (.mv (h0 g18)) (i0 s10)])
 (.seq (.reg [.p (.mv (h0 g0)) (i0 s19),
  .p (.call 28 [(h0 g19)] (G3 8 2 1)) (i0 s20),
  .p (.mv (h0 g20)) (i0 s11)])
 (.seq (.reg [.p (.mv (h0 g1)) (i0 s21),
  .p (.bin .rem (h0 g21) (kc (.tc (.sc (.int .u32 16777216)))) (G3 8 3 1)) (i0 s22),
  .p (.cv .i64 (h0 g22) (G3 8 3 2)) (i0 s23),
  .p (.bin .mul (h0 g23) (kc (.tc (.sc (.int .i64 256)))) (G3 8 3 3)) (i0 s24),
  .p (.mv (h0 g2)) (i0 s25),
  .p (.bin .rem (h0 g25) (kc (.tc (.sc (.int .u32 256)))) (G3 8 3 5)) (i0 s26),
  .p (.cv .i64 (h0 g26) (G3 8 3 6)) (i0 s27),
  .p (.bin .add (h0 g24) (h0 g27) (G3 8 3 7)) (i0 s28),
  .p (.call 29 [(h0 g28)] (G3 8 3 8)) (i0 s29),
  .p (.mv (h0 g29)) (i0 s12)])
 (.seq (.reg [.p (.mv (h0 g0)) (i0 s30),
  .p (.bin .rem (h0 g30) (kc (.tc (.sc (.int .i64 1099511627776)))) (G3 8 4 1)) (i0 s31),
  .p (.mv (h0 g31)) (i0 s13)])
 (.seq (.reg [.p (.mv (h0 g9)) (i0 s32),
  .p (.cv .i64 (h0 g32) (G3 8 5 1)) (i0 s33),
  .p (.mv (h0 g11)) (i0 s34),
  .p (.bin .quo (h0 g34) (kc (.tc (.sc (.int .i64 256)))) (G3 8 5 3)) (i0 s35),
  .p (.bin .eql (h0 g33) (h0 g35) (G3 8 5 4)) (i0 s36),
  .p (.mv (h0 g36)) (i0 s37),
  .gp (h0 g37) true (.mv (h0 g10)) (i0 s38),
  .gp (h0 g37) true (.cv .i64 (h0 g38) (G3 8 5 7)) (i0 s39),
  .gp (h0 g37) true (.mv (h0 g11)) (i0 s40),
  .gp (h0 g37) true (.bin .rem (h0 g40) (kc (.tc (.sc (.int .i64 256)))) (G3 8 5 9)) (i0 s41),
  .gp (h0 g37) true (.bin .eql (h0 g39) (h0 g41) (G3 8 5 10)) (i0 s42),
  .p (.pk (h0 g37) (h0 g42) (kc (.tc (.sc (.bool false))))) (i0 s43),
  .p (.mv (h0 g43)) (i0 s44),
  .gp (h0 g44) true (.mv (h0 g1)) (i0 s45),
  .gp (h0 g44) true (.mv (h0 g2)) (i0 s46),
  .gp (h0 g44) true (.call 30 [(h0 g45), (h0 g46)] (G3 8 5 15)) (i0 s47),
  .gp (h0 g44) true (.mv (h0 g12)) (i0 s48),
  .gp (h0 g44) true (.bin .eql (h0 g47) (h0 g48) (G3 8 5 17)) (i0 s49),
  .p (.pk (h0 g44) (h0 g49) (kc (.tc (.sc (.bool false))))) (i0 s50),
  .p (.mv (h0 g50)) (i0 s51),
  .gp (h0 g51) true (.mv (h0 g13)) (i0 s52),
  .gp (h0 g51) true (.mv (h0 g3)) (i0 s53),
  .gp (h0 g51) true (.call 31 [(h0 g52), (h0 g53)] (G3 8 5 22)) (i0 s54),
  .gp (h0 g51) true (.mv (h0 g3)) (i0 s55),
  .gp (h0 g51) true (.cv .i64 (h0 g55) (G3 8 5 24)) (i0 s56),
  .gp (h0 g51) true (.mv (h0 g13)) (i0 s57),
  .gp (h0 g51) true (.bin .add (h0 g56) (h0 g57) (G3 8 5 26)) (i0 s58),
  .gp (h0 g51) true (.call 28 [(h0 g58)] (G3 8 5 27)) (i0 s59),
  .gp (h0 g51) true (.bin .eql (h0 g54) (h0 g59) (G3 8 5 28)) (i0 s60),
  .p (.pk (h0 g51) (h0 g60) (kc (.tc (.sc (.bool false))))) (i0 s61),
  .p (.mv (h0 g61)) (i0 s62),
  .gp (h0 g62) true (.call 26 [] (G3 8 5 31)) (i0 s63),
  .p (.pk (h0 g62) (h0 g63) (kc (.tc (.sc (.bool false))))) (i1 s0),
  .p (.mv (h1 g0)) (i0 s8)])
 .ret)))))),
 [.tmp (h0 g8)]⟩
theorem ff8_ok : compF SBase 8 = ff8 := by kernel_rfl
noncomputable def ff27 : FF := .t2 ⟨11,
 (.seq (.reg [.p (.mv (kc (.tc (.sc (.int .u32 0))))) s2,
  .p (.mv (kc (.tc (.sc (.int .u32 0))))) s3])
 (.seq (.reg [.p (.mv g0) s5,
  .p (.cv .u32 g5 (G2 27 1 1)) s6,
  .p (.mv g6) s4])
 (.seq (.reg [.p (.mv g4) s7,
  .p (.call 42 [g7, (kc (.tc (.sc (.int .i64 8)))), (kc (.tc (.sc (.int .i64 24))))] (G2 27 2 1)) s8,
  .p (.mv g4) s9,
  .p (.call 42 [g9, (kc (.tc (.sc (.int .i64 0)))), (kc (.tc (.sc (.int .i64 8))))] (G2 27 2 3)) s10,
  .p (.mv g8) s2,
  .p (.mv g10) s3])
 .ret))),
 [.tmp g2, .tmp g3]⟩
theorem ff27_ok : compF SBase 27 = ff27 := by kernel_rfl
noncomputable def ff42 : FF := .t2 ⟨17,
 (.seq (.reg [.p (.mv (kc (.tc (.sc (.int .u32 0))))) s6])
 (.seq (.reg [.p (.mv g1) s8,
  .p (.mv g2) s9,
  .p (.bd [(.tc (.sc (.int .i64 0))), (.tc (.sc (.int .i64 0)))] [(.mk 0 1 g8), (.mk 1 1 g9)] (G2 42 1 2)) s10,
  .p (.al 2 [(.sc (.int .i64 0)), (.sc (.int .i64 0))]) s7,
  .n (.st 2 g7 g10 (G2 42 1 4))])
 (.seq (.seq (.reg [.p (.ld true 2 g7) s11,
  .p (.call 54 [g11] (G2 42 2 1)) s12,
  .p (.nt g12 (G2 42 2 2)) s13])
 (.cond g13 (.seq (.reg [.p (.mv (kc (.tc (.sc (.int .u32 0))))) s6])
 .ret)
 .skip))
 (.seq (.reg [.p (.ld true 2 g7) s14,
  .p (.mv g0) s15,
  .p (.call 53 [g14, g15] (G2 42 4 2)) s16,
  .p (.mv g16) s6])
 .ret)))),
 [.tmp g6]⟩
theorem ff42_ok : compF SBase 42 = ff42 := by kernel_rfl
noncomputable def ff9 : FF := .t3 ⟨139,
 (.seq (.reg [.p (.bx 11 (h0 g3) (G3 9 0 0)) (i0 s8),
  .p (.mv (kc (.tc (.sc (.bool false))))) (i0 s10)])
 (.seq (.reg [.p (.mv (h0 g0)) (i0 s19),
  .p (.cv .i64 (h0 g19) (G3 9 1 1)) (i0 s20),
  .p (.call 27 [(h0 g20)] (G3 9 1 2)) (i0 s21),
  .p (.mv (h0 g21)) (i0 s18),
  .p (.ex (h0 g18) 0) (i0 s22),
  .p (.ex (h0 g18) 1) (i0 s23),
  .p (.mv (h0 g22)) (i0 s11),
  .p (.mv (h0 g23)) (i0 s12)])
 (.seq (.reg [.p (.mv (h0 g1)) (i0 s25),
  .p (.mv (h0 g2)) (i0 s26),
  .p (.call 30 [(h0 g25), (h0 g26)] (G3 9 2 2)) (i0 s27),
  .p (.call 27 [(h0 g27)] (G3 9 2 3)) (i0 s28),
  .p (.mv (h0 g28)) (i0 s24),
  .p (.ex (h0 g24) 0) (i0 s29),
  .p (.ex (h0 g24) 1) (i0 s30),
  .p (.mv (h0 g29)) (i0 s13),
  .p (.mv (h0 g30)) (i0 s14)])
 (.seq (.seq (.reg [.p (.mv (h0 g11)) (i0 s31),
  .p (.mv (h0 g12)) (i0 s32),
  .p (.call 30 [(h0 g31), (h0 g32)] (G3 9 3 2)) (i0 s33),
  .p (.mv (h0 g0)) (i0 s34),
  .p (.cv .i64 (h0 g34) (G3 9 3 4)) (i0 s35),
  .p (.bin .neq (h0 g33) (h0 g35) (G3 9 3 5)) (i0 s36),
  .p (.mv (h0 g36)) (i0 s37),
  .gp (h0 g37) false (.mv (h0 g13)) (i0 s38),
  .gp (h0 g37) false (.mv (h0 g1)) (i0 s39),
  .gp (h0 g37) false (.bin .rem (h0 g39) (kc (.tc (.sc (.int .u32 16777216)))) (G3 9 3 9)) (i0 s40),
  .gp (h0 g37) false (.bin .neq (h0 g38) (h0 g40) (G3 9 3 10)) (i0 s41),
  .p (.pk (h0 g37) (kc (.tc (.sc (.bool true)))) (h0 g41)) (i0 s42),
  .p (.mv (h0 g42)) (i0 s43),
  .gp (h0 g43) false (.mv (h0 g14)) (i0 s44),
  .gp (h0 g43) false (.mv (h0 g2)) (i0 s45),
  .gp (h0 g43) false (.bin .rem (h0 g45) (kc (.tc (.sc (.int .u32 256)))) (G3 9 3 15)) (i0 s46),
  .gp (h0 g43) false (.bin .neq (h0 g44) (h0 g46) (G3 9 3 16)) (i0 s47),
  .p (.pk (h0 g43) (kc (.tc (.sc (.bool true)))) (h0 g47)) (i0 s48),
  .p (.mv (h0 g48)) (i0 s49),
  .gp (h0 g49) false (.mv (h0 g11)) (i0 s50),
  .gp (h0 g49) false (.bin .shr (h0 g50) (kc (.tc (.sc (.int .u64 24)))) (G3 9 3 20)) (i0 s51),
  .gp (h0 g49) false (.bin .neq (h0 g51) (kc (.tc (.sc (.int .u32 0)))) (G3 9 3 21)) (i0 s52),
  .p (.pk (h0 g49) (kc (.tc (.sc (.bool true)))) (h0 g52)) (i0 s53),
  .p (.mv (h0 g53)) (i0 s54),
  .gp (h0 g54) false (.mv (h0 g12)) (i0 s55),
  .gp (h0 g54) false (.bin .shr (h0 g55) (kc (.tc (.sc (.int .u64 8)))) (G3 9 3 25)) (i0 s56),
  .gp (h0 g54) false (.bin .neq (h0 g56) (kc (.tc (.sc (.int .u32 0)))) (G3 9 3 26)) (i0 s57),
  .p (.pk (h0 g54) (kc (.tc (.sc (.bool true)))) (h0 g57)) (i0 s58)])
 (.cond (h0 g58) (.seq (.reg [.p (.mv (kc (.tc (.sc (.bool false))))) (i0 s10)])
 .ret)
 .skip))
 (.seq (.reg [.p (.ld true 11 (h0 g8)) (i0 s60),
  .p (.mv (h0 g4)) (i0 s61),
  .p (.call 19 [(h0 g60), (h0 g61)] (G3 9 5 2)) (i0 s62),
  .p (.mv (h0 g62)) (i0 s59),
  .p (.ex (h0 g59) 0) (i0 s63),
  .p (.ex (h0 g59) 1) (i1 s0),
  .p (.mv (h0 g63)) (i0 s15),
  .p (.mv (h1 g0)) (i0 s16)])
 (.seq (.seq (.regD [0, 1, 3, 7, 15, 31, 63, 127, 127, 511, 127, 127, 4095, 8191, 16383, 32767, 65535, 131071, 262143, 524287, 1048575, 1048575, 4194303, 8388607, 16777215, 33554431] [.no, (.rd (.ld false 1 (h1 g1)) (h1 g2)), .no, .no, .no, .no, .no, (.rd (.ld true 11 (h0 g8)) (h1 g8)), .no, .no, (.rd (.ld true 11 (h0 g8)) (h1 g11)), .no, .no, .no, .no, .no, .no, .no, .no, .no, (.rd (.ld true 11 (h0 g8)) (h1 g21)), .no, .no, .no, .no, .no] [.mk .none .yes (.fa 0 (h0 g8)) (.fa 0 (h0 g8)) (some (i1 s1)),
  .mk .none .yes (.ld false 1 (h1 g1)) (.ld false 1 (h1 g1)) (some (i1 s2)),
  .mk .none (.dyn 24 [(h1 g2)]) (.call 24 [(h1 g2)] (G3 9 6 2)) (.call 24 [(h1 g2)] (G3 9 6 2)) (some (i1 s3)),
  .mk .none .yes (.mv (h1 g3)) (.mv (h1 g3)) (some (i1 s4)),
  .mk (.on (h1 g4) true) .yes (.mv (h0 g16)) (.mv (h0 g16)) (some (i1 s5)),
  .mk (.on (h1 g4) true) .yes (.nt (h1 g5) (G3 9 6 5)) (.nt (h1 g5) (G3 9 6 5)) (some (i1 s6)),
  .mk (.on (h1 g4) true) .yes (.mv (h1 g6)) (.mv (h1 g6)) (some (i1 s7)),
  .mk (.on (h1 g7) false) .yes (.ld true 11 (h0 g8)) (.ld true 11 (h0 g8)) (some (i1 s8)),
  .mk (.on (h1 g7) false) .yes (.mv (h0 g4)) (.mv (h0 g4)) (some (i1 s9)),
  .mk (.on (h1 g7) false) (.dyn 23 [(h1 g8), (h1 g9)]) (.call 23 [(h1 g8), (h1 g9)] (G3 9 6 9)) (.call 23 [(h1 g8), (h1 g9)] (G3 9 6 9)) (some (i1 s10)),
  .mk (.on (h1 g7) false) .yes (.ld true 11 (h0 g8)) (.ld true 11 (h0 g8)) (some (i1 s11)),
  .mk (.on (h1 g7) false) .yes (.mv (h0 g4)) (.mv (h0 g4)) (some (i1 s12)),
  .mk (.on (h1 g7) false) (.dyn 25 [(h1 g11), (h1 g12)]) (.call 25 [(h1 g11), (h1 g12)] (G3 9 6 12)) (.call 25 [(h1 g11), (h1 g12)] (G3 9 6 12)) (some (i1 s13)),
  .mk (.on (h1 g7) false) .yes (.bin .eql (h1 g10) (h1 g13) (G3 9 6 13)) (.bin .eql (h1 g10) (h1 g13) (G3 9 6 13)) (some (i1 s14)),
  .mk (.on (h1 g4) true) .yes (.pk (h1 g7) (kc (.tc (.sc (.bool true)))) (h1 g14)) (.pk (h1 g7) (kc (.tc (.sc (.bool true)))) (h1 g14)) (some (i1 s15)),
  .mk .none .yes (.pk (h1 g4) (h1 g15) (kc (.tc (.sc (.bool false))))) (.pk (h1 g4) (h1 g15) (kc (.tc (.sc (.bool false))))) (some (i1 s16)),
  .mk .none .yes (.mv (h1 g16)) (.mv (h1 g16)) (some (i1 s17)),
  .mk (.on (h1 g17) false) .yes (.mv (h0 g16)) (.mv (h0 g16)) (some (i1 s18)),
  .mk (.on (h1 g17) false) .yes (.nt (h1 g18) (G3 9 6 18)) (.nt (h1 g18) (G3 9 6 18)) (some (i1 s19)),
  .mk (.on (h1 g17) false) .yes (.mv (h1 g19)) (.mv (h1 g19)) (some (i1 s20)),
  .mk (.on (h1 g20) true) .yes (.ld true 11 (h0 g8)) (.ld true 11 (h0 g8)) (some (i1 s21)),
  .mk (.on (h1 g20) true) .yes (.mv (h0 g4)) (.mv (h0 g4)) (some (i1 s22)),
  .mk (.on (h1 g20) true) (.dyn 23 [(h1 g21), (h1 g22)]) (.call 23 [(h1 g21), (h1 g22)] (G3 9 6 22)) (.call 23 [(h1 g21), (h1 g22)] (G3 9 6 22)) (some (i1 s23)),
  .mk (.on (h1 g20) true) .yes (.nt (h1 g23) (G3 9 6 23)) (.nt (h1 g23) (G3 9 6 23)) (some (i1 s24)),
  .mk (.on (h1 g17) false) .yes (.pk (h1 g20) (h1 g24) (kc (.tc (.sc (.bool false))))) (.pk (h1 g20) (h1 g24) (kc (.tc (.sc (.bool false))))) (some (i1 s25)),
  .mk .none .yes (.pk (h1 g17) (kc (.tc (.sc (.bool true)))) (h1 g25)) (.pk (h1 g17) (kc (.tc (.sc (.bool true)))) (h1 g25)) (some (i1 s26))])
 (.cond (h1 g26) (.seq (.reg [.p (.mv (kc (.tc (.sc (.bool false))))) (i0 s10)])
 .ret)
 .skip))
 (.seq (.reg [.p (.fa 0 (h0 g8)) (i1 s27),
  .p (.ld false 1 (h1 g27)) (i1 s28),
  .p (.bin .eql (h1 g28) (kc (.tc (.sc (.int .u8 27)))) (G3 9 8 2)) (i1 s29),
  .p (.mv (h1 g29)) (i1 s30),
  .gp (h1 g30) false (.fa 0 (h0 g8)) (i1 s31),
  .gp (h1 g30) false (.ld false 1 (h1 g31)) (i1 s32),
  .gp (h1 g30) false (.bin .eql (h1 g32) (kc (.tc (.sc (.int .u8 29)))) (G3 9 8 6)) (i1 s33),
  .p (.pk (h1 g30) (kc (.tc (.sc (.bool true)))) (h1 g33)) (i1 s34),
  .p (.mv (h1 g34)) (i1 s35),
  .gp (h1 g35) false (.fa 0 (h0 g8)) (i1 s36),
  .gp (h1 g35) false (.ld false 1 (h1 g36)) (i1 s37),
  .gp (h1 g35) false (.bin .eql (h1 g37) (kc (.tc (.sc (.int .u8 30)))) (G3 9 8 11)) (i1 s38),
  .p (.pk (h1 g35) (kc (.tc (.sc (.bool true)))) (h1 g38)) (i1 s39),
  .p (.mv (h1 g39)) (i1 s40),
  .gp (h1 g40) false (.fa 0 (h0 g8)) (i1 s41),
  .gp (h1 g40) false (.ld false 1 (h1 g41)) (i1 s42),
  .gp (h1 g40) false (.bin .eql (h1 g42) (kc (.tc (.sc (.int .u8 31)))) (G3 9 8 16)) (i1 s43),
  .p (.pk (h1 g40) (kc (.tc (.sc (.bool true)))) (h1 g43)) (i1 s44),
  .p (.mv (h1 g44)) (i0 s17)])
 (.seq (.seq (.reg [.p (.mv (h0 g17)) (i1 s45),
  .p (.nt (h1 g45) (G3 9 9 1)) (i1 s46),
  .p (.mv (h1 g46)) (i1 s47),
  .gp (h1 g47) false (.fa 10 (h0 g8)) (i1 s48),
  .gp (h1 g47) false (.ld false 1 (h1 g48)) (i1 s49),
  .gp (h1 g47) false (.bin .lss (h1 g49) (kc (.tc (.sc (.int .i64 0)))) (G3 9 9 5)) (i1 s50),
  .p (.pk (h1 g47) (kc (.tc (.sc (.bool true)))) (h1 g50)) (i1 s51),
  .p (.mv (h1 g51)) (i1 s52),
  .gp (h1 g52) false (.fa 10 (h0 g8)) (i1 s53),
  .gp (h1 g52) false (.ld false 1 (h1 g53)) (i1 s54),
  .gp (h1 g52) false (.bin .geq (h1 g54) (kc (.tc (.sc (.int .i64 4294967296)))) (G3 9 9 10)) (i1 s55),
  .p (.pk (h1 g52) (kc (.tc (.sc (.bool true)))) (h1 g55)) (i1 s56)])
 (.cond (h1 g56) (.seq (.reg [.p (.call 26 [] (G3 9 10 0)) (i1 s57),
  .p (.mv (h1 g57)) (i0 s10)])
 .ret)
 .skip))
 (.seq (.regD [0, 0, 3, 0, 8, 31, 63, 127, 255, 511, 1023, 2047, 4095, 8191, 16383, 32767, 65535, 131071] [.no, .no, .no, .no, (.rd (.ld false 1 (h1 g61)) (h1 g62)), .no, .no, .no, .no, .no, .no, .no, .no, .no, .no, .no, .no, .no] [.mk .none .yes (.mv (h0 g15)) (.mv (h0 g15)) (some (i1 s58)),
  .mk .none .yes (.mv (h0 g4)) (.mv (h0 g4)) (some (i1 s59)),
  .mk .none (.dyn 31 [(h1 g58), (h1 g59)]) (.call 31 [(h1 g58), (h1 g59)] (G3 9 11 2)) (.call 31 [(h1 g58), (h1 g59)] (G3 9 11 2)) (some (i1 s60)),
  .mk .none .yes (.fa 10 (h0 g8)) (.fa 10 (h0 g8)) (some (i1 s61)),
  .mk .none .yes (.ld false 1 (h1 g61)) (.ld false 1 (h1 g61)) (some (i1 s62)),
  .mk .none .yes (.bin .eql (h1 g60) (h1 g62) (G3 9 11 5)) (.bin .eql (h1 g60) (h1 g62) (G3 9 11 5)) (some (i1 s63)),
  .mk .none .yes (.mv (h1 g63)) (.mv (h1 g63)) (some (i2 s0)),
  .mk (.on (h2 g0) true) .yes (.mv (h0 g15)) (.mv (h0 g15)) (some (i2 s1)),
  .mk (.on (h2 g0) true) .yes (.bin .geq (h2 g1) (kc (.tc (.sc (.int .i64 (-2147483648))))) (G3 9 11 8)) (.bin .geq (h2 g1) (kc (.tc (.sc (.int .i64 (-2147483648))))) (G3 9 11 8)) (some (i2 s2)),
  .mk .none .yes (.pk (h2 g0) (h2 g2) (kc (.tc (.sc (.bool false))))) (.pk (h2 g0) (h2 g2) (kc (.tc (.sc (.bool false))))) (some (i2 s3)),
  .mk .none .yes (.mv (h2 g3)) (.mv (h2 g3)) (some (i2 s4)),
  .mk (.on (h2 g4) true) .yes (.mv (h0 g15)) (.mv (h0 g15)) (some (i2 s5)),
  .mk (.on (h2 g4) true) .yes (.bin .lss (h2 g5) (kc (.tc (.sc (.int .i64 2147483648)))) (G3 9 11 12)) (.bin .lss (h2 g5) (kc (.tc (.sc (.int .i64 2147483648)))) (G3 9 11 12)) (some (i2 s6)),
  .mk .none .yes (.pk (h2 g4) (h2 g6) (kc (.tc (.sc (.bool false))))) (.pk (h2 g4) (h2 g6) (kc (.tc (.sc (.bool false))))) (some (i2 s7)),
  .mk .none .yes (.mv (h2 g7)) (.mv (h2 g7)) (some (i2 s8)),
  .mk (.on (h2 g8) true) (.dyn 26 []) (.call 26 [] (G3 9 11 15)) (.call 26 [] (G3 9 11 15)) (some (i2 s9)),
  .mk .none .yes (.pk (h2 g8) (h2 g9) (kc (.tc (.sc (.bool false))))) (.pk (h2 g8) (h2 g9) (kc (.tc (.sc (.bool false))))) (some (i2 s10)),
  .mk .none .yes (.mv (h2 g10)) (.mv (h2 g10)) (some (i0 s10))])
 .ret))))))))),
 [.tmp (h0 g10)]⟩
theorem ff9_ok : compF SBase 9 = ff9 := by kernel_rfl

noncomputable def codeExt (f : FuncId) : FF := match f with
  | 6 => ff6
  | 19 => ff19
  | 38 => ff38
  | 13 => ff13
  | 32 => ff32
  | 37 => ff37
  | 44 => ff44
  | 17 => ff17
  | 56 => ff56
  | 58 => ff58
  | 45 => ff45
  | 51 => ff51
  | 46 => ff46
  | 47 => ff47
  | 48 => ff48
  | 49 => ff49
  | 50 => ff50
  | 52 => ff52
  | 39 => ff39
  | 53 => ff53
  | 57 => ff57
  | 20 => ff20
  | 22 => ff22
  | 28 => ff28
  | 29 => ff29
  | 21 => ff21
  | 40 => ff40
  | 23 => ff23
  | 41 => ff41
  | 24 => ff24
  | 25 => ff25
  | 26 => ff26
  | 31 => ff31
  | 30 => ff30
  | 43 => ff43
  | 54 => ff54
  | 55 => ff55
  | 7 => ff7
  | 8 => ff8
  | 27 => ff27
  | 42 => ff42
  | 9 => ff9
  | _ => .bad
theorem codeExt_ok : ∀ f, codeExt f = .bad ∨ codeExt f = compF SBase f := by
  intro f
  unfold codeExt
  split
  · exact .inr ff6_ok.symm
  · exact .inr ff19_ok.symm
  · exact .inr ff38_ok.symm
  · exact .inr ff13_ok.symm
  · exact .inr ff32_ok.symm
  · exact .inr ff37_ok.symm
  · exact .inr ff44_ok.symm
  · exact .inr ff17_ok.symm
  · exact .inr ff56_ok.symm
  · exact .inr ff58_ok.symm
  · exact .inr ff45_ok.symm
  · exact .inr ff51_ok.symm
  · exact .inr ff46_ok.symm
  · exact .inr ff47_ok.symm
  · exact .inr ff48_ok.symm
  · exact .inr ff49_ok.symm
  · exact .inr ff50_ok.symm
  · exact .inr ff52_ok.symm
  · exact .inr ff39_ok.symm
  · exact .inr ff53_ok.symm
  · exact .inr ff57_ok.symm
  · exact .inr ff20_ok.symm
  · exact .inr ff22_ok.symm
  · exact .inr ff28_ok.symm
  · exact .inr ff29_ok.symm
  · exact .inr ff21_ok.symm
  · exact .inr ff40_ok.symm
  · exact .inr ff23_ok.symm
  · exact .inr ff41_ok.symm
  · exact .inr ff24_ok.symm
  · exact .inr ff25_ok.symm
  · exact .inr ff26_ok.symm
  · exact .inr ff31_ok.symm
  · exact .inr ff30_ok.symm
  · exact .inr ff43_ok.symm
  · exact .inr ff54_ok.symm
  · exact .inr ff55_ok.symm
  · exact .inr ff7_ok.symm
  · exact .inr ff8_ok.symm
  · exact .inr ff27_ok.symm
  · exact .inr ff42_ok.symm
  · exact .inr ff9_ok.symm
  · exact .inl rfl
end Go.Proofs.Ytgpijioodocplaa
