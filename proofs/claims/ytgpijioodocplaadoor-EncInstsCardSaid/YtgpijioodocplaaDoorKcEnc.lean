/- Code made ready ahead, Enc: each is what the program says. -/
import Derived.Test.YtgpijioodocplaaDoorKcBase
import Derived.Test.YtgpijioodocplaaDoorMg8
set_option linter.unusedVariables false
set_option maxRecDepth 100000
namespace Go.Proofs.YtgpijioodocplaaDoor
open Go

/-- What coxless/bits.codeAt holds. -/
noncomputable def glEnc0 : List TC := [(.sc (.int .i64 26)), (.sc (.int .i64 6))]
noncomputable def gwEnc0 : Nat := 2
/-- What coxless/bits.ends holds. -/
noncomputable def glEnc1 : List TC := [(.sc (.int .i64 0)), (.sc (.int .i64 14)), (.sc (.int .i64 16)), (.sc (.int .i64 10))]
noncomputable def gwEnc1 : Nat := 4
/-- What coxless/bits.parseAt holds. -/
noncomputable def glEnc2 : List TC := [(.sc (.int .i64 14)), (.sc (.int .i64 2))]
noncomputable def gwEnc2 : Nat := 2
noncomputable def globEnc : List (Nat × List TC) := [(0, glEnc0), (1, glEnc1), (2, glEnc2)]
noncomputable def SBEnc : Base := ⟨XP, globAt globEnc, 4294967296⟩
noncomputable def ffEnc3 : FF := .t2 ⟨41,
 (.seq (.reg [.p (.bx 11 g0 (G2 3 0 0)) s2,
  .p (.mv (kc (.tc (.sc (.bool false))))) s4])
 (.seq (.reg [.p (.ld true 11 g2) s12,
  .p (.mv g1) s13,
  .p (.call 7 [g12, g13] (G2 3 1 2)) s14,
  .p (.mv g14) s11,
  .p (.ex g11 0) s15,
  .p (.ex g11 1) s16,
  .p (.ex g11 2) s17,
  .p (.mv g15) s5,
  .p (.mv g16) s6,
  .p (.mv g17) s7])
 (.seq (.reg [.p (.ld true 11 g2) s19,
  .p (.mv g1) s20,
  .p (.call 8 [g19, g20] (G2 3 2 2)) s21,
  .p (.mv g21) s18,
  .p (.ex g18 0) s22,
  .p (.ex g18 1) s23,
  .p (.ex g18 2) s24,
  .p (.mv g22) s8,
  .p (.mv g23) s9,
  .p (.mv g24) s10])
 (.seq (.reg [.p (.mv g5) s25,
  .p (.mv g8) s26,
  .p (.bin .eql g25 g26 (G2 3 3 2)) s27,
  .p (.mv g27) s28,
  .gp g28 true (.mv g6) s29,
  .gp g28 true (.mv g9) s30,
  .gp g28 true (.bin .eql g29 g30 (G2 3 3 6)) s31,
  .p (.pk g28 g31 (kc (.tc (.sc (.bool false))))) s32,
  .p (.mv g32) s33,
  .gp g33 true (.mv g7) s34,
  .gp g33 true (.mv g10) s35,
  .gp g33 true (.bin .eql g34 g35 (G2 3 3 11)) s36,
  .p (.pk g33 g36 (kc (.tc (.sc (.bool false))))) s37,
  .p (.mv g37) s38,
  .gp g38 true (.call 9 [] (G2 3 3 14)) s39,
  .p (.pk g38 g39 (kc (.tc (.sc (.bool false))))) s40,
  .p (.mv g40) s4])
 .ret)))),
 [.tmp g4]⟩
theorem ffEnc3_ok : compF SBEnc 3 = ffEnc3 := by kernel_rfl
noncomputable def ffEnc7 : FF := .t3 ⟨117,
 (.seq (.reg [.p (.bx 11 (h0 g0) (G3 7 0 0)) (i0 s2),
  .p (.mv (kc (.tc (.sc (.int .u32 0))))) (i0 s4),
  .p (.mv (kc (.tc (.sc (.int .u32 0))))) (i0 s5),
  .p (.mv (kc (.tc (.sc (.bool false))))) (i0 s6)])
 (.seq (.seq (.reg [.p (.ld true 11 (h0 g2)) (i0 s16),
  .p (.call 13 [(h0 g16)] (G3 7 1 1)) (i0 s17),
  .p (.nt (h0 g17) (G3 7 1 2)) (i0 s18),
  .p (.mv (h0 g18)) (i0 s19),
  .gp (h0 g19) false (.fa 8 (h0 g2)) (i0 s20),
  .gp (h0 g19) false (.ld false 1 (h0 g20)) (i0 s21),
  .gp (h0 g19) false (.nt (h0 g21) (G3 7 1 6)) (i0 s22),
  .gp (h0 g19) false (.mv (h0 g22)) (i0 s23),
  .gp (h0 g23) true (.ld true 11 (h0 g2)) (i0 s24),
  .gp (h0 g23) true (.mv (h0 g1)) (i0 s25),
  .gp (h0 g23) true (.call 14 [(h0 g24), (h0 g25)] (G3 7 1 10)) (i0 s26),
  .gp (h0 g23) true (.nt (h0 g26) (G3 7 1 11)) (i0 s27),
  .gp (h0 g19) false (.pk (h0 g23) (h0 g27) (kc (.tc (.sc (.bool false))))) (i0 s28),
  .p (.pk (h0 g19) (kc (.tc (.sc (.bool true)))) (h0 g28)) (i0 s29)])
 (.cond (h0 g29) (.seq (.reg [.p (.mv (kc (.tc (.sc (.int .u32 0))))) (i0 s4),
  .p (.mv (kc (.tc (.sc (.int .u32 0))))) (i0 s5),
  .p (.mv (kc (.tc (.sc (.bool false))))) (i0 s6)])
 .ret)
 .skip))
 (.seq (.reg [.p (.fa 0 (h0 g2)) (i0 s31),
  .p (.ld false 1 (h0 g31)) (i0 s32),
  .p (.call 15 [(h0 g32)] (G3 7 3 2)) (i0 s33),
  .p (.mv (h0 g33)) (i0 s30),
  .p (.ex (h0 g30) 0) (i0 s34),
  .p (.ex (h0 g30) 1) (i0 s35),
  .p (.al 5 [(.sc (.int .u8 0)), (.sc (.string ⟨#[]⟩)), (.sc (.int .u8 0)), (.sc (.int .u8 0)), (.sc (.slice none 0 0))]) (i0 s7),
  .n (.st 5 (h0 g7) (h0 g34) (G3 7 3 7)),
  .p (.mv (h0 g35)) (i0 s8)])
 (.seq (.reg [.p (.mv (kc (.tc (.sc (.int .u32 0))))) (i0 s9)])
 (.seq (.seq (.reg [.p (.fa 4 (h0 g7)) (i0 s36),
  .p (.ld false 1 (h0 g36)) (i0 s37),
  .p (.len (h0 g37) (G3 7 5 2)) (i0 s38),
  .p (.mv (kc (.tc (.sc (.int .i64 0))))) (i0 s39)])
 (.block 0 (.loop 4294967296 (.seq (.reg [.p (.bin .lss (h0 g39) (h0 g38) (G3 7 6 0)) (i0 s40)])
 (.seq (.cond (h0 g40) .skip
 (.exit 0))
 (.seq (.block 1 (.seq (.reg [.p (.ia 5 (h0 g37) (h0 g39) (G3 7 7 0)) (i0 s41),
  .p (.ld true 5 (h0 g41)) (i0 s42),
  .p (.al 5 [(.sc (.int .u8 0)), (.sc (.int .i64 0)), (.sc (.int .i64 0)), (.sc (.bool false)), (.sc (.bool false))]) (i0 s11),
  .n (.st 5 (h0 g11) (h0 g42) (G3 7 7 3))])
 (.seq (.reg [.p (.fa 0 (h0 g2)) (i0 s44),
  .p (.ld false 1 (h0 g44)) (i0 s45),
  .p (.fa 0 (h0 g11)) (i0 s46),
  .p (.ld false 1 (h0 g46)) (i0 s47),
  .p (.call 16 [(h0 g45), (h0 g47)] (G3 7 8 4)) (i0 s48),
  .p (.mv (h0 g48)) (i0 s43),
  .p (.ex (h0 g43) 0) (i0 s49),
  .p (.ex (h0 g43) 1) (i0 s50),
  .p (.ex (h0 g43) 2) (i0 s51),
  .p (.al 5 [(.sc (.int .u8 0)), (.sc (.int .i64 0)), (.sc (.int .i64 0)), (.sc (.bool false)), (.sc (.bool false))]) (i0 s12),
  .n (.st 5 (h0 g12) (h0 g49) (G3 7 8 10)),
  .p (.mv (h0 g50)) (i0 s13),
  .p (.mv (h0 g51)) (i0 s14)])
 (.seq (.reg [.p (.mv (kc (.tc (.sc (.int .u32 0))))) (i0 s15)])
 (.seq (.seq (.reg [.p (.fa 0 (h0 g11)) (i0 s52),
  .p (.ld false 1 (h0 g52)) (i0 s53)])
 (.block 2 (.seq (.reg [.p (.bin .eql (h0 g53) (kc (.tc (.sc (.int .u8 1)))) (G3 7 11 0)) (i0 s55),
  .p (.mv (h0 g55)) (i0 s54)])
 (.cond (h0 g54) (.reg [.p (.fa 6 (h0 g2)) (i0 s56),
  .p (.ld false 1 (h0 g56)) (i0 s57),
  .p (.cv .u32 (h0 g57) (G3 7 12 2)) (i0 s58),
  .p (.mv (h0 g58)) (i0 s15)])
 (.seq (.reg [.p (.bin .eql (h0 g53) (kc (.tc (.sc (.int .u8 2)))) (G3 7 13 0)) (i0 s60),
  .p (.mv (h0 g60)) (i0 s59)])
 (.cond (h0 g59) (.reg [.p (.fa 5 (h0 g2)) (i0 s61),
  .p (.ld false 1 (h0 g61)) (i0 s62),
  .p (.cv .u32 (h0 g62) (G3 7 14 2)) (i0 s63),
  .p (.mv (h0 g63)) (i0 s15)])
 (.seq (.seq (.reg [.p (.bin .eql (h0 g53) (kc (.tc (.sc (.int .u8 3)))) (G3 7 15 0)) (i1 s1),
  .p (.mv (h1 g1)) (i1 s0)])
 (.cond (h1 g0) .skip
 (.reg [.p (.bin .eql (h0 g53) (kc (.tc (.sc (.int .u8 4)))) (G3 7 16 0)) (i1 s2),
  .p (.mv (h1 g2)) (i1 s0)])))
 (.cond (h1 g0) (.reg [.p (.fa 1 (h0 g2)) (i1 s3),
  .p (.ld false 1 (h1 g3)) (i1 s4),
  .p (.cv .u32 (h1 g4) (G3 7 17 2)) (i1 s5),
  .p (.mv (h1 g5)) (i0 s15)])
 (.seq (.reg [.p (.bin .eql (h0 g53) (kc (.tc (.sc (.int .u8 5)))) (G3 7 18 0)) (i1 s7),
  .p (.mv (h1 g7)) (i1 s6)])
 (.cond (h1 g6) (.reg [.p (.fa 2 (h0 g2)) (i1 s8),
  .p (.ld false 1 (h1 g8)) (i1 s9),
  .p (.cv .u32 (h1 g9) (G3 7 19 2)) (i1 s10),
  .p (.mv (h1 g10)) (i0 s15)])
 (.seq (.reg [.p (.bin .eql (h0 g53) (kc (.tc (.sc (.int .u8 6)))) (G3 7 20 0)) (i1 s12),
  .p (.mv (h1 g12)) (i1 s11)])
 (.cond (h1 g11) (.reg [.p (.fa 3 (h0 g2)) (i1 s13),
  .p (.ld false 1 (h1 g13)) (i1 s14),
  .p (.cv .u32 (h1 g14) (G3 7 21 2)) (i1 s15),
  .p (.mv (h1 g15)) (i0 s15)])
 (.seq (.reg [.p (.bin .eql (h0 g53) (kc (.tc (.sc (.int .u8 7)))) (G3 7 22 0)) (i1 s17),
  .p (.mv (h1 g17)) (i1 s16)])
 (.cond (h1 g16) (.reg [.p (.fa 4 (h0 g2)) (i1 s18),
  .p (.ld false 1 (h1 g18)) (i1 s19),
  .p (.cv .u32 (h1 g19) (G3 7 23 2)) (i1 s20),
  .p (.mv (h1 g20)) (i0 s15)])
 (.seq (.reg [.p (.bin .eql (h0 g53) (kc (.tc (.sc (.int .u8 8)))) (G3 7 24 0)) (i1 s22),
  .p (.mv (h1 g22)) (i1 s21)])
 (.cond (h1 g21) (.reg [.p (.fa 7 (h0 g2)) (i1 s23),
  .p (.ld false 1 (h1 g23)) (i1 s24),
  .p (.call 17 [(h1 g24)] (G3 7 25 2)) (i1 s25),
  .p (.mv (h1 g25)) (i0 s15)])
 (.seq (.reg [.p (.bin .eql (h0 g53) (kc (.tc (.sc (.int .u8 11)))) (G3 7 26 0)) (i1 s27),
  .p (.mv (h1 g27)) (i1 s26)])
 (.cond (h1 g26) (.reg [.p (.fa 9 (h0 g2)) (i1 s28),
  .p (.ld false 1 (h1 g28)) (i1 s29),
  .p (.cv .u32 (h1 g29) (G3 7 27 2)) (i1 s30),
  .p (.mv (h1 g30)) (i0 s15)])
 (.seq (.seq (.reg [.p (.bin .eql (h0 g53) (kc (.tc (.sc (.int .u8 9)))) (G3 7 28 0)) (i1 s32),
  .p (.mv (h1 g32)) (i1 s31)])
 (.cond (h1 g31) .skip
 (.reg [.p (.bin .eql (h0 g53) (kc (.tc (.sc (.int .u8 10)))) (G3 7 29 0)) (i1 s33),
  .p (.mv (h1 g33)) (i1 s31)])))
 (.cond (h1 g31) (.reg [.p (.ld true 11 (h0 g2)) (i1 s35),
  .p (.ld true 5 (h0 g11)) (i1 s36),
  .p (.mv (h0 g1)) (i1 s37),
  .p (.call 18 [(h1 g35), (h1 g36), (h1 g37)] (G3 7 30 3)) (i1 s38),
  .p (.mv (h1 g38)) (i1 s34),
  .p (.ex (h1 g34) 0) (i1 s39),
  .p (.ex (h1 g34) 1) (i1 s40),
  .p (.mv (h1 g39)) (i0 s15),
  .p (.mv (h1 g40)) (i0 s5)])
 .skip))))))))))))))))))))
 (.reg [.p (.mv (h0 g9)) (i1 s41),
  .p (.mv (h0 g13)) (i1 s42),
  .p (.fa 1 (h0 g11)) (i1 s43),
  .p (.ld false 1 (h1 g43)) (i1 s44),
  .p (.mv (h0 g15)) (i1 s45),
  .p (.call 19 [(h1 g41), (h1 g42), (h1 g44), (h1 g45)] (G3 7 31 5)) (i1 s46),
  .p (.mv (h1 g46)) (i0 s9)]))))))
 (.reg [.p (.bin .add (h0 g39) (kc (.tc (.sc (.int .i64 1)))) (G3 7 32 0)) (i1 s47),
  .p (.mv (h1 g47)) (i0 s39)])))))))
 (.seq (.reg [.p (.fa 0 (h0 g2)) (i1 s48),
  .p (.ld false 1 (h1 g48)) (i1 s49),
  .p (.mv (h0 g9)) (i1 s50),
  .p (.call 20 [(h1 g49), (h1 g50), (kc (.tc (.sc (.int .u8 0))))] (G3 7 33 3)) (i1 s51),
  .p (.mv (h0 g5)) (i1 s52),
  .p (.mv (h1 g51)) (i0 s4),
  .p (.mv (h1 g52)) (i0 s5),
  .p (.mv (kc (.tc (.sc (.bool true))))) (i0 s6)])
 .ret)))))),
 [.tmp (h0 g4), .tmp (h0 g5), .tmp (h0 g6)]⟩
theorem ffEnc7_ok : compF SBEnc 7 = ffEnc7 := by kernel_rfl
noncomputable def ffEnc13 : FF := .t2 ⟨54,
 (.seq (.reg [.p (.bx 11 g0 (G2 13 0 0)) s1,
  .p (.mv (kc (.tc (.sc (.bool false))))) s2])
 (.seq (.reg [.p (.fa 0 g1) s9,
  .p (.ld false 1 g9) s10,
  .p (.call 15 [g10] (G2 13 1 2)) s11,
  .p (.mv g11) s8,
  .p (.ex g8 0) s12,
  .p (.ex g8 1) s13,
  .p (.al 5 [(.sc (.int .u8 0)), (.sc (.string ⟨#[]⟩)), (.sc (.int .u8 0)), (.sc (.int .u8 0)), (.sc (.slice none 0 0))]) s3,
  .n (.st 5 g3 g12 (G2 13 1 7)),
  .p (.mv g13) s4])
 (.seq (.reg [.p (.ld true 11 g1) s14,
  .p (.al 11 [(.sc (.int .u8 0)), (.sc (.int .u8 0)), (.sc (.int .u8 0)), (.sc (.int .u8 0)), (.sc (.int .u8 0)), (.sc (.int .u8 0)), (.sc (.int .u8 0)), (.sc (.bool false)), (.sc (.bool false)), (.sc (.int .u16 0)), (.sc (.int .i64 0))]) s5,
  .n (.st 11 g5 g14 (G2 13 2 2))])
 (.seq (.reg [.p (.fa 0 g5) s15,
  .n (.st 1 g15 (kc (.tc (.sc (.int .u8 0)))) (G2 13 3 1))])
 (.seq (.seq (.reg [.p (.fa 4 g3) s16,
  .p (.ld false 1 g16) s17,
  .p (.len g17 (G2 13 4 2)) s18,
  .p (.mv (kc (.tc (.sc (.int .i64 0))))) s19])
 (.block 0 (.loop 4294967296 (.seq (.reg [.p (.bin .lss g19 g18 (G2 13 5 0)) s20])
 (.seq (.cond g20 .skip
 (.exit 0))
 (.seq (.block 1 (.seq (.reg [.p (.ia 5 g17 g19 (G2 13 6 0)) s21,
  .p (.ld true 5 g21) s22,
  .p (.al 5 [(.sc (.int .u8 0)), (.sc (.int .i64 0)), (.sc (.int .i64 0)), (.sc (.bool false)), (.sc (.bool false))]) s7,
  .n (.st 5 g7 g22 (G2 13 6 3))])
 (.seq (.reg [.p (.ld true 11 g5) s23,
  .p (.ld true 5 g7) s24,
  .p (.call 38 [g23, g24] (G2 13 7 2)) s25,
  .n (.st 11 g5 g25 (G2 13 7 3))])
 (.reg [.p (.mv g4) s26,
  .p (.mv g26) s27,
  .gp g27 true (.ld true 11 g1) s28,
  .gp g27 true (.ld true 5 g7) s29,
  .gp g27 true (.call 39 [g28, g29] (G2 13 8 4)) s30,
  .p (.pk g27 g30 (kc (.tc (.sc (.bool false))))) s31,
  .p (.mv g31) s4]))))
 (.reg [.p (.bin .add g19 (kc (.tc (.sc (.int .i64 1)))) (G2 13 9 0)) s32,
  .p (.mv g32) s19])))))))
 (.seq (.reg [.p (.mv g4) s33,
  .p (.mv g33) s34,
  .gp g34 true (.ld true 11 g5) s35,
  .gp g34 true (.bd [(.tc (.sc (.int .u8 0))), (.tc (.sc (.int .u8 0))), (.tc (.sc (.int .u8 0))), (.tc (.sc (.int .u8 0))), (.tc (.sc (.int .u8 0))), (.tc (.sc (.int .u8 0))), (.tc (.sc (.int .u8 0))), (.tc (.sc (.bool false))), (.tc (.sc (.bool false))), (.tc (.sc (.int .u16 0))), (.tc (.sc (.int .i64 0)))] [] (G2 13 10 3)) s36,
  .gp g34 true (.eqs .eql [(.mk 0 .int), (.mk 1 .int), (.mk 2 .int), (.mk 3 .int), (.mk 4 .int), (.mk 5 .int), (.mk 6 .int), (.mk 7 .bool), (.mk 8 .bool), (.mk 9 .int), (.mk 10 .int)] g35 g36 (G2 13 10 4)) s37,
  .p (.pk g34 g37 (kc (.tc (.sc (.bool false))))) s38,
  .p (.mv g38) s39,
  .gp g39 true (.ld true 11 g1) s40,
  .gp g39 true (.call 40 [g40] (G2 13 10 8)) s41,
  .gp g39 true (.mv g41) s42,
  .gp g42 true (.fa 6 g1) s43,
  .gp g42 true (.ld false 1 g43) s44,
  .gp g42 true (.bin .eql g44 (kc (.tc (.sc (.int .u8 0)))) (G2 13 10 12)) s45,
  .gp g39 true (.pk g42 g45 (kc (.tc (.sc (.bool false))))) s46,
  .gp g39 true (.mv g46) s47,
  .gp g47 true (.fa 5 g1) s48,
  .gp g47 true (.ld false 1 g48) s49,
  .gp g47 true (.bin .neq g49 (kc (.tc (.sc (.int .u8 0)))) (G2 13 10 17)) s50,
  .gp g39 true (.pk g47 g50 (kc (.tc (.sc (.bool false))))) s51,
  .gp g39 true (.nt g51 (G2 13 10 19)) s52,
  .p (.pk g39 g52 (kc (.tc (.sc (.bool false))))) s53,
  .p (.mv g53) s2])
 .ret)))))),
 [.tmp g2]⟩
theorem ffEnc13_ok : compF SBEnc 13 = ffEnc13 := by kernel_rfl
noncomputable def ffEnc15 : FF := .t2 ⟨17,
 (.seq (.reg [.p (.al 5 [(.sc (.int .u8 0)), (.sc (.string ⟨#[]⟩)), (.sc (.int .u8 0)), (.sc (.int .u8 0)), (.sc (.slice none 0 0))]) s2,
  .p (.mv (kc (.tc (.sc (.bool false))))) s3])
 (.seq (.reg [.p (.mv g0) s7,
  .p (.call 44 [g7] (G2 15 1 1)) s8,
  .p (.mv g8) s6,
  .p (.ex g6 0) s9,
  .p (.ex g6 1) s10,
  .p (.al 5 [(.sc (.int .u8 0)), (.sc (.string ⟨#[]⟩)), (.sc (.int .u8 0)), (.sc (.int .u8 0)), (.sc (.slice none 0 0))]) s4,
  .n (.st 5 g4 g9 (G2 15 1 6)),
  .p (.mv g10) s5])
 (.seq (.reg [.p (.fa 4 g4) s11,
  .p (.ld false 1 g11) s12,
  .p (.call 45 [g12] (G2 15 2 2)) s13,
  .p (.fa 4 g4) s14,
  .n (.st 1 g14 g13 (G2 15 2 4))])
 (.seq (.reg [.p (.ld true 5 g4) s15,
  .p (.mv g5) s16,
  .n (.st 5 g2 g15 (G2 15 3 2)),
  .p (.mv g16) s3])
 .ret)))),
 [.cell g2 true 5, .tmp g3]⟩
theorem ffEnc15_ok : compF SBEnc 15 = ffEnc15 := by kernel_rfl
noncomputable def ffEnc44 : FF := .t2 ⟨21,
 (.seq (.reg [.p (.al 5 [(.sc (.int .u8 0)), (.sc (.string ⟨#[]⟩)), (.sc (.int .u8 0)), (.sc (.int .u8 0)), (.sc (.slice none 0 0))]) s2,
  .p (.mv (kc (.tc (.sc (.bool false))))) s3])
 (.seq (.reg [.p (.call 57 [] (G2 44 1 0)) s5,
  .p (.mv g5) s4])
 (.seq (.seq (.reg [.p (.mv g0) s6,
  .p (.bin .lss g6 (kc (.tc (.sc (.int .u8 1)))) (G2 44 2 1)) s7,
  .p (.mv g7) s8,
  .gp g8 false (.mv g0) s9,
  .gp g8 false (.cv .i64 g9 (G2 44 2 4)) s10,
  .gp g8 false (.mv g4) s11,
  .gp g8 false (.len g11 (G2 44 2 6)) s12,
  .gp g8 false (.bin .gtr g10 g12 (G2 44 2 7)) s13,
  .p (.pk g8 (kc (.tc (.sc (.bool true)))) g13) s14])
 (.cond g14 (.seq (.reg [.p (.bd [(.tc (.sc (.int .u8 0))), (.tc (.sc (.string ⟨#[]⟩))), (.tc (.sc (.int .u8 0))), (.tc (.sc (.int .u8 0))), (.tc (.sc (.slice none 0 0)))] [] (G2 44 3 0)) s15,
  .n (.st 5 g2 g15 (G2 44 3 1)),
  .p (.mv (kc (.tc (.sc (.bool false))))) s3])
 .ret)
 .skip))
 (.seq (.reg [.p (.mv g4) s16,
  .p (.mv g0) s17,
  .p (.bin .sub g17 (kc (.tc (.sc (.int .u8 1)))) (G2 44 4 2)) s18,
  .p (.ia 5 g16 g18 (G2 44 4 3)) s19,
  .p (.ld true 5 g19) s20,
  .n (.st 5 g2 g20 (G2 44 4 5)),
  .p (.mv (kc (.tc (.sc (.bool true))))) s3])
 .ret)))),
 [.cell g2 true 5, .tmp g3]⟩
theorem ffEnc44_ok : compF SBEnc 44 = ffEnc44 := by kernel_rfl
noncomputable def ffEnc57 : FF := .t3 ⟨158,
 (.seq (.reg [.p (.mv (kc (.tc (.sc (.slice none 0 0))))) (i0 s0)])
 (.seq (.reg [.p (.call 59 [(kc (.tc (.sc (.int .u8 1)))), (kc (.tc (.sc (.string ⟨#[110, 111, 112]⟩)))), (kc (.tc (.sc (.int .u8 1)))), (kc (.tc (.sc (.slice none 0 0))))] (G3 57 1 0)) (i0 s1),
  .p (.call 60 [] (G3 57 1 1)) (i0 s2),
  .p (.call 61 [] (G3 57 1 2)) (i0 s3),
  .p (.call 62 [] (G3 57 1 3)) (i0 s4),
  .p (.call 63 [] (G3 57 1 4)) (i0 s5),
  .p (.bs 1 4 [[(.tc (.sc (.slice none 0 0)))], [(.tc (.sc (.slice none 0 0)))], [(.tc (.sc (.slice none 0 0)))], [(.tc (.sc (.slice none 0 0)))]] [(.mk 0 1 (h0 g2)), (.mk 1 1 (h0 g3)), (.mk 2 1 (h0 g4)), (.mk 3 1 (h0 g5))] (G3 57 1 5)) (i0 s6),
  .p (.call 59 [(kc (.tc (.sc (.int .u8 2)))), (kc (.tc (.sc (.string ⟨#[97, 100, 100]⟩)))), (kc (.tc (.sc (.int .u8 1)))), (h0 g6)] (G3 57 1 6)) (i0 s7),
  .p (.call 60 [] (G3 57 1 7)) (i0 s8),
  .p (.call 61 [] (G3 57 1 8)) (i0 s9),
  .p (.call 62 [] (G3 57 1 9)) (i0 s10),
  .p (.call 63 [] (G3 57 1 10)) (i0 s11),
  .p (.bs 1 4 [[(.tc (.sc (.slice none 0 0)))], [(.tc (.sc (.slice none 0 0)))], [(.tc (.sc (.slice none 0 0)))], [(.tc (.sc (.slice none 0 0)))]] [(.mk 0 1 (h0 g8)), (.mk 1 1 (h0 g9)), (.mk 2 1 (h0 g10)), (.mk 3 1 (h0 g11))] (G3 57 1 11)) (i0 s12),
  .p (.call 59 [(kc (.tc (.sc (.int .u8 3)))), (kc (.tc (.sc (.string ⟨#[115, 117, 98]⟩)))), (kc (.tc (.sc (.int .u8 1)))), (h0 g12)] (G3 57 1 12)) (i0 s13),
  .p (.call 60 [] (G3 57 1 13)) (i0 s14),
  .p (.call 61 [] (G3 57 1 14)) (i0 s15),
  .p (.call 62 [] (G3 57 1 15)) (i0 s16),
  .p (.call 63 [] (G3 57 1 16)) (i0 s17),
  .p (.bs 1 4 [[(.tc (.sc (.slice none 0 0)))], [(.tc (.sc (.slice none 0 0)))], [(.tc (.sc (.slice none 0 0)))], [(.tc (.sc (.slice none 0 0)))]] [(.mk 0 1 (h0 g14)), (.mk 1 1 (h0 g15)), (.mk 2 1 (h0 g16)), (.mk 3 1 (h0 g17))] (G3 57 1 17)) (i0 s18),
  .p (.call 59 [(kc (.tc (.sc (.int .u8 4)))), (kc (.tc (.sc (.string ⟨#[97, 110, 100]⟩)))), (kc (.tc (.sc (.int .u8 1)))), (h0 g18)] (G3 57 1 18)) (i0 s19),
  .p (.call 60 [] (G3 57 1 19)) (i0 s20),
  .p (.call 61 [] (G3 57 1 20)) (i0 s21),
  .p (.call 62 [] (G3 57 1 21)) (i0 s22),
  .p (.call 63 [] (G3 57 1 22)) (i0 s23),
  .p (.bs 1 4 [[(.tc (.sc (.slice none 0 0)))], [(.tc (.sc (.slice none 0 0)))], [(.tc (.sc (.slice none 0 0)))], [(.tc (.sc (.slice none 0 0)))]] [(.mk 0 1 (h0 g20)), (.mk 1 1 (h0 g21)), (.mk 2 1 (h0 g22)), (.mk 3 1 (h0 g23))] (G3 57 1 23)) (i0 s24),
  .p (.call 59 [(kc (.tc (.sc (.int .u8 5)))), (kc (.tc (.sc (.string ⟨#[111, 114]⟩)))), (kc (.tc (.sc (.int .u8 1)))), (h0 g24)] (G3 57 1 24)) (i0 s25),
  .p (.call 60 [] (G3 57 1 25)) (i0 s26),
  .p (.call 61 [] (G3 57 1 26)) (i0 s27),
  .p (.call 62 [] (G3 57 1 27)) (i0 s28),
  .p (.call 63 [] (G3 57 1 28)) (i0 s29),
  .p (.bs 1 4 [[(.tc (.sc (.slice none 0 0)))], [(.tc (.sc (.slice none 0 0)))], [(.tc (.sc (.slice none 0 0)))], [(.tc (.sc (.slice none 0 0)))]] [(.mk 0 1 (h0 g26)), (.mk 1 1 (h0 g27)), (.mk 2 1 (h0 g28)), (.mk 3 1 (h0 g29))] (G3 57 1 29)) (i0 s30),
  .p (.call 59 [(kc (.tc (.sc (.int .u8 6)))), (kc (.tc (.sc (.string ⟨#[120, 111, 114]⟩)))), (kc (.tc (.sc (.int .u8 1)))), (h0 g30)] (G3 57 1 30)) (i0 s31),
  .p (.call 61 [] (G3 57 1 31)) (i0 s32),
  .p (.call 62 [] (G3 57 1 32)) (i0 s33),
  .p (.call 64 [(kc (.tc (.sc (.int .i64 14)))), (kc (.tc (.sc (.int .i64 0))))] (G3 57 1 33)) (i0 s34),
  .p (.bs 1 3 [[(.tc (.sc (.slice none 0 0)))], [(.tc (.sc (.slice none 0 0)))], [(.tc (.sc (.slice none 0 0)))]] [(.mk 0 1 (h0 g32)), (.mk 1 1 (h0 g33)), (.mk 2 1 (h0 g34))] (G3 57 1 34)) (i0 s35),
  .p (.call 59 [(kc (.tc (.sc (.int .u8 7)))), (kc (.tc (.sc (.string ⟨#[97, 100, 100, 105]⟩)))), (kc (.tc (.sc (.int .u8 1)))), (h0 g35)] (G3 57 1 35)) (i0 s36),
  .p (.call 60 [] (G3 57 1 36)) (i0 s37),
  .p (.call 61 [] (G3 57 1 37)) (i0 s38),
  .p (.call 64 [(kc (.tc (.sc (.int .i64 14)))), (kc (.tc (.sc (.int .i64 0))))] (G3 57 1 38)) (i0 s39),
  .p (.bs 1 3 [[(.tc (.sc (.slice none 0 0)))], [(.tc (.sc (.slice none 0 0)))], [(.tc (.sc (.slice none 0 0)))]] [(.mk 0 1 (h0 g37)), (.mk 1 1 (h0 g38)), (.mk 2 1 (h0 g39))] (G3 57 1 39)) (i0 s40),
  .p (.call 59 [(kc (.tc (.sc (.int .u8 8)))), (kc (.tc (.sc (.string ⟨#[109, 111, 118, 105]⟩)))), (kc (.tc (.sc (.int .u8 1)))), (h0 g40)] (G3 57 1 40)) (i0 s41),
  .p (.call 60 [] (G3 57 1 41)) (i0 s42),
  .p (.call 61 [] (G3 57 1 42)) (i0 s43),
  .p (.call 62 [] (G3 57 1 43)) (i0 s44),
  .p (.bs 1 3 [[(.tc (.sc (.slice none 0 0)))], [(.tc (.sc (.slice none 0 0)))], [(.tc (.sc (.slice none 0 0)))]] [(.mk 0 1 (h0 g42)), (.mk 1 1 (h0 g43)), (.mk 2 1 (h0 g44))] (G3 57 1 44)) (i0 s45),
  .p (.call 59 [(kc (.tc (.sc (.int .u8 9)))), (kc (.tc (.sc (.string ⟨#[109, 111, 118]⟩)))), (kc (.tc (.sc (.int .u8 1)))), (h0 g45)] (G3 57 1 45)) (i0 s46),
  .p (.call 65 [] (G3 57 1 46)) (i0 s47),
  .p (.call 62 [] (G3 57 1 47)) (i0 s48),
  .p (.call 63 [] (G3 57 1 48)) (i0 s49),
  .p (.bs 1 3 [[(.tc (.sc (.slice none 0 0)))], [(.tc (.sc (.slice none 0 0)))], [(.tc (.sc (.slice none 0 0)))]] [(.mk 0 1 (h0 g47)), (.mk 1 1 (h0 g48)), (.mk 2 1 (h0 g49))] (G3 57 1 49)) (i0 s50),
  .p (.call 59 [(kc (.tc (.sc (.int .u8 10)))), (kc (.tc (.sc (.string ⟨#[99, 109, 112, 101, 113]⟩)))), (kc (.tc (.sc (.int .u8 1)))), (h0 g50)] (G3 57 1 50)) (i0 s51),
  .p (.call 65 [] (G3 57 1 51)) (i0 s52),
  .p (.call 62 [] (G3 57 1 52)) (i0 s53),
  .p (.call 63 [] (G3 57 1 53)) (i0 s54),
  .p (.bs 1 3 [[(.tc (.sc (.slice none 0 0)))], [(.tc (.sc (.slice none 0 0)))], [(.tc (.sc (.slice none 0 0)))]] [(.mk 0 1 (h0 g52)), (.mk 1 1 (h0 g53)), (.mk 2 1 (h0 g54))] (G3 57 1 54)) (i0 s55),
  .p (.call 59 [(kc (.tc (.sc (.int .u8 11)))), (kc (.tc (.sc (.string ⟨#[99, 109, 112, 103, 116]⟩)))), (kc (.tc (.sc (.int .u8 1)))), (h0 g55)] (G3 57 1 55)) (i0 s56),
  .p (.call 65 [] (G3 57 1 56)) (i0 s57),
  .p (.call 62 [] (G3 57 1 57)) (i0 s58),
  .p (.call 63 [] (G3 57 1 58)) (i0 s59),
  .p (.bs 1 3 [[(.tc (.sc (.slice none 0 0)))], [(.tc (.sc (.slice none 0 0)))], [(.tc (.sc (.slice none 0 0)))]] [(.mk 0 1 (h0 g57)), (.mk 1 1 (h0 g58)), (.mk 2 1 (h0 g59))] (G3 57 1 59)) (i0 s60),
  .p (.call 59 [(kc (.tc (.sc (.int .u8 12)))), (kc (.tc (.sc (.string ⟨#[99, 109, 112, 103, 116, 117]⟩)))), (kc (.tc (.sc (.int .u8 1)))), (h0 g60)] (G3 57 1 60)) (i0 s61),
  .p (.call 65 [] (G3 57 1 61)) (i0 s62),
  .p (.call 62 [] (G3 57 1 62)) (i0 s63),
  .p (.call 64 [(kc (.tc (.sc (.int .i64 14)))), (kc (.tc (.sc (.int .i64 0))))] (G3 57 1 63)) (i1 s0),
  .p (.bs 1 3 [[(.tc (.sc (.slice none 0 0)))], [(.tc (.sc (.slice none 0 0)))], [(.tc (.sc (.slice none 0 0)))]] [(.mk 0 1 (h0 g62)), (.mk 1 1 (h0 g63)), (.mk 2 1 (h1 g0))] (G3 57 1 64)) (i1 s1),
  .p (.call 59 [(kc (.tc (.sc (.int .u8 13)))), (kc (.tc (.sc (.string ⟨#[99, 109, 112, 101, 113, 105]⟩)))), (kc (.tc (.sc (.int .u8 1)))), (h1 g1)] (G3 57 1 65)) (i1 s2),
  .p (.call 61 [] (G3 57 1 66)) (i1 s3),
  .p (.call 66 [(kc (.tc (.sc (.int .u8 2)))), (kc (.tc (.sc (.int .i64 2))))] (G3 57 1 67)) (i1 s4),
  .p (.call 62 [] (G3 57 1 68)) (i1 s5),
  .p (.call 63 [] (G3 57 1 69)) (i1 s6),
  .p (.bs 1 4 [[(.tc (.sc (.slice none 0 0)))], [(.tc (.sc (.slice none 0 0)))], [(.tc (.sc (.slice none 0 0)))], [(.tc (.sc (.slice none 0 0)))]] [(.mk 0 1 (h1 g3)), (.mk 1 1 (h1 g4)), (.mk 2 1 (h1 g5)), (.mk 3 1 (h1 g6))] (G3 57 1 70)) (i1 s7),
  .p (.call 59 [(kc (.tc (.sc (.int .u8 14)))), (kc (.tc (.sc (.string ⟨#[109, 117, 120]⟩)))), (kc (.tc (.sc (.int .u8 1)))), (h1 g7)] (G3 57 1 71)) (i1 s8),
  .p (.call 61 [] (G3 57 1 72)) (i1 s9),
  .p (.call 62 [] (G3 57 1 73)) (i1 s10),
  .p (.call 66 [(kc (.tc (.sc (.int .u8 9)))), (kc (.tc (.sc (.int .i64 5))))] (G3 57 1 74)) (i1 s11),
  .p (.bs 1 3 [[(.tc (.sc (.slice none 0 0)))], [(.tc (.sc (.slice none 0 0)))], [(.tc (.sc (.slice none 0 0)))]] [(.mk 0 1 (h1 g9)), (.mk 1 1 (h1 g10)), (.mk 2 1 (h1 g11))] (G3 57 1 75)) (i1 s12),
  .p (.call 59 [(kc (.tc (.sc (.int .u8 15)))), (kc (.tc (.sc (.string ⟨#[97, 115, 108]⟩)))), (kc (.tc (.sc (.int .u8 2)))), (h1 g12)] (G3 57 1 76)) (i1 s13),
  .p (.call 61 [] (G3 57 1 77)) (i1 s14),
  .p (.call 62 [] (G3 57 1 78)) (i1 s15),
  .p (.call 66 [(kc (.tc (.sc (.int .u8 9)))), (kc (.tc (.sc (.int .i64 5))))] (G3 57 1 79)) (i1 s16),
  .p (.bs 1 3 [[(.tc (.sc (.slice none 0 0)))], [(.tc (.sc (.slice none 0 0)))], [(.tc (.sc (.slice none 0 0)))]] [(.mk 0 1 (h1 g14)), (.mk 1 1 (h1 g15)), (.mk 2 1 (h1 g16))] (G3 57 1 80)) (i1 s17),
  .p (.call 59 [(kc (.tc (.sc (.int .u8 16)))), (kc (.tc (.sc (.string ⟨#[108, 115, 114]⟩)))), (kc (.tc (.sc (.int .u8 2)))), (h1 g17)] (G3 57 1 81)) (i1 s18),
  .p (.call 61 [] (G3 57 1 82)) (i1 s19),
  .p (.call 62 [] (G3 57 1 83)) (i1 s20),
  .p (.call 66 [(kc (.tc (.sc (.int .u8 9)))), (kc (.tc (.sc (.int .i64 5))))] (G3 57 1 84)) (i1 s21),
  .p (.bs 1 3 [[(.tc (.sc (.slice none 0 0)))], [(.tc (.sc (.slice none 0 0)))], [(.tc (.sc (.slice none 0 0)))]] [(.mk 0 1 (h1 g19)), (.mk 1 1 (h1 g20)), (.mk 2 1 (h1 g21))] (G3 57 1 85)) (i1 s22),
  .p (.call 59 [(kc (.tc (.sc (.int .u8 17)))), (kc (.tc (.sc (.string ⟨#[97, 115, 114]⟩)))), (kc (.tc (.sc (.int .u8 2)))), (h1 g22)] (G3 57 1 86)) (i1 s23),
  .p (.call 61 [] (G3 57 1 87)) (i1 s24),
  .p (.call 62 [] (G3 57 1 88)) (i1 s25),
  .p (.call 63 [] (G3 57 1 89)) (i1 s26),
  .p (.bs 1 3 [[(.tc (.sc (.slice none 0 0)))], [(.tc (.sc (.slice none 0 0)))], [(.tc (.sc (.slice none 0 0)))]] [(.mk 0 1 (h1 g24)), (.mk 1 1 (h1 g25)), (.mk 2 1 (h1 g26))] (G3 57 1 90)) (i1 s27),
  .p (.call 59 [(kc (.tc (.sc (.int .u8 18)))), (kc (.tc (.sc (.string ⟨#[109, 112, 121]⟩)))), (kc (.tc (.sc (.int .u8 2)))), (h1 g27)] (G3 57 1 91)) (i1 s28),
  .p (.call 61 [] (G3 57 1 92)) (i1 s29),
  .p (.call 62 [] (G3 57 1 93)) (i1 s30),
  .p (.call 63 [] (G3 57 1 94)) (i1 s31),
  .p (.bs 1 3 [[(.tc (.sc (.slice none 0 0)))], [(.tc (.sc (.slice none 0 0)))], [(.tc (.sc (.slice none 0 0)))]] [(.mk 0 1 (h1 g29)), (.mk 1 1 (h1 g30)), (.mk 2 1 (h1 g31))] (G3 57 1 95)) (i1 s32),
  .p (.call 59 [(kc (.tc (.sc (.int .u8 19)))), (kc (.tc (.sc (.string ⟨#[99, 109, 112, 121]⟩)))), (kc (.tc (.sc (.int .u8 2)))), (h1 g32)] (G3 57 1 96)) (i1 s33),
  .p (.call 61 [] (G3 57 1 97)) (i1 s34),
  .p (.call 62 [] (G3 57 1 98)) (i1 s35),
  .p (.call 63 [] (G3 57 1 99)) (i1 s36),
  .p (.bs 1 3 [[(.tc (.sc (.slice none 0 0)))], [(.tc (.sc (.slice none 0 0)))], [(.tc (.sc (.slice none 0 0)))]] [(.mk 0 1 (h1 g34)), (.mk 1 1 (h1 g35)), (.mk 2 1 (h1 g36))] (G3 57 1 100)) (i1 s37),
  .p (.call 59 [(kc (.tc (.sc (.int .u8 20)))), (kc (.tc (.sc (.string ⟨#[99, 109, 112, 121, 99]⟩)))), (kc (.tc (.sc (.int .u8 2)))), (h1 g37)] (G3 57 1 101)) (i1 s38),
  .p (.call 61 [] (G3 57 1 102)) (i1 s39),
  .p (.call 62 [] (G3 57 1 103)) (i1 s40),
  .p (.call 64 [(kc (.tc (.sc (.int .i64 12)))), (kc (.tc (.sc (.int .i64 2))))] (G3 57 1 104)) (i1 s41),
  .p (.bs 1 3 [[(.tc (.sc (.slice none 0 0)))], [(.tc (.sc (.slice none 0 0)))], [(.tc (.sc (.slice none 0 0)))]] [(.mk 0 1 (h1 g39)), (.mk 1 1 (h1 g40)), (.mk 2 1 (h1 g41))] (G3 57 1 105)) (i1 s42),
  .p (.call 59 [(kc (.tc (.sc (.int .u8 21)))), (kc (.tc (.sc (.string ⟨#[108, 100, 119]⟩)))), (kc (.tc (.sc (.int .u8 3)))), (h1 g42)] (G3 57 1 106)) (i1 s43),
  .p (.call 61 [] (G3 57 1 107)) (i1 s44),
  .p (.call 62 [] (G3 57 1 108)) (i1 s45),
  .p (.call 64 [(kc (.tc (.sc (.int .i64 12)))), (kc (.tc (.sc (.int .i64 1))))] (G3 57 1 109)) (i1 s46),
  .p (.bs 1 3 [[(.tc (.sc (.slice none 0 0)))], [(.tc (.sc (.slice none 0 0)))], [(.tc (.sc (.slice none 0 0)))]] [(.mk 0 1 (h1 g44)), (.mk 1 1 (h1 g45)), (.mk 2 1 (h1 g46))] (G3 57 1 110)) (i1 s47),
  .p (.call 59 [(kc (.tc (.sc (.int .u8 22)))), (kc (.tc (.sc (.string ⟨#[108, 100, 104]⟩)))), (kc (.tc (.sc (.int .u8 3)))), (h1 g47)] (G3 57 1 111)) (i1 s48),
  .p (.call 61 [] (G3 57 1 112)) (i1 s49),
  .p (.call 62 [] (G3 57 1 113)) (i1 s50),
  .p (.call 64 [(kc (.tc (.sc (.int .i64 12)))), (kc (.tc (.sc (.int .i64 0))))] (G3 57 1 114)) (i1 s51),
  .p (.bs 1 3 [[(.tc (.sc (.slice none 0 0)))], [(.tc (.sc (.slice none 0 0)))], [(.tc (.sc (.slice none 0 0)))]] [(.mk 0 1 (h1 g49)), (.mk 1 1 (h1 g50)), (.mk 2 1 (h1 g51))] (G3 57 1 115)) (i1 s52),
  .p (.call 59 [(kc (.tc (.sc (.int .u8 23)))), (kc (.tc (.sc (.string ⟨#[108, 100, 98]⟩)))), (kc (.tc (.sc (.int .u8 3)))), (h1 g52)] (G3 57 1 116)) (i1 s53),
  .p (.call 62 [] (G3 57 1 117)) (i1 s54),
  .p (.call 66 [(kc (.tc (.sc (.int .u8 8)))), (kc (.tc (.sc (.int .i64 1))))] (G3 57 1 118)) (i1 s55),
  .p (.call 63 [] (G3 57 1 119)) (i1 s56),
  .p (.call 64 [(kc (.tc (.sc (.int .i64 12)))), (kc (.tc (.sc (.int .i64 2))))] (G3 57 1 120)) (i1 s57),
  .p (.bs 1 4 [[(.tc (.sc (.slice none 0 0)))], [(.tc (.sc (.slice none 0 0)))], [(.tc (.sc (.slice none 0 0)))], [(.tc (.sc (.slice none 0 0)))]] [(.mk 0 1 (h1 g54)), (.mk 1 1 (h1 g55)), (.mk 2 1 (h1 g56)), (.mk 3 1 (h1 g57))] (G3 57 1 121)) (i1 s58),
  .p (.call 59 [(kc (.tc (.sc (.int .u8 24)))), (kc (.tc (.sc (.string ⟨#[115, 116, 119]⟩)))), (kc (.tc (.sc (.int .u8 4)))), (h1 g58)] (G3 57 1 122)) (i1 s59),
  .p (.call 62 [] (G3 57 1 123)) (i1 s60),
  .p (.call 66 [(kc (.tc (.sc (.int .u8 8)))), (kc (.tc (.sc (.int .i64 1))))] (G3 57 1 124)) (i1 s61),
  .p (.call 63 [] (G3 57 1 125)) (i1 s62),
  .p (.call 64 [(kc (.tc (.sc (.int .i64 12)))), (kc (.tc (.sc (.int .i64 1))))] (G3 57 1 126)) (i1 s63),
  .p (.bs 1 4 [[(.tc (.sc (.slice none 0 0)))], [(.tc (.sc (.slice none 0 0)))], [(.tc (.sc (.slice none 0 0)))], [(.tc (.sc (.slice none 0 0)))]] [(.mk 0 1 (h1 g60)), (.mk 1 1 (h1 g61)), (.mk 2 1 (h1 g62)), (.mk 3 1 (h1 g63))] (G3 57 1 127)) (i2 s0),
  .p (.call 59 [(kc (.tc (.sc (.int .u8 25)))), (kc (.tc (.sc (.string ⟨#[115, 116, 104]⟩)))), (kc (.tc (.sc (.int .u8 4)))), (h2 g0)] (G3 57 1 128)) (i2 s1),
  .p (.call 62 [] (G3 57 1 129)) (i2 s2),
  .p (.call 66 [(kc (.tc (.sc (.int .u8 8)))), (kc (.tc (.sc (.int .i64 1))))] (G3 57 1 130)) (i2 s3),
  .p (.call 63 [] (G3 57 1 131)) (i2 s4),
  .p (.call 64 [(kc (.tc (.sc (.int .i64 12)))), (kc (.tc (.sc (.int .i64 0))))] (G3 57 1 132)) (i2 s5),
  .p (.bs 1 4 [[(.tc (.sc (.slice none 0 0)))], [(.tc (.sc (.slice none 0 0)))], [(.tc (.sc (.slice none 0 0)))], [(.tc (.sc (.slice none 0 0)))]] [(.mk 0 1 (h2 g2)), (.mk 1 1 (h2 g3)), (.mk 2 1 (h2 g4)), (.mk 3 1 (h2 g5))] (G3 57 1 133)) (i2 s6),
  .p (.call 59 [(kc (.tc (.sc (.int .u8 26)))), (kc (.tc (.sc (.string ⟨#[115, 116, 98]⟩)))), (kc (.tc (.sc (.int .u8 4)))), (h2 g6)] (G3 57 1 134)) (i2 s7),
  .p (.call 60 [] (G3 57 1 135)) (i2 s8),
  .p (.call 67 [(kc (.tc (.sc (.int .i64 19))))] (G3 57 1 136)) (i2 s9),
  .p (.bs 1 2 [[(.tc (.sc (.slice none 0 0)))], [(.tc (.sc (.slice none 0 0)))]] [(.mk 0 1 (h2 g8)), (.mk 1 1 (h2 g9))] (G3 57 1 137)) (i2 s10),
  .p (.call 59 [(kc (.tc (.sc (.int .u8 27)))), (kc (.tc (.sc (.string ⟨#[106, 117, 109, 112]⟩)))), (kc (.tc (.sc (.int .u8 5)))), (h2 g10)] (G3 57 1 138)) (i2 s11),
  .p (.call 60 [] (G3 57 1 139)) (i2 s12),
  .p (.call 62 [] (G3 57 1 140)) (i2 s13),
  .p (.bs 1 2 [[(.tc (.sc (.slice none 0 0)))], [(.tc (.sc (.slice none 0 0)))]] [(.mk 0 1 (h2 g12)), (.mk 1 1 (h2 g13))] (G3 57 1 141)) (i2 s14),
  .p (.call 59 [(kc (.tc (.sc (.int .u8 28)))), (kc (.tc (.sc (.string ⟨#[106, 117, 109, 112, 114]⟩)))), (kc (.tc (.sc (.int .u8 5)))), (h2 g14)] (G3 57 1 142)) (i2 s15),
  .p (.call 67 [(kc (.tc (.sc (.int .i64 24))))] (G3 57 1 143)) (i2 s16),
  .p (.bs 1 1 [[(.tc (.sc (.slice none 0 0)))]] [(.mk 0 1 (h2 g16))] (G3 57 1 144)) (i2 s17),
  .p (.call 59 [(kc (.tc (.sc (.int .u8 29)))), (kc (.tc (.sc (.string ⟨#[99, 97, 108, 108]⟩)))), (kc (.tc (.sc (.int .u8 5)))), (h2 g17)] (G3 57 1 145)) (i2 s18),
  .p (.call 66 [(kc (.tc (.sc (.int .u8 7)))), (kc (.tc (.sc (.int .i64 1))))] (G3 57 1 146)) (i2 s19),
  .p (.call 67 [(kc (.tc (.sc (.int .i64 12))))] (G3 57 1 147)) (i2 s20),
  .p (.call 66 [(kc (.tc (.sc (.int .u8 11)))), (kc (.tc (.sc (.int .i64 11))))] (G3 57 1 148)) (i2 s21),
  .p (.bs 1 3 [[(.tc (.sc (.slice none 0 0)))], [(.tc (.sc (.slice none 0 0)))], [(.tc (.sc (.slice none 0 0)))]] [(.mk 0 1 (h2 g19)), (.mk 1 1 (h2 g20)), (.mk 2 1 (h2 g21))] (G3 57 1 149)) (i2 s22),
  .p (.call 59 [(kc (.tc (.sc (.int .u8 30)))), (kc (.tc (.sc (.string ⟨#[108, 111, 111, 112, 105]⟩)))), (kc (.tc (.sc (.int .u8 6)))), (h2 g22)] (G3 57 1 150)) (i2 s23),
  .p (.call 66 [(kc (.tc (.sc (.int .u8 7)))), (kc (.tc (.sc (.int .i64 1))))] (G3 57 1 151)) (i2 s24),
  .p (.call 67 [(kc (.tc (.sc (.int .i64 12))))] (G3 57 1 152)) (i2 s25),
  .p (.call 62 [] (G3 57 1 153)) (i2 s26),
  .p (.bs 1 3 [[(.tc (.sc (.slice none 0 0)))], [(.tc (.sc (.slice none 0 0)))], [(.tc (.sc (.slice none 0 0)))]] [(.mk 0 1 (h2 g24)), (.mk 1 1 (h2 g25)), (.mk 2 1 (h2 g26))] (G3 57 1 154)) (i2 s27),
  .p (.call 59 [(kc (.tc (.sc (.int .u8 31)))), (kc (.tc (.sc (.string ⟨#[108, 111, 111, 112, 114]⟩)))), (kc (.tc (.sc (.int .u8 6)))), (h2 g27)] (G3 57 1 155)) (i2 s28),
  .p (.bs 5 31 [[(.tc (.sc (.int .u8 0))), (.tc (.sc (.string ⟨#[]⟩))), (.tc (.sc (.int .u8 0))), (.tc (.sc (.int .u8 0))), (.tc (.sc (.slice none 0 0)))], [(.tc (.sc (.int .u8 0))), (.tc (.sc (.string ⟨#[]⟩))), (.tc (.sc (.int .u8 0))), (.tc (.sc (.int .u8 0))), (.tc (.sc (.slice none 0 0)))], [(.tc (.sc (.int .u8 0))), (.tc (.sc (.string ⟨#[]⟩))), (.tc (.sc (.int .u8 0))), (.tc (.sc (.int .u8 0))), (.tc (.sc (.slice none 0 0)))], [(.tc (.sc (.int .u8 0))), (.tc (.sc (.string ⟨#[]⟩))), (.tc (.sc (.int .u8 0))), (.tc (.sc (.int .u8 0))), (.tc (.sc (.slice none 0 0)))], [(.tc (.sc (.int .u8 0))), (.tc (.sc (.string ⟨#[]⟩))), (.tc (.sc (.int .u8 0))), (.tc (.sc (.int .u8 0))), (.tc (.sc (.slice none 0 0)))], [(.tc (.sc (.int .u8 0))), (.tc (.sc (.string ⟨#[]⟩))), (.tc (.sc (.int .u8 0))), (.tc (.sc (.int .u8 0))), (.tc (.sc (.slice none 0 0)))], [(.tc (.sc (.int .u8 0))), (.tc (.sc (.string ⟨#[]⟩))), (.tc (.sc (.int .u8 0))), (.tc (.sc (.int .u8 0))), (.tc (.sc (.slice none 0 0)))], [(.tc (.sc (.int .u8 0))), (.tc (.sc (.string ⟨#[]⟩))), (.tc (.sc (.int .u8 0))), (.tc (.sc (.int .u8 0))), (.tc (.sc (.slice none 0 0)))], [(.tc (.sc (.int .u8 0))), (.tc (.sc (.string ⟨#[]⟩))), (.tc (.sc (.int .u8 0))), (.tc (.sc (.int .u8 0))), (.tc (.sc (.slice none 0 0)))], [(.tc (.sc (.int .u8 0))), (.tc (.sc (.string ⟨#[]⟩))), (.tc (.sc (.int .u8 0))), (.tc (.sc (.int .u8 0))), (.tc (.sc (.slice none 0 0)))], [(.tc (.sc (.int .u8 0))), (.tc (.sc (.string ⟨#[]⟩))), (.tc (.sc (.int .u8 0))), (.tc (.sc (.int .u8 0))), (.tc (.sc (.slice none 0 0)))], [(.tc (.sc (.int .u8 0))), (.tc (.sc (.string ⟨#[]⟩))), (.tc (.sc (.int .u8 0))), (.tc (.sc (.int .u8 0))), (.tc (.sc (.slice none 0 0)))], [(.tc (.sc (.int .u8 0))), (.tc (.sc (.string ⟨#[]⟩))), (.tc (.sc (.int .u8 0))), (.tc (.sc (.int .u8 0))), (.tc (.sc (.slice none 0 0)))], [(.tc (.sc (.int .u8 0))), (.tc (.sc (.string ⟨#[]⟩))), (.tc (.sc (.int .u8 0))), (.tc (.sc (.int .u8 0))), (.tc (.sc (.slice none 0 0)))], [(.tc (.sc (.int .u8 0))), (.tc (.sc (.string ⟨#[]⟩))), (.tc (.sc (.int .u8 0))), (.tc (.sc (.int .u8 0))), (.tc (.sc (.slice none 0 0)))], [(.tc (.sc (.int .u8 0))), (.tc (.sc (.string ⟨#[]⟩))), (.tc (.sc (.int .u8 0))), (.tc (.sc (.int .u8 0))), (.tc (.sc (.slice none 0 0)))], [(.tc (.sc (.int .u8 0))), (.tc (.sc (.string ⟨#[]⟩))), (.tc (.sc (.int .u8 0))), (.tc (.sc (.int .u8 0))), (.tc (.sc (.slice none 0 0)))], [(.tc (.sc (.int .u8 0))), (.tc (.sc (.string ⟨#[]⟩))), (.tc (.sc (.int .u8 0))), (.tc (.sc (.int .u8 0))), (.tc (.sc (.slice none 0 0)))], [(.tc (.sc (.int .u8 0))), (.tc (.sc (.string ⟨#[]⟩))), (.tc (.sc (.int .u8 0))), (.tc (.sc (.int .u8 0))), (.tc (.sc (.slice none 0 0)))], [(.tc (.sc (.int .u8 0))), (.tc (.sc (.string ⟨#[]⟩))), (.tc (.sc (.int .u8 0))), (.tc (.sc (.int .u8 0))), (.tc (.sc (.slice none 0 0)))], [(.tc (.sc (.int .u8 0))), (.tc (.sc (.string ⟨#[]⟩))), (.tc (.sc (.int .u8 0))), (.tc (.sc (.int .u8 0))), (.tc (.sc (.slice none 0 0)))], [(.tc (.sc (.int .u8 0))), (.tc (.sc (.string ⟨#[]⟩))), (.tc (.sc (.int .u8 0))), (.tc (.sc (.int .u8 0))), (.tc (.sc (.slice none 0 0)))], [(.tc (.sc (.int .u8 0))), (.tc (.sc (.string ⟨#[]⟩))), (.tc (.sc (.int .u8 0))), (.tc (.sc (.int .u8 0))), (.tc (.sc (.slice none 0 0)))], [(.tc (.sc (.int .u8 0))), (.tc (.sc (.string ⟨#[]⟩))), (.tc (.sc (.int .u8 0))), (.tc (.sc (.int .u8 0))), (.tc (.sc (.slice none 0 0)))], [(.tc (.sc (.int .u8 0))), (.tc (.sc (.string ⟨#[]⟩))), (.tc (.sc (.int .u8 0))), (.tc (.sc (.int .u8 0))), (.tc (.sc (.slice none 0 0)))], [(.tc (.sc (.int .u8 0))), (.tc (.sc (.string ⟨#[]⟩))), (.tc (.sc (.int .u8 0))), (.tc (.sc (.int .u8 0))), (.tc (.sc (.slice none 0 0)))], [(.tc (.sc (.int .u8 0))), (.tc (.sc (.string ⟨#[]⟩))), (.tc (.sc (.int .u8 0))), (.tc (.sc (.int .u8 0))), (.tc (.sc (.slice none 0 0)))], [(.tc (.sc (.int .u8 0))), (.tc (.sc (.string ⟨#[]⟩))), (.tc (.sc (.int .u8 0))), (.tc (.sc (.int .u8 0))), (.tc (.sc (.slice none 0 0)))], [(.tc (.sc (.int .u8 0))), (.tc (.sc (.string ⟨#[]⟩))), (.tc (.sc (.int .u8 0))), (.tc (.sc (.int .u8 0))), (.tc (.sc (.slice none 0 0)))], [(.tc (.sc (.int .u8 0))), (.tc (.sc (.string ⟨#[]⟩))), (.tc (.sc (.int .u8 0))), (.tc (.sc (.int .u8 0))), (.tc (.sc (.slice none 0 0)))], [(.tc (.sc (.int .u8 0))), (.tc (.sc (.string ⟨#[]⟩))), (.tc (.sc (.int .u8 0))), (.tc (.sc (.int .u8 0))), (.tc (.sc (.slice none 0 0)))]] [(.mk 0 5 (h0 g1)), (.mk 1 5 (h0 g7)), (.mk 2 5 (h0 g13)), (.mk 3 5 (h0 g19)), (.mk 4 5 (h0 g25)), (.mk 5 5 (h0 g31)), (.mk 6 5 (h0 g36)), (.mk 7 5 (h0 g41)), (.mk 8 5 (h0 g46)), (.mk 9 5 (h0 g51)), (.mk 10 5 (h0 g56)), (.mk 11 5 (h0 g61)), (.mk 12 5 (h1 g2)), (.mk 13 5 (h1 g8)), (.mk 14 5 (h1 g13)), (.mk 15 5 (h1 g18)), (.mk 16 5 (h1 g23)), (.mk 17 5 (h1 g28)), (.mk 18 5 (h1 g33)), (.mk 19 5 (h1 g38)), (.mk 20 5 (h1 g43)), (.mk 21 5 (h1 g48)), (.mk 22 5 (h1 g53)), (.mk 23 5 (h1 g59)), (.mk 24 5 (h2 g1)), (.mk 25 5 (h2 g7)), (.mk 26 5 (h2 g11)), (.mk 27 5 (h2 g15)), (.mk 28 5 (h2 g18)), (.mk 29 5 (h2 g23)), (.mk 30 5 (h2 g28))] (G3 57 1 156)) (i2 s29),
  .p (.mv (h2 g29)) (i0 s0)])
 .ret)),
 [.tmp (h0 g0)]⟩
theorem ffEnc57_ok : compF SBEnc 57 = ffEnc57 := by kernel_rfl
noncomputable def ffEnc59 : FF := .t2 ⟨17,
 (.seq (.reg [.p (.al 5 [(.sc (.int .u8 0)), (.sc (.string ⟨#[]⟩)), (.sc (.int .u8 0)), (.sc (.int .u8 0)), (.sc (.slice none 0 0))]) s8])
 (.seq (.reg [.p (.mv g0) s9,
  .p (.mv g1) s10,
  .p (.mv g2) s11,
  .p (.mv g2) s12,
  .p (.call 68 [g12] (G2 59 1 4)) s13,
  .p (.mv g3) s14,
  .p (.call 69 [g14] (G2 59 1 6)) s15,
  .p (.bd [(.tc (.sc (.int .u8 0))), (.tc (.sc (.string ⟨#[]⟩))), (.tc (.sc (.int .u8 0))), (.tc (.sc (.int .u8 0))), (.tc (.sc (.slice none 0 0)))] [(.mk 0 1 g9), (.mk 1 1 g10), (.mk 2 1 g11), (.mk 3 1 g13), (.mk 4 1 g15)] (G2 59 1 7)) s16,
  .n (.st 5 g8 g16 (G2 59 1 8))])
 .ret)),
 [.cell g8 true 5]⟩
theorem ffEnc59_ok : compF SBEnc 59 = ffEnc59 := by kernel_rfl
noncomputable def ffEnc68 : FF := .t2 ⟨15,
 (.seq (.reg [.p (.mv (kc (.tc (.sc (.int .u8 0))))) s2])
 (.seq (.seq (.reg [.p (.mv g0) s3])
 (.block 0 (.seq (.reg [.p (.bin .eql g3 (kc (.tc (.sc (.int .u8 1)))) (G2 68 2 0)) s5,
  .p (.mv g5) s4])
 (.cond g4 (.seq (.reg [.p (.mv (kc (.tc (.sc (.int .u8 15))))) s2])
 .ret)
 (.seq (.seq (.reg [.p (.bin .eql g3 (kc (.tc (.sc (.int .u8 2)))) (G2 68 4 0)) s7,
  .p (.mv g7) s6])
 (.cond g6 .skip
 (.reg [.p (.bin .eql g3 (kc (.tc (.sc (.int .u8 5)))) (G2 68 5 0)) s8,
  .p (.mv g8) s6])))
 (.cond g6 (.seq (.reg [.p (.mv (kc (.tc (.sc (.int .u8 12))))) s2])
 .ret)
 (.seq (.reg [.p (.bin .eql g3 (kc (.tc (.sc (.int .u8 3)))) (G2 68 7 0)) s10,
  .p (.mv g10) s9])
 (.cond g9 (.seq (.reg [.p (.mv (kc (.tc (.sc (.int .u8 3))))) s2])
 .ret)
 (.seq (.reg [.p (.bin .eql g3 (kc (.tc (.sc (.int .u8 4)))) (G2 68 9 0)) s12,
  .p (.mv g12) s11])
 (.cond g11 (.seq (.reg [.p (.mv (kc (.tc (.sc (.int .u8 1))))) s2])
 .ret)
 (.seq (.reg [.p (.bin .eql g3 (kc (.tc (.sc (.int .u8 6)))) (G2 68 11 0)) s14,
  .p (.mv g14) s13])
 (.cond g13 (.seq (.reg [.p (.mv (kc (.tc (.sc (.int .u8 8))))) s2])
 .ret)
 .skip))))))))))))
 (.seq (.reg [.p (.mv (kc (.tc (.sc (.int .u8 0))))) s2])
 .ret))),
 [.tmp g2]⟩
theorem ffEnc68_ok : compF SBEnc 68 = ffEnc68 := by kernel_rfl
noncomputable def ffEnc69 : FF := .t2 ⟨36,
 (.seq (.reg [.p (.mv (kc (.tc (.sc (.slice none 0 0))))) s2])
 (.seq (.reg [.p (.mv (kc (.tc (.sc (.int .i64 0))))) s3])
 (.seq (.seq (.reg [.p (.mv g0) s9,
  .p (.len g9 (G2 69 2 1)) s10,
  .p (.mv (kc (.tc (.sc (.int .i64 0))))) s11])
 (.block 0 (.loop 4294967296 (.seq (.reg [.p (.bin .lss g11 g10 (G2 69 3 0)) s12])
 (.seq (.cond g12 .skip
 (.exit 0))
 (.seq (.block 1 (.seq (.reg [.p (.ia 1 g9 g11 (G2 69 4 0)) s13,
  .p (.ld false 1 g13) s14,
  .p (.mv g14) s5])
 (.seq (.reg [.p (.mv g3) s15,
  .p (.mv g5) s16,
  .p (.len g16 (G2 69 5 2)) s17,
  .p (.bin .add g15 g17 (G2 69 5 3)) s18,
  .p (.mv g18) s3])
 (.seq (.reg [.p (.mv g3) s19,
  .p (.bin .lss g19 (kc (.tc (.sc (.int .i64 0)))) (G2 69 6 1)) s20])
 (.cond g20 (.reg [.p (.gen (G2 69 7 0)) s21,
  .n (.gen (G2 69 7 1))])
 .skip)))))
 (.reg [.p (.bin .add g11 (kc (.tc (.sc (.int .i64 1)))) (G2 69 8 0)) s22,
  .p (.mv g22) s11])))))))
 (.seq (.reg [.p (.mv g3) s23,
  .p (.call 70 [(kc (.tc (.sc (.slice none 0 0)))), g23] (G2 69 9 1)) s24,
  .p (.mv g24) s6])
 (.seq (.seq (.reg [.p (.mv g0) s25,
  .p (.len g25 (G2 69 10 1)) s26,
  .p (.mv (kc (.tc (.sc (.int .i64 0))))) s27])
 (.block 2 (.loop 4294967296 (.seq (.reg [.p (.bin .lss g27 g26 (G2 69 11 0)) s28])
 (.seq (.cond g28 .skip
 (.exit 2))
 (.seq (.block 3 (.seq (.reg [.p (.ia 1 g25 g27 (G2 69 12 0)) s29,
  .p (.ld false 1 g29) s30,
  .p (.mv g30) s8])
 (.reg [.p (.mv g6) s31,
  .p (.mv g8) s32,
  .p (.ap 5 32 g31 g32) s33,
  .p (.mv g33) s6])))
 (.reg [.p (.bin .add g27 (kc (.tc (.sc (.int .i64 1)))) (G2 69 14 0)) s34,
  .p (.mv g34) s27])))))))
 (.seq (.reg [.p (.mv g6) s35,
  .p (.mv g35) s2])
 .ret)))))),
 [.tmp g2]⟩
theorem ffEnc69_ok : compF SBEnc 69 = ffEnc69 := by kernel_rfl
noncomputable def ffEnc70 : FF := .t2 ⟨27,
 (.seq (.reg [.p (.mv (kc (.tc (.sc (.slice none 0 0))))) s4])
 (.seq (.seq (.reg [.p (.mv g1) s5,
  .p (.bin .lss g5 (kc (.tc (.sc (.int .i64 0)))) (G2 70 1 1)) s6])
 (.cond g6 (.reg [.p (.gen (G2 70 2 0)) s7,
  .n (.gen (G2 70 2 1))])
 .skip))
 (.seq (.seq (.reg [.p (.mv g1) s8,
  .p (.mv g0) s9,
  .p (.gen (G2 70 3 2)) s10,
  .p (.mv g0) s11,
  .p (.len g11 (G2 70 3 4)) s12,
  .p (.bin .sub g10 g12 (G2 70 3 5)) s13,
  .p (.bin .sub g8 g13 (G2 70 3 6)) s14,
  .p (.mv g14) s1])
 (.seq (.reg [.p (.mv g1) s15,
  .p (.bin .gtr g15 (kc (.tc (.sc (.int .i64 0)))) (G2 70 4 1)) s16])
 (.cond g16 (.reg [.p (.mv g0) s17,
  .p (.mv g0) s18,
  .p (.gen (G2 70 5 2)) s19,
  .p (.sl 5 g17 none (some g19) none (G2 70 5 3)) s20,
  .p (.mv g1) s21,
  .p (.gen (G2 70 5 5)) s22,
  .p (.mv g0) s23,
  .p (.len g23 (G2 70 5 7)) s24,
  .p (.sl 5 g22 none (some g24) none (G2 70 5 8)) s25,
  .p (.mv g25) s0])
 .skip)))
 (.seq (.reg [.p (.mv g0) s26,
  .p (.mv g26) s4])
 .ret)))),
 [.tmp g4]⟩
theorem ffEnc70_ok : compF SBEnc 70 = ffEnc70 := by kernel_rfl
noncomputable def ffEnc60 : FF := .t2 ⟨4,
 (.seq (.reg [.p (.mv (kc (.tc (.sc (.slice none 0 0))))) s0])
 (.seq (.reg [.p (.call 66 [(kc (.tc (.sc (.int .u8 1)))), (kc (.tc (.sc (.int .i64 3))))] (G2 60 1 0)) s1,
  .p (.call 66 [(kc (.tc (.sc (.int .u8 2)))), (kc (.tc (.sc (.int .i64 2))))] (G2 60 1 1)) s2,
  .p (.ap 5 32 g1 g2) s3,
  .p (.mv g3) s0])
 .ret)),
 [.tmp g0]⟩
theorem ffEnc60_ok : compF SBEnc 60 = ffEnc60 := by kernel_rfl
noncomputable def ffEnc66 : FF := .t2 ⟨9,
 (.seq (.reg [.p (.mv (kc (.tc (.sc (.slice none 0 0))))) s4])
 (.seq (.reg [.p (.mv g0) s5,
  .p (.mv g1) s6,
  .p (.bd [(.tc (.sc (.int .u8 0))), (.tc (.sc (.int .i64 0))), (.tc (.sc (.int .i64 0))), (.tc (.sc (.bool false))), (.tc (.sc (.bool false)))] [(.mk 0 1 g5), (.mk 1 1 g6)] (G2 66 1 2)) s7,
  .p (.bs 5 1 [[(.tc (.sc (.int .u8 0))), (.tc (.sc (.int .i64 0))), (.tc (.sc (.int .i64 0))), (.tc (.sc (.bool false))), (.tc (.sc (.bool false)))]] [(.mk 0 5 g7)] (G2 66 1 3)) s8,
  .p (.mv g8) s4])
 .ret)),
 [.tmp g4]⟩
theorem ffEnc66_ok : compF SBEnc 66 = ffEnc66 := by kernel_rfl
noncomputable def ffEnc61 : FF := .t2 ⟨2,
 (.seq (.reg [.p (.mv (kc (.tc (.sc (.slice none 0 0))))) s0])
 (.seq (.reg [.p (.call 66 [(kc (.tc (.sc (.int .u8 3)))), (kc (.tc (.sc (.int .i64 5))))] (G2 61 1 0)) s1,
  .p (.mv g1) s0])
 .ret)),
 [.tmp g0]⟩
theorem ffEnc61_ok : compF SBEnc 61 = ffEnc61 := by kernel_rfl
noncomputable def ffEnc62 : FF := .t2 ⟨2,
 (.seq (.reg [.p (.mv (kc (.tc (.sc (.slice none 0 0))))) s0])
 (.seq (.reg [.p (.call 66 [(kc (.tc (.sc (.int .u8 5)))), (kc (.tc (.sc (.int .i64 5))))] (G2 62 1 0)) s1,
  .p (.mv g1) s0])
 .ret)),
 [.tmp g0]⟩
theorem ffEnc62_ok : compF SBEnc 62 = ffEnc62 := by kernel_rfl
noncomputable def ffEnc63 : FF := .t2 ⟨2,
 (.seq (.reg [.p (.mv (kc (.tc (.sc (.slice none 0 0))))) s0])
 (.seq (.reg [.p (.call 66 [(kc (.tc (.sc (.int .u8 6)))), (kc (.tc (.sc (.int .i64 5))))] (G2 63 1 0)) s1,
  .p (.mv g1) s0])
 .ret)),
 [.tmp g0]⟩
theorem ffEnc63_ok : compF SBEnc 63 = ffEnc63 := by kernel_rfl
noncomputable def ffEnc64 : FF := .t2 ⟨9,
 (.seq (.reg [.p (.mv (kc (.tc (.sc (.slice none 0 0))))) s4])
 (.seq (.reg [.p (.mv g0) s5,
  .p (.mv g1) s6,
  .p (.bd [(.tc (.sc (.int .u8 0))), (.tc (.sc (.int .i64 0))), (.tc (.sc (.int .i64 0))), (.tc (.sc (.bool false))), (.tc (.sc (.bool false)))] [(.mk 0 1 (kc (.tc (.sc (.int .u8 9))))), (.mk 1 1 g5), (.mk 2 1 g6), (.mk 3 1 (kc (.tc (.sc (.bool true))))), (.mk 4 1 (kc (.tc (.sc (.bool true)))))] (G2 64 1 2)) s7,
  .p (.bs 5 1 [[(.tc (.sc (.int .u8 0))), (.tc (.sc (.int .i64 0))), (.tc (.sc (.int .i64 0))), (.tc (.sc (.bool false))), (.tc (.sc (.bool false)))]] [(.mk 0 5 g7)] (G2 64 1 3)) s8,
  .p (.mv g8) s4])
 .ret)),
 [.tmp g4]⟩
theorem ffEnc64_ok : compF SBEnc 64 = ffEnc64 := by kernel_rfl
noncomputable def ffEnc65 : FF := .t2 ⟨2,
 (.seq (.reg [.p (.mv (kc (.tc (.sc (.slice none 0 0))))) s0])
 (.seq (.reg [.p (.call 66 [(kc (.tc (.sc (.int .u8 4)))), (kc (.tc (.sc (.int .i64 2))))] (G2 65 1 0)) s1,
  .p (.mv g1) s0])
 .ret)),
 [.tmp g0]⟩
theorem ffEnc65_ok : compF SBEnc 65 = ffEnc65 := by kernel_rfl
noncomputable def ffEnc67 : FF := .t2 ⟨6,
 (.seq (.reg [.p (.mv (kc (.tc (.sc (.slice none 0 0))))) s2])
 (.seq (.reg [.p (.mv g0) s3,
  .p (.bd [(.tc (.sc (.int .u8 0))), (.tc (.sc (.int .i64 0))), (.tc (.sc (.int .i64 0))), (.tc (.sc (.bool false))), (.tc (.sc (.bool false)))] [(.mk 0 1 (kc (.tc (.sc (.int .u8 10))))), (.mk 1 1 g3), (.mk 2 1 (kc (.tc (.sc (.int .i64 2))))), (.mk 3 1 (kc (.tc (.sc (.bool true))))), (.mk 4 1 (kc (.tc (.sc (.bool true)))))] (G2 67 1 1)) s4,
  .p (.bs 5 1 [[(.tc (.sc (.int .u8 0))), (.tc (.sc (.int .i64 0))), (.tc (.sc (.int .i64 0))), (.tc (.sc (.bool false))), (.tc (.sc (.bool false)))]] [(.mk 0 5 g4)] (G2 67 1 2)) s5,
  .p (.mv g5) s2])
 .ret)),
 [.tmp g2]⟩
theorem ffEnc67_ok : compF SBEnc 67 = ffEnc67 := by kernel_rfl
noncomputable def ffEnc45 : FF := .t2 ⟨8,
 (.seq (.reg [.p (.mv (kc (.tc (.sc (.slice none 0 0))))) s2])
 (.seq (.seq (.reg [.p (.mv g0) s3,
  .p (.bin .eql g3 (kc (.tc (.sc (.slice none 0 0)))) (G2 45 1 1)) s4])
 (.cond g4 (.seq (.reg [.p (.mv (kc (.tc (.sc (.slice none 0 0))))) s2])
 .ret)
 .skip))
 (.seq (.reg [.p (.bs 5 0 [] [] (G2 45 3 0)) s5,
  .p (.mv g0) s6,
  .p (.ap 5 32 g5 g6) s7,
  .p (.mv g7) s2])
 .ret))),
 [.tmp g2]⟩
theorem ffEnc45_ok : compF SBEnc 45 = ffEnc45 := by kernel_rfl
noncomputable def ffEnc38 : FF := .t2 ⟨40,
 (.seq (.reg [.p (.bx 11 g0 (G2 38 0 0)) s2,
  .p (.bx 5 g1 (G2 38 0 1)) s3,
  .p (.al 11 [(.sc (.int .u8 0)), (.sc (.int .u8 0)), (.sc (.int .u8 0)), (.sc (.int .u8 0)), (.sc (.int .u8 0)), (.sc (.int .u8 0)), (.sc (.int .u8 0)), (.sc (.bool false)), (.sc (.bool false)), (.sc (.int .u16 0)), (.sc (.int .i64 0))]) s4])
 (.seq (.seq (.reg [.p (.fa 0 g3) s5,
  .p (.ld false 1 g5) s6])
 (.block 0 (.seq (.reg [.p (.bin .eql g6 (kc (.tc (.sc (.int .u8 1)))) (G2 38 2 0)) s8,
  .p (.mv g8) s7])
 (.cond g7 (.reg [.p (.fa 6 g2) s9,
  .n (.st 1 g9 (kc (.tc (.sc (.int .u8 0)))) (G2 38 3 1))])
 (.seq (.reg [.p (.bin .eql g6 (kc (.tc (.sc (.int .u8 2)))) (G2 38 4 0)) s11,
  .p (.mv g11) s10])
 (.cond g10 (.reg [.p (.fa 5 g2) s12,
  .n (.st 1 g12 (kc (.tc (.sc (.int .u8 0)))) (G2 38 5 1))])
 (.seq (.seq (.reg [.p (.bin .eql g6 (kc (.tc (.sc (.int .u8 3)))) (G2 38 6 0)) s14,
  .p (.mv g14) s13])
 (.cond g13 .skip
 (.reg [.p (.bin .eql g6 (kc (.tc (.sc (.int .u8 4)))) (G2 38 7 0)) s15,
  .p (.mv g15) s13])))
 (.cond g13 (.reg [.p (.fa 1 g2) s16,
  .n (.st 1 g16 (kc (.tc (.sc (.int .u8 0)))) (G2 38 8 1))])
 (.seq (.reg [.p (.bin .eql g6 (kc (.tc (.sc (.int .u8 5)))) (G2 38 9 0)) s18,
  .p (.mv g18) s17])
 (.cond g17 (.reg [.p (.fa 2 g2) s19,
  .n (.st 1 g19 (kc (.tc (.sc (.int .u8 0)))) (G2 38 10 1))])
 (.seq (.reg [.p (.bin .eql g6 (kc (.tc (.sc (.int .u8 6)))) (G2 38 11 0)) s21,
  .p (.mv g21) s20])
 (.cond g20 (.reg [.p (.fa 3 g2) s22,
  .n (.st 1 g22 (kc (.tc (.sc (.int .u8 0)))) (G2 38 12 1))])
 (.seq (.reg [.p (.bin .eql g6 (kc (.tc (.sc (.int .u8 7)))) (G2 38 13 0)) s24,
  .p (.mv g24) s23])
 (.cond g23 (.reg [.p (.fa 4 g2) s25,
  .n (.st 1 g25 (kc (.tc (.sc (.int .u8 0)))) (G2 38 14 1))])
 (.seq (.reg [.p (.bin .eql g6 (kc (.tc (.sc (.int .u8 8)))) (G2 38 15 0)) s27,
  .p (.mv g27) s26])
 (.cond g26 (.reg [.p (.fa 7 g2) s28,
  .n (.st 1 g28 (kc (.tc (.sc (.bool false)))) (G2 38 16 1))])
 (.seq (.seq (.reg [.p (.bin .eql g6 (kc (.tc (.sc (.int .u8 9)))) (G2 38 17 0)) s30,
  .p (.mv g30) s29])
 (.cond g29 .skip
 (.reg [.p (.bin .eql g6 (kc (.tc (.sc (.int .u8 10)))) (G2 38 18 0)) s31,
  .p (.mv g31) s29])))
 (.cond g29 (.reg [.p (.fa 10 g2) s32,
  .n (.st 1 g32 (kc (.tc (.sc (.int .i64 0)))) (G2 38 19 1))])
 (.seq (.reg [.p (.bin .eql g6 (kc (.tc (.sc (.int .u8 11)))) (G2 38 20 0)) s34,
  .p (.mv g34) s33])
 (.cond g33 (.reg [.p (.fa 9 g2) s35,
  .n (.st 1 g35 (kc (.tc (.sc (.int .u16 0)))) (G2 38 21 1))])
 .skip))))))))))))))))))))
 (.seq (.seq (.reg [.p (.fa 4 g3) s36,
  .p (.ld false 1 g36) s37])
 (.cond g37 (.reg [.p (.fa 8 g2) s38,
  .n (.st 1 g38 (kc (.tc (.sc (.bool false)))) (G2 38 23 1))])
 .skip))
 (.seq (.reg [.p (.ld true 11 g2) s39,
  .n (.st 11 g4 g39 (G2 38 24 1))])
 .ret)))),
 [.cell g4 true 11]⟩
theorem ffEnc38_ok : compF SBEnc 38 = ffEnc38 := by kernel_rfl
noncomputable def ffEnc39 : FF := .t3 ⟨84,
 (.seq (.reg [.p (.bx 11 (h0 g0) (G3 39 0 0)) (i0 s2),
  .p (.bx 5 (h0 g1) (G3 39 0 1)) (i0 s3),
  .p (.mv (kc (.tc (.sc (.bool false))))) (i0 s4)])
 (.seq (.seq (.reg [.p (.fa 0 (h0 g3)) (i0 s5),
  .p (.ld false 1 (h0 g5)) (i0 s6)])
 (.block 0 (.seq (.reg [.p (.bin .eql (h0 g6) (kc (.tc (.sc (.int .u8 1)))) (G3 39 2 0)) (i0 s8),
  .p (.mv (h0 g8)) (i0 s7)])
 (.cond (h0 g7) (.seq (.reg [.p (.fa 6 (h0 g2)) (i0 s9),
  .p (.ld false 1 (h0 g9)) (i0 s10),
  .p (.bin .leq (h0 g10) (kc (.tc (.sc (.int .u8 4)))) (G3 39 3 2)) (i0 s11),
  .p (.mv (h0 g11)) (i0 s4)])
 .ret)
 (.seq (.reg [.p (.bin .eql (h0 g6) (kc (.tc (.sc (.int .u8 2)))) (G3 39 4 0)) (i0 s13),
  .p (.mv (h0 g13)) (i0 s12)])
 (.cond (h0 g12) (.seq (.reg [.p (.fa 5 (h0 g2)) (i0 s14),
  .p (.ld false 1 (h0 g14)) (i0 s15),
  .p (.bin .lss (h0 g15) (kc (.tc (.sc (.int .u8 4)))) (G3 39 5 2)) (i0 s16),
  .p (.mv (h0 g16)) (i0 s4)])
 .ret)
 (.seq (.reg [.p (.bin .eql (h0 g6) (kc (.tc (.sc (.int .u8 3)))) (G3 39 6 0)) (i0 s18),
  .p (.mv (h0 g18)) (i0 s17)])
 (.cond (h0 g17) (.seq (.reg [.p (.fa 1 (h0 g2)) (i0 s19),
  .p (.ld false 1 (h0 g19)) (i0 s20),
  .p (.bin .lss (h0 g20) (kc (.tc (.sc (.int .u8 32)))) (G3 39 7 2)) (i0 s21),
  .p (.mv (h0 g21)) (i0 s4)])
 .ret)
 (.seq (.reg [.p (.bin .eql (h0 g6) (kc (.tc (.sc (.int .u8 4)))) (G3 39 8 0)) (i0 s23),
  .p (.mv (h0 g23)) (i0 s22)])
 (.cond (h0 g22) (.seq (.reg [.p (.fa 1 (h0 g2)) (i0 s24),
  .p (.ld false 1 (h0 g24)) (i0 s25),
  .p (.bin .lss (h0 g25) (kc (.tc (.sc (.int .u8 4)))) (G3 39 9 2)) (i0 s26),
  .p (.mv (h0 g26)) (i0 s4)])
 .ret)
 (.seq (.reg [.p (.bin .eql (h0 g6) (kc (.tc (.sc (.int .u8 5)))) (G3 39 10 0)) (i0 s28),
  .p (.mv (h0 g28)) (i0 s27)])
 (.cond (h0 g27) (.seq (.reg [.p (.fa 2 (h0 g2)) (i0 s29),
  .p (.ld false 1 (h0 g29)) (i0 s30),
  .p (.bin .lss (h0 g30) (kc (.tc (.sc (.int .u8 32)))) (G3 39 11 2)) (i0 s31),
  .p (.mv (h0 g31)) (i0 s4)])
 .ret)
 (.seq (.reg [.p (.bin .eql (h0 g6) (kc (.tc (.sc (.int .u8 6)))) (G3 39 12 0)) (i0 s33),
  .p (.mv (h0 g33)) (i0 s32)])
 (.cond (h0 g32) (.seq (.reg [.p (.fa 3 (h0 g2)) (i0 s34),
  .p (.ld false 1 (h0 g34)) (i0 s35),
  .p (.bin .lss (h0 g35) (kc (.tc (.sc (.int .u8 32)))) (G3 39 13 2)) (i0 s36),
  .p (.mv (h0 g36)) (i0 s4)])
 .ret)
 (.seq (.reg [.p (.bin .eql (h0 g6) (kc (.tc (.sc (.int .u8 7)))) (G3 39 14 0)) (i0 s38),
  .p (.mv (h0 g38)) (i0 s37)])
 (.cond (h0 g37) (.seq (.reg [.p (.fa 4 (h0 g2)) (i0 s39),
  .p (.ld false 1 (h0 g39)) (i0 s40),
  .p (.bin .lss (h0 g40) (kc (.tc (.sc (.int .u8 2)))) (G3 39 15 2)) (i0 s41),
  .p (.mv (h0 g41)) (i0 s4)])
 .ret)
 (.seq (.reg [.p (.bin .eql (h0 g6) (kc (.tc (.sc (.int .u8 9)))) (G3 39 16 0)) (i0 s43),
  .p (.mv (h0 g43)) (i0 s42)])
 (.cond (h0 g42) (.seq (.seq (.reg [.p (.fa 8 (h0 g2)) (i0 s44),
  .p (.ld false 1 (h0 g44)) (i0 s45)])
 (.cond (h0 g45) (.seq (.reg [.p (.fa 10 (h0 g2)) (i0 s46),
  .p (.ld false 1 (h0 g46)) (i0 s47),
  .p (.bin .geq (h0 g47) (kc (.tc (.sc (.int .i64 (-2147483648))))) (G3 39 18 2)) (i0 s48),
  .p (.mv (h0 g48)) (i0 s49),
  .gp (h0 g49) true (.fa 10 (h0 g2)) (i0 s50),
  .gp (h0 g49) true (.ld false 1 (h0 g50)) (i0 s51),
  .gp (h0 g49) true (.bin .leq (h0 g51) (kc (.tc (.sc (.int .i64 2147483647)))) (G3 39 18 6)) (i0 s52),
  .p (.pk (h0 g49) (h0 g52) (kc (.tc (.sc (.bool false))))) (i0 s53),
  .p (.mv (h0 g53)) (i0 s4)])
 .ret)
 .skip))
 (.seq (.reg [.p (.fa 10 (h0 g2)) (i0 s54),
  .p (.ld false 1 (h0 g54)) (i0 s55),
  .p (.fa 1 (h0 g3)) (i0 s56),
  .p (.ld false 1 (h0 g56)) (i0 s57),
  .p (.fa 2 (h0 g3)) (i0 s58),
  .p (.ld false 1 (h0 g58)) (i0 s59),
  .p (.fa 3 (h0 g3)) (i0 s60),
  .p (.ld false 1 (h0 g60)) (i0 s61),
  .p (.call 43 [(h0 g55), (h0 g57), (h0 g59), (h0 g61)] (G3 39 19 8)) (i0 s62),
  .p (.mv (h0 g62)) (i0 s4)])
 .ret))
 (.seq (.reg [.p (.bin .eql (h0 g6) (kc (.tc (.sc (.int .u8 10)))) (G3 39 20 0)) (i1 s0),
  .p (.mv (h1 g0)) (i0 s63)])
 (.cond (h0 g63) (.seq (.reg [.p (.fa 10 (h0 g2)) (i1 s1),
  .p (.ld false 1 (h1 g1)) (i1 s2),
  .p (.bin .geq (h1 g2) (kc (.tc (.sc (.int .i64 0)))) (G3 39 21 2)) (i1 s3),
  .p (.mv (h1 g3)) (i1 s4),
  .gp (h1 g4) true (.fa 10 (h0 g2)) (i1 s5),
  .gp (h1 g4) true (.ld false 1 (h1 g5)) (i1 s6),
  .gp (h1 g4) true (.bin .lss (h1 g6) (kc (.tc (.sc (.int .i64 4294967296)))) (G3 39 21 6)) (i1 s7),
  .p (.pk (h1 g4) (h1 g7) (kc (.tc (.sc (.bool false))))) (i1 s8),
  .p (.mv (h1 g8)) (i1 s9),
  .gp (h1 g9) true (.fa 10 (h0 g2)) (i1 s10),
  .gp (h1 g9) true (.ld false 1 (h1 g10)) (i1 s11),
  .gp (h1 g9) true (.bin .rem (h1 g11) (kc (.tc (.sc (.int .i64 4)))) (G3 39 21 11)) (i1 s12),
  .gp (h1 g9) true (.bin .eql (h1 g12) (kc (.tc (.sc (.int .i64 0)))) (G3 39 21 12)) (i1 s13),
  .p (.pk (h1 g9) (h1 g13) (kc (.tc (.sc (.bool false))))) (i1 s14),
  .p (.mv (h1 g14)) (i0 s4)])
 .ret)
 (.seq (.reg [.p (.bin .eql (h0 g6) (kc (.tc (.sc (.int .u8 11)))) (G3 39 22 0)) (i1 s16),
  .p (.mv (h1 g16)) (i1 s15)])
 (.cond (h1 g15) (.seq (.reg [.p (.fa 9 (h0 g2)) (i1 s17),
  .p (.ld false 1 (h1 g17)) (i1 s18),
  .p (.bin .lss (h1 g18) (kc (.tc (.sc (.int .u16 2048)))) (G3 39 23 2)) (i1 s19),
  .p (.mv (h1 g19)) (i0 s4)])
 .ret)
 .skip))))))))))))))))))))))
 (.seq (.reg [.p (.mv (kc (.tc (.sc (.bool true))))) (i0 s4)])
 .ret))),
 [.tmp (h0 g4)]⟩
theorem ffEnc39_ok : compF SBEnc 39 = ffEnc39 := by kernel_rfl
noncomputable def ffEnc43 : FF := .t2 ⟨48,
 (.seq (.reg [.p (.mv (kc (.tc (.sc (.bool false))))) s8])
 (.seq (.seq (.reg [.p (.mv g1) s9,
  .p (.bin .lss g9 (kc (.tc (.sc (.int .i64 1)))) (G2 43 1 1)) s10,
  .p (.mv g10) s11,
  .gp g11 false (.mv g1) s12,
  .gp g11 false (.bin .gtr g12 (kc (.tc (.sc (.int .i64 32)))) (G2 43 1 4)) s13,
  .p (.pk g11 (kc (.tc (.sc (.bool true)))) g13) s14,
  .p (.mv g14) s15,
  .gp g15 false (.mv g2) s16,
  .gp g15 false (.bin .lss g16 (kc (.tc (.sc (.int .i64 0)))) (G2 43 1 8)) s17,
  .p (.pk g15 (kc (.tc (.sc (.bool true)))) g17) s18,
  .p (.mv g18) s19,
  .gp g19 false (.mv g2) s20,
  .gp g19 false (.bin .gtr g20 (kc (.tc (.sc (.int .i64 8)))) (G2 43 1 12)) s21,
  .p (.pk g19 (kc (.tc (.sc (.bool true)))) g21) s22,
  .p (.mv g22) s23,
  .gp g23 false (.mv g0) s24,
  .gp g23 false (.mv g2) s25,
  .gp g23 false (.bin .shl (kc (.tc (.sc (.int .i64 1)))) g25 (G2 43 1 17)) s26,
  .gp g23 false (.bin .sub g26 (kc (.tc (.sc (.int .i64 1)))) (G2 43 1 18)) s27,
  .gp g23 false (.bin .and g24 g27 (G2 43 1 19)) s28,
  .gp g23 false (.bin .neq g28 (kc (.tc (.sc (.int .i64 0)))) (G2 43 1 20)) s29,
  .p (.pk g23 (kc (.tc (.sc (.bool true)))) g29) s30])
 (.cond g30 (.seq (.reg [.p (.mv (kc (.tc (.sc (.bool false))))) s8])
 .ret)
 .skip))
 (.seq (.reg [.p (.mv g0) s31,
  .p (.mv g2) s32,
  .p (.bin .shr g31 g32 (G2 43 3 2)) s33,
  .p (.mv g33) s0])
 (.seq (.seq (.reg [.p (.mv g3) s34])
 (.cond g34 (.reg [.p (.mv g0) s35,
  .p (.mv g1) s36,
  .p (.bin .sub g36 (kc (.tc (.sc (.int .i64 1)))) (G2 43 5 2)) s37,
  .p (.bin .shl (kc (.tc (.sc (.int .i64 1)))) g37 (G2 43 5 3)) s38,
  .p (.bin .add g35 g38 (G2 43 5 4)) s39,
  .p (.mv g39) s0])
 .skip))
 (.seq (.reg [.p (.mv g0) s40,
  .p (.bin .geq g40 (kc (.tc (.sc (.int .i64 0)))) (G2 43 6 1)) s41,
  .p (.mv g41) s42,
  .gp g42 true (.mv g0) s43,
  .gp g42 true (.mv g1) s44,
  .gp g42 true (.bin .shl (kc (.tc (.sc (.int .i64 1)))) g44 (G2 43 6 5)) s45,
  .gp g42 true (.bin .lss g43 g45 (G2 43 6 6)) s46,
  .p (.pk g42 g46 (kc (.tc (.sc (.bool false))))) s47,
  .p (.mv g47) s8])
 .ret))))),
 [.tmp g8]⟩
theorem ffEnc43_ok : compF SBEnc 43 = ffEnc43 := by kernel_rfl
noncomputable def ffEnc40 : FF := .t2 ⟨5,
 (.seq (.reg [.p (.bx 11 g0 (G2 40 0 0)) s1,
  .p (.mv (kc (.tc (.sc (.bool false))))) s2])
 (.seq (.reg [.p (.ld true 11 g1) s3,
  .p (.call 30 [g3, (kc (.tc (.sc (.int .u8 1))))] (G2 40 1 1)) s4,
  .p (.mv g4) s2])
 .ret)),
 [.tmp g2]⟩
theorem ffEnc40_ok : compF SBEnc 40 = ffEnc40 := by kernel_rfl
noncomputable def ffEnc30 : FF := .t2 ⟨17,
 (.seq (.reg [.p (.bx 11 g0 (G2 30 0 0)) s2,
  .p (.mv (kc (.tc (.sc (.bool false))))) s4])
 (.seq (.reg [.p (.fa 0 g2) s9,
  .p (.ld false 1 g9) s10,
  .p (.mv g1) s11,
  .p (.call 16 [g10, g11] (G2 30 1 3)) s12,
  .p (.mv g12) s8,
  .p (.ex g8 0) s13,
  .p (.ex g8 1) s14,
  .p (.ex g8 2) s15,
  .p (.al 5 [(.sc (.int .u8 0)), (.sc (.int .i64 0)), (.sc (.int .i64 0)), (.sc (.bool false)), (.sc (.bool false))]) s5,
  .n (.st 5 g5 g13 (G2 30 1 9)),
  .p (.mv g14) s6,
  .p (.mv g15) s7])
 (.seq (.reg [.p (.mv g7) s16,
  .p (.mv g16) s4])
 .ret))),
 [.tmp g4]⟩
theorem ffEnc30_ok : compF SBEnc 30 = ffEnc30 := by kernel_rfl
noncomputable def ffEnc16 : FF := .t2 ⟨35,
 (.seq (.reg [.p (.al 5 [(.sc (.int .u8 0)), (.sc (.int .i64 0)), (.sc (.int .i64 0)), (.sc (.bool false)), (.sc (.bool false))]) s4,
  .p (.mv (kc (.tc (.sc (.int .i64 0))))) s5,
  .p (.mv (kc (.tc (.sc (.bool false))))) s6])
 (.seq (.reg [.p (.mv g0) s12,
  .p (.call 44 [g12] (G2 16 1 1)) s13,
  .p (.mv g13) s11,
  .p (.ex g11 0) s14,
  .p (.ex g11 1) s15,
  .p (.al 5 [(.sc (.int .u8 0)), (.sc (.string ⟨#[]⟩)), (.sc (.int .u8 0)), (.sc (.int .u8 0)), (.sc (.slice none 0 0))]) s7,
  .n (.st 5 g7 g14 (G2 16 1 6)),
  .p (.mv g15) s8])
 (.seq (.reg [.p (.mv (kc (.tc (.sc (.int .i64 24))))) s5])
 (.seq (.seq (.reg [.p (.fa 4 g7) s16,
  .p (.ld false 1 g16) s17,
  .p (.len g17 (G2 16 3 2)) s18,
  .p (.mv (kc (.tc (.sc (.int .i64 0))))) s19])
 (.block 0 (.loop 4294967296 (.seq (.reg [.p (.bin .lss g19 g18 (G2 16 4 0)) s20])
 (.seq (.cond g20 .skip
 (.exit 0))
 (.seq (.block 1 (.seq (.reg [.p (.ia 5 g17 g19 (G2 16 5 0)) s21,
  .p (.ld true 5 g21) s22,
  .p (.al 5 [(.sc (.int .u8 0)), (.sc (.int .i64 0)), (.sc (.int .i64 0)), (.sc (.bool false)), (.sc (.bool false))]) s10,
  .n (.st 5 g10 g22 (G2 16 5 3))])
 (.seq (.reg [.p (.mv g5) s23,
  .p (.fa 1 g10) s24,
  .p (.ld false 1 g24) s25,
  .p (.bin .sub g23 g25 (G2 16 6 3)) s26,
  .p (.mv g26) s5])
 (.seq (.reg [.p (.fa 0 g10) s27,
  .p (.ld false 1 g27) s28,
  .p (.mv g1) s29,
  .p (.bin .eql g28 g29 (G2 16 7 3)) s30])
 (.cond g30 (.seq (.reg [.p (.ld true 5 g10) s31,
  .p (.mv g5) s32,
  .n (.st 5 g4 g31 (G2 16 8 2)),
  .p (.mv g32) s5,
  .p (.mv (kc (.tc (.sc (.bool true))))) s6])
 .ret)
 .skip)))))
 (.reg [.p (.bin .add g19 (kc (.tc (.sc (.int .i64 1)))) (G2 16 9 0)) s33,
  .p (.mv g33) s19])))))))
 (.seq (.reg [.p (.bd [(.tc (.sc (.int .u8 0))), (.tc (.sc (.int .i64 0))), (.tc (.sc (.int .i64 0))), (.tc (.sc (.bool false))), (.tc (.sc (.bool false)))] [] (G2 16 10 0)) s34,
  .n (.st 5 g4 g34 (G2 16 10 1)),
  .p (.mv (kc (.tc (.sc (.int .i64 0))))) s5,
  .p (.mv (kc (.tc (.sc (.bool false))))) s6])
 .ret))))),
 [.cell g4 true 5, .tmp g5, .tmp g6]⟩
theorem ffEnc16_ok : compF SBEnc 16 = ffEnc16 := by kernel_rfl
noncomputable def ffEnc14 : FF := .t2 ⟨33,
 (.seq (.reg [.p (.bx 11 g0 (G2 14 0 0)) s2,
  .p (.mv (kc (.tc (.sc (.bool false))))) s4])
 (.seq (.reg [.p (.fa 0 g2) s10,
  .p (.ld false 1 g10) s11,
  .p (.call 41 [g11] (G2 14 1 2)) s12,
  .p (.mv g12) s9,
  .p (.ex g9 0) s13,
  .p (.ex g9 1) s14,
  .p (.al 5 [(.sc (.int .u8 0)), (.sc (.int .i64 0)), (.sc (.int .i64 0)), (.sc (.bool false)), (.sc (.bool false))]) s5,
  .n (.st 5 g5 g13 (G2 14 1 7)),
  .p (.mv g14) s6])
 (.seq (.reg [.p (.ld true 11 g2) s16,
  .p (.mv g1) s17,
  .p (.call 42 [g16, g17] (G2 14 2 2)) s18,
  .p (.mv g18) s15,
  .p (.ex g15 0) s19,
  .p (.ex g15 1) s20,
  .p (.mv g19) s7,
  .p (.mv g20) s8])
 (.seq (.reg [.p (.mv g6) s21,
  .p (.nt g21 (G2 14 3 1)) s22,
  .p (.mv g22) s23,
  .gp g23 false (.mv g7) s24,
  .gp g23 false (.fa 1 g5) s25,
  .gp g23 false (.ld false 1 g25) s26,
  .gp g23 false (.fa 2 g5) s27,
  .gp g23 false (.ld false 1 g27) s28,
  .gp g23 false (.fa 3 g5) s29,
  .gp g23 false (.ld false 1 g29) s30,
  .gp g23 false (.call 43 [g24, g26, g28, g30] (G2 14 3 10)) s31,
  .p (.pk g23 (kc (.tc (.sc (.bool true)))) g31) s32,
  .p (.mv g32) s4])
 .ret)))),
 [.tmp g4]⟩
theorem ffEnc14_ok : compF SBEnc 14 = ffEnc14 := by kernel_rfl
noncomputable def ffEnc41 : FF := .t2 ⟨26,
 (.seq (.reg [.p (.al 5 [(.sc (.int .u8 0)), (.sc (.int .i64 0)), (.sc (.int .i64 0)), (.sc (.bool false)), (.sc (.bool false))]) s2,
  .p (.mv (kc (.tc (.sc (.bool false))))) s3])
 (.seq (.seq (.reg [.p (.bs 1 2 [[(.tc (.sc (.int .u8 0)))], [(.tc (.sc (.int .u8 0)))]] [(.mk 0 1 (kc (.tc (.sc (.int .u8 9))))), (.mk 1 1 (kc (.tc (.sc (.int .u8 10)))))] (G2 41 1 0)) s9,
  .p (.len g9 (G2 41 1 1)) s10,
  .p (.mv (kc (.tc (.sc (.int .i64 0))))) s11])
 (.block 0 (.loop 4294967296 (.seq (.reg [.p (.bin .lss g11 g10 (G2 41 2 0)) s12])
 (.seq (.cond g12 .skip
 (.exit 0))
 (.seq (.block 1 (.seq (.reg [.p (.ia 1 g9 g11 (G2 41 3 0)) s13,
  .p (.ld false 1 g13) s14,
  .p (.mv g14) s5])
 (.seq (.reg [.p (.mv g0) s16,
  .p (.mv g5) s17,
  .p (.call 16 [g16, g17] (G2 41 4 2)) s18,
  .p (.mv g18) s15,
  .p (.ex g15 0) s19,
  .p (.ex g15 1) s20,
  .p (.ex g15 2) s21,
  .p (.al 5 [(.sc (.int .u8 0)), (.sc (.int .i64 0)), (.sc (.int .i64 0)), (.sc (.bool false)), (.sc (.bool false))]) s6,
  .n (.st 5 g6 g19 (G2 41 4 8)),
  .p (.mv g20) s7,
  .p (.mv g21) s8])
 (.seq (.reg [.p (.mv g8) s22])
 (.cond g22 (.seq (.reg [.p (.ld true 5 g6) s23,
  .n (.st 5 g2 g23 (G2 41 6 1)),
  .p (.mv (kc (.tc (.sc (.bool true))))) s3])
 .ret)
 .skip)))))
 (.reg [.p (.bin .add g11 (kc (.tc (.sc (.int .i64 1)))) (G2 41 7 0)) s24,
  .p (.mv g24) s11])))))))
 (.seq (.reg [.p (.bd [(.tc (.sc (.int .u8 0))), (.tc (.sc (.int .i64 0))), (.tc (.sc (.int .i64 0))), (.tc (.sc (.bool false))), (.tc (.sc (.bool false)))] [] (G2 41 8 0)) s25,
  .n (.st 5 g2 g25 (G2 41 8 1)),
  .p (.mv (kc (.tc (.sc (.bool false))))) s3])
 .ret))),
 [.cell g2 true 5, .tmp g3]⟩
theorem ffEnc41_ok : compF SBEnc 41 = ffEnc41 := by kernel_rfl
noncomputable def ffEnc42 : FF := .t2 ⟨29,
 (.seq (.reg [.p (.bx 11 g0 (G2 42 0 0)) s2,
  .p (.mv (kc (.tc (.sc (.int .i64 0))))) s4,
  .p (.mv (kc (.tc (.sc (.bool false))))) s5])
 (.seq (.reg [.p (.fa 0 g2) s9,
  .p (.ld false 1 g9) s10,
  .p (.call 41 [g10] (G2 42 1 2)) s11,
  .p (.mv g11) s8,
  .p (.ex g8 0) s12,
  .p (.ex g8 1) s13,
  .p (.al 5 [(.sc (.int .u8 0)), (.sc (.int .i64 0)), (.sc (.int .i64 0)), (.sc (.bool false)), (.sc (.bool false))]) s6,
  .n (.st 5 g6 g12 (G2 42 1 7)),
  .p (.mv g13) s7])
 (.seq (.block 0 (.seq (.reg [.p (.mv g7) s15,
  .p (.nt g15 (G2 42 2 1)) s16,
  .p (.mv g16) s14])
 (.cond g14 (.seq (.reg [.p (.mv (kc (.tc (.sc (.int .i64 0))))) s4,
  .p (.mv (kc (.tc (.sc (.bool false))))) s5])
 .ret)
 (.seq (.reg [.p (.fa 0 g6) s18,
  .p (.ld false 1 g18) s19,
  .p (.bin .eql g19 (kc (.tc (.sc (.int .u8 10)))) (G2 42 4 2)) s20,
  .p (.mv g20) s17])
 (.cond g17 (.seq (.reg [.p (.fa 10 g2) s21,
  .p (.ld false 1 g21) s22,
  .p (.cv .u32 g22 (G2 42 5 2)) s23,
  .p (.mv g1) s24,
  .p (.bin .sub g23 g24 (G2 42 5 4)) s25,
  .p (.call 53 [g25, (kc (.tc (.sc (.int .i64 32))))] (G2 42 5 5)) s26,
  .p (.mv g26) s4,
  .p (.mv (kc (.tc (.sc (.bool true))))) s5])
 .ret)
 .skip)))))
 (.seq (.reg [.p (.fa 10 g2) s27,
  .p (.ld false 1 g27) s28,
  .p (.mv g28) s4,
  .p (.mv (kc (.tc (.sc (.bool true))))) s5])
 .ret)))),
 [.tmp g4, .tmp g5]⟩
theorem ffEnc42_ok : compF SBEnc 42 = ffEnc42 := by kernel_rfl
noncomputable def ffEnc53 : FF := .t2 ⟨27,
 (.seq (.reg [.p (.mv (kc (.tc (.sc (.int .i64 0))))) s4])
 (.seq (.seq (.reg [.p (.mv g1) s6,
  .p (.bin .lss g6 (kc (.tc (.sc (.int .i64 1)))) (G2 53 1 1)) s7,
  .p (.mv g7) s8,
  .gp g8 false (.mv g1) s9,
  .gp g8 false (.bin .gtr g9 (kc (.tc (.sc (.int .i64 32)))) (G2 53 1 4)) s10,
  .p (.pk g8 (kc (.tc (.sc (.bool true)))) g10) s11])
 (.cond g11 (.seq (.reg [.p (.mv (kc (.tc (.sc (.int .i64 0))))) s4])
 .ret)
 .skip))
 (.seq (.reg [.p (.mv g1) s12,
  .p (.bd [(.tc (.sc (.int .i64 0))), (.tc (.sc (.int .i64 0)))] [(.mk 0 1 (kc (.tc (.sc (.int .i64 0))))), (.mk 1 1 g12)] (G2 53 3 1)) s13,
  .p (.mv g0) s14,
  .p (.call 52 [g13, g14] (G2 53 3 3)) s15,
  .p (.cv .i64 g15 (G2 53 3 4)) s16,
  .p (.mv g16) s5])
 (.seq (.seq (.reg [.p (.mv g5) s17,
  .p (.mv g1) s18,
  .p (.bin .sub g18 (kc (.tc (.sc (.int .i64 1)))) (G2 53 4 2)) s19,
  .p (.bin .shr g17 g19 (G2 53 4 3)) s20,
  .p (.bin .eql g20 (kc (.tc (.sc (.int .i64 1)))) (G2 53 4 4)) s21])
 (.cond g21 (.seq (.reg [.p (.mv g5) s22,
  .p (.mv g1) s23,
  .p (.bin .shl (kc (.tc (.sc (.int .i64 1)))) g23 (G2 53 5 2)) s24,
  .p (.bin .sub g22 g24 (G2 53 5 3)) s25,
  .p (.mv g25) s4])
 .ret)
 .skip))
 (.seq (.reg [.p (.mv g5) s26,
  .p (.mv g26) s4])
 .ret))))),
 [.tmp g4]⟩
theorem ffEnc53_ok : compF SBEnc 53 = ffEnc53 := by kernel_rfl
noncomputable def ffEnc52 : FF := .t2 ⟨14,
 (.seq (.reg [.p (.bx 2 g0 (G2 52 0 0)) s2,
  .p (.mv (kc (.tc (.sc (.int .u32 0))))) s4])
 (.seq (.regD [0, 1, 0, 4, 15, 31, 0, 64, 255, 511] [.no, (.rd (.cv .u64 g5 (G2 52 1 1)) g6), .no, (.rd (.ld false 1 g7) g8), .no, (.rd (.cv .u32 g9 (G2 52 1 5)) g10), (.rd (.ld true 2 g2) g11), .no, .no, .no] [.mk .none .yes (.mv g1) (.mv g1) (some s5),
  .mk .none .yes (.cv .u64 g5 (G2 52 1 1)) (.cv .u64 g5 (G2 52 1 1)) (some s6),
  .mk .none .yes (.fa 0 g2) (.fa 0 g2) (some s7),
  .mk .none .yes (.ld false 1 g7) (.ld false 1 g7) (some s8),
  .mk .none .yes (.bin .shr g6 g8 (G2 52 1 4)) (.bin .shr g6 g8 (G2 52 1 4)) (some s9),
  .mk .none .yes (.cv .u32 g9 (G2 52 1 5)) (.cv .u32 g9 (G2 52 1 5)) (some s10),
  .mk .none .yes (.ld true 2 g2) (.ld true 2 g2) (some s11),
  .mk .none (.dyn 58 [g11]) (.call 58 [g11] (G2 52 1 7)) (.call 58 [g11] (G2 52 1 7)) (some s12),
  .mk .none .yes (.bin .and g10 g12 (G2 52 1 8)) (.bin .and g10 g12 (G2 52 1 8)) (some s13),
  .mk .none .yes (.mv g13) (.mv g13) (some s4)])
 .ret)),
 [.tmp g4]⟩
theorem ffEnc52_ok : compF SBEnc 52 = ffEnc52 := by kernel_rfl
noncomputable def ffEnc58 : FF := .t2 ⟨8,
 (.seq (.reg [.p (.bx 2 g0 (G2 58 0 0)) s1,
  .p (.mv (kc (.tc (.sc (.int .u32 0))))) s2])
 (.seq (.reg [.p (.fa 1 g1) s3,
  .p (.ld false 1 g3) s4,
  .p (.bin .shl (kc (.tc (.sc (.int .u64 1)))) g4 (G2 58 1 2)) s5,
  .p (.bin .sub g5 (kc (.tc (.sc (.int .u64 1)))) (G2 58 1 3)) s6,
  .p (.cv .u32 g6 (G2 58 1 4)) s7,
  .p (.mv g7) s2])
 .ret)),
 [.tmp g2]⟩
theorem ffEnc58_ok : compF SBEnc 58 = ffEnc58 := by kernel_rfl
noncomputable def ffEnc17 : FF := .t2 ⟨4,
 (.seq (.reg [.p (.mv (kc (.tc (.sc (.int .u32 0))))) s2])
 (.seq (.seq (.reg [.p (.mv g0) s3])
 (.cond g3 (.seq (.reg [.p (.mv (kc (.tc (.sc (.int .u32 1))))) s2])
 .ret)
 .skip))
 (.seq (.reg [.p (.mv (kc (.tc (.sc (.int .u32 0))))) s2])
 .ret))),
 [.tmp g2]⟩
theorem ffEnc17_ok : compF SBEnc 17 = ffEnc17 := by kernel_rfl
noncomputable def ffEnc18 : FF := .t2 ⟨30,
 (.seq (.reg [.p (.bx 11 g0 (G2 18 0 0)) s3,
  .p (.bx 5 g1 (G2 18 0 1)) s4,
  .p (.mv (kc (.tc (.sc (.int .u32 0))))) s6,
  .p (.mv (kc (.tc (.sc (.int .u32 0))))) s7])
 (.seq (.reg [.p (.ld true 11 g3) s11,
  .p (.mv g2) s12,
  .p (.call 42 [g11, g12] (G2 18 1 2)) s13,
  .p (.mv g13) s10,
  .p (.ex g10 0) s14,
  .p (.ex g10 1) s15,
  .p (.mv g14) s8,
  .p (.mv g15) s9])
 (.seq (.seq (.reg [.p (.fa 8 g3) s16,
  .p (.ld false 1 g16) s17])
 (.cond g17 (.seq (.reg [.p (.mv g8) s19,
  .p (.call 46 [g19] (G2 18 3 1)) s20,
  .p (.mv g20) s18,
  .p (.ex g18 0) s21,
  .p (.ex g18 1) s22,
  .p (.mv g21) s7,
  .p (.mv g22) s6])
 (.seq (.reg [.p (.mv g6) s23,
  .p (.mv g7) s24,
  .p (.mv g23) s6,
  .p (.mv g24) s7])
 .ret))
 .skip))
 (.seq (.reg [.p (.mv g8) s25,
  .p (.fa 2 g4) s26,
  .p (.ld false 1 g26) s27,
  .p (.bin .shr g25 g27 (G2 18 5 3)) s28,
  .p (.cv .u32 g28 (G2 18 5 4)) s29,
  .p (.mv g29) s6,
  .p (.mv (kc (.tc (.sc (.int .u32 0))))) s7])
 .ret)))),
 [.tmp g6, .tmp g7]⟩
theorem ffEnc18_ok : compF SBEnc 18 = ffEnc18 := by kernel_rfl
noncomputable def ffEnc46 : FF := .t2 ⟨11,
 (.seq (.reg [.p (.mv (kc (.tc (.sc (.int .u32 0))))) s2,
  .p (.mv (kc (.tc (.sc (.int .u32 0))))) s3])
 (.seq (.reg [.p (.mv g0) s5,
  .p (.cv .u32 g5 (G2 46 1 1)) s6,
  .p (.mv g6) s4])
 (.seq (.reg [.p (.mv g4) s7,
  .p (.call 33 [g7, (kc (.tc (.sc (.int .i64 8)))), (kc (.tc (.sc (.int .i64 24))))] (G2 46 2 1)) s8,
  .p (.mv g4) s9,
  .p (.call 33 [g9, (kc (.tc (.sc (.int .i64 0)))), (kc (.tc (.sc (.int .i64 8))))] (G2 46 2 3)) s10,
  .p (.mv g8) s2,
  .p (.mv g10) s3])
 .ret))),
 [.tmp g2, .tmp g3]⟩
theorem ffEnc46_ok : compF SBEnc 46 = ffEnc46 := by kernel_rfl
noncomputable def ffEnc33 : FF := .t2 ⟨17,
 (.seq (.reg [.p (.mv (kc (.tc (.sc (.int .u32 0))))) s6])
 (.seq (.reg [.p (.mv g1) s8,
  .p (.mv g2) s9,
  .p (.bd [(.tc (.sc (.int .i64 0))), (.tc (.sc (.int .i64 0)))] [(.mk 0 1 g8), (.mk 1 1 g9)] (G2 33 1 2)) s10,
  .p (.al 2 [(.sc (.int .i64 0)), (.sc (.int .i64 0))]) s7,
  .n (.st 2 g7 g10 (G2 33 1 4))])
 (.seq (.seq (.reg [.p (.ld true 2 g7) s11,
  .p (.call 47 [g11] (G2 33 2 1)) s12,
  .p (.nt g12 (G2 33 2 2)) s13])
 (.cond g13 (.seq (.reg [.p (.mv (kc (.tc (.sc (.int .u32 0))))) s6])
 .ret)
 .skip))
 (.seq (.reg [.p (.ld true 2 g7) s14,
  .p (.mv g0) s15,
  .p (.call 52 [g14, g15] (G2 33 4 2)) s16,
  .p (.mv g16) s6])
 .ret)))),
 [.tmp g6]⟩
theorem ffEnc33_ok : compF SBEnc 33 = ffEnc33 := by kernel_rfl
noncomputable def ffEnc47 : FF := .t2 ⟨24,
 (.seq (.reg [.p (.bx 2 g0 (G2 47 0 0)) s1,
  .p (.mv (kc (.tc (.sc (.bool false))))) s2])
 (.seq (.reg [.p (.fa 0 g1) s3,
  .p (.ld false 1 g3) s4,
  .p (.bin .geq g4 (kc (.tc (.sc (.int .i64 0)))) (G2 47 1 2)) s5,
  .p (.mv g5) s6,
  .gp g6 true (.fa 1 g1) s7,
  .gp g6 true (.ld false 1 g7) s8,
  .gp g6 true (.bin .geq g8 (kc (.tc (.sc (.int .i64 0)))) (G2 47 1 6)) s9,
  .p (.pk g6 g9 (kc (.tc (.sc (.bool false))))) s10,
  .p (.mv g10) s11,
  .gp g11 true (.fa 0 g1) s12,
  .gp g11 true (.ld false 1 g12) s13,
  .gp g11 true (.bin .leq g13 (kc (.tc (.sc (.int .i64 32)))) (G2 47 1 11)) s14,
  .p (.pk g11 g14 (kc (.tc (.sc (.bool false))))) s15,
  .p (.mv g15) s16,
  .gp g16 true (.fa 1 g1) s17,
  .gp g16 true (.ld false 1 g17) s18,
  .gp g16 true (.fa 0 g1) s19,
  .gp g16 true (.ld false 1 g19) s20,
  .gp g16 true (.bin .sub (kc (.tc (.sc (.int .i64 32)))) g20 (G2 47 1 18)) s21,
  .gp g16 true (.bin .leq g18 g21 (G2 47 1 19)) s22,
  .p (.pk g16 g22 (kc (.tc (.sc (.bool false))))) s23,
  .p (.mv g23) s2])
 .ret)),
 [.tmp g2]⟩
theorem ffEnc47_ok : compF SBEnc 47 = ffEnc47 := by kernel_rfl
noncomputable def ffEnc19 : FF := .t2 ⟨21,
 (.seq (.reg [.p (.mv (kc (.tc (.sc (.int .u32 0))))) s8])
 (.seq (.reg [.p (.mv g1) s10,
  .p (.mv g2) s11,
  .p (.bd [(.tc (.sc (.int .i64 0))), (.tc (.sc (.int .i64 0)))] [(.mk 0 1 g10), (.mk 1 1 g11)] (G2 19 1 2)) s12,
  .p (.al 2 [(.sc (.int .i64 0)), (.sc (.int .i64 0))]) s9,
  .n (.st 2 g9 g12 (G2 19 1 4))])
 (.seq (.seq (.reg [.p (.ld true 2 g9) s13,
  .p (.call 47 [g13] (G2 19 2 1)) s14,
  .p (.nt g14 (G2 19 2 2)) s15])
 (.cond g15 (.seq (.reg [.p (.mv g0) s16,
  .p (.mv g16) s8])
 .ret)
 .skip))
 (.seq (.reg [.p (.ld true 2 g9) s17,
  .p (.mv g0) s18,
  .p (.mv g3) s19,
  .p (.call 48 [g17, g18, g19] (G2 19 4 3)) s20,
  .p (.mv g20) s8])
 .ret)))),
 [.tmp g8]⟩
theorem ffEnc19_ok : compF SBEnc 19 = ffEnc19 := by kernel_rfl
noncomputable def ffEnc48 : FF := .t2 ⟨26,
 (.seq (.reg [.p (.bx 2 g0 (G2 48 0 0)) s3,
  .p (.mv (kc (.tc (.sc (.int .u32 0))))) s6])
 (.seq (.seq (.reg [.p (.fa 1 g3) s7,
  .p (.ld false 1 g7) s8,
  .p (.bin .eql g8 (kc (.tc (.sc (.int .i64 0)))) (G2 48 1 2)) s9])
 (.cond g9 (.seq (.reg [.p (.mv g1) s10,
  .p (.mv g10) s6])
 .ret)
 .skip))
 (.seq (.regD [0, 0, 2, 0, 8, 30, 63, 0, 0, 262, 902, 0, 2048, 8070, 16383, 32767] [.no, (.rd (.ld true 2 g3) g12), .no, .no, (.rd (.ld false 1 g14) g15), .no, .no, .no, (.rd (.ld true 2 g3) g19), .no, .no, .no, (.rd (.ld false 1 g22) g23), .no, .no, .no] [.mk .none .yes (.mv g1) (.mv g1) (some s11),
  .mk .none .yes (.ld true 2 g3) (.ld true 2 g3) (some s12),
  .mk .none (.dyn 58 [g12]) (.call 58 [g12] (G2 48 3 2)) (.call 58 [g12] (G2 48 3 2)) (some s13),
  .mk .none .yes (.fa 0 g3) (.fa 0 g3) (some s14),
  .mk .none .yes (.ld false 1 g14) (.ld false 1 g14) (some s15),
  .mk .none .yes (.bin .shl g13 g15 (G2 48 3 5)) (.bin .shl g13 g15 (G2 48 3 5)) (some s16),
  .mk .none .yes (.bin .andNot g11 g16 (G2 48 3 6)) (.bin .andNot g11 g16 (G2 48 3 6)) (some s17),
  .mk .none .yes (.mv g2) (.mv g2) (some s18),
  .mk .none .yes (.ld true 2 g3) (.ld true 2 g3) (some s19),
  .mk .none (.dyn 58 [g19]) (.call 58 [g19] (G2 48 3 9)) (.call 58 [g19] (G2 48 3 9)) (some s20),
  .mk .none .yes (.bin .and g18 g20 (G2 48 3 10)) (.bin .and g18 g20 (G2 48 3 10)) (some s21),
  .mk .none .yes (.fa 0 g3) (.fa 0 g3) (some s22),
  .mk .none .yes (.ld false 1 g22) (.ld false 1 g22) (some s23),
  .mk .none .yes (.bin .shl g21 g23 (G2 48 3 13)) (.bin .shl g21 g23 (G2 48 3 13)) (some s24),
  .mk .none .yes (.bin .or g17 g24 (G2 48 3 14)) (.bin .or g17 g24 (G2 48 3 14)) (some s25),
  .mk .none .yes (.mv g25) (.mv g25) (some s6)])
 .ret))),
 [.tmp g6]⟩
theorem ffEnc48_ok : compF SBEnc 48 = ffEnc48 := by kernel_rfl
noncomputable def ffEnc20 : FF := .t2 ⟨31,
 (.seq (.reg [.p (.mv (kc (.tc (.sc (.int .u32 0))))) s6])
 (.seq (.reg [.p (.ld true 2 (kc (.vptr gwEnc0 [glEnc0] 0 0))) s8,
  .p (.mv g0) s9,
  .p (.cv .u32 g9 (G2 20 1 2)) s10,
  .p (.call 48 [g8, (kc (.tc (.sc (.int .u32 0)))), g10] (G2 20 1 3)) s11,
  .p (.mv g11) s7])
 (.seq (.reg [.p (.gen (G2 20 2 0)) s12,
  .p (.ld true 2 g12) s13,
  .p (.mv g7) s14,
  .p (.mv g1) s15,
  .p (.call 48 [g13, g14, g15] (G2 20 2 4)) s16,
  .p (.mv g16) s7])
 (.seq (.regD [0, 1, 0, 0, 0, 16, 48, 120, 255, 511] [.no, (.rd (.ld true 2 g17) g18), .no, .no, .no, .no, (.rd (.ld false 1 g22) g23), .no, .no, .no] [.mk .none .yes (.gen (G2 20 3 0)) (.gen (G2 20 3 0)) (some s17),
  .mk .none .yes (.ld true 2 g17) (.ld true 2 g17) (some s18),
  .mk .none .yes (.mv g7) (.mv g7) (some s19),
  .mk .none .yes (.mv g1) (.mv g1) (some s20),
  .mk .none .yes (.gen (G2 20 3 4)) (.gen (G2 20 3 4)) (some s21),
  .mk .none .yes (.fa 1 g21) (.fa 1 g21) (some s22),
  .mk .none .yes (.ld false 1 g22) (.ld false 1 g22) (some s23),
  .mk .none .yes (.bin .shr g20 g23 (G2 20 3 7)) (.bin .shr g20 g23 (G2 20 3 7)) (some s24),
  .mk .none (.dyn 48 [g18, g19, g24]) (.call 48 [g18, g19, g24] (G2 20 3 8)) (.call 48 [g18, g19, g24] (G2 20 3 8)) (some s25),
  .mk .none .yes (.mv g25) (.mv g25) (some s7)])
 (.seq (.reg [.p (.ld true 2 (kc (.vptr gwEnc2 [glEnc2] 0 0))) s26,
  .p (.mv g7) s27,
  .p (.mv g2) s28,
  .p (.cv .u32 g28 (G2 20 4 3)) s29,
  .p (.call 48 [g26, g27, g29] (G2 20 4 4)) s30,
  .p (.mv g30) s6])
 .ret))))),
 [.tmp g6]⟩
theorem ffEnc20_ok : compF SBEnc 20 = ffEnc20 := by kernel_rfl
noncomputable def ffEnc8 : FF := .t3 ⟨120,
 (.seq (.reg [.p (.bx 11 (h0 g0) (G3 8 0 0)) (i0 s2),
  .p (.mv (kc (.tc (.sc (.int .u32 0))))) (i0 s4),
  .p (.mv (kc (.tc (.sc (.int .u32 0))))) (i0 s5),
  .p (.mv (kc (.tc (.sc (.bool false))))) (i0 s6)])
 (.seq (.seq (.reg [.p (.ld true 11 (h0 g2)) (i0 s18),
  .p (.call 21 [(h0 g18)] (G3 8 1 1)) (i0 s19),
  .p (.nt (h0 g19) (G3 8 1 2)) (i0 s20),
  .p (.mv (h0 g20)) (i0 s21),
  .gp (h0 g21) false (.fa 8 (h0 g2)) (i0 s22),
  .gp (h0 g21) false (.ld false 1 (h0 g22)) (i0 s23),
  .gp (h0 g21) false (.nt (h0 g23) (G3 8 1 6)) (i0 s24),
  .gp (h0 g21) false (.mv (h0 g24)) (i0 s25),
  .gp (h0 g25) true (.ld true 11 (h0 g2)) (i0 s26),
  .gp (h0 g25) true (.mv (h0 g1)) (i0 s27),
  .gp (h0 g25) true (.call 22 [(h0 g26), (h0 g27)] (G3 8 1 10)) (i0 s28),
  .gp (h0 g25) true (.nt (h0 g28) (G3 8 1 11)) (i0 s29),
  .gp (h0 g21) false (.pk (h0 g25) (h0 g29) (kc (.tc (.sc (.bool false))))) (i0 s30),
  .p (.pk (h0 g21) (kc (.tc (.sc (.bool true)))) (h0 g30)) (i0 s31)])
 (.cond (h0 g31) (.seq (.reg [.p (.mv (kc (.tc (.sc (.int .u32 0))))) (i0 s4),
  .p (.mv (kc (.tc (.sc (.int .u32 0))))) (i0 s5),
  .p (.mv (kc (.tc (.sc (.bool false))))) (i0 s6)])
 .ret)
 .skip))
 (.seq (.reg [.p (.fa 0 (h0 g2)) (i0 s33),
  .p (.ld false 1 (h0 g33)) (i0 s34),
  .p (.call 23 [(h0 g34)] (G3 8 3 2)) (i0 s35),
  .p (.mv (h0 g35)) (i0 s32),
  .p (.ex (h0 g32) 0) (i0 s36),
  .p (.ex (h0 g32) 1) (i0 s37),
  .p (.mv (h0 g36)) (i0 s7),
  .p (.mv (h0 g37)) (i0 s8)])
 (.seq (.reg [.p (.fa 0 (h0 g2)) (i0 s38),
  .p (.ld false 1 (h0 g38)) (i0 s39),
  .p (.call 24 [(h0 g39)] (G3 8 4 2)) (i0 s40),
  .p (.al 5 [(.sc (.int .i64 0)), (.sc (.int .i64 0)), (.sc (.bool false)), (.sc (.bool false)), (.sc (.bool false))]) (i0 s9),
  .n (.st 5 (h0 g9) (h0 g40) (G3 8 4 4))])
 (.seq (.reg [.p (.ld true 11 (h0 g2)) (i0 s42),
  .p (.mv (h0 g1)) (i0 s43),
  .p (.call 25 [(h0 g42), (h0 g43)] (G3 8 5 2)) (i0 s44),
  .p (.mv (h0 g44)) (i0 s41),
  .p (.ex (h0 g41) 0) (i0 s45),
  .p (.ex (h0 g41) 1) (i0 s46),
  .p (.mv (h0 g45)) (i0 s10),
  .p (.mv (h0 g46)) (i0 s11)])
 (.seq (.reg [.p (.mv (h0 g10)) (i0 s47),
  .p (.call 26 [(h0 g47)] (G3 8 6 1)) (i0 s48),
  .p (.mv (h0 g48)) (i0 s12)])
 (.seq (.reg [.p (.mv (kc (.tc (.sc (.int .i64 0))))) (i0 s13)])
 (.seq (.reg [.p (.mv (kc (.tc (.sc (.int .i64 24))))) (i0 s14)])
 (.seq (.seq (.reg [.p (.mv (kc (.tc (.sc (.int .i64 0))))) (i0 s15)])
 (.block 0 (.loop 4294967296 (.seq (.seq (.reg [.p (.mv (h0 g15)) (i0 s49),
  .p (.mv (h0 g7)) (i0 s50),
  .p (.len (h0 g50) (G3 8 10 2)) (i0 s51),
  .p (.bin .lss (h0 g49) (h0 g51) (G3 8 10 3)) (i0 s52)])
 (.cond (h0 g52) .skip
 (.exit 0)))
 (.seq (.block 1 (.seq (.regD [0, 0, 0, 6, 14, 30, 63, 127, 255] [(.rd (.ld true 11 (h0 g2)) (h0 g55)), .no, .no, .no, .no, (.rd (.ld false 1 (h0 g59)) (h0 g60)), .no, (.rd (.cv .i64 (h0 g61) (G3 8 11 7)) (h0 g62)), .no] [.mk .none .yes (.ld true 11 (h0 g2)) (.ld true 11 (h0 g2)) (some (i0 s55)),
  .mk .none .yes (.mv (h0 g7)) (.mv (h0 g7)) (some (i0 s56)),
  .mk .none .yes (.mv (h0 g15)) (.mv (h0 g15)) (some (i0 s57)),
  .mk .none .yes (.ia 2 (h0 g56) (h0 g57) (G3 8 11 3)) (.ia 2 (h0 g56) (h0 g57) (G3 8 11 3)) (some (i0 s58)),
  .mk .none .yes (.fa 0 (h0 g58)) (.fa 0 (h0 g58)) (some (i0 s59)),
  .mk .none .yes (.ld false 1 (h0 g59)) (.ld false 1 (h0 g59)) (some (i0 s60)),
  .mk .none (.dyn 27 [(h0 g55), (h0 g60)]) (.call 27 [(h0 g55), (h0 g60)] (G3 8 11 6)) (.call 27 [(h0 g55), (h0 g60)] (G3 8 11 6)) (some (i0 s61)),
  .mk .none .yes (.cv .i64 (h0 g61) (G3 8 11 7)) (.cv .i64 (h0 g61) (G3 8 11 7)) (some (i0 s62)),
  .mk .none .yes (.mv (h0 g62)) (.mv (h0 g62)) (some (i0 s16))])
 (.seq (.seq (.reg [.p (.mv (h0 g7)) (i0 s63),
  .p (.mv (h0 g15)) (i1 s0),
  .p (.ia 2 (h0 g63) (h1 g0) (G3 8 12 2)) (i1 s1),
  .p (.fa 0 (h1 g1)) (i1 s2),
  .p (.ld false 1 (h1 g2)) (i1 s3),
  .p (.bin .eql (h1 g3) (kc (.tc (.sc (.int .u8 118)))) (G3 8 12 5)) (i1 s4),
  .p (.mv (h1 g4)) (i1 s5),
  .gp (h1 g5) true (.fa 8 (h0 g2)) (i1 s6),
  .gp (h1 g5) true (.ld false 1 (h1 g6)) (i1 s7),
  .p (.pk (h1 g5) (h1 g7) (kc (.tc (.sc (.bool false))))) (i1 s8)])
 (.cond (h1 g8) (.reg [.p (.mv (h0 g12)) (i1 s9),
  .p (.bin .rem (h1 g9) (kc (.tc (.sc (.int .i64 256)))) (G3 8 13 1)) (i1 s10),
  .p (.mv (h1 g10)) (i0 s16)])
 (.seq (.reg [.p (.mv (h0 g7)) (i1 s11),
  .p (.mv (h0 g15)) (i1 s12),
  .p (.ia 2 (h1 g11) (h1 g12) (G3 8 14 2)) (i1 s13),
  .p (.fa 0 (h1 g13)) (i1 s14),
  .p (.ld false 1 (h1 g14)) (i1 s15),
  .p (.bin .eql (h1 g15) (kc (.tc (.sc (.int .u8 118)))) (G3 8 14 5)) (i1 s16)])
 (.cond (h1 g16) (.seq (.reg [.p (.mv (h0 g10)) (i1 s17),
  .p (.fa 1 (h0 g9)) (i1 s18),
  .p (.ld false 1 (h1 g18)) (i1 s19),
  .p (.call 28 [(h1 g19)] (G3 8 15 3)) (i1 s20),
  .p (.bin .quo (h1 g17) (h1 g20) (G3 8 15 4)) (i1 s21),
  .p (.mv (h1 g21)) (i0 s16)])
 (.seq (.reg [.p (.mv (h0 g16)) (i1 s22),
  .p (.bin .lss (h1 g22) (kc (.tc (.sc (.int .i64 0)))) (G3 8 16 1)) (i1 s23)])
 (.cond (h1 g23) (.reg [.p (.mv (h0 g16)) (i1 s24),
  .p (.mv (h0 g7)) (i1 s25),
  .p (.mv (h0 g15)) (i1 s26),
  .p (.ia 2 (h1 g25) (h1 g26) (G3 8 17 3)) (i1 s27),
  .p (.fa 1 (h1 g27)) (i1 s28),
  .p (.ld false 1 (h1 g28)) (i1 s29),
  .p (.call 28 [(h1 g29)] (G3 8 17 6)) (i1 s30),
  .p (.bin .add (h1 g24) (h1 g30) (G3 8 17 7)) (i1 s31),
  .p (.mv (h1 g31)) (i0 s16)])
 .skip)))
 .skip))))
 (.seq (.reg [.p (.mv (h0 g14)) (i1 s32),
  .p (.mv (h0 g7)) (i1 s33),
  .p (.mv (h0 g15)) (i1 s34),
  .p (.ia 2 (h1 g33) (h1 g34) (G3 8 18 3)) (i1 s35),
  .p (.fa 1 (h1 g35)) (i1 s36),
  .p (.ld false 1 (h1 g36)) (i1 s37),
  .p (.bin .sub (h1 g32) (h1 g37) (G3 8 18 6)) (i1 s38),
  .p (.mv (h1 g38)) (i0 s14)])
 (.reg [.p (.mv (h0 g13)) (i1 s39),
  .p (.mv (h0 g16)) (i1 s40),
  .p (.mv (h0 g14)) (i1 s41),
  .p (.call 28 [(h1 g41)] (G3 8 19 3)) (i1 s42),
  .p (.bin .mul (h1 g40) (h1 g42) (G3 8 19 4)) (i1 s43),
  .p (.bin .add (h1 g39) (h1 g43) (G3 8 19 5)) (i1 s44),
  .p (.mv (h1 g44)) (i0 s13)])))))
 (.reg [.p (.mv (h0 g15)) (i0 s53),
  .p (.bin .add (h0 g53) (kc (.tc (.sc (.int .i64 1)))) (G3 8 20 1)) (i0 s54),
  .p (.mv (h0 g54)) (i0 s15)]))))))
 (.seq (.reg [.p (.mv (kc (.tc (.sc (.int .u32 0))))) (i0 s17)])
 (.seq (.seq (.reg [.p (.fa 8 (h0 g2)) (i1 s45),
  .p (.ld false 1 (h1 g45)) (i1 s46)])
 (.cond (h1 g46) (.reg [.p (.mv (h0 g12)) (i1 s47),
  .p (.bin .quo (h1 g47) (kc (.tc (.sc (.int .i64 256)))) (G3 8 23 1)) (i1 s48),
  .p (.cv .u32 (h1 g48) (G3 8 23 2)) (i1 s49),
  .p (.mv (h1 g49)) (i0 s17)])
 .skip))
 (.seq (.reg [.p (.fa 0 (h0 g2)) (i1 s50),
  .p (.ld false 1 (h1 g50)) (i1 s51),
  .p (.mv (h0 g13)) (i1 s52),
  .p (.cv .u32 (h1 g52) (G3 8 24 3)) (i1 s53),
  .p (.call 29 [(h1 g51), (h1 g53), (kc (.tc (.sc (.int .u8 0))))] (G3 8 24 4)) (i1 s54),
  .p (.mv (h0 g17)) (i1 s55),
  .p (.mv (h1 g54)) (i0 s4),
  .p (.mv (h1 g55)) (i0 s5),
  .p (.mv (kc (.tc (.sc (.bool true))))) (i0 s6)])
 .ret)))))))))))),
 [.tmp (h0 g4), .tmp (h0 g5), .tmp (h0 g6)]⟩
theorem ffEnc8_ok : compF SBEnc 8 = ffEnc8 := by kernel_rfl
noncomputable def ffEnc21 : FF := .t3 ⟨130,
 (.seq (.reg [.p (.bx 11 (h0 g0) (G3 21 0 0)) (i0 s1),
  .p (.mv (kc (.tc (.sc (.bool false))))) (i0 s2)])
 (.seq (.reg [.p (.fa 0 (h0 g1)) (i0 s10),
  .p (.ld false 1 (h0 g10)) (i0 s11),
  .p (.call 23 [(h0 g11)] (G3 21 1 2)) (i0 s12),
  .p (.mv (h0 g12)) (i0 s9),
  .p (.ex (h0 g9) 0) (i0 s13),
  .p (.ex (h0 g9) 1) (i0 s14),
  .p (.mv (h0 g13)) (i0 s3),
  .p (.mv (h0 g14)) (i0 s4)])
 (.seq (.seq (.reg [.p (.mv (h0 g4)) (i0 s15),
  .p (.nt (h0 g15) (G3 21 2 1)) (i0 s16),
  .p (.mv (h0 g16)) (i0 s17),
  .gp (h0 g17) false (.fa 8 (h0 g1)) (i0 s18),
  .gp (h0 g17) false (.ld false 1 (h0 g18)) (i0 s19),
  .gp (h0 g17) false (.mv (h0 g19)) (i0 s20),
  .gp (h0 g20) true (.fa 0 (h0 g1)) (i0 s21),
  .gp (h0 g20) true (.ld false 1 (h0 g21)) (i0 s22),
  .gp (h0 g20) true (.call 24 [(h0 g22)] (G3 21 2 8)) (i0 s23),
  .gp (h0 g20) true (.fd false 1 3 (h0 g23)) (i0 s24),
  .gp (h0 g20) true (.nt (h0 g24) (G3 21 2 10)) (i0 s25),
  .gp (h0 g17) false (.pk (h0 g20) (h0 g25) (kc (.tc (.sc (.bool false))))) (i0 s26),
  .p (.pk (h0 g17) (kc (.tc (.sc (.bool true)))) (h0 g26)) (i0 s27)])
 (.cond (h0 g27) (.seq (.reg [.p (.mv (kc (.tc (.sc (.bool false))))) (i0 s2)])
 .ret)
 .skip))
 (.seq (.reg [.p (.fa 0 (h0 g1)) (i0 s28),
  .p (.ld false 1 (h0 g28)) (i0 s29),
  .p (.fa 8 (h0 g1)) (i0 s30),
  .p (.ld false 1 (h0 g30)) (i0 s31),
  .p (.bd [(.tc (.sc (.int .u8 0))), (.tc (.sc (.int .u8 0))), (.tc (.sc (.int .u8 0))), (.tc (.sc (.int .u8 0))), (.tc (.sc (.int .u8 0))), (.tc (.sc (.int .u8 0))), (.tc (.sc (.int .u8 0))), (.tc (.sc (.bool false))), (.tc (.sc (.bool false))), (.tc (.sc (.int .u16 0))), (.tc (.sc (.int .i64 0)))] [(.mk 0 1 (h0 g29)), (.mk 8 1 (h0 g31))] (G3 21 4 4)) (i0 s32),
  .p (.al 11 [(.sc (.int .u8 0)), (.sc (.int .u8 0)), (.sc (.int .u8 0)), (.sc (.int .u8 0)), (.sc (.int .u8 0)), (.sc (.int .u8 0)), (.sc (.int .u8 0)), (.sc (.bool false)), (.sc (.bool false)), (.sc (.int .u16 0)), (.sc (.int .i64 0))]) (i0 s5),
  .n (.st 11 (h0 g5) (h0 g32) (G3 21 4 6))])
 (.seq (.seq (.reg [.p (.mv (kc (.tc (.sc (.int .i64 0))))) (i0 s6)])
 (.block 0 (.loop 4294967296 (.seq (.seq (.reg [.p (.mv (h0 g6)) (i0 s33),
  .p (.mv (h0 g3)) (i0 s34),
  .p (.len (h0 g34) (G3 21 6 2)) (i0 s35),
  .p (.bin .lss (h0 g33) (h0 g35) (G3 21 6 3)) (i0 s36)])
 (.cond (h0 g36) .skip
 (.exit 0)))
 (.seq (.block 1 (.seq (.regD [0, 0, 0, 6, 14, 30, 63, 127] [(.rd (.ld true 11 (h0 g1)) (h0 g39)), .no, .no, .no, .no, (.rd (.ld false 1 (h0 g43)) (h0 g44)), .no, .no] [.mk .none .yes (.ld true 11 (h0 g1)) (.ld true 11 (h0 g1)) (some (i0 s39)),
  .mk .none .yes (.mv (h0 g3)) (.mv (h0 g3)) (some (i0 s40)),
  .mk .none .yes (.mv (h0 g6)) (.mv (h0 g6)) (some (i0 s41)),
  .mk .none .yes (.ia 2 (h0 g40) (h0 g41) (G3 21 7 3)) (.ia 2 (h0 g40) (h0 g41) (G3 21 7 3)) (some (i0 s42)),
  .mk .none .yes (.fa 0 (h0 g42)) (.fa 0 (h0 g42)) (some (i0 s43)),
  .mk .none .yes (.ld false 1 (h0 g43)) (.ld false 1 (h0 g43)) (some (i0 s44)),
  .mk .none (.dyn 27 [(h0 g39), (h0 g44)]) (.call 27 [(h0 g39), (h0 g44)] (G3 21 7 6)) (.call 27 [(h0 g39), (h0 g44)] (G3 21 7 6)) (some (i0 s45)),
  .mk .none .yes (.mv (h0 g45)) (.mv (h0 g45)) (some (i0 s7))])
 (.seq (.seq (.reg [.p (.mv (h0 g7)) (i0 s46),
  .p (.cv .i64 (h0 g46) (G3 21 8 1)) (i0 s47),
  .p (.mv (h0 g3)) (i0 s48),
  .p (.mv (h0 g6)) (i0 s49),
  .p (.ia 2 (h0 g48) (h0 g49) (G3 21 8 4)) (i0 s50),
  .p (.fa 1 (h0 g50)) (i0 s51),
  .p (.ld false 1 (h0 g51)) (i0 s52),
  .p (.call 28 [(h0 g52)] (G3 21 8 7)) (i0 s53),
  .p (.bin .geq (h0 g47) (h0 g53) (G3 21 8 8)) (i0 s54)])
 (.cond (h0 g54) (.seq (.reg [.p (.mv (kc (.tc (.sc (.bool false))))) (i0 s2)])
 .ret)
 .skip))
 (.seq (.regD [0, 0, 0, 6, 14, 30, 0, 127, 255] [(.rd (.ld true 11 (h0 g5)) (h0 g55)), .no, .no, .no, .no, (.rd (.ld false 1 (h0 g59)) (h0 g60)), .no, .no, .no] [.mk .none .yes (.ld true 11 (h0 g5)) (.ld true 11 (h0 g5)) (some (i0 s55)),
  .mk .none .yes (.mv (h0 g3)) (.mv (h0 g3)) (some (i0 s56)),
  .mk .none .yes (.mv (h0 g6)) (.mv (h0 g6)) (some (i0 s57)),
  .mk .none .yes (.ia 2 (h0 g56) (h0 g57) (G3 21 10 3)) (.ia 2 (h0 g56) (h0 g57) (G3 21 10 3)) (some (i0 s58)),
  .mk .none .yes (.fa 0 (h0 g58)) (.fa 0 (h0 g58)) (some (i0 s59)),
  .mk .none .yes (.ld false 1 (h0 g59)) (.ld false 1 (h0 g59)) (some (i0 s60)),
  .mk .none .yes (.mv (h0 g7)) (.mv (h0 g7)) (some (i0 s61)),
  .mk .none (.dyn 36 [(h0 g55), (h0 g60), (h0 g61)]) (.call 36 [(h0 g55), (h0 g60), (h0 g61)] (G3 21 10 7)) (.call 36 [(h0 g55), (h0 g60), (h0 g61)] (G3 21 10 7)) (some (i0 s62)),
  .mk .none .no (.st 11 (h0 g5) (h0 g62) (G3 21 10 8)) (.st 11 (h0 g5) (h0 g62) (G3 21 10 8)) none])
 (.seq (.reg [.p (.mv (h0 g3)) (i0 s63),
  .p (.mv (h0 g6)) (i1 s0),
  .p (.ia 2 (h0 g63) (h1 g0) (G3 21 11 2)) (i1 s1),
  .p (.fa 0 (h1 g1)) (i1 s2),
  .p (.ld false 1 (h1 g2)) (i1 s3),
  .p (.bin .eql (h1 g3) (kc (.tc (.sc (.int .u8 118)))) (G3 21 11 5)) (i1 s4)])
 (.cond (h1 g4) (.reg [.p (.fa 10 (h0 g1)) (i1 s5),
  .p (.ld false 1 (h1 g5)) (i1 s6),
  .p (.fa 10 (h0 g5)) (i1 s7),
  .n (.st 1 (h1 g7) (h1 g6) (G3 21 12 3))])
 .skip))))))
 (.reg [.p (.mv (h0 g6)) (i0 s37),
  .p (.bin .add (h0 g37) (kc (.tc (.sc (.int .i64 1)))) (G3 21 13 1)) (i0 s38),
  .p (.mv (h0 g38)) (i0 s6)]))))))
 (.seq (.seq (.reg [.p (.ld true 11 (h0 g5)) (i1 s8),
  .p (.ld true 11 (h0 g1)) (i1 s9),
  .p (.eqs .neq [(.mk 0 .int), (.mk 1 .int), (.mk 2 .int), (.mk 3 .int), (.mk 4 .int), (.mk 5 .int), (.mk 6 .int), (.mk 7 .bool), (.mk 8 .bool), (.mk 9 .int), (.mk 10 .int)] (h1 g8) (h1 g9) (G3 21 14 2)) (i1 s10),
  .p (.mv (h1 g10)) (i1 s11),
  .gp (h1 g11) false (.fa 6 (h0 g1)) (i1 s12),
  .gp (h1 g11) false (.ld false 1 (h1 g12)) (i1 s13),
  .gp (h1 g11) false (.bin .gtr (h1 g13) (kc (.tc (.sc (.int .u8 4)))) (G3 21 14 6)) (i1 s14),
  .p (.pk (h1 g11) (kc (.tc (.sc (.bool true)))) (h1 g14)) (i1 s15),
  .p (.mv (h1 g15)) (i1 s16),
  .gp (h1 g16) false (.fa 6 (h0 g1)) (i1 s17),
  .gp (h1 g16) false (.ld false 1 (h1 g17)) (i1 s18),
  .gp (h1 g16) false (.bin .eql (h1 g18) (kc (.tc (.sc (.int .u8 0)))) (G3 21 14 11)) (i1 s19),
  .gp (h1 g16) false (.mv (h1 g19)) (i1 s20),
  .gp (h1 g20) true (.fa 5 (h0 g1)) (i1 s21),
  .gp (h1 g20) true (.ld false 1 (h1 g21)) (i1 s22),
  .gp (h1 g20) true (.bin .neq (h1 g22) (kc (.tc (.sc (.int .u8 0)))) (G3 21 14 15)) (i1 s23),
  .gp (h1 g16) false (.pk (h1 g20) (h1 g23) (kc (.tc (.sc (.bool false))))) (i1 s24),
  .gp (h1 g16) false (.mv (h1 g24)) (i1 s25),
  .gp (h1 g25) true (.fa 0 (h0 g1)) (i1 s26),
  .gp (h1 g25) true (.ld false 1 (h1 g26)) (i1 s27),
  .gp (h1 g25) true (.bin .neq (h1 g27) (kc (.tc (.sc (.int .u8 14)))) (G3 21 14 20)) (i1 s28),
  .gp (h1 g16) false (.pk (h1 g25) (h1 g28) (kc (.tc (.sc (.bool false))))) (i1 s29),
  .p (.pk (h1 g16) (kc (.tc (.sc (.bool true)))) (h1 g29)) (i1 s30)])
 (.cond (h1 g30) (.seq (.reg [.p (.mv (kc (.tc (.sc (.bool false))))) (i0 s2)])
 .ret)
 .skip))
 (.seq (.reg [.p (.fa 0 (h0 g1)) (i1 s31),
  .p (.ld false 1 (h1 g31)) (i1 s32),
  .p (.call 24 [(h1 g32)] (G3 21 16 2)) (i1 s33),
  .p (.al 5 [(.sc (.int .i64 0)), (.sc (.int .i64 0)), (.sc (.bool false)), (.sc (.bool false)), (.sc (.bool false))]) (i0 s8),
  .n (.st 5 (h0 g8) (h1 g33) (G3 21 16 4))])
 (.seq (.seq (.reg [.p (.fa 4 (h0 g8)) (i1 s34),
  .p (.ld false 1 (h1 g34)) (i1 s35)])
 (.cond (h1 g35) (.seq (.regD [0, 1, 3, 7, 15, 31, 15, 127, 255, 511, 1023, 2047, 4095, 8191, 16383, 32767] [.no, (.rd (.ld false 1 (h1 g36)) (h1 g37)), .no, .no, .no, (.rd (.ld false 1 (h1 g40)) (h1 g41)), .no, .no, .no, .no, .no, (.rd (.ld false 1 (h1 g46)) (h1 g47)), .no, .no, .no, .no] [.mk .none .yes (.fa 10 (h0 g1)) (.fa 10 (h0 g1)) (some (i1 s36)),
  .mk .none .yes (.ld false 1 (h1 g36)) (.ld false 1 (h1 g36)) (some (i1 s37)),
  .mk .none .yes (.bin .geq (h1 g37) (kc (.tc (.sc (.int .i64 0)))) (G3 21 18 2)) (.bin .geq (h1 g37) (kc (.tc (.sc (.int .i64 0)))) (G3 21 18 2)) (some (i1 s38)),
  .mk .none .yes (.mv (h1 g38)) (.mv (h1 g38)) (some (i1 s39)),
  .mk (.on (h1 g39) true) .yes (.fa 10 (h0 g1)) (.fa 10 (h0 g1)) (some (i1 s40)),
  .mk (.on (h1 g39) true) .yes (.ld false 1 (h1 g40)) (.ld false 1 (h1 g40)) (some (i1 s41)),
  .mk (.on (h1 g39) true) (.dyn 28 [(kc (.tc (.sc (.int .i64 32))))]) (.call 28 [(kc (.tc (.sc (.int .i64 32))))] (G3 21 18 6)) (.call 28 [(kc (.tc (.sc (.int .i64 32))))] (G3 21 18 6)) (some (i1 s42)),
  .mk (.on (h1 g39) true) .yes (.bin .lss (h1 g41) (h1 g42) (G3 21 18 7)) (.bin .lss (h1 g41) (h1 g42) (G3 21 18 7)) (some (i1 s43)),
  .mk .none .yes (.pk (h1 g39) (h1 g43) (kc (.tc (.sc (.bool false))))) (.pk (h1 g39) (h1 g43) (kc (.tc (.sc (.bool false))))) (some (i1 s44)),
  .mk .none .yes (.mv (h1 g44)) (.mv (h1 g44)) (some (i1 s45)),
  .mk (.on (h1 g45) true) .yes (.fa 10 (h0 g1)) (.fa 10 (h0 g1)) (some (i1 s46)),
  .mk (.on (h1 g45) true) .yes (.ld false 1 (h1 g46)) (.ld false 1 (h1 g46)) (some (i1 s47)),
  .mk (.on (h1 g45) true) .yes (.bin .rem (h1 g47) (kc (.tc (.sc (.int .i64 4)))) (G3 21 18 12)) (.bin .rem (h1 g47) (kc (.tc (.sc (.int .i64 4)))) (G3 21 18 12)) (some (i1 s48)),
  .mk (.on (h1 g45) true) .yes (.bin .eql (h1 g48) (kc (.tc (.sc (.int .i64 0)))) (G3 21 18 13)) (.bin .eql (h1 g48) (kc (.tc (.sc (.int .i64 0)))) (G3 21 18 13)) (some (i1 s49)),
  .mk .none .yes (.pk (h1 g45) (h1 g49) (kc (.tc (.sc (.bool false))))) (.pk (h1 g45) (h1 g49) (kc (.tc (.sc (.bool false))))) (some (i1 s50)),
  .mk .none .yes (.mv (h1 g50)) (.mv (h1 g50)) (some (i0 s2))])
 .ret)
 .skip))
 (.seq (.seq (.reg [.p (.fa 8 (h0 g1)) (i1 s51),
  .p (.ld false 1 (h1 g51)) (i1 s52)])
 (.cond (h1 g52) (.seq (.regD [0, 1, 0, 4, 15, 31, 63, 127, 63, 511, 1023, 2047] [.no, (.rd (.ld false 1 (h1 g53)) (h1 g54)), .no, .no, .no, .no, .no, (.rd (.ld false 1 (h1 g59)) (h1 g60)), .no, .no, .no, .no] [.mk .none .yes (.fa 10 (h0 g1)) (.fa 10 (h0 g1)) (some (i1 s53)),
  .mk .none .yes (.ld false 1 (h1 g53)) (.ld false 1 (h1 g53)) (some (i1 s54)),
  .mk .none (.dyn 28 [(kc (.tc (.sc (.int .i64 31))))]) (.call 28 [(kc (.tc (.sc (.int .i64 31))))] (G3 21 20 2)) (.call 28 [(kc (.tc (.sc (.int .i64 31))))] (G3 21 20 2)) (some (i1 s55)),
  .mk .none .yes (.gen (G3 21 20 3)) (.gen (G3 21 20 3)) (some (i1 s56)),
  .mk .none .yes (.bin .geq (h1 g54) (h1 g56) (G3 21 20 4)) (.bin .geq (h1 g54) (h1 g56) (G3 21 20 4)) (some (i1 s57)),
  .mk .none .yes (.mv (h1 g57)) (.mv (h1 g57)) (some (i1 s58)),
  .mk (.on (h1 g58) true) .yes (.fa 10 (h0 g1)) (.fa 10 (h0 g1)) (some (i1 s59)),
  .mk (.on (h1 g58) true) .yes (.ld false 1 (h1 g59)) (.ld false 1 (h1 g59)) (some (i1 s60)),
  .mk (.on (h1 g58) true) (.dyn 28 [(kc (.tc (.sc (.int .i64 31))))]) (.call 28 [(kc (.tc (.sc (.int .i64 31))))] (G3 21 20 8)) (.call 28 [(kc (.tc (.sc (.int .i64 31))))] (G3 21 20 8)) (some (i1 s61)),
  .mk (.on (h1 g58) true) .yes (.bin .lss (h1 g60) (h1 g61) (G3 21 20 9)) (.bin .lss (h1 g60) (h1 g61) (G3 21 20 9)) (some (i1 s62)),
  .mk .none .yes (.pk (h1 g58) (h1 g62) (kc (.tc (.sc (.bool false))))) (.pk (h1 g58) (h1 g62) (kc (.tc (.sc (.bool false))))) (some (i1 s63)),
  .mk .none .yes (.mv (h1 g63)) (.mv (h1 g63)) (some (i0 s2))])
 .ret)
 .skip))
 (.seq (.reg [.p (.ld true 11 (h0 g1)) (i2 s0),
  .p (.call 22 [(h2 g0), (kc (.tc (.sc (.int .u32 0))))] (G3 21 21 1)) (i2 s1),
  .p (.mv (h2 g1)) (i0 s2)])
 .ret)))))))))),
 [.tmp (h0 g2)]⟩
theorem ffEnc21_ok : compF SBEnc 21 = ffEnc21 := by kernel_rfl
noncomputable def ffEnc23 : FF := .t3 ⟨128,
 (.seq (.reg [.p (.mv (kc (.tc (.sc (.slice none 0 0))))) (i0 s2),
  .p (.mv (kc (.tc (.sc (.bool false))))) (i0 s3)])
 (.seq (.reg [.p (.bd [(.tc (.sc (.int .u8 0))), (.tc (.sc (.int .i64 0)))] [(.mk 0 1 (kc (.tc (.sc (.int .u8 109))))), (.mk 1 1 (kc (.tc (.sc (.int .i64 3)))))] (G3 23 1 0)) (i0 s11),
  .p (.al 2 [(.sc (.int .u8 0)), (.sc (.int .i64 0))]) (i0 s4),
  .n (.st 2 (h0 g4) (h0 g11) (G3 23 1 2))])
 (.seq (.reg [.p (.bd [(.tc (.sc (.int .u8 0))), (.tc (.sc (.int .i64 0)))] [(.mk 0 1 (kc (.tc (.sc (.int .u8 112))))), (.mk 1 1 (kc (.tc (.sc (.int .i64 2)))))] (G3 23 2 0)) (i0 s12),
  .p (.al 2 [(.sc (.int .u8 0)), (.sc (.int .i64 0))]) (i0 s5),
  .n (.st 2 (h0 g5) (h0 g12) (G3 23 2 2))])
 (.seq (.reg [.p (.bd [(.tc (.sc (.int .u8 0))), (.tc (.sc (.int .i64 0)))] [(.mk 0 1 (kc (.tc (.sc (.int .u8 100))))), (.mk 1 1 (kc (.tc (.sc (.int .i64 5)))))] (G3 23 3 0)) (i0 s13),
  .p (.al 2 [(.sc (.int .u8 0)), (.sc (.int .i64 0))]) (i0 s6),
  .n (.st 2 (h0 g6) (h0 g13) (G3 23 3 2))])
 (.seq (.reg [.p (.bd [(.tc (.sc (.int .u8 0))), (.tc (.sc (.int .i64 0)))] [(.mk 0 1 (kc (.tc (.sc (.int .u8 113))))), (.mk 1 1 (kc (.tc (.sc (.int .i64 2)))))] (G3 23 4 0)) (i0 s14),
  .p (.al 2 [(.sc (.int .u8 0)), (.sc (.int .i64 0))]) (i0 s7),
  .n (.st 2 (h0 g7) (h0 g14) (G3 23 4 2))])
 (.seq (.reg [.p (.bd [(.tc (.sc (.int .u8 0))), (.tc (.sc (.int .i64 0)))] [(.mk 0 1 (kc (.tc (.sc (.int .u8 115))))), (.mk 1 1 (kc (.tc (.sc (.int .i64 5)))))] (G3 23 5 0)) (i0 s15),
  .p (.al 2 [(.sc (.int .u8 0)), (.sc (.int .i64 0))]) (i0 s8),
  .n (.st 2 (h0 g8) (h0 g15) (G3 23 5 2))])
 (.seq (.reg [.p (.bd [(.tc (.sc (.int .u8 0))), (.tc (.sc (.int .i64 0)))] [(.mk 0 1 (kc (.tc (.sc (.int .u8 116))))), (.mk 1 1 (kc (.tc (.sc (.int .i64 5)))))] (G3 23 6 0)) (i0 s16),
  .p (.al 2 [(.sc (.int .u8 0)), (.sc (.int .i64 0))]) (i0 s9),
  .n (.st 2 (h0 g9) (h0 g16) (G3 23 6 2))])
 (.seq (.reg [.p (.mv (h0 g0)) (i0 s17),
  .p (.call 24 [(h0 g17)] (G3 23 7 1)) (i0 s18),
  .p (.fd false 1 0 (h0 g18)) (i0 s19),
  .p (.bd [(.tc (.sc (.int .u8 0))), (.tc (.sc (.int .i64 0)))] [(.mk 0 1 (kc (.tc (.sc (.int .u8 118))))), (.mk 1 1 (h0 g19))] (G3 23 7 3)) (i0 s20),
  .p (.al 2 [(.sc (.int .u8 0)), (.sc (.int .i64 0))]) (i0 s10),
  .n (.st 2 (h0 g10) (h0 g20) (G3 23 7 5))])
 (.seq (.seq (.reg [.p (.mv (h0 g0)) (i0 s21)])
 (.block 0 (.seq (.reg [.p (.bin .eql (h0 g21) (kc (.tc (.sc (.int .u8 1)))) (G3 23 9 0)) (i0 s23),
  .p (.mv (h0 g23)) (i0 s22)])
 (.cond (h0 g22) (.seq (.reg [.p (.mv (kc (.tc (.sc (.slice none 0 0))))) (i0 s2),
  .p (.mv (kc (.tc (.sc (.bool true))))) (i0 s3)])
 .ret)
 (.seq (.seq (.reg [.p (.bin .eql (h0 g21) (kc (.tc (.sc (.int .u8 2)))) (G3 23 11 0)) (i0 s25),
  .p (.mv (h0 g25)) (i0 s24)])
 (.cond (h0 g24) .skip
 (.seq (.reg [.p (.bin .eql (h0 g21) (kc (.tc (.sc (.int .u8 3)))) (G3 23 12 0)) (i0 s26),
  .p (.mv (h0 g26)) (i0 s24)])
 (.cond (h0 g24) .skip
 (.seq (.reg [.p (.bin .eql (h0 g21) (kc (.tc (.sc (.int .u8 4)))) (G3 23 13 0)) (i0 s27),
  .p (.mv (h0 g27)) (i0 s24)])
 (.cond (h0 g24) .skip
 (.seq (.reg [.p (.bin .eql (h0 g21) (kc (.tc (.sc (.int .u8 5)))) (G3 23 14 0)) (i0 s28),
  .p (.mv (h0 g28)) (i0 s24)])
 (.cond (h0 g24) .skip
 (.reg [.p (.bin .eql (h0 g21) (kc (.tc (.sc (.int .u8 6)))) (G3 23 15 0)) (i0 s29),
  .p (.mv (h0 g29)) (i0 s24)])))))))))
 (.cond (h0 g24) (.seq (.reg [.p (.ld true 2 (h0 g4)) (i0 s30),
  .p (.ld true 2 (h0 g5)) (i0 s31),
  .p (.ld true 2 (h0 g6)) (i0 s32),
  .p (.ld true 2 (h0 g8)) (i0 s33),
  .p (.ld true 2 (h0 g9)) (i0 s34),
  .p (.bs 2 5 [[(.tc (.sc (.int .u8 0))), (.tc (.sc (.int .i64 0)))], [(.tc (.sc (.int .u8 0))), (.tc (.sc (.int .i64 0)))], [(.tc (.sc (.int .u8 0))), (.tc (.sc (.int .i64 0)))], [(.tc (.sc (.int .u8 0))), (.tc (.sc (.int .i64 0)))], [(.tc (.sc (.int .u8 0))), (.tc (.sc (.int .i64 0)))]] [(.mk 0 2 (h0 g30)), (.mk 1 2 (h0 g31)), (.mk 2 2 (h0 g32)), (.mk 3 2 (h0 g33)), (.mk 4 2 (h0 g34))] (G3 23 16 5)) (i0 s35),
  .p (.mv (h0 g35)) (i0 s2),
  .p (.mv (kc (.tc (.sc (.bool true))))) (i0 s3)])
 .ret)
 (.seq (.seq (.reg [.p (.bin .eql (h0 g21) (kc (.tc (.sc (.int .u8 7)))) (G3 23 17 0)) (i0 s37),
  .p (.mv (h0 g37)) (i0 s36)])
 (.cond (h0 g36) .skip
 (.seq (.reg [.p (.bin .eql (h0 g21) (kc (.tc (.sc (.int .u8 15)))) (G3 23 18 0)) (i0 s38),
  .p (.mv (h0 g38)) (i0 s36)])
 (.cond (h0 g36) .skip
 (.seq (.reg [.p (.bin .eql (h0 g21) (kc (.tc (.sc (.int .u8 16)))) (G3 23 19 0)) (i0 s39),
  .p (.mv (h0 g39)) (i0 s36)])
 (.cond (h0 g36) .skip
 (.seq (.reg [.p (.bin .eql (h0 g21) (kc (.tc (.sc (.int .u8 17)))) (G3 23 20 0)) (i0 s40),
  .p (.mv (h0 g40)) (i0 s36)])
 (.cond (h0 g36) .skip
 (.seq (.reg [.p (.bin .eql (h0 g21) (kc (.tc (.sc (.int .u8 21)))) (G3 23 21 0)) (i0 s41),
  .p (.mv (h0 g41)) (i0 s36)])
 (.cond (h0 g36) .skip
 (.seq (.reg [.p (.bin .eql (h0 g21) (kc (.tc (.sc (.int .u8 22)))) (G3 23 22 0)) (i0 s42),
  .p (.mv (h0 g42)) (i0 s36)])
 (.cond (h0 g36) .skip
 (.reg [.p (.bin .eql (h0 g21) (kc (.tc (.sc (.int .u8 23)))) (G3 23 23 0)) (i0 s43),
  .p (.mv (h0 g43)) (i0 s36)])))))))))))))
 (.cond (h0 g36) (.seq (.reg [.p (.ld true 2 (h0 g6)) (i0 s44),
  .p (.ld true 2 (h0 g8)) (i0 s45),
  .p (.ld true 2 (h0 g10)) (i0 s46),
  .p (.bs 2 3 [[(.tc (.sc (.int .u8 0))), (.tc (.sc (.int .i64 0)))], [(.tc (.sc (.int .u8 0))), (.tc (.sc (.int .i64 0)))], [(.tc (.sc (.int .u8 0))), (.tc (.sc (.int .i64 0)))]] [(.mk 0 2 (h0 g44)), (.mk 1 2 (h0 g45)), (.mk 2 2 (h0 g46))] (G3 23 24 3)) (i0 s47),
  .p (.mv (h0 g47)) (i0 s2),
  .p (.mv (kc (.tc (.sc (.bool true))))) (i0 s3)])
 .ret)
 (.seq (.reg [.p (.bin .eql (h0 g21) (kc (.tc (.sc (.int .u8 8)))) (G3 23 25 0)) (i0 s49),
  .p (.mv (h0 g49)) (i0 s48)])
 (.cond (h0 g48) (.seq (.reg [.p (.ld true 2 (h0 g4)) (i0 s50),
  .p (.ld true 2 (h0 g5)) (i0 s51),
  .p (.ld true 2 (h0 g6)) (i0 s52),
  .p (.ld true 2 (h0 g10)) (i0 s53),
  .p (.bs 2 4 [[(.tc (.sc (.int .u8 0))), (.tc (.sc (.int .i64 0)))], [(.tc (.sc (.int .u8 0))), (.tc (.sc (.int .i64 0)))], [(.tc (.sc (.int .u8 0))), (.tc (.sc (.int .i64 0)))], [(.tc (.sc (.int .u8 0))), (.tc (.sc (.int .i64 0)))]] [(.mk 0 2 (h0 g50)), (.mk 1 2 (h0 g51)), (.mk 2 2 (h0 g52)), (.mk 3 2 (h0 g53))] (G3 23 26 4)) (i0 s54),
  .p (.mv (h0 g54)) (i0 s2),
  .p (.mv (kc (.tc (.sc (.bool true))))) (i0 s3)])
 .ret)
 (.seq (.reg [.p (.bin .eql (h0 g21) (kc (.tc (.sc (.int .u8 9)))) (G3 23 27 0)) (i0 s56),
  .p (.mv (h0 g56)) (i0 s55)])
 (.cond (h0 g55) (.seq (.reg [.p (.ld true 2 (h0 g4)) (i0 s57),
  .p (.ld true 2 (h0 g5)) (i0 s58),
  .p (.ld true 2 (h0 g6)) (i0 s59),
  .p (.ld true 2 (h0 g8)) (i0 s60),
  .p (.bs 2 4 [[(.tc (.sc (.int .u8 0))), (.tc (.sc (.int .i64 0)))], [(.tc (.sc (.int .u8 0))), (.tc (.sc (.int .i64 0)))], [(.tc (.sc (.int .u8 0))), (.tc (.sc (.int .i64 0)))], [(.tc (.sc (.int .u8 0))), (.tc (.sc (.int .i64 0)))]] [(.mk 0 2 (h0 g57)), (.mk 1 2 (h0 g58)), (.mk 2 2 (h0 g59)), (.mk 3 2 (h0 g60))] (G3 23 28 4)) (i0 s61),
  .p (.mv (h0 g61)) (i0 s2),
  .p (.mv (kc (.tc (.sc (.bool true))))) (i0 s3)])
 .ret)
 (.seq (.seq (.reg [.p (.bin .eql (h0 g21) (kc (.tc (.sc (.int .u8 10)))) (G3 23 29 0)) (i0 s63),
  .p (.mv (h0 g63)) (i0 s62)])
 (.cond (h0 g62) .skip
 (.seq (.reg [.p (.bin .eql (h0 g21) (kc (.tc (.sc (.int .u8 11)))) (G3 23 30 0)) (i1 s0),
  .p (.mv (h1 g0)) (i0 s62)])
 (.cond (h0 g62) .skip
 (.reg [.p (.bin .eql (h0 g21) (kc (.tc (.sc (.int .u8 12)))) (G3 23 31 0)) (i1 s1),
  .p (.mv (h1 g1)) (i0 s62)])))))
 (.cond (h0 g62) (.seq (.reg [.p (.ld true 2 (h0 g7)) (i1 s2),
  .p (.ld true 2 (h0 g8)) (i1 s3),
  .p (.ld true 2 (h0 g9)) (i1 s4),
  .p (.bs 2 3 [[(.tc (.sc (.int .u8 0))), (.tc (.sc (.int .i64 0)))], [(.tc (.sc (.int .u8 0))), (.tc (.sc (.int .i64 0)))], [(.tc (.sc (.int .u8 0))), (.tc (.sc (.int .i64 0)))]] [(.mk 0 2 (h1 g2)), (.mk 1 2 (h1 g3)), (.mk 2 2 (h1 g4))] (G3 23 32 3)) (i1 s5),
  .p (.mv (h1 g5)) (i0 s2),
  .p (.mv (kc (.tc (.sc (.bool true))))) (i0 s3)])
 .ret)
 (.seq (.reg [.p (.bin .eql (h0 g21) (kc (.tc (.sc (.int .u8 13)))) (G3 23 33 0)) (i1 s7),
  .p (.mv (h1 g7)) (i1 s6)])
 (.cond (h1 g6) (.seq (.reg [.p (.ld true 2 (h0 g7)) (i1 s8),
  .p (.ld true 2 (h0 g8)) (i1 s9),
  .p (.ld true 2 (h0 g10)) (i1 s10),
  .p (.bs 2 3 [[(.tc (.sc (.int .u8 0))), (.tc (.sc (.int .i64 0)))], [(.tc (.sc (.int .u8 0))), (.tc (.sc (.int .i64 0)))], [(.tc (.sc (.int .u8 0))), (.tc (.sc (.int .i64 0)))]] [(.mk 0 2 (h1 g8)), (.mk 1 2 (h1 g9)), (.mk 2 2 (h1 g10))] (G3 23 34 3)) (i1 s11),
  .p (.mv (h1 g11)) (i0 s2),
  .p (.mv (kc (.tc (.sc (.bool true))))) (i0 s3)])
 .ret)
 (.seq (.reg [.p (.bin .eql (h0 g21) (kc (.tc (.sc (.int .u8 14)))) (G3 23 35 0)) (i1 s13),
  .p (.mv (h1 g13)) (i1 s12)])
 (.cond (h1 g12) (.seq (.reg [.p (.ld true 2 (h0 g6)) (i1 s14),
  .p (.ld true 2 (h0 g5)) (i1 s15),
  .p (.ld true 2 (h0 g8)) (i1 s16),
  .p (.ld true 2 (h0 g9)) (i1 s17),
  .p (.bs 2 4 [[(.tc (.sc (.int .u8 0))), (.tc (.sc (.int .i64 0)))], [(.tc (.sc (.int .u8 0))), (.tc (.sc (.int .i64 0)))], [(.tc (.sc (.int .u8 0))), (.tc (.sc (.int .i64 0)))], [(.tc (.sc (.int .u8 0))), (.tc (.sc (.int .i64 0)))]] [(.mk 0 2 (h1 g14)), (.mk 1 2 (h1 g15)), (.mk 2 2 (h1 g16)), (.mk 3 2 (h1 g17))] (G3 23 36 4)) (i1 s18),
  .p (.mv (h1 g18)) (i0 s2),
  .p (.mv (kc (.tc (.sc (.bool true))))) (i0 s3)])
 .ret)
 (.seq (.seq (.reg [.p (.bin .eql (h0 g21) (kc (.tc (.sc (.int .u8 18)))) (G3 23 37 0)) (i1 s20),
  .p (.mv (h1 g20)) (i1 s19)])
 (.cond (h1 g19) .skip
 (.seq (.reg [.p (.bin .eql (h0 g21) (kc (.tc (.sc (.int .u8 19)))) (G3 23 38 0)) (i1 s21),
  .p (.mv (h1 g21)) (i1 s19)])
 (.cond (h1 g19) .skip
 (.reg [.p (.bin .eql (h0 g21) (kc (.tc (.sc (.int .u8 20)))) (G3 23 39 0)) (i1 s22),
  .p (.mv (h1 g22)) (i1 s19)])))))
 (.cond (h1 g19) (.seq (.reg [.p (.ld true 2 (h0 g6)) (i1 s23),
  .p (.ld true 2 (h0 g8)) (i1 s24),
  .p (.ld true 2 (h0 g9)) (i1 s25),
  .p (.bs 2 3 [[(.tc (.sc (.int .u8 0))), (.tc (.sc (.int .i64 0)))], [(.tc (.sc (.int .u8 0))), (.tc (.sc (.int .i64 0)))], [(.tc (.sc (.int .u8 0))), (.tc (.sc (.int .i64 0)))]] [(.mk 0 2 (h1 g23)), (.mk 1 2 (h1 g24)), (.mk 2 2 (h1 g25))] (G3 23 40 3)) (i1 s26),
  .p (.mv (h1 g26)) (i0 s2),
  .p (.mv (kc (.tc (.sc (.bool true))))) (i0 s3)])
 .ret)
 (.seq (.seq (.reg [.p (.bin .eql (h0 g21) (kc (.tc (.sc (.int .u8 24)))) (G3 23 41 0)) (i1 s28),
  .p (.mv (h1 g28)) (i1 s27)])
 (.cond (h1 g27) .skip
 (.seq (.reg [.p (.bin .eql (h0 g21) (kc (.tc (.sc (.int .u8 25)))) (G3 23 42 0)) (i1 s29),
  .p (.mv (h1 g29)) (i1 s27)])
 (.cond (h1 g27) .skip
 (.reg [.p (.bin .eql (h0 g21) (kc (.tc (.sc (.int .u8 26)))) (G3 23 43 0)) (i1 s30),
  .p (.mv (h1 g30)) (i1 s27)])))))
 (.cond (h1 g27) (.seq (.reg [.p (.ld true 2 (h0 g8)) (i1 s31),
  .p (.bd [(.tc (.sc (.int .u8 0))), (.tc (.sc (.int .i64 0)))] [(.mk 0 1 (kc (.tc (.sc (.int .u8 119))))), (.mk 1 1 (kc (.tc (.sc (.int .i64 1)))))] (G3 23 44 1)) (i1 s32),
  .p (.ld true 2 (h0 g9)) (i1 s33),
  .p (.ld true 2 (h0 g10)) (i1 s34),
  .p (.bs 2 4 [[(.tc (.sc (.int .u8 0))), (.tc (.sc (.int .i64 0)))], [(.tc (.sc (.int .u8 0))), (.tc (.sc (.int .i64 0)))], [(.tc (.sc (.int .u8 0))), (.tc (.sc (.int .i64 0)))], [(.tc (.sc (.int .u8 0))), (.tc (.sc (.int .i64 0)))]] [(.mk 0 2 (h1 g31)), (.mk 1 2 (h1 g32)), (.mk 2 2 (h1 g33)), (.mk 3 2 (h1 g34))] (G3 23 44 4)) (i1 s35),
  .p (.mv (h1 g35)) (i0 s2),
  .p (.mv (kc (.tc (.sc (.bool true))))) (i0 s3)])
 .ret)
 (.seq (.reg [.p (.bin .eql (h0 g21) (kc (.tc (.sc (.int .u8 27)))) (G3 23 45 0)) (i1 s37),
  .p (.mv (h1 g37)) (i1 s36)])
 (.cond (h1 g36) (.seq (.reg [.p (.ld true 2 (h0 g4)) (i1 s38),
  .p (.ld true 2 (h0 g5)) (i1 s39),
  .p (.ld true 2 (h0 g10)) (i1 s40),
  .p (.bs 2 3 [[(.tc (.sc (.int .u8 0))), (.tc (.sc (.int .i64 0)))], [(.tc (.sc (.int .u8 0))), (.tc (.sc (.int .i64 0)))], [(.tc (.sc (.int .u8 0))), (.tc (.sc (.int .i64 0)))]] [(.mk 0 2 (h1 g38)), (.mk 1 2 (h1 g39)), (.mk 2 2 (h1 g40))] (G3 23 46 3)) (i1 s41),
  .p (.mv (h1 g41)) (i0 s2),
  .p (.mv (kc (.tc (.sc (.bool true))))) (i0 s3)])
 .ret)
 (.seq (.reg [.p (.bin .eql (h0 g21) (kc (.tc (.sc (.int .u8 28)))) (G3 23 47 0)) (i1 s43),
  .p (.mv (h1 g43)) (i1 s42)])
 (.cond (h1 g42) (.seq (.reg [.p (.ld true 2 (h0 g4)) (i1 s44),
  .p (.ld true 2 (h0 g5)) (i1 s45),
  .p (.ld true 2 (h0 g8)) (i1 s46),
  .p (.bs 2 3 [[(.tc (.sc (.int .u8 0))), (.tc (.sc (.int .i64 0)))], [(.tc (.sc (.int .u8 0))), (.tc (.sc (.int .i64 0)))], [(.tc (.sc (.int .u8 0))), (.tc (.sc (.int .i64 0)))]] [(.mk 0 2 (h1 g44)), (.mk 1 2 (h1 g45)), (.mk 2 2 (h1 g46))] (G3 23 48 3)) (i1 s47),
  .p (.mv (h1 g47)) (i0 s2),
  .p (.mv (kc (.tc (.sc (.bool true))))) (i0 s3)])
 .ret)
 (.seq (.reg [.p (.bin .eql (h0 g21) (kc (.tc (.sc (.int .u8 29)))) (G3 23 49 0)) (i1 s49),
  .p (.mv (h1 g49)) (i1 s48)])
 (.cond (h1 g48) (.seq (.reg [.p (.ld true 2 (h0 g10)) (i1 s50),
  .p (.bs 2 1 [[(.tc (.sc (.int .u8 0))), (.tc (.sc (.int .i64 0)))]] [(.mk 0 2 (h1 g50))] (G3 23 50 1)) (i1 s51),
  .p (.mv (h1 g51)) (i0 s2),
  .p (.mv (kc (.tc (.sc (.bool true))))) (i0 s3)])
 .ret)
 (.seq (.reg [.p (.bin .eql (h0 g21) (kc (.tc (.sc (.int .u8 30)))) (G3 23 51 0)) (i1 s53),
  .p (.mv (h1 g53)) (i1 s52)])
 (.cond (h1 g52) (.seq (.reg [.p (.bd [(.tc (.sc (.int .u8 0))), (.tc (.sc (.int .i64 0)))] [(.mk 0 1 (kc (.tc (.sc (.int .u8 110))))), (.mk 1 1 (kc (.tc (.sc (.int .i64 1)))))] (G3 23 52 0)) (i1 s54),
  .p (.ld true 2 (h0 g10)) (i1 s55),
  .p (.bd [(.tc (.sc (.int .u8 0))), (.tc (.sc (.int .i64 0)))] [(.mk 0 1 (kc (.tc (.sc (.int .u8 99))))), (.mk 1 1 (kc (.tc (.sc (.int .i64 11)))))] (G3 23 52 2)) (i1 s56),
  .p (.bs 2 3 [[(.tc (.sc (.int .u8 0))), (.tc (.sc (.int .i64 0)))], [(.tc (.sc (.int .u8 0))), (.tc (.sc (.int .i64 0)))], [(.tc (.sc (.int .u8 0))), (.tc (.sc (.int .i64 0)))]] [(.mk 0 2 (h1 g54)), (.mk 1 2 (h1 g55)), (.mk 2 2 (h1 g56))] (G3 23 52 3)) (i1 s57),
  .p (.mv (h1 g57)) (i0 s2),
  .p (.mv (kc (.tc (.sc (.bool true))))) (i0 s3)])
 .ret)
 (.seq (.reg [.p (.bin .eql (h0 g21) (kc (.tc (.sc (.int .u8 31)))) (G3 23 53 0)) (i1 s59),
  .p (.mv (h1 g59)) (i1 s58)])
 (.cond (h1 g58) (.seq (.reg [.p (.bd [(.tc (.sc (.int .u8 0))), (.tc (.sc (.int .i64 0)))] [(.mk 0 1 (kc (.tc (.sc (.int .u8 110))))), (.mk 1 1 (kc (.tc (.sc (.int .i64 1)))))] (G3 23 54 0)) (i1 s60),
  .p (.ld true 2 (h0 g10)) (i1 s61),
  .p (.ld true 2 (h0 g8)) (i1 s62),
  .p (.bs 2 3 [[(.tc (.sc (.int .u8 0))), (.tc (.sc (.int .i64 0)))], [(.tc (.sc (.int .u8 0))), (.tc (.sc (.int .i64 0)))], [(.tc (.sc (.int .u8 0))), (.tc (.sc (.int .i64 0)))]] [(.mk 0 2 (h1 g60)), (.mk 1 2 (h1 g61)), (.mk 2 2 (h1 g62))] (G3 23 54 3)) (i1 s63),
  .p (.mv (h1 g63)) (i0 s2),
  .p (.mv (kc (.tc (.sc (.bool true))))) (i0 s3)])
 .ret)
 .skip))))))))))))))))))))))))))))))))
 (.seq (.reg [.p (.mv (kc (.tc (.sc (.slice none 0 0))))) (i0 s2),
  .p (.mv (kc (.tc (.sc (.bool false))))) (i0 s3)])
 .ret)))))))))),
 [.tmp (h0 g2), .tmp (h0 g3)]⟩
theorem ffEnc23_ok : compF SBEnc 23 = ffEnc23 := by kernel_rfl
noncomputable def ffEnc24 : FF := .t2 ⟨37,
 (.seq (.reg [.p (.al 5 [(.sc (.int .i64 0)), (.sc (.int .i64 0)), (.sc (.bool false)), (.sc (.bool false)), (.sc (.bool false))]) s2])
 (.seq (.seq (.reg [.p (.mv g0) s3])
 (.block 0 (.seq (.seq (.reg [.p (.bin .eql g3 (kc (.tc (.sc (.int .u8 7)))) (G2 24 2 0)) s5,
  .p (.mv g5) s4])
 (.cond g4 .skip
 (.seq (.reg [.p (.bin .eql g3 (kc (.tc (.sc (.int .u8 8)))) (G2 24 3 0)) s6,
  .p (.mv g6) s4])
 (.cond g4 .skip
 (.reg [.p (.bin .eql g3 (kc (.tc (.sc (.int .u8 13)))) (G2 24 4 0)) s7,
  .p (.mv g7) s4])))))
 (.cond g4 (.seq (.reg [.p (.bd [(.tc (.sc (.int .i64 0))), (.tc (.sc (.int .i64 0))), (.tc (.sc (.bool false))), (.tc (.sc (.bool false))), (.tc (.sc (.bool false)))] [(.mk 0 1 (kc (.tc (.sc (.int .i64 14))))), (.mk 2 1 (kc (.tc (.sc (.bool true))))), (.mk 3 1 (kc (.tc (.sc (.bool true)))))] (G2 24 5 0)) s8,
  .n (.st 5 g2 g8 (G2 24 5 1))])
 .ret)
 (.seq (.seq (.reg [.p (.bin .eql g3 (kc (.tc (.sc (.int .u8 15)))) (G2 24 6 0)) s10,
  .p (.mv g10) s9])
 (.cond g9 .skip
 (.seq (.reg [.p (.bin .eql g3 (kc (.tc (.sc (.int .u8 16)))) (G2 24 7 0)) s11,
  .p (.mv g11) s9])
 (.cond g9 .skip
 (.reg [.p (.bin .eql g3 (kc (.tc (.sc (.int .u8 17)))) (G2 24 8 0)) s12,
  .p (.mv g12) s9])))))
 (.cond g9 (.seq (.reg [.p (.bd [(.tc (.sc (.int .i64 0))), (.tc (.sc (.int .i64 0))), (.tc (.sc (.bool false))), (.tc (.sc (.bool false))), (.tc (.sc (.bool false)))] [(.mk 0 1 (kc (.tc (.sc (.int .i64 5)))))] (G2 24 9 0)) s13,
  .n (.st 5 g2 g13 (G2 24 9 1))])
 .ret)
 (.seq (.seq (.reg [.p (.bin .eql g3 (kc (.tc (.sc (.int .u8 21)))) (G2 24 10 0)) s15,
  .p (.mv g15) s14])
 (.cond g14 .skip
 (.reg [.p (.bin .eql g3 (kc (.tc (.sc (.int .u8 24)))) (G2 24 11 0)) s16,
  .p (.mv g16) s14])))
 (.cond g14 (.seq (.reg [.p (.bd [(.tc (.sc (.int .i64 0))), (.tc (.sc (.int .i64 0))), (.tc (.sc (.bool false))), (.tc (.sc (.bool false))), (.tc (.sc (.bool false)))] [(.mk 0 1 (kc (.tc (.sc (.int .i64 12))))), (.mk 1 1 (kc (.tc (.sc (.int .i64 2))))), (.mk 2 1 (kc (.tc (.sc (.bool true))))), (.mk 3 1 (kc (.tc (.sc (.bool true)))))] (G2 24 12 0)) s17,
  .n (.st 5 g2 g17 (G2 24 12 1))])
 .ret)
 (.seq (.seq (.reg [.p (.bin .eql g3 (kc (.tc (.sc (.int .u8 22)))) (G2 24 13 0)) s19,
  .p (.mv g19) s18])
 (.cond g18 .skip
 (.reg [.p (.bin .eql g3 (kc (.tc (.sc (.int .u8 25)))) (G2 24 14 0)) s20,
  .p (.mv g20) s18])))
 (.cond g18 (.seq (.reg [.p (.bd [(.tc (.sc (.int .i64 0))), (.tc (.sc (.int .i64 0))), (.tc (.sc (.bool false))), (.tc (.sc (.bool false))), (.tc (.sc (.bool false)))] [(.mk 0 1 (kc (.tc (.sc (.int .i64 12))))), (.mk 1 1 (kc (.tc (.sc (.int .i64 1))))), (.mk 2 1 (kc (.tc (.sc (.bool true))))), (.mk 3 1 (kc (.tc (.sc (.bool true)))))] (G2 24 15 0)) s21,
  .n (.st 5 g2 g21 (G2 24 15 1))])
 .ret)
 (.seq (.seq (.reg [.p (.bin .eql g3 (kc (.tc (.sc (.int .u8 23)))) (G2 24 16 0)) s23,
  .p (.mv g23) s22])
 (.cond g22 .skip
 (.reg [.p (.bin .eql g3 (kc (.tc (.sc (.int .u8 26)))) (G2 24 17 0)) s24,
  .p (.mv g24) s22])))
 (.cond g22 (.seq (.reg [.p (.bd [(.tc (.sc (.int .i64 0))), (.tc (.sc (.int .i64 0))), (.tc (.sc (.bool false))), (.tc (.sc (.bool false))), (.tc (.sc (.bool false)))] [(.mk 0 1 (kc (.tc (.sc (.int .i64 12))))), (.mk 2 1 (kc (.tc (.sc (.bool true))))), (.mk 3 1 (kc (.tc (.sc (.bool true)))))] (G2 24 18 0)) s25,
  .n (.st 5 g2 g25 (G2 24 18 1))])
 .ret)
 (.seq (.reg [.p (.bin .eql g3 (kc (.tc (.sc (.int .u8 27)))) (G2 24 19 0)) s27,
  .p (.mv g27) s26])
 (.cond g26 (.seq (.reg [.p (.bd [(.tc (.sc (.int .i64 0))), (.tc (.sc (.int .i64 0))), (.tc (.sc (.bool false))), (.tc (.sc (.bool false))), (.tc (.sc (.bool false)))] [(.mk 0 1 (kc (.tc (.sc (.int .i64 19))))), (.mk 1 1 (kc (.tc (.sc (.int .i64 2))))), (.mk 2 1 (kc (.tc (.sc (.bool true))))), (.mk 3 1 (kc (.tc (.sc (.bool true))))), (.mk 4 1 (kc (.tc (.sc (.bool true)))))] (G2 24 20 0)) s28,
  .n (.st 5 g2 g28 (G2 24 20 1))])
 .ret)
 (.seq (.reg [.p (.bin .eql g3 (kc (.tc (.sc (.int .u8 29)))) (G2 24 21 0)) s30,
  .p (.mv g30) s29])
 (.cond g29 (.seq (.reg [.p (.bd [(.tc (.sc (.int .i64 0))), (.tc (.sc (.int .i64 0))), (.tc (.sc (.bool false))), (.tc (.sc (.bool false))), (.tc (.sc (.bool false)))] [(.mk 0 1 (kc (.tc (.sc (.int .i64 24))))), (.mk 1 1 (kc (.tc (.sc (.int .i64 2))))), (.mk 2 1 (kc (.tc (.sc (.bool true))))), (.mk 3 1 (kc (.tc (.sc (.bool true))))), (.mk 4 1 (kc (.tc (.sc (.bool true)))))] (G2 24 22 0)) s31,
  .n (.st 5 g2 g31 (G2 24 22 1))])
 .ret)
 (.seq (.seq (.reg [.p (.bin .eql g3 (kc (.tc (.sc (.int .u8 30)))) (G2 24 23 0)) s33,
  .p (.mv g33) s32])
 (.cond g32 .skip
 (.reg [.p (.bin .eql g3 (kc (.tc (.sc (.int .u8 31)))) (G2 24 24 0)) s34,
  .p (.mv g34) s32])))
 (.cond g32 (.seq (.reg [.p (.bd [(.tc (.sc (.int .i64 0))), (.tc (.sc (.int .i64 0))), (.tc (.sc (.bool false))), (.tc (.sc (.bool false))), (.tc (.sc (.bool false)))] [(.mk 0 1 (kc (.tc (.sc (.int .i64 12))))), (.mk 1 1 (kc (.tc (.sc (.int .i64 2))))), (.mk 2 1 (kc (.tc (.sc (.bool true))))), (.mk 3 1 (kc (.tc (.sc (.bool true))))), (.mk 4 1 (kc (.tc (.sc (.bool true)))))] (G2 24 25 0)) s35,
  .n (.st 5 g2 g35 (G2 24 25 1))])
 .ret)
 .skip))))))))))))))))))
 (.seq (.reg [.p (.bd [(.tc (.sc (.int .i64 0))), (.tc (.sc (.int .i64 0))), (.tc (.sc (.bool false))), (.tc (.sc (.bool false))), (.tc (.sc (.bool false)))] [] (G2 24 26 0)) s36,
  .n (.st 5 g2 g36 (G2 24 26 1))])
 .ret))),
 [.cell g2 true 5]⟩
theorem ffEnc24_ok : compF SBEnc 24 = ffEnc24 := by kernel_rfl
noncomputable def ffEnc27 : FF := .t2 ⟨46,
 (.seq (.reg [.p (.bx 11 g0 (G2 27 0 0)) s2,
  .p (.mv (kc (.tc (.sc (.int .u32 0))))) s4])
 (.seq (.seq (.reg [.p (.mv g1) s5])
 (.block 0 (.seq (.reg [.p (.bin .eql g5 (kc (.tc (.sc (.int .u8 109)))) (G2 27 2 0)) s7,
  .p (.mv g7) s6])
 (.cond g6 (.seq (.reg [.p (.fa 6 g2) s8,
  .p (.ld false 1 g8) s9,
  .p (.cv .u32 g9 (G2 27 3 2)) s10,
  .p (.mv g10) s4])
 .ret)
 (.seq (.reg [.p (.bin .eql g5 (kc (.tc (.sc (.int .u8 112)))) (G2 27 4 0)) s12,
  .p (.mv g12) s11])
 (.cond g11 (.seq (.reg [.p (.fa 5 g2) s13,
  .p (.ld false 1 g13) s14,
  .p (.cv .u32 g14 (G2 27 5 2)) s15,
  .p (.mv g15) s4])
 .ret)
 (.seq (.seq (.reg [.p (.bin .eql g5 (kc (.tc (.sc (.int .u8 100)))) (G2 27 6 0)) s17,
  .p (.mv g17) s16])
 (.cond g16 .skip
 (.reg [.p (.bin .eql g5 (kc (.tc (.sc (.int .u8 113)))) (G2 27 7 0)) s18,
  .p (.mv g18) s16])))
 (.cond g16 (.seq (.reg [.p (.fa 1 g2) s19,
  .p (.ld false 1 g19) s20,
  .p (.cv .u32 g20 (G2 27 8 2)) s21,
  .p (.mv g21) s4])
 .ret)
 (.seq (.reg [.p (.bin .eql g5 (kc (.tc (.sc (.int .u8 115)))) (G2 27 9 0)) s23,
  .p (.mv g23) s22])
 (.cond g22 (.seq (.reg [.p (.fa 2 g2) s24,
  .p (.ld false 1 g24) s25,
  .p (.cv .u32 g25 (G2 27 10 2)) s26,
  .p (.mv g26) s4])
 .ret)
 (.seq (.reg [.p (.bin .eql g5 (kc (.tc (.sc (.int .u8 116)))) (G2 27 11 0)) s28,
  .p (.mv g28) s27])
 (.cond g27 (.seq (.reg [.p (.fa 3 g2) s29,
  .p (.ld false 1 g29) s30,
  .p (.cv .u32 g30 (G2 27 12 2)) s31,
  .p (.mv g31) s4])
 .ret)
 (.seq (.reg [.p (.bin .eql g5 (kc (.tc (.sc (.int .u8 110)))) (G2 27 13 0)) s33,
  .p (.mv g33) s32])
 (.cond g32 (.seq (.reg [.p (.fa 4 g2) s34,
  .p (.ld false 1 g34) s35,
  .p (.cv .u32 g35 (G2 27 14 2)) s36,
  .p (.mv g36) s4])
 .ret)
 (.seq (.reg [.p (.bin .eql g5 (kc (.tc (.sc (.int .u8 99)))) (G2 27 15 0)) s38,
  .p (.mv g38) s37])
 (.cond g37 (.seq (.reg [.p (.fa 9 g2) s39,
  .p (.ld false 1 g39) s40,
  .p (.cv .u32 g40 (G2 27 16 2)) s41,
  .p (.mv g41) s4])
 .ret)
 (.seq (.reg [.p (.bin .eql g5 (kc (.tc (.sc (.int .u8 119)))) (G2 27 17 0)) s43,
  .p (.mv g43) s42])
 (.cond g42 (.seq (.reg [.p (.fa 7 g2) s44,
  .p (.ld false 1 g44) s45])
 (.cond g45 (.seq (.reg [.p (.mv (kc (.tc (.sc (.int .u32 1))))) s4])
 .ret)
 .skip))
 .skip))))))))))))))))))
 (.seq (.reg [.p (.mv (kc (.tc (.sc (.int .u32 0))))) s4])
 .ret))),
 [.tmp g4]⟩
theorem ffEnc27_ok : compF SBEnc 27 = ffEnc27 := by kernel_rfl
noncomputable def ffEnc28 : FF := .t2 ⟨13,
 (.seq (.reg [.p (.mv (kc (.tc (.sc (.int .i64 0))))) s2])
 (.seq (.reg [.p (.mv (kc (.tc (.sc (.int .i64 1))))) s3])
 (.seq (.seq (.reg [.p (.mv (kc (.tc (.sc (.int .i64 0))))) s4])
 (.block 0 (.loop 4294967296 (.seq (.seq (.reg [.p (.mv g4) s5,
  .p (.mv g0) s6,
  .p (.bin .lss g5 g6 (G2 28 3 2)) s7])
 (.cond g7 .skip
 (.exit 0)))
 (.seq (.block 1 (.reg [.p (.mv g3) s10,
  .p (.bin .mul (kc (.tc (.sc (.int .i64 2)))) g10 (G2 28 4 1)) s11,
  .p (.mv g11) s3]))
 (.reg [.p (.mv g4) s8,
  .p (.bin .add g8 (kc (.tc (.sc (.int .i64 1)))) (G2 28 5 1)) s9,
  .p (.mv g9) s4]))))))
 (.seq (.reg [.p (.mv g3) s12,
  .p (.mv g12) s2])
 .ret)))),
 [.tmp g2]⟩
theorem ffEnc28_ok : compF SBEnc 28 = ffEnc28 := by kernel_rfl
noncomputable def ffEnc36 : FF := .t2 ⟨50,
 (.seq (.reg [.p (.bx 11 g0 (G2 36 0 0)) s3,
  .p (.al 11 [(.sc (.int .u8 0)), (.sc (.int .u8 0)), (.sc (.int .u8 0)), (.sc (.int .u8 0)), (.sc (.int .u8 0)), (.sc (.int .u8 0)), (.sc (.int .u8 0)), (.sc (.bool false)), (.sc (.bool false)), (.sc (.int .u16 0)), (.sc (.int .i64 0))]) s6])
 (.seq (.seq (.reg [.p (.mv g1) s7])
 (.block 0 (.seq (.reg [.p (.bin .eql g7 (kc (.tc (.sc (.int .u8 109)))) (G2 36 2 0)) s9,
  .p (.mv g9) s8])
 (.cond g8 (.reg [.p (.mv g2) s10,
  .p (.cv .u8 g10 (G2 36 3 1)) s11,
  .p (.fa 6 g3) s12,
  .n (.st 1 g12 g11 (G2 36 3 3))])
 (.seq (.reg [.p (.bin .eql g7 (kc (.tc (.sc (.int .u8 112)))) (G2 36 4 0)) s14,
  .p (.mv g14) s13])
 (.cond g13 (.reg [.p (.mv g2) s15,
  .p (.cv .u8 g15 (G2 36 5 1)) s16,
  .p (.fa 5 g3) s17,
  .n (.st 1 g17 g16 (G2 36 5 3))])
 (.seq (.seq (.reg [.p (.bin .eql g7 (kc (.tc (.sc (.int .u8 100)))) (G2 36 6 0)) s19,
  .p (.mv g19) s18])
 (.cond g18 .skip
 (.reg [.p (.bin .eql g7 (kc (.tc (.sc (.int .u8 113)))) (G2 36 7 0)) s20,
  .p (.mv g20) s18])))
 (.cond g18 (.reg [.p (.mv g2) s21,
  .p (.cv .u8 g21 (G2 36 8 1)) s22,
  .p (.fa 1 g3) s23,
  .n (.st 1 g23 g22 (G2 36 8 3))])
 (.seq (.reg [.p (.bin .eql g7 (kc (.tc (.sc (.int .u8 115)))) (G2 36 9 0)) s25,
  .p (.mv g25) s24])
 (.cond g24 (.reg [.p (.mv g2) s26,
  .p (.cv .u8 g26 (G2 36 10 1)) s27,
  .p (.fa 2 g3) s28,
  .n (.st 1 g28 g27 (G2 36 10 3))])
 (.seq (.reg [.p (.bin .eql g7 (kc (.tc (.sc (.int .u8 116)))) (G2 36 11 0)) s30,
  .p (.mv g30) s29])
 (.cond g29 (.reg [.p (.mv g2) s31,
  .p (.cv .u8 g31 (G2 36 12 1)) s32,
  .p (.fa 3 g3) s33,
  .n (.st 1 g33 g32 (G2 36 12 3))])
 (.seq (.reg [.p (.bin .eql g7 (kc (.tc (.sc (.int .u8 110)))) (G2 36 13 0)) s35,
  .p (.mv g35) s34])
 (.cond g34 (.reg [.p (.mv g2) s36,
  .p (.cv .u8 g36 (G2 36 14 1)) s37,
  .p (.fa 4 g3) s38,
  .n (.st 1 g38 g37 (G2 36 14 3))])
 (.seq (.reg [.p (.bin .eql g7 (kc (.tc (.sc (.int .u8 99)))) (G2 36 15 0)) s40,
  .p (.mv g40) s39])
 (.cond g39 (.reg [.p (.mv g2) s41,
  .p (.cv .u16 g41 (G2 36 16 1)) s42,
  .p (.fa 9 g3) s43,
  .n (.st 1 g43 g42 (G2 36 16 3))])
 (.seq (.reg [.p (.bin .eql g7 (kc (.tc (.sc (.int .u8 119)))) (G2 36 17 0)) s45,
  .p (.mv g45) s44])
 (.cond g44 (.reg [.p (.mv g2) s46,
  .p (.bin .eql g46 (kc (.tc (.sc (.int .u32 1)))) (G2 36 18 1)) s47,
  .p (.fa 7 g3) s48,
  .n (.st 1 g48 g47 (G2 36 18 3))])
 .skip))))))))))))))))))
 (.seq (.reg [.p (.ld true 11 g3) s49,
  .n (.st 11 g6 g49 (G2 36 19 1))])
 .ret))),
 [.cell g6 true 11]⟩
theorem ffEnc36_ok : compF SBEnc 36 = ffEnc36 := by kernel_rfl
noncomputable def ffEnc22 : FF := .t2 ⟨29,
 (.seq (.reg [.p (.bx 11 g0 (G2 22 0 0)) s2,
  .p (.mv (kc (.tc (.sc (.bool false))))) s4])
 (.seq (.reg [.p (.fa 0 g2) s8,
  .p (.ld false 1 g8) s9,
  .p (.call 24 [g9] (G2 22 1 2)) s10,
  .p (.al 5 [(.sc (.int .i64 0)), (.sc (.int .i64 0)), (.sc (.bool false)), (.sc (.bool false)), (.sc (.bool false))]) s5,
  .n (.st 5 g5 g10 (G2 22 1 4))])
 (.seq (.reg [.p (.ld true 11 g2) s12,
  .p (.mv g1) s13,
  .p (.call 25 [g12, g13] (G2 22 2 2)) s14,
  .p (.mv g14) s11,
  .p (.ex g11 0) s15,
  .p (.ex g11 1) s16,
  .p (.mv g15) s6,
  .p (.mv g16) s7])
 (.seq (.reg [.p (.mv g7) s17,
  .p (.nt g17 (G2 22 3 1)) s18,
  .p (.mv g18) s19,
  .gp g19 false (.mv g6) s20,
  .gp g19 false (.fa 0 g5) s21,
  .gp g19 false (.ld false 1 g21) s22,
  .gp g19 false (.fa 1 g5) s23,
  .gp g19 false (.ld false 1 g23) s24,
  .gp g19 false (.fa 2 g5) s25,
  .gp g19 false (.ld false 1 g25) s26,
  .gp g19 false (.call 49 [g20, g22, g24, g26] (G2 22 3 10)) s27,
  .p (.pk g19 (kc (.tc (.sc (.bool true)))) g27) s28,
  .p (.mv g28) s4])
 .ret)))),
 [.tmp g4]⟩
theorem ffEnc22_ok : compF SBEnc 22 = ffEnc22 := by kernel_rfl
noncomputable def ffEnc25 : FF := .t2 ⟨24,
 (.seq (.reg [.p (.bx 11 g0 (G2 25 0 0)) s2,
  .p (.mv (kc (.tc (.sc (.int .i64 0))))) s4,
  .p (.mv (kc (.tc (.sc (.bool false))))) s5])
 (.seq (.reg [.p (.fa 0 g2) s7,
  .p (.ld false 1 g7) s8,
  .p (.call 24 [g8] (G2 25 1 2)) s9,
  .p (.al 5 [(.sc (.int .i64 0)), (.sc (.int .i64 0)), (.sc (.bool false)), (.sc (.bool false)), (.sc (.bool false))]) s6,
  .n (.st 5 g6 g9 (G2 25 1 4))])
 (.seq (.seq (.reg [.p (.fa 0 g6) s10,
  .p (.ld false 1 g10) s11,
  .p (.bin .eql g11 (kc (.tc (.sc (.int .i64 0)))) (G2 25 2 2)) s12])
 (.cond g12 (.seq (.reg [.p (.mv (kc (.tc (.sc (.int .i64 0))))) s4,
  .p (.mv (kc (.tc (.sc (.bool false))))) s5])
 .ret)
 .skip))
 (.seq (.seq (.reg [.p (.fa 4 g6) s13,
  .p (.ld false 1 g13) s14])
 (.cond g14 (.seq (.reg [.p (.fa 10 g2) s15,
  .p (.ld false 1 g15) s16,
  .p (.call 26 [g16] (G2 25 5 2)) s17,
  .p (.mv g1) s18,
  .p (.cv .i64 g18 (G2 25 5 4)) s19,
  .p (.bin .sub g17 g19 (G2 25 5 5)) s20,
  .p (.call 37 [g20] (G2 25 5 6)) s21,
  .p (.mv g21) s4,
  .p (.mv (kc (.tc (.sc (.bool true))))) s5])
 .ret)
 .skip))
 (.seq (.reg [.p (.fa 10 g2) s22,
  .p (.ld false 1 g22) s23,
  .p (.mv g23) s4,
  .p (.mv (kc (.tc (.sc (.bool true))))) s5])
 .ret))))),
 [.tmp g4, .tmp g5]⟩
theorem ffEnc25_ok : compF SBEnc 25 = ffEnc25 := by kernel_rfl
noncomputable def ffEnc26 : FF := .t2 ⟨10,
 (.seq (.reg [.p (.mv (kc (.tc (.sc (.int .i64 0))))) s2])
 (.seq (.reg [.p (.mv g0) s3,
  .p (.bin .rem g3 (kc (.tc (.sc (.int .i64 4294967296)))) (G2 26 1 1)) s4,
  .p (.mv g4) s0])
 (.seq (.seq (.reg [.p (.mv g0) s5,
  .p (.bin .lss g5 (kc (.tc (.sc (.int .i64 0)))) (G2 26 2 1)) s6])
 (.cond g6 (.reg [.p (.mv g0) s7,
  .p (.bin .add g7 (kc (.tc (.sc (.int .i64 4294967296)))) (G2 26 3 1)) s8,
  .p (.mv g8) s0])
 .skip))
 (.seq (.reg [.p (.mv g0) s9,
  .p (.mv g9) s2])
 .ret)))),
 [.tmp g2]⟩
theorem ffEnc26_ok : compF SBEnc 26 = ffEnc26 := by kernel_rfl
noncomputable def ffEnc37 : FF := .t2 ⟨10,
 (.seq (.reg [.p (.mv (kc (.tc (.sc (.int .i64 0))))) s2])
 (.seq (.reg [.p (.mv g0) s3,
  .p (.call 26 [g3] (G2 37 1 1)) s4,
  .p (.mv g4) s0])
 (.seq (.seq (.reg [.p (.mv g0) s5,
  .p (.bin .geq g5 (kc (.tc (.sc (.int .i64 2147483648)))) (G2 37 2 1)) s6])
 (.cond g6 (.reg [.p (.mv g0) s7,
  .p (.bin .sub g7 (kc (.tc (.sc (.int .i64 4294967296)))) (G2 37 3 1)) s8,
  .p (.mv g8) s0])
 .skip))
 (.seq (.reg [.p (.mv g0) s9,
  .p (.mv g9) s2])
 .ret)))),
 [.tmp g2]⟩
theorem ffEnc37_ok : compF SBEnc 37 = ffEnc37 := by kernel_rfl
noncomputable def ffEnc49 : FF := .t2 ⟨62,
 (.seq (.reg [.p (.mv (kc (.tc (.sc (.bool false))))) s8])
 (.seq (.seq (.reg [.p (.mv g1) s12,
  .p (.bin .lss g12 (kc (.tc (.sc (.int .i64 1)))) (G2 49 1 1)) s13,
  .p (.mv g13) s14,
  .gp g14 false (.mv g1) s15,
  .gp g14 false (.bin .gtr g15 (kc (.tc (.sc (.int .i64 32)))) (G2 49 1 4)) s16,
  .p (.pk g14 (kc (.tc (.sc (.bool true)))) g16) s17,
  .p (.mv g17) s18,
  .gp g18 false (.mv g2) s19,
  .gp g18 false (.bin .lss g19 (kc (.tc (.sc (.int .i64 0)))) (G2 49 1 8)) s20,
  .p (.pk g18 (kc (.tc (.sc (.bool true)))) g20) s21,
  .p (.mv g21) s22,
  .gp g22 false (.mv g2) s23,
  .gp g22 false (.bin .gtr g23 (kc (.tc (.sc (.int .i64 8)))) (G2 49 1 12)) s24,
  .p (.pk g22 (kc (.tc (.sc (.bool true)))) g24) s25])
 (.cond g25 (.seq (.reg [.p (.mv (kc (.tc (.sc (.bool false))))) s8])
 .ret)
 .skip))
 (.seq (.seq (.reg [.p (.mv (kc (.tc (.sc (.int .i64 0))))) s9])
 (.block 0 (.loop 4294967296 (.seq (.seq (.reg [.p (.mv g9) s26,
  .p (.mv g2) s27,
  .p (.bin .lss g26 g27 (G2 49 4 2)) s28])
 (.cond g28 .skip
 (.exit 0)))
 (.seq (.block 1 (.seq (.seq (.reg [.p (.mv g0) s31,
  .p (.bin .rem g31 (kc (.tc (.sc (.int .i64 2)))) (G2 49 5 1)) s32,
  .p (.bin .neq g32 (kc (.tc (.sc (.int .i64 0)))) (G2 49 5 2)) s33])
 (.cond g33 (.seq (.reg [.p (.mv (kc (.tc (.sc (.bool false))))) s8])
 .ret)
 .skip))
 (.reg [.p (.mv g0) s34,
  .p (.bin .quo g34 (kc (.tc (.sc (.int .i64 2)))) (G2 49 7 1)) s35,
  .p (.mv g35) s0])))
 (.reg [.p (.mv g9) s29,
  .p (.bin .add g29 (kc (.tc (.sc (.int .i64 1)))) (G2 49 8 1)) s30,
  .p (.mv g30) s9]))))))
 (.seq (.reg [.p (.mv (kc (.tc (.sc (.int .i64 1))))) s10])
 (.seq (.seq (.reg [.p (.mv (kc (.tc (.sc (.int .i64 0))))) s11])
 (.block 2 (.loop 4294967296 (.seq (.seq (.reg [.p (.mv g11) s36,
  .p (.mv g1) s37,
  .p (.bin .lss g36 g37 (G2 49 11 2)) s38])
 (.cond g38 .skip
 (.exit 2)))
 (.seq (.block 3 (.reg [.p (.mv g10) s41,
  .p (.bin .mul (kc (.tc (.sc (.int .i64 2)))) g41 (G2 49 12 1)) s42,
  .p (.mv g42) s10]))
 (.reg [.p (.mv g11) s39,
  .p (.bin .add g39 (kc (.tc (.sc (.int .i64 1)))) (G2 49 13 1)) s40,
  .p (.mv g40) s11]))))))
 (.seq (.seq (.reg [.p (.mv g3) s43])
 (.cond g43 (.seq (.reg [.p (.mv g0) s44,
  .p (.mv g10) s45,
  .p (.bin .quo g45 (kc (.tc (.sc (.int .i64 2)))) (G2 49 15 2)) s46,
  .p (.gen (G2 49 15 3)) s47,
  .p (.bin .geq g44 g47 (G2 49 15 4)) s48,
  .p (.mv g48) s49,
  .gp g49 true (.mv g0) s50,
  .gp g49 true (.mv g10) s51,
  .gp g49 true (.bin .quo g51 (kc (.tc (.sc (.int .i64 2)))) (G2 49 15 8)) s52,
  .gp g49 true (.bin .lss g50 g52 (G2 49 15 9)) s53,
  .p (.pk g49 g53 (kc (.tc (.sc (.bool false))))) s54,
  .p (.mv g54) s8])
 .ret)
 .skip))
 (.seq (.reg [.p (.mv g0) s55,
  .p (.bin .geq g55 (kc (.tc (.sc (.int .i64 0)))) (G2 49 16 1)) s56,
  .p (.mv g56) s57,
  .gp g57 true (.mv g0) s58,
  .gp g57 true (.mv g10) s59,
  .gp g57 true (.bin .lss g58 g59 (G2 49 16 5)) s60,
  .p (.pk g57 g60 (kc (.tc (.sc (.bool false))))) s61,
  .p (.mv g61) s8])
 .ret))))))),
 [.tmp g8]⟩
theorem ffEnc49_ok : compF SBEnc 49 = ffEnc49 := by kernel_rfl
noncomputable def ffEnc29 : FF := .t2 ⟨55,
 (.seq (.reg [.p (.mv (kc (.tc (.sc (.int .u32 0))))) s6])
 (.seq (.reg [.p (.mv (kc (.tc (.sc (.int .u32 0))))) s7])
 (.seq (.seq (.reg [.p (.mv (kc (.tc (.sc (.int .i64 0))))) s8])
 (.block 0 (.loop 4294967296 (.seq (.seq (.reg [.p (.mv g8) s11,
  .p (.bin .lss g11 (kc (.tc (.sc (.int .i64 6)))) (G2 29 3 1)) s12])
 (.cond g12 .skip
 (.exit 0)))
 (.seq (.block 1 (.reg [.p (.mv g7) s15,
  .p (.mv g0) s16,
  .p (.cv .u32 g16 (G2 29 4 2)) s17,
  .p (.mv g8) s18,
  .p (.call 50 [g17, g18] (G2 29 4 4)) s19,
  .p (.mv g8) s20,
  .p (.bin .add (kc (.tc (.sc (.int .i64 26)))) g20 (G2 29 4 6)) s21,
  .p (.call 51 [g21] (G2 29 4 7)) s22,
  .p (.bin .mul g19 g22 (G2 29 4 8)) s23,
  .p (.bin .add g15 g23 (G2 29 4 9)) s24,
  .p (.mv g24) s7]))
 (.reg [.p (.mv g8) s13,
  .p (.bin .add g13 (kc (.tc (.sc (.int .i64 1)))) (G2 29 5 1)) s14,
  .p (.mv g14) s8]))))))
 (.seq (.seq (.reg [.p (.mv (kc (.tc (.sc (.int .i64 0))))) s9])
 (.block 2 (.loop 4294967296 (.seq (.seq (.reg [.p (.mv g9) s25,
  .p (.bin .lss g25 (kc (.tc (.sc (.int .i64 24)))) (G2 29 7 1)) s26])
 (.cond g26 .skip
 (.exit 2)))
 (.seq (.block 3 (.seq (.reg [.p (.mv g9) s29,
  .p (.mv g29) s10])
 (.seq (.seq (.reg [.p (.mv g9) s30,
  .p (.bin .geq g30 (kc (.tc (.sc (.int .i64 14)))) (G2 29 9 1)) s31])
 (.cond g31 (.reg [.p (.mv g9) s32,
  .p (.bin .add g32 (kc (.tc (.sc (.int .i64 2)))) (G2 29 10 1)) s33,
  .p (.mv g33) s10])
 .skip))
 (.reg [.p (.mv g7) s34,
  .p (.mv g1) s35,
  .p (.mv g9) s36,
  .p (.call 50 [g35, g36] (G2 29 11 3)) s37,
  .p (.mv g10) s38,
  .p (.call 51 [g38] (G2 29 11 5)) s39,
  .p (.bin .mul g37 g39 (G2 29 11 6)) s40,
  .p (.bin .add g34 g40 (G2 29 11 7)) s41,
  .p (.mv g41) s7]))))
 (.reg [.p (.mv g9) s27,
  .p (.bin .add g27 (kc (.tc (.sc (.int .i64 1)))) (G2 29 12 1)) s28,
  .p (.mv g28) s9]))))))
 (.seq (.reg [.p (.mv g7) s42,
  .p (.mv g2) s43,
  .p (.cv .u32 g43 (G2 29 13 2)) s44,
  .p (.call 50 [g44, (kc (.tc (.sc (.int .i64 0))))] (G2 29 13 3)) s45,
  .p (.call 51 [(kc (.tc (.sc (.int .i64 14))))] (G2 29 13 4)) s46,
  .p (.bin .mul g45 g46 (G2 29 13 5)) s47,
  .p (.bin .add g42 g47 (G2 29 13 6)) s48,
  .p (.mv g2) s49,
  .p (.cv .u32 g49 (G2 29 13 8)) s50,
  .p (.call 50 [g50, (kc (.tc (.sc (.int .i64 1))))] (G2 29 13 9)) s51,
  .p (.call 51 [(kc (.tc (.sc (.int .i64 15))))] (G2 29 13 10)) s52,
  .p (.bin .mul g51 g52 (G2 29 13 11)) s53,
  .p (.bin .add g48 g53 (G2 29 13 12)) s54,
  .p (.mv g54) s6])
 .ret))))),
 [.tmp g6]⟩
theorem ffEnc29_ok : compF SBEnc 29 = ffEnc29 := by kernel_rfl
noncomputable def ffEnc50 : FF := .t2 ⟨15,
 (.seq (.reg [.p (.mv (kc (.tc (.sc (.int .u32 0))))) s4])
 (.seq (.seq (.reg [.p (.mv (kc (.tc (.sc (.int .i64 0))))) s5])
 (.block 0 (.loop 4294967296 (.seq (.seq (.reg [.p (.mv g5) s6,
  .p (.mv g1) s7,
  .p (.bin .lss g6 g7 (G2 50 2 2)) s8])
 (.cond g8 .skip
 (.exit 0)))
 (.seq (.block 1 (.reg [.p (.mv g0) s11,
  .p (.bin .quo g11 (kc (.tc (.sc (.int .u32 2)))) (G2 50 3 1)) s12,
  .p (.mv g12) s0]))
 (.reg [.p (.mv g5) s9,
  .p (.bin .add g9 (kc (.tc (.sc (.int .i64 1)))) (G2 50 4 1)) s10,
  .p (.mv g10) s5]))))))
 (.seq (.reg [.p (.mv g0) s13,
  .p (.bin .rem g13 (kc (.tc (.sc (.int .u32 2)))) (G2 50 5 1)) s14,
  .p (.mv g14) s4])
 .ret))),
 [.tmp g4]⟩
theorem ffEnc50_ok : compF SBEnc 50 = ffEnc50 := by kernel_rfl
noncomputable def ffEnc51 : FF := .t2 ⟨13,
 (.seq (.reg [.p (.mv (kc (.tc (.sc (.int .u32 0))))) s2])
 (.seq (.reg [.p (.mv (kc (.tc (.sc (.int .u32 1))))) s3])
 (.seq (.seq (.reg [.p (.mv (kc (.tc (.sc (.int .i64 0))))) s4])
 (.block 0 (.loop 4294967296 (.seq (.seq (.reg [.p (.mv g4) s5,
  .p (.mv g0) s6,
  .p (.bin .lss g5 g6 (G2 51 3 2)) s7])
 (.cond g7 .skip
 (.exit 0)))
 (.seq (.block 1 (.reg [.p (.mv g3) s10,
  .p (.bin .mul g10 (kc (.tc (.sc (.int .u32 2)))) (G2 51 4 1)) s11,
  .p (.mv g11) s3]))
 (.reg [.p (.mv g4) s8,
  .p (.bin .add g8 (kc (.tc (.sc (.int .i64 1)))) (G2 51 5 1)) s9,
  .p (.mv g9) s4]))))))
 (.seq (.reg [.p (.mv g3) s12,
  .p (.mv g12) s2])
 .ret)))),
 [.tmp g2]⟩
theorem ffEnc51_ok : compF SBEnc 51 = ffEnc51 := by kernel_rfl
noncomputable def ffEnc9 : FF := .t2 ⟨35,
 (.seq (.reg [.p (.mv (kc (.tc (.sc (.bool false))))) s0])
 (.seq (.reg [.p (.bd [(.tc (.sc (.int .u8 0))), (.tc (.sc (.int .u8 0))), (.tc (.sc (.int .u8 0))), (.tc (.sc (.int .u8 0))), (.tc (.sc (.int .u8 0))), (.tc (.sc (.int .u8 0))), (.tc (.sc (.int .u8 0))), (.tc (.sc (.bool false))), (.tc (.sc (.bool false))), (.tc (.sc (.int .u16 0))), (.tc (.sc (.int .i64 0)))] [(.mk 0 1 (kc (.tc (.sc (.int .u8 2))))), (.mk 1 1 (kc (.tc (.sc (.int .u8 1))))), (.mk 2 1 (kc (.tc (.sc (.int .u8 2))))), (.mk 3 1 (kc (.tc (.sc (.int .u8 3)))))] (G2 9 1 0)) s8,
  .p (.call 7 [g8, (kc (.tc (.sc (.int .u32 0))))] (G2 9 1 1)) s9,
  .p (.mv g9) s7,
  .p (.ex g7 0) s10,
  .p (.ex g7 1) s11,
  .p (.ex g7 2) s12,
  .p (.mv g10) s1,
  .p (.mv g11) s2,
  .p (.mv g12) s3])
 (.seq (.reg [.p (.bd [(.tc (.sc (.int .u8 0))), (.tc (.sc (.int .u8 0))), (.tc (.sc (.int .u8 0))), (.tc (.sc (.int .u8 0))), (.tc (.sc (.int .u8 0))), (.tc (.sc (.int .u8 0))), (.tc (.sc (.int .u8 0))), (.tc (.sc (.bool false))), (.tc (.sc (.bool false))), (.tc (.sc (.int .u16 0))), (.tc (.sc (.int .i64 0)))] [(.mk 0 1 (kc (.tc (.sc (.int .u8 8))))), (.mk 1 1 (kc (.tc (.sc (.int .u8 1))))), (.mk 10 1 (kc (.tc (.sc (.int .i64 305419896))))), (.mk 8 1 (kc (.tc (.sc (.bool true)))))] (G2 9 2 0)) s14,
  .p (.call 7 [g14, (kc (.tc (.sc (.int .u32 0))))] (G2 9 2 1)) s15,
  .p (.mv g15) s13,
  .p (.ex g13 0) s16,
  .p (.ex g13 1) s17,
  .p (.ex g13 2) s18,
  .p (.mv g16) s4,
  .p (.mv g17) s5,
  .p (.mv g18) s6])
 (.seq (.reg [.p (.mv g1) s19,
  .p (.bin .eql g19 (kc (.tc (.sc (.int .u32 134284336)))) (G2 9 3 1)) s20,
  .p (.mv g20) s21,
  .gp g21 true (.mv g3) s22,
  .p (.pk g21 g22 (kc (.tc (.sc (.bool false))))) s23,
  .p (.mv g23) s24,
  .gp g24 true (.mv g4) s25,
  .gp g24 true (.bin .eql g25 (kc (.tc (.sc (.int .u32 536936568)))) (G2 9 3 7)) s26,
  .p (.pk g24 g26 (kc (.tc (.sc (.bool false))))) s27,
  .p (.mv g27) s28,
  .gp g28 true (.mv g5) s29,
  .gp g28 true (.bin .eql g29 (kc (.tc (.sc (.int .u32 1193046)))) (G2 9 3 11)) s30,
  .p (.pk g28 g30 (kc (.tc (.sc (.bool false))))) s31,
  .p (.mv g31) s32,
  .gp g32 true (.mv g6) s33,
  .p (.pk g32 g33 (kc (.tc (.sc (.bool false))))) s34,
  .p (.mv g34) s0])
 .ret)))),
 [.tmp g0]⟩
theorem ffEnc9_ok : compF SBEnc 9 = ffEnc9 := by kernel_rfl
noncomputable def ffEnc4 : FF := .t3 ⟨72,
 (.seq (.reg [.p (.bx 11 (h0 g0) (G3 4 0 0)) (i0 s3),
  .p (.mv (kc (.tc (.sc (.bool false))))) (i0 s6)])
 (.seq (.reg [.p (.mv (h0 g1)) (i0 s18),
  .p (.mv (h0 g1)) (i0 s19),
  .p (.bin .rem (h0 g19) (kc (.tc (.sc (.int .u32 4)))) (G3 4 1 2)) (i0 s20),
  .p (.bin .sub (h0 g18) (h0 g20) (G3 4 1 3)) (i0 s21),
  .p (.mv (h0 g21)) (i0 s7)])
 (.seq (.reg [.p (.mv (h0 g2)) (i0 s22),
  .p (.mv (h0 g2)) (i0 s23),
  .p (.bin .rem (h0 g23) (kc (.tc (.sc (.int .u32 4)))) (G3 4 2 2)) (i0 s24),
  .p (.bin .sub (h0 g22) (h0 g24) (G3 4 2 3)) (i0 s25),
  .p (.mv (h0 g25)) (i0 s8)])
 (.seq (.reg [.p (.ld true 11 (h0 g3)) (i0 s27),
  .p (.mv (h0 g7)) (i0 s28),
  .p (.call 7 [(h0 g27), (h0 g28)] (G3 4 3 2)) (i0 s29),
  .p (.mv (h0 g29)) (i0 s26),
  .p (.ex (h0 g26) 0) (i0 s30),
  .p (.ex (h0 g26) 1) (i0 s31),
  .p (.ex (h0 g26) 2) (i0 s32),
  .p (.mv (h0 g30)) (i0 s9),
  .p (.mv (h0 g31)) (i0 s10),
  .p (.mv (h0 g32)) (i0 s11)])
 (.seq (.reg [.p (.ld true 11 (h0 g3)) (i0 s33),
  .p (.al 11 [(.sc (.int .u8 0)), (.sc (.int .u8 0)), (.sc (.int .u8 0)), (.sc (.int .u8 0)), (.sc (.int .u8 0)), (.sc (.int .u8 0)), (.sc (.int .u8 0)), (.sc (.bool false)), (.sc (.bool false)), (.sc (.int .u16 0)), (.sc (.int .i64 0))]) (i0 s12),
  .n (.st 11 (h0 g12) (h0 g33) (G3 4 4 2))])
 (.seq (.reg [.p (.ld true 11 (h0 g3)) (i0 s35),
  .p (.call 10 [(h0 g35)] (G3 4 5 1)) (i0 s36),
  .p (.mv (h0 g36)) (i0 s34),
  .p (.ex (h0 g34) 0) (i0 s37),
  .p (.ex (h0 g34) 1) (i0 s38),
  .p (.mv (h0 g37)) (i0 s13),
  .p (.mv (h0 g38)) (i0 s14)])
 (.seq (.seq (.reg [.p (.mv (h0 g14)) (i0 s39)])
 (.cond (h0 g39) (.reg [.p (.fa 10 (h0 g3)) (i0 s40),
  .p (.ld false 1 (h0 g40)) (i0 s41),
  .p (.cv .u32 (h0 g41) (G3 4 7 2)) (i0 s42),
  .p (.mv (h0 g8)) (i0 s43),
  .p (.bin .add (h0 g42) (h0 g43) (G3 4 7 4)) (i0 s44),
  .p (.cv .i64 (h0 g44) (G3 4 7 5)) (i0 s45),
  .p (.fa 10 (h0 g12)) (i0 s46),
  .n (.st 1 (h0 g46) (h0 g45) (G3 4 7 7))])
 .skip))
 (.seq (.reg [.p (.ld true 11 (h0 g12)) (i0 s48),
  .p (.mv (h0 g7)) (i0 s49),
  .p (.mv (h0 g8)) (i0 s50),
  .p (.bin .add (h0 g49) (h0 g50) (G3 4 8 3)) (i0 s51),
  .p (.call 7 [(h0 g48), (h0 g51)] (G3 4 8 4)) (i0 s52),
  .p (.mv (h0 g52)) (i0 s47),
  .p (.ex (h0 g47) 0) (i0 s53),
  .p (.ex (h0 g47) 1) (i0 s54),
  .p (.ex (h0 g47) 2) (i0 s55),
  .p (.mv (h0 g53)) (i0 s15),
  .p (.mv (h0 g54)) (i0 s16),
  .p (.mv (h0 g55)) (i0 s17)])
 (.seq (.reg [.p (.mv (h0 g9)) (i0 s56),
  .p (.mv (h0 g15)) (i0 s57),
  .p (.bin .eql (h0 g56) (h0 g57) (G3 4 9 2)) (i0 s58),
  .p (.mv (h0 g58)) (i0 s59),
  .gp (h0 g59) true (.mv (h0 g10)) (i0 s60),
  .gp (h0 g59) true (.mv (h0 g16)) (i0 s61),
  .gp (h0 g59) true (.bin .eql (h0 g60) (h0 g61) (G3 4 9 6)) (i0 s62),
  .p (.pk (h0 g59) (h0 g62) (kc (.tc (.sc (.bool false))))) (i0 s63),
  .p (.mv (h0 g63)) (i1 s0),
  .gp (h1 g0) true (.mv (h0 g11)) (i1 s1),
  .gp (h1 g0) true (.mv (h0 g17)) (i1 s2),
  .gp (h1 g0) true (.bin .eql (h1 g1) (h1 g2) (G3 4 9 11)) (i1 s3),
  .p (.pk (h1 g0) (h1 g3) (kc (.tc (.sc (.bool false))))) (i1 s4),
  .p (.mv (h1 g4)) (i1 s5),
  .gp (h1 g5) true (.call 9 [] (G3 4 9 14)) (i1 s6),
  .p (.pk (h1 g5) (h1 g6) (kc (.tc (.sc (.bool false))))) (i1 s7),
  .p (.mv (h1 g7)) (i0 s6)])
 .ret))))))))),
 [.tmp (h0 g6)]⟩
theorem ffEnc4_ok : compF SBEnc 4 = ffEnc4 := by kernel_rfl
noncomputable def ffEnc10 : FF := .t2 ⟨15,
 (.seq (.reg [.p (.bx 11 g0 (G2 10 0 0)) s1,
  .p (.mv (kc (.tc (.sc (.int .u32 0))))) s2,
  .p (.mv (kc (.tc (.sc (.bool false))))) s3])
 (.seq (.seq (.reg [.p (.ld true 11 g1) s4,
  .p (.call 13 [g4] (G2 10 1 1)) s5,
  .p (.nt g5 (G2 10 1 2)) s6,
  .p (.mv g6) s7,
  .gp g7 false (.ld true 11 g1) s8,
  .gp g7 false (.call 30 [g8, (kc (.tc (.sc (.int .u8 10))))] (G2 10 1 5)) s9,
  .gp g7 false (.nt g9 (G2 10 1 6)) s10,
  .p (.pk g7 (kc (.tc (.sc (.bool true)))) g10) s11])
 (.cond g11 (.seq (.reg [.p (.mv (kc (.tc (.sc (.int .u32 0))))) s2,
  .p (.mv (kc (.tc (.sc (.bool false))))) s3])
 .ret)
 .skip))
 (.seq (.reg [.p (.fa 10 g1) s12,
  .p (.ld false 1 g12) s13,
  .p (.cv .u32 g13 (G2 10 3 2)) s14,
  .p (.mv g14) s2,
  .p (.mv (kc (.tc (.sc (.bool true))))) s3])
 .ret))),
 [.tmp g2, .tmp g3]⟩
theorem ffEnc10_ok : compF SBEnc 10 = ffEnc10 := by kernel_rfl
noncomputable def ffEnc5 : FF := .t2 ⟨42,
 (.seq (.reg [.p (.mv (kc (.tc (.sc (.bool false))))) s8])
 (.seq (.seq (.reg [.p (.mv g2) s13,
  .p (.nt g13 (G2 5 1 1)) s14])
 (.cond g14 (.reg [.p (.mv (kc (.tc (.sc (.int .u32 0))))) s1])
 .skip))
 (.seq (.reg [.p (.mv g0) s16,
  .p (.mv g1) s17,
  .p (.mv g2) s18,
  .p (.mv g3) s19,
  .p (.call 11 [g16, g17, g18, g19] (G2 5 3 4)) s20,
  .p (.mv g20) s15,
  .p (.ex g15 0) s21,
  .p (.ex g15 1) s22,
  .p (.al 11 [(.sc (.int .u8 0)), (.sc (.int .u8 0)), (.sc (.int .u8 0)), (.sc (.int .u8 0)), (.sc (.int .u8 0)), (.sc (.int .u8 0)), (.sc (.int .u8 0)), (.sc (.bool false)), (.sc (.bool false)), (.sc (.int .u16 0)), (.sc (.int .i64 0))]) s9,
  .n (.st 11 g9 g21 (G2 5 3 9)),
  .p (.mv g22) s10])
 (.seq (.reg [.p (.mv g0) s24,
  .p (.mv g1) s25,
  .p (.mv g2) s26,
  .p (.mv g3) s27,
  .p (.call 12 [g24, g25, g26, g27] (G2 5 4 4)) s28,
  .p (.mv g28) s23,
  .p (.ex g23 0) s29,
  .p (.ex g23 1) s30,
  .p (.al 11 [(.sc (.int .u8 0)), (.sc (.int .u8 0)), (.sc (.int .u8 0)), (.sc (.int .u8 0)), (.sc (.int .u8 0)), (.sc (.int .u8 0)), (.sc (.int .u8 0)), (.sc (.bool false)), (.sc (.bool false)), (.sc (.int .u16 0)), (.sc (.int .i64 0))]) s11,
  .n (.st 11 g11 g29 (G2 5 4 9)),
  .p (.mv g30) s12])
 (.seq (.reg [.p (.ld true 11 g9) s31,
  .p (.ld true 11 g11) s32,
  .p (.eqs .eql [(.mk 0 .int), (.mk 1 .int), (.mk 2 .int), (.mk 3 .int), (.mk 4 .int), (.mk 5 .int), (.mk 6 .int), (.mk 7 .bool), (.mk 8 .bool), (.mk 9 .int), (.mk 10 .int)] g31 g32 (G2 5 5 2)) s33,
  .p (.mv g33) s34,
  .gp g34 true (.mv g10) s35,
  .gp g34 true (.mv g12) s36,
  .gp g34 true (.bin .eql g35 g36 (G2 5 5 6)) s37,
  .p (.pk g34 g37 (kc (.tc (.sc (.bool false))))) s38,
  .p (.mv g38) s39,
  .gp g39 true (.call 9 [] (G2 5 5 9)) s40,
  .p (.pk g39 g40 (kc (.tc (.sc (.bool false))))) s41,
  .p (.mv g41) s8])
 .ret))))),
 [.tmp g8]⟩
theorem ffEnc5_ok : compF SBEnc 5 = ffEnc5 := by kernel_rfl
noncomputable def ffEnc11 : FF := .t3 ⟨144,
 (.seq (.reg [.p (.al 11 [(.sc (.int .u8 0)), (.sc (.int .u8 0)), (.sc (.int .u8 0)), (.sc (.int .u8 0)), (.sc (.int .u8 0)), (.sc (.int .u8 0)), (.sc (.int .u8 0)), (.sc (.bool false)), (.sc (.bool false)), (.sc (.int .u16 0)), (.sc (.int .i64 0))]) (i0 s8),
  .p (.mv (kc (.tc (.sc (.bool false))))) (i0 s9)])
 (.seq (.reg [.p (.mv (h0 g0)) (i0 s24),
  .p (.call 31 [(h0 g24)] (G3 11 1 1)) (i0 s25),
  .p (.mv (h0 g25)) (i0 s23),
  .p (.ex (h0 g23) 0) (i0 s26),
  .p (.ex (h0 g23) 1) (i0 s27),
  .p (.ex (h0 g23) 2) (i0 s28),
  .p (.mv (h0 g26)) (i0 s10),
  .p (.mv (h0 g27)) (i0 s11),
  .p (.mv (h0 g28)) (i0 s12)])
 (.seq (.reg [.p (.mv (h0 g10)) (i0 s30),
  .p (.call 15 [(h0 g30)] (G3 11 2 1)) (i0 s31),
  .p (.mv (h0 g31)) (i0 s29),
  .p (.ex (h0 g29) 0) (i0 s32),
  .p (.ex (h0 g29) 1) (i0 s33),
  .p (.al 5 [(.sc (.int .u8 0)), (.sc (.string ⟨#[]⟩)), (.sc (.int .u8 0)), (.sc (.int .u8 0)), (.sc (.slice none 0 0))]) (i0 s13),
  .n (.st 5 (h0 g13) (h0 g32) (G3 11 2 6)),
  .p (.mv (h0 g33)) (i0 s14)])
 (.seq (.seq (.reg [.p (.mv (h0 g14)) (i0 s34),
  .p (.nt (h0 g34) (G3 11 3 1)) (i0 s35),
  .p (.mv (h0 g35)) (i0 s36),
  .gp (h0 g36) false (.mv (h0 g2)) (i0 s37),
  .gp (h0 g36) false (.mv (h0 g37)) (i0 s38),
  .gp (h0 g38) true (.mv (h0 g10)) (i0 s39),
  .gp (h0 g38) true (.call 32 [(h0 g39)] (G3 11 3 6)) (i0 s40),
  .gp (h0 g38) true (.nt (h0 g40) (G3 11 3 7)) (i0 s41),
  .gp (h0 g36) false (.pk (h0 g38) (h0 g41) (kc (.tc (.sc (.bool false))))) (i0 s42),
  .p (.pk (h0 g36) (kc (.tc (.sc (.bool true)))) (h0 g42)) (i0 s43),
  .p (.mv (h0 g43)) (i0 s44),
  .gp (h0 g44) false (.mv (h0 g1)) (i0 s45),
  .gp (h0 g44) false (.bin .shr (h0 g45) (kc (.tc (.sc (.int .u64 24)))) (G3 11 3 12)) (i0 s46),
  .gp (h0 g44) false (.bin .neq (h0 g46) (kc (.tc (.sc (.int .u32 0)))) (G3 11 3 13)) (i0 s47),
  .p (.pk (h0 g44) (kc (.tc (.sc (.bool true)))) (h0 g47)) (i0 s48)])
 (.cond (h0 g48) (.seq (.reg [.p (.bd [(.tc (.sc (.int .u8 0))), (.tc (.sc (.int .u8 0))), (.tc (.sc (.int .u8 0))), (.tc (.sc (.int .u8 0))), (.tc (.sc (.int .u8 0))), (.tc (.sc (.int .u8 0))), (.tc (.sc (.int .u8 0))), (.tc (.sc (.bool false))), (.tc (.sc (.bool false))), (.tc (.sc (.int .u16 0))), (.tc (.sc (.int .i64 0)))] [] (G3 11 4 0)) (i0 s49),
  .n (.st 11 (h0 g8) (h0 g49) (G3 11 4 1)),
  .p (.mv (kc (.tc (.sc (.bool false))))) (i0 s9)])
 .ret)
 .skip))
 (.seq (.reg [.p (.mv (h0 g10)) (i0 s50),
  .p (.mv (h0 g2)) (i0 s51),
  .p (.bd [(.tc (.sc (.int .u8 0))), (.tc (.sc (.int .u8 0))), (.tc (.sc (.int .u8 0))), (.tc (.sc (.int .u8 0))), (.tc (.sc (.int .u8 0))), (.tc (.sc (.int .u8 0))), (.tc (.sc (.int .u8 0))), (.tc (.sc (.bool false))), (.tc (.sc (.bool false))), (.tc (.sc (.int .u16 0))), (.tc (.sc (.int .i64 0)))] [(.mk 0 1 (h0 g50)), (.mk 8 1 (h0 g51))] (G3 11 5 2)) (i0 s52),
  .p (.al 11 [(.sc (.int .u8 0)), (.sc (.int .u8 0)), (.sc (.int .u8 0)), (.sc (.int .u8 0)), (.sc (.int .u8 0)), (.sc (.int .u8 0)), (.sc (.int .u8 0)), (.sc (.bool false)), (.sc (.bool false)), (.sc (.int .u16 0)), (.sc (.int .i64 0))]) (i0 s15),
  .n (.st 11 (h0 g15) (h0 g52) (G3 11 5 4))])
 (.seq (.reg [.p (.mv (h0 g11)) (i0 s53),
  .p (.mv (h0 g53)) (i0 s16)])
 (.seq (.seq (.reg [.p (.fa 4 (h0 g13)) (i0 s54),
  .p (.ld false 1 (h0 g54)) (i0 s55),
  .p (.len (h0 g55) (G3 11 7 2)) (i0 s56),
  .p (.mv (kc (.tc (.sc (.int .i64 0))))) (i0 s57)])
 (.block 0 (.loop 4294967296 (.seq (.reg [.p (.bin .lss (h0 g57) (h0 g56) (G3 11 8 0)) (i0 s58)])
 (.seq (.cond (h0 g58) .skip
 (.exit 0))
 (.seq (.block 1 (.seq (.reg [.p (.ia 5 (h0 g55) (h0 g57) (G3 11 9 0)) (i0 s59),
  .p (.ld true 5 (h0 g59)) (i0 s60),
  .p (.al 5 [(.sc (.int .u8 0)), (.sc (.int .i64 0)), (.sc (.int .i64 0)), (.sc (.bool false)), (.sc (.bool false))]) (i0 s18),
  .n (.st 5 (h0 g18) (h0 g60) (G3 11 9 3))])
 (.seq (.reg [.p (.mv (h0 g10)) (i0 s62),
  .p (.fa 0 (h0 g18)) (i0 s63),
  .p (.ld false 1 (h0 g63)) (i1 s0),
  .p (.call 16 [(h0 g62), (h1 g0)] (G3 11 10 3)) (i1 s1),
  .p (.mv (h1 g1)) (i0 s61),
  .p (.ex (h0 g61) 0) (i1 s2),
  .p (.ex (h0 g61) 1) (i1 s3),
  .p (.ex (h0 g61) 2) (i1 s4),
  .p (.al 5 [(.sc (.int .u8 0)), (.sc (.int .i64 0)), (.sc (.int .i64 0)), (.sc (.bool false)), (.sc (.bool false))]) (i0 s19),
  .n (.st 5 (h0 g19) (h1 g2) (G3 11 10 9)),
  .p (.mv (h1 g3)) (i0 s20),
  .p (.mv (h1 g4)) (i0 s21)])
 (.seq (.reg [.p (.mv (h0 g11)) (i1 s5),
  .p (.mv (h0 g20)) (i1 s6),
  .p (.fa 1 (h0 g18)) (i1 s7),
  .p (.ld false 1 (h1 g7)) (i1 s8),
  .p (.call 33 [(h1 g5), (h1 g6), (h1 g8)] (G3 11 11 4)) (i1 s9),
  .p (.mv (h1 g9)) (i0 s22)])
 (.seq (.reg [.p (.mv (h0 g16)) (i1 s10),
  .p (.mv (h0 g20)) (i1 s11),
  .p (.fa 1 (h0 g18)) (i1 s12),
  .p (.ld false 1 (h1 g12)) (i1 s13),
  .p (.call 19 [(h1 g10), (h1 g11), (h1 g13), (kc (.tc (.sc (.int .u32 0))))] (G3 11 12 4)) (i1 s14),
  .p (.mv (h1 g14)) (i0 s16)])
 (.seq (.reg [.p (.fa 0 (h0 g18)) (i1 s15),
  .p (.ld false 1 (h1 g15)) (i1 s16)])
 (.block 2 (.seq (.reg [.p (.bin .eql (h1 g16) (kc (.tc (.sc (.int .u8 1)))) (G3 11 14 0)) (i1 s30),
  .p (.mv (h1 g30)) (i1 s29)])
 (.cond (h1 g29) (.reg [.p (.mv (h0 g22)) (i1 s31),
  .p (.cv .u8 (h1 g31) (G3 11 15 1)) (i1 s32),
  .p (.fa 6 (h0 g15)) (i1 s33),
  .n (.st 1 (h1 g33) (h1 g32) (G3 11 15 3))])
 (.seq (.reg [.p (.bin .eql (h1 g16) (kc (.tc (.sc (.int .u8 2)))) (G3 11 16 0)) (i1 s35),
  .p (.mv (h1 g35)) (i1 s34)])
 (.cond (h1 g34) (.reg [.p (.mv (h0 g22)) (i1 s36),
  .p (.cv .u8 (h1 g36) (G3 11 17 1)) (i1 s37),
  .p (.fa 5 (h0 g15)) (i1 s38),
  .n (.st 1 (h1 g38) (h1 g37) (G3 11 17 3))])
 (.seq (.seq (.reg [.p (.bin .eql (h1 g16) (kc (.tc (.sc (.int .u8 3)))) (G3 11 18 0)) (i1 s40),
  .p (.mv (h1 g40)) (i1 s39)])
 (.cond (h1 g39) .skip
 (.reg [.p (.bin .eql (h1 g16) (kc (.tc (.sc (.int .u8 4)))) (G3 11 19 0)) (i1 s41),
  .p (.mv (h1 g41)) (i1 s39)])))
 (.cond (h1 g39) (.reg [.p (.mv (h0 g22)) (i1 s42),
  .p (.cv .u8 (h1 g42) (G3 11 20 1)) (i1 s43),
  .p (.fa 1 (h0 g15)) (i1 s44),
  .n (.st 1 (h1 g44) (h1 g43) (G3 11 20 3))])
 (.seq (.reg [.p (.bin .eql (h1 g16) (kc (.tc (.sc (.int .u8 5)))) (G3 11 21 0)) (i1 s46),
  .p (.mv (h1 g46)) (i1 s45)])
 (.cond (h1 g45) (.reg [.p (.mv (h0 g22)) (i1 s47),
  .p (.cv .u8 (h1 g47) (G3 11 22 1)) (i1 s48),
  .p (.fa 2 (h0 g15)) (i1 s49),
  .n (.st 1 (h1 g49) (h1 g48) (G3 11 22 3))])
 (.seq (.reg [.p (.bin .eql (h1 g16) (kc (.tc (.sc (.int .u8 6)))) (G3 11 23 0)) (i1 s51),
  .p (.mv (h1 g51)) (i1 s50)])
 (.cond (h1 g50) (.reg [.p (.mv (h0 g22)) (i1 s52),
  .p (.cv .u8 (h1 g52) (G3 11 24 1)) (i1 s53),
  .p (.fa 3 (h0 g15)) (i1 s54),
  .n (.st 1 (h1 g54) (h1 g53) (G3 11 24 3))])
 (.seq (.reg [.p (.bin .eql (h1 g16) (kc (.tc (.sc (.int .u8 7)))) (G3 11 25 0)) (i1 s56),
  .p (.mv (h1 g56)) (i1 s55)])
 (.cond (h1 g55) (.reg [.p (.mv (h0 g22)) (i1 s57),
  .p (.cv .u8 (h1 g57) (G3 11 26 1)) (i1 s58),
  .p (.fa 4 (h0 g15)) (i1 s59),
  .n (.st 1 (h1 g59) (h1 g58) (G3 11 26 3))])
 (.seq (.reg [.p (.bin .eql (h1 g16) (kc (.tc (.sc (.int .u8 8)))) (G3 11 27 0)) (i1 s61),
  .p (.mv (h1 g61)) (i1 s60)])
 (.cond (h1 g60) (.reg [.p (.mv (h0 g22)) (i1 s62),
  .p (.bin .eql (h1 g62) (kc (.tc (.sc (.int .u32 1)))) (G3 11 28 1)) (i1 s63),
  .p (.fa 7 (h0 g15)) (i2 s0),
  .n (.st 1 (h2 g0) (h1 g63) (G3 11 28 3))])
 (.seq (.reg [.p (.bin .eql (h1 g16) (kc (.tc (.sc (.int .u8 11)))) (G3 11 29 0)) (i2 s2),
  .p (.mv (h2 g2)) (i2 s1)])
 (.cond (h2 g1) (.reg [.p (.mv (h0 g22)) (i2 s3),
  .p (.cv .u16 (h2 g3) (G3 11 30 1)) (i2 s4),
  .p (.fa 9 (h0 g15)) (i2 s5),
  .n (.st 1 (h2 g5) (h2 g4) (G3 11 30 3))])
 (.seq (.reg [.p (.ld true 11 (h0 g15)) (i1 s18),
  .p (.ld true 5 (h0 g18)) (i1 s19),
  .p (.mv (h0 g22)) (i1 s20),
  .p (.mv (h0 g1)) (i1 s21),
  .p (.mv (h0 g3)) (i1 s22),
  .p (.call 34 [(h1 g18), (h1 g19), (h1 g20), (h1 g21), (h1 g22)] (G3 11 31 5)) (i1 s23),
  .p (.mv (h1 g23)) (i1 s17),
  .p (.ex (h1 g17) 0) (i1 s24),
  .p (.ex (h1 g17) 1) (i1 s25),
  .n (.st 11 (h0 g15) (h1 g24) (G3 11 31 9)),
  .p (.mv (h1 g25)) (i0 s14)])
 (.seq (.reg [.p (.mv (h0 g14)) (i1 s26),
  .p (.nt (h1 g26) (G3 11 32 1)) (i1 s27)])
 (.cond (h1 g27) (.seq (.reg [.p (.bd [(.tc (.sc (.int .u8 0))), (.tc (.sc (.int .u8 0))), (.tc (.sc (.int .u8 0))), (.tc (.sc (.int .u8 0))), (.tc (.sc (.int .u8 0))), (.tc (.sc (.int .u8 0))), (.tc (.sc (.int .u8 0))), (.tc (.sc (.bool false))), (.tc (.sc (.bool false))), (.tc (.sc (.int .u16 0))), (.tc (.sc (.int .i64 0)))] [] (G3 11 33 0)) (i1 s28),
  .n (.st 11 (h0 g8) (h1 g28) (G3 11 33 1)),
  .p (.mv (kc (.tc (.sc (.bool false))))) (i0 s9)])
 .ret)
 .skip))))))))))))))))))))))))))
 (.reg [.p (.bin .add (h0 g57) (kc (.tc (.sc (.int .i64 1)))) (G3 11 34 0)) (i2 s6),
  .p (.mv (h2 g6)) (i0 s57)])))))))
 (.seq (.seq (.reg [.p (.mv (h0 g16)) (i2 s7),
  .p (.bin .neq (h2 g7) (kc (.tc (.sc (.int .u32 0)))) (G3 11 35 1)) (i2 s8),
  .p (.mv (h2 g8)) (i2 s9),
  .gp (h2 g9) false (.ld true 11 (h0 g15)) (i2 s10),
  .gp (h2 g9) false (.call 13 [(h2 g10)] (G3 11 35 4)) (i2 s11),
  .gp (h2 g9) false (.nt (h2 g11) (G3 11 35 5)) (i2 s12),
  .p (.pk (h2 g9) (kc (.tc (.sc (.bool true)))) (h2 g12)) (i2 s13)])
 (.cond (h2 g13) (.seq (.reg [.p (.bd [(.tc (.sc (.int .u8 0))), (.tc (.sc (.int .u8 0))), (.tc (.sc (.int .u8 0))), (.tc (.sc (.int .u8 0))), (.tc (.sc (.int .u8 0))), (.tc (.sc (.int .u8 0))), (.tc (.sc (.int .u8 0))), (.tc (.sc (.bool false))), (.tc (.sc (.bool false))), (.tc (.sc (.int .u16 0))), (.tc (.sc (.int .i64 0)))] [] (G3 11 36 0)) (i2 s14),
  .n (.st 11 (h0 g8) (h2 g14) (G3 11 36 1)),
  .p (.mv (kc (.tc (.sc (.bool false))))) (i0 s9)])
 .ret)
 .skip))
 (.seq (.reg [.p (.ld true 11 (h0 g15)) (i2 s15),
  .n (.st 11 (h0 g8) (h2 g15) (G3 11 37 1)),
  .p (.mv (kc (.tc (.sc (.bool true))))) (i0 s9)])
 .ret))))))))),
 [.cell (h0 g8) true 11, .tmp (h0 g9)]⟩
theorem ffEnc11_ok : compF SBEnc 11 = ffEnc11 := by kernel_rfl
noncomputable def ffEnc31 : FF := .t2 ⟨27,
 (.seq (.reg [.p (.mv (kc (.tc (.sc (.int .u8 0))))) s2,
  .p (.mv (kc (.tc (.sc (.int .u32 0))))) s3,
  .p (.mv (kc (.tc (.sc (.int .u8 0))))) s4])
 (.seq (.regD [0, 1, 0, 7, 0, 16, 0, 127, 0, 256, 768, 2047, 4095, 8191] [.no, (.rd (.ld true 2 g5) g6), .no, .no, .no, (.rd (.ld true 2 g9) g10), .no, .no, .no, .no, (.rd (.ld false 1 g14) g15), .no, .no, .no] [.mk .none .yes (.gen (G2 31 1 0)) (.gen (G2 31 1 0)) (some s5),
  .mk .none .yes (.ld true 2 g5) (.ld true 2 g5) (some s6),
  .mk .none .yes (.mv g0) (.mv g0) (some s7),
  .mk .none (.dyn 52 [g6, g7]) (.call 52 [g6, g7] (G2 31 1 3)) (.call 52 [g6, g7] (G2 31 1 3)) (some s8),
  .mk .none .yes (.gen (G2 31 1 4)) (.gen (G2 31 1 4)) (some s9),
  .mk .none .yes (.ld true 2 g9) (.ld true 2 g9) (some s10),
  .mk .none .yes (.mv g0) (.mv g0) (some s11),
  .mk .none (.dyn 52 [g10, g11]) (.call 52 [g10, g11] (G2 31 1 7)) (.call 52 [g10, g11] (G2 31 1 7)) (some s12),
  .mk .none .yes (.gen (G2 31 1 8)) (.gen (G2 31 1 8)) (some s13),
  .mk .none .yes (.fa 1 g13) (.fa 1 g13) (some s14),
  .mk .none .yes (.ld false 1 g14) (.ld false 1 g14) (some s15),
  .mk .none .yes (.bin .shl g12 g15 (G2 31 1 11)) (.bin .shl g12 g15 (G2 31 1 11)) (some s16),
  .mk .none .yes (.bin .or g8 g16 (G2 31 1 12)) (.bin .or g8 g16 (G2 31 1 12)) (some s17),
  .mk .none .yes (.mv g17) (.mv g17) (some s3)])
 (.seq (.regD [0, 0, 3, 7, 0, 0, 0, 103, 231, 239, 767, 2047] [(.rd (.ld true 2 (kc (.vptr gwEnc0 [glEnc0] 0 0))) g18), .no, .no, (.rd (.cv .u8 g20 (G2 31 2 3)) g21), .no, (.rd (.ld true 2 (kc (.vptr gwEnc2 [glEnc2] 0 0))) g23), .no, .no, (.rd (.cv .u8 g25 (G2 31 2 8)) g26), .no, .no, .no] [.mk .none .yes (.ld true 2 (kc (.vptr gwEnc0 [glEnc0] 0 0))) (.ld true 2 (kc (.vptr gwEnc0 [glEnc0] 0 0))) (some s18),
  .mk .none .yes (.mv g0) (.mv g0) (some s19),
  .mk .none (.dyn 52 [g18, g19]) (.call 52 [g18, g19] (G2 31 2 2)) (.call 52 [g18, g19] (G2 31 2 2)) (some s20),
  .mk .none .yes (.cv .u8 g20 (G2 31 2 3)) (.cv .u8 g20 (G2 31 2 3)) (some s21),
  .mk .none .yes (.mv g3) (.mv g3) (some s22),
  .mk .none .yes (.ld true 2 (kc (.vptr gwEnc2 [glEnc2] 0 0))) (.ld true 2 (kc (.vptr gwEnc2 [glEnc2] 0 0))) (some s23),
  .mk .none .yes (.mv g0) (.mv g0) (some s24),
  .mk .none (.dyn 52 [g23, g24]) (.call 52 [g23, g24] (G2 31 2 7)) (.call 52 [g23, g24] (G2 31 2 7)) (some s25),
  .mk .none .yes (.cv .u8 g25 (G2 31 2 8)) (.cv .u8 g25 (G2 31 2 8)) (some s26),
  .mk .none .yes (.mv g21) (.mv g21) (some s2),
  .mk .none .yes (.mv g22) (.mv g22) (some s3),
  .mk .none .yes (.mv g26) (.mv g26) (some s4)])
 .ret))),
 [.tmp g2, .tmp g3, .tmp g4]⟩
theorem ffEnc31_ok : compF SBEnc 31 = ffEnc31 := by kernel_rfl
noncomputable def ffEnc32 : FF := .t2 ⟨15,
 (.seq (.reg [.p (.mv (kc (.tc (.sc (.bool false))))) s2])
 (.seq (.reg [.p (.mv g0) s6,
  .p (.call 41 [g6] (G2 32 1 1)) s7,
  .p (.mv g7) s5,
  .p (.ex g5 0) s8,
  .p (.ex g5 1) s9,
  .p (.al 5 [(.sc (.int .u8 0)), (.sc (.int .i64 0)), (.sc (.int .i64 0)), (.sc (.bool false)), (.sc (.bool false))]) s3,
  .n (.st 5 g3 g8 (G2 32 1 6)),
  .p (.mv g9) s4])
 (.seq (.reg [.p (.mv g4) s10,
  .p (.mv g10) s11,
  .gp g11 true (.fa 4 g3) s12,
  .gp g11 true (.ld false 1 g12) s13,
  .p (.pk g11 g13 (kc (.tc (.sc (.bool false))))) s14,
  .p (.mv g14) s2])
 .ret))),
 [.tmp g2]⟩
theorem ffEnc32_ok : compF SBEnc 32 = ffEnc32 := by kernel_rfl
noncomputable def ffEnc34 : FF := .t2 ⟨59,
 (.seq (.reg [.p (.bx 11 g0 (G2 34 0 0)) s5,
  .p (.bx 5 g1 (G2 34 0 1)) s6,
  .p (.al 11 [(.sc (.int .u8 0)), (.sc (.int .u8 0)), (.sc (.int .u8 0)), (.sc (.int .u8 0)), (.sc (.int .u8 0)), (.sc (.int .u8 0)), (.sc (.int .u8 0)), (.sc (.bool false)), (.sc (.bool false)), (.sc (.int .u16 0)), (.sc (.int .i64 0))]) s10,
  .p (.mv (kc (.tc (.sc (.bool false))))) s11])
 (.seq (.regD [0, 0, 2, 7, 0, 16, 63, 127] [.no, .no, (.rd (.ld false 1 g14) g15), .no, .no, (.rd (.ld false 1 g17) g18), .no, .no] [.mk .none .yes (.mv g2) (.mv g2) (some s13),
  .mk .none .yes (.fa 1 g6) (.fa 1 g6) (some s14),
  .mk .none .yes (.ld false 1 g14) (.ld false 1 g14) (some s15),
  .mk .none (.dyn 53 [g13, g15]) (.call 53 [g13, g15] (G2 34 1 3)) (.call 53 [g13, g15] (G2 34 1 3)) (some s16),
  .mk .none .yes (.fa 2 g6) (.fa 2 g6) (some s17),
  .mk .none .yes (.ld false 1 g17) (.ld false 1 g17) (some s18),
  .mk .none .yes (.bin .shl g16 g18 (G2 34 1 6)) (.bin .shl g16 g18 (G2 34 1 6)) (some s19),
  .mk .none .yes (.mv g19) (.mv g19) (some s12)])
 (.seq (.block 0 (.seq (.reg [.p (.fa 8 g5) s21,
  .p (.ld false 1 g21) s22,
  .p (.mv g22) s23,
  .gp g23 true (.fa 4 g6) s24,
  .gp g23 true (.ld false 1 g24) s25,
  .gp g23 true (.nt g25 (G2 34 2 5)) s26,
  .gp g23 true (.mv g26) s27,
  .gp g27 false (.mv g2) s28,
  .gp g27 false (.bin .shr g28 (kc (.tc (.sc (.int .u64 8)))) (G2 34 2 8)) s29,
  .gp g27 false (.bin .neq g29 (kc (.tc (.sc (.int .u32 0)))) (G2 34 2 9)) s30,
  .gp g23 true (.pk g27 (kc (.tc (.sc (.bool true)))) g30) s31,
  .p (.pk g23 g31 (kc (.tc (.sc (.bool false))))) s32,
  .p (.mv g32) s20])
 (.cond g20 (.seq (.reg [.p (.ld true 11 g5) s33,
  .n (.st 11 g10 g33 (G2 34 3 1)),
  .p (.mv (kc (.tc (.sc (.bool false))))) s11])
 .ret)
 (.seq (.reg [.p (.fa 8 g5) s35,
  .p (.ld false 1 g35) s36,
  .p (.mv g36) s34])
 (.cond g34 (.reg [.p (.mv g3) s37,
  .p (.mv g2) s38,
  .p (.call 54 [g37, g38] (G2 34 5 2)) s39,
  .p (.mv g39) s12])
 (.seq (.reg [.p (.fa 3 g6) s41,
  .p (.ld false 1 g41) s42,
  .p (.nt g42 (G2 34 6 2)) s43,
  .p (.mv g43) s40])
 (.cond g40 (.reg [.p (.mv g2) s44,
  .p (.cv .i64 g44 (G2 34 7 1)) s45,
  .p (.fa 2 g6) s46,
  .p (.ld false 1 g46) s47,
  .p (.bin .shl g45 g47 (G2 34 7 4)) s48,
  .p (.mv g48) s12])
 .skip)))))))
 (.seq (.reg [.p (.mv g12) s49,
  .p (.fa 10 g5) s50,
  .n (.st 1 g50 g49 (G2 34 8 2))])
 (.seq (.seq (.reg [.p (.fa 0 g6) s51,
  .p (.ld false 1 g51) s52,
  .p (.bin .eql g52 (kc (.tc (.sc (.int .u8 10)))) (G2 34 9 2)) s53])
 (.cond g53 (.reg [.p (.mv g12) s54,
  .p (.mv g4) s55,
  .p (.call 55 [g54, g55] (G2 34 10 2)) s56,
  .p (.fa 10 g5) s57,
  .n (.st 1 g57 g56 (G2 34 10 4))])
 .skip))
 (.seq (.reg [.p (.ld true 11 g5) s58,
  .n (.st 11 g10 g58 (G2 34 11 1)),
  .p (.mv (kc (.tc (.sc (.bool true))))) s11])
 .ret)))))),
 [.cell g10 true 11, .tmp g11]⟩
theorem ffEnc34_ok : compF SBEnc 34 = ffEnc34 := by kernel_rfl
noncomputable def ffEnc54 : FF := .t2 ⟨12,
 (.seq (.reg [.p (.mv (kc (.tc (.sc (.int .i64 0))))) s4])
 (.seq (.reg [.p (.mv g0) s6,
  .p (.call 19 [(kc (.tc (.sc (.int .u32 0)))), (kc (.tc (.sc (.int .i64 8)))), (kc (.tc (.sc (.int .i64 24)))), g6] (G2 54 1 1)) s7,
  .p (.mv g7) s5])
 (.seq (.reg [.p (.mv g5) s8,
  .p (.mv g1) s9,
  .p (.call 19 [g8, (kc (.tc (.sc (.int .i64 0)))), (kc (.tc (.sc (.int .i64 8)))), g9] (G2 54 2 2)) s10,
  .p (.call 53 [g10, (kc (.tc (.sc (.int .i64 32))))] (G2 54 2 3)) s11,
  .p (.mv g11) s4])
 .ret))),
 [.tmp g4]⟩
theorem ffEnc54_ok : compF SBEnc 54 = ffEnc54 := by kernel_rfl
noncomputable def ffEnc55 : FF := .t2 ⟨10,
 (.seq (.reg [.p (.mv (kc (.tc (.sc (.int .i64 0))))) s4])
 (.seq (.reg [.p (.mv g1) s5,
  .p (.mv g0) s6,
  .p (.cv .u32 g6 (G2 55 1 2)) s7,
  .p (.bin .add g5 g7 (G2 55 1 3)) s8,
  .p (.cv .i64 g8 (G2 55 1 4)) s9,
  .p (.mv g9) s4])
 .ret)),
 [.tmp g4]⟩
theorem ffEnc55_ok : compF SBEnc 55 = ffEnc55 := by kernel_rfl
noncomputable def ffEnc12 : FF := .t3 ⟨151,
 (.seq (.reg [.p (.al 11 [(.sc (.int .u8 0)), (.sc (.int .u8 0)), (.sc (.int .u8 0)), (.sc (.int .u8 0)), (.sc (.int .u8 0)), (.sc (.int .u8 0)), (.sc (.int .u8 0)), (.sc (.bool false)), (.sc (.bool false)), (.sc (.int .u16 0)), (.sc (.int .i64 0))]) (i0 s8),
  .p (.mv (kc (.tc (.sc (.bool false))))) (i0 s9)])
 (.seq (.reg [.p (.mv (h0 g0)) (i0 s22),
  .p (.call 35 [(h0 g22), (kc (.tc (.sc (.int .i64 26)))), (kc (.tc (.sc (.int .i64 6))))] (G3 12 1 1)) (i0 s23),
  .p (.cv .u8 (h0 g23) (G3 12 1 2)) (i0 s24),
  .p (.mv (h0 g24)) (i0 s10)])
 (.seq (.reg [.p (.mv (h0 g10)) (i0 s26),
  .p (.call 23 [(h0 g26)] (G3 12 2 1)) (i0 s27),
  .p (.mv (h0 g27)) (i0 s25),
  .p (.ex (h0 g25) 0) (i0 s28),
  .p (.ex (h0 g25) 1) (i0 s29),
  .p (.mv (h0 g28)) (i0 s11),
  .p (.mv (h0 g29)) (i0 s12)])
 (.seq (.seq (.reg [.p (.mv (h0 g12)) (i0 s30),
  .p (.nt (h0 g30) (G3 12 3 1)) (i0 s31)])
 (.cond (h0 g31) (.seq (.reg [.p (.bd [(.tc (.sc (.int .u8 0))), (.tc (.sc (.int .u8 0))), (.tc (.sc (.int .u8 0))), (.tc (.sc (.int .u8 0))), (.tc (.sc (.int .u8 0))), (.tc (.sc (.int .u8 0))), (.tc (.sc (.int .u8 0))), (.tc (.sc (.bool false))), (.tc (.sc (.bool false))), (.tc (.sc (.int .u16 0))), (.tc (.sc (.int .i64 0)))] [] (G3 12 4 0)) (i0 s32),
  .n (.st 11 (h0 g8) (h0 g32) (G3 12 4 1)),
  .p (.mv (kc (.tc (.sc (.bool false))))) (i0 s9)])
 .ret)
 .skip))
 (.seq (.reg [.p (.mv (h0 g0)) (i0 s33),
  .p (.call 35 [(h0 g33), (kc (.tc (.sc (.int .i64 16)))), (kc (.tc (.sc (.int .i64 10))))] (G3 12 5 1)) (i0 s34),
  .p (.cv .i64 (h0 g34) (G3 12 5 2)) (i0 s35),
  .p (.call 28 [(kc (.tc (.sc (.int .i64 14))))] (G3 12 5 3)) (i0 s36),
  .p (.bin .mul (h0 g35) (h0 g36) (G3 12 5 4)) (i0 s37),
  .p (.mv (h0 g0)) (i0 s38),
  .p (.call 35 [(h0 g38), (kc (.tc (.sc (.int .i64 0)))), (kc (.tc (.sc (.int .i64 14))))] (G3 12 5 6)) (i0 s39),
  .p (.cv .i64 (h0 g39) (G3 12 5 7)) (i0 s40),
  .p (.bin .add (h0 g37) (h0 g40) (G3 12 5 8)) (i0 s41),
  .p (.mv (h0 g41)) (i0 s13)])
 (.seq (.reg [.p (.mv (h0 g10)) (i0 s42),
  .p (.mv (h0 g2)) (i0 s43),
  .p (.bd [(.tc (.sc (.int .u8 0))), (.tc (.sc (.int .u8 0))), (.tc (.sc (.int .u8 0))), (.tc (.sc (.int .u8 0))), (.tc (.sc (.int .u8 0))), (.tc (.sc (.int .u8 0))), (.tc (.sc (.int .u8 0))), (.tc (.sc (.bool false))), (.tc (.sc (.bool false))), (.tc (.sc (.int .u16 0))), (.tc (.sc (.int .i64 0)))] [(.mk 0 1 (h0 g42)), (.mk 8 1 (h0 g43))] (G3 12 6 2)) (i0 s44),
  .p (.al 11 [(.sc (.int .u8 0)), (.sc (.int .u8 0)), (.sc (.int .u8 0)), (.sc (.int .u8 0)), (.sc (.int .u8 0)), (.sc (.int .u8 0)), (.sc (.int .u8 0)), (.sc (.bool false)), (.sc (.bool false)), (.sc (.int .u16 0)), (.sc (.int .i64 0))]) (i0 s14),
  .n (.st 11 (h0 g14) (h0 g44) (G3 12 6 4))])
 (.seq (.reg [.p (.mv (h0 g10)) (i0 s45),
  .p (.call 24 [(h0 g45)] (G3 12 7 1)) (i0 s46),
  .p (.al 5 [(.sc (.int .i64 0)), (.sc (.int .i64 0)), (.sc (.bool false)), (.sc (.bool false)), (.sc (.bool false))]) (i0 s15),
  .n (.st 5 (h0 g15) (h0 g46) (G3 12 7 3))])
 (.seq (.reg [.p (.mv (kc (.tc (.sc (.int .i64 24))))) (i0 s16)])
 (.seq (.seq (.reg [.p (.mv (kc (.tc (.sc (.int .i64 0))))) (i0 s17)])
 (.block 0 (.loop 4294967296 (.seq (.seq (.reg [.p (.mv (h0 g17)) (i0 s47),
  .p (.mv (h0 g11)) (i0 s48),
  .p (.len (h0 g48) (G3 12 10 2)) (i0 s49),
  .p (.bin .lss (h0 g47) (h0 g49) (G3 12 10 3)) (i0 s50)])
 (.cond (h0 g50) .skip
 (.exit 0)))
 (.seq (.block 1 (.seq (.reg [.p (.mv (h0 g16)) (i0 s53),
  .p (.mv (h0 g11)) (i0 s54),
  .p (.mv (h0 g17)) (i0 s55),
  .p (.ia 2 (h0 g54) (h0 g55) (G3 12 11 3)) (i0 s56),
  .p (.fa 1 (h0 g56)) (i0 s57),
  .p (.ld false 1 (h0 g57)) (i0 s58),
  .p (.bin .sub (h0 g53) (h0 g58) (G3 12 11 6)) (i0 s59),
  .p (.mv (h0 g59)) (i0 s16)])
 (.seq (.regD [0, 0, 2, 7, 0, 0, 48, 112, 240, 502, 1023, 2047] [.no, .no, .no, .no, .no, .no, .no, .no, (.rd (.ld false 1 (h1 g3)) (h1 g4)), .no, .no, .no] [.mk .none .yes (.mv (h0 g13)) (.mv (h0 g13)) (some (i0 s60)),
  .mk .none .yes (.mv (h0 g16)) (.mv (h0 g16)) (some (i0 s61)),
  .mk .none (.dyn 28 [(h0 g61)]) (.call 28 [(h0 g61)] (G3 12 12 2)) (.call 28 [(h0 g61)] (G3 12 12 2)) (some (i0 s62)),
  .mk .none .yes (.bin .quo (h0 g60) (h0 g62) (G3 12 12 3)) (.bin .quo (h0 g60) (h0 g62) (G3 12 12 3)) (some (i0 s63)),
  .mk .none .yes (.mv (h0 g11)) (.mv (h0 g11)) (some (i1 s0)),
  .mk .none .yes (.mv (h0 g17)) (.mv (h0 g17)) (some (i1 s1)),
  .mk .none .yes (.ia 2 (h1 g0) (h1 g1) (G3 12 12 6)) (.ia 2 (h1 g0) (h1 g1) (G3 12 12 6)) (some (i1 s2)),
  .mk .none .yes (.fa 1 (h1 g2)) (.fa 1 (h1 g2)) (some (i1 s3)),
  .mk .none .yes (.ld false 1 (h1 g3)) (.ld false 1 (h1 g3)) (some (i1 s4)),
  .mk .none (.dyn 28 [(h1 g4)]) (.call 28 [(h1 g4)] (G3 12 12 9)) (.call 28 [(h1 g4)] (G3 12 12 9)) (some (i1 s5)),
  .mk .none .yes (.bin .rem (h0 g63) (h1 g5) (G3 12 12 10)) (.bin .rem (h0 g63) (h1 g5) (G3 12 12 10)) (some (i1 s6)),
  .mk .none .yes (.mv (h1 g6)) (.mv (h1 g6)) (some (i0 s18))])
 (.seq (.regD [0, 0, 0, 6, 14, 30, 0, 64, 255, 511] [(.rd (.ld true 11 (h0 g14)) (h1 g7)), .no, .no, .no, .no, (.rd (.ld false 1 (h1 g11)) (h1 g12)), .no, (.rd (.cv .u32 (h1 g13) (G3 12 13 7)) (h1 g14)), .no, .no] [.mk .none .yes (.ld true 11 (h0 g14)) (.ld true 11 (h0 g14)) (some (i1 s7)),
  .mk .none .yes (.mv (h0 g11)) (.mv (h0 g11)) (some (i1 s8)),
  .mk .none .yes (.mv (h0 g17)) (.mv (h0 g17)) (some (i1 s9)),
  .mk .none .yes (.ia 2 (h1 g8) (h1 g9) (G3 12 13 3)) (.ia 2 (h1 g8) (h1 g9) (G3 12 13 3)) (some (i1 s10)),
  .mk .none .yes (.fa 0 (h1 g10)) (.fa 0 (h1 g10)) (some (i1 s11)),
  .mk .none .yes (.ld false 1 (h1 g11)) (.ld false 1 (h1 g11)) (some (i1 s12)),
  .mk .none .yes (.mv (h0 g18)) (.mv (h0 g18)) (some (i1 s13)),
  .mk .none .yes (.cv .u32 (h1 g13) (G3 12 13 7)) (.cv .u32 (h1 g13) (G3 12 13 7)) (some (i1 s14)),
  .mk .none (.dyn 36 [(h1 g7), (h1 g12), (h1 g14)]) (.call 36 [(h1 g7), (h1 g12), (h1 g14)] (G3 12 13 8)) (.call 36 [(h1 g7), (h1 g12), (h1 g14)] (G3 12 13 8)) (some (i1 s15)),
  .mk .none .no (.st 11 (h0 g14) (h1 g15) (G3 12 13 9)) (.st 11 (h0 g14) (h1 g15) (G3 12 13 9)) none])
 (.seq (.seq (.reg [.p (.mv (h0 g11)) (i1 s16),
  .p (.mv (h0 g17)) (i1 s17),
  .p (.ia 2 (h1 g16) (h1 g17) (G3 12 14 2)) (i1 s18),
  .p (.fa 0 (h1 g18)) (i1 s19),
  .p (.ld false 1 (h1 g19)) (i1 s20),
  .p (.bin .neq (h1 g20) (kc (.tc (.sc (.int .u8 118)))) (G3 12 14 5)) (i1 s21)])
 (.cond (h1 g21) (.exit 1)
 .skip))
 (.seq (.seq (.reg [.p (.mv (h0 g2)) (i1 s22)])
 (.cond (h1 g22) (.reg [.p (.mv (h0 g1)) (i1 s23),
  .p (.cv .i64 (h1 g23) (G3 12 16 1)) (i1 s24),
  .p (.bin .mul (h1 g24) (kc (.tc (.sc (.int .i64 256)))) (G3 12 16 2)) (i1 s25),
  .p (.mv (h0 g18)) (i1 s26),
  .p (.bin .rem (h1 g26) (kc (.tc (.sc (.int .i64 256)))) (G3 12 16 4)) (i1 s27),
  .p (.bin .add (h1 g25) (h1 g27) (G3 12 16 5)) (i1 s28),
  .p (.call 37 [(h1 g28)] (G3 12 16 6)) (i1 s29),
  .p (.mv (h1 g29)) (i0 s18)])
 (.seq (.reg [.p (.fa 2 (h0 g15)) (i1 s30),
  .p (.ld false 1 (h1 g30)) (i1 s31),
  .p (.mv (h1 g31)) (i1 s32),
  .gp (h1 g32) true (.mv (h0 g18)) (i1 s33),
  .gp (h1 g32) true (.fa 0 (h0 g15)) (i1 s34),
  .gp (h1 g32) true (.ld false 1 (h1 g34)) (i1 s35),
  .gp (h1 g32) true (.bin .sub (h1 g35) (kc (.tc (.sc (.int .i64 1)))) (G3 12 17 6)) (i1 s36),
  .gp (h1 g32) true (.call 28 [(h1 g36)] (G3 12 17 7)) (i1 s37),
  .gp (h1 g32) true (.bin .geq (h1 g33) (h1 g37) (G3 12 17 8)) (i1 s38),
  .p (.pk (h1 g32) (h1 g38) (kc (.tc (.sc (.bool false))))) (i1 s39)])
 (.cond (h1 g39) (.regD [0, 0, 2, 6, 15, 0, 32, 110, 255, 511] [.no, .no, (.rd (.ld false 1 (h1 g41)) (h1 g42)), .no, .no, .no, (.rd (.ld false 1 (h1 g45)) (h1 g46)), .no, .no, .no] [.mk .none .yes (.mv (h0 g18)) (.mv (h0 g18)) (some (i1 s40)),
  .mk .none .yes (.fa 0 (h0 g15)) (.fa 0 (h0 g15)) (some (i1 s41)),
  .mk .none .yes (.ld false 1 (h1 g41)) (.ld false 1 (h1 g41)) (some (i1 s42)),
  .mk .none (.dyn 28 [(h1 g42)]) (.call 28 [(h1 g42)] (G3 12 18 3)) (.call 28 [(h1 g42)] (G3 12 18 3)) (some (i1 s43)),
  .mk .none .yes (.bin .sub (h1 g40) (h1 g43) (G3 12 18 4)) (.bin .sub (h1 g40) (h1 g43) (G3 12 18 4)) (some (i1 s44)),
  .mk .none .yes (.fa 1 (h0 g15)) (.fa 1 (h0 g15)) (some (i1 s45)),
  .mk .none .yes (.ld false 1 (h1 g45)) (.ld false 1 (h1 g45)) (some (i1 s46)),
  .mk .none (.dyn 28 [(h1 g46)]) (.call 28 [(h1 g46)] (G3 12 18 7)) (.call 28 [(h1 g46)] (G3 12 18 7)) (some (i1 s47)),
  .mk .none .yes (.bin .mul (h1 g44) (h1 g47) (G3 12 18 8)) (.bin .mul (h1 g44) (h1 g47) (G3 12 18 8)) (some (i1 s48)),
  .mk .none .yes (.mv (h1 g48)) (.mv (h1 g48)) (some (i0 s18))])
 (.reg [.p (.mv (h0 g18)) (i1 s49),
  .p (.fa 1 (h0 g15)) (i1 s50),
  .p (.ld false 1 (h1 g50)) (i1 s51),
  .p (.call 28 [(h1 g51)] (G3 12 19 3)) (i1 s52),
  .p (.bin .mul (h1 g49) (h1 g52) (G3 12 19 4)) (i1 s53),
  .p (.mv (h1 g53)) (i0 s18)])))))
 (.seq (.seq (.reg [.p (.fa 4 (h0 g15)) (i1 s54),
  .p (.ld false 1 (h1 g54)) (i1 s55)])
 (.cond (h1 g55) (.reg [.p (.mv (h0 g3)) (i1 s56),
  .p (.cv .i64 (h1 g56) (G3 12 21 1)) (i1 s57),
  .p (.mv (h0 g18)) (i1 s58),
  .p (.bin .add (h1 g57) (h1 g58) (G3 12 21 3)) (i1 s59),
  .p (.call 26 [(h1 g59)] (G3 12 21 4)) (i1 s60),
  .p (.mv (h1 g60)) (i0 s18)])
 .skip))
 (.reg [.p (.mv (h0 g18)) (i1 s61),
  .p (.fa 10 (h0 g14)) (i1 s62),
  .n (.st 1 (h1 g62) (h1 g61) (G3 12 22 2))]))))))))
 (.reg [.p (.mv (h0 g17)) (i0 s51),
  .p (.bin .add (h0 g51) (kc (.tc (.sc (.int .i64 1)))) (G3 12 23 1)) (i0 s52),
  .p (.mv (h0 g52)) (i0 s17)]))))))
 (.seq (.reg [.p (.ld true 11 (h0 g14)) (i2 s0),
  .p (.mv (h0 g3)) (i2 s1),
  .p (.call 8 [(h2 g0), (h2 g1)] (G3 12 24 2)) (i2 s2),
  .p (.mv (h2 g2)) (i1 s63),
  .p (.ex (h1 g63) 0) (i2 s3),
  .p (.ex (h1 g63) 1) (i2 s4),
  .p (.ex (h1 g63) 2) (i2 s5),
  .p (.mv (h2 g3)) (i0 s19),
  .p (.mv (h2 g4)) (i0 s20),
  .p (.mv (h2 g5)) (i0 s21)])
 (.seq (.seq (.reg [.p (.mv (h0 g21)) (i2 s6),
  .p (.nt (h2 g6) (G3 12 25 1)) (i2 s7),
  .p (.mv (h2 g7)) (i2 s8),
  .gp (h2 g8) false (.mv (h0 g20)) (i2 s9),
  .gp (h2 g8) false (.mv (h0 g1)) (i2 s10),
  .gp (h2 g8) false (.bin .neq (h2 g9) (h2 g10) (G3 12 25 5)) (i2 s11),
  .p (.pk (h2 g8) (kc (.tc (.sc (.bool true)))) (h2 g11)) (i2 s12),
  .p (.mv (h2 g12)) (i2 s13),
  .gp (h2 g13) false (.mv (h0 g19)) (i2 s14),
  .gp (h2 g13) false (.mv (h0 g10)) (i2 s15),
  .gp (h2 g13) false (.mv (h0 g13)) (i2 s16),
  .gp (h2 g13) false (.cv .u32 (h2 g16) (G3 12 25 11)) (i2 s17),
  .gp (h2 g13) false (.call 29 [(h2 g15), (h2 g17), (kc (.tc (.sc (.int .u8 0))))] (G3 12 25 12)) (i2 s18),
  .gp (h2 g13) false (.bin .neq (h2 g14) (h2 g18) (G3 12 25 13)) (i2 s19),
  .p (.pk (h2 g13) (kc (.tc (.sc (.bool true)))) (h2 g19)) (i2 s20)])
 (.cond (h2 g20) (.seq (.reg [.p (.bd [(.tc (.sc (.int .u8 0))), (.tc (.sc (.int .u8 0))), (.tc (.sc (.int .u8 0))), (.tc (.sc (.int .u8 0))), (.tc (.sc (.int .u8 0))), (.tc (.sc (.int .u8 0))), (.tc (.sc (.int .u8 0))), (.tc (.sc (.bool false))), (.tc (.sc (.bool false))), (.tc (.sc (.int .u16 0))), (.tc (.sc (.int .i64 0)))] [] (G3 12 26 0)) (i2 s21),
  .n (.st 11 (h0 g8) (h2 g21) (G3 12 26 1)),
  .p (.mv (kc (.tc (.sc (.bool false))))) (i0 s9)])
 .ret)
 .skip))
 (.seq (.reg [.p (.ld true 11 (h0 g14)) (i2 s22),
  .n (.st 11 (h0 g8) (h2 g22) (G3 12 27 1)),
  .p (.mv (kc (.tc (.sc (.bool true))))) (i0 s9)])
 .ret)))))))))))),
 [.cell (h0 g8) true 11, .tmp (h0 g9)]⟩
theorem ffEnc12_ok : compF SBEnc 12 = ffEnc12 := by kernel_rfl
noncomputable def ffEnc35 : FF := .t2 ⟨27,
 (.seq (.reg [.p (.mv (kc (.tc (.sc (.int .u32 0))))) s6])
 (.seq (.reg [.p (.mv (kc (.tc (.sc (.int .u32 0))))) s7])
 (.seq (.seq (.reg [.p (.mv g1) s9,
  .p (.mv g2) s10,
  .p (.call 56 [g9, g10] (G2 35 2 2)) s11])
 (.cond g11 (.seq (.reg [.p (.mv (kc (.tc (.sc (.int .u32 0))))) s6])
 .ret)
 .skip))
 (.seq (.seq (.reg [.p (.mv g2) s12,
  .p (.bin .sub g12 (kc (.tc (.sc (.int .i64 1)))) (G2 35 4 1)) s13,
  .p (.mv g13) s8])
 (.block 0 (.loop 4294967296 (.seq (.seq (.reg [.p (.mv g8) s14,
  .p (.bin .geq g14 (kc (.tc (.sc (.int .i64 0)))) (G2 35 5 1)) s15])
 (.cond g15 .skip
 (.exit 0)))
 (.seq (.block 1 (.reg [.p (.mv g7) s18,
  .p (.bin .mul (kc (.tc (.sc (.int .u32 2)))) g18 (G2 35 6 1)) s19,
  .p (.mv g0) s20,
  .p (.mv g1) s21,
  .p (.mv g8) s22,
  .p (.bin .add g21 g22 (G2 35 6 5)) s23,
  .p (.call 50 [g20, g23] (G2 35 6 6)) s24,
  .p (.bin .add g19 g24 (G2 35 6 7)) s25,
  .p (.mv g25) s7]))
 (.reg [.p (.mv g8) s16,
  .p (.bin .sub g16 (kc (.tc (.sc (.int .i64 1)))) (G2 35 7 1)) s17,
  .p (.mv g17) s8]))))))
 (.seq (.reg [.p (.mv g7) s26,
  .p (.mv g26) s6])
 .ret))))),
 [.tmp g6]⟩
theorem ffEnc35_ok : compF SBEnc 35 = ffEnc35 := by kernel_rfl
noncomputable def ffEnc56 : FF := .t2 ⟨25,
 (.seq (.reg [.p (.mv (kc (.tc (.sc (.bool false))))) s4])
 (.seq (.reg [.p (.mv g0) s5,
  .p (.bin .lss g5 (kc (.tc (.sc (.int .i64 0)))) (G2 56 1 1)) s6,
  .p (.mv g6) s7,
  .gp g7 false (.mv g1) s8,
  .gp g7 false (.bin .lss g8 (kc (.tc (.sc (.int .i64 0)))) (G2 56 1 4)) s9,
  .p (.pk g7 (kc (.tc (.sc (.bool true)))) g9) s10,
  .p (.mv g10) s11,
  .gp g11 false (.mv g0) s12,
  .gp g11 false (.bin .gtr g12 (kc (.tc (.sc (.int .i64 32)))) (G2 56 1 8)) s13,
  .p (.pk g11 (kc (.tc (.sc (.bool true)))) g13) s14,
  .p (.mv g14) s15,
  .gp g15 false (.mv g1) s16,
  .gp g15 false (.bin .gtr g16 (kc (.tc (.sc (.int .i64 32)))) (G2 56 1 12)) s17,
  .p (.pk g15 (kc (.tc (.sc (.bool true)))) g17) s18,
  .p (.mv g18) s19,
  .gp g19 false (.mv g0) s20,
  .gp g19 false (.mv g1) s21,
  .gp g19 false (.bin .add g20 g21 (G2 56 1 17)) s22,
  .gp g19 false (.bin .gtr g22 (kc (.tc (.sc (.int .i64 32)))) (G2 56 1 18)) s23,
  .p (.pk g19 (kc (.tc (.sc (.bool true)))) g23) s24,
  .p (.mv g24) s4])
 .ret)),
 [.tmp g4]⟩
theorem ffEnc56_ok : compF SBEnc 56 = ffEnc56 := by kernel_rfl
noncomputable def ffEnc6 : FF := .t3 ⟨153,
 (.seq (.reg [.p (.bx 11 (h0 g3) (G3 6 0 0)) (i0 s9),
  .p (.mv (kc (.tc (.sc (.bool false))))) (i0 s12)])
 (.seq (.reg [.p (.mv (h0 g1)) (i0 s26),
  .p (.bin .rem (h0 g26) (kc (.tc (.sc (.int .u32 16777216)))) (G3 6 1 1)) (i0 s27),
  .p (.mv (h0 g27)) (i0 s1)])
 (.seq (.seq (.reg [.p (.mv (h0 g2)) (i0 s28),
  .p (.nt (h0 g28) (G3 6 2 1)) (i0 s29)])
 (.cond (h0 g29) (.reg [.p (.mv (kc (.tc (.sc (.int .u32 0))))) (i0 s1)])
 .skip))
 (.seq (.reg [.p (.mv (h0 g0)) (i0 s30),
  .p (.bin .andNot (h0 g30) (kc (.tc (.sc (.int .u32 49152)))) (G3 6 4 1)) (i0 s31),
  .p (.mv (h0 g5)) (i0 s32),
  .p (.bin .rem (h0 g32) (kc (.tc (.sc (.int .u8 4)))) (G3 6 4 3)) (i0 s33),
  .p (.cv .u32 (h0 g33) (G3 6 4 4)) (i0 s34),
  .p (.bin .shl (h0 g34) (kc (.tc (.sc (.int .u64 14)))) (G3 6 4 5)) (i0 s35),
  .p (.bin .or (h0 g31) (h0 g35) (G3 6 4 6)) (i0 s36),
  .p (.mv (h0 g36)) (i0 s13)])
 (.seq (.reg [.p (.mv (h0 g0)) (i0 s38),
  .p (.mv (h0 g1)) (i0 s39),
  .p (.mv (h0 g2)) (i0 s40),
  .p (.mv (h0 g4)) (i0 s41),
  .p (.call 11 [(h0 g38), (h0 g39), (h0 g40), (h0 g41)] (G3 6 5 4)) (i0 s42),
  .p (.mv (h0 g42)) (i0 s37),
  .p (.ex (h0 g37) 0) (i0 s43),
  .p (.ex (h0 g37) 1) (i0 s44),
  .p (.al 11 [(.sc (.int .u8 0)), (.sc (.int .u8 0)), (.sc (.int .u8 0)), (.sc (.int .u8 0)), (.sc (.int .u8 0)), (.sc (.int .u8 0)), (.sc (.int .u8 0)), (.sc (.bool false)), (.sc (.bool false)), (.sc (.int .u16 0)), (.sc (.int .i64 0))]) (i0 s14),
  .n (.st 11 (h0 g14) (h0 g43) (G3 6 5 9)),
  .p (.mv (h0 g44)) (i0 s15)])
 (.seq (.reg [.p (.mv (h0 g13)) (i0 s46),
  .p (.mv (h0 g1)) (i0 s47),
  .p (.mv (h0 g2)) (i0 s48),
  .p (.mv (h0 g4)) (i0 s49),
  .p (.call 11 [(h0 g46), (h0 g47), (h0 g48), (h0 g49)] (G3 6 6 4)) (i0 s50),
  .p (.mv (h0 g50)) (i0 s45),
  .p (.ex (h0 g45) 0) (i0 s51),
  .p (.ex (h0 g45) 1) (i0 s52),
  .p (.al 11 [(.sc (.int .u8 0)), (.sc (.int .u8 0)), (.sc (.int .u8 0)), (.sc (.int .u8 0)), (.sc (.int .u8 0)), (.sc (.int .u8 0)), (.sc (.int .u8 0)), (.sc (.bool false)), (.sc (.bool false)), (.sc (.int .u16 0)), (.sc (.int .i64 0))]) (i0 s16),
  .n (.st 11 (h0 g16) (h0 g51) (G3 6 6 9)),
  .p (.mv (h0 g52)) (i0 s17)])
 (.seq (.seq (.reg [.p (.ld true 11 (h0 g14)) (i0 s53),
  .p (.ld true 11 (h0 g16)) (i0 s54),
  .p (.eqs .neq [(.mk 0 .int), (.mk 1 .int), (.mk 2 .int), (.mk 3 .int), (.mk 4 .int), (.mk 5 .int), (.mk 6 .int), (.mk 7 .bool), (.mk 8 .bool), (.mk 9 .int), (.mk 10 .int)] (h0 g53) (h0 g54) (G3 6 7 2)) (i0 s55),
  .p (.mv (h0 g55)) (i0 s56),
  .gp (h0 g56) false (.mv (h0 g15)) (i0 s57),
  .gp (h0 g56) false (.mv (h0 g17)) (i0 s58),
  .gp (h0 g56) false (.bin .neq (h0 g57) (h0 g58) (G3 6 7 6)) (i0 s59),
  .p (.pk (h0 g56) (kc (.tc (.sc (.bool true)))) (h0 g59)) (i0 s60)])
 (.cond (h0 g60) (.seq (.reg [.p (.mv (kc (.tc (.sc (.bool false))))) (i0 s12)])
 .ret)
 .skip))
 (.seq (.seq (.reg [.p (.mv (h0 g15)) (i0 s61)])
 (.cond (h0 g61) (.seq (.reg [.p (.ld true 11 (h0 g14)) (i0 s63),
  .p (.mv (h0 g4)) (i1 s0),
  .p (.call 7 [(h0 g63), (h1 g0)] (G3 6 10 2)) (i1 s1),
  .p (.mv (h1 g1)) (i0 s62),
  .p (.ex (h0 g62) 0) (i1 s2),
  .p (.ex (h0 g62) 1) (i1 s3),
  .p (.ex (h0 g62) 2) (i1 s4),
  .p (.mv (h1 g2)) (i0 s18),
  .p (.mv (h1 g3)) (i0 s19),
  .p (.mv (h1 g4)) (i0 s20)])
 (.seq (.reg [.p (.mv (h0 g20)) (i1 s5),
  .p (.nt (h1 g5) (G3 6 11 1)) (i1 s6),
  .p (.mv (h1 g6)) (i1 s7),
  .gp (h1 g7) false (.mv (h0 g19)) (i1 s8),
  .gp (h1 g7) false (.mv (h0 g1)) (i1 s9),
  .gp (h1 g7) false (.bin .neq (h1 g8) (h1 g9) (G3 6 11 5)) (i1 s10),
  .p (.pk (h1 g7) (kc (.tc (.sc (.bool true)))) (h1 g10)) (i1 s11),
  .p (.mv (h1 g11)) (i1 s12),
  .gp (h1 g12) false (.mv (h0 g18)) (i1 s13),
  .gp (h1 g12) false (.mv (h0 g0)) (i1 s14),
  .gp (h1 g12) false (.bin .andNot (h1 g14) (kc (.tc (.sc (.int .u32 49152)))) (G3 6 11 10)) (i1 s15),
  .gp (h1 g12) false (.bin .neq (h1 g13) (h1 g15) (G3 6 11 11)) (i1 s16),
  .p (.pk (h1 g12) (kc (.tc (.sc (.bool true)))) (h1 g16)) (i1 s17),
  .p (.mv (h1 g17)) (i1 s18),
  .gp (h1 g18) false (.fa 8 (h0 g14)) (i1 s19),
  .gp (h1 g18) false (.ld false 1 (h1 g19)) (i1 s20),
  .gp (h1 g18) false (.mv (h0 g2)) (i1 s21),
  .gp (h1 g18) false (.bin .neq (h1 g20) (h1 g21) (G3 6 11 17)) (i1 s22),
  .p (.pk (h1 g18) (kc (.tc (.sc (.bool true)))) (h1 g22)) (i1 s23),
  .p (.mv (h1 g23)) (i1 s24),
  .gp (h1 g24) false (.ld true 11 (h0 g14)) (i1 s25),
  .gp (h1 g24) false (.call 13 [(h1 g25)] (G3 6 11 21)) (i1 s26),
  .gp (h1 g24) false (.nt (h1 g26) (G3 6 11 22)) (i1 s27),
  .p (.pk (h1 g24) (kc (.tc (.sc (.bool true)))) (h1 g27)) (i1 s28)])
 (.cond (h1 g28) (.seq (.reg [.p (.mv (kc (.tc (.sc (.bool false))))) (i0 s12)])
 .ret)
 .skip)))
 .skip))
 (.seq (.reg [.p (.ld true 11 (h0 g9)) (i1 s30),
  .p (.mv (h0 g4)) (i1 s31),
  .p (.call 7 [(h1 g30), (h1 g31)] (G3 6 13 2)) (i1 s32),
  .p (.mv (h1 g32)) (i1 s29),
  .p (.ex (h1 g29) 0) (i1 s33),
  .p (.ex (h1 g29) 1) (i1 s34),
  .p (.ex (h1 g29) 2) (i1 s35),
  .p (.mv (h1 g33)) (i0 s21),
  .p (.mv (h1 g34)) (i0 s22),
  .p (.mv (h1 g35)) (i0 s23)])
 (.seq (.seq (.reg [.p (.mv (h0 g23)) (i1 s36),
  .p (.ld true 11 (h0 g9)) (i1 s37),
  .p (.call 13 [(h1 g37)] (G3 6 14 2)) (i1 s38),
  .p (.mv (h1 g38)) (i1 s39),
  .gp (h1 g39) true (.fa 8 (h0 g9)) (i1 s40),
  .gp (h1 g39) true (.ld false 1 (h1 g40)) (i1 s41),
  .gp (h1 g39) true (.mv (h1 g41)) (i1 s42),
  .gp (h1 g42) false (.ld true 11 (h0 g9)) (i1 s43),
  .gp (h1 g42) false (.mv (h0 g4)) (i1 s44),
  .gp (h1 g42) false (.call 14 [(h1 g43), (h1 g44)] (G3 6 14 9)) (i1 s45),
  .gp (h1 g39) true (.pk (h1 g42) (kc (.tc (.sc (.bool true)))) (h1 g45)) (i1 s46),
  .p (.pk (h1 g39) (h1 g46) (kc (.tc (.sc (.bool false))))) (i1 s47),
  .p (.bin .neq (h1 g36) (h1 g47) (G3 6 14 12)) (i1 s48)])
 (.cond (h1 g48) (.seq (.reg [.p (.mv (kc (.tc (.sc (.bool false))))) (i0 s12)])
 .ret)
 .skip))
 (.seq (.seq (.reg [.p (.mv (h0 g23)) (i1 s49),
  .p (.nt (h1 g49) (G3 6 16 1)) (i1 s50)])
 (.cond (h1 g50) (.seq (.reg [.p (.mv (h0 g21)) (i1 s51),
  .p (.bin .eql (h1 g51) (kc (.tc (.sc (.int .u32 0)))) (G3 6 17 1)) (i1 s52),
  .p (.mv (h1 g52)) (i1 s53),
  .gp (h1 g53) true (.mv (h0 g22)) (i1 s54),
  .gp (h1 g53) true (.bin .eql (h1 g54) (kc (.tc (.sc (.int .u32 0)))) (G3 6 17 4)) (i1 s55),
  .p (.pk (h1 g53) (h1 g55) (kc (.tc (.sc (.bool false))))) (i1 s56),
  .p (.mv (h1 g56)) (i1 s57),
  .gp (h1 g57) true (.call 9 [] (G3 6 17 7)) (i1 s58),
  .p (.pk (h1 g57) (h1 g58) (kc (.tc (.sc (.bool false))))) (i1 s59),
  .p (.mv (h1 g59)) (i0 s12)])
 .ret)
 .skip))
 (.seq (.reg [.p (.mv (h0 g21)) (i1 s61),
  .p (.mv (h0 g22)) (i1 s62),
  .p (.fa 8 (h0 g9)) (i1 s63),
  .p (.ld false 1 (h1 g63)) (i2 s0),
  .p (.mv (h0 g4)) (i2 s1),
  .p (.call 11 [(h1 g61), (h1 g62), (h2 g0), (h2 g1)] (G3 6 18 5)) (i2 s2),
  .p (.mv (h2 g2)) (i1 s60),
  .p (.ex (h1 g60) 0) (i2 s3),
  .p (.ex (h1 g60) 1) (i2 s4),
  .p (.al 11 [(.sc (.int .u8 0)), (.sc (.int .u8 0)), (.sc (.int .u8 0)), (.sc (.int .u8 0)), (.sc (.int .u8 0)), (.sc (.int .u8 0)), (.sc (.int .u8 0)), (.sc (.bool false)), (.sc (.bool false)), (.sc (.int .u16 0)), (.sc (.int .i64 0))]) (i0 s24),
  .n (.st 11 (h0 g24) (h2 g3) (G3 6 18 10)),
  .p (.mv (h2 g4)) (i0 s25)])
 (.seq (.reg [.p (.mv (h0 g25)) (i2 s5),
  .p (.mv (h2 g5)) (i2 s6),
  .gp (h2 g6) true (.ld true 11 (h0 g24)) (i2 s7),
  .gp (h2 g6) true (.ld true 11 (h0 g9)) (i2 s8),
  .gp (h2 g6) true (.eqs .eql [(.mk 0 .int), (.mk 1 .int), (.mk 2 .int), (.mk 3 .int), (.mk 4 .int), (.mk 5 .int), (.mk 6 .int), (.mk 7 .bool), (.mk 8 .bool), (.mk 9 .int), (.mk 10 .int)] (h2 g7) (h2 g8) (G3 6 19 4)) (i2 s9),
  .p (.pk (h2 g6) (h2 g9) (kc (.tc (.sc (.bool false))))) (i2 s10),
  .p (.mv (h2 g10)) (i2 s11),
  .gp (h2 g11) true (.mv (h0 g21)) (i2 s12),
  .gp (h2 g11) true (.bin .shr (h2 g12) (kc (.tc (.sc (.int .u64 14)))) (G3 6 19 8)) (i2 s13),
  .gp (h2 g11) true (.bin .and (h2 g13) (kc (.tc (.sc (.int .u32 3)))) (G3 6 19 9)) (i2 s14),
  .gp (h2 g11) true (.bin .eql (h2 g14) (kc (.tc (.sc (.int .u32 0)))) (G3 6 19 10)) (i2 s15),
  .p (.pk (h2 g11) (h2 g15) (kc (.tc (.sc (.bool false))))) (i2 s16),
  .p (.mv (h2 g16)) (i2 s17),
  .gp (h2 g17) true (.mv (h0 g22)) (i2 s18),
  .gp (h2 g17) true (.bin .shr (h2 g18) (kc (.tc (.sc (.int .u64 24)))) (G3 6 19 14)) (i2 s19),
  .gp (h2 g17) true (.bin .eql (h2 g19) (kc (.tc (.sc (.int .u32 0)))) (G3 6 19 15)) (i2 s20),
  .p (.pk (h2 g17) (h2 g20) (kc (.tc (.sc (.bool false))))) (i2 s21),
  .p (.mv (h2 g21)) (i2 s22),
  .gp (h2 g22) true (.call 9 [] (G3 6 19 18)) (i2 s23),
  .p (.pk (h2 g22) (h2 g23) (kc (.tc (.sc (.bool false))))) (i2 s24),
  .p (.mv (h2 g24)) (i0 s12)])
 .ret))))))))))))),
 [.tmp (h0 g12)]⟩
theorem ffEnc6_ok : compF SBEnc 6 = ffEnc6 := by kernel_rfl

noncomputable def codeEnc (f : FuncId) : FF := match f with
  | 3 => ffEnc3
  | 7 => ffEnc7
  | 13 => ffEnc13
  | 15 => ffEnc15
  | 44 => ffEnc44
  | 57 => ffEnc57
  | 59 => ffEnc59
  | 68 => ffEnc68
  | 69 => ffEnc69
  | 70 => ffEnc70
  | 60 => ffEnc60
  | 66 => ffEnc66
  | 61 => ffEnc61
  | 62 => ffEnc62
  | 63 => ffEnc63
  | 64 => ffEnc64
  | 65 => ffEnc65
  | 67 => ffEnc67
  | 45 => ffEnc45
  | 38 => ffEnc38
  | 39 => ffEnc39
  | 43 => ffEnc43
  | 40 => ffEnc40
  | 30 => ffEnc30
  | 16 => ffEnc16
  | 14 => ffEnc14
  | 41 => ffEnc41
  | 42 => ffEnc42
  | 53 => ffEnc53
  | 52 => ffEnc52
  | 58 => ffEnc58
  | 17 => ffEnc17
  | 18 => ffEnc18
  | 46 => ffEnc46
  | 33 => ffEnc33
  | 47 => ffEnc47
  | 19 => ffEnc19
  | 48 => ffEnc48
  | 20 => ffEnc20
  | 8 => ffEnc8
  | 21 => ffEnc21
  | 23 => ffEnc23
  | 24 => ffEnc24
  | 27 => ffEnc27
  | 28 => ffEnc28
  | 36 => ffEnc36
  | 22 => ffEnc22
  | 25 => ffEnc25
  | 26 => ffEnc26
  | 37 => ffEnc37
  | 49 => ffEnc49
  | 29 => ffEnc29
  | 50 => ffEnc50
  | 51 => ffEnc51
  | 9 => ffEnc9
  | 4 => ffEnc4
  | 10 => ffEnc10
  | 5 => ffEnc5
  | 11 => ffEnc11
  | 31 => ffEnc31
  | 32 => ffEnc32
  | 34 => ffEnc34
  | 54 => ffEnc54
  | 55 => ffEnc55
  | 12 => ffEnc12
  | 35 => ffEnc35
  | 56 => ffEnc56
  | 6 => ffEnc6
  | _ => .bad
theorem codeEnc_ok : ∀ f, codeEnc f = .bad ∨ codeEnc f = compF SBEnc f := by
  intro f
  unfold codeEnc
  split
  · exact .inr ffEnc3_ok.symm
  · exact .inr ffEnc7_ok.symm
  · exact .inr ffEnc13_ok.symm
  · exact .inr ffEnc15_ok.symm
  · exact .inr ffEnc44_ok.symm
  · exact .inr ffEnc57_ok.symm
  · exact .inr ffEnc59_ok.symm
  · exact .inr ffEnc68_ok.symm
  · exact .inr ffEnc69_ok.symm
  · exact .inr ffEnc70_ok.symm
  · exact .inr ffEnc60_ok.symm
  · exact .inr ffEnc66_ok.symm
  · exact .inr ffEnc61_ok.symm
  · exact .inr ffEnc62_ok.symm
  · exact .inr ffEnc63_ok.symm
  · exact .inr ffEnc64_ok.symm
  · exact .inr ffEnc65_ok.symm
  · exact .inr ffEnc67_ok.symm
  · exact .inr ffEnc45_ok.symm
  · exact .inr ffEnc38_ok.symm
  · exact .inr ffEnc39_ok.symm
  · exact .inr ffEnc43_ok.symm
  · exact .inr ffEnc40_ok.symm
  · exact .inr ffEnc30_ok.symm
  · exact .inr ffEnc16_ok.symm
  · exact .inr ffEnc14_ok.symm
  · exact .inr ffEnc41_ok.symm
  · exact .inr ffEnc42_ok.symm
  · exact .inr ffEnc53_ok.symm
  · exact .inr ffEnc52_ok.symm
  · exact .inr ffEnc58_ok.symm
  · exact .inr ffEnc17_ok.symm
  · exact .inr ffEnc18_ok.symm
  · exact .inr ffEnc46_ok.symm
  · exact .inr ffEnc33_ok.symm
  · exact .inr ffEnc47_ok.symm
  · exact .inr ffEnc19_ok.symm
  · exact .inr ffEnc48_ok.symm
  · exact .inr ffEnc20_ok.symm
  · exact .inr ffEnc8_ok.symm
  · exact .inr ffEnc21_ok.symm
  · exact .inr ffEnc23_ok.symm
  · exact .inr ffEnc24_ok.symm
  · exact .inr ffEnc27_ok.symm
  · exact .inr ffEnc28_ok.symm
  · exact .inr ffEnc36_ok.symm
  · exact .inr ffEnc22_ok.symm
  · exact .inr ffEnc25_ok.symm
  · exact .inr ffEnc26_ok.symm
  · exact .inr ffEnc37_ok.symm
  · exact .inr ffEnc49_ok.symm
  · exact .inr ffEnc29_ok.symm
  · exact .inr ffEnc50_ok.symm
  · exact .inr ffEnc51_ok.symm
  · exact .inr ffEnc9_ok.symm
  · exact .inr ffEnc4_ok.symm
  · exact .inr ffEnc10_ok.symm
  · exact .inr ffEnc5_ok.symm
  · exact .inr ffEnc11_ok.symm
  · exact .inr ffEnc31_ok.symm
  · exact .inr ffEnc32_ok.symm
  · exact .inr ffEnc34_ok.symm
  · exact .inr ffEnc54_ok.symm
  · exact .inr ffEnc55_ok.symm
  · exact .inr ffEnc12_ok.symm
  · exact .inr ffEnc35_ok.symm
  · exact .inr ffEnc56_ok.symm
  · exact .inr ffEnc6_ok.symm
  · exact .inl rfl
end Go.Proofs.YtgpijioodocplaaDoor
