/- Code made ready ahead, Dup: each is what the program says. -/
import Derived.Test.YthabafmieebmmaaDoorKcBase
import Derived.Test.YthabafmieebmmaaDoorMg8
set_option linter.unusedVariables false
set_option maxRecDepth 100000
namespace Go.Proofs.YthabafmieebmmaaDoor
open Go

/-- What coxless/bits.codeAt holds. -/
noncomputable def glDup2 : List TC := [(.sc (.int .i64 26)), (.sc (.int .i64 6))]
noncomputable def gwDup2 : Nat := 2
/-- What coxless/bits.ends holds. -/
noncomputable def glDup1 : List TC := [(.sc (.int .i64 0)), (.sc (.int .i64 14)), (.sc (.int .i64 16)), (.sc (.int .i64 10))]
noncomputable def gwDup1 : Nat := 4
/-- What coxless/bits.parseAt holds. -/
noncomputable def glDup3 : List TC := [(.sc (.int .i64 14)), (.sc (.int .i64 2))]
noncomputable def gwDup3 : Nat := 2
/-- What coxless/bits.upper holds. -/
noncomputable def glDup4 : List TC := [(.sc (.int .i64 16)), (.sc (.int .i64 16))]
noncomputable def gwDup4 : Nat := 2
/-- What coxless/sub.rows holds. -/
noncomputable def glDup0 : List TC := [(.sl 10 [[(.sc (.int .u8 8)), (.sc (.int .i64 1)), (.sc (.int .i64 4)), (.sc (.int .i64 0)), (.sc (.int .i64 5)), (.sc (.int .i64 7)), (.sc (.int .i64 0)), (.sc (.int .i64 0)), (.sc (.int .i64 0)), (.sc (.int .i64 0))], [(.sc (.int .u8 7)), (.sc (.int .i64 4)), (.sc (.int .i64 4)), (.sc (.int .i64 0)), (.sc (.int .i64 6)), (.sc (.int .i64 7)), (.sc (.int .i64 0)), (.sc (.int .i64 0)), (.sc (.int .i64 0)), (.sc (.int .i64 0))], [(.sc (.int .u8 9)), (.sc (.int .i64 1)), (.sc (.int .i64 4)), (.sc (.int .i64 0)), (.sc (.int .i64 2)), (.sc (.int .i64 4)), (.sc (.int .i64 0)), (.sc (.int .i64 0)), (.sc (.int .i64 0)), (.sc (.int .i64 0))], [(.sc (.int .u8 2)), (.sc (.int .i64 4)), (.sc (.int .i64 4)), (.sc (.int .i64 0)), (.sc (.int .i64 3)), (.sc (.int .i64 4)), (.sc (.int .i64 0)), (.sc (.int .i64 0)), (.sc (.int .i64 0)), (.sc (.int .i64 0))], [(.sc (.int .u8 21)), (.sc (.int .i64 1)), (.sc (.int .i64 4)), (.sc (.int .i64 0)), (.sc (.int .i64 2)), (.sc (.int .i64 4)), (.sc (.int .i64 0)), (.sc (.int .i64 5)), (.sc (.int .i64 3)), (.sc (.int .i64 2))], [(.sc (.int .u8 24)), (.sc (.int .i64 2)), (.sc (.int .i64 4)), (.sc (.int .i64 0)), (.sc (.int .i64 3)), (.sc (.int .i64 4)), (.sc (.int .i64 0)), (.sc (.int .i64 5)), (.sc (.int .i64 3)), (.sc (.int .i64 2))], [(.sc (.int .u8 23)), (.sc (.int .i64 1)), (.sc (.int .i64 4)), (.sc (.int .i64 0)), (.sc (.int .i64 2)), (.sc (.int .i64 4)), (.sc (.int .i64 0)), (.sc (.int .i64 5)), (.sc (.int .i64 3)), (.sc (.int .i64 0))], [(.sc (.int .u8 26)), (.sc (.int .i64 2)), (.sc (.int .i64 4)), (.sc (.int .i64 0)), (.sc (.int .i64 3)), (.sc (.int .i64 4)), (.sc (.int .i64 0)), (.sc (.int .i64 5)), (.sc (.int .i64 3)), (.sc (.int .i64 0))], [(.sc (.int .u8 13)), (.sc (.int .i64 2)), (.sc (.int .i64 4)), (.sc (.int .i64 0)), (.sc (.int .i64 5)), (.sc (.int .i64 7)), (.sc (.int .i64 0)), (.sc (.int .i64 0)), (.sc (.int .i64 0)), (.sc (.int .i64 0))]])]
noncomputable def gwDup0 : Nat := 1
noncomputable def globDup : List (Nat × List TC) := [(2, glDup2), (1, glDup1), (3, glDup3), (4, glDup4), (0, glDup0)]
noncomputable def SBDup : Base := ⟨XP, globAt globDup, 4294967296⟩
noncomputable def ffDup6 : FF := .t3 ⟨74,
 (.seq (.reg [.p (.bx 11 (h0 g1) (G3 6 0 0)) (i0 s4),
  .p (.bx 11 (h0 g2) (G3 6 0 1)) (i0 s5),
  .p (.mv (kc (.tc (.sc (.bool false))))) (i0 s6)])
 (.seq (.reg [.p (.mv (h0 g0)) (i0 s18),
  .p (.call 25 [(h0 g18)] (G3 6 1 1)) (i0 s19),
  .p (.mv (h0 g19)) (i0 s17),
  .p (.ex (h0 g17) 0) (i0 s20),
  .p (.ex (h0 g17) 1) (i0 s21),
  .p (.ex (h0 g17) 2) (i0 s22),
  .p (.al 11 [(.sc (.int .u8 0)), (.sc (.int .u8 0)), (.sc (.int .u8 0)), (.sc (.int .u8 0)), (.sc (.int .u8 0)), (.sc (.int .u8 0)), (.sc (.int .u8 0)), (.sc (.bool false)), (.sc (.bool false)), (.sc (.int .u16 0)), (.sc (.int .i64 0))]) (i0 s7),
  .p (.al 11 [(.sc (.int .u8 0)), (.sc (.int .u8 0)), (.sc (.int .u8 0)), (.sc (.int .u8 0)), (.sc (.int .u8 0)), (.sc (.int .u8 0)), (.sc (.int .u8 0)), (.sc (.bool false)), (.sc (.bool false)), (.sc (.int .u16 0)), (.sc (.int .i64 0))]) (i0 s8),
  .n (.st 11 (h0 g7) (h0 g20) (G3 6 1 8)),
  .n (.st 11 (h0 g8) (h0 g21) (G3 6 1 9)),
  .p (.mv (h0 g22)) (i0 s9)])
 (.seq (.reg [.p (.mv (h0 g0)) (i0 s24),
  .p (.call 26 [(h0 g24)] (G3 6 2 1)) (i0 s25),
  .p (.mv (h0 g25)) (i0 s23),
  .p (.ex (h0 g23) 0) (i0 s26),
  .p (.ex (h0 g23) 1) (i0 s27),
  .p (.ex (h0 g23) 2) (i0 s28),
  .p (.al 11 [(.sc (.int .u8 0)), (.sc (.int .u8 0)), (.sc (.int .u8 0)), (.sc (.int .u8 0)), (.sc (.int .u8 0)), (.sc (.int .u8 0)), (.sc (.int .u8 0)), (.sc (.bool false)), (.sc (.bool false)), (.sc (.int .u16 0)), (.sc (.int .i64 0))]) (i0 s10),
  .p (.al 11 [(.sc (.int .u8 0)), (.sc (.int .u8 0)), (.sc (.int .u8 0)), (.sc (.int .u8 0)), (.sc (.int .u8 0)), (.sc (.int .u8 0)), (.sc (.int .u8 0)), (.sc (.bool false)), (.sc (.bool false)), (.sc (.int .u16 0)), (.sc (.int .i64 0))]) (i0 s11),
  .n (.st 11 (h0 g10) (h0 g26) (G3 6 2 8)),
  .n (.st 11 (h0 g11) (h0 g27) (G3 6 2 9)),
  .p (.mv (h0 g28)) (i0 s12)])
 (.seq (.reg [.p (.ld true 11 (h0 g4)) (i0 s30),
  .p (.ld true 11 (h0 g5)) (i0 s31),
  .p (.call 27 [(h0 g30), (h0 g31)] (G3 6 3 2)) (i0 s32),
  .p (.mv (h0 g32)) (i0 s29),
  .p (.ex (h0 g29) 0) (i0 s33),
  .p (.ex (h0 g29) 1) (i0 s34),
  .p (.mv (h0 g33)) (i0 s13),
  .p (.mv (h0 g34)) (i0 s14)])
 (.seq (.reg [.p (.ld true 11 (h0 g4)) (i0 s36),
  .p (.ld true 11 (h0 g5)) (i0 s37),
  .p (.call 28 [(h0 g36), (h0 g37)] (G3 6 4 2)) (i0 s38),
  .p (.mv (h0 g38)) (i0 s35),
  .p (.ex (h0 g35) 0) (i0 s39),
  .p (.ex (h0 g35) 1) (i0 s40),
  .p (.mv (h0 g39)) (i0 s15),
  .p (.mv (h0 g40)) (i0 s16)])
 (.seq (.reg [.p (.ld true 11 (h0 g7)) (i0 s41),
  .p (.ld true 11 (h0 g10)) (i0 s42),
  .p (.eqs .eql [(.mk 0 .int), (.mk 1 .int), (.mk 2 .int), (.mk 3 .int), (.mk 4 .int), (.mk 5 .int), (.mk 6 .int), (.mk 7 .bool), (.mk 8 .bool), (.mk 9 .int), (.mk 10 .int)] (h0 g41) (h0 g42) (G3 6 5 2)) (i0 s43),
  .p (.mv (h0 g43)) (i0 s44),
  .gp (h0 g44) true (.ld true 11 (h0 g8)) (i0 s45),
  .gp (h0 g44) true (.ld true 11 (h0 g11)) (i0 s46),
  .gp (h0 g44) true (.eqs .eql [(.mk 0 .int), (.mk 1 .int), (.mk 2 .int), (.mk 3 .int), (.mk 4 .int), (.mk 5 .int), (.mk 6 .int), (.mk 7 .bool), (.mk 8 .bool), (.mk 9 .int), (.mk 10 .int)] (h0 g45) (h0 g46) (G3 6 5 6)) (i0 s47),
  .p (.pk (h0 g44) (h0 g47) (kc (.tc (.sc (.bool false))))) (i0 s48),
  .p (.mv (h0 g48)) (i0 s49),
  .gp (h0 g49) true (.mv (h0 g9)) (i0 s50),
  .gp (h0 g49) true (.mv (h0 g12)) (i0 s51),
  .gp (h0 g49) true (.bin .eql (h0 g50) (h0 g51) (G3 6 5 11)) (i0 s52),
  .p (.pk (h0 g49) (h0 g52) (kc (.tc (.sc (.bool false))))) (i0 s53),
  .p (.mv (h0 g53)) (i0 s54),
  .gp (h0 g54) true (.mv (h0 g13)) (i0 s55),
  .gp (h0 g54) true (.mv (h0 g15)) (i0 s56),
  .gp (h0 g54) true (.bin .eql (h0 g55) (h0 g56) (G3 6 5 16)) (i0 s57),
  .p (.pk (h0 g54) (h0 g57) (kc (.tc (.sc (.bool false))))) (i0 s58),
  .p (.mv (h0 g58)) (i0 s59),
  .gp (h0 g59) true (.mv (h0 g14)) (i0 s60),
  .gp (h0 g59) true (.mv (h0 g16)) (i0 s61),
  .gp (h0 g59) true (.bin .eql (h0 g60) (h0 g61) (G3 6 5 21)) (i0 s62),
  .p (.pk (h0 g59) (h0 g62) (kc (.tc (.sc (.bool false))))) (i0 s63),
  .p (.mv (h0 g63)) (i1 s0),
  .gp (h1 g0) true (.mv (h0 g0)) (i1 s1),
  .gp (h1 g0) true (.call 29 [(h1 g1)] (G3 6 5 25)) (i1 s2),
  .gp (h1 g0) true (.mv (h0 g0)) (i1 s3),
  .gp (h1 g0) true (.call 30 [(h1 g3)] (G3 6 5 27)) (i1 s4),
  .gp (h1 g0) true (.bin .eql (h1 g2) (h1 g4) (G3 6 5 28)) (i1 s5),
  .p (.pk (h1 g0) (h1 g5) (kc (.tc (.sc (.bool false))))) (i1 s6),
  .p (.mv (h1 g6)) (i1 s7),
  .gp (h1 g7) true (.call 31 [] (G3 6 5 31)) (i1 s8),
  .p (.pk (h1 g7) (h1 g8) (kc (.tc (.sc (.bool false))))) (i1 s9),
  .p (.mv (h1 g9)) (i0 s6)])
 .ret)))))),
 [.tmp (h0 g6)]⟩
theorem ffDup6_ok : compF SBDup 6 = ffDup6 := by kernel_rfl
noncomputable def ffDup25 : FF := .t2 ⟨52,
 (.seq (.reg [.p (.al 11 [(.sc (.int .u8 0)), (.sc (.int .u8 0)), (.sc (.int .u8 0)), (.sc (.int .u8 0)), (.sc (.int .u8 0)), (.sc (.int .u8 0)), (.sc (.int .u8 0)), (.sc (.bool false)), (.sc (.bool false)), (.sc (.int .u16 0)), (.sc (.int .i64 0))]) s2,
  .p (.al 11 [(.sc (.int .u8 0)), (.sc (.int .u8 0)), (.sc (.int .u8 0)), (.sc (.int .u8 0)), (.sc (.int .u8 0)), (.sc (.int .u8 0)), (.sc (.int .u8 0)), (.sc (.bool false)), (.sc (.bool false)), (.sc (.int .u16 0)), (.sc (.int .i64 0))]) s3,
  .p (.mv (kc (.tc (.sc (.bool false))))) s4])
 (.seq (.seq (.reg [.p (.mv g0) s13,
  .p (.call 32 [g13] (G2 25 1 1)) s14,
  .p (.mv g14) s12,
  .p (.ex g12 0) s15,
  .p (.ex g12 1) s16,
  .p (.ex g12 2) s17,
  .p (.mv g15) s5,
  .p (.mv g16) s6,
  .p (.mv g17) s7])
 (.seq (.reg [.p (.mv g7) s18,
  .p (.bin .neq g18 (kc (.tc (.sc (.int .u8 0)))) (G2 25 2 1)) s19])
 (.cond g19 (.seq (.reg [.p (.bd [(.tc (.sc (.int .u8 0))), (.tc (.sc (.int .u8 0))), (.tc (.sc (.int .u8 0))), (.tc (.sc (.int .u8 0))), (.tc (.sc (.int .u8 0))), (.tc (.sc (.int .u8 0))), (.tc (.sc (.int .u8 0))), (.tc (.sc (.bool false))), (.tc (.sc (.bool false))), (.tc (.sc (.int .u16 0))), (.tc (.sc (.int .i64 0)))] [] (G2 25 3 0)) s20,
  .p (.bd [(.tc (.sc (.int .u8 0))), (.tc (.sc (.int .u8 0))), (.tc (.sc (.int .u8 0))), (.tc (.sc (.int .u8 0))), (.tc (.sc (.int .u8 0))), (.tc (.sc (.int .u8 0))), (.tc (.sc (.int .u8 0))), (.tc (.sc (.bool false))), (.tc (.sc (.bool false))), (.tc (.sc (.int .u16 0))), (.tc (.sc (.int .i64 0)))] [] (G2 25 3 1)) s21,
  .n (.st 11 g2 g20 (G2 25 3 2)),
  .n (.st 11 g3 g21 (G2 25 3 3)),
  .p (.mv (kc (.tc (.sc (.bool false))))) s4])
 .ret)
 .skip)))
 (.seq (.reg [.p (.mv g0) s22,
  .p (.call 46 [g22] (G2 25 4 1)) s23,
  .p (.mv g23) s8])
 (.seq (.reg [.p (.mv g8) s25,
  .p (.bin .shr g25 (kc (.tc (.sc (.int .u64 15)))) (G2 25 5 1)) s26,
  .p (.cv .u16 g26 (G2 25 5 2)) s27,
  .p (.call 19 [g27] (G2 25 5 3)) s28,
  .p (.mv g28) s24,
  .p (.ex g24 0) s29,
  .p (.ex g24 1) s30,
  .p (.al 11 [(.sc (.int .u8 0)), (.sc (.int .u8 0)), (.sc (.int .u8 0)), (.sc (.int .u8 0)), (.sc (.int .u8 0)), (.sc (.int .u8 0)), (.sc (.int .u8 0)), (.sc (.bool false)), (.sc (.bool false)), (.sc (.int .u16 0)), (.sc (.int .i64 0))]) s9,
  .n (.st 11 g9 g29 (G2 25 5 8)),
  .p (.mv g30) s4])
 (.seq (.reg [.p (.mv g8) s32,
  .p (.bin .and g32 (kc (.tc (.sc (.int .u32 32767)))) (G2 25 6 1)) s33,
  .p (.cv .u16 g33 (G2 25 6 2)) s34,
  .p (.call 19 [g34] (G2 25 6 3)) s35,
  .p (.mv g35) s31,
  .p (.ex g31 0) s36,
  .p (.ex g31 1) s37,
  .p (.al 11 [(.sc (.int .u8 0)), (.sc (.int .u8 0)), (.sc (.int .u8 0)), (.sc (.int .u8 0)), (.sc (.int .u8 0)), (.sc (.int .u8 0)), (.sc (.int .u8 0)), (.sc (.bool false)), (.sc (.bool false)), (.sc (.int .u16 0)), (.sc (.int .i64 0))]) s10,
  .n (.st 11 g10 g36 (G2 25 6 8)),
  .p (.mv g37) s11])
 (.seq (.seq (.reg [.p (.mv g4) s38,
  .p (.nt g38 (G2 25 7 1)) s39,
  .p (.mv g39) s40,
  .gp g40 false (.mv g11) s41,
  .gp g40 false (.nt g41 (G2 25 7 4)) s42,
  .p (.pk g40 (kc (.tc (.sc (.bool true)))) g42) s43,
  .p (.mv g43) s44,
  .gp g44 false (.ld true 11 g9) s45,
  .gp g44 false (.call 47 [g45] (G2 25 7 8)) s46,
  .p (.pk g44 (kc (.tc (.sc (.bool true)))) g46) s47])
 (.cond g47 (.seq (.reg [.p (.bd [(.tc (.sc (.int .u8 0))), (.tc (.sc (.int .u8 0))), (.tc (.sc (.int .u8 0))), (.tc (.sc (.int .u8 0))), (.tc (.sc (.int .u8 0))), (.tc (.sc (.int .u8 0))), (.tc (.sc (.int .u8 0))), (.tc (.sc (.bool false))), (.tc (.sc (.bool false))), (.tc (.sc (.int .u16 0))), (.tc (.sc (.int .i64 0)))] [] (G2 25 8 0)) s48,
  .p (.bd [(.tc (.sc (.int .u8 0))), (.tc (.sc (.int .u8 0))), (.tc (.sc (.int .u8 0))), (.tc (.sc (.int .u8 0))), (.tc (.sc (.int .u8 0))), (.tc (.sc (.int .u8 0))), (.tc (.sc (.int .u8 0))), (.tc (.sc (.bool false))), (.tc (.sc (.bool false))), (.tc (.sc (.int .u16 0))), (.tc (.sc (.int .i64 0)))] [] (G2 25 8 1)) s49,
  .n (.st 11 g2 g48 (G2 25 8 2)),
  .n (.st 11 g3 g49 (G2 25 8 3)),
  .p (.mv (kc (.tc (.sc (.bool false))))) s4])
 .ret)
 .skip))
 (.seq (.regD [0, 0, 1, 7, 15] [(.rd (.ld true 11 g9) g50), (.rd (.ld true 11 g10) g51), .no, .no, .no] [.mk .none .yes (.ld true 11 g9) (.ld true 11 g9) (some s50),
  .mk .none .yes (.ld true 11 g10) (.ld true 11 g10) (some s51),
  .mk .none .no (.st 11 g2 g50 (G2 25 9 2)) (.st 11 g2 g50 (G2 25 9 2)) none,
  .mk .none .no (.st 11 g3 g51 (G2 25 9 3)) (.st 11 g3 g51 (G2 25 9 3)) none,
  .mk .none .yes (.mv (kc (.tc (.sc (.bool true))))) (.mv (kc (.tc (.sc (.bool true))))) (some s4)])
 .ret))))))),
 [.cell g2 true 11, .cell g3 true 11, .tmp g4]⟩
theorem ffDup25_ok : compF SBDup 25 = ffDup25 := by kernel_rfl
noncomputable def ffDup32 : FF := .t2 ⟨27,
 (.seq (.reg [.p (.mv (kc (.tc (.sc (.int .u8 0))))) s2,
  .p (.mv (kc (.tc (.sc (.int .u32 0))))) s3,
  .p (.mv (kc (.tc (.sc (.int .u8 0))))) s4])
 (.seq (.regD [0, 1, 0, 7, 0, 16, 0, 127, 0, 256, 768, 2047, 4095, 8191] [.no, (.rd (.ld true 2 g5) g6), .no, .no, .no, (.rd (.ld true 2 g9) g10), .no, .no, .no, .no, (.rd (.ld false 1 g14) g15), .no, .no, .no] [.mk .none .yes (.gen (G2 32 1 0)) (.gen (G2 32 1 0)) (some s5),
  .mk .none .yes (.ld true 2 g5) (.ld true 2 g5) (some s6),
  .mk .none .yes (.mv g0) (.mv g0) (some s7),
  .mk .none (.dyn 53 [g6, g7]) (.call 53 [g6, g7] (G2 32 1 3)) (.call 53 [g6, g7] (G2 32 1 3)) (some s8),
  .mk .none .yes (.gen (G2 32 1 4)) (.gen (G2 32 1 4)) (some s9),
  .mk .none .yes (.ld true 2 g9) (.ld true 2 g9) (some s10),
  .mk .none .yes (.mv g0) (.mv g0) (some s11),
  .mk .none (.dyn 53 [g10, g11]) (.call 53 [g10, g11] (G2 32 1 7)) (.call 53 [g10, g11] (G2 32 1 7)) (some s12),
  .mk .none .yes (.gen (G2 32 1 8)) (.gen (G2 32 1 8)) (some s13),
  .mk .none .yes (.fa 1 g13) (.fa 1 g13) (some s14),
  .mk .none .yes (.ld false 1 g14) (.ld false 1 g14) (some s15),
  .mk .none .yes (.bin .shl g12 g15 (G2 32 1 11)) (.bin .shl g12 g15 (G2 32 1 11)) (some s16),
  .mk .none .yes (.bin .or g8 g16 (G2 32 1 12)) (.bin .or g8 g16 (G2 32 1 12)) (some s17),
  .mk .none .yes (.mv g17) (.mv g17) (some s3)])
 (.seq (.regD [0, 0, 3, 7, 0, 0, 0, 103, 231, 239, 767, 2047] [(.rd (.ld true 2 (kc (.vptr gwDup2 [glDup2] 0 0))) g18), .no, .no, (.rd (.cv .u8 g20 (G2 32 2 3)) g21), .no, (.rd (.ld true 2 (kc (.vptr gwDup3 [glDup3] 0 0))) g23), .no, .no, (.rd (.cv .u8 g25 (G2 32 2 8)) g26), .no, .no, .no] [.mk .none .yes (.ld true 2 (kc (.vptr gwDup2 [glDup2] 0 0))) (.ld true 2 (kc (.vptr gwDup2 [glDup2] 0 0))) (some s18),
  .mk .none .yes (.mv g0) (.mv g0) (some s19),
  .mk .none (.dyn 53 [g18, g19]) (.call 53 [g18, g19] (G2 32 2 2)) (.call 53 [g18, g19] (G2 32 2 2)) (some s20),
  .mk .none .yes (.cv .u8 g20 (G2 32 2 3)) (.cv .u8 g20 (G2 32 2 3)) (some s21),
  .mk .none .yes (.mv g3) (.mv g3) (some s22),
  .mk .none .yes (.ld true 2 (kc (.vptr gwDup3 [glDup3] 0 0))) (.ld true 2 (kc (.vptr gwDup3 [glDup3] 0 0))) (some s23),
  .mk .none .yes (.mv g0) (.mv g0) (some s24),
  .mk .none (.dyn 53 [g23, g24]) (.call 53 [g23, g24] (G2 32 2 7)) (.call 53 [g23, g24] (G2 32 2 7)) (some s25),
  .mk .none .yes (.cv .u8 g25 (G2 32 2 8)) (.cv .u8 g25 (G2 32 2 8)) (some s26),
  .mk .none .yes (.mv g21) (.mv g21) (some s2),
  .mk .none .yes (.mv g22) (.mv g22) (some s3),
  .mk .none .yes (.mv g26) (.mv g26) (some s4)])
 .ret))),
 [.tmp g2, .tmp g3, .tmp g4]⟩
theorem ffDup32_ok : compF SBDup 32 = ffDup32 := by kernel_rfl
noncomputable def ffDup53 : FF := .t2 ⟨14,
 (.seq (.reg [.p (.bx 2 g0 (G2 53 0 0)) s2,
  .p (.mv (kc (.tc (.sc (.int .u32 0))))) s4])
 (.seq (.regD [0, 1, 0, 4, 15, 31, 0, 64, 255, 511] [.no, (.rd (.cv .u64 g5 (G2 53 1 1)) g6), .no, (.rd (.ld false 1 g7) g8), .no, (.rd (.cv .u32 g9 (G2 53 1 5)) g10), (.rd (.ld true 2 g2) g11), .no, .no, .no] [.mk .none .yes (.mv g1) (.mv g1) (some s5),
  .mk .none .yes (.cv .u64 g5 (G2 53 1 1)) (.cv .u64 g5 (G2 53 1 1)) (some s6),
  .mk .none .yes (.fa 0 g2) (.fa 0 g2) (some s7),
  .mk .none .yes (.ld false 1 g7) (.ld false 1 g7) (some s8),
  .mk .none .yes (.bin .shr g6 g8 (G2 53 1 4)) (.bin .shr g6 g8 (G2 53 1 4)) (some s9),
  .mk .none .yes (.cv .u32 g9 (G2 53 1 5)) (.cv .u32 g9 (G2 53 1 5)) (some s10),
  .mk .none .yes (.ld true 2 g2) (.ld true 2 g2) (some s11),
  .mk .none (.dyn 73 [g11]) (.call 73 [g11] (G2 53 1 7)) (.call 73 [g11] (G2 53 1 7)) (some s12),
  .mk .none .yes (.bin .and g10 g12 (G2 53 1 8)) (.bin .and g10 g12 (G2 53 1 8)) (some s13),
  .mk .none .yes (.mv g13) (.mv g13) (some s4)])
 .ret)),
 [.tmp g4]⟩
theorem ffDup53_ok : compF SBDup 53 = ffDup53 := by kernel_rfl
noncomputable def ffDup73 : FF := .t2 ⟨8,
 (.seq (.reg [.p (.bx 2 g0 (G2 73 0 0)) s1,
  .p (.mv (kc (.tc (.sc (.int .u32 0))))) s2])
 (.seq (.reg [.p (.fa 1 g1) s3,
  .p (.ld false 1 g3) s4,
  .p (.bin .shl (kc (.tc (.sc (.int .u64 1)))) g4 (G2 73 1 2)) s5,
  .p (.bin .sub g5 (kc (.tc (.sc (.int .u64 1)))) (G2 73 1 3)) s6,
  .p (.cv .u32 g6 (G2 73 1 4)) s7,
  .p (.mv g7) s2])
 .ret)),
 [.tmp g2]⟩
theorem ffDup73_ok : compF SBDup 73 = ffDup73 := by kernel_rfl
noncomputable def ffDup46 : FF := .t2 ⟨15,
 (.seq (.reg [.p (.mv (kc (.tc (.sc (.int .u32 0))))) s2])
 (.seq (.regD [0, 1, 0, 7, 0, 0, 63, 0, 128, 384, 1023, 2047, 4095] [.no, (.rd (.ld true 2 g3) g4), .no, .no, (.rd (.ld true 2 (kc (.vptr gwDup4 [glDup4] 0 0))) g7), .no, .no, .no, .no, (.rd (.ld false 1 g11) g12), .no, .no, .no] [.mk .none .yes (.gen (G2 46 1 0)) (.gen (G2 46 1 0)) (some s3),
  .mk .none .yes (.ld true 2 g3) (.ld true 2 g3) (some s4),
  .mk .none .yes (.mv g0) (.mv g0) (some s5),
  .mk .none (.dyn 53 [g4, g5]) (.call 53 [g4, g5] (G2 46 1 3)) (.call 53 [g4, g5] (G2 46 1 3)) (some s6),
  .mk .none .yes (.ld true 2 (kc (.vptr gwDup4 [glDup4] 0 0))) (.ld true 2 (kc (.vptr gwDup4 [glDup4] 0 0))) (some s7),
  .mk .none .yes (.mv g0) (.mv g0) (some s8),
  .mk .none (.dyn 53 [g7, g8]) (.call 53 [g7, g8] (G2 46 1 6)) (.call 53 [g7, g8] (G2 46 1 6)) (some s9),
  .mk .none .yes (.gen (G2 46 1 7)) (.gen (G2 46 1 7)) (some s10),
  .mk .none .yes (.fa 1 g10) (.fa 1 g10) (some s11),
  .mk .none .yes (.ld false 1 g11) (.ld false 1 g11) (some s12),
  .mk .none .yes (.bin .shl g9 g12 (G2 46 1 10)) (.bin .shl g9 g12 (G2 46 1 10)) (some s13),
  .mk .none .yes (.bin .or g6 g13 (G2 46 1 11)) (.bin .or g6 g13 (G2 46 1 11)) (some s14),
  .mk .none .yes (.mv g14) (.mv g14) (some s2)])
 .ret)),
 [.tmp g2]⟩
theorem ffDup46_ok : compF SBDup 46 = ffDup46 := by kernel_rfl
noncomputable def ffDup19 : FF := .t2 ⟨60,
 (.seq (.reg [.p (.al 11 [(.sc (.int .u8 0)), (.sc (.int .u8 0)), (.sc (.int .u8 0)), (.sc (.int .u8 0)), (.sc (.int .u8 0)), (.sc (.int .u8 0)), (.sc (.int .u8 0)), (.sc (.bool false)), (.sc (.bool false)), (.sc (.int .u16 0)), (.sc (.int .i64 0))]) s2,
  .p (.mv (kc (.tc (.sc (.bool false))))) s3])
 (.seq (.reg [.p (.mv g0) s10,
  .p (.bin .shr g10 (kc (.tc (.sc (.int .u64 11)))) (G2 19 1 1)) s11,
  .p (.cv .i64 g11 (G2 19 1 2)) s12,
  .p (.mv g12) s4])
 (.seq (.seq (.reg [.p (.mv g4) s13,
  .p (.bin .lss g13 (kc (.tc (.sc (.int .i64 1)))) (G2 19 2 1)) s14,
  .p (.mv g14) s15,
  .gp g15 false (.mv g4) s16,
  .gp g15 false (.ld false 1 (kc (.vptr gwDup0 [glDup0] 0 0))) s17,
  .gp g15 false (.len g17 (G2 19 2 5)) s18,
  .gp g15 false (.bin .gtr g16 g18 (G2 19 2 6)) s19,
  .p (.pk g15 (kc (.tc (.sc (.bool true)))) g19) s20])
 (.cond g20 (.seq (.reg [.p (.bd [(.tc (.sc (.int .u8 0))), (.tc (.sc (.int .u8 0))), (.tc (.sc (.int .u8 0))), (.tc (.sc (.int .u8 0))), (.tc (.sc (.int .u8 0))), (.tc (.sc (.int .u8 0))), (.tc (.sc (.int .u8 0))), (.tc (.sc (.bool false))), (.tc (.sc (.bool false))), (.tc (.sc (.int .u16 0))), (.tc (.sc (.int .i64 0)))] [] (G2 19 3 0)) s21,
  .n (.st 11 g2 g21 (G2 19 3 1)),
  .p (.mv (kc (.tc (.sc (.bool false))))) s3])
 .ret)
 .skip))
 (.seq (.reg [.p (.ld false 1 (kc (.vptr gwDup0 [glDup0] 0 0))) s22,
  .p (.mv g4) s23,
  .p (.bin .sub g23 (kc (.tc (.sc (.int .i64 1)))) (G2 19 4 2)) s24,
  .p (.ia 10 g22 g24 (G2 19 4 3)) s25,
  .p (.ld true 10 g25) s26,
  .p (.al 10 [(.sc (.int .u8 0)), (.sc (.int .i64 0)), (.sc (.int .i64 0)), (.sc (.int .i64 0)), (.sc (.int .i64 0)), (.sc (.int .i64 0)), (.sc (.int .i64 0)), (.sc (.int .i64 0)), (.sc (.int .i64 0)), (.sc (.int .i64 0))]) s5,
  .n (.st 10 g5 g26 (G2 19 4 6))])
 (.seq (.reg [.p (.fa 0 g5) s27,
  .p (.ld false 1 g27) s28,
  .p (.bd [(.tc (.sc (.int .u8 0))), (.tc (.sc (.int .u8 0))), (.tc (.sc (.int .u8 0))), (.tc (.sc (.int .u8 0))), (.tc (.sc (.int .u8 0))), (.tc (.sc (.int .u8 0))), (.tc (.sc (.int .u8 0))), (.tc (.sc (.bool false))), (.tc (.sc (.bool false))), (.tc (.sc (.int .u16 0))), (.tc (.sc (.int .i64 0)))] [(.mk 0 1 g28)] (G2 19 5 2)) s29,
  .p (.al 11 [(.sc (.int .u8 0)), (.sc (.int .u8 0)), (.sc (.int .u8 0)), (.sc (.int .u8 0)), (.sc (.int .u8 0)), (.sc (.int .u8 0)), (.sc (.int .u8 0)), (.sc (.bool false)), (.sc (.bool false)), (.sc (.int .u16 0)), (.sc (.int .i64 0))]) s6,
  .n (.st 11 g6 g29 (G2 19 5 4))])
 (.seq (.reg [.p (.mv (kc (.tc (.sc (.int .i64 11))))) s7])
 (.seq (.seq (.reg [.p (.fa 1 g5) s30,
  .p (.ld true 9 g30) s31,
  .p (.mv (kc (.tc (.sc (.int .i64 0))))) s32])
 (.block 0 (.loop 4294967296 (.seq (.reg [.p (.bin .lss g32 (kc (.tc (.sc (.int .i64 3)))) (G2 19 8 0)) s33])
 (.seq (.cond g33 .skip
 (.exit 0))
 (.seq (.block 1 (.seq (.reg [.p (.gen (G2 19 9 0)) s34,
  .p (.al 3 [(.sc (.int .i64 0)), (.sc (.int .i64 0)), (.sc (.int .i64 0))]) s9,
  .n (.st 3 g9 g34 (G2 19 9 2))])
 (.seq (.reg [.p (.mv g7) s35,
  .p (.fa 1 g9) s36,
  .p (.ld false 1 g36) s37,
  .p (.bin .sub g35 g37 (G2 19 10 3)) s38,
  .p (.mv g38) s7])
 (.regD [0, 0, 2, 0, 0, 16, 62, 127] [(.rd (.ld true 3 g9) g39), .no, (.rd (.cv .u32 g40 (G2 19 11 2)) g41), .no, .no, (.rd (.ld false 1 g43) g44), .no, .no] [.mk .none .yes (.ld true 3 g9) (.ld true 3 g9) (some s39),
  .mk .none .yes (.mv g0) (.mv g0) (some s40),
  .mk .none .yes (.cv .u32 g40 (G2 19 11 2)) (.cv .u32 g40 (G2 19 11 2)) (some s41),
  .mk .none .yes (.mv g7) (.mv g7) (some s42),
  .mk .none .yes (.fa 1 g9) (.fa 1 g9) (some s43),
  .mk .none .yes (.ld false 1 g43) (.ld false 1 g43) (some s44),
  .mk .none (.dyn 39 [g41, g42, g44]) (.call 39 [g41, g42, g44] (G2 19 11 6)) (.call 39 [g41, g42, g44] (G2 19 11 6)) (some s45),
  .mk .none (.dyn 38 [g39, g6, g45]) (.call 38 [g39, g6, g45] (G2 19 11 7)) (.call 38 [g39, g6, g45] (G2 19 11 7)) (some s46)]))))
 (.reg [.p (.bin .add g32 (kc (.tc (.sc (.int .i64 1)))) (G2 19 12 0)) s47,
  .p (.mv g47) s32])))))))
 (.seq (.seq (.reg [.p (.mv g0) s48,
  .p (.cv .u32 g48 (G2 19 13 1)) s49,
  .p (.mv g7) s50,
  .p (.call 39 [g49, (kc (.tc (.sc (.int .i64 0)))), g50] (G2 19 13 3)) s51,
  .p (.bin .neq g51 (kc (.tc (.sc (.int .u32 0)))) (G2 19 13 4)) s52,
  .p (.mv g52) s53,
  .gp g53 false (.ld true 11 g6) s54,
  .gp g53 false (.call 24 [g54] (G2 19 13 7)) s55,
  .gp g53 false (.nt g55 (G2 19 13 8)) s56,
  .p (.pk g53 (kc (.tc (.sc (.bool true)))) g56) s57])
 (.cond g57 (.seq (.reg [.p (.bd [(.tc (.sc (.int .u8 0))), (.tc (.sc (.int .u8 0))), (.tc (.sc (.int .u8 0))), (.tc (.sc (.int .u8 0))), (.tc (.sc (.int .u8 0))), (.tc (.sc (.int .u8 0))), (.tc (.sc (.int .u8 0))), (.tc (.sc (.bool false))), (.tc (.sc (.bool false))), (.tc (.sc (.int .u16 0))), (.tc (.sc (.int .i64 0)))] [] (G2 19 14 0)) s58,
  .n (.st 11 g2 g58 (G2 19 14 1)),
  .p (.mv (kc (.tc (.sc (.bool false))))) s3])
 .ret)
 .skip))
 (.seq (.reg [.p (.ld true 11 g6) s59,
  .n (.st 11 g2 g59 (G2 19 15 1)),
  .p (.mv (kc (.tc (.sc (.bool true))))) s3])
 .ret))))))))),
 [.cell g2 true 11, .tmp g3]⟩
theorem ffDup19_ok : compF SBDup 19 = ffDup19 := by kernel_rfl
noncomputable def ffDup39 : FF := .t2 ⟨17,
 (.seq (.reg [.p (.mv (kc (.tc (.sc (.int .u32 0))))) s6])
 (.seq (.reg [.p (.mv g1) s8,
  .p (.mv g2) s9,
  .p (.bd [(.tc (.sc (.int .i64 0))), (.tc (.sc (.int .i64 0)))] [(.mk 0 1 g8), (.mk 1 1 g9)] (G2 39 1 2)) s10,
  .p (.al 2 [(.sc (.int .i64 0)), (.sc (.int .i64 0))]) s7,
  .n (.st 2 g7 g10 (G2 39 1 4))])
 (.seq (.seq (.reg [.p (.ld true 2 g7) s11,
  .p (.call 64 [g11] (G2 39 2 1)) s12,
  .p (.nt g12 (G2 39 2 2)) s13])
 (.cond g13 (.seq (.reg [.p (.mv (kc (.tc (.sc (.int .u32 0))))) s6])
 .ret)
 .skip))
 (.seq (.reg [.p (.ld true 2 g7) s14,
  .p (.mv g0) s15,
  .p (.call 53 [g14, g15] (G2 39 4 2)) s16,
  .p (.mv g16) s6])
 .ret)))),
 [.tmp g6]⟩
theorem ffDup39_ok : compF SBDup 39 = ffDup39 := by kernel_rfl
noncomputable def ffDup64 : FF := .t2 ⟨24,
 (.seq (.reg [.p (.bx 2 g0 (G2 64 0 0)) s1,
  .p (.mv (kc (.tc (.sc (.bool false))))) s2])
 (.seq (.reg [.p (.fa 0 g1) s3,
  .p (.ld false 1 g3) s4,
  .p (.bin .geq g4 (kc (.tc (.sc (.int .i64 0)))) (G2 64 1 2)) s5,
  .p (.mv g5) s6,
  .gp g6 true (.fa 1 g1) s7,
  .gp g6 true (.ld false 1 g7) s8,
  .gp g6 true (.bin .geq g8 (kc (.tc (.sc (.int .i64 0)))) (G2 64 1 6)) s9,
  .p (.pk g6 g9 (kc (.tc (.sc (.bool false))))) s10,
  .p (.mv g10) s11,
  .gp g11 true (.fa 0 g1) s12,
  .gp g11 true (.ld false 1 g12) s13,
  .gp g11 true (.bin .leq g13 (kc (.tc (.sc (.int .i64 32)))) (G2 64 1 11)) s14,
  .p (.pk g11 g14 (kc (.tc (.sc (.bool false))))) s15,
  .p (.mv g15) s16,
  .gp g16 true (.fa 1 g1) s17,
  .gp g16 true (.ld false 1 g17) s18,
  .gp g16 true (.fa 0 g1) s19,
  .gp g16 true (.ld false 1 g19) s20,
  .gp g16 true (.bin .sub (kc (.tc (.sc (.int .i64 32)))) g20 (G2 64 1 18)) s21,
  .gp g16 true (.bin .leq g18 g21 (G2 64 1 19)) s22,
  .p (.pk g16 g22 (kc (.tc (.sc (.bool false))))) s23,
  .p (.mv g23) s2])
 .ret)),
 [.tmp g2]⟩
theorem ffDup64_ok : compF SBDup 64 = ffDup64 := by kernel_rfl
noncomputable def ffDup38 : FF := .t2 ⟨63,
 (.seq (.reg [.p (.bx 3 g0 (G2 38 0 0)) s3])
 (.seq (.reg [.p (.fa 0 g3) s6,
  .p (.ld false 1 g6) s7])
 (.block 0 (.seq (.reg [.p (.bin .eql g7 (kc (.tc (.sc (.int .i64 1)))) (G2 38 2 0)) s9,
  .p (.mv g9) s8])
 (.cond g8 (.reg [.p (.mv g1) s10,
  .p (.mv g2) s11,
  .p (.call 62 [g11] (G2 38 3 2)) s12,
  .p (.nc g10 (G2 38 3 3)) s13,
  .p (.fa 1 g13) s14,
  .n (.st 1 g14 g12 (G2 38 3 5))])
 (.seq (.reg [.p (.bin .eql g7 (kc (.tc (.sc (.int .i64 2)))) (G2 38 4 0)) s16,
  .p (.mv g16) s15])
 (.cond g15 (.reg [.p (.mv g1) s17,
  .p (.mv g2) s18,
  .p (.call 62 [g18] (G2 38 5 2)) s19,
  .p (.nc g17 (G2 38 5 3)) s20,
  .p (.fa 2 g20) s21,
  .n (.st 1 g21 g19 (G2 38 5 5))])
 (.seq (.reg [.p (.bin .eql g7 (kc (.tc (.sc (.int .i64 3)))) (G2 38 6 0)) s23,
  .p (.mv g23) s22])
 (.cond g22 (.reg [.p (.mv g1) s24,
  .p (.mv g2) s25,
  .p (.call 62 [g25] (G2 38 7 2)) s26,
  .p (.nc g24 (G2 38 7 3)) s27,
  .p (.fa 3 g27) s28,
  .n (.st 1 g28 g26 (G2 38 7 5))])
 (.seq (.reg [.p (.bin .eql g7 (kc (.tc (.sc (.int .i64 4)))) (G2 38 8 0)) s30,
  .p (.mv g30) s29])
 (.cond g29 (.reg [.p (.mv g1) s31,
  .p (.mv g1) s32,
  .p (.mv g2) s33,
  .p (.call 62 [g33] (G2 38 9 3)) s34,
  .p (.mv g2) s35,
  .p (.call 62 [g35] (G2 38 9 5)) s36,
  .p (.nc g31 (G2 38 9 6)) s37,
  .p (.fa 1 g37) s38,
  .n (.st 1 g38 g34 (G2 38 9 8)),
  .p (.nc g32 (G2 38 9 9)) s39,
  .p (.fa 2 g39) s40,
  .n (.st 1 g40 g36 (G2 38 9 11))])
 (.seq (.reg [.p (.bin .eql g7 (kc (.tc (.sc (.int .i64 5)))) (G2 38 10 0)) s42,
  .p (.mv g42) s41])
 (.cond g41 (.reg [.p (.mv g1) s43,
  .p (.mv g2) s44,
  .p (.cv .i64 g44 (G2 38 11 2)) s45,
  .p (.fa 2 g3) s46,
  .p (.ld false 1 g46) s47,
  .p (.bin .shl g45 g47 (G2 38 11 5)) s48,
  .p (.nc g43 (G2 38 11 6)) s49,
  .p (.fa 10 g49) s50,
  .n (.st 1 g50 g48 (G2 38 11 8))])
 (.seq (.reg [.p (.bin .eql g7 (kc (.tc (.sc (.int .i64 6)))) (G2 38 12 0)) s52,
  .p (.mv g52) s51])
 (.cond g51 (.regD [0, 0, 0, 4, 14, 0, 32, 126, 255, 511, 1023] [.no, .no, .no, (.rd (.ld false 1 g55) g56), .no, .no, (.rd (.ld false 1 g58) g59), .no, .no, .no, .no] [.mk .none .yes (.mv g1) (.mv g1) (some s53),
  .mk .none .yes (.mv g2) (.mv g2) (some s54),
  .mk .none .yes (.fa 1 g3) (.fa 1 g3) (some s55),
  .mk .none .yes (.ld false 1 g55) (.ld false 1 g55) (some s56),
  .mk .none (.dyn 63 [g54, g56]) (.call 63 [g54, g56] (G2 38 13 4)) (.call 63 [g54, g56] (G2 38 13 4)) (some s57),
  .mk .none .yes (.fa 2 g3) (.fa 2 g3) (some s58),
  .mk .none .yes (.ld false 1 g58) (.ld false 1 g58) (some s59),
  .mk .none .yes (.bin .shl g57 g59 (G2 38 13 7)) (.bin .shl g57 g59 (G2 38 13 7)) (some s60),
  .mk .none .yes (.nc g53 (G2 38 13 8)) (.nc g53 (G2 38 13 8)) (some s61),
  .mk .none .yes (.fa 10 g61) (.fa 10 g61) (some s62),
  .mk .none .no (.st 1 g62 g60 (G2 38 13 10)) (.st 1 g62 g60 (G2 38 13 10)) none])
 .skip))))))))))))))),
 []⟩
theorem ffDup38_ok : compF SBDup 38 = ffDup38 := by kernel_rfl
noncomputable def ffDup62 : FF := .t2 ⟨10,
 (.seq (.reg [.p (.mv (kc (.tc (.sc (.int .u8 0))))) s2])
 (.seq (.seq (.reg [.p (.mv g0) s3,
  .p (.bin .lss g3 (kc (.tc (.sc (.int .u32 8)))) (G2 62 1 1)) s4])
 (.cond g4 (.seq (.reg [.p (.mv g0) s5,
  .p (.cv .u8 g5 (G2 62 2 1)) s6,
  .p (.mv g6) s2])
 .ret)
 .skip))
 (.seq (.reg [.p (.mv g0) s7,
  .p (.bin .add g7 (kc (.tc (.sc (.int .u32 8)))) (G2 62 3 1)) s8,
  .p (.cv .u8 g8 (G2 62 3 2)) s9,
  .p (.mv g9) s2])
 .ret))),
 [.tmp g2]⟩
theorem ffDup62_ok : compF SBDup 62 = ffDup62 := by kernel_rfl
noncomputable def ffDup63 : FF := .t2 ⟨27,
 (.seq (.reg [.p (.mv (kc (.tc (.sc (.int .i64 0))))) s4])
 (.seq (.seq (.reg [.p (.mv g1) s6,
  .p (.bin .lss g6 (kc (.tc (.sc (.int .i64 1)))) (G2 63 1 1)) s7,
  .p (.mv g7) s8,
  .gp g8 false (.mv g1) s9,
  .gp g8 false (.bin .gtr g9 (kc (.tc (.sc (.int .i64 32)))) (G2 63 1 4)) s10,
  .p (.pk g8 (kc (.tc (.sc (.bool true)))) g10) s11])
 (.cond g11 (.seq (.reg [.p (.mv (kc (.tc (.sc (.int .i64 0))))) s4])
 .ret)
 .skip))
 (.seq (.reg [.p (.mv g1) s12,
  .p (.bd [(.tc (.sc (.int .i64 0))), (.tc (.sc (.int .i64 0)))] [(.mk 0 1 (kc (.tc (.sc (.int .i64 0))))), (.mk 1 1 g12)] (G2 63 3 1)) s13,
  .p (.mv g0) s14,
  .p (.call 53 [g13, g14] (G2 63 3 3)) s15,
  .p (.cv .i64 g15 (G2 63 3 4)) s16,
  .p (.mv g16) s5])
 (.seq (.seq (.reg [.p (.mv g5) s17,
  .p (.mv g1) s18,
  .p (.bin .sub g18 (kc (.tc (.sc (.int .i64 1)))) (G2 63 4 2)) s19,
  .p (.bin .shr g17 g19 (G2 63 4 3)) s20,
  .p (.bin .eql g20 (kc (.tc (.sc (.int .i64 1)))) (G2 63 4 4)) s21])
 (.cond g21 (.seq (.reg [.p (.mv g5) s22,
  .p (.mv g1) s23,
  .p (.bin .shl (kc (.tc (.sc (.int .i64 1)))) g23 (G2 63 5 2)) s24,
  .p (.bin .sub g22 g24 (G2 63 5 3)) s25,
  .p (.mv g25) s4])
 .ret)
 .skip))
 (.seq (.reg [.p (.mv g5) s26,
  .p (.mv g26) s4])
 .ret))))),
 [.tmp g4]⟩
theorem ffDup63_ok : compF SBDup 63 = ffDup63 := by kernel_rfl
noncomputable def ffDup24 : FF := .t2 ⟨54,
 (.seq (.reg [.p (.bx 11 g0 (G2 24 0 0)) s1,
  .p (.mv (kc (.tc (.sc (.bool false))))) s2])
 (.seq (.reg [.p (.fa 0 g1) s9,
  .p (.ld false 1 g9) s10,
  .p (.call 42 [g10] (G2 24 1 2)) s11,
  .p (.mv g11) s8,
  .p (.ex g8 0) s12,
  .p (.ex g8 1) s13,
  .p (.al 5 [(.sc (.int .u8 0)), (.sc (.string ⟨#[]⟩)), (.sc (.int .u8 0)), (.sc (.int .u8 0)), (.sc (.slice none 0 0))]) s3,
  .n (.st 5 g3 g12 (G2 24 1 7)),
  .p (.mv g13) s4])
 (.seq (.reg [.p (.ld true 11 g1) s14,
  .p (.al 11 [(.sc (.int .u8 0)), (.sc (.int .u8 0)), (.sc (.int .u8 0)), (.sc (.int .u8 0)), (.sc (.int .u8 0)), (.sc (.int .u8 0)), (.sc (.int .u8 0)), (.sc (.bool false)), (.sc (.bool false)), (.sc (.int .u16 0)), (.sc (.int .i64 0))]) s5,
  .n (.st 11 g5 g14 (G2 24 2 2))])
 (.seq (.reg [.p (.fa 0 g5) s15,
  .n (.st 1 g15 (kc (.tc (.sc (.int .u8 0)))) (G2 24 3 1))])
 (.seq (.seq (.reg [.p (.fa 4 g3) s16,
  .p (.ld false 1 g16) s17,
  .p (.len g17 (G2 24 4 2)) s18,
  .p (.mv (kc (.tc (.sc (.int .i64 0))))) s19])
 (.block 0 (.loop 4294967296 (.seq (.reg [.p (.bin .lss g19 g18 (G2 24 5 0)) s20])
 (.seq (.cond g20 .skip
 (.exit 0))
 (.seq (.block 1 (.seq (.reg [.p (.ia 5 g17 g19 (G2 24 6 0)) s21,
  .p (.ld true 5 g21) s22,
  .p (.al 5 [(.sc (.int .u8 0)), (.sc (.int .i64 0)), (.sc (.int .i64 0)), (.sc (.bool false)), (.sc (.bool false))]) s7,
  .n (.st 5 g7 g22 (G2 24 6 3))])
 (.seq (.reg [.p (.ld true 11 g5) s23,
  .p (.ld true 5 g7) s24,
  .p (.call 43 [g23, g24] (G2 24 7 2)) s25,
  .n (.st 11 g5 g25 (G2 24 7 3))])
 (.reg [.p (.mv g4) s26,
  .p (.mv g26) s27,
  .gp g27 true (.ld true 11 g1) s28,
  .gp g27 true (.ld true 5 g7) s29,
  .gp g27 true (.call 44 [g28, g29] (G2 24 8 4)) s30,
  .p (.pk g27 g30 (kc (.tc (.sc (.bool false))))) s31,
  .p (.mv g31) s4]))))
 (.reg [.p (.bin .add g19 (kc (.tc (.sc (.int .i64 1)))) (G2 24 9 0)) s32,
  .p (.mv g32) s19])))))))
 (.seq (.reg [.p (.mv g4) s33,
  .p (.mv g33) s34,
  .gp g34 true (.ld true 11 g5) s35,
  .gp g34 true (.bd [(.tc (.sc (.int .u8 0))), (.tc (.sc (.int .u8 0))), (.tc (.sc (.int .u8 0))), (.tc (.sc (.int .u8 0))), (.tc (.sc (.int .u8 0))), (.tc (.sc (.int .u8 0))), (.tc (.sc (.int .u8 0))), (.tc (.sc (.bool false))), (.tc (.sc (.bool false))), (.tc (.sc (.int .u16 0))), (.tc (.sc (.int .i64 0)))] [] (G2 24 10 3)) s36,
  .gp g34 true (.eqs .eql [(.mk 0 .int), (.mk 1 .int), (.mk 2 .int), (.mk 3 .int), (.mk 4 .int), (.mk 5 .int), (.mk 6 .int), (.mk 7 .bool), (.mk 8 .bool), (.mk 9 .int), (.mk 10 .int)] g35 g36 (G2 24 10 4)) s37,
  .p (.pk g34 g37 (kc (.tc (.sc (.bool false))))) s38,
  .p (.mv g38) s39,
  .gp g39 true (.ld true 11 g1) s40,
  .gp g39 true (.call 45 [g40] (G2 24 10 8)) s41,
  .gp g39 true (.mv g41) s42,
  .gp g42 true (.fa 6 g1) s43,
  .gp g42 true (.ld false 1 g43) s44,
  .gp g42 true (.bin .eql g44 (kc (.tc (.sc (.int .u8 0)))) (G2 24 10 12)) s45,
  .gp g39 true (.pk g42 g45 (kc (.tc (.sc (.bool false))))) s46,
  .gp g39 true (.mv g46) s47,
  .gp g47 true (.fa 5 g1) s48,
  .gp g47 true (.ld false 1 g48) s49,
  .gp g47 true (.bin .neq g49 (kc (.tc (.sc (.int .u8 0)))) (G2 24 10 17)) s50,
  .gp g39 true (.pk g47 g50 (kc (.tc (.sc (.bool false))))) s51,
  .gp g39 true (.nt g51 (G2 24 10 19)) s52,
  .p (.pk g39 g52 (kc (.tc (.sc (.bool false))))) s53,
  .p (.mv g53) s2])
 .ret)))))),
 [.tmp g2]⟩
theorem ffDup24_ok : compF SBDup 24 = ffDup24 := by kernel_rfl
noncomputable def ffDup42 : FF := .t2 ⟨17,
 (.seq (.reg [.p (.al 5 [(.sc (.int .u8 0)), (.sc (.string ⟨#[]⟩)), (.sc (.int .u8 0)), (.sc (.int .u8 0)), (.sc (.slice none 0 0))]) s2,
  .p (.mv (kc (.tc (.sc (.bool false))))) s3])
 (.seq (.reg [.p (.mv g0) s7,
  .p (.call 67 [g7] (G2 42 1 1)) s8,
  .p (.mv g8) s6,
  .p (.ex g6 0) s9,
  .p (.ex g6 1) s10,
  .p (.al 5 [(.sc (.int .u8 0)), (.sc (.string ⟨#[]⟩)), (.sc (.int .u8 0)), (.sc (.int .u8 0)), (.sc (.slice none 0 0))]) s4,
  .n (.st 5 g4 g9 (G2 42 1 6)),
  .p (.mv g10) s5])
 (.seq (.reg [.p (.fa 4 g4) s11,
  .p (.ld false 1 g11) s12,
  .p (.call 68 [g12] (G2 42 2 2)) s13,
  .p (.fa 4 g4) s14,
  .n (.st 1 g14 g13 (G2 42 2 4))])
 (.seq (.reg [.p (.ld true 5 g4) s15,
  .p (.mv g5) s16,
  .n (.st 5 g2 g15 (G2 42 3 2)),
  .p (.mv g16) s3])
 .ret)))),
 [.cell g2 true 5, .tmp g3]⟩
theorem ffDup42_ok : compF SBDup 42 = ffDup42 := by kernel_rfl
noncomputable def ffDup67 : FF := .t2 ⟨21,
 (.seq (.reg [.p (.al 5 [(.sc (.int .u8 0)), (.sc (.string ⟨#[]⟩)), (.sc (.int .u8 0)), (.sc (.int .u8 0)), (.sc (.slice none 0 0))]) s2,
  .p (.mv (kc (.tc (.sc (.bool false))))) s3])
 (.seq (.reg [.p (.call 88 [] (G2 67 1 0)) s5,
  .p (.mv g5) s4])
 (.seq (.seq (.reg [.p (.mv g0) s6,
  .p (.bin .lss g6 (kc (.tc (.sc (.int .u8 1)))) (G2 67 2 1)) s7,
  .p (.mv g7) s8,
  .gp g8 false (.mv g0) s9,
  .gp g8 false (.cv .i64 g9 (G2 67 2 4)) s10,
  .gp g8 false (.mv g4) s11,
  .gp g8 false (.len g11 (G2 67 2 6)) s12,
  .gp g8 false (.bin .gtr g10 g12 (G2 67 2 7)) s13,
  .p (.pk g8 (kc (.tc (.sc (.bool true)))) g13) s14])
 (.cond g14 (.seq (.reg [.p (.bd [(.tc (.sc (.int .u8 0))), (.tc (.sc (.string ⟨#[]⟩))), (.tc (.sc (.int .u8 0))), (.tc (.sc (.int .u8 0))), (.tc (.sc (.slice none 0 0)))] [] (G2 67 3 0)) s15,
  .n (.st 5 g2 g15 (G2 67 3 1)),
  .p (.mv (kc (.tc (.sc (.bool false))))) s3])
 .ret)
 .skip))
 (.seq (.reg [.p (.mv g4) s16,
  .p (.mv g0) s17,
  .p (.bin .sub g17 (kc (.tc (.sc (.int .u8 1)))) (G2 67 4 2)) s18,
  .p (.ia 5 g16 g18 (G2 67 4 3)) s19,
  .p (.ld true 5 g19) s20,
  .n (.st 5 g2 g20 (G2 67 4 5)),
  .p (.mv (kc (.tc (.sc (.bool true))))) s3])
 .ret)))),
 [.cell g2 true 5, .tmp g3]⟩
theorem ffDup67_ok : compF SBDup 67 = ffDup67 := by kernel_rfl
noncomputable def ffDup88 : FF := .t3 ⟨158,
 (.seq (.reg [.p (.mv (kc (.tc (.sc (.slice none 0 0))))) (i0 s0)])
 (.seq (.reg [.p (.call 93 [(kc (.tc (.sc (.int .u8 1)))), (kc (.tc (.sc (.string ⟨#[110, 111, 112]⟩)))), (kc (.tc (.sc (.int .u8 1)))), (kc (.tc (.sc (.slice none 0 0))))] (G3 88 1 0)) (i0 s1),
  .p (.call 94 [] (G3 88 1 1)) (i0 s2),
  .p (.call 95 [] (G3 88 1 2)) (i0 s3),
  .p (.call 96 [] (G3 88 1 3)) (i0 s4),
  .p (.call 97 [] (G3 88 1 4)) (i0 s5),
  .p (.bs 1 4 [[(.tc (.sc (.slice none 0 0)))], [(.tc (.sc (.slice none 0 0)))], [(.tc (.sc (.slice none 0 0)))], [(.tc (.sc (.slice none 0 0)))]] [(.mk 0 1 (h0 g2)), (.mk 1 1 (h0 g3)), (.mk 2 1 (h0 g4)), (.mk 3 1 (h0 g5))] (G3 88 1 5)) (i0 s6),
  .p (.call 93 [(kc (.tc (.sc (.int .u8 2)))), (kc (.tc (.sc (.string ⟨#[97, 100, 100]⟩)))), (kc (.tc (.sc (.int .u8 1)))), (h0 g6)] (G3 88 1 6)) (i0 s7),
  .p (.call 94 [] (G3 88 1 7)) (i0 s8),
  .p (.call 95 [] (G3 88 1 8)) (i0 s9),
  .p (.call 96 [] (G3 88 1 9)) (i0 s10),
  .p (.call 97 [] (G3 88 1 10)) (i0 s11),
  .p (.bs 1 4 [[(.tc (.sc (.slice none 0 0)))], [(.tc (.sc (.slice none 0 0)))], [(.tc (.sc (.slice none 0 0)))], [(.tc (.sc (.slice none 0 0)))]] [(.mk 0 1 (h0 g8)), (.mk 1 1 (h0 g9)), (.mk 2 1 (h0 g10)), (.mk 3 1 (h0 g11))] (G3 88 1 11)) (i0 s12),
  .p (.call 93 [(kc (.tc (.sc (.int .u8 3)))), (kc (.tc (.sc (.string ⟨#[115, 117, 98]⟩)))), (kc (.tc (.sc (.int .u8 1)))), (h0 g12)] (G3 88 1 12)) (i0 s13),
  .p (.call 94 [] (G3 88 1 13)) (i0 s14),
  .p (.call 95 [] (G3 88 1 14)) (i0 s15),
  .p (.call 96 [] (G3 88 1 15)) (i0 s16),
  .p (.call 97 [] (G3 88 1 16)) (i0 s17),
  .p (.bs 1 4 [[(.tc (.sc (.slice none 0 0)))], [(.tc (.sc (.slice none 0 0)))], [(.tc (.sc (.slice none 0 0)))], [(.tc (.sc (.slice none 0 0)))]] [(.mk 0 1 (h0 g14)), (.mk 1 1 (h0 g15)), (.mk 2 1 (h0 g16)), (.mk 3 1 (h0 g17))] (G3 88 1 17)) (i0 s18),
  .p (.call 93 [(kc (.tc (.sc (.int .u8 4)))), (kc (.tc (.sc (.string ⟨#[97, 110, 100]⟩)))), (kc (.tc (.sc (.int .u8 1)))), (h0 g18)] (G3 88 1 18)) (i0 s19),
  .p (.call 94 [] (G3 88 1 19)) (i0 s20),
  .p (.call 95 [] (G3 88 1 20)) (i0 s21),
  .p (.call 96 [] (G3 88 1 21)) (i0 s22),
  .p (.call 97 [] (G3 88 1 22)) (i0 s23),
  .p (.bs 1 4 [[(.tc (.sc (.slice none 0 0)))], [(.tc (.sc (.slice none 0 0)))], [(.tc (.sc (.slice none 0 0)))], [(.tc (.sc (.slice none 0 0)))]] [(.mk 0 1 (h0 g20)), (.mk 1 1 (h0 g21)), (.mk 2 1 (h0 g22)), (.mk 3 1 (h0 g23))] (G3 88 1 23)) (i0 s24),
  .p (.call 93 [(kc (.tc (.sc (.int .u8 5)))), (kc (.tc (.sc (.string ⟨#[111, 114]⟩)))), (kc (.tc (.sc (.int .u8 1)))), (h0 g24)] (G3 88 1 24)) (i0 s25),
  .p (.call 94 [] (G3 88 1 25)) (i0 s26),
  .p (.call 95 [] (G3 88 1 26)) (i0 s27),
  .p (.call 96 [] (G3 88 1 27)) (i0 s28),
  .p (.call 97 [] (G3 88 1 28)) (i0 s29),
  .p (.bs 1 4 [[(.tc (.sc (.slice none 0 0)))], [(.tc (.sc (.slice none 0 0)))], [(.tc (.sc (.slice none 0 0)))], [(.tc (.sc (.slice none 0 0)))]] [(.mk 0 1 (h0 g26)), (.mk 1 1 (h0 g27)), (.mk 2 1 (h0 g28)), (.mk 3 1 (h0 g29))] (G3 88 1 29)) (i0 s30),
  .p (.call 93 [(kc (.tc (.sc (.int .u8 6)))), (kc (.tc (.sc (.string ⟨#[120, 111, 114]⟩)))), (kc (.tc (.sc (.int .u8 1)))), (h0 g30)] (G3 88 1 30)) (i0 s31),
  .p (.call 95 [] (G3 88 1 31)) (i0 s32),
  .p (.call 96 [] (G3 88 1 32)) (i0 s33),
  .p (.call 98 [(kc (.tc (.sc (.int .i64 14)))), (kc (.tc (.sc (.int .i64 0))))] (G3 88 1 33)) (i0 s34),
  .p (.bs 1 3 [[(.tc (.sc (.slice none 0 0)))], [(.tc (.sc (.slice none 0 0)))], [(.tc (.sc (.slice none 0 0)))]] [(.mk 0 1 (h0 g32)), (.mk 1 1 (h0 g33)), (.mk 2 1 (h0 g34))] (G3 88 1 34)) (i0 s35),
  .p (.call 93 [(kc (.tc (.sc (.int .u8 7)))), (kc (.tc (.sc (.string ⟨#[97, 100, 100, 105]⟩)))), (kc (.tc (.sc (.int .u8 1)))), (h0 g35)] (G3 88 1 35)) (i0 s36),
  .p (.call 94 [] (G3 88 1 36)) (i0 s37),
  .p (.call 95 [] (G3 88 1 37)) (i0 s38),
  .p (.call 98 [(kc (.tc (.sc (.int .i64 14)))), (kc (.tc (.sc (.int .i64 0))))] (G3 88 1 38)) (i0 s39),
  .p (.bs 1 3 [[(.tc (.sc (.slice none 0 0)))], [(.tc (.sc (.slice none 0 0)))], [(.tc (.sc (.slice none 0 0)))]] [(.mk 0 1 (h0 g37)), (.mk 1 1 (h0 g38)), (.mk 2 1 (h0 g39))] (G3 88 1 39)) (i0 s40),
  .p (.call 93 [(kc (.tc (.sc (.int .u8 8)))), (kc (.tc (.sc (.string ⟨#[109, 111, 118, 105]⟩)))), (kc (.tc (.sc (.int .u8 1)))), (h0 g40)] (G3 88 1 40)) (i0 s41),
  .p (.call 94 [] (G3 88 1 41)) (i0 s42),
  .p (.call 95 [] (G3 88 1 42)) (i0 s43),
  .p (.call 96 [] (G3 88 1 43)) (i0 s44),
  .p (.bs 1 3 [[(.tc (.sc (.slice none 0 0)))], [(.tc (.sc (.slice none 0 0)))], [(.tc (.sc (.slice none 0 0)))]] [(.mk 0 1 (h0 g42)), (.mk 1 1 (h0 g43)), (.mk 2 1 (h0 g44))] (G3 88 1 44)) (i0 s45),
  .p (.call 93 [(kc (.tc (.sc (.int .u8 9)))), (kc (.tc (.sc (.string ⟨#[109, 111, 118]⟩)))), (kc (.tc (.sc (.int .u8 1)))), (h0 g45)] (G3 88 1 45)) (i0 s46),
  .p (.call 99 [] (G3 88 1 46)) (i0 s47),
  .p (.call 96 [] (G3 88 1 47)) (i0 s48),
  .p (.call 97 [] (G3 88 1 48)) (i0 s49),
  .p (.bs 1 3 [[(.tc (.sc (.slice none 0 0)))], [(.tc (.sc (.slice none 0 0)))], [(.tc (.sc (.slice none 0 0)))]] [(.mk 0 1 (h0 g47)), (.mk 1 1 (h0 g48)), (.mk 2 1 (h0 g49))] (G3 88 1 49)) (i0 s50),
  .p (.call 93 [(kc (.tc (.sc (.int .u8 10)))), (kc (.tc (.sc (.string ⟨#[99, 109, 112, 101, 113]⟩)))), (kc (.tc (.sc (.int .u8 1)))), (h0 g50)] (G3 88 1 50)) (i0 s51),
  .p (.call 99 [] (G3 88 1 51)) (i0 s52),
  .p (.call 96 [] (G3 88 1 52)) (i0 s53),
  .p (.call 97 [] (G3 88 1 53)) (i0 s54),
  .p (.bs 1 3 [[(.tc (.sc (.slice none 0 0)))], [(.tc (.sc (.slice none 0 0)))], [(.tc (.sc (.slice none 0 0)))]] [(.mk 0 1 (h0 g52)), (.mk 1 1 (h0 g53)), (.mk 2 1 (h0 g54))] (G3 88 1 54)) (i0 s55),
  .p (.call 93 [(kc (.tc (.sc (.int .u8 11)))), (kc (.tc (.sc (.string ⟨#[99, 109, 112, 103, 116]⟩)))), (kc (.tc (.sc (.int .u8 1)))), (h0 g55)] (G3 88 1 55)) (i0 s56),
  .p (.call 99 [] (G3 88 1 56)) (i0 s57),
  .p (.call 96 [] (G3 88 1 57)) (i0 s58),
  .p (.call 97 [] (G3 88 1 58)) (i0 s59),
  .p (.bs 1 3 [[(.tc (.sc (.slice none 0 0)))], [(.tc (.sc (.slice none 0 0)))], [(.tc (.sc (.slice none 0 0)))]] [(.mk 0 1 (h0 g57)), (.mk 1 1 (h0 g58)), (.mk 2 1 (h0 g59))] (G3 88 1 59)) (i0 s60),
  .p (.call 93 [(kc (.tc (.sc (.int .u8 12)))), (kc (.tc (.sc (.string ⟨#[99, 109, 112, 103, 116, 117]⟩)))), (kc (.tc (.sc (.int .u8 1)))), (h0 g60)] (G3 88 1 60)) (i0 s61),
  .p (.call 99 [] (G3 88 1 61)) (i0 s62),
  .p (.call 96 [] (G3 88 1 62)) (i0 s63),
  .p (.call 98 [(kc (.tc (.sc (.int .i64 14)))), (kc (.tc (.sc (.int .i64 0))))] (G3 88 1 63)) (i1 s0),
  .p (.bs 1 3 [[(.tc (.sc (.slice none 0 0)))], [(.tc (.sc (.slice none 0 0)))], [(.tc (.sc (.slice none 0 0)))]] [(.mk 0 1 (h0 g62)), (.mk 1 1 (h0 g63)), (.mk 2 1 (h1 g0))] (G3 88 1 64)) (i1 s1),
  .p (.call 93 [(kc (.tc (.sc (.int .u8 13)))), (kc (.tc (.sc (.string ⟨#[99, 109, 112, 101, 113, 105]⟩)))), (kc (.tc (.sc (.int .u8 1)))), (h1 g1)] (G3 88 1 65)) (i1 s2),
  .p (.call 95 [] (G3 88 1 66)) (i1 s3),
  .p (.call 100 [(kc (.tc (.sc (.int .u8 2)))), (kc (.tc (.sc (.int .i64 2))))] (G3 88 1 67)) (i1 s4),
  .p (.call 96 [] (G3 88 1 68)) (i1 s5),
  .p (.call 97 [] (G3 88 1 69)) (i1 s6),
  .p (.bs 1 4 [[(.tc (.sc (.slice none 0 0)))], [(.tc (.sc (.slice none 0 0)))], [(.tc (.sc (.slice none 0 0)))], [(.tc (.sc (.slice none 0 0)))]] [(.mk 0 1 (h1 g3)), (.mk 1 1 (h1 g4)), (.mk 2 1 (h1 g5)), (.mk 3 1 (h1 g6))] (G3 88 1 70)) (i1 s7),
  .p (.call 93 [(kc (.tc (.sc (.int .u8 14)))), (kc (.tc (.sc (.string ⟨#[109, 117, 120]⟩)))), (kc (.tc (.sc (.int .u8 1)))), (h1 g7)] (G3 88 1 71)) (i1 s8),
  .p (.call 95 [] (G3 88 1 72)) (i1 s9),
  .p (.call 96 [] (G3 88 1 73)) (i1 s10),
  .p (.call 100 [(kc (.tc (.sc (.int .u8 9)))), (kc (.tc (.sc (.int .i64 5))))] (G3 88 1 74)) (i1 s11),
  .p (.bs 1 3 [[(.tc (.sc (.slice none 0 0)))], [(.tc (.sc (.slice none 0 0)))], [(.tc (.sc (.slice none 0 0)))]] [(.mk 0 1 (h1 g9)), (.mk 1 1 (h1 g10)), (.mk 2 1 (h1 g11))] (G3 88 1 75)) (i1 s12),
  .p (.call 93 [(kc (.tc (.sc (.int .u8 15)))), (kc (.tc (.sc (.string ⟨#[97, 115, 108]⟩)))), (kc (.tc (.sc (.int .u8 2)))), (h1 g12)] (G3 88 1 76)) (i1 s13),
  .p (.call 95 [] (G3 88 1 77)) (i1 s14),
  .p (.call 96 [] (G3 88 1 78)) (i1 s15),
  .p (.call 100 [(kc (.tc (.sc (.int .u8 9)))), (kc (.tc (.sc (.int .i64 5))))] (G3 88 1 79)) (i1 s16),
  .p (.bs 1 3 [[(.tc (.sc (.slice none 0 0)))], [(.tc (.sc (.slice none 0 0)))], [(.tc (.sc (.slice none 0 0)))]] [(.mk 0 1 (h1 g14)), (.mk 1 1 (h1 g15)), (.mk 2 1 (h1 g16))] (G3 88 1 80)) (i1 s17),
  .p (.call 93 [(kc (.tc (.sc (.int .u8 16)))), (kc (.tc (.sc (.string ⟨#[108, 115, 114]⟩)))), (kc (.tc (.sc (.int .u8 2)))), (h1 g17)] (G3 88 1 81)) (i1 s18),
  .p (.call 95 [] (G3 88 1 82)) (i1 s19),
  .p (.call 96 [] (G3 88 1 83)) (i1 s20),
  .p (.call 100 [(kc (.tc (.sc (.int .u8 9)))), (kc (.tc (.sc (.int .i64 5))))] (G3 88 1 84)) (i1 s21),
  .p (.bs 1 3 [[(.tc (.sc (.slice none 0 0)))], [(.tc (.sc (.slice none 0 0)))], [(.tc (.sc (.slice none 0 0)))]] [(.mk 0 1 (h1 g19)), (.mk 1 1 (h1 g20)), (.mk 2 1 (h1 g21))] (G3 88 1 85)) (i1 s22),
  .p (.call 93 [(kc (.tc (.sc (.int .u8 17)))), (kc (.tc (.sc (.string ⟨#[97, 115, 114]⟩)))), (kc (.tc (.sc (.int .u8 2)))), (h1 g22)] (G3 88 1 86)) (i1 s23),
  .p (.call 95 [] (G3 88 1 87)) (i1 s24),
  .p (.call 96 [] (G3 88 1 88)) (i1 s25),
  .p (.call 97 [] (G3 88 1 89)) (i1 s26),
  .p (.bs 1 3 [[(.tc (.sc (.slice none 0 0)))], [(.tc (.sc (.slice none 0 0)))], [(.tc (.sc (.slice none 0 0)))]] [(.mk 0 1 (h1 g24)), (.mk 1 1 (h1 g25)), (.mk 2 1 (h1 g26))] (G3 88 1 90)) (i1 s27),
  .p (.call 93 [(kc (.tc (.sc (.int .u8 18)))), (kc (.tc (.sc (.string ⟨#[109, 112, 121]⟩)))), (kc (.tc (.sc (.int .u8 2)))), (h1 g27)] (G3 88 1 91)) (i1 s28),
  .p (.call 95 [] (G3 88 1 92)) (i1 s29),
  .p (.call 96 [] (G3 88 1 93)) (i1 s30),
  .p (.call 97 [] (G3 88 1 94)) (i1 s31),
  .p (.bs 1 3 [[(.tc (.sc (.slice none 0 0)))], [(.tc (.sc (.slice none 0 0)))], [(.tc (.sc (.slice none 0 0)))]] [(.mk 0 1 (h1 g29)), (.mk 1 1 (h1 g30)), (.mk 2 1 (h1 g31))] (G3 88 1 95)) (i1 s32),
  .p (.call 93 [(kc (.tc (.sc (.int .u8 19)))), (kc (.tc (.sc (.string ⟨#[99, 109, 112, 121]⟩)))), (kc (.tc (.sc (.int .u8 2)))), (h1 g32)] (G3 88 1 96)) (i1 s33),
  .p (.call 95 [] (G3 88 1 97)) (i1 s34),
  .p (.call 96 [] (G3 88 1 98)) (i1 s35),
  .p (.call 97 [] (G3 88 1 99)) (i1 s36),
  .p (.bs 1 3 [[(.tc (.sc (.slice none 0 0)))], [(.tc (.sc (.slice none 0 0)))], [(.tc (.sc (.slice none 0 0)))]] [(.mk 0 1 (h1 g34)), (.mk 1 1 (h1 g35)), (.mk 2 1 (h1 g36))] (G3 88 1 100)) (i1 s37),
  .p (.call 93 [(kc (.tc (.sc (.int .u8 20)))), (kc (.tc (.sc (.string ⟨#[99, 109, 112, 121, 99]⟩)))), (kc (.tc (.sc (.int .u8 2)))), (h1 g37)] (G3 88 1 101)) (i1 s38),
  .p (.call 95 [] (G3 88 1 102)) (i1 s39),
  .p (.call 96 [] (G3 88 1 103)) (i1 s40),
  .p (.call 98 [(kc (.tc (.sc (.int .i64 12)))), (kc (.tc (.sc (.int .i64 2))))] (G3 88 1 104)) (i1 s41),
  .p (.bs 1 3 [[(.tc (.sc (.slice none 0 0)))], [(.tc (.sc (.slice none 0 0)))], [(.tc (.sc (.slice none 0 0)))]] [(.mk 0 1 (h1 g39)), (.mk 1 1 (h1 g40)), (.mk 2 1 (h1 g41))] (G3 88 1 105)) (i1 s42),
  .p (.call 93 [(kc (.tc (.sc (.int .u8 21)))), (kc (.tc (.sc (.string ⟨#[108, 100, 119]⟩)))), (kc (.tc (.sc (.int .u8 3)))), (h1 g42)] (G3 88 1 106)) (i1 s43),
  .p (.call 95 [] (G3 88 1 107)) (i1 s44),
  .p (.call 96 [] (G3 88 1 108)) (i1 s45),
  .p (.call 98 [(kc (.tc (.sc (.int .i64 12)))), (kc (.tc (.sc (.int .i64 1))))] (G3 88 1 109)) (i1 s46),
  .p (.bs 1 3 [[(.tc (.sc (.slice none 0 0)))], [(.tc (.sc (.slice none 0 0)))], [(.tc (.sc (.slice none 0 0)))]] [(.mk 0 1 (h1 g44)), (.mk 1 1 (h1 g45)), (.mk 2 1 (h1 g46))] (G3 88 1 110)) (i1 s47),
  .p (.call 93 [(kc (.tc (.sc (.int .u8 22)))), (kc (.tc (.sc (.string ⟨#[108, 100, 104]⟩)))), (kc (.tc (.sc (.int .u8 3)))), (h1 g47)] (G3 88 1 111)) (i1 s48),
  .p (.call 95 [] (G3 88 1 112)) (i1 s49),
  .p (.call 96 [] (G3 88 1 113)) (i1 s50),
  .p (.call 98 [(kc (.tc (.sc (.int .i64 12)))), (kc (.tc (.sc (.int .i64 0))))] (G3 88 1 114)) (i1 s51),
  .p (.bs 1 3 [[(.tc (.sc (.slice none 0 0)))], [(.tc (.sc (.slice none 0 0)))], [(.tc (.sc (.slice none 0 0)))]] [(.mk 0 1 (h1 g49)), (.mk 1 1 (h1 g50)), (.mk 2 1 (h1 g51))] (G3 88 1 115)) (i1 s52),
  .p (.call 93 [(kc (.tc (.sc (.int .u8 23)))), (kc (.tc (.sc (.string ⟨#[108, 100, 98]⟩)))), (kc (.tc (.sc (.int .u8 3)))), (h1 g52)] (G3 88 1 116)) (i1 s53),
  .p (.call 96 [] (G3 88 1 117)) (i1 s54),
  .p (.call 100 [(kc (.tc (.sc (.int .u8 8)))), (kc (.tc (.sc (.int .i64 1))))] (G3 88 1 118)) (i1 s55),
  .p (.call 97 [] (G3 88 1 119)) (i1 s56),
  .p (.call 98 [(kc (.tc (.sc (.int .i64 12)))), (kc (.tc (.sc (.int .i64 2))))] (G3 88 1 120)) (i1 s57),
  .p (.bs 1 4 [[(.tc (.sc (.slice none 0 0)))], [(.tc (.sc (.slice none 0 0)))], [(.tc (.sc (.slice none 0 0)))], [(.tc (.sc (.slice none 0 0)))]] [(.mk 0 1 (h1 g54)), (.mk 1 1 (h1 g55)), (.mk 2 1 (h1 g56)), (.mk 3 1 (h1 g57))] (G3 88 1 121)) (i1 s58),
  .p (.call 93 [(kc (.tc (.sc (.int .u8 24)))), (kc (.tc (.sc (.string ⟨#[115, 116, 119]⟩)))), (kc (.tc (.sc (.int .u8 4)))), (h1 g58)] (G3 88 1 122)) (i1 s59),
  .p (.call 96 [] (G3 88 1 123)) (i1 s60),
  .p (.call 100 [(kc (.tc (.sc (.int .u8 8)))), (kc (.tc (.sc (.int .i64 1))))] (G3 88 1 124)) (i1 s61),
  .p (.call 97 [] (G3 88 1 125)) (i1 s62),
  .p (.call 98 [(kc (.tc (.sc (.int .i64 12)))), (kc (.tc (.sc (.int .i64 1))))] (G3 88 1 126)) (i1 s63),
  .p (.bs 1 4 [[(.tc (.sc (.slice none 0 0)))], [(.tc (.sc (.slice none 0 0)))], [(.tc (.sc (.slice none 0 0)))], [(.tc (.sc (.slice none 0 0)))]] [(.mk 0 1 (h1 g60)), (.mk 1 1 (h1 g61)), (.mk 2 1 (h1 g62)), (.mk 3 1 (h1 g63))] (G3 88 1 127)) (i2 s0),
  .p (.call 93 [(kc (.tc (.sc (.int .u8 25)))), (kc (.tc (.sc (.string ⟨#[115, 116, 104]⟩)))), (kc (.tc (.sc (.int .u8 4)))), (h2 g0)] (G3 88 1 128)) (i2 s1),
  .p (.call 96 [] (G3 88 1 129)) (i2 s2),
  .p (.call 100 [(kc (.tc (.sc (.int .u8 8)))), (kc (.tc (.sc (.int .i64 1))))] (G3 88 1 130)) (i2 s3),
  .p (.call 97 [] (G3 88 1 131)) (i2 s4),
  .p (.call 98 [(kc (.tc (.sc (.int .i64 12)))), (kc (.tc (.sc (.int .i64 0))))] (G3 88 1 132)) (i2 s5),
  .p (.bs 1 4 [[(.tc (.sc (.slice none 0 0)))], [(.tc (.sc (.slice none 0 0)))], [(.tc (.sc (.slice none 0 0)))], [(.tc (.sc (.slice none 0 0)))]] [(.mk 0 1 (h2 g2)), (.mk 1 1 (h2 g3)), (.mk 2 1 (h2 g4)), (.mk 3 1 (h2 g5))] (G3 88 1 133)) (i2 s6),
  .p (.call 93 [(kc (.tc (.sc (.int .u8 26)))), (kc (.tc (.sc (.string ⟨#[115, 116, 98]⟩)))), (kc (.tc (.sc (.int .u8 4)))), (h2 g6)] (G3 88 1 134)) (i2 s7),
  .p (.call 94 [] (G3 88 1 135)) (i2 s8),
  .p (.call 101 [(kc (.tc (.sc (.int .i64 19))))] (G3 88 1 136)) (i2 s9),
  .p (.bs 1 2 [[(.tc (.sc (.slice none 0 0)))], [(.tc (.sc (.slice none 0 0)))]] [(.mk 0 1 (h2 g8)), (.mk 1 1 (h2 g9))] (G3 88 1 137)) (i2 s10),
  .p (.call 93 [(kc (.tc (.sc (.int .u8 27)))), (kc (.tc (.sc (.string ⟨#[106, 117, 109, 112]⟩)))), (kc (.tc (.sc (.int .u8 5)))), (h2 g10)] (G3 88 1 138)) (i2 s11),
  .p (.call 94 [] (G3 88 1 139)) (i2 s12),
  .p (.call 96 [] (G3 88 1 140)) (i2 s13),
  .p (.bs 1 2 [[(.tc (.sc (.slice none 0 0)))], [(.tc (.sc (.slice none 0 0)))]] [(.mk 0 1 (h2 g12)), (.mk 1 1 (h2 g13))] (G3 88 1 141)) (i2 s14),
  .p (.call 93 [(kc (.tc (.sc (.int .u8 28)))), (kc (.tc (.sc (.string ⟨#[106, 117, 109, 112, 114]⟩)))), (kc (.tc (.sc (.int .u8 5)))), (h2 g14)] (G3 88 1 142)) (i2 s15),
  .p (.call 101 [(kc (.tc (.sc (.int .i64 24))))] (G3 88 1 143)) (i2 s16),
  .p (.bs 1 1 [[(.tc (.sc (.slice none 0 0)))]] [(.mk 0 1 (h2 g16))] (G3 88 1 144)) (i2 s17),
  .p (.call 93 [(kc (.tc (.sc (.int .u8 29)))), (kc (.tc (.sc (.string ⟨#[99, 97, 108, 108]⟩)))), (kc (.tc (.sc (.int .u8 5)))), (h2 g17)] (G3 88 1 145)) (i2 s18),
  .p (.call 100 [(kc (.tc (.sc (.int .u8 7)))), (kc (.tc (.sc (.int .i64 1))))] (G3 88 1 146)) (i2 s19),
  .p (.call 101 [(kc (.tc (.sc (.int .i64 12))))] (G3 88 1 147)) (i2 s20),
  .p (.call 100 [(kc (.tc (.sc (.int .u8 11)))), (kc (.tc (.sc (.int .i64 11))))] (G3 88 1 148)) (i2 s21),
  .p (.bs 1 3 [[(.tc (.sc (.slice none 0 0)))], [(.tc (.sc (.slice none 0 0)))], [(.tc (.sc (.slice none 0 0)))]] [(.mk 0 1 (h2 g19)), (.mk 1 1 (h2 g20)), (.mk 2 1 (h2 g21))] (G3 88 1 149)) (i2 s22),
  .p (.call 93 [(kc (.tc (.sc (.int .u8 30)))), (kc (.tc (.sc (.string ⟨#[108, 111, 111, 112, 105]⟩)))), (kc (.tc (.sc (.int .u8 6)))), (h2 g22)] (G3 88 1 150)) (i2 s23),
  .p (.call 100 [(kc (.tc (.sc (.int .u8 7)))), (kc (.tc (.sc (.int .i64 1))))] (G3 88 1 151)) (i2 s24),
  .p (.call 101 [(kc (.tc (.sc (.int .i64 12))))] (G3 88 1 152)) (i2 s25),
  .p (.call 96 [] (G3 88 1 153)) (i2 s26),
  .p (.bs 1 3 [[(.tc (.sc (.slice none 0 0)))], [(.tc (.sc (.slice none 0 0)))], [(.tc (.sc (.slice none 0 0)))]] [(.mk 0 1 (h2 g24)), (.mk 1 1 (h2 g25)), (.mk 2 1 (h2 g26))] (G3 88 1 154)) (i2 s27),
  .p (.call 93 [(kc (.tc (.sc (.int .u8 31)))), (kc (.tc (.sc (.string ⟨#[108, 111, 111, 112, 114]⟩)))), (kc (.tc (.sc (.int .u8 6)))), (h2 g27)] (G3 88 1 155)) (i2 s28),
  .p (.bs 5 31 [[(.tc (.sc (.int .u8 0))), (.tc (.sc (.string ⟨#[]⟩))), (.tc (.sc (.int .u8 0))), (.tc (.sc (.int .u8 0))), (.tc (.sc (.slice none 0 0)))], [(.tc (.sc (.int .u8 0))), (.tc (.sc (.string ⟨#[]⟩))), (.tc (.sc (.int .u8 0))), (.tc (.sc (.int .u8 0))), (.tc (.sc (.slice none 0 0)))], [(.tc (.sc (.int .u8 0))), (.tc (.sc (.string ⟨#[]⟩))), (.tc (.sc (.int .u8 0))), (.tc (.sc (.int .u8 0))), (.tc (.sc (.slice none 0 0)))], [(.tc (.sc (.int .u8 0))), (.tc (.sc (.string ⟨#[]⟩))), (.tc (.sc (.int .u8 0))), (.tc (.sc (.int .u8 0))), (.tc (.sc (.slice none 0 0)))], [(.tc (.sc (.int .u8 0))), (.tc (.sc (.string ⟨#[]⟩))), (.tc (.sc (.int .u8 0))), (.tc (.sc (.int .u8 0))), (.tc (.sc (.slice none 0 0)))], [(.tc (.sc (.int .u8 0))), (.tc (.sc (.string ⟨#[]⟩))), (.tc (.sc (.int .u8 0))), (.tc (.sc (.int .u8 0))), (.tc (.sc (.slice none 0 0)))], [(.tc (.sc (.int .u8 0))), (.tc (.sc (.string ⟨#[]⟩))), (.tc (.sc (.int .u8 0))), (.tc (.sc (.int .u8 0))), (.tc (.sc (.slice none 0 0)))], [(.tc (.sc (.int .u8 0))), (.tc (.sc (.string ⟨#[]⟩))), (.tc (.sc (.int .u8 0))), (.tc (.sc (.int .u8 0))), (.tc (.sc (.slice none 0 0)))], [(.tc (.sc (.int .u8 0))), (.tc (.sc (.string ⟨#[]⟩))), (.tc (.sc (.int .u8 0))), (.tc (.sc (.int .u8 0))), (.tc (.sc (.slice none 0 0)))], [(.tc (.sc (.int .u8 0))), (.tc (.sc (.string ⟨#[]⟩))), (.tc (.sc (.int .u8 0))), (.tc (.sc (.int .u8 0))), (.tc (.sc (.slice none 0 0)))], [(.tc (.sc (.int .u8 0))), (.tc (.sc (.string ⟨#[]⟩))), (.tc (.sc (.int .u8 0))), (.tc (.sc (.int .u8 0))), (.tc (.sc (.slice none 0 0)))], [(.tc (.sc (.int .u8 0))), (.tc (.sc (.string ⟨#[]⟩))), (.tc (.sc (.int .u8 0))), (.tc (.sc (.int .u8 0))), (.tc (.sc (.slice none 0 0)))], [(.tc (.sc (.int .u8 0))), (.tc (.sc (.string ⟨#[]⟩))), (.tc (.sc (.int .u8 0))), (.tc (.sc (.int .u8 0))), (.tc (.sc (.slice none 0 0)))], [(.tc (.sc (.int .u8 0))), (.tc (.sc (.string ⟨#[]⟩))), (.tc (.sc (.int .u8 0))), (.tc (.sc (.int .u8 0))), (.tc (.sc (.slice none 0 0)))], [(.tc (.sc (.int .u8 0))), (.tc (.sc (.string ⟨#[]⟩))), (.tc (.sc (.int .u8 0))), (.tc (.sc (.int .u8 0))), (.tc (.sc (.slice none 0 0)))], [(.tc (.sc (.int .u8 0))), (.tc (.sc (.string ⟨#[]⟩))), (.tc (.sc (.int .u8 0))), (.tc (.sc (.int .u8 0))), (.tc (.sc (.slice none 0 0)))], [(.tc (.sc (.int .u8 0))), (.tc (.sc (.string ⟨#[]⟩))), (.tc (.sc (.int .u8 0))), (.tc (.sc (.int .u8 0))), (.tc (.sc (.slice none 0 0)))], [(.tc (.sc (.int .u8 0))), (.tc (.sc (.string ⟨#[]⟩))), (.tc (.sc (.int .u8 0))), (.tc (.sc (.int .u8 0))), (.tc (.sc (.slice none 0 0)))], [(.tc (.sc (.int .u8 0))), (.tc (.sc (.string ⟨#[]⟩))), (.tc (.sc (.int .u8 0))), (.tc (.sc (.int .u8 0))), (.tc (.sc (.slice none 0 0)))], [(.tc (.sc (.int .u8 0))), (.tc (.sc (.string ⟨#[]⟩))), (.tc (.sc (.int .u8 0))), (.tc (.sc (.int .u8 0))), (.tc (.sc (.slice none 0 0)))], [(.tc (.sc (.int .u8 0))), (.tc (.sc (.string ⟨#[]⟩))), (.tc (.sc (.int .u8 0))), (.tc (.sc (.int .u8 0))), (.tc (.sc (.slice none 0 0)))], [(.tc (.sc (.int .u8 0))), (.tc (.sc (.string ⟨#[]⟩))), (.tc (.sc (.int .u8 0))), (.tc (.sc (.int .u8 0))), (.tc (.sc (.slice none 0 0)))], [(.tc (.sc (.int .u8 0))), (.tc (.sc (.string ⟨#[]⟩))), (.tc (.sc (.int .u8 0))), (.tc (.sc (.int .u8 0))), (.tc (.sc (.slice none 0 0)))], [(.tc (.sc (.int .u8 0))), (.tc (.sc (.string ⟨#[]⟩))), (.tc (.sc (.int .u8 0))), (.tc (.sc (.int .u8 0))), (.tc (.sc (.slice none 0 0)))], [(.tc (.sc (.int .u8 0))), (.tc (.sc (.string ⟨#[]⟩))), (.tc (.sc (.int .u8 0))), (.tc (.sc (.int .u8 0))), (.tc (.sc (.slice none 0 0)))], [(.tc (.sc (.int .u8 0))), (.tc (.sc (.string ⟨#[]⟩))), (.tc (.sc (.int .u8 0))), (.tc (.sc (.int .u8 0))), (.tc (.sc (.slice none 0 0)))], [(.tc (.sc (.int .u8 0))), (.tc (.sc (.string ⟨#[]⟩))), (.tc (.sc (.int .u8 0))), (.tc (.sc (.int .u8 0))), (.tc (.sc (.slice none 0 0)))], [(.tc (.sc (.int .u8 0))), (.tc (.sc (.string ⟨#[]⟩))), (.tc (.sc (.int .u8 0))), (.tc (.sc (.int .u8 0))), (.tc (.sc (.slice none 0 0)))], [(.tc (.sc (.int .u8 0))), (.tc (.sc (.string ⟨#[]⟩))), (.tc (.sc (.int .u8 0))), (.tc (.sc (.int .u8 0))), (.tc (.sc (.slice none 0 0)))], [(.tc (.sc (.int .u8 0))), (.tc (.sc (.string ⟨#[]⟩))), (.tc (.sc (.int .u8 0))), (.tc (.sc (.int .u8 0))), (.tc (.sc (.slice none 0 0)))], [(.tc (.sc (.int .u8 0))), (.tc (.sc (.string ⟨#[]⟩))), (.tc (.sc (.int .u8 0))), (.tc (.sc (.int .u8 0))), (.tc (.sc (.slice none 0 0)))]] [(.mk 0 5 (h0 g1)), (.mk 1 5 (h0 g7)), (.mk 2 5 (h0 g13)), (.mk 3 5 (h0 g19)), (.mk 4 5 (h0 g25)), (.mk 5 5 (h0 g31)), (.mk 6 5 (h0 g36)), (.mk 7 5 (h0 g41)), (.mk 8 5 (h0 g46)), (.mk 9 5 (h0 g51)), (.mk 10 5 (h0 g56)), (.mk 11 5 (h0 g61)), (.mk 12 5 (h1 g2)), (.mk 13 5 (h1 g8)), (.mk 14 5 (h1 g13)), (.mk 15 5 (h1 g18)), (.mk 16 5 (h1 g23)), (.mk 17 5 (h1 g28)), (.mk 18 5 (h1 g33)), (.mk 19 5 (h1 g38)), (.mk 20 5 (h1 g43)), (.mk 21 5 (h1 g48)), (.mk 22 5 (h1 g53)), (.mk 23 5 (h1 g59)), (.mk 24 5 (h2 g1)), (.mk 25 5 (h2 g7)), (.mk 26 5 (h2 g11)), (.mk 27 5 (h2 g15)), (.mk 28 5 (h2 g18)), (.mk 29 5 (h2 g23)), (.mk 30 5 (h2 g28))] (G3 88 1 156)) (i2 s29),
  .p (.mv (h2 g29)) (i0 s0)])
 .ret)),
 [.tmp (h0 g0)]⟩
theorem ffDup88_ok : compF SBDup 88 = ffDup88 := by kernel_rfl
noncomputable def ffDup93 : FF := .t2 ⟨17,
 (.seq (.reg [.p (.al 5 [(.sc (.int .u8 0)), (.sc (.string ⟨#[]⟩)), (.sc (.int .u8 0)), (.sc (.int .u8 0)), (.sc (.slice none 0 0))]) s8])
 (.seq (.reg [.p (.mv g0) s9,
  .p (.mv g1) s10,
  .p (.mv g2) s11,
  .p (.mv g2) s12,
  .p (.call 85 [g12] (G2 93 1 4)) s13,
  .p (.mv g3) s14,
  .p (.call 102 [g14] (G2 93 1 6)) s15,
  .p (.bd [(.tc (.sc (.int .u8 0))), (.tc (.sc (.string ⟨#[]⟩))), (.tc (.sc (.int .u8 0))), (.tc (.sc (.int .u8 0))), (.tc (.sc (.slice none 0 0)))] [(.mk 0 1 g9), (.mk 1 1 g10), (.mk 2 1 g11), (.mk 3 1 g13), (.mk 4 1 g15)] (G2 93 1 7)) s16,
  .n (.st 5 g8 g16 (G2 93 1 8))])
 .ret)),
 [.cell g8 true 5]⟩
theorem ffDup93_ok : compF SBDup 93 = ffDup93 := by kernel_rfl
noncomputable def ffDup85 : FF := .t2 ⟨15,
 (.seq (.reg [.p (.mv (kc (.tc (.sc (.int .u8 0))))) s2])
 (.seq (.seq (.reg [.p (.mv g0) s3])
 (.block 0 (.seq (.reg [.p (.bin .eql g3 (kc (.tc (.sc (.int .u8 1)))) (G2 85 2 0)) s5,
  .p (.mv g5) s4])
 (.cond g4 (.seq (.reg [.p (.mv (kc (.tc (.sc (.int .u8 15))))) s2])
 .ret)
 (.seq (.seq (.reg [.p (.bin .eql g3 (kc (.tc (.sc (.int .u8 2)))) (G2 85 4 0)) s7,
  .p (.mv g7) s6])
 (.cond g6 .skip
 (.reg [.p (.bin .eql g3 (kc (.tc (.sc (.int .u8 5)))) (G2 85 5 0)) s8,
  .p (.mv g8) s6])))
 (.cond g6 (.seq (.reg [.p (.mv (kc (.tc (.sc (.int .u8 12))))) s2])
 .ret)
 (.seq (.reg [.p (.bin .eql g3 (kc (.tc (.sc (.int .u8 3)))) (G2 85 7 0)) s10,
  .p (.mv g10) s9])
 (.cond g9 (.seq (.reg [.p (.mv (kc (.tc (.sc (.int .u8 3))))) s2])
 .ret)
 (.seq (.reg [.p (.bin .eql g3 (kc (.tc (.sc (.int .u8 4)))) (G2 85 9 0)) s12,
  .p (.mv g12) s11])
 (.cond g11 (.seq (.reg [.p (.mv (kc (.tc (.sc (.int .u8 1))))) s2])
 .ret)
 (.seq (.reg [.p (.bin .eql g3 (kc (.tc (.sc (.int .u8 6)))) (G2 85 11 0)) s14,
  .p (.mv g14) s13])
 (.cond g13 (.seq (.reg [.p (.mv (kc (.tc (.sc (.int .u8 8))))) s2])
 .ret)
 .skip))))))))))))
 (.seq (.reg [.p (.mv (kc (.tc (.sc (.int .u8 0))))) s2])
 .ret))),
 [.tmp g2]⟩
theorem ffDup85_ok : compF SBDup 85 = ffDup85 := by kernel_rfl
noncomputable def ffDup102 : FF := .t2 ⟨36,
 (.seq (.reg [.p (.mv (kc (.tc (.sc (.slice none 0 0))))) s2])
 (.seq (.reg [.p (.mv (kc (.tc (.sc (.int .i64 0))))) s3])
 (.seq (.seq (.reg [.p (.mv g0) s9,
  .p (.len g9 (G2 102 2 1)) s10,
  .p (.mv (kc (.tc (.sc (.int .i64 0))))) s11])
 (.block 0 (.loop 4294967296 (.seq (.reg [.p (.bin .lss g11 g10 (G2 102 3 0)) s12])
 (.seq (.cond g12 .skip
 (.exit 0))
 (.seq (.block 1 (.seq (.reg [.p (.ia 1 g9 g11 (G2 102 4 0)) s13,
  .p (.ld false 1 g13) s14,
  .p (.mv g14) s5])
 (.seq (.reg [.p (.mv g3) s15,
  .p (.mv g5) s16,
  .p (.len g16 (G2 102 5 2)) s17,
  .p (.bin .add g15 g17 (G2 102 5 3)) s18,
  .p (.mv g18) s3])
 (.seq (.reg [.p (.mv g3) s19,
  .p (.bin .lss g19 (kc (.tc (.sc (.int .i64 0)))) (G2 102 6 1)) s20])
 (.cond g20 (.reg [.p (.gen (G2 102 7 0)) s21,
  .n (.gen (G2 102 7 1))])
 .skip)))))
 (.reg [.p (.bin .add g11 (kc (.tc (.sc (.int .i64 1)))) (G2 102 8 0)) s22,
  .p (.mv g22) s11])))))))
 (.seq (.reg [.p (.mv g3) s23,
  .p (.call 103 [(kc (.tc (.sc (.slice none 0 0)))), g23] (G2 102 9 1)) s24,
  .p (.mv g24) s6])
 (.seq (.seq (.reg [.p (.mv g0) s25,
  .p (.len g25 (G2 102 10 1)) s26,
  .p (.mv (kc (.tc (.sc (.int .i64 0))))) s27])
 (.block 2 (.loop 4294967296 (.seq (.reg [.p (.bin .lss g27 g26 (G2 102 11 0)) s28])
 (.seq (.cond g28 .skip
 (.exit 2))
 (.seq (.block 3 (.seq (.reg [.p (.ia 1 g25 g27 (G2 102 12 0)) s29,
  .p (.ld false 1 g29) s30,
  .p (.mv g30) s8])
 (.reg [.p (.mv g6) s31,
  .p (.mv g8) s32,
  .p (.ap 5 32 g31 g32) s33,
  .p (.mv g33) s6])))
 (.reg [.p (.bin .add g27 (kc (.tc (.sc (.int .i64 1)))) (G2 102 14 0)) s34,
  .p (.mv g34) s27])))))))
 (.seq (.reg [.p (.mv g6) s35,
  .p (.mv g35) s2])
 .ret)))))),
 [.tmp g2]⟩
theorem ffDup102_ok : compF SBDup 102 = ffDup102 := by kernel_rfl
noncomputable def ffDup103 : FF := .t2 ⟨27,
 (.seq (.reg [.p (.mv (kc (.tc (.sc (.slice none 0 0))))) s4])
 (.seq (.seq (.reg [.p (.mv g1) s5,
  .p (.bin .lss g5 (kc (.tc (.sc (.int .i64 0)))) (G2 103 1 1)) s6])
 (.cond g6 (.reg [.p (.gen (G2 103 2 0)) s7,
  .n (.gen (G2 103 2 1))])
 .skip))
 (.seq (.seq (.reg [.p (.mv g1) s8,
  .p (.mv g0) s9,
  .p (.gen (G2 103 3 2)) s10,
  .p (.mv g0) s11,
  .p (.len g11 (G2 103 3 4)) s12,
  .p (.bin .sub g10 g12 (G2 103 3 5)) s13,
  .p (.bin .sub g8 g13 (G2 103 3 6)) s14,
  .p (.mv g14) s1])
 (.seq (.reg [.p (.mv g1) s15,
  .p (.bin .gtr g15 (kc (.tc (.sc (.int .i64 0)))) (G2 103 4 1)) s16])
 (.cond g16 (.reg [.p (.mv g0) s17,
  .p (.mv g0) s18,
  .p (.gen (G2 103 5 2)) s19,
  .p (.sl 5 g17 none (some g19) none (G2 103 5 3)) s20,
  .p (.mv g1) s21,
  .p (.gen (G2 103 5 5)) s22,
  .p (.mv g0) s23,
  .p (.len g23 (G2 103 5 7)) s24,
  .p (.sl 5 g22 none (some g24) none (G2 103 5 8)) s25,
  .p (.mv g25) s0])
 .skip)))
 (.seq (.reg [.p (.mv g0) s26,
  .p (.mv g26) s4])
 .ret)))),
 [.tmp g4]⟩
theorem ffDup103_ok : compF SBDup 103 = ffDup103 := by kernel_rfl
noncomputable def ffDup94 : FF := .t2 ⟨4,
 (.seq (.reg [.p (.mv (kc (.tc (.sc (.slice none 0 0))))) s0])
 (.seq (.reg [.p (.call 100 [(kc (.tc (.sc (.int .u8 1)))), (kc (.tc (.sc (.int .i64 3))))] (G2 94 1 0)) s1,
  .p (.call 100 [(kc (.tc (.sc (.int .u8 2)))), (kc (.tc (.sc (.int .i64 2))))] (G2 94 1 1)) s2,
  .p (.ap 5 32 g1 g2) s3,
  .p (.mv g3) s0])
 .ret)),
 [.tmp g0]⟩
theorem ffDup94_ok : compF SBDup 94 = ffDup94 := by kernel_rfl
noncomputable def ffDup100 : FF := .t2 ⟨9,
 (.seq (.reg [.p (.mv (kc (.tc (.sc (.slice none 0 0))))) s4])
 (.seq (.reg [.p (.mv g0) s5,
  .p (.mv g1) s6,
  .p (.bd [(.tc (.sc (.int .u8 0))), (.tc (.sc (.int .i64 0))), (.tc (.sc (.int .i64 0))), (.tc (.sc (.bool false))), (.tc (.sc (.bool false)))] [(.mk 0 1 g5), (.mk 1 1 g6)] (G2 100 1 2)) s7,
  .p (.bs 5 1 [[(.tc (.sc (.int .u8 0))), (.tc (.sc (.int .i64 0))), (.tc (.sc (.int .i64 0))), (.tc (.sc (.bool false))), (.tc (.sc (.bool false)))]] [(.mk 0 5 g7)] (G2 100 1 3)) s8,
  .p (.mv g8) s4])
 .ret)),
 [.tmp g4]⟩
theorem ffDup100_ok : compF SBDup 100 = ffDup100 := by kernel_rfl
noncomputable def ffDup95 : FF := .t2 ⟨2,
 (.seq (.reg [.p (.mv (kc (.tc (.sc (.slice none 0 0))))) s0])
 (.seq (.reg [.p (.call 100 [(kc (.tc (.sc (.int .u8 3)))), (kc (.tc (.sc (.int .i64 5))))] (G2 95 1 0)) s1,
  .p (.mv g1) s0])
 .ret)),
 [.tmp g0]⟩
theorem ffDup95_ok : compF SBDup 95 = ffDup95 := by kernel_rfl
noncomputable def ffDup96 : FF := .t2 ⟨2,
 (.seq (.reg [.p (.mv (kc (.tc (.sc (.slice none 0 0))))) s0])
 (.seq (.reg [.p (.call 100 [(kc (.tc (.sc (.int .u8 5)))), (kc (.tc (.sc (.int .i64 5))))] (G2 96 1 0)) s1,
  .p (.mv g1) s0])
 .ret)),
 [.tmp g0]⟩
theorem ffDup96_ok : compF SBDup 96 = ffDup96 := by kernel_rfl
noncomputable def ffDup97 : FF := .t2 ⟨2,
 (.seq (.reg [.p (.mv (kc (.tc (.sc (.slice none 0 0))))) s0])
 (.seq (.reg [.p (.call 100 [(kc (.tc (.sc (.int .u8 6)))), (kc (.tc (.sc (.int .i64 5))))] (G2 97 1 0)) s1,
  .p (.mv g1) s0])
 .ret)),
 [.tmp g0]⟩
theorem ffDup97_ok : compF SBDup 97 = ffDup97 := by kernel_rfl
noncomputable def ffDup98 : FF := .t2 ⟨9,
 (.seq (.reg [.p (.mv (kc (.tc (.sc (.slice none 0 0))))) s4])
 (.seq (.reg [.p (.mv g0) s5,
  .p (.mv g1) s6,
  .p (.bd [(.tc (.sc (.int .u8 0))), (.tc (.sc (.int .i64 0))), (.tc (.sc (.int .i64 0))), (.tc (.sc (.bool false))), (.tc (.sc (.bool false)))] [(.mk 0 1 (kc (.tc (.sc (.int .u8 9))))), (.mk 1 1 g5), (.mk 2 1 g6), (.mk 3 1 (kc (.tc (.sc (.bool true))))), (.mk 4 1 (kc (.tc (.sc (.bool true)))))] (G2 98 1 2)) s7,
  .p (.bs 5 1 [[(.tc (.sc (.int .u8 0))), (.tc (.sc (.int .i64 0))), (.tc (.sc (.int .i64 0))), (.tc (.sc (.bool false))), (.tc (.sc (.bool false)))]] [(.mk 0 5 g7)] (G2 98 1 3)) s8,
  .p (.mv g8) s4])
 .ret)),
 [.tmp g4]⟩
theorem ffDup98_ok : compF SBDup 98 = ffDup98 := by kernel_rfl
noncomputable def ffDup99 : FF := .t2 ⟨2,
 (.seq (.reg [.p (.mv (kc (.tc (.sc (.slice none 0 0))))) s0])
 (.seq (.reg [.p (.call 100 [(kc (.tc (.sc (.int .u8 4)))), (kc (.tc (.sc (.int .i64 2))))] (G2 99 1 0)) s1,
  .p (.mv g1) s0])
 .ret)),
 [.tmp g0]⟩
theorem ffDup99_ok : compF SBDup 99 = ffDup99 := by kernel_rfl
noncomputable def ffDup101 : FF := .t2 ⟨6,
 (.seq (.reg [.p (.mv (kc (.tc (.sc (.slice none 0 0))))) s2])
 (.seq (.reg [.p (.mv g0) s3,
  .p (.bd [(.tc (.sc (.int .u8 0))), (.tc (.sc (.int .i64 0))), (.tc (.sc (.int .i64 0))), (.tc (.sc (.bool false))), (.tc (.sc (.bool false)))] [(.mk 0 1 (kc (.tc (.sc (.int .u8 10))))), (.mk 1 1 g3), (.mk 2 1 (kc (.tc (.sc (.int .i64 2))))), (.mk 3 1 (kc (.tc (.sc (.bool true))))), (.mk 4 1 (kc (.tc (.sc (.bool true)))))] (G2 101 1 1)) s4,
  .p (.bs 5 1 [[(.tc (.sc (.int .u8 0))), (.tc (.sc (.int .i64 0))), (.tc (.sc (.int .i64 0))), (.tc (.sc (.bool false))), (.tc (.sc (.bool false)))]] [(.mk 0 5 g4)] (G2 101 1 2)) s5,
  .p (.mv g5) s2])
 .ret)),
 [.tmp g2]⟩
theorem ffDup101_ok : compF SBDup 101 = ffDup101 := by kernel_rfl
noncomputable def ffDup68 : FF := .t2 ⟨8,
 (.seq (.reg [.p (.mv (kc (.tc (.sc (.slice none 0 0))))) s2])
 (.seq (.seq (.reg [.p (.mv g0) s3,
  .p (.bin .eql g3 (kc (.tc (.sc (.slice none 0 0)))) (G2 68 1 1)) s4])
 (.cond g4 (.seq (.reg [.p (.mv (kc (.tc (.sc (.slice none 0 0))))) s2])
 .ret)
 .skip))
 (.seq (.reg [.p (.bs 5 0 [] [] (G2 68 3 0)) s5,
  .p (.mv g0) s6,
  .p (.ap 5 32 g5 g6) s7,
  .p (.mv g7) s2])
 .ret))),
 [.tmp g2]⟩
theorem ffDup68_ok : compF SBDup 68 = ffDup68 := by kernel_rfl
noncomputable def ffDup43 : FF := .t2 ⟨40,
 (.seq (.reg [.p (.bx 11 g0 (G2 43 0 0)) s2,
  .p (.bx 5 g1 (G2 43 0 1)) s3,
  .p (.al 11 [(.sc (.int .u8 0)), (.sc (.int .u8 0)), (.sc (.int .u8 0)), (.sc (.int .u8 0)), (.sc (.int .u8 0)), (.sc (.int .u8 0)), (.sc (.int .u8 0)), (.sc (.bool false)), (.sc (.bool false)), (.sc (.int .u16 0)), (.sc (.int .i64 0))]) s4])
 (.seq (.seq (.reg [.p (.fa 0 g3) s5,
  .p (.ld false 1 g5) s6])
 (.block 0 (.seq (.reg [.p (.bin .eql g6 (kc (.tc (.sc (.int .u8 1)))) (G2 43 2 0)) s8,
  .p (.mv g8) s7])
 (.cond g7 (.reg [.p (.fa 6 g2) s9,
  .n (.st 1 g9 (kc (.tc (.sc (.int .u8 0)))) (G2 43 3 1))])
 (.seq (.reg [.p (.bin .eql g6 (kc (.tc (.sc (.int .u8 2)))) (G2 43 4 0)) s11,
  .p (.mv g11) s10])
 (.cond g10 (.reg [.p (.fa 5 g2) s12,
  .n (.st 1 g12 (kc (.tc (.sc (.int .u8 0)))) (G2 43 5 1))])
 (.seq (.seq (.reg [.p (.bin .eql g6 (kc (.tc (.sc (.int .u8 3)))) (G2 43 6 0)) s14,
  .p (.mv g14) s13])
 (.cond g13 .skip
 (.reg [.p (.bin .eql g6 (kc (.tc (.sc (.int .u8 4)))) (G2 43 7 0)) s15,
  .p (.mv g15) s13])))
 (.cond g13 (.reg [.p (.fa 1 g2) s16,
  .n (.st 1 g16 (kc (.tc (.sc (.int .u8 0)))) (G2 43 8 1))])
 (.seq (.reg [.p (.bin .eql g6 (kc (.tc (.sc (.int .u8 5)))) (G2 43 9 0)) s18,
  .p (.mv g18) s17])
 (.cond g17 (.reg [.p (.fa 2 g2) s19,
  .n (.st 1 g19 (kc (.tc (.sc (.int .u8 0)))) (G2 43 10 1))])
 (.seq (.reg [.p (.bin .eql g6 (kc (.tc (.sc (.int .u8 6)))) (G2 43 11 0)) s21,
  .p (.mv g21) s20])
 (.cond g20 (.reg [.p (.fa 3 g2) s22,
  .n (.st 1 g22 (kc (.tc (.sc (.int .u8 0)))) (G2 43 12 1))])
 (.seq (.reg [.p (.bin .eql g6 (kc (.tc (.sc (.int .u8 7)))) (G2 43 13 0)) s24,
  .p (.mv g24) s23])
 (.cond g23 (.reg [.p (.fa 4 g2) s25,
  .n (.st 1 g25 (kc (.tc (.sc (.int .u8 0)))) (G2 43 14 1))])
 (.seq (.reg [.p (.bin .eql g6 (kc (.tc (.sc (.int .u8 8)))) (G2 43 15 0)) s27,
  .p (.mv g27) s26])
 (.cond g26 (.reg [.p (.fa 7 g2) s28,
  .n (.st 1 g28 (kc (.tc (.sc (.bool false)))) (G2 43 16 1))])
 (.seq (.seq (.reg [.p (.bin .eql g6 (kc (.tc (.sc (.int .u8 9)))) (G2 43 17 0)) s30,
  .p (.mv g30) s29])
 (.cond g29 .skip
 (.reg [.p (.bin .eql g6 (kc (.tc (.sc (.int .u8 10)))) (G2 43 18 0)) s31,
  .p (.mv g31) s29])))
 (.cond g29 (.reg [.p (.fa 10 g2) s32,
  .n (.st 1 g32 (kc (.tc (.sc (.int .i64 0)))) (G2 43 19 1))])
 (.seq (.reg [.p (.bin .eql g6 (kc (.tc (.sc (.int .u8 11)))) (G2 43 20 0)) s34,
  .p (.mv g34) s33])
 (.cond g33 (.reg [.p (.fa 9 g2) s35,
  .n (.st 1 g35 (kc (.tc (.sc (.int .u16 0)))) (G2 43 21 1))])
 .skip))))))))))))))))))))
 (.seq (.seq (.reg [.p (.fa 4 g3) s36,
  .p (.ld false 1 g36) s37])
 (.cond g37 (.reg [.p (.fa 8 g2) s38,
  .n (.st 1 g38 (kc (.tc (.sc (.bool false)))) (G2 43 23 1))])
 .skip))
 (.seq (.reg [.p (.ld true 11 g2) s39,
  .n (.st 11 g4 g39 (G2 43 24 1))])
 .ret)))),
 [.cell g4 true 11]⟩
theorem ffDup43_ok : compF SBDup 43 = ffDup43 := by kernel_rfl
noncomputable def ffDup44 : FF := .t3 ⟨84,
 (.seq (.reg [.p (.bx 11 (h0 g0) (G3 44 0 0)) (i0 s2),
  .p (.bx 5 (h0 g1) (G3 44 0 1)) (i0 s3),
  .p (.mv (kc (.tc (.sc (.bool false))))) (i0 s4)])
 (.seq (.seq (.reg [.p (.fa 0 (h0 g3)) (i0 s5),
  .p (.ld false 1 (h0 g5)) (i0 s6)])
 (.block 0 (.seq (.reg [.p (.bin .eql (h0 g6) (kc (.tc (.sc (.int .u8 1)))) (G3 44 2 0)) (i0 s8),
  .p (.mv (h0 g8)) (i0 s7)])
 (.cond (h0 g7) (.seq (.reg [.p (.fa 6 (h0 g2)) (i0 s9),
  .p (.ld false 1 (h0 g9)) (i0 s10),
  .p (.bin .leq (h0 g10) (kc (.tc (.sc (.int .u8 4)))) (G3 44 3 2)) (i0 s11),
  .p (.mv (h0 g11)) (i0 s4)])
 .ret)
 (.seq (.reg [.p (.bin .eql (h0 g6) (kc (.tc (.sc (.int .u8 2)))) (G3 44 4 0)) (i0 s13),
  .p (.mv (h0 g13)) (i0 s12)])
 (.cond (h0 g12) (.seq (.reg [.p (.fa 5 (h0 g2)) (i0 s14),
  .p (.ld false 1 (h0 g14)) (i0 s15),
  .p (.bin .lss (h0 g15) (kc (.tc (.sc (.int .u8 4)))) (G3 44 5 2)) (i0 s16),
  .p (.mv (h0 g16)) (i0 s4)])
 .ret)
 (.seq (.reg [.p (.bin .eql (h0 g6) (kc (.tc (.sc (.int .u8 3)))) (G3 44 6 0)) (i0 s18),
  .p (.mv (h0 g18)) (i0 s17)])
 (.cond (h0 g17) (.seq (.reg [.p (.fa 1 (h0 g2)) (i0 s19),
  .p (.ld false 1 (h0 g19)) (i0 s20),
  .p (.bin .lss (h0 g20) (kc (.tc (.sc (.int .u8 32)))) (G3 44 7 2)) (i0 s21),
  .p (.mv (h0 g21)) (i0 s4)])
 .ret)
 (.seq (.reg [.p (.bin .eql (h0 g6) (kc (.tc (.sc (.int .u8 4)))) (G3 44 8 0)) (i0 s23),
  .p (.mv (h0 g23)) (i0 s22)])
 (.cond (h0 g22) (.seq (.reg [.p (.fa 1 (h0 g2)) (i0 s24),
  .p (.ld false 1 (h0 g24)) (i0 s25),
  .p (.bin .lss (h0 g25) (kc (.tc (.sc (.int .u8 4)))) (G3 44 9 2)) (i0 s26),
  .p (.mv (h0 g26)) (i0 s4)])
 .ret)
 (.seq (.reg [.p (.bin .eql (h0 g6) (kc (.tc (.sc (.int .u8 5)))) (G3 44 10 0)) (i0 s28),
  .p (.mv (h0 g28)) (i0 s27)])
 (.cond (h0 g27) (.seq (.reg [.p (.fa 2 (h0 g2)) (i0 s29),
  .p (.ld false 1 (h0 g29)) (i0 s30),
  .p (.bin .lss (h0 g30) (kc (.tc (.sc (.int .u8 32)))) (G3 44 11 2)) (i0 s31),
  .p (.mv (h0 g31)) (i0 s4)])
 .ret)
 (.seq (.reg [.p (.bin .eql (h0 g6) (kc (.tc (.sc (.int .u8 6)))) (G3 44 12 0)) (i0 s33),
  .p (.mv (h0 g33)) (i0 s32)])
 (.cond (h0 g32) (.seq (.reg [.p (.fa 3 (h0 g2)) (i0 s34),
  .p (.ld false 1 (h0 g34)) (i0 s35),
  .p (.bin .lss (h0 g35) (kc (.tc (.sc (.int .u8 32)))) (G3 44 13 2)) (i0 s36),
  .p (.mv (h0 g36)) (i0 s4)])
 .ret)
 (.seq (.reg [.p (.bin .eql (h0 g6) (kc (.tc (.sc (.int .u8 7)))) (G3 44 14 0)) (i0 s38),
  .p (.mv (h0 g38)) (i0 s37)])
 (.cond (h0 g37) (.seq (.reg [.p (.fa 4 (h0 g2)) (i0 s39),
  .p (.ld false 1 (h0 g39)) (i0 s40),
  .p (.bin .lss (h0 g40) (kc (.tc (.sc (.int .u8 2)))) (G3 44 15 2)) (i0 s41),
  .p (.mv (h0 g41)) (i0 s4)])
 .ret)
 (.seq (.reg [.p (.bin .eql (h0 g6) (kc (.tc (.sc (.int .u8 9)))) (G3 44 16 0)) (i0 s43),
  .p (.mv (h0 g43)) (i0 s42)])
 (.cond (h0 g42) (.seq (.seq (.reg [.p (.fa 8 (h0 g2)) (i0 s44),
  .p (.ld false 1 (h0 g44)) (i0 s45)])
 (.cond (h0 g45) (.seq (.reg [.p (.fa 10 (h0 g2)) (i0 s46),
  .p (.ld false 1 (h0 g46)) (i0 s47),
  .p (.bin .geq (h0 g47) (kc (.tc (.sc (.int .i64 (-2147483648))))) (G3 44 18 2)) (i0 s48),
  .p (.mv (h0 g48)) (i0 s49),
  .gp (h0 g49) true (.fa 10 (h0 g2)) (i0 s50),
  .gp (h0 g49) true (.ld false 1 (h0 g50)) (i0 s51),
  .gp (h0 g49) true (.bin .leq (h0 g51) (kc (.tc (.sc (.int .i64 2147483647)))) (G3 44 18 6)) (i0 s52),
  .p (.pk (h0 g49) (h0 g52) (kc (.tc (.sc (.bool false))))) (i0 s53),
  .p (.mv (h0 g53)) (i0 s4)])
 .ret)
 .skip))
 (.seq (.reg [.p (.fa 10 (h0 g2)) (i0 s54),
  .p (.ld false 1 (h0 g54)) (i0 s55),
  .p (.fa 1 (h0 g3)) (i0 s56),
  .p (.ld false 1 (h0 g56)) (i0 s57),
  .p (.fa 2 (h0 g3)) (i0 s58),
  .p (.ld false 1 (h0 g58)) (i0 s59),
  .p (.fa 3 (h0 g3)) (i0 s60),
  .p (.ld false 1 (h0 g60)) (i0 s61),
  .p (.call 69 [(h0 g55), (h0 g57), (h0 g59), (h0 g61)] (G3 44 19 8)) (i0 s62),
  .p (.mv (h0 g62)) (i0 s4)])
 .ret))
 (.seq (.reg [.p (.bin .eql (h0 g6) (kc (.tc (.sc (.int .u8 10)))) (G3 44 20 0)) (i1 s0),
  .p (.mv (h1 g0)) (i0 s63)])
 (.cond (h0 g63) (.seq (.reg [.p (.fa 10 (h0 g2)) (i1 s1),
  .p (.ld false 1 (h1 g1)) (i1 s2),
  .p (.bin .geq (h1 g2) (kc (.tc (.sc (.int .i64 0)))) (G3 44 21 2)) (i1 s3),
  .p (.mv (h1 g3)) (i1 s4),
  .gp (h1 g4) true (.fa 10 (h0 g2)) (i1 s5),
  .gp (h1 g4) true (.ld false 1 (h1 g5)) (i1 s6),
  .gp (h1 g4) true (.bin .lss (h1 g6) (kc (.tc (.sc (.int .i64 4294967296)))) (G3 44 21 6)) (i1 s7),
  .p (.pk (h1 g4) (h1 g7) (kc (.tc (.sc (.bool false))))) (i1 s8),
  .p (.mv (h1 g8)) (i1 s9),
  .gp (h1 g9) true (.fa 10 (h0 g2)) (i1 s10),
  .gp (h1 g9) true (.ld false 1 (h1 g10)) (i1 s11),
  .gp (h1 g9) true (.bin .rem (h1 g11) (kc (.tc (.sc (.int .i64 4)))) (G3 44 21 11)) (i1 s12),
  .gp (h1 g9) true (.bin .eql (h1 g12) (kc (.tc (.sc (.int .i64 0)))) (G3 44 21 12)) (i1 s13),
  .p (.pk (h1 g9) (h1 g13) (kc (.tc (.sc (.bool false))))) (i1 s14),
  .p (.mv (h1 g14)) (i0 s4)])
 .ret)
 (.seq (.reg [.p (.bin .eql (h0 g6) (kc (.tc (.sc (.int .u8 11)))) (G3 44 22 0)) (i1 s16),
  .p (.mv (h1 g16)) (i1 s15)])
 (.cond (h1 g15) (.seq (.reg [.p (.fa 9 (h0 g2)) (i1 s17),
  .p (.ld false 1 (h1 g17)) (i1 s18),
  .p (.bin .lss (h1 g18) (kc (.tc (.sc (.int .u16 2048)))) (G3 44 23 2)) (i1 s19),
  .p (.mv (h1 g19)) (i0 s4)])
 .ret)
 .skip))))))))))))))))))))))
 (.seq (.reg [.p (.mv (kc (.tc (.sc (.bool true))))) (i0 s4)])
 .ret))),
 [.tmp (h0 g4)]⟩
theorem ffDup44_ok : compF SBDup 44 = ffDup44 := by kernel_rfl
noncomputable def ffDup69 : FF := .t2 ⟨48,
 (.seq (.reg [.p (.mv (kc (.tc (.sc (.bool false))))) s8])
 (.seq (.seq (.reg [.p (.mv g1) s9,
  .p (.bin .lss g9 (kc (.tc (.sc (.int .i64 1)))) (G2 69 1 1)) s10,
  .p (.mv g10) s11,
  .gp g11 false (.mv g1) s12,
  .gp g11 false (.bin .gtr g12 (kc (.tc (.sc (.int .i64 32)))) (G2 69 1 4)) s13,
  .p (.pk g11 (kc (.tc (.sc (.bool true)))) g13) s14,
  .p (.mv g14) s15,
  .gp g15 false (.mv g2) s16,
  .gp g15 false (.bin .lss g16 (kc (.tc (.sc (.int .i64 0)))) (G2 69 1 8)) s17,
  .p (.pk g15 (kc (.tc (.sc (.bool true)))) g17) s18,
  .p (.mv g18) s19,
  .gp g19 false (.mv g2) s20,
  .gp g19 false (.bin .gtr g20 (kc (.tc (.sc (.int .i64 8)))) (G2 69 1 12)) s21,
  .p (.pk g19 (kc (.tc (.sc (.bool true)))) g21) s22,
  .p (.mv g22) s23,
  .gp g23 false (.mv g0) s24,
  .gp g23 false (.mv g2) s25,
  .gp g23 false (.bin .shl (kc (.tc (.sc (.int .i64 1)))) g25 (G2 69 1 17)) s26,
  .gp g23 false (.bin .sub g26 (kc (.tc (.sc (.int .i64 1)))) (G2 69 1 18)) s27,
  .gp g23 false (.bin .and g24 g27 (G2 69 1 19)) s28,
  .gp g23 false (.bin .neq g28 (kc (.tc (.sc (.int .i64 0)))) (G2 69 1 20)) s29,
  .p (.pk g23 (kc (.tc (.sc (.bool true)))) g29) s30])
 (.cond g30 (.seq (.reg [.p (.mv (kc (.tc (.sc (.bool false))))) s8])
 .ret)
 .skip))
 (.seq (.reg [.p (.mv g0) s31,
  .p (.mv g2) s32,
  .p (.bin .shr g31 g32 (G2 69 3 2)) s33,
  .p (.mv g33) s0])
 (.seq (.seq (.reg [.p (.mv g3) s34])
 (.cond g34 (.reg [.p (.mv g0) s35,
  .p (.mv g1) s36,
  .p (.bin .sub g36 (kc (.tc (.sc (.int .i64 1)))) (G2 69 5 2)) s37,
  .p (.bin .shl (kc (.tc (.sc (.int .i64 1)))) g37 (G2 69 5 3)) s38,
  .p (.bin .add g35 g38 (G2 69 5 4)) s39,
  .p (.mv g39) s0])
 .skip))
 (.seq (.reg [.p (.mv g0) s40,
  .p (.bin .geq g40 (kc (.tc (.sc (.int .i64 0)))) (G2 69 6 1)) s41,
  .p (.mv g41) s42,
  .gp g42 true (.mv g0) s43,
  .gp g42 true (.mv g1) s44,
  .gp g42 true (.bin .shl (kc (.tc (.sc (.int .i64 1)))) g44 (G2 69 6 5)) s45,
  .gp g42 true (.bin .lss g43 g45 (G2 69 6 6)) s46,
  .p (.pk g42 g46 (kc (.tc (.sc (.bool false))))) s47,
  .p (.mv g47) s8])
 .ret))))),
 [.tmp g8]⟩
theorem ffDup69_ok : compF SBDup 69 = ffDup69 := by kernel_rfl
noncomputable def ffDup45 : FF := .t2 ⟨5,
 (.seq (.reg [.p (.bx 11 g0 (G2 45 0 0)) s1,
  .p (.mv (kc (.tc (.sc (.bool false))))) s2])
 (.seq (.reg [.p (.ld true 11 g1) s3,
  .p (.call 70 [g3, (kc (.tc (.sc (.int .u8 1))))] (G2 45 1 1)) s4,
  .p (.mv g4) s2])
 .ret)),
 [.tmp g2]⟩
theorem ffDup45_ok : compF SBDup 45 = ffDup45 := by kernel_rfl
noncomputable def ffDup70 : FF := .t2 ⟨17,
 (.seq (.reg [.p (.bx 11 g0 (G2 70 0 0)) s2,
  .p (.mv (kc (.tc (.sc (.bool false))))) s4])
 (.seq (.reg [.p (.fa 0 g2) s9,
  .p (.ld false 1 g9) s10,
  .p (.mv g1) s11,
  .p (.call 89 [g10, g11] (G2 70 1 3)) s12,
  .p (.mv g12) s8,
  .p (.ex g8 0) s13,
  .p (.ex g8 1) s14,
  .p (.ex g8 2) s15,
  .p (.al 5 [(.sc (.int .u8 0)), (.sc (.int .i64 0)), (.sc (.int .i64 0)), (.sc (.bool false)), (.sc (.bool false))]) s5,
  .n (.st 5 g5 g13 (G2 70 1 9)),
  .p (.mv g14) s6,
  .p (.mv g15) s7])
 (.seq (.reg [.p (.mv g7) s16,
  .p (.mv g16) s4])
 .ret))),
 [.tmp g4]⟩
theorem ffDup70_ok : compF SBDup 70 = ffDup70 := by kernel_rfl
noncomputable def ffDup89 : FF := .t2 ⟨35,
 (.seq (.reg [.p (.al 5 [(.sc (.int .u8 0)), (.sc (.int .i64 0)), (.sc (.int .i64 0)), (.sc (.bool false)), (.sc (.bool false))]) s4,
  .p (.mv (kc (.tc (.sc (.int .i64 0))))) s5,
  .p (.mv (kc (.tc (.sc (.bool false))))) s6])
 (.seq (.reg [.p (.mv g0) s12,
  .p (.call 67 [g12] (G2 89 1 1)) s13,
  .p (.mv g13) s11,
  .p (.ex g11 0) s14,
  .p (.ex g11 1) s15,
  .p (.al 5 [(.sc (.int .u8 0)), (.sc (.string ⟨#[]⟩)), (.sc (.int .u8 0)), (.sc (.int .u8 0)), (.sc (.slice none 0 0))]) s7,
  .n (.st 5 g7 g14 (G2 89 1 6)),
  .p (.mv g15) s8])
 (.seq (.reg [.p (.mv (kc (.tc (.sc (.int .i64 24))))) s5])
 (.seq (.seq (.reg [.p (.fa 4 g7) s16,
  .p (.ld false 1 g16) s17,
  .p (.len g17 (G2 89 3 2)) s18,
  .p (.mv (kc (.tc (.sc (.int .i64 0))))) s19])
 (.block 0 (.loop 4294967296 (.seq (.reg [.p (.bin .lss g19 g18 (G2 89 4 0)) s20])
 (.seq (.cond g20 .skip
 (.exit 0))
 (.seq (.block 1 (.seq (.reg [.p (.ia 5 g17 g19 (G2 89 5 0)) s21,
  .p (.ld true 5 g21) s22,
  .p (.al 5 [(.sc (.int .u8 0)), (.sc (.int .i64 0)), (.sc (.int .i64 0)), (.sc (.bool false)), (.sc (.bool false))]) s10,
  .n (.st 5 g10 g22 (G2 89 5 3))])
 (.seq (.reg [.p (.mv g5) s23,
  .p (.fa 1 g10) s24,
  .p (.ld false 1 g24) s25,
  .p (.bin .sub g23 g25 (G2 89 6 3)) s26,
  .p (.mv g26) s5])
 (.seq (.reg [.p (.fa 0 g10) s27,
  .p (.ld false 1 g27) s28,
  .p (.mv g1) s29,
  .p (.bin .eql g28 g29 (G2 89 7 3)) s30])
 (.cond g30 (.seq (.reg [.p (.ld true 5 g10) s31,
  .p (.mv g5) s32,
  .n (.st 5 g4 g31 (G2 89 8 2)),
  .p (.mv g32) s5,
  .p (.mv (kc (.tc (.sc (.bool true))))) s6])
 .ret)
 .skip)))))
 (.reg [.p (.bin .add g19 (kc (.tc (.sc (.int .i64 1)))) (G2 89 9 0)) s33,
  .p (.mv g33) s19])))))))
 (.seq (.reg [.p (.bd [(.tc (.sc (.int .u8 0))), (.tc (.sc (.int .i64 0))), (.tc (.sc (.int .i64 0))), (.tc (.sc (.bool false))), (.tc (.sc (.bool false)))] [] (G2 89 10 0)) s34,
  .n (.st 5 g4 g34 (G2 89 10 1)),
  .p (.mv (kc (.tc (.sc (.int .i64 0))))) s5,
  .p (.mv (kc (.tc (.sc (.bool false))))) s6])
 .ret))))),
 [.cell g4 true 5, .tmp g5, .tmp g6]⟩
theorem ffDup89_ok : compF SBDup 89 = ffDup89 := by kernel_rfl
noncomputable def ffDup47 : FF := .t2 ⟨6,
 (.seq (.reg [.p (.bx 11 g0 (G2 47 0 0)) s1,
  .p (.mv (kc (.tc (.sc (.bool false))))) s2])
 (.seq (.reg [.p (.ld true 11 g1) s3,
  .p (.call 71 [g3] (G2 47 1 1)) s4,
  .p (.bin .eql g4 (kc (.tc (.sc (.int .u8 4)))) (G2 47 1 2)) s5,
  .p (.mv g5) s2])
 .ret)),
 [.tmp g2]⟩
theorem ffDup47_ok : compF SBDup 47 = ffDup47 := by kernel_rfl
noncomputable def ffDup71 : FF := .t2 ⟨13,
 (.seq (.reg [.p (.bx 11 g0 (G2 71 0 0)) s1,
  .p (.mv (kc (.tc (.sc (.int .u8 0))))) s2])
 (.seq (.reg [.p (.fa 0 g1) s6,
  .p (.ld false 1 g6) s7,
  .p (.call 42 [g7] (G2 71 1 2)) s8,
  .p (.mv g8) s5,
  .p (.ex g5 0) s9,
  .p (.ex g5 1) s10,
  .p (.al 5 [(.sc (.int .u8 0)), (.sc (.string ⟨#[]⟩)), (.sc (.int .u8 0)), (.sc (.int .u8 0)), (.sc (.slice none 0 0))]) s3,
  .n (.st 5 g3 g9 (G2 71 1 7)),
  .p (.mv g10) s4])
 (.seq (.reg [.p (.fa 2 g3) s11,
  .p (.ld false 1 g11) s12,
  .p (.mv g12) s2])
 .ret))),
 [.tmp g2]⟩
theorem ffDup71_ok : compF SBDup 71 = ffDup71 := by kernel_rfl
noncomputable def ffDup26 : FF := .t2 ⟨46,
 (.seq (.reg [.p (.al 11 [(.sc (.int .u8 0)), (.sc (.int .u8 0)), (.sc (.int .u8 0)), (.sc (.int .u8 0)), (.sc (.int .u8 0)), (.sc (.int .u8 0)), (.sc (.int .u8 0)), (.sc (.bool false)), (.sc (.bool false)), (.sc (.int .u16 0)), (.sc (.int .i64 0))]) s2,
  .p (.al 11 [(.sc (.int .u8 0)), (.sc (.int .u8 0)), (.sc (.int .u8 0)), (.sc (.int .u8 0)), (.sc (.int .u8 0)), (.sc (.int .u8 0)), (.sc (.int .u8 0)), (.sc (.bool false)), (.sc (.bool false)), (.sc (.int .u16 0)), (.sc (.int .i64 0))]) s3,
  .p (.mv (kc (.tc (.sc (.bool false))))) s4])
 (.seq (.reg [.p (.mv g0) s13,
  .p (.call 48 [g13] (G2 26 1 1)) s14,
  .p (.mv g14) s12,
  .p (.ex g12 0) s15,
  .p (.ex g12 1) s16,
  .p (.ex g12 2) s17,
  .p (.mv g15) s5,
  .p (.mv g16) s6,
  .p (.mv g17) s7])
 (.seq (.reg [.p (.mv g5) s19,
  .p (.call 20 [g19] (G2 26 2 1)) s20,
  .p (.mv g20) s18,
  .p (.ex g18 0) s21,
  .p (.ex g18 1) s22,
  .p (.al 11 [(.sc (.int .u8 0)), (.sc (.int .u8 0)), (.sc (.int .u8 0)), (.sc (.int .u8 0)), (.sc (.int .u8 0)), (.sc (.int .u8 0)), (.sc (.int .u8 0)), (.sc (.bool false)), (.sc (.bool false)), (.sc (.int .u16 0)), (.sc (.int .i64 0))]) s8,
  .n (.st 11 g8 g21 (G2 26 2 6)),
  .p (.mv g22) s9])
 (.seq (.reg [.p (.mv g6) s24,
  .p (.call 20 [g24] (G2 26 3 1)) s25,
  .p (.mv g25) s23,
  .p (.ex g23 0) s26,
  .p (.ex g23 1) s27,
  .p (.al 11 [(.sc (.int .u8 0)), (.sc (.int .u8 0)), (.sc (.int .u8 0)), (.sc (.int .u8 0)), (.sc (.int .u8 0)), (.sc (.int .u8 0)), (.sc (.int .u8 0)), (.sc (.bool false)), (.sc (.bool false)), (.sc (.int .u16 0)), (.sc (.int .i64 0))]) s10,
  .n (.st 11 g10 g26 (G2 26 3 6)),
  .p (.mv g27) s11])
 (.seq (.seq (.reg [.p (.mv g7) s28,
  .p (.bin .neq g28 (kc (.tc (.sc (.int .i64 0)))) (G2 26 4 1)) s29,
  .p (.mv g29) s30,
  .gp g30 false (.mv g9) s31,
  .gp g30 false (.nt g31 (G2 26 4 4)) s32,
  .p (.pk g30 (kc (.tc (.sc (.bool true)))) g32) s33,
  .p (.mv g33) s34,
  .gp g34 false (.mv g11) s35,
  .gp g34 false (.nt g35 (G2 26 4 8)) s36,
  .p (.pk g34 (kc (.tc (.sc (.bool true)))) g36) s37,
  .p (.mv g37) s38,
  .gp g38 false (.ld true 11 g8) s39,
  .gp g38 false (.call 49 [g39] (G2 26 4 12)) s40,
  .p (.pk g38 (kc (.tc (.sc (.bool true)))) g40) s41])
 (.cond g41 (.seq (.reg [.p (.bd [(.tc (.sc (.int .u8 0))), (.tc (.sc (.int .u8 0))), (.tc (.sc (.int .u8 0))), (.tc (.sc (.int .u8 0))), (.tc (.sc (.int .u8 0))), (.tc (.sc (.int .u8 0))), (.tc (.sc (.int .u8 0))), (.tc (.sc (.bool false))), (.tc (.sc (.bool false))), (.tc (.sc (.int .u16 0))), (.tc (.sc (.int .i64 0)))] [] (G2 26 5 0)) s42,
  .p (.bd [(.tc (.sc (.int .u8 0))), (.tc (.sc (.int .u8 0))), (.tc (.sc (.int .u8 0))), (.tc (.sc (.int .u8 0))), (.tc (.sc (.int .u8 0))), (.tc (.sc (.int .u8 0))), (.tc (.sc (.int .u8 0))), (.tc (.sc (.bool false))), (.tc (.sc (.bool false))), (.tc (.sc (.int .u16 0))), (.tc (.sc (.int .i64 0)))] [] (G2 26 5 1)) s43,
  .n (.st 11 g2 g42 (G2 26 5 2)),
  .n (.st 11 g3 g43 (G2 26 5 3)),
  .p (.mv (kc (.tc (.sc (.bool false))))) s4])
 .ret)
 .skip))
 (.seq (.regD [0, 0, 1, 7, 15] [(.rd (.ld true 11 g8) g44), (.rd (.ld true 11 g10) g45), .no, .no, .no] [.mk .none .yes (.ld true 11 g8) (.ld true 11 g8) (some s44),
  .mk .none .yes (.ld true 11 g10) (.ld true 11 g10) (some s45),
  .mk .none .no (.st 11 g2 g44 (G2 26 6 2)) (.st 11 g2 g44 (G2 26 6 2)) none,
  .mk .none .no (.st 11 g3 g45 (G2 26 6 3)) (.st 11 g3 g45 (G2 26 6 3)) none,
  .mk .none .yes (.mv (kc (.tc (.sc (.bool true))))) (.mv (kc (.tc (.sc (.bool true))))) (some s4)])
 .ret)))))),
 [.cell g2 true 11, .cell g3 true 11, .tmp g4]⟩
theorem ffDup26_ok : compF SBDup 26 = ffDup26 := by kernel_rfl
noncomputable def ffDup48 : FF := .t2 ⟨27,
 (.seq (.reg [.p (.mv (kc (.tc (.sc (.int .i64 0))))) s2,
  .p (.mv (kc (.tc (.sc (.int .i64 0))))) s3,
  .p (.mv (kc (.tc (.sc (.int .i64 0))))) s4])
 (.seq (.reg [.p (.mv g0) s9,
  .p (.bin .quo g9 (kc (.tc (.sc (.int .u32 65536)))) (G2 48 1 1)) s10,
  .p (.cv .i64 g10 (G2 48 1 2)) s11,
  .p (.mv g11) s5])
 (.seq (.reg [.p (.mv g0) s12,
  .p (.bin .rem g12 (kc (.tc (.sc (.int .u32 65536)))) (G2 48 2 1)) s13,
  .p (.cv .i64 g13 (G2 48 2 2)) s14,
  .p (.mv g14) s6])
 (.seq (.reg [.p (.mv g6) s15,
  .p (.bin .quo g15 (kc (.tc (.sc (.int .i64 16384)))) (G2 48 3 1)) s16,
  .p (.mv g16) s7])
 (.seq (.reg [.p (.mv g5) s17,
  .p (.bin .mul g17 (kc (.tc (.sc (.int .i64 16384)))) (G2 48 4 1)) s18,
  .p (.mv g6) s19,
  .p (.bin .rem g19 (kc (.tc (.sc (.int .i64 16384)))) (G2 48 4 3)) s20,
  .p (.bin .add g18 g20 (G2 48 4 4)) s21,
  .p (.mv g21) s8])
 (.seq (.reg [.p (.mv g8) s22,
  .p (.bin .quo g22 (kc (.tc (.sc (.int .i64 32768)))) (G2 48 5 1)) s23,
  .p (.mv g8) s24,
  .p (.bin .rem g24 (kc (.tc (.sc (.int .i64 32768)))) (G2 48 5 3)) s25,
  .p (.mv g7) s26,
  .p (.mv g23) s2,
  .p (.mv g25) s3,
  .p (.mv g26) s4])
 .ret)))))),
 [.tmp g2, .tmp g3, .tmp g4]⟩
theorem ffDup48_ok : compF SBDup 48 = ffDup48 := by kernel_rfl
noncomputable def ffDup20 : FF := .t3 ⟨101,
 (.seq (.reg [.p (.al 11 [(.sc (.int .u8 0)), (.sc (.int .u8 0)), (.sc (.int .u8 0)), (.sc (.int .u8 0)), (.sc (.int .u8 0)), (.sc (.int .u8 0)), (.sc (.int .u8 0)), (.sc (.bool false)), (.sc (.bool false)), (.sc (.int .u16 0)), (.sc (.int .i64 0))]) (i0 s2),
  .p (.mv (kc (.tc (.sc (.bool false))))) (i0 s3)])
 (.seq (.reg [.p (.mv (h0 g0)) (i0 s9),
  .p (.bin .quo (h0 g9) (kc (.tc (.sc (.int .i64 2048)))) (G3 20 1 1)) (i0 s10),
  .p (.mv (h0 g10)) (i0 s4)])
 (.seq (.reg [.p (.mv (h0 g0)) (i0 s11),
  .p (.bin .quo (h0 g11) (kc (.tc (.sc (.int .i64 128)))) (G3 20 2 1)) (i0 s12),
  .p (.bin .rem (h0 g12) (kc (.tc (.sc (.int .i64 16)))) (G3 20 2 2)) (i0 s13),
  .p (.mv (h0 g13)) (i0 s5)])
 (.seq (.reg [.p (.mv (h0 g0)) (i0 s14),
  .p (.bin .quo (h0 g14) (kc (.tc (.sc (.int .i64 8)))) (G3 20 3 1)) (i0 s15),
  .p (.bin .rem (h0 g15) (kc (.tc (.sc (.int .i64 16)))) (G3 20 3 2)) (i0 s16),
  .p (.mv (h0 g16)) (i0 s6)])
 (.seq (.reg [.p (.mv (h0 g0)) (i0 s17),
  .p (.bin .rem (h0 g17) (kc (.tc (.sc (.int .i64 8)))) (G3 20 4 1)) (i0 s18),
  .p (.mv (h0 g18)) (i0 s7)])
 (.seq (.reg [.p (.mv (h0 g0)) (i0 s19),
  .p (.bin .rem (h0 g19) (kc (.tc (.sc (.int .i64 128)))) (G3 20 5 1)) (i0 s20),
  .p (.mv (h0 g20)) (i0 s8)])
 (.seq (.seq (.reg [.p (.mv (h0 g4)) (i0 s21)])
 (.block 0 (.seq (.reg [.p (.bin .eql (h0 g21) (kc (.tc (.sc (.int .i64 1)))) (G3 20 7 0)) (i0 s23),
  .p (.mv (h0 g23)) (i0 s22)])
 (.cond (h0 g22) (.seq (.reg [.p (.mv (h0 g5)) (i0 s24),
  .p (.call 40 [(h0 g24)] (G3 20 8 1)) (i0 s25),
  .p (.mv (h0 g8)) (i0 s26),
  .p (.bd [(.tc (.sc (.int .u8 0))), (.tc (.sc (.int .u8 0))), (.tc (.sc (.int .u8 0))), (.tc (.sc (.int .u8 0))), (.tc (.sc (.int .u8 0))), (.tc (.sc (.int .u8 0))), (.tc (.sc (.int .u8 0))), (.tc (.sc (.bool false))), (.tc (.sc (.bool false))), (.tc (.sc (.int .u16 0))), (.tc (.sc (.int .i64 0)))] [(.mk 0 1 (kc (.tc (.sc (.int .u8 8))))), (.mk 1 1 (h0 g25)), (.mk 10 1 (h0 g26))] (G3 20 8 3)) (i0 s27),
  .n (.st 11 (h0 g2) (h0 g27) (G3 20 8 4)),
  .p (.mv (kc (.tc (.sc (.bool true))))) (i0 s3)])
 .ret)
 (.seq (.reg [.p (.bin .eql (h0 g21) (kc (.tc (.sc (.int .i64 2)))) (G3 20 9 0)) (i0 s29),
  .p (.mv (h0 g29)) (i0 s28)])
 (.cond (h0 g28) (.seq (.seq (.reg [.p (.mv (h0 g8)) (i0 s30),
  .p (.bin .gtr (h0 g30) (kc (.tc (.sc (.int .i64 63)))) (G3 20 10 1)) (i0 s31)])
 (.cond (h0 g31) (.reg [.p (.mv (h0 g8)) (i0 s32),
  .p (.bin .sub (h0 g32) (kc (.tc (.sc (.int .i64 128)))) (G3 20 11 1)) (i0 s33),
  .p (.mv (h0 g33)) (i0 s8)])
 .skip))
 (.seq (.reg [.p (.mv (h0 g5)) (i0 s34),
  .p (.call 40 [(h0 g34)] (G3 20 12 1)) (i0 s35),
  .p (.mv (h0 g5)) (i0 s36),
  .p (.call 40 [(h0 g36)] (G3 20 12 3)) (i0 s37),
  .p (.mv (h0 g8)) (i0 s38),
  .p (.bd [(.tc (.sc (.int .u8 0))), (.tc (.sc (.int .u8 0))), (.tc (.sc (.int .u8 0))), (.tc (.sc (.int .u8 0))), (.tc (.sc (.int .u8 0))), (.tc (.sc (.int .u8 0))), (.tc (.sc (.int .u8 0))), (.tc (.sc (.bool false))), (.tc (.sc (.bool false))), (.tc (.sc (.int .u16 0))), (.tc (.sc (.int .i64 0)))] [(.mk 0 1 (kc (.tc (.sc (.int .u8 7))))), (.mk 1 1 (h0 g35)), (.mk 2 1 (h0 g37)), (.mk 10 1 (h0 g38))] (G3 20 12 5)) (i0 s39),
  .n (.st 11 (h0 g2) (h0 g39) (G3 20 12 6)),
  .p (.mv (kc (.tc (.sc (.bool true))))) (i0 s3)])
 .ret))
 (.seq (.reg [.p (.bin .eql (h0 g21) (kc (.tc (.sc (.int .i64 3)))) (G3 20 13 0)) (i0 s41),
  .p (.mv (h0 g41)) (i0 s40)])
 (.cond (h0 g40) (.seq (.reg [.p (.mv (h0 g7)) (i0 s42),
  .p (.bin .eql (h0 g42) (kc (.tc (.sc (.int .i64 0)))) (G3 20 14 1)) (i0 s43)])
 (.cond (h0 g43) (.seq (.reg [.p (.mv (h0 g5)) (i0 s44),
  .p (.call 40 [(h0 g44)] (G3 20 15 1)) (i0 s45),
  .p (.mv (h0 g6)) (i0 s46),
  .p (.call 40 [(h0 g46)] (G3 20 15 3)) (i0 s47),
  .p (.bd [(.tc (.sc (.int .u8 0))), (.tc (.sc (.int .u8 0))), (.tc (.sc (.int .u8 0))), (.tc (.sc (.int .u8 0))), (.tc (.sc (.int .u8 0))), (.tc (.sc (.int .u8 0))), (.tc (.sc (.int .u8 0))), (.tc (.sc (.bool false))), (.tc (.sc (.bool false))), (.tc (.sc (.int .u16 0))), (.tc (.sc (.int .i64 0)))] [(.mk 0 1 (kc (.tc (.sc (.int .u8 9))))), (.mk 1 1 (h0 g45)), (.mk 2 1 (h0 g47))] (G3 20 15 4)) (i0 s48),
  .n (.st 11 (h0 g2) (h0 g48) (G3 20 15 5)),
  .p (.mv (kc (.tc (.sc (.bool true))))) (i0 s3)])
 .ret)
 .skip))
 (.seq (.reg [.p (.bin .eql (h0 g21) (kc (.tc (.sc (.int .i64 4)))) (G3 20 16 0)) (i0 s50),
  .p (.mv (h0 g50)) (i0 s49)])
 (.cond (h0 g49) (.seq (.reg [.p (.mv (h0 g7)) (i0 s51),
  .p (.bin .eql (h0 g51) (kc (.tc (.sc (.int .i64 0)))) (G3 20 17 1)) (i0 s52)])
 (.cond (h0 g52) (.seq (.reg [.p (.mv (h0 g5)) (i0 s53),
  .p (.call 40 [(h0 g53)] (G3 20 18 1)) (i0 s54),
  .p (.mv (h0 g5)) (i0 s55),
  .p (.call 40 [(h0 g55)] (G3 20 18 3)) (i0 s56),
  .p (.mv (h0 g6)) (i0 s57),
  .p (.call 40 [(h0 g57)] (G3 20 18 5)) (i0 s58),
  .p (.bd [(.tc (.sc (.int .u8 0))), (.tc (.sc (.int .u8 0))), (.tc (.sc (.int .u8 0))), (.tc (.sc (.int .u8 0))), (.tc (.sc (.int .u8 0))), (.tc (.sc (.int .u8 0))), (.tc (.sc (.int .u8 0))), (.tc (.sc (.bool false))), (.tc (.sc (.bool false))), (.tc (.sc (.int .u16 0))), (.tc (.sc (.int .i64 0)))] [(.mk 0 1 (kc (.tc (.sc (.int .u8 2))))), (.mk 1 1 (h0 g54)), (.mk 2 1 (h0 g56)), (.mk 3 1 (h0 g58))] (G3 20 18 6)) (i0 s59),
  .n (.st 11 (h0 g2) (h0 g59) (G3 20 18 7)),
  .p (.mv (kc (.tc (.sc (.bool true))))) (i0 s3)])
 .ret)
 .skip))
 (.seq (.reg [.p (.bin .eql (h0 g21) (kc (.tc (.sc (.int .i64 5)))) (G3 20 19 0)) (i0 s61),
  .p (.mv (h0 g61)) (i0 s60)])
 (.cond (h0 g60) (.seq (.reg [.p (.mv (h0 g5)) (i0 s62),
  .p (.call 40 [(h0 g62)] (G3 20 20 1)) (i0 s63),
  .p (.mv (h0 g6)) (i1 s0),
  .p (.call 40 [(h1 g0)] (G3 20 20 3)) (i1 s1),
  .p (.mv (h0 g7)) (i1 s2),
  .p (.bin .mul (kc (.tc (.sc (.int .i64 4)))) (h1 g2) (G3 20 20 5)) (i1 s3),
  .p (.bd [(.tc (.sc (.int .u8 0))), (.tc (.sc (.int .u8 0))), (.tc (.sc (.int .u8 0))), (.tc (.sc (.int .u8 0))), (.tc (.sc (.int .u8 0))), (.tc (.sc (.int .u8 0))), (.tc (.sc (.int .u8 0))), (.tc (.sc (.bool false))), (.tc (.sc (.bool false))), (.tc (.sc (.int .u16 0))), (.tc (.sc (.int .i64 0)))] [(.mk 0 1 (kc (.tc (.sc (.int .u8 21))))), (.mk 1 1 (h0 g63)), (.mk 2 1 (h1 g1)), (.mk 10 1 (h1 g3))] (G3 20 20 6)) (i1 s4),
  .n (.st 11 (h0 g2) (h1 g4) (G3 20 20 7)),
  .p (.mv (kc (.tc (.sc (.bool true))))) (i0 s3)])
 .ret)
 (.seq (.reg [.p (.bin .eql (h0 g21) (kc (.tc (.sc (.int .i64 6)))) (G3 20 21 0)) (i1 s6),
  .p (.mv (h1 g6)) (i1 s5)])
 (.cond (h1 g5) (.seq (.reg [.p (.mv (h0 g5)) (i1 s7),
  .p (.call 40 [(h1 g7)] (G3 20 22 1)) (i1 s8),
  .p (.mv (h0 g6)) (i1 s9),
  .p (.call 40 [(h1 g9)] (G3 20 22 3)) (i1 s10),
  .p (.mv (h0 g7)) (i1 s11),
  .p (.bin .mul (kc (.tc (.sc (.int .i64 4)))) (h1 g11) (G3 20 22 5)) (i1 s12),
  .p (.bd [(.tc (.sc (.int .u8 0))), (.tc (.sc (.int .u8 0))), (.tc (.sc (.int .u8 0))), (.tc (.sc (.int .u8 0))), (.tc (.sc (.int .u8 0))), (.tc (.sc (.int .u8 0))), (.tc (.sc (.int .u8 0))), (.tc (.sc (.bool false))), (.tc (.sc (.bool false))), (.tc (.sc (.int .u16 0))), (.tc (.sc (.int .i64 0)))] [(.mk 0 1 (kc (.tc (.sc (.int .u8 24))))), (.mk 2 1 (h1 g8)), (.mk 3 1 (h1 g10)), (.mk 10 1 (h1 g12))] (G3 20 22 6)) (i1 s13),
  .n (.st 11 (h0 g2) (h1 g13) (G3 20 22 7)),
  .p (.mv (kc (.tc (.sc (.bool true))))) (i0 s3)])
 .ret)
 (.seq (.reg [.p (.bin .eql (h0 g21) (kc (.tc (.sc (.int .i64 7)))) (G3 20 23 0)) (i1 s15),
  .p (.mv (h1 g15)) (i1 s14)])
 (.cond (h1 g14) (.seq (.reg [.p (.mv (h0 g5)) (i1 s16),
  .p (.call 40 [(h1 g16)] (G3 20 24 1)) (i1 s17),
  .p (.mv (h0 g6)) (i1 s18),
  .p (.call 40 [(h1 g18)] (G3 20 24 3)) (i1 s19),
  .p (.mv (h0 g7)) (i1 s20),
  .p (.bd [(.tc (.sc (.int .u8 0))), (.tc (.sc (.int .u8 0))), (.tc (.sc (.int .u8 0))), (.tc (.sc (.int .u8 0))), (.tc (.sc (.int .u8 0))), (.tc (.sc (.int .u8 0))), (.tc (.sc (.int .u8 0))), (.tc (.sc (.bool false))), (.tc (.sc (.bool false))), (.tc (.sc (.int .u16 0))), (.tc (.sc (.int .i64 0)))] [(.mk 0 1 (kc (.tc (.sc (.int .u8 23))))), (.mk 1 1 (h1 g17)), (.mk 2 1 (h1 g19)), (.mk 10 1 (h1 g20))] (G3 20 24 5)) (i1 s21),
  .n (.st 11 (h0 g2) (h1 g21) (G3 20 24 6)),
  .p (.mv (kc (.tc (.sc (.bool true))))) (i0 s3)])
 .ret)
 (.seq (.reg [.p (.bin .eql (h0 g21) (kc (.tc (.sc (.int .i64 8)))) (G3 20 25 0)) (i1 s23),
  .p (.mv (h1 g23)) (i1 s22)])
 (.cond (h1 g22) (.seq (.reg [.p (.mv (h0 g5)) (i1 s24),
  .p (.call 40 [(h1 g24)] (G3 20 26 1)) (i1 s25),
  .p (.mv (h0 g6)) (i1 s26),
  .p (.call 40 [(h1 g26)] (G3 20 26 3)) (i1 s27),
  .p (.mv (h0 g7)) (i1 s28),
  .p (.bd [(.tc (.sc (.int .u8 0))), (.tc (.sc (.int .u8 0))), (.tc (.sc (.int .u8 0))), (.tc (.sc (.int .u8 0))), (.tc (.sc (.int .u8 0))), (.tc (.sc (.int .u8 0))), (.tc (.sc (.int .u8 0))), (.tc (.sc (.bool false))), (.tc (.sc (.bool false))), (.tc (.sc (.int .u16 0))), (.tc (.sc (.int .i64 0)))] [(.mk 0 1 (kc (.tc (.sc (.int .u8 26))))), (.mk 2 1 (h1 g25)), (.mk 3 1 (h1 g27)), (.mk 10 1 (h1 g28))] (G3 20 26 5)) (i1 s29),
  .n (.st 11 (h0 g2) (h1 g29) (G3 20 26 6)),
  .p (.mv (kc (.tc (.sc (.bool true))))) (i0 s3)])
 .ret)
 (.seq (.reg [.p (.bin .eql (h0 g21) (kc (.tc (.sc (.int .i64 9)))) (G3 20 27 0)) (i1 s31),
  .p (.mv (h1 g31)) (i1 s30)])
 (.cond (h1 g30) (.seq (.reg [.p (.mv (h0 g5)) (i1 s32),
  .p (.call 40 [(h1 g32)] (G3 20 28 1)) (i1 s33),
  .p (.mv (h0 g8)) (i1 s34),
  .p (.bd [(.tc (.sc (.int .u8 0))), (.tc (.sc (.int .u8 0))), (.tc (.sc (.int .u8 0))), (.tc (.sc (.int .u8 0))), (.tc (.sc (.int .u8 0))), (.tc (.sc (.int .u8 0))), (.tc (.sc (.int .u8 0))), (.tc (.sc (.bool false))), (.tc (.sc (.bool false))), (.tc (.sc (.int .u16 0))), (.tc (.sc (.int .i64 0)))] [(.mk 0 1 (kc (.tc (.sc (.int .u8 13))))), (.mk 2 1 (h1 g33)), (.mk 10 1 (h1 g34))] (G3 20 28 3)) (i1 s35),
  .n (.st 11 (h0 g2) (h1 g35) (G3 20 28 4)),
  .p (.mv (kc (.tc (.sc (.bool true))))) (i0 s3)])
 .ret)
 .skip))))))))))))))))))))
 (.seq (.reg [.p (.bd [(.tc (.sc (.int .u8 0))), (.tc (.sc (.int .u8 0))), (.tc (.sc (.int .u8 0))), (.tc (.sc (.int .u8 0))), (.tc (.sc (.int .u8 0))), (.tc (.sc (.int .u8 0))), (.tc (.sc (.int .u8 0))), (.tc (.sc (.bool false))), (.tc (.sc (.bool false))), (.tc (.sc (.int .u16 0))), (.tc (.sc (.int .i64 0)))] [] (G3 20 29 0)) (i1 s36),
  .n (.st 11 (h0 g2) (h1 g36) (G3 20 29 1)),
  .p (.mv (kc (.tc (.sc (.bool false))))) (i0 s3)])
 .ret)))))))),
 [.cell (h0 g2) true 11, .tmp (h0 g3)]⟩
theorem ffDup20_ok : compF SBDup 20 = ffDup20 := by kernel_rfl
noncomputable def ffDup40 : FF := .t2 ⟨9,
 (.seq (.reg [.p (.mv (kc (.tc (.sc (.int .u8 0))))) s2])
 (.seq (.seq (.reg [.p (.mv g0) s3,
  .p (.bin .gtr g3 (kc (.tc (.sc (.int .i64 7)))) (G2 40 1 1)) s4])
 (.cond g4 (.reg [.p (.mv g0) s5,
  .p (.bin .add g5 (kc (.tc (.sc (.int .i64 8)))) (G2 40 2 1)) s6,
  .p (.mv g6) s0])
 .skip))
 (.seq (.reg [.p (.mv g0) s7,
  .p (.cv .u8 g7 (G2 40 3 1)) s8,
  .p (.mv g8) s2])
 .ret))),
 [.tmp g2]⟩
theorem ffDup40_ok : compF SBDup 40 = ffDup40 := by kernel_rfl
noncomputable def ffDup49 : FF := .t2 ⟨11,
 (.seq (.reg [.p (.bx 11 g0 (G2 49 0 0)) s1,
  .p (.mv (kc (.tc (.sc (.bool false))))) s2])
 (.seq (.reg [.p (.fa 0 g1) s3,
  .p (.ld false 1 g3) s4,
  .p (.bin .geq g4 (kc (.tc (.sc (.int .u8 24)))) (G2 49 1 2)) s5,
  .p (.mv g5) s6,
  .gp g6 true (.fa 0 g1) s7,
  .gp g6 true (.ld false 1 g7) s8,
  .gp g6 true (.bin .leq g8 (kc (.tc (.sc (.int .u8 26)))) (G2 49 1 6)) s9,
  .p (.pk g6 g9 (kc (.tc (.sc (.bool false))))) s10,
  .p (.mv g10) s2])
 .ret)),
 [.tmp g2]⟩
theorem ffDup49_ok : compF SBDup 49 = ffDup49 := by kernel_rfl
noncomputable def ffDup27 : FF := .t2 ⟨51,
 (.seq (.reg [.p (.bx 11 g0 (G2 27 0 0)) s2,
  .p (.bx 11 g1 (G2 27 0 1)) s3,
  .p (.mv (kc (.tc (.sc (.int .u32 0))))) s4,
  .p (.mv (kc (.tc (.sc (.bool false))))) s5])
 (.seq (.reg [.p (.ld true 11 g2) s11,
  .p (.call 21 [g11] (G2 27 1 1)) s12,
  .p (.mv g12) s10,
  .p (.ex g10 0) s13,
  .p (.ex g10 1) s14,
  .p (.mv g13) s6,
  .p (.mv g14) s7])
 (.seq (.reg [.p (.ld true 11 g3) s16,
  .p (.call 21 [g16] (G2 27 2 1)) s17,
  .p (.mv g17) s15,
  .p (.ex g15 0) s18,
  .p (.ex g15 1) s19,
  .p (.mv g18) s8,
  .p (.mv g19) s9])
 (.seq (.seq (.reg [.p (.mv g7) s20,
  .p (.nt g20 (G2 27 3 1)) s21,
  .p (.mv g21) s22,
  .gp g22 false (.mv g9) s23,
  .gp g22 false (.nt g23 (G2 27 3 4)) s24,
  .p (.pk g22 (kc (.tc (.sc (.bool true)))) g24) s25,
  .p (.mv g25) s26,
  .gp g26 false (.ld true 11 g2) s27,
  .gp g26 false (.call 47 [g27] (G2 27 3 8)) s28,
  .gp g26 false (.mv g28) s29,
  .gp g29 true (.ld true 11 g3) s30,
  .gp g29 true (.call 47 [g30] (G2 27 3 11)) s31,
  .gp g26 false (.pk g29 g31 (kc (.tc (.sc (.bool false))))) s32,
  .p (.pk g26 (kc (.tc (.sc (.bool true)))) g32) s33])
 (.cond g33 (.seq (.reg [.p (.mv (kc (.tc (.sc (.int .u32 0))))) s4,
  .p (.mv (kc (.tc (.sc (.bool false))))) s5])
 .ret)
 .skip))
 (.seq (.seq (.reg [.p (.ld true 11 g2) s34,
  .p (.call 47 [g34] (G2 27 5 1)) s35,
  .p (.mv g35) s36,
  .gp g36 false (.ld true 11 g3) s37,
  .gp g36 false (.call 47 [g37] (G2 27 5 4)) s38,
  .gp g36 false (.nt g38 (G2 27 5 5)) s39,
  .gp g36 false (.mv g39) s40,
  .gp g40 true (.mv g6) s41,
  .gp g40 true (.mv g8) s42,
  .gp g40 true (.bin .lss g41 g42 (G2 27 5 9)) s43,
  .gp g36 false (.pk g40 g43 (kc (.tc (.sc (.bool false))))) s44,
  .p (.pk g36 (kc (.tc (.sc (.bool true)))) g44) s45])
 (.cond g45 (.reg [.p (.mv g8) s46,
  .p (.mv g6) s47,
  .p (.mv g46) s6,
  .p (.mv g47) s8])
 .skip))
 (.seq (.reg [.p (.mv g6) s48,
  .p (.mv g8) s49,
  .p (.call 50 [g48, g49] (G2 27 7 2)) s50,
  .p (.mv g50) s4,
  .p (.mv (kc (.tc (.sc (.bool true))))) s5])
 .ret)))))),
 [.tmp g4, .tmp g5]⟩
theorem ffDup27_ok : compF SBDup 27 = ffDup27 := by kernel_rfl
noncomputable def ffDup21 : FF := .t2 ⟨46,
 (.seq (.reg [.p (.bx 11 g0 (G2 21 0 0)) s1,
  .p (.mv (kc (.tc (.sc (.int .u16 0))))) s2,
  .p (.mv (kc (.tc (.sc (.bool false))))) s3])
 (.seq (.seq (.reg [.p (.ld false 1 (kc (.vptr gwDup0 [glDup0] 0 0))) s10,
  .p (.len g10 (G2 21 1 1)) s11,
  .p (.mv (kc (.tc (.sc (.int .i64 0))))) s12])
 (.block 0 (.loop 4294967296 (.seq (.reg [.p (.bin .lss g12 g11 (G2 21 2 0)) s13])
 (.seq (.cond g13 .skip
 (.exit 0))
 (.seq (.block 1 (.seq (.reg [.p (.mv g12) s14,
  .p (.ia 10 g10 g12 (G2 21 3 1)) s15,
  .p (.ld true 10 g15) s16,
  .p (.al 10 [(.sc (.int .u8 0)), (.sc (.int .i64 0)), (.sc (.int .i64 0)), (.sc (.int .i64 0)), (.sc (.int .i64 0)), (.sc (.int .i64 0)), (.sc (.int .i64 0)), (.sc (.int .i64 0)), (.sc (.int .i64 0)), (.sc (.int .i64 0))]) s5,
  .p (.mv g14) s4,
  .n (.st 10 g5 g16 (G2 21 3 5))])
 (.seq (.seq (.reg [.p (.fa 0 g5) s17,
  .p (.ld false 1 g17) s18,
  .p (.fa 0 g1) s19,
  .p (.ld false 1 g19) s20,
  .p (.bin .neq g18 g20 (G2 21 4 4)) s21])
 (.cond g21 (.exit 1)
 .skip))
 (.seq (.reg [.p (.ld true 10 g5) s23,
  .p (.ld true 11 g1) s24,
  .p (.mv g4) s25,
  .p (.bin .add g25 (kc (.tc (.sc (.int .i64 1)))) (G2 21 5 3)) s26,
  .p (.call 41 [g23, g24, g26] (G2 21 5 4)) s27,
  .p (.mv g27) s22,
  .p (.ex g22 0) s28,
  .p (.ex g22 1) s29,
  .p (.mv g28) s6,
  .p (.mv g29) s7])
 (.seq (.reg [.p (.mv g6) s31,
  .p (.call 19 [g31] (G2 21 6 1)) s32,
  .p (.mv g32) s30,
  .p (.ex g30 0) s33,
  .p (.ex g30 1) s34,
  .p (.al 11 [(.sc (.int .u8 0)), (.sc (.int .u8 0)), (.sc (.int .u8 0)), (.sc (.int .u8 0)), (.sc (.int .u8 0)), (.sc (.int .u8 0)), (.sc (.int .u8 0)), (.sc (.bool false)), (.sc (.bool false)), (.sc (.int .u16 0)), (.sc (.int .i64 0))]) s8,
  .n (.st 11 g8 g33 (G2 21 6 6)),
  .p (.mv g34) s9])
 (.seq (.reg [.p (.mv g7) s35,
  .p (.mv g35) s36,
  .gp g36 true (.mv g9) s37,
  .p (.pk g36 g37 (kc (.tc (.sc (.bool false))))) s38,
  .p (.mv g38) s39,
  .gp g39 true (.ld true 11 g8) s40,
  .gp g39 true (.ld true 11 g1) s41,
  .gp g39 true (.eqs .eql [(.mk 0 .int), (.mk 1 .int), (.mk 2 .int), (.mk 3 .int), (.mk 4 .int), (.mk 5 .int), (.mk 6 .int), (.mk 7 .bool), (.mk 8 .bool), (.mk 9 .int), (.mk 10 .int)] g40 g41 (G2 21 7 7)) s42,
  .p (.pk g39 g42 (kc (.tc (.sc (.bool false))))) s43])
 (.cond g43 (.seq (.reg [.p (.mv g6) s44,
  .p (.mv g44) s2,
  .p (.mv (kc (.tc (.sc (.bool true))))) s3])
 .ret)
 .skip)))))))
 (.reg [.p (.bin .add g12 (kc (.tc (.sc (.int .i64 1)))) (G2 21 9 0)) s45,
  .p (.mv g45) s12])))))))
 (.seq (.reg [.p (.mv (kc (.tc (.sc (.int .u16 0))))) s2,
  .p (.mv (kc (.tc (.sc (.bool false))))) s3])
 .ret))),
 [.tmp g2, .tmp g3]⟩
theorem ffDup21_ok : compF SBDup 21 = ffDup21 := by kernel_rfl
noncomputable def ffDup41 : FF := .t2 ⟨43,
 (.seq (.reg [.p (.bx 10 g0 (G2 41 0 0)) s3,
  .p (.bx 11 g1 (G2 41 0 1)) s4,
  .p (.mv (kc (.tc (.sc (.int .u16 0))))) s6,
  .p (.mv (kc (.tc (.sc (.bool false))))) s7])
 (.seq (.reg [.p (.mv g2) s14,
  .p (.cv .u32 g14 (G2 41 1 1)) s15,
  .p (.call 65 [(kc (.tc (.sc (.int .u32 0)))), (kc (.tc (.sc (.int .i64 11)))), (kc (.tc (.sc (.int .i64 4)))), g15] (G2 41 1 2)) s16,
  .p (.mv g16) s8])
 (.seq (.reg [.p (.mv (kc (.tc (.sc (.int .i64 11))))) s9])
 (.seq (.seq (.reg [.p (.fa 1 g3) s17,
  .p (.ld true 9 g17) s18,
  .p (.mv (kc (.tc (.sc (.int .i64 0))))) s19])
 (.block 0 (.loop 4294967296 (.seq (.reg [.p (.bin .lss g19 (kc (.tc (.sc (.int .i64 3)))) (G2 41 4 0)) s20])
 (.seq (.cond g20 .skip
 (.exit 0))
 (.seq (.block 1 (.seq (.reg [.p (.gen (G2 41 5 0)) s21,
  .p (.al 3 [(.sc (.int .i64 0)), (.sc (.int .i64 0)), (.sc (.int .i64 0))]) s11,
  .n (.st 3 g11 g21 (G2 41 5 2))])
 (.seq (.reg [.p (.ld true 3 g11) s23,
  .p (.ld true 11 g4) s24,
  .p (.call 66 [g23, g24] (G2 41 6 2)) s25,
  .p (.mv g25) s22,
  .p (.ex g22 0) s26,
  .p (.ex g22 1) s27,
  .p (.mv g26) s12,
  .p (.mv g27) s13])
 (.seq (.seq (.reg [.p (.mv g13) s28,
  .p (.nt g28 (G2 41 7 1)) s29])
 (.cond g29 (.seq (.reg [.p (.mv (kc (.tc (.sc (.int .u16 0))))) s6,
  .p (.mv (kc (.tc (.sc (.bool false))))) s7])
 .ret)
 .skip))
 (.seq (.reg [.p (.mv g9) s30,
  .p (.fa 1 g11) s31,
  .p (.ld false 1 g31) s32,
  .p (.bin .sub g30 g32 (G2 41 9 3)) s33,
  .p (.mv g33) s9])
 (.reg [.p (.mv g8) s34,
  .p (.mv g9) s35,
  .p (.fa 1 g11) s36,
  .p (.ld false 1 g36) s37,
  .p (.mv g12) s38,
  .p (.call 65 [g34, g35, g37, g38] (G2 41 10 5)) s39,
  .p (.mv g39) s8]))))))
 (.reg [.p (.bin .add g19 (kc (.tc (.sc (.int .i64 1)))) (G2 41 11 0)) s40,
  .p (.mv g40) s19])))))))
 (.seq (.reg [.p (.mv g8) s41,
  .p (.cv .u16 g41 (G2 41 12 1)) s42,
  .p (.mv g42) s6,
  .p (.mv (kc (.tc (.sc (.bool true))))) s7])
 .ret))))),
 [.tmp g6, .tmp g7]⟩
theorem ffDup41_ok : compF SBDup 41 = ffDup41 := by kernel_rfl
noncomputable def ffDup65 : FF := .t2 ⟨21,
 (.seq (.reg [.p (.mv (kc (.tc (.sc (.int .u32 0))))) s8])
 (.seq (.reg [.p (.mv g1) s10,
  .p (.mv g2) s11,
  .p (.bd [(.tc (.sc (.int .i64 0))), (.tc (.sc (.int .i64 0)))] [(.mk 0 1 g10), (.mk 1 1 g11)] (G2 65 1 2)) s12,
  .p (.al 2 [(.sc (.int .i64 0)), (.sc (.int .i64 0))]) s9,
  .n (.st 2 g9 g12 (G2 65 1 4))])
 (.seq (.seq (.reg [.p (.ld true 2 g9) s13,
  .p (.call 64 [g13] (G2 65 2 1)) s14,
  .p (.nt g14 (G2 65 2 2)) s15])
 (.cond g15 (.seq (.reg [.p (.mv g0) s16,
  .p (.mv g16) s8])
 .ret)
 .skip))
 (.seq (.reg [.p (.ld true 2 g9) s17,
  .p (.mv g0) s18,
  .p (.mv g3) s19,
  .p (.call 86 [g17, g18, g19] (G2 65 4 3)) s20,
  .p (.mv g20) s8])
 .ret)))),
 [.tmp g8]⟩
theorem ffDup65_ok : compF SBDup 65 = ffDup65 := by kernel_rfl
noncomputable def ffDup86 : FF := .t2 ⟨26,
 (.seq (.reg [.p (.bx 2 g0 (G2 86 0 0)) s3,
  .p (.mv (kc (.tc (.sc (.int .u32 0))))) s6])
 (.seq (.seq (.reg [.p (.fa 1 g3) s7,
  .p (.ld false 1 g7) s8,
  .p (.bin .eql g8 (kc (.tc (.sc (.int .i64 0)))) (G2 86 1 2)) s9])
 (.cond g9 (.seq (.reg [.p (.mv g1) s10,
  .p (.mv g10) s6])
 .ret)
 .skip))
 (.seq (.regD [0, 0, 2, 0, 8, 30, 63, 0, 0, 262, 902, 0, 2048, 8070, 16383, 32767] [.no, (.rd (.ld true 2 g3) g12), .no, .no, (.rd (.ld false 1 g14) g15), .no, .no, .no, (.rd (.ld true 2 g3) g19), .no, .no, .no, (.rd (.ld false 1 g22) g23), .no, .no, .no] [.mk .none .yes (.mv g1) (.mv g1) (some s11),
  .mk .none .yes (.ld true 2 g3) (.ld true 2 g3) (some s12),
  .mk .none (.dyn 73 [g12]) (.call 73 [g12] (G2 86 3 2)) (.call 73 [g12] (G2 86 3 2)) (some s13),
  .mk .none .yes (.fa 0 g3) (.fa 0 g3) (some s14),
  .mk .none .yes (.ld false 1 g14) (.ld false 1 g14) (some s15),
  .mk .none .yes (.bin .shl g13 g15 (G2 86 3 5)) (.bin .shl g13 g15 (G2 86 3 5)) (some s16),
  .mk .none .yes (.bin .andNot g11 g16 (G2 86 3 6)) (.bin .andNot g11 g16 (G2 86 3 6)) (some s17),
  .mk .none .yes (.mv g2) (.mv g2) (some s18),
  .mk .none .yes (.ld true 2 g3) (.ld true 2 g3) (some s19),
  .mk .none (.dyn 73 [g19]) (.call 73 [g19] (G2 86 3 9)) (.call 73 [g19] (G2 86 3 9)) (some s20),
  .mk .none .yes (.bin .and g18 g20 (G2 86 3 10)) (.bin .and g18 g20 (G2 86 3 10)) (some s21),
  .mk .none .yes (.fa 0 g3) (.fa 0 g3) (some s22),
  .mk .none .yes (.ld false 1 g22) (.ld false 1 g22) (some s23),
  .mk .none .yes (.bin .shl g21 g23 (G2 86 3 13)) (.bin .shl g21 g23 (G2 86 3 13)) (some s24),
  .mk .none .yes (.bin .or g17 g24 (G2 86 3 14)) (.bin .or g17 g24 (G2 86 3 14)) (some s25),
  .mk .none .yes (.mv g25) (.mv g25) (some s6)])
 .ret))),
 [.tmp g6]⟩
theorem ffDup86_ok : compF SBDup 86 = ffDup86 := by kernel_rfl
noncomputable def ffDup66 : FF := .t3 ⟨67,
 (.seq (.reg [.p (.bx 3 (h0 g0) (G3 66 0 0)) (i0 s2),
  .p (.bx 11 (h0 g1) (G3 66 0 1)) (i0 s3),
  .p (.mv (kc (.tc (.sc (.int .u32 0))))) (i0 s4),
  .p (.mv (kc (.tc (.sc (.bool false))))) (i0 s5)])
 (.seq (.seq (.reg [.p (.fa 0 (h0 g2)) (i0 s8),
  .p (.ld false 1 (h0 g8)) (i0 s9)])
 (.block 0 (.seq (.reg [.p (.bin .eql (h0 g9) (kc (.tc (.sc (.int .i64 1)))) (G3 66 2 0)) (i0 s11),
  .p (.mv (h0 g11)) (i0 s10)])
 (.cond (h0 g10) (.seq (.reg [.p (.fa 1 (h0 g3)) (i0 s12),
  .p (.ld false 1 (h0 g12)) (i0 s13),
  .p (.call 87 [(h0 g13)] (G3 66 3 2)) (i0 s14),
  .p (.ex (h0 g14) 0) (i0 s15),
  .p (.ex (h0 g14) 1) (i0 s16),
  .p (.mv (h0 g15)) (i0 s4),
  .p (.mv (h0 g16)) (i0 s5)])
 .ret)
 (.seq (.reg [.p (.bin .eql (h0 g9) (kc (.tc (.sc (.int .i64 2)))) (G3 66 4 0)) (i0 s18),
  .p (.mv (h0 g18)) (i0 s17)])
 (.cond (h0 g17) (.seq (.reg [.p (.fa 2 (h0 g3)) (i0 s19),
  .p (.ld false 1 (h0 g19)) (i0 s20),
  .p (.call 87 [(h0 g20)] (G3 66 5 2)) (i0 s21),
  .p (.ex (h0 g21) 0) (i0 s22),
  .p (.ex (h0 g21) 1) (i0 s23),
  .p (.mv (h0 g22)) (i0 s4),
  .p (.mv (h0 g23)) (i0 s5)])
 .ret)
 (.seq (.reg [.p (.bin .eql (h0 g9) (kc (.tc (.sc (.int .i64 3)))) (G3 66 6 0)) (i0 s25),
  .p (.mv (h0 g25)) (i0 s24)])
 (.cond (h0 g24) (.seq (.reg [.p (.fa 3 (h0 g3)) (i0 s26),
  .p (.ld false 1 (h0 g26)) (i0 s27),
  .p (.call 87 [(h0 g27)] (G3 66 7 2)) (i0 s28),
  .p (.ex (h0 g28) 0) (i0 s29),
  .p (.ex (h0 g28) 1) (i0 s30),
  .p (.mv (h0 g29)) (i0 s4),
  .p (.mv (h0 g30)) (i0 s5)])
 .ret)
 (.seq (.reg [.p (.bin .eql (h0 g9) (kc (.tc (.sc (.int .i64 4)))) (G3 66 8 0)) (i0 s32),
  .p (.mv (h0 g32)) (i0 s31)])
 (.cond (h0 g31) (.seq (.reg [.p (.fa 1 (h0 g3)) (i0 s34),
  .p (.ld false 1 (h0 g34)) (i0 s35),
  .p (.call 87 [(h0 g35)] (G3 66 9 2)) (i0 s36),
  .p (.mv (h0 g36)) (i0 s33),
  .p (.ex (h0 g33) 0) (i0 s37),
  .p (.ex (h0 g33) 1) (i0 s38),
  .p (.mv (h0 g37)) (i0 s6),
  .p (.mv (h0 g38)) (i0 s7)])
 (.seq (.regD [0, 0, 2, 6, 14, 6, 38, 126, 254, 7, 1023] [.no, .no, .no, .no, (.rd (.ld false 1 (h0 g42)) (h0 g43)), .no, (.rd (.ld false 1 (h0 g44)) (h0 g45)), .no, .no, .no, .no] [.mk .none .yes (.mv (h0 g6)) (.mv (h0 g6)) (some (i0 s39)),
  .mk .none .yes (.mv (h0 g7)) (.mv (h0 g7)) (some (i0 s40)),
  .mk .none .yes (.mv (h0 g40)) (.mv (h0 g40)) (some (i0 s41)),
  .mk (.on (h0 g41) true) .yes (.fa 1 (h0 g3)) (.fa 1 (h0 g3)) (some (i0 s42)),
  .mk (.on (h0 g41) true) .yes (.ld false 1 (h0 g42)) (.ld false 1 (h0 g42)) (some (i0 s43)),
  .mk (.on (h0 g41) true) .yes (.fa 2 (h0 g3)) (.fa 2 (h0 g3)) (some (i0 s44)),
  .mk (.on (h0 g41) true) .yes (.ld false 1 (h0 g44)) (.ld false 1 (h0 g44)) (some (i0 s45)),
  .mk (.on (h0 g41) true) .yes (.bin .eql (h0 g43) (h0 g45) (G3 66 10 7)) (.bin .eql (h0 g43) (h0 g45) (G3 66 10 7)) (some (i0 s46)),
  .mk .none .yes (.pk (h0 g41) (h0 g46) (kc (.tc (.sc (.bool false))))) (.pk (h0 g41) (h0 g46) (kc (.tc (.sc (.bool false))))) (some (i0 s47)),
  .mk .none .yes (.mv (h0 g39)) (.mv (h0 g39)) (some (i0 s4)),
  .mk .none .yes (.mv (h0 g47)) (.mv (h0 g47)) (some (i0 s5))])
 .ret))
 (.seq (.seq (.reg [.p (.bin .eql (h0 g9) (kc (.tc (.sc (.int .i64 5)))) (G3 66 11 0)) (i0 s49),
  .p (.mv (h0 g49)) (i0 s48)])
 (.cond (h0 g48) .skip
 (.reg [.p (.bin .eql (h0 g9) (kc (.tc (.sc (.int .i64 6)))) (G3 66 12 0)) (i0 s50),
  .p (.mv (h0 g50)) (i0 s48)])))
 (.cond (h0 g48) (.seq (.regD [0, 1, 0, 4, 15, 31, 0, 64, 0, 256, 0, 1024, 0, 4096, 12288, 32704, 65535, 131071] [.no, (.rd (.ld false 1 (h0 g51)) (h0 g52)), .no, (.rd (.ld false 1 (h0 g53)) (h0 g54)), .no, (.rd (.cv .u32 (h0 g55) (G3 66 13 5)) (h0 g56)), .no, (.rd (.ld false 1 (h0 g57)) (h0 g58)), .no, (.rd (.ld false 1 (h0 g59)) (h0 g60)), .no, (.rd (.ld false 1 (h0 g61)) (h0 g62)), .no, (.rd (.ld false 1 (h0 g63)) (h1 g0)), .no, .no, .no, .no] [.mk .none .yes (.fa 10 (h0 g3)) (.fa 10 (h0 g3)) (some (i0 s51)),
  .mk .none .yes (.ld false 1 (h0 g51)) (.ld false 1 (h0 g51)) (some (i0 s52)),
  .mk .none .yes (.fa 2 (h0 g2)) (.fa 2 (h0 g2)) (some (i0 s53)),
  .mk .none .yes (.ld false 1 (h0 g53)) (.ld false 1 (h0 g53)) (some (i0 s54)),
  .mk .none .yes (.bin .shr (h0 g52) (h0 g54) (G3 66 13 4)) (.bin .shr (h0 g52) (h0 g54) (G3 66 13 4)) (some (i0 s55)),
  .mk .none .yes (.cv .u32 (h0 g55) (G3 66 13 5)) (.cv .u32 (h0 g55) (G3 66 13 5)) (some (i0 s56)),
  .mk .none .yes (.fa 10 (h0 g3)) (.fa 10 (h0 g3)) (some (i0 s57)),
  .mk .none .yes (.ld false 1 (h0 g57)) (.ld false 1 (h0 g57)) (some (i0 s58)),
  .mk .none .yes (.fa 1 (h0 g2)) (.fa 1 (h0 g2)) (some (i0 s59)),
  .mk .none .yes (.ld false 1 (h0 g59)) (.ld false 1 (h0 g59)) (some (i0 s60)),
  .mk .none .yes (.fa 2 (h0 g2)) (.fa 2 (h0 g2)) (some (i0 s61)),
  .mk .none .yes (.ld false 1 (h0 g61)) (.ld false 1 (h0 g61)) (some (i0 s62)),
  .mk .none .yes (.fa 0 (h0 g2)) (.fa 0 (h0 g2)) (some (i0 s63)),
  .mk .none .yes (.ld false 1 (h0 g63)) (.ld false 1 (h0 g63)) (some (i1 s0)),
  .mk .none .yes (.bin .eql (h1 g0) (kc (.tc (.sc (.int .i64 6)))) (G3 66 13 14)) (.bin .eql (h1 g0) (kc (.tc (.sc (.int .i64 6)))) (G3 66 13 14)) (some (i1 s1)),
  .mk .none (.dyn 69 [(h0 g58), (h0 g60), (h0 g62), (h1 g1)]) (.call 69 [(h0 g58), (h0 g60), (h0 g62), (h1 g1)] (G3 66 13 15)) (.call 69 [(h0 g58), (h0 g60), (h0 g62), (h1 g1)] (G3 66 13 15)) (some (i1 s2)),
  .mk .none .yes (.mv (h0 g56)) (.mv (h0 g56)) (some (i0 s4)),
  .mk .none .yes (.mv (h1 g2)) (.mv (h1 g2)) (some (i0 s5))])
 .ret)
 .skip))))))))))))
 (.seq (.reg [.p (.mv (kc (.tc (.sc (.int .u32 0))))) (i0 s4),
  .p (.mv (kc (.tc (.sc (.bool true))))) (i0 s5)])
 .ret))),
 [.tmp (h0 g4), .tmp (h0 g5)]⟩
theorem ffDup66_ok : compF SBDup 66 = ffDup66 := by kernel_rfl
noncomputable def ffDup87 : FF := .t2 ⟨19,
 (.seq (.reg [.p (.mv (kc (.tc (.sc (.int .u32 0))))) s2,
  .p (.mv (kc (.tc (.sc (.bool false))))) s3])
 (.seq (.block 0 (.seq (.reg [.p (.mv g0) s5,
  .p (.bin .lss g5 (kc (.tc (.sc (.int .u8 8)))) (G2 87 1 1)) s6,
  .p (.mv g6) s4])
 (.cond g4 (.seq (.reg [.p (.mv g0) s7,
  .p (.cv .u32 g7 (G2 87 2 1)) s8,
  .p (.mv g8) s2,
  .p (.mv (kc (.tc (.sc (.bool true))))) s3])
 .ret)
 (.seq (.reg [.p (.mv g0) s10,
  .p (.bin .geq g10 (kc (.tc (.sc (.int .u8 16)))) (G2 87 3 1)) s11,
  .p (.mv g11) s12,
  .gp g12 true (.mv g0) s13,
  .gp g12 true (.bin .lss g13 (kc (.tc (.sc (.int .u8 24)))) (G2 87 3 4)) s14,
  .p (.pk g12 g14 (kc (.tc (.sc (.bool false))))) s15,
  .p (.mv g15) s9])
 (.cond g9 (.seq (.reg [.p (.mv g0) s16,
  .p (.bin .sub g16 (kc (.tc (.sc (.int .u8 8)))) (G2 87 4 1)) s17,
  .p (.cv .u32 g17 (G2 87 4 2)) s18,
  .p (.mv g18) s2,
  .p (.mv (kc (.tc (.sc (.bool true))))) s3])
 .ret)
 .skip)))))
 (.seq (.reg [.p (.mv (kc (.tc (.sc (.int .u32 0))))) s2,
  .p (.mv (kc (.tc (.sc (.bool false))))) s3])
 .ret))),
 [.tmp g2, .tmp g3]⟩
theorem ffDup87_ok : compF SBDup 87 = ffDup87 := by kernel_rfl
noncomputable def ffDup50 : FF := .t2 ⟨12,
 (.seq (.reg [.p (.mv (kc (.tc (.sc (.int .u32 0))))) s4])
 (.seq (.reg [.p (.mv g0) s5,
  .p (.cv .u32 g5 (G2 50 1 1)) s6,
  .p (.bin .shl g6 (kc (.tc (.sc (.int .u64 15)))) (G2 50 1 2)) s7,
  .p (.mv g1) s8,
  .p (.cv .u32 g8 (G2 50 1 4)) s9,
  .p (.bin .or g7 g9 (G2 50 1 5)) s10,
  .p (.call 72 [g10, (kc (.tc (.sc (.int .u8 0))))] (G2 50 1 6)) s11,
  .p (.mv g11) s4])
 .ret)),
 [.tmp g4]⟩
theorem ffDup50_ok : compF SBDup 50 = ffDup50 := by kernel_rfl
noncomputable def ffDup72 : FF := .t2 ⟨23,
 (.seq (.reg [.p (.mv (kc (.tc (.sc (.int .u32 0))))) s4])
 (.seq (.reg [.p (.gen (G2 72 1 0)) s6,
  .p (.ld true 2 g6) s7,
  .p (.mv g0) s8,
  .p (.call 86 [g7, (kc (.tc (.sc (.int .u32 0)))), g8] (G2 72 1 3)) s9,
  .p (.mv g9) s5])
 (.seq (.regD [0, 0, 0, 0, 8, 24, 60, 127, 255] [(.rd (.ld true 2 (kc (.vptr gwDup4 [glDup4] 0 0))) g10), .no, .no, .no, .no, (.rd (.ld false 1 g14) g15), .no, .no, .no] [.mk .none .yes (.ld true 2 (kc (.vptr gwDup4 [glDup4] 0 0))) (.ld true 2 (kc (.vptr gwDup4 [glDup4] 0 0))) (some s10),
  .mk .none .yes (.mv g5) (.mv g5) (some s11),
  .mk .none .yes (.mv g0) (.mv g0) (some s12),
  .mk .none .yes (.gen (G2 72 2 3)) (.gen (G2 72 2 3)) (some s13),
  .mk .none .yes (.fa 1 g13) (.fa 1 g13) (some s14),
  .mk .none .yes (.ld false 1 g14) (.ld false 1 g14) (some s15),
  .mk .none .yes (.bin .shr g12 g15 (G2 72 2 6)) (.bin .shr g12 g15 (G2 72 2 6)) (some s16),
  .mk .none (.dyn 86 [g10, g11, g16]) (.call 86 [g10, g11, g16] (G2 72 2 7)) (.call 86 [g10, g11, g16] (G2 72 2 7)) (some s17),
  .mk .none .yes (.mv g17) (.mv g17) (some s5)])
 (.seq (.reg [.p (.ld true 2 (kc (.vptr gwDup3 [glDup3] 0 0))) s18,
  .p (.mv g5) s19,
  .p (.mv g1) s20,
  .p (.cv .u32 g20 (G2 72 3 3)) s21,
  .p (.call 86 [g18, g19, g21] (G2 72 3 4)) s22,
  .p (.mv g22) s4])
 .ret)))),
 [.tmp g4]⟩
theorem ffDup72_ok : compF SBDup 72 = ffDup72 := by kernel_rfl
noncomputable def ffDup28 : FF := .t2 ⟨52,
 (.seq (.reg [.p (.bx 11 g0 (G2 28 0 0)) s2,
  .p (.bx 11 g1 (G2 28 0 1)) s3,
  .p (.mv (kc (.tc (.sc (.int .u32 0))))) s4,
  .p (.mv (kc (.tc (.sc (.bool false))))) s5])
 (.seq (.reg [.p (.ld true 11 g2) s11,
  .p (.call 22 [g11] (G2 28 1 1)) s12,
  .p (.mv g12) s10,
  .p (.ex g10 0) s13,
  .p (.ex g10 1) s14,
  .p (.mv g13) s6,
  .p (.mv g14) s7])
 (.seq (.reg [.p (.ld true 11 g3) s16,
  .p (.call 22 [g16] (G2 28 2 1)) s17,
  .p (.mv g17) s15,
  .p (.ex g15 0) s18,
  .p (.ex g15 1) s19,
  .p (.mv g18) s8,
  .p (.mv g19) s9])
 (.seq (.seq (.reg [.p (.mv g7) s20,
  .p (.nt g20 (G2 28 3 1)) s21,
  .p (.mv g21) s22,
  .gp g22 false (.mv g9) s23,
  .gp g22 false (.nt g23 (G2 28 3 4)) s24,
  .p (.pk g22 (kc (.tc (.sc (.bool true)))) g24) s25,
  .p (.mv g25) s26,
  .gp g26 false (.ld true 11 g2) s27,
  .gp g26 false (.call 49 [g27] (G2 28 3 8)) s28,
  .gp g26 false (.mv g28) s29,
  .gp g29 true (.ld true 11 g3) s30,
  .gp g29 true (.call 49 [g30] (G2 28 3 11)) s31,
  .gp g26 false (.pk g29 g31 (kc (.tc (.sc (.bool false))))) s32,
  .p (.pk g26 (kc (.tc (.sc (.bool true)))) g32) s33])
 (.cond g33 (.seq (.reg [.p (.mv (kc (.tc (.sc (.int .u32 0))))) s4,
  .p (.mv (kc (.tc (.sc (.bool false))))) s5])
 .ret)
 .skip))
 (.seq (.seq (.reg [.p (.ld true 11 g2) s34,
  .p (.call 49 [g34] (G2 28 5 1)) s35])
 (.cond g35 (.seq (.reg [.p (.mv g8) s36,
  .p (.mv g6) s37,
  .p (.call 51 [g36, g37] (G2 28 6 2)) s38,
  .p (.mv g38) s4,
  .p (.mv (kc (.tc (.sc (.bool true))))) s5])
 .ret)
 .skip))
 (.seq (.seq (.reg [.p (.ld true 11 g3) s39,
  .p (.call 49 [g39] (G2 28 7 1)) s40,
  .p (.mv g40) s41,
  .gp g41 false (.mv g6) s42,
  .gp g41 false (.mv g8) s43,
  .gp g41 false (.bin .geq g42 g43 (G2 28 7 5)) s44,
  .p (.pk g41 (kc (.tc (.sc (.bool true)))) g44) s45])
 (.cond g45 (.seq (.reg [.p (.mv g6) s46,
  .p (.mv g8) s47,
  .p (.call 51 [g46, g47] (G2 28 8 2)) s48,
  .p (.mv g48) s4,
  .p (.mv (kc (.tc (.sc (.bool true))))) s5])
 .ret)
 .skip))
 (.seq (.reg [.p (.mv g8) s49,
  .p (.mv g6) s50,
  .p (.call 51 [g49, g50] (G2 28 9 2)) s51,
  .p (.mv g51) s4,
  .p (.mv (kc (.tc (.sc (.bool true))))) s5])
 .ret))))))),
 [.tmp g4, .tmp g5]⟩
theorem ffDup28_ok : compF SBDup 28 = ffDup28 := by kernel_rfl
noncomputable def ffDup22 : FF := .t2 ⟨23,
 (.seq (.reg [.p (.bx 11 g0 (G2 22 0 0)) s1,
  .p (.mv (kc (.tc (.sc (.int .i64 0))))) s2,
  .p (.mv (kc (.tc (.sc (.bool false))))) s3])
 (.seq (.seq (.reg [.p (.mv (kc (.tc (.sc (.int .i64 0))))) s4])
 (.block 0 (.loop 4294967296 (.seq (.seq (.reg [.p (.mv g4) s7,
  .p (.bin .lss g7 (kc (.tc (.sc (.int .i64 32768)))) (G2 22 2 1)) s8])
 (.cond g8 .skip
 (.exit 0)))
 (.seq (.block 1 (.seq (.reg [.p (.mv g4) s12,
  .p (.call 20 [g12] (G2 22 3 1)) s13,
  .p (.mv g13) s11,
  .p (.ex g11 0) s14,
  .p (.ex g11 1) s15,
  .p (.al 11 [(.sc (.int .u8 0)), (.sc (.int .u8 0)), (.sc (.int .u8 0)), (.sc (.int .u8 0)), (.sc (.int .u8 0)), (.sc (.int .u8 0)), (.sc (.int .u8 0)), (.sc (.bool false)), (.sc (.bool false)), (.sc (.int .u16 0)), (.sc (.int .i64 0))]) s5,
  .n (.st 11 g5 g14 (G2 22 3 6)),
  .p (.mv g15) s6])
 (.seq (.reg [.p (.mv g6) s16,
  .p (.mv g16) s17,
  .gp g17 true (.ld true 11 g5) s18,
  .gp g17 true (.ld true 11 g1) s19,
  .gp g17 true (.eqs .eql [(.mk 0 .int), (.mk 1 .int), (.mk 2 .int), (.mk 3 .int), (.mk 4 .int), (.mk 5 .int), (.mk 6 .int), (.mk 7 .bool), (.mk 8 .bool), (.mk 9 .int), (.mk 10 .int)] g18 g19 (G2 22 4 4)) s20,
  .p (.pk g17 g20 (kc (.tc (.sc (.bool false))))) s21])
 (.cond g21 (.seq (.reg [.p (.mv g4) s22,
  .p (.mv g22) s2,
  .p (.mv (kc (.tc (.sc (.bool true))))) s3])
 .ret)
 .skip))))
 (.reg [.p (.mv g4) s9,
  .p (.bin .add g9 (kc (.tc (.sc (.int .i64 1)))) (G2 22 6 1)) s10,
  .p (.mv g10) s4]))))))
 (.seq (.reg [.p (.mv (kc (.tc (.sc (.int .i64 0))))) s2,
  .p (.mv (kc (.tc (.sc (.bool false))))) s3])
 .ret))),
 [.tmp g2, .tmp g3]⟩
theorem ffDup22_ok : compF SBDup 22 = ffDup22 := by kernel_rfl
noncomputable def ffDup51 : FF := .t2 ⟨17,
 (.seq (.reg [.p (.mv (kc (.tc (.sc (.int .u32 0))))) s4])
 (.seq (.reg [.p (.mv g0) s6,
  .p (.bin .mul g6 (kc (.tc (.sc (.int .i64 32768)))) (G2 51 1 1)) s7,
  .p (.mv g1) s8,
  .p (.bin .add g7 g8 (G2 51 1 3)) s9,
  .p (.mv g9) s5])
 (.seq (.reg [.p (.mv g5) s10,
  .p (.bin .quo g10 (kc (.tc (.sc (.int .i64 16384)))) (G2 51 2 1)) s11,
  .p (.bin .mul g11 (kc (.tc (.sc (.int .i64 65536)))) (G2 51 2 2)) s12,
  .p (.mv g5) s13,
  .p (.bin .rem g13 (kc (.tc (.sc (.int .i64 16384)))) (G2 51 2 4)) s14,
  .p (.bin .add g12 g14 (G2 51 2 5)) s15,
  .p (.cv .u32 g15 (G2 51 2 6)) s16,
  .p (.mv g16) s4])
 .ret))),
 [.tmp g4]⟩
theorem ffDup51_ok : compF SBDup 51 = ffDup51 := by kernel_rfl
noncomputable def ffDup29 : FF := .t2 ⟨29,
 (.seq (.reg [.p (.mv (kc (.tc (.sc (.bool false))))) s2])
 (.seq (.reg [.p (.mv g0) s9,
  .p (.call 25 [g9] (G2 29 1 1)) s10,
  .p (.mv g10) s8,
  .p (.ex g8 0) s11,
  .p (.ex g8 1) s12,
  .p (.ex g8 2) s13,
  .p (.al 11 [(.sc (.int .u8 0)), (.sc (.int .u8 0)), (.sc (.int .u8 0)), (.sc (.int .u8 0)), (.sc (.int .u8 0)), (.sc (.int .u8 0)), (.sc (.int .u8 0)), (.sc (.bool false)), (.sc (.bool false)), (.sc (.int .u16 0)), (.sc (.int .i64 0))]) s3,
  .p (.al 11 [(.sc (.int .u8 0)), (.sc (.int .u8 0)), (.sc (.int .u8 0)), (.sc (.int .u8 0)), (.sc (.int .u8 0)), (.sc (.int .u8 0)), (.sc (.int .u8 0)), (.sc (.bool false)), (.sc (.bool false)), (.sc (.int .u16 0)), (.sc (.int .i64 0))]) s4,
  .n (.st 11 g3 g11 (G2 29 1 8)),
  .n (.st 11 g4 g12 (G2 29 1 9)),
  .p (.mv g13) s5])
 (.seq (.reg [.p (.ld true 11 g3) s15,
  .p (.ld true 11 g4) s16,
  .p (.call 27 [g15, g16] (G2 29 2 2)) s17,
  .p (.mv g17) s14,
  .p (.ex g14 0) s18,
  .p (.ex g14 1) s19,
  .p (.mv g18) s6,
  .p (.mv g19) s7])
 (.seq (.reg [.p (.mv g5) s20,
  .p (.mv g20) s21,
  .gp g21 true (.mv g7) s22,
  .p (.pk g21 g22 (kc (.tc (.sc (.bool false))))) s23,
  .p (.mv g23) s24,
  .gp g24 true (.mv g6) s25,
  .gp g24 true (.mv g0) s26,
  .gp g24 true (.bin .eql g25 g26 (G2 29 3 7)) s27,
  .p (.pk g24 g27 (kc (.tc (.sc (.bool false))))) s28,
  .p (.mv g28) s2])
 .ret)))),
 [.tmp g2]⟩
theorem ffDup29_ok : compF SBDup 29 = ffDup29 := by kernel_rfl
noncomputable def ffDup30 : FF := .t2 ⟨31,
 (.seq (.reg [.p (.mv (kc (.tc (.sc (.bool false))))) s2])
 (.seq (.reg [.p (.mv g0) s10,
  .p (.call 48 [g10] (G2 30 1 1)) s11,
  .p (.mv g11) s9,
  .p (.ex g9 0) s12,
  .p (.ex g9 1) s13,
  .p (.ex g9 2) s14,
  .p (.mv g12) s3,
  .p (.mv g13) s4,
  .p (.mv g14) s5])
 (.seq (.reg [.p (.mv g0) s16,
  .p (.call 26 [g16] (G2 30 2 1)) s17,
  .p (.mv g17) s15,
  .p (.ex g15 0) s18,
  .p (.ex g15 1) s19,
  .p (.ex g15 2) s20,
  .p (.al 11 [(.sc (.int .u8 0)), (.sc (.int .u8 0)), (.sc (.int .u8 0)), (.sc (.int .u8 0)), (.sc (.int .u8 0)), (.sc (.int .u8 0)), (.sc (.int .u8 0)), (.sc (.bool false)), (.sc (.bool false)), (.sc (.int .u16 0)), (.sc (.int .i64 0))]) s6,
  .p (.al 11 [(.sc (.int .u8 0)), (.sc (.int .u8 0)), (.sc (.int .u8 0)), (.sc (.int .u8 0)), (.sc (.int .u8 0)), (.sc (.int .u8 0)), (.sc (.int .u8 0)), (.sc (.bool false)), (.sc (.bool false)), (.sc (.int .u16 0)), (.sc (.int .i64 0))]) s7,
  .n (.st 11 g6 g18 (G2 30 2 8)),
  .n (.st 11 g7 g19 (G2 30 2 9)),
  .p (.mv g20) s8])
 (.seq (.reg [.p (.mv g8) s21,
  .p (.mv g21) s22,
  .gp g22 true (.ld true 11 g7) s23,
  .gp g22 true (.call 49 [g23] (G2 30 3 3)) s24,
  .gp g22 true (.mv g24) s25,
  .gp g25 false (.mv g3) s26,
  .gp g25 false (.mv g4) s27,
  .gp g25 false (.bin .geq g26 g27 (G2 30 3 7)) s28,
  .gp g22 true (.pk g25 (kc (.tc (.sc (.bool true)))) g28) s29,
  .p (.pk g22 g29 (kc (.tc (.sc (.bool false))))) s30,
  .p (.mv g30) s2])
 .ret)))),
 [.tmp g2]⟩
theorem ffDup30_ok : compF SBDup 30 = ffDup30 := by kernel_rfl
noncomputable def ffDup31 : FF := .t2 ⟨40,
 (.seq (.reg [.p (.mv (kc (.tc (.sc (.bool false))))) s0])
 (.seq (.reg [.p (.call 52 [(kc (.tc (.sc (.int .u8 0))))] (G2 31 1 0)) s7,
  .p (.call 52 [(kc (.tc (.sc (.int .u8 1))))] (G2 31 1 1)) s8,
  .p (.call 27 [g7, g8] (G2 31 1 2)) s9,
  .p (.mv g9) s6,
  .p (.ex g6 0) s10,
  .p (.ex g6 1) s11,
  .p (.mv g10) s1,
  .p (.mv g11) s2])
 (.seq (.reg [.p (.mv g1) s13,
  .p (.call 25 [g13] (G2 31 2 1)) s14,
  .p (.mv g14) s12,
  .p (.ex g12 0) s15,
  .p (.ex g12 1) s16,
  .p (.ex g12 2) s17,
  .p (.al 11 [(.sc (.int .u8 0)), (.sc (.int .u8 0)), (.sc (.int .u8 0)), (.sc (.int .u8 0)), (.sc (.int .u8 0)), (.sc (.int .u8 0)), (.sc (.int .u8 0)), (.sc (.bool false)), (.sc (.bool false)), (.sc (.int .u16 0)), (.sc (.int .i64 0))]) s3,
  .p (.al 11 [(.sc (.int .u8 0)), (.sc (.int .u8 0)), (.sc (.int .u8 0)), (.sc (.int .u8 0)), (.sc (.int .u8 0)), (.sc (.int .u8 0)), (.sc (.int .u8 0)), (.sc (.bool false)), (.sc (.bool false)), (.sc (.int .u16 0)), (.sc (.int .i64 0))]) s4,
  .n (.st 11 g3 g15 (G2 31 2 8)),
  .n (.st 11 g4 g16 (G2 31 2 9)),
  .p (.mv g17) s5])
 (.seq (.regD [0, 1, 3, 7, 15, 31, 63, 63, 255, 511, 1023, 2047, 2047, 8191, 16383, 32767, 65535, 131071, 262143, 524287, 1048575, 2097151, 4194303] [.no, .no, .no, .no, .no, .no, (.rd (.ld true 11 g3) g24), .no, .no, .no, .no, (.rd (.ld true 11 g4) g29), .no, .no, .no, .no, .no, .no, .no, .no, .no, .no, .no] [.mk .none .yes (.mv g1) (.mv g1) (some s18),
  .mk .none .yes (.bin .eql g18 (kc (.tc (.sc (.int .u32 285214720)))) (G2 31 3 1)) (.bin .eql g18 (kc (.tc (.sc (.int .u32 285214720)))) (G2 31 3 1)) (some s19),
  .mk .none .yes (.mv g19) (.mv g19) (some s20),
  .mk (.on g20 true) .yes (.mv g2) (.mv g2) (some s21),
  .mk .none .yes (.pk g20 g21 (kc (.tc (.sc (.bool false))))) (.pk g20 g21 (kc (.tc (.sc (.bool false))))) (some s22),
  .mk .none .yes (.mv g22) (.mv g22) (some s23),
  .mk (.on g23 true) .yes (.ld true 11 g3) (.ld true 11 g3) (some s24),
  .mk (.on g23 true) (.dyn 52 [(kc (.tc (.sc (.int .u8 1))))]) (.call 52 [(kc (.tc (.sc (.int .u8 1))))] (G2 31 3 7)) (.call 52 [(kc (.tc (.sc (.int .u8 1))))] (G2 31 3 7)) (some s25),
  .mk (.on g23 true) .yes (.eqs .eql [(.mk 0 .int), (.mk 1 .int), (.mk 2 .int), (.mk 3 .int), (.mk 4 .int), (.mk 5 .int), (.mk 6 .int), (.mk 7 .bool), (.mk 8 .bool), (.mk 9 .int), (.mk 10 .int)] g24 g25 (G2 31 3 8)) (.eqs .eql [(.mk 0 .int), (.mk 1 .int), (.mk 2 .int), (.mk 3 .int), (.mk 4 .int), (.mk 5 .int), (.mk 6 .int), (.mk 7 .bool), (.mk 8 .bool), (.mk 9 .int), (.mk 10 .int)] g24 g25 (G2 31 3 8)) (some s26),
  .mk .none .yes (.pk g23 g26 (kc (.tc (.sc (.bool false))))) (.pk g23 g26 (kc (.tc (.sc (.bool false))))) (some s27),
  .mk .none .yes (.mv g27) (.mv g27) (some s28),
  .mk (.on g28 true) .yes (.ld true 11 g4) (.ld true 11 g4) (some s29),
  .mk (.on g28 true) (.dyn 52 [(kc (.tc (.sc (.int .u8 0))))]) (.call 52 [(kc (.tc (.sc (.int .u8 0))))] (G2 31 3 12)) (.call 52 [(kc (.tc (.sc (.int .u8 0))))] (G2 31 3 12)) (some s30),
  .mk (.on g28 true) .yes (.eqs .eql [(.mk 0 .int), (.mk 1 .int), (.mk 2 .int), (.mk 3 .int), (.mk 4 .int), (.mk 5 .int), (.mk 6 .int), (.mk 7 .bool), (.mk 8 .bool), (.mk 9 .int), (.mk 10 .int)] g29 g30 (G2 31 3 13)) (.eqs .eql [(.mk 0 .int), (.mk 1 .int), (.mk 2 .int), (.mk 3 .int), (.mk 4 .int), (.mk 5 .int), (.mk 6 .int), (.mk 7 .bool), (.mk 8 .bool), (.mk 9 .int), (.mk 10 .int)] g29 g30 (G2 31 3 13)) (some s31),
  .mk .none .yes (.pk g28 g31 (kc (.tc (.sc (.bool false))))) (.pk g28 g31 (kc (.tc (.sc (.bool false))))) (some s32),
  .mk .none .yes (.mv g32) (.mv g32) (some s33),
  .mk (.on g33 true) .yes (.mv g5) (.mv g5) (some s34),
  .mk .none .yes (.pk g33 g34 (kc (.tc (.sc (.bool false))))) (.pk g33 g34 (kc (.tc (.sc (.bool false))))) (some s35),
  .mk .none .yes (.mv g35) (.mv g35) (some s36),
  .mk (.on g36 true) .yes (.mv g1) (.mv g1) (some s37),
  .mk (.on g36 true) (.dyn 29 [g37]) (.call 29 [g37] (G2 31 3 20)) (.call 29 [g37] (G2 31 3 20)) (some s38),
  .mk .none .yes (.pk g36 g38 (kc (.tc (.sc (.bool false))))) (.pk g36 g38 (kc (.tc (.sc (.bool false))))) (some s39),
  .mk .none .yes (.mv g39) (.mv g39) (some s0)])
 .ret)))),
 [.tmp g0]⟩
theorem ffDup31_ok : compF SBDup 31 = ffDup31 := by kernel_rfl
noncomputable def ffDup52 : FF := .t2 ⟨5,
 (.seq (.reg [.p (.al 11 [(.sc (.int .u8 0)), (.sc (.int .u8 0)), (.sc (.int .u8 0)), (.sc (.int .u8 0)), (.sc (.int .u8 0)), (.sc (.int .u8 0)), (.sc (.int .u8 0)), (.sc (.bool false)), (.sc (.bool false)), (.sc (.int .u16 0)), (.sc (.int .i64 0))]) s2])
 (.seq (.reg [.p (.mv g0) s3,
  .p (.bd [(.tc (.sc (.int .u8 0))), (.tc (.sc (.int .u8 0))), (.tc (.sc (.int .u8 0))), (.tc (.sc (.int .u8 0))), (.tc (.sc (.int .u8 0))), (.tc (.sc (.int .u8 0))), (.tc (.sc (.int .u8 0))), (.tc (.sc (.bool false))), (.tc (.sc (.bool false))), (.tc (.sc (.int .u16 0))), (.tc (.sc (.int .i64 0)))] [(.mk 0 1 (kc (.tc (.sc (.int .u8 8))))), (.mk 1 1 g3)] (G2 52 1 1)) s4,
  .n (.st 11 g2 g4 (G2 52 1 2))])
 .ret)),
 [.cell g2 true 11]⟩
theorem ffDup52_ok : compF SBDup 52 = ffDup52 := by kernel_rfl
noncomputable def ffDup7 : FF := .t3 ⟨111,
 (.seq (.reg [.p (.bx 11 (h0 g0) (G3 7 0 0)) (i0 s2),
  .p (.bx 11 (h0 g1) (G3 7 0 1)) (i0 s3),
  .p (.mv (kc (.tc (.sc (.bool false))))) (i0 s4)])
 (.seq (.reg [.p (.ld true 11 (h0 g2)) (i0 s20),
  .p (.ld true 11 (h0 g3)) (i0 s21),
  .p (.call 27 [(h0 g20), (h0 g21)] (G3 7 1 2)) (i0 s22),
  .p (.mv (h0 g22)) (i0 s19),
  .p (.ex (h0 g19) 0) (i0 s23),
  .p (.ex (h0 g19) 1) (i0 s24),
  .p (.mv (h0 g23)) (i0 s5),
  .p (.mv (h0 g24)) (i0 s6)])
 (.seq (.reg [.p (.ld true 11 (h0 g3)) (i0 s26),
  .p (.ld true 11 (h0 g2)) (i0 s27),
  .p (.call 27 [(h0 g26), (h0 g27)] (G3 7 2 2)) (i0 s28),
  .p (.mv (h0 g28)) (i0 s25),
  .p (.ex (h0 g25) 0) (i0 s29),
  .p (.ex (h0 g25) 1) (i0 s30),
  .p (.mv (h0 g29)) (i0 s7),
  .p (.mv (h0 g30)) (i0 s8)])
 (.seq (.reg [.p (.ld true 11 (h0 g2)) (i0 s32),
  .p (.call 21 [(h0 g32)] (G3 7 3 1)) (i0 s33),
  .p (.mv (h0 g33)) (i0 s31),
  .p (.ex (h0 g31) 0) (i0 s34),
  .p (.ex (h0 g31) 1) (i0 s35),
  .p (.mv (h0 g34)) (i0 s9),
  .p (.mv (h0 g35)) (i0 s10)])
 (.seq (.reg [.p (.ld true 11 (h0 g3)) (i0 s37),
  .p (.call 21 [(h0 g37)] (G3 7 4 1)) (i0 s38),
  .p (.mv (h0 g38)) (i0 s36),
  .p (.ex (h0 g36) 0) (i0 s39),
  .p (.ex (h0 g36) 1) (i0 s40),
  .p (.mv (h0 g39)) (i0 s11),
  .p (.mv (h0 g40)) (i0 s12)])
 (.seq (.seq (.reg [.p (.mv (h0 g5)) (i0 s41),
  .p (.mv (h0 g7)) (i0 s42),
  .p (.bin .neq (h0 g41) (h0 g42) (G3 7 5 2)) (i0 s43),
  .p (.mv (h0 g43)) (i0 s44),
  .gp (h0 g44) false (.mv (h0 g6)) (i0 s45),
  .gp (h0 g44) false (.mv (h0 g8)) (i0 s46),
  .gp (h0 g44) false (.bin .neq (h0 g45) (h0 g46) (G3 7 5 6)) (i0 s47),
  .p (.pk (h0 g44) (kc (.tc (.sc (.bool true)))) (h0 g47)) (i0 s48),
  .p (.mv (h0 g48)) (i0 s49),
  .gp (h0 g49) false (.mv (h0 g6)) (i0 s50),
  .gp (h0 g49) false (.mv (h0 g50)) (i0 s51),
  .gp (h0 g51) true (.mv (h0 g10)) (i0 s52),
  .gp (h0 g51) true (.nt (h0 g52) (G3 7 5 12)) (i0 s53),
  .gp (h0 g51) true (.mv (h0 g53)) (i0 s54),
  .gp (h0 g54) false (.mv (h0 g12)) (i0 s55),
  .gp (h0 g54) false (.nt (h0 g55) (G3 7 5 15)) (i0 s56),
  .gp (h0 g51) true (.pk (h0 g54) (kc (.tc (.sc (.bool true)))) (h0 g56)) (i0 s57),
  .gp (h0 g49) false (.pk (h0 g51) (h0 g57) (kc (.tc (.sc (.bool false))))) (i0 s58),
  .p (.pk (h0 g49) (kc (.tc (.sc (.bool true)))) (h0 g58)) (i0 s59)])
 (.cond (h0 g59) (.seq (.reg [.p (.mv (kc (.tc (.sc (.bool false))))) (i0 s4)])
 .ret)
 .skip))
 (.seq (.seq (.reg [.p (.mv (h0 g6)) (i0 s60),
  .p (.nt (h0 g60) (G3 7 7 1)) (i0 s61)])
 (.cond (h0 g61) (.seq (.reg [.p (.mv (h0 g5)) (i0 s62),
  .p (.bin .eql (h0 g62) (kc (.tc (.sc (.int .u32 0)))) (G3 7 8 1)) (i0 s63),
  .p (.mv (h0 g63)) (i1 s0),
  .gp (h1 g0) true (.call 31 [] (G3 7 8 3)) (i1 s1),
  .p (.pk (h1 g0) (h1 g1) (kc (.tc (.sc (.bool false))))) (i1 s2),
  .p (.mv (h1 g2)) (i0 s4)])
 .ret)
 .skip))
 (.seq (.reg [.p (.mv (h0 g5)) (i1 s4),
  .p (.call 32 [(h1 g4)] (G3 7 9 1)) (i1 s5),
  .p (.mv (h1 g5)) (i1 s3),
  .p (.ex (h1 g3) 0) (i1 s6),
  .p (.ex (h1 g3) 1) (i1 s7),
  .p (.ex (h1 g3) 2) (i1 s8),
  .p (.mv (h1 g6)) (i0 s13),
  .p (.mv (h1 g7)) (i0 s14),
  .p (.mv (h1 g8)) (i0 s15)])
 (.seq (.reg [.p (.mv (h0 g5)) (i1 s10),
  .p (.call 25 [(h1 g10)] (G3 7 10 1)) (i1 s11),
  .p (.mv (h1 g11)) (i1 s9),
  .p (.ex (h1 g9) 0) (i1 s12),
  .p (.ex (h1 g9) 1) (i1 s13),
  .p (.ex (h1 g9) 2) (i1 s14),
  .p (.al 11 [(.sc (.int .u8 0)), (.sc (.int .u8 0)), (.sc (.int .u8 0)), (.sc (.int .u8 0)), (.sc (.int .u8 0)), (.sc (.int .u8 0)), (.sc (.int .u8 0)), (.sc (.bool false)), (.sc (.bool false)), (.sc (.int .u16 0)), (.sc (.int .i64 0))]) (i0 s16),
  .p (.al 11 [(.sc (.int .u8 0)), (.sc (.int .u8 0)), (.sc (.int .u8 0)), (.sc (.int .u8 0)), (.sc (.int .u8 0)), (.sc (.int .u8 0)), (.sc (.int .u8 0)), (.sc (.bool false)), (.sc (.bool false)), (.sc (.int .u16 0)), (.sc (.int .i64 0))]) (i0 s17),
  .n (.st 11 (h0 g16) (h1 g12) (G3 7 10 8)),
  .n (.st 11 (h0 g17) (h1 g13) (G3 7 10 9)),
  .p (.mv (h1 g14)) (i0 s18)])
 (.seq (.reg [.p (.mv (h0 g18)) (i1 s15),
  .p (.mv (h1 g15)) (i1 s16),
  .gp (h1 g16) true (.ld true 11 (h0 g16)) (i1 s17),
  .gp (h1 g16) true (.ld true 11 (h0 g2)) (i1 s18),
  .gp (h1 g16) true (.eqs .eql [(.mk 0 .int), (.mk 1 .int), (.mk 2 .int), (.mk 3 .int), (.mk 4 .int), (.mk 5 .int), (.mk 6 .int), (.mk 7 .bool), (.mk 8 .bool), (.mk 9 .int), (.mk 10 .int)] (h1 g17) (h1 g18) (G3 7 11 4)) (i1 s19),
  .gp (h1 g16) true (.mv (h1 g19)) (i1 s20),
  .gp (h1 g20) true (.ld true 11 (h0 g17)) (i1 s21),
  .gp (h1 g20) true (.ld true 11 (h0 g3)) (i1 s22),
  .gp (h1 g20) true (.eqs .eql [(.mk 0 .int), (.mk 1 .int), (.mk 2 .int), (.mk 3 .int), (.mk 4 .int), (.mk 5 .int), (.mk 6 .int), (.mk 7 .bool), (.mk 8 .bool), (.mk 9 .int), (.mk 10 .int)] (h1 g21) (h1 g22) (G3 7 11 8)) (i1 s23),
  .gp (h1 g16) true (.pk (h1 g20) (h1 g23) (kc (.tc (.sc (.bool false))))) (i1 s24),
  .gp (h1 g16) true (.mv (h1 g24)) (i1 s25),
  .gp (h1 g25) false (.ld true 11 (h0 g16)) (i1 s26),
  .gp (h1 g25) false (.ld true 11 (h0 g3)) (i1 s27),
  .gp (h1 g25) false (.eqs .eql [(.mk 0 .int), (.mk 1 .int), (.mk 2 .int), (.mk 3 .int), (.mk 4 .int), (.mk 5 .int), (.mk 6 .int), (.mk 7 .bool), (.mk 8 .bool), (.mk 9 .int), (.mk 10 .int)] (h1 g26) (h1 g27) (G3 7 11 13)) (i1 s28),
  .gp (h1 g25) false (.mv (h1 g28)) (i1 s29),
  .gp (h1 g29) true (.ld true 11 (h0 g17)) (i1 s30),
  .gp (h1 g29) true (.ld true 11 (h0 g2)) (i1 s31),
  .gp (h1 g29) true (.eqs .eql [(.mk 0 .int), (.mk 1 .int), (.mk 2 .int), (.mk 3 .int), (.mk 4 .int), (.mk 5 .int), (.mk 6 .int), (.mk 7 .bool), (.mk 8 .bool), (.mk 9 .int), (.mk 10 .int)] (h1 g30) (h1 g31) (G3 7 11 17)) (i1 s32),
  .gp (h1 g25) false (.pk (h1 g29) (h1 g32) (kc (.tc (.sc (.bool false))))) (i1 s33),
  .gp (h1 g16) true (.pk (h1 g25) (kc (.tc (.sc (.bool true)))) (h1 g33)) (i1 s34),
  .p (.pk (h1 g16) (h1 g34) (kc (.tc (.sc (.bool false))))) (i1 s35),
  .p (.mv (h1 g35)) (i1 s36),
  .gp (h1 g36) true (.mv (h0 g15)) (i1 s37),
  .gp (h1 g36) true (.bin .eql (h1 g37) (kc (.tc (.sc (.int .u8 0)))) (G3 7 11 23)) (i1 s38),
  .p (.pk (h1 g36) (h1 g38) (kc (.tc (.sc (.bool false))))) (i1 s39),
  .p (.mv (h1 g39)) (i1 s40),
  .gp (h1 g40) true (.mv (h0 g5)) (i1 s41),
  .gp (h1 g40) true (.call 29 [(h1 g41)] (G3 7 11 27)) (i1 s42),
  .p (.pk (h1 g40) (h1 g42) (kc (.tc (.sc (.bool false))))) (i1 s43),
  .p (.mv (h1 g43)) (i1 s44),
  .gp (h1 g44) true (.call 31 [] (G3 7 11 30)) (i1 s45),
  .p (.pk (h1 g44) (h1 g45) (kc (.tc (.sc (.bool false))))) (i1 s46),
  .p (.mv (h1 g46)) (i0 s4)])
 .ret)))))))))),
 [.tmp (h0 g4)]⟩
theorem ffDup7_ok : compF SBDup 7 = ffDup7 := by kernel_rfl
noncomputable def ffDup8 : FF := .t3 ⟨82,
 (.seq (.reg [.p (.mv (kc (.tc (.sc (.bool false))))) (i0 s2)])
 (.seq (.reg [.p (.mv (h0 g0)) (i0 s12),
  .p (.call 25 [(h0 g12)] (G3 8 1 1)) (i0 s13),
  .p (.mv (h0 g13)) (i0 s11),
  .p (.ex (h0 g11) 0) (i0 s14),
  .p (.ex (h0 g11) 1) (i0 s15),
  .p (.ex (h0 g11) 2) (i0 s16),
  .p (.al 11 [(.sc (.int .u8 0)), (.sc (.int .u8 0)), (.sc (.int .u8 0)), (.sc (.int .u8 0)), (.sc (.int .u8 0)), (.sc (.int .u8 0)), (.sc (.int .u8 0)), (.sc (.bool false)), (.sc (.bool false)), (.sc (.int .u16 0)), (.sc (.int .i64 0))]) (i0 s3),
  .p (.al 11 [(.sc (.int .u8 0)), (.sc (.int .u8 0)), (.sc (.int .u8 0)), (.sc (.int .u8 0)), (.sc (.int .u8 0)), (.sc (.int .u8 0)), (.sc (.int .u8 0)), (.sc (.bool false)), (.sc (.bool false)), (.sc (.int .u16 0)), (.sc (.int .i64 0))]) (i0 s4),
  .n (.st 11 (h0 g3) (h0 g14) (G3 8 1 8)),
  .n (.st 11 (h0 g4) (h0 g15) (G3 8 1 9)),
  .p (.mv (h0 g16)) (i0 s5)])
 (.seq (.seq (.reg [.p (.mv (h0 g5)) (i0 s17),
  .p (.nt (h0 g17) (G3 8 2 1)) (i0 s18)])
 (.cond (h0 g18) (.seq (.reg [.p (.mv (h0 g0)) (i0 s19),
  .p (.call 29 [(h0 g19)] (G3 8 3 1)) (i0 s20),
  .p (.nt (h0 g20) (G3 8 3 2)) (i0 s21),
  .p (.mv (h0 g21)) (i0 s22),
  .gp (h0 g22) true (.ld true 11 (h0 g3)) (i0 s23),
  .gp (h0 g22) true (.bd [(.tc (.sc (.int .u8 0))), (.tc (.sc (.int .u8 0))), (.tc (.sc (.int .u8 0))), (.tc (.sc (.int .u8 0))), (.tc (.sc (.int .u8 0))), (.tc (.sc (.int .u8 0))), (.tc (.sc (.int .u8 0))), (.tc (.sc (.bool false))), (.tc (.sc (.bool false))), (.tc (.sc (.int .u16 0))), (.tc (.sc (.int .i64 0)))] [] (G3 8 3 5)) (i0 s24),
  .gp (h0 g22) true (.eqs .eql [(.mk 0 .int), (.mk 1 .int), (.mk 2 .int), (.mk 3 .int), (.mk 4 .int), (.mk 5 .int), (.mk 6 .int), (.mk 7 .bool), (.mk 8 .bool), (.mk 9 .int), (.mk 10 .int)] (h0 g23) (h0 g24) (G3 8 3 6)) (i0 s25),
  .p (.pk (h0 g22) (h0 g25) (kc (.tc (.sc (.bool false))))) (i0 s26),
  .p (.mv (h0 g26)) (i0 s27),
  .gp (h0 g27) true (.ld true 11 (h0 g4)) (i0 s28),
  .gp (h0 g27) true (.bd [(.tc (.sc (.int .u8 0))), (.tc (.sc (.int .u8 0))), (.tc (.sc (.int .u8 0))), (.tc (.sc (.int .u8 0))), (.tc (.sc (.int .u8 0))), (.tc (.sc (.int .u8 0))), (.tc (.sc (.int .u8 0))), (.tc (.sc (.bool false))), (.tc (.sc (.bool false))), (.tc (.sc (.int .u16 0))), (.tc (.sc (.int .i64 0)))] [] (G3 8 3 10)) (i0 s29),
  .gp (h0 g27) true (.eqs .eql [(.mk 0 .int), (.mk 1 .int), (.mk 2 .int), (.mk 3 .int), (.mk 4 .int), (.mk 5 .int), (.mk 6 .int), (.mk 7 .bool), (.mk 8 .bool), (.mk 9 .int), (.mk 10 .int)] (h0 g28) (h0 g29) (G3 8 3 11)) (i0 s30),
  .p (.pk (h0 g27) (h0 g30) (kc (.tc (.sc (.bool false))))) (i0 s31),
  .p (.mv (h0 g31)) (i0 s32),
  .gp (h0 g32) true (.call 31 [] (G3 8 3 14)) (i0 s33),
  .p (.pk (h0 g32) (h0 g33) (kc (.tc (.sc (.bool false))))) (i0 s34),
  .p (.mv (h0 g34)) (i0 s2)])
 .ret)
 .skip))
 (.seq (.reg [.p (.ld true 11 (h0 g3)) (i0 s36),
  .p (.ld true 11 (h0 g4)) (i0 s37),
  .p (.call 27 [(h0 g36), (h0 g37)] (G3 8 4 2)) (i0 s38),
  .p (.mv (h0 g38)) (i0 s35),
  .p (.ex (h0 g35) 0) (i0 s39),
  .p (.ex (h0 g35) 1) (i0 s40),
  .p (.mv (h0 g39)) (i0 s6),
  .p (.mv (h0 g40)) (i0 s7)])
 (.seq (.reg [.p (.mv (h0 g6)) (i0 s42),
  .p (.call 25 [(h0 g42)] (G3 8 5 1)) (i0 s43),
  .p (.mv (h0 g43)) (i0 s41),
  .p (.ex (h0 g41) 0) (i0 s44),
  .p (.ex (h0 g41) 1) (i0 s45),
  .p (.ex (h0 g41) 2) (i0 s46),
  .p (.al 11 [(.sc (.int .u8 0)), (.sc (.int .u8 0)), (.sc (.int .u8 0)), (.sc (.int .u8 0)), (.sc (.int .u8 0)), (.sc (.int .u8 0)), (.sc (.int .u8 0)), (.sc (.bool false)), (.sc (.bool false)), (.sc (.int .u16 0)), (.sc (.int .i64 0))]) (i0 s8),
  .p (.al 11 [(.sc (.int .u8 0)), (.sc (.int .u8 0)), (.sc (.int .u8 0)), (.sc (.int .u8 0)), (.sc (.int .u8 0)), (.sc (.int .u8 0)), (.sc (.int .u8 0)), (.sc (.bool false)), (.sc (.bool false)), (.sc (.int .u16 0)), (.sc (.int .i64 0))]) (i0 s9),
  .n (.st 11 (h0 g8) (h0 g44) (G3 8 5 8)),
  .n (.st 11 (h0 g9) (h0 g45) (G3 8 5 9)),
  .p (.mv (h0 g46)) (i0 s10)])
 (.seq (.seq (.reg [.p (.mv (h0 g7)) (i0 s47),
  .p (.nt (h0 g47) (G3 8 6 1)) (i0 s48),
  .p (.mv (h0 g48)) (i0 s49),
  .gp (h0 g49) false (.mv (h0 g10)) (i0 s50),
  .gp (h0 g49) false (.nt (h0 g50) (G3 8 6 4)) (i0 s51),
  .p (.pk (h0 g49) (kc (.tc (.sc (.bool true)))) (h0 g51)) (i0 s52),
  .p (.mv (h0 g52)) (i0 s53),
  .gp (h0 g53) false (.mv (h0 g0)) (i0 s54),
  .gp (h0 g53) false (.call 29 [(h0 g54)] (G3 8 6 8)) (i0 s55),
  .gp (h0 g53) false (.mv (h0 g6)) (i0 s56),
  .gp (h0 g53) false (.mv (h0 g0)) (i0 s57),
  .gp (h0 g53) false (.bin .eql (h0 g56) (h0 g57) (G3 8 6 11)) (i0 s58),
  .gp (h0 g53) false (.bin .neq (h0 g55) (h0 g58) (G3 8 6 12)) (i0 s59),
  .p (.pk (h0 g53) (kc (.tc (.sc (.bool true)))) (h0 g59)) (i0 s60),
  .p (.mv (h0 g60)) (i0 s61),
  .gp (h0 g61) false (.mv (h0 g6)) (i0 s62),
  .gp (h0 g61) false (.call 29 [(h0 g62)] (G3 8 6 16)) (i0 s63),
  .gp (h0 g61) false (.nt (h0 g63) (G3 8 6 17)) (i1 s0),
  .p (.pk (h0 g61) (kc (.tc (.sc (.bool true)))) (h1 g0)) (i1 s1)])
 (.cond (h1 g1) (.seq (.reg [.p (.mv (kc (.tc (.sc (.bool false))))) (i0 s2)])
 .ret)
 .skip))
 (.seq (.reg [.p (.mv (h0 g6)) (i1 s2),
  .p (.mv (h0 g0)) (i1 s3),
  .p (.bin .eql (h1 g2) (h1 g3) (G3 8 8 2)) (i1 s4),
  .p (.mv (h1 g4)) (i1 s5),
  .gp (h1 g5) false (.ld true 11 (h0 g8)) (i1 s6),
  .gp (h1 g5) false (.ld true 11 (h0 g4)) (i1 s7),
  .gp (h1 g5) false (.eqs .eql [(.mk 0 .int), (.mk 1 .int), (.mk 2 .int), (.mk 3 .int), (.mk 4 .int), (.mk 5 .int), (.mk 6 .int), (.mk 7 .bool), (.mk 8 .bool), (.mk 9 .int), (.mk 10 .int)] (h1 g6) (h1 g7) (G3 8 8 6)) (i1 s8),
  .gp (h1 g5) false (.mv (h1 g8)) (i1 s9),
  .gp (h1 g9) true (.ld true 11 (h0 g9)) (i1 s10),
  .gp (h1 g9) true (.ld true 11 (h0 g3)) (i1 s11),
  .gp (h1 g9) true (.eqs .eql [(.mk 0 .int), (.mk 1 .int), (.mk 2 .int), (.mk 3 .int), (.mk 4 .int), (.mk 5 .int), (.mk 6 .int), (.mk 7 .bool), (.mk 8 .bool), (.mk 9 .int), (.mk 10 .int)] (h1 g10) (h1 g11) (G3 8 8 10)) (i1 s12),
  .gp (h1 g5) false (.pk (h1 g9) (h1 g12) (kc (.tc (.sc (.bool false))))) (i1 s13),
  .p (.pk (h1 g5) (kc (.tc (.sc (.bool true)))) (h1 g13)) (i1 s14),
  .p (.mv (h1 g14)) (i1 s15),
  .gp (h1 g15) true (.call 31 [] (G3 8 8 14)) (i1 s16),
  .p (.pk (h1 g15) (h1 g16) (kc (.tc (.sc (.bool false))))) (i1 s17),
  .p (.mv (h1 g17)) (i0 s2)])
 .ret))))))),
 [.tmp (h0 g2)]⟩
theorem ffDup8_ok : compF SBDup 8 = ffDup8 := by kernel_rfl

noncomputable def codeDup (f : FuncId) : FF := match f with
  | 6 => ffDup6
  | 25 => ffDup25
  | 32 => ffDup32
  | 53 => ffDup53
  | 73 => ffDup73
  | 46 => ffDup46
  | 19 => ffDup19
  | 39 => ffDup39
  | 64 => ffDup64
  | 38 => ffDup38
  | 62 => ffDup62
  | 63 => ffDup63
  | 24 => ffDup24
  | 42 => ffDup42
  | 67 => ffDup67
  | 88 => ffDup88
  | 93 => ffDup93
  | 85 => ffDup85
  | 102 => ffDup102
  | 103 => ffDup103
  | 94 => ffDup94
  | 100 => ffDup100
  | 95 => ffDup95
  | 96 => ffDup96
  | 97 => ffDup97
  | 98 => ffDup98
  | 99 => ffDup99
  | 101 => ffDup101
  | 68 => ffDup68
  | 43 => ffDup43
  | 44 => ffDup44
  | 69 => ffDup69
  | 45 => ffDup45
  | 70 => ffDup70
  | 89 => ffDup89
  | 47 => ffDup47
  | 71 => ffDup71
  | 26 => ffDup26
  | 48 => ffDup48
  | 20 => ffDup20
  | 40 => ffDup40
  | 49 => ffDup49
  | 27 => ffDup27
  | 21 => ffDup21
  | 41 => ffDup41
  | 65 => ffDup65
  | 86 => ffDup86
  | 66 => ffDup66
  | 87 => ffDup87
  | 50 => ffDup50
  | 72 => ffDup72
  | 28 => ffDup28
  | 22 => ffDup22
  | 51 => ffDup51
  | 29 => ffDup29
  | 30 => ffDup30
  | 31 => ffDup31
  | 52 => ffDup52
  | 7 => ffDup7
  | 8 => ffDup8
  | _ => .bad
theorem codeDup_ok : ∀ f, codeDup f = .bad ∨ codeDup f = compF SBDup f := by
  intro f
  unfold codeDup
  split
  · exact .inr ffDup6_ok.symm
  · exact .inr ffDup25_ok.symm
  · exact .inr ffDup32_ok.symm
  · exact .inr ffDup53_ok.symm
  · exact .inr ffDup73_ok.symm
  · exact .inr ffDup46_ok.symm
  · exact .inr ffDup19_ok.symm
  · exact .inr ffDup39_ok.symm
  · exact .inr ffDup64_ok.symm
  · exact .inr ffDup38_ok.symm
  · exact .inr ffDup62_ok.symm
  · exact .inr ffDup63_ok.symm
  · exact .inr ffDup24_ok.symm
  · exact .inr ffDup42_ok.symm
  · exact .inr ffDup67_ok.symm
  · exact .inr ffDup88_ok.symm
  · exact .inr ffDup93_ok.symm
  · exact .inr ffDup85_ok.symm
  · exact .inr ffDup102_ok.symm
  · exact .inr ffDup103_ok.symm
  · exact .inr ffDup94_ok.symm
  · exact .inr ffDup100_ok.symm
  · exact .inr ffDup95_ok.symm
  · exact .inr ffDup96_ok.symm
  · exact .inr ffDup97_ok.symm
  · exact .inr ffDup98_ok.symm
  · exact .inr ffDup99_ok.symm
  · exact .inr ffDup101_ok.symm
  · exact .inr ffDup68_ok.symm
  · exact .inr ffDup43_ok.symm
  · exact .inr ffDup44_ok.symm
  · exact .inr ffDup69_ok.symm
  · exact .inr ffDup45_ok.symm
  · exact .inr ffDup70_ok.symm
  · exact .inr ffDup89_ok.symm
  · exact .inr ffDup47_ok.symm
  · exact .inr ffDup71_ok.symm
  · exact .inr ffDup26_ok.symm
  · exact .inr ffDup48_ok.symm
  · exact .inr ffDup20_ok.symm
  · exact .inr ffDup40_ok.symm
  · exact .inr ffDup49_ok.symm
  · exact .inr ffDup27_ok.symm
  · exact .inr ffDup21_ok.symm
  · exact .inr ffDup41_ok.symm
  · exact .inr ffDup65_ok.symm
  · exact .inr ffDup86_ok.symm
  · exact .inr ffDup66_ok.symm
  · exact .inr ffDup87_ok.symm
  · exact .inr ffDup50_ok.symm
  · exact .inr ffDup72_ok.symm
  · exact .inr ffDup28_ok.symm
  · exact .inr ffDup22_ok.symm
  · exact .inr ffDup51_ok.symm
  · exact .inr ffDup29_ok.symm
  · exact .inr ffDup30_ok.symm
  · exact .inr ffDup31_ok.symm
  · exact .inr ffDup52_ok.symm
  · exact .inr ffDup7_ok.symm
  · exact .inr ffDup8_ok.symm
  · exact .inl rfl
end Go.Proofs.YthabafmieebmmaaDoor
