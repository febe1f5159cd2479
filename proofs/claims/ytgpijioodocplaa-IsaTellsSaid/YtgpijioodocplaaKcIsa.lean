/- Code made ready ahead, Isa: each is what the program says. -/
import Derived.Test.YtgpijioodocplaaKcBase
set_option linter.unusedVariables false
set_option maxRecDepth 100000
namespace Go.Proofs.Ytgpijioodocplaa
open Go

noncomputable def ffIsa4 : FF := .t3 ⟨159,
 (.seq (.reg [.p (.mv (kc (.tc (.sc (.bool false))))) (i0 s8)])
 (.seq (.seq (.reg [.p (.mv (h0 g3)) (i0 s24),
  .p (.ls (h0 g24) (G3 4 1 1)) (i0 s25),
  .p (.bin .gtr (h0 g25) (kc (.tc (.sc (.int .i64 100)))) (G3 4 1 2)) (i0 s26)])
 (.cond (h0 g26) (.reg [.p (.mv (h0 g3)) (i0 s27),
  .p (.ss (h0 g27) none (some (kc (.tc (.sc (.int .i64 100))))) none (G3 4 2 1)) (i0 s28),
  .p (.mv (h0 g28)) (i0 s3)])
 .skip))
 (.seq (.reg [.p (.mv (h0 g0)) (i0 s30),
  .p (.call 10 [(h0 g30)] (G3 4 3 1)) (i0 s31),
  .p (.mv (h0 g31)) (i0 s29),
  .p (.ex (h0 g29) 0) (i0 s32),
  .p (.ex (h0 g29) 1) (i0 s33),
  .p (.al 5 [(.sc (.int .u8 0)), (.sc (.string ⟨#[]⟩)), (.sc (.int .u8 0)), (.sc (.int .u8 0)), (.sc (.slice none 0 0))]) (i0 s9),
  .n (.st 5 (h0 g9) (h0 g32) (G3 4 3 6)),
  .p (.mv (h0 g33)) (i0 s10)])
 (.seq (.reg [.p (.mv (h0 g0)) (i0 s35),
  .p (.call 12 [(h0 g35)] (G3 4 4 1)) (i0 s36),
  .p (.mv (h0 g36)) (i0 s34),
  .p (.ex (h0 g34) 0) (i0 s37),
  .p (.ex (h0 g34) 1) (i0 s38),
  .p (.al 5 [(.sc (.int .u8 0)), (.sc (.string ⟨#[]⟩)), (.sc (.int .u8 0)), (.sc (.int .u8 0)), (.sc (.slice none 0 0))]) (i0 s11),
  .n (.st 5 (h0 g11) (h0 g37) (G3 4 4 6)),
  .p (.mv (h0 g38)) (i0 s12)])
 (.seq (.seq (.reg [.p (.mv (h0 g10)) (i0 s39),
  .p (.mv (h0 g12)) (i0 s40),
  .p (.bin .neq (h0 g39) (h0 g40) (G3 4 5 2)) (i0 s41),
  .p (.mv (h0 g41)) (i0 s42),
  .gp (h0 g42) false (.fa 0 (h0 g9)) (i0 s43),
  .gp (h0 g42) false (.ld false 1 (h0 g43)) (i0 s44),
  .gp (h0 g42) false (.fa 0 (h0 g11)) (i0 s45),
  .gp (h0 g42) false (.ld false 1 (h0 g45)) (i0 s46),
  .gp (h0 g42) false (.bin .neq (h0 g44) (h0 g46) (G3 4 5 8)) (i0 s47),
  .p (.pk (h0 g42) (kc (.tc (.sc (.bool true)))) (h0 g47)) (i0 s48),
  .p (.mv (h0 g48)) (i0 s49),
  .gp (h0 g49) false (.fa 1 (h0 g9)) (i0 s50),
  .gp (h0 g49) false (.ld false 1 (h0 g50)) (i0 s51),
  .gp (h0 g49) false (.fa 1 (h0 g11)) (i0 s52),
  .gp (h0 g49) false (.ld false 1 (h0 g52)) (i0 s53),
  .gp (h0 g49) false (.bin .neq (h0 g51) (h0 g53) (G3 4 5 15)) (i0 s54),
  .p (.pk (h0 g49) (kc (.tc (.sc (.bool true)))) (h0 g54)) (i0 s55),
  .p (.mv (h0 g55)) (i0 s56),
  .gp (h0 g56) false (.fa 2 (h0 g9)) (i0 s57),
  .gp (h0 g56) false (.ld false 1 (h0 g57)) (i0 s58),
  .gp (h0 g56) false (.fa 2 (h0 g11)) (i0 s59),
  .gp (h0 g56) false (.ld false 1 (h0 g59)) (i0 s60),
  .gp (h0 g56) false (.bin .neq (h0 g58) (h0 g60) (G3 4 5 22)) (i0 s61),
  .p (.pk (h0 g56) (kc (.tc (.sc (.bool true)))) (h0 g61)) (i0 s62),
  .p (.mv (h0 g62)) (i0 s63),
  .gp (h0 g63) false (.fa 3 (h0 g9)) (i1 s0),
  .gp (h0 g63) false (.ld false 1 (h1 g0)) (i1 s1),
  .gp (h0 g63) false (.fa 3 (h0 g11)) (i1 s2),
  .gp (h0 g63) false (.ld false 1 (h1 g2)) (i1 s3),
  .gp (h0 g63) false (.bin .neq (h1 g1) (h1 g3) (G3 4 5 29)) (i1 s4),
  .p (.pk (h0 g63) (kc (.tc (.sc (.bool true)))) (h1 g4)) (i1 s5),
  .p (.mv (h1 g5)) (i1 s6),
  .gp (h1 g6) false (.fa 4 (h0 g9)) (i1 s7),
  .gp (h1 g6) false (.ld false 1 (h1 g7)) (i1 s8),
  .gp (h1 g6) false (.len (h1 g8) (G3 4 5 34)) (i1 s9),
  .gp (h1 g6) false (.fa 4 (h0 g11)) (i1 s10),
  .gp (h1 g6) false (.ld false 1 (h1 g10)) (i1 s11),
  .gp (h1 g6) false (.len (h1 g11) (G3 4 5 37)) (i1 s12),
  .gp (h1 g6) false (.bin .neq (h1 g9) (h1 g12) (G3 4 5 38)) (i1 s13),
  .p (.pk (h1 g6) (kc (.tc (.sc (.bool true)))) (h1 g13)) (i1 s14)])
 (.cond (h1 g14) (.seq (.reg [.p (.mv (kc (.tc (.sc (.bool false))))) (i0 s8)])
 .ret)
 .skip))
 (.seq (.seq (.reg [.p (.mv (kc (.tc (.sc (.int .i64 0))))) (i0 s13)])
 (.block 0 (.loop 4294967296 (.seq (.seq (.reg [.p (.mv (h0 g13)) (i1 s15),
  .p (.fa 4 (h0 g9)) (i1 s16),
  .p (.ld false 1 (h1 g16)) (i1 s17),
  .p (.len (h1 g17) (G3 4 8 3)) (i1 s18),
  .p (.bin .lss (h1 g15) (h1 g18) (G3 4 8 4)) (i1 s19)])
 (.cond (h1 g19) .skip
 (.exit 0)))
 (.seq (.block 1 (.seq (.seq (.regD [0, 1, 0, 7, 15, 0, 32, 0, 224, 480, 1023] [.no, (.rd (.ld false 1 (h1 g22)) (h1 g23)), .no, .no, (.rd (.ld true 5 (h1 g25)) (h1 g26)), .no, (.rd (.ld false 1 (h1 g27)) (h1 g28)), .no, .no, (.rd (.ld true 5 (h1 g30)) (h1 g31)), .no] [.mk .none .yes (.fa 4 (h0 g9)) (.fa 4 (h0 g9)) (some (i1 s22)),
  .mk .none .yes (.ld false 1 (h1 g22)) (.ld false 1 (h1 g22)) (some (i1 s23)),
  .mk .none .yes (.mv (h0 g13)) (.mv (h0 g13)) (some (i1 s24)),
  .mk .none .yes (.ia 5 (h1 g23) (h1 g24) (G3 4 9 3)) (.ia 5 (h1 g23) (h1 g24) (G3 4 9 3)) (some (i1 s25)),
  .mk .none .yes (.ld true 5 (h1 g25)) (.ld true 5 (h1 g25)) (some (i1 s26)),
  .mk .none .yes (.fa 4 (h0 g11)) (.fa 4 (h0 g11)) (some (i1 s27)),
  .mk .none .yes (.ld false 1 (h1 g27)) (.ld false 1 (h1 g27)) (some (i1 s28)),
  .mk .none .yes (.mv (h0 g13)) (.mv (h0 g13)) (some (i1 s29)),
  .mk .none .yes (.ia 5 (h1 g28) (h1 g29) (G3 4 9 8)) (.ia 5 (h1 g28) (h1 g29) (G3 4 9 8)) (some (i1 s30)),
  .mk .none .yes (.ld true 5 (h1 g30)) (.ld true 5 (h1 g30)) (some (i1 s31)),
  .mk .none .yes (.eqs .neq [(.mk 0 .int), (.mk 1 .int), (.mk 2 .int), (.mk 3 .bool), (.mk 4 .bool)] (h1 g26) (h1 g31) (G3 4 9 10)) (.eqs .neq [(.mk 0 .int), (.mk 1 .int), (.mk 2 .int), (.mk 3 .bool), (.mk 4 .bool)] (h1 g26) (h1 g31) (G3 4 9 10)) (some (i1 s32))])
 (.cond (h1 g32) (.seq (.reg [.p (.mv (kc (.tc (.sc (.bool false))))) (i0 s8)])
 .ret)
 .skip))
 (.reg [.p (.fa 4 (h0 g9)) (i1 s33),
  .p (.ld false 1 (h1 g33)) (i1 s34),
  .p (.mv (h0 g13)) (i1 s35),
  .p (.bd [(.tc (.sc (.int .u8 0))), (.tc (.sc (.int .i64 0))), (.tc (.sc (.int .i64 0))), (.tc (.sc (.bool false))), (.tc (.sc (.bool false)))] [] (G3 4 11 3)) (i1 s36),
  .p (.ia 5 (h1 g34) (h1 g35) (G3 4 11 4)) (i1 s37),
  .n (.st 5 (h1 g37) (h1 g36) (G3 4 11 5))])))
 (.reg [.p (.mv (h0 g13)) (i1 s20),
  .p (.bin .add (h1 g20) (kc (.tc (.sc (.int .i64 1)))) (G3 4 12 1)) (i1 s21),
  .p (.mv (h1 g21)) (i0 s13)]))))))
 (.seq (.reg [.p (.mv (h0 g0)) (i1 s39),
  .p (.mv (h0 g1)) (i1 s40),
  .p (.call 13 [(h1 g39), (h1 g40)] (G3 4 13 2)) (i1 s41),
  .p (.mv (h1 g41)) (i1 s38),
  .p (.ex (h1 g38) 0) (i1 s42),
  .p (.ex (h1 g38) 1) (i1 s43),
  .p (.ex (h1 g38) 2) (i1 s44),
  .p (.al 5 [(.sc (.int .u8 0)), (.sc (.int .i64 0)), (.sc (.int .i64 0)), (.sc (.bool false)), (.sc (.bool false))]) (i0 s14),
  .n (.st 5 (h0 g14) (h1 g42) (G3 4 13 8)),
  .p (.mv (h1 g43)) (i0 s15),
  .p (.mv (h1 g44)) (i0 s16)])
 (.seq (.reg [.p (.mv (h0 g0)) (i1 s46),
  .p (.mv (h0 g1)) (i1 s47),
  .p (.call 14 [(h1 g46), (h1 g47)] (G3 4 14 2)) (i1 s48),
  .p (.mv (h1 g48)) (i1 s45),
  .p (.ex (h1 g45) 0) (i1 s49),
  .p (.ex (h1 g45) 1) (i1 s50),
  .p (.ex (h1 g45) 2) (i1 s51),
  .p (.al 5 [(.sc (.int .u8 0)), (.sc (.int .i64 0)), (.sc (.int .i64 0)), (.sc (.bool false)), (.sc (.bool false))]) (i0 s17),
  .n (.st 5 (h0 g17) (h1 g49) (G3 4 14 8)),
  .p (.mv (h1 g50)) (i0 s18),
  .p (.mv (h1 g51)) (i0 s19)])
 (.seq (.reg [.p (.mv (h0 g3)) (i1 s53),
  .p (.call 15 [(h1 g53)] (G3 4 15 1)) (i1 s54),
  .p (.mv (h1 g54)) (i1 s52),
  .p (.ex (h1 g52) 0) (i1 s55),
  .p (.ex (h1 g52) 1) (i1 s56),
  .p (.mv (h1 g55)) (i0 s20),
  .p (.mv (h1 g56)) (i0 s21)])
 (.seq (.reg [.p (.mv (h0 g3)) (i1 s58),
  .p (.call 16 [(h1 g58)] (G3 4 16 1)) (i1 s59),
  .p (.mv (h1 g59)) (i1 s57),
  .p (.ex (h1 g57) 0) (i1 s60),
  .p (.ex (h1 g57) 1) (i1 s61),
  .p (.mv (h1 g60)) (i0 s22),
  .p (.mv (h1 g61)) (i0 s23)])
 (.seq (.reg [.p (.ld true 5 (h0 g14)) (i1 s62),
  .p (.ld true 5 (h0 g17)) (i1 s63),
  .p (.eqs .eql [(.mk 0 .int), (.mk 1 .int), (.mk 2 .int), (.mk 3 .bool), (.mk 4 .bool)] (h1 g62) (h1 g63) (G3 4 17 2)) (i2 s0),
  .p (.mv (h2 g0)) (i2 s1),
  .gp (h2 g1) true (.mv (h0 g15)) (i2 s2),
  .gp (h2 g1) true (.mv (h0 g18)) (i2 s3),
  .gp (h2 g1) true (.bin .eql (h2 g2) (h2 g3) (G3 4 17 6)) (i2 s4),
  .p (.pk (h2 g1) (h2 g4) (kc (.tc (.sc (.bool false))))) (i2 s5),
  .p (.mv (h2 g5)) (i2 s6),
  .gp (h2 g6) true (.mv (h0 g16)) (i2 s7),
  .gp (h2 g6) true (.mv (h0 g19)) (i2 s8),
  .gp (h2 g6) true (.bin .eql (h2 g7) (h2 g8) (G3 4 17 11)) (i2 s9),
  .p (.pk (h2 g6) (h2 g9) (kc (.tc (.sc (.bool false))))) (i2 s10),
  .p (.mv (h2 g10)) (i2 s11),
  .gp (h2 g11) true (.mv (h0 g20)) (i2 s12),
  .gp (h2 g11) true (.mv (h0 g22)) (i2 s13),
  .gp (h2 g11) true (.bin .eql (h2 g12) (h2 g13) (G3 4 17 16)) (i2 s14),
  .p (.pk (h2 g11) (h2 g14) (kc (.tc (.sc (.bool false))))) (i2 s15),
  .p (.mv (h2 g15)) (i2 s16),
  .gp (h2 g16) true (.mv (h0 g21)) (i2 s17),
  .gp (h2 g16) true (.mv (h0 g23)) (i2 s18),
  .gp (h2 g16) true (.bin .eql (h2 g17) (h2 g18) (G3 4 17 21)) (i2 s19),
  .p (.pk (h2 g16) (h2 g19) (kc (.tc (.sc (.bool false))))) (i2 s20),
  .p (.mv (h2 g20)) (i2 s21),
  .gp (h2 g21) true (.mv (h0 g2)) (i2 s22),
  .gp (h2 g21) true (.call 17 [(h2 g22)] (G3 4 17 25)) (i2 s23),
  .gp (h2 g21) true (.mv (h0 g2)) (i2 s24),
  .gp (h2 g21) true (.call 18 [(h2 g24)] (G3 4 17 27)) (i2 s25),
  .gp (h2 g21) true (.bin .eql (h2 g23) (h2 g25) (G3 4 17 28)) (i2 s26),
  .p (.pk (h2 g21) (h2 g26) (kc (.tc (.sc (.bool false))))) (i2 s27),
  .p (.mv (h2 g27)) (i2 s28),
  .gp (h2 g28) true (.call 11 [] (G3 4 17 31)) (i2 s29),
  .p (.pk (h2 g28) (h2 g29) (kc (.tc (.sc (.bool false))))) (i2 s30),
  .p (.mv (h2 g30)) (i0 s8)])
 .ret))))))))))),
 [.tmp (h0 g8)]⟩
theorem ffIsa4_ok : compF SBase 4 = ffIsa4 := by kernel_rfl
noncomputable def ffIsa10 : FF := .t2 ⟨17,
 (.seq (.reg [.p (.al 5 [(.sc (.int .u8 0)), (.sc (.string ⟨#[]⟩)), (.sc (.int .u8 0)), (.sc (.int .u8 0)), (.sc (.slice none 0 0))]) s2,
  .p (.mv (kc (.tc (.sc (.bool false))))) s3])
 (.seq (.reg [.p (.mv g0) s7,
  .p (.call 32 [g7] (G2 10 1 1)) s8,
  .p (.mv g8) s6,
  .p (.ex g6 0) s9,
  .p (.ex g6 1) s10,
  .p (.al 5 [(.sc (.int .u8 0)), (.sc (.string ⟨#[]⟩)), (.sc (.int .u8 0)), (.sc (.int .u8 0)), (.sc (.slice none 0 0))]) s4,
  .n (.st 5 g4 g9 (G2 10 1 6)),
  .p (.mv g10) s5])
 (.seq (.reg [.p (.fa 4 g4) s11,
  .p (.ld false 1 g11) s12,
  .p (.call 33 [g12] (G2 10 2 2)) s13,
  .p (.fa 4 g4) s14,
  .n (.st 1 g14 g13 (G2 10 2 4))])
 (.seq (.reg [.p (.ld true 5 g4) s15,
  .p (.mv g5) s16,
  .n (.st 5 g2 g15 (G2 10 3 2)),
  .p (.mv g16) s3])
 .ret)))),
 [.cell g2 true 5, .tmp g3]⟩
theorem ffIsa10_ok : compF SBase 10 = ffIsa10 := by kernel_rfl
noncomputable def ffIsa32 : FF := .t2 ⟨21,
 (.seq (.reg [.p (.al 5 [(.sc (.int .u8 0)), (.sc (.string ⟨#[]⟩)), (.sc (.int .u8 0)), (.sc (.int .u8 0)), (.sc (.slice none 0 0))]) s2,
  .p (.mv (kc (.tc (.sc (.bool false))))) s3])
 (.seq (.reg [.p (.call 37 [] (G2 32 1 0)) s5,
  .p (.mv g5) s4])
 (.seq (.seq (.reg [.p (.mv g0) s6,
  .p (.bin .lss g6 (kc (.tc (.sc (.int .u8 1)))) (G2 32 2 1)) s7,
  .p (.mv g7) s8,
  .gp g8 false (.mv g0) s9,
  .gp g8 false (.cv .i64 g9 (G2 32 2 4)) s10,
  .gp g8 false (.mv g4) s11,
  .gp g8 false (.len g11 (G2 32 2 6)) s12,
  .gp g8 false (.bin .gtr g10 g12 (G2 32 2 7)) s13,
  .p (.pk g8 (kc (.tc (.sc (.bool true)))) g13) s14])
 (.cond g14 (.seq (.reg [.p (.bd [(.tc (.sc (.int .u8 0))), (.tc (.sc (.string ⟨#[]⟩))), (.tc (.sc (.int .u8 0))), (.tc (.sc (.int .u8 0))), (.tc (.sc (.slice none 0 0)))] [] (G2 32 3 0)) s15,
  .n (.st 5 g2 g15 (G2 32 3 1)),
  .p (.mv (kc (.tc (.sc (.bool false))))) s3])
 .ret)
 .skip))
 (.seq (.reg [.p (.mv g4) s16,
  .p (.mv g0) s17,
  .p (.bin .sub g17 (kc (.tc (.sc (.int .u8 1)))) (G2 32 4 2)) s18,
  .p (.ia 5 g16 g18 (G2 32 4 3)) s19,
  .p (.ld true 5 g19) s20,
  .n (.st 5 g2 g20 (G2 32 4 5)),
  .p (.mv (kc (.tc (.sc (.bool true))))) s3])
 .ret)))),
 [.cell g2 true 5, .tmp g3]⟩
theorem ffIsa32_ok : compF SBase 32 = ffIsa32 := by kernel_rfl
noncomputable def ffIsa37 : FF := .t3 ⟨158,
 (.seq (.reg [.p (.mv (kc (.tc (.sc (.slice none 0 0))))) (i0 s0)])
 (.seq (.reg [.p (.call 44 [(kc (.tc (.sc (.int .u8 1)))), (kc (.tc (.sc (.string ⟨#[110, 111, 112]⟩)))), (kc (.tc (.sc (.int .u8 1)))), (kc (.tc (.sc (.slice none 0 0))))] (G3 37 1 0)) (i0 s1),
  .p (.call 45 [] (G3 37 1 1)) (i0 s2),
  .p (.call 46 [] (G3 37 1 2)) (i0 s3),
  .p (.call 47 [] (G3 37 1 3)) (i0 s4),
  .p (.call 48 [] (G3 37 1 4)) (i0 s5),
  .p (.bs 1 4 [[(.tc (.sc (.slice none 0 0)))], [(.tc (.sc (.slice none 0 0)))], [(.tc (.sc (.slice none 0 0)))], [(.tc (.sc (.slice none 0 0)))]] [(.mk 0 1 (h0 g2)), (.mk 1 1 (h0 g3)), (.mk 2 1 (h0 g4)), (.mk 3 1 (h0 g5))] (G3 37 1 5)) (i0 s6),
  .p (.call 44 [(kc (.tc (.sc (.int .u8 2)))), (kc (.tc (.sc (.string ⟨#[97, 100, 100]⟩)))), (kc (.tc (.sc (.int .u8 1)))), (h0 g6)] (G3 37 1 6)) (i0 s7),
  .p (.call 45 [] (G3 37 1 7)) (i0 s8),
  .p (.call 46 [] (G3 37 1 8)) (i0 s9),
  .p (.call 47 [] (G3 37 1 9)) (i0 s10),
  .p (.call 48 [] (G3 37 1 10)) (i0 s11),
  .p (.bs 1 4 [[(.tc (.sc (.slice none 0 0)))], [(.tc (.sc (.slice none 0 0)))], [(.tc (.sc (.slice none 0 0)))], [(.tc (.sc (.slice none 0 0)))]] [(.mk 0 1 (h0 g8)), (.mk 1 1 (h0 g9)), (.mk 2 1 (h0 g10)), (.mk 3 1 (h0 g11))] (G3 37 1 11)) (i0 s12),
  .p (.call 44 [(kc (.tc (.sc (.int .u8 3)))), (kc (.tc (.sc (.string ⟨#[115, 117, 98]⟩)))), (kc (.tc (.sc (.int .u8 1)))), (h0 g12)] (G3 37 1 12)) (i0 s13),
  .p (.call 45 [] (G3 37 1 13)) (i0 s14),
  .p (.call 46 [] (G3 37 1 14)) (i0 s15),
  .p (.call 47 [] (G3 37 1 15)) (i0 s16),
  .p (.call 48 [] (G3 37 1 16)) (i0 s17),
  .p (.bs 1 4 [[(.tc (.sc (.slice none 0 0)))], [(.tc (.sc (.slice none 0 0)))], [(.tc (.sc (.slice none 0 0)))], [(.tc (.sc (.slice none 0 0)))]] [(.mk 0 1 (h0 g14)), (.mk 1 1 (h0 g15)), (.mk 2 1 (h0 g16)), (.mk 3 1 (h0 g17))] (G3 37 1 17)) (i0 s18),
  .p (.call 44 [(kc (.tc (.sc (.int .u8 4)))), (kc (.tc (.sc (.string ⟨#[97, 110, 100]⟩)))), (kc (.tc (.sc (.int .u8 1)))), (h0 g18)] (G3 37 1 18)) (i0 s19),
  .p (.call 45 [] (G3 37 1 19)) (i0 s20),
  .p (.call 46 [] (G3 37 1 20)) (i0 s21),
  .p (.call 47 [] (G3 37 1 21)) (i0 s22),
  .p (.call 48 [] (G3 37 1 22)) (i0 s23),
  .p (.bs 1 4 [[(.tc (.sc (.slice none 0 0)))], [(.tc (.sc (.slice none 0 0)))], [(.tc (.sc (.slice none 0 0)))], [(.tc (.sc (.slice none 0 0)))]] [(.mk 0 1 (h0 g20)), (.mk 1 1 (h0 g21)), (.mk 2 1 (h0 g22)), (.mk 3 1 (h0 g23))] (G3 37 1 23)) (i0 s24),
  .p (.call 44 [(kc (.tc (.sc (.int .u8 5)))), (kc (.tc (.sc (.string ⟨#[111, 114]⟩)))), (kc (.tc (.sc (.int .u8 1)))), (h0 g24)] (G3 37 1 24)) (i0 s25),
  .p (.call 45 [] (G3 37 1 25)) (i0 s26),
  .p (.call 46 [] (G3 37 1 26)) (i0 s27),
  .p (.call 47 [] (G3 37 1 27)) (i0 s28),
  .p (.call 48 [] (G3 37 1 28)) (i0 s29),
  .p (.bs 1 4 [[(.tc (.sc (.slice none 0 0)))], [(.tc (.sc (.slice none 0 0)))], [(.tc (.sc (.slice none 0 0)))], [(.tc (.sc (.slice none 0 0)))]] [(.mk 0 1 (h0 g26)), (.mk 1 1 (h0 g27)), (.mk 2 1 (h0 g28)), (.mk 3 1 (h0 g29))] (G3 37 1 29)) (i0 s30),
  .p (.call 44 [(kc (.tc (.sc (.int .u8 6)))), (kc (.tc (.sc (.string ⟨#[120, 111, 114]⟩)))), (kc (.tc (.sc (.int .u8 1)))), (h0 g30)] (G3 37 1 30)) (i0 s31),
  .p (.call 46 [] (G3 37 1 31)) (i0 s32),
  .p (.call 47 [] (G3 37 1 32)) (i0 s33),
  .p (.call 49 [(kc (.tc (.sc (.int .i64 14)))), (kc (.tc (.sc (.int .i64 0))))] (G3 37 1 33)) (i0 s34),
  .p (.bs 1 3 [[(.tc (.sc (.slice none 0 0)))], [(.tc (.sc (.slice none 0 0)))], [(.tc (.sc (.slice none 0 0)))]] [(.mk 0 1 (h0 g32)), (.mk 1 1 (h0 g33)), (.mk 2 1 (h0 g34))] (G3 37 1 34)) (i0 s35),
  .p (.call 44 [(kc (.tc (.sc (.int .u8 7)))), (kc (.tc (.sc (.string ⟨#[97, 100, 100, 105]⟩)))), (kc (.tc (.sc (.int .u8 1)))), (h0 g35)] (G3 37 1 35)) (i0 s36),
  .p (.call 45 [] (G3 37 1 36)) (i0 s37),
  .p (.call 46 [] (G3 37 1 37)) (i0 s38),
  .p (.call 49 [(kc (.tc (.sc (.int .i64 14)))), (kc (.tc (.sc (.int .i64 0))))] (G3 37 1 38)) (i0 s39),
  .p (.bs 1 3 [[(.tc (.sc (.slice none 0 0)))], [(.tc (.sc (.slice none 0 0)))], [(.tc (.sc (.slice none 0 0)))]] [(.mk 0 1 (h0 g37)), (.mk 1 1 (h0 g38)), (.mk 2 1 (h0 g39))] (G3 37 1 39)) (i0 s40),
  .p (.call 44 [(kc (.tc (.sc (.int .u8 8)))), (kc (.tc (.sc (.string ⟨#[109, 111, 118, 105]⟩)))), (kc (.tc (.sc (.int .u8 1)))), (h0 g40)] (G3 37 1 40)) (i0 s41),
  .p (.call 45 [] (G3 37 1 41)) (i0 s42),
  .p (.call 46 [] (G3 37 1 42)) (i0 s43),
  .p (.call 47 [] (G3 37 1 43)) (i0 s44),
  .p (.bs 1 3 [[(.tc (.sc (.slice none 0 0)))], [(.tc (.sc (.slice none 0 0)))], [(.tc (.sc (.slice none 0 0)))]] [(.mk 0 1 (h0 g42)), (.mk 1 1 (h0 g43)), (.mk 2 1 (h0 g44))] (G3 37 1 44)) (i0 s45),
  .p (.call 44 [(kc (.tc (.sc (.int .u8 9)))), (kc (.tc (.sc (.string ⟨#[109, 111, 118]⟩)))), (kc (.tc (.sc (.int .u8 1)))), (h0 g45)] (G3 37 1 45)) (i0 s46),
  .p (.call 50 [] (G3 37 1 46)) (i0 s47),
  .p (.call 47 [] (G3 37 1 47)) (i0 s48),
  .p (.call 48 [] (G3 37 1 48)) (i0 s49),
  .p (.bs 1 3 [[(.tc (.sc (.slice none 0 0)))], [(.tc (.sc (.slice none 0 0)))], [(.tc (.sc (.slice none 0 0)))]] [(.mk 0 1 (h0 g47)), (.mk 1 1 (h0 g48)), (.mk 2 1 (h0 g49))] (G3 37 1 49)) (i0 s50),
  .p (.call 44 [(kc (.tc (.sc (.int .u8 10)))), (kc (.tc (.sc (.string ⟨#[99, 109, 112, 101, 113]⟩)))), (kc (.tc (.sc (.int .u8 1)))), (h0 g50)] (G3 37 1 50)) (i0 s51),
  .p (.call 50 [] (G3 37 1 51)) (i0 s52),
  .p (.call 47 [] (G3 37 1 52)) (i0 s53),
  .p (.call 48 [] (G3 37 1 53)) (i0 s54),
  .p (.bs 1 3 [[(.tc (.sc (.slice none 0 0)))], [(.tc (.sc (.slice none 0 0)))], [(.tc (.sc (.slice none 0 0)))]] [(.mk 0 1 (h0 g52)), (.mk 1 1 (h0 g53)), (.mk 2 1 (h0 g54))] (G3 37 1 54)) (i0 s55),
  .p (.call 44 [(kc (.tc (.sc (.int .u8 11)))), (kc (.tc (.sc (.string ⟨#[99, 109, 112, 103, 116]⟩)))), (kc (.tc (.sc (.int .u8 1)))), (h0 g55)] (G3 37 1 55)) (i0 s56),
  .p (.call 50 [] (G3 37 1 56)) (i0 s57),
  .p (.call 47 [] (G3 37 1 57)) (i0 s58),
  .p (.call 48 [] (G3 37 1 58)) (i0 s59),
  .p (.bs 1 3 [[(.tc (.sc (.slice none 0 0)))], [(.tc (.sc (.slice none 0 0)))], [(.tc (.sc (.slice none 0 0)))]] [(.mk 0 1 (h0 g57)), (.mk 1 1 (h0 g58)), (.mk 2 1 (h0 g59))] (G3 37 1 59)) (i0 s60),
  .p (.call 44 [(kc (.tc (.sc (.int .u8 12)))), (kc (.tc (.sc (.string ⟨#[99, 109, 112, 103, 116, 117]⟩)))), (kc (.tc (.sc (.int .u8 1)))), (h0 g60)] (G3 37 1 60)) (i0 s61),
  .p (.call 50 [] (G3 37 1 61)) (i0 s62),
  .p (.call 47 [] (G3 37 1 62)) (i0 s63),
  .p (.call 49 [(kc (.tc (.sc (.int .i64 14)))), (kc (.tc (.sc (.int .i64 0))))] (G3 37 1 63)) (i1 s0),
  .p (.bs 1 3 [[(.tc (.sc (.slice none 0 0)))], [(.tc (.sc (.slice none 0 0)))], [(.tc (.sc (.slice none 0 0)))]] [(.mk 0 1 (h0 g62)), (.mk 1 1 (h0 g63)), (.mk 2 1 (h1 g0))] (G3 37 1 64)) (i1 s1),
  .p (.call 44 [(kc (.tc (.sc (.int .u8 13)))), (kc (.tc (.sc (.string ⟨#[99, 109, 112, 101, 113, 105]⟩)))), (kc (.tc (.sc (.int .u8 1)))), (h1 g1)] (G3 37 1 65)) (i1 s2),
  .p (.call 46 [] (G3 37 1 66)) (i1 s3),
  .p (.call 51 [(kc (.tc (.sc (.int .u8 2)))), (kc (.tc (.sc (.int .i64 2))))] (G3 37 1 67)) (i1 s4),
  .p (.call 47 [] (G3 37 1 68)) (i1 s5),
  .p (.call 48 [] (G3 37 1 69)) (i1 s6),
  .p (.bs 1 4 [[(.tc (.sc (.slice none 0 0)))], [(.tc (.sc (.slice none 0 0)))], [(.tc (.sc (.slice none 0 0)))], [(.tc (.sc (.slice none 0 0)))]] [(.mk 0 1 (h1 g3)), (.mk 1 1 (h1 g4)), (.mk 2 1 (h1 g5)), (.mk 3 1 (h1 g6))] (G3 37 1 70)) (i1 s7),
  .p (.call 44 [(kc (.tc (.sc (.int .u8 14)))), (kc (.tc (.sc (.string ⟨#[109, 117, 120]⟩)))), (kc (.tc (.sc (.int .u8 1)))), (h1 g7)] (G3 37 1 71)) (i1 s8),
  .p (.call 46 [] (G3 37 1 72)) (i1 s9),
  .p (.call 47 [] (G3 37 1 73)) (i1 s10),
  .p (.call 51 [(kc (.tc (.sc (.int .u8 9)))), (kc (.tc (.sc (.int .i64 5))))] (G3 37 1 74)) (i1 s11),
  .p (.bs 1 3 [[(.tc (.sc (.slice none 0 0)))], [(.tc (.sc (.slice none 0 0)))], [(.tc (.sc (.slice none 0 0)))]] [(.mk 0 1 (h1 g9)), (.mk 1 1 (h1 g10)), (.mk 2 1 (h1 g11))] (G3 37 1 75)) (i1 s12),
  .p (.call 44 [(kc (.tc (.sc (.int .u8 15)))), (kc (.tc (.sc (.string ⟨#[97, 115, 108]⟩)))), (kc (.tc (.sc (.int .u8 2)))), (h1 g12)] (G3 37 1 76)) (i1 s13),
  .p (.call 46 [] (G3 37 1 77)) (i1 s14),
  .p (.call 47 [] (G3 37 1 78)) (i1 s15),
  .p (.call 51 [(kc (.tc (.sc (.int .u8 9)))), (kc (.tc (.sc (.int .i64 5))))] (G3 37 1 79)) (i1 s16),
  .p (.bs 1 3 [[(.tc (.sc (.slice none 0 0)))], [(.tc (.sc (.slice none 0 0)))], [(.tc (.sc (.slice none 0 0)))]] [(.mk 0 1 (h1 g14)), (.mk 1 1 (h1 g15)), (.mk 2 1 (h1 g16))] (G3 37 1 80)) (i1 s17),
  .p (.call 44 [(kc (.tc (.sc (.int .u8 16)))), (kc (.tc (.sc (.string ⟨#[108, 115, 114]⟩)))), (kc (.tc (.sc (.int .u8 2)))), (h1 g17)] (G3 37 1 81)) (i1 s18),
  .p (.call 46 [] (G3 37 1 82)) (i1 s19),
  .p (.call 47 [] (G3 37 1 83)) (i1 s20),
  .p (.call 51 [(kc (.tc (.sc (.int .u8 9)))), (kc (.tc (.sc (.int .i64 5))))] (G3 37 1 84)) (i1 s21),
  .p (.bs 1 3 [[(.tc (.sc (.slice none 0 0)))], [(.tc (.sc (.slice none 0 0)))], [(.tc (.sc (.slice none 0 0)))]] [(.mk 0 1 (h1 g19)), (.mk 1 1 (h1 g20)), (.mk 2 1 (h1 g21))] (G3 37 1 85)) (i1 s22),
  .p (.call 44 [(kc (.tc (.sc (.int .u8 17)))), (kc (.tc (.sc (.string ⟨#[97, 115, 114]⟩)))), (kc (.tc (.sc (.int .u8 2)))), (h1 g22)] (G3 37 1 86)) (i1 s23),
  .p (.call 46 [] (G3 37 1 87)) (i1 s24),
  .p (.call 47 [] (G3 37 1 88)) (i1 s25),
  .p (.call 48 [] (G3 37 1 89)) (i1 s26),
  .p (.bs 1 3 [[(.tc (.sc (.slice none 0 0)))], [(.tc (.sc (.slice none 0 0)))], [(.tc (.sc (.slice none 0 0)))]] [(.mk 0 1 (h1 g24)), (.mk 1 1 (h1 g25)), (.mk 2 1 (h1 g26))] (G3 37 1 90)) (i1 s27),
  .p (.call 44 [(kc (.tc (.sc (.int .u8 18)))), (kc (.tc (.sc (.string ⟨#[109, 112, 121]⟩)))), (kc (.tc (.sc (.int .u8 2)))), (h1 g27)] (G3 37 1 91)) (i1 s28),
  .p (.call 46 [] (G3 37 1 92)) (i1 s29),
  .p (.call 47 [] (G3 37 1 93)) (i1 s30),
  .p (.call 48 [] (G3 37 1 94)) (i1 s31),
  .p (.bs 1 3 [[(.tc (.sc (.slice none 0 0)))], [(.tc (.sc (.slice none 0 0)))], [(.tc (.sc (.slice none 0 0)))]] [(.mk 0 1 (h1 g29)), (.mk 1 1 (h1 g30)), (.mk 2 1 (h1 g31))] (G3 37 1 95)) (i1 s32),
  .p (.call 44 [(kc (.tc (.sc (.int .u8 19)))), (kc (.tc (.sc (.string ⟨#[99, 109, 112, 121]⟩)))), (kc (.tc (.sc (.int .u8 2)))), (h1 g32)] (G3 37 1 96)) (i1 s33),
  .p (.call 46 [] (G3 37 1 97)) (i1 s34),
  .p (.call 47 [] (G3 37 1 98)) (i1 s35),
  .p (.call 48 [] (G3 37 1 99)) (i1 s36),
  .p (.bs 1 3 [[(.tc (.sc (.slice none 0 0)))], [(.tc (.sc (.slice none 0 0)))], [(.tc (.sc (.slice none 0 0)))]] [(.mk 0 1 (h1 g34)), (.mk 1 1 (h1 g35)), (.mk 2 1 (h1 g36))] (G3 37 1 100)) (i1 s37),
  .p (.call 44 [(kc (.tc (.sc (.int .u8 20)))), (kc (.tc (.sc (.string ⟨#[99, 109, 112, 121, 99]⟩)))), (kc (.tc (.sc (.int .u8 2)))), (h1 g37)] (G3 37 1 101)) (i1 s38),
  .p (.call 46 [] (G3 37 1 102)) (i1 s39),
  .p (.call 47 [] (G3 37 1 103)) (i1 s40),
  .p (.call 49 [(kc (.tc (.sc (.int .i64 12)))), (kc (.tc (.sc (.int .i64 2))))] (G3 37 1 104)) (i1 s41),
  .p (.bs 1 3 [[(.tc (.sc (.slice none 0 0)))], [(.tc (.sc (.slice none 0 0)))], [(.tc (.sc (.slice none 0 0)))]] [(.mk 0 1 (h1 g39)), (.mk 1 1 (h1 g40)), (.mk 2 1 (h1 g41))] (G3 37 1 105)) (i1 s42),
  .p (.call 44 [(kc (.tc (.sc (.int .u8 21)))), (kc (.tc (.sc (.string ⟨#[108, 100, 119]⟩)))), (kc (.tc (.sc (.int .u8 3)))), (h1 g42)] (G3 37 1 106)) (i1 s43),
  .p (.call 46 [] (G3 37 1 107)) (i1 s44),
  .p (.call 47 [] (G3 37 1 108)) (i1 s45),
  .p (.call 49 [(kc (.tc (.sc (.int .i64 12)))), (kc (.tc (.sc (.int .i64 1))))] (G3 37 1 109)) (i1 s46),
  .p (.bs 1 3 [[(.tc (.sc (.slice none 0 0)))], [(.tc (.sc (.slice none 0 0)))], [(.tc (.sc (.slice none 0 0)))]] [(.mk 0 1 (h1 g44)), (.mk 1 1 (h1 g45)), (.mk 2 1 (h1 g46))] (G3 37 1 110)) (i1 s47),
  .p (.call 44 [(kc (.tc (.sc (.int .u8 22)))), (kc (.tc (.sc (.string ⟨#[108, 100, 104]⟩)))), (kc (.tc (.sc (.int .u8 3)))), (h1 g47)] (G3 37 1 111)) (i1 s48),
  .p (.call 46 [] (G3 37 1 112)) (i1 s49),
  .p (.call 47 [] (G3 37 1 113)) (i1 s50),
  .p (.call 49 [(kc (.tc (.sc (.int .i64 12)))), (kc (.tc (.sc (.int .i64 0))))] (G3 37 1 114)) (i1 s51),
  .p (.bs 1 3 [[(.tc (.sc (.slice none 0 0)))], [(.tc (.sc (.slice none 0 0)))], [(.tc (.sc (.slice none 0 0)))]] [(.mk 0 1 (h1 g49)), (.mk 1 1 (h1 g50)), (.mk 2 1 (h1 g51))] (G3 37 1 115)) (i1 s52),
  .p (.call 44 [(kc (.tc (.sc (.int .u8 23)))), (kc (.tc (.sc (.string ⟨#[108, 100, 98]⟩)))), (kc (.tc (.sc (.int .u8 3)))), (h1 g52)] (G3 37 1 116)) (i1 s53),
  .p (.call 47 [] (G3 37 1 117)) (i1 s54),
  .p (.call 51 [(kc (.tc (.sc (.int .u8 8)))), (kc (.tc (.sc (.int .i64 1))))] (G3 37 1 118)) (i1 s55),
  .p (.call 48 [] (G3 37 1 119)) (i1 s56),
  .p (.call 49 [(kc (.tc (.sc (.int .i64 12)))), (kc (.tc (.sc (.int .i64 2))))] (G3 37 1 120)) (i1 s57),
  .p (.bs 1 4 [[(.tc (.sc (.slice none 0 0)))], [(.tc (.sc (.slice none 0 0)))], [(.tc (.sc (.slice none 0 0)))], [(.tc (.sc (.slice none 0 0)))]] [(.mk 0 1 (h1 g54)), (.mk 1 1 (h1 g55)), (.mk 2 1 (h1 g56)), (.mk 3 1 (h1 g57))] (G3 37 1 121)) (i1 s58),
  .p (.call 44 [(kc (.tc (.sc (.int .u8 24)))), (kc (.tc (.sc (.string ⟨#[115, 116, 119]⟩)))), (kc (.tc (.sc (.int .u8 4)))), (h1 g58)] (G3 37 1 122)) (i1 s59),
  .p (.call 47 [] (G3 37 1 123)) (i1 s60),
  .p (.call 51 [(kc (.tc (.sc (.int .u8 8)))), (kc (.tc (.sc (.int .i64 1))))] (G3 37 1 124)) (i1 s61),
  .p (.call 48 [] (G3 37 1 125)) (i1 s62),
  .p (.call 49 [(kc (.tc (.sc (.int .i64 12)))), (kc (.tc (.sc (.int .i64 1))))] (G3 37 1 126)) (i1 s63),
  .p (.bs 1 4 [[(.tc (.sc (.slice none 0 0)))], [(.tc (.sc (.slice none 0 0)))], [(.tc (.sc (.slice none 0 0)))], [(.tc (.sc (.slice none 0 0)))]] [(.mk 0 1 (h1 g60)), (.mk 1 1 (h1 g61)), (.mk 2 1 (h1 g62)), (.mk 3 1 (h1 g63))] (G3 37 1 127)) (i2 s0),
  .p (.call 44 [(kc (.tc (.sc (.int .u8 25)))), (kc (.tc (.sc (.string ⟨#[115, 116, 104]⟩)))), (kc (.tc (.sc (.int .u8 4)))), (h2 g0)] (G3 37 1 128)) (i2 s1),
  .p (.call 47 [] (G3 37 1 129)) (i2 s2),
  .p (.call 51 [(kc (.tc (.sc (.int .u8 8)))), (kc (.tc (.sc (.int .i64 1))))] (G3 37 1 130)) (i2 s3),
  .p (.call 48 [] (G3 37 1 131)) (i2 s4),
  .p (.call 49 [(kc (.tc (.sc (.int .i64 12)))), (kc (.tc (.sc (.int .i64 0))))] (G3 37 1 132)) (i2 s5),
  .p (.bs 1 4 [[(.tc (.sc (.slice none 0 0)))], [(.tc (.sc (.slice none 0 0)))], [(.tc (.sc (.slice none 0 0)))], [(.tc (.sc (.slice none 0 0)))]] [(.mk 0 1 (h2 g2)), (.mk 1 1 (h2 g3)), (.mk 2 1 (h2 g4)), (.mk 3 1 (h2 g5))] (G3 37 1 133)) (i2 s6),
  .p (.call 44 [(kc (.tc (.sc (.int .u8 26)))), (kc (.tc (.sc (.string ⟨#[115, 116, 98]⟩)))), (kc (.tc (.sc (.int .u8 4)))), (h2 g6)] (G3 37 1 134)) (i2 s7),
  .p (.call 45 [] (G3 37 1 135)) (i2 s8),
  .p (.call 52 [(kc (.tc (.sc (.int .i64 19))))] (G3 37 1 136)) (i2 s9),
  .p (.bs 1 2 [[(.tc (.sc (.slice none 0 0)))], [(.tc (.sc (.slice none 0 0)))]] [(.mk 0 1 (h2 g8)), (.mk 1 1 (h2 g9))] (G3 37 1 137)) (i2 s10),
  .p (.call 44 [(kc (.tc (.sc (.int .u8 27)))), (kc (.tc (.sc (.string ⟨#[106, 117, 109, 112]⟩)))), (kc (.tc (.sc (.int .u8 5)))), (h2 g10)] (G3 37 1 138)) (i2 s11),
  .p (.call 45 [] (G3 37 1 139)) (i2 s12),
  .p (.call 47 [] (G3 37 1 140)) (i2 s13),
  .p (.bs 1 2 [[(.tc (.sc (.slice none 0 0)))], [(.tc (.sc (.slice none 0 0)))]] [(.mk 0 1 (h2 g12)), (.mk 1 1 (h2 g13))] (G3 37 1 141)) (i2 s14),
  .p (.call 44 [(kc (.tc (.sc (.int .u8 28)))), (kc (.tc (.sc (.string ⟨#[106, 117, 109, 112, 114]⟩)))), (kc (.tc (.sc (.int .u8 5)))), (h2 g14)] (G3 37 1 142)) (i2 s15),
  .p (.call 52 [(kc (.tc (.sc (.int .i64 24))))] (G3 37 1 143)) (i2 s16),
  .p (.bs 1 1 [[(.tc (.sc (.slice none 0 0)))]] [(.mk 0 1 (h2 g16))] (G3 37 1 144)) (i2 s17),
  .p (.call 44 [(kc (.tc (.sc (.int .u8 29)))), (kc (.tc (.sc (.string ⟨#[99, 97, 108, 108]⟩)))), (kc (.tc (.sc (.int .u8 5)))), (h2 g17)] (G3 37 1 145)) (i2 s18),
  .p (.call 51 [(kc (.tc (.sc (.int .u8 7)))), (kc (.tc (.sc (.int .i64 1))))] (G3 37 1 146)) (i2 s19),
  .p (.call 52 [(kc (.tc (.sc (.int .i64 12))))] (G3 37 1 147)) (i2 s20),
  .p (.call 51 [(kc (.tc (.sc (.int .u8 11)))), (kc (.tc (.sc (.int .i64 11))))] (G3 37 1 148)) (i2 s21),
  .p (.bs 1 3 [[(.tc (.sc (.slice none 0 0)))], [(.tc (.sc (.slice none 0 0)))], [(.tc (.sc (.slice none 0 0)))]] [(.mk 0 1 (h2 g19)), (.mk 1 1 (h2 g20)), (.mk 2 1 (h2 g21))] (G3 37 1 149)) (i2 s22),
  .p (.call 44 [(kc (.tc (.sc (.int .u8 30)))), (kc (.tc (.sc (.string ⟨#[108, 111, 111, 112, 105]⟩)))), (kc (.tc (.sc (.int .u8 6)))), (h2 g22)] (G3 37 1 150)) (i2 s23),
  .p (.call 51 [(kc (.tc (.sc (.int .u8 7)))), (kc (.tc (.sc (.int .i64 1))))] (G3 37 1 151)) (i2 s24),
  .p (.call 52 [(kc (.tc (.sc (.int .i64 12))))] (G3 37 1 152)) (i2 s25),
  .p (.call 47 [] (G3 37 1 153)) (i2 s26),
  .p (.bs 1 3 [[(.tc (.sc (.slice none 0 0)))], [(.tc (.sc (.slice none 0 0)))], [(.tc (.sc (.slice none 0 0)))]] [(.mk 0 1 (h2 g24)), (.mk 1 1 (h2 g25)), (.mk 2 1 (h2 g26))] (G3 37 1 154)) (i2 s27),
  .p (.call 44 [(kc (.tc (.sc (.int .u8 31)))), (kc (.tc (.sc (.string ⟨#[108, 111, 111, 112, 114]⟩)))), (kc (.tc (.sc (.int .u8 6)))), (h2 g27)] (G3 37 1 155)) (i2 s28),
  .p (.bs 5 31 [[(.tc (.sc (.int .u8 0))), (.tc (.sc (.string ⟨#[]⟩))), (.tc (.sc (.int .u8 0))), (.tc (.sc (.int .u8 0))), (.tc (.sc (.slice none 0 0)))], [(.tc (.sc (.int .u8 0))), (.tc (.sc (.string ⟨#[]⟩))), (.tc (.sc (.int .u8 0))), (.tc (.sc (.int .u8 0))), (.tc (.sc (.slice none 0 0)))], [(.tc (.sc (.int .u8 0))), (.tc (.sc (.string ⟨#[]⟩))), (.tc (.sc (.int .u8 0))), (.tc (.sc (.int .u8 0))), (.tc (.sc (.slice none 0 0)))], [(.tc (.sc (.int .u8 0))), (.tc (.sc (.string ⟨#[]⟩))), (.tc (.sc (.int .u8 0))), (.tc (.sc (.int .u8 0))), (.tc (.sc (.slice none 0 0)))], [(.tc (.sc (.int .u8 0))), (.tc (.sc (.string ⟨#[]⟩))), (.tc (.sc (.int .u8 0))), (.tc (.sc (.int .u8 0))), (.tc (.sc (.slice none 0 0)))], [(.tc (.sc (.int .u8 0))), (.tc (.sc (.string ⟨#[]⟩))), (.tc (.sc (.int .u8 0))), (.tc (.sc (.int .u8 0))), (.tc (.sc (.slice none 0 0)))], [(.tc (.sc (.int .u8 0))), (.tc (.sc (.string ⟨#[]⟩))), (.tc (.sc (.int .u8 0))), (.tc (.sc (.int .u8 0))), (.tc (.sc (.slice none 0 0)))], [(.tc (.sc (.int .u8 0))), (.tc (.sc (.string ⟨#[]⟩))), (.tc (.sc (.int .u8 0))), (.tc (.sc (.int .u8 0))), (.tc (.sc (.slice none 0 0)))], [(.tc (.sc (.int .u8 0))), (.tc (.sc (.string ⟨#[]⟩))), (.tc (.sc (.int .u8 0))), (.tc (.sc (.int .u8 0))), (.tc (.sc (.slice none 0 0)))], [(.tc (.sc (.int .u8 0))), (.tc (.sc (.string ⟨#[]⟩))), (.tc (.sc (.int .u8 0))), (.tc (.sc (.int .u8 0))), (.tc (.sc (.slice none 0 0)))], [(.tc (.sc (.int .u8 0))), (.tc (.sc (.string ⟨#[]⟩))), (.tc (.sc (.int .u8 0))), (.tc (.sc (.int .u8 0))), (.tc (.sc (.slice none 0 0)))], [(.tc (.sc (.int .u8 0))), (.tc (.sc (.string ⟨#[]⟩))), (.tc (.sc (.int .u8 0))), (.tc (.sc (.int .u8 0))), (.tc (.sc (.slice none 0 0)))], [(.tc (.sc (.int .u8 0))), (.tc (.sc (.string ⟨#[]⟩))), (.tc (.sc (.int .u8 0))), (.tc (.sc (.int .u8 0))), (.tc (.sc (.slice none 0 0)))], [(.tc (.sc (.int .u8 0))), (.tc (.sc (.string ⟨#[]⟩))), (.tc (.sc (.int .u8 0))), (.tc (.sc (.int .u8 0))), (.tc (.sc (.slice none 0 0)))], [(.tc (.sc (.int .u8 0))), (.tc (.sc (.string ⟨#[]⟩))), (.tc (.sc (.int .u8 0))), (.tc (.sc (.int .u8 0))), (.tc (.sc (.slice none 0 0)))], [(.tc (.sc (.int .u8 0))), (.tc (.sc (.string ⟨#[]⟩))), (.tc (.sc (.int .u8 0))), (.tc (.sc (.int .u8 0))), (.tc (.sc (.slice none 0 0)))], [(.tc (.sc (.int .u8 0))), (.tc (.sc (.string ⟨#[]⟩))), (.tc (.sc (.int .u8 0))), (.tc (.sc (.int .u8 0))), (.tc (.sc (.slice none 0 0)))], [(.tc (.sc (.int .u8 0))), (.tc (.sc (.string ⟨#[]⟩))), (.tc (.sc (.int .u8 0))), (.tc (.sc (.int .u8 0))), (.tc (.sc (.slice none 0 0)))], [(.tc (.sc (.int .u8 0))), (.tc (.sc (.string ⟨#[]⟩))), (.tc (.sc (.int .u8 0))), (.tc (.sc (.int .u8 0))), (.tc (.sc (.slice none 0 0)))], [(.tc (.sc (.int .u8 0))), (.tc (.sc (.string ⟨#[]⟩))), (.tc (.sc (.int .u8 0))), (.tc (.sc (.int .u8 0))), (.tc (.sc (.slice none 0 0)))], [(.tc (.sc (.int .u8 0))), (.tc (.sc (.string ⟨#[]⟩))), (.tc (.sc (.int .u8 0))), (.tc (.sc (.int .u8 0))), (.tc (.sc (.slice none 0 0)))], [(.tc (.sc (.int .u8 0))), (.tc (.sc (.string ⟨#[]⟩))), (.tc (.sc (.int .u8 0))), (.tc (.sc (.int .u8 0))), (.tc (.sc (.slice none 0 0)))], [(.tc (.sc (.int .u8 0))), (.tc (.sc (.string ⟨#[]⟩))), (.tc (.sc (.int .u8 0))), (.tc (.sc (.int .u8 0))), (.tc (.sc (.slice none 0 0)))], [(.tc (.sc (.int .u8 0))), (.tc (.sc (.string ⟨#[]⟩))), (.tc (.sc (.int .u8 0))), (.tc (.sc (.int .u8 0))), (.tc (.sc (.slice none 0 0)))], [(.tc (.sc (.int .u8 0))), (.tc (.sc (.string ⟨#[]⟩))), (.tc (.sc (.int .u8 0))), (.tc (.sc (.int .u8 0))), (.tc (.sc (.slice none 0 0)))], [(.tc (.sc (.int .u8 0))), (.tc (.sc (.string ⟨#[]⟩))), (.tc (.sc (.int .u8 0))), (.tc (.sc (.int .u8 0))), (.tc (.sc (.slice none 0 0)))], [(.tc (.sc (.int .u8 0))), (.tc (.sc (.string ⟨#[]⟩))), (.tc (.sc (.int .u8 0))), (.tc (.sc (.int .u8 0))), (.tc (.sc (.slice none 0 0)))], [(.tc (.sc (.int .u8 0))), (.tc (.sc (.string ⟨#[]⟩))), (.tc (.sc (.int .u8 0))), (.tc (.sc (.int .u8 0))), (.tc (.sc (.slice none 0 0)))], [(.tc (.sc (.int .u8 0))), (.tc (.sc (.string ⟨#[]⟩))), (.tc (.sc (.int .u8 0))), (.tc (.sc (.int .u8 0))), (.tc (.sc (.slice none 0 0)))], [(.tc (.sc (.int .u8 0))), (.tc (.sc (.string ⟨#[]⟩))), (.tc (.sc (.int .u8 0))), (.tc (.sc (.int .u8 0))), (.tc (.sc (.slice none 0 0)))], [(.tc (.sc (.int .u8 0))), (.tc (.sc (.string ⟨#[]⟩))), (.tc (.sc (.int .u8 0))), (.tc (.sc (.int .u8 0))), (.tc (.sc (.slice none 0 0)))]] [(.mk 0 5 (h0 g1)), (.mk 1 5 (h0 g7)), (.mk 2 5 (h0 g13)), (.mk 3 5 (h0 g19)), (.mk 4 5 (h0 g25)), (.mk 5 5 (h0 g31)), (.mk 6 5 (h0 g36)), (.mk 7 5 (h0 g41)), (.mk 8 5 (h0 g46)), (.mk 9 5 (h0 g51)), (.mk 10 5 (h0 g56)), (.mk 11 5 (h0 g61)), (.mk 12 5 (h1 g2)), (.mk 13 5 (h1 g8)), (.mk 14 5 (h1 g13)), (.mk 15 5 (h1 g18)), (.mk 16 5 (h1 g23)), (.mk 17 5 (h1 g28)), (.mk 18 5 (h1 g33)), (.mk 19 5 (h1 g38)), (.mk 20 5 (h1 g43)), (.mk 21 5 (h1 g48)), (.mk 22 5 (h1 g53)), (.mk 23 5 (h1 g59)), (.mk 24 5 (h2 g1)), (.mk 25 5 (h2 g7)), (.mk 26 5 (h2 g11)), (.mk 27 5 (h2 g15)), (.mk 28 5 (h2 g18)), (.mk 29 5 (h2 g23)), (.mk 30 5 (h2 g28))] (G3 37 1 156)) (i2 s29),
  .p (.mv (h2 g29)) (i0 s0)])
 .ret)),
 [.tmp (h0 g0)]⟩
theorem ffIsa37_ok : compF SBase 37 = ffIsa37 := by kernel_rfl
noncomputable def ffIsa44 : FF := .t2 ⟨17,
 (.seq (.reg [.p (.al 5 [(.sc (.int .u8 0)), (.sc (.string ⟨#[]⟩)), (.sc (.int .u8 0)), (.sc (.int .u8 0)), (.sc (.slice none 0 0))]) s8])
 (.seq (.reg [.p (.mv g0) s9,
  .p (.mv g1) s10,
  .p (.mv g2) s11,
  .p (.mv g2) s12,
  .p (.call 17 [g12] (G2 44 1 4)) s13,
  .p (.mv g3) s14,
  .p (.call 56 [g14] (G2 44 1 6)) s15,
  .p (.bd [(.tc (.sc (.int .u8 0))), (.tc (.sc (.string ⟨#[]⟩))), (.tc (.sc (.int .u8 0))), (.tc (.sc (.int .u8 0))), (.tc (.sc (.slice none 0 0)))] [(.mk 0 1 g9), (.mk 1 1 g10), (.mk 2 1 g11), (.mk 3 1 g13), (.mk 4 1 g15)] (G2 44 1 7)) s16,
  .n (.st 5 g8 g16 (G2 44 1 8))])
 .ret)),
 [.cell g8 true 5]⟩
theorem ffIsa44_ok : compF SBase 44 = ffIsa44 := by kernel_rfl
noncomputable def ffIsa17 : FF := .t2 ⟨15,
 (.seq (.reg [.p (.mv (kc (.tc (.sc (.int .u8 0))))) s2])
 (.seq (.seq (.reg [.p (.mv g0) s3])
 (.block 0 (.seq (.reg [.p (.bin .eql g3 (kc (.tc (.sc (.int .u8 1)))) (G2 17 2 0)) s5,
  .p (.mv g5) s4])
 (.cond g4 (.seq (.reg [.p (.mv (kc (.tc (.sc (.int .u8 15))))) s2])
 .ret)
 (.seq (.seq (.reg [.p (.bin .eql g3 (kc (.tc (.sc (.int .u8 2)))) (G2 17 4 0)) s7,
  .p (.mv g7) s6])
 (.cond g6 .skip
 (.reg [.p (.bin .eql g3 (kc (.tc (.sc (.int .u8 5)))) (G2 17 5 0)) s8,
  .p (.mv g8) s6])))
 (.cond g6 (.seq (.reg [.p (.mv (kc (.tc (.sc (.int .u8 12))))) s2])
 .ret)
 (.seq (.reg [.p (.bin .eql g3 (kc (.tc (.sc (.int .u8 3)))) (G2 17 7 0)) s10,
  .p (.mv g10) s9])
 (.cond g9 (.seq (.reg [.p (.mv (kc (.tc (.sc (.int .u8 3))))) s2])
 .ret)
 (.seq (.reg [.p (.bin .eql g3 (kc (.tc (.sc (.int .u8 4)))) (G2 17 9 0)) s12,
  .p (.mv g12) s11])
 (.cond g11 (.seq (.reg [.p (.mv (kc (.tc (.sc (.int .u8 1))))) s2])
 .ret)
 (.seq (.reg [.p (.bin .eql g3 (kc (.tc (.sc (.int .u8 6)))) (G2 17 11 0)) s14,
  .p (.mv g14) s13])
 (.cond g13 (.seq (.reg [.p (.mv (kc (.tc (.sc (.int .u8 8))))) s2])
 .ret)
 .skip))))))))))))
 (.seq (.reg [.p (.mv (kc (.tc (.sc (.int .u8 0))))) s2])
 .ret))),
 [.tmp g2]⟩
theorem ffIsa17_ok : compF SBase 17 = ffIsa17 := by kernel_rfl
noncomputable def ffIsa56 : FF := .t2 ⟨36,
 (.seq (.reg [.p (.mv (kc (.tc (.sc (.slice none 0 0))))) s2])
 (.seq (.reg [.p (.mv (kc (.tc (.sc (.int .i64 0))))) s3])
 (.seq (.seq (.reg [.p (.mv g0) s9,
  .p (.len g9 (G2 56 2 1)) s10,
  .p (.mv (kc (.tc (.sc (.int .i64 0))))) s11])
 (.block 0 (.loop 4294967296 (.seq (.reg [.p (.bin .lss g11 g10 (G2 56 3 0)) s12])
 (.seq (.cond g12 .skip
 (.exit 0))
 (.seq (.block 1 (.seq (.reg [.p (.ia 1 g9 g11 (G2 56 4 0)) s13,
  .p (.ld false 1 g13) s14,
  .p (.mv g14) s5])
 (.seq (.reg [.p (.mv g3) s15,
  .p (.mv g5) s16,
  .p (.len g16 (G2 56 5 2)) s17,
  .p (.bin .add g15 g17 (G2 56 5 3)) s18,
  .p (.mv g18) s3])
 (.seq (.reg [.p (.mv g3) s19,
  .p (.bin .lss g19 (kc (.tc (.sc (.int .i64 0)))) (G2 56 6 1)) s20])
 (.cond g20 (.reg [.p (.gen (G2 56 7 0)) s21,
  .n (.gen (G2 56 7 1))])
 .skip)))))
 (.reg [.p (.bin .add g11 (kc (.tc (.sc (.int .i64 1)))) (G2 56 8 0)) s22,
  .p (.mv g22) s11])))))))
 (.seq (.reg [.p (.mv g3) s23,
  .p (.call 58 [(kc (.tc (.sc (.slice none 0 0)))), g23] (G2 56 9 1)) s24,
  .p (.mv g24) s6])
 (.seq (.seq (.reg [.p (.mv g0) s25,
  .p (.len g25 (G2 56 10 1)) s26,
  .p (.mv (kc (.tc (.sc (.int .i64 0))))) s27])
 (.block 2 (.loop 4294967296 (.seq (.reg [.p (.bin .lss g27 g26 (G2 56 11 0)) s28])
 (.seq (.cond g28 .skip
 (.exit 2))
 (.seq (.block 3 (.seq (.reg [.p (.ia 1 g25 g27 (G2 56 12 0)) s29,
  .p (.ld false 1 g29) s30,
  .p (.mv g30) s8])
 (.reg [.p (.mv g6) s31,
  .p (.mv g8) s32,
  .p (.ap 5 32 g31 g32) s33,
  .p (.mv g33) s6])))
 (.reg [.p (.bin .add g27 (kc (.tc (.sc (.int .i64 1)))) (G2 56 14 0)) s34,
  .p (.mv g34) s27])))))))
 (.seq (.reg [.p (.mv g6) s35,
  .p (.mv g35) s2])
 .ret)))))),
 [.tmp g2]⟩
theorem ffIsa56_ok : compF SBase 56 = ffIsa56 := by kernel_rfl
noncomputable def ffIsa58 : FF := .t2 ⟨27,
 (.seq (.reg [.p (.mv (kc (.tc (.sc (.slice none 0 0))))) s4])
 (.seq (.seq (.reg [.p (.mv g1) s5,
  .p (.bin .lss g5 (kc (.tc (.sc (.int .i64 0)))) (G2 58 1 1)) s6])
 (.cond g6 (.reg [.p (.gen (G2 58 2 0)) s7,
  .n (.gen (G2 58 2 1))])
 .skip))
 (.seq (.seq (.reg [.p (.mv g1) s8,
  .p (.mv g0) s9,
  .p (.gen (G2 58 3 2)) s10,
  .p (.mv g0) s11,
  .p (.len g11 (G2 58 3 4)) s12,
  .p (.bin .sub g10 g12 (G2 58 3 5)) s13,
  .p (.bin .sub g8 g13 (G2 58 3 6)) s14,
  .p (.mv g14) s1])
 (.seq (.reg [.p (.mv g1) s15,
  .p (.bin .gtr g15 (kc (.tc (.sc (.int .i64 0)))) (G2 58 4 1)) s16])
 (.cond g16 (.reg [.p (.mv g0) s17,
  .p (.mv g0) s18,
  .p (.gen (G2 58 5 2)) s19,
  .p (.sl 5 g17 none (some g19) none (G2 58 5 3)) s20,
  .p (.mv g1) s21,
  .p (.gen (G2 58 5 5)) s22,
  .p (.mv g0) s23,
  .p (.len g23 (G2 58 5 7)) s24,
  .p (.sl 5 g22 none (some g24) none (G2 58 5 8)) s25,
  .p (.mv g25) s0])
 .skip)))
 (.seq (.reg [.p (.mv g0) s26,
  .p (.mv g26) s4])
 .ret)))),
 [.tmp g4]⟩
theorem ffIsa58_ok : compF SBase 58 = ffIsa58 := by kernel_rfl
noncomputable def ffIsa45 : FF := .t2 ⟨4,
 (.seq (.reg [.p (.mv (kc (.tc (.sc (.slice none 0 0))))) s0])
 (.seq (.reg [.p (.call 51 [(kc (.tc (.sc (.int .u8 1)))), (kc (.tc (.sc (.int .i64 3))))] (G2 45 1 0)) s1,
  .p (.call 51 [(kc (.tc (.sc (.int .u8 2)))), (kc (.tc (.sc (.int .i64 2))))] (G2 45 1 1)) s2,
  .p (.ap 5 32 g1 g2) s3,
  .p (.mv g3) s0])
 .ret)),
 [.tmp g0]⟩
theorem ffIsa45_ok : compF SBase 45 = ffIsa45 := by kernel_rfl
noncomputable def ffIsa51 : FF := .t2 ⟨9,
 (.seq (.reg [.p (.mv (kc (.tc (.sc (.slice none 0 0))))) s4])
 (.seq (.reg [.p (.mv g0) s5,
  .p (.mv g1) s6,
  .p (.bd [(.tc (.sc (.int .u8 0))), (.tc (.sc (.int .i64 0))), (.tc (.sc (.int .i64 0))), (.tc (.sc (.bool false))), (.tc (.sc (.bool false)))] [(.mk 0 1 g5), (.mk 1 1 g6)] (G2 51 1 2)) s7,
  .p (.bs 5 1 [[(.tc (.sc (.int .u8 0))), (.tc (.sc (.int .i64 0))), (.tc (.sc (.int .i64 0))), (.tc (.sc (.bool false))), (.tc (.sc (.bool false)))]] [(.mk 0 5 g7)] (G2 51 1 3)) s8,
  .p (.mv g8) s4])
 .ret)),
 [.tmp g4]⟩
theorem ffIsa51_ok : compF SBase 51 = ffIsa51 := by kernel_rfl
noncomputable def ffIsa46 : FF := .t2 ⟨2,
 (.seq (.reg [.p (.mv (kc (.tc (.sc (.slice none 0 0))))) s0])
 (.seq (.reg [.p (.call 51 [(kc (.tc (.sc (.int .u8 3)))), (kc (.tc (.sc (.int .i64 5))))] (G2 46 1 0)) s1,
  .p (.mv g1) s0])
 .ret)),
 [.tmp g0]⟩
theorem ffIsa46_ok : compF SBase 46 = ffIsa46 := by kernel_rfl
noncomputable def ffIsa47 : FF := .t2 ⟨2,
 (.seq (.reg [.p (.mv (kc (.tc (.sc (.slice none 0 0))))) s0])
 (.seq (.reg [.p (.call 51 [(kc (.tc (.sc (.int .u8 5)))), (kc (.tc (.sc (.int .i64 5))))] (G2 47 1 0)) s1,
  .p (.mv g1) s0])
 .ret)),
 [.tmp g0]⟩
theorem ffIsa47_ok : compF SBase 47 = ffIsa47 := by kernel_rfl
noncomputable def ffIsa48 : FF := .t2 ⟨2,
 (.seq (.reg [.p (.mv (kc (.tc (.sc (.slice none 0 0))))) s0])
 (.seq (.reg [.p (.call 51 [(kc (.tc (.sc (.int .u8 6)))), (kc (.tc (.sc (.int .i64 5))))] (G2 48 1 0)) s1,
  .p (.mv g1) s0])
 .ret)),
 [.tmp g0]⟩
theorem ffIsa48_ok : compF SBase 48 = ffIsa48 := by kernel_rfl
noncomputable def ffIsa49 : FF := .t2 ⟨9,
 (.seq (.reg [.p (.mv (kc (.tc (.sc (.slice none 0 0))))) s4])
 (.seq (.reg [.p (.mv g0) s5,
  .p (.mv g1) s6,
  .p (.bd [(.tc (.sc (.int .u8 0))), (.tc (.sc (.int .i64 0))), (.tc (.sc (.int .i64 0))), (.tc (.sc (.bool false))), (.tc (.sc (.bool false)))] [(.mk 0 1 (kc (.tc (.sc (.int .u8 9))))), (.mk 1 1 g5), (.mk 2 1 g6), (.mk 3 1 (kc (.tc (.sc (.bool true))))), (.mk 4 1 (kc (.tc (.sc (.bool true)))))] (G2 49 1 2)) s7,
  .p (.bs 5 1 [[(.tc (.sc (.int .u8 0))), (.tc (.sc (.int .i64 0))), (.tc (.sc (.int .i64 0))), (.tc (.sc (.bool false))), (.tc (.sc (.bool false)))]] [(.mk 0 5 g7)] (G2 49 1 3)) s8,
  .p (.mv g8) s4])
 .ret)),
 [.tmp g4]⟩
theorem ffIsa49_ok : compF SBase 49 = ffIsa49 := by kernel_rfl
noncomputable def ffIsa50 : FF := .t2 ⟨2,
 (.seq (.reg [.p (.mv (kc (.tc (.sc (.slice none 0 0))))) s0])
 (.seq (.reg [.p (.call 51 [(kc (.tc (.sc (.int .u8 4)))), (kc (.tc (.sc (.int .i64 2))))] (G2 50 1 0)) s1,
  .p (.mv g1) s0])
 .ret)),
 [.tmp g0]⟩
theorem ffIsa50_ok : compF SBase 50 = ffIsa50 := by kernel_rfl
noncomputable def ffIsa52 : FF := .t2 ⟨6,
 (.seq (.reg [.p (.mv (kc (.tc (.sc (.slice none 0 0))))) s2])
 (.seq (.reg [.p (.mv g0) s3,
  .p (.bd [(.tc (.sc (.int .u8 0))), (.tc (.sc (.int .i64 0))), (.tc (.sc (.int .i64 0))), (.tc (.sc (.bool false))), (.tc (.sc (.bool false)))] [(.mk 0 1 (kc (.tc (.sc (.int .u8 10))))), (.mk 1 1 g3), (.mk 2 1 (kc (.tc (.sc (.int .i64 2))))), (.mk 3 1 (kc (.tc (.sc (.bool true))))), (.mk 4 1 (kc (.tc (.sc (.bool true)))))] (G2 52 1 1)) s4,
  .p (.bs 5 1 [[(.tc (.sc (.int .u8 0))), (.tc (.sc (.int .i64 0))), (.tc (.sc (.int .i64 0))), (.tc (.sc (.bool false))), (.tc (.sc (.bool false)))]] [(.mk 0 5 g4)] (G2 52 1 2)) s5,
  .p (.mv g5) s2])
 .ret)),
 [.tmp g2]⟩
theorem ffIsa52_ok : compF SBase 52 = ffIsa52 := by kernel_rfl
noncomputable def ffIsa33 : FF := .t2 ⟨8,
 (.seq (.reg [.p (.mv (kc (.tc (.sc (.slice none 0 0))))) s2])
 (.seq (.seq (.reg [.p (.mv g0) s3,
  .p (.bin .eql g3 (kc (.tc (.sc (.slice none 0 0)))) (G2 33 1 1)) s4])
 (.cond g4 (.seq (.reg [.p (.mv (kc (.tc (.sc (.slice none 0 0))))) s2])
 .ret)
 .skip))
 (.seq (.reg [.p (.bs 5 0 [] [] (G2 33 3 0)) s5,
  .p (.mv g0) s6,
  .p (.ap 5 32 g5 g6) s7,
  .p (.mv g7) s2])
 .ret))),
 [.tmp g2]⟩
theorem ffIsa33_ok : compF SBase 33 = ffIsa33 := by kernel_rfl
noncomputable def ffIsa12 : FF := .t2 ⟨46,
 (.seq (.reg [.p (.al 5 [(.sc (.int .u8 0)), (.sc (.string ⟨#[]⟩)), (.sc (.int .u8 0)), (.sc (.int .u8 0)), (.sc (.slice none 0 0))]) s2,
  .p (.mv (kc (.tc (.sc (.bool false))))) s3])
 (.seq (.reg [.p (.mv g0) s11,
  .p (.cv .i64 g11 (G2 12 1 1)) s12,
  .p (.call 34 [g12] (G2 12 1 2)) s13,
  .p (.mv g13) s10,
  .p (.ex g10 0) s14,
  .p (.ex g10 1) s15,
  .p (.ex g10 2) s16,
  .p (.ex g10 3) s17,
  .p (.mv g14) s4,
  .p (.mv g15) s5,
  .p (.mv g16) s6,
  .p (.mv g17) s7])
 (.seq (.seq (.reg [.p (.mv g7) s18,
  .p (.nt g18 (G2 12 2 1)) s19])
 (.cond g19 (.seq (.reg [.p (.bd [(.tc (.sc (.int .u8 0))), (.tc (.sc (.string ⟨#[]⟩))), (.tc (.sc (.int .u8 0))), (.tc (.sc (.int .u8 0))), (.tc (.sc (.slice none 0 0)))] [] (G2 12 3 0)) s20,
  .n (.st 5 g2 g20 (G2 12 3 1)),
  .p (.mv (kc (.tc (.sc (.bool false))))) s3])
 .ret)
 .skip))
 (.seq (.reg [.p (.mv g0) s21,
  .p (.mv g4) s22,
  .p (.mv g5) s23,
  .p (.ix g23 (kc (.tc (.sc (.int .i64 0)))) (G2 12 4 3)) s24,
  .p (.call 35 [g24] (G2 12 4 4)) s25,
  .p (.bd [(.tc (.sc (.int .u8 0))), (.tc (.sc (.string ⟨#[]⟩))), (.tc (.sc (.int .u8 0))), (.tc (.sc (.int .u8 0))), (.tc (.sc (.slice none 0 0)))] [(.mk 0 1 g21), (.mk 1 1 g22), (.mk 2 1 g25)] (G2 12 4 5)) s26,
  .p (.al 5 [(.sc (.int .u8 0)), (.sc (.string ⟨#[]⟩)), (.sc (.int .u8 0)), (.sc (.int .u8 0)), (.sc (.slice none 0 0))]) s8,
  .n (.st 5 g8 g26 (G2 12 4 7))])
 (.seq (.reg [.p (.fa 2 g8) s27,
  .p (.ld false 1 g27) s28,
  .p (.call 18 [g28] (G2 12 5 2)) s29,
  .p (.fa 3 g8) s30,
  .n (.st 1 g30 g29 (G2 12 5 4))])
 (.seq (.seq (.reg [.p (.mv (kc (.tc (.sc (.int .i64 0))))) s9])
 (.block 0 (.loop 4294967296 (.seq (.seq (.reg [.p (.mv g9) s31,
  .p (.mv g6) s32,
  .p (.ls g32 (G2 12 7 2)) s33,
  .p (.bin .lss g31 g33 (G2 12 7 3)) s34])
 (.cond g34 .skip
 (.exit 0)))
 (.seq (.block 1 (.regD [0, 1, 0, 0, 12, 28, 63, 127, 255] [.no, (.rd (.ld false 1 g37) g38), .no, .no, .no, .no, .no, .no, .no] [.mk .none .yes (.fa 4 g8) (.fa 4 g8) (some s37),
  .mk .none .yes (.ld false 1 g37) (.ld false 1 g37) (some s38),
  .mk .none .yes (.mv g6) (.mv g6) (some s39),
  .mk .none .yes (.mv g9) (.mv g9) (some s40),
  .mk .none .yes (.ix g39 g40 (G2 12 8 4)) (.ix g39 g40 (G2 12 8 4)) (some s41),
  .mk .none (.dyn 36 [g41]) (.call 36 [g41] (G2 12 8 5)) (.call 36 [g41] (G2 12 8 5)) (some s42),
  .mk .none .no (.ap 5 32 g38 g42) (.ap 5 32 g38 g42) (some s43),
  .mk .none .yes (.fa 4 g8) (.fa 4 g8) (some s44),
  .mk .none .no (.st 1 g44 g43 (G2 12 8 8)) (.st 1 g44 g43 (G2 12 8 8)) none]))
 (.reg [.p (.mv g9) s35,
  .p (.bin .add g35 (kc (.tc (.sc (.int .i64 1)))) (G2 12 9 1)) s36,
  .p (.mv g36) s9]))))))
 (.seq (.reg [.p (.ld true 5 g8) s45,
  .n (.st 5 g2 g45 (G2 12 10 1)),
  .p (.mv (kc (.tc (.sc (.bool true))))) s3])
 .ret))))))),
 [.cell g2 true 5, .tmp g3]⟩
theorem ffIsa12_ok : compF SBase 12 = ffIsa12 := by kernel_rfl
noncomputable def ffIsa34 : FF := .t2 ⟨47,
 (.seq (.reg [.p (.mv (kc (.tc (.sc (.string ⟨#[]⟩))))) s2,
  .p (.mv (kc (.tc (.sc (.string ⟨#[]⟩))))) s3,
  .p (.mv (kc (.tc (.sc (.string ⟨#[]⟩))))) s4,
  .p (.mv (kc (.tc (.sc (.bool false))))) s5])
 (.seq (.reg [.p (.mv (kc (.tc (.sc (.int .i64 1))))) s6])
 (.seq (.reg [.p (.mv (kc (.tc (.sc (.int .i64 0))))) s7])
 (.seq (.seq (.reg [.p (.mv (kc (.tc (.sc (.int .i64 0))))) s8])
 (.block 0 (.loop 4294967296 (.seq (.seq (.reg [.p (.mv g8) s11,
  .p (.bin .lss g11 (kc (.tc (.sc (.int .i64 334)))) (G2 34 4 1)) s12])
 (.cond g12 .skip
 (.exit 0)))
 (.seq (.block 1 (.seq (.seq (.reg [.p (.mv g8) s15,
  .p (.ix (kc (.tc (.sc (.string ⟨#[110, 111, 112, 32, 65, 32, 59, 97, 100, 100, 32, 65, 32, 99, 100, 115, 116, 59, 115, 117, 98, 32, 65, 32, 99, 100, 115, 116, 59, 97, 110, 100, 32, 65, 32, 99, 100, 115, 116, 59, 111, 114, 32, 65, 32, 99, 100, 115, 116, 59, 120, 111, 114, 32, 65, 32, 99, 100, 115, 116, 59, 97, 100, 100, 105, 32, 65, 32, 100, 115, 105, 59, 109, 111, 118, 105, 32, 65, 32, 99, 100, 105, 59, 109, 111, 118, 32, 65, 32, 99, 100, 115, 59, 99, 109, 112, 101, 113, 32, 65, 32, 112, 115, 116, 59, 99, 109, 112, 103, 116, 32, 65, 32, 112, 115, 116, 59, 99, 109, 112, 103, 116, 117, 32, 65, 32, 112, 115, 116, 59, 99, 109, 112, 101, 113, 105, 32, 65, 32, 112, 115, 105, 59, 109, 117, 120, 32, 65, 32, 100, 113, 115, 116, 59, 97, 115, 108, 32, 88, 32, 100, 115, 117, 59, 108, 115, 114, 32, 88, 32, 100, 115, 117, 59, 97, 115, 114, 32, 88, 32, 100, 115, 117, 59, 109, 112, 121, 32, 88, 32, 100, 115, 116, 59, 99, 109, 112, 121, 32, 88, 32, 100, 115, 116, 59, 99, 109, 112, 121, 99, 32, 88, 32, 100, 115, 116, 59, 108, 100, 119, 32, 76, 32, 100, 115, 108, 59, 108, 100, 104, 32, 76, 32, 100, 115, 109, 59, 108, 100, 98, 32, 76, 32, 100, 115, 111, 59, 115, 116, 119, 32, 83, 32, 115, 119, 116, 108, 59, 115, 116, 104, 32, 83, 32, 115, 119, 116, 109, 59, 115, 116, 98, 32, 83, 32, 115, 119, 116, 111, 59, 106, 117, 109, 112, 32, 74, 32, 99, 114, 59, 106, 117, 109, 112, 114, 32, 74, 32, 99, 115, 59, 99, 97, 108, 108, 32, 74, 32, 120, 59, 108, 111, 111, 112, 105, 32, 67, 32, 110, 121, 118, 59, 108, 111, 111, 112, 114, 32, 67, 32, 110, 121, 115, 59]⟩)))) g15 (G2 34 5 1)) s16,
  .p (.bin .neq g16 (kc (.tc (.sc (.int .u8 59)))) (G2 34 5 2)) s17])
 (.cond g17 (.exit 1)
 .skip))
 (.seq (.seq (.reg [.p (.mv g6) s18,
  .p (.mv g0) s19,
  .p (.bin .eql g18 g19 (G2 34 6 2)) s20])
 (.cond g20 (.seq (.reg [.p (.mv g7) s21,
  .p (.mv g8) s22,
  .p (.ss (kc (.tc (.sc (.string ⟨#[110, 111, 112, 32, 65, 32, 59, 97, 100, 100, 32, 65, 32, 99, 100, 115, 116, 59, 115, 117, 98, 32, 65, 32, 99, 100, 115, 116, 59, 97, 110, 100, 32, 65, 32, 99, 100, 115, 116, 59, 111, 114, 32, 65, 32, 99, 100, 115, 116, 59, 120, 111, 114, 32, 65, 32, 99, 100, 115, 116, 59, 97, 100, 100, 105, 32, 65, 32, 100, 115, 105, 59, 109, 111, 118, 105, 32, 65, 32, 99, 100, 105, 59, 109, 111, 118, 32, 65, 32, 99, 100, 115, 59, 99, 109, 112, 101, 113, 32, 65, 32, 112, 115, 116, 59, 99, 109, 112, 103, 116, 32, 65, 32, 112, 115, 116, 59, 99, 109, 112, 103, 116, 117, 32, 65, 32, 112, 115, 116, 59, 99, 109, 112, 101, 113, 105, 32, 65, 32, 112, 115, 105, 59, 109, 117, 120, 32, 65, 32, 100, 113, 115, 116, 59, 97, 115, 108, 32, 88, 32, 100, 115, 117, 59, 108, 115, 114, 32, 88, 32, 100, 115, 117, 59, 97, 115, 114, 32, 88, 32, 100, 115, 117, 59, 109, 112, 121, 32, 88, 32, 100, 115, 116, 59, 99, 109, 112, 121, 32, 88, 32, 100, 115, 116, 59, 99, 109, 112, 121, 99, 32, 88, 32, 100, 115, 116, 59, 108, 100, 119, 32, 76, 32, 100, 115, 108, 59, 108, 100, 104, 32, 76, 32, 100, 115, 109, 59, 108, 100, 98, 32, 76, 32, 100, 115, 111, 59, 115, 116, 119, 32, 83, 32, 115, 119, 116, 108, 59, 115, 116, 104, 32, 83, 32, 115, 119, 116, 109, 59, 115, 116, 98, 32, 83, 32, 115, 119, 116, 111, 59, 106, 117, 109, 112, 32, 74, 32, 99, 114, 59, 106, 117, 109, 112, 114, 32, 74, 32, 99, 115, 59, 99, 97, 108, 108, 32, 74, 32, 120, 59, 108, 111, 111, 112, 105, 32, 67, 32, 110, 121, 118, 59, 108, 111, 111, 112, 114, 32, 67, 32, 110, 121, 115, 59]⟩)))) (some g21) (some g22) none (G2 34 7 2)) s23,
  .p (.mv g23) s9])
 (.seq (.reg [.p (.mv (kc (.tc (.sc (.int .i64 0))))) s10])
 (.seq (.block 2 (.loop 4294967296 (.seq (.seq (.reg [.p (.mv g9) s24,
  .p (.mv g10) s25,
  .p (.ix g24 g25 (G2 34 9 2)) s26,
  .p (.bin .neq g26 (kc (.tc (.sc (.int .u8 32)))) (G2 34 9 3)) s27])
 (.cond g27 .skip
 (.exit 2)))
 (.block 3 (.reg [.p (.mv g10) s28,
  .p (.bin .add g28 (kc (.tc (.sc (.int .i64 1)))) (G2 34 10 1)) s29,
  .p (.mv g29) s10])))))
 (.seq (.regD [0, 0, 3, 0, 0, 16, 0, 64, 248, 0, 0, 1024, 3584, 7, 8703, 32767, 65535] [.no, .no, .no, .no, .no, .no, .no, .no, .no, .no, .no, .no, .no, .no, .no, .no, .no] [.mk .none .yes (.mv g9) (.mv g9) (some s30),
  .mk .none .yes (.mv g10) (.mv g10) (some s31),
  .mk .none .yes (.ss g30 none (some g31) none (G2 34 11 2)) (.ss g30 none (some g31) none (G2 34 11 2)) (some s32),
  .mk .none .yes (.mv g9) (.mv g9) (some s33),
  .mk .none .yes (.mv g10) (.mv g10) (some s34),
  .mk .none .yes (.bin .add g34 (kc (.tc (.sc (.int .i64 1)))) (G2 34 11 5)) (.bin .add g34 (kc (.tc (.sc (.int .i64 1)))) (G2 34 11 5)) (some s35),
  .mk .none .yes (.mv g10) (.mv g10) (some s36),
  .mk .none .yes (.bin .add g36 (kc (.tc (.sc (.int .i64 2)))) (G2 34 11 7)) (.bin .add g36 (kc (.tc (.sc (.int .i64 2)))) (G2 34 11 7)) (some s37),
  .mk .none .yes (.ss g33 (some g35) (some g37) none (G2 34 11 8)) (.ss g33 (some g35) (some g37) none (G2 34 11 8)) (some s38),
  .mk .none .yes (.mv g9) (.mv g9) (some s39),
  .mk .none .yes (.mv g10) (.mv g10) (some s40),
  .mk .none .yes (.bin .add g40 (kc (.tc (.sc (.int .i64 3)))) (G2 34 11 11)) (.bin .add g40 (kc (.tc (.sc (.int .i64 3)))) (G2 34 11 11)) (some s41),
  .mk .none .yes (.ss g39 (some g41) none none (G2 34 11 12)) (.ss g39 (some g41) none none (G2 34 11 12)) (some s42),
  .mk .none .yes (.mv g32) (.mv g32) (some s2),
  .mk .none .yes (.mv g38) (.mv g38) (some s3),
  .mk .none .yes (.mv g42) (.mv g42) (some s4),
  .mk .none .yes (.mv (kc (.tc (.sc (.bool true))))) (.mv (kc (.tc (.sc (.bool true))))) (some s5)])
 .ret))))
 .skip))
 (.seq (.reg [.p (.mv g6) s43,
  .p (.bin .add g43 (kc (.tc (.sc (.int .i64 1)))) (G2 34 12 1)) s44,
  .p (.mv g44) s6])
 (.reg [.p (.mv g8) s45,
  .p (.bin .add g45 (kc (.tc (.sc (.int .i64 1)))) (G2 34 13 1)) s46,
  .p (.mv g46) s7])))))
 (.reg [.p (.mv g8) s13,
  .p (.bin .add g13 (kc (.tc (.sc (.int .i64 1)))) (G2 34 14 1)) s14,
  .p (.mv g14) s8]))))))
 (.seq (.reg [.p (.mv (kc (.tc (.sc (.string ⟨#[]⟩))))) s2,
  .p (.mv (kc (.tc (.sc (.string ⟨#[]⟩))))) s3,
  .p (.mv (kc (.tc (.sc (.string ⟨#[]⟩))))) s4,
  .p (.mv (kc (.tc (.sc (.bool false))))) s5])
 .ret))))),
 [.tmp g2, .tmp g3, .tmp g4, .tmp g5]⟩
theorem ffIsa34_ok : compF SBase 34 = ffIsa34 := by kernel_rfl
noncomputable def ffIsa35 : FF := .t2 ⟨15,
 (.seq (.reg [.p (.mv (kc (.tc (.sc (.int .u8 0))))) s2])
 (.seq (.seq (.reg [.p (.mv (kc (.tc (.sc (.int .i64 0))))) s3])
 (.block 0 (.loop 4294967296 (.seq (.seq (.reg [.p (.mv g3) s4,
  .p (.bin .lss g4 (kc (.tc (.sc (.int .i64 6)))) (G2 35 2 1)) s5])
 (.cond g5 .skip
 (.exit 0)))
 (.seq (.block 1 (.seq (.reg [.p (.mv g3) s8,
  .p (.ix (kc (.tc (.sc (.string ⟨#[65, 88, 76, 83, 74, 67]⟩)))) g8 (G2 35 3 1)) s9,
  .p (.mv g0) s10,
  .p (.bin .eql g9 g10 (G2 35 3 3)) s11])
 (.cond g11 (.seq (.reg [.p (.mv g3) s12,
  .p (.bin .add g12 (kc (.tc (.sc (.int .i64 1)))) (G2 35 4 1)) s13,
  .p (.cv .u8 g13 (G2 35 4 2)) s14,
  .p (.mv g14) s2])
 .ret)
 .skip)))
 (.reg [.p (.mv g3) s6,
  .p (.bin .add g6 (kc (.tc (.sc (.int .i64 1)))) (G2 35 5 1)) s7,
  .p (.mv g7) s3]))))))
 (.seq (.reg [.p (.mv (kc (.tc (.sc (.int .u8 0))))) s2])
 .ret))),
 [.tmp g2]⟩
theorem ffIsa35_ok : compF SBase 35 = ffIsa35 := by kernel_rfl
noncomputable def ffIsa18 : FF := .t2 ⟨14,
 (.seq (.reg [.p (.mv (kc (.tc (.sc (.int .u8 0))))) s2])
 (.seq (.reg [.p (.bs 1 7 [[(.tc (.sc (.int .u8 0)))], [(.tc (.sc (.int .u8 0)))], [(.tc (.sc (.int .u8 0)))], [(.tc (.sc (.int .u8 0)))], [(.tc (.sc (.int .u8 0)))], [(.tc (.sc (.int .u8 0)))], [(.tc (.sc (.int .u8 0)))]] [(.mk 0 1 (kc (.tc (.sc (.int .u8 0))))), (.mk 1 1 (kc (.tc (.sc (.int .u8 15))))), (.mk 2 1 (kc (.tc (.sc (.int .u8 12))))), (.mk 3 1 (kc (.tc (.sc (.int .u8 3))))), (.mk 4 1 (kc (.tc (.sc (.int .u8 1))))), (.mk 5 1 (kc (.tc (.sc (.int .u8 12))))), (.mk 6 1 (kc (.tc (.sc (.int .u8 8)))))] (G2 18 1 0)) s4,
  .p (.mv g4) s3])
 (.seq (.seq (.reg [.p (.mv g0) s5,
  .p (.cv .i64 g5 (G2 18 2 1)) s6,
  .p (.mv g3) s7,
  .p (.len g7 (G2 18 2 3)) s8,
  .p (.bin .lss g6 g8 (G2 18 2 4)) s9])
 (.cond g9 (.seq (.reg [.p (.mv g3) s10,
  .p (.mv g0) s11,
  .p (.ia 1 g10 g11 (G2 18 3 2)) s12,
  .p (.ld false 1 g12) s13,
  .p (.mv g13) s2])
 .ret)
 .skip))
 (.seq (.reg [.p (.mv (kc (.tc (.sc (.int .u8 0))))) s2])
 .ret)))),
 [.tmp g2]⟩
theorem ffIsa18_ok : compF SBase 18 = ffIsa18 := by kernel_rfl
noncomputable def ffIsa36 : FF := .t3 ⟨71,
 (.seq (.reg [.p (.mv (kc (.tc (.sc (.slice none 0 0))))) (i0 s2)])
 (.seq (.seq (.reg [.p (.mv (h0 g0)) (i0 s3)])
 (.block 0 (.seq (.reg [.p (.bin .eql (h0 g3) (kc (.tc (.sc (.int .u8 99)))) (G3 36 2 0)) (i0 s5),
  .p (.mv (h0 g5)) (i0 s4)])
 (.cond (h0 g4) (.seq (.reg [.p (.bd [(.tc (.sc (.int .u8 0))), (.tc (.sc (.int .i64 0))), (.tc (.sc (.int .i64 0))), (.tc (.sc (.bool false))), (.tc (.sc (.bool false)))] [(.mk 0 1 (kc (.tc (.sc (.int .u8 1))))), (.mk 1 1 (kc (.tc (.sc (.int .i64 3)))))] (G3 36 3 0)) (i0 s6),
  .p (.bd [(.tc (.sc (.int .u8 0))), (.tc (.sc (.int .i64 0))), (.tc (.sc (.int .i64 0))), (.tc (.sc (.bool false))), (.tc (.sc (.bool false)))] [(.mk 0 1 (kc (.tc (.sc (.int .u8 2))))), (.mk 1 1 (kc (.tc (.sc (.int .i64 2)))))] (G3 36 3 1)) (i0 s7),
  .p (.bs 5 2 [[(.tc (.sc (.int .u8 0))), (.tc (.sc (.int .i64 0))), (.tc (.sc (.int .i64 0))), (.tc (.sc (.bool false))), (.tc (.sc (.bool false)))], [(.tc (.sc (.int .u8 0))), (.tc (.sc (.int .i64 0))), (.tc (.sc (.int .i64 0))), (.tc (.sc (.bool false))), (.tc (.sc (.bool false)))]] [(.mk 0 5 (h0 g6)), (.mk 1 5 (h0 g7))] (G3 36 3 2)) (i0 s8),
  .p (.mv (h0 g8)) (i0 s2)])
 .ret)
 (.seq (.reg [.p (.bin .eql (h0 g3) (kc (.tc (.sc (.int .u8 100)))) (G3 36 4 0)) (i0 s10),
  .p (.mv (h0 g10)) (i0 s9)])
 (.cond (h0 g9) (.seq (.reg [.p (.bd [(.tc (.sc (.int .u8 0))), (.tc (.sc (.int .i64 0))), (.tc (.sc (.int .i64 0))), (.tc (.sc (.bool false))), (.tc (.sc (.bool false)))] [(.mk 0 1 (kc (.tc (.sc (.int .u8 3))))), (.mk 1 1 (kc (.tc (.sc (.int .i64 5)))))] (G3 36 5 0)) (i0 s11),
  .p (.bs 5 1 [[(.tc (.sc (.int .u8 0))), (.tc (.sc (.int .i64 0))), (.tc (.sc (.int .i64 0))), (.tc (.sc (.bool false))), (.tc (.sc (.bool false)))]] [(.mk 0 5 (h0 g11))] (G3 36 5 1)) (i0 s12),
  .p (.mv (h0 g12)) (i0 s2)])
 .ret)
 (.seq (.reg [.p (.bin .eql (h0 g3) (kc (.tc (.sc (.int .u8 112)))) (G3 36 6 0)) (i0 s14),
  .p (.mv (h0 g14)) (i0 s13)])
 (.cond (h0 g13) (.seq (.reg [.p (.bd [(.tc (.sc (.int .u8 0))), (.tc (.sc (.int .i64 0))), (.tc (.sc (.int .i64 0))), (.tc (.sc (.bool false))), (.tc (.sc (.bool false)))] [(.mk 0 1 (kc (.tc (.sc (.int .u8 4))))), (.mk 1 1 (kc (.tc (.sc (.int .i64 2)))))] (G3 36 7 0)) (i0 s15),
  .p (.bs 5 1 [[(.tc (.sc (.int .u8 0))), (.tc (.sc (.int .i64 0))), (.tc (.sc (.int .i64 0))), (.tc (.sc (.bool false))), (.tc (.sc (.bool false)))]] [(.mk 0 5 (h0 g15))] (G3 36 7 1)) (i0 s16),
  .p (.mv (h0 g16)) (i0 s2)])
 .ret)
 (.seq (.reg [.p (.bin .eql (h0 g3) (kc (.tc (.sc (.int .u8 113)))) (G3 36 8 0)) (i0 s18),
  .p (.mv (h0 g18)) (i0 s17)])
 (.cond (h0 g17) (.seq (.reg [.p (.bd [(.tc (.sc (.int .u8 0))), (.tc (.sc (.int .i64 0))), (.tc (.sc (.int .i64 0))), (.tc (.sc (.bool false))), (.tc (.sc (.bool false)))] [(.mk 0 1 (kc (.tc (.sc (.int .u8 2))))), (.mk 1 1 (kc (.tc (.sc (.int .i64 2)))))] (G3 36 9 0)) (i0 s19),
  .p (.bs 5 1 [[(.tc (.sc (.int .u8 0))), (.tc (.sc (.int .i64 0))), (.tc (.sc (.int .i64 0))), (.tc (.sc (.bool false))), (.tc (.sc (.bool false)))]] [(.mk 0 5 (h0 g19))] (G3 36 9 1)) (i0 s20),
  .p (.mv (h0 g20)) (i0 s2)])
 .ret)
 (.seq (.reg [.p (.bin .eql (h0 g3) (kc (.tc (.sc (.int .u8 115)))) (G3 36 10 0)) (i0 s22),
  .p (.mv (h0 g22)) (i0 s21)])
 (.cond (h0 g21) (.seq (.reg [.p (.bd [(.tc (.sc (.int .u8 0))), (.tc (.sc (.int .i64 0))), (.tc (.sc (.int .i64 0))), (.tc (.sc (.bool false))), (.tc (.sc (.bool false)))] [(.mk 0 1 (kc (.tc (.sc (.int .u8 5))))), (.mk 1 1 (kc (.tc (.sc (.int .i64 5)))))] (G3 36 11 0)) (i0 s23),
  .p (.bs 5 1 [[(.tc (.sc (.int .u8 0))), (.tc (.sc (.int .i64 0))), (.tc (.sc (.int .i64 0))), (.tc (.sc (.bool false))), (.tc (.sc (.bool false)))]] [(.mk 0 5 (h0 g23))] (G3 36 11 1)) (i0 s24),
  .p (.mv (h0 g24)) (i0 s2)])
 .ret)
 (.seq (.reg [.p (.bin .eql (h0 g3) (kc (.tc (.sc (.int .u8 116)))) (G3 36 12 0)) (i0 s26),
  .p (.mv (h0 g26)) (i0 s25)])
 (.cond (h0 g25) (.seq (.reg [.p (.bd [(.tc (.sc (.int .u8 0))), (.tc (.sc (.int .i64 0))), (.tc (.sc (.int .i64 0))), (.tc (.sc (.bool false))), (.tc (.sc (.bool false)))] [(.mk 0 1 (kc (.tc (.sc (.int .u8 6))))), (.mk 1 1 (kc (.tc (.sc (.int .i64 5)))))] (G3 36 13 0)) (i0 s27),
  .p (.bs 5 1 [[(.tc (.sc (.int .u8 0))), (.tc (.sc (.int .i64 0))), (.tc (.sc (.int .i64 0))), (.tc (.sc (.bool false))), (.tc (.sc (.bool false)))]] [(.mk 0 5 (h0 g27))] (G3 36 13 1)) (i0 s28),
  .p (.mv (h0 g28)) (i0 s2)])
 .ret)
 (.seq (.reg [.p (.bin .eql (h0 g3) (kc (.tc (.sc (.int .u8 110)))) (G3 36 14 0)) (i0 s30),
  .p (.mv (h0 g30)) (i0 s29)])
 (.cond (h0 g29) (.seq (.reg [.p (.bd [(.tc (.sc (.int .u8 0))), (.tc (.sc (.int .i64 0))), (.tc (.sc (.int .i64 0))), (.tc (.sc (.bool false))), (.tc (.sc (.bool false)))] [(.mk 0 1 (kc (.tc (.sc (.int .u8 7))))), (.mk 1 1 (kc (.tc (.sc (.int .i64 1)))))] (G3 36 15 0)) (i0 s31),
  .p (.bs 5 1 [[(.tc (.sc (.int .u8 0))), (.tc (.sc (.int .i64 0))), (.tc (.sc (.int .i64 0))), (.tc (.sc (.bool false))), (.tc (.sc (.bool false)))]] [(.mk 0 5 (h0 g31))] (G3 36 15 1)) (i0 s32),
  .p (.mv (h0 g32)) (i0 s2)])
 .ret)
 (.seq (.reg [.p (.bin .eql (h0 g3) (kc (.tc (.sc (.int .u8 119)))) (G3 36 16 0)) (i0 s34),
  .p (.mv (h0 g34)) (i0 s33)])
 (.cond (h0 g33) (.seq (.reg [.p (.bd [(.tc (.sc (.int .u8 0))), (.tc (.sc (.int .i64 0))), (.tc (.sc (.int .i64 0))), (.tc (.sc (.bool false))), (.tc (.sc (.bool false)))] [(.mk 0 1 (kc (.tc (.sc (.int .u8 8))))), (.mk 1 1 (kc (.tc (.sc (.int .i64 1)))))] (G3 36 17 0)) (i0 s35),
  .p (.bs 5 1 [[(.tc (.sc (.int .u8 0))), (.tc (.sc (.int .i64 0))), (.tc (.sc (.int .i64 0))), (.tc (.sc (.bool false))), (.tc (.sc (.bool false)))]] [(.mk 0 5 (h0 g35))] (G3 36 17 1)) (i0 s36),
  .p (.mv (h0 g36)) (i0 s2)])
 .ret)
 (.seq (.reg [.p (.bin .eql (h0 g3) (kc (.tc (.sc (.int .u8 105)))) (G3 36 18 0)) (i0 s38),
  .p (.mv (h0 g38)) (i0 s37)])
 (.cond (h0 g37) (.seq (.reg [.p (.bd [(.tc (.sc (.int .u8 0))), (.tc (.sc (.int .i64 0))), (.tc (.sc (.int .i64 0))), (.tc (.sc (.bool false))), (.tc (.sc (.bool false)))] [(.mk 0 1 (kc (.tc (.sc (.int .u8 9))))), (.mk 1 1 (kc (.tc (.sc (.int .i64 14))))), (.mk 3 1 (kc (.tc (.sc (.bool true))))), (.mk 4 1 (kc (.tc (.sc (.bool true)))))] (G3 36 19 0)) (i0 s39),
  .p (.bs 5 1 [[(.tc (.sc (.int .u8 0))), (.tc (.sc (.int .i64 0))), (.tc (.sc (.int .i64 0))), (.tc (.sc (.bool false))), (.tc (.sc (.bool false)))]] [(.mk 0 5 (h0 g39))] (G3 36 19 1)) (i0 s40),
  .p (.mv (h0 g40)) (i0 s2)])
 .ret)
 (.seq (.reg [.p (.bin .eql (h0 g3) (kc (.tc (.sc (.int .u8 108)))) (G3 36 20 0)) (i0 s42),
  .p (.mv (h0 g42)) (i0 s41)])
 (.cond (h0 g41) (.seq (.reg [.p (.bd [(.tc (.sc (.int .u8 0))), (.tc (.sc (.int .i64 0))), (.tc (.sc (.int .i64 0))), (.tc (.sc (.bool false))), (.tc (.sc (.bool false)))] [(.mk 0 1 (kc (.tc (.sc (.int .u8 9))))), (.mk 1 1 (kc (.tc (.sc (.int .i64 12))))), (.mk 2 1 (kc (.tc (.sc (.int .i64 2))))), (.mk 3 1 (kc (.tc (.sc (.bool true))))), (.mk 4 1 (kc (.tc (.sc (.bool true)))))] (G3 36 21 0)) (i0 s43),
  .p (.bs 5 1 [[(.tc (.sc (.int .u8 0))), (.tc (.sc (.int .i64 0))), (.tc (.sc (.int .i64 0))), (.tc (.sc (.bool false))), (.tc (.sc (.bool false)))]] [(.mk 0 5 (h0 g43))] (G3 36 21 1)) (i0 s44),
  .p (.mv (h0 g44)) (i0 s2)])
 .ret)
 (.seq (.reg [.p (.bin .eql (h0 g3) (kc (.tc (.sc (.int .u8 109)))) (G3 36 22 0)) (i0 s46),
  .p (.mv (h0 g46)) (i0 s45)])
 (.cond (h0 g45) (.seq (.reg [.p (.bd [(.tc (.sc (.int .u8 0))), (.tc (.sc (.int .i64 0))), (.tc (.sc (.int .i64 0))), (.tc (.sc (.bool false))), (.tc (.sc (.bool false)))] [(.mk 0 1 (kc (.tc (.sc (.int .u8 9))))), (.mk 1 1 (kc (.tc (.sc (.int .i64 12))))), (.mk 2 1 (kc (.tc (.sc (.int .i64 1))))), (.mk 3 1 (kc (.tc (.sc (.bool true))))), (.mk 4 1 (kc (.tc (.sc (.bool true)))))] (G3 36 23 0)) (i0 s47),
  .p (.bs 5 1 [[(.tc (.sc (.int .u8 0))), (.tc (.sc (.int .i64 0))), (.tc (.sc (.int .i64 0))), (.tc (.sc (.bool false))), (.tc (.sc (.bool false)))]] [(.mk 0 5 (h0 g47))] (G3 36 23 1)) (i0 s48),
  .p (.mv (h0 g48)) (i0 s2)])
 .ret)
 (.seq (.reg [.p (.bin .eql (h0 g3) (kc (.tc (.sc (.int .u8 111)))) (G3 36 24 0)) (i0 s50),
  .p (.mv (h0 g50)) (i0 s49)])
 (.cond (h0 g49) (.seq (.reg [.p (.bd [(.tc (.sc (.int .u8 0))), (.tc (.sc (.int .i64 0))), (.tc (.sc (.int .i64 0))), (.tc (.sc (.bool false))), (.tc (.sc (.bool false)))] [(.mk 0 1 (kc (.tc (.sc (.int .u8 9))))), (.mk 1 1 (kc (.tc (.sc (.int .i64 12))))), (.mk 3 1 (kc (.tc (.sc (.bool true))))), (.mk 4 1 (kc (.tc (.sc (.bool true)))))] (G3 36 25 0)) (i0 s51),
  .p (.bs 5 1 [[(.tc (.sc (.int .u8 0))), (.tc (.sc (.int .i64 0))), (.tc (.sc (.int .i64 0))), (.tc (.sc (.bool false))), (.tc (.sc (.bool false)))]] [(.mk 0 5 (h0 g51))] (G3 36 25 1)) (i0 s52),
  .p (.mv (h0 g52)) (i0 s2)])
 .ret)
 (.seq (.reg [.p (.bin .eql (h0 g3) (kc (.tc (.sc (.int .u8 117)))) (G3 36 26 0)) (i0 s54),
  .p (.mv (h0 g54)) (i0 s53)])
 (.cond (h0 g53) (.seq (.reg [.p (.bd [(.tc (.sc (.int .u8 0))), (.tc (.sc (.int .i64 0))), (.tc (.sc (.int .i64 0))), (.tc (.sc (.bool false))), (.tc (.sc (.bool false)))] [(.mk 0 1 (kc (.tc (.sc (.int .u8 9))))), (.mk 1 1 (kc (.tc (.sc (.int .i64 5)))))] (G3 36 27 0)) (i0 s55),
  .p (.bs 5 1 [[(.tc (.sc (.int .u8 0))), (.tc (.sc (.int .i64 0))), (.tc (.sc (.int .i64 0))), (.tc (.sc (.bool false))), (.tc (.sc (.bool false)))]] [(.mk 0 5 (h0 g55))] (G3 36 27 1)) (i0 s56),
  .p (.mv (h0 g56)) (i0 s2)])
 .ret)
 (.seq (.reg [.p (.bin .eql (h0 g3) (kc (.tc (.sc (.int .u8 114)))) (G3 36 28 0)) (i0 s58),
  .p (.mv (h0 g58)) (i0 s57)])
 (.cond (h0 g57) (.seq (.reg [.p (.bd [(.tc (.sc (.int .u8 0))), (.tc (.sc (.int .i64 0))), (.tc (.sc (.int .i64 0))), (.tc (.sc (.bool false))), (.tc (.sc (.bool false)))] [(.mk 0 1 (kc (.tc (.sc (.int .u8 10))))), (.mk 1 1 (kc (.tc (.sc (.int .i64 19))))), (.mk 2 1 (kc (.tc (.sc (.int .i64 2))))), (.mk 3 1 (kc (.tc (.sc (.bool true))))), (.mk 4 1 (kc (.tc (.sc (.bool true)))))] (G3 36 29 0)) (i0 s59),
  .p (.bs 5 1 [[(.tc (.sc (.int .u8 0))), (.tc (.sc (.int .i64 0))), (.tc (.sc (.int .i64 0))), (.tc (.sc (.bool false))), (.tc (.sc (.bool false)))]] [(.mk 0 5 (h0 g59))] (G3 36 29 1)) (i0 s60),
  .p (.mv (h0 g60)) (i0 s2)])
 .ret)
 (.seq (.reg [.p (.bin .eql (h0 g3) (kc (.tc (.sc (.int .u8 120)))) (G3 36 30 0)) (i0 s62),
  .p (.mv (h0 g62)) (i0 s61)])
 (.cond (h0 g61) (.seq (.reg [.p (.bd [(.tc (.sc (.int .u8 0))), (.tc (.sc (.int .i64 0))), (.tc (.sc (.int .i64 0))), (.tc (.sc (.bool false))), (.tc (.sc (.bool false)))] [(.mk 0 1 (kc (.tc (.sc (.int .u8 10))))), (.mk 1 1 (kc (.tc (.sc (.int .i64 24))))), (.mk 2 1 (kc (.tc (.sc (.int .i64 2))))), (.mk 3 1 (kc (.tc (.sc (.bool true))))), (.mk 4 1 (kc (.tc (.sc (.bool true)))))] (G3 36 31 0)) (i0 s63),
  .p (.bs 5 1 [[(.tc (.sc (.int .u8 0))), (.tc (.sc (.int .i64 0))), (.tc (.sc (.int .i64 0))), (.tc (.sc (.bool false))), (.tc (.sc (.bool false)))]] [(.mk 0 5 (h0 g63))] (G3 36 31 1)) (i1 s0),
  .p (.mv (h1 g0)) (i0 s2)])
 .ret)
 (.seq (.reg [.p (.bin .eql (h0 g3) (kc (.tc (.sc (.int .u8 121)))) (G3 36 32 0)) (i1 s2),
  .p (.mv (h1 g2)) (i1 s1)])
 (.cond (h1 g1) (.seq (.reg [.p (.bd [(.tc (.sc (.int .u8 0))), (.tc (.sc (.int .i64 0))), (.tc (.sc (.int .i64 0))), (.tc (.sc (.bool false))), (.tc (.sc (.bool false)))] [(.mk 0 1 (kc (.tc (.sc (.int .u8 10))))), (.mk 1 1 (kc (.tc (.sc (.int .i64 12))))), (.mk 2 1 (kc (.tc (.sc (.int .i64 2))))), (.mk 3 1 (kc (.tc (.sc (.bool true))))), (.mk 4 1 (kc (.tc (.sc (.bool true)))))] (G3 36 33 0)) (i1 s3),
  .p (.bs 5 1 [[(.tc (.sc (.int .u8 0))), (.tc (.sc (.int .i64 0))), (.tc (.sc (.int .i64 0))), (.tc (.sc (.bool false))), (.tc (.sc (.bool false)))]] [(.mk 0 5 (h1 g3))] (G3 36 33 1)) (i1 s4),
  .p (.mv (h1 g4)) (i0 s2)])
 .ret)
 .skip))))))))))))))))))))))))))))))))))
 (.seq (.reg [.p (.bd [(.tc (.sc (.int .u8 0))), (.tc (.sc (.int .i64 0))), (.tc (.sc (.int .i64 0))), (.tc (.sc (.bool false))), (.tc (.sc (.bool false)))] [(.mk 0 1 (kc (.tc (.sc (.int .u8 11))))), (.mk 1 1 (kc (.tc (.sc (.int .i64 11)))))] (G3 36 34 0)) (i1 s5),
  .p (.bs 5 1 [[(.tc (.sc (.int .u8 0))), (.tc (.sc (.int .i64 0))), (.tc (.sc (.int .i64 0))), (.tc (.sc (.bool false))), (.tc (.sc (.bool false)))]] [(.mk 0 5 (h1 g5))] (G3 36 34 1)) (i1 s6),
  .p (.mv (h1 g6)) (i0 s2)])
 .ret))),
 [.tmp (h0 g2)]⟩
theorem ffIsa36_ok : compF SBase 36 = ffIsa36 := by kernel_rfl
noncomputable def ffIsa13 : FF := .t2 ⟨35,
 (.seq (.reg [.p (.al 5 [(.sc (.int .u8 0)), (.sc (.int .i64 0)), (.sc (.int .i64 0)), (.sc (.bool false)), (.sc (.bool false))]) s4,
  .p (.mv (kc (.tc (.sc (.int .i64 0))))) s5,
  .p (.mv (kc (.tc (.sc (.bool false))))) s6])
 (.seq (.reg [.p (.mv g0) s12,
  .p (.call 32 [g12] (G2 13 1 1)) s13,
  .p (.mv g13) s11,
  .p (.ex g11 0) s14,
  .p (.ex g11 1) s15,
  .p (.al 5 [(.sc (.int .u8 0)), (.sc (.string ⟨#[]⟩)), (.sc (.int .u8 0)), (.sc (.int .u8 0)), (.sc (.slice none 0 0))]) s7,
  .n (.st 5 g7 g14 (G2 13 1 6)),
  .p (.mv g15) s8])
 (.seq (.reg [.p (.mv (kc (.tc (.sc (.int .i64 24))))) s5])
 (.seq (.seq (.reg [.p (.fa 4 g7) s16,
  .p (.ld false 1 g16) s17,
  .p (.len g17 (G2 13 3 2)) s18,
  .p (.mv (kc (.tc (.sc (.int .i64 0))))) s19])
 (.block 0 (.loop 4294967296 (.seq (.reg [.p (.bin .lss g19 g18 (G2 13 4 0)) s20])
 (.seq (.cond g20 .skip
 (.exit 0))
 (.seq (.block 1 (.seq (.reg [.p (.ia 5 g17 g19 (G2 13 5 0)) s21,
  .p (.ld true 5 g21) s22,
  .p (.al 5 [(.sc (.int .u8 0)), (.sc (.int .i64 0)), (.sc (.int .i64 0)), (.sc (.bool false)), (.sc (.bool false))]) s10,
  .n (.st 5 g10 g22 (G2 13 5 3))])
 (.seq (.reg [.p (.mv g5) s23,
  .p (.fa 1 g10) s24,
  .p (.ld false 1 g24) s25,
  .p (.bin .sub g23 g25 (G2 13 6 3)) s26,
  .p (.mv g26) s5])
 (.seq (.reg [.p (.fa 0 g10) s27,
  .p (.ld false 1 g27) s28,
  .p (.mv g1) s29,
  .p (.bin .eql g28 g29 (G2 13 7 3)) s30])
 (.cond g30 (.seq (.reg [.p (.ld true 5 g10) s31,
  .p (.mv g5) s32,
  .n (.st 5 g4 g31 (G2 13 8 2)),
  .p (.mv g32) s5,
  .p (.mv (kc (.tc (.sc (.bool true))))) s6])
 .ret)
 .skip)))))
 (.reg [.p (.bin .add g19 (kc (.tc (.sc (.int .i64 1)))) (G2 13 9 0)) s33,
  .p (.mv g33) s19])))))))
 (.seq (.reg [.p (.bd [(.tc (.sc (.int .u8 0))), (.tc (.sc (.int .i64 0))), (.tc (.sc (.int .i64 0))), (.tc (.sc (.bool false))), (.tc (.sc (.bool false)))] [] (G2 13 10 0)) s34,
  .n (.st 5 g4 g34 (G2 13 10 1)),
  .p (.mv (kc (.tc (.sc (.int .i64 0))))) s5,
  .p (.mv (kc (.tc (.sc (.bool false))))) s6])
 .ret))))),
 [.cell g4 true 5, .tmp g5, .tmp g6]⟩
theorem ffIsa13_ok : compF SBase 13 = ffIsa13 := by kernel_rfl
noncomputable def ffIsa14 : FF := .t2 ⟨52,
 (.seq (.reg [.p (.al 5 [(.sc (.int .u8 0)), (.sc (.int .i64 0)), (.sc (.int .i64 0)), (.sc (.bool false)), (.sc (.bool false))]) s4,
  .p (.mv (kc (.tc (.sc (.int .i64 0))))) s5,
  .p (.mv (kc (.tc (.sc (.bool false))))) s6])
 (.seq (.reg [.p (.mv g0) s13,
  .p (.call 12 [g13] (G2 14 1 1)) s14,
  .p (.mv g14) s12,
  .p (.ex g12 0) s15,
  .p (.ex g12 1) s16,
  .p (.al 5 [(.sc (.int .u8 0)), (.sc (.string ⟨#[]⟩)), (.sc (.int .u8 0)), (.sc (.int .u8 0)), (.sc (.slice none 0 0))]) s7,
  .n (.st 5 g7 g15 (G2 14 1 6)),
  .p (.mv g16) s8])
 (.seq (.seq (.reg [.p (.mv (kc (.tc (.sc (.int .i64 0))))) s9])
 (.block 0 (.loop 4294967296 (.seq (.seq (.reg [.p (.mv g9) s17,
  .p (.fa 4 g7) s18,
  .p (.ld false 1 g18) s19,
  .p (.len g19 (G2 14 3 3)) s20,
  .p (.bin .lss g17 g20 (G2 14 3 4)) s21])
 (.cond g21 .skip
 (.exit 0)))
 (.seq (.block 1 (.seq (.seq (.reg [.p (.fa 4 g7) s24,
  .p (.ld false 1 g24) s25,
  .p (.mv g9) s26,
  .p (.ia 5 g25 g26 (G2 14 4 3)) s27,
  .p (.fa 0 g27) s28,
  .p (.ld false 1 g28) s29,
  .p (.mv g1) s30,
  .p (.bin .neq g29 g30 (G2 14 4 7)) s31])
 (.cond g31 (.exit 1)
 .skip))
 (.seq (.reg [.p (.mv (kc (.tc (.sc (.int .i64 24))))) s10])
 (.seq (.seq (.reg [.p (.mv (kc (.tc (.sc (.int .i64 0))))) s11])
 (.block 2 (.loop 4294967296 (.seq (.seq (.reg [.p (.mv g11) s32,
  .p (.mv g9) s33,
  .p (.bin .leq g32 g33 (G2 14 7 2)) s34])
 (.cond g34 .skip
 (.exit 2)))
 (.seq (.block 3 (.reg [.p (.mv g10) s37,
  .p (.fa 4 g7) s38,
  .p (.ld false 1 g38) s39,
  .p (.mv g11) s40,
  .p (.ia 5 g39 g40 (G2 14 8 4)) s41,
  .p (.fa 1 g41) s42,
  .p (.ld false 1 g42) s43,
  .p (.bin .sub g37 g43 (G2 14 8 7)) s44,
  .p (.mv g44) s10]))
 (.reg [.p (.mv g11) s35,
  .p (.bin .add g35 (kc (.tc (.sc (.int .i64 1)))) (G2 14 9 1)) s36,
  .p (.mv g36) s11]))))))
 (.seq (.reg [.p (.fa 4 g7) s45,
  .p (.ld false 1 g45) s46,
  .p (.mv g9) s47,
  .p (.ia 5 g46 g47 (G2 14 10 3)) s48,
  .p (.ld true 5 g48) s49,
  .p (.mv g10) s50,
  .n (.st 5 g4 g49 (G2 14 10 6)),
  .p (.mv g50) s5,
  .p (.mv (kc (.tc (.sc (.bool true))))) s6])
 .ret)))))
 (.reg [.p (.mv g9) s22,
  .p (.bin .add g22 (kc (.tc (.sc (.int .i64 1)))) (G2 14 11 1)) s23,
  .p (.mv g23) s9]))))))
 (.seq (.reg [.p (.bd [(.tc (.sc (.int .u8 0))), (.tc (.sc (.int .i64 0))), (.tc (.sc (.int .i64 0))), (.tc (.sc (.bool false))), (.tc (.sc (.bool false)))] [] (G2 14 12 0)) s51,
  .n (.st 5 g4 g51 (G2 14 12 1)),
  .p (.mv (kc (.tc (.sc (.int .i64 0))))) s5,
  .p (.mv (kc (.tc (.sc (.bool false))))) s6])
 .ret)))),
 [.cell g4 true 5, .tmp g5, .tmp g6]⟩
theorem ffIsa14_ok : compF SBase 14 = ffIsa14 := by kernel_rfl
noncomputable def ffIsa15 : FF := .t2 ⟨19,
 (.seq (.reg [.p (.mv (kc (.tc (.sc (.int .u8 0))))) s2,
  .p (.mv (kc (.tc (.sc (.bool false))))) s3])
 (.seq (.seq (.reg [.p (.call 37 [] (G2 15 1 0)) s6,
  .p (.len g6 (G2 15 1 1)) s7,
  .p (.mv (kc (.tc (.sc (.int .i64 0))))) s8])
 (.block 0 (.loop 4294967296 (.seq (.reg [.p (.bin .lss g8 g7 (G2 15 2 0)) s9])
 (.seq (.cond g9 .skip
 (.exit 0))
 (.seq (.block 1 (.seq (.reg [.p (.ia 5 g6 g8 (G2 15 3 0)) s10,
  .p (.ld true 5 g10) s11,
  .p (.al 5 [(.sc (.int .u8 0)), (.sc (.string ⟨#[]⟩)), (.sc (.int .u8 0)), (.sc (.int .u8 0)), (.sc (.slice none 0 0))]) s5,
  .n (.st 5 g5 g11 (G2 15 3 3))])
 (.seq (.reg [.p (.fa 1 g5) s12,
  .p (.ld false 1 g12) s13,
  .p (.mv g0) s14,
  .p (.bin .eql g13 g14 (G2 15 4 3)) s15])
 (.cond g15 (.seq (.reg [.p (.fa 0 g5) s16,
  .p (.ld false 1 g16) s17,
  .p (.mv g17) s2,
  .p (.mv (kc (.tc (.sc (.bool true))))) s3])
 .ret)
 .skip))))
 (.reg [.p (.bin .add g8 (kc (.tc (.sc (.int .i64 1)))) (G2 15 6 0)) s18,
  .p (.mv g18) s8])))))))
 (.seq (.reg [.p (.mv (kc (.tc (.sc (.int .u8 0))))) s2,
  .p (.mv (kc (.tc (.sc (.bool false))))) s3])
 .ret))),
 [.tmp g2, .tmp g3]⟩
theorem ffIsa15_ok : compF SBase 15 = ffIsa15 := by kernel_rfl
noncomputable def ffIsa16 : FF := .t2 ⟨25,
 (.seq (.reg [.p (.mv (kc (.tc (.sc (.int .u8 0))))) s2,
  .p (.mv (kc (.tc (.sc (.bool false))))) s3])
 (.seq (.seq (.reg [.p (.mv (kc (.tc (.sc (.int .i64 1))))) s4])
 (.block 0 (.loop 4294967296 (.seq (.seq (.reg [.p (.mv g4) s9,
  .p (.bin .leq g9 (kc (.tc (.sc (.int .i64 31)))) (G2 16 2 1)) s10])
 (.cond g10 .skip
 (.exit 0)))
 (.seq (.block 1 (.seq (.reg [.p (.mv g4) s14,
  .p (.call 34 [g14] (G2 16 3 1)) s15,
  .p (.mv g15) s13,
  .p (.ex g13 0) s16,
  .p (.ex g13 1) s17,
  .p (.ex g13 2) s18,
  .p (.ex g13 3) s19,
  .p (.mv g16) s5,
  .p (.mv g17) s6,
  .p (.mv g18) s7,
  .p (.mv g19) s8])
 (.seq (.reg [.p (.mv g5) s20,
  .p (.mv g0) s21,
  .p (.bin .eql g20 g21 (G2 16 4 2)) s22])
 (.cond g22 (.seq (.reg [.p (.mv g4) s23,
  .p (.cv .u8 g23 (G2 16 5 1)) s24,
  .p (.mv g24) s2,
  .p (.mv (kc (.tc (.sc (.bool true))))) s3])
 .ret)
 .skip))))
 (.reg [.p (.mv g4) s11,
  .p (.bin .add g11 (kc (.tc (.sc (.int .i64 1)))) (G2 16 6 1)) s12,
  .p (.mv g12) s4]))))))
 (.seq (.reg [.p (.mv (kc (.tc (.sc (.int .u8 0))))) s2,
  .p (.mv (kc (.tc (.sc (.bool false))))) s3])
 .ret))),
 [.tmp g2, .tmp g3]⟩
theorem ffIsa16_ok : compF SBase 16 = ffIsa16 := by kernel_rfl
noncomputable def ffIsa11 : FF := .t2 ⟨49,
 (.seq (.reg [.p (.mv (kc (.tc (.sc (.bool false))))) s0])
 (.seq (.reg [.p (.call 10 [(kc (.tc (.sc (.int .u8 30))))] (G2 11 1 0)) s7,
  .p (.mv g7) s6,
  .p (.ex g6 0) s8,
  .p (.ex g6 1) s9,
  .p (.al 5 [(.sc (.int .u8 0)), (.sc (.string ⟨#[]⟩)), (.sc (.int .u8 0)), (.sc (.int .u8 0)), (.sc (.slice none 0 0))]) s1,
  .n (.st 5 g1 g8 (G2 11 1 5)),
  .p (.mv g9) s2])
 (.seq (.reg [.p (.call 13 [(kc (.tc (.sc (.int .u8 21)))), (kc (.tc (.sc (.int .u8 9))))] (G2 11 2 0)) s11,
  .p (.mv g11) s10,
  .p (.ex g10 0) s12,
  .p (.ex g10 1) s13,
  .p (.ex g10 2) s14,
  .p (.al 5 [(.sc (.int .u8 0)), (.sc (.int .i64 0)), (.sc (.int .i64 0)), (.sc (.bool false)), (.sc (.bool false))]) s3,
  .n (.st 5 g3 g12 (G2 11 2 6)),
  .p (.mv g13) s4,
  .p (.mv g14) s5])
 (.seq (.reg [.p (.mv g2) s15,
  .p (.mv g15) s16,
  .gp g16 true (.fa 1 g1) s17,
  .gp g16 true (.ld false 1 g17) s18,
  .gp g16 true (.bin .eql g18 (kc (.tc (.sc (.string ⟨#[108, 111, 111, 112, 105]⟩)))) (G2 11 3 4)) s19,
  .p (.pk g16 g19 (kc (.tc (.sc (.bool false))))) s20,
  .p (.mv g20) s21,
  .gp g21 true (.fa 2 g1) s22,
  .gp g21 true (.ld false 1 g22) s23,
  .gp g21 true (.bin .eql g23 (kc (.tc (.sc (.int .u8 6)))) (G2 11 3 9)) s24,
  .p (.pk g21 g24 (kc (.tc (.sc (.bool false))))) s25,
  .p (.mv g25) s26,
  .gp g26 true (.fa 3 g1) s27,
  .gp g26 true (.ld false 1 g27) s28,
  .gp g26 true (.bin .eql g28 (kc (.tc (.sc (.int .u8 8)))) (G2 11 3 14)) s29,
  .p (.pk g26 g29 (kc (.tc (.sc (.bool false))))) s30,
  .p (.mv g30) s31,
  .gp g31 true (.fa 4 g1) s32,
  .gp g31 true (.ld false 1 g32) s33,
  .gp g31 true (.len g33 (G2 11 3 19)) s34,
  .gp g31 true (.bin .eql g34 (kc (.tc (.sc (.int .i64 3)))) (G2 11 3 20)) s35,
  .p (.pk g31 g35 (kc (.tc (.sc (.bool false))))) s36,
  .p (.mv g36) s37,
  .gp g37 true (.ld true 5 g3) s38,
  .gp g37 true (.bd [(.tc (.sc (.int .u8 0))), (.tc (.sc (.int .i64 0))), (.tc (.sc (.int .i64 0))), (.tc (.sc (.bool false))), (.tc (.sc (.bool false)))] [(.mk 0 1 (kc (.tc (.sc (.int .u8 9))))), (.mk 1 1 (kc (.tc (.sc (.int .i64 12))))), (.mk 2 1 (kc (.tc (.sc (.int .i64 2))))), (.mk 3 1 (kc (.tc (.sc (.bool true))))), (.mk 4 1 (kc (.tc (.sc (.bool true)))))] (G2 11 3 24)) s39,
  .gp g37 true (.eqs .eql [(.mk 0 .int), (.mk 1 .int), (.mk 2 .int), (.mk 3 .bool), (.mk 4 .bool)] g38 g39 (G2 11 3 25)) s40,
  .p (.pk g37 g40 (kc (.tc (.sc (.bool false))))) s41,
  .p (.mv g41) s42,
  .gp g42 true (.mv g4) s43,
  .gp g42 true (.bin .eql g43 (kc (.tc (.sc (.int .i64 2)))) (G2 11 3 29)) s44,
  .p (.pk g42 g44 (kc (.tc (.sc (.bool false))))) s45,
  .p (.mv g45) s46,
  .gp g46 true (.mv g5) s47,
  .p (.pk g46 g47 (kc (.tc (.sc (.bool false))))) s48,
  .p (.mv g48) s0])
 .ret)))),
 [.tmp g0]⟩
theorem ffIsa11_ok : compF SBase 11 = ffIsa11 := by kernel_rfl

noncomputable def codeIsa (f : FuncId) : FF := match f with
  | 4 => ffIsa4
  | 10 => ffIsa10
  | 32 => ffIsa32
  | 37 => ffIsa37
  | 44 => ffIsa44
  | 17 => ffIsa17
  | 56 => ffIsa56
  | 58 => ffIsa58
  | 45 => ffIsa45
  | 51 => ffIsa51
  | 46 => ffIsa46
  | 47 => ffIsa47
  | 48 => ffIsa48
  | 49 => ffIsa49
  | 50 => ffIsa50
  | 52 => ffIsa52
  | 33 => ffIsa33
  | 12 => ffIsa12
  | 34 => ffIsa34
  | 35 => ffIsa35
  | 18 => ffIsa18
  | 36 => ffIsa36
  | 13 => ffIsa13
  | 14 => ffIsa14
  | 15 => ffIsa15
  | 16 => ffIsa16
  | 11 => ffIsa11
  | _ => .bad
theorem codeIsa_ok : ∀ f, codeIsa f = .bad ∨ codeIsa f = compF SBase f := by
  intro f
  unfold codeIsa
  split
  · exact .inr ffIsa4_ok.symm
  · exact .inr ffIsa10_ok.symm
  · exact .inr ffIsa32_ok.symm
  · exact .inr ffIsa37_ok.symm
  · exact .inr ffIsa44_ok.symm
  · exact .inr ffIsa17_ok.symm
  · exact .inr ffIsa56_ok.symm
  · exact .inr ffIsa58_ok.symm
  · exact .inr ffIsa45_ok.symm
  · exact .inr ffIsa51_ok.symm
  · exact .inr ffIsa46_ok.symm
  · exact .inr ffIsa47_ok.symm
  · exact .inr ffIsa48_ok.symm
  · exact .inr ffIsa49_ok.symm
  · exact .inr ffIsa50_ok.symm
  · exact .inr ffIsa52_ok.symm
  · exact .inr ffIsa33_ok.symm
  · exact .inr ffIsa12_ok.symm
  · exact .inr ffIsa34_ok.symm
  · exact .inr ffIsa35_ok.symm
  · exact .inr ffIsa18_ok.symm
  · exact .inr ffIsa36_ok.symm
  · exact .inr ffIsa13_ok.symm
  · exact .inr ffIsa14_ok.symm
  · exact .inr ffIsa15_ok.symm
  · exact .inr ffIsa16_ok.symm
  · exact .inr ffIsa11_ok.symm
  · exact .inl rfl
end Go.Proofs.Ytgpijioodocplaa
