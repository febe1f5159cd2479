/- Code made ready ahead, EncKnown: each is what the program says. -/
import Derived.Test.YtdafainfcegfkaaDoorKcBase
import Derived.Test.YtdafainfcegfkaaDoorSyGlob
set_option linter.unusedVariables false
set_option maxRecDepth 100000
namespace Go.Proofs.YtdafainfcegfkaaDoor
open Go

/-- What coxless/bits.codeAt holds. -/
noncomputable def glEncKnown2 : List TC := [(.sc (.int .i64 26)), (.sc (.int .i64 6))]
noncomputable def gwEncKnown2 : Nat := 2
/-- What coxless/bits.ends holds. -/
noncomputable def glEncKnown1 : List TC := [(.sc (.int .i64 0)), (.sc (.int .i64 14)), (.sc (.int .i64 16)), (.sc (.int .i64 10))]
noncomputable def gwEncKnown1 : Nat := 4
/-- What coxless/bits.parseAt holds. -/
noncomputable def glEncKnown3 : List TC := [(.sc (.int .i64 14)), (.sc (.int .i64 2))]
noncomputable def gwEncKnown3 : Nat := 2
noncomputable def globEncKnown : List (Nat × List TC) := [(2, glEncKnown2), (1, glEncKnown1), (3, glEncKnown3)]
noncomputable def SBEncKnown : Base := ⟨XP, globAt globEncKnown, 4294967296⟩
noncomputable def ff5 : FF := .t3 ⟨126,
 (.seq (.reg [.p (.mv (kc (.tc (.sc (.bool false))))) (i0 s0)])
 (.seq (.reg [.p (.bd [(.tc (.sc (.int .u8 0))), (.tc (.sc (.int .u8 0))), (.tc (.sc (.int .u8 0))), (.tc (.sc (.int .u8 0))), (.tc (.sc (.int .u8 0))), (.tc (.sc (.int .u8 0))), (.tc (.sc (.int .u8 0))), (.tc (.sc (.bool false))), (.tc (.sc (.bool false))), (.tc (.sc (.int .u16 0))), (.tc (.sc (.int .i64 0)))] [(.mk 0 1 (kc (.tc (.sc (.int .u8 27))))), (.mk 10 1 (kc (.tc (.sc (.int .i64 8)))))] (G3 5 1 0)) (i0 s25),
  .p (.call 15 [(h0 g25), (kc (.tc (.sc (.int .u32 12))))] (G3 5 1 1)) (i0 s26),
  .p (.mv (h0 g26)) (i0 s24),
  .p (.ex (h0 g24) 0) (i0 s27),
  .p (.ex (h0 g24) 1) (i0 s28),
  .p (.ex (h0 g24) 2) (i0 s29),
  .p (.mv (h0 g27)) (i0 s1),
  .p (.mv (h0 g28)) (i0 s2),
  .p (.mv (h0 g29)) (i0 s3)])
 (.seq (.reg [.p (.mv (h0 g1)) (i0 s31),
  .p (.call 16 [(h0 g31), (kc (.tc (.sc (.int .u32 0)))), (kc (.tc (.sc (.bool false)))), (kc (.tc (.sc (.int .u32 100))))] (G3 5 2 1)) (i0 s32),
  .p (.mv (h0 g32)) (i0 s30),
  .p (.ex (h0 g30) 0) (i0 s33),
  .p (.ex (h0 g30) 1) (i0 s34),
  .p (.al 11 [(.sc (.int .u8 0)), (.sc (.int .u8 0)), (.sc (.int .u8 0)), (.sc (.int .u8 0)), (.sc (.int .u8 0)), (.sc (.int .u8 0)), (.sc (.int .u8 0)), (.sc (.bool false)), (.sc (.bool false)), (.sc (.int .u16 0)), (.sc (.int .i64 0))]) (i0 s4),
  .n (.st 11 (h0 g4) (h0 g33) (G3 5 2 6)),
  .p (.mv (h0 g34)) (i0 s5)])
 (.seq (.reg [.p (.bd [(.tc (.sc (.int .u8 0))), (.tc (.sc (.int .u8 0))), (.tc (.sc (.int .u8 0))), (.tc (.sc (.int .u8 0))), (.tc (.sc (.int .u8 0))), (.tc (.sc (.int .u8 0))), (.tc (.sc (.int .u8 0))), (.tc (.sc (.bool false))), (.tc (.sc (.bool false))), (.tc (.sc (.int .u16 0))), (.tc (.sc (.int .i64 0)))] [(.mk 0 1 (kc (.tc (.sc (.int .u8 8))))), (.mk 1 1 (kc (.tc (.sc (.int .u8 1))))), (.mk 10 1 (kc (.tc (.sc (.int .i64 (-1))))))] (G3 5 3 0)) (i0 s36),
  .p (.call 15 [(h0 g36), (kc (.tc (.sc (.int .u32 0))))] (G3 5 3 1)) (i0 s37),
  .p (.mv (h0 g37)) (i0 s35),
  .p (.ex (h0 g35) 0) (i0 s38),
  .p (.ex (h0 g35) 1) (i0 s39),
  .p (.ex (h0 g35) 2) (i0 s40),
  .p (.mv (h0 g38)) (i0 s6),
  .p (.mv (h0 g39)) (i0 s7),
  .p (.mv (h0 g40)) (i0 s8)])
 (.seq (.reg [.p (.bd [(.tc (.sc (.int .u8 0))), (.tc (.sc (.int .u8 0))), (.tc (.sc (.int .u8 0))), (.tc (.sc (.int .u8 0))), (.tc (.sc (.int .u8 0))), (.tc (.sc (.int .u8 0))), (.tc (.sc (.int .u8 0))), (.tc (.sc (.bool false))), (.tc (.sc (.bool false))), (.tc (.sc (.int .u16 0))), (.tc (.sc (.int .i64 0)))] [(.mk 0 1 (kc (.tc (.sc (.int .u8 8))))), (.mk 1 1 (kc (.tc (.sc (.int .u8 1))))), (.mk 10 1 (kc (.tc (.sc (.int .i64 305419896)))))] (G3 5 4 0)) (i0 s42),
  .p (.call 15 [(h0 g42), (kc (.tc (.sc (.int .u32 0))))] (G3 5 4 1)) (i0 s43),
  .p (.mv (h0 g43)) (i0 s41),
  .p (.ex (h0 g41) 0) (i0 s44),
  .p (.ex (h0 g41) 1) (i0 s45),
  .p (.ex (h0 g41) 2) (i0 s46),
  .p (.mv (h0 g44)) (i0 s9),
  .p (.mv (h0 g45)) (i0 s10),
  .p (.mv (h0 g46)) (i0 s11)])
 (.seq (.reg [.p (.call 16 [(kc (.tc (.sc (.int .u32 0)))), (kc (.tc (.sc (.int .u32 0)))), (kc (.tc (.sc (.bool false)))), (kc (.tc (.sc (.int .u32 0))))] (G3 5 5 0)) (i0 s48),
  .p (.mv (h0 g48)) (i0 s47),
  .p (.ex (h0 g47) 0) (i0 s49),
  .p (.ex (h0 g47) 1) (i0 s50),
  .p (.al 11 [(.sc (.int .u8 0)), (.sc (.int .u8 0)), (.sc (.int .u8 0)), (.sc (.int .u8 0)), (.sc (.int .u8 0)), (.sc (.int .u8 0)), (.sc (.int .u8 0)), (.sc (.bool false)), (.sc (.bool false)), (.sc (.int .u16 0)), (.sc (.int .i64 0))]) (i0 s12),
  .n (.st 11 (h0 g12) (h0 g49) (G3 5 5 5)),
  .p (.mv (h0 g50)) (i0 s13)])
 (.seq (.reg [.p (.call 16 [(kc (.tc (.sc (.int .u32 67108865)))), (kc (.tc (.sc (.int .u32 0)))), (kc (.tc (.sc (.bool false)))), (kc (.tc (.sc (.int .u32 0))))] (G3 5 6 0)) (i0 s52),
  .p (.mv (h0 g52)) (i0 s51),
  .p (.ex (h0 g51) 0) (i0 s53),
  .p (.ex (h0 g51) 1) (i0 s54),
  .p (.al 11 [(.sc (.int .u8 0)), (.sc (.int .u8 0)), (.sc (.int .u8 0)), (.sc (.int .u8 0)), (.sc (.int .u8 0)), (.sc (.int .u8 0)), (.sc (.int .u8 0)), (.sc (.bool false)), (.sc (.bool false)), (.sc (.int .u16 0)), (.sc (.int .i64 0))]) (i0 s14),
  .n (.st 11 (h0 g14) (h0 g53) (G3 5 6 5)),
  .p (.mv (h0 g54)) (i0 s15)])
 (.seq (.reg [.p (.call 16 [(kc (.tc (.sc (.int .u32 67108864)))), (kc (.tc (.sc (.int .u32 0)))), (kc (.tc (.sc (.bool true)))), (kc (.tc (.sc (.int .u32 0))))] (G3 5 7 0)) (i0 s56),
  .p (.mv (h0 g56)) (i0 s55),
  .p (.ex (h0 g55) 0) (i0 s57),
  .p (.ex (h0 g55) 1) (i0 s58),
  .p (.al 11 [(.sc (.int .u8 0)), (.sc (.int .u8 0)), (.sc (.int .u8 0)), (.sc (.int .u8 0)), (.sc (.int .u8 0)), (.sc (.int .u8 0)), (.sc (.int .u8 0)), (.sc (.bool false)), (.sc (.bool false)), (.sc (.int .u16 0)), (.sc (.int .i64 0))]) (i0 s16),
  .n (.st 11 (h0 g16) (h0 g57) (G3 5 7 5)),
  .p (.mv (h0 g58)) (i0 s17)])
 (.seq (.reg [.p (.call 16 [(kc (.tc (.sc (.int .u32 536936824)))), (kc (.tc (.sc (.int .u32 1193046)))), (kc (.tc (.sc (.bool true)))), (kc (.tc (.sc (.int .u32 0))))] (G3 5 8 0)) (i0 s60),
  .p (.mv (h0 g60)) (i0 s59),
  .p (.ex (h0 g59) 0) (i0 s61),
  .p (.ex (h0 g59) 1) (i0 s62),
  .p (.al 11 [(.sc (.int .u8 0)), (.sc (.int .u8 0)), (.sc (.int .u8 0)), (.sc (.int .u8 0)), (.sc (.int .u8 0)), (.sc (.int .u8 0)), (.sc (.int .u8 0)), (.sc (.bool false)), (.sc (.bool false)), (.sc (.int .u16 0)), (.sc (.int .i64 0))]) (i0 s18),
  .n (.st 11 (h0 g18) (h0 g61) (G3 5 8 5)),
  .p (.mv (h0 g62)) (i0 s19)])
 (.seq (.reg [.p (.call 16 [(kc (.tc (.sc (.int .u32 536985720)))), (kc (.tc (.sc (.int .u32 1193046)))), (kc (.tc (.sc (.bool true)))), (kc (.tc (.sc (.int .u32 0))))] (G3 5 9 0)) (i1 s0),
  .p (.mv (h1 g0)) (i0 s63),
  .p (.ex (h0 g63) 0) (i1 s1),
  .p (.ex (h0 g63) 1) (i1 s2),
  .p (.al 11 [(.sc (.int .u8 0)), (.sc (.int .u8 0)), (.sc (.int .u8 0)), (.sc (.int .u8 0)), (.sc (.int .u8 0)), (.sc (.int .u8 0)), (.sc (.int .u8 0)), (.sc (.bool false)), (.sc (.bool false)), (.sc (.int .u16 0)), (.sc (.int .i64 0))]) (i0 s20),
  .n (.st 11 (h0 g20) (h1 g1) (G3 5 9 5)),
  .p (.mv (h1 g2)) (i0 s21)])
 (.seq (.reg [.p (.call 16 [(kc (.tc (.sc (.int .u32 536936568)))), (kc (.tc (.sc (.int .u32 17970262)))), (kc (.tc (.sc (.bool true)))), (kc (.tc (.sc (.int .u32 0))))] (G3 5 10 0)) (i1 s4),
  .p (.mv (h1 g4)) (i1 s3),
  .p (.ex (h1 g3) 0) (i1 s5),
  .p (.ex (h1 g3) 1) (i1 s6),
  .p (.al 11 [(.sc (.int .u8 0)), (.sc (.int .u8 0)), (.sc (.int .u8 0)), (.sc (.int .u8 0)), (.sc (.int .u8 0)), (.sc (.int .u8 0)), (.sc (.int .u8 0)), (.sc (.bool false)), (.sc (.bool false)), (.sc (.int .u16 0)), (.sc (.int .i64 0))]) (i0 s22),
  .n (.st 11 (h0 g22) (h1 g5) (G3 5 10 5)),
  .p (.mv (h1 g6)) (i0 s23)])
 (.seq (.reg [.p (.mv (h0 g1)) (i1 s7),
  .p (.bin .eql (h1 g7) (kc (.tc (.sc (.int .u32 1813987327)))) (G3 5 11 1)) (i1 s8),
  .p (.mv (h1 g8)) (i1 s9),
  .gp (h1 g9) true (.mv (h0 g3)) (i1 s10),
  .p (.pk (h1 g9) (h1 g10) (kc (.tc (.sc (.bool false))))) (i1 s11),
  .p (.mv (h1 g11)) (i1 s12),
  .gp (h1 g12) true (.ld true 11 (h0 g4)) (i1 s13),
  .gp (h1 g12) true (.bd [(.tc (.sc (.int .u8 0))), (.tc (.sc (.int .u8 0))), (.tc (.sc (.int .u8 0))), (.tc (.sc (.int .u8 0))), (.tc (.sc (.int .u8 0))), (.tc (.sc (.int .u8 0))), (.tc (.sc (.int .u8 0))), (.tc (.sc (.bool false))), (.tc (.sc (.bool false))), (.tc (.sc (.int .u16 0))), (.tc (.sc (.int .i64 0)))] [(.mk 0 1 (kc (.tc (.sc (.int .u8 27))))), (.mk 10 1 (kc (.tc (.sc (.int .i64 96)))))] (G3 5 11 7)) (i1 s14),
  .gp (h1 g12) true (.eqs .eql [(.mk 0 .int), (.mk 1 .int), (.mk 2 .int), (.mk 3 .int), (.mk 4 .int), (.mk 5 .int), (.mk 6 .int), (.mk 7 .bool), (.mk 8 .bool), (.mk 9 .int), (.mk 10 .int)] (h1 g13) (h1 g14) (G3 5 11 8)) (i1 s15),
  .p (.pk (h1 g12) (h1 g15) (kc (.tc (.sc (.bool false))))) (i1 s16),
  .p (.mv (h1 g16)) (i1 s17),
  .gp (h1 g17) true (.mv (h0 g5)) (i1 s18),
  .p (.pk (h1 g17) (h1 g18) (kc (.tc (.sc (.bool false))))) (i1 s19),
  .p (.mv (h1 g19)) (i1 s20),
  .gp (h1 g20) true (.mv (h0 g6)) (i1 s21),
  .gp (h1 g20) true (.bin .eql (h1 g21) (kc (.tc (.sc (.int .u32 536952831)))) (G3 5 11 15)) (i1 s22),
  .p (.pk (h1 g20) (h1 g22) (kc (.tc (.sc (.bool false))))) (i1 s23),
  .p (.mv (h1 g23)) (i1 s24),
  .gp (h1 g24) true (.mv (h0 g8)) (i1 s25),
  .p (.pk (h1 g24) (h1 g25) (kc (.tc (.sc (.bool false))))) (i1 s26),
  .p (.mv (h1 g26)) (i1 s27),
  .gp (h1 g27) true (.mv (h0 g11)) (i1 s28),
  .gp (h1 g27) true (.nt (h1 g28) (G3 5 11 22)) (i1 s29),
  .p (.pk (h1 g27) (h1 g29) (kc (.tc (.sc (.bool false))))) (i1 s30),
  .p (.mv (h1 g30)) (i1 s31),
  .gp (h1 g31) true (.mv (h0 g13)) (i1 s32),
  .gp (h1 g31) true (.nt (h1 g32) (G3 5 11 26)) (i1 s33),
  .p (.pk (h1 g31) (h1 g33) (kc (.tc (.sc (.bool false))))) (i1 s34),
  .p (.mv (h1 g34)) (i1 s35),
  .gp (h1 g35) true (.mv (h0 g15)) (i1 s36),
  .gp (h1 g35) true (.nt (h1 g36) (G3 5 11 30)) (i1 s37),
  .p (.pk (h1 g35) (h1 g37) (kc (.tc (.sc (.bool false))))) (i1 s38),
  .p (.mv (h1 g38)) (i1 s39),
  .gp (h1 g39) true (.mv (h0 g17)) (i1 s40),
  .gp (h1 g39) true (.nt (h1 g40) (G3 5 11 34)) (i1 s41),
  .p (.pk (h1 g39) (h1 g41) (kc (.tc (.sc (.bool false))))) (i1 s42),
  .p (.mv (h1 g42)) (i1 s43),
  .gp (h1 g43) true (.mv (h0 g19)) (i1 s44),
  .gp (h1 g43) true (.nt (h1 g44) (G3 5 11 38)) (i1 s45),
  .p (.pk (h1 g43) (h1 g45) (kc (.tc (.sc (.bool false))))) (i1 s46),
  .p (.mv (h1 g46)) (i1 s47),
  .gp (h1 g47) true (.ld true 11 (h0 g20)) (i1 s48),
  .gp (h1 g47) true (.bd [(.tc (.sc (.int .u8 0))), (.tc (.sc (.int .u8 0))), (.tc (.sc (.int .u8 0))), (.tc (.sc (.int .u8 0))), (.tc (.sc (.int .u8 0))), (.tc (.sc (.int .u8 0))), (.tc (.sc (.int .u8 0))), (.tc (.sc (.bool false))), (.tc (.sc (.bool false))), (.tc (.sc (.int .u16 0))), (.tc (.sc (.int .i64 0)))] [(.mk 0 1 (kc (.tc (.sc (.int .u8 8))))), (.mk 1 1 (kc (.tc (.sc (.int .u8 1))))), (.mk 10 1 (kc (.tc (.sc (.int .i64 305419896))))), (.mk 8 1 (kc (.tc (.sc (.bool true)))))] (G3 5 11 42)) (i1 s49),
  .gp (h1 g47) true (.eqs .eql [(.mk 0 .int), (.mk 1 .int), (.mk 2 .int), (.mk 3 .int), (.mk 4 .int), (.mk 5 .int), (.mk 6 .int), (.mk 7 .bool), (.mk 8 .bool), (.mk 9 .int), (.mk 10 .int)] (h1 g48) (h1 g49) (G3 5 11 43)) (i1 s50),
  .p (.pk (h1 g47) (h1 g50) (kc (.tc (.sc (.bool false))))) (i1 s51),
  .p (.mv (h1 g51)) (i1 s52),
  .gp (h1 g52) true (.mv (h0 g21)) (i1 s53),
  .p (.pk (h1 g52) (h1 g53) (kc (.tc (.sc (.bool false))))) (i1 s54),
  .p (.mv (h1 g54)) (i1 s55),
  .gp (h1 g55) true (.mv (h0 g23)) (i1 s56),
  .gp (h1 g55) true (.nt (h1 g56) (G3 5 11 50)) (i1 s57),
  .p (.pk (h1 g55) (h1 g57) (kc (.tc (.sc (.bool false))))) (i1 s58),
  .p (.mv (h1 g58)) (i1 s59),
  .gp (h1 g59) true (.call 17 [] (G3 5 11 53)) (i1 s60),
  .p (.pk (h1 g59) (h1 g60) (kc (.tc (.sc (.bool false))))) (i1 s61),
  .p (.mv (h1 g61)) (i0 s0)])
 .ret)))))))))))),
 [.tmp (h0 g0)]⟩
theorem ff5_ok : compF SBEncKnown 5 = ff5 := by kernel_rfl
noncomputable def ff15 : FF := .t3 ⟨117,
 (.seq (.reg [.p (.bx 11 (h0 g0) (G3 15 0 0)) (i0 s2),
  .p (.mv (kc (.tc (.sc (.int .u32 0))))) (i0 s4),
  .p (.mv (kc (.tc (.sc (.int .u32 0))))) (i0 s5),
  .p (.mv (kc (.tc (.sc (.bool false))))) (i0 s6)])
 (.seq (.seq (.reg [.p (.ld true 11 (h0 g2)) (i0 s16),
  .p (.call 30 [(h0 g16)] (G3 15 1 1)) (i0 s17),
  .p (.nt (h0 g17) (G3 15 1 2)) (i0 s18),
  .p (.mv (h0 g18)) (i0 s19),
  .gp (h0 g19) false (.fa 8 (h0 g2)) (i0 s20),
  .gp (h0 g19) false (.ld false 1 (h0 g20)) (i0 s21),
  .gp (h0 g19) false (.nt (h0 g21) (G3 15 1 6)) (i0 s22),
  .gp (h0 g19) false (.mv (h0 g22)) (i0 s23),
  .gp (h0 g23) true (.ld true 11 (h0 g2)) (i0 s24),
  .gp (h0 g23) true (.mv (h0 g1)) (i0 s25),
  .gp (h0 g23) true (.call 35 [(h0 g24), (h0 g25)] (G3 15 1 10)) (i0 s26),
  .gp (h0 g23) true (.nt (h0 g26) (G3 15 1 11)) (i0 s27),
  .gp (h0 g19) false (.pk (h0 g23) (h0 g27) (kc (.tc (.sc (.bool false))))) (i0 s28),
  .p (.pk (h0 g19) (kc (.tc (.sc (.bool true)))) (h0 g28)) (i0 s29)])
 (.cond (h0 g29) (.seq (.reg [.p (.mv (kc (.tc (.sc (.int .u32 0))))) (i0 s4),
  .p (.mv (kc (.tc (.sc (.int .u32 0))))) (i0 s5),
  .p (.mv (kc (.tc (.sc (.bool false))))) (i0 s6)])
 .ret)
 .skip))
 (.seq (.reg [.p (.fa 0 (h0 g2)) (i0 s31),
  .p (.ld false 1 (h0 g31)) (i0 s32),
  .p (.call 36 [(h0 g32)] (G3 15 3 2)) (i0 s33),
  .p (.mv (h0 g33)) (i0 s30),
  .p (.ex (h0 g30) 0) (i0 s34),
  .p (.ex (h0 g30) 1) (i0 s35),
  .p (.al 5 [(.sc (.int .u8 0)), (.sc (.string ⟨#[]⟩)), (.sc (.int .u8 0)), (.sc (.int .u8 0)), (.sc (.slice none 0 0))]) (i0 s7),
  .n (.st 5 (h0 g7) (h0 g34) (G3 15 3 7)),
  .p (.mv (h0 g35)) (i0 s8)])
 (.seq (.reg [.p (.mv (kc (.tc (.sc (.int .u32 0))))) (i0 s9)])
 (.seq (.seq (.reg [.p (.fa 4 (h0 g7)) (i0 s36),
  .p (.ld false 1 (h0 g36)) (i0 s37),
  .p (.len (h0 g37) (G3 15 5 2)) (i0 s38),
  .p (.mv (kc (.tc (.sc (.int .i64 0))))) (i0 s39)])
 (.block 0 (.loop 4294967296 (.seq (.reg [.p (.bin .lss (h0 g39) (h0 g38) (G3 15 6 0)) (i0 s40)])
 (.seq (.cond (h0 g40) .skip
 (.exit 0))
 (.seq (.block 1 (.seq (.reg [.p (.ia 5 (h0 g37) (h0 g39) (G3 15 7 0)) (i0 s41),
  .p (.ld true 5 (h0 g41)) (i0 s42),
  .p (.al 5 [(.sc (.int .u8 0)), (.sc (.int .i64 0)), (.sc (.int .i64 0)), (.sc (.bool false)), (.sc (.bool false))]) (i0 s11),
  .n (.st 5 (h0 g11) (h0 g42) (G3 15 7 3))])
 (.seq (.reg [.p (.fa 0 (h0 g2)) (i0 s44),
  .p (.ld false 1 (h0 g44)) (i0 s45),
  .p (.fa 0 (h0 g11)) (i0 s46),
  .p (.ld false 1 (h0 g46)) (i0 s47),
  .p (.call 37 [(h0 g45), (h0 g47)] (G3 15 8 4)) (i0 s48),
  .p (.mv (h0 g48)) (i0 s43),
  .p (.ex (h0 g43) 0) (i0 s49),
  .p (.ex (h0 g43) 1) (i0 s50),
  .p (.ex (h0 g43) 2) (i0 s51),
  .p (.al 5 [(.sc (.int .u8 0)), (.sc (.int .i64 0)), (.sc (.int .i64 0)), (.sc (.bool false)), (.sc (.bool false))]) (i0 s12),
  .n (.st 5 (h0 g12) (h0 g49) (G3 15 8 10)),
  .p (.mv (h0 g50)) (i0 s13),
  .p (.mv (h0 g51)) (i0 s14)])
 (.seq (.reg [.p (.mv (kc (.tc (.sc (.int .u32 0))))) (i0 s15)])
 (.seq (.seq (.reg [.p (.fa 0 (h0 g11)) (i0 s52),
  .p (.ld false 1 (h0 g52)) (i0 s53)])
 (.block 2 (.seq (.reg [.p (.bin .eql (h0 g53) (kc (.tc (.sc (.int .u8 1)))) (G3 15 11 0)) (i0 s55),
  .p (.mv (h0 g55)) (i0 s54)])
 (.cond (h0 g54) (.reg [.p (.fa 6 (h0 g2)) (i0 s56),
  .p (.ld false 1 (h0 g56)) (i0 s57),
  .p (.cv .u32 (h0 g57) (G3 15 12 2)) (i0 s58),
  .p (.mv (h0 g58)) (i0 s15)])
 (.seq (.reg [.p (.bin .eql (h0 g53) (kc (.tc (.sc (.int .u8 2)))) (G3 15 13 0)) (i0 s60),
  .p (.mv (h0 g60)) (i0 s59)])
 (.cond (h0 g59) (.reg [.p (.fa 5 (h0 g2)) (i0 s61),
  .p (.ld false 1 (h0 g61)) (i0 s62),
  .p (.cv .u32 (h0 g62) (G3 15 14 2)) (i0 s63),
  .p (.mv (h0 g63)) (i0 s15)])
 (.seq (.seq (.reg [.p (.bin .eql (h0 g53) (kc (.tc (.sc (.int .u8 3)))) (G3 15 15 0)) (i1 s1),
  .p (.mv (h1 g1)) (i1 s0)])
 (.cond (h1 g0) .skip
 (.reg [.p (.bin .eql (h0 g53) (kc (.tc (.sc (.int .u8 4)))) (G3 15 16 0)) (i1 s2),
  .p (.mv (h1 g2)) (i1 s0)])))
 (.cond (h1 g0) (.reg [.p (.fa 1 (h0 g2)) (i1 s3),
  .p (.ld false 1 (h1 g3)) (i1 s4),
  .p (.cv .u32 (h1 g4) (G3 15 17 2)) (i1 s5),
  .p (.mv (h1 g5)) (i0 s15)])
 (.seq (.reg [.p (.bin .eql (h0 g53) (kc (.tc (.sc (.int .u8 5)))) (G3 15 18 0)) (i1 s7),
  .p (.mv (h1 g7)) (i1 s6)])
 (.cond (h1 g6) (.reg [.p (.fa 2 (h0 g2)) (i1 s8),
  .p (.ld false 1 (h1 g8)) (i1 s9),
  .p (.cv .u32 (h1 g9) (G3 15 19 2)) (i1 s10),
  .p (.mv (h1 g10)) (i0 s15)])
 (.seq (.reg [.p (.bin .eql (h0 g53) (kc (.tc (.sc (.int .u8 6)))) (G3 15 20 0)) (i1 s12),
  .p (.mv (h1 g12)) (i1 s11)])
 (.cond (h1 g11) (.reg [.p (.fa 3 (h0 g2)) (i1 s13),
  .p (.ld false 1 (h1 g13)) (i1 s14),
  .p (.cv .u32 (h1 g14) (G3 15 21 2)) (i1 s15),
  .p (.mv (h1 g15)) (i0 s15)])
 (.seq (.reg [.p (.bin .eql (h0 g53) (kc (.tc (.sc (.int .u8 7)))) (G3 15 22 0)) (i1 s17),
  .p (.mv (h1 g17)) (i1 s16)])
 (.cond (h1 g16) (.reg [.p (.fa 4 (h0 g2)) (i1 s18),
  .p (.ld false 1 (h1 g18)) (i1 s19),
  .p (.cv .u32 (h1 g19) (G3 15 23 2)) (i1 s20),
  .p (.mv (h1 g20)) (i0 s15)])
 (.seq (.reg [.p (.bin .eql (h0 g53) (kc (.tc (.sc (.int .u8 8)))) (G3 15 24 0)) (i1 s22),
  .p (.mv (h1 g22)) (i1 s21)])
 (.cond (h1 g21) (.reg [.p (.fa 7 (h0 g2)) (i1 s23),
  .p (.ld false 1 (h1 g23)) (i1 s24),
  .p (.call 38 [(h1 g24)] (G3 15 25 2)) (i1 s25),
  .p (.mv (h1 g25)) (i0 s15)])
 (.seq (.reg [.p (.bin .eql (h0 g53) (kc (.tc (.sc (.int .u8 11)))) (G3 15 26 0)) (i1 s27),
  .p (.mv (h1 g27)) (i1 s26)])
 (.cond (h1 g26) (.reg [.p (.fa 9 (h0 g2)) (i1 s28),
  .p (.ld false 1 (h1 g28)) (i1 s29),
  .p (.cv .u32 (h1 g29) (G3 15 27 2)) (i1 s30),
  .p (.mv (h1 g30)) (i0 s15)])
 (.seq (.seq (.reg [.p (.bin .eql (h0 g53) (kc (.tc (.sc (.int .u8 9)))) (G3 15 28 0)) (i1 s32),
  .p (.mv (h1 g32)) (i1 s31)])
 (.cond (h1 g31) .skip
 (.reg [.p (.bin .eql (h0 g53) (kc (.tc (.sc (.int .u8 10)))) (G3 15 29 0)) (i1 s33),
  .p (.mv (h1 g33)) (i1 s31)])))
 (.cond (h1 g31) (.reg [.p (.ld true 11 (h0 g2)) (i1 s35),
  .p (.ld true 5 (h0 g11)) (i1 s36),
  .p (.mv (h0 g1)) (i1 s37),
  .p (.call 39 [(h1 g35), (h1 g36), (h1 g37)] (G3 15 30 3)) (i1 s38),
  .p (.mv (h1 g38)) (i1 s34),
  .p (.ex (h1 g34) 0) (i1 s39),
  .p (.ex (h1 g34) 1) (i1 s40),
  .p (.mv (h1 g39)) (i0 s15),
  .p (.mv (h1 g40)) (i0 s5)])
 .skip))))))))))))))))))))
 (.reg [.p (.mv (h0 g9)) (i1 s41),
  .p (.mv (h0 g13)) (i1 s42),
  .p (.fa 1 (h0 g11)) (i1 s43),
  .p (.ld false 1 (h1 g43)) (i1 s44),
  .p (.mv (h0 g15)) (i1 s45),
  .p (.call 40 [(h1 g41), (h1 g42), (h1 g44), (h1 g45)] (G3 15 31 5)) (i1 s46),
  .p (.mv (h1 g46)) (i0 s9)]))))))
 (.reg [.p (.bin .add (h0 g39) (kc (.tc (.sc (.int .i64 1)))) (G3 15 32 0)) (i1 s47),
  .p (.mv (h1 g47)) (i0 s39)])))))))
 (.seq (.reg [.p (.fa 0 (h0 g2)) (i1 s48),
  .p (.ld false 1 (h1 g48)) (i1 s49),
  .p (.mv (h0 g9)) (i1 s50),
  .p (.call 41 [(h1 g49), (h1 g50), (kc (.tc (.sc (.int .u8 0))))] (G3 15 33 3)) (i1 s51),
  .p (.mv (h0 g5)) (i1 s52),
  .p (.mv (h1 g51)) (i0 s4),
  .p (.mv (h1 g52)) (i0 s5),
  .p (.mv (kc (.tc (.sc (.bool true))))) (i0 s6)])
 .ret)))))),
 [.tmp (h0 g4), .tmp (h0 g5), .tmp (h0 g6)]⟩
theorem ff15_ok : compF SBEncKnown 15 = ff15 := by kernel_rfl
noncomputable def ff30 : FF := .t2 ⟨54,
 (.seq (.reg [.p (.bx 11 g0 (G2 30 0 0)) s1,
  .p (.mv (kc (.tc (.sc (.bool false))))) s2])
 (.seq (.reg [.p (.fa 0 g1) s9,
  .p (.ld false 1 g9) s10,
  .p (.call 36 [g10] (G2 30 1 2)) s11,
  .p (.mv g11) s8,
  .p (.ex g8 0) s12,
  .p (.ex g8 1) s13,
  .p (.al 5 [(.sc (.int .u8 0)), (.sc (.string ⟨#[]⟩)), (.sc (.int .u8 0)), (.sc (.int .u8 0)), (.sc (.slice none 0 0))]) s3,
  .n (.st 5 g3 g12 (G2 30 1 7)),
  .p (.mv g13) s4])
 (.seq (.reg [.p (.ld true 11 g1) s14,
  .p (.al 11 [(.sc (.int .u8 0)), (.sc (.int .u8 0)), (.sc (.int .u8 0)), (.sc (.int .u8 0)), (.sc (.int .u8 0)), (.sc (.int .u8 0)), (.sc (.int .u8 0)), (.sc (.bool false)), (.sc (.bool false)), (.sc (.int .u16 0)), (.sc (.int .i64 0))]) s5,
  .n (.st 11 g5 g14 (G2 30 2 2))])
 (.seq (.reg [.p (.fa 0 g5) s15,
  .n (.st 1 g15 (kc (.tc (.sc (.int .u8 0)))) (G2 30 3 1))])
 (.seq (.seq (.reg [.p (.fa 4 g3) s16,
  .p (.ld false 1 g16) s17,
  .p (.len g17 (G2 30 4 2)) s18,
  .p (.mv (kc (.tc (.sc (.int .i64 0))))) s19])
 (.block 0 (.loop 4294967296 (.seq (.reg [.p (.bin .lss g19 g18 (G2 30 5 0)) s20])
 (.seq (.cond g20 .skip
 (.exit 0))
 (.seq (.block 1 (.seq (.reg [.p (.ia 5 g17 g19 (G2 30 6 0)) s21,
  .p (.ld true 5 g21) s22,
  .p (.al 5 [(.sc (.int .u8 0)), (.sc (.int .i64 0)), (.sc (.int .i64 0)), (.sc (.bool false)), (.sc (.bool false))]) s7,
  .n (.st 5 g7 g22 (G2 30 6 3))])
 (.seq (.reg [.p (.ld true 11 g5) s23,
  .p (.ld true 5 g7) s24,
  .p (.call 54 [g23, g24] (G2 30 7 2)) s25,
  .n (.st 11 g5 g25 (G2 30 7 3))])
 (.reg [.p (.mv g4) s26,
  .p (.mv g26) s27,
  .gp g27 true (.ld true 11 g1) s28,
  .gp g27 true (.ld true 5 g7) s29,
  .gp g27 true (.call 55 [g28, g29] (G2 30 8 4)) s30,
  .p (.pk g27 g30 (kc (.tc (.sc (.bool false))))) s31,
  .p (.mv g31) s4]))))
 (.reg [.p (.bin .add g19 (kc (.tc (.sc (.int .i64 1)))) (G2 30 9 0)) s32,
  .p (.mv g32) s19])))))))
 (.seq (.reg [.p (.mv g4) s33,
  .p (.mv g33) s34,
  .gp g34 true (.ld true 11 g5) s35,
  .gp g34 true (.bd [(.tc (.sc (.int .u8 0))), (.tc (.sc (.int .u8 0))), (.tc (.sc (.int .u8 0))), (.tc (.sc (.int .u8 0))), (.tc (.sc (.int .u8 0))), (.tc (.sc (.int .u8 0))), (.tc (.sc (.int .u8 0))), (.tc (.sc (.bool false))), (.tc (.sc (.bool false))), (.tc (.sc (.int .u16 0))), (.tc (.sc (.int .i64 0)))] [] (G2 30 10 3)) s36,
  .gp g34 true (.eqs .eql [(.mk 0 .int), (.mk 1 .int), (.mk 2 .int), (.mk 3 .int), (.mk 4 .int), (.mk 5 .int), (.mk 6 .int), (.mk 7 .bool), (.mk 8 .bool), (.mk 9 .int), (.mk 10 .int)] g35 g36 (G2 30 10 4)) s37,
  .p (.pk g34 g37 (kc (.tc (.sc (.bool false))))) s38,
  .p (.mv g38) s39,
  .gp g39 true (.ld true 11 g1) s40,
  .gp g39 true (.call 56 [g40] (G2 30 10 8)) s41,
  .gp g39 true (.mv g41) s42,
  .gp g42 true (.fa 6 g1) s43,
  .gp g42 true (.ld false 1 g43) s44,
  .gp g42 true (.bin .eql g44 (kc (.tc (.sc (.int .u8 0)))) (G2 30 10 12)) s45,
  .gp g39 true (.pk g42 g45 (kc (.tc (.sc (.bool false))))) s46,
  .gp g39 true (.mv g46) s47,
  .gp g47 true (.fa 5 g1) s48,
  .gp g47 true (.ld false 1 g48) s49,
  .gp g47 true (.bin .neq g49 (kc (.tc (.sc (.int .u8 0)))) (G2 30 10 17)) s50,
  .gp g39 true (.pk g47 g50 (kc (.tc (.sc (.bool false))))) s51,
  .gp g39 true (.nt g51 (G2 30 10 19)) s52,
  .p (.pk g39 g52 (kc (.tc (.sc (.bool false))))) s53,
  .p (.mv g53) s2])
 .ret)))))),
 [.tmp g2]⟩
theorem ff30_ok : compF SBEncKnown 30 = ff30 := by kernel_rfl
noncomputable def ff36 : FF := .t2 ⟨17,
 (.seq (.reg [.p (.al 5 [(.sc (.int .u8 0)), (.sc (.string ⟨#[]⟩)), (.sc (.int .u8 0)), (.sc (.int .u8 0)), (.sc (.slice none 0 0))]) s2,
  .p (.mv (kc (.tc (.sc (.bool false))))) s3])
 (.seq (.reg [.p (.mv g0) s7,
  .p (.call 62 [g7] (G2 36 1 1)) s8,
  .p (.mv g8) s6,
  .p (.ex g6 0) s9,
  .p (.ex g6 1) s10,
  .p (.al 5 [(.sc (.int .u8 0)), (.sc (.string ⟨#[]⟩)), (.sc (.int .u8 0)), (.sc (.int .u8 0)), (.sc (.slice none 0 0))]) s4,
  .n (.st 5 g4 g9 (G2 36 1 6)),
  .p (.mv g10) s5])
 (.seq (.reg [.p (.fa 4 g4) s11,
  .p (.ld false 1 g11) s12,
  .p (.call 63 [g12] (G2 36 2 2)) s13,
  .p (.fa 4 g4) s14,
  .n (.st 1 g14 g13 (G2 36 2 4))])
 (.seq (.reg [.p (.ld true 5 g4) s15,
  .p (.mv g5) s16,
  .n (.st 5 g2 g15 (G2 36 3 2)),
  .p (.mv g16) s3])
 .ret)))),
 [.cell g2 true 5, .tmp g3]⟩
theorem ff36_ok : compF SBEncKnown 36 = ff36 := by kernel_rfl
noncomputable def ff62 : FF := .t2 ⟨21,
 (.seq (.reg [.p (.al 5 [(.sc (.int .u8 0)), (.sc (.string ⟨#[]⟩)), (.sc (.int .u8 0)), (.sc (.int .u8 0)), (.sc (.slice none 0 0))]) s2,
  .p (.mv (kc (.tc (.sc (.bool false))))) s3])
 (.seq (.reg [.p (.call 79 [] (G2 62 1 0)) s5,
  .p (.mv g5) s4])
 (.seq (.seq (.reg [.p (.mv g0) s6,
  .p (.bin .lss g6 (kc (.tc (.sc (.int .u8 1)))) (G2 62 2 1)) s7,
  .p (.mv g7) s8,
  .gp g8 false (.mv g0) s9,
  .gp g8 false (.cv .i64 g9 (G2 62 2 4)) s10,
  .gp g8 false (.mv g4) s11,
  .gp g8 false (.len g11 (G2 62 2 6)) s12,
  .gp g8 false (.bin .gtr g10 g12 (G2 62 2 7)) s13,
  .p (.pk g8 (kc (.tc (.sc (.bool true)))) g13) s14])
 (.cond g14 (.seq (.reg [.p (.bd [(.tc (.sc (.int .u8 0))), (.tc (.sc (.string ⟨#[]⟩))), (.tc (.sc (.int .u8 0))), (.tc (.sc (.int .u8 0))), (.tc (.sc (.slice none 0 0)))] [] (G2 62 3 0)) s15,
  .n (.st 5 g2 g15 (G2 62 3 1)),
  .p (.mv (kc (.tc (.sc (.bool false))))) s3])
 .ret)
 .skip))
 (.seq (.reg [.p (.mv g4) s16,
  .p (.mv g0) s17,
  .p (.bin .sub g17 (kc (.tc (.sc (.int .u8 1)))) (G2 62 4 2)) s18,
  .p (.ia 5 g16 g18 (G2 62 4 3)) s19,
  .p (.ld true 5 g19) s20,
  .n (.st 5 g2 g20 (G2 62 4 5)),
  .p (.mv (kc (.tc (.sc (.bool true))))) s3])
 .ret)))),
 [.cell g2 true 5, .tmp g3]⟩
theorem ff62_ok : compF SBEncKnown 62 = ff62 := by kernel_rfl
noncomputable def ff79 : FF := .t3 ⟨158,
 (.seq (.reg [.p (.mv (kc (.tc (.sc (.slice none 0 0))))) (i0 s0)])
 (.seq (.reg [.p (.call 92 [(kc (.tc (.sc (.int .u8 1)))), (kc (.tc (.sc (.string ⟨#[110, 111, 112]⟩)))), (kc (.tc (.sc (.int .u8 1)))), (kc (.tc (.sc (.slice none 0 0))))] (G3 79 1 0)) (i0 s1),
  .p (.call 93 [] (G3 79 1 1)) (i0 s2),
  .p (.call 94 [] (G3 79 1 2)) (i0 s3),
  .p (.call 95 [] (G3 79 1 3)) (i0 s4),
  .p (.call 96 [] (G3 79 1 4)) (i0 s5),
  .p (.bs 1 4 [[(.tc (.sc (.slice none 0 0)))], [(.tc (.sc (.slice none 0 0)))], [(.tc (.sc (.slice none 0 0)))], [(.tc (.sc (.slice none 0 0)))]] [(.mk 0 1 (h0 g2)), (.mk 1 1 (h0 g3)), (.mk 2 1 (h0 g4)), (.mk 3 1 (h0 g5))] (G3 79 1 5)) (i0 s6),
  .p (.call 92 [(kc (.tc (.sc (.int .u8 2)))), (kc (.tc (.sc (.string ⟨#[97, 100, 100]⟩)))), (kc (.tc (.sc (.int .u8 1)))), (h0 g6)] (G3 79 1 6)) (i0 s7),
  .p (.call 93 [] (G3 79 1 7)) (i0 s8),
  .p (.call 94 [] (G3 79 1 8)) (i0 s9),
  .p (.call 95 [] (G3 79 1 9)) (i0 s10),
  .p (.call 96 [] (G3 79 1 10)) (i0 s11),
  .p (.bs 1 4 [[(.tc (.sc (.slice none 0 0)))], [(.tc (.sc (.slice none 0 0)))], [(.tc (.sc (.slice none 0 0)))], [(.tc (.sc (.slice none 0 0)))]] [(.mk 0 1 (h0 g8)), (.mk 1 1 (h0 g9)), (.mk 2 1 (h0 g10)), (.mk 3 1 (h0 g11))] (G3 79 1 11)) (i0 s12),
  .p (.call 92 [(kc (.tc (.sc (.int .u8 3)))), (kc (.tc (.sc (.string ⟨#[115, 117, 98]⟩)))), (kc (.tc (.sc (.int .u8 1)))), (h0 g12)] (G3 79 1 12)) (i0 s13),
  .p (.call 93 [] (G3 79 1 13)) (i0 s14),
  .p (.call 94 [] (G3 79 1 14)) (i0 s15),
  .p (.call 95 [] (G3 79 1 15)) (i0 s16),
  .p (.call 96 [] (G3 79 1 16)) (i0 s17),
  .p (.bs 1 4 [[(.tc (.sc (.slice none 0 0)))], [(.tc (.sc (.slice none 0 0)))], [(.tc (.sc (.slice none 0 0)))], [(.tc (.sc (.slice none 0 0)))]] [(.mk 0 1 (h0 g14)), (.mk 1 1 (h0 g15)), (.mk 2 1 (h0 g16)), (.mk 3 1 (h0 g17))] (G3 79 1 17)) (i0 s18),
  .p (.call 92 [(kc (.tc (.sc (.int .u8 4)))), (kc (.tc (.sc (.string ⟨#[97, 110, 100]⟩)))), (kc (.tc (.sc (.int .u8 1)))), (h0 g18)] (G3 79 1 18)) (i0 s19),
  .p (.call 93 [] (G3 79 1 19)) (i0 s20),
  .p (.call 94 [] (G3 79 1 20)) (i0 s21),
  .p (.call 95 [] (G3 79 1 21)) (i0 s22),
  .p (.call 96 [] (G3 79 1 22)) (i0 s23),
  .p (.bs 1 4 [[(.tc (.sc (.slice none 0 0)))], [(.tc (.sc (.slice none 0 0)))], [(.tc (.sc (.slice none 0 0)))], [(.tc (.sc (.slice none 0 0)))]] [(.mk 0 1 (h0 g20)), (.mk 1 1 (h0 g21)), (.mk 2 1 (h0 g22)), (.mk 3 1 (h0 g23))] (G3 79 1 23)) (i0 s24),
  .p (.call 92 [(kc (.tc (.sc (.int .u8 5)))), (kc (.tc (.sc (.string ⟨#[111, 114]⟩)))), (kc (.tc (.sc (.int .u8 1)))), (h0 g24)] (G3 79 1 24)) (i0 s25),
  .p (.call 93 [] (G3 79 1 25)) (i0 s26),
  .p (.call 94 [] (G3 79 1 26)) (i0 s27),
  .p (.call 95 [] (G3 79 1 27)) (i0 s28),
  .p (.call 96 [] (G3 79 1 28)) (i0 s29),
  .p (.bs 1 4 [[(.tc (.sc (.slice none 0 0)))], [(.tc (.sc (.slice none 0 0)))], [(.tc (.sc (.slice none 0 0)))], [(.tc (.sc (.slice none 0 0)))]] [(.mk 0 1 (h0 g26)), (.mk 1 1 (h0 g27)), (.mk 2 1 (h0 g28)), (.mk 3 1 (h0 g29))] (G3 79 1 29)) (i0 s30),
  .p (.call 92 [(kc (.tc (.sc (.int .u8 6)))), (kc (.tc (.sc (.string ⟨#[120, 111, 114]⟩)))), (kc (.tc (.sc (.int .u8 1)))), (h0 g30)] (G3 79 1 30)) (i0 s31),
  .p (.call 94 [] (G3 79 1 31)) (i0 s32),
  .p (.call 95 [] (G3 79 1 32)) (i0 s33),
  .p (.call 97 [(kc (.tc (.sc (.int .i64 14)))), (kc (.tc (.sc (.int .i64 0))))] (G3 79 1 33)) (i0 s34),
  .p (.bs 1 3 [[(.tc (.sc (.slice none 0 0)))], [(.tc (.sc (.slice none 0 0)))], [(.tc (.sc (.slice none 0 0)))]] [(.mk 0 1 (h0 g32)), (.mk 1 1 (h0 g33)), (.mk 2 1 (h0 g34))] (G3 79 1 34)) (i0 s35),
  .p (.call 92 [(kc (.tc (.sc (.int .u8 7)))), (kc (.tc (.sc (.string ⟨#[97, 100, 100, 105]⟩)))), (kc (.tc (.sc (.int .u8 1)))), (h0 g35)] (G3 79 1 35)) (i0 s36),
  .p (.call 93 [] (G3 79 1 36)) (i0 s37),
  .p (.call 94 [] (G3 79 1 37)) (i0 s38),
  .p (.call 97 [(kc (.tc (.sc (.int .i64 14)))), (kc (.tc (.sc (.int .i64 0))))] (G3 79 1 38)) (i0 s39),
  .p (.bs 1 3 [[(.tc (.sc (.slice none 0 0)))], [(.tc (.sc (.slice none 0 0)))], [(.tc (.sc (.slice none 0 0)))]] [(.mk 0 1 (h0 g37)), (.mk 1 1 (h0 g38)), (.mk 2 1 (h0 g39))] (G3 79 1 39)) (i0 s40),
  .p (.call 92 [(kc (.tc (.sc (.int .u8 8)))), (kc (.tc (.sc (.string ⟨#[109, 111, 118, 105]⟩)))), (kc (.tc (.sc (.int .u8 1)))), (h0 g40)] (G3 79 1 40)) (i0 s41),
  .p (.call 93 [] (G3 79 1 41)) (i0 s42),
  .p (.call 94 [] (G3 79 1 42)) (i0 s43),
  .p (.call 95 [] (G3 79 1 43)) (i0 s44),
  .p (.bs 1 3 [[(.tc (.sc (.slice none 0 0)))], [(.tc (.sc (.slice none 0 0)))], [(.tc (.sc (.slice none 0 0)))]] [(.mk 0 1 (h0 g42)), (.mk 1 1 (h0 g43)), (.mk 2 1 (h0 g44))] (G3 79 1 44)) (i0 s45),
  .p (.call 92 [(kc (.tc (.sc (.int .u8 9)))), (kc (.tc (.sc (.string ⟨#[109, 111, 118]⟩)))), (kc (.tc (.sc (.int .u8 1)))), (h0 g45)] (G3 79 1 45)) (i0 s46),
  .p (.call 98 [] (G3 79 1 46)) (i0 s47),
  .p (.call 95 [] (G3 79 1 47)) (i0 s48),
  .p (.call 96 [] (G3 79 1 48)) (i0 s49),
  .p (.bs 1 3 [[(.tc (.sc (.slice none 0 0)))], [(.tc (.sc (.slice none 0 0)))], [(.tc (.sc (.slice none 0 0)))]] [(.mk 0 1 (h0 g47)), (.mk 1 1 (h0 g48)), (.mk 2 1 (h0 g49))] (G3 79 1 49)) (i0 s50),
  .p (.call 92 [(kc (.tc (.sc (.int .u8 10)))), (kc (.tc (.sc (.string ⟨#[99, 109, 112, 101, 113]⟩)))), (kc (.tc (.sc (.int .u8 1)))), (h0 g50)] (G3 79 1 50)) (i0 s51),
  .p (.call 98 [] (G3 79 1 51)) (i0 s52),
  .p (.call 95 [] (G3 79 1 52)) (i0 s53),
  .p (.call 96 [] (G3 79 1 53)) (i0 s54),
  .p (.bs 1 3 [[(.tc (.sc (.slice none 0 0)))], [(.tc (.sc (.slice none 0 0)))], [(.tc (.sc (.slice none 0 0)))]] [(.mk 0 1 (h0 g52)), (.mk 1 1 (h0 g53)), (.mk 2 1 (h0 g54))] (G3 79 1 54)) (i0 s55),
  .p (.call 92 [(kc (.tc (.sc (.int .u8 11)))), (kc (.tc (.sc (.string ⟨#[99, 109, 112, 103, 116]⟩)))), (kc (.tc (.sc (.int .u8 1)))), (h0 g55)] (G3 79 1 55)) (i0 s56),
  .p (.call 98 [] (G3 79 1 56)) (i0 s57),
  .p (.call 95 [] (G3 79 1 57)) (i0 s58),
  .p (.call 96 [] (G3 79 1 58)) (i0 s59),
  .p (.bs 1 3 [[(.tc (.sc (.slice none 0 0)))], [(.tc (.sc (.slice none 0 0)))], [(.tc (.sc (.slice none 0 0)))]] [(.mk 0 1 (h0 g57)), (.mk 1 1 (h0 g58)), (.mk 2 1 (h0 g59))] (G3 79 1 59)) (i0 s60),
  .p (.call 92 [(kc (.tc (.sc (.int .u8 12)))), (kc (.tc (.sc (.string ⟨#[99, 109, 112, 103, 116, 117]⟩)))), (kc (.tc (.sc (.int .u8 1)))), (h0 g60)] (G3 79 1 60)) (i0 s61),
  .p (.call 98 [] (G3 79 1 61)) (i0 s62),
  .p (.call 95 [] (G3 79 1 62)) (i0 s63),
  .p (.call 97 [(kc (.tc (.sc (.int .i64 14)))), (kc (.tc (.sc (.int .i64 0))))] (G3 79 1 63)) (i1 s0),
  .p (.bs 1 3 [[(.tc (.sc (.slice none 0 0)))], [(.tc (.sc (.slice none 0 0)))], [(.tc (.sc (.slice none 0 0)))]] [(.mk 0 1 (h0 g62)), (.mk 1 1 (h0 g63)), (.mk 2 1 (h1 g0))] (G3 79 1 64)) (i1 s1),
  .p (.call 92 [(kc (.tc (.sc (.int .u8 13)))), (kc (.tc (.sc (.string ⟨#[99, 109, 112, 101, 113, 105]⟩)))), (kc (.tc (.sc (.int .u8 1)))), (h1 g1)] (G3 79 1 65)) (i1 s2),
  .p (.call 94 [] (G3 79 1 66)) (i1 s3),
  .p (.call 99 [(kc (.tc (.sc (.int .u8 2)))), (kc (.tc (.sc (.int .i64 2))))] (G3 79 1 67)) (i1 s4),
  .p (.call 95 [] (G3 79 1 68)) (i1 s5),
  .p (.call 96 [] (G3 79 1 69)) (i1 s6),
  .p (.bs 1 4 [[(.tc (.sc (.slice none 0 0)))], [(.tc (.sc (.slice none 0 0)))], [(.tc (.sc (.slice none 0 0)))], [(.tc (.sc (.slice none 0 0)))]] [(.mk 0 1 (h1 g3)), (.mk 1 1 (h1 g4)), (.mk 2 1 (h1 g5)), (.mk 3 1 (h1 g6))] (G3 79 1 70)) (i1 s7),
  .p (.call 92 [(kc (.tc (.sc (.int .u8 14)))), (kc (.tc (.sc (.string ⟨#[109, 117, 120]⟩)))), (kc (.tc (.sc (.int .u8 1)))), (h1 g7)] (G3 79 1 71)) (i1 s8),
  .p (.call 94 [] (G3 79 1 72)) (i1 s9),
  .p (.call 95 [] (G3 79 1 73)) (i1 s10),
  .p (.call 99 [(kc (.tc (.sc (.int .u8 9)))), (kc (.tc (.sc (.int .i64 5))))] (G3 79 1 74)) (i1 s11),
  .p (.bs 1 3 [[(.tc (.sc (.slice none 0 0)))], [(.tc (.sc (.slice none 0 0)))], [(.tc (.sc (.slice none 0 0)))]] [(.mk 0 1 (h1 g9)), (.mk 1 1 (h1 g10)), (.mk 2 1 (h1 g11))] (G3 79 1 75)) (i1 s12),
  .p (.call 92 [(kc (.tc (.sc (.int .u8 15)))), (kc (.tc (.sc (.string ⟨#[97, 115, 108]⟩)))), (kc (.tc (.sc (.int .u8 2)))), (h1 g12)] (G3 79 1 76)) (i1 s13),
  .p (.call 94 [] (G3 79 1 77)) (i1 s14),
  .p (.call 95 [] (G3 79 1 78)) (i1 s15),
  .p (.call 99 [(kc (.tc (.sc (.int .u8 9)))), (kc (.tc (.sc (.int .i64 5))))] (G3 79 1 79)) (i1 s16),
  .p (.bs 1 3 [[(.tc (.sc (.slice none 0 0)))], [(.tc (.sc (.slice none 0 0)))], [(.tc (.sc (.slice none 0 0)))]] [(.mk 0 1 (h1 g14)), (.mk 1 1 (h1 g15)), (.mk 2 1 (h1 g16))] (G3 79 1 80)) (i1 s17),
  .p (.call 92 [(kc (.tc (.sc (.int .u8 16)))), (kc (.tc (.sc (.string ⟨#[108, 115, 114]⟩)))), (kc (.tc (.sc (.int .u8 2)))), (h1 g17)] (G3 79 1 81)) (i1 s18),
  .p (.call 94 [] (G3 79 1 82)) (i1 s19),
  .p (.call 95 [] (G3 79 1 83)) (i1 s20),
  .p (.call 99 [(kc (.tc (.sc (.int .u8 9)))), (kc (.tc (.sc (.int .i64 5))))] (G3 79 1 84)) (i1 s21),
  .p (.bs 1 3 [[(.tc (.sc (.slice none 0 0)))], [(.tc (.sc (.slice none 0 0)))], [(.tc (.sc (.slice none 0 0)))]] [(.mk 0 1 (h1 g19)), (.mk 1 1 (h1 g20)), (.mk 2 1 (h1 g21))] (G3 79 1 85)) (i1 s22),
  .p (.call 92 [(kc (.tc (.sc (.int .u8 17)))), (kc (.tc (.sc (.string ⟨#[97, 115, 114]⟩)))), (kc (.tc (.sc (.int .u8 2)))), (h1 g22)] (G3 79 1 86)) (i1 s23),
  .p (.call 94 [] (G3 79 1 87)) (i1 s24),
  .p (.call 95 [] (G3 79 1 88)) (i1 s25),
  .p (.call 96 [] (G3 79 1 89)) (i1 s26),
  .p (.bs 1 3 [[(.tc (.sc (.slice none 0 0)))], [(.tc (.sc (.slice none 0 0)))], [(.tc (.sc (.slice none 0 0)))]] [(.mk 0 1 (h1 g24)), (.mk 1 1 (h1 g25)), (.mk 2 1 (h1 g26))] (G3 79 1 90)) (i1 s27),
  .p (.call 92 [(kc (.tc (.sc (.int .u8 18)))), (kc (.tc (.sc (.string ⟨#[109, 112, 121]⟩)))), (kc (.tc (.sc (.int .u8 2)))), (h1 g27)] (G3 79 1 91)) (i1 s28),
  .p (.call 94 [] (G3 79 1 92)) (i1 s29),
  .p (.call 95 [] (G3 79 1 93)) (i1 s30),
  .p (.call 96 [] (G3 79 1 94)) (i1 s31),
  .p (.bs 1 3 [[(.tc (.sc (.slice none 0 0)))], [(.tc (.sc (.slice none 0 0)))], [(.tc (.sc (.slice none 0 0)))]] [(.mk 0 1 (h1 g29)), (.mk 1 1 (h1 g30)), (.mk 2 1 (h1 g31))] (G3 79 1 95)) (i1 s32),
  .p (.call 92 [(kc (.tc (.sc (.int .u8 19)))), (kc (.tc (.sc (.string ⟨#[99, 109, 112, 121]⟩)))), (kc (.tc (.sc (.int .u8 2)))), (h1 g32)] (G3 79 1 96)) (i1 s33),
  .p (.call 94 [] (G3 79 1 97)) (i1 s34),
  .p (.call 95 [] (G3 79 1 98)) (i1 s35),
  .p (.call 96 [] (G3 79 1 99)) (i1 s36),
  .p (.bs 1 3 [[(.tc (.sc (.slice none 0 0)))], [(.tc (.sc (.slice none 0 0)))], [(.tc (.sc (.slice none 0 0)))]] [(.mk 0 1 (h1 g34)), (.mk 1 1 (h1 g35)), (.mk 2 1 (h1 g36))] (G3 79 1 100)) (i1 s37),
  .p (.call 92 [(kc (.tc (.sc (.int .u8 20)))), (kc (.tc (.sc (.string ⟨#[99, 109, 112, 121, 99]⟩)))), (kc (.tc (.sc (.int .u8 2)))), (h1 g37)] (G3 79 1 101)) (i1 s38),
  .p (.call 94 [] (G3 79 1 102)) (i1 s39),
  .p (.call 95 [] (G3 79 1 103)) (i1 s40),
  .p (.call 97 [(kc (.tc (.sc (.int .i64 12)))), (kc (.tc (.sc (.int .i64 2))))] (G3 79 1 104)) (i1 s41),
  .p (.bs 1 3 [[(.tc (.sc (.slice none 0 0)))], [(.tc (.sc (.slice none 0 0)))], [(.tc (.sc (.slice none 0 0)))]] [(.mk 0 1 (h1 g39)), (.mk 1 1 (h1 g40)), (.mk 2 1 (h1 g41))] (G3 79 1 105)) (i1 s42),
  .p (.call 92 [(kc (.tc (.sc (.int .u8 21)))), (kc (.tc (.sc (.string ⟨#[108, 100, 119]⟩)))), (kc (.tc (.sc (.int .u8 3)))), (h1 g42)] (G3 79 1 106)) (i1 s43),
  .p (.call 94 [] (G3 79 1 107)) (i1 s44),
  .p (.call 95 [] (G3 79 1 108)) (i1 s45),
  .p (.call 97 [(kc (.tc (.sc (.int .i64 12)))), (kc (.tc (.sc (.int .i64 1))))] (G3 79 1 109)) (i1 s46),
  .p (.bs 1 3 [[(.tc (.sc (.slice none 0 0)))], [(.tc (.sc (.slice none 0 0)))], [(.tc (.sc (.slice none 0 0)))]] [(.mk 0 1 (h1 g44)), (.mk 1 1 (h1 g45)), (.mk 2 1 (h1 g46))] (G3 79 1 110)) (i1 s47),
  .p (.call 92 [(kc (.tc (.sc (.int .u8 22)))), (kc (.tc (.sc (.string ⟨#[108, 100, 104]⟩)))), (kc (.tc (.sc (.int .u8 3)))), (h1 g47)] (G3 79 1 111)) (i1 s48),
  .p (.call 94 [] (G3 79 1 112)) (i1 s49),
  .p (.call 95 [] (G3 79 1 113)) (i1 s50),
  .p (.call 97 [(kc (.tc (.sc (.int .i64 12)))), (kc (.tc (.sc (.int .i64 0))))] (G3 79 1 114)) (i1 s51),
  .p (.bs 1 3 [[(.tc (.sc (.slice none 0 0)))], [(.tc (.sc (.slice none 0 0)))], [(.tc (.sc (.slice none 0 0)))]] [(.mk 0 1 (h1 g49)), (.mk 1 1 (h1 g50)), (.mk 2 1 (h1 g51))] (G3 79 1 115)) (i1 s52),
  .p (.call 92 [(kc (.tc (.sc (.int .u8 23)))), (kc (.tc (.sc (.string ⟨#[108, 100, 98]⟩)))), (kc (.tc (.sc (.int .u8 3)))), (h1 g52)] (G3 79 1 116)) (i1 s53),
  .p (.call 95 [] (G3 79 1 117)) (i1 s54),
  .p (.call 99 [(kc (.tc (.sc (.int .u8 8)))), (kc (.tc (.sc (.int .i64 1))))] (G3 79 1 118)) (i1 s55),
  .p (.call 96 [] (G3 79 1 119)) (i1 s56),
  .p (.call 97 [(kc (.tc (.sc (.int .i64 12)))), (kc (.tc (.sc (.int .i64 2))))] (G3 79 1 120)) (i1 s57),
  .p (.bs 1 4 [[(.tc (.sc (.slice none 0 0)))], [(.tc (.sc (.slice none 0 0)))], [(.tc (.sc (.slice none 0 0)))], [(.tc (.sc (.slice none 0 0)))]] [(.mk 0 1 (h1 g54)), (.mk 1 1 (h1 g55)), (.mk 2 1 (h1 g56)), (.mk 3 1 (h1 g57))] (G3 79 1 121)) (i1 s58),
  .p (.call 92 [(kc (.tc (.sc (.int .u8 24)))), (kc (.tc (.sc (.string ⟨#[115, 116, 119]⟩)))), (kc (.tc (.sc (.int .u8 4)))), (h1 g58)] (G3 79 1 122)) (i1 s59),
  .p (.call 95 [] (G3 79 1 123)) (i1 s60),
  .p (.call 99 [(kc (.tc (.sc (.int .u8 8)))), (kc (.tc (.sc (.int .i64 1))))] (G3 79 1 124)) (i1 s61),
  .p (.call 96 [] (G3 79 1 125)) (i1 s62),
  .p (.call 97 [(kc (.tc (.sc (.int .i64 12)))), (kc (.tc (.sc (.int .i64 1))))] (G3 79 1 126)) (i1 s63),
  .p (.bs 1 4 [[(.tc (.sc (.slice none 0 0)))], [(.tc (.sc (.slice none 0 0)))], [(.tc (.sc (.slice none 0 0)))], [(.tc (.sc (.slice none 0 0)))]] [(.mk 0 1 (h1 g60)), (.mk 1 1 (h1 g61)), (.mk 2 1 (h1 g62)), (.mk 3 1 (h1 g63))] (G3 79 1 127)) (i2 s0),
  .p (.call 92 [(kc (.tc (.sc (.int .u8 25)))), (kc (.tc (.sc (.string ⟨#[115, 116, 104]⟩)))), (kc (.tc (.sc (.int .u8 4)))), (h2 g0)] (G3 79 1 128)) (i2 s1),
  .p (.call 95 [] (G3 79 1 129)) (i2 s2),
  .p (.call 99 [(kc (.tc (.sc (.int .u8 8)))), (kc (.tc (.sc (.int .i64 1))))] (G3 79 1 130)) (i2 s3),
  .p (.call 96 [] (G3 79 1 131)) (i2 s4),
  .p (.call 97 [(kc (.tc (.sc (.int .i64 12)))), (kc (.tc (.sc (.int .i64 0))))] (G3 79 1 132)) (i2 s5),
  .p (.bs 1 4 [[(.tc (.sc (.slice none 0 0)))], [(.tc (.sc (.slice none 0 0)))], [(.tc (.sc (.slice none 0 0)))], [(.tc (.sc (.slice none 0 0)))]] [(.mk 0 1 (h2 g2)), (.mk 1 1 (h2 g3)), (.mk 2 1 (h2 g4)), (.mk 3 1 (h2 g5))] (G3 79 1 133)) (i2 s6),
  .p (.call 92 [(kc (.tc (.sc (.int .u8 26)))), (kc (.tc (.sc (.string ⟨#[115, 116, 98]⟩)))), (kc (.tc (.sc (.int .u8 4)))), (h2 g6)] (G3 79 1 134)) (i2 s7),
  .p (.call 93 [] (G3 79 1 135)) (i2 s8),
  .p (.call 100 [(kc (.tc (.sc (.int .i64 19))))] (G3 79 1 136)) (i2 s9),
  .p (.bs 1 2 [[(.tc (.sc (.slice none 0 0)))], [(.tc (.sc (.slice none 0 0)))]] [(.mk 0 1 (h2 g8)), (.mk 1 1 (h2 g9))] (G3 79 1 137)) (i2 s10),
  .p (.call 92 [(kc (.tc (.sc (.int .u8 27)))), (kc (.tc (.sc (.string ⟨#[106, 117, 109, 112]⟩)))), (kc (.tc (.sc (.int .u8 5)))), (h2 g10)] (G3 79 1 138)) (i2 s11),
  .p (.call 93 [] (G3 79 1 139)) (i2 s12),
  .p (.call 95 [] (G3 79 1 140)) (i2 s13),
  .p (.bs 1 2 [[(.tc (.sc (.slice none 0 0)))], [(.tc (.sc (.slice none 0 0)))]] [(.mk 0 1 (h2 g12)), (.mk 1 1 (h2 g13))] (G3 79 1 141)) (i2 s14),
  .p (.call 92 [(kc (.tc (.sc (.int .u8 28)))), (kc (.tc (.sc (.string ⟨#[106, 117, 109, 112, 114]⟩)))), (kc (.tc (.sc (.int .u8 5)))), (h2 g14)] (G3 79 1 142)) (i2 s15),
  .p (.call 100 [(kc (.tc (.sc (.int .i64 24))))] (G3 79 1 143)) (i2 s16),
  .p (.bs 1 1 [[(.tc (.sc (.slice none 0 0)))]] [(.mk 0 1 (h2 g16))] (G3 79 1 144)) (i2 s17),
  .p (.call 92 [(kc (.tc (.sc (.int .u8 29)))), (kc (.tc (.sc (.string ⟨#[99, 97, 108, 108]⟩)))), (kc (.tc (.sc (.int .u8 5)))), (h2 g17)] (G3 79 1 145)) (i2 s18),
  .p (.call 99 [(kc (.tc (.sc (.int .u8 7)))), (kc (.tc (.sc (.int .i64 1))))] (G3 79 1 146)) (i2 s19),
  .p (.call 100 [(kc (.tc (.sc (.int .i64 12))))] (G3 79 1 147)) (i2 s20),
  .p (.call 99 [(kc (.tc (.sc (.int .u8 11)))), (kc (.tc (.sc (.int .i64 11))))] (G3 79 1 148)) (i2 s21),
  .p (.bs 1 3 [[(.tc (.sc (.slice none 0 0)))], [(.tc (.sc (.slice none 0 0)))], [(.tc (.sc (.slice none 0 0)))]] [(.mk 0 1 (h2 g19)), (.mk 1 1 (h2 g20)), (.mk 2 1 (h2 g21))] (G3 79 1 149)) (i2 s22),
  .p (.call 92 [(kc (.tc (.sc (.int .u8 30)))), (kc (.tc (.sc (.string ⟨#[108, 111, 111, 112, 105]⟩)))), (kc (.tc (.sc (.int .u8 6)))), (h2 g22)] (G3 79 1 150)) (i2 s23),
  .p (.call 99 [(kc (.tc (.sc (.int .u8 7)))), (kc (.tc (.sc (.int .i64 1))))] (G3 79 1 151)) (i2 s24),
  .p (.call 100 [(kc (.tc (.sc (.int .i64 12))))] (G3 79 1 152)) (i2 s25),
  .p (.call 95 [] (G3 79 1 153)) (i2 s26),
  .p (.bs 1 3 [[(.tc (.sc (.slice none 0 0)))], [(.tc (.sc (.slice none 0 0)))], [(.tc (.sc (.slice none 0 0)))]] [(.mk 0 1 (h2 g24)), (.mk 1 1 (h2 g25)), (.mk 2 1 (h2 g26))] (G3 79 1 154)) (i2 s27),
  .p (.call 92 [(kc (.tc (.sc (.int .u8 31)))), (kc (.tc (.sc (.string ⟨#[108, 111, 111, 112, 114]⟩)))), (kc (.tc (.sc (.int .u8 6)))), (h2 g27)] (G3 79 1 155)) (i2 s28),
  .p (.bs 5 31 [[(.tc (.sc (.int .u8 0))), (.tc (.sc (.string ⟨#[]⟩))), (.tc (.sc (.int .u8 0))), (.tc (.sc (.int .u8 0))), (.tc (.sc (.slice none 0 0)))], [(.tc (.sc (.int .u8 0))), (.tc (.sc (.string ⟨#[]⟩))), (.tc (.sc (.int .u8 0))), (.tc (.sc (.int .u8 0))), (.tc (.sc (.slice none 0 0)))], [(.tc (.sc (.int .u8 0))), (.tc (.sc (.string ⟨#[]⟩))), (.tc (.sc (.int .u8 0))), (.tc (.sc (.int .u8 0))), (.tc (.sc (.slice none 0 0)))], [(.tc (.sc (.int .u8 0))), (.tc (.sc (.string ⟨#[]⟩))), (.tc (.sc (.int .u8 0))), (.tc (.sc (.int .u8 0))), (.tc (.sc (.slice none 0 0)))], [(.tc (.sc (.int .u8 0))), (.tc (.sc (.string ⟨#[]⟩))), (.tc (.sc (.int .u8 0))), (.tc (.sc (.int .u8 0))), (.tc (.sc (.slice none 0 0)))], [(.tc (.sc (.int .u8 0))), (.tc (.sc (.string ⟨#[]⟩))), (.tc (.sc (.int .u8 0))), (.tc (.sc (.int .u8 0))), (.tc (.sc (.slice none 0 0)))], [(.tc (.sc (.int .u8 0))), (.tc (.sc (.string ⟨#[]⟩))), (.tc (.sc (.int .u8 0))), (.tc (.sc (.int .u8 0))), (.tc (.sc (.slice none 0 0)))], [(.tc (.sc (.int .u8 0))), (.tc (.sc (.string ⟨#[]⟩))), (.tc (.sc (.int .u8 0))), (.tc (.sc (.int .u8 0))), (.tc (.sc (.slice none 0 0)))], [(.tc (.sc (.int .u8 0))), (.tc (.sc (.string ⟨#[]⟩))), (.tc (.sc (.int .u8 0))), (.tc (.sc (.int .u8 0))), (.tc (.sc (.slice none 0 0)))], [(.tc (.sc (.int .u8 0))), (.tc (.sc (.string ⟨#[]⟩))), (.tc (.sc (.int .u8 0))), (.tc (.sc (.int .u8 0))), (.tc (.sc (.slice none 0 0)))], [(.tc (.sc (.int .u8 0))), (.tc (.sc (.string ⟨#[]⟩))), (.tc (.sc (.int .u8 0))), (.tc (.sc (.int .u8 0))), (.tc (.sc (.slice none 0 0)))], [(.tc (.sc (.int .u8 0))), (.tc (.sc (.string ⟨#[]⟩))), (.tc (.sc (.int .u8 0))), (.tc (.sc (.int .u8 0))), (.tc (.sc (.slice none 0 0)))], [(.tc (.sc (.int .u8 0))), (.tc (.sc (.string ⟨#[]⟩))), (.tc (.sc (.int .u8 0))), (.tc (.sc (.int .u8 0))), (.tc (.sc (.slice none 0 0)))], [(.tc (.sc (.int .u8 0))), (.tc (.sc (.string ⟨#[]⟩))), (.tc (.sc (.int .u8 0))), (.tc (.sc (.int .u8 0))), (.tc (.sc (.slice none 0 0)))], [(.tc (.sc (.int .u8 0))), (.tc (.sc (.string ⟨#[]⟩))), (.tc (.sc (.int .u8 0))), (.tc (.sc (.int .u8 0))), (.tc (.sc (.slice none 0 0)))], [(.tc (.sc (.int .u8 0))), (.tc (.sc (.string ⟨#[]⟩))), (.tc (.sc (.int .u8 0))), (.tc (.sc (.int .u8 0))), (.tc (.sc (.slice none 0 0)))], [(.tc (.sc (.int .u8 0))), (.tc (.sc (.string ⟨#[]⟩))), (.tc (.sc (.int .u8 0))), (.tc (.sc (.int .u8 0))), (.tc (.sc (.slice none 0 0)))], [(.tc (.sc (.int .u8 0))), (.tc (.sc (.string ⟨#[]⟩))), (.tc (.sc (.int .u8 0))), (.tc (.sc (.int .u8 0))), (.tc (.sc (.slice none 0 0)))], [(.tc (.sc (.int .u8 0))), (.tc (.sc (.string ⟨#[]⟩))), (.tc (.sc (.int .u8 0))), (.tc (.sc (.int .u8 0))), (.tc (.sc (.slice none 0 0)))], [(.tc (.sc (.int .u8 0))), (.tc (.sc (.string ⟨#[]⟩))), (.tc (.sc (.int .u8 0))), (.tc (.sc (.int .u8 0))), (.tc (.sc (.slice none 0 0)))], [(.tc (.sc (.int .u8 0))), (.tc (.sc (.string ⟨#[]⟩))), (.tc (.sc (.int .u8 0))), (.tc (.sc (.int .u8 0))), (.tc (.sc (.slice none 0 0)))], [(.tc (.sc (.int .u8 0))), (.tc (.sc (.string ⟨#[]⟩))), (.tc (.sc (.int .u8 0))), (.tc (.sc (.int .u8 0))), (.tc (.sc (.slice none 0 0)))], [(.tc (.sc (.int .u8 0))), (.tc (.sc (.string ⟨#[]⟩))), (.tc (.sc (.int .u8 0))), (.tc (.sc (.int .u8 0))), (.tc (.sc (.slice none 0 0)))], [(.tc (.sc (.int .u8 0))), (.tc (.sc (.string ⟨#[]⟩))), (.tc (.sc (.int .u8 0))), (.tc (.sc (.int .u8 0))), (.tc (.sc (.slice none 0 0)))], [(.tc (.sc (.int .u8 0))), (.tc (.sc (.string ⟨#[]⟩))), (.tc (.sc (.int .u8 0))), (.tc (.sc (.int .u8 0))), (.tc (.sc (.slice none 0 0)))], [(.tc (.sc (.int .u8 0))), (.tc (.sc (.string ⟨#[]⟩))), (.tc (.sc (.int .u8 0))), (.tc (.sc (.int .u8 0))), (.tc (.sc (.slice none 0 0)))], [(.tc (.sc (.int .u8 0))), (.tc (.sc (.string ⟨#[]⟩))), (.tc (.sc (.int .u8 0))), (.tc (.sc (.int .u8 0))), (.tc (.sc (.slice none 0 0)))], [(.tc (.sc (.int .u8 0))), (.tc (.sc (.string ⟨#[]⟩))), (.tc (.sc (.int .u8 0))), (.tc (.sc (.int .u8 0))), (.tc (.sc (.slice none 0 0)))], [(.tc (.sc (.int .u8 0))), (.tc (.sc (.string ⟨#[]⟩))), (.tc (.sc (.int .u8 0))), (.tc (.sc (.int .u8 0))), (.tc (.sc (.slice none 0 0)))], [(.tc (.sc (.int .u8 0))), (.tc (.sc (.string ⟨#[]⟩))), (.tc (.sc (.int .u8 0))), (.tc (.sc (.int .u8 0))), (.tc (.sc (.slice none 0 0)))], [(.tc (.sc (.int .u8 0))), (.tc (.sc (.string ⟨#[]⟩))), (.tc (.sc (.int .u8 0))), (.tc (.sc (.int .u8 0))), (.tc (.sc (.slice none 0 0)))]] [(.mk 0 5 (h0 g1)), (.mk 1 5 (h0 g7)), (.mk 2 5 (h0 g13)), (.mk 3 5 (h0 g19)), (.mk 4 5 (h0 g25)), (.mk 5 5 (h0 g31)), (.mk 6 5 (h0 g36)), (.mk 7 5 (h0 g41)), (.mk 8 5 (h0 g46)), (.mk 9 5 (h0 g51)), (.mk 10 5 (h0 g56)), (.mk 11 5 (h0 g61)), (.mk 12 5 (h1 g2)), (.mk 13 5 (h1 g8)), (.mk 14 5 (h1 g13)), (.mk 15 5 (h1 g18)), (.mk 16 5 (h1 g23)), (.mk 17 5 (h1 g28)), (.mk 18 5 (h1 g33)), (.mk 19 5 (h1 g38)), (.mk 20 5 (h1 g43)), (.mk 21 5 (h1 g48)), (.mk 22 5 (h1 g53)), (.mk 23 5 (h1 g59)), (.mk 24 5 (h2 g1)), (.mk 25 5 (h2 g7)), (.mk 26 5 (h2 g11)), (.mk 27 5 (h2 g15)), (.mk 28 5 (h2 g18)), (.mk 29 5 (h2 g23)), (.mk 30 5 (h2 g28))] (G3 79 1 156)) (i2 s29),
  .p (.mv (h2 g29)) (i0 s0)])
 .ret)),
 [.tmp (h0 g0)]⟩
theorem ff79_ok : compF SBEncKnown 79 = ff79 := by kernel_rfl
noncomputable def ff92 : FF := .t2 ⟨17,
 (.seq (.reg [.p (.al 5 [(.sc (.int .u8 0)), (.sc (.string ⟨#[]⟩)), (.sc (.int .u8 0)), (.sc (.int .u8 0)), (.sc (.slice none 0 0))]) s8])
 (.seq (.reg [.p (.mv g0) s9,
  .p (.mv g1) s10,
  .p (.mv g2) s11,
  .p (.mv g2) s12,
  .p (.call 91 [g12] (G2 92 1 4)) s13,
  .p (.mv g3) s14,
  .p (.call 104 [g14] (G2 92 1 6)) s15,
  .p (.bd [(.tc (.sc (.int .u8 0))), (.tc (.sc (.string ⟨#[]⟩))), (.tc (.sc (.int .u8 0))), (.tc (.sc (.int .u8 0))), (.tc (.sc (.slice none 0 0)))] [(.mk 0 1 g9), (.mk 1 1 g10), (.mk 2 1 g11), (.mk 3 1 g13), (.mk 4 1 g15)] (G2 92 1 7)) s16,
  .n (.st 5 g8 g16 (G2 92 1 8))])
 .ret)),
 [.cell g8 true 5]⟩
theorem ff92_ok : compF SBEncKnown 92 = ff92 := by kernel_rfl
noncomputable def ff91 : FF := .t2 ⟨15,
 (.seq (.reg [.p (.mv (kc (.tc (.sc (.int .u8 0))))) s2])
 (.seq (.seq (.reg [.p (.mv g0) s3])
 (.block 0 (.seq (.reg [.p (.bin .eql g3 (kc (.tc (.sc (.int .u8 1)))) (G2 91 2 0)) s5,
  .p (.mv g5) s4])
 (.cond g4 (.seq (.reg [.p (.mv (kc (.tc (.sc (.int .u8 15))))) s2])
 .ret)
 (.seq (.seq (.reg [.p (.bin .eql g3 (kc (.tc (.sc (.int .u8 2)))) (G2 91 4 0)) s7,
  .p (.mv g7) s6])
 (.cond g6 .skip
 (.reg [.p (.bin .eql g3 (kc (.tc (.sc (.int .u8 5)))) (G2 91 5 0)) s8,
  .p (.mv g8) s6])))
 (.cond g6 (.seq (.reg [.p (.mv (kc (.tc (.sc (.int .u8 12))))) s2])
 .ret)
 (.seq (.reg [.p (.bin .eql g3 (kc (.tc (.sc (.int .u8 3)))) (G2 91 7 0)) s10,
  .p (.mv g10) s9])
 (.cond g9 (.seq (.reg [.p (.mv (kc (.tc (.sc (.int .u8 3))))) s2])
 .ret)
 (.seq (.reg [.p (.bin .eql g3 (kc (.tc (.sc (.int .u8 4)))) (G2 91 9 0)) s12,
  .p (.mv g12) s11])
 (.cond g11 (.seq (.reg [.p (.mv (kc (.tc (.sc (.int .u8 1))))) s2])
 .ret)
 (.seq (.reg [.p (.bin .eql g3 (kc (.tc (.sc (.int .u8 6)))) (G2 91 11 0)) s14,
  .p (.mv g14) s13])
 (.cond g13 (.seq (.reg [.p (.mv (kc (.tc (.sc (.int .u8 8))))) s2])
 .ret)
 .skip))))))))))))
 (.seq (.reg [.p (.mv (kc (.tc (.sc (.int .u8 0))))) s2])
 .ret))),
 [.tmp g2]⟩
theorem ff91_ok : compF SBEncKnown 91 = ff91 := by kernel_rfl
noncomputable def ff104 : FF := .t2 ⟨36,
 (.seq (.reg [.p (.mv (kc (.tc (.sc (.slice none 0 0))))) s2])
 (.seq (.reg [.p (.mv (kc (.tc (.sc (.int .i64 0))))) s3])
 (.seq (.seq (.reg [.p (.mv g0) s9,
  .p (.len g9 (G2 104 2 1)) s10,
  .p (.mv (kc (.tc (.sc (.int .i64 0))))) s11])
 (.block 0 (.loop 4294967296 (.seq (.reg [.p (.bin .lss g11 g10 (G2 104 3 0)) s12])
 (.seq (.cond g12 .skip
 (.exit 0))
 (.seq (.block 1 (.seq (.reg [.p (.ia 1 g9 g11 (G2 104 4 0)) s13,
  .p (.ld false 1 g13) s14,
  .p (.mv g14) s5])
 (.seq (.reg [.p (.mv g3) s15,
  .p (.mv g5) s16,
  .p (.len g16 (G2 104 5 2)) s17,
  .p (.bin .add g15 g17 (G2 104 5 3)) s18,
  .p (.mv g18) s3])
 (.seq (.reg [.p (.mv g3) s19,
  .p (.bin .lss g19 (kc (.tc (.sc (.int .i64 0)))) (G2 104 6 1)) s20])
 (.cond g20 (.reg [.p (.gen (G2 104 7 0)) s21,
  .n (.gen (G2 104 7 1))])
 .skip)))))
 (.reg [.p (.bin .add g11 (kc (.tc (.sc (.int .i64 1)))) (G2 104 8 0)) s22,
  .p (.mv g22) s11])))))))
 (.seq (.reg [.p (.mv g3) s23,
  .p (.call 105 [(kc (.tc (.sc (.slice none 0 0)))), g23] (G2 104 9 1)) s24,
  .p (.mv g24) s6])
 (.seq (.seq (.reg [.p (.mv g0) s25,
  .p (.len g25 (G2 104 10 1)) s26,
  .p (.mv (kc (.tc (.sc (.int .i64 0))))) s27])
 (.block 2 (.loop 4294967296 (.seq (.reg [.p (.bin .lss g27 g26 (G2 104 11 0)) s28])
 (.seq (.cond g28 .skip
 (.exit 2))
 (.seq (.block 3 (.seq (.reg [.p (.ia 1 g25 g27 (G2 104 12 0)) s29,
  .p (.ld false 1 g29) s30,
  .p (.mv g30) s8])
 (.reg [.p (.mv g6) s31,
  .p (.mv g8) s32,
  .p (.ap 5 32 g31 g32) s33,
  .p (.mv g33) s6])))
 (.reg [.p (.bin .add g27 (kc (.tc (.sc (.int .i64 1)))) (G2 104 14 0)) s34,
  .p (.mv g34) s27])))))))
 (.seq (.reg [.p (.mv g6) s35,
  .p (.mv g35) s2])
 .ret)))))),
 [.tmp g2]⟩
theorem ff104_ok : compF SBEncKnown 104 = ff104 := by kernel_rfl
noncomputable def ff105 : FF := .t2 ⟨27,
 (.seq (.reg [.p (.mv (kc (.tc (.sc (.slice none 0 0))))) s4])
 (.seq (.seq (.reg [.p (.mv g1) s5,
  .p (.bin .lss g5 (kc (.tc (.sc (.int .i64 0)))) (G2 105 1 1)) s6])
 (.cond g6 (.reg [.p (.gen (G2 105 2 0)) s7,
  .n (.gen (G2 105 2 1))])
 .skip))
 (.seq (.seq (.reg [.p (.mv g1) s8,
  .p (.mv g0) s9,
  .p (.gen (G2 105 3 2)) s10,
  .p (.mv g0) s11,
  .p (.len g11 (G2 105 3 4)) s12,
  .p (.bin .sub g10 g12 (G2 105 3 5)) s13,
  .p (.bin .sub g8 g13 (G2 105 3 6)) s14,
  .p (.mv g14) s1])
 (.seq (.reg [.p (.mv g1) s15,
  .p (.bin .gtr g15 (kc (.tc (.sc (.int .i64 0)))) (G2 105 4 1)) s16])
 (.cond g16 (.reg [.p (.mv g0) s17,
  .p (.mv g0) s18,
  .p (.gen (G2 105 5 2)) s19,
  .p (.sl 5 g17 none (some g19) none (G2 105 5 3)) s20,
  .p (.mv g1) s21,
  .p (.gen (G2 105 5 5)) s22,
  .p (.mv g0) s23,
  .p (.len g23 (G2 105 5 7)) s24,
  .p (.sl 5 g22 none (some g24) none (G2 105 5 8)) s25,
  .p (.mv g25) s0])
 .skip)))
 (.seq (.reg [.p (.mv g0) s26,
  .p (.mv g26) s4])
 .ret)))),
 [.tmp g4]⟩
theorem ff105_ok : compF SBEncKnown 105 = ff105 := by kernel_rfl
noncomputable def ff93 : FF := .t2 ⟨4,
 (.seq (.reg [.p (.mv (kc (.tc (.sc (.slice none 0 0))))) s0])
 (.seq (.reg [.p (.call 99 [(kc (.tc (.sc (.int .u8 1)))), (kc (.tc (.sc (.int .i64 3))))] (G2 93 1 0)) s1,
  .p (.call 99 [(kc (.tc (.sc (.int .u8 2)))), (kc (.tc (.sc (.int .i64 2))))] (G2 93 1 1)) s2,
  .p (.ap 5 32 g1 g2) s3,
  .p (.mv g3) s0])
 .ret)),
 [.tmp g0]⟩
theorem ff93_ok : compF SBEncKnown 93 = ff93 := by kernel_rfl
noncomputable def ff99 : FF := .t2 ⟨9,
 (.seq (.reg [.p (.mv (kc (.tc (.sc (.slice none 0 0))))) s4])
 (.seq (.reg [.p (.mv g0) s5,
  .p (.mv g1) s6,
  .p (.bd [(.tc (.sc (.int .u8 0))), (.tc (.sc (.int .i64 0))), (.tc (.sc (.int .i64 0))), (.tc (.sc (.bool false))), (.tc (.sc (.bool false)))] [(.mk 0 1 g5), (.mk 1 1 g6)] (G2 99 1 2)) s7,
  .p (.bs 5 1 [[(.tc (.sc (.int .u8 0))), (.tc (.sc (.int .i64 0))), (.tc (.sc (.int .i64 0))), (.tc (.sc (.bool false))), (.tc (.sc (.bool false)))]] [(.mk 0 5 g7)] (G2 99 1 3)) s8,
  .p (.mv g8) s4])
 .ret)),
 [.tmp g4]⟩
theorem ff99_ok : compF SBEncKnown 99 = ff99 := by kernel_rfl
noncomputable def ff94 : FF := .t2 ⟨2,
 (.seq (.reg [.p (.mv (kc (.tc (.sc (.slice none 0 0))))) s0])
 (.seq (.reg [.p (.call 99 [(kc (.tc (.sc (.int .u8 3)))), (kc (.tc (.sc (.int .i64 5))))] (G2 94 1 0)) s1,
  .p (.mv g1) s0])
 .ret)),
 [.tmp g0]⟩
theorem ff94_ok : compF SBEncKnown 94 = ff94 := by kernel_rfl
noncomputable def ff95 : FF := .t2 ⟨2,
 (.seq (.reg [.p (.mv (kc (.tc (.sc (.slice none 0 0))))) s0])
 (.seq (.reg [.p (.call 99 [(kc (.tc (.sc (.int .u8 5)))), (kc (.tc (.sc (.int .i64 5))))] (G2 95 1 0)) s1,
  .p (.mv g1) s0])
 .ret)),
 [.tmp g0]⟩
theorem ff95_ok : compF SBEncKnown 95 = ff95 := by kernel_rfl
noncomputable def ff96 : FF := .t2 ⟨2,
 (.seq (.reg [.p (.mv (kc (.tc (.sc (.slice none 0 0))))) s0])
 (.seq (.reg [.p (.call 99 [(kc (.tc (.sc (.int .u8 6)))), (kc (.tc (.sc (.int .i64 5))))] (G2 96 1 0)) s1,
  .p (.mv g1) s0])
 .ret)),
 [.tmp g0]⟩
theorem ff96_ok : compF SBEncKnown 96 = ff96 := by kernel_rfl
noncomputable def ff97 : FF := .t2 ⟨9,
 (.seq (.reg [.p (.mv (kc (.tc (.sc (.slice none 0 0))))) s4])
 (.seq (.reg [.p (.mv g0) s5,
  .p (.mv g1) s6,
  .p (.bd [(.tc (.sc (.int .u8 0))), (.tc (.sc (.int .i64 0))), (.tc (.sc (.int .i64 0))), (.tc (.sc (.bool false))), (.tc (.sc (.bool false)))] [(.mk 0 1 (kc (.tc (.sc (.int .u8 9))))), (.mk 1 1 g5), (.mk 2 1 g6), (.mk 3 1 (kc (.tc (.sc (.bool true))))), (.mk 4 1 (kc (.tc (.sc (.bool true)))))] (G2 97 1 2)) s7,
  .p (.bs 5 1 [[(.tc (.sc (.int .u8 0))), (.tc (.sc (.int .i64 0))), (.tc (.sc (.int .i64 0))), (.tc (.sc (.bool false))), (.tc (.sc (.bool false)))]] [(.mk 0 5 g7)] (G2 97 1 3)) s8,
  .p (.mv g8) s4])
 .ret)),
 [.tmp g4]⟩
theorem ff97_ok : compF SBEncKnown 97 = ff97 := by kernel_rfl
noncomputable def ff98 : FF := .t2 ⟨2,
 (.seq (.reg [.p (.mv (kc (.tc (.sc (.slice none 0 0))))) s0])
 (.seq (.reg [.p (.call 99 [(kc (.tc (.sc (.int .u8 4)))), (kc (.tc (.sc (.int .i64 2))))] (G2 98 1 0)) s1,
  .p (.mv g1) s0])
 .ret)),
 [.tmp g0]⟩
theorem ff98_ok : compF SBEncKnown 98 = ff98 := by kernel_rfl
noncomputable def ff100 : FF := .t2 ⟨6,
 (.seq (.reg [.p (.mv (kc (.tc (.sc (.slice none 0 0))))) s2])
 (.seq (.reg [.p (.mv g0) s3,
  .p (.bd [(.tc (.sc (.int .u8 0))), (.tc (.sc (.int .i64 0))), (.tc (.sc (.int .i64 0))), (.tc (.sc (.bool false))), (.tc (.sc (.bool false)))] [(.mk 0 1 (kc (.tc (.sc (.int .u8 10))))), (.mk 1 1 g3), (.mk 2 1 (kc (.tc (.sc (.int .i64 2))))), (.mk 3 1 (kc (.tc (.sc (.bool true))))), (.mk 4 1 (kc (.tc (.sc (.bool true)))))] (G2 100 1 1)) s4,
  .p (.bs 5 1 [[(.tc (.sc (.int .u8 0))), (.tc (.sc (.int .i64 0))), (.tc (.sc (.int .i64 0))), (.tc (.sc (.bool false))), (.tc (.sc (.bool false)))]] [(.mk 0 5 g4)] (G2 100 1 2)) s5,
  .p (.mv g5) s2])
 .ret)),
 [.tmp g2]⟩
theorem ff100_ok : compF SBEncKnown 100 = ff100 := by kernel_rfl
noncomputable def ff63 : FF := .t2 ⟨8,
 (.seq (.reg [.p (.mv (kc (.tc (.sc (.slice none 0 0))))) s2])
 (.seq (.seq (.reg [.p (.mv g0) s3,
  .p (.bin .eql g3 (kc (.tc (.sc (.slice none 0 0)))) (G2 63 1 1)) s4])
 (.cond g4 (.seq (.reg [.p (.mv (kc (.tc (.sc (.slice none 0 0))))) s2])
 .ret)
 .skip))
 (.seq (.reg [.p (.bs 5 0 [] [] (G2 63 3 0)) s5,
  .p (.mv g0) s6,
  .p (.ap 5 32 g5 g6) s7,
  .p (.mv g7) s2])
 .ret))),
 [.tmp g2]⟩
theorem ff63_ok : compF SBEncKnown 63 = ff63 := by kernel_rfl
noncomputable def ff54 : FF := .t2 ⟨40,
 (.seq (.reg [.p (.bx 11 g0 (G2 54 0 0)) s2,
  .p (.bx 5 g1 (G2 54 0 1)) s3,
  .p (.al 11 [(.sc (.int .u8 0)), (.sc (.int .u8 0)), (.sc (.int .u8 0)), (.sc (.int .u8 0)), (.sc (.int .u8 0)), (.sc (.int .u8 0)), (.sc (.int .u8 0)), (.sc (.bool false)), (.sc (.bool false)), (.sc (.int .u16 0)), (.sc (.int .i64 0))]) s4])
 (.seq (.seq (.reg [.p (.fa 0 g3) s5,
  .p (.ld false 1 g5) s6])
 (.block 0 (.seq (.reg [.p (.bin .eql g6 (kc (.tc (.sc (.int .u8 1)))) (G2 54 2 0)) s8,
  .p (.mv g8) s7])
 (.cond g7 (.reg [.p (.fa 6 g2) s9,
  .n (.st 1 g9 (kc (.tc (.sc (.int .u8 0)))) (G2 54 3 1))])
 (.seq (.reg [.p (.bin .eql g6 (kc (.tc (.sc (.int .u8 2)))) (G2 54 4 0)) s11,
  .p (.mv g11) s10])
 (.cond g10 (.reg [.p (.fa 5 g2) s12,
  .n (.st 1 g12 (kc (.tc (.sc (.int .u8 0)))) (G2 54 5 1))])
 (.seq (.seq (.reg [.p (.bin .eql g6 (kc (.tc (.sc (.int .u8 3)))) (G2 54 6 0)) s14,
  .p (.mv g14) s13])
 (.cond g13 .skip
 (.reg [.p (.bin .eql g6 (kc (.tc (.sc (.int .u8 4)))) (G2 54 7 0)) s15,
  .p (.mv g15) s13])))
 (.cond g13 (.reg [.p (.fa 1 g2) s16,
  .n (.st 1 g16 (kc (.tc (.sc (.int .u8 0)))) (G2 54 8 1))])
 (.seq (.reg [.p (.bin .eql g6 (kc (.tc (.sc (.int .u8 5)))) (G2 54 9 0)) s18,
  .p (.mv g18) s17])
 (.cond g17 (.reg [.p (.fa 2 g2) s19,
  .n (.st 1 g19 (kc (.tc (.sc (.int .u8 0)))) (G2 54 10 1))])
 (.seq (.reg [.p (.bin .eql g6 (kc (.tc (.sc (.int .u8 6)))) (G2 54 11 0)) s21,
  .p (.mv g21) s20])
 (.cond g20 (.reg [.p (.fa 3 g2) s22,
  .n (.st 1 g22 (kc (.tc (.sc (.int .u8 0)))) (G2 54 12 1))])
 (.seq (.reg [.p (.bin .eql g6 (kc (.tc (.sc (.int .u8 7)))) (G2 54 13 0)) s24,
  .p (.mv g24) s23])
 (.cond g23 (.reg [.p (.fa 4 g2) s25,
  .n (.st 1 g25 (kc (.tc (.sc (.int .u8 0)))) (G2 54 14 1))])
 (.seq (.reg [.p (.bin .eql g6 (kc (.tc (.sc (.int .u8 8)))) (G2 54 15 0)) s27,
  .p (.mv g27) s26])
 (.cond g26 (.reg [.p (.fa 7 g2) s28,
  .n (.st 1 g28 (kc (.tc (.sc (.bool false)))) (G2 54 16 1))])
 (.seq (.seq (.reg [.p (.bin .eql g6 (kc (.tc (.sc (.int .u8 9)))) (G2 54 17 0)) s30,
  .p (.mv g30) s29])
 (.cond g29 .skip
 (.reg [.p (.bin .eql g6 (kc (.tc (.sc (.int .u8 10)))) (G2 54 18 0)) s31,
  .p (.mv g31) s29])))
 (.cond g29 (.reg [.p (.fa 10 g2) s32,
  .n (.st 1 g32 (kc (.tc (.sc (.int .i64 0)))) (G2 54 19 1))])
 (.seq (.reg [.p (.bin .eql g6 (kc (.tc (.sc (.int .u8 11)))) (G2 54 20 0)) s34,
  .p (.mv g34) s33])
 (.cond g33 (.reg [.p (.fa 9 g2) s35,
  .n (.st 1 g35 (kc (.tc (.sc (.int .u16 0)))) (G2 54 21 1))])
 .skip))))))))))))))))))))
 (.seq (.seq (.reg [.p (.fa 4 g3) s36,
  .p (.ld false 1 g36) s37])
 (.cond g37 (.reg [.p (.fa 8 g2) s38,
  .n (.st 1 g38 (kc (.tc (.sc (.bool false)))) (G2 54 23 1))])
 .skip))
 (.seq (.reg [.p (.ld true 11 g2) s39,
  .n (.st 11 g4 g39 (G2 54 24 1))])
 .ret)))),
 [.cell g4 true 11]⟩
theorem ff54_ok : compF SBEncKnown 54 = ff54 := by kernel_rfl
noncomputable def ff55 : FF := .t3 ⟨84,
 (.seq (.reg [.p (.bx 11 (h0 g0) (G3 55 0 0)) (i0 s2),
  .p (.bx 5 (h0 g1) (G3 55 0 1)) (i0 s3),
  .p (.mv (kc (.tc (.sc (.bool false))))) (i0 s4)])
 (.seq (.seq (.reg [.p (.fa 0 (h0 g3)) (i0 s5),
  .p (.ld false 1 (h0 g5)) (i0 s6)])
 (.block 0 (.seq (.reg [.p (.bin .eql (h0 g6) (kc (.tc (.sc (.int .u8 1)))) (G3 55 2 0)) (i0 s8),
  .p (.mv (h0 g8)) (i0 s7)])
 (.cond (h0 g7) (.seq (.reg [.p (.fa 6 (h0 g2)) (i0 s9),
  .p (.ld false 1 (h0 g9)) (i0 s10),
  .p (.bin .leq (h0 g10) (kc (.tc (.sc (.int .u8 4)))) (G3 55 3 2)) (i0 s11),
  .p (.mv (h0 g11)) (i0 s4)])
 .ret)
 (.seq (.reg [.p (.bin .eql (h0 g6) (kc (.tc (.sc (.int .u8 2)))) (G3 55 4 0)) (i0 s13),
  .p (.mv (h0 g13)) (i0 s12)])
 (.cond (h0 g12) (.seq (.reg [.p (.fa 5 (h0 g2)) (i0 s14),
  .p (.ld false 1 (h0 g14)) (i0 s15),
  .p (.bin .lss (h0 g15) (kc (.tc (.sc (.int .u8 4)))) (G3 55 5 2)) (i0 s16),
  .p (.mv (h0 g16)) (i0 s4)])
 .ret)
 (.seq (.reg [.p (.bin .eql (h0 g6) (kc (.tc (.sc (.int .u8 3)))) (G3 55 6 0)) (i0 s18),
  .p (.mv (h0 g18)) (i0 s17)])
 (.cond (h0 g17) (.seq (.reg [.p (.fa 1 (h0 g2)) (i0 s19),
  .p (.ld false 1 (h0 g19)) (i0 s20),
  .p (.bin .lss (h0 g20) (kc (.tc (.sc (.int .u8 32)))) (G3 55 7 2)) (i0 s21),
  .p (.mv (h0 g21)) (i0 s4)])
 .ret)
 (.seq (.reg [.p (.bin .eql (h0 g6) (kc (.tc (.sc (.int .u8 4)))) (G3 55 8 0)) (i0 s23),
  .p (.mv (h0 g23)) (i0 s22)])
 (.cond (h0 g22) (.seq (.reg [.p (.fa 1 (h0 g2)) (i0 s24),
  .p (.ld false 1 (h0 g24)) (i0 s25),
  .p (.bin .lss (h0 g25) (kc (.tc (.sc (.int .u8 4)))) (G3 55 9 2)) (i0 s26),
  .p (.mv (h0 g26)) (i0 s4)])
 .ret)
 (.seq (.reg [.p (.bin .eql (h0 g6) (kc (.tc (.sc (.int .u8 5)))) (G3 55 10 0)) (i0 s28),
  .p (.mv (h0 g28)) (i0 s27)])
 (.cond (h0 g27) (.seq (.reg [.p (.fa 2 (h0 g2)) (i0 s29),
  .p (.ld false 1 (h0 g29)) (i0 s30),
  .p (.bin .lss (h0 g30) (kc (.tc (.sc (.int .u8 32)))) (G3 55 11 2)) (i0 s31),
  .p (.mv (h0 g31)) (i0 s4)])
 .ret)
 (.seq (.reg [.p (.bin .eql (h0 g6) (kc (.tc (.sc (.int .u8 6)))) (G3 55 12 0)) (i0 s33),
  .p (.mv (h0 g33)) (i0 s32)])
 (.cond (h0 g32) (.seq (.reg [.p (.fa 3 (h0 g2)) (i0 s34),
  .p (.ld false 1 (h0 g34)) (i0 s35),
  .p (.bin .lss (h0 g35) (kc (.tc (.sc (.int .u8 32)))) (G3 55 13 2)) (i0 s36),
  .p (.mv (h0 g36)) (i0 s4)])
 .ret)
 (.seq (.reg [.p (.bin .eql (h0 g6) (kc (.tc (.sc (.int .u8 7)))) (G3 55 14 0)) (i0 s38),
  .p (.mv (h0 g38)) (i0 s37)])
 (.cond (h0 g37) (.seq (.reg [.p (.fa 4 (h0 g2)) (i0 s39),
  .p (.ld false 1 (h0 g39)) (i0 s40),
  .p (.bin .lss (h0 g40) (kc (.tc (.sc (.int .u8 2)))) (G3 55 15 2)) (i0 s41),
  .p (.mv (h0 g41)) (i0 s4)])
 .ret)
 (.seq (.reg [.p (.bin .eql (h0 g6) (kc (.tc (.sc (.int .u8 9)))) (G3 55 16 0)) (i0 s43),
  .p (.mv (h0 g43)) (i0 s42)])
 (.cond (h0 g42) (.seq (.seq (.reg [.p (.fa 8 (h0 g2)) (i0 s44),
  .p (.ld false 1 (h0 g44)) (i0 s45)])
 (.cond (h0 g45) (.seq (.reg [.p (.fa 10 (h0 g2)) (i0 s46),
  .p (.ld false 1 (h0 g46)) (i0 s47),
  .p (.bin .geq (h0 g47) (kc (.tc (.sc (.int .i64 (-2147483648))))) (G3 55 18 2)) (i0 s48),
  .p (.mv (h0 g48)) (i0 s49),
  .gp (h0 g49) true (.fa 10 (h0 g2)) (i0 s50),
  .gp (h0 g49) true (.ld false 1 (h0 g50)) (i0 s51),
  .gp (h0 g49) true (.bin .leq (h0 g51) (kc (.tc (.sc (.int .i64 2147483647)))) (G3 55 18 6)) (i0 s52),
  .p (.pk (h0 g49) (h0 g52) (kc (.tc (.sc (.bool false))))) (i0 s53),
  .p (.mv (h0 g53)) (i0 s4)])
 .ret)
 .skip))
 (.seq (.reg [.p (.fa 10 (h0 g2)) (i0 s54),
  .p (.ld false 1 (h0 g54)) (i0 s55),
  .p (.fa 1 (h0 g3)) (i0 s56),
  .p (.ld false 1 (h0 g56)) (i0 s57),
  .p (.fa 2 (h0 g3)) (i0 s58),
  .p (.ld false 1 (h0 g58)) (i0 s59),
  .p (.fa 3 (h0 g3)) (i0 s60),
  .p (.ld false 1 (h0 g60)) (i0 s61),
  .p (.call 61 [(h0 g55), (h0 g57), (h0 g59), (h0 g61)] (G3 55 19 8)) (i0 s62),
  .p (.mv (h0 g62)) (i0 s4)])
 .ret))
 (.seq (.reg [.p (.bin .eql (h0 g6) (kc (.tc (.sc (.int .u8 10)))) (G3 55 20 0)) (i1 s0),
  .p (.mv (h1 g0)) (i0 s63)])
 (.cond (h0 g63) (.seq (.reg [.p (.fa 10 (h0 g2)) (i1 s1),
  .p (.ld false 1 (h1 g1)) (i1 s2),
  .p (.bin .geq (h1 g2) (kc (.tc (.sc (.int .i64 0)))) (G3 55 21 2)) (i1 s3),
  .p (.mv (h1 g3)) (i1 s4),
  .gp (h1 g4) true (.fa 10 (h0 g2)) (i1 s5),
  .gp (h1 g4) true (.ld false 1 (h1 g5)) (i1 s6),
  .gp (h1 g4) true (.bin .lss (h1 g6) (kc (.tc (.sc (.int .i64 4294967296)))) (G3 55 21 6)) (i1 s7),
  .p (.pk (h1 g4) (h1 g7) (kc (.tc (.sc (.bool false))))) (i1 s8),
  .p (.mv (h1 g8)) (i1 s9),
  .gp (h1 g9) true (.fa 10 (h0 g2)) (i1 s10),
  .gp (h1 g9) true (.ld false 1 (h1 g10)) (i1 s11),
  .gp (h1 g9) true (.bin .rem (h1 g11) (kc (.tc (.sc (.int .i64 4)))) (G3 55 21 11)) (i1 s12),
  .gp (h1 g9) true (.bin .eql (h1 g12) (kc (.tc (.sc (.int .i64 0)))) (G3 55 21 12)) (i1 s13),
  .p (.pk (h1 g9) (h1 g13) (kc (.tc (.sc (.bool false))))) (i1 s14),
  .p (.mv (h1 g14)) (i0 s4)])
 .ret)
 (.seq (.reg [.p (.bin .eql (h0 g6) (kc (.tc (.sc (.int .u8 11)))) (G3 55 22 0)) (i1 s16),
  .p (.mv (h1 g16)) (i1 s15)])
 (.cond (h1 g15) (.seq (.reg [.p (.fa 9 (h0 g2)) (i1 s17),
  .p (.ld false 1 (h1 g17)) (i1 s18),
  .p (.bin .lss (h1 g18) (kc (.tc (.sc (.int .u16 2048)))) (G3 55 23 2)) (i1 s19),
  .p (.mv (h1 g19)) (i0 s4)])
 .ret)
 .skip))))))))))))))))))))))
 (.seq (.reg [.p (.mv (kc (.tc (.sc (.bool true))))) (i0 s4)])
 .ret))),
 [.tmp (h0 g4)]⟩
theorem ff55_ok : compF SBEncKnown 55 = ff55 := by kernel_rfl
noncomputable def ff61 : FF := .t2 ⟨48,
 (.seq (.reg [.p (.mv (kc (.tc (.sc (.bool false))))) s8])
 (.seq (.seq (.reg [.p (.mv g1) s9,
  .p (.bin .lss g9 (kc (.tc (.sc (.int .i64 1)))) (G2 61 1 1)) s10,
  .p (.mv g10) s11,
  .gp g11 false (.mv g1) s12,
  .gp g11 false (.bin .gtr g12 (kc (.tc (.sc (.int .i64 32)))) (G2 61 1 4)) s13,
  .p (.pk g11 (kc (.tc (.sc (.bool true)))) g13) s14,
  .p (.mv g14) s15,
  .gp g15 false (.mv g2) s16,
  .gp g15 false (.bin .lss g16 (kc (.tc (.sc (.int .i64 0)))) (G2 61 1 8)) s17,
  .p (.pk g15 (kc (.tc (.sc (.bool true)))) g17) s18,
  .p (.mv g18) s19,
  .gp g19 false (.mv g2) s20,
  .gp g19 false (.bin .gtr g20 (kc (.tc (.sc (.int .i64 8)))) (G2 61 1 12)) s21,
  .p (.pk g19 (kc (.tc (.sc (.bool true)))) g21) s22,
  .p (.mv g22) s23,
  .gp g23 false (.mv g0) s24,
  .gp g23 false (.mv g2) s25,
  .gp g23 false (.bin .shl (kc (.tc (.sc (.int .i64 1)))) g25 (G2 61 1 17)) s26,
  .gp g23 false (.bin .sub g26 (kc (.tc (.sc (.int .i64 1)))) (G2 61 1 18)) s27,
  .gp g23 false (.bin .and g24 g27 (G2 61 1 19)) s28,
  .gp g23 false (.bin .neq g28 (kc (.tc (.sc (.int .i64 0)))) (G2 61 1 20)) s29,
  .p (.pk g23 (kc (.tc (.sc (.bool true)))) g29) s30])
 (.cond g30 (.seq (.reg [.p (.mv (kc (.tc (.sc (.bool false))))) s8])
 .ret)
 .skip))
 (.seq (.reg [.p (.mv g0) s31,
  .p (.mv g2) s32,
  .p (.bin .shr g31 g32 (G2 61 3 2)) s33,
  .p (.mv g33) s0])
 (.seq (.seq (.reg [.p (.mv g3) s34])
 (.cond g34 (.reg [.p (.mv g0) s35,
  .p (.mv g1) s36,
  .p (.bin .sub g36 (kc (.tc (.sc (.int .i64 1)))) (G2 61 5 2)) s37,
  .p (.bin .shl (kc (.tc (.sc (.int .i64 1)))) g37 (G2 61 5 3)) s38,
  .p (.bin .add g35 g38 (G2 61 5 4)) s39,
  .p (.mv g39) s0])
 .skip))
 (.seq (.reg [.p (.mv g0) s40,
  .p (.bin .geq g40 (kc (.tc (.sc (.int .i64 0)))) (G2 61 6 1)) s41,
  .p (.mv g41) s42,
  .gp g42 true (.mv g0) s43,
  .gp g42 true (.mv g1) s44,
  .gp g42 true (.bin .shl (kc (.tc (.sc (.int .i64 1)))) g44 (G2 61 6 5)) s45,
  .gp g42 true (.bin .lss g43 g45 (G2 61 6 6)) s46,
  .p (.pk g42 g46 (kc (.tc (.sc (.bool false))))) s47,
  .p (.mv g47) s8])
 .ret))))),
 [.tmp g8]⟩
theorem ff61_ok : compF SBEncKnown 61 = ff61 := by kernel_rfl
noncomputable def ff56 : FF := .t2 ⟨5,
 (.seq (.reg [.p (.bx 11 g0 (G2 56 0 0)) s1,
  .p (.mv (kc (.tc (.sc (.bool false))))) s2])
 (.seq (.reg [.p (.ld true 11 g1) s3,
  .p (.call 78 [g3, (kc (.tc (.sc (.int .u8 1))))] (G2 56 1 1)) s4,
  .p (.mv g4) s2])
 .ret)),
 [.tmp g2]⟩
theorem ff56_ok : compF SBEncKnown 56 = ff56 := by kernel_rfl
noncomputable def ff78 : FF := .t2 ⟨17,
 (.seq (.reg [.p (.bx 11 g0 (G2 78 0 0)) s2,
  .p (.mv (kc (.tc (.sc (.bool false))))) s4])
 (.seq (.reg [.p (.fa 0 g2) s9,
  .p (.ld false 1 g9) s10,
  .p (.mv g1) s11,
  .p (.call 37 [g10, g11] (G2 78 1 3)) s12,
  .p (.mv g12) s8,
  .p (.ex g8 0) s13,
  .p (.ex g8 1) s14,
  .p (.ex g8 2) s15,
  .p (.al 5 [(.sc (.int .u8 0)), (.sc (.int .i64 0)), (.sc (.int .i64 0)), (.sc (.bool false)), (.sc (.bool false))]) s5,
  .n (.st 5 g5 g13 (G2 78 1 9)),
  .p (.mv g14) s6,
  .p (.mv g15) s7])
 (.seq (.reg [.p (.mv g7) s16,
  .p (.mv g16) s4])
 .ret))),
 [.tmp g4]⟩
theorem ff78_ok : compF SBEncKnown 78 = ff78 := by kernel_rfl
noncomputable def ff37 : FF := .t2 ⟨35,
 (.seq (.reg [.p (.al 5 [(.sc (.int .u8 0)), (.sc (.int .i64 0)), (.sc (.int .i64 0)), (.sc (.bool false)), (.sc (.bool false))]) s4,
  .p (.mv (kc (.tc (.sc (.int .i64 0))))) s5,
  .p (.mv (kc (.tc (.sc (.bool false))))) s6])
 (.seq (.reg [.p (.mv g0) s12,
  .p (.call 62 [g12] (G2 37 1 1)) s13,
  .p (.mv g13) s11,
  .p (.ex g11 0) s14,
  .p (.ex g11 1) s15,
  .p (.al 5 [(.sc (.int .u8 0)), (.sc (.string ⟨#[]⟩)), (.sc (.int .u8 0)), (.sc (.int .u8 0)), (.sc (.slice none 0 0))]) s7,
  .n (.st 5 g7 g14 (G2 37 1 6)),
  .p (.mv g15) s8])
 (.seq (.reg [.p (.mv (kc (.tc (.sc (.int .i64 24))))) s5])
 (.seq (.seq (.reg [.p (.fa 4 g7) s16,
  .p (.ld false 1 g16) s17,
  .p (.len g17 (G2 37 3 2)) s18,
  .p (.mv (kc (.tc (.sc (.int .i64 0))))) s19])
 (.block 0 (.loop 4294967296 (.seq (.reg [.p (.bin .lss g19 g18 (G2 37 4 0)) s20])
 (.seq (.cond g20 .skip
 (.exit 0))
 (.seq (.block 1 (.seq (.reg [.p (.ia 5 g17 g19 (G2 37 5 0)) s21,
  .p (.ld true 5 g21) s22,
  .p (.al 5 [(.sc (.int .u8 0)), (.sc (.int .i64 0)), (.sc (.int .i64 0)), (.sc (.bool false)), (.sc (.bool false))]) s10,
  .n (.st 5 g10 g22 (G2 37 5 3))])
 (.seq (.reg [.p (.mv g5) s23,
  .p (.fa 1 g10) s24,
  .p (.ld false 1 g24) s25,
  .p (.bin .sub g23 g25 (G2 37 6 3)) s26,
  .p (.mv g26) s5])
 (.seq (.reg [.p (.fa 0 g10) s27,
  .p (.ld false 1 g27) s28,
  .p (.mv g1) s29,
  .p (.bin .eql g28 g29 (G2 37 7 3)) s30])
 (.cond g30 (.seq (.reg [.p (.ld true 5 g10) s31,
  .p (.mv g5) s32,
  .n (.st 5 g4 g31 (G2 37 8 2)),
  .p (.mv g32) s5,
  .p (.mv (kc (.tc (.sc (.bool true))))) s6])
 .ret)
 .skip)))))
 (.reg [.p (.bin .add g19 (kc (.tc (.sc (.int .i64 1)))) (G2 37 9 0)) s33,
  .p (.mv g33) s19])))))))
 (.seq (.reg [.p (.bd [(.tc (.sc (.int .u8 0))), (.tc (.sc (.int .i64 0))), (.tc (.sc (.int .i64 0))), (.tc (.sc (.bool false))), (.tc (.sc (.bool false)))] [] (G2 37 10 0)) s34,
  .n (.st 5 g4 g34 (G2 37 10 1)),
  .p (.mv (kc (.tc (.sc (.int .i64 0))))) s5,
  .p (.mv (kc (.tc (.sc (.bool false))))) s6])
 .ret))))),
 [.cell g4 true 5, .tmp g5, .tmp g6]⟩
theorem ff37_ok : compF SBEncKnown 37 = ff37 := by kernel_rfl
noncomputable def ff35 : FF := .t2 ⟨33,
 (.seq (.reg [.p (.bx 11 g0 (G2 35 0 0)) s2,
  .p (.mv (kc (.tc (.sc (.bool false))))) s4])
 (.seq (.reg [.p (.fa 0 g2) s10,
  .p (.ld false 1 g10) s11,
  .p (.call 59 [g11] (G2 35 1 2)) s12,
  .p (.mv g12) s9,
  .p (.ex g9 0) s13,
  .p (.ex g9 1) s14,
  .p (.al 5 [(.sc (.int .u8 0)), (.sc (.int .i64 0)), (.sc (.int .i64 0)), (.sc (.bool false)), (.sc (.bool false))]) s5,
  .n (.st 5 g5 g13 (G2 35 1 7)),
  .p (.mv g14) s6])
 (.seq (.reg [.p (.ld true 11 g2) s16,
  .p (.mv g1) s17,
  .p (.call 60 [g16, g17] (G2 35 2 2)) s18,
  .p (.mv g18) s15,
  .p (.ex g15 0) s19,
  .p (.ex g15 1) s20,
  .p (.mv g19) s7,
  .p (.mv g20) s8])
 (.seq (.reg [.p (.mv g6) s21,
  .p (.nt g21 (G2 35 3 1)) s22,
  .p (.mv g22) s23,
  .gp g23 false (.mv g7) s24,
  .gp g23 false (.fa 1 g5) s25,
  .gp g23 false (.ld false 1 g25) s26,
  .gp g23 false (.fa 2 g5) s27,
  .gp g23 false (.ld false 1 g27) s28,
  .gp g23 false (.fa 3 g5) s29,
  .gp g23 false (.ld false 1 g29) s30,
  .gp g23 false (.call 61 [g24, g26, g28, g30] (G2 35 3 10)) s31,
  .p (.pk g23 (kc (.tc (.sc (.bool true)))) g31) s32,
  .p (.mv g32) s4])
 .ret)))),
 [.tmp g4]⟩
theorem ff35_ok : compF SBEncKnown 35 = ff35 := by kernel_rfl
noncomputable def ff59 : FF := .t2 ⟨26,
 (.seq (.reg [.p (.al 5 [(.sc (.int .u8 0)), (.sc (.int .i64 0)), (.sc (.int .i64 0)), (.sc (.bool false)), (.sc (.bool false))]) s2,
  .p (.mv (kc (.tc (.sc (.bool false))))) s3])
 (.seq (.seq (.reg [.p (.bs 1 2 [[(.tc (.sc (.int .u8 0)))], [(.tc (.sc (.int .u8 0)))]] [(.mk 0 1 (kc (.tc (.sc (.int .u8 9))))), (.mk 1 1 (kc (.tc (.sc (.int .u8 10)))))] (G2 59 1 0)) s9,
  .p (.len g9 (G2 59 1 1)) s10,
  .p (.mv (kc (.tc (.sc (.int .i64 0))))) s11])
 (.block 0 (.loop 4294967296 (.seq (.reg [.p (.bin .lss g11 g10 (G2 59 2 0)) s12])
 (.seq (.cond g12 .skip
 (.exit 0))
 (.seq (.block 1 (.seq (.reg [.p (.ia 1 g9 g11 (G2 59 3 0)) s13,
  .p (.ld false 1 g13) s14,
  .p (.mv g14) s5])
 (.seq (.reg [.p (.mv g0) s16,
  .p (.mv g5) s17,
  .p (.call 37 [g16, g17] (G2 59 4 2)) s18,
  .p (.mv g18) s15,
  .p (.ex g15 0) s19,
  .p (.ex g15 1) s20,
  .p (.ex g15 2) s21,
  .p (.al 5 [(.sc (.int .u8 0)), (.sc (.int .i64 0)), (.sc (.int .i64 0)), (.sc (.bool false)), (.sc (.bool false))]) s6,
  .n (.st 5 g6 g19 (G2 59 4 8)),
  .p (.mv g20) s7,
  .p (.mv g21) s8])
 (.seq (.reg [.p (.mv g8) s22])
 (.cond g22 (.seq (.reg [.p (.ld true 5 g6) s23,
  .n (.st 5 g2 g23 (G2 59 6 1)),
  .p (.mv (kc (.tc (.sc (.bool true))))) s3])
 .ret)
 .skip)))))
 (.reg [.p (.bin .add g11 (kc (.tc (.sc (.int .i64 1)))) (G2 59 7 0)) s24,
  .p (.mv g24) s11])))))))
 (.seq (.reg [.p (.bd [(.tc (.sc (.int .u8 0))), (.tc (.sc (.int .i64 0))), (.tc (.sc (.int .i64 0))), (.tc (.sc (.bool false))), (.tc (.sc (.bool false)))] [] (G2 59 8 0)) s25,
  .n (.st 5 g2 g25 (G2 59 8 1)),
  .p (.mv (kc (.tc (.sc (.bool false))))) s3])
 .ret))),
 [.cell g2 true 5, .tmp g3]⟩
theorem ff59_ok : compF SBEncKnown 59 = ff59 := by kernel_rfl
noncomputable def ff60 : FF := .t2 ⟨29,
 (.seq (.reg [.p (.bx 11 g0 (G2 60 0 0)) s2,
  .p (.mv (kc (.tc (.sc (.int .i64 0))))) s4,
  .p (.mv (kc (.tc (.sc (.bool false))))) s5])
 (.seq (.reg [.p (.fa 0 g2) s9,
  .p (.ld false 1 g9) s10,
  .p (.call 59 [g10] (G2 60 1 2)) s11,
  .p (.mv g11) s8,
  .p (.ex g8 0) s12,
  .p (.ex g8 1) s13,
  .p (.al 5 [(.sc (.int .u8 0)), (.sc (.int .i64 0)), (.sc (.int .i64 0)), (.sc (.bool false)), (.sc (.bool false))]) s6,
  .n (.st 5 g6 g12 (G2 60 1 7)),
  .p (.mv g13) s7])
 (.seq (.block 0 (.seq (.reg [.p (.mv g7) s15,
  .p (.nt g15 (G2 60 2 1)) s16,
  .p (.mv g16) s14])
 (.cond g14 (.seq (.reg [.p (.mv (kc (.tc (.sc (.int .i64 0))))) s4,
  .p (.mv (kc (.tc (.sc (.bool false))))) s5])
 .ret)
 (.seq (.reg [.p (.fa 0 g6) s18,
  .p (.ld false 1 g18) s19,
  .p (.bin .eql g19 (kc (.tc (.sc (.int .u8 10)))) (G2 60 4 2)) s20,
  .p (.mv g20) s17])
 (.cond g17 (.seq (.reg [.p (.fa 10 g2) s21,
  .p (.ld false 1 g21) s22,
  .p (.cv .u32 g22 (G2 60 5 2)) s23,
  .p (.mv g1) s24,
  .p (.bin .sub g23 g24 (G2 60 5 4)) s25,
  .p (.call 51 [g25, (kc (.tc (.sc (.int .i64 32))))] (G2 60 5 5)) s26,
  .p (.mv g26) s4,
  .p (.mv (kc (.tc (.sc (.bool true))))) s5])
 .ret)
 .skip)))))
 (.seq (.reg [.p (.fa 10 g2) s27,
  .p (.ld false 1 g27) s28,
  .p (.mv g28) s4,
  .p (.mv (kc (.tc (.sc (.bool true))))) s5])
 .ret)))),
 [.tmp g4, .tmp g5]⟩
theorem ff60_ok : compF SBEncKnown 60 = ff60 := by kernel_rfl
noncomputable def ff51 : FF := .t2 ⟨27,
 (.seq (.reg [.p (.mv (kc (.tc (.sc (.int .i64 0))))) s4])
 (.seq (.seq (.reg [.p (.mv g1) s6,
  .p (.bin .lss g6 (kc (.tc (.sc (.int .i64 1)))) (G2 51 1 1)) s7,
  .p (.mv g7) s8,
  .gp g8 false (.mv g1) s9,
  .gp g8 false (.bin .gtr g9 (kc (.tc (.sc (.int .i64 32)))) (G2 51 1 4)) s10,
  .p (.pk g8 (kc (.tc (.sc (.bool true)))) g10) s11])
 (.cond g11 (.seq (.reg [.p (.mv (kc (.tc (.sc (.int .i64 0))))) s4])
 .ret)
 .skip))
 (.seq (.reg [.p (.mv g1) s12,
  .p (.bd [(.tc (.sc (.int .i64 0))), (.tc (.sc (.int .i64 0)))] [(.mk 0 1 (kc (.tc (.sc (.int .i64 0))))), (.mk 1 1 g12)] (G2 51 3 1)) s13,
  .p (.mv g0) s14,
  .p (.call 53 [g13, g14] (G2 51 3 3)) s15,
  .p (.cv .i64 g15 (G2 51 3 4)) s16,
  .p (.mv g16) s5])
 (.seq (.seq (.reg [.p (.mv g5) s17,
  .p (.mv g1) s18,
  .p (.bin .sub g18 (kc (.tc (.sc (.int .i64 1)))) (G2 51 4 2)) s19,
  .p (.bin .shr g17 g19 (G2 51 4 3)) s20,
  .p (.bin .eql g20 (kc (.tc (.sc (.int .i64 1)))) (G2 51 4 4)) s21])
 (.cond g21 (.seq (.reg [.p (.mv g5) s22,
  .p (.mv g1) s23,
  .p (.bin .shl (kc (.tc (.sc (.int .i64 1)))) g23 (G2 51 5 2)) s24,
  .p (.bin .sub g22 g24 (G2 51 5 3)) s25,
  .p (.mv g25) s4])
 .ret)
 .skip))
 (.seq (.reg [.p (.mv g5) s26,
  .p (.mv g26) s4])
 .ret))))),
 [.tmp g4]⟩
theorem ff51_ok : compF SBEncKnown 51 = ff51 := by kernel_rfl
noncomputable def ff53 : FF := .t2 ⟨14,
 (.seq (.reg [.p (.bx 2 g0 (G2 53 0 0)) s2,
  .p (.mv (kc (.tc (.sc (.int .u32 0))))) s4])
 (.seq (.regD [0, 1, 0, 4, 15, 31, 0, 64, 255, 511] [.no, (.rd (.cv .u64 g5 (G2 53 1 1)) g6), .no, (.rd (.ld false 1 g7) g8), .no, (.rd (.cv .u32 g9 (G2 53 1 5)) g10), (.rd (.ld true 2 g2) g11), .no, .no, .no] [.mk .none .yes (.mv g1) (.mv g1) (some s5),
  .mk .none .yes (.cv .u64 g5 (G2 53 1 1)) (.cv .u64 g5 (G2 53 1 1)) (some s6),
  .mk .none .yes (.fa 0 g2) (.fa 0 g2) (some s7),
  .mk .none .yes (.ld false 1 g7) (.ld false 1 g7) (some s8),
  .mk .none .yes (.bin .shr g6 g8 (G2 53 1 4)) (.bin .shr g6 g8 (G2 53 1 4)) (some s9),
  .mk .none .yes (.cv .u32 g9 (G2 53 1 5)) (.cv .u32 g9 (G2 53 1 5)) (some s10),
  .mk .none .yes (.ld true 2 g2) (.ld true 2 g2) (some s11),
  .mk .none (.dyn 77 [g11]) (.call 77 [g11] (G2 53 1 7)) (.call 77 [g11] (G2 53 1 7)) (some s12),
  .mk .none .yes (.bin .and g10 g12 (G2 53 1 8)) (.bin .and g10 g12 (G2 53 1 8)) (some s13),
  .mk .none .yes (.mv g13) (.mv g13) (some s4)])
 .ret)),
 [.tmp g4]⟩
theorem ff53_ok : compF SBEncKnown 53 = ff53 := by kernel_rfl
noncomputable def ff77 : FF := .t2 ⟨8,
 (.seq (.reg [.p (.bx 2 g0 (G2 77 0 0)) s1,
  .p (.mv (kc (.tc (.sc (.int .u32 0))))) s2])
 (.seq (.reg [.p (.fa 1 g1) s3,
  .p (.ld false 1 g3) s4,
  .p (.bin .shl (kc (.tc (.sc (.int .u64 1)))) g4 (G2 77 1 2)) s5,
  .p (.bin .sub g5 (kc (.tc (.sc (.int .u64 1)))) (G2 77 1 3)) s6,
  .p (.cv .u32 g6 (G2 77 1 4)) s7,
  .p (.mv g7) s2])
 .ret)),
 [.tmp g2]⟩
theorem ff77_ok : compF SBEncKnown 77 = ff77 := by kernel_rfl
noncomputable def ff38 : FF := .t2 ⟨4,
 (.seq (.reg [.p (.mv (kc (.tc (.sc (.int .u32 0))))) s2])
 (.seq (.seq (.reg [.p (.mv g0) s3])
 (.cond g3 (.seq (.reg [.p (.mv (kc (.tc (.sc (.int .u32 1))))) s2])
 .ret)
 .skip))
 (.seq (.reg [.p (.mv (kc (.tc (.sc (.int .u32 0))))) s2])
 .ret))),
 [.tmp g2]⟩
theorem ff38_ok : compF SBEncKnown 38 = ff38 := by kernel_rfl
noncomputable def ff39 : FF := .t2 ⟨30,
 (.seq (.reg [.p (.bx 11 g0 (G2 39 0 0)) s3,
  .p (.bx 5 g1 (G2 39 0 1)) s4,
  .p (.mv (kc (.tc (.sc (.int .u32 0))))) s6,
  .p (.mv (kc (.tc (.sc (.int .u32 0))))) s7])
 (.seq (.reg [.p (.ld true 11 g3) s11,
  .p (.mv g2) s12,
  .p (.call 60 [g11, g12] (G2 39 1 2)) s13,
  .p (.mv g13) s10,
  .p (.ex g10 0) s14,
  .p (.ex g10 1) s15,
  .p (.mv g14) s8,
  .p (.mv g15) s9])
 (.seq (.seq (.reg [.p (.fa 8 g3) s16,
  .p (.ld false 1 g16) s17])
 (.cond g17 (.seq (.reg [.p (.mv g8) s19,
  .p (.call 64 [g19] (G2 39 3 1)) s20,
  .p (.mv g20) s18,
  .p (.ex g18 0) s21,
  .p (.ex g18 1) s22,
  .p (.mv g21) s7,
  .p (.mv g22) s6])
 (.seq (.reg [.p (.mv g6) s23,
  .p (.mv g7) s24,
  .p (.mv g23) s6,
  .p (.mv g24) s7])
 .ret))
 .skip))
 (.seq (.reg [.p (.mv g8) s25,
  .p (.fa 2 g4) s26,
  .p (.ld false 1 g26) s27,
  .p (.bin .shr g25 g27 (G2 39 5 3)) s28,
  .p (.cv .u32 g28 (G2 39 5 4)) s29,
  .p (.mv g29) s6,
  .p (.mv (kc (.tc (.sc (.int .u32 0))))) s7])
 .ret)))),
 [.tmp g6, .tmp g7]⟩
theorem ff39_ok : compF SBEncKnown 39 = ff39 := by kernel_rfl
noncomputable def ff64 : FF := .t2 ⟨11,
 (.seq (.reg [.p (.mv (kc (.tc (.sc (.int .u32 0))))) s2,
  .p (.mv (kc (.tc (.sc (.int .u32 0))))) s3])
 (.seq (.reg [.p (.mv g0) s5,
  .p (.cv .u32 g5 (G2 64 1 1)) s6,
  .p (.mv g6) s4])
 (.seq (.reg [.p (.mv g4) s7,
  .p (.call 29 [g7, (kc (.tc (.sc (.int .i64 8)))), (kc (.tc (.sc (.int .i64 24))))] (G2 64 2 1)) s8,
  .p (.mv g4) s9,
  .p (.call 29 [g9, (kc (.tc (.sc (.int .i64 0)))), (kc (.tc (.sc (.int .i64 8))))] (G2 64 2 3)) s10,
  .p (.mv g8) s2,
  .p (.mv g10) s3])
 .ret))),
 [.tmp g2, .tmp g3]⟩
theorem ff64_ok : compF SBEncKnown 64 = ff64 := by kernel_rfl
noncomputable def ff29 : FF := .t2 ⟨17,
 (.seq (.reg [.p (.mv (kc (.tc (.sc (.int .u32 0))))) s6])
 (.seq (.reg [.p (.mv g1) s8,
  .p (.mv g2) s9,
  .p (.bd [(.tc (.sc (.int .i64 0))), (.tc (.sc (.int .i64 0)))] [(.mk 0 1 g8), (.mk 1 1 g9)] (G2 29 1 2)) s10,
  .p (.al 2 [(.sc (.int .i64 0)), (.sc (.int .i64 0))]) s7,
  .n (.st 2 g7 g10 (G2 29 1 4))])
 (.seq (.seq (.reg [.p (.ld true 2 g7) s11,
  .p (.call 52 [g11] (G2 29 2 1)) s12,
  .p (.nt g12 (G2 29 2 2)) s13])
 (.cond g13 (.seq (.reg [.p (.mv (kc (.tc (.sc (.int .u32 0))))) s6])
 .ret)
 .skip))
 (.seq (.reg [.p (.ld true 2 g7) s14,
  .p (.mv g0) s15,
  .p (.call 53 [g14, g15] (G2 29 4 2)) s16,
  .p (.mv g16) s6])
 .ret)))),
 [.tmp g6]⟩
theorem ff29_ok : compF SBEncKnown 29 = ff29 := by kernel_rfl
noncomputable def ff52 : FF := .t2 ⟨24,
 (.seq (.reg [.p (.bx 2 g0 (G2 52 0 0)) s1,
  .p (.mv (kc (.tc (.sc (.bool false))))) s2])
 (.seq (.reg [.p (.fa 0 g1) s3,
  .p (.ld false 1 g3) s4,
  .p (.bin .geq g4 (kc (.tc (.sc (.int .i64 0)))) (G2 52 1 2)) s5,
  .p (.mv g5) s6,
  .gp g6 true (.fa 1 g1) s7,
  .gp g6 true (.ld false 1 g7) s8,
  .gp g6 true (.bin .geq g8 (kc (.tc (.sc (.int .i64 0)))) (G2 52 1 6)) s9,
  .p (.pk g6 g9 (kc (.tc (.sc (.bool false))))) s10,
  .p (.mv g10) s11,
  .gp g11 true (.fa 0 g1) s12,
  .gp g11 true (.ld false 1 g12) s13,
  .gp g11 true (.bin .leq g13 (kc (.tc (.sc (.int .i64 32)))) (G2 52 1 11)) s14,
  .p (.pk g11 g14 (kc (.tc (.sc (.bool false))))) s15,
  .p (.mv g15) s16,
  .gp g16 true (.fa 1 g1) s17,
  .gp g16 true (.ld false 1 g17) s18,
  .gp g16 true (.fa 0 g1) s19,
  .gp g16 true (.ld false 1 g19) s20,
  .gp g16 true (.bin .sub (kc (.tc (.sc (.int .i64 32)))) g20 (G2 52 1 18)) s21,
  .gp g16 true (.bin .leq g18 g21 (G2 52 1 19)) s22,
  .p (.pk g16 g22 (kc (.tc (.sc (.bool false))))) s23,
  .p (.mv g23) s2])
 .ret)),
 [.tmp g2]⟩
theorem ff52_ok : compF SBEncKnown 52 = ff52 := by kernel_rfl
noncomputable def ff40 : FF := .t2 ⟨21,
 (.seq (.reg [.p (.mv (kc (.tc (.sc (.int .u32 0))))) s8])
 (.seq (.reg [.p (.mv g1) s10,
  .p (.mv g2) s11,
  .p (.bd [(.tc (.sc (.int .i64 0))), (.tc (.sc (.int .i64 0)))] [(.mk 0 1 g10), (.mk 1 1 g11)] (G2 40 1 2)) s12,
  .p (.al 2 [(.sc (.int .i64 0)), (.sc (.int .i64 0))]) s9,
  .n (.st 2 g9 g12 (G2 40 1 4))])
 (.seq (.seq (.reg [.p (.ld true 2 g9) s13,
  .p (.call 52 [g13] (G2 40 2 1)) s14,
  .p (.nt g14 (G2 40 2 2)) s15])
 (.cond g15 (.seq (.reg [.p (.mv g0) s16,
  .p (.mv g16) s8])
 .ret)
 .skip))
 (.seq (.reg [.p (.ld true 2 g9) s17,
  .p (.mv g0) s18,
  .p (.mv g3) s19,
  .p (.call 65 [g17, g18, g19] (G2 40 4 3)) s20,
  .p (.mv g20) s8])
 .ret)))),
 [.tmp g8]⟩
theorem ff40_ok : compF SBEncKnown 40 = ff40 := by kernel_rfl
noncomputable def ff65 : FF := .t2 ⟨26,
 (.seq (.reg [.p (.bx 2 g0 (G2 65 0 0)) s3,
  .p (.mv (kc (.tc (.sc (.int .u32 0))))) s6])
 (.seq (.seq (.reg [.p (.fa 1 g3) s7,
  .p (.ld false 1 g7) s8,
  .p (.bin .eql g8 (kc (.tc (.sc (.int .i64 0)))) (G2 65 1 2)) s9])
 (.cond g9 (.seq (.reg [.p (.mv g1) s10,
  .p (.mv g10) s6])
 .ret)
 .skip))
 (.seq (.regD [0, 0, 2, 0, 8, 30, 63, 0, 0, 262, 902, 0, 2048, 8070, 16383, 32767] [.no, (.rd (.ld true 2 g3) g12), .no, .no, (.rd (.ld false 1 g14) g15), .no, .no, .no, (.rd (.ld true 2 g3) g19), .no, .no, .no, (.rd (.ld false 1 g22) g23), .no, .no, .no] [.mk .none .yes (.mv g1) (.mv g1) (some s11),
  .mk .none .yes (.ld true 2 g3) (.ld true 2 g3) (some s12),
  .mk .none (.dyn 77 [g12]) (.call 77 [g12] (G2 65 3 2)) (.call 77 [g12] (G2 65 3 2)) (some s13),
  .mk .none .yes (.fa 0 g3) (.fa 0 g3) (some s14),
  .mk .none .yes (.ld false 1 g14) (.ld false 1 g14) (some s15),
  .mk .none .yes (.bin .shl g13 g15 (G2 65 3 5)) (.bin .shl g13 g15 (G2 65 3 5)) (some s16),
  .mk .none .yes (.bin .andNot g11 g16 (G2 65 3 6)) (.bin .andNot g11 g16 (G2 65 3 6)) (some s17),
  .mk .none .yes (.mv g2) (.mv g2) (some s18),
  .mk .none .yes (.ld true 2 g3) (.ld true 2 g3) (some s19),
  .mk .none (.dyn 77 [g19]) (.call 77 [g19] (G2 65 3 9)) (.call 77 [g19] (G2 65 3 9)) (some s20),
  .mk .none .yes (.bin .and g18 g20 (G2 65 3 10)) (.bin .and g18 g20 (G2 65 3 10)) (some s21),
  .mk .none .yes (.fa 0 g3) (.fa 0 g3) (some s22),
  .mk .none .yes (.ld false 1 g22) (.ld false 1 g22) (some s23),
  .mk .none .yes (.bin .shl g21 g23 (G2 65 3 13)) (.bin .shl g21 g23 (G2 65 3 13)) (some s24),
  .mk .none .yes (.bin .or g17 g24 (G2 65 3 14)) (.bin .or g17 g24 (G2 65 3 14)) (some s25),
  .mk .none .yes (.mv g25) (.mv g25) (some s6)])
 .ret))),
 [.tmp g6]⟩
theorem ff65_ok : compF SBEncKnown 65 = ff65 := by kernel_rfl
noncomputable def ff41 : FF := .t2 ⟨31,
 (.seq (.reg [.p (.mv (kc (.tc (.sc (.int .u32 0))))) s6])
 (.seq (.reg [.p (.ld true 2 (kc (.vptr gwEncKnown2 [glEncKnown2] 0 0))) s8,
  .p (.mv g0) s9,
  .p (.cv .u32 g9 (G2 41 1 2)) s10,
  .p (.call 65 [g8, (kc (.tc (.sc (.int .u32 0)))), g10] (G2 41 1 3)) s11,
  .p (.mv g11) s7])
 (.seq (.reg [.p (.gen (G2 41 2 0)) s12,
  .p (.ld true 2 g12) s13,
  .p (.mv g7) s14,
  .p (.mv g1) s15,
  .p (.call 65 [g13, g14, g15] (G2 41 2 4)) s16,
  .p (.mv g16) s7])
 (.seq (.regD [0, 1, 0, 0, 0, 16, 48, 120, 255, 511] [.no, (.rd (.ld true 2 g17) g18), .no, .no, .no, .no, (.rd (.ld false 1 g22) g23), .no, .no, .no] [.mk .none .yes (.gen (G2 41 3 0)) (.gen (G2 41 3 0)) (some s17),
  .mk .none .yes (.ld true 2 g17) (.ld true 2 g17) (some s18),
  .mk .none .yes (.mv g7) (.mv g7) (some s19),
  .mk .none .yes (.mv g1) (.mv g1) (some s20),
  .mk .none .yes (.gen (G2 41 3 4)) (.gen (G2 41 3 4)) (some s21),
  .mk .none .yes (.fa 1 g21) (.fa 1 g21) (some s22),
  .mk .none .yes (.ld false 1 g22) (.ld false 1 g22) (some s23),
  .mk .none .yes (.bin .shr g20 g23 (G2 41 3 7)) (.bin .shr g20 g23 (G2 41 3 7)) (some s24),
  .mk .none (.dyn 65 [g18, g19, g24]) (.call 65 [g18, g19, g24] (G2 41 3 8)) (.call 65 [g18, g19, g24] (G2 41 3 8)) (some s25),
  .mk .none .yes (.mv g25) (.mv g25) (some s7)])
 (.seq (.reg [.p (.ld true 2 (kc (.vptr gwEncKnown3 [glEncKnown3] 0 0))) s26,
  .p (.mv g7) s27,
  .p (.mv g2) s28,
  .p (.cv .u32 g28 (G2 41 4 3)) s29,
  .p (.call 65 [g26, g27, g29] (G2 41 4 4)) s30,
  .p (.mv g30) s6])
 .ret))))),
 [.tmp g6]⟩
theorem ff41_ok : compF SBEncKnown 41 = ff41 := by kernel_rfl
noncomputable def ff16 : FF := .t3 ⟨144,
 (.seq (.reg [.p (.al 11 [(.sc (.int .u8 0)), (.sc (.int .u8 0)), (.sc (.int .u8 0)), (.sc (.int .u8 0)), (.sc (.int .u8 0)), (.sc (.int .u8 0)), (.sc (.int .u8 0)), (.sc (.bool false)), (.sc (.bool false)), (.sc (.int .u16 0)), (.sc (.int .i64 0))]) (i0 s8),
  .p (.mv (kc (.tc (.sc (.bool false))))) (i0 s9)])
 (.seq (.reg [.p (.mv (h0 g0)) (i0 s24),
  .p (.call 33 [(h0 g24)] (G3 16 1 1)) (i0 s25),
  .p (.mv (h0 g25)) (i0 s23),
  .p (.ex (h0 g23) 0) (i0 s26),
  .p (.ex (h0 g23) 1) (i0 s27),
  .p (.ex (h0 g23) 2) (i0 s28),
  .p (.mv (h0 g26)) (i0 s10),
  .p (.mv (h0 g27)) (i0 s11),
  .p (.mv (h0 g28)) (i0 s12)])
 (.seq (.reg [.p (.mv (h0 g10)) (i0 s30),
  .p (.call 36 [(h0 g30)] (G3 16 2 1)) (i0 s31),
  .p (.mv (h0 g31)) (i0 s29),
  .p (.ex (h0 g29) 0) (i0 s32),
  .p (.ex (h0 g29) 1) (i0 s33),
  .p (.al 5 [(.sc (.int .u8 0)), (.sc (.string ⟨#[]⟩)), (.sc (.int .u8 0)), (.sc (.int .u8 0)), (.sc (.slice none 0 0))]) (i0 s13),
  .n (.st 5 (h0 g13) (h0 g32) (G3 16 2 6)),
  .p (.mv (h0 g33)) (i0 s14)])
 (.seq (.seq (.reg [.p (.mv (h0 g14)) (i0 s34),
  .p (.nt (h0 g34) (G3 16 3 1)) (i0 s35),
  .p (.mv (h0 g35)) (i0 s36),
  .gp (h0 g36) false (.mv (h0 g2)) (i0 s37),
  .gp (h0 g36) false (.mv (h0 g37)) (i0 s38),
  .gp (h0 g38) true (.mv (h0 g10)) (i0 s39),
  .gp (h0 g38) true (.call 42 [(h0 g39)] (G3 16 3 6)) (i0 s40),
  .gp (h0 g38) true (.nt (h0 g40) (G3 16 3 7)) (i0 s41),
  .gp (h0 g36) false (.pk (h0 g38) (h0 g41) (kc (.tc (.sc (.bool false))))) (i0 s42),
  .p (.pk (h0 g36) (kc (.tc (.sc (.bool true)))) (h0 g42)) (i0 s43),
  .p (.mv (h0 g43)) (i0 s44),
  .gp (h0 g44) false (.mv (h0 g1)) (i0 s45),
  .gp (h0 g44) false (.bin .shr (h0 g45) (kc (.tc (.sc (.int .u64 24)))) (G3 16 3 12)) (i0 s46),
  .gp (h0 g44) false (.bin .neq (h0 g46) (kc (.tc (.sc (.int .u32 0)))) (G3 16 3 13)) (i0 s47),
  .p (.pk (h0 g44) (kc (.tc (.sc (.bool true)))) (h0 g47)) (i0 s48)])
 (.cond (h0 g48) (.seq (.reg [.p (.bd [(.tc (.sc (.int .u8 0))), (.tc (.sc (.int .u8 0))), (.tc (.sc (.int .u8 0))), (.tc (.sc (.int .u8 0))), (.tc (.sc (.int .u8 0))), (.tc (.sc (.int .u8 0))), (.tc (.sc (.int .u8 0))), (.tc (.sc (.bool false))), (.tc (.sc (.bool false))), (.tc (.sc (.int .u16 0))), (.tc (.sc (.int .i64 0)))] [] (G3 16 4 0)) (i0 s49),
  .n (.st 11 (h0 g8) (h0 g49) (G3 16 4 1)),
  .p (.mv (kc (.tc (.sc (.bool false))))) (i0 s9)])
 .ret)
 .skip))
 (.seq (.reg [.p (.mv (h0 g10)) (i0 s50),
  .p (.mv (h0 g2)) (i0 s51),
  .p (.bd [(.tc (.sc (.int .u8 0))), (.tc (.sc (.int .u8 0))), (.tc (.sc (.int .u8 0))), (.tc (.sc (.int .u8 0))), (.tc (.sc (.int .u8 0))), (.tc (.sc (.int .u8 0))), (.tc (.sc (.int .u8 0))), (.tc (.sc (.bool false))), (.tc (.sc (.bool false))), (.tc (.sc (.int .u16 0))), (.tc (.sc (.int .i64 0)))] [(.mk 0 1 (h0 g50)), (.mk 8 1 (h0 g51))] (G3 16 5 2)) (i0 s52),
  .p (.al 11 [(.sc (.int .u8 0)), (.sc (.int .u8 0)), (.sc (.int .u8 0)), (.sc (.int .u8 0)), (.sc (.int .u8 0)), (.sc (.int .u8 0)), (.sc (.int .u8 0)), (.sc (.bool false)), (.sc (.bool false)), (.sc (.int .u16 0)), (.sc (.int .i64 0))]) (i0 s15),
  .n (.st 11 (h0 g15) (h0 g52) (G3 16 5 4))])
 (.seq (.reg [.p (.mv (h0 g11)) (i0 s53),
  .p (.mv (h0 g53)) (i0 s16)])
 (.seq (.seq (.reg [.p (.fa 4 (h0 g13)) (i0 s54),
  .p (.ld false 1 (h0 g54)) (i0 s55),
  .p (.len (h0 g55) (G3 16 7 2)) (i0 s56),
  .p (.mv (kc (.tc (.sc (.int .i64 0))))) (i0 s57)])
 (.block 0 (.loop 4294967296 (.seq (.reg [.p (.bin .lss (h0 g57) (h0 g56) (G3 16 8 0)) (i0 s58)])
 (.seq (.cond (h0 g58) .skip
 (.exit 0))
 (.seq (.block 1 (.seq (.reg [.p (.ia 5 (h0 g55) (h0 g57) (G3 16 9 0)) (i0 s59),
  .p (.ld true 5 (h0 g59)) (i0 s60),
  .p (.al 5 [(.sc (.int .u8 0)), (.sc (.int .i64 0)), (.sc (.int .i64 0)), (.sc (.bool false)), (.sc (.bool false))]) (i0 s18),
  .n (.st 5 (h0 g18) (h0 g60) (G3 16 9 3))])
 (.seq (.reg [.p (.mv (h0 g10)) (i0 s62),
  .p (.fa 0 (h0 g18)) (i0 s63),
  .p (.ld false 1 (h0 g63)) (i1 s0),
  .p (.call 37 [(h0 g62), (h1 g0)] (G3 16 10 3)) (i1 s1),
  .p (.mv (h1 g1)) (i0 s61),
  .p (.ex (h0 g61) 0) (i1 s2),
  .p (.ex (h0 g61) 1) (i1 s3),
  .p (.ex (h0 g61) 2) (i1 s4),
  .p (.al 5 [(.sc (.int .u8 0)), (.sc (.int .i64 0)), (.sc (.int .i64 0)), (.sc (.bool false)), (.sc (.bool false))]) (i0 s19),
  .n (.st 5 (h0 g19) (h1 g2) (G3 16 10 9)),
  .p (.mv (h1 g3)) (i0 s20),
  .p (.mv (h1 g4)) (i0 s21)])
 (.seq (.reg [.p (.mv (h0 g11)) (i1 s5),
  .p (.mv (h0 g20)) (i1 s6),
  .p (.fa 1 (h0 g18)) (i1 s7),
  .p (.ld false 1 (h1 g7)) (i1 s8),
  .p (.call 29 [(h1 g5), (h1 g6), (h1 g8)] (G3 16 11 4)) (i1 s9),
  .p (.mv (h1 g9)) (i0 s22)])
 (.seq (.reg [.p (.mv (h0 g16)) (i1 s10),
  .p (.mv (h0 g20)) (i1 s11),
  .p (.fa 1 (h0 g18)) (i1 s12),
  .p (.ld false 1 (h1 g12)) (i1 s13),
  .p (.call 40 [(h1 g10), (h1 g11), (h1 g13), (kc (.tc (.sc (.int .u32 0))))] (G3 16 12 4)) (i1 s14),
  .p (.mv (h1 g14)) (i0 s16)])
 (.seq (.reg [.p (.fa 0 (h0 g18)) (i1 s15),
  .p (.ld false 1 (h1 g15)) (i1 s16)])
 (.block 2 (.seq (.reg [.p (.bin .eql (h1 g16) (kc (.tc (.sc (.int .u8 1)))) (G3 16 14 0)) (i1 s30),
  .p (.mv (h1 g30)) (i1 s29)])
 (.cond (h1 g29) (.reg [.p (.mv (h0 g22)) (i1 s31),
  .p (.cv .u8 (h1 g31) (G3 16 15 1)) (i1 s32),
  .p (.fa 6 (h0 g15)) (i1 s33),
  .n (.st 1 (h1 g33) (h1 g32) (G3 16 15 3))])
 (.seq (.reg [.p (.bin .eql (h1 g16) (kc (.tc (.sc (.int .u8 2)))) (G3 16 16 0)) (i1 s35),
  .p (.mv (h1 g35)) (i1 s34)])
 (.cond (h1 g34) (.reg [.p (.mv (h0 g22)) (i1 s36),
  .p (.cv .u8 (h1 g36) (G3 16 17 1)) (i1 s37),
  .p (.fa 5 (h0 g15)) (i1 s38),
  .n (.st 1 (h1 g38) (h1 g37) (G3 16 17 3))])
 (.seq (.seq (.reg [.p (.bin .eql (h1 g16) (kc (.tc (.sc (.int .u8 3)))) (G3 16 18 0)) (i1 s40),
  .p (.mv (h1 g40)) (i1 s39)])
 (.cond (h1 g39) .skip
 (.reg [.p (.bin .eql (h1 g16) (kc (.tc (.sc (.int .u8 4)))) (G3 16 19 0)) (i1 s41),
  .p (.mv (h1 g41)) (i1 s39)])))
 (.cond (h1 g39) (.reg [.p (.mv (h0 g22)) (i1 s42),
  .p (.cv .u8 (h1 g42) (G3 16 20 1)) (i1 s43),
  .p (.fa 1 (h0 g15)) (i1 s44),
  .n (.st 1 (h1 g44) (h1 g43) (G3 16 20 3))])
 (.seq (.reg [.p (.bin .eql (h1 g16) (kc (.tc (.sc (.int .u8 5)))) (G3 16 21 0)) (i1 s46),
  .p (.mv (h1 g46)) (i1 s45)])
 (.cond (h1 g45) (.reg [.p (.mv (h0 g22)) (i1 s47),
  .p (.cv .u8 (h1 g47) (G3 16 22 1)) (i1 s48),
  .p (.fa 2 (h0 g15)) (i1 s49),
  .n (.st 1 (h1 g49) (h1 g48) (G3 16 22 3))])
 (.seq (.reg [.p (.bin .eql (h1 g16) (kc (.tc (.sc (.int .u8 6)))) (G3 16 23 0)) (i1 s51),
  .p (.mv (h1 g51)) (i1 s50)])
 (.cond (h1 g50) (.reg [.p (.mv (h0 g22)) (i1 s52),
  .p (.cv .u8 (h1 g52) (G3 16 24 1)) (i1 s53),
  .p (.fa 3 (h0 g15)) (i1 s54),
  .n (.st 1 (h1 g54) (h1 g53) (G3 16 24 3))])
 (.seq (.reg [.p (.bin .eql (h1 g16) (kc (.tc (.sc (.int .u8 7)))) (G3 16 25 0)) (i1 s56),
  .p (.mv (h1 g56)) (i1 s55)])
 (.cond (h1 g55) (.reg [.p (.mv (h0 g22)) (i1 s57),
  .p (.cv .u8 (h1 g57) (G3 16 26 1)) (i1 s58),
  .p (.fa 4 (h0 g15)) (i1 s59),
  .n (.st 1 (h1 g59) (h1 g58) (G3 16 26 3))])
 (.seq (.reg [.p (.bin .eql (h1 g16) (kc (.tc (.sc (.int .u8 8)))) (G3 16 27 0)) (i1 s61),
  .p (.mv (h1 g61)) (i1 s60)])
 (.cond (h1 g60) (.reg [.p (.mv (h0 g22)) (i1 s62),
  .p (.bin .eql (h1 g62) (kc (.tc (.sc (.int .u32 1)))) (G3 16 28 1)) (i1 s63),
  .p (.fa 7 (h0 g15)) (i2 s0),
  .n (.st 1 (h2 g0) (h1 g63) (G3 16 28 3))])
 (.seq (.reg [.p (.bin .eql (h1 g16) (kc (.tc (.sc (.int .u8 11)))) (G3 16 29 0)) (i2 s2),
  .p (.mv (h2 g2)) (i2 s1)])
 (.cond (h2 g1) (.reg [.p (.mv (h0 g22)) (i2 s3),
  .p (.cv .u16 (h2 g3) (G3 16 30 1)) (i2 s4),
  .p (.fa 9 (h0 g15)) (i2 s5),
  .n (.st 1 (h2 g5) (h2 g4) (G3 16 30 3))])
 (.seq (.reg [.p (.ld true 11 (h0 g15)) (i1 s18),
  .p (.ld true 5 (h0 g18)) (i1 s19),
  .p (.mv (h0 g22)) (i1 s20),
  .p (.mv (h0 g1)) (i1 s21),
  .p (.mv (h0 g3)) (i1 s22),
  .p (.call 43 [(h1 g18), (h1 g19), (h1 g20), (h1 g21), (h1 g22)] (G3 16 31 5)) (i1 s23),
  .p (.mv (h1 g23)) (i1 s17),
  .p (.ex (h1 g17) 0) (i1 s24),
  .p (.ex (h1 g17) 1) (i1 s25),
  .n (.st 11 (h0 g15) (h1 g24) (G3 16 31 9)),
  .p (.mv (h1 g25)) (i0 s14)])
 (.seq (.reg [.p (.mv (h0 g14)) (i1 s26),
  .p (.nt (h1 g26) (G3 16 32 1)) (i1 s27)])
 (.cond (h1 g27) (.seq (.reg [.p (.bd [(.tc (.sc (.int .u8 0))), (.tc (.sc (.int .u8 0))), (.tc (.sc (.int .u8 0))), (.tc (.sc (.int .u8 0))), (.tc (.sc (.int .u8 0))), (.tc (.sc (.int .u8 0))), (.tc (.sc (.int .u8 0))), (.tc (.sc (.bool false))), (.tc (.sc (.bool false))), (.tc (.sc (.int .u16 0))), (.tc (.sc (.int .i64 0)))] [] (G3 16 33 0)) (i1 s28),
  .n (.st 11 (h0 g8) (h1 g28) (G3 16 33 1)),
  .p (.mv (kc (.tc (.sc (.bool false))))) (i0 s9)])
 .ret)
 .skip))))))))))))))))))))))))))
 (.reg [.p (.bin .add (h0 g57) (kc (.tc (.sc (.int .i64 1)))) (G3 16 34 0)) (i2 s6),
  .p (.mv (h2 g6)) (i0 s57)])))))))
 (.seq (.seq (.reg [.p (.mv (h0 g16)) (i2 s7),
  .p (.bin .neq (h2 g7) (kc (.tc (.sc (.int .u32 0)))) (G3 16 35 1)) (i2 s8),
  .p (.mv (h2 g8)) (i2 s9),
  .gp (h2 g9) false (.ld true 11 (h0 g15)) (i2 s10),
  .gp (h2 g9) false (.call 30 [(h2 g10)] (G3 16 35 4)) (i2 s11),
  .gp (h2 g9) false (.nt (h2 g11) (G3 16 35 5)) (i2 s12),
  .p (.pk (h2 g9) (kc (.tc (.sc (.bool true)))) (h2 g12)) (i2 s13)])
 (.cond (h2 g13) (.seq (.reg [.p (.bd [(.tc (.sc (.int .u8 0))), (.tc (.sc (.int .u8 0))), (.tc (.sc (.int .u8 0))), (.tc (.sc (.int .u8 0))), (.tc (.sc (.int .u8 0))), (.tc (.sc (.int .u8 0))), (.tc (.sc (.int .u8 0))), (.tc (.sc (.bool false))), (.tc (.sc (.bool false))), (.tc (.sc (.int .u16 0))), (.tc (.sc (.int .i64 0)))] [] (G3 16 36 0)) (i2 s14),
  .n (.st 11 (h0 g8) (h2 g14) (G3 16 36 1)),
  .p (.mv (kc (.tc (.sc (.bool false))))) (i0 s9)])
 .ret)
 .skip))
 (.seq (.reg [.p (.ld true 11 (h0 g15)) (i2 s15),
  .n (.st 11 (h0 g8) (h2 g15) (G3 16 37 1)),
  .p (.mv (kc (.tc (.sc (.bool true))))) (i0 s9)])
 .ret))))))))),
 [.cell (h0 g8) true 11, .tmp (h0 g9)]⟩
theorem ff16_ok : compF SBEncKnown 16 = ff16 := by kernel_rfl
noncomputable def ff33 : FF := .t2 ⟨27,
 (.seq (.reg [.p (.mv (kc (.tc (.sc (.int .u8 0))))) s2,
  .p (.mv (kc (.tc (.sc (.int .u32 0))))) s3,
  .p (.mv (kc (.tc (.sc (.int .u8 0))))) s4])
 (.seq (.regD [0, 1, 0, 7, 0, 16, 0, 127, 0, 256, 768, 2047, 4095, 8191] [.no, (.rd (.ld true 2 g5) g6), .no, .no, .no, (.rd (.ld true 2 g9) g10), .no, .no, .no, .no, (.rd (.ld false 1 g14) g15), .no, .no, .no] [.mk .none .yes (.gen (G2 33 1 0)) (.gen (G2 33 1 0)) (some s5),
  .mk .none .yes (.ld true 2 g5) (.ld true 2 g5) (some s6),
  .mk .none .yes (.mv g0) (.mv g0) (some s7),
  .mk .none (.dyn 53 [g6, g7]) (.call 53 [g6, g7] (G2 33 1 3)) (.call 53 [g6, g7] (G2 33 1 3)) (some s8),
  .mk .none .yes (.gen (G2 33 1 4)) (.gen (G2 33 1 4)) (some s9),
  .mk .none .yes (.ld true 2 g9) (.ld true 2 g9) (some s10),
  .mk .none .yes (.mv g0) (.mv g0) (some s11),
  .mk .none (.dyn 53 [g10, g11]) (.call 53 [g10, g11] (G2 33 1 7)) (.call 53 [g10, g11] (G2 33 1 7)) (some s12),
  .mk .none .yes (.gen (G2 33 1 8)) (.gen (G2 33 1 8)) (some s13),
  .mk .none .yes (.fa 1 g13) (.fa 1 g13) (some s14),
  .mk .none .yes (.ld false 1 g14) (.ld false 1 g14) (some s15),
  .mk .none .yes (.bin .shl g12 g15 (G2 33 1 11)) (.bin .shl g12 g15 (G2 33 1 11)) (some s16),
  .mk .none .yes (.bin .or g8 g16 (G2 33 1 12)) (.bin .or g8 g16 (G2 33 1 12)) (some s17),
  .mk .none .yes (.mv g17) (.mv g17) (some s3)])
 (.seq (.regD [0, 0, 3, 7, 0, 0, 0, 103, 231, 239, 767, 2047] [(.rd (.ld true 2 (kc (.vptr gwEncKnown2 [glEncKnown2] 0 0))) g18), .no, .no, (.rd (.cv .u8 g20 (G2 33 2 3)) g21), .no, (.rd (.ld true 2 (kc (.vptr gwEncKnown3 [glEncKnown3] 0 0))) g23), .no, .no, (.rd (.cv .u8 g25 (G2 33 2 8)) g26), .no, .no, .no] [.mk .none .yes (.ld true 2 (kc (.vptr gwEncKnown2 [glEncKnown2] 0 0))) (.ld true 2 (kc (.vptr gwEncKnown2 [glEncKnown2] 0 0))) (some s18),
  .mk .none .yes (.mv g0) (.mv g0) (some s19),
  .mk .none (.dyn 53 [g18, g19]) (.call 53 [g18, g19] (G2 33 2 2)) (.call 53 [g18, g19] (G2 33 2 2)) (some s20),
  .mk .none .yes (.cv .u8 g20 (G2 33 2 3)) (.cv .u8 g20 (G2 33 2 3)) (some s21),
  .mk .none .yes (.mv g3) (.mv g3) (some s22),
  .mk .none .yes (.ld true 2 (kc (.vptr gwEncKnown3 [glEncKnown3] 0 0))) (.ld true 2 (kc (.vptr gwEncKnown3 [glEncKnown3] 0 0))) (some s23),
  .mk .none .yes (.mv g0) (.mv g0) (some s24),
  .mk .none (.dyn 53 [g23, g24]) (.call 53 [g23, g24] (G2 33 2 7)) (.call 53 [g23, g24] (G2 33 2 7)) (some s25),
  .mk .none .yes (.cv .u8 g25 (G2 33 2 8)) (.cv .u8 g25 (G2 33 2 8)) (some s26),
  .mk .none .yes (.mv g21) (.mv g21) (some s2),
  .mk .none .yes (.mv g22) (.mv g22) (some s3),
  .mk .none .yes (.mv g26) (.mv g26) (some s4)])
 .ret))),
 [.tmp g2, .tmp g3, .tmp g4]⟩
theorem ff33_ok : compF SBEncKnown 33 = ff33 := by kernel_rfl
noncomputable def ff42 : FF := .t2 ⟨15,
 (.seq (.reg [.p (.mv (kc (.tc (.sc (.bool false))))) s2])
 (.seq (.reg [.p (.mv g0) s6,
  .p (.call 59 [g6] (G2 42 1 1)) s7,
  .p (.mv g7) s5,
  .p (.ex g5 0) s8,
  .p (.ex g5 1) s9,
  .p (.al 5 [(.sc (.int .u8 0)), (.sc (.int .i64 0)), (.sc (.int .i64 0)), (.sc (.bool false)), (.sc (.bool false))]) s3,
  .n (.st 5 g3 g8 (G2 42 1 6)),
  .p (.mv g9) s4])
 (.seq (.reg [.p (.mv g4) s10,
  .p (.mv g10) s11,
  .gp g11 true (.fa 4 g3) s12,
  .gp g11 true (.ld false 1 g12) s13,
  .p (.pk g11 g13 (kc (.tc (.sc (.bool false))))) s14,
  .p (.mv g14) s2])
 .ret))),
 [.tmp g2]⟩
theorem ff42_ok : compF SBEncKnown 42 = ff42 := by kernel_rfl
noncomputable def ff43 : FF := .t2 ⟨59,
 (.seq (.reg [.p (.bx 11 g0 (G2 43 0 0)) s5,
  .p (.bx 5 g1 (G2 43 0 1)) s6,
  .p (.al 11 [(.sc (.int .u8 0)), (.sc (.int .u8 0)), (.sc (.int .u8 0)), (.sc (.int .u8 0)), (.sc (.int .u8 0)), (.sc (.int .u8 0)), (.sc (.int .u8 0)), (.sc (.bool false)), (.sc (.bool false)), (.sc (.int .u16 0)), (.sc (.int .i64 0))]) s10,
  .p (.mv (kc (.tc (.sc (.bool false))))) s11])
 (.seq (.regD [0, 0, 2, 7, 0, 16, 63, 127] [.no, .no, (.rd (.ld false 1 g14) g15), .no, .no, (.rd (.ld false 1 g17) g18), .no, .no] [.mk .none .yes (.mv g2) (.mv g2) (some s13),
  .mk .none .yes (.fa 1 g6) (.fa 1 g6) (some s14),
  .mk .none .yes (.ld false 1 g14) (.ld false 1 g14) (some s15),
  .mk .none (.dyn 51 [g13, g15]) (.call 51 [g13, g15] (G2 43 1 3)) (.call 51 [g13, g15] (G2 43 1 3)) (some s16),
  .mk .none .yes (.fa 2 g6) (.fa 2 g6) (some s17),
  .mk .none .yes (.ld false 1 g17) (.ld false 1 g17) (some s18),
  .mk .none .yes (.bin .shl g16 g18 (G2 43 1 6)) (.bin .shl g16 g18 (G2 43 1 6)) (some s19),
  .mk .none .yes (.mv g19) (.mv g19) (some s12)])
 (.seq (.block 0 (.seq (.reg [.p (.fa 8 g5) s21,
  .p (.ld false 1 g21) s22,
  .p (.mv g22) s23,
  .gp g23 true (.fa 4 g6) s24,
  .gp g23 true (.ld false 1 g24) s25,
  .gp g23 true (.nt g25 (G2 43 2 5)) s26,
  .gp g23 true (.mv g26) s27,
  .gp g27 false (.mv g2) s28,
  .gp g27 false (.bin .shr g28 (kc (.tc (.sc (.int .u64 8)))) (G2 43 2 8)) s29,
  .gp g27 false (.bin .neq g29 (kc (.tc (.sc (.int .u32 0)))) (G2 43 2 9)) s30,
  .gp g23 true (.pk g27 (kc (.tc (.sc (.bool true)))) g30) s31,
  .p (.pk g23 g31 (kc (.tc (.sc (.bool false))))) s32,
  .p (.mv g32) s20])
 (.cond g20 (.seq (.reg [.p (.ld true 11 g5) s33,
  .n (.st 11 g10 g33 (G2 43 3 1)),
  .p (.mv (kc (.tc (.sc (.bool false))))) s11])
 .ret)
 (.seq (.reg [.p (.fa 8 g5) s35,
  .p (.ld false 1 g35) s36,
  .p (.mv g36) s34])
 (.cond g34 (.reg [.p (.mv g3) s37,
  .p (.mv g2) s38,
  .p (.call 66 [g37, g38] (G2 43 5 2)) s39,
  .p (.mv g39) s12])
 (.seq (.reg [.p (.fa 3 g6) s41,
  .p (.ld false 1 g41) s42,
  .p (.nt g42 (G2 43 6 2)) s43,
  .p (.mv g43) s40])
 (.cond g40 (.reg [.p (.mv g2) s44,
  .p (.cv .i64 g44 (G2 43 7 1)) s45,
  .p (.fa 2 g6) s46,
  .p (.ld false 1 g46) s47,
  .p (.bin .shl g45 g47 (G2 43 7 4)) s48,
  .p (.mv g48) s12])
 .skip)))))))
 (.seq (.reg [.p (.mv g12) s49,
  .p (.fa 10 g5) s50,
  .n (.st 1 g50 g49 (G2 43 8 2))])
 (.seq (.seq (.reg [.p (.fa 0 g6) s51,
  .p (.ld false 1 g51) s52,
  .p (.bin .eql g52 (kc (.tc (.sc (.int .u8 10)))) (G2 43 9 2)) s53])
 (.cond g53 (.reg [.p (.mv g12) s54,
  .p (.mv g4) s55,
  .p (.call 67 [g54, g55] (G2 43 10 2)) s56,
  .p (.fa 10 g5) s57,
  .n (.st 1 g57 g56 (G2 43 10 4))])
 .skip))
 (.seq (.reg [.p (.ld true 11 g5) s58,
  .n (.st 11 g10 g58 (G2 43 11 1)),
  .p (.mv (kc (.tc (.sc (.bool true))))) s11])
 .ret)))))),
 [.cell g10 true 11, .tmp g11]⟩
theorem ff43_ok : compF SBEncKnown 43 = ff43 := by kernel_rfl
noncomputable def ff66 : FF := .t2 ⟨12,
 (.seq (.reg [.p (.mv (kc (.tc (.sc (.int .i64 0))))) s4])
 (.seq (.reg [.p (.mv g0) s6,
  .p (.call 40 [(kc (.tc (.sc (.int .u32 0)))), (kc (.tc (.sc (.int .i64 8)))), (kc (.tc (.sc (.int .i64 24)))), g6] (G2 66 1 1)) s7,
  .p (.mv g7) s5])
 (.seq (.reg [.p (.mv g5) s8,
  .p (.mv g1) s9,
  .p (.call 40 [g8, (kc (.tc (.sc (.int .i64 0)))), (kc (.tc (.sc (.int .i64 8)))), g9] (G2 66 2 2)) s10,
  .p (.call 51 [g10, (kc (.tc (.sc (.int .i64 32))))] (G2 66 2 3)) s11,
  .p (.mv g11) s4])
 .ret))),
 [.tmp g4]⟩
theorem ff66_ok : compF SBEncKnown 66 = ff66 := by kernel_rfl
noncomputable def ff67 : FF := .t2 ⟨10,
 (.seq (.reg [.p (.mv (kc (.tc (.sc (.int .i64 0))))) s4])
 (.seq (.reg [.p (.mv g1) s5,
  .p (.mv g0) s6,
  .p (.cv .u32 g6 (G2 67 1 2)) s7,
  .p (.bin .add g5 g7 (G2 67 1 3)) s8,
  .p (.cv .i64 g8 (G2 67 1 4)) s9,
  .p (.mv g9) s4])
 .ret)),
 [.tmp g4]⟩
theorem ff67_ok : compF SBEncKnown 67 = ff67 := by kernel_rfl
noncomputable def ff17 : FF := .t2 ⟨35,
 (.seq (.reg [.p (.mv (kc (.tc (.sc (.bool false))))) s0])
 (.seq (.reg [.p (.bd [(.tc (.sc (.int .u8 0))), (.tc (.sc (.int .u8 0))), (.tc (.sc (.int .u8 0))), (.tc (.sc (.int .u8 0))), (.tc (.sc (.int .u8 0))), (.tc (.sc (.int .u8 0))), (.tc (.sc (.int .u8 0))), (.tc (.sc (.bool false))), (.tc (.sc (.bool false))), (.tc (.sc (.int .u16 0))), (.tc (.sc (.int .i64 0)))] [(.mk 0 1 (kc (.tc (.sc (.int .u8 2))))), (.mk 1 1 (kc (.tc (.sc (.int .u8 1))))), (.mk 2 1 (kc (.tc (.sc (.int .u8 2))))), (.mk 3 1 (kc (.tc (.sc (.int .u8 3)))))] (G2 17 1 0)) s8,
  .p (.call 15 [g8, (kc (.tc (.sc (.int .u32 0))))] (G2 17 1 1)) s9,
  .p (.mv g9) s7,
  .p (.ex g7 0) s10,
  .p (.ex g7 1) s11,
  .p (.ex g7 2) s12,
  .p (.mv g10) s1,
  .p (.mv g11) s2,
  .p (.mv g12) s3])
 (.seq (.reg [.p (.bd [(.tc (.sc (.int .u8 0))), (.tc (.sc (.int .u8 0))), (.tc (.sc (.int .u8 0))), (.tc (.sc (.int .u8 0))), (.tc (.sc (.int .u8 0))), (.tc (.sc (.int .u8 0))), (.tc (.sc (.int .u8 0))), (.tc (.sc (.bool false))), (.tc (.sc (.bool false))), (.tc (.sc (.int .u16 0))), (.tc (.sc (.int .i64 0)))] [(.mk 0 1 (kc (.tc (.sc (.int .u8 8))))), (.mk 1 1 (kc (.tc (.sc (.int .u8 1))))), (.mk 10 1 (kc (.tc (.sc (.int .i64 305419896))))), (.mk 8 1 (kc (.tc (.sc (.bool true)))))] (G2 17 2 0)) s14,
  .p (.call 15 [g14, (kc (.tc (.sc (.int .u32 0))))] (G2 17 2 1)) s15,
  .p (.mv g15) s13,
  .p (.ex g13 0) s16,
  .p (.ex g13 1) s17,
  .p (.ex g13 2) s18,
  .p (.mv g16) s4,
  .p (.mv g17) s5,
  .p (.mv g18) s6])
 (.seq (.reg [.p (.mv g1) s19,
  .p (.bin .eql g19 (kc (.tc (.sc (.int .u32 134284336)))) (G2 17 3 1)) s20,
  .p (.mv g20) s21,
  .gp g21 true (.mv g3) s22,
  .p (.pk g21 g22 (kc (.tc (.sc (.bool false))))) s23,
  .p (.mv g23) s24,
  .gp g24 true (.mv g4) s25,
  .gp g24 true (.bin .eql g25 (kc (.tc (.sc (.int .u32 536936568)))) (G2 17 3 7)) s26,
  .p (.pk g24 g26 (kc (.tc (.sc (.bool false))))) s27,
  .p (.mv g27) s28,
  .gp g28 true (.mv g5) s29,
  .gp g28 true (.bin .eql g29 (kc (.tc (.sc (.int .u32 1193046)))) (G2 17 3 11)) s30,
  .p (.pk g28 g30 (kc (.tc (.sc (.bool false))))) s31,
  .p (.mv g31) s32,
  .gp g32 true (.mv g6) s33,
  .p (.pk g32 g33 (kc (.tc (.sc (.bool false))))) s34,
  .p (.mv g34) s0])
 .ret)))),
 [.tmp g0]⟩
theorem ff17_ok : compF SBEncKnown 17 = ff17 := by kernel_rfl

noncomputable def codeEncKnown (f : FuncId) : FF := match f with
  | 5 => ff5
  | 15 => ff15
  | 30 => ff30
  | 36 => ff36
  | 62 => ff62
  | 79 => ff79
  | 92 => ff92
  | 91 => ff91
  | 104 => ff104
  | 105 => ff105
  | 93 => ff93
  | 99 => ff99
  | 94 => ff94
  | 95 => ff95
  | 96 => ff96
  | 97 => ff97
  | 98 => ff98
  | 100 => ff100
  | 63 => ff63
  | 54 => ff54
  | 55 => ff55
  | 61 => ff61
  | 56 => ff56
  | 78 => ff78
  | 37 => ff37
  | 35 => ff35
  | 59 => ff59
  | 60 => ff60
  | 51 => ff51
  | 53 => ff53
  | 77 => ff77
  | 38 => ff38
  | 39 => ff39
  | 64 => ff64
  | 29 => ff29
  | 52 => ff52
  | 40 => ff40
  | 65 => ff65
  | 41 => ff41
  | 16 => ff16
  | 33 => ff33
  | 42 => ff42
  | 43 => ff43
  | 66 => ff66
  | 67 => ff67
  | 17 => ff17
  | _ => .bad
theorem codeEncKnown_ok : ∀ f, codeEncKnown f = .bad ∨ codeEncKnown f = compF SBEncKnown f := by
  intro f
  unfold codeEncKnown
  split
  · exact .inr ff5_ok.symm
  · exact .inr ff15_ok.symm
  · exact .inr ff30_ok.symm
  · exact .inr ff36_ok.symm
  · exact .inr ff62_ok.symm
  · exact .inr ff79_ok.symm
  · exact .inr ff92_ok.symm
  · exact .inr ff91_ok.symm
  · exact .inr ff104_ok.symm
  · exact .inr ff105_ok.symm
  · exact .inr ff93_ok.symm
  · exact .inr ff99_ok.symm
  · exact .inr ff94_ok.symm
  · exact .inr ff95_ok.symm
  · exact .inr ff96_ok.symm
  · exact .inr ff97_ok.symm
  · exact .inr ff98_ok.symm
  · exact .inr ff100_ok.symm
  · exact .inr ff63_ok.symm
  · exact .inr ff54_ok.symm
  · exact .inr ff55_ok.symm
  · exact .inr ff61_ok.symm
  · exact .inr ff56_ok.symm
  · exact .inr ff78_ok.symm
  · exact .inr ff37_ok.symm
  · exact .inr ff35_ok.symm
  · exact .inr ff59_ok.symm
  · exact .inr ff60_ok.symm
  · exact .inr ff51_ok.symm
  · exact .inr ff53_ok.symm
  · exact .inr ff77_ok.symm
  · exact .inr ff38_ok.symm
  · exact .inr ff39_ok.symm
  · exact .inr ff64_ok.symm
  · exact .inr ff29_ok.symm
  · exact .inr ff52_ok.symm
  · exact .inr ff40_ok.symm
  · exact .inr ff65_ok.symm
  · exact .inr ff41_ok.symm
  · exact .inr ff16_ok.symm
  · exact .inr ff33_ok.symm
  · exact .inr ff42_ok.symm
  · exact .inr ff43_ok.symm
  · exact .inr ff66_ok.symm
  · exact .inr ff67_ok.symm
  · exact .inr ff17_ok.symm
  · exact .inl rfl
end Go.Proofs.YtdafainfcegfkaaDoor
