/- Code made ready ahead, Enc: each is what the program says. -/
import Derived.Test.YtamhmfdbnlkmkaaDoorKcBase
import Derived.Test.YtamhmfdbnlkmkaaDoorMg8
set_option linter.unusedVariables false
set_option maxRecDepth 100000
namespace Go.Proofs.YtamhmfdbnlkmkaaDoor
open Go

/-- What coxless/bits.codeAt holds. -/
noncomputable def glEnc2 : List TC := [(.sc (.int .i64 26)), (.sc (.int .i64 6))]
noncomputable def gwEnc2 : Nat := 2
/-- What coxless/bits.ends holds. -/
noncomputable def glEnc1 : List TC := [(.sc (.int .i64 0)), (.sc (.int .i64 14)), (.sc (.int .i64 16)), (.sc (.int .i64 10))]
noncomputable def gwEnc1 : Nat := 4
/-- What coxless/bits.parseAt holds. -/
noncomputable def glEnc3 : List TC := [(.sc (.int .i64 14)), (.sc (.int .i64 2))]
noncomputable def gwEnc3 : Nat := 2
noncomputable def globEnc : List (Nat × List TC) := [(2, glEnc2), (1, glEnc1), (3, glEnc3)]
noncomputable def SBEnc : Base := ⟨XP, globAt globEnc, 4294967296⟩
noncomputable def ffEnc3 : FF := .t3 ⟨153,
 (.seq (.reg [.p (.bx 11 (h0 g3) (G3 3 0 0)) (i0 s9),
  .p (.mv (kc (.tc (.sc (.bool false))))) (i0 s12)])
 (.seq (.reg [.p (.mv (h0 g1)) (i0 s26),
  .p (.bin .rem (h0 g26) (kc (.tc (.sc (.int .u32 16777216)))) (G3 3 1 1)) (i0 s27),
  .p (.mv (h0 g27)) (i0 s1)])
 (.seq (.seq (.reg [.p (.mv (h0 g2)) (i0 s28),
  .p (.nt (h0 g28) (G3 3 2 1)) (i0 s29)])
 (.cond (h0 g29) (.reg [.p (.mv (kc (.tc (.sc (.int .u32 0))))) (i0 s1)])
 .skip))
 (.seq (.reg [.p (.mv (h0 g0)) (i0 s30),
  .p (.bin .andNot (h0 g30) (kc (.tc (.sc (.int .u32 49152)))) (G3 3 4 1)) (i0 s31),
  .p (.mv (h0 g5)) (i0 s32),
  .p (.bin .rem (h0 g32) (kc (.tc (.sc (.int .u8 4)))) (G3 3 4 3)) (i0 s33),
  .p (.cv .u32 (h0 g33) (G3 3 4 4)) (i0 s34),
  .p (.bin .shl (h0 g34) (kc (.tc (.sc (.int .u64 14)))) (G3 3 4 5)) (i0 s35),
  .p (.bin .or (h0 g31) (h0 g35) (G3 3 4 6)) (i0 s36),
  .p (.mv (h0 g36)) (i0 s13)])
 (.seq (.reg [.p (.mv (h0 g0)) (i0 s38),
  .p (.mv (h0 g1)) (i0 s39),
  .p (.mv (h0 g2)) (i0 s40),
  .p (.mv (h0 g4)) (i0 s41),
  .p (.call 6 [(h0 g38), (h0 g39), (h0 g40), (h0 g41)] (G3 3 5 4)) (i0 s42),
  .p (.mv (h0 g42)) (i0 s37),
  .p (.ex (h0 g37) 0) (i0 s43),
  .p (.ex (h0 g37) 1) (i0 s44),
  .p (.al 11 [(.sc (.int .u8 0)), (.sc (.int .u8 0)), (.sc (.int .u8 0)), (.sc (.int .u8 0)), (.sc (.int .u8 0)), (.sc (.int .u8 0)), (.sc (.int .u8 0)), (.sc (.bool false)), (.sc (.bool false)), (.sc (.int .u16 0)), (.sc (.int .i64 0))]) (i0 s14),
  .n (.st 11 (h0 g14) (h0 g43) (G3 3 5 9)),
  .p (.mv (h0 g44)) (i0 s15)])
 (.seq (.reg [.p (.mv (h0 g13)) (i0 s46),
  .p (.mv (h0 g1)) (i0 s47),
  .p (.mv (h0 g2)) (i0 s48),
  .p (.mv (h0 g4)) (i0 s49),
  .p (.call 6 [(h0 g46), (h0 g47), (h0 g48), (h0 g49)] (G3 3 6 4)) (i0 s50),
  .p (.mv (h0 g50)) (i0 s45),
  .p (.ex (h0 g45) 0) (i0 s51),
  .p (.ex (h0 g45) 1) (i0 s52),
  .p (.al 11 [(.sc (.int .u8 0)), (.sc (.int .u8 0)), (.sc (.int .u8 0)), (.sc (.int .u8 0)), (.sc (.int .u8 0)), (.sc (.int .u8 0)), (.sc (.int .u8 0)), (.sc (.bool false)), (.sc (.bool false)), (.sc (.int .u16 0)), (.sc (.int .i64 0))]) (i0 s16),
  .n (.st 11 (h0 g16) (h0 g51) (G3 3 6 9)),
  .p (.mv (h0 g52)) (i0 s17)])
 (.seq (.seq (.reg [.p (.ld true 11 (h0 g14)) (i0 s53),
  .p (.ld true 11 (h0 g16)) (i0 s54),
  .p (.eqs .neq [(.mk 0 .int), (.mk 1 .int), (.mk 2 .int), (.mk 3 .int), (.mk 4 .int), (.mk 5 .int), (.mk 6 .int), (.mk 7 .bool), (.mk 8 .bool), (.mk 9 .int), (.mk 10 .int)] (h0 g53) (h0 g54) (G3 3 7 2)) (i0 s55),
  .p (.mv (h0 g55)) (i0 s56),
  .gp (h0 g56) false (.mv (h0 g15)) (i0 s57),
  .gp (h0 g56) false (.mv (h0 g17)) (i0 s58),
  .gp (h0 g56) false (.bin .neq (h0 g57) (h0 g58) (G3 3 7 6)) (i0 s59),
  .p (.pk (h0 g56) (kc (.tc (.sc (.bool true)))) (h0 g59)) (i0 s60)])
 (.cond (h0 g60) (.seq (.reg [.p (.mv (kc (.tc (.sc (.bool false))))) (i0 s12)])
 .ret)
 .skip))
 (.seq (.seq (.reg [.p (.mv (h0 g15)) (i0 s61)])
 (.cond (h0 g61) (.seq (.reg [.p (.ld true 11 (h0 g14)) (i0 s63),
  .p (.mv (h0 g4)) (i1 s0),
  .p (.call 7 [(h0 g63), (h1 g0)] (G3 3 10 2)) (i1 s1),
  .p (.mv (h1 g1)) (i0 s62),
  .p (.ex (h0 g62) 0) (i1 s2),
  .p (.ex (h0 g62) 1) (i1 s3),
  .p (.ex (h0 g62) 2) (i1 s4),
  .p (.mv (h1 g2)) (i0 s18),
  .p (.mv (h1 g3)) (i0 s19),
  .p (.mv (h1 g4)) (i0 s20)])
 (.seq (.reg [.p (.mv (h0 g20)) (i1 s5),
  .p (.nt (h1 g5) (G3 3 11 1)) (i1 s6),
  .p (.mv (h1 g6)) (i1 s7),
  .gp (h1 g7) false (.mv (h0 g19)) (i1 s8),
  .gp (h1 g7) false (.mv (h0 g1)) (i1 s9),
  .gp (h1 g7) false (.bin .neq (h1 g8) (h1 g9) (G3 3 11 5)) (i1 s10),
  .p (.pk (h1 g7) (kc (.tc (.sc (.bool true)))) (h1 g10)) (i1 s11),
  .p (.mv (h1 g11)) (i1 s12),
  .gp (h1 g12) false (.mv (h0 g18)) (i1 s13),
  .gp (h1 g12) false (.mv (h0 g0)) (i1 s14),
  .gp (h1 g12) false (.bin .andNot (h1 g14) (kc (.tc (.sc (.int .u32 49152)))) (G3 3 11 10)) (i1 s15),
  .gp (h1 g12) false (.bin .neq (h1 g13) (h1 g15) (G3 3 11 11)) (i1 s16),
  .p (.pk (h1 g12) (kc (.tc (.sc (.bool true)))) (h1 g16)) (i1 s17),
  .p (.mv (h1 g17)) (i1 s18),
  .gp (h1 g18) false (.fa 8 (h0 g14)) (i1 s19),
  .gp (h1 g18) false (.ld false 1 (h1 g19)) (i1 s20),
  .gp (h1 g18) false (.mv (h0 g2)) (i1 s21),
  .gp (h1 g18) false (.bin .neq (h1 g20) (h1 g21) (G3 3 11 17)) (i1 s22),
  .p (.pk (h1 g18) (kc (.tc (.sc (.bool true)))) (h1 g22)) (i1 s23),
  .p (.mv (h1 g23)) (i1 s24),
  .gp (h1 g24) false (.ld true 11 (h0 g14)) (i1 s25),
  .gp (h1 g24) false (.call 8 [(h1 g25)] (G3 3 11 21)) (i1 s26),
  .gp (h1 g24) false (.nt (h1 g26) (G3 3 11 22)) (i1 s27),
  .p (.pk (h1 g24) (kc (.tc (.sc (.bool true)))) (h1 g27)) (i1 s28)])
 (.cond (h1 g28) (.seq (.reg [.p (.mv (kc (.tc (.sc (.bool false))))) (i0 s12)])
 .ret)
 .skip)))
 .skip))
 (.seq (.reg [.p (.ld true 11 (h0 g9)) (i1 s30),
  .p (.mv (h0 g4)) (i1 s31),
  .p (.call 7 [(h1 g30), (h1 g31)] (G3 3 13 2)) (i1 s32),
  .p (.mv (h1 g32)) (i1 s29),
  .p (.ex (h1 g29) 0) (i1 s33),
  .p (.ex (h1 g29) 1) (i1 s34),
  .p (.ex (h1 g29) 2) (i1 s35),
  .p (.mv (h1 g33)) (i0 s21),
  .p (.mv (h1 g34)) (i0 s22),
  .p (.mv (h1 g35)) (i0 s23)])
 (.seq (.seq (.reg [.p (.mv (h0 g23)) (i1 s36),
  .p (.ld true 11 (h0 g9)) (i1 s37),
  .p (.call 8 [(h1 g37)] (G3 3 14 2)) (i1 s38),
  .p (.mv (h1 g38)) (i1 s39),
  .gp (h1 g39) true (.fa 8 (h0 g9)) (i1 s40),
  .gp (h1 g39) true (.ld false 1 (h1 g40)) (i1 s41),
  .gp (h1 g39) true (.mv (h1 g41)) (i1 s42),
  .gp (h1 g42) false (.ld true 11 (h0 g9)) (i1 s43),
  .gp (h1 g42) false (.mv (h0 g4)) (i1 s44),
  .gp (h1 g42) false (.call 9 [(h1 g43), (h1 g44)] (G3 3 14 9)) (i1 s45),
  .gp (h1 g39) true (.pk (h1 g42) (kc (.tc (.sc (.bool true)))) (h1 g45)) (i1 s46),
  .p (.pk (h1 g39) (h1 g46) (kc (.tc (.sc (.bool false))))) (i1 s47),
  .p (.bin .neq (h1 g36) (h1 g47) (G3 3 14 12)) (i1 s48)])
 (.cond (h1 g48) (.seq (.reg [.p (.mv (kc (.tc (.sc (.bool false))))) (i0 s12)])
 .ret)
 .skip))
 (.seq (.seq (.reg [.p (.mv (h0 g23)) (i1 s49),
  .p (.nt (h1 g49) (G3 3 16 1)) (i1 s50)])
 (.cond (h1 g50) (.seq (.reg [.p (.mv (h0 g21)) (i1 s51),
  .p (.bin .eql (h1 g51) (kc (.tc (.sc (.int .u32 0)))) (G3 3 17 1)) (i1 s52),
  .p (.mv (h1 g52)) (i1 s53),
  .gp (h1 g53) true (.mv (h0 g22)) (i1 s54),
  .gp (h1 g53) true (.bin .eql (h1 g54) (kc (.tc (.sc (.int .u32 0)))) (G3 3 17 4)) (i1 s55),
  .p (.pk (h1 g53) (h1 g55) (kc (.tc (.sc (.bool false))))) (i1 s56),
  .p (.mv (h1 g56)) (i1 s57),
  .gp (h1 g57) true (.call 10 [] (G3 3 17 7)) (i1 s58),
  .p (.pk (h1 g57) (h1 g58) (kc (.tc (.sc (.bool false))))) (i1 s59),
  .p (.mv (h1 g59)) (i0 s12)])
 .ret)
 .skip))
 (.seq (.reg [.p (.mv (h0 g21)) (i1 s61),
  .p (.mv (h0 g22)) (i1 s62),
  .p (.fa 8 (h0 g9)) (i1 s63),
  .p (.ld false 1 (h1 g63)) (i2 s0),
  .p (.mv (h0 g4)) (i2 s1),
  .p (.call 6 [(h1 g61), (h1 g62), (h2 g0), (h2 g1)] (G3 3 18 5)) (i2 s2),
  .p (.mv (h2 g2)) (i1 s60),
  .p (.ex (h1 g60) 0) (i2 s3),
  .p (.ex (h1 g60) 1) (i2 s4),
  .p (.al 11 [(.sc (.int .u8 0)), (.sc (.int .u8 0)), (.sc (.int .u8 0)), (.sc (.int .u8 0)), (.sc (.int .u8 0)), (.sc (.int .u8 0)), (.sc (.int .u8 0)), (.sc (.bool false)), (.sc (.bool false)), (.sc (.int .u16 0)), (.sc (.int .i64 0))]) (i0 s24),
  .n (.st 11 (h0 g24) (h2 g3) (G3 3 18 10)),
  .p (.mv (h2 g4)) (i0 s25)])
 (.seq (.reg [.p (.mv (h0 g25)) (i2 s5),
  .p (.mv (h2 g5)) (i2 s6),
  .gp (h2 g6) true (.ld true 11 (h0 g24)) (i2 s7),
  .gp (h2 g6) true (.ld true 11 (h0 g9)) (i2 s8),
  .gp (h2 g6) true (.eqs .eql [(.mk 0 .int), (.mk 1 .int), (.mk 2 .int), (.mk 3 .int), (.mk 4 .int), (.mk 5 .int), (.mk 6 .int), (.mk 7 .bool), (.mk 8 .bool), (.mk 9 .int), (.mk 10 .int)] (h2 g7) (h2 g8) (G3 3 19 4)) (i2 s9),
  .p (.pk (h2 g6) (h2 g9) (kc (.tc (.sc (.bool false))))) (i2 s10),
  .p (.mv (h2 g10)) (i2 s11),
  .gp (h2 g11) true (.mv (h0 g21)) (i2 s12),
  .gp (h2 g11) true (.bin .shr (h2 g12) (kc (.tc (.sc (.int .u64 14)))) (G3 3 19 8)) (i2 s13),
  .gp (h2 g11) true (.bin .and (h2 g13) (kc (.tc (.sc (.int .u32 3)))) (G3 3 19 9)) (i2 s14),
  .gp (h2 g11) true (.bin .eql (h2 g14) (kc (.tc (.sc (.int .u32 0)))) (G3 3 19 10)) (i2 s15),
  .p (.pk (h2 g11) (h2 g15) (kc (.tc (.sc (.bool false))))) (i2 s16),
  .p (.mv (h2 g16)) (i2 s17),
  .gp (h2 g17) true (.mv (h0 g22)) (i2 s18),
  .gp (h2 g17) true (.bin .shr (h2 g18) (kc (.tc (.sc (.int .u64 24)))) (G3 3 19 14)) (i2 s19),
  .gp (h2 g17) true (.bin .eql (h2 g19) (kc (.tc (.sc (.int .u32 0)))) (G3 3 19 15)) (i2 s20),
  .p (.pk (h2 g17) (h2 g20) (kc (.tc (.sc (.bool false))))) (i2 s21),
  .p (.mv (h2 g21)) (i2 s22),
  .gp (h2 g22) true (.call 10 [] (G3 3 19 18)) (i2 s23),
  .p (.pk (h2 g22) (h2 g23) (kc (.tc (.sc (.bool false))))) (i2 s24),
  .p (.mv (h2 g24)) (i0 s12)])
 .ret))))))))))))),
 [.tmp (h0 g12)]⟩
theorem ffEnc3_ok : compF SBEnc 3 = ffEnc3 := by kernel_rfl
noncomputable def ffEnc6 : FF := .t3 ⟨144,
 (.seq (.reg [.p (.al 11 [(.sc (.int .u8 0)), (.sc (.int .u8 0)), (.sc (.int .u8 0)), (.sc (.int .u8 0)), (.sc (.int .u8 0)), (.sc (.int .u8 0)), (.sc (.int .u8 0)), (.sc (.bool false)), (.sc (.bool false)), (.sc (.int .u16 0)), (.sc (.int .i64 0))]) (i0 s8),
  .p (.mv (kc (.tc (.sc (.bool false))))) (i0 s9)])
 (.seq (.reg [.p (.mv (h0 g0)) (i0 s24),
  .p (.call 18 [(h0 g24)] (G3 6 1 1)) (i0 s25),
  .p (.mv (h0 g25)) (i0 s23),
  .p (.ex (h0 g23) 0) (i0 s26),
  .p (.ex (h0 g23) 1) (i0 s27),
  .p (.ex (h0 g23) 2) (i0 s28),
  .p (.mv (h0 g26)) (i0 s10),
  .p (.mv (h0 g27)) (i0 s11),
  .p (.mv (h0 g28)) (i0 s12)])
 (.seq (.reg [.p (.mv (h0 g10)) (i0 s30),
  .p (.call 19 [(h0 g30)] (G3 6 2 1)) (i0 s31),
  .p (.mv (h0 g31)) (i0 s29),
  .p (.ex (h0 g29) 0) (i0 s32),
  .p (.ex (h0 g29) 1) (i0 s33),
  .p (.al 5 [(.sc (.int .u8 0)), (.sc (.string ⟨#[]⟩)), (.sc (.int .u8 0)), (.sc (.int .u8 0)), (.sc (.slice none 0 0))]) (i0 s13),
  .n (.st 5 (h0 g13) (h0 g32) (G3 6 2 6)),
  .p (.mv (h0 g33)) (i0 s14)])
 (.seq (.seq (.reg [.p (.mv (h0 g14)) (i0 s34),
  .p (.nt (h0 g34) (G3 6 3 1)) (i0 s35),
  .p (.mv (h0 g35)) (i0 s36),
  .gp (h0 g36) false (.mv (h0 g2)) (i0 s37),
  .gp (h0 g36) false (.mv (h0 g37)) (i0 s38),
  .gp (h0 g38) true (.mv (h0 g10)) (i0 s39),
  .gp (h0 g38) true (.call 20 [(h0 g39)] (G3 6 3 6)) (i0 s40),
  .gp (h0 g38) true (.nt (h0 g40) (G3 6 3 7)) (i0 s41),
  .gp (h0 g36) false (.pk (h0 g38) (h0 g41) (kc (.tc (.sc (.bool false))))) (i0 s42),
  .p (.pk (h0 g36) (kc (.tc (.sc (.bool true)))) (h0 g42)) (i0 s43),
  .p (.mv (h0 g43)) (i0 s44),
  .gp (h0 g44) false (.mv (h0 g1)) (i0 s45),
  .gp (h0 g44) false (.bin .shr (h0 g45) (kc (.tc (.sc (.int .u64 24)))) (G3 6 3 12)) (i0 s46),
  .gp (h0 g44) false (.bin .neq (h0 g46) (kc (.tc (.sc (.int .u32 0)))) (G3 6 3 13)) (i0 s47),
  .p (.pk (h0 g44) (kc (.tc (.sc (.bool true)))) (h0 g47)) (i0 s48)])
 (.cond (h0 g48) (.seq (.reg [.p (.bd [(.tc (.sc (.int .u8 0))), (.tc (.sc (.int .u8 0))), (.tc (.sc (.int .u8 0))), (.tc (.sc (.int .u8 0))), (.tc (.sc (.int .u8 0))), (.tc (.sc (.int .u8 0))), (.tc (.sc (.int .u8 0))), (.tc (.sc (.bool false))), (.tc (.sc (.bool false))), (.tc (.sc (.int .u16 0))), (.tc (.sc (.int .i64 0)))] [] (G3 6 4 0)) (i0 s49),
  .n (.st 11 (h0 g8) (h0 g49) (G3 6 4 1)),
  .p (.mv (kc (.tc (.sc (.bool false))))) (i0 s9)])
 .ret)
 .skip))
 (.seq (.reg [.p (.mv (h0 g10)) (i0 s50),
  .p (.mv (h0 g2)) (i0 s51),
  .p (.bd [(.tc (.sc (.int .u8 0))), (.tc (.sc (.int .u8 0))), (.tc (.sc (.int .u8 0))), (.tc (.sc (.int .u8 0))), (.tc (.sc (.int .u8 0))), (.tc (.sc (.int .u8 0))), (.tc (.sc (.int .u8 0))), (.tc (.sc (.bool false))), (.tc (.sc (.bool false))), (.tc (.sc (.int .u16 0))), (.tc (.sc (.int .i64 0)))] [(.mk 0 1 (h0 g50)), (.mk 8 1 (h0 g51))] (G3 6 5 2)) (i0 s52),
  .p (.al 11 [(.sc (.int .u8 0)), (.sc (.int .u8 0)), (.sc (.int .u8 0)), (.sc (.int .u8 0)), (.sc (.int .u8 0)), (.sc (.int .u8 0)), (.sc (.int .u8 0)), (.sc (.bool false)), (.sc (.bool false)), (.sc (.int .u16 0)), (.sc (.int .i64 0))]) (i0 s15),
  .n (.st 11 (h0 g15) (h0 g52) (G3 6 5 4))])
 (.seq (.reg [.p (.mv (h0 g11)) (i0 s53),
  .p (.mv (h0 g53)) (i0 s16)])
 (.seq (.seq (.reg [.p (.fa 4 (h0 g13)) (i0 s54),
  .p (.ld false 1 (h0 g54)) (i0 s55),
  .p (.len (h0 g55) (G3 6 7 2)) (i0 s56),
  .p (.mv (kc (.tc (.sc (.int .i64 0))))) (i0 s57)])
 (.block 0 (.loop 4294967296 (.seq (.reg [.p (.bin .lss (h0 g57) (h0 g56) (G3 6 8 0)) (i0 s58)])
 (.seq (.cond (h0 g58) .skip
 (.exit 0))
 (.seq (.block 1 (.seq (.reg [.p (.ia 5 (h0 g55) (h0 g57) (G3 6 9 0)) (i0 s59),
  .p (.ld true 5 (h0 g59)) (i0 s60),
  .p (.al 5 [(.sc (.int .u8 0)), (.sc (.int .i64 0)), (.sc (.int .i64 0)), (.sc (.bool false)), (.sc (.bool false))]) (i0 s18),
  .n (.st 5 (h0 g18) (h0 g60) (G3 6 9 3))])
 (.seq (.reg [.p (.mv (h0 g10)) (i0 s62),
  .p (.fa 0 (h0 g18)) (i0 s63),
  .p (.ld false 1 (h0 g63)) (i1 s0),
  .p (.call 21 [(h0 g62), (h1 g0)] (G3 6 10 3)) (i1 s1),
  .p (.mv (h1 g1)) (i0 s61),
  .p (.ex (h0 g61) 0) (i1 s2),
  .p (.ex (h0 g61) 1) (i1 s3),
  .p (.ex (h0 g61) 2) (i1 s4),
  .p (.al 5 [(.sc (.int .u8 0)), (.sc (.int .i64 0)), (.sc (.int .i64 0)), (.sc (.bool false)), (.sc (.bool false))]) (i0 s19),
  .n (.st 5 (h0 g19) (h1 g2) (G3 6 10 9)),
  .p (.mv (h1 g3)) (i0 s20),
  .p (.mv (h1 g4)) (i0 s21)])
 (.seq (.reg [.p (.mv (h0 g11)) (i1 s5),
  .p (.mv (h0 g20)) (i1 s6),
  .p (.fa 1 (h0 g18)) (i1 s7),
  .p (.ld false 1 (h1 g7)) (i1 s8),
  .p (.call 22 [(h1 g5), (h1 g6), (h1 g8)] (G3 6 11 4)) (i1 s9),
  .p (.mv (h1 g9)) (i0 s22)])
 (.seq (.reg [.p (.mv (h0 g16)) (i1 s10),
  .p (.mv (h0 g20)) (i1 s11),
  .p (.fa 1 (h0 g18)) (i1 s12),
  .p (.ld false 1 (h1 g12)) (i1 s13),
  .p (.call 23 [(h1 g10), (h1 g11), (h1 g13), (kc (.tc (.sc (.int .u32 0))))] (G3 6 12 4)) (i1 s14),
  .p (.mv (h1 g14)) (i0 s16)])
 (.seq (.reg [.p (.fa 0 (h0 g18)) (i1 s15),
  .p (.ld false 1 (h1 g15)) (i1 s16)])
 (.block 2 (.seq (.reg [.p (.bin .eql (h1 g16) (kc (.tc (.sc (.int .u8 1)))) (G3 6 14 0)) (i1 s30),
  .p (.mv (h1 g30)) (i1 s29)])
 (.cond (h1 g29) (.reg [.p (.mv (h0 g22)) (i1 s31),
  .p (.cv .u8 (h1 g31) (G3 6 15 1)) (i1 s32),
  .p (.fa 6 (h0 g15)) (i1 s33),
  .n (.st 1 (h1 g33) (h1 g32) (G3 6 15 3))])
 (.seq (.reg [.p (.bin .eql (h1 g16) (kc (.tc (.sc (.int .u8 2)))) (G3 6 16 0)) (i1 s35),
  .p (.mv (h1 g35)) (i1 s34)])
 (.cond (h1 g34) (.reg [.p (.mv (h0 g22)) (i1 s36),
  .p (.cv .u8 (h1 g36) (G3 6 17 1)) (i1 s37),
  .p (.fa 5 (h0 g15)) (i1 s38),
  .n (.st 1 (h1 g38) (h1 g37) (G3 6 17 3))])
 (.seq (.seq (.reg [.p (.bin .eql (h1 g16) (kc (.tc (.sc (.int .u8 3)))) (G3 6 18 0)) (i1 s40),
  .p (.mv (h1 g40)) (i1 s39)])
 (.cond (h1 g39) .skip
 (.reg [.p (.bin .eql (h1 g16) (kc (.tc (.sc (.int .u8 4)))) (G3 6 19 0)) (i1 s41),
  .p (.mv (h1 g41)) (i1 s39)])))
 (.cond (h1 g39) (.reg [.p (.mv (h0 g22)) (i1 s42),
  .p (.cv .u8 (h1 g42) (G3 6 20 1)) (i1 s43),
  .p (.fa 1 (h0 g15)) (i1 s44),
  .n (.st 1 (h1 g44) (h1 g43) (G3 6 20 3))])
 (.seq (.reg [.p (.bin .eql (h1 g16) (kc (.tc (.sc (.int .u8 5)))) (G3 6 21 0)) (i1 s46),
  .p (.mv (h1 g46)) (i1 s45)])
 (.cond (h1 g45) (.reg [.p (.mv (h0 g22)) (i1 s47),
  .p (.cv .u8 (h1 g47) (G3 6 22 1)) (i1 s48),
  .p (.fa 2 (h0 g15)) (i1 s49),
  .n (.st 1 (h1 g49) (h1 g48) (G3 6 22 3))])
 (.seq (.reg [.p (.bin .eql (h1 g16) (kc (.tc (.sc (.int .u8 6)))) (G3 6 23 0)) (i1 s51),
  .p (.mv (h1 g51)) (i1 s50)])
 (.cond (h1 g50) (.reg [.p (.mv (h0 g22)) (i1 s52),
  .p (.cv .u8 (h1 g52) (G3 6 24 1)) (i1 s53),
  .p (.fa 3 (h0 g15)) (i1 s54),
  .n (.st 1 (h1 g54) (h1 g53) (G3 6 24 3))])
 (.seq (.reg [.p (.bin .eql (h1 g16) (kc (.tc (.sc (.int .u8 7)))) (G3 6 25 0)) (i1 s56),
  .p (.mv (h1 g56)) (i1 s55)])
 (.cond (h1 g55) (.reg [.p (.mv (h0 g22)) (i1 s57),
  .p (.cv .u8 (h1 g57) (G3 6 26 1)) (i1 s58),
  .p (.fa 4 (h0 g15)) (i1 s59),
  .n (.st 1 (h1 g59) (h1 g58) (G3 6 26 3))])
 (.seq (.reg [.p (.bin .eql (h1 g16) (kc (.tc (.sc (.int .u8 8)))) (G3 6 27 0)) (i1 s61),
  .p (.mv (h1 g61)) (i1 s60)])
 (.cond (h1 g60) (.reg [.p (.mv (h0 g22)) (i1 s62),
  .p (.bin .eql (h1 g62) (kc (.tc (.sc (.int .u32 1)))) (G3 6 28 1)) (i1 s63),
  .p (.fa 7 (h0 g15)) (i2 s0),
  .n (.st 1 (h2 g0) (h1 g63) (G3 6 28 3))])
 (.seq (.reg [.p (.bin .eql (h1 g16) (kc (.tc (.sc (.int .u8 11)))) (G3 6 29 0)) (i2 s2),
  .p (.mv (h2 g2)) (i2 s1)])
 (.cond (h2 g1) (.reg [.p (.mv (h0 g22)) (i2 s3),
  .p (.cv .u16 (h2 g3) (G3 6 30 1)) (i2 s4),
  .p (.fa 9 (h0 g15)) (i2 s5),
  .n (.st 1 (h2 g5) (h2 g4) (G3 6 30 3))])
 (.seq (.reg [.p (.ld true 11 (h0 g15)) (i1 s18),
  .p (.ld true 5 (h0 g18)) (i1 s19),
  .p (.mv (h0 g22)) (i1 s20),
  .p (.mv (h0 g1)) (i1 s21),
  .p (.mv (h0 g3)) (i1 s22),
  .p (.call 24 [(h1 g18), (h1 g19), (h1 g20), (h1 g21), (h1 g22)] (G3 6 31 5)) (i1 s23),
  .p (.mv (h1 g23)) (i1 s17),
  .p (.ex (h1 g17) 0) (i1 s24),
  .p (.ex (h1 g17) 1) (i1 s25),
  .n (.st 11 (h0 g15) (h1 g24) (G3 6 31 9)),
  .p (.mv (h1 g25)) (i0 s14)])
 (.seq (.reg [.p (.mv (h0 g14)) (i1 s26),
  .p (.nt (h1 g26) (G3 6 32 1)) (i1 s27)])
 (.cond (h1 g27) (.seq (.reg [.p (.bd [(.tc (.sc (.int .u8 0))), (.tc (.sc (.int .u8 0))), (.tc (.sc (.int .u8 0))), (.tc (.sc (.int .u8 0))), (.tc (.sc (.int .u8 0))), (.tc (.sc (.int .u8 0))), (.tc (.sc (.int .u8 0))), (.tc (.sc (.bool false))), (.tc (.sc (.bool false))), (.tc (.sc (.int .u16 0))), (.tc (.sc (.int .i64 0)))] [] (G3 6 33 0)) (i1 s28),
  .n (.st 11 (h0 g8) (h1 g28) (G3 6 33 1)),
  .p (.mv (kc (.tc (.sc (.bool false))))) (i0 s9)])
 .ret)
 .skip))))))))))))))))))))))))))
 (.reg [.p (.bin .add (h0 g57) (kc (.tc (.sc (.int .i64 1)))) (G3 6 34 0)) (i2 s6),
  .p (.mv (h2 g6)) (i0 s57)])))))))
 (.seq (.seq (.reg [.p (.mv (h0 g16)) (i2 s7),
  .p (.bin .neq (h2 g7) (kc (.tc (.sc (.int .u32 0)))) (G3 6 35 1)) (i2 s8),
  .p (.mv (h2 g8)) (i2 s9),
  .gp (h2 g9) false (.ld true 11 (h0 g15)) (i2 s10),
  .gp (h2 g9) false (.call 8 [(h2 g10)] (G3 6 35 4)) (i2 s11),
  .gp (h2 g9) false (.nt (h2 g11) (G3 6 35 5)) (i2 s12),
  .p (.pk (h2 g9) (kc (.tc (.sc (.bool true)))) (h2 g12)) (i2 s13)])
 (.cond (h2 g13) (.seq (.reg [.p (.bd [(.tc (.sc (.int .u8 0))), (.tc (.sc (.int .u8 0))), (.tc (.sc (.int .u8 0))), (.tc (.sc (.int .u8 0))), (.tc (.sc (.int .u8 0))), (.tc (.sc (.int .u8 0))), (.tc (.sc (.int .u8 0))), (.tc (.sc (.bool false))), (.tc (.sc (.bool false))), (.tc (.sc (.int .u16 0))), (.tc (.sc (.int .i64 0)))] [] (G3 6 36 0)) (i2 s14),
  .n (.st 11 (h0 g8) (h2 g14) (G3 6 36 1)),
  .p (.mv (kc (.tc (.sc (.bool false))))) (i0 s9)])
 .ret)
 .skip))
 (.seq (.reg [.p (.ld true 11 (h0 g15)) (i2 s15),
  .n (.st 11 (h0 g8) (h2 g15) (G3 6 37 1)),
  .p (.mv (kc (.tc (.sc (.bool true))))) (i0 s9)])
 .ret))))))))),
 [.cell (h0 g8) true 11, .tmp (h0 g9)]⟩
theorem ffEnc6_ok : compF SBEnc 6 = ffEnc6 := by kernel_rfl
noncomputable def ffEnc18 : FF := .t2 ⟨27,
 (.seq (.reg [.p (.mv (kc (.tc (.sc (.int .u8 0))))) s2,
  .p (.mv (kc (.tc (.sc (.int .u32 0))))) s3,
  .p (.mv (kc (.tc (.sc (.int .u8 0))))) s4])
 (.seq (.regD [0, 1, 0, 7, 0, 16, 0, 127, 0, 256, 768, 2047, 4095, 8191] [.no, (.rd (.ld true 2 g5) g6), .no, .no, .no, (.rd (.ld true 2 g9) g10), .no, .no, .no, .no, (.rd (.ld false 1 g14) g15), .no, .no, .no] [.mk .none .yes (.gen (G2 18 1 0)) (.gen (G2 18 1 0)) (some s5),
  .mk .none .yes (.ld true 2 g5) (.ld true 2 g5) (some s6),
  .mk .none .yes (.mv g0) (.mv g0) (some s7),
  .mk .none (.dyn 43 [g6, g7]) (.call 43 [g6, g7] (G2 18 1 3)) (.call 43 [g6, g7] (G2 18 1 3)) (some s8),
  .mk .none .yes (.gen (G2 18 1 4)) (.gen (G2 18 1 4)) (some s9),
  .mk .none .yes (.ld true 2 g9) (.ld true 2 g9) (some s10),
  .mk .none .yes (.mv g0) (.mv g0) (some s11),
  .mk .none (.dyn 43 [g10, g11]) (.call 43 [g10, g11] (G2 18 1 7)) (.call 43 [g10, g11] (G2 18 1 7)) (some s12),
  .mk .none .yes (.gen (G2 18 1 8)) (.gen (G2 18 1 8)) (some s13),
  .mk .none .yes (.fa 1 g13) (.fa 1 g13) (some s14),
  .mk .none .yes (.ld false 1 g14) (.ld false 1 g14) (some s15),
  .mk .none .yes (.bin .shl g12 g15 (G2 18 1 11)) (.bin .shl g12 g15 (G2 18 1 11)) (some s16),
  .mk .none .yes (.bin .or g8 g16 (G2 18 1 12)) (.bin .or g8 g16 (G2 18 1 12)) (some s17),
  .mk .none .yes (.mv g17) (.mv g17) (some s3)])
 (.seq (.regD [0, 0, 3, 7, 0, 0, 0, 103, 231, 239, 767, 2047] [(.rd (.ld true 2 (kc (.vptr gwEnc2 [glEnc2] 0 0))) g18), .no, .no, (.rd (.cv .u8 g20 (G2 18 2 3)) g21), .no, (.rd (.ld true 2 (kc (.vptr gwEnc3 [glEnc3] 0 0))) g23), .no, .no, (.rd (.cv .u8 g25 (G2 18 2 8)) g26), .no, .no, .no] [.mk .none .yes (.ld true 2 (kc (.vptr gwEnc2 [glEnc2] 0 0))) (.ld true 2 (kc (.vptr gwEnc2 [glEnc2] 0 0))) (some s18),
  .mk .none .yes (.mv g0) (.mv g0) (some s19),
  .mk .none (.dyn 43 [g18, g19]) (.call 43 [g18, g19] (G2 18 2 2)) (.call 43 [g18, g19] (G2 18 2 2)) (some s20),
  .mk .none .yes (.cv .u8 g20 (G2 18 2 3)) (.cv .u8 g20 (G2 18 2 3)) (some s21),
  .mk .none .yes (.mv g3) (.mv g3) (some s22),
  .mk .none .yes (.ld true 2 (kc (.vptr gwEnc3 [glEnc3] 0 0))) (.ld true 2 (kc (.vptr gwEnc3 [glEnc3] 0 0))) (some s23),
  .mk .none .yes (.mv g0) (.mv g0) (some s24),
  .mk .none (.dyn 43 [g23, g24]) (.call 43 [g23, g24] (G2 18 2 7)) (.call 43 [g23, g24] (G2 18 2 7)) (some s25),
  .mk .none .yes (.cv .u8 g25 (G2 18 2 8)) (.cv .u8 g25 (G2 18 2 8)) (some s26),
  .mk .none .yes (.mv g21) (.mv g21) (some s2),
  .mk .none .yes (.mv g22) (.mv g22) (some s3),
  .mk .none .yes (.mv g26) (.mv g26) (some s4)])
 .ret))),
 [.tmp g2, .tmp g3, .tmp g4]⟩
theorem ffEnc18_ok : compF SBEnc 18 = ffEnc18 := by kernel_rfl
noncomputable def ffEnc43 : FF := .t2 ⟨14,
 (.seq (.reg [.p (.bx 2 g0 (G2 43 0 0)) s2,
  .p (.mv (kc (.tc (.sc (.int .u32 0))))) s4])
 (.seq (.regD [0, 1, 0, 4, 15, 31, 0, 64, 255, 511] [.no, (.rd (.cv .u64 g5 (G2 43 1 1)) g6), .no, (.rd (.ld false 1 g7) g8), .no, (.rd (.cv .u32 g9 (G2 43 1 5)) g10), (.rd (.ld true 2 g2) g11), .no, .no, .no] [.mk .none .yes (.mv g1) (.mv g1) (some s5),
  .mk .none .yes (.cv .u64 g5 (G2 43 1 1)) (.cv .u64 g5 (G2 43 1 1)) (some s6),
  .mk .none .yes (.fa 0 g2) (.fa 0 g2) (some s7),
  .mk .none .yes (.ld false 1 g7) (.ld false 1 g7) (some s8),
  .mk .none .yes (.bin .shr g6 g8 (G2 43 1 4)) (.bin .shr g6 g8 (G2 43 1 4)) (some s9),
  .mk .none .yes (.cv .u32 g9 (G2 43 1 5)) (.cv .u32 g9 (G2 43 1 5)) (some s10),
  .mk .none .yes (.ld true 2 g2) (.ld true 2 g2) (some s11),
  .mk .none (.dyn 64 [g11]) (.call 64 [g11] (G2 43 1 7)) (.call 64 [g11] (G2 43 1 7)) (some s12),
  .mk .none .yes (.bin .and g10 g12 (G2 43 1 8)) (.bin .and g10 g12 (G2 43 1 8)) (some s13),
  .mk .none .yes (.mv g13) (.mv g13) (some s4)])
 .ret)),
 [.tmp g4]⟩
theorem ffEnc43_ok : compF SBEnc 43 = ffEnc43 := by kernel_rfl
noncomputable def ffEnc64 : FF := .t2 ⟨8,
 (.seq (.reg [.p (.bx 2 g0 (G2 64 0 0)) s1,
  .p (.mv (kc (.tc (.sc (.int .u32 0))))) s2])
 (.seq (.reg [.p (.fa 1 g1) s3,
  .p (.ld false 1 g3) s4,
  .p (.bin .shl (kc (.tc (.sc (.int .u64 1)))) g4 (G2 64 1 2)) s5,
  .p (.bin .sub g5 (kc (.tc (.sc (.int .u64 1)))) (G2 64 1 3)) s6,
  .p (.cv .u32 g6 (G2 64 1 4)) s7,
  .p (.mv g7) s2])
 .ret)),
 [.tmp g2]⟩
theorem ffEnc64_ok : compF SBEnc 64 = ffEnc64 := by kernel_rfl
noncomputable def ffEnc19 : FF := .t2 ⟨17,
 (.seq (.reg [.p (.al 5 [(.sc (.int .u8 0)), (.sc (.string ⟨#[]⟩)), (.sc (.int .u8 0)), (.sc (.int .u8 0)), (.sc (.slice none 0 0))]) s2,
  .p (.mv (kc (.tc (.sc (.bool false))))) s3])
 (.seq (.reg [.p (.mv g0) s7,
  .p (.call 44 [g7] (G2 19 1 1)) s8,
  .p (.mv g8) s6,
  .p (.ex g6 0) s9,
  .p (.ex g6 1) s10,
  .p (.al 5 [(.sc (.int .u8 0)), (.sc (.string ⟨#[]⟩)), (.sc (.int .u8 0)), (.sc (.int .u8 0)), (.sc (.slice none 0 0))]) s4,
  .n (.st 5 g4 g9 (G2 19 1 6)),
  .p (.mv g10) s5])
 (.seq (.reg [.p (.fa 4 g4) s11,
  .p (.ld false 1 g11) s12,
  .p (.call 45 [g12] (G2 19 2 2)) s13,
  .p (.fa 4 g4) s14,
  .n (.st 1 g14 g13 (G2 19 2 4))])
 (.seq (.reg [.p (.ld true 5 g4) s15,
  .p (.mv g5) s16,
  .n (.st 5 g2 g15 (G2 19 3 2)),
  .p (.mv g16) s3])
 .ret)))),
 [.cell g2 true 5, .tmp g3]⟩
theorem ffEnc19_ok : compF SBEnc 19 = ffEnc19 := by kernel_rfl
noncomputable def ffEnc44 : FF := .t2 ⟨21,
 (.seq (.reg [.p (.al 5 [(.sc (.int .u8 0)), (.sc (.string ⟨#[]⟩)), (.sc (.int .u8 0)), (.sc (.int .u8 0)), (.sc (.slice none 0 0))]) s2,
  .p (.mv (kc (.tc (.sc (.bool false))))) s3])
 (.seq (.reg [.p (.call 65 [] (G2 44 1 0)) s5,
  .p (.mv g5) s4])
 (.seq (.seq (.reg [.p (.mv g0) s6,
  .p (.bin .lss g6 (kc (.tc (.sc (.int .u8 1)))) (G2 44 2 1)) s7,
  .p (.mv g7) s8,
  .gp g8 false (.mv g0) s9,
  .gp g8 false (.cv .i64 g9 (G2 44 2 4)) s10,
  .gp g8 false (.mv g4) s11,
  .gp g8 false (.len g11 (G2 44 2 6)) s12,
  .gp g8 false (.bin .gtr g10 g12 (G2 44 2 7)) s13,
  .p (.pk g8 (kc (.tc (.sc (.bool true)))) g13) s14])
 (.cond g14 (.seq (.reg [.p (.bd [(.tc (.sc (.int .u8 0))), (.tc (.sc (.string ⟨#[]⟩))), (.tc (.sc (.int .u8 0))), (.tc (.sc (.int .u8 0))), (.tc (.sc (.slice none 0 0)))] [] (G2 44 3 0)) s15,
  .n (.st 5 g2 g15 (G2 44 3 1)),
  .p (.mv (kc (.tc (.sc (.bool false))))) s3])
 .ret)
 .skip))
 (.seq (.reg [.p (.mv g4) s16,
  .p (.mv g0) s17,
  .p (.bin .sub g17 (kc (.tc (.sc (.int .u8 1)))) (G2 44 4 2)) s18,
  .p (.ia 5 g16 g18 (G2 44 4 3)) s19,
  .p (.ld true 5 g19) s20,
  .n (.st 5 g2 g20 (G2 44 4 5)),
  .p (.mv (kc (.tc (.sc (.bool true))))) s3])
 .ret)))),
 [.cell g2 true 5, .tmp g3]⟩
theorem ffEnc44_ok : compF SBEnc 44 = ffEnc44 := by kernel_rfl
noncomputable def ffEnc65 : FF := .t3 ⟨158,
 (.seq (.reg [.p (.mv (kc (.tc (.sc (.slice none 0 0))))) (i0 s0)])
 (.seq (.reg [.p (.call 82 [(kc (.tc (.sc (.int .u8 1)))), (kc (.tc (.sc (.string ⟨#[110, 111, 112]⟩)))), (kc (.tc (.sc (.int .u8 1)))), (kc (.tc (.sc (.slice none 0 0))))] (G3 65 1 0)) (i0 s1),
  .p (.call 83 [] (G3 65 1 1)) (i0 s2),
  .p (.call 84 [] (G3 65 1 2)) (i0 s3),
  .p (.call 85 [] (G3 65 1 3)) (i0 s4),
  .p (.call 86 [] (G3 65 1 4)) (i0 s5),
  .p (.bs 1 4 [[(.tc (.sc (.slice none 0 0)))], [(.tc (.sc (.slice none 0 0)))], [(.tc (.sc (.slice none 0 0)))], [(.tc (.sc (.slice none 0 0)))]] [(.mk 0 1 (h0 g2)), (.mk 1 1 (h0 g3)), (.mk 2 1 (h0 g4)), (.mk 3 1 (h0 g5))] (G3 65 1 5)) (i0 s6),
  .p (.call 82 [(kc (.tc (.sc (.int .u8 2)))), (kc (.tc (.sc (.string ⟨#[97, 100, 100]⟩)))), (kc (.tc (.sc (.int .u8 1)))), (h0 g6)] (G3 65 1 6)) (i0 s7),
  .p (.call 83 [] (G3 65 1 7)) (i0 s8),
  .p (.call 84 [] (G3 65 1 8)) (i0 s9),
  .p (.call 85 [] (G3 65 1 9)) (i0 s10),
  .p (.call 86 [] (G3 65 1 10)) (i0 s11),
  .p (.bs 1 4 [[(.tc (.sc (.slice none 0 0)))], [(.tc (.sc (.slice none 0 0)))], [(.tc (.sc (.slice none 0 0)))], [(.tc (.sc (.slice none 0 0)))]] [(.mk 0 1 (h0 g8)), (.mk 1 1 (h0 g9)), (.mk 2 1 (h0 g10)), (.mk 3 1 (h0 g11))] (G3 65 1 11)) (i0 s12),
  .p (.call 82 [(kc (.tc (.sc (.int .u8 3)))), (kc (.tc (.sc (.string ⟨#[115, 117, 98]⟩)))), (kc (.tc (.sc (.int .u8 1)))), (h0 g12)] (G3 65 1 12)) (i0 s13),
  .p (.call 83 [] (G3 65 1 13)) (i0 s14),
  .p (.call 84 [] (G3 65 1 14)) (i0 s15),
  .p (.call 85 [] (G3 65 1 15)) (i0 s16),
  .p (.call 86 [] (G3 65 1 16)) (i0 s17),
  .p (.bs 1 4 [[(.tc (.sc (.slice none 0 0)))], [(.tc (.sc (.slice none 0 0)))], [(.tc (.sc (.slice none 0 0)))], [(.tc (.sc (.slice none 0 0)))]] [(.mk 0 1 (h0 g14)), (.mk 1 1 (h0 g15)), (.mk 2 1 (h0 g16)), (.mk 3 1 (h0 g17))] (G3 65 1 17)) (i0 s18),
  .p (.call 82 [(kc (.tc (.sc (.int .u8 4)))), (kc (.tc (.sc (.string ⟨#[97, 110, 100]⟩)))), (kc (.tc (.sc (.int .u8 1)))), (h0 g18)] (G3 65 1 18)) (i0 s19),
  .p (.call 83 [] (G3 65 1 19)) (i0 s20),
  .p (.call 84 [] (G3 65 1 20)) (i0 s21),
  .p (.call 85 [] (G3 65 1 21)) (i0 s22),
  .p (.call 86 [] (G3 65 1 22)) (i0 s23),
  .p (.bs 1 4 [[(.tc (.sc (.slice none 0 0)))], [(.tc (.sc (.slice none 0 0)))], [(.tc (.sc (.slice none 0 0)))], [(.tc (.sc (.slice none 0 0)))]] [(.mk 0 1 (h0 g20)), (.mk 1 1 (h0 g21)), (.mk 2 1 (h0 g22)), (.mk 3 1 (h0 g23))] (G3 65 1 23)) (i0 s24),
  .p (.call 82 [(kc (.tc (.sc (.int .u8 5)))), (kc (.tc (.sc (.string ⟨#[111, 114]⟩)))), (kc (.tc (.sc (.int .u8 1)))), (h0 g24)] (G3 65 1 24)) (i0 s25),
  .p (.call 83 [] (G3 65 1 25)) (i0 s26),
  .p (.call 84 [] (G3 65 1 26)) (i0 s27),
  .p (.call 85 [] (G3 65 1 27)) (i0 s28),
  .p (.call 86 [] (G3 65 1 28)) (i0 s29),
  .p (.bs 1 4 [[(.tc (.sc (.slice none 0 0)))], [(.tc (.sc (.slice none 0 0)))], [(.tc (.sc (.slice none 0 0)))], [(.tc (.sc (.slice none 0 0)))]] [(.mk 0 1 (h0 g26)), (.mk 1 1 (h0 g27)), (.mk 2 1 (h0 g28)), (.mk 3 1 (h0 g29))] (G3 65 1 29)) (i0 s30),
  .p (.call 82 [(kc (.tc (.sc (.int .u8 6)))), (kc (.tc (.sc (.string ⟨#[120, 111, 114]⟩)))), (kc (.tc (.sc (.int .u8 1)))), (h0 g30)] (G3 65 1 30)) (i0 s31),
  .p (.call 84 [] (G3 65 1 31)) (i0 s32),
  .p (.call 85 [] (G3 65 1 32)) (i0 s33),
  .p (.call 87 [(kc (.tc (.sc (.int .i64 14)))), (kc (.tc (.sc (.int .i64 0))))] (G3 65 1 33)) (i0 s34),
  .p (.bs 1 3 [[(.tc (.sc (.slice none 0 0)))], [(.tc (.sc (.slice none 0 0)))], [(.tc (.sc (.slice none 0 0)))]] [(.mk 0 1 (h0 g32)), (.mk 1 1 (h0 g33)), (.mk 2 1 (h0 g34))] (G3 65 1 34)) (i0 s35),
  .p (.call 82 [(kc (.tc (.sc (.int .u8 7)))), (kc (.tc (.sc (.string ⟨#[97, 100, 100, 105]⟩)))), (kc (.tc (.sc (.int .u8 1)))), (h0 g35)] (G3 65 1 35)) (i0 s36),
  .p (.call 83 [] (G3 65 1 36)) (i0 s37),
  .p (.call 84 [] (G3 65 1 37)) (i0 s38),
  .p (.call 87 [(kc (.tc (.sc (.int .i64 14)))), (kc (.tc (.sc (.int .i64 0))))] (G3 65 1 38)) (i0 s39),
  .p (.bs 1 3 [[(.tc (.sc (.slice none 0 0)))], [(.tc (.sc (.slice none 0 0)))], [(.tc (.sc (.slice none 0 0)))]] [(.mk 0 1 (h0 g37)), (.mk 1 1 (h0 g38)), (.mk 2 1 (h0 g39))] (G3 65 1 39)) (i0 s40),
  .p (.call 82 [(kc (.tc (.sc (.int .u8 8)))), (kc (.tc (.sc (.string ⟨#[109, 111, 118, 105]⟩)))), (kc (.tc (.sc (.int .u8 1)))), (h0 g40)] (G3 65 1 40)) (i0 s41),
  .p (.call 83 [] (G3 65 1 41)) (i0 s42),
  .p (.call 84 [] (G3 65 1 42)) (i0 s43),
  .p (.call 85 [] (G3 65 1 43)) (i0 s44),
  .p (.bs 1 3 [[(.tc (.sc (.slice none 0 0)))], [(.tc (.sc (.slice none 0 0)))], [(.tc (.sc (.slice none 0 0)))]] [(.mk 0 1 (h0 g42)), (.mk 1 1 (h0 g43)), (.mk 2 1 (h0 g44))] (G3 65 1 44)) (i0 s45),
  .p (.call 82 [(kc (.tc (.sc (.int .u8 9)))), (kc (.tc (.sc (.string ⟨#[109, 111, 118]⟩)))), (kc (.tc (.sc (.int .u8 1)))), (h0 g45)] (G3 65 1 45)) (i0 s46),
  .p (.call 88 [] (G3 65 1 46)) (i0 s47),
  .p (.call 85 [] (G3 65 1 47)) (i0 s48),
  .p (.call 86 [] (G3 65 1 48)) (i0 s49),
  .p (.bs 1 3 [[(.tc (.sc (.slice none 0 0)))], [(.tc (.sc (.slice none 0 0)))], [(.tc (.sc (.slice none 0 0)))]] [(.mk 0 1 (h0 g47)), (.mk 1 1 (h0 g48)), (.mk 2 1 (h0 g49))] (G3 65 1 49)) (i0 s50),
  .p (.call 82 [(kc (.tc (.sc (.int .u8 10)))), (kc (.tc (.sc (.string ⟨#[99, 109, 112, 101, 113]⟩)))), (kc (.tc (.sc (.int .u8 1)))), (h0 g50)] (G3 65 1 50)) (i0 s51),
  .p (.call 88 [] (G3 65 1 51)) (i0 s52),
  .p (.call 85 [] (G3 65 1 52)) (i0 s53),
  .p (.call 86 [] (G3 65 1 53)) (i0 s54),
  .p (.bs 1 3 [[(.tc (.sc (.slice none 0 0)))], [(.tc (.sc (.slice none 0 0)))], [(.tc (.sc (.slice none 0 0)))]] [(.mk 0 1 (h0 g52)), (.mk 1 1 (h0 g53)), (.mk 2 1 (h0 g54))] (G3 65 1 54)) (i0 s55),
  .p (.call 82 [(kc (.tc (.sc (.int .u8 11)))), (kc (.tc (.sc (.string ⟨#[99, 109, 112, 103, 116]⟩)))), (kc (.tc (.sc (.int .u8 1)))), (h0 g55)] (G3 65 1 55)) (i0 s56),
  .p (.call 88 [] (G3 65 1 56)) (i0 s57),
  .p (.call 85 [] (G3 65 1 57)) (i0 s58),
  .p (.call 86 [] (G3 65 1 58)) (i0 s59),
  .p (.bs 1 3 [[(.tc (.sc (.slice none 0 0)))], [(.tc (.sc (.slice none 0 0)))], [(.tc (.sc (.slice none 0 0)))]] [(.mk 0 1 (h0 g57)), (.mk 1 1 (h0 g58)), (.mk 2 1 (h0 g59))] (G3 65 1 59)) (i0 s60),
  .p (.call 82 [(kc (.tc (.sc (.int .u8 12)))), (kc (.tc (.sc (.string ⟨#[99, 109, 112, 103, 116, 117]⟩)))), (kc (.tc (.sc (.int .u8 1)))), (h0 g60)] (G3 65 1 60)) (i0 s61),
  .p (.call 88 [] (G3 65 1 61)) (i0 s62),
  .p (.call 85 [] (G3 65 1 62)) (i0 s63),
  .p (.call 87 [(kc (.tc (.sc (.int .i64 14)))), (kc (.tc (.sc (.int .i64 0))))] (G3 65 1 63)) (i1 s0),
  .p (.bs 1 3 [[(.tc (.sc (.slice none 0 0)))], [(.tc (.sc (.slice none 0 0)))], [(.tc (.sc (.slice none 0 0)))]] [(.mk 0 1 (h0 g62)), (.mk 1 1 (h0 g63)), (.mk 2 1 (h1 g0))] (G3 65 1 64)) (i1 s1),
  .p (.call 82 [(kc (.tc (.sc (.int .u8 13)))), (kc (.tc (.sc (.string ⟨#[99, 109, 112, 101, 113, 105]⟩)))), (kc (.tc (.sc (.int .u8 1)))), (h1 g1)] (G3 65 1 65)) (i1 s2),
  .p (.call 84 [] (G3 65 1 66)) (i1 s3),
  .p (.call 89 [(kc (.tc (.sc (.int .u8 2)))), (kc (.tc (.sc (.int .i64 2))))] (G3 65 1 67)) (i1 s4),
  .p (.call 85 [] (G3 65 1 68)) (i1 s5),
  .p (.call 86 [] (G3 65 1 69)) (i1 s6),
  .p (.bs 1 4 [[(.tc (.sc (.slice none 0 0)))], [(.tc (.sc (.slice none 0 0)))], [(.tc (.sc (.slice none 0 0)))], [(.tc (.sc (.slice none 0 0)))]] [(.mk 0 1 (h1 g3)), (.mk 1 1 (h1 g4)), (.mk 2 1 (h1 g5)), (.mk 3 1 (h1 g6))] (G3 65 1 70)) (i1 s7),
  .p (.call 82 [(kc (.tc (.sc (.int .u8 14)))), (kc (.tc (.sc (.string ⟨#[109, 117, 120]⟩)))), (kc (.tc (.sc (.int .u8 1)))), (h1 g7)] (G3 65 1 71)) (i1 s8),
  .p (.call 84 [] (G3 65 1 72)) (i1 s9),
  .p (.call 85 [] (G3 65 1 73)) (i1 s10),
  .p (.call 89 [(kc (.tc (.sc (.int .u8 9)))), (kc (.tc (.sc (.int .i64 5))))] (G3 65 1 74)) (i1 s11),
  .p (.bs 1 3 [[(.tc (.sc (.slice none 0 0)))], [(.tc (.sc (.slice none 0 0)))], [(.tc (.sc (.slice none 0 0)))]] [(.mk 0 1 (h1 g9)), (.mk 1 1 (h1 g10)), (.mk 2 1 (h1 g11))] (G3 65 1 75)) (i1 s12),
  .p (.call 82 [(kc (.tc (.sc (.int .u8 15)))), (kc (.tc (.sc (.string ⟨#[97, 115, 108]⟩)))), (kc (.tc (.sc (.int .u8 2)))), (h1 g12)] (G3 65 1 76)) (i1 s13),
  .p (.call 84 [] (G3 65 1 77)) (i1 s14),
  .p (.call 85 [] (G3 65 1 78)) (i1 s15),
  .p (.call 89 [(kc (.tc (.sc (.int .u8 9)))), (kc (.tc (.sc (.int .i64 5))))] (G3 65 1 79)) (i1 s16),
  .p (.bs 1 3 [[(.tc (.sc (.slice none 0 0)))], [(.tc (.sc (.slice none 0 0)))], [(.tc (.sc (.slice none 0 0)))]] [(.mk 0 1 (h1 g14)), (.mk 1 1 (h1 g15)), (.mk 2 1 (h1 g16))] (G3 65 1 80)) (i1 s17),
  .p (.call 82 [(kc (.tc (.sc (.int .u8 16)))), (kc (.tc (.sc (.string ⟨#[108, 115, 114]⟩)))), (kc (.tc (.sc (.int .u8 2)))), (h1 g17)] (G3 65 1 81)) (i1 s18),
  .p (.call 84 [] (G3 65 1 82)) (i1 s19),
  .p (.call 85 [] (G3 65 1 83)) (i1 s20),
  .p (.call 89 [(kc (.tc (.sc (.int .u8 9)))), (kc (.tc (.sc (.int .i64 5))))] (G3 65 1 84)) (i1 s21),
  .p (.bs 1 3 [[(.tc (.sc (.slice none 0 0)))], [(.tc (.sc (.slice none 0 0)))], [(.tc (.sc (.slice none 0 0)))]] [(.mk 0 1 (h1 g19)), (.mk 1 1 (h1 g20)), (.mk 2 1 (h1 g21))] (G3 65 1 85)) (i1 s22),
  .p (.call 82 [(kc (.tc (.sc (.int .u8 17)))), (kc (.tc (.sc (.string ⟨#[97, 115, 114]⟩)))), (kc (.tc (.sc (.int .u8 2)))), (h1 g22)] (G3 65 1 86)) (i1 s23),
  .p (.call 84 [] (G3 65 1 87)) (i1 s24),
  .p (.call 85 [] (G3 65 1 88)) (i1 s25),
  .p (.call 86 [] (G3 65 1 89)) (i1 s26),
  .p (.bs 1 3 [[(.tc (.sc (.slice none 0 0)))], [(.tc (.sc (.slice none 0 0)))], [(.tc (.sc (.slice none 0 0)))]] [(.mk 0 1 (h1 g24)), (.mk 1 1 (h1 g25)), (.mk 2 1 (h1 g26))] (G3 65 1 90)) (i1 s27),
  .p (.call 82 [(kc (.tc (.sc (.int .u8 18)))), (kc (.tc (.sc (.string ⟨#[109, 112, 121]⟩)))), (kc (.tc (.sc (.int .u8 2)))), (h1 g27)] (G3 65 1 91)) (i1 s28),
  .p (.call 84 [] (G3 65 1 92)) (i1 s29),
  .p (.call 85 [] (G3 65 1 93)) (i1 s30),
  .p (.call 86 [] (G3 65 1 94)) (i1 s31),
  .p (.bs 1 3 [[(.tc (.sc (.slice none 0 0)))], [(.tc (.sc (.slice none 0 0)))], [(.tc (.sc (.slice none 0 0)))]] [(.mk 0 1 (h1 g29)), (.mk 1 1 (h1 g30)), (.mk 2 1 (h1 g31))] (G3 65 1 95)) (i1 s32),
  .p (.call 82 [(kc (.tc (.sc (.int .u8 19)))), (kc (.tc (.sc (.string ⟨#[99, 109, 112, 121]⟩)))), (kc (.tc (.sc (.int .u8 2)))), (h1 g32)] (G3 65 1 96)) (i1 s33),
  .p (.call 84 [] (G3 65 1 97)) (i1 s34),
  .p (.call 85 [] (G3 65 1 98)) (i1 s35),
  .p (.call 86 [] (G3 65 1 99)) (i1 s36),
  .p (.bs 1 3 [[(.tc (.sc (.slice none 0 0)))], [(.tc (.sc (.slice none 0 0)))], [(.tc (.sc (.slice none 0 0)))]] [(.mk 0 1 (h1 g34)), (.mk 1 1 (h1 g35)), (.mk 2 1 (h1 g36))] (G3 65 1 100)) (i1 s37),
  .p (.call 82 [(kc (.tc (.sc (.int .u8 20)))), (kc (.tc (.sc (.string ⟨#[99, 109, 112, 121, 99]⟩)))), (kc (.tc (.sc (.int .u8 2)))), (h1 g37)] (G3 65 1 101)) (i1 s38),
  .p (.call 84 [] (G3 65 1 102)) (i1 s39),
  .p (.call 85 [] (G3 65 1 103)) (i1 s40),
  .p (.call 87 [(kc (.tc (.sc (.int .i64 12)))), (kc (.tc (.sc (.int .i64 2))))] (G3 65 1 104)) (i1 s41),
  .p (.bs 1 3 [[(.tc (.sc (.slice none 0 0)))], [(.tc (.sc (.slice none 0 0)))], [(.tc (.sc (.slice none 0 0)))]] [(.mk 0 1 (h1 g39)), (.mk 1 1 (h1 g40)), (.mk 2 1 (h1 g41))] (G3 65 1 105)) (i1 s42),
  .p (.call 82 [(kc (.tc (.sc (.int .u8 21)))), (kc (.tc (.sc (.string ⟨#[108, 100, 119]⟩)))), (kc (.tc (.sc (.int .u8 3)))), (h1 g42)] (G3 65 1 106)) (i1 s43),
  .p (.call 84 [] (G3 65 1 107)) (i1 s44),
  .p (.call 85 [] (G3 65 1 108)) (i1 s45),
  .p (.call 87 [(kc (.tc (.sc (.int .i64 12)))), (kc (.tc (.sc (.int .i64 1))))] (G3 65 1 109)) (i1 s46),
  .p (.bs 1 3 [[(.tc (.sc (.slice none 0 0)))], [(.tc (.sc (.slice none 0 0)))], [(.tc (.sc (.slice none 0 0)))]] [(.mk 0 1 (h1 g44)), (.mk 1 1 (h1 g45)), (.mk 2 1 (h1 g46))] (G3 65 1 110)) (i1 s47),
  .p (.call 82 [(kc (.tc (.sc (.int .u8 22)))), (kc (.tc (.sc (.string ⟨#[108, 100, 104]⟩)))), (kc (.tc (.sc (.int .u8 3)))), (h1 g47)] (G3 65 1 111)) (i1 s48),
  .p (.call 84 [] (G3 65 1 112)) (i1 s49),
  .p (.call 85 [] (G3 65 1 113)) (i1 s50),
  .p (.call 87 [(kc (.tc (.sc (.int .i64 12)))), (kc (.tc (.sc (.int .i64 0))))] (G3 65 1 114)) (i1 s51),
  .p (.bs 1 3 [[(.tc (.sc (.slice none 0 0)))], [(.tc (.sc (.slice none 0 0)))], [(.tc (.sc (.slice none 0 0)))]] [(.mk 0 1 (h1 g49)), (.mk 1 1 (h1 g50)), (.mk 2 1 (h1 g51))] (G3 65 1 115)) (i1 s52),
  .p (.call 82 [(kc (.tc (.sc (.int .u8 23)))), (kc (.tc (.sc (.string ⟨#[108, 100, 98]⟩)))), (kc (.tc (.sc (.int .u8 3)))), (h1 g52)] (G3 65 1 116)) (i1 s53),
  .p (.call 85 [] (G3 65 1 117)) (i1 s54),
  .p (.call 89 [(kc (.tc (.sc (.int .u8 8)))), (kc (.tc (.sc (.int .i64 1))))] (G3 65 1 118)) (i1 s55),
  .p (.call 86 [] (G3 65 1 119)) (i1 s56),
  .p (.call 87 [(kc (.tc (.sc (.int .i64 12)))), (kc (.tc (.sc (.int .i64 2))))] (G3 65 1 120)) (i1 s57),
  .p (.bs 1 4 [[(.tc (.sc (.slice none 0 0)))], [(.tc (.sc (.slice none 0 0)))], [(.tc (.sc (.slice none 0 0)))], [(.tc (.sc (.slice none 0 0)))]] [(.mk 0 1 (h1 g54)), (.mk 1 1 (h1 g55)), (.mk 2 1 (h1 g56)), (.mk 3 1 (h1 g57))] (G3 65 1 121)) (i1 s58),
  .p (.call 82 [(kc (.tc (.sc (.int .u8 24)))), (kc (.tc (.sc (.string ⟨#[115, 116, 119]⟩)))), (kc (.tc (.sc (.int .u8 4)))), (h1 g58)] (G3 65 1 122)) (i1 s59),
  .p (.call 85 [] (G3 65 1 123)) (i1 s60),
  .p (.call 89 [(kc (.tc (.sc (.int .u8 8)))), (kc (.tc (.sc (.int .i64 1))))] (G3 65 1 124)) (i1 s61),
  .p (.call 86 [] (G3 65 1 125)) (i1 s62),
  .p (.call 87 [(kc (.tc (.sc (.int .i64 12)))), (kc (.tc (.sc (.int .i64 1))))] (G3 65 1 126)) (i1 s63),
  .p (.bs 1 4 [[(.tc (.sc (.slice none 0 0)))], [(.tc (.sc (.slice none 0 0)))], [(.tc (.sc (.slice none 0 0)))], [(.tc (.sc (.slice none 0 0)))]] [(.mk 0 1 (h1 g60)), (.mk 1 1 (h1 g61)), (.mk 2 1 (h1 g62)), (.mk 3 1 (h1 g63))] (G3 65 1 127)) (i2 s0),
  .p (.call 82 [(kc (.tc (.sc (.int .u8 25)))), (kc (.tc (.sc (.string ⟨#[115, 116, 104]⟩)))), (kc (.tc (.sc (.int .u8 4)))), (h2 g0)] (G3 65 1 128)) (i2 s1),
  .p (.call 85 [] (G3 65 1 129)) (i2 s2),
  .p (.call 89 [(kc (.tc (.sc (.int .u8 8)))), (kc (.tc (.sc (.int .i64 1))))] (G3 65 1 130)) (i2 s3),
  .p (.call 86 [] (G3 65 1 131)) (i2 s4),
  .p (.call 87 [(kc (.tc (.sc (.int .i64 12)))), (kc (.tc (.sc (.int .i64 0))))] (G3 65 1 132)) (i2 s5),
  .p (.bs 1 4 [[(.tc (.sc (.slice none 0 0)))], [(.tc (.sc (.slice none 0 0)))], [(.tc (.sc (.slice none 0 0)))], [(.tc (.sc (.slice none 0 0)))]] [(.mk 0 1 (h2 g2)), (.mk 1 1 (h2 g3)), (.mk 2 1 (h2 g4)), (.mk 3 1 (h2 g5))] (G3 65 1 133)) (i2 s6),
  .p (.call 82 [(kc (.tc (.sc (.int .u8 26)))), (kc (.tc (.sc (.string ⟨#[115, 116, 98]⟩)))), (kc (.tc (.sc (.int .u8 4)))), (h2 g6)] (G3 65 1 134)) (i2 s7),
  .p (.call 83 [] (G3 65 1 135)) (i2 s8),
  .p (.call 90 [(kc (.tc (.sc (.int .i64 19))))] (G3 65 1 136)) (i2 s9),
  .p (.bs 1 2 [[(.tc (.sc (.slice none 0 0)))], [(.tc (.sc (.slice none 0 0)))]] [(.mk 0 1 (h2 g8)), (.mk 1 1 (h2 g9))] (G3 65 1 137)) (i2 s10),
  .p (.call 82 [(kc (.tc (.sc (.int .u8 27)))), (kc (.tc (.sc (.string ⟨#[106, 117, 109, 112]⟩)))), (kc (.tc (.sc (.int .u8 5)))), (h2 g10)] (G3 65 1 138)) (i2 s11),
  .p (.call 83 [] (G3 65 1 139)) (i2 s12),
  .p (.call 85 [] (G3 65 1 140)) (i2 s13),
  .p (.bs 1 2 [[(.tc (.sc (.slice none 0 0)))], [(.tc (.sc (.slice none 0 0)))]] [(.mk 0 1 (h2 g12)), (.mk 1 1 (h2 g13))] (G3 65 1 141)) (i2 s14),
  .p (.call 82 [(kc (.tc (.sc (.int .u8 28)))), (kc (.tc (.sc (.string ⟨#[106, 117, 109, 112, 114]⟩)))), (kc (.tc (.sc (.int .u8 5)))), (h2 g14)] (G3 65 1 142)) (i2 s15),
  .p (.call 90 [(kc (.tc (.sc (.int .i64 24))))] (G3 65 1 143)) (i2 s16),
  .p (.bs 1 1 [[(.tc (.sc (.slice none 0 0)))]] [(.mk 0 1 (h2 g16))] (G3 65 1 144)) (i2 s17),
  .p (.call 82 [(kc (.tc (.sc (.int .u8 29)))), (kc (.tc (.sc (.string ⟨#[99, 97, 108, 108]⟩)))), (kc (.tc (.sc (.int .u8 5)))), (h2 g17)] (G3 65 1 145)) (i2 s18),
  .p (.call 89 [(kc (.tc (.sc (.int .u8 7)))), (kc (.tc (.sc (.int .i64 1))))] (G3 65 1 146)) (i2 s19),
  .p (.call 90 [(kc (.tc (.sc (.int .i64 12))))] (G3 65 1 147)) (i2 s20),
  .p (.call 89 [(kc (.tc (.sc (.int .u8 11)))), (kc (.tc (.sc (.int .i64 11))))] (G3 65 1 148)) (i2 s21),
  .p (.bs 1 3 [[(.tc (.sc (.slice none 0 0)))], [(.tc (.sc (.slice none 0 0)))], [(.tc (.sc (.slice none 0 0)))]] [(.mk 0 1 (h2 g19)), (.mk 1 1 (h2 g20)), (.mk 2 1 (h2 g21))] (G3 65 1 149)) (i2 s22),
  .p (.call 82 [(kc (.tc (.sc (.int .u8 30)))), (kc (.tc (.sc (.string ⟨#[108, 111, 111, 112, 105]⟩)))), (kc (.tc (.sc (.int .u8 6)))), (h2 g22)] (G3 65 1 150)) (i2 s23),
  .p (.call 89 [(kc (.tc (.sc (.int .u8 7)))), (kc (.tc (.sc (.int .i64 1))))] (G3 65 1 151)) (i2 s24),
  .p (.call 90 [(kc (.tc (.sc (.int .i64 12))))] (G3 65 1 152)) (i2 s25),
  .p (.call 85 [] (G3 65 1 153)) (i2 s26),
  .p (.bs 1 3 [[(.tc (.sc (.slice none 0 0)))], [(.tc (.sc (.slice none 0 0)))], [(.tc (.sc (.slice none 0 0)))]] [(.mk 0 1 (h2 g24)), (.mk 1 1 (h2 g25)), (.mk 2 1 (h2 g26))] (G3 65 1 154)) (i2 s27),
  .p (.call 82 [(kc (.tc (.sc (.int .u8 31)))), (kc (.tc (.sc (.string ⟨#[108, 111, 111, 112, 114]⟩)))), (kc (.tc (.sc (.int .u8 6)))), (h2 g27)] (G3 65 1 155)) (i2 s28),
  .p (.bs 5 31 [[(.tc (.sc (.int .u8 0))), (.tc (.sc (.string ⟨#[]⟩))), (.tc (.sc (.int .u8 0))), (.tc (.sc (.int .u8 0))), (.tc (.sc (.slice none 0 0)))], [(.tc (.sc (.int .u8 0))), (.tc (.sc (.string ⟨#[]⟩))), (.tc (.sc (.int .u8 0))), (.tc (.sc (.int .u8 0))), (.tc (.sc (.slice none 0 0)))], [(.tc (.sc (.int .u8 0))), (.tc (.sc (.string ⟨#[]⟩))), (.tc (.sc (.int .u8 0))), (.tc (.sc (.int .u8 0))), (.tc (.sc (.slice none 0 0)))], [(.tc (.sc (.int .u8 0))), (.tc (.sc (.string ⟨#[]⟩))), (.tc (.sc (.int .u8 0))), (.tc (.sc (.int .u8 0))), (.tc (.sc (.slice none 0 0)))], [(.tc (.sc (.int .u8 0))), (.tc (.sc (.string ⟨#[]⟩))), (.tc (.sc (.int .u8 0))), (.tc (.sc (.int .u8 0))), (.tc (.sc (.slice none 0 0)))], [(.tc (.sc (.int .u8 0))), (.tc (.sc (.string ⟨#[]⟩))), (.tc (.sc (.int .u8 0))), (.tc (.sc (.int .u8 0))), (.tc (.sc (.slice none 0 0)))], [(.tc (.sc (.int .u8 0))), (.tc (.sc (.string ⟨#[]⟩))), (.tc (.sc (.int .u8 0))), (.tc (.sc (.int .u8 0))), (.tc (.sc (.slice none 0 0)))], [(.tc (.sc (.int .u8 0))), (.tc (.sc (.string ⟨#[]⟩))), (.tc (.sc (.int .u8 0))), (.tc (.sc (.int .u8 0))), (.tc (.sc (.slice none 0 0)))], [(.tc (.sc (.int .u8 0))), (.tc (.sc (.string ⟨#[]⟩))), (.tc (.sc (.int .u8 0))), (.tc (.sc (.int .u8 0))), (.tc (.sc (.slice none 0 0)))], [(.tc (.sc (.int .u8 0))), (.tc (.sc (.string ⟨#[]⟩))), (.tc (.sc (.int .u8 0))), (.tc (.sc (.int .u8 0))), (.tc (.sc (.slice none 0 0)))], [(.tc (.sc (.int .u8 0))), (.tc (.sc (.string ⟨#[]⟩))), (.tc (.sc (.int .u8 0))), (.tc (.sc (.int .u8 0))), (.tc (.sc (.slice none 0 0)))], [(.tc (.sc (.int .u8 0))), (.tc (.sc (.string ⟨#[]⟩))), (.tc (.sc (.int .u8 0))), (.tc (.sc (.int .u8 0))), (.tc (.sc (.slice none 0 0)))], [(.tc (.sc (.int .u8 0))), (.tc (.sc (.string ⟨#[]⟩))), (.tc (.sc (.int .u8 0))), (.tc (.sc (.int .u8 0))), (.tc (.sc (.slice none 0 0)))], [(.tc (.sc (.int .u8 0))), (.tc (.sc (.string ⟨#[]⟩))), (.tc (.sc (.int .u8 0))), (.tc (.sc (.int .u8 0))), (.tc (.sc (.slice none 0 0)))], [(.tc (.sc (.int .u8 0))), (.tc (.sc (.string ⟨#[]⟩))), (.tc (.sc (.int .u8 0))), (.tc (.sc (.int .u8 0))), (.tc (.sc (.slice none 0 0)))], [(.tc (.sc (.int .u8 0))), (.tc (.sc (.string ⟨#[]⟩))), (.tc (.sc (.int .u8 0))), (.tc (.sc (.int .u8 0))), (.tc (.sc (.slice none 0 0)))], [(.tc (.sc (.int .u8 0))), (.tc (.sc (.string ⟨#[]⟩))), (.tc (.sc (.int .u8 0))), (.tc (.sc (.int .u8 0))), (.tc (.sc (.slice none 0 0)))], [(.tc (.sc (.int .u8 0))), (.tc (.sc (.string ⟨#[]⟩))), (.tc (.sc (.int .u8 0))), (.tc (.sc (.int .u8 0))), (.tc (.sc (.slice none 0 0)))], [(.tc (.sc (.int .u8 0))), (.tc (.sc (.string ⟨#[]⟩))), (.tc (.sc (.int .u8 0))), (.tc (.sc (.int .u8 0))), (.tc (.sc (.slice none 0 0)))], [(.tc (.sc (.int .u8 0))), (.tc (.sc (.string ⟨#[]⟩))), (.tc (.sc (.int .u8 0))), (.tc (.sc (.int .u8 0))), (.tc (.sc (.slice none 0 0)))], [(.tc (.sc (.int .u8 0))), (.tc (.sc (.string ⟨#[]⟩))), (.tc (.sc (.int .u8 0))), (.tc (.sc (.int .u8 0))), (.tc (.sc (.slice none 0 0)))], [(.tc (.sc (.int .u8 0))), (.tc (.sc (.string ⟨#[]⟩))), (.tc (.sc (.int .u8 0))), (.tc (.sc (.int .u8 0))), (.tc (.sc (.slice none 0 0)))], [(.tc (.sc (.int .u8 0))), (.tc (.sc (.string ⟨#[]⟩))), (.tc (.sc (.int .u8 0))), (.tc (.sc (.int .u8 0))), (.tc (.sc (.slice none 0 0)))], [(.tc (.sc (.int .u8 0))), (.tc (.sc (.string ⟨#[]⟩))), (.tc (.sc (.int .u8 0))), (.tc (.sc (.int .u8 0))), (.tc (.sc (.slice none 0 0)))], [(.tc (.sc (.int .u8 0))), (.tc (.sc (.string ⟨#[]⟩))), (.tc (.sc (.int .u8 0))), (.tc (.sc (.int .u8 0))), (.tc (.sc (.slice none 0 0)))], [(.tc (.sc (.int .u8 0))), (.tc (.sc (.string ⟨#[]⟩))), (.tc (.sc (.int .u8 0))), (.tc (.sc (.int .u8 0))), (.tc (.sc (.slice none 0 0)))], [(.tc (.sc (.int .u8 0))), (.tc (.sc (.string ⟨#[]⟩))), (.tc (.sc (.int .u8 0))), (.tc (.sc (.int .u8 0))), (.tc (.sc (.slice none 0 0)))], [(.tc (.sc (.int .u8 0))), (.tc (.sc (.string ⟨#[]⟩))), (.tc (.sc (.int .u8 0))), (.tc (.sc (.int .u8 0))), (.tc (.sc (.slice none 0 0)))], [(.tc (.sc (.int .u8 0))), (.tc (.sc (.string ⟨#[]⟩))), (.tc (.sc (.int .u8 0))), (.tc (.sc (.int .u8 0))), (.tc (.sc (.slice none 0 0)))], [(.tc (.sc (.int .u8 0))), (.tc (.sc (.string ⟨#[]⟩))), (.tc (.sc (.int .u8 0))), (.tc (.sc (.int .u8 0))), (.tc (.sc (.slice none 0 0)))], [(.tc (.sc (.int .u8 0))), (.tc (.sc (.string ⟨#[]⟩))), (.tc (.sc (.int .u8 0))), (.tc (.sc (.int .u8 0))), (.tc (.sc (.slice none 0 0)))]] [(.mk 0 5 (h0 g1)), (.mk 1 5 (h0 g7)), (.mk 2 5 (h0 g13)), (.mk 3 5 (h0 g19)), (.mk 4 5 (h0 g25)), (.mk 5 5 (h0 g31)), (.mk 6 5 (h0 g36)), (.mk 7 5 (h0 g41)), (.mk 8 5 (h0 g46)), (.mk 9 5 (h0 g51)), (.mk 10 5 (h0 g56)), (.mk 11 5 (h0 g61)), (.mk 12 5 (h1 g2)), (.mk 13 5 (h1 g8)), (.mk 14 5 (h1 g13)), (.mk 15 5 (h1 g18)), (.mk 16 5 (h1 g23)), (.mk 17 5 (h1 g28)), (.mk 18 5 (h1 g33)), (.mk 19 5 (h1 g38)), (.mk 20 5 (h1 g43)), (.mk 21 5 (h1 g48)), (.mk 22 5 (h1 g53)), (.mk 23 5 (h1 g59)), (.mk 24 5 (h2 g1)), (.mk 25 5 (h2 g7)), (.mk 26 5 (h2 g11)), (.mk 27 5 (h2 g15)), (.mk 28 5 (h2 g18)), (.mk 29 5 (h2 g23)), (.mk 30 5 (h2 g28))] (G3 65 1 156)) (i2 s29),
  .p (.mv (h2 g29)) (i0 s0)])
 .ret)),
 [.tmp (h0 g0)]⟩
theorem ffEnc65_ok : compF SBEnc 65 = ffEnc65 := by kernel_rfl
noncomputable def ffEnc82 : FF := .t2 ⟨17,
 (.seq (.reg [.p (.al 5 [(.sc (.int .u8 0)), (.sc (.string ⟨#[]⟩)), (.sc (.int .u8 0)), (.sc (.int .u8 0)), (.sc (.slice none 0 0))]) s8])
 (.seq (.reg [.p (.mv g0) s9,
  .p (.mv g1) s10,
  .p (.mv g2) s11,
  .p (.mv g2) s12,
  .p (.call 71 [g12] (G2 82 1 4)) s13,
  .p (.mv g3) s14,
  .p (.call 96 [g14] (G2 82 1 6)) s15,
  .p (.bd [(.tc (.sc (.int .u8 0))), (.tc (.sc (.string ⟨#[]⟩))), (.tc (.sc (.int .u8 0))), (.tc (.sc (.int .u8 0))), (.tc (.sc (.slice none 0 0)))] [(.mk 0 1 g9), (.mk 1 1 g10), (.mk 2 1 g11), (.mk 3 1 g13), (.mk 4 1 g15)] (G2 82 1 7)) s16,
  .n (.st 5 g8 g16 (G2 82 1 8))])
 .ret)),
 [.cell g8 true 5]⟩
theorem ffEnc82_ok : compF SBEnc 82 = ffEnc82 := by kernel_rfl
noncomputable def ffEnc71 : FF := .t2 ⟨15,
 (.seq (.reg [.p (.mv (kc (.tc (.sc (.int .u8 0))))) s2])
 (.seq (.seq (.reg [.p (.mv g0) s3])
 (.block 0 (.seq (.reg [.p (.bin .eql g3 (kc (.tc (.sc (.int .u8 1)))) (G2 71 2 0)) s5,
  .p (.mv g5) s4])
 (.cond g4 (.seq (.reg [.p (.mv (kc (.tc (.sc (.int .u8 15))))) s2])
 .ret)
 (.seq (.seq (.reg [.p (.bin .eql g3 (kc (.tc (.sc (.int .u8 2)))) (G2 71 4 0)) s7,
  .p (.mv g7) s6])
 (.cond g6 .skip
 (.reg [.p (.bin .eql g3 (kc (.tc (.sc (.int .u8 5)))) (G2 71 5 0)) s8,
  .p (.mv g8) s6])))
 (.cond g6 (.seq (.reg [.p (.mv (kc (.tc (.sc (.int .u8 12))))) s2])
 .ret)
 (.seq (.reg [.p (.bin .eql g3 (kc (.tc (.sc (.int .u8 3)))) (G2 71 7 0)) s10,
  .p (.mv g10) s9])
 (.cond g9 (.seq (.reg [.p (.mv (kc (.tc (.sc (.int .u8 3))))) s2])
 .ret)
 (.seq (.reg [.p (.bin .eql g3 (kc (.tc (.sc (.int .u8 4)))) (G2 71 9 0)) s12,
  .p (.mv g12) s11])
 (.cond g11 (.seq (.reg [.p (.mv (kc (.tc (.sc (.int .u8 1))))) s2])
 .ret)
 (.seq (.reg [.p (.bin .eql g3 (kc (.tc (.sc (.int .u8 6)))) (G2 71 11 0)) s14,
  .p (.mv g14) s13])
 (.cond g13 (.seq (.reg [.p (.mv (kc (.tc (.sc (.int .u8 8))))) s2])
 .ret)
 .skip))))))))))))
 (.seq (.reg [.p (.mv (kc (.tc (.sc (.int .u8 0))))) s2])
 .ret))),
 [.tmp g2]⟩
theorem ffEnc71_ok : compF SBEnc 71 = ffEnc71 := by kernel_rfl
noncomputable def ffEnc96 : FF := .t2 ⟨36,
 (.seq (.reg [.p (.mv (kc (.tc (.sc (.slice none 0 0))))) s2])
 (.seq (.reg [.p (.mv (kc (.tc (.sc (.int .i64 0))))) s3])
 (.seq (.seq (.reg [.p (.mv g0) s9,
  .p (.len g9 (G2 96 2 1)) s10,
  .p (.mv (kc (.tc (.sc (.int .i64 0))))) s11])
 (.block 0 (.loop 4294967296 (.seq (.reg [.p (.bin .lss g11 g10 (G2 96 3 0)) s12])
 (.seq (.cond g12 .skip
 (.exit 0))
 (.seq (.block 1 (.seq (.reg [.p (.ia 1 g9 g11 (G2 96 4 0)) s13,
  .p (.ld false 1 g13) s14,
  .p (.mv g14) s5])
 (.seq (.reg [.p (.mv g3) s15,
  .p (.mv g5) s16,
  .p (.len g16 (G2 96 5 2)) s17,
  .p (.bin .add g15 g17 (G2 96 5 3)) s18,
  .p (.mv g18) s3])
 (.seq (.reg [.p (.mv g3) s19,
  .p (.bin .lss g19 (kc (.tc (.sc (.int .i64 0)))) (G2 96 6 1)) s20])
 (.cond g20 (.reg [.p (.gen (G2 96 7 0)) s21,
  .n (.gen (G2 96 7 1))])
 .skip)))))
 (.reg [.p (.bin .add g11 (kc (.tc (.sc (.int .i64 1)))) (G2 96 8 0)) s22,
  .p (.mv g22) s11])))))))
 (.seq (.reg [.p (.mv g3) s23,
  .p (.call 97 [(kc (.tc (.sc (.slice none 0 0)))), g23] (G2 96 9 1)) s24,
  .p (.mv g24) s6])
 (.seq (.seq (.reg [.p (.mv g0) s25,
  .p (.len g25 (G2 96 10 1)) s26,
  .p (.mv (kc (.tc (.sc (.int .i64 0))))) s27])
 (.block 2 (.loop 4294967296 (.seq (.reg [.p (.bin .lss g27 g26 (G2 96 11 0)) s28])
 (.seq (.cond g28 .skip
 (.exit 2))
 (.seq (.block 3 (.seq (.reg [.p (.ia 1 g25 g27 (G2 96 12 0)) s29,
  .p (.ld false 1 g29) s30,
  .p (.mv g30) s8])
 (.reg [.p (.mv g6) s31,
  .p (.mv g8) s32,
  .p (.ap 5 32 g31 g32) s33,
  .p (.mv g33) s6])))
 (.reg [.p (.bin .add g27 (kc (.tc (.sc (.int .i64 1)))) (G2 96 14 0)) s34,
  .p (.mv g34) s27])))))))
 (.seq (.reg [.p (.mv g6) s35,
  .p (.mv g35) s2])
 .ret)))))),
 [.tmp g2]⟩
theorem ffEnc96_ok : compF SBEnc 96 = ffEnc96 := by kernel_rfl
noncomputable def ffEnc97 : FF := .t2 ⟨27,
 (.seq (.reg [.p (.mv (kc (.tc (.sc (.slice none 0 0))))) s4])
 (.seq (.seq (.reg [.p (.mv g1) s5,
  .p (.bin .lss g5 (kc (.tc (.sc (.int .i64 0)))) (G2 97 1 1)) s6])
 (.cond g6 (.reg [.p (.gen (G2 97 2 0)) s7,
  .n (.gen (G2 97 2 1))])
 .skip))
 (.seq (.seq (.reg [.p (.mv g1) s8,
  .p (.mv g0) s9,
  .p (.gen (G2 97 3 2)) s10,
  .p (.mv g0) s11,
  .p (.len g11 (G2 97 3 4)) s12,
  .p (.bin .sub g10 g12 (G2 97 3 5)) s13,
  .p (.bin .sub g8 g13 (G2 97 3 6)) s14,
  .p (.mv g14) s1])
 (.seq (.reg [.p (.mv g1) s15,
  .p (.bin .gtr g15 (kc (.tc (.sc (.int .i64 0)))) (G2 97 4 1)) s16])
 (.cond g16 (.reg [.p (.mv g0) s17,
  .p (.mv g0) s18,
  .p (.gen (G2 97 5 2)) s19,
  .p (.sl 5 g17 none (some g19) none (G2 97 5 3)) s20,
  .p (.mv g1) s21,
  .p (.gen (G2 97 5 5)) s22,
  .p (.mv g0) s23,
  .p (.len g23 (G2 97 5 7)) s24,
  .p (.sl 5 g22 none (some g24) none (G2 97 5 8)) s25,
  .p (.mv g25) s0])
 .skip)))
 (.seq (.reg [.p (.mv g0) s26,
  .p (.mv g26) s4])
 .ret)))),
 [.tmp g4]⟩
theorem ffEnc97_ok : compF SBEnc 97 = ffEnc97 := by kernel_rfl
noncomputable def ffEnc83 : FF := .t2 ⟨4,
 (.seq (.reg [.p (.mv (kc (.tc (.sc (.slice none 0 0))))) s0])
 (.seq (.reg [.p (.call 89 [(kc (.tc (.sc (.int .u8 1)))), (kc (.tc (.sc (.int .i64 3))))] (G2 83 1 0)) s1,
  .p (.call 89 [(kc (.tc (.sc (.int .u8 2)))), (kc (.tc (.sc (.int .i64 2))))] (G2 83 1 1)) s2,
  .p (.ap 5 32 g1 g2) s3,
  .p (.mv g3) s0])
 .ret)),
 [.tmp g0]⟩
theorem ffEnc83_ok : compF SBEnc 83 = ffEnc83 := by kernel_rfl
noncomputable def ffEnc89 : FF := .t2 ⟨9,
 (.seq (.reg [.p (.mv (kc (.tc (.sc (.slice none 0 0))))) s4])
 (.seq (.reg [.p (.mv g0) s5,
  .p (.mv g1) s6,
  .p (.bd [(.tc (.sc (.int .u8 0))), (.tc (.sc (.int .i64 0))), (.tc (.sc (.int .i64 0))), (.tc (.sc (.bool false))), (.tc (.sc (.bool false)))] [(.mk 0 1 g5), (.mk 1 1 g6)] (G2 89 1 2)) s7,
  .p (.bs 5 1 [[(.tc (.sc (.int .u8 0))), (.tc (.sc (.int .i64 0))), (.tc (.sc (.int .i64 0))), (.tc (.sc (.bool false))), (.tc (.sc (.bool false)))]] [(.mk 0 5 g7)] (G2 89 1 3)) s8,
  .p (.mv g8) s4])
 .ret)),
 [.tmp g4]⟩
theorem ffEnc89_ok : compF SBEnc 89 = ffEnc89 := by kernel_rfl
noncomputable def ffEnc84 : FF := .t2 ⟨2,
 (.seq (.reg [.p (.mv (kc (.tc (.sc (.slice none 0 0))))) s0])
 (.seq (.reg [.p (.call 89 [(kc (.tc (.sc (.int .u8 3)))), (kc (.tc (.sc (.int .i64 5))))] (G2 84 1 0)) s1,
  .p (.mv g1) s0])
 .ret)),
 [.tmp g0]⟩
theorem ffEnc84_ok : compF SBEnc 84 = ffEnc84 := by kernel_rfl
noncomputable def ffEnc85 : FF := .t2 ⟨2,
 (.seq (.reg [.p (.mv (kc (.tc (.sc (.slice none 0 0))))) s0])
 (.seq (.reg [.p (.call 89 [(kc (.tc (.sc (.int .u8 5)))), (kc (.tc (.sc (.int .i64 5))))] (G2 85 1 0)) s1,
  .p (.mv g1) s0])
 .ret)),
 [.tmp g0]⟩
theorem ffEnc85_ok : compF SBEnc 85 = ffEnc85 := by kernel_rfl
noncomputable def ffEnc86 : FF := .t2 ⟨2,
 (.seq (.reg [.p (.mv (kc (.tc (.sc (.slice none 0 0))))) s0])
 (.seq (.reg [.p (.call 89 [(kc (.tc (.sc (.int .u8 6)))), (kc (.tc (.sc (.int .i64 5))))] (G2 86 1 0)) s1,
  .p (.mv g1) s0])
 .ret)),
 [.tmp g0]⟩
theorem ffEnc86_ok : compF SBEnc 86 = ffEnc86 := by kernel_rfl
noncomputable def ffEnc87 : FF := .t2 ⟨9,
 (.seq (.reg [.p (.mv (kc (.tc (.sc (.slice none 0 0))))) s4])
 (.seq (.reg [.p (.mv g0) s5,
  .p (.mv g1) s6,
  .p (.bd [(.tc (.sc (.int .u8 0))), (.tc (.sc (.int .i64 0))), (.tc (.sc (.int .i64 0))), (.tc (.sc (.bool false))), (.tc (.sc (.bool false)))] [(.mk 0 1 (kc (.tc (.sc (.int .u8 9))))), (.mk 1 1 g5), (.mk 2 1 g6), (.mk 3 1 (kc (.tc (.sc (.bool true))))), (.mk 4 1 (kc (.tc (.sc (.bool true)))))] (G2 87 1 2)) s7,
  .p (.bs 5 1 [[(.tc (.sc (.int .u8 0))), (.tc (.sc (.int .i64 0))), (.tc (.sc (.int .i64 0))), (.tc (.sc (.bool false))), (.tc (.sc (.bool false)))]] [(.mk 0 5 g7)] (G2 87 1 3)) s8,
  .p (.mv g8) s4])
 .ret)),
 [.tmp g4]⟩
theorem ffEnc87_ok : compF SBEnc 87 = ffEnc87 := by kernel_rfl
noncomputable def ffEnc88 : FF := .t2 ⟨2,
 (.seq (.reg [.p (.mv (kc (.tc (.sc (.slice none 0 0))))) s0])
 (.seq (.reg [.p (.call 89 [(kc (.tc (.sc (.int .u8 4)))), (kc (.tc (.sc (.int .i64 2))))] (G2 88 1 0)) s1,
  .p (.mv g1) s0])
 .ret)),
 [.tmp g0]⟩
theorem ffEnc88_ok : compF SBEnc 88 = ffEnc88 := by kernel_rfl
noncomputable def ffEnc90 : FF := .t2 ⟨6,
 (.seq (.reg [.p (.mv (kc (.tc (.sc (.slice none 0 0))))) s2])
 (.seq (.reg [.p (.mv g0) s3,
  .p (.bd [(.tc (.sc (.int .u8 0))), (.tc (.sc (.int .i64 0))), (.tc (.sc (.int .i64 0))), (.tc (.sc (.bool false))), (.tc (.sc (.bool false)))] [(.mk 0 1 (kc (.tc (.sc (.int .u8 10))))), (.mk 1 1 g3), (.mk 2 1 (kc (.tc (.sc (.int .i64 2))))), (.mk 3 1 (kc (.tc (.sc (.bool true))))), (.mk 4 1 (kc (.tc (.sc (.bool true)))))] (G2 90 1 1)) s4,
  .p (.bs 5 1 [[(.tc (.sc (.int .u8 0))), (.tc (.sc (.int .i64 0))), (.tc (.sc (.int .i64 0))), (.tc (.sc (.bool false))), (.tc (.sc (.bool false)))]] [(.mk 0 5 g4)] (G2 90 1 2)) s5,
  .p (.mv g5) s2])
 .ret)),
 [.tmp g2]⟩
theorem ffEnc90_ok : compF SBEnc 90 = ffEnc90 := by kernel_rfl
noncomputable def ffEnc45 : FF := .t2 ⟨8,
 (.seq (.reg [.p (.mv (kc (.tc (.sc (.slice none 0 0))))) s2])
 (.seq (.seq (.reg [.p (.mv g0) s3,
  .p (.bin .eql g3 (kc (.tc (.sc (.slice none 0 0)))) (G2 45 1 1)) s4])
 (.cond g4 (.seq (.reg [.p (.mv (kc (.tc (.sc (.slice none 0 0))))) s2])
 .ret)
 .skip))
 (.seq (.reg [.p (.bs 5 0 [] [] (G2 45 3 0)) s5,
  .p (.mv g0) s6,
  .p (.ap 5 32 g5 g6) s7,
  .p (.mv g7) s2])
 .ret))),
 [.tmp g2]⟩
theorem ffEnc45_ok : compF SBEnc 45 = ffEnc45 := by kernel_rfl
noncomputable def ffEnc20 : FF := .t2 ⟨15,
 (.seq (.reg [.p (.mv (kc (.tc (.sc (.bool false))))) s2])
 (.seq (.reg [.p (.mv g0) s6,
  .p (.call 31 [g6] (G2 20 1 1)) s7,
  .p (.mv g7) s5,
  .p (.ex g5 0) s8,
  .p (.ex g5 1) s9,
  .p (.al 5 [(.sc (.int .u8 0)), (.sc (.int .i64 0)), (.sc (.int .i64 0)), (.sc (.bool false)), (.sc (.bool false))]) s3,
  .n (.st 5 g3 g8 (G2 20 1 6)),
  .p (.mv g9) s4])
 (.seq (.reg [.p (.mv g4) s10,
  .p (.mv g10) s11,
  .gp g11 true (.fa 4 g3) s12,
  .gp g11 true (.ld false 1 g12) s13,
  .p (.pk g11 g13 (kc (.tc (.sc (.bool false))))) s14,
  .p (.mv g14) s2])
 .ret))),
 [.tmp g2]⟩
theorem ffEnc20_ok : compF SBEnc 20 = ffEnc20 := by kernel_rfl
noncomputable def ffEnc31 : FF := .t2 ⟨26,
 (.seq (.reg [.p (.al 5 [(.sc (.int .u8 0)), (.sc (.int .i64 0)), (.sc (.int .i64 0)), (.sc (.bool false)), (.sc (.bool false))]) s2,
  .p (.mv (kc (.tc (.sc (.bool false))))) s3])
 (.seq (.seq (.reg [.p (.bs 1 2 [[(.tc (.sc (.int .u8 0)))], [(.tc (.sc (.int .u8 0)))]] [(.mk 0 1 (kc (.tc (.sc (.int .u8 9))))), (.mk 1 1 (kc (.tc (.sc (.int .u8 10)))))] (G2 31 1 0)) s9,
  .p (.len g9 (G2 31 1 1)) s10,
  .p (.mv (kc (.tc (.sc (.int .i64 0))))) s11])
 (.block 0 (.loop 4294967296 (.seq (.reg [.p (.bin .lss g11 g10 (G2 31 2 0)) s12])
 (.seq (.cond g12 .skip
 (.exit 0))
 (.seq (.block 1 (.seq (.reg [.p (.ia 1 g9 g11 (G2 31 3 0)) s13,
  .p (.ld false 1 g13) s14,
  .p (.mv g14) s5])
 (.seq (.reg [.p (.mv g0) s16,
  .p (.mv g5) s17,
  .p (.call 21 [g16, g17] (G2 31 4 2)) s18,
  .p (.mv g18) s15,
  .p (.ex g15 0) s19,
  .p (.ex g15 1) s20,
  .p (.ex g15 2) s21,
  .p (.al 5 [(.sc (.int .u8 0)), (.sc (.int .i64 0)), (.sc (.int .i64 0)), (.sc (.bool false)), (.sc (.bool false))]) s6,
  .n (.st 5 g6 g19 (G2 31 4 8)),
  .p (.mv g20) s7,
  .p (.mv g21) s8])
 (.seq (.reg [.p (.mv g8) s22])
 (.cond g22 (.seq (.reg [.p (.ld true 5 g6) s23,
  .n (.st 5 g2 g23 (G2 31 6 1)),
  .p (.mv (kc (.tc (.sc (.bool true))))) s3])
 .ret)
 .skip)))))
 (.reg [.p (.bin .add g11 (kc (.tc (.sc (.int .i64 1)))) (G2 31 7 0)) s24,
  .p (.mv g24) s11])))))))
 (.seq (.reg [.p (.bd [(.tc (.sc (.int .u8 0))), (.tc (.sc (.int .i64 0))), (.tc (.sc (.int .i64 0))), (.tc (.sc (.bool false))), (.tc (.sc (.bool false)))] [] (G2 31 8 0)) s25,
  .n (.st 5 g2 g25 (G2 31 8 1)),
  .p (.mv (kc (.tc (.sc (.bool false))))) s3])
 .ret))),
 [.cell g2 true 5, .tmp g3]⟩
theorem ffEnc31_ok : compF SBEnc 31 = ffEnc31 := by kernel_rfl
noncomputable def ffEnc21 : FF := .t2 ⟨35,
 (.seq (.reg [.p (.al 5 [(.sc (.int .u8 0)), (.sc (.int .i64 0)), (.sc (.int .i64 0)), (.sc (.bool false)), (.sc (.bool false))]) s4,
  .p (.mv (kc (.tc (.sc (.int .i64 0))))) s5,
  .p (.mv (kc (.tc (.sc (.bool false))))) s6])
 (.seq (.reg [.p (.mv g0) s12,
  .p (.call 44 [g12] (G2 21 1 1)) s13,
  .p (.mv g13) s11,
  .p (.ex g11 0) s14,
  .p (.ex g11 1) s15,
  .p (.al 5 [(.sc (.int .u8 0)), (.sc (.string ⟨#[]⟩)), (.sc (.int .u8 0)), (.sc (.int .u8 0)), (.sc (.slice none 0 0))]) s7,
  .n (.st 5 g7 g14 (G2 21 1 6)),
  .p (.mv g15) s8])
 (.seq (.reg [.p (.mv (kc (.tc (.sc (.int .i64 24))))) s5])
 (.seq (.seq (.reg [.p (.fa 4 g7) s16,
  .p (.ld false 1 g16) s17,
  .p (.len g17 (G2 21 3 2)) s18,
  .p (.mv (kc (.tc (.sc (.int .i64 0))))) s19])
 (.block 0 (.loop 4294967296 (.seq (.reg [.p (.bin .lss g19 g18 (G2 21 4 0)) s20])
 (.seq (.cond g20 .skip
 (.exit 0))
 (.seq (.block 1 (.seq (.reg [.p (.ia 5 g17 g19 (G2 21 5 0)) s21,
  .p (.ld true 5 g21) s22,
  .p (.al 5 [(.sc (.int .u8 0)), (.sc (.int .i64 0)), (.sc (.int .i64 0)), (.sc (.bool false)), (.sc (.bool false))]) s10,
  .n (.st 5 g10 g22 (G2 21 5 3))])
 (.seq (.reg [.p (.mv g5) s23,
  .p (.fa 1 g10) s24,
  .p (.ld false 1 g24) s25,
  .p (.bin .sub g23 g25 (G2 21 6 3)) s26,
  .p (.mv g26) s5])
 (.seq (.reg [.p (.fa 0 g10) s27,
  .p (.ld false 1 g27) s28,
  .p (.mv g1) s29,
  .p (.bin .eql g28 g29 (G2 21 7 3)) s30])
 (.cond g30 (.seq (.reg [.p (.ld true 5 g10) s31,
  .p (.mv g5) s32,
  .n (.st 5 g4 g31 (G2 21 8 2)),
  .p (.mv g32) s5,
  .p (.mv (kc (.tc (.sc (.bool true))))) s6])
 .ret)
 .skip)))))
 (.reg [.p (.bin .add g19 (kc (.tc (.sc (.int .i64 1)))) (G2 21 9 0)) s33,
  .p (.mv g33) s19])))))))
 (.seq (.reg [.p (.bd [(.tc (.sc (.int .u8 0))), (.tc (.sc (.int .i64 0))), (.tc (.sc (.int .i64 0))), (.tc (.sc (.bool false))), (.tc (.sc (.bool false)))] [] (G2 21 10 0)) s34,
  .n (.st 5 g4 g34 (G2 21 10 1)),
  .p (.mv (kc (.tc (.sc (.int .i64 0))))) s5,
  .p (.mv (kc (.tc (.sc (.bool false))))) s6])
 .ret))))),
 [.cell g4 true 5, .tmp g5, .tmp g6]⟩
theorem ffEnc21_ok : compF SBEnc 21 = ffEnc21 := by kernel_rfl
noncomputable def ffEnc22 : FF := .t2 ⟨17,
 (.seq (.reg [.p (.mv (kc (.tc (.sc (.int .u32 0))))) s6])
 (.seq (.reg [.p (.mv g1) s8,
  .p (.mv g2) s9,
  .p (.bd [(.tc (.sc (.int .i64 0))), (.tc (.sc (.int .i64 0)))] [(.mk 0 1 g8), (.mk 1 1 g9)] (G2 22 1 2)) s10,
  .p (.al 2 [(.sc (.int .i64 0)), (.sc (.int .i64 0))]) s7,
  .n (.st 2 g7 g10 (G2 22 1 4))])
 (.seq (.seq (.reg [.p (.ld true 2 g7) s11,
  .p (.call 46 [g11] (G2 22 2 1)) s12,
  .p (.nt g12 (G2 22 2 2)) s13])
 (.cond g13 (.seq (.reg [.p (.mv (kc (.tc (.sc (.int .u32 0))))) s6])
 .ret)
 .skip))
 (.seq (.reg [.p (.ld true 2 g7) s14,
  .p (.mv g0) s15,
  .p (.call 43 [g14, g15] (G2 22 4 2)) s16,
  .p (.mv g16) s6])
 .ret)))),
 [.tmp g6]⟩
theorem ffEnc22_ok : compF SBEnc 22 = ffEnc22 := by kernel_rfl
noncomputable def ffEnc46 : FF := .t2 ⟨24,
 (.seq (.reg [.p (.bx 2 g0 (G2 46 0 0)) s1,
  .p (.mv (kc (.tc (.sc (.bool false))))) s2])
 (.seq (.reg [.p (.fa 0 g1) s3,
  .p (.ld false 1 g3) s4,
  .p (.bin .geq g4 (kc (.tc (.sc (.int .i64 0)))) (G2 46 1 2)) s5,
  .p (.mv g5) s6,
  .gp g6 true (.fa 1 g1) s7,
  .gp g6 true (.ld false 1 g7) s8,
  .gp g6 true (.bin .geq g8 (kc (.tc (.sc (.int .i64 0)))) (G2 46 1 6)) s9,
  .p (.pk g6 g9 (kc (.tc (.sc (.bool false))))) s10,
  .p (.mv g10) s11,
  .gp g11 true (.fa 0 g1) s12,
  .gp g11 true (.ld false 1 g12) s13,
  .gp g11 true (.bin .leq g13 (kc (.tc (.sc (.int .i64 32)))) (G2 46 1 11)) s14,
  .p (.pk g11 g14 (kc (.tc (.sc (.bool false))))) s15,
  .p (.mv g15) s16,
  .gp g16 true (.fa 1 g1) s17,
  .gp g16 true (.ld false 1 g17) s18,
  .gp g16 true (.fa 0 g1) s19,
  .gp g16 true (.ld false 1 g19) s20,
  .gp g16 true (.bin .sub (kc (.tc (.sc (.int .i64 32)))) g20 (G2 46 1 18)) s21,
  .gp g16 true (.bin .leq g18 g21 (G2 46 1 19)) s22,
  .p (.pk g16 g22 (kc (.tc (.sc (.bool false))))) s23,
  .p (.mv g23) s2])
 .ret)),
 [.tmp g2]⟩
theorem ffEnc46_ok : compF SBEnc 46 = ffEnc46 := by kernel_rfl
noncomputable def ffEnc23 : FF := .t2 ⟨21,
 (.seq (.reg [.p (.mv (kc (.tc (.sc (.int .u32 0))))) s8])
 (.seq (.reg [.p (.mv g1) s10,
  .p (.mv g2) s11,
  .p (.bd [(.tc (.sc (.int .i64 0))), (.tc (.sc (.int .i64 0)))] [(.mk 0 1 g10), (.mk 1 1 g11)] (G2 23 1 2)) s12,
  .p (.al 2 [(.sc (.int .i64 0)), (.sc (.int .i64 0))]) s9,
  .n (.st 2 g9 g12 (G2 23 1 4))])
 (.seq (.seq (.reg [.p (.ld true 2 g9) s13,
  .p (.call 46 [g13] (G2 23 2 1)) s14,
  .p (.nt g14 (G2 23 2 2)) s15])
 (.cond g15 (.seq (.reg [.p (.mv g0) s16,
  .p (.mv g16) s8])
 .ret)
 .skip))
 (.seq (.reg [.p (.ld true 2 g9) s17,
  .p (.mv g0) s18,
  .p (.mv g3) s19,
  .p (.call 47 [g17, g18, g19] (G2 23 4 3)) s20,
  .p (.mv g20) s8])
 .ret)))),
 [.tmp g8]⟩
theorem ffEnc23_ok : compF SBEnc 23 = ffEnc23 := by kernel_rfl
noncomputable def ffEnc47 : FF := .t2 ⟨26,
 (.seq (.reg [.p (.bx 2 g0 (G2 47 0 0)) s3,
  .p (.mv (kc (.tc (.sc (.int .u32 0))))) s6])
 (.seq (.seq (.reg [.p (.fa 1 g3) s7,
  .p (.ld false 1 g7) s8,
  .p (.bin .eql g8 (kc (.tc (.sc (.int .i64 0)))) (G2 47 1 2)) s9])
 (.cond g9 (.seq (.reg [.p (.mv g1) s10,
  .p (.mv g10) s6])
 .ret)
 .skip))
 (.seq (.regD [0, 0, 2, 0, 8, 30, 63, 0, 0, 262, 902, 0, 2048, 8070, 16383, 32767] [.no, (.rd (.ld true 2 g3) g12), .no, .no, (.rd (.ld false 1 g14) g15), .no, .no, .no, (.rd (.ld true 2 g3) g19), .no, .no, .no, (.rd (.ld false 1 g22) g23), .no, .no, .no] [.mk .none .yes (.mv g1) (.mv g1) (some s11),
  .mk .none .yes (.ld true 2 g3) (.ld true 2 g3) (some s12),
  .mk .none (.dyn 64 [g12]) (.call 64 [g12] (G2 47 3 2)) (.call 64 [g12] (G2 47 3 2)) (some s13),
  .mk .none .yes (.fa 0 g3) (.fa 0 g3) (some s14),
  .mk .none .yes (.ld false 1 g14) (.ld false 1 g14) (some s15),
  .mk .none .yes (.bin .shl g13 g15 (G2 47 3 5)) (.bin .shl g13 g15 (G2 47 3 5)) (some s16),
  .mk .none .yes (.bin .andNot g11 g16 (G2 47 3 6)) (.bin .andNot g11 g16 (G2 47 3 6)) (some s17),
  .mk .none .yes (.mv g2) (.mv g2) (some s18),
  .mk .none .yes (.ld true 2 g3) (.ld true 2 g3) (some s19),
  .mk .none (.dyn 64 [g19]) (.call 64 [g19] (G2 47 3 9)) (.call 64 [g19] (G2 47 3 9)) (some s20),
  .mk .none .yes (.bin .and g18 g20 (G2 47 3 10)) (.bin .and g18 g20 (G2 47 3 10)) (some s21),
  .mk .none .yes (.fa 0 g3) (.fa 0 g3) (some s22),
  .mk .none .yes (.ld false 1 g22) (.ld false 1 g22) (some s23),
  .mk .none .yes (.bin .shl g21 g23 (G2 47 3 13)) (.bin .shl g21 g23 (G2 47 3 13)) (some s24),
  .mk .none .yes (.bin .or g17 g24 (G2 47 3 14)) (.bin .or g17 g24 (G2 47 3 14)) (some s25),
  .mk .none .yes (.mv g25) (.mv g25) (some s6)])
 .ret))),
 [.tmp g6]⟩
theorem ffEnc47_ok : compF SBEnc 47 = ffEnc47 := by kernel_rfl
noncomputable def ffEnc24 : FF := .t2 ⟨59,
 (.seq (.reg [.p (.bx 11 g0 (G2 24 0 0)) s5,
  .p (.bx 5 g1 (G2 24 0 1)) s6,
  .p (.al 11 [(.sc (.int .u8 0)), (.sc (.int .u8 0)), (.sc (.int .u8 0)), (.sc (.int .u8 0)), (.sc (.int .u8 0)), (.sc (.int .u8 0)), (.sc (.int .u8 0)), (.sc (.bool false)), (.sc (.bool false)), (.sc (.int .u16 0)), (.sc (.int .i64 0))]) s10,
  .p (.mv (kc (.tc (.sc (.bool false))))) s11])
 (.seq (.regD [0, 0, 2, 7, 0, 16, 63, 127] [.no, .no, (.rd (.ld false 1 g14) g15), .no, .no, (.rd (.ld false 1 g17) g18), .no, .no] [.mk .none .yes (.mv g2) (.mv g2) (some s13),
  .mk .none .yes (.fa 1 g6) (.fa 1 g6) (some s14),
  .mk .none .yes (.ld false 1 g14) (.ld false 1 g14) (some s15),
  .mk .none (.dyn 48 [g13, g15]) (.call 48 [g13, g15] (G2 24 1 3)) (.call 48 [g13, g15] (G2 24 1 3)) (some s16),
  .mk .none .yes (.fa 2 g6) (.fa 2 g6) (some s17),
  .mk .none .yes (.ld false 1 g17) (.ld false 1 g17) (some s18),
  .mk .none .yes (.bin .shl g16 g18 (G2 24 1 6)) (.bin .shl g16 g18 (G2 24 1 6)) (some s19),
  .mk .none .yes (.mv g19) (.mv g19) (some s12)])
 (.seq (.block 0 (.seq (.reg [.p (.fa 8 g5) s21,
  .p (.ld false 1 g21) s22,
  .p (.mv g22) s23,
  .gp g23 true (.fa 4 g6) s24,
  .gp g23 true (.ld false 1 g24) s25,
  .gp g23 true (.nt g25 (G2 24 2 5)) s26,
  .gp g23 true (.mv g26) s27,
  .gp g27 false (.mv g2) s28,
  .gp g27 false (.bin .shr g28 (kc (.tc (.sc (.int .u64 8)))) (G2 24 2 8)) s29,
  .gp g27 false (.bin .neq g29 (kc (.tc (.sc (.int .u32 0)))) (G2 24 2 9)) s30,
  .gp g23 true (.pk g27 (kc (.tc (.sc (.bool true)))) g30) s31,
  .p (.pk g23 g31 (kc (.tc (.sc (.bool false))))) s32,
  .p (.mv g32) s20])
 (.cond g20 (.seq (.reg [.p (.ld true 11 g5) s33,
  .n (.st 11 g10 g33 (G2 24 3 1)),
  .p (.mv (kc (.tc (.sc (.bool false))))) s11])
 .ret)
 (.seq (.reg [.p (.fa 8 g5) s35,
  .p (.ld false 1 g35) s36,
  .p (.mv g36) s34])
 (.cond g34 (.reg [.p (.mv g3) s37,
  .p (.mv g2) s38,
  .p (.call 49 [g37, g38] (G2 24 5 2)) s39,
  .p (.mv g39) s12])
 (.seq (.reg [.p (.fa 3 g6) s41,
  .p (.ld false 1 g41) s42,
  .p (.nt g42 (G2 24 6 2)) s43,
  .p (.mv g43) s40])
 (.cond g40 (.reg [.p (.mv g2) s44,
  .p (.cv .i64 g44 (G2 24 7 1)) s45,
  .p (.fa 2 g6) s46,
  .p (.ld false 1 g46) s47,
  .p (.bin .shl g45 g47 (G2 24 7 4)) s48,
  .p (.mv g48) s12])
 .skip)))))))
 (.seq (.reg [.p (.mv g12) s49,
  .p (.fa 10 g5) s50,
  .n (.st 1 g50 g49 (G2 24 8 2))])
 (.seq (.seq (.reg [.p (.fa 0 g6) s51,
  .p (.ld false 1 g51) s52,
  .p (.bin .eql g52 (kc (.tc (.sc (.int .u8 10)))) (G2 24 9 2)) s53])
 (.cond g53 (.reg [.p (.mv g12) s54,
  .p (.mv g4) s55,
  .p (.call 50 [g54, g55] (G2 24 10 2)) s56,
  .p (.fa 10 g5) s57,
  .n (.st 1 g57 g56 (G2 24 10 4))])
 .skip))
 (.seq (.reg [.p (.ld true 11 g5) s58,
  .n (.st 11 g10 g58 (G2 24 11 1)),
  .p (.mv (kc (.tc (.sc (.bool true))))) s11])
 .ret)))))),
 [.cell g10 true 11, .tmp g11]⟩
theorem ffEnc24_ok : compF SBEnc 24 = ffEnc24 := by kernel_rfl
noncomputable def ffEnc48 : FF := .t2 ⟨27,
 (.seq (.reg [.p (.mv (kc (.tc (.sc (.int .i64 0))))) s4])
 (.seq (.seq (.reg [.p (.mv g1) s6,
  .p (.bin .lss g6 (kc (.tc (.sc (.int .i64 1)))) (G2 48 1 1)) s7,
  .p (.mv g7) s8,
  .gp g8 false (.mv g1) s9,
  .gp g8 false (.bin .gtr g9 (kc (.tc (.sc (.int .i64 32)))) (G2 48 1 4)) s10,
  .p (.pk g8 (kc (.tc (.sc (.bool true)))) g10) s11])
 (.cond g11 (.seq (.reg [.p (.mv (kc (.tc (.sc (.int .i64 0))))) s4])
 .ret)
 .skip))
 (.seq (.reg [.p (.mv g1) s12,
  .p (.bd [(.tc (.sc (.int .i64 0))), (.tc (.sc (.int .i64 0)))] [(.mk 0 1 (kc (.tc (.sc (.int .i64 0))))), (.mk 1 1 g12)] (G2 48 3 1)) s13,
  .p (.mv g0) s14,
  .p (.call 43 [g13, g14] (G2 48 3 3)) s15,
  .p (.cv .i64 g15 (G2 48 3 4)) s16,
  .p (.mv g16) s5])
 (.seq (.seq (.reg [.p (.mv g5) s17,
  .p (.mv g1) s18,
  .p (.bin .sub g18 (kc (.tc (.sc (.int .i64 1)))) (G2 48 4 2)) s19,
  .p (.bin .shr g17 g19 (G2 48 4 3)) s20,
  .p (.bin .eql g20 (kc (.tc (.sc (.int .i64 1)))) (G2 48 4 4)) s21])
 (.cond g21 (.seq (.reg [.p (.mv g5) s22,
  .p (.mv g1) s23,
  .p (.bin .shl (kc (.tc (.sc (.int .i64 1)))) g23 (G2 48 5 2)) s24,
  .p (.bin .sub g22 g24 (G2 48 5 3)) s25,
  .p (.mv g25) s4])
 .ret)
 .skip))
 (.seq (.reg [.p (.mv g5) s26,
  .p (.mv g26) s4])
 .ret))))),
 [.tmp g4]⟩
theorem ffEnc48_ok : compF SBEnc 48 = ffEnc48 := by kernel_rfl
noncomputable def ffEnc49 : FF := .t2 ⟨12,
 (.seq (.reg [.p (.mv (kc (.tc (.sc (.int .i64 0))))) s4])
 (.seq (.reg [.p (.mv g0) s6,
  .p (.call 23 [(kc (.tc (.sc (.int .u32 0)))), (kc (.tc (.sc (.int .i64 8)))), (kc (.tc (.sc (.int .i64 24)))), g6] (G2 49 1 1)) s7,
  .p (.mv g7) s5])
 (.seq (.reg [.p (.mv g5) s8,
  .p (.mv g1) s9,
  .p (.call 23 [g8, (kc (.tc (.sc (.int .i64 0)))), (kc (.tc (.sc (.int .i64 8)))), g9] (G2 49 2 2)) s10,
  .p (.call 48 [g10, (kc (.tc (.sc (.int .i64 32))))] (G2 49 2 3)) s11,
  .p (.mv g11) s4])
 .ret))),
 [.tmp g4]⟩
theorem ffEnc49_ok : compF SBEnc 49 = ffEnc49 := by kernel_rfl
noncomputable def ffEnc50 : FF := .t2 ⟨10,
 (.seq (.reg [.p (.mv (kc (.tc (.sc (.int .i64 0))))) s4])
 (.seq (.reg [.p (.mv g1) s5,
  .p (.mv g0) s6,
  .p (.cv .u32 g6 (G2 50 1 2)) s7,
  .p (.bin .add g5 g7 (G2 50 1 3)) s8,
  .p (.cv .i64 g8 (G2 50 1 4)) s9,
  .p (.mv g9) s4])
 .ret)),
 [.tmp g4]⟩
theorem ffEnc50_ok : compF SBEnc 50 = ffEnc50 := by kernel_rfl
noncomputable def ffEnc8 : FF := .t2 ⟨54,
 (.seq (.reg [.p (.bx 11 g0 (G2 8 0 0)) s1,
  .p (.mv (kc (.tc (.sc (.bool false))))) s2])
 (.seq (.reg [.p (.fa 0 g1) s9,
  .p (.ld false 1 g9) s10,
  .p (.call 19 [g10] (G2 8 1 2)) s11,
  .p (.mv g11) s8,
  .p (.ex g8 0) s12,
  .p (.ex g8 1) s13,
  .p (.al 5 [(.sc (.int .u8 0)), (.sc (.string ⟨#[]⟩)), (.sc (.int .u8 0)), (.sc (.int .u8 0)), (.sc (.slice none 0 0))]) s3,
  .n (.st 5 g3 g12 (G2 8 1 7)),
  .p (.mv g13) s4])
 (.seq (.reg [.p (.ld true 11 g1) s14,
  .p (.al 11 [(.sc (.int .u8 0)), (.sc (.int .u8 0)), (.sc (.int .u8 0)), (.sc (.int .u8 0)), (.sc (.int .u8 0)), (.sc (.int .u8 0)), (.sc (.int .u8 0)), (.sc (.bool false)), (.sc (.bool false)), (.sc (.int .u16 0)), (.sc (.int .i64 0))]) s5,
  .n (.st 11 g5 g14 (G2 8 2 2))])
 (.seq (.reg [.p (.fa 0 g5) s15,
  .n (.st 1 g15 (kc (.tc (.sc (.int .u8 0)))) (G2 8 3 1))])
 (.seq (.seq (.reg [.p (.fa 4 g3) s16,
  .p (.ld false 1 g16) s17,
  .p (.len g17 (G2 8 4 2)) s18,
  .p (.mv (kc (.tc (.sc (.int .i64 0))))) s19])
 (.block 0 (.loop 4294967296 (.seq (.reg [.p (.bin .lss g19 g18 (G2 8 5 0)) s20])
 (.seq (.cond g20 .skip
 (.exit 0))
 (.seq (.block 1 (.seq (.reg [.p (.ia 5 g17 g19 (G2 8 6 0)) s21,
  .p (.ld true 5 g21) s22,
  .p (.al 5 [(.sc (.int .u8 0)), (.sc (.int .i64 0)), (.sc (.int .i64 0)), (.sc (.bool false)), (.sc (.bool false))]) s7,
  .n (.st 5 g7 g22 (G2 8 6 3))])
 (.seq (.reg [.p (.ld true 11 g5) s23,
  .p (.ld true 5 g7) s24,
  .p (.call 28 [g23, g24] (G2 8 7 2)) s25,
  .n (.st 11 g5 g25 (G2 8 7 3))])
 (.reg [.p (.mv g4) s26,
  .p (.mv g26) s27,
  .gp g27 true (.ld true 11 g1) s28,
  .gp g27 true (.ld true 5 g7) s29,
  .gp g27 true (.call 29 [g28, g29] (G2 8 8 4)) s30,
  .p (.pk g27 g30 (kc (.tc (.sc (.bool false))))) s31,
  .p (.mv g31) s4]))))
 (.reg [.p (.bin .add g19 (kc (.tc (.sc (.int .i64 1)))) (G2 8 9 0)) s32,
  .p (.mv g32) s19])))))))
 (.seq (.reg [.p (.mv g4) s33,
  .p (.mv g33) s34,
  .gp g34 true (.ld true 11 g5) s35,
  .gp g34 true (.bd [(.tc (.sc (.int .u8 0))), (.tc (.sc (.int .u8 0))), (.tc (.sc (.int .u8 0))), (.tc (.sc (.int .u8 0))), (.tc (.sc (.int .u8 0))), (.tc (.sc (.int .u8 0))), (.tc (.sc (.int .u8 0))), (.tc (.sc (.bool false))), (.tc (.sc (.bool false))), (.tc (.sc (.int .u16 0))), (.tc (.sc (.int .i64 0)))] [] (G2 8 10 3)) s36,
  .gp g34 true (.eqs .eql [(.mk 0 .int), (.mk 1 .int), (.mk 2 .int), (.mk 3 .int), (.mk 4 .int), (.mk 5 .int), (.mk 6 .int), (.mk 7 .bool), (.mk 8 .bool), (.mk 9 .int), (.mk 10 .int)] g35 g36 (G2 8 10 4)) s37,
  .p (.pk g34 g37 (kc (.tc (.sc (.bool false))))) s38,
  .p (.mv g38) s39,
  .gp g39 true (.ld true 11 g1) s40,
  .gp g39 true (.call 30 [g40] (G2 8 10 8)) s41,
  .gp g39 true (.mv g41) s42,
  .gp g42 true (.fa 6 g1) s43,
  .gp g42 true (.ld false 1 g43) s44,
  .gp g42 true (.bin .eql g44 (kc (.tc (.sc (.int .u8 0)))) (G2 8 10 12)) s45,
  .gp g39 true (.pk g42 g45 (kc (.tc (.sc (.bool false))))) s46,
  .gp g39 true (.mv g46) s47,
  .gp g47 true (.fa 5 g1) s48,
  .gp g47 true (.ld false 1 g48) s49,
  .gp g47 true (.bin .neq g49 (kc (.tc (.sc (.int .u8 0)))) (G2 8 10 17)) s50,
  .gp g39 true (.pk g47 g50 (kc (.tc (.sc (.bool false))))) s51,
  .gp g39 true (.nt g51 (G2 8 10 19)) s52,
  .p (.pk g39 g52 (kc (.tc (.sc (.bool false))))) s53,
  .p (.mv g53) s2])
 .ret)))))),
 [.tmp g2]⟩
theorem ffEnc8_ok : compF SBEnc 8 = ffEnc8 := by kernel_rfl
noncomputable def ffEnc28 : FF := .t2 ⟨40,
 (.seq (.reg [.p (.bx 11 g0 (G2 28 0 0)) s2,
  .p (.bx 5 g1 (G2 28 0 1)) s3,
  .p (.al 11 [(.sc (.int .u8 0)), (.sc (.int .u8 0)), (.sc (.int .u8 0)), (.sc (.int .u8 0)), (.sc (.int .u8 0)), (.sc (.int .u8 0)), (.sc (.int .u8 0)), (.sc (.bool false)), (.sc (.bool false)), (.sc (.int .u16 0)), (.sc (.int .i64 0))]) s4])
 (.seq (.seq (.reg [.p (.fa 0 g3) s5,
  .p (.ld false 1 g5) s6])
 (.block 0 (.seq (.reg [.p (.bin .eql g6 (kc (.tc (.sc (.int .u8 1)))) (G2 28 2 0)) s8,
  .p (.mv g8) s7])
 (.cond g7 (.reg [.p (.fa 6 g2) s9,
  .n (.st 1 g9 (kc (.tc (.sc (.int .u8 0)))) (G2 28 3 1))])
 (.seq (.reg [.p (.bin .eql g6 (kc (.tc (.sc (.int .u8 2)))) (G2 28 4 0)) s11,
  .p (.mv g11) s10])
 (.cond g10 (.reg [.p (.fa 5 g2) s12,
  .n (.st 1 g12 (kc (.tc (.sc (.int .u8 0)))) (G2 28 5 1))])
 (.seq (.seq (.reg [.p (.bin .eql g6 (kc (.tc (.sc (.int .u8 3)))) (G2 28 6 0)) s14,
  .p (.mv g14) s13])
 (.cond g13 .skip
 (.reg [.p (.bin .eql g6 (kc (.tc (.sc (.int .u8 4)))) (G2 28 7 0)) s15,
  .p (.mv g15) s13])))
 (.cond g13 (.reg [.p (.fa 1 g2) s16,
  .n (.st 1 g16 (kc (.tc (.sc (.int .u8 0)))) (G2 28 8 1))])
 (.seq (.reg [.p (.bin .eql g6 (kc (.tc (.sc (.int .u8 5)))) (G2 28 9 0)) s18,
  .p (.mv g18) s17])
 (.cond g17 (.reg [.p (.fa 2 g2) s19,
  .n (.st 1 g19 (kc (.tc (.sc (.int .u8 0)))) (G2 28 10 1))])
 (.seq (.reg [.p (.bin .eql g6 (kc (.tc (.sc (.int .u8 6)))) (G2 28 11 0)) s21,
  .p (.mv g21) s20])
 (.cond g20 (.reg [.p (.fa 3 g2) s22,
  .n (.st 1 g22 (kc (.tc (.sc (.int .u8 0)))) (G2 28 12 1))])
 (.seq (.reg [.p (.bin .eql g6 (kc (.tc (.sc (.int .u8 7)))) (G2 28 13 0)) s24,
  .p (.mv g24) s23])
 (.cond g23 (.reg [.p (.fa 4 g2) s25,
  .n (.st 1 g25 (kc (.tc (.sc (.int .u8 0)))) (G2 28 14 1))])
 (.seq (.reg [.p (.bin .eql g6 (kc (.tc (.sc (.int .u8 8)))) (G2 28 15 0)) s27,
  .p (.mv g27) s26])
 (.cond g26 (.reg [.p (.fa 7 g2) s28,
  .n (.st 1 g28 (kc (.tc (.sc (.bool false)))) (G2 28 16 1))])
 (.seq (.seq (.reg [.p (.bin .eql g6 (kc (.tc (.sc (.int .u8 9)))) (G2 28 17 0)) s30,
  .p (.mv g30) s29])
 (.cond g29 .skip
 (.reg [.p (.bin .eql g6 (kc (.tc (.sc (.int .u8 10)))) (G2 28 18 0)) s31,
  .p (.mv g31) s29])))
 (.cond g29 (.reg [.p (.fa 10 g2) s32,
  .n (.st 1 g32 (kc (.tc (.sc (.int .i64 0)))) (G2 28 19 1))])
 (.seq (.reg [.p (.bin .eql g6 (kc (.tc (.sc (.int .u8 11)))) (G2 28 20 0)) s34,
  .p (.mv g34) s33])
 (.cond g33 (.reg [.p (.fa 9 g2) s35,
  .n (.st 1 g35 (kc (.tc (.sc (.int .u16 0)))) (G2 28 21 1))])
 .skip))))))))))))))))))))
 (.seq (.seq (.reg [.p (.fa 4 g3) s36,
  .p (.ld false 1 g36) s37])
 (.cond g37 (.reg [.p (.fa 8 g2) s38,
  .n (.st 1 g38 (kc (.tc (.sc (.bool false)))) (G2 28 23 1))])
 .skip))
 (.seq (.reg [.p (.ld true 11 g2) s39,
  .n (.st 11 g4 g39 (G2 28 24 1))])
 .ret)))),
 [.cell g4 true 11]⟩
theorem ffEnc28_ok : compF SBEnc 28 = ffEnc28 := by kernel_rfl
noncomputable def ffEnc29 : FF := .t3 ⟨84,
 (.seq (.reg [.p (.bx 11 (h0 g0) (G3 29 0 0)) (i0 s2),
  .p (.bx 5 (h0 g1) (G3 29 0 1)) (i0 s3),
  .p (.mv (kc (.tc (.sc (.bool false))))) (i0 s4)])
 (.seq (.seq (.reg [.p (.fa 0 (h0 g3)) (i0 s5),
  .p (.ld false 1 (h0 g5)) (i0 s6)])
 (.block 0 (.seq (.reg [.p (.bin .eql (h0 g6) (kc (.tc (.sc (.int .u8 1)))) (G3 29 2 0)) (i0 s8),
  .p (.mv (h0 g8)) (i0 s7)])
 (.cond (h0 g7) (.seq (.reg [.p (.fa 6 (h0 g2)) (i0 s9),
  .p (.ld false 1 (h0 g9)) (i0 s10),
  .p (.bin .leq (h0 g10) (kc (.tc (.sc (.int .u8 4)))) (G3 29 3 2)) (i0 s11),
  .p (.mv (h0 g11)) (i0 s4)])
 .ret)
 (.seq (.reg [.p (.bin .eql (h0 g6) (kc (.tc (.sc (.int .u8 2)))) (G3 29 4 0)) (i0 s13),
  .p (.mv (h0 g13)) (i0 s12)])
 (.cond (h0 g12) (.seq (.reg [.p (.fa 5 (h0 g2)) (i0 s14),
  .p (.ld false 1 (h0 g14)) (i0 s15),
  .p (.bin .lss (h0 g15) (kc (.tc (.sc (.int .u8 4)))) (G3 29 5 2)) (i0 s16),
  .p (.mv (h0 g16)) (i0 s4)])
 .ret)
 (.seq (.reg [.p (.bin .eql (h0 g6) (kc (.tc (.sc (.int .u8 3)))) (G3 29 6 0)) (i0 s18),
  .p (.mv (h0 g18)) (i0 s17)])
 (.cond (h0 g17) (.seq (.reg [.p (.fa 1 (h0 g2)) (i0 s19),
  .p (.ld false 1 (h0 g19)) (i0 s20),
  .p (.bin .lss (h0 g20) (kc (.tc (.sc (.int .u8 32)))) (G3 29 7 2)) (i0 s21),
  .p (.mv (h0 g21)) (i0 s4)])
 .ret)
 (.seq (.reg [.p (.bin .eql (h0 g6) (kc (.tc (.sc (.int .u8 4)))) (G3 29 8 0)) (i0 s23),
  .p (.mv (h0 g23)) (i0 s22)])
 (.cond (h0 g22) (.seq (.reg [.p (.fa 1 (h0 g2)) (i0 s24),
  .p (.ld false 1 (h0 g24)) (i0 s25),
  .p (.bin .lss (h0 g25) (kc (.tc (.sc (.int .u8 4)))) (G3 29 9 2)) (i0 s26),
  .p (.mv (h0 g26)) (i0 s4)])
 .ret)
 (.seq (.reg [.p (.bin .eql (h0 g6) (kc (.tc (.sc (.int .u8 5)))) (G3 29 10 0)) (i0 s28),
  .p (.mv (h0 g28)) (i0 s27)])
 (.cond (h0 g27) (.seq (.reg [.p (.fa 2 (h0 g2)) (i0 s29),
  .p (.ld false 1 (h0 g29)) (i0 s30),
  .p (.bin .lss (h0 g30) (kc (.tc (.sc (.int .u8 32)))) (G3 29 11 2)) (i0 s31),
  .p (.mv (h0 g31)) (i0 s4)])
 .ret)
 (.seq (.reg [.p (.bin .eql (h0 g6) (kc (.tc (.sc (.int .u8 6)))) (G3 29 12 0)) (i0 s33),
  .p (.mv (h0 g33)) (i0 s32)])
 (.cond (h0 g32) (.seq (.reg [.p (.fa 3 (h0 g2)) (i0 s34),
  .p (.ld false 1 (h0 g34)) (i0 s35),
  .p (.bin .lss (h0 g35) (kc (.tc (.sc (.int .u8 32)))) (G3 29 13 2)) (i0 s36),
  .p (.mv (h0 g36)) (i0 s4)])
 .ret)
 (.seq (.reg [.p (.bin .eql (h0 g6) (kc (.tc (.sc (.int .u8 7)))) (G3 29 14 0)) (i0 s38),
  .p (.mv (h0 g38)) (i0 s37)])
 (.cond (h0 g37) (.seq (.reg [.p (.fa 4 (h0 g2)) (i0 s39),
  .p (.ld false 1 (h0 g39)) (i0 s40),
  .p (.bin .lss (h0 g40) (kc (.tc (.sc (.int .u8 2)))) (G3 29 15 2)) (i0 s41),
  .p (.mv (h0 g41)) (i0 s4)])
 .ret)
 (.seq (.reg [.p (.bin .eql (h0 g6) (kc (.tc (.sc (.int .u8 9)))) (G3 29 16 0)) (i0 s43),
  .p (.mv (h0 g43)) (i0 s42)])
 (.cond (h0 g42) (.seq (.seq (.reg [.p (.fa 8 (h0 g2)) (i0 s44),
  .p (.ld false 1 (h0 g44)) (i0 s45)])
 (.cond (h0 g45) (.seq (.reg [.p (.fa 10 (h0 g2)) (i0 s46),
  .p (.ld false 1 (h0 g46)) (i0 s47),
  .p (.bin .geq (h0 g47) (kc (.tc (.sc (.int .i64 (-2147483648))))) (G3 29 18 2)) (i0 s48),
  .p (.mv (h0 g48)) (i0 s49),
  .gp (h0 g49) true (.fa 10 (h0 g2)) (i0 s50),
  .gp (h0 g49) true (.ld false 1 (h0 g50)) (i0 s51),
  .gp (h0 g49) true (.bin .leq (h0 g51) (kc (.tc (.sc (.int .i64 2147483647)))) (G3 29 18 6)) (i0 s52),
  .p (.pk (h0 g49) (h0 g52) (kc (.tc (.sc (.bool false))))) (i0 s53),
  .p (.mv (h0 g53)) (i0 s4)])
 .ret)
 .skip))
 (.seq (.reg [.p (.fa 10 (h0 g2)) (i0 s54),
  .p (.ld false 1 (h0 g54)) (i0 s55),
  .p (.fa 1 (h0 g3)) (i0 s56),
  .p (.ld false 1 (h0 g56)) (i0 s57),
  .p (.fa 2 (h0 g3)) (i0 s58),
  .p (.ld false 1 (h0 g58)) (i0 s59),
  .p (.fa 3 (h0 g3)) (i0 s60),
  .p (.ld false 1 (h0 g60)) (i0 s61),
  .p (.call 33 [(h0 g55), (h0 g57), (h0 g59), (h0 g61)] (G3 29 19 8)) (i0 s62),
  .p (.mv (h0 g62)) (i0 s4)])
 .ret))
 (.seq (.reg [.p (.bin .eql (h0 g6) (kc (.tc (.sc (.int .u8 10)))) (G3 29 20 0)) (i1 s0),
  .p (.mv (h1 g0)) (i0 s63)])
 (.cond (h0 g63) (.seq (.reg [.p (.fa 10 (h0 g2)) (i1 s1),
  .p (.ld false 1 (h1 g1)) (i1 s2),
  .p (.bin .geq (h1 g2) (kc (.tc (.sc (.int .i64 0)))) (G3 29 21 2)) (i1 s3),
  .p (.mv (h1 g3)) (i1 s4),
  .gp (h1 g4) true (.fa 10 (h0 g2)) (i1 s5),
  .gp (h1 g4) true (.ld false 1 (h1 g5)) (i1 s6),
  .gp (h1 g4) true (.bin .lss (h1 g6) (kc (.tc (.sc (.int .i64 4294967296)))) (G3 29 21 6)) (i1 s7),
  .p (.pk (h1 g4) (h1 g7) (kc (.tc (.sc (.bool false))))) (i1 s8),
  .p (.mv (h1 g8)) (i1 s9),
  .gp (h1 g9) true (.fa 10 (h0 g2)) (i1 s10),
  .gp (h1 g9) true (.ld false 1 (h1 g10)) (i1 s11),
  .gp (h1 g9) true (.bin .rem (h1 g11) (kc (.tc (.sc (.int .i64 4)))) (G3 29 21 11)) (i1 s12),
  .gp (h1 g9) true (.bin .eql (h1 g12) (kc (.tc (.sc (.int .i64 0)))) (G3 29 21 12)) (i1 s13),
  .p (.pk (h1 g9) (h1 g13) (kc (.tc (.sc (.bool false))))) (i1 s14),
  .p (.mv (h1 g14)) (i0 s4)])
 .ret)
 (.seq (.reg [.p (.bin .eql (h0 g6) (kc (.tc (.sc (.int .u8 11)))) (G3 29 22 0)) (i1 s16),
  .p (.mv (h1 g16)) (i1 s15)])
 (.cond (h1 g15) (.seq (.reg [.p (.fa 9 (h0 g2)) (i1 s17),
  .p (.ld false 1 (h1 g17)) (i1 s18),
  .p (.bin .lss (h1 g18) (kc (.tc (.sc (.int .u16 2048)))) (G3 29 23 2)) (i1 s19),
  .p (.mv (h1 g19)) (i0 s4)])
 .ret)
 .skip))))))))))))))))))))))
 (.seq (.reg [.p (.mv (kc (.tc (.sc (.bool true))))) (i0 s4)])
 .ret))),
 [.tmp (h0 g4)]⟩
theorem ffEnc29_ok : compF SBEnc 29 = ffEnc29 := by kernel_rfl
noncomputable def ffEnc33 : FF := .t2 ⟨48,
 (.seq (.reg [.p (.mv (kc (.tc (.sc (.bool false))))) s8])
 (.seq (.seq (.reg [.p (.mv g1) s9,
  .p (.bin .lss g9 (kc (.tc (.sc (.int .i64 1)))) (G2 33 1 1)) s10,
  .p (.mv g10) s11,
  .gp g11 false (.mv g1) s12,
  .gp g11 false (.bin .gtr g12 (kc (.tc (.sc (.int .i64 32)))) (G2 33 1 4)) s13,
  .p (.pk g11 (kc (.tc (.sc (.bool true)))) g13) s14,
  .p (.mv g14) s15,
  .gp g15 false (.mv g2) s16,
  .gp g15 false (.bin .lss g16 (kc (.tc (.sc (.int .i64 0)))) (G2 33 1 8)) s17,
  .p (.pk g15 (kc (.tc (.sc (.bool true)))) g17) s18,
  .p (.mv g18) s19,
  .gp g19 false (.mv g2) s20,
  .gp g19 false (.bin .gtr g20 (kc (.tc (.sc (.int .i64 8)))) (G2 33 1 12)) s21,
  .p (.pk g19 (kc (.tc (.sc (.bool true)))) g21) s22,
  .p (.mv g22) s23,
  .gp g23 false (.mv g0) s24,
  .gp g23 false (.mv g2) s25,
  .gp g23 false (.bin .shl (kc (.tc (.sc (.int .i64 1)))) g25 (G2 33 1 17)) s26,
  .gp g23 false (.bin .sub g26 (kc (.tc (.sc (.int .i64 1)))) (G2 33 1 18)) s27,
  .gp g23 false (.bin .and g24 g27 (G2 33 1 19)) s28,
  .gp g23 false (.bin .neq g28 (kc (.tc (.sc (.int .i64 0)))) (G2 33 1 20)) s29,
  .p (.pk g23 (kc (.tc (.sc (.bool true)))) g29) s30])
 (.cond g30 (.seq (.reg [.p (.mv (kc (.tc (.sc (.bool false))))) s8])
 .ret)
 .skip))
 (.seq (.reg [.p (.mv g0) s31,
  .p (.mv g2) s32,
  .p (.bin .shr g31 g32 (G2 33 3 2)) s33,
  .p (.mv g33) s0])
 (.seq (.seq (.reg [.p (.mv g3) s34])
 (.cond g34 (.reg [.p (.mv g0) s35,
  .p (.mv g1) s36,
  .p (.bin .sub g36 (kc (.tc (.sc (.int .i64 1)))) (G2 33 5 2)) s37,
  .p (.bin .shl (kc (.tc (.sc (.int .i64 1)))) g37 (G2 33 5 3)) s38,
  .p (.bin .add g35 g38 (G2 33 5 4)) s39,
  .p (.mv g39) s0])
 .skip))
 (.seq (.reg [.p (.mv g0) s40,
  .p (.bin .geq g40 (kc (.tc (.sc (.int .i64 0)))) (G2 33 6 1)) s41,
  .p (.mv g41) s42,
  .gp g42 true (.mv g0) s43,
  .gp g42 true (.mv g1) s44,
  .gp g42 true (.bin .shl (kc (.tc (.sc (.int .i64 1)))) g44 (G2 33 6 5)) s45,
  .gp g42 true (.bin .lss g43 g45 (G2 33 6 6)) s46,
  .p (.pk g42 g46 (kc (.tc (.sc (.bool false))))) s47,
  .p (.mv g47) s8])
 .ret))))),
 [.tmp g8]⟩
theorem ffEnc33_ok : compF SBEnc 33 = ffEnc33 := by kernel_rfl
noncomputable def ffEnc30 : FF := .t2 ⟨5,
 (.seq (.reg [.p (.bx 11 g0 (G2 30 0 0)) s1,
  .p (.mv (kc (.tc (.sc (.bool false))))) s2])
 (.seq (.reg [.p (.ld true 11 g1) s3,
  .p (.call 52 [g3, (kc (.tc (.sc (.int .u8 1))))] (G2 30 1 1)) s4,
  .p (.mv g4) s2])
 .ret)),
 [.tmp g2]⟩
theorem ffEnc30_ok : compF SBEnc 30 = ffEnc30 := by kernel_rfl
noncomputable def ffEnc52 : FF := .t2 ⟨17,
 (.seq (.reg [.p (.bx 11 g0 (G2 52 0 0)) s2,
  .p (.mv (kc (.tc (.sc (.bool false))))) s4])
 (.seq (.reg [.p (.fa 0 g2) s9,
  .p (.ld false 1 g9) s10,
  .p (.mv g1) s11,
  .p (.call 21 [g10, g11] (G2 52 1 3)) s12,
  .p (.mv g12) s8,
  .p (.ex g8 0) s13,
  .p (.ex g8 1) s14,
  .p (.ex g8 2) s15,
  .p (.al 5 [(.sc (.int .u8 0)), (.sc (.int .i64 0)), (.sc (.int .i64 0)), (.sc (.bool false)), (.sc (.bool false))]) s5,
  .n (.st 5 g5 g13 (G2 52 1 9)),
  .p (.mv g14) s6,
  .p (.mv g15) s7])
 (.seq (.reg [.p (.mv g7) s16,
  .p (.mv g16) s4])
 .ret))),
 [.tmp g4]⟩
theorem ffEnc52_ok : compF SBEnc 52 = ffEnc52 := by kernel_rfl
noncomputable def ffEnc7 : FF := .t3 ⟨117,
 (.seq (.reg [.p (.bx 11 (h0 g0) (G3 7 0 0)) (i0 s2),
  .p (.mv (kc (.tc (.sc (.int .u32 0))))) (i0 s4),
  .p (.mv (kc (.tc (.sc (.int .u32 0))))) (i0 s5),
  .p (.mv (kc (.tc (.sc (.bool false))))) (i0 s6)])
 (.seq (.seq (.reg [.p (.ld true 11 (h0 g2)) (i0 s16),
  .p (.call 8 [(h0 g16)] (G3 7 1 1)) (i0 s17),
  .p (.nt (h0 g17) (G3 7 1 2)) (i0 s18),
  .p (.mv (h0 g18)) (i0 s19),
  .gp (h0 g19) false (.fa 8 (h0 g2)) (i0 s20),
  .gp (h0 g19) false (.ld false 1 (h0 g20)) (i0 s21),
  .gp (h0 g19) false (.nt (h0 g21) (G3 7 1 6)) (i0 s22),
  .gp (h0 g19) false (.mv (h0 g22)) (i0 s23),
  .gp (h0 g23) true (.ld true 11 (h0 g2)) (i0 s24),
  .gp (h0 g23) true (.mv (h0 g1)) (i0 s25),
  .gp (h0 g23) true (.call 9 [(h0 g24), (h0 g25)] (G3 7 1 10)) (i0 s26),
  .gp (h0 g23) true (.nt (h0 g26) (G3 7 1 11)) (i0 s27),
  .gp (h0 g19) false (.pk (h0 g23) (h0 g27) (kc (.tc (.sc (.bool false))))) (i0 s28),
  .p (.pk (h0 g19) (kc (.tc (.sc (.bool true)))) (h0 g28)) (i0 s29)])
 (.cond (h0 g29) (.seq (.reg [.p (.mv (kc (.tc (.sc (.int .u32 0))))) (i0 s4),
  .p (.mv (kc (.tc (.sc (.int .u32 0))))) (i0 s5),
  .p (.mv (kc (.tc (.sc (.bool false))))) (i0 s6)])
 .ret)
 .skip))
 (.seq (.reg [.p (.fa 0 (h0 g2)) (i0 s31),
  .p (.ld false 1 (h0 g31)) (i0 s32),
  .p (.call 19 [(h0 g32)] (G3 7 3 2)) (i0 s33),
  .p (.mv (h0 g33)) (i0 s30),
  .p (.ex (h0 g30) 0) (i0 s34),
  .p (.ex (h0 g30) 1) (i0 s35),
  .p (.al 5 [(.sc (.int .u8 0)), (.sc (.string ⟨#[]⟩)), (.sc (.int .u8 0)), (.sc (.int .u8 0)), (.sc (.slice none 0 0))]) (i0 s7),
  .n (.st 5 (h0 g7) (h0 g34) (G3 7 3 7)),
  .p (.mv (h0 g35)) (i0 s8)])
 (.seq (.reg [.p (.mv (kc (.tc (.sc (.int .u32 0))))) (i0 s9)])
 (.seq (.seq (.reg [.p (.fa 4 (h0 g7)) (i0 s36),
  .p (.ld false 1 (h0 g36)) (i0 s37),
  .p (.len (h0 g37) (G3 7 5 2)) (i0 s38),
  .p (.mv (kc (.tc (.sc (.int .i64 0))))) (i0 s39)])
 (.block 0 (.loop 4294967296 (.seq (.reg [.p (.bin .lss (h0 g39) (h0 g38) (G3 7 6 0)) (i0 s40)])
 (.seq (.cond (h0 g40) .skip
 (.exit 0))
 (.seq (.block 1 (.seq (.reg [.p (.ia 5 (h0 g37) (h0 g39) (G3 7 7 0)) (i0 s41),
  .p (.ld true 5 (h0 g41)) (i0 s42),
  .p (.al 5 [(.sc (.int .u8 0)), (.sc (.int .i64 0)), (.sc (.int .i64 0)), (.sc (.bool false)), (.sc (.bool false))]) (i0 s11),
  .n (.st 5 (h0 g11) (h0 g42) (G3 7 7 3))])
 (.seq (.reg [.p (.fa 0 (h0 g2)) (i0 s44),
  .p (.ld false 1 (h0 g44)) (i0 s45),
  .p (.fa 0 (h0 g11)) (i0 s46),
  .p (.ld false 1 (h0 g46)) (i0 s47),
  .p (.call 21 [(h0 g45), (h0 g47)] (G3 7 8 4)) (i0 s48),
  .p (.mv (h0 g48)) (i0 s43),
  .p (.ex (h0 g43) 0) (i0 s49),
  .p (.ex (h0 g43) 1) (i0 s50),
  .p (.ex (h0 g43) 2) (i0 s51),
  .p (.al 5 [(.sc (.int .u8 0)), (.sc (.int .i64 0)), (.sc (.int .i64 0)), (.sc (.bool false)), (.sc (.bool false))]) (i0 s12),
  .n (.st 5 (h0 g12) (h0 g49) (G3 7 8 10)),
  .p (.mv (h0 g50)) (i0 s13),
  .p (.mv (h0 g51)) (i0 s14)])
 (.seq (.reg [.p (.mv (kc (.tc (.sc (.int .u32 0))))) (i0 s15)])
 (.seq (.seq (.reg [.p (.fa 0 (h0 g11)) (i0 s52),
  .p (.ld false 1 (h0 g52)) (i0 s53)])
 (.block 2 (.seq (.reg [.p (.bin .eql (h0 g53) (kc (.tc (.sc (.int .u8 1)))) (G3 7 11 0)) (i0 s55),
  .p (.mv (h0 g55)) (i0 s54)])
 (.cond (h0 g54) (.reg [.p (.fa 6 (h0 g2)) (i0 s56),
  .p (.ld false 1 (h0 g56)) (i0 s57),
  .p (.cv .u32 (h0 g57) (G3 7 12 2)) (i0 s58),
  .p (.mv (h0 g58)) (i0 s15)])
 (.seq (.reg [.p (.bin .eql (h0 g53) (kc (.tc (.sc (.int .u8 2)))) (G3 7 13 0)) (i0 s60),
  .p (.mv (h0 g60)) (i0 s59)])
 (.cond (h0 g59) (.reg [.p (.fa 5 (h0 g2)) (i0 s61),
  .p (.ld false 1 (h0 g61)) (i0 s62),
  .p (.cv .u32 (h0 g62) (G3 7 14 2)) (i0 s63),
  .p (.mv (h0 g63)) (i0 s15)])
 (.seq (.seq (.reg [.p (.bin .eql (h0 g53) (kc (.tc (.sc (.int .u8 3)))) (G3 7 15 0)) (i1 s1),
  .p (.mv (h1 g1)) (i1 s0)])
 (.cond (h1 g0) .skip
 (.reg [.p (.bin .eql (h0 g53) (kc (.tc (.sc (.int .u8 4)))) (G3 7 16 0)) (i1 s2),
  .p (.mv (h1 g2)) (i1 s0)])))
 (.cond (h1 g0) (.reg [.p (.fa 1 (h0 g2)) (i1 s3),
  .p (.ld false 1 (h1 g3)) (i1 s4),
  .p (.cv .u32 (h1 g4) (G3 7 17 2)) (i1 s5),
  .p (.mv (h1 g5)) (i0 s15)])
 (.seq (.reg [.p (.bin .eql (h0 g53) (kc (.tc (.sc (.int .u8 5)))) (G3 7 18 0)) (i1 s7),
  .p (.mv (h1 g7)) (i1 s6)])
 (.cond (h1 g6) (.reg [.p (.fa 2 (h0 g2)) (i1 s8),
  .p (.ld false 1 (h1 g8)) (i1 s9),
  .p (.cv .u32 (h1 g9) (G3 7 19 2)) (i1 s10),
  .p (.mv (h1 g10)) (i0 s15)])
 (.seq (.reg [.p (.bin .eql (h0 g53) (kc (.tc (.sc (.int .u8 6)))) (G3 7 20 0)) (i1 s12),
  .p (.mv (h1 g12)) (i1 s11)])
 (.cond (h1 g11) (.reg [.p (.fa 3 (h0 g2)) (i1 s13),
  .p (.ld false 1 (h1 g13)) (i1 s14),
  .p (.cv .u32 (h1 g14) (G3 7 21 2)) (i1 s15),
  .p (.mv (h1 g15)) (i0 s15)])
 (.seq (.reg [.p (.bin .eql (h0 g53) (kc (.tc (.sc (.int .u8 7)))) (G3 7 22 0)) (i1 s17),
  .p (.mv (h1 g17)) (i1 s16)])
 (.cond (h1 g16) (.reg [.p (.fa 4 (h0 g2)) (i1 s18),
  .p (.ld false 1 (h1 g18)) (i1 s19),
  .p (.cv .u32 (h1 g19) (G3 7 23 2)) (i1 s20),
  .p (.mv (h1 g20)) (i0 s15)])
 (.seq (.reg [.p (.bin .eql (h0 g53) (kc (.tc (.sc (.int .u8 8)))) (G3 7 24 0)) (i1 s22),
  .p (.mv (h1 g22)) (i1 s21)])
 (.cond (h1 g21) (.reg [.p (.fa 7 (h0 g2)) (i1 s23),
  .p (.ld false 1 (h1 g23)) (i1 s24),
  .p (.call 25 [(h1 g24)] (G3 7 25 2)) (i1 s25),
  .p (.mv (h1 g25)) (i0 s15)])
 (.seq (.reg [.p (.bin .eql (h0 g53) (kc (.tc (.sc (.int .u8 11)))) (G3 7 26 0)) (i1 s27),
  .p (.mv (h1 g27)) (i1 s26)])
 (.cond (h1 g26) (.reg [.p (.fa 9 (h0 g2)) (i1 s28),
  .p (.ld false 1 (h1 g28)) (i1 s29),
  .p (.cv .u32 (h1 g29) (G3 7 27 2)) (i1 s30),
  .p (.mv (h1 g30)) (i0 s15)])
 (.seq (.seq (.reg [.p (.bin .eql (h0 g53) (kc (.tc (.sc (.int .u8 9)))) (G3 7 28 0)) (i1 s32),
  .p (.mv (h1 g32)) (i1 s31)])
 (.cond (h1 g31) .skip
 (.reg [.p (.bin .eql (h0 g53) (kc (.tc (.sc (.int .u8 10)))) (G3 7 29 0)) (i1 s33),
  .p (.mv (h1 g33)) (i1 s31)])))
 (.cond (h1 g31) (.reg [.p (.ld true 11 (h0 g2)) (i1 s35),
  .p (.ld true 5 (h0 g11)) (i1 s36),
  .p (.mv (h0 g1)) (i1 s37),
  .p (.call 26 [(h1 g35), (h1 g36), (h1 g37)] (G3 7 30 3)) (i1 s38),
  .p (.mv (h1 g38)) (i1 s34),
  .p (.ex (h1 g34) 0) (i1 s39),
  .p (.ex (h1 g34) 1) (i1 s40),
  .p (.mv (h1 g39)) (i0 s15),
  .p (.mv (h1 g40)) (i0 s5)])
 .skip))))))))))))))))))))
 (.reg [.p (.mv (h0 g9)) (i1 s41),
  .p (.mv (h0 g13)) (i1 s42),
  .p (.fa 1 (h0 g11)) (i1 s43),
  .p (.ld false 1 (h1 g43)) (i1 s44),
  .p (.mv (h0 g15)) (i1 s45),
  .p (.call 23 [(h1 g41), (h1 g42), (h1 g44), (h1 g45)] (G3 7 31 5)) (i1 s46),
  .p (.mv (h1 g46)) (i0 s9)]))))))
 (.reg [.p (.bin .add (h0 g39) (kc (.tc (.sc (.int .i64 1)))) (G3 7 32 0)) (i1 s47),
  .p (.mv (h1 g47)) (i0 s39)])))))))
 (.seq (.reg [.p (.fa 0 (h0 g2)) (i1 s48),
  .p (.ld false 1 (h1 g48)) (i1 s49),
  .p (.mv (h0 g9)) (i1 s50),
  .p (.call 27 [(h1 g49), (h1 g50), (kc (.tc (.sc (.int .u8 0))))] (G3 7 33 3)) (i1 s51),
  .p (.mv (h0 g5)) (i1 s52),
  .p (.mv (h1 g51)) (i0 s4),
  .p (.mv (h1 g52)) (i0 s5),
  .p (.mv (kc (.tc (.sc (.bool true))))) (i0 s6)])
 .ret)))))),
 [.tmp (h0 g4), .tmp (h0 g5), .tmp (h0 g6)]⟩
theorem ffEnc7_ok : compF SBEnc 7 = ffEnc7 := by kernel_rfl
noncomputable def ffEnc9 : FF := .t2 ⟨33,
 (.seq (.reg [.p (.bx 11 g0 (G2 9 0 0)) s2,
  .p (.mv (kc (.tc (.sc (.bool false))))) s4])
 (.seq (.reg [.p (.fa 0 g2) s10,
  .p (.ld false 1 g10) s11,
  .p (.call 31 [g11] (G2 9 1 2)) s12,
  .p (.mv g12) s9,
  .p (.ex g9 0) s13,
  .p (.ex g9 1) s14,
  .p (.al 5 [(.sc (.int .u8 0)), (.sc (.int .i64 0)), (.sc (.int .i64 0)), (.sc (.bool false)), (.sc (.bool false))]) s5,
  .n (.st 5 g5 g13 (G2 9 1 7)),
  .p (.mv g14) s6])
 (.seq (.reg [.p (.ld true 11 g2) s16,
  .p (.mv g1) s17,
  .p (.call 32 [g16, g17] (G2 9 2 2)) s18,
  .p (.mv g18) s15,
  .p (.ex g15 0) s19,
  .p (.ex g15 1) s20,
  .p (.mv g19) s7,
  .p (.mv g20) s8])
 (.seq (.reg [.p (.mv g6) s21,
  .p (.nt g21 (G2 9 3 1)) s22,
  .p (.mv g22) s23,
  .gp g23 false (.mv g7) s24,
  .gp g23 false (.fa 1 g5) s25,
  .gp g23 false (.ld false 1 g25) s26,
  .gp g23 false (.fa 2 g5) s27,
  .gp g23 false (.ld false 1 g27) s28,
  .gp g23 false (.fa 3 g5) s29,
  .gp g23 false (.ld false 1 g29) s30,
  .gp g23 false (.call 33 [g24, g26, g28, g30] (G2 9 3 10)) s31,
  .p (.pk g23 (kc (.tc (.sc (.bool true)))) g31) s32,
  .p (.mv g32) s4])
 .ret)))),
 [.tmp g4]⟩
theorem ffEnc9_ok : compF SBEnc 9 = ffEnc9 := by kernel_rfl
noncomputable def ffEnc32 : FF := .t2 ⟨29,
 (.seq (.reg [.p (.bx 11 g0 (G2 32 0 0)) s2,
  .p (.mv (kc (.tc (.sc (.int .i64 0))))) s4,
  .p (.mv (kc (.tc (.sc (.bool false))))) s5])
 (.seq (.reg [.p (.fa 0 g2) s9,
  .p (.ld false 1 g9) s10,
  .p (.call 31 [g10] (G2 32 1 2)) s11,
  .p (.mv g11) s8,
  .p (.ex g8 0) s12,
  .p (.ex g8 1) s13,
  .p (.al 5 [(.sc (.int .u8 0)), (.sc (.int .i64 0)), (.sc (.int .i64 0)), (.sc (.bool false)), (.sc (.bool false))]) s6,
  .n (.st 5 g6 g12 (G2 32 1 7)),
  .p (.mv g13) s7])
 (.seq (.block 0 (.seq (.reg [.p (.mv g7) s15,
  .p (.nt g15 (G2 32 2 1)) s16,
  .p (.mv g16) s14])
 (.cond g14 (.seq (.reg [.p (.mv (kc (.tc (.sc (.int .i64 0))))) s4,
  .p (.mv (kc (.tc (.sc (.bool false))))) s5])
 .ret)
 (.seq (.reg [.p (.fa 0 g6) s18,
  .p (.ld false 1 g18) s19,
  .p (.bin .eql g19 (kc (.tc (.sc (.int .u8 10)))) (G2 32 4 2)) s20,
  .p (.mv g20) s17])
 (.cond g17 (.seq (.reg [.p (.fa 10 g2) s21,
  .p (.ld false 1 g21) s22,
  .p (.cv .u32 g22 (G2 32 5 2)) s23,
  .p (.mv g1) s24,
  .p (.bin .sub g23 g24 (G2 32 5 4)) s25,
  .p (.call 48 [g25, (kc (.tc (.sc (.int .i64 32))))] (G2 32 5 5)) s26,
  .p (.mv g26) s4,
  .p (.mv (kc (.tc (.sc (.bool true))))) s5])
 .ret)
 .skip)))))
 (.seq (.reg [.p (.fa 10 g2) s27,
  .p (.ld false 1 g27) s28,
  .p (.mv g28) s4,
  .p (.mv (kc (.tc (.sc (.bool true))))) s5])
 .ret)))),
 [.tmp g4, .tmp g5]⟩
theorem ffEnc32_ok : compF SBEnc 32 = ffEnc32 := by kernel_rfl
noncomputable def ffEnc25 : FF := .t2 ⟨4,
 (.seq (.reg [.p (.mv (kc (.tc (.sc (.int .u32 0))))) s2])
 (.seq (.seq (.reg [.p (.mv g0) s3])
 (.cond g3 (.seq (.reg [.p (.mv (kc (.tc (.sc (.int .u32 1))))) s2])
 .ret)
 .skip))
 (.seq (.reg [.p (.mv (kc (.tc (.sc (.int .u32 0))))) s2])
 .ret))),
 [.tmp g2]⟩
theorem ffEnc25_ok : compF SBEnc 25 = ffEnc25 := by kernel_rfl
noncomputable def ffEnc26 : FF := .t2 ⟨30,
 (.seq (.reg [.p (.bx 11 g0 (G2 26 0 0)) s3,
  .p (.bx 5 g1 (G2 26 0 1)) s4,
  .p (.mv (kc (.tc (.sc (.int .u32 0))))) s6,
  .p (.mv (kc (.tc (.sc (.int .u32 0))))) s7])
 (.seq (.reg [.p (.ld true 11 g3) s11,
  .p (.mv g2) s12,
  .p (.call 32 [g11, g12] (G2 26 1 2)) s13,
  .p (.mv g13) s10,
  .p (.ex g10 0) s14,
  .p (.ex g10 1) s15,
  .p (.mv g14) s8,
  .p (.mv g15) s9])
 (.seq (.seq (.reg [.p (.fa 8 g3) s16,
  .p (.ld false 1 g16) s17])
 (.cond g17 (.seq (.reg [.p (.mv g8) s19,
  .p (.call 51 [g19] (G2 26 3 1)) s20,
  .p (.mv g20) s18,
  .p (.ex g18 0) s21,
  .p (.ex g18 1) s22,
  .p (.mv g21) s7,
  .p (.mv g22) s6])
 (.seq (.reg [.p (.mv g6) s23,
  .p (.mv g7) s24,
  .p (.mv g23) s6,
  .p (.mv g24) s7])
 .ret))
 .skip))
 (.seq (.reg [.p (.mv g8) s25,
  .p (.fa 2 g4) s26,
  .p (.ld false 1 g26) s27,
  .p (.bin .shr g25 g27 (G2 26 5 3)) s28,
  .p (.cv .u32 g28 (G2 26 5 4)) s29,
  .p (.mv g29) s6,
  .p (.mv (kc (.tc (.sc (.int .u32 0))))) s7])
 .ret)))),
 [.tmp g6, .tmp g7]⟩
theorem ffEnc26_ok : compF SBEnc 26 = ffEnc26 := by kernel_rfl
noncomputable def ffEnc51 : FF := .t2 ⟨11,
 (.seq (.reg [.p (.mv (kc (.tc (.sc (.int .u32 0))))) s2,
  .p (.mv (kc (.tc (.sc (.int .u32 0))))) s3])
 (.seq (.reg [.p (.mv g0) s5,
  .p (.cv .u32 g5 (G2 51 1 1)) s6,
  .p (.mv g6) s4])
 (.seq (.reg [.p (.mv g4) s7,
  .p (.call 22 [g7, (kc (.tc (.sc (.int .i64 8)))), (kc (.tc (.sc (.int .i64 24))))] (G2 51 2 1)) s8,
  .p (.mv g4) s9,
  .p (.call 22 [g9, (kc (.tc (.sc (.int .i64 0)))), (kc (.tc (.sc (.int .i64 8))))] (G2 51 2 3)) s10,
  .p (.mv g8) s2,
  .p (.mv g10) s3])
 .ret))),
 [.tmp g2, .tmp g3]⟩
theorem ffEnc51_ok : compF SBEnc 51 = ffEnc51 := by kernel_rfl
noncomputable def ffEnc27 : FF := .t2 ⟨31,
 (.seq (.reg [.p (.mv (kc (.tc (.sc (.int .u32 0))))) s6])
 (.seq (.reg [.p (.ld true 2 (kc (.vptr gwEnc2 [glEnc2] 0 0))) s8,
  .p (.mv g0) s9,
  .p (.cv .u32 g9 (G2 27 1 2)) s10,
  .p (.call 47 [g8, (kc (.tc (.sc (.int .u32 0)))), g10] (G2 27 1 3)) s11,
  .p (.mv g11) s7])
 (.seq (.reg [.p (.gen (G2 27 2 0)) s12,
  .p (.ld true 2 g12) s13,
  .p (.mv g7) s14,
  .p (.mv g1) s15,
  .p (.call 47 [g13, g14, g15] (G2 27 2 4)) s16,
  .p (.mv g16) s7])
 (.seq (.regD [0, 1, 0, 0, 0, 16, 48, 120, 255, 511] [.no, (.rd (.ld true 2 g17) g18), .no, .no, .no, .no, (.rd (.ld false 1 g22) g23), .no, .no, .no] [.mk .none .yes (.gen (G2 27 3 0)) (.gen (G2 27 3 0)) (some s17),
  .mk .none .yes (.ld true 2 g17) (.ld true 2 g17) (some s18),
  .mk .none .yes (.mv g7) (.mv g7) (some s19),
  .mk .none .yes (.mv g1) (.mv g1) (some s20),
  .mk .none .yes (.gen (G2 27 3 4)) (.gen (G2 27 3 4)) (some s21),
  .mk .none .yes (.fa 1 g21) (.fa 1 g21) (some s22),
  .mk .none .yes (.ld false 1 g22) (.ld false 1 g22) (some s23),
  .mk .none .yes (.bin .shr g20 g23 (G2 27 3 7)) (.bin .shr g20 g23 (G2 27 3 7)) (some s24),
  .mk .none (.dyn 47 [g18, g19, g24]) (.call 47 [g18, g19, g24] (G2 27 3 8)) (.call 47 [g18, g19, g24] (G2 27 3 8)) (some s25),
  .mk .none .yes (.mv g25) (.mv g25) (some s7)])
 (.seq (.reg [.p (.ld true 2 (kc (.vptr gwEnc3 [glEnc3] 0 0))) s26,
  .p (.mv g7) s27,
  .p (.mv g2) s28,
  .p (.cv .u32 g28 (G2 27 4 3)) s29,
  .p (.call 47 [g26, g27, g29] (G2 27 4 4)) s30,
  .p (.mv g30) s6])
 .ret))))),
 [.tmp g6]⟩
theorem ffEnc27_ok : compF SBEnc 27 = ffEnc27 := by kernel_rfl
noncomputable def ffEnc10 : FF := .t2 ⟨35,
 (.seq (.reg [.p (.mv (kc (.tc (.sc (.bool false))))) s0])
 (.seq (.reg [.p (.bd [(.tc (.sc (.int .u8 0))), (.tc (.sc (.int .u8 0))), (.tc (.sc (.int .u8 0))), (.tc (.sc (.int .u8 0))), (.tc (.sc (.int .u8 0))), (.tc (.sc (.int .u8 0))), (.tc (.sc (.int .u8 0))), (.tc (.sc (.bool false))), (.tc (.sc (.bool false))), (.tc (.sc (.int .u16 0))), (.tc (.sc (.int .i64 0)))] [(.mk 0 1 (kc (.tc (.sc (.int .u8 2))))), (.mk 1 1 (kc (.tc (.sc (.int .u8 1))))), (.mk 2 1 (kc (.tc (.sc (.int .u8 2))))), (.mk 3 1 (kc (.tc (.sc (.int .u8 3)))))] (G2 10 1 0)) s8,
  .p (.call 7 [g8, (kc (.tc (.sc (.int .u32 0))))] (G2 10 1 1)) s9,
  .p (.mv g9) s7,
  .p (.ex g7 0) s10,
  .p (.ex g7 1) s11,
  .p (.ex g7 2) s12,
  .p (.mv g10) s1,
  .p (.mv g11) s2,
  .p (.mv g12) s3])
 (.seq (.reg [.p (.bd [(.tc (.sc (.int .u8 0))), (.tc (.sc (.int .u8 0))), (.tc (.sc (.int .u8 0))), (.tc (.sc (.int .u8 0))), (.tc (.sc (.int .u8 0))), (.tc (.sc (.int .u8 0))), (.tc (.sc (.int .u8 0))), (.tc (.sc (.bool false))), (.tc (.sc (.bool false))), (.tc (.sc (.int .u16 0))), (.tc (.sc (.int .i64 0)))] [(.mk 0 1 (kc (.tc (.sc (.int .u8 8))))), (.mk 1 1 (kc (.tc (.sc (.int .u8 1))))), (.mk 10 1 (kc (.tc (.sc (.int .i64 305419896))))), (.mk 8 1 (kc (.tc (.sc (.bool true)))))] (G2 10 2 0)) s14,
  .p (.call 7 [g14, (kc (.tc (.sc (.int .u32 0))))] (G2 10 2 1)) s15,
  .p (.mv g15) s13,
  .p (.ex g13 0) s16,
  .p (.ex g13 1) s17,
  .p (.ex g13 2) s18,
  .p (.mv g16) s4,
  .p (.mv g17) s5,
  .p (.mv g18) s6])
 (.seq (.reg [.p (.mv g1) s19,
  .p (.bin .eql g19 (kc (.tc (.sc (.int .u32 134284336)))) (G2 10 3 1)) s20,
  .p (.mv g20) s21,
  .gp g21 true (.mv g3) s22,
  .p (.pk g21 g22 (kc (.tc (.sc (.bool false))))) s23,
  .p (.mv g23) s24,
  .gp g24 true (.mv g4) s25,
  .gp g24 true (.bin .eql g25 (kc (.tc (.sc (.int .u32 536936568)))) (G2 10 3 7)) s26,
  .p (.pk g24 g26 (kc (.tc (.sc (.bool false))))) s27,
  .p (.mv g27) s28,
  .gp g28 true (.mv g5) s29,
  .gp g28 true (.bin .eql g29 (kc (.tc (.sc (.int .u32 1193046)))) (G2 10 3 11)) s30,
  .p (.pk g28 g30 (kc (.tc (.sc (.bool false))))) s31,
  .p (.mv g31) s32,
  .gp g32 true (.mv g6) s33,
  .p (.pk g32 g33 (kc (.tc (.sc (.bool false))))) s34,
  .p (.mv g34) s0])
 .ret)))),
 [.tmp g0]⟩
theorem ffEnc10_ok : compF SBEnc 10 = ffEnc10 := by kernel_rfl

noncomputable def codeEnc (f : FuncId) : FF := match f with
  | 3 => ffEnc3
  | 6 => ffEnc6
  | 18 => ffEnc18
  | 43 => ffEnc43
  | 64 => ffEnc64
  | 19 => ffEnc19
  | 44 => ffEnc44
  | 65 => ffEnc65
  | 82 => ffEnc82
  | 71 => ffEnc71
  | 96 => ffEnc96
  | 97 => ffEnc97
  | 83 => ffEnc83
  | 89 => ffEnc89
  | 84 => ffEnc84
  | 85 => ffEnc85
  | 86 => ffEnc86
  | 87 => ffEnc87
  | 88 => ffEnc88
  | 90 => ffEnc90
  | 45 => ffEnc45
  | 20 => ffEnc20
  | 31 => ffEnc31
  | 21 => ffEnc21
  | 22 => ffEnc22
  | 46 => ffEnc46
  | 23 => ffEnc23
  | 47 => ffEnc47
  | 24 => ffEnc24
  | 48 => ffEnc48
  | 49 => ffEnc49
  | 50 => ffEnc50
  | 8 => ffEnc8
  | 28 => ffEnc28
  | 29 => ffEnc29
  | 33 => ffEnc33
  | 30 => ffEnc30
  | 52 => ffEnc52
  | 7 => ffEnc7
  | 9 => ffEnc9
  | 32 => ffEnc32
  | 25 => ffEnc25
  | 26 => ffEnc26
  | 51 => ffEnc51
  | 27 => ffEnc27
  | 10 => ffEnc10
  | _ => .bad
theorem codeEnc_ok : ∀ f, codeEnc f = .bad ∨ codeEnc f = compF SBEnc f := by
  intro f
  unfold codeEnc
  split
  · exact .inr ffEnc3_ok.symm
  · exact .inr ffEnc6_ok.symm
  · exact .inr ffEnc18_ok.symm
  · exact .inr ffEnc43_ok.symm
  · exact .inr ffEnc64_ok.symm
  · exact .inr ffEnc19_ok.symm
  · exact .inr ffEnc44_ok.symm
  · exact .inr ffEnc65_ok.symm
  · exact .inr ffEnc82_ok.symm
  · exact .inr ffEnc71_ok.symm
  · exact .inr ffEnc96_ok.symm
  · exact .inr ffEnc97_ok.symm
  · exact .inr ffEnc83_ok.symm
  · exact .inr ffEnc89_ok.symm
  · exact .inr ffEnc84_ok.symm
  · exact .inr ffEnc85_ok.symm
  · exact .inr ffEnc86_ok.symm
  · exact .inr ffEnc87_ok.symm
  · exact .inr ffEnc88_ok.symm
  · exact .inr ffEnc90_ok.symm
  · exact .inr ffEnc45_ok.symm
  · exact .inr ffEnc20_ok.symm
  · exact .inr ffEnc31_ok.symm
  · exact .inr ffEnc21_ok.symm
  · exact .inr ffEnc22_ok.symm
  · exact .inr ffEnc46_ok.symm
  · exact .inr ffEnc23_ok.symm
  · exact .inr ffEnc47_ok.symm
  · exact .inr ffEnc24_ok.symm
  · exact .inr ffEnc48_ok.symm
  · exact .inr ffEnc49_ok.symm
  · exact .inr ffEnc50_ok.symm
  · exact .inr ffEnc8_ok.symm
  · exact .inr ffEnc28_ok.symm
  · exact .inr ffEnc29_ok.symm
  · exact .inr ffEnc33_ok.symm
  · exact .inr ffEnc30_ok.symm
  · exact .inr ffEnc52_ok.symm
  · exact .inr ffEnc7_ok.symm
  · exact .inr ffEnc9_ok.symm
  · exact .inr ffEnc32_ok.symm
  · exact .inr ffEnc25_ok.symm
  · exact .inr ffEnc26_ok.symm
  · exact .inr ffEnc51_ok.symm
  · exact .inr ffEnc27_ok.symm
  · exact .inr ffEnc10_ok.symm
  · exact .inl rfl
end Go.Proofs.YtamhmfdbnlkmkaaDoor
