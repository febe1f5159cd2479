/- Code made ready ahead, RulesKnown: each is what the program says. -/
import Derived.Test.YtdafainfcegfkaaKcRulesKnownA
set_option linter.unusedVariables false
set_option maxRecDepth 100000
namespace Go.Proofs.Ytdafainfcegfkaa
open Go

noncomputable def ff54 : FF := .mk 2 [(.l (.l (.l (.l (.l (.l .e)))))), (.r (.l (.l (.l (.l (.l .e))))))] (encF 6 fun _ => undefA)
 (.seq (.reg [.p (.bx 11 (.t (.l (.l (.l (.l (.l (.l .e))))))) ⟨6, opAt XP 54 0 0⟩) (.l (.r (.l (.l (.l (.l .e)))))),
  .p (.mv (.c (.tc (.sc (.bool false))))) (.l (.l (.r (.l (.l (.l .e))))))])
 (.seq (.seq (.reg [.p (.ld true 11 (.t (.l (.r (.l (.l (.l (.l .e)))))))) (.r (.r (.r (.r (.l (.l .e)))))),
  .p (.call 84 [(.t (.r (.r (.r (.r (.l (.l .e)))))))] ⟨6, opAt XP 54 1 1⟩) (.l (.l (.l (.l (.r (.l .e)))))),
  .p (.mv (.t (.l (.l (.l (.l (.r (.l .e)))))))) (.l (.r (.r (.r (.l (.l .e)))))),
  .p (.ex (.t (.l (.r (.r (.r (.l (.l .e))))))) 0) (.r (.l (.l (.l (.r (.l .e)))))),
  .p (.ex (.t (.l (.r (.r (.r (.l (.l .e))))))) 1) (.l (.r (.l (.l (.r (.l .e)))))),
  .p (.ex (.t (.l (.r (.r (.r (.l (.l .e))))))) 2) (.r (.r (.l (.l (.r (.l .e)))))),
  .p (.al 1 [(.sc (.int .u8 0))]) (.r (.l (.r (.l (.l (.l .e)))))),
  .n (.st 1 (.t (.r (.l (.r (.l (.l (.l .e))))))) (.t (.r (.l (.l (.l (.r (.l .e))))))) ⟨6, opAt XP 54 1 7⟩),
  .p (.mv (.t (.l (.r (.l (.l (.r (.l .e)))))))) (.l (.r (.r (.l (.l (.l .e)))))),
  .p (.mv (.t (.r (.r (.l (.l (.r (.l .e)))))))) (.r (.r (.r (.l (.l (.l .e))))))])
 (.seq (.reg [.p (.mv (.t (.l (.r (.r (.l (.l (.l .e)))))))) (.l (.l (.r (.l (.r (.l .e))))))])
 (.cond (.t (.l (.l (.r (.l (.r (.l .e))))))) (.seq (.reg [.p (.mv (.t (.r (.l (.l (.l (.l (.l .e)))))))) (.r (.l (.r (.l (.r (.l .e)))))),
  .p (.mf (.func 85) [] [(.t (.r (.l (.r (.l (.l (.l .e)))))))]) (.l (.r (.r (.l (.r (.l .e)))))),
  .p (.call 49 [(.t (.r (.l (.r (.l (.r (.l .e))))))), (.t (.l (.r (.r (.l (.r (.l .e)))))))] ⟨6, opAt XP 54 3 2⟩) (.r (.r (.r (.l (.r (.l .e)))))),
  .p (.mv (.t (.r (.r (.r (.l (.r (.l .e)))))))) (.l (.l (.r (.l (.l (.l .e))))))])
 .ret)
 .skip)))
 (.seq (.seq (.reg [.p (.fa 7 (.t (.l (.r (.l (.l (.l (.l .e)))))))) (.l (.l (.l (.r (.r (.l .e)))))),
  .p (.ld false 1 (.t (.l (.l (.l (.r (.r (.l .e)))))))) (.r (.l (.l (.r (.r (.l .e)))))),
  .p (.nt (.t (.r (.l (.l (.r (.r (.l .e))))))) ⟨6, opAt XP 54 4 2⟩) (.l (.r (.l (.r (.r (.l .e))))))])
 (.cond (.t (.l (.r (.l (.r (.r (.l .e))))))) (.seq (.reg [.p (.mv (.c (.tc (.sc (.bool true))))) (.l (.l (.r (.l (.l (.l .e))))))])
 .ret)
 .skip))
 (.seq (.reg [.p (.mv (.c (.tc (.sc (.int .i64 0))))) (.l (.l (.l (.r (.l (.l .e)))))),
  .p (.mv (.c (.tc (.sc (.bool true))))) (.r (.l (.l (.r (.l (.l .e))))))])
 (.seq (.seq (.reg [.p (.mv (.t (.r (.l (.l (.l (.l (.l .e)))))))) (.r (.r (.l (.r (.r (.l .e)))))),
  .p (.len (.t (.r (.r (.l (.r (.r (.l .e))))))) ⟨6, opAt XP 54 7 1⟩) (.l (.l (.r (.r (.r (.l .e)))))),
  .p (.mv (.c (.tc (.sc (.int .i64 0))))) (.r (.l (.r (.r (.r (.l .e))))))])
 (.block 0 (.loop 4294967296 (.seq (.reg [.p (.bin .lss (.t (.r (.l (.r (.r (.r (.l .e))))))) (.t (.l (.l (.r (.r (.r (.l .e))))))) ⟨6, opAt XP 54 8 0⟩) (.l (.r (.r (.r (.r (.l .e))))))])
 (.seq (.cond (.t (.l (.r (.r (.r (.r (.l .e))))))) .skip
 (.exit 0))
 (.seq (.block 1 (.seq (.reg [.p (.ia 11 (.t (.r (.r (.l (.r (.r (.l .e))))))) (.t (.r (.l (.r (.r (.r (.l .e))))))) ⟨6, opAt XP 54 9 0⟩) (.r (.r (.r (.r (.r (.l .e)))))),
  .p (.ld true 11 (.t (.r (.r (.r (.r (.r (.l .e)))))))) (.l (.l (.l (.l (.l (.r .e)))))),
  .p (.al 11 [(.sc (.int .u8 0)), (.sc (.int .u8 0)), (.sc (.int .u8 0)), (.sc (.int .u8 0)), (.sc (.int .u8 0)), (.sc (.int .u8 0)), (.sc (.int .u8 0)), (.sc (.bool false)), (.sc (.bool false)), (.sc (.int .u16 0)), (.sc (.int .i64 0))]) (.r (.r (.l (.r (.l (.l .e)))))),
  .n (.st 11 (.t (.r (.r (.l (.r (.l (.l .e))))))) (.t (.l (.l (.l (.l (.l (.r .e))))))) ⟨6, opAt XP 54 9 3⟩)])
 (.seq (.reg [.p (.ld true 11 (.t (.r (.r (.l (.r (.l (.l .e)))))))) (.l (.r (.l (.l (.l (.r .e)))))),
  .p (.call 87 [(.t (.l (.r (.l (.l (.l (.r .e)))))))] ⟨6, opAt XP 54 10 1⟩) (.r (.r (.l (.l (.l (.r .e)))))),
  .p (.mv (.t (.r (.r (.l (.l (.l (.r .e)))))))) (.r (.l (.l (.l (.l (.r .e)))))),
  .p (.ex (.t (.r (.l (.l (.l (.l (.r .e))))))) 0) (.l (.l (.r (.l (.l (.r .e)))))),
  .p (.ex (.t (.r (.l (.l (.l (.l (.r .e))))))) 1) (.r (.l (.r (.l (.l (.r .e)))))),
  .p (.mv (.t (.l (.l (.r (.l (.l (.r .e)))))))) (.l (.l (.r (.r (.l (.l .e)))))),
  .p (.mv (.t (.r (.l (.r (.l (.l (.r .e)))))))) (.r (.l (.r (.r (.l (.l .e))))))])
 (.seq (.reg [.p (.mv (.t (.r (.l (.r (.r (.l (.l .e)))))))) (.l (.r (.r (.l (.l (.r .e)))))),
  .p (.mv (.t (.l (.r (.r (.l (.l (.r .e)))))))) (.r (.r (.r (.l (.l (.r .e)))))),
  .gp (.t (.r (.r (.r (.l (.l (.r .e))))))) true (.mv (.t (.l (.l (.r (.r (.l (.l .e)))))))) (.l (.l (.l (.r (.l (.r .e)))))),
  .gp (.t (.r (.r (.r (.l (.l (.r .e))))))) true (.fa 3 (.t (.l (.r (.l (.l (.l (.l .e)))))))) (.r (.l (.l (.r (.l (.r .e)))))),
  .gp (.t (.r (.r (.r (.l (.l (.r .e))))))) true (.ld false 1 (.t (.r (.l (.l (.r (.l (.r .e)))))))) (.l (.r (.l (.r (.l (.r .e)))))),
  .gp (.t (.r (.r (.r (.l (.l (.r .e))))))) true (.bin .eql (.t (.l (.l (.l (.r (.l (.r .e))))))) (.t (.l (.r (.l (.r (.l (.r .e))))))) ⟨6, opAt XP 54 11 5⟩) (.r (.r (.l (.r (.l (.r .e)))))),
  .p (.pk (.t (.r (.r (.r (.l (.l (.r .e))))))) (.t (.r (.r (.l (.r (.l (.r .e))))))) (.c (.tc (.sc (.bool false))))) (.l (.l (.r (.r (.l (.r .e))))))])
 (.cond (.t (.l (.l (.r (.r (.l (.r .e))))))) (.seq (.reg [.p (.mv (.t (.l (.l (.l (.r (.l (.l .e)))))))) (.r (.l (.r (.r (.l (.r .e)))))),
  .p (.bin .add (.t (.r (.l (.r (.r (.l (.r .e))))))) (.c (.tc (.sc (.int .i64 1)))) ⟨6, opAt XP 54 12 1⟩) (.l (.r (.r (.r (.l (.r .e)))))),
  .p (.mv (.t (.l (.r (.r (.r (.l (.r .e)))))))) (.l (.l (.l (.r (.l (.l .e))))))])
 (.regD 6 62 (regAt XP 54 13) [0, 1, 3, 7, 15, 31, 15, 127, 255, 511] [.mk .none .yes (.fa 6 (.t (.r (.r (.l (.r (.l (.l .e)))))))) (.fa 6 (.t (.r (.r (.l (.r (.l (.l .e)))))))) (some (.r (.r (.r (.r (.l (.r .e))))))),
  .mk .none .yes (.ld false 1 (.t (.r (.r (.r (.r (.l (.r .e)))))))) (.ld false 1 (.t (.r (.r (.r (.r (.l (.r .e)))))))) (some (.l (.l (.l (.l (.r (.r .e))))))),
  .mk .none .yes (.bin .eql (.t (.l (.l (.l (.l (.r (.r .e))))))) (.c (.tc (.sc (.int .u8 0)))) ⟨6, opAt XP 54 13 2⟩) (.bin .eql (.t (.l (.l (.l (.l (.r (.r .e))))))) (.c (.tc (.sc (.int .u8 0)))) ⟨6, opAt XP 54 13 2⟩) (some (.r (.l (.l (.l (.r (.r .e))))))),
  .mk .none .yes (.mv (.t (.r (.l (.l (.l (.r (.r .e)))))))) (.mv (.t (.r (.l (.l (.l (.r (.r .e)))))))) (some (.l (.r (.l (.l (.r (.r .e))))))),
  .mk (.on (.t (.l (.r (.l (.l (.r (.r .e))))))) true) .yes (.bt 1 [[(.tc (.sc (.int .u8 0)))], [(.tc (.sc (.int .u8 0)))]] [(.mk 0 1 (.c (.tc (.sc (.int .u8 1))))), (.mk 1 1 (.c (.tc (.sc (.int .u8 2)))))] ⟨6, opAt XP 54 13 4⟩) (.bs 1 2 [[(.tc (.sc (.int .u8 0)))], [(.tc (.sc (.int .u8 0)))]] [(.mk 0 1 (.c (.tc (.sc (.int .u8 1))))), (.mk 1 1 (.c (.tc (.sc (.int .u8 2)))))] ⟨6, opAt XP 54 13 4⟩) (some (.r (.r (.l (.l (.r (.r .e))))))),
  .mk (.on (.t (.l (.r (.l (.l (.r (.r .e))))))) true) (.dyn 48 [(.t (.r (.r (.l (.l (.r (.r .e)))))))]) (.call 48 [(.t (.r (.r (.l (.l (.r (.r .e)))))))] ⟨6, opAt XP 54 13 5⟩) (.call 48 [(.t (.r (.r (.l (.l (.r (.r .e)))))))] ⟨6, opAt XP 54 13 5⟩) (some (.l (.l (.r (.l (.r (.r .e))))))),
  .mk (.on (.t (.l (.r (.l (.l (.r (.r .e))))))) true) .yes (.ld true 11 (.t (.r (.r (.l (.r (.l (.l .e)))))))) (.ld true 11 (.t (.r (.r (.l (.r (.l (.l .e)))))))) (some (.r (.l (.r (.l (.r (.r .e))))))),
  .mk (.on (.t (.l (.r (.l (.l (.r (.r .e))))))) true) (.gen ⟨6, opAt XP 54 13 7⟩) (.gen ⟨6, opAt XP 54 13 7⟩) (.gen ⟨6, opAt XP 54 13 7⟩) (some (.l (.r (.r (.l (.r (.r .e))))))),
  .mk .none .yes (.pk (.t (.l (.r (.l (.l (.r (.r .e))))))) (.t (.l (.r (.r (.l (.r (.r .e))))))) (.c (.tc (.sc (.bool false))))) (.pk (.t (.l (.r (.l (.l (.r (.r .e))))))) (.t (.l (.r (.r (.l (.r (.r .e))))))) (.c (.tc (.sc (.bool false))))) (some (.r (.r (.r (.l (.r (.r .e))))))),
  .mk .none .yes (.mv (.t (.r (.r (.r (.l (.r (.r .e)))))))) (.mv (.t (.r (.r (.r (.l (.r (.r .e)))))))) (some (.r (.l (.l (.r (.l (.l .e)))))))]))
 .skip)))))
 (.reg [.p (.bin .add (.t (.r (.l (.r (.r (.r (.l .e))))))) (.c (.tc (.sc (.int .i64 1)))) ⟨6, opAt XP 54 14 0⟩) (.l (.l (.l (.r (.r (.r .e)))))),
  .p (.mv (.t (.l (.l (.l (.r (.r (.r .e)))))))) (.r (.l (.r (.r (.r (.l .e))))))])))))))
 (.seq (.reg [.p (.mv (.t (.l (.l (.l (.r (.l (.l .e)))))))) (.r (.l (.l (.r (.r (.r .e)))))),
  .p (.bin .eql (.t (.r (.l (.l (.r (.r (.r .e))))))) (.c (.tc (.sc (.int .i64 1)))) ⟨6, opAt XP 54 15 1⟩) (.l (.r (.l (.r (.r (.r .e)))))),
  .p (.mv (.t (.l (.r (.l (.r (.r (.r .e)))))))) (.r (.r (.l (.r (.r (.r .e)))))),
  .gp (.t (.r (.r (.l (.r (.r (.r .e))))))) true (.mv (.t (.r (.l (.l (.r (.l (.l .e)))))))) (.l (.l (.r (.r (.r (.r .e)))))),
  .p (.pk (.t (.r (.r (.l (.r (.r (.r .e))))))) (.t (.l (.l (.r (.r (.r (.r .e))))))) (.c (.tc (.sc (.bool false))))) (.r (.l (.r (.r (.r (.r .e)))))),
  .p (.mv (.t (.r (.l (.r (.r (.r (.r .e)))))))) (.l (.l (.r (.l (.l (.l .e))))))])
 .ret))))))
 [.tmp (.t (.l (.l (.r (.l (.l (.l .e)))))))]
theorem ff54_ok : compF SBase 54 = ff54 := by kernel_rfl
noncomputable def ff84 : FF := .mk 1 [(.l (.l (.l (.l (.l .e)))))] (encF 5 fun _ => undefA)
 (.seq (.reg [.p (.bx 11 (.t (.l (.l (.l (.l (.l .e)))))) ⟨5, opAt XP 84 0 0⟩) (.r (.l (.l (.l (.l .e))))),
  .p (.mv (.c (.tc (.sc (.int .u8 0))))) (.l (.r (.l (.l (.l .e))))),
  .p (.mv (.c (.tc (.sc (.bool false))))) (.r (.r (.l (.l (.l .e))))),
  .p (.mv (.c (.tc (.sc (.bool false))))) (.l (.l (.r (.l (.l .e)))))])
 (.seq (.seq (.reg [.p (.ld true 11 (.t (.r (.l (.l (.l (.l .e))))))) (.r (.l (.r (.l (.l .e))))),
  .p (.call 51 [(.t (.r (.l (.r (.l (.l .e))))))] ⟨5, opAt XP 84 1 1⟩) (.l (.r (.r (.l (.l .e))))),
  .p (.nt (.t (.l (.r (.r (.l (.l .e)))))) ⟨5, opAt XP 84 1 2⟩) (.r (.r (.r (.l (.l .e))))),
  .p (.mv (.t (.r (.r (.r (.l (.l .e))))))) (.l (.l (.l (.r (.l .e))))),
  .gp (.t (.l (.l (.l (.r (.l .e)))))) false (.fa 0 (.t (.r (.l (.l (.l (.l .e))))))) (.r (.l (.l (.r (.l .e))))),
  .gp (.t (.l (.l (.l (.r (.l .e)))))) false (.ld false 1 (.t (.r (.l (.l (.r (.l .e))))))) (.l (.r (.l (.r (.l .e))))),
  .gp (.t (.l (.l (.l (.r (.l .e)))))) false (.bin .neq (.t (.l (.r (.l (.r (.l .e)))))) (.c (.tc (.sc (.int .u8 14)))) ⟨5, opAt XP 84 1 6⟩) (.r (.r (.l (.r (.l .e))))),
  .gp (.t (.l (.l (.l (.r (.l .e)))))) false (.mv (.t (.r (.r (.l (.r (.l .e))))))) (.l (.l (.r (.r (.l .e))))),
  .gp (.t (.l (.l (.r (.r (.l .e)))))) true (.fa 6 (.t (.r (.l (.l (.l (.l .e))))))) (.r (.l (.r (.r (.l .e))))),
  .gp (.t (.l (.l (.r (.r (.l .e)))))) true (.ld false 1 (.t (.r (.l (.r (.r (.l .e))))))) (.l (.r (.r (.r (.l .e))))),
  .gp (.t (.l (.l (.r (.r (.l .e)))))) true (.bin .eql (.t (.l (.r (.r (.r (.l .e)))))) (.c (.tc (.sc (.int .u8 0)))) ⟨5, opAt XP 84 1 10⟩) (.r (.r (.r (.r (.l .e))))),
  .gp (.t (.l (.l (.l (.r (.l .e)))))) false (.pk (.t (.l (.l (.r (.r (.l .e)))))) (.t (.r (.r (.r (.r (.l .e)))))) (.c (.tc (.sc (.bool false))))) (.l (.l (.l (.l (.r .e))))),
  .p (.pk (.t (.l (.l (.l (.r (.l .e)))))) (.c (.tc (.sc (.bool true)))) (.t (.l (.l (.l (.l (.r .e))))))) (.r (.l (.l (.l (.r .e)))))])
 (.cond (.t (.r (.l (.l (.l (.r .e)))))) (.seq (.reg [.p (.mv (.c (.tc (.sc (.int .u8 0))))) (.l (.r (.l (.l (.l .e))))),
  .p (.mv (.c (.tc (.sc (.bool false))))) (.r (.r (.l (.l (.l .e))))),
  .p (.mv (.c (.tc (.sc (.bool false))))) (.l (.l (.r (.l (.l .e)))))])
 .ret)
 .skip))
 (.seq (.regD 5 23 (regAt XP 84 3) [0, 1, 0, 4, 12, 3, 63, 127] [.mk .none .yes (.fa 5 (.t (.r (.l (.l (.l (.l .e))))))) (.fa 5 (.t (.r (.l (.l (.l (.l .e))))))) (some (.l (.r (.l (.l (.r .e)))))),
  .mk .none .yes (.ld false 1 (.t (.l (.r (.l (.l (.r .e))))))) (.ld false 1 (.t (.l (.r (.l (.l (.r .e))))))) (some (.r (.r (.l (.l (.r .e)))))),
  .mk .none .yes (.fa 6 (.t (.r (.l (.l (.l (.l .e))))))) (.fa 6 (.t (.r (.l (.l (.l (.l .e))))))) (some (.l (.l (.r (.l (.r .e)))))),
  .mk .none .yes (.ld false 1 (.t (.l (.l (.r (.l (.r .e))))))) (.ld false 1 (.t (.l (.l (.r (.l (.r .e))))))) (some (.r (.l (.r (.l (.r .e)))))),
  .mk .none .yes (.bin .geq (.t (.r (.l (.r (.l (.r .e)))))) (.c (.tc (.sc (.int .u8 3)))) ⟨5, opAt XP 84 3 4⟩) (.bin .geq (.t (.r (.l (.r (.l (.r .e)))))) (.c (.tc (.sc (.int .u8 3)))) ⟨5, opAt XP 84 3 4⟩) (some (.l (.r (.r (.l (.r .e)))))),
  .mk .none .yes (.mv (.t (.r (.r (.l (.l (.r .e))))))) (.mv (.t (.r (.r (.l (.l (.r .e))))))) (some (.l (.r (.l (.l (.l .e)))))),
  .mk .none .yes (.mv (.t (.l (.r (.r (.l (.r .e))))))) (.mv (.t (.l (.r (.r (.l (.r .e))))))) (some (.r (.r (.l (.l (.l .e)))))),
  .mk .none .yes (.mv (.c (.tc (.sc (.bool true))))) (.mv (.c (.tc (.sc (.bool true))))) (some (.l (.l (.r (.l (.l .e))))))])
 .ret)))
 [.tmp (.t (.l (.r (.l (.l (.l .e)))))), .tmp (.t (.r (.r (.l (.l (.l .e)))))), .tmp (.t (.l (.l (.r (.l (.l .e))))))]
theorem ff84_ok : compF SBase 84 = ff84 := by kernel_rfl
noncomputable def ff85 : FF := .mk 2 [(.l (.l (.l (.l (.l .e))))), (.r (.l (.l (.l (.l .e)))))] (encF 5 fun _ => undefA)
 (.seq (.reg [.p (.bx 11 (.t (.l (.l (.l (.l (.l .e)))))) ⟨5, opAt XP 85 0 0⟩) (.l (.r (.l (.l (.l .e))))),
  .p (.mv (.c (.tc (.sc (.bool false))))) (.r (.r (.l (.l (.l .e)))))])
 (.seq (.reg [.p (.ld true 11 (.t (.l (.r (.l (.l (.l .e))))))) (.r (.r (.r (.l (.l .e))))),
  .p (.call 86 [(.t (.r (.r (.r (.l (.l .e))))))] ⟨5, opAt XP 85 1 1⟩) (.l (.l (.l (.r (.l .e))))),
  .p (.mv (.t (.l (.l (.l (.r (.l .e))))))) (.l (.r (.r (.l (.l .e))))),
  .p (.ex (.t (.l (.r (.r (.l (.l .e)))))) 0) (.r (.l (.l (.r (.l .e))))),
  .p (.ex (.t (.l (.r (.r (.l (.l .e)))))) 1) (.l (.r (.l (.r (.l .e))))),
  .p (.mv (.t (.r (.l (.l (.r (.l .e))))))) (.l (.l (.r (.l (.l .e))))),
  .p (.mv (.t (.l (.r (.l (.r (.l .e))))))) (.r (.l (.r (.l (.l .e)))))])
 (.seq (.reg [.p (.mv (.t (.r (.l (.r (.l (.l .e))))))) (.r (.r (.l (.r (.l .e))))),
  .p (.mv (.t (.r (.r (.l (.r (.l .e))))))) (.l (.l (.r (.r (.l .e))))),
  .gp (.t (.l (.l (.r (.r (.l .e)))))) true (.mv (.t (.l (.l (.r (.l (.l .e))))))) (.r (.l (.r (.r (.l .e))))),
  .gp (.t (.l (.l (.r (.r (.l .e)))))) true (.ld false 1 (.t (.r (.l (.l (.l (.l .e))))))) (.l (.r (.r (.r (.l .e))))),
  .gp (.t (.l (.l (.r (.r (.l .e)))))) true (.bin .eql (.t (.r (.l (.r (.r (.l .e)))))) (.t (.l (.r (.r (.r (.l .e)))))) ⟨5, opAt XP 85 2 4⟩) (.r (.r (.r (.r (.l .e))))),
  .p (.pk (.t (.l (.l (.r (.r (.l .e)))))) (.t (.r (.r (.r (.r (.l .e)))))) (.c (.tc (.sc (.bool false))))) (.l (.l (.l (.l (.r .e))))),
  .p (.mv (.t (.l (.l (.l (.l (.r .e))))))) (.r (.r (.l (.l (.l .e)))))])
 .ret)))
 [.tmp (.t (.r (.r (.l (.l (.l .e))))))]
theorem ff85_ok : compF SBase 85 = ff85 := by kernel_rfl
noncomputable def ff28 : FF := .mk 0 [] (encF 6 fun _ => undefA)
 (.seq (.reg [.p (.mv (.c (.tc (.sc (.bool false))))) (.l (.l (.l (.l (.l (.l .e))))))])
 (.seq (.reg [.p (.call 26 [(.c (.tc (.sc (.int .u8 1)))), (.c (.tc (.sc (.int .u8 0)))), (.c (.tc (.sc (.int .u8 0))))] ⟨6, opAt XP 28 1 0⟩) (.r (.l (.l (.l (.l (.l .e)))))),
  .p (.call 26 [(.c (.tc (.sc (.int .u8 2)))), (.c (.tc (.sc (.int .u8 0)))), (.c (.tc (.sc (.int .u8 0))))] ⟨6, opAt XP 28 1 1⟩) (.l (.r (.l (.l (.l (.l .e)))))),
  .p (.bs 11 2 [[(.tc (.sc (.int .u8 0))), (.tc (.sc (.int .u8 0))), (.tc (.sc (.int .u8 0))), (.tc (.sc (.int .u8 0))), (.tc (.sc (.int .u8 0))), (.tc (.sc (.int .u8 0))), (.tc (.sc (.int .u8 0))), (.tc (.sc (.bool false))), (.tc (.sc (.bool false))), (.tc (.sc (.int .u16 0))), (.tc (.sc (.int .i64 0)))], [(.tc (.sc (.int .u8 0))), (.tc (.sc (.int .u8 0))), (.tc (.sc (.int .u8 0))), (.tc (.sc (.int .u8 0))), (.tc (.sc (.int .u8 0))), (.tc (.sc (.int .u8 0))), (.tc (.sc (.int .u8 0))), (.tc (.sc (.bool false))), (.tc (.sc (.bool false))), (.tc (.sc (.int .u16 0))), (.tc (.sc (.int .i64 0)))]] [(.mk 0 11 (.t (.r (.l (.l (.l (.l (.l .e)))))))), (.mk 1 11 (.t (.l (.r (.l (.l (.l (.l .e))))))))] ⟨6, opAt XP 28 1 2⟩) (.r (.r (.l (.l (.l (.l .e)))))),
  .p (.call 25 [(.t (.r (.r (.l (.l (.l (.l .e)))))))] ⟨6, opAt XP 28 1 3⟩) (.l (.l (.r (.l (.l (.l .e)))))),
  .p (.call 27 [(.t (.l (.l (.r (.l (.l (.l .e)))))))] ⟨6, opAt XP 28 1 4⟩) (.r (.l (.r (.l (.l (.l .e)))))),
  .p (.bin .eql (.t (.r (.l (.r (.l (.l (.l .e))))))) (.c (.tc (.sc (.int .i64 0)))) ⟨6, opAt XP 28 1 5⟩) (.l (.r (.r (.l (.l (.l .e)))))),
  .p (.mv (.t (.l (.r (.r (.l (.l (.l .e)))))))) (.r (.r (.r (.l (.l (.l .e)))))),
  .gp (.t (.r (.r (.r (.l (.l (.l .e))))))) true (.call 26 [(.c (.tc (.sc (.int .u8 1)))), (.c (.tc (.sc (.int .u8 0)))), (.c (.tc (.sc (.int .u8 0))))] ⟨6, opAt XP 28 1 7⟩) (.l (.l (.l (.r (.l (.l .e)))))),
  .gp (.t (.r (.r (.r (.l (.l (.l .e))))))) true (.call 26 [(.c (.tc (.sc (.int .u8 1)))), (.c (.tc (.sc (.int .u8 0)))), (.c (.tc (.sc (.int .u8 0))))] ⟨6, opAt XP 28 1 8⟩) (.r (.l (.l (.r (.l (.l .e)))))),
  .gp (.t (.r (.r (.r (.l (.l (.l .e))))))) true (.bs 11 2 [[(.tc (.sc (.int .u8 0))), (.tc (.sc (.int .u8 0))), (.tc (.sc (.int .u8 0))), (.tc (.sc (.int .u8 0))), (.tc (.sc (.int .u8 0))), (.tc (.sc (.int .u8 0))), (.tc (.sc (.int .u8 0))), (.tc (.sc (.bool false))), (.tc (.sc (.bool false))), (.tc (.sc (.int .u16 0))), (.tc (.sc (.int .i64 0)))], [(.tc (.sc (.int .u8 0))), (.tc (.sc (.int .u8 0))), (.tc (.sc (.int .u8 0))), (.tc (.sc (.int .u8 0))), (.tc (.sc (.int .u8 0))), (.tc (.sc (.int .u8 0))), (.tc (.sc (.int .u8 0))), (.tc (.sc (.bool false))), (.tc (.sc (.bool false))), (.tc (.sc (.int .u16 0))), (.tc (.sc (.int .i64 0)))]] [(.mk 0 11 (.t (.l (.l (.l (.r (.l (.l .e)))))))), (.mk 1 11 (.t (.r (.l (.l (.r (.l (.l .e))))))))] ⟨6, opAt XP 28 1 9⟩) (.l (.r (.l (.r (.l (.l .e)))))),
  .gp (.t (.r (.r (.r (.l (.l (.l .e))))))) true (.call 25 [(.t (.l (.r (.l (.r (.l (.l .e)))))))] ⟨6, opAt XP 28 1 10⟩) (.r (.r (.l (.r (.l (.l .e)))))),
  .gp (.t (.r (.r (.r (.l (.l (.l .e))))))) true (.call 27 [(.t (.r (.r (.l (.r (.l (.l .e)))))))] ⟨6, opAt XP 28 1 11⟩) (.l (.l (.r (.r (.l (.l .e)))))),
  .gp (.t (.r (.r (.r (.l (.l (.l .e))))))) true (.bin .eql (.t (.l (.l (.r (.r (.l (.l .e))))))) (.c (.tc (.sc (.int .i64 11)))) ⟨6, opAt XP 28 1 12⟩) (.r (.l (.r (.r (.l (.l .e)))))),
  .p (.pk (.t (.r (.r (.r (.l (.l (.l .e))))))) (.t (.r (.l (.r (.r (.l (.l .e))))))) (.c (.tc (.sc (.bool false))))) (.l (.r (.r (.r (.l (.l .e)))))),
  .p (.mv (.t (.l (.r (.r (.r (.l (.l .e)))))))) (.r (.r (.r (.r (.l (.l .e)))))),
  .gp (.t (.r (.r (.r (.r (.l (.l .e))))))) true (.call 26 [(.c (.tc (.sc (.int .u8 1)))), (.c (.tc (.sc (.int .u8 1)))), (.c (.tc (.sc (.int .u8 0))))] ⟨6, opAt XP 28 1 15⟩) (.l (.l (.l (.l (.r (.l .e)))))),
  .gp (.t (.r (.r (.r (.r (.l (.l .e))))))) true (.call 26 [(.c (.tc (.sc (.int .u8 1)))), (.c (.tc (.sc (.int .u8 2)))), (.c (.tc (.sc (.int .u8 0))))] ⟨6, opAt XP 28 1 16⟩) (.r (.l (.l (.l (.r (.l .e)))))),
  .gp (.t (.r (.r (.r (.r (.l (.l .e))))))) true (.bs 11 2 [[(.tc (.sc (.int .u8 0))), (.tc (.sc (.int .u8 0))), (.tc (.sc (.int .u8 0))), (.tc (.sc (.int .u8 0))), (.tc (.sc (.int .u8 0))), (.tc (.sc (.int .u8 0))), (.tc (.sc (.int .u8 0))), (.tc (.sc (.bool false))), (.tc (.sc (.bool false))), (.tc (.sc (.int .u16 0))), (.tc (.sc (.int .i64 0)))], [(.tc (.sc (.int .u8 0))), (.tc (.sc (.int .u8 0))), (.tc (.sc (.int .u8 0))), (.tc (.sc (.int .u8 0))), (.tc (.sc (.int .u8 0))), (.tc (.sc (.int .u8 0))), (.tc (.sc (.int .u8 0))), (.tc (.sc (.bool false))), (.tc (.sc (.bool false))), (.tc (.sc (.int .u16 0))), (.tc (.sc (.int .i64 0)))]] [(.mk 0 11 (.t (.l (.l (.l (.l (.r (.l .e)))))))), (.mk 1 11 (.t (.r (.l (.l (.l (.r (.l .e))))))))] ⟨6, opAt XP 28 1 17⟩) (.l (.r (.l (.l (.r (.l .e)))))),
  .gp (.t (.r (.r (.r (.r (.l (.l .e))))))) true (.call 25 [(.t (.l (.r (.l (.l (.r (.l .e)))))))] ⟨6, opAt XP 28 1 18⟩) (.r (.r (.l (.l (.r (.l .e)))))),
  .gp (.t (.r (.r (.r (.r (.l (.l .e))))))) true (.call 27 [(.t (.r (.r (.l (.l (.r (.l .e)))))))] ⟨6, opAt XP 28 1 19⟩) (.l (.l (.r (.l (.r (.l .e)))))),
  .gp (.t (.r (.r (.r (.r (.l (.l .e))))))) true (.bin .eql (.t (.l (.l (.r (.l (.r (.l .e))))))) (.c (.tc (.sc (.int .i64 0)))) ⟨6, opAt XP 28 1 20⟩) (.r (.l (.r (.l (.r (.l .e)))))),
  .p (.pk (.t (.r (.r (.r (.r (.l (.l .e))))))) (.t (.r (.l (.r (.l (.r (.l .e))))))) (.c (.tc (.sc (.bool false))))) (.l (.r (.r (.l (.r (.l .e)))))),
  .p (.mv (.t (.l (.r (.r (.l (.r (.l .e)))))))) (.r (.r (.r (.l (.r (.l .e)))))),
  .gp (.t (.r (.r (.r (.l (.r (.l .e))))))) true (.call 26 [(.c (.tc (.sc (.int .u8 1)))), (.c (.tc (.sc (.int .u8 0)))), (.c (.tc (.sc (.int .u8 0))))] ⟨6, opAt XP 28 1 23⟩) (.l (.l (.l (.r (.r (.l .e)))))),
  .gp (.t (.r (.r (.r (.l (.r (.l .e))))))) true (.call 26 [(.c (.tc (.sc (.int .u8 1)))), (.c (.tc (.sc (.int .u8 1)))), (.c (.tc (.sc (.int .u8 0))))] ⟨6, opAt XP 28 1 24⟩) (.r (.l (.l (.r (.r (.l .e)))))),
  .gp (.t (.r (.r (.r (.l (.r (.l .e))))))) true (.call 55 [(.t (.l (.l (.l (.r (.r (.l .e))))))), (.t (.r (.l (.l (.r (.r (.l .e)))))))] ⟨6, opAt XP 28 1 25⟩) (.l (.r (.l (.r (.r (.l .e)))))),
  .p (.pk (.t (.r (.r (.r (.l (.r (.l .e))))))) (.t (.l (.r (.l (.r (.r (.l .e))))))) (.c (.tc (.sc (.bool false))))) (.r (.r (.l (.r (.r (.l .e)))))),
  .p (.mv (.t (.r (.r (.l (.r (.r (.l .e)))))))) (.l (.l (.r (.r (.r (.l .e)))))),
  .gp (.t (.l (.l (.r (.r (.r (.l .e))))))) true (.call 26 [(.c (.tc (.sc (.int .u8 1)))), (.c (.tc (.sc (.int .u8 3)))), (.c (.tc (.sc (.int .u8 1))))] ⟨6, opAt XP 28 1 28⟩) (.r (.l (.r (.r (.r (.l .e)))))),
  .gp (.t (.l (.l (.r (.r (.r (.l .e))))))) true (.call 26 [(.c (.tc (.sc (.int .u8 1)))), (.c (.tc (.sc (.int .u8 4)))), (.c (.tc (.sc (.int .u8 1))))] ⟨6, opAt XP 28 1 29⟩) (.l (.r (.r (.r (.r (.l .e)))))),
  .gp (.t (.l (.l (.r (.r (.r (.l .e))))))) true (.call 55 [(.t (.r (.l (.r (.r (.r (.l .e))))))), (.t (.l (.r (.r (.r (.r (.l .e)))))))] ⟨6, opAt XP 28 1 30⟩) (.r (.r (.r (.r (.r (.l .e)))))),
  .gp (.t (.l (.l (.r (.r (.r (.l .e))))))) true (.nt (.t (.r (.r (.r (.r (.r (.l .e))))))) ⟨6, opAt XP 28 1 31⟩) (.l (.l (.l (.l (.l (.r .e)))))),
  .p (.pk (.t (.l (.l (.r (.r (.r (.l .e))))))) (.t (.l (.l (.l (.l (.l (.r .e))))))) (.c (.tc (.sc (.bool false))))) (.r (.l (.l (.l (.l (.r .e)))))),
  .p (.mv (.t (.r (.l (.l (.l (.l (.r .e)))))))) (.l (.l (.l (.l (.l (.l .e))))))])
 .ret))
 [.tmp (.t (.l (.l (.l (.l (.l (.l .e)))))))]
theorem ff28_ok : compF SBase 28 = ff28 := by kernel_rfl

noncomputable def codeRulesKnown (f : FuncId) : FF := match f with
  | 6 => ff6
  | 26 => ff26
  | 25 => ff25
  | 27 => ff27
  | 48 => ff48
  | 75 => ff75
  | 77 => ff77
  | 79 => ff79
  | 100 => ff100
  | 110 => ff110
  | 114 => ff114
  | 123 => ff123
  | 124 => ff124
  | 125 => ff125
  | 115 => ff115
  | 121 => ff121
  | 116 => ff116
  | 117 => ff117
  | 118 => ff118
  | 119 => ff119
  | 120 => ff120
  | 122 => ff122
  | 103 => ff103
  | 76 => ff76
  | 102 => ff102
  | 49 => ff49
  | 78 => ff78
  | 50 => ff50
  | 51 => ff51
  | 80 => ff80
  | 81 => ff81
  | 46 => ff46
  | 82 => ff82
  | 104 => ff104
  | 73 => ff73
  | 52 => ff52
  | 83 => ff83
  | 55 => ff55
  | 87 => ff87
  | 88 => ff88
  | 86 => ff86
  | 53 => ff53
  | 54 => ff54
  | 84 => ff84
  | 85 => ff85
  | 28 => ff28
  | _ => .bad
theorem codeRulesKnown_ok : ∀ f, codeRulesKnown f = .bad ∨ codeRulesKnown f = compF SBase f := by
  intro f
  unfold codeRulesKnown
  split
  · exact .inr ff6_ok.symm
  · exact .inr ff26_ok.symm
  · exact .inr ff25_ok.symm
  · exact .inr ff27_ok.symm
  · exact .inr ff48_ok.symm
  · exact .inr ff75_ok.symm
  · exact .inr ff77_ok.symm
  · exact .inr ff79_ok.symm
  · exact .inr ff100_ok.symm
  · exact .inr ff110_ok.symm
  · exact .inr ff114_ok.symm
  · exact .inr ff123_ok.symm
  · exact .inr ff124_ok.symm
  · exact .inr ff125_ok.symm
  · exact .inr ff115_ok.symm
  · exact .inr ff121_ok.symm
  · exact .inr ff116_ok.symm
  · exact .inr ff117_ok.symm
  · exact .inr ff118_ok.symm
  · exact .inr ff119_ok.symm
  · exact .inr ff120_ok.symm
  · exact .inr ff122_ok.symm
  · exact .inr ff103_ok.symm
  · exact .inr ff76_ok.symm
  · exact .inr ff102_ok.symm
  · exact .inr ff49_ok.symm
  · exact .inr ff78_ok.symm
  · exact .inr ff50_ok.symm
  · exact .inr ff51_ok.symm
  · exact .inr ff80_ok.symm
  · exact .inr ff81_ok.symm
  · exact .inr ff46_ok.symm
  · exact .inr ff82_ok.symm
  · exact .inr ff104_ok.symm
  · exact .inr ff73_ok.symm
  · exact .inr ff52_ok.symm
  · exact .inr ff83_ok.symm
  · exact .inr ff55_ok.symm
  · exact .inr ff87_ok.symm
  · exact .inr ff88_ok.symm
  · exact .inr ff86_ok.symm
  · exact .inr ff53_ok.symm
  · exact .inr ff54_ok.symm
  · exact .inr ff84_ok.symm
  · exact .inr ff85_ok.symm
  · exact .inr ff28_ok.symm
  · exact .inl rfl
end Go.Proofs.Ytdafainfcegfkaa
