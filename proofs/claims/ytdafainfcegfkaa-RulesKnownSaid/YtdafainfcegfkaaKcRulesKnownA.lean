/- Code made ready ahead, RulesKnown: each is what the program says. -/
import Derived.Test.YtdafainfcegfkaaKcBase
set_option linter.unusedVariables false
set_option maxRecDepth 100000
namespace Go.Proofs.Ytdafainfcegfkaa
open Go

noncomputable def ff6 : FF := .mk 0 [] (encF 8 fun _ => undefA)
 (.seq (.reg [.p (.mv (.c (.tc (.sc (.bool false))))) (.l (.l (.l (.l (.l (.l (.l (.l .e))))))))])
 (.seq (.reg [.p (.bd [(.tc (.sc (.int .u8 0))), (.tc (.sc (.int .u8 0))), (.tc (.sc (.int .u8 0))), (.tc (.sc (.int .u8 0))), (.tc (.sc (.int .u8 0))), (.tc (.sc (.int .u8 0))), (.tc (.sc (.int .u8 0))), (.tc (.sc (.bool false))), (.tc (.sc (.bool false))), (.tc (.sc (.int .u16 0))), (.tc (.sc (.int .i64 0)))] [(.mk 0 1 (.c (.tc (.sc (.int .u8 10)))))] ⟨8, opAt XP 6 1 0⟩) (.r (.l (.r (.r (.l (.l (.l (.l .e)))))))),
  .p (.al 11 [(.sc (.int .u8 0)), (.sc (.int .u8 0)), (.sc (.int .u8 0)), (.sc (.int .u8 0)), (.sc (.int .u8 0)), (.sc (.int .u8 0)), (.sc (.int .u8 0)), (.sc (.bool false)), (.sc (.bool false)), (.sc (.int .u16 0)), (.sc (.int .i64 0))]) (.r (.l (.l (.l (.l (.l (.l (.l .e)))))))),
  .n (.st 11 (.t (.r (.l (.l (.l (.l (.l (.l (.l .e))))))))) (.t (.r (.l (.r (.r (.l (.l (.l (.l .e))))))))) ⟨8, opAt XP 6 1 2⟩)])
 (.seq (.reg [.p (.bd [(.tc (.sc (.int .u8 0))), (.tc (.sc (.int .u8 0))), (.tc (.sc (.int .u8 0))), (.tc (.sc (.int .u8 0))), (.tc (.sc (.int .u8 0))), (.tc (.sc (.int .u8 0))), (.tc (.sc (.int .u8 0))), (.tc (.sc (.bool false))), (.tc (.sc (.bool false))), (.tc (.sc (.int .u16 0))), (.tc (.sc (.int .i64 0)))] [(.mk 0 1 (.c (.tc (.sc (.int .u8 27))))), (.mk 6 1 (.c (.tc (.sc (.int .u8 3)))))] ⟨8, opAt XP 6 2 0⟩) (.l (.r (.r (.r (.l (.l (.l (.l .e)))))))),
  .p (.al 11 [(.sc (.int .u8 0)), (.sc (.int .u8 0)), (.sc (.int .u8 0)), (.sc (.int .u8 0)), (.sc (.int .u8 0)), (.sc (.int .u8 0)), (.sc (.int .u8 0)), (.sc (.bool false)), (.sc (.bool false)), (.sc (.int .u16 0)), (.sc (.int .i64 0))]) (.l (.r (.l (.l (.l (.l (.l (.l .e)))))))),
  .n (.st 11 (.t (.l (.r (.l (.l (.l (.l (.l (.l .e))))))))) (.t (.l (.r (.r (.r (.l (.l (.l (.l .e))))))))) ⟨8, opAt XP 6 2 2⟩)])
 (.seq (.reg [.p (.bd [(.tc (.sc (.int .u8 0))), (.tc (.sc (.int .u8 0))), (.tc (.sc (.int .u8 0))), (.tc (.sc (.int .u8 0))), (.tc (.sc (.int .u8 0))), (.tc (.sc (.int .u8 0))), (.tc (.sc (.int .u8 0))), (.tc (.sc (.bool false))), (.tc (.sc (.bool false))), (.tc (.sc (.int .u16 0))), (.tc (.sc (.int .i64 0)))] [(.mk 0 1 (.c (.tc (.sc (.int .u8 27)))))] ⟨8, opAt XP 6 3 0⟩) (.r (.r (.r (.r (.l (.l (.l (.l .e)))))))),
  .p (.al 11 [(.sc (.int .u8 0)), (.sc (.int .u8 0)), (.sc (.int .u8 0)), (.sc (.int .u8 0)), (.sc (.int .u8 0)), (.sc (.int .u8 0)), (.sc (.int .u8 0)), (.sc (.bool false)), (.sc (.bool false)), (.sc (.int .u16 0)), (.sc (.int .i64 0))]) (.r (.r (.l (.l (.l (.l (.l (.l .e)))))))),
  .n (.st 11 (.t (.r (.r (.l (.l (.l (.l (.l (.l .e))))))))) (.t (.r (.r (.r (.r (.l (.l (.l (.l .e))))))))) ⟨8, opAt XP 6 3 2⟩)])
 (.seq (.reg [.p (.bd [(.tc (.sc (.int .u8 0))), (.tc (.sc (.int .u8 0))), (.tc (.sc (.int .u8 0))), (.tc (.sc (.int .u8 0))), (.tc (.sc (.int .u8 0))), (.tc (.sc (.int .u8 0))), (.tc (.sc (.int .u8 0))), (.tc (.sc (.bool false))), (.tc (.sc (.bool false))), (.tc (.sc (.int .u16 0))), (.tc (.sc (.int .i64 0)))] [(.mk 0 1 (.c (.tc (.sc (.int .u8 24))))), (.mk 3 1 (.c (.tc (.sc (.int .u8 1))))), (.mk 7 1 (.c (.tc (.sc (.bool true)))))] ⟨8, opAt XP 6 4 0⟩) (.l (.l (.l (.l (.r (.l (.l (.l .e)))))))),
  .p (.al 11 [(.sc (.int .u8 0)), (.sc (.int .u8 0)), (.sc (.int .u8 0)), (.sc (.int .u8 0)), (.sc (.int .u8 0)), (.sc (.int .u8 0)), (.sc (.int .u8 0)), (.sc (.bool false)), (.sc (.bool false)), (.sc (.int .u16 0)), (.sc (.int .i64 0))]) (.l (.l (.r (.l (.l (.l (.l (.l .e)))))))),
  .n (.st 11 (.t (.l (.l (.r (.l (.l (.l (.l (.l .e))))))))) (.t (.l (.l (.l (.l (.r (.l (.l (.l .e))))))))) ⟨8, opAt XP 6 4 2⟩)])
 (.seq (.reg [.p (.bd [(.tc (.sc (.int .u8 0))), (.tc (.sc (.int .u8 0))), (.tc (.sc (.int .u8 0))), (.tc (.sc (.int .u8 0))), (.tc (.sc (.int .u8 0))), (.tc (.sc (.int .u8 0))), (.tc (.sc (.int .u8 0))), (.tc (.sc (.bool false))), (.tc (.sc (.bool false))), (.tc (.sc (.int .u16 0))), (.tc (.sc (.int .i64 0)))] [(.mk 0 1 (.c (.tc (.sc (.int .u8 21))))), (.mk 1 1 (.c (.tc (.sc (.int .u8 1)))))] ⟨8, opAt XP 6 5 0⟩) (.r (.l (.l (.l (.r (.l (.l (.l .e)))))))),
  .p (.al 11 [(.sc (.int .u8 0)), (.sc (.int .u8 0)), (.sc (.int .u8 0)), (.sc (.int .u8 0)), (.sc (.int .u8 0)), (.sc (.int .u8 0)), (.sc (.int .u8 0)), (.sc (.bool false)), (.sc (.bool false)), (.sc (.int .u16 0)), (.sc (.int .i64 0))]) (.r (.l (.r (.l (.l (.l (.l (.l .e)))))))),
  .n (.st 11 (.t (.r (.l (.r (.l (.l (.l (.l (.l .e))))))))) (.t (.r (.l (.l (.l (.r (.l (.l (.l .e))))))))) ⟨8, opAt XP 6 5 2⟩)])
 (.seq (.reg [.p (.bd [(.tc (.sc (.int .u8 0))), (.tc (.sc (.int .u8 0))), (.tc (.sc (.int .u8 0))), (.tc (.sc (.int .u8 0))), (.tc (.sc (.int .u8 0))), (.tc (.sc (.int .u8 0))), (.tc (.sc (.int .u8 0))), (.tc (.sc (.bool false))), (.tc (.sc (.bool false))), (.tc (.sc (.int .u16 0))), (.tc (.sc (.int .i64 0)))] [(.mk 0 1 (.c (.tc (.sc (.int .u8 1)))))] ⟨8, opAt XP 6 6 0⟩) (.l (.r (.l (.l (.r (.l (.l (.l .e)))))))),
  .p (.al 11 [(.sc (.int .u8 0)), (.sc (.int .u8 0)), (.sc (.int .u8 0)), (.sc (.int .u8 0)), (.sc (.int .u8 0)), (.sc (.int .u8 0)), (.sc (.int .u8 0)), (.sc (.bool false)), (.sc (.bool false)), (.sc (.int .u16 0)), (.sc (.int .i64 0))]) (.l (.r (.r (.l (.l (.l (.l (.l .e)))))))),
  .n (.st 11 (.t (.l (.r (.r (.l (.l (.l (.l (.l .e))))))))) (.t (.l (.r (.l (.l (.r (.l (.l (.l .e))))))))) ⟨8, opAt XP 6 6 2⟩)])
 (.seq (.reg [.p (.bd [(.tc (.sc (.int .u8 0))), (.tc (.sc (.int .u8 0))), (.tc (.sc (.int .u8 0))), (.tc (.sc (.int .u8 0))), (.tc (.sc (.int .u8 0))), (.tc (.sc (.int .u8 0))), (.tc (.sc (.int .u8 0))), (.tc (.sc (.bool false))), (.tc (.sc (.bool false))), (.tc (.sc (.int .u16 0))), (.tc (.sc (.int .i64 0)))] [(.mk 0 1 (.c (.tc (.sc (.int .u8 30)))))] ⟨8, opAt XP 6 7 0⟩) (.r (.r (.l (.l (.r (.l (.l (.l .e)))))))),
  .p (.al 11 [(.sc (.int .u8 0)), (.sc (.int .u8 0)), (.sc (.int .u8 0)), (.sc (.int .u8 0)), (.sc (.int .u8 0)), (.sc (.int .u8 0)), (.sc (.int .u8 0)), (.sc (.bool false)), (.sc (.bool false)), (.sc (.int .u16 0)), (.sc (.int .i64 0))]) (.r (.r (.r (.l (.l (.l (.l (.l .e)))))))),
  .n (.st 11 (.t (.r (.r (.r (.l (.l (.l (.l (.l .e))))))))) (.t (.r (.r (.l (.l (.r (.l (.l (.l .e))))))))) ⟨8, opAt XP 6 7 2⟩)])
 (.seq (.reg [.p (.bd [(.tc (.sc (.int .u8 0))), (.tc (.sc (.int .u8 0))), (.tc (.sc (.int .u8 0))), (.tc (.sc (.int .u8 0))), (.tc (.sc (.int .u8 0))), (.tc (.sc (.int .u8 0))), (.tc (.sc (.int .u8 0))), (.tc (.sc (.bool false))), (.tc (.sc (.bool false))), (.tc (.sc (.int .u16 0))), (.tc (.sc (.int .i64 0)))] [(.mk 0 1 (.c (.tc (.sc (.int .u8 29)))))] ⟨8, opAt XP 6 8 0⟩) (.l (.l (.r (.l (.r (.l (.l (.l .e)))))))),
  .p (.al 11 [(.sc (.int .u8 0)), (.sc (.int .u8 0)), (.sc (.int .u8 0)), (.sc (.int .u8 0)), (.sc (.int .u8 0)), (.sc (.int .u8 0)), (.sc (.int .u8 0)), (.sc (.bool false)), (.sc (.bool false)), (.sc (.int .u16 0)), (.sc (.int .i64 0))]) (.l (.l (.l (.r (.l (.l (.l (.l .e)))))))),
  .n (.st 11 (.t (.l (.l (.l (.r (.l (.l (.l (.l .e))))))))) (.t (.l (.l (.r (.l (.r (.l (.l (.l .e))))))))) ⟨8, opAt XP 6 8 2⟩)])
 (.seq (.reg [.p (.ld true 11 (.t (.l (.l (.r (.l (.l (.l (.l (.l .e)))))))))) (.r (.l (.r (.l (.r (.l (.l (.l .e)))))))),
  .p (.al 11 [(.sc (.int .u8 0)), (.sc (.int .u8 0)), (.sc (.int .u8 0)), (.sc (.int .u8 0)), (.sc (.int .u8 0)), (.sc (.int .u8 0)), (.sc (.int .u8 0)), (.sc (.bool false)), (.sc (.bool false)), (.sc (.int .u16 0)), (.sc (.int .i64 0))]) (.r (.l (.l (.r (.l (.l (.l (.l .e)))))))),
  .n (.st 11 (.t (.r (.l (.l (.r (.l (.l (.l (.l .e))))))))) (.t (.r (.l (.r (.l (.r (.l (.l (.l .e))))))))) ⟨8, opAt XP 6 9 2⟩)])
 (.seq (.reg [.p (.fa 3 (.t (.r (.l (.l (.r (.l (.l (.l (.l .e)))))))))) (.l (.r (.r (.l (.r (.l (.l (.l .e)))))))),
  .n (.st 1 (.t (.l (.r (.r (.l (.r (.l (.l (.l .e))))))))) (.c (.tc (.sc (.int .u8 31)))) ⟨8, opAt XP 6 10 1⟩)])
 (.seq (.regD 8 130 (regAt XP 6 11) [0, 1, 3, 7, 15, 31, 63, 127, 255, 511, 1023, 2047, 4095, 0, 0, 24576, 65535, 0, 131072, 524287, 0, 0, 3145728, 8388607, 16777215, 0, 67108863, 134217727, 0, 0, 805306368, 2147483647, 4294967295, 0, 17179869183, 34359738367, 68719476735, 137438953471, 0, 549755813887, 1099511627775, 0, 0, 6597069766656, 17592186044415, 0, 35184372088832, 105553116266496, 0, 281474976710656, 844424930131968, 0, 2251799813685248, 6755399441055744, 0, 0, 0, 0, 0, 0, 1116892707587883008, 2269849396566818815, 0, 4611686018427387904, 18410750461062676479, 0, 36893488147419103232, 110680464442257309696, 0, 0, 885443715538058477568, 2102892830790242009087, 0, 4464076072225064615935, 18631175520834000257023, 37520641452312581111807, 0, 75557863725914323419136, 301973164493012713078783, 0, 0, 1813388729421943762059264, 4835444988047872118226943, 0, 0, 0, 67699845898419233783545856, 154742246620261889781792767, 309485009821345068724781055, 618970019642690137449562111] [.mk .none (.dyn 26 [(.c (.tc (.sc (.int .u8 1)))), (.c (.tc (.sc (.int .u8 1)))), (.c (.tc (.sc (.int .u8 0))))]) (.call 26 [(.c (.tc (.sc (.int .u8 1)))), (.c (.tc (.sc (.int .u8 1)))), (.c (.tc (.sc (.int .u8 0))))] ⟨8, opAt XP 6 11 0⟩) (.call 26 [(.c (.tc (.sc (.int .u8 1)))), (.c (.tc (.sc (.int .u8 1)))), (.c (.tc (.sc (.int .u8 0))))] ⟨8, opAt XP 6 11 0⟩) (some (.r (.r (.r (.l (.r (.l (.l (.l .e))))))))),
  .mk .none (.dyn 26 [(.c (.tc (.sc (.int .u8 1)))), (.c (.tc (.sc (.int .u8 4)))), (.c (.tc (.sc (.int .u8 0))))]) (.call 26 [(.c (.tc (.sc (.int .u8 1)))), (.c (.tc (.sc (.int .u8 4)))), (.c (.tc (.sc (.int .u8 0))))] ⟨8, opAt XP 6 11 1⟩) (.call 26 [(.c (.tc (.sc (.int .u8 1)))), (.c (.tc (.sc (.int .u8 4)))), (.c (.tc (.sc (.int .u8 0))))] ⟨8, opAt XP 6 11 1⟩) (some (.l (.l (.l (.r (.r (.l (.l (.l .e))))))))),
  .mk .none .yes (.bt 11 [[(.tc (.sc (.int .u8 0))), (.tc (.sc (.int .u8 0))), (.tc (.sc (.int .u8 0))), (.tc (.sc (.int .u8 0))), (.tc (.sc (.int .u8 0))), (.tc (.sc (.int .u8 0))), (.tc (.sc (.int .u8 0))), (.tc (.sc (.bool false))), (.tc (.sc (.bool false))), (.tc (.sc (.int .u16 0))), (.tc (.sc (.int .i64 0)))], [(.tc (.sc (.int .u8 0))), (.tc (.sc (.int .u8 0))), (.tc (.sc (.int .u8 0))), (.tc (.sc (.int .u8 0))), (.tc (.sc (.int .u8 0))), (.tc (.sc (.int .u8 0))), (.tc (.sc (.int .u8 0))), (.tc (.sc (.bool false))), (.tc (.sc (.bool false))), (.tc (.sc (.int .u16 0))), (.tc (.sc (.int .i64 0)))]] [(.mk 0 11 (.t (.r (.r (.r (.l (.r (.l (.l (.l .e)))))))))), (.mk 1 11 (.t (.l (.l (.l (.r (.r (.l (.l (.l .e))))))))))] ⟨8, opAt XP 6 11 2⟩) (.bs 11 2 [[(.tc (.sc (.int .u8 0))), (.tc (.sc (.int .u8 0))), (.tc (.sc (.int .u8 0))), (.tc (.sc (.int .u8 0))), (.tc (.sc (.int .u8 0))), (.tc (.sc (.int .u8 0))), (.tc (.sc (.int .u8 0))), (.tc (.sc (.bool false))), (.tc (.sc (.bool false))), (.tc (.sc (.int .u16 0))), (.tc (.sc (.int .i64 0)))], [(.tc (.sc (.int .u8 0))), (.tc (.sc (.int .u8 0))), (.tc (.sc (.int .u8 0))), (.tc (.sc (.int .u8 0))), (.tc (.sc (.int .u8 0))), (.tc (.sc (.int .u8 0))), (.tc (.sc (.int .u8 0))), (.tc (.sc (.bool false))), (.tc (.sc (.bool false))), (.tc (.sc (.int .u16 0))), (.tc (.sc (.int .i64 0)))]] [(.mk 0 11 (.t (.r (.r (.r (.l (.r (.l (.l (.l .e)))))))))), (.mk 1 11 (.t (.l (.l (.l (.r (.r (.l (.l (.l .e))))))))))] ⟨8, opAt XP 6 11 2⟩) (some (.r (.l (.l (.r (.r (.l (.l (.l .e))))))))),
  .mk .none (.dyn 25 [(.t (.r (.l (.l (.r (.r (.l (.l (.l .e)))))))))]) (.call 25 [(.t (.r (.l (.l (.r (.r (.l (.l (.l .e)))))))))] ⟨8, opAt XP 6 11 3⟩) (.call 25 [(.t (.r (.l (.l (.r (.r (.l (.l (.l .e)))))))))] ⟨8, opAt XP 6 11 3⟩) (some (.l (.r (.l (.r (.r (.l (.l (.l .e))))))))),
  .mk .none (.dyn 26 [(.c (.tc (.sc (.int .u8 1)))), (.c (.tc (.sc (.int .u8 1)))), (.c (.tc (.sc (.int .u8 0))))]) (.call 26 [(.c (.tc (.sc (.int .u8 1)))), (.c (.tc (.sc (.int .u8 1)))), (.c (.tc (.sc (.int .u8 0))))] ⟨8, opAt XP 6 11 4⟩) (.call 26 [(.c (.tc (.sc (.int .u8 1)))), (.c (.tc (.sc (.int .u8 1)))), (.c (.tc (.sc (.int .u8 0))))] ⟨8, opAt XP 6 11 4⟩) (some (.r (.r (.l (.r (.r (.l (.l (.l .e))))))))),
  .mk .none (.dyn 26 [(.c (.tc (.sc (.int .u8 1)))), (.c (.tc (.sc (.int .u8 2)))), (.c (.tc (.sc (.int .u8 1))))]) (.call 26 [(.c (.tc (.sc (.int .u8 1)))), (.c (.tc (.sc (.int .u8 2)))), (.c (.tc (.sc (.int .u8 1))))] ⟨8, opAt XP 6 11 5⟩) (.call 26 [(.c (.tc (.sc (.int .u8 1)))), (.c (.tc (.sc (.int .u8 2)))), (.c (.tc (.sc (.int .u8 1))))] ⟨8, opAt XP 6 11 5⟩) (some (.l (.l (.r (.r (.r (.l (.l (.l .e))))))))),
  .mk .none .yes (.bt 11 [[(.tc (.sc (.int .u8 0))), (.tc (.sc (.int .u8 0))), (.tc (.sc (.int .u8 0))), (.tc (.sc (.int .u8 0))), (.tc (.sc (.int .u8 0))), (.tc (.sc (.int .u8 0))), (.tc (.sc (.int .u8 0))), (.tc (.sc (.bool false))), (.tc (.sc (.bool false))), (.tc (.sc (.int .u16 0))), (.tc (.sc (.int .i64 0)))], [(.tc (.sc (.int .u8 0))), (.tc (.sc (.int .u8 0))), (.tc (.sc (.int .u8 0))), (.tc (.sc (.int .u8 0))), (.tc (.sc (.int .u8 0))), (.tc (.sc (.int .u8 0))), (.tc (.sc (.int .u8 0))), (.tc (.sc (.bool false))), (.tc (.sc (.bool false))), (.tc (.sc (.int .u16 0))), (.tc (.sc (.int .i64 0)))]] [(.mk 0 11 (.t (.r (.r (.l (.r (.r (.l (.l (.l .e)))))))))), (.mk 1 11 (.t (.l (.l (.r (.r (.r (.l (.l (.l .e))))))))))] ⟨8, opAt XP 6 11 6⟩) (.bs 11 2 [[(.tc (.sc (.int .u8 0))), (.tc (.sc (.int .u8 0))), (.tc (.sc (.int .u8 0))), (.tc (.sc (.int .u8 0))), (.tc (.sc (.int .u8 0))), (.tc (.sc (.int .u8 0))), (.tc (.sc (.int .u8 0))), (.tc (.sc (.bool false))), (.tc (.sc (.bool false))), (.tc (.sc (.int .u16 0))), (.tc (.sc (.int .i64 0)))], [(.tc (.sc (.int .u8 0))), (.tc (.sc (.int .u8 0))), (.tc (.sc (.int .u8 0))), (.tc (.sc (.int .u8 0))), (.tc (.sc (.int .u8 0))), (.tc (.sc (.int .u8 0))), (.tc (.sc (.int .u8 0))), (.tc (.sc (.bool false))), (.tc (.sc (.bool false))), (.tc (.sc (.int .u16 0))), (.tc (.sc (.int .i64 0)))]] [(.mk 0 11 (.t (.r (.r (.l (.r (.r (.l (.l (.l .e)))))))))), (.mk 1 11 (.t (.l (.l (.r (.r (.r (.l (.l (.l .e))))))))))] ⟨8, opAt XP 6 11 6⟩) (some (.r (.l (.r (.r (.r (.l (.l (.l .e))))))))),
  .mk .none (.dyn 25 [(.t (.r (.l (.r (.r (.r (.l (.l (.l .e)))))))))]) (.call 25 [(.t (.r (.l (.r (.r (.r (.l (.l (.l .e)))))))))] ⟨8, opAt XP 6 11 7⟩) (.call 25 [(.t (.r (.l (.r (.r (.r (.l (.l (.l .e)))))))))] ⟨8, opAt XP 6 11 7⟩) (some (.l (.r (.r (.r (.r (.l (.l (.l .e))))))))),
  .mk .none (.dyn 26 [(.c (.tc (.sc (.int .u8 1)))), (.c (.tc (.sc (.int .u8 1)))), (.c (.tc (.sc (.int .u8 0))))]) (.call 26 [(.c (.tc (.sc (.int .u8 1)))), (.c (.tc (.sc (.int .u8 1)))), (.c (.tc (.sc (.int .u8 0))))] ⟨8, opAt XP 6 11 8⟩) (.call 26 [(.c (.tc (.sc (.int .u8 1)))), (.c (.tc (.sc (.int .u8 1)))), (.c (.tc (.sc (.int .u8 0))))] ⟨8, opAt XP 6 11 8⟩) (some (.r (.r (.r (.r (.r (.l (.l (.l .e))))))))),
  .mk .none (.dyn 26 [(.c (.tc (.sc (.int .u8 1)))), (.c (.tc (.sc (.int .u8 2)))), (.c (.tc (.sc (.int .u8 0))))]) (.call 26 [(.c (.tc (.sc (.int .u8 1)))), (.c (.tc (.sc (.int .u8 2)))), (.c (.tc (.sc (.int .u8 0))))] ⟨8, opAt XP 6 11 9⟩) (.call 26 [(.c (.tc (.sc (.int .u8 1)))), (.c (.tc (.sc (.int .u8 2)))), (.c (.tc (.sc (.int .u8 0))))] ⟨8, opAt XP 6 11 9⟩) (some (.l (.l (.l (.l (.l (.r (.l (.l .e))))))))),
  .mk .none (.dyn 26 [(.c (.tc (.sc (.int .u8 1)))), (.c (.tc (.sc (.int .u8 1)))), (.c (.tc (.sc (.int .u8 0))))]) (.call 26 [(.c (.tc (.sc (.int .u8 1)))), (.c (.tc (.sc (.int .u8 1)))), (.c (.tc (.sc (.int .u8 0))))] ⟨8, opAt XP 6 11 10⟩) (.call 26 [(.c (.tc (.sc (.int .u8 1)))), (.c (.tc (.sc (.int .u8 1)))), (.c (.tc (.sc (.int .u8 0))))] ⟨8, opAt XP 6 11 10⟩) (some (.r (.l (.l (.l (.l (.r (.l (.l .e))))))))),
  .mk .none .yes (.bt 11 [[(.tc (.sc (.int .u8 0))), (.tc (.sc (.int .u8 0))), (.tc (.sc (.int .u8 0))), (.tc (.sc (.int .u8 0))), (.tc (.sc (.int .u8 0))), (.tc (.sc (.int .u8 0))), (.tc (.sc (.int .u8 0))), (.tc (.sc (.bool false))), (.tc (.sc (.bool false))), (.tc (.sc (.int .u16 0))), (.tc (.sc (.int .i64 0)))], [(.tc (.sc (.int .u8 0))), (.tc (.sc (.int .u8 0))), (.tc (.sc (.int .u8 0))), (.tc (.sc (.int .u8 0))), (.tc (.sc (.int .u8 0))), (.tc (.sc (.int .u8 0))), (.tc (.sc (.int .u8 0))), (.tc (.sc (.bool false))), (.tc (.sc (.bool false))), (.tc (.sc (.int .u16 0))), (.tc (.sc (.int .i64 0)))], [(.tc (.sc (.int .u8 0))), (.tc (.sc (.int .u8 0))), (.tc (.sc (.int .u8 0))), (.tc (.sc (.int .u8 0))), (.tc (.sc (.int .u8 0))), (.tc (.sc (.int .u8 0))), (.tc (.sc (.int .u8 0))), (.tc (.sc (.bool false))), (.tc (.sc (.bool false))), (.tc (.sc (.int .u16 0))), (.tc (.sc (.int .i64 0)))]] [(.mk 0 11 (.t (.r (.r (.r (.r (.r (.l (.l (.l .e)))))))))), (.mk 1 11 (.t (.l (.l (.l (.l (.l (.r (.l (.l .e)))))))))), (.mk 2 11 (.t (.r (.l (.l (.l (.l (.r (.l (.l .e))))))))))] ⟨8, opAt XP 6 11 11⟩) (.bs 11 3 [[(.tc (.sc (.int .u8 0))), (.tc (.sc (.int .u8 0))), (.tc (.sc (.int .u8 0))), (.tc (.sc (.int .u8 0))), (.tc (.sc (.int .u8 0))), (.tc (.sc (.int .u8 0))), (.tc (.sc (.int .u8 0))), (.tc (.sc (.bool false))), (.tc (.sc (.bool false))), (.tc (.sc (.int .u16 0))), (.tc (.sc (.int .i64 0)))], [(.tc (.sc (.int .u8 0))), (.tc (.sc (.int .u8 0))), (.tc (.sc (.int .u8 0))), (.tc (.sc (.int .u8 0))), (.tc (.sc (.int .u8 0))), (.tc (.sc (.int .u8 0))), (.tc (.sc (.int .u8 0))), (.tc (.sc (.bool false))), (.tc (.sc (.bool false))), (.tc (.sc (.int .u16 0))), (.tc (.sc (.int .i64 0)))], [(.tc (.sc (.int .u8 0))), (.tc (.sc (.int .u8 0))), (.tc (.sc (.int .u8 0))), (.tc (.sc (.int .u8 0))), (.tc (.sc (.int .u8 0))), (.tc (.sc (.int .u8 0))), (.tc (.sc (.int .u8 0))), (.tc (.sc (.bool false))), (.tc (.sc (.bool false))), (.tc (.sc (.int .u16 0))), (.tc (.sc (.int .i64 0)))]] [(.mk 0 11 (.t (.r (.r (.r (.r (.r (.l (.l (.l .e)))))))))), (.mk 1 11 (.t (.l (.l (.l (.l (.l (.r (.l (.l .e)))))))))), (.mk 2 11 (.t (.r (.l (.l (.l (.l (.r (.l (.l .e))))))))))] ⟨8, opAt XP 6 11 11⟩) (some (.l (.r (.l (.l (.l (.r (.l (.l .e))))))))),
  .mk .none (.dyn 25 [(.t (.l (.r (.l (.l (.l (.r (.l (.l .e)))))))))]) (.call 25 [(.t (.l (.r (.l (.l (.l (.r (.l (.l .e)))))))))] ⟨8, opAt XP 6 11 12⟩) (.call 25 [(.t (.l (.r (.l (.l (.l (.r (.l (.l .e)))))))))] ⟨8, opAt XP 6 11 12⟩) (some (.r (.r (.l (.l (.l (.r (.l (.l .e))))))))),
  .mk .none .yes (.ld true 11 (.t (.r (.l (.l (.l (.l (.l (.l (.l .e)))))))))) (.ld true 11 (.t (.r (.l (.l (.l (.l (.l (.l (.l .e)))))))))) (some (.l (.l (.r (.l (.l (.r (.l (.l .e))))))))),
  .mk .none .yes (.ld true 11 (.t (.l (.r (.l (.l (.l (.l (.l (.l .e)))))))))) (.ld true 11 (.t (.l (.r (.l (.l (.l (.l (.l (.l .e)))))))))) (some (.r (.l (.r (.l (.l (.r (.l (.l .e))))))))),
  .mk .none .yes (.bt 11 [[(.tc (.sc (.int .u8 0))), (.tc (.sc (.int .u8 0))), (.tc (.sc (.int .u8 0))), (.tc (.sc (.int .u8 0))), (.tc (.sc (.int .u8 0))), (.tc (.sc (.int .u8 0))), (.tc (.sc (.int .u8 0))), (.tc (.sc (.bool false))), (.tc (.sc (.bool false))), (.tc (.sc (.int .u16 0))), (.tc (.sc (.int .i64 0)))], [(.tc (.sc (.int .u8 0))), (.tc (.sc (.int .u8 0))), (.tc (.sc (.int .u8 0))), (.tc (.sc (.int .u8 0))), (.tc (.sc (.int .u8 0))), (.tc (.sc (.int .u8 0))), (.tc (.sc (.int .u8 0))), (.tc (.sc (.bool false))), (.tc (.sc (.bool false))), (.tc (.sc (.int .u16 0))), (.tc (.sc (.int .i64 0)))]] [(.mk 0 11 (.t (.l (.l (.r (.l (.l (.r (.l (.l .e)))))))))), (.mk 1 11 (.t (.r (.l (.r (.l (.l (.r (.l (.l .e))))))))))] ⟨8, opAt XP 6 11 15⟩) (.bs 11 2 [[(.tc (.sc (.int .u8 0))), (.tc (.sc (.int .u8 0))), (.tc (.sc (.int .u8 0))), (.tc (.sc (.int .u8 0))), (.tc (.sc (.int .u8 0))), (.tc (.sc (.int .u8 0))), (.tc (.sc (.int .u8 0))), (.tc (.sc (.bool false))), (.tc (.sc (.bool false))), (.tc (.sc (.int .u16 0))), (.tc (.sc (.int .i64 0)))], [(.tc (.sc (.int .u8 0))), (.tc (.sc (.int .u8 0))), (.tc (.sc (.int .u8 0))), (.tc (.sc (.int .u8 0))), (.tc (.sc (.int .u8 0))), (.tc (.sc (.int .u8 0))), (.tc (.sc (.int .u8 0))), (.tc (.sc (.bool false))), (.tc (.sc (.bool false))), (.tc (.sc (.int .u16 0))), (.tc (.sc (.int .i64 0)))]] [(.mk 0 11 (.t (.l (.l (.r (.l (.l (.r (.l (.l .e)))))))))), (.mk 1 11 (.t (.r (.l (.r (.l (.l (.r (.l (.l .e))))))))))] ⟨8, opAt XP 6 11 15⟩) (some (.l (.r (.r (.l (.l (.r (.l (.l .e))))))))),
  .mk .none (.dyn 25 [(.t (.l (.r (.r (.l (.l (.r (.l (.l .e)))))))))]) (.call 25 [(.t (.l (.r (.r (.l (.l (.r (.l (.l .e)))))))))] ⟨8, opAt XP 6 11 16⟩) (.call 25 [(.t (.l (.r (.r (.l (.l (.r (.l (.l .e)))))))))] ⟨8, opAt XP 6 11 16⟩) (some (.r (.r (.r (.l (.l (.r (.l (.l .e))))))))),
  .mk .none .yes (.ld true 11 (.t (.l (.r (.l (.l (.l (.l (.l (.l .e)))))))))) (.ld true 11 (.t (.l (.r (.l (.l (.l (.l (.l (.l .e)))))))))) (some (.l (.l (.l (.r (.l (.r (.l (.l .e))))))))),
  .mk .none .yes (.bt 11 [[(.tc (.sc (.int .u8 0))), (.tc (.sc (.int .u8 0))), (.tc (.sc (.int .u8 0))), (.tc (.sc (.int .u8 0))), (.tc (.sc (.int .u8 0))), (.tc (.sc (.int .u8 0))), (.tc (.sc (.int .u8 0))), (.tc (.sc (.bool false))), (.tc (.sc (.bool false))), (.tc (.sc (.int .u16 0))), (.tc (.sc (.int .i64 0)))]] [(.mk 0 11 (.t (.l (.l (.l (.r (.l (.r (.l (.l .e))))))))))] ⟨8, opAt XP 6 11 18⟩) (.bs 11 1 [[(.tc (.sc (.int .u8 0))), (.tc (.sc (.int .u8 0))), (.tc (.sc (.int .u8 0))), (.tc (.sc (.int .u8 0))), (.tc (.sc (.int .u8 0))), (.tc (.sc (.int .u8 0))), (.tc (.sc (.int .u8 0))), (.tc (.sc (.bool false))), (.tc (.sc (.bool false))), (.tc (.sc (.int .u16 0))), (.tc (.sc (.int .i64 0)))]] [(.mk 0 11 (.t (.l (.l (.l (.r (.l (.r (.l (.l .e))))))))))] ⟨8, opAt XP 6 11 18⟩) (some (.r (.l (.l (.r (.l (.r (.l (.l .e))))))))),
  .mk .none (.dyn 25 [(.t (.r (.l (.l (.r (.l (.r (.l (.l .e)))))))))]) (.call 25 [(.t (.r (.l (.l (.r (.l (.r (.l (.l .e)))))))))] ⟨8, opAt XP 6 11 19⟩) (.call 25 [(.t (.r (.l (.l (.r (.l (.r (.l (.l .e)))))))))] ⟨8, opAt XP 6 11 19⟩) (some (.l (.r (.l (.r (.l (.r (.l (.l .e))))))))),
  .mk .none .yes (.ld true 11 (.t (.r (.r (.l (.l (.l (.l (.l (.l .e)))))))))) (.ld true 11 (.t (.r (.r (.l (.l (.l (.l (.l (.l .e)))))))))) (some (.r (.r (.l (.r (.l (.r (.l (.l .e))))))))),
  .mk .none .yes (.ld true 11 (.t (.l (.l (.l (.r (.l (.l (.l (.l .e)))))))))) (.ld true 11 (.t (.l (.l (.l (.r (.l (.l (.l (.l .e)))))))))) (some (.l (.l (.r (.r (.l (.r (.l (.l .e))))))))),
  .mk .none .yes (.bt 11 [[(.tc (.sc (.int .u8 0))), (.tc (.sc (.int .u8 0))), (.tc (.sc (.int .u8 0))), (.tc (.sc (.int .u8 0))), (.tc (.sc (.int .u8 0))), (.tc (.sc (.int .u8 0))), (.tc (.sc (.int .u8 0))), (.tc (.sc (.bool false))), (.tc (.sc (.bool false))), (.tc (.sc (.int .u16 0))), (.tc (.sc (.int .i64 0)))], [(.tc (.sc (.int .u8 0))), (.tc (.sc (.int .u8 0))), (.tc (.sc (.int .u8 0))), (.tc (.sc (.int .u8 0))), (.tc (.sc (.int .u8 0))), (.tc (.sc (.int .u8 0))), (.tc (.sc (.int .u8 0))), (.tc (.sc (.bool false))), (.tc (.sc (.bool false))), (.tc (.sc (.int .u16 0))), (.tc (.sc (.int .i64 0)))]] [(.mk 0 11 (.t (.r (.r (.l (.r (.l (.r (.l (.l .e)))))))))), (.mk 1 11 (.t (.l (.l (.r (.r (.l (.r (.l (.l .e))))))))))] ⟨8, opAt XP 6 11 22⟩) (.bs 11 2 [[(.tc (.sc (.int .u8 0))), (.tc (.sc (.int .u8 0))), (.tc (.sc (.int .u8 0))), (.tc (.sc (.int .u8 0))), (.tc (.sc (.int .u8 0))), (.tc (.sc (.int .u8 0))), (.tc (.sc (.int .u8 0))), (.tc (.sc (.bool false))), (.tc (.sc (.bool false))), (.tc (.sc (.int .u16 0))), (.tc (.sc (.int .i64 0)))], [(.tc (.sc (.int .u8 0))), (.tc (.sc (.int .u8 0))), (.tc (.sc (.int .u8 0))), (.tc (.sc (.int .u8 0))), (.tc (.sc (.int .u8 0))), (.tc (.sc (.int .u8 0))), (.tc (.sc (.int .u8 0))), (.tc (.sc (.bool false))), (.tc (.sc (.bool false))), (.tc (.sc (.int .u16 0))), (.tc (.sc (.int .i64 0)))]] [(.mk 0 11 (.t (.r (.r (.l (.r (.l (.r (.l (.l .e)))))))))), (.mk 1 11 (.t (.l (.l (.r (.r (.l (.r (.l (.l .e))))))))))] ⟨8, opAt XP 6 11 22⟩) (some (.r (.l (.r (.r (.l (.r (.l (.l .e))))))))),
  .mk .none (.dyn 25 [(.t (.r (.l (.r (.r (.l (.r (.l (.l .e)))))))))]) (.call 25 [(.t (.r (.l (.r (.r (.l (.r (.l (.l .e)))))))))] ⟨8, opAt XP 6 11 23⟩) (.call 25 [(.t (.r (.l (.r (.r (.l (.r (.l (.l .e)))))))))] ⟨8, opAt XP 6 11 23⟩) (some (.l (.r (.r (.r (.l (.r (.l (.l .e))))))))),
  .mk .none (.dyn 26 [(.c (.tc (.sc (.int .u8 1)))), (.c (.tc (.sc (.int .u8 0)))), (.c (.tc (.sc (.int .u8 0))))]) (.call 26 [(.c (.tc (.sc (.int .u8 1)))), (.c (.tc (.sc (.int .u8 0)))), (.c (.tc (.sc (.int .u8 0))))] ⟨8, opAt XP 6 11 24⟩) (.call 26 [(.c (.tc (.sc (.int .u8 1)))), (.c (.tc (.sc (.int .u8 0)))), (.c (.tc (.sc (.int .u8 0))))] ⟨8, opAt XP 6 11 24⟩) (some (.r (.r (.r (.r (.l (.r (.l (.l .e))))))))),
  .mk .none .yes (.ld true 11 (.t (.l (.l (.r (.l (.l (.l (.l (.l .e)))))))))) (.ld true 11 (.t (.l (.l (.r (.l (.l (.l (.l (.l .e)))))))))) (some (.l (.l (.l (.l (.r (.r (.l (.l .e))))))))),
  .mk .none .yes (.bt 11 [[(.tc (.sc (.int .u8 0))), (.tc (.sc (.int .u8 0))), (.tc (.sc (.int .u8 0))), (.tc (.sc (.int .u8 0))), (.tc (.sc (.int .u8 0))), (.tc (.sc (.int .u8 0))), (.tc (.sc (.int .u8 0))), (.tc (.sc (.bool false))), (.tc (.sc (.bool false))), (.tc (.sc (.int .u16 0))), (.tc (.sc (.int .i64 0)))], [(.tc (.sc (.int .u8 0))), (.tc (.sc (.int .u8 0))), (.tc (.sc (.int .u8 0))), (.tc (.sc (.int .u8 0))), (.tc (.sc (.int .u8 0))), (.tc (.sc (.int .u8 0))), (.tc (.sc (.int .u8 0))), (.tc (.sc (.bool false))), (.tc (.sc (.bool false))), (.tc (.sc (.int .u16 0))), (.tc (.sc (.int .i64 0)))]] [(.mk 0 11 (.t (.r (.r (.r (.r (.l (.r (.l (.l .e)))))))))), (.mk 1 11 (.t (.l (.l (.l (.l (.r (.r (.l (.l .e))))))))))] ⟨8, opAt XP 6 11 26⟩) (.bs 11 2 [[(.tc (.sc (.int .u8 0))), (.tc (.sc (.int .u8 0))), (.tc (.sc (.int .u8 0))), (.tc (.sc (.int .u8 0))), (.tc (.sc (.int .u8 0))), (.tc (.sc (.int .u8 0))), (.tc (.sc (.int .u8 0))), (.tc (.sc (.bool false))), (.tc (.sc (.bool false))), (.tc (.sc (.int .u16 0))), (.tc (.sc (.int .i64 0)))], [(.tc (.sc (.int .u8 0))), (.tc (.sc (.int .u8 0))), (.tc (.sc (.int .u8 0))), (.tc (.sc (.int .u8 0))), (.tc (.sc (.int .u8 0))), (.tc (.sc (.int .u8 0))), (.tc (.sc (.int .u8 0))), (.tc (.sc (.bool false))), (.tc (.sc (.bool false))), (.tc (.sc (.int .u16 0))), (.tc (.sc (.int .i64 0)))]] [(.mk 0 11 (.t (.r (.r (.r (.r (.l (.r (.l (.l .e)))))))))), (.mk 1 11 (.t (.l (.l (.l (.l (.r (.r (.l (.l .e))))))))))] ⟨8, opAt XP 6 11 26⟩) (some (.r (.l (.l (.l (.r (.r (.l (.l .e))))))))),
  .mk .none (.dyn 25 [(.t (.r (.l (.l (.l (.r (.r (.l (.l .e)))))))))]) (.call 25 [(.t (.r (.l (.l (.l (.r (.r (.l (.l .e)))))))))] ⟨8, opAt XP 6 11 27⟩) (.call 25 [(.t (.r (.l (.l (.l (.r (.r (.l (.l .e)))))))))] ⟨8, opAt XP 6 11 27⟩) (some (.l (.r (.l (.l (.r (.r (.l (.l .e))))))))),
  .mk .none .yes (.ld true 11 (.t (.r (.l (.r (.l (.l (.l (.l (.l .e)))))))))) (.ld true 11 (.t (.r (.l (.r (.l (.l (.l (.l (.l .e)))))))))) (some (.r (.r (.l (.l (.r (.r (.l (.l .e))))))))),
  .mk .none .yes (.ld true 11 (.t (.l (.l (.r (.l (.l (.l (.l (.l .e)))))))))) (.ld true 11 (.t (.l (.l (.r (.l (.l (.l (.l (.l .e)))))))))) (some (.l (.l (.r (.l (.r (.r (.l (.l .e))))))))),
  .mk .none .yes (.bt 11 [[(.tc (.sc (.int .u8 0))), (.tc (.sc (.int .u8 0))), (.tc (.sc (.int .u8 0))), (.tc (.sc (.int .u8 0))), (.tc (.sc (.int .u8 0))), (.tc (.sc (.int .u8 0))), (.tc (.sc (.int .u8 0))), (.tc (.sc (.bool false))), (.tc (.sc (.bool false))), (.tc (.sc (.int .u16 0))), (.tc (.sc (.int .i64 0)))], [(.tc (.sc (.int .u8 0))), (.tc (.sc (.int .u8 0))), (.tc (.sc (.int .u8 0))), (.tc (.sc (.int .u8 0))), (.tc (.sc (.int .u8 0))), (.tc (.sc (.int .u8 0))), (.tc (.sc (.int .u8 0))), (.tc (.sc (.bool false))), (.tc (.sc (.bool false))), (.tc (.sc (.int .u16 0))), (.tc (.sc (.int .i64 0)))]] [(.mk 0 11 (.t (.r (.r (.l (.l (.r (.r (.l (.l .e)))))))))), (.mk 1 11 (.t (.l (.l (.r (.l (.r (.r (.l (.l .e))))))))))] ⟨8, opAt XP 6 11 30⟩) (.bs 11 2 [[(.tc (.sc (.int .u8 0))), (.tc (.sc (.int .u8 0))), (.tc (.sc (.int .u8 0))), (.tc (.sc (.int .u8 0))), (.tc (.sc (.int .u8 0))), (.tc (.sc (.int .u8 0))), (.tc (.sc (.int .u8 0))), (.tc (.sc (.bool false))), (.tc (.sc (.bool false))), (.tc (.sc (.int .u16 0))), (.tc (.sc (.int .i64 0)))], [(.tc (.sc (.int .u8 0))), (.tc (.sc (.int .u8 0))), (.tc (.sc (.int .u8 0))), (.tc (.sc (.int .u8 0))), (.tc (.sc (.int .u8 0))), (.tc (.sc (.int .u8 0))), (.tc (.sc (.int .u8 0))), (.tc (.sc (.bool false))), (.tc (.sc (.bool false))), (.tc (.sc (.int .u16 0))), (.tc (.sc (.int .i64 0)))]] [(.mk 0 11 (.t (.r (.r (.l (.l (.r (.r (.l (.l .e)))))))))), (.mk 1 11 (.t (.l (.l (.r (.l (.r (.r (.l (.l .e))))))))))] ⟨8, opAt XP 6 11 30⟩) (some (.r (.l (.r (.l (.r (.r (.l (.l .e))))))))),
  .mk .none (.dyn 25 [(.t (.r (.l (.r (.l (.r (.r (.l (.l .e)))))))))]) (.call 25 [(.t (.r (.l (.r (.l (.r (.r (.l (.l .e)))))))))] ⟨8, opAt XP 6 11 31⟩) (.call 25 [(.t (.r (.l (.r (.l (.r (.r (.l (.l .e)))))))))] ⟨8, opAt XP 6 11 31⟩) (some (.l (.r (.r (.l (.r (.r (.l (.l .e))))))))),
  .mk .none (.dyn 26 [(.c (.tc (.sc (.int .u8 1)))), (.c (.tc (.sc (.int .u8 1)))), (.c (.tc (.sc (.int .u8 0))))]) (.call 26 [(.c (.tc (.sc (.int .u8 1)))), (.c (.tc (.sc (.int .u8 1)))), (.c (.tc (.sc (.int .u8 0))))] ⟨8, opAt XP 6 11 32⟩) (.call 26 [(.c (.tc (.sc (.int .u8 1)))), (.c (.tc (.sc (.int .u8 1)))), (.c (.tc (.sc (.int .u8 0))))] ⟨8, opAt XP 6 11 32⟩) (some (.r (.r (.r (.l (.r (.r (.l (.l .e))))))))),
  .mk .none .yes (.ld true 11 (.t (.l (.l (.r (.l (.l (.l (.l (.l .e)))))))))) (.ld true 11 (.t (.l (.l (.r (.l (.l (.l (.l (.l .e)))))))))) (some (.l (.l (.l (.r (.r (.r (.l (.l .e))))))))),
  .mk .none .yes (.bt 11 [[(.tc (.sc (.int .u8 0))), (.tc (.sc (.int .u8 0))), (.tc (.sc (.int .u8 0))), (.tc (.sc (.int .u8 0))), (.tc (.sc (.int .u8 0))), (.tc (.sc (.int .u8 0))), (.tc (.sc (.int .u8 0))), (.tc (.sc (.bool false))), (.tc (.sc (.bool false))), (.tc (.sc (.int .u16 0))), (.tc (.sc (.int .i64 0)))], [(.tc (.sc (.int .u8 0))), (.tc (.sc (.int .u8 0))), (.tc (.sc (.int .u8 0))), (.tc (.sc (.int .u8 0))), (.tc (.sc (.int .u8 0))), (.tc (.sc (.int .u8 0))), (.tc (.sc (.int .u8 0))), (.tc (.sc (.bool false))), (.tc (.sc (.bool false))), (.tc (.sc (.int .u16 0))), (.tc (.sc (.int .i64 0)))]] [(.mk 0 11 (.t (.r (.r (.r (.l (.r (.r (.l (.l .e)))))))))), (.mk 1 11 (.t (.l (.l (.l (.r (.r (.r (.l (.l .e))))))))))] ⟨8, opAt XP 6 11 34⟩) (.bs 11 2 [[(.tc (.sc (.int .u8 0))), (.tc (.sc (.int .u8 0))), (.tc (.sc (.int .u8 0))), (.tc (.sc (.int .u8 0))), (.tc (.sc (.int .u8 0))), (.tc (.sc (.int .u8 0))), (.tc (.sc (.int .u8 0))), (.tc (.sc (.bool false))), (.tc (.sc (.bool false))), (.tc (.sc (.int .u16 0))), (.tc (.sc (.int .i64 0)))], [(.tc (.sc (.int .u8 0))), (.tc (.sc (.int .u8 0))), (.tc (.sc (.int .u8 0))), (.tc (.sc (.int .u8 0))), (.tc (.sc (.int .u8 0))), (.tc (.sc (.int .u8 0))), (.tc (.sc (.int .u8 0))), (.tc (.sc (.bool false))), (.tc (.sc (.bool false))), (.tc (.sc (.int .u16 0))), (.tc (.sc (.int .i64 0)))]] [(.mk 0 11 (.t (.r (.r (.r (.l (.r (.r (.l (.l .e)))))))))), (.mk 1 11 (.t (.l (.l (.l (.r (.r (.r (.l (.l .e))))))))))] ⟨8, opAt XP 6 11 34⟩) (some (.r (.l (.l (.r (.r (.r (.l (.l .e))))))))),
  .mk .none (.dyn 25 [(.t (.r (.l (.l (.r (.r (.r (.l (.l .e)))))))))]) (.call 25 [(.t (.r (.l (.l (.r (.r (.r (.l (.l .e)))))))))] ⟨8, opAt XP 6 11 35⟩) (.call 25 [(.t (.r (.l (.l (.r (.r (.r (.l (.l .e)))))))))] ⟨8, opAt XP 6 11 35⟩) (some (.l (.r (.l (.r (.r (.r (.l (.l .e))))))))),
  .mk .none (.dyn 26 [(.c (.tc (.sc (.int .u8 1)))), (.c (.tc (.sc (.int .u8 1)))), (.c (.tc (.sc (.int .u8 0))))]) (.call 26 [(.c (.tc (.sc (.int .u8 1)))), (.c (.tc (.sc (.int .u8 1)))), (.c (.tc (.sc (.int .u8 0))))] ⟨8, opAt XP 6 11 36⟩) (.call 26 [(.c (.tc (.sc (.int .u8 1)))), (.c (.tc (.sc (.int .u8 1)))), (.c (.tc (.sc (.int .u8 0))))] ⟨8, opAt XP 6 11 36⟩) (some (.r (.r (.l (.r (.r (.r (.l (.l .e))))))))),
  .mk .none (.dyn 26 [(.c (.tc (.sc (.int .u8 1)))), (.c (.tc (.sc (.int .u8 2)))), (.c (.tc (.sc (.int .u8 0))))]) (.call 26 [(.c (.tc (.sc (.int .u8 1)))), (.c (.tc (.sc (.int .u8 2)))), (.c (.tc (.sc (.int .u8 0))))] ⟨8, opAt XP 6 11 37⟩) (.call 26 [(.c (.tc (.sc (.int .u8 1)))), (.c (.tc (.sc (.int .u8 2)))), (.c (.tc (.sc (.int .u8 0))))] ⟨8, opAt XP 6 11 37⟩) (some (.l (.l (.r (.r (.r (.r (.l (.l .e))))))))),
  .mk .none .yes (.ld true 11 (.t (.l (.l (.r (.l (.l (.l (.l (.l .e)))))))))) (.ld true 11 (.t (.l (.l (.r (.l (.l (.l (.l (.l .e)))))))))) (some (.r (.l (.r (.r (.r (.r (.l (.l .e))))))))),
  .mk .none .yes (.bt 11 [[(.tc (.sc (.int .u8 0))), (.tc (.sc (.int .u8 0))), (.tc (.sc (.int .u8 0))), (.tc (.sc (.int .u8 0))), (.tc (.sc (.int .u8 0))), (.tc (.sc (.int .u8 0))), (.tc (.sc (.int .u8 0))), (.tc (.sc (.bool false))), (.tc (.sc (.bool false))), (.tc (.sc (.int .u16 0))), (.tc (.sc (.int .i64 0)))], [(.tc (.sc (.int .u8 0))), (.tc (.sc (.int .u8 0))), (.tc (.sc (.int .u8 0))), (.tc (.sc (.int .u8 0))), (.tc (.sc (.int .u8 0))), (.tc (.sc (.int .u8 0))), (.tc (.sc (.int .u8 0))), (.tc (.sc (.bool false))), (.tc (.sc (.bool false))), (.tc (.sc (.int .u16 0))), (.tc (.sc (.int .i64 0)))], [(.tc (.sc (.int .u8 0))), (.tc (.sc (.int .u8 0))), (.tc (.sc (.int .u8 0))), (.tc (.sc (.int .u8 0))), (.tc (.sc (.int .u8 0))), (.tc (.sc (.int .u8 0))), (.tc (.sc (.int .u8 0))), (.tc (.sc (.bool false))), (.tc (.sc (.bool false))), (.tc (.sc (.int .u16 0))), (.tc (.sc (.int .i64 0)))]] [(.mk 0 11 (.t (.r (.r (.l (.r (.r (.r (.l (.l .e)))))))))), (.mk 1 11 (.t (.l (.l (.r (.r (.r (.r (.l (.l .e)))))))))), (.mk 2 11 (.t (.r (.l (.r (.r (.r (.r (.l (.l .e))))))))))] ⟨8, opAt XP 6 11 39⟩) (.bs 11 3 [[(.tc (.sc (.int .u8 0))), (.tc (.sc (.int .u8 0))), (.tc (.sc (.int .u8 0))), (.tc (.sc (.int .u8 0))), (.tc (.sc (.int .u8 0))), (.tc (.sc (.int .u8 0))), (.tc (.sc (.int .u8 0))), (.tc (.sc (.bool false))), (.tc (.sc (.bool false))), (.tc (.sc (.int .u16 0))), (.tc (.sc (.int .i64 0)))], [(.tc (.sc (.int .u8 0))), (.tc (.sc (.int .u8 0))), (.tc (.sc (.int .u8 0))), (.tc (.sc (.int .u8 0))), (.tc (.sc (.int .u8 0))), (.tc (.sc (.int .u8 0))), (.tc (.sc (.int .u8 0))), (.tc (.sc (.bool false))), (.tc (.sc (.bool false))), (.tc (.sc (.int .u16 0))), (.tc (.sc (.int .i64 0)))], [(.tc (.sc (.int .u8 0))), (.tc (.sc (.int .u8 0))), (.tc (.sc (.int .u8 0))), (.tc (.sc (.int .u8 0))), (.tc (.sc (.int .u8 0))), (.tc (.sc (.int .u8 0))), (.tc (.sc (.int .u8 0))), (.tc (.sc (.bool false))), (.tc (.sc (.bool false))), (.tc (.sc (.int .u16 0))), (.tc (.sc (.int .i64 0)))]] [(.mk 0 11 (.t (.r (.r (.l (.r (.r (.r (.l (.l .e)))))))))), (.mk 1 11 (.t (.l (.l (.r (.r (.r (.r (.l (.l .e)))))))))), (.mk 2 11 (.t (.r (.l (.r (.r (.r (.r (.l (.l .e))))))))))] ⟨8, opAt XP 6 11 39⟩) (some (.l (.r (.r (.r (.r (.r (.l (.l .e))))))))),
  .mk .none (.dyn 25 [(.t (.l (.r (.r (.r (.r (.r (.l (.l .e)))))))))]) (.call 25 [(.t (.l (.r (.r (.r (.r (.r (.l (.l .e)))))))))] ⟨8, opAt XP 6 11 40⟩) (.call 25 [(.t (.l (.r (.r (.r (.r (.r (.l (.l .e)))))))))] ⟨8, opAt XP 6 11 40⟩) (some (.r (.r (.r (.r (.r (.r (.l (.l .e))))))))),
  .mk .none .yes (.ld true 11 (.t (.l (.l (.l (.r (.l (.l (.l (.l .e)))))))))) (.ld true 11 (.t (.l (.l (.l (.r (.l (.l (.l (.l .e)))))))))) (some (.l (.l (.l (.l (.l (.l (.r (.l .e))))))))),
  .mk .none .yes (.ld true 11 (.t (.r (.l (.l (.r (.l (.l (.l (.l .e)))))))))) (.ld true 11 (.t (.r (.l (.l (.r (.l (.l (.l (.l .e)))))))))) (some (.r (.l (.l (.l (.l (.l (.r (.l .e))))))))),
  .mk .none .yes (.bt 11 [[(.tc (.sc (.int .u8 0))), (.tc (.sc (.int .u8 0))), (.tc (.sc (.int .u8 0))), (.tc (.sc (.int .u8 0))), (.tc (.sc (.int .u8 0))), (.tc (.sc (.int .u8 0))), (.tc (.sc (.int .u8 0))), (.tc (.sc (.bool false))), (.tc (.sc (.bool false))), (.tc (.sc (.int .u16 0))), (.tc (.sc (.int .i64 0)))], [(.tc (.sc (.int .u8 0))), (.tc (.sc (.int .u8 0))), (.tc (.sc (.int .u8 0))), (.tc (.sc (.int .u8 0))), (.tc (.sc (.int .u8 0))), (.tc (.sc (.int .u8 0))), (.tc (.sc (.int .u8 0))), (.tc (.sc (.bool false))), (.tc (.sc (.bool false))), (.tc (.sc (.int .u16 0))), (.tc (.sc (.int .i64 0)))]] [(.mk 0 11 (.t (.l (.l (.l (.l (.l (.l (.r (.l .e)))))))))), (.mk 1 11 (.t (.r (.l (.l (.l (.l (.l (.r (.l .e))))))))))] ⟨8, opAt XP 6 11 43⟩) (.bs 11 2 [[(.tc (.sc (.int .u8 0))), (.tc (.sc (.int .u8 0))), (.tc (.sc (.int .u8 0))), (.tc (.sc (.int .u8 0))), (.tc (.sc (.int .u8 0))), (.tc (.sc (.int .u8 0))), (.tc (.sc (.int .u8 0))), (.tc (.sc (.bool false))), (.tc (.sc (.bool false))), (.tc (.sc (.int .u16 0))), (.tc (.sc (.int .i64 0)))], [(.tc (.sc (.int .u8 0))), (.tc (.sc (.int .u8 0))), (.tc (.sc (.int .u8 0))), (.tc (.sc (.int .u8 0))), (.tc (.sc (.int .u8 0))), (.tc (.sc (.int .u8 0))), (.tc (.sc (.int .u8 0))), (.tc (.sc (.bool false))), (.tc (.sc (.bool false))), (.tc (.sc (.int .u16 0))), (.tc (.sc (.int .i64 0)))]] [(.mk 0 11 (.t (.l (.l (.l (.l (.l (.l (.r (.l .e)))))))))), (.mk 1 11 (.t (.r (.l (.l (.l (.l (.l (.r (.l .e))))))))))] ⟨8, opAt XP 6 11 43⟩) (some (.l (.r (.l (.l (.l (.l (.r (.l .e))))))))),
  .mk .none (.dyn 25 [(.t (.l (.r (.l (.l (.l (.l (.r (.l .e)))))))))]) (.call 25 [(.t (.l (.r (.l (.l (.l (.l (.r (.l .e)))))))))] ⟨8, opAt XP 6 11 44⟩) (.call 25 [(.t (.l (.r (.l (.l (.l (.l (.r (.l .e)))))))))] ⟨8, opAt XP 6 11 44⟩) (some (.r (.r (.l (.l (.l (.l (.r (.l .e))))))))),
  .mk .none .yes (.ld true 11 (.t (.l (.r (.r (.l (.l (.l (.l (.l .e)))))))))) (.ld true 11 (.t (.l (.r (.r (.l (.l (.l (.l (.l .e)))))))))) (some (.l (.l (.r (.l (.l (.l (.r (.l .e))))))))),
  .mk .none .yes (.bt 11 [[(.tc (.sc (.int .u8 0))), (.tc (.sc (.int .u8 0))), (.tc (.sc (.int .u8 0))), (.tc (.sc (.int .u8 0))), (.tc (.sc (.int .u8 0))), (.tc (.sc (.int .u8 0))), (.tc (.sc (.int .u8 0))), (.tc (.sc (.bool false))), (.tc (.sc (.bool false))), (.tc (.sc (.int .u16 0))), (.tc (.sc (.int .i64 0)))]] [(.mk 0 11 (.t (.l (.l (.r (.l (.l (.l (.r (.l .e))))))))))] ⟨8, opAt XP 6 11 46⟩) (.bs 11 1 [[(.tc (.sc (.int .u8 0))), (.tc (.sc (.int .u8 0))), (.tc (.sc (.int .u8 0))), (.tc (.sc (.int .u8 0))), (.tc (.sc (.int .u8 0))), (.tc (.sc (.int .u8 0))), (.tc (.sc (.int .u8 0))), (.tc (.sc (.bool false))), (.tc (.sc (.bool false))), (.tc (.sc (.int .u16 0))), (.tc (.sc (.int .i64 0)))]] [(.mk 0 11 (.t (.l (.l (.r (.l (.l (.l (.r (.l .e))))))))))] ⟨8, opAt XP 6 11 46⟩) (some (.r (.l (.r (.l (.l (.l (.r (.l .e))))))))),
  .mk .none .yes (.bd [(.tc (.sc (.slice none 0 0))), (.tc (.sc (.bool false))), (.tc (.sc (.bool false))), (.tc (.sc (.bool false))), (.tc (.sc (.bool false)))] [(.mk 0 1 (.t (.r (.l (.r (.l (.l (.l (.r (.l .e)))))))))), (.mk 1 1 (.c (.tc (.sc (.bool true)))))] ⟨8, opAt XP 6 11 47⟩) (.bd [(.tc (.sc (.slice none 0 0))), (.tc (.sc (.bool false))), (.tc (.sc (.bool false))), (.tc (.sc (.bool false))), (.tc (.sc (.bool false)))] [(.mk 0 1 (.t (.r (.l (.r (.l (.l (.l (.r (.l .e)))))))))), (.mk 1 1 (.c (.tc (.sc (.bool true)))))] ⟨8, opAt XP 6 11 47⟩) (some (.l (.r (.r (.l (.l (.l (.r (.l .e))))))))),
  .mk .none .yes (.ld true 11 (.t (.r (.r (.l (.l (.l (.l (.l (.l .e)))))))))) (.ld true 11 (.t (.r (.r (.l (.l (.l (.l (.l (.l .e)))))))))) (some (.r (.r (.r (.l (.l (.l (.r (.l .e))))))))),
  .mk .none .yes (.bt 11 [[(.tc (.sc (.int .u8 0))), (.tc (.sc (.int .u8 0))), (.tc (.sc (.int .u8 0))), (.tc (.sc (.int .u8 0))), (.tc (.sc (.int .u8 0))), (.tc (.sc (.int .u8 0))), (.tc (.sc (.int .u8 0))), (.tc (.sc (.bool false))), (.tc (.sc (.bool false))), (.tc (.sc (.int .u16 0))), (.tc (.sc (.int .i64 0)))]] [(.mk 0 11 (.t (.r (.r (.r (.l (.l (.l (.r (.l .e))))))))))] ⟨8, opAt XP 6 11 49⟩) (.bs 11 1 [[(.tc (.sc (.int .u8 0))), (.tc (.sc (.int .u8 0))), (.tc (.sc (.int .u8 0))), (.tc (.sc (.int .u8 0))), (.tc (.sc (.int .u8 0))), (.tc (.sc (.int .u8 0))), (.tc (.sc (.int .u8 0))), (.tc (.sc (.bool false))), (.tc (.sc (.bool false))), (.tc (.sc (.int .u16 0))), (.tc (.sc (.int .i64 0)))]] [(.mk 0 11 (.t (.r (.r (.r (.l (.l (.l (.r (.l .e))))))))))] ⟨8, opAt XP 6 11 49⟩) (some (.l (.l (.l (.r (.l (.l (.r (.l .e))))))))),
  .mk .none .yes (.bd [(.tc (.sc (.slice none 0 0))), (.tc (.sc (.bool false))), (.tc (.sc (.bool false))), (.tc (.sc (.bool false))), (.tc (.sc (.bool false)))] [(.mk 0 1 (.t (.l (.l (.l (.r (.l (.l (.r (.l .e)))))))))), (.mk 1 1 (.c (.tc (.sc (.bool true)))))] ⟨8, opAt XP 6 11 50⟩) (.bd [(.tc (.sc (.slice none 0 0))), (.tc (.sc (.bool false))), (.tc (.sc (.bool false))), (.tc (.sc (.bool false))), (.tc (.sc (.bool false)))] [(.mk 0 1 (.t (.l (.l (.l (.r (.l (.l (.r (.l .e)))))))))), (.mk 1 1 (.c (.tc (.sc (.bool true)))))] ⟨8, opAt XP 6 11 50⟩) (some (.r (.l (.l (.r (.l (.l (.r (.l .e))))))))),
  .mk .none .yes (.ld true 11 (.t (.r (.r (.r (.l (.l (.l (.l (.l .e)))))))))) (.ld true 11 (.t (.r (.r (.r (.l (.l (.l (.l (.l .e)))))))))) (some (.l (.r (.l (.r (.l (.l (.r (.l .e))))))))),
  .mk .none .yes (.bt 11 [[(.tc (.sc (.int .u8 0))), (.tc (.sc (.int .u8 0))), (.tc (.sc (.int .u8 0))), (.tc (.sc (.int .u8 0))), (.tc (.sc (.int .u8 0))), (.tc (.sc (.int .u8 0))), (.tc (.sc (.int .u8 0))), (.tc (.sc (.bool false))), (.tc (.sc (.bool false))), (.tc (.sc (.int .u16 0))), (.tc (.sc (.int .i64 0)))]] [(.mk 0 11 (.t (.l (.r (.l (.r (.l (.l (.r (.l .e))))))))))] ⟨8, opAt XP 6 11 52⟩) (.bs 11 1 [[(.tc (.sc (.int .u8 0))), (.tc (.sc (.int .u8 0))), (.tc (.sc (.int .u8 0))), (.tc (.sc (.int .u8 0))), (.tc (.sc (.int .u8 0))), (.tc (.sc (.int .u8 0))), (.tc (.sc (.int .u8 0))), (.tc (.sc (.bool false))), (.tc (.sc (.bool false))), (.tc (.sc (.int .u16 0))), (.tc (.sc (.int .i64 0)))]] [(.mk 0 11 (.t (.l (.r (.l (.r (.l (.l (.r (.l .e))))))))))] ⟨8, opAt XP 6 11 52⟩) (some (.r (.r (.l (.r (.l (.l (.r (.l .e))))))))),
  .mk .none .yes (.bd [(.tc (.sc (.slice none 0 0))), (.tc (.sc (.bool false))), (.tc (.sc (.bool false))), (.tc (.sc (.bool false))), (.tc (.sc (.bool false)))] [(.mk 0 1 (.t (.r (.r (.l (.r (.l (.l (.r (.l .e)))))))))), (.mk 2 1 (.c (.tc (.sc (.bool true)))))] ⟨8, opAt XP 6 11 53⟩) (.bd [(.tc (.sc (.slice none 0 0))), (.tc (.sc (.bool false))), (.tc (.sc (.bool false))), (.tc (.sc (.bool false))), (.tc (.sc (.bool false)))] [(.mk 0 1 (.t (.r (.r (.l (.r (.l (.l (.r (.l .e)))))))))), (.mk 2 1 (.c (.tc (.sc (.bool true)))))] ⟨8, opAt XP 6 11 53⟩) (some (.l (.l (.r (.r (.l (.l (.r (.l .e))))))))),
  .mk .none .yes (.bd [(.tc (.sc (.slice none 0 0))), (.tc (.sc (.bool false))), (.tc (.sc (.bool false))), (.tc (.sc (.bool false))), (.tc (.sc (.bool false)))] [] ⟨8, opAt XP 6 11 54⟩) (.bd [(.tc (.sc (.slice none 0 0))), (.tc (.sc (.bool false))), (.tc (.sc (.bool false))), (.tc (.sc (.bool false))), (.tc (.sc (.bool false)))] [] ⟨8, opAt XP 6 11 54⟩) (some (.r (.l (.r (.r (.l (.l (.r (.l .e))))))))),
  .mk .none .yes (.ld true 11 (.t (.l (.r (.r (.l (.l (.l (.l (.l .e)))))))))) (.ld true 11 (.t (.l (.r (.r (.l (.l (.l (.l (.l .e)))))))))) (some (.l (.r (.r (.r (.l (.l (.r (.l .e))))))))),
  .mk .none .yes (.ld true 11 (.t (.l (.r (.r (.l (.l (.l (.l (.l .e)))))))))) (.ld true 11 (.t (.l (.r (.r (.l (.l (.l (.l (.l .e)))))))))) (some (.r (.r (.r (.r (.l (.l (.r (.l .e))))))))),
  .mk .none .yes (.ld true 11 (.t (.l (.r (.r (.l (.l (.l (.l (.l .e)))))))))) (.ld true 11 (.t (.l (.r (.r (.l (.l (.l (.l (.l .e)))))))))) (some (.l (.l (.l (.l (.r (.l (.r (.l .e))))))))),
  .mk .none .yes (.ld true 11 (.t (.l (.r (.r (.l (.l (.l (.l (.l .e)))))))))) (.ld true 11 (.t (.l (.r (.r (.l (.l (.l (.l (.l .e)))))))))) (some (.r (.l (.l (.l (.r (.l (.r (.l .e))))))))),
  .mk .none .yes (.ld true 11 (.t (.l (.r (.r (.l (.l (.l (.l (.l .e)))))))))) (.ld true 11 (.t (.l (.r (.r (.l (.l (.l (.l (.l .e)))))))))) (some (.l (.r (.l (.l (.r (.l (.r (.l .e))))))))),
  .mk .none .yes (.bt 11 [[(.tc (.sc (.int .u8 0))), (.tc (.sc (.int .u8 0))), (.tc (.sc (.int .u8 0))), (.tc (.sc (.int .u8 0))), (.tc (.sc (.int .u8 0))), (.tc (.sc (.int .u8 0))), (.tc (.sc (.int .u8 0))), (.tc (.sc (.bool false))), (.tc (.sc (.bool false))), (.tc (.sc (.int .u16 0))), (.tc (.sc (.int .i64 0)))], [(.tc (.sc (.int .u8 0))), (.tc (.sc (.int .u8 0))), (.tc (.sc (.int .u8 0))), (.tc (.sc (.int .u8 0))), (.tc (.sc (.int .u8 0))), (.tc (.sc (.int .u8 0))), (.tc (.sc (.int .u8 0))), (.tc (.sc (.bool false))), (.tc (.sc (.bool false))), (.tc (.sc (.int .u16 0))), (.tc (.sc (.int .i64 0)))], [(.tc (.sc (.int .u8 0))), (.tc (.sc (.int .u8 0))), (.tc (.sc (.int .u8 0))), (.tc (.sc (.int .u8 0))), (.tc (.sc (.int .u8 0))), (.tc (.sc (.int .u8 0))), (.tc (.sc (.int .u8 0))), (.tc (.sc (.bool false))), (.tc (.sc (.bool false))), (.tc (.sc (.int .u16 0))), (.tc (.sc (.int .i64 0)))], [(.tc (.sc (.int .u8 0))), (.tc (.sc (.int .u8 0))), (.tc (.sc (.int .u8 0))), (.tc (.sc (.int .u8 0))), (.tc (.sc (.int .u8 0))), (.tc (.sc (.int .u8 0))), (.tc (.sc (.int .u8 0))), (.tc (.sc (.bool false))), (.tc (.sc (.bool false))), (.tc (.sc (.int .u16 0))), (.tc (.sc (.int .i64 0)))], [(.tc (.sc (.int .u8 0))), (.tc (.sc (.int .u8 0))), (.tc (.sc (.int .u8 0))), (.tc (.sc (.int .u8 0))), (.tc (.sc (.int .u8 0))), (.tc (.sc (.int .u8 0))), (.tc (.sc (.int .u8 0))), (.tc (.sc (.bool false))), (.tc (.sc (.bool false))), (.tc (.sc (.int .u16 0))), (.tc (.sc (.int .i64 0)))]] [(.mk 0 11 (.t (.l (.r (.r (.r (.l (.l (.r (.l .e)))))))))), (.mk 1 11 (.t (.r (.r (.r (.r (.l (.l (.r (.l .e)))))))))), (.mk 2 11 (.t (.l (.l (.l (.l (.r (.l (.r (.l .e)))))))))), (.mk 3 11 (.t (.r (.l (.l (.l (.r (.l (.r (.l .e)))))))))), (.mk 4 11 (.t (.l (.r (.l (.l (.r (.l (.r (.l .e))))))))))] ⟨8, opAt XP 6 11 60⟩) (.bs 11 5 [[(.tc (.sc (.int .u8 0))), (.tc (.sc (.int .u8 0))), (.tc (.sc (.int .u8 0))), (.tc (.sc (.int .u8 0))), (.tc (.sc (.int .u8 0))), (.tc (.sc (.int .u8 0))), (.tc (.sc (.int .u8 0))), (.tc (.sc (.bool false))), (.tc (.sc (.bool false))), (.tc (.sc (.int .u16 0))), (.tc (.sc (.int .i64 0)))], [(.tc (.sc (.int .u8 0))), (.tc (.sc (.int .u8 0))), (.tc (.sc (.int .u8 0))), (.tc (.sc (.int .u8 0))), (.tc (.sc (.int .u8 0))), (.tc (.sc (.int .u8 0))), (.tc (.sc (.int .u8 0))), (.tc (.sc (.bool false))), (.tc (.sc (.bool false))), (.tc (.sc (.int .u16 0))), (.tc (.sc (.int .i64 0)))], [(.tc (.sc (.int .u8 0))), (.tc (.sc (.int .u8 0))), (.tc (.sc (.int .u8 0))), (.tc (.sc (.int .u8 0))), (.tc (.sc (.int .u8 0))), (.tc (.sc (.int .u8 0))), (.tc (.sc (.int .u8 0))), (.tc (.sc (.bool false))), (.tc (.sc (.bool false))), (.tc (.sc (.int .u16 0))), (.tc (.sc (.int .i64 0)))], [(.tc (.sc (.int .u8 0))), (.tc (.sc (.int .u8 0))), (.tc (.sc (.int .u8 0))), (.tc (.sc (.int .u8 0))), (.tc (.sc (.int .u8 0))), (.tc (.sc (.int .u8 0))), (.tc (.sc (.int .u8 0))), (.tc (.sc (.bool false))), (.tc (.sc (.bool false))), (.tc (.sc (.int .u16 0))), (.tc (.sc (.int .i64 0)))], [(.tc (.sc (.int .u8 0))), (.tc (.sc (.int .u8 0))), (.tc (.sc (.int .u8 0))), (.tc (.sc (.int .u8 0))), (.tc (.sc (.int .u8 0))), (.tc (.sc (.int .u8 0))), (.tc (.sc (.int .u8 0))), (.tc (.sc (.bool false))), (.tc (.sc (.bool false))), (.tc (.sc (.int .u16 0))), (.tc (.sc (.int .i64 0)))]] [(.mk 0 11 (.t (.l (.r (.r (.r (.l (.l (.r (.l .e)))))))))), (.mk 1 11 (.t (.r (.r (.r (.r (.l (.l (.r (.l .e)))))))))), (.mk 2 11 (.t (.l (.l (.l (.l (.r (.l (.r (.l .e)))))))))), (.mk 3 11 (.t (.r (.l (.l (.l (.r (.l (.r (.l .e)))))))))), (.mk 4 11 (.t (.l (.r (.l (.l (.r (.l (.r (.l .e))))))))))] ⟨8, opAt XP 6 11 60⟩) (some (.r (.r (.l (.l (.r (.l (.r (.l .e))))))))),
  .mk .none (.dyn 25 [(.t (.r (.r (.l (.l (.r (.l (.r (.l .e)))))))))]) (.call 25 [(.t (.r (.r (.l (.l (.r (.l (.r (.l .e)))))))))] ⟨8, opAt XP 6 11 61⟩) (.call 25 [(.t (.r (.r (.l (.l (.r (.l (.r (.l .e)))))))))] ⟨8, opAt XP 6 11 61⟩) (some (.l (.l (.r (.l (.r (.l (.r (.l .e))))))))),
  .mk .none .yes (.bd [(.tc (.sc (.int .u8 0))), (.tc (.sc (.int .u8 0))), (.tc (.sc (.int .u8 0))), (.tc (.sc (.int .u8 0))), (.tc (.sc (.int .u8 0))), (.tc (.sc (.int .u8 0))), (.tc (.sc (.int .u8 0))), (.tc (.sc (.bool false))), (.tc (.sc (.bool false))), (.tc (.sc (.int .u16 0))), (.tc (.sc (.int .i64 0)))] [] ⟨8, opAt XP 6 11 62⟩) (.bd [(.tc (.sc (.int .u8 0))), (.tc (.sc (.int .u8 0))), (.tc (.sc (.int .u8 0))), (.tc (.sc (.int .u8 0))), (.tc (.sc (.int .u8 0))), (.tc (.sc (.int .u8 0))), (.tc (.sc (.int .u8 0))), (.tc (.sc (.bool false))), (.tc (.sc (.bool false))), (.tc (.sc (.int .u16 0))), (.tc (.sc (.int .i64 0)))] [] ⟨8, opAt XP 6 11 62⟩) (some (.r (.l (.r (.l (.r (.l (.r (.l .e))))))))),
  .mk .none .yes (.bt 11 [[(.tc (.sc (.int .u8 0))), (.tc (.sc (.int .u8 0))), (.tc (.sc (.int .u8 0))), (.tc (.sc (.int .u8 0))), (.tc (.sc (.int .u8 0))), (.tc (.sc (.int .u8 0))), (.tc (.sc (.int .u8 0))), (.tc (.sc (.bool false))), (.tc (.sc (.bool false))), (.tc (.sc (.int .u16 0))), (.tc (.sc (.int .i64 0)))]] [(.mk 0 11 (.t (.r (.l (.r (.l (.r (.l (.r (.l .e))))))))))] ⟨8, opAt XP 6 11 63⟩) (.bs 11 1 [[(.tc (.sc (.int .u8 0))), (.tc (.sc (.int .u8 0))), (.tc (.sc (.int .u8 0))), (.tc (.sc (.int .u8 0))), (.tc (.sc (.int .u8 0))), (.tc (.sc (.int .u8 0))), (.tc (.sc (.int .u8 0))), (.tc (.sc (.bool false))), (.tc (.sc (.bool false))), (.tc (.sc (.int .u16 0))), (.tc (.sc (.int .i64 0)))]] [(.mk 0 11 (.t (.r (.l (.r (.l (.r (.l (.r (.l .e))))))))))] ⟨8, opAt XP 6 11 63⟩) (some (.l (.r (.r (.l (.r (.l (.r (.l .e))))))))),
  .mk .none (.dyn 25 [(.t (.l (.r (.r (.l (.r (.l (.r (.l .e)))))))))]) (.call 25 [(.t (.l (.r (.r (.l (.r (.l (.r (.l .e)))))))))] ⟨8, opAt XP 6 11 64⟩) (.call 25 [(.t (.l (.r (.r (.l (.r (.l (.r (.l .e)))))))))] ⟨8, opAt XP 6 11 64⟩) (some (.r (.r (.r (.l (.r (.l (.r (.l .e))))))))),
  .mk .none .yes (.ld true 11 (.t (.l (.r (.r (.l (.l (.l (.l (.l .e)))))))))) (.ld true 11 (.t (.l (.r (.r (.l (.l (.l (.l (.l .e)))))))))) (some (.l (.l (.l (.r (.r (.l (.r (.l .e))))))))),
  .mk .none .yes (.bt 11 [[(.tc (.sc (.int .u8 0))), (.tc (.sc (.int .u8 0))), (.tc (.sc (.int .u8 0))), (.tc (.sc (.int .u8 0))), (.tc (.sc (.int .u8 0))), (.tc (.sc (.int .u8 0))), (.tc (.sc (.int .u8 0))), (.tc (.sc (.bool false))), (.tc (.sc (.bool false))), (.tc (.sc (.int .u16 0))), (.tc (.sc (.int .i64 0)))]] [(.mk 0 11 (.t (.l (.l (.l (.r (.r (.l (.r (.l .e))))))))))] ⟨8, opAt XP 6 11 66⟩) (.bs 11 1 [[(.tc (.sc (.int .u8 0))), (.tc (.sc (.int .u8 0))), (.tc (.sc (.int .u8 0))), (.tc (.sc (.int .u8 0))), (.tc (.sc (.int .u8 0))), (.tc (.sc (.int .u8 0))), (.tc (.sc (.int .u8 0))), (.tc (.sc (.bool false))), (.tc (.sc (.bool false))), (.tc (.sc (.int .u16 0))), (.tc (.sc (.int .i64 0)))]] [(.mk 0 11 (.t (.l (.l (.l (.r (.r (.l (.r (.l .e))))))))))] ⟨8, opAt XP 6 11 66⟩) (some (.r (.l (.l (.r (.r (.l (.r (.l .e))))))))),
  .mk .none .yes (.bd [(.tc (.sc (.slice none 0 0))), (.tc (.sc (.bool false))), (.tc (.sc (.bool false))), (.tc (.sc (.bool false))), (.tc (.sc (.bool false)))] [(.mk 0 1 (.t (.r (.l (.l (.r (.r (.l (.r (.l .e)))))))))), (.mk 3 1 (.c (.tc (.sc (.bool true))))), (.mk 4 1 (.c (.tc (.sc (.bool true)))))] ⟨8, opAt XP 6 11 67⟩) (.bd [(.tc (.sc (.slice none 0 0))), (.tc (.sc (.bool false))), (.tc (.sc (.bool false))), (.tc (.sc (.bool false))), (.tc (.sc (.bool false)))] [(.mk 0 1 (.t (.r (.l (.l (.r (.r (.l (.r (.l .e)))))))))), (.mk 3 1 (.c (.tc (.sc (.bool true))))), (.mk 4 1 (.c (.tc (.sc (.bool true)))))] ⟨8, opAt XP 6 11 67⟩) (some (.l (.r (.l (.r (.r (.l (.r (.l .e))))))))),
  .mk .none .yes (.ld true 11 (.t (.r (.l (.l (.l (.l (.l (.l (.l .e)))))))))) (.ld true 11 (.t (.r (.l (.l (.l (.l (.l (.l (.l .e)))))))))) (some (.r (.r (.l (.r (.r (.l (.r (.l .e))))))))),
  .mk .none .yes (.ld true 11 (.t (.r (.l (.l (.l (.l (.l (.l (.l .e)))))))))) (.ld true 11 (.t (.r (.l (.l (.l (.l (.l (.l (.l .e)))))))))) (some (.l (.l (.r (.r (.r (.l (.r (.l .e))))))))),
  .mk .none .yes (.bt 11 [[(.tc (.sc (.int .u8 0))), (.tc (.sc (.int .u8 0))), (.tc (.sc (.int .u8 0))), (.tc (.sc (.int .u8 0))), (.tc (.sc (.int .u8 0))), (.tc (.sc (.int .u8 0))), (.tc (.sc (.int .u8 0))), (.tc (.sc (.bool false))), (.tc (.sc (.bool false))), (.tc (.sc (.int .u16 0))), (.tc (.sc (.int .i64 0)))], [(.tc (.sc (.int .u8 0))), (.tc (.sc (.int .u8 0))), (.tc (.sc (.int .u8 0))), (.tc (.sc (.int .u8 0))), (.tc (.sc (.int .u8 0))), (.tc (.sc (.int .u8 0))), (.tc (.sc (.int .u8 0))), (.tc (.sc (.bool false))), (.tc (.sc (.bool false))), (.tc (.sc (.int .u16 0))), (.tc (.sc (.int .i64 0)))]] [(.mk 0 11 (.t (.r (.r (.l (.r (.r (.l (.r (.l .e)))))))))), (.mk 1 11 (.t (.l (.l (.r (.r (.r (.l (.r (.l .e))))))))))] ⟨8, opAt XP 6 11 70⟩) (.bs 11 2 [[(.tc (.sc (.int .u8 0))), (.tc (.sc (.int .u8 0))), (.tc (.sc (.int .u8 0))), (.tc (.sc (.int .u8 0))), (.tc (.sc (.int .u8 0))), (.tc (.sc (.int .u8 0))), (.tc (.sc (.int .u8 0))), (.tc (.sc (.bool false))), (.tc (.sc (.bool false))), (.tc (.sc (.int .u16 0))), (.tc (.sc (.int .i64 0)))], [(.tc (.sc (.int .u8 0))), (.tc (.sc (.int .u8 0))), (.tc (.sc (.int .u8 0))), (.tc (.sc (.int .u8 0))), (.tc (.sc (.int .u8 0))), (.tc (.sc (.int .u8 0))), (.tc (.sc (.int .u8 0))), (.tc (.sc (.bool false))), (.tc (.sc (.bool false))), (.tc (.sc (.int .u16 0))), (.tc (.sc (.int .i64 0)))]] [(.mk 0 11 (.t (.r (.r (.l (.r (.r (.l (.r (.l .e)))))))))), (.mk 1 11 (.t (.l (.l (.r (.r (.r (.l (.r (.l .e))))))))))] ⟨8, opAt XP 6 11 70⟩) (some (.r (.l (.r (.r (.r (.l (.r (.l .e))))))))),
  .mk .none (.dyn 25 [(.t (.r (.l (.r (.r (.r (.l (.r (.l .e)))))))))]) (.call 25 [(.t (.r (.l (.r (.r (.r (.l (.r (.l .e)))))))))] ⟨8, opAt XP 6 11 71⟩) (.call 25 [(.t (.r (.l (.r (.r (.r (.l (.r (.l .e)))))))))] ⟨8, opAt XP 6 11 71⟩) (some (.l (.r (.r (.r (.r (.l (.r (.l .e))))))))),
  .mk .none .yes (.ld true 11 (.t (.l (.l (.l (.r (.l (.l (.l (.l .e)))))))))) (.ld true 11 (.t (.l (.l (.l (.r (.l (.l (.l (.l .e)))))))))) (some (.r (.r (.r (.r (.r (.l (.r (.l .e))))))))),
  .mk .none (.dyn 26 [(.c (.tc (.sc (.int .u8 31)))), (.c (.tc (.sc (.int .u8 0)))), (.c (.tc (.sc (.int .u8 0))))]) (.call 26 [(.c (.tc (.sc (.int .u8 31)))), (.c (.tc (.sc (.int .u8 0)))), (.c (.tc (.sc (.int .u8 0))))] ⟨8, opAt XP 6 11 73⟩) (.call 26 [(.c (.tc (.sc (.int .u8 31)))), (.c (.tc (.sc (.int .u8 0)))), (.c (.tc (.sc (.int .u8 0))))] ⟨8, opAt XP 6 11 73⟩) (some (.l (.l (.l (.l (.l (.r (.r (.l .e))))))))),
  .mk .none .yes (.bt 11 [[(.tc (.sc (.int .u8 0))), (.tc (.sc (.int .u8 0))), (.tc (.sc (.int .u8 0))), (.tc (.sc (.int .u8 0))), (.tc (.sc (.int .u8 0))), (.tc (.sc (.int .u8 0))), (.tc (.sc (.int .u8 0))), (.tc (.sc (.bool false))), (.tc (.sc (.bool false))), (.tc (.sc (.int .u16 0))), (.tc (.sc (.int .i64 0)))], [(.tc (.sc (.int .u8 0))), (.tc (.sc (.int .u8 0))), (.tc (.sc (.int .u8 0))), (.tc (.sc (.int .u8 0))), (.tc (.sc (.int .u8 0))), (.tc (.sc (.int .u8 0))), (.tc (.sc (.int .u8 0))), (.tc (.sc (.bool false))), (.tc (.sc (.bool false))), (.tc (.sc (.int .u16 0))), (.tc (.sc (.int .i64 0)))]] [(.mk 0 11 (.t (.r (.r (.r (.r (.r (.l (.r (.l .e)))))))))), (.mk 1 11 (.t (.l (.l (.l (.l (.l (.r (.r (.l .e))))))))))] ⟨8, opAt XP 6 11 74⟩) (.bs 11 2 [[(.tc (.sc (.int .u8 0))), (.tc (.sc (.int .u8 0))), (.tc (.sc (.int .u8 0))), (.tc (.sc (.int .u8 0))), (.tc (.sc (.int .u8 0))), (.tc (.sc (.int .u8 0))), (.tc (.sc (.int .u8 0))), (.tc (.sc (.bool false))), (.tc (.sc (.bool false))), (.tc (.sc (.int .u16 0))), (.tc (.sc (.int .i64 0)))], [(.tc (.sc (.int .u8 0))), (.tc (.sc (.int .u8 0))), (.tc (.sc (.int .u8 0))), (.tc (.sc (.int .u8 0))), (.tc (.sc (.int .u8 0))), (.tc (.sc (.int .u8 0))), (.tc (.sc (.int .u8 0))), (.tc (.sc (.bool false))), (.tc (.sc (.bool false))), (.tc (.sc (.int .u16 0))), (.tc (.sc (.int .i64 0)))]] [(.mk 0 11 (.t (.r (.r (.r (.r (.r (.l (.r (.l .e)))))))))), (.mk 1 11 (.t (.l (.l (.l (.l (.l (.r (.r (.l .e))))))))))] ⟨8, opAt XP 6 11 74⟩) (some (.r (.l (.l (.l (.l (.r (.r (.l .e))))))))),
  .mk .none (.dyn 25 [(.t (.r (.l (.l (.l (.l (.r (.r (.l .e)))))))))]) (.call 25 [(.t (.r (.l (.l (.l (.l (.r (.r (.l .e)))))))))] ⟨8, opAt XP 6 11 75⟩) (.call 25 [(.t (.r (.l (.l (.l (.l (.r (.r (.l .e)))))))))] ⟨8, opAt XP 6 11 75⟩) (some (.l (.r (.l (.l (.l (.r (.r (.l .e))))))))),
  .mk .none .yes (.ld true 11 (.t (.l (.l (.r (.l (.l (.l (.l (.l .e)))))))))) (.ld true 11 (.t (.l (.l (.r (.l (.l (.l (.l (.l .e)))))))))) (some (.r (.r (.l (.l (.l (.r (.r (.l .e))))))))),
  .mk .none .yes (.bt 11 [[(.tc (.sc (.int .u8 0))), (.tc (.sc (.int .u8 0))), (.tc (.sc (.int .u8 0))), (.tc (.sc (.int .u8 0))), (.tc (.sc (.int .u8 0))), (.tc (.sc (.int .u8 0))), (.tc (.sc (.int .u8 0))), (.tc (.sc (.bool false))), (.tc (.sc (.bool false))), (.tc (.sc (.int .u16 0))), (.tc (.sc (.int .i64 0)))]] [(.mk 0 11 (.t (.r (.r (.l (.l (.l (.r (.r (.l .e))))))))))] ⟨8, opAt XP 6 11 77⟩) (.bs 11 1 [[(.tc (.sc (.int .u8 0))), (.tc (.sc (.int .u8 0))), (.tc (.sc (.int .u8 0))), (.tc (.sc (.int .u8 0))), (.tc (.sc (.int .u8 0))), (.tc (.sc (.int .u8 0))), (.tc (.sc (.int .u8 0))), (.tc (.sc (.bool false))), (.tc (.sc (.bool false))), (.tc (.sc (.int .u16 0))), (.tc (.sc (.int .i64 0)))]] [(.mk 0 11 (.t (.r (.r (.l (.l (.l (.r (.r (.l .e))))))))))] ⟨8, opAt XP 6 11 77⟩) (some (.l (.l (.r (.l (.l (.r (.r (.l .e))))))))),
  .mk .none (.dyn 25 [(.t (.l (.l (.r (.l (.l (.r (.r (.l .e)))))))))]) (.call 25 [(.t (.l (.l (.r (.l (.l (.r (.r (.l .e)))))))))] ⟨8, opAt XP 6 11 78⟩) (.call 25 [(.t (.l (.l (.r (.l (.l (.r (.r (.l .e)))))))))] ⟨8, opAt XP 6 11 78⟩) (some (.r (.l (.r (.l (.l (.r (.r (.l .e))))))))),
  .mk .none .yes (.ld true 11 (.t (.r (.r (.l (.l (.l (.l (.l (.l .e)))))))))) (.ld true 11 (.t (.r (.r (.l (.l (.l (.l (.l (.l .e)))))))))) (some (.l (.r (.r (.l (.l (.r (.r (.l .e))))))))),
  .mk .none .yes (.ld true 11 (.t (.r (.r (.r (.l (.l (.l (.l (.l .e)))))))))) (.ld true 11 (.t (.r (.r (.r (.l (.l (.l (.l (.l .e)))))))))) (some (.r (.r (.r (.l (.l (.r (.r (.l .e))))))))),
  .mk .none .yes (.bt 11 [[(.tc (.sc (.int .u8 0))), (.tc (.sc (.int .u8 0))), (.tc (.sc (.int .u8 0))), (.tc (.sc (.int .u8 0))), (.tc (.sc (.int .u8 0))), (.tc (.sc (.int .u8 0))), (.tc (.sc (.int .u8 0))), (.tc (.sc (.bool false))), (.tc (.sc (.bool false))), (.tc (.sc (.int .u16 0))), (.tc (.sc (.int .i64 0)))], [(.tc (.sc (.int .u8 0))), (.tc (.sc (.int .u8 0))), (.tc (.sc (.int .u8 0))), (.tc (.sc (.int .u8 0))), (.tc (.sc (.int .u8 0))), (.tc (.sc (.int .u8 0))), (.tc (.sc (.int .u8 0))), (.tc (.sc (.bool false))), (.tc (.sc (.bool false))), (.tc (.sc (.int .u16 0))), (.tc (.sc (.int .i64 0)))]] [(.mk 0 11 (.t (.l (.r (.r (.l (.l (.r (.r (.l .e)))))))))), (.mk 1 11 (.t (.r (.r (.r (.l (.l (.r (.r (.l .e))))))))))] ⟨8, opAt XP 6 11 81⟩) (.bs 11 2 [[(.tc (.sc (.int .u8 0))), (.tc (.sc (.int .u8 0))), (.tc (.sc (.int .u8 0))), (.tc (.sc (.int .u8 0))), (.tc (.sc (.int .u8 0))), (.tc (.sc (.int .u8 0))), (.tc (.sc (.int .u8 0))), (.tc (.sc (.bool false))), (.tc (.sc (.bool false))), (.tc (.sc (.int .u16 0))), (.tc (.sc (.int .i64 0)))], [(.tc (.sc (.int .u8 0))), (.tc (.sc (.int .u8 0))), (.tc (.sc (.int .u8 0))), (.tc (.sc (.int .u8 0))), (.tc (.sc (.int .u8 0))), (.tc (.sc (.int .u8 0))), (.tc (.sc (.int .u8 0))), (.tc (.sc (.bool false))), (.tc (.sc (.bool false))), (.tc (.sc (.int .u16 0))), (.tc (.sc (.int .i64 0)))]] [(.mk 0 11 (.t (.l (.r (.r (.l (.l (.r (.r (.l .e)))))))))), (.mk 1 11 (.t (.r (.r (.r (.l (.l (.r (.r (.l .e))))))))))] ⟨8, opAt XP 6 11 81⟩) (some (.l (.l (.l (.r (.l (.r (.r (.l .e))))))))),
  .mk .none (.dyn 25 [(.t (.l (.l (.l (.r (.l (.r (.r (.l .e)))))))))]) (.call 25 [(.t (.l (.l (.l (.r (.l (.r (.r (.l .e)))))))))] ⟨8, opAt XP 6 11 82⟩) (.call 25 [(.t (.l (.l (.l (.r (.l (.r (.r (.l .e)))))))))] ⟨8, opAt XP 6 11 82⟩) (some (.r (.l (.l (.r (.l (.r (.r (.l .e))))))))),
  .mk .none .yes (.ld true 11 (.t (.r (.r (.l (.l (.l (.l (.l (.l .e)))))))))) (.ld true 11 (.t (.r (.r (.l (.l (.l (.l (.l (.l .e)))))))))) (some (.l (.r (.l (.r (.l (.r (.r (.l .e))))))))),
  .mk .none .yes (.ld true 11 (.t (.r (.r (.l (.l (.l (.l (.l (.l .e)))))))))) (.ld true 11 (.t (.r (.r (.l (.l (.l (.l (.l (.l .e)))))))))) (some (.r (.r (.l (.r (.l (.r (.r (.l .e))))))))),
  .mk .none .yes (.bd [(.tc (.sc (.int .u8 0))), (.tc (.sc (.int .u8 0))), (.tc (.sc (.int .u8 0))), (.tc (.sc (.int .u8 0))), (.tc (.sc (.int .u8 0))), (.tc (.sc (.int .u8 0))), (.tc (.sc (.int .u8 0))), (.tc (.sc (.bool false))), (.tc (.sc (.bool false))), (.tc (.sc (.int .u16 0))), (.tc (.sc (.int .i64 0)))] [] ⟨8, opAt XP 6 11 85⟩) (.bd [(.tc (.sc (.int .u8 0))), (.tc (.sc (.int .u8 0))), (.tc (.sc (.int .u8 0))), (.tc (.sc (.int .u8 0))), (.tc (.sc (.int .u8 0))), (.tc (.sc (.int .u8 0))), (.tc (.sc (.int .u8 0))), (.tc (.sc (.bool false))), (.tc (.sc (.bool false))), (.tc (.sc (.int .u16 0))), (.tc (.sc (.int .i64 0)))] [] ⟨8, opAt XP 6 11 85⟩) (some (.l (.l (.r (.r (.l (.r (.r (.l .e))))))))),
  .mk .none .yes (.bt 11 [[(.tc (.sc (.int .u8 0))), (.tc (.sc (.int .u8 0))), (.tc (.sc (.int .u8 0))), (.tc (.sc (.int .u8 0))), (.tc (.sc (.int .u8 0))), (.tc (.sc (.int .u8 0))), (.tc (.sc (.int .u8 0))), (.tc (.sc (.bool false))), (.tc (.sc (.bool false))), (.tc (.sc (.int .u16 0))), (.tc (.sc (.int .i64 0)))], [(.tc (.sc (.int .u8 0))), (.tc (.sc (.int .u8 0))), (.tc (.sc (.int .u8 0))), (.tc (.sc (.int .u8 0))), (.tc (.sc (.int .u8 0))), (.tc (.sc (.int .u8 0))), (.tc (.sc (.int .u8 0))), (.tc (.sc (.bool false))), (.tc (.sc (.bool false))), (.tc (.sc (.int .u16 0))), (.tc (.sc (.int .i64 0)))], [(.tc (.sc (.int .u8 0))), (.tc (.sc (.int .u8 0))), (.tc (.sc (.int .u8 0))), (.tc (.sc (.int .u8 0))), (.tc (.sc (.int .u8 0))), (.tc (.sc (.int .u8 0))), (.tc (.sc (.int .u8 0))), (.tc (.sc (.bool false))), (.tc (.sc (.bool false))), (.tc (.sc (.int .u16 0))), (.tc (.sc (.int .i64 0)))]] [(.mk 0 11 (.t (.l (.r (.l (.r (.l (.r (.r (.l .e)))))))))), (.mk 1 11 (.t (.r (.r (.l (.r (.l (.r (.r (.l .e)))))))))), (.mk 2 11 (.t (.l (.l (.r (.r (.l (.r (.r (.l .e))))))))))] ⟨8, opAt XP 6 11 86⟩) (.bs 11 3 [[(.tc (.sc (.int .u8 0))), (.tc (.sc (.int .u8 0))), (.tc (.sc (.int .u8 0))), (.tc (.sc (.int .u8 0))), (.tc (.sc (.int .u8 0))), (.tc (.sc (.int .u8 0))), (.tc (.sc (.int .u8 0))), (.tc (.sc (.bool false))), (.tc (.sc (.bool false))), (.tc (.sc (.int .u16 0))), (.tc (.sc (.int .i64 0)))], [(.tc (.sc (.int .u8 0))), (.tc (.sc (.int .u8 0))), (.tc (.sc (.int .u8 0))), (.tc (.sc (.int .u8 0))), (.tc (.sc (.int .u8 0))), (.tc (.sc (.int .u8 0))), (.tc (.sc (.int .u8 0))), (.tc (.sc (.bool false))), (.tc (.sc (.bool false))), (.tc (.sc (.int .u16 0))), (.tc (.sc (.int .i64 0)))], [(.tc (.sc (.int .u8 0))), (.tc (.sc (.int .u8 0))), (.tc (.sc (.int .u8 0))), (.tc (.sc (.int .u8 0))), (.tc (.sc (.int .u8 0))), (.tc (.sc (.int .u8 0))), (.tc (.sc (.int .u8 0))), (.tc (.sc (.bool false))), (.tc (.sc (.bool false))), (.tc (.sc (.int .u16 0))), (.tc (.sc (.int .i64 0)))]] [(.mk 0 11 (.t (.l (.r (.l (.r (.l (.r (.r (.l .e)))))))))), (.mk 1 11 (.t (.r (.r (.l (.r (.l (.r (.r (.l .e)))))))))), (.mk 2 11 (.t (.l (.l (.r (.r (.l (.r (.r (.l .e))))))))))] ⟨8, opAt XP 6 11 86⟩) (some (.r (.l (.r (.r (.l (.r (.r (.l .e))))))))),
  .mk .none (.dyn 25 [(.t (.r (.l (.r (.r (.l (.r (.r (.l .e)))))))))]) (.call 25 [(.t (.r (.l (.r (.r (.l (.r (.r (.l .e)))))))))] ⟨8, opAt XP 6 11 87⟩) (.call 25 [(.t (.r (.l (.r (.r (.l (.r (.r (.l .e)))))))))] ⟨8, opAt XP 6 11 87⟩) (some (.l (.r (.r (.r (.l (.r (.r (.l .e))))))))),
  .mk .none .yes (.bt 5 [[(.tc (.sc (.slice none 0 0))), (.tc (.sc (.bool false))), (.tc (.sc (.bool false))), (.tc (.sc (.bool false))), (.tc (.sc (.bool false)))], [(.tc (.sc (.slice none 0 0))), (.tc (.sc (.bool false))), (.tc (.sc (.bool false))), (.tc (.sc (.bool false))), (.tc (.sc (.bool false)))], [(.tc (.sc (.slice none 0 0))), (.tc (.sc (.bool false))), (.tc (.sc (.bool false))), (.tc (.sc (.bool false))), (.tc (.sc (.bool false)))], [(.tc (.sc (.slice none 0 0))), (.tc (.sc (.bool false))), (.tc (.sc (.bool false))), (.tc (.sc (.bool false))), (.tc (.sc (.bool false)))], [(.tc (.sc (.slice none 0 0))), (.tc (.sc (.bool false))), (.tc (.sc (.bool false))), (.tc (.sc (.bool false))), (.tc (.sc (.bool false)))], [(.tc (.sc (.slice none 0 0))), (.tc (.sc (.bool false))), (.tc (.sc (.bool false))), (.tc (.sc (.bool false))), (.tc (.sc (.bool false)))], [(.tc (.sc (.slice none 0 0))), (.tc (.sc (.bool false))), (.tc (.sc (.bool false))), (.tc (.sc (.bool false))), (.tc (.sc (.bool false)))], [(.tc (.sc (.slice none 0 0))), (.tc (.sc (.bool false))), (.tc (.sc (.bool false))), (.tc (.sc (.bool false))), (.tc (.sc (.bool false)))], [(.tc (.sc (.slice none 0 0))), (.tc (.sc (.bool false))), (.tc (.sc (.bool false))), (.tc (.sc (.bool false))), (.tc (.sc (.bool false)))], [(.tc (.sc (.slice none 0 0))), (.tc (.sc (.bool false))), (.tc (.sc (.bool false))), (.tc (.sc (.bool false))), (.tc (.sc (.bool false)))], [(.tc (.sc (.slice none 0 0))), (.tc (.sc (.bool false))), (.tc (.sc (.bool false))), (.tc (.sc (.bool false))), (.tc (.sc (.bool false)))], [(.tc (.sc (.slice none 0 0))), (.tc (.sc (.bool false))), (.tc (.sc (.bool false))), (.tc (.sc (.bool false))), (.tc (.sc (.bool false)))], [(.tc (.sc (.slice none 0 0))), (.tc (.sc (.bool false))), (.tc (.sc (.bool false))), (.tc (.sc (.bool false))), (.tc (.sc (.bool false)))], [(.tc (.sc (.slice none 0 0))), (.tc (.sc (.bool false))), (.tc (.sc (.bool false))), (.tc (.sc (.bool false))), (.tc (.sc (.bool false)))], [(.tc (.sc (.slice none 0 0))), (.tc (.sc (.bool false))), (.tc (.sc (.bool false))), (.tc (.sc (.bool false))), (.tc (.sc (.bool false)))], [(.tc (.sc (.slice none 0 0))), (.tc (.sc (.bool false))), (.tc (.sc (.bool false))), (.tc (.sc (.bool false))), (.tc (.sc (.bool false)))], [(.tc (.sc (.slice none 0 0))), (.tc (.sc (.bool false))), (.tc (.sc (.bool false))), (.tc (.sc (.bool false))), (.tc (.sc (.bool false)))], [(.tc (.sc (.slice none 0 0))), (.tc (.sc (.bool false))), (.tc (.sc (.bool false))), (.tc (.sc (.bool false))), (.tc (.sc (.bool false)))], [(.tc (.sc (.slice none 0 0))), (.tc (.sc (.bool false))), (.tc (.sc (.bool false))), (.tc (.sc (.bool false))), (.tc (.sc (.bool false)))], [(.tc (.sc (.slice none 0 0))), (.tc (.sc (.bool false))), (.tc (.sc (.bool false))), (.tc (.sc (.bool false))), (.tc (.sc (.bool false)))], [(.tc (.sc (.slice none 0 0))), (.tc (.sc (.bool false))), (.tc (.sc (.bool false))), (.tc (.sc (.bool false))), (.tc (.sc (.bool false)))], [(.tc (.sc (.slice none 0 0))), (.tc (.sc (.bool false))), (.tc (.sc (.bool false))), (.tc (.sc (.bool false))), (.tc (.sc (.bool false)))], [(.tc (.sc (.slice none 0 0))), (.tc (.sc (.bool false))), (.tc (.sc (.bool false))), (.tc (.sc (.bool false))), (.tc (.sc (.bool false)))]] [(.mk 0 5 (.t (.l (.r (.l (.r (.r (.l (.l (.l .e)))))))))), (.mk 1 5 (.t (.l (.r (.r (.r (.r (.l (.l (.l .e)))))))))), (.mk 2 5 (.t (.r (.r (.l (.l (.l (.r (.l (.l .e)))))))))), (.mk 3 5 (.t (.r (.r (.r (.l (.l (.r (.l (.l .e)))))))))), (.mk 4 5 (.t (.l (.r (.l (.r (.l (.r (.l (.l .e)))))))))), (.mk 5 5 (.t (.l (.r (.r (.r (.l (.r (.l (.l .e)))))))))), (.mk 6 5 (.t (.l (.r (.l (.l (.r (.r (.l (.l .e)))))))))), (.mk 7 5 (.t (.l (.r (.r (.l (.r (.r (.l (.l .e)))))))))), (.mk 8 5 (.t (.l (.r (.l (.r (.r (.r (.l (.l .e)))))))))), (.mk 9 5 (.t (.r (.r (.r (.r (.r (.r (.l (.l .e)))))))))), (.mk 10 5 (.t (.r (.r (.l (.l (.l (.l (.r (.l .e)))))))))), (.mk 11 5 (.t (.l (.r (.r (.l (.l (.l (.r (.l .e)))))))))), (.mk 12 5 (.t (.r (.l (.l (.r (.l (.l (.r (.l .e)))))))))), (.mk 13 5 (.t (.l (.l (.r (.r (.l (.l (.r (.l .e)))))))))), (.mk 14 5 (.t (.r (.l (.r (.r (.l (.l (.r (.l .e)))))))))), (.mk 15 5 (.t (.l (.l (.r (.l (.r (.l (.r (.l .e)))))))))), (.mk 16 5 (.t (.r (.r (.r (.l (.r (.l (.r (.l .e)))))))))), (.mk 17 5 (.t (.l (.r (.l (.r (.r (.l (.r (.l .e)))))))))), (.mk 18 5 (.t (.l (.r (.r (.r (.r (.l (.r (.l .e)))))))))), (.mk 19 5 (.t (.l (.r (.l (.l (.l (.r (.r (.l .e)))))))))), (.mk 20 5 (.t (.r (.l (.r (.l (.l (.r (.r (.l .e)))))))))), (.mk 21 5 (.t (.r (.l (.l (.r (.l (.r (.r (.l .e)))))))))), (.mk 22 5 (.t (.l (.r (.r (.r (.l (.r (.r (.l .e))))))))))] ⟨8, opAt XP 6 11 88⟩) (.bs 5 23 [[(.tc (.sc (.slice none 0 0))), (.tc (.sc (.bool false))), (.tc (.sc (.bool false))), (.tc (.sc (.bool false))), (.tc (.sc (.bool false)))], [(.tc (.sc (.slice none 0 0))), (.tc (.sc (.bool false))), (.tc (.sc (.bool false))), (.tc (.sc (.bool false))), (.tc (.sc (.bool false)))], [(.tc (.sc (.slice none 0 0))), (.tc (.sc (.bool false))), (.tc (.sc (.bool false))), (.tc (.sc (.bool false))), (.tc (.sc (.bool false)))], [(.tc (.sc (.slice none 0 0))), (.tc (.sc (.bool false))), (.tc (.sc (.bool false))), (.tc (.sc (.bool false))), (.tc (.sc (.bool false)))], [(.tc (.sc (.slice none 0 0))), (.tc (.sc (.bool false))), (.tc (.sc (.bool false))), (.tc (.sc (.bool false))), (.tc (.sc (.bool false)))], [(.tc (.sc (.slice none 0 0))), (.tc (.sc (.bool false))), (.tc (.sc (.bool false))), (.tc (.sc (.bool false))), (.tc (.sc (.bool false)))], [(.tc (.sc (.slice none 0 0))), (.tc (.sc (.bool false))), (.tc (.sc (.bool false))), (.tc (.sc (.bool false))), (.tc (.sc (.bool false)))], [(.tc (.sc (.slice none 0 0))), (.tc (.sc (.bool false))), (.tc (.sc (.bool false))), (.tc (.sc (.bool false))), (.tc (.sc (.bool false)))], [(.tc (.sc (.slice none 0 0))), (.tc (.sc (.bool false))), (.tc (.sc (.bool false))), (.tc (.sc (.bool false))), (.tc (.sc (.bool false)))], [(.tc (.sc (.slice none 0 0))), (.tc (.sc (.bool false))), (.tc (.sc (.bool false))), (.tc (.sc (.bool false))), (.tc (.sc (.bool false)))], [(.tc (.sc (.slice none 0 0))), (.tc (.sc (.bool false))), (.tc (.sc (.bool false))), (.tc (.sc (.bool false))), (.tc (.sc (.bool false)))], [(.tc (.sc (.slice none 0 0))), (.tc (.sc (.bool false))), (.tc (.sc (.bool false))), (.tc (.sc (.bool false))), (.tc (.sc (.bool false)))], [(.tc (.sc (.slice none 0 0))), (.tc (.sc (.bool false))), (.tc (.sc (.bool false))), (.tc (.sc (.bool false))), (.tc (.sc (.bool false)))], [(.tc (.sc (.slice none 0 0))), (.tc (.sc (.bool false))), (.tc (.sc (.bool false))), (.tc (.sc (.bool false))), (.tc (.sc (.bool false)))], [(.tc (.sc (.slice none 0 0))), (.tc (.sc (.bool false))), (.tc (.sc (.bool false))), (.tc (.sc (.bool false))), (.tc (.sc (.bool false)))], [(.tc (.sc (.slice none 0 0))), (.tc (.sc (.bool false))), (.tc (.sc (.bool false))), (.tc (.sc (.bool false))), (.tc (.sc (.bool false)))], [(.tc (.sc (.slice none 0 0))), (.tc (.sc (.bool false))), (.tc (.sc (.bool false))), (.tc (.sc (.bool false))), (.tc (.sc (.bool false)))], [(.tc (.sc (.slice none 0 0))), (.tc (.sc (.bool false))), (.tc (.sc (.bool false))), (.tc (.sc (.bool false))), (.tc (.sc (.bool false)))], [(.tc (.sc (.slice none 0 0))), (.tc (.sc (.bool false))), (.tc (.sc (.bool false))), (.tc (.sc (.bool false))), (.tc (.sc (.bool false)))], [(.tc (.sc (.slice none 0 0))), (.tc (.sc (.bool false))), (.tc (.sc (.bool false))), (.tc (.sc (.bool false))), (.tc (.sc (.bool false)))], [(.tc (.sc (.slice none 0 0))), (.tc (.sc (.bool false))), (.tc (.sc (.bool false))), (.tc (.sc (.bool false))), (.tc (.sc (.bool false)))], [(.tc (.sc (.slice none 0 0))), (.tc (.sc (.bool false))), (.tc (.sc (.bool false))), (.tc (.sc (.bool false))), (.tc (.sc (.bool false)))], [(.tc (.sc (.slice none 0 0))), (.tc (.sc (.bool false))), (.tc (.sc (.bool false))), (.tc (.sc (.bool false))), (.tc (.sc (.bool false)))]] [(.mk 0 5 (.t (.l (.r (.l (.r (.r (.l (.l (.l .e)))))))))), (.mk 1 5 (.t (.l (.r (.r (.r (.r (.l (.l (.l .e)))))))))), (.mk 2 5 (.t (.r (.r (.l (.l (.l (.r (.l (.l .e)))))))))), (.mk 3 5 (.t (.r (.r (.r (.l (.l (.r (.l (.l .e)))))))))), (.mk 4 5 (.t (.l (.r (.l (.r (.l (.r (.l (.l .e)))))))))), (.mk 5 5 (.t (.l (.r (.r (.r (.l (.r (.l (.l .e)))))))))), (.mk 6 5 (.t (.l (.r (.l (.l (.r (.r (.l (.l .e)))))))))), (.mk 7 5 (.t (.l (.r (.r (.l (.r (.r (.l (.l .e)))))))))), (.mk 8 5 (.t (.l (.r (.l (.r (.r (.r (.l (.l .e)))))))))), (.mk 9 5 (.t (.r (.r (.r (.r (.r (.r (.l (.l .e)))))))))), (.mk 10 5 (.t (.r (.r (.l (.l (.l (.l (.r (.l .e)))))))))), (.mk 11 5 (.t (.l (.r (.r (.l (.l (.l (.r (.l .e)))))))))), (.mk 12 5 (.t (.r (.l (.l (.r (.l (.l (.r (.l .e)))))))))), (.mk 13 5 (.t (.l (.l (.r (.r (.l (.l (.r (.l .e)))))))))), (.mk 14 5 (.t (.r (.l (.r (.r (.l (.l (.r (.l .e)))))))))), (.mk 15 5 (.t (.l (.l (.r (.l (.r (.l (.r (.l .e)))))))))), (.mk 16 5 (.t (.r (.r (.r (.l (.r (.l (.r (.l .e)))))))))), (.mk 17 5 (.t (.l (.r (.l (.r (.r (.l (.r (.l .e)))))))))), (.mk 18 5 (.t (.l (.r (.r (.r (.r (.l (.r (.l .e)))))))))), (.mk 19 5 (.t (.l (.r (.l (.l (.l (.r (.r (.l .e)))))))))), (.mk 20 5 (.t (.r (.l (.r (.l (.l (.r (.r (.l .e)))))))))), (.mk 21 5 (.t (.r (.l (.l (.r (.l (.r (.r (.l .e)))))))))), (.mk 22 5 (.t (.l (.r (.r (.r (.l (.r (.r (.l .e))))))))))] ⟨8, opAt XP 6 11 88⟩) (some (.r (.r (.r (.r (.l (.r (.r (.l .e))))))))),
  .mk .none .yes (.mv (.t (.r (.r (.r (.r (.l (.r (.r (.l .e)))))))))) (.mv (.t (.r (.r (.r (.r (.l (.r (.r (.l .e)))))))))) (some (.l (.r (.l (.r (.l (.l (.l (.l .e)))))))))])
 (.seq (.reg [.p (.bs 1 23 [[(.tc (.sc (.int .i64 0)))], [(.tc (.sc (.int .i64 0)))], [(.tc (.sc (.int .i64 0)))], [(.tc (.sc (.int .i64 0)))], [(.tc (.sc (.int .i64 0)))], [(.tc (.sc (.int .i64 0)))], [(.tc (.sc (.int .i64 0)))], [(.tc (.sc (.int .i64 0)))], [(.tc (.sc (.int .i64 0)))], [(.tc (.sc (.int .i64 0)))], [(.tc (.sc (.int .i64 0)))], [(.tc (.sc (.int .i64 0)))], [(.tc (.sc (.int .i64 0)))], [(.tc (.sc (.int .i64 0)))], [(.tc (.sc (.int .i64 0)))], [(.tc (.sc (.int .i64 0)))], [(.tc (.sc (.int .i64 0)))], [(.tc (.sc (.int .i64 0)))], [(.tc (.sc (.int .i64 0)))], [(.tc (.sc (.int .i64 0)))], [(.tc (.sc (.int .i64 0)))], [(.tc (.sc (.int .i64 0)))], [(.tc (.sc (.int .i64 0)))]] [(.mk 0 1 (.c (.tc (.sc (.int .i64 11))))), (.mk 1 1 (.c (.tc (.sc (.int .i64 11))))), (.mk 2 1 (.c (.tc (.sc (.int .i64 11))))), (.mk 3 1 (.c (.tc (.sc (.int .i64 0))))), (.mk 4 1 (.c (.tc (.sc (.int .i64 12))))), (.mk 5 1 (.c (.tc (.sc (.int .i64 14))))), (.mk 6 1 (.c (.tc (.sc (.int .i64 0))))), (.mk 7 1 (.c (.tc (.sc (.int .i64 12))))), (.mk 8 1 (.c (.tc (.sc (.int .i64 12))))), (.mk 9 1 (.c (.tc (.sc (.int .i64 12))))), (.mk 10 1 (.c (.tc (.sc (.int .i64 12))))), (.mk 11 1 (.c (.tc (.sc (.int .i64 0))))), (.mk 12 1 (.c (.tc (.sc (.int .i64 13))))), (.mk 13 1 (.c (.tc (.sc (.int .i64 13))))), (.mk 14 1 (.c (.tc (.sc (.int .i64 8))))), (.mk 15 1 (.c (.tc (.sc (.int .i64 8))))), (.mk 16 1 (.c (.tc (.sc (.int .i64 8))))), (.mk 17 1 (.c (.tc (.sc (.int .i64 8))))), (.mk 18 1 (.c (.tc (.sc (.int .i64 11))))), (.mk 19 1 (.c (.tc (.sc (.int .i64 11))))), (.mk 20 1 (.c (.tc (.sc (.int .i64 12))))), (.mk 21 1 (.c (.tc (.sc (.int .i64 0))))), (.mk 22 1 (.c (.tc (.sc (.int .i64 8)))))] ⟨8, opAt XP 6 12 0⟩) (.l (.l (.l (.l (.r (.r (.r (.l .e)))))))),
  .p (.mv (.t (.l (.l (.l (.l (.r (.r (.r (.l .e)))))))))) (.r (.r (.l (.r (.l (.l (.l (.l .e))))))))])
 (.seq (.seq (.reg [.p (.mv (.c (.tc (.sc (.int .i64 0))))) (.l (.l (.r (.r (.l (.l (.l (.l .e))))))))])
 (.block 0 (.loop 4294967296 (.seq (.seq (.reg [.p (.mv (.t (.l (.l (.r (.r (.l (.l (.l (.l .e)))))))))) (.r (.l (.l (.l (.r (.r (.r (.l .e)))))))),
  .p (.mv (.t (.l (.r (.l (.r (.l (.l (.l (.l .e)))))))))) (.l (.r (.l (.l (.r (.r (.r (.l .e)))))))),
  .p (.len (.t (.l (.r (.l (.l (.r (.r (.r (.l .e))))))))) ⟨8, opAt XP 6 14 2⟩) (.r (.r (.l (.l (.r (.r (.r (.l .e)))))))),
  .p (.bin .lss (.t (.r (.l (.l (.l (.r (.r (.r (.l .e))))))))) (.t (.r (.r (.l (.l (.r (.r (.r (.l .e))))))))) ⟨8, opAt XP 6 14 3⟩) (.l (.l (.r (.l (.r (.r (.r (.l .e))))))))])
 (.cond (.t (.l (.l (.r (.l (.r (.r (.r (.l .e))))))))) .skip
 (.exit 0)))
 (.seq (.block 1 (.seq (.regD 8 130 (regAt XP 6 15) [0, 0, 3, 7, 15, 0, 0, 96, 224, 511] [.mk .none .yes (.mv (.t (.l (.r (.l (.r (.l (.l (.l (.l .e)))))))))) (.mv (.t (.l (.r (.l (.r (.l (.l (.l (.l .e)))))))))) (some (.r (.r (.r (.l (.r (.r (.r (.l .e))))))))),
  .mk .none .yes (.mv (.t (.l (.l (.r (.r (.l (.l (.l (.l .e)))))))))) (.mv (.t (.l (.l (.r (.r (.l (.l (.l (.l .e)))))))))) (some (.l (.l (.l (.r (.r (.r (.r (.l .e))))))))),
  .mk .none .yes (.ia 5 (.t (.r (.r (.r (.l (.r (.r (.r (.l .e))))))))) (.t (.l (.l (.l (.r (.r (.r (.r (.l .e))))))))) ⟨8, opAt XP 6 15 2⟩) (.ia 5 (.t (.r (.r (.r (.l (.r (.r (.r (.l .e))))))))) (.t (.l (.l (.l (.r (.r (.r (.r (.l .e))))))))) ⟨8, opAt XP 6 15 2⟩) (some (.r (.l (.l (.r (.r (.r (.r (.l .e))))))))),
  .mk .none .yes (.ld true 5 (.t (.r (.l (.l (.r (.r (.r (.r (.l .e)))))))))) (.ld true 5 (.t (.r (.l (.l (.r (.r (.r (.r (.l .e)))))))))) (some (.l (.r (.l (.r (.r (.r (.r (.l .e))))))))),
  .mk .none (.dyn 27 [(.t (.l (.r (.l (.r (.r (.r (.r (.l .e)))))))))]) (.call 27 [(.t (.l (.r (.l (.r (.r (.r (.r (.l .e)))))))))] ⟨8, opAt XP 6 15 4⟩) (.call 27 [(.t (.l (.r (.l (.r (.r (.r (.r (.l .e)))))))))] ⟨8, opAt XP 6 15 4⟩) (some (.r (.r (.l (.r (.r (.r (.r (.l .e))))))))),
  .mk .none .yes (.mv (.t (.r (.r (.l (.r (.l (.l (.l (.l .e)))))))))) (.mv (.t (.r (.r (.l (.r (.l (.l (.l (.l .e)))))))))) (some (.l (.l (.r (.r (.r (.r (.r (.l .e))))))))),
  .mk .none .yes (.mv (.t (.l (.l (.r (.r (.l (.l (.l (.l .e)))))))))) (.mv (.t (.l (.l (.r (.r (.l (.l (.l (.l .e)))))))))) (some (.r (.l (.r (.r (.r (.r (.r (.l .e))))))))),
  .mk .none .yes (.ia 1 (.t (.l (.l (.r (.r (.r (.r (.r (.l .e))))))))) (.t (.r (.l (.r (.r (.r (.r (.r (.l .e))))))))) ⟨8, opAt XP 6 15 7⟩) (.ia 1 (.t (.l (.l (.r (.r (.r (.r (.r (.l .e))))))))) (.t (.r (.l (.r (.r (.r (.r (.r (.l .e))))))))) ⟨8, opAt XP 6 15 7⟩) (some (.l (.r (.r (.r (.r (.r (.r (.l .e))))))))),
  .mk .none .yes (.ld false 1 (.t (.l (.r (.r (.r (.r (.r (.r (.l .e)))))))))) (.ld false 1 (.t (.l (.r (.r (.r (.r (.r (.r (.l .e)))))))))) (some (.r (.r (.r (.r (.r (.r (.r (.l .e))))))))),
  .mk .none .yes (.bin .neq (.t (.r (.r (.l (.r (.r (.r (.r (.l .e))))))))) (.t (.r (.r (.r (.r (.r (.r (.r (.l .e))))))))) ⟨8, opAt XP 6 15 9⟩) (.bin .neq (.t (.r (.r (.l (.r (.r (.r (.r (.l .e))))))))) (.t (.r (.r (.r (.r (.r (.r (.r (.l .e))))))))) ⟨8, opAt XP 6 15 9⟩) (some (.l (.l (.l (.l (.l (.l (.l (.r .e)))))))))])
 (.cond (.t (.l (.l (.l (.l (.l (.l (.l (.r .e))))))))) (.seq (.reg [.p (.mv (.c (.tc (.sc (.bool false))))) (.l (.l (.l (.l (.l (.l (.l (.l .e))))))))])
 .ret)
 .skip)))
 (.reg [.p (.mv (.t (.l (.l (.r (.r (.l (.l (.l (.l .e)))))))))) (.r (.l (.r (.l (.r (.r (.r (.l .e)))))))),
  .p (.bin .add (.t (.r (.l (.r (.l (.r (.r (.r (.l .e))))))))) (.c (.tc (.sc (.int .i64 1)))) ⟨8, opAt XP 6 17 1⟩) (.l (.r (.r (.l (.r (.r (.r (.l .e)))))))),
  .p (.mv (.t (.l (.r (.r (.l (.r (.r (.r (.l .e)))))))))) (.l (.l (.r (.r (.l (.l (.l (.l .e))))))))]))))))
 (.seq (.reg [.p (.call 28 [] ⟨8, opAt XP 6 18 0⟩) (.r (.l (.l (.l (.l (.l (.l (.r .e)))))))),
  .p (.mv (.t (.r (.l (.l (.l (.l (.l (.l (.r .e)))))))))) (.l (.l (.l (.l (.l (.l (.l (.l .e))))))))])
 .ret)))))))))))))))
 [.tmp (.t (.l (.l (.l (.l (.l (.l (.l (.l .e)))))))))]
theorem ff6_ok : compF SBase 6 = ff6 := by kernel_rfl
noncomputable def ff26 : FF := .mk 3 [(.l (.l (.l (.l .e)))), (.r (.l (.l (.l .e)))), (.l (.r (.l (.l .e))))] (encF 4 fun _ => undefA)
 (.seq (.reg [.p (.al 11 [(.sc (.int .u8 0)), (.sc (.int .u8 0)), (.sc (.int .u8 0)), (.sc (.int .u8 0)), (.sc (.int .u8 0)), (.sc (.int .u8 0)), (.sc (.int .u8 0)), (.sc (.bool false)), (.sc (.bool false)), (.sc (.int .u16 0)), (.sc (.int .i64 0))]) (.l (.r (.r (.l .e))))])
 (.seq (.reg [.p (.mv (.t (.l (.l (.l (.l .e)))))) (.r (.r (.r (.l .e)))),
  .p (.mv (.t (.r (.l (.l (.l .e)))))) (.l (.l (.l (.r .e)))),
  .p (.mv (.t (.l (.r (.l (.l .e)))))) (.r (.l (.l (.r .e)))),
  .p (.bd [(.tc (.sc (.int .u8 0))), (.tc (.sc (.int .u8 0))), (.tc (.sc (.int .u8 0))), (.tc (.sc (.int .u8 0))), (.tc (.sc (.int .u8 0))), (.tc (.sc (.int .u8 0))), (.tc (.sc (.int .u8 0))), (.tc (.sc (.bool false))), (.tc (.sc (.bool false))), (.tc (.sc (.int .u16 0))), (.tc (.sc (.int .i64 0)))] [(.mk 0 1 (.c (.tc (.sc (.int .u8 2))))), (.mk 1 1 (.t (.r (.r (.r (.l .e)))))), (.mk 6 1 (.t (.l (.l (.l (.r .e)))))), (.mk 5 1 (.t (.r (.l (.l (.r .e))))))] ⟨4, opAt XP 26 1 3⟩) (.l (.r (.l (.r .e)))),
  .n (.st 11 (.t (.l (.r (.r (.l .e))))) (.t (.l (.r (.l (.r .e))))) ⟨4, opAt XP 26 1 4⟩)])
 .ret))
 [.cell (.t (.l (.r (.r (.l .e))))) true 11]
theorem ff26_ok : compF SBase 26 = ff26 := by kernel_rfl
noncomputable def ff25 : FF := .mk 1 [(.l (.l (.l .e)))] (encF 3 fun _ => undefA)
 (.seq (.reg [.p (.al 5 [(.sc (.slice none 0 0)), (.sc (.bool false)), (.sc (.bool false)), (.sc (.bool false)), (.sc (.bool false))]) (.l (.r (.l .e)))])
 (.seq (.reg [.p (.mv (.t (.l (.l (.l .e))))) (.r (.r (.l .e))),
  .p (.bd [(.tc (.sc (.slice none 0 0))), (.tc (.sc (.bool false))), (.tc (.sc (.bool false))), (.tc (.sc (.bool false))), (.tc (.sc (.bool false)))] [(.mk 0 1 (.t (.r (.r (.l .e)))))] ⟨3, opAt XP 25 1 1⟩) (.l (.l (.r .e))),
  .n (.st 5 (.t (.l (.r (.l .e)))) (.t (.l (.l (.r .e)))) ⟨3, opAt XP 25 1 2⟩)])
 .ret))
 [.cell (.t (.l (.r (.l .e)))) true 5]
theorem ff25_ok : compF SBase 25 = ff25 := by kernel_rfl
noncomputable def ff27 : FF := .mk 1 [(.l (.l (.l (.l (.l (.l (.l .e)))))))] (encF 7 fun _ => undefA)
 (.seq (.reg [.p (.bx 5 (.t (.l (.l (.l (.l (.l (.l (.l .e)))))))) ⟨7, opAt XP 27 0 0⟩) (.r (.l (.l (.l (.l (.l (.l .e))))))),
  .p (.mv (.c (.tc (.sc (.int .i64 0))))) (.l (.r (.l (.l (.l (.l (.l .e)))))))])
 (.seq (.reg [.p (.fa 0 (.t (.r (.l (.l (.l (.l (.l (.l .e))))))))) (.r (.r (.r (.l (.l (.l (.l .e))))))),
  .p (.ld false 1 (.t (.r (.r (.r (.l (.l (.l (.l .e))))))))) (.l (.l (.l (.r (.l (.l (.l .e))))))),
  .p (.al 1 [(.sc (.slice none 0 0))]) (.r (.r (.l (.l (.l (.l (.l .e))))))),
  .n (.st 1 (.t (.r (.r (.l (.l (.l (.l (.l .e)))))))) (.t (.l (.l (.l (.r (.l (.l (.l .e)))))))) ⟨7, opAt XP 27 1 3⟩)])
 (.seq (.reg [.p (.mv (.c (.tc (.sc (.int .i64 0))))) (.l (.l (.r (.l (.l (.l (.l .e)))))))])
 (.seq (.seq (.reg [.p (.ld false 1 (.t (.r (.r (.l (.l (.l (.l (.l .e))))))))) (.r (.l (.l (.r (.l (.l (.l .e))))))),
  .p (.len (.t (.r (.l (.l (.r (.l (.l (.l .e)))))))) ⟨7, opAt XP 27 3 1⟩) (.l (.r (.l (.r (.l (.l (.l .e))))))),
  .p (.mv (.c (.tc (.sc (.int .i64 0))))) (.r (.r (.l (.r (.l (.l (.l .e)))))))])
 (.block 0 (.loop 4294967296 (.seq (.reg [.p (.bin .lss (.t (.r (.r (.l (.r (.l (.l (.l .e)))))))) (.t (.l (.r (.l (.r (.l (.l (.l .e)))))))) ⟨7, opAt XP 27 4 0⟩) (.l (.l (.r (.r (.l (.l (.l .e)))))))])
 (.seq (.cond (.t (.l (.l (.r (.r (.l (.l (.l .e)))))))) .skip
 (.exit 0))
 (.seq (.block 1 (.seq (.reg [.p (.ia 11 (.t (.r (.l (.l (.r (.l (.l (.l .e)))))))) (.t (.r (.r (.l (.r (.l (.l (.l .e)))))))) ⟨7, opAt XP 27 5 0⟩) (.r (.l (.r (.r (.l (.l (.l .e))))))),
  .p (.ld true 11 (.t (.r (.l (.r (.r (.l (.l (.l .e))))))))) (.l (.r (.r (.r (.l (.l (.l .e))))))),
  .p (.al 11 [(.sc (.int .u8 0)), (.sc (.int .u8 0)), (.sc (.int .u8 0)), (.sc (.int .u8 0)), (.sc (.int .u8 0)), (.sc (.int .u8 0)), (.sc (.int .u8 0)), (.sc (.bool false)), (.sc (.bool false)), (.sc (.int .u16 0)), (.sc (.int .i64 0))]) (.l (.r (.r (.l (.l (.l (.l .e))))))),
  .n (.st 11 (.t (.l (.r (.r (.l (.l (.l (.l .e)))))))) (.t (.l (.r (.r (.r (.l (.l (.l .e)))))))) ⟨7, opAt XP 27 5 3⟩)])
 (.seq (.regD 7 65 (regAt XP 27 6) [0, 1, 0, 7] [.mk .none .yes (.bt 1 [[(.tc (.sc (.int .u8 0)))]] [(.mk 0 1 (.c (.tc (.sc (.int .u8 5)))))] ⟨7, opAt XP 27 6 0⟩) (.bs 1 1 [[(.tc (.sc (.int .u8 0)))]] [(.mk 0 1 (.c (.tc (.sc (.int .u8 5)))))] ⟨7, opAt XP 27 6 0⟩) (some (.r (.r (.r (.r (.l (.l (.l .e)))))))),
  .mk .none (.dyn 48 [(.t (.r (.r (.r (.r (.l (.l (.l .e))))))))]) (.call 48 [(.t (.r (.r (.r (.r (.l (.l (.l .e))))))))] ⟨7, opAt XP 27 6 1⟩) (.call 48 [(.t (.r (.r (.r (.r (.l (.l (.l .e))))))))] ⟨7, opAt XP 27 6 1⟩) (some (.l (.l (.l (.l (.r (.l (.l .e)))))))),
  .mk .none .yes (.ld true 11 (.t (.l (.r (.r (.l (.l (.l (.l .e))))))))) (.ld true 11 (.t (.l (.r (.r (.l (.l (.l (.l .e))))))))) (some (.r (.l (.l (.l (.r (.l (.l .e)))))))),
  .mk .none (.gen ⟨7, opAt XP 27 6 3⟩) (.gen ⟨7, opAt XP 27 6 3⟩) (.gen ⟨7, opAt XP 27 6 3⟩) (some (.l (.r (.l (.l (.r (.l (.l .e))))))))])
 (.cond (.t (.l (.r (.l (.l (.r (.l (.l .e)))))))) (.reg [.p (.mv (.t (.l (.l (.r (.l (.l (.l (.l .e))))))))) (.r (.r (.l (.l (.r (.l (.l .e))))))),
  .p (.bin .add (.t (.r (.r (.l (.l (.r (.l (.l .e)))))))) (.c (.tc (.sc (.int .i64 1)))) ⟨7, opAt XP 27 7 1⟩) (.l (.l (.r (.l (.r (.l (.l .e))))))),
  .p (.mv (.t (.l (.l (.r (.l (.r (.l (.l .e))))))))) (.l (.l (.r (.l (.l (.l (.l .e)))))))])
 .skip))))
 (.reg [.p (.bin .add (.t (.r (.r (.l (.r (.l (.l (.l .e)))))))) (.c (.tc (.sc (.int .i64 1)))) ⟨7, opAt XP 27 8 0⟩) (.r (.l (.r (.l (.r (.l (.l .e))))))),
  .p (.mv (.t (.r (.l (.r (.l (.r (.l (.l .e))))))))) (.r (.r (.l (.r (.l (.l (.l .e)))))))])))))))
 (.seq (.block 2 (.seq (.reg [.p (.ld false 1 (.t (.r (.r (.l (.l (.l (.l (.l .e))))))))) (.r (.r (.r (.l (.r (.l (.l .e))))))),
  .p (.len (.t (.r (.r (.r (.l (.r (.l (.l .e)))))))) ⟨7, opAt XP 27 9 1⟩) (.l (.l (.l (.r (.r (.l (.l .e))))))),
  .p (.bin .lss (.t (.l (.l (.l (.r (.r (.l (.l .e)))))))) (.c (.tc (.sc (.int .i64 1)))) ⟨7, opAt XP 27 9 2⟩) (.r (.l (.l (.r (.r (.l (.l .e))))))),
  .p (.mv (.t (.r (.l (.l (.r (.r (.l (.l .e))))))))) (.l (.r (.l (.r (.r (.l (.l .e))))))),
  .gp (.t (.l (.r (.l (.r (.r (.l (.l .e)))))))) false (.ld false 1 (.t (.r (.r (.l (.l (.l (.l (.l .e))))))))) (.r (.r (.l (.r (.r (.l (.l .e))))))),
  .gp (.t (.l (.r (.l (.r (.r (.l (.l .e)))))))) false (.len (.t (.r (.r (.l (.r (.r (.l (.l .e)))))))) ⟨7, opAt XP 27 9 5⟩) (.l (.l (.r (.r (.r (.l (.l .e))))))),
  .gp (.t (.l (.r (.l (.r (.r (.l (.l .e)))))))) false (.bin .gtr (.t (.l (.l (.r (.r (.r (.l (.l .e)))))))) (.c (.tc (.sc (.int .i64 4)))) ⟨7, opAt XP 27 9 6⟩) (.r (.l (.r (.r (.r (.l (.l .e))))))),
  .p (.pk (.t (.l (.r (.l (.r (.r (.l (.l .e)))))))) (.c (.tc (.sc (.bool true)))) (.t (.r (.l (.r (.r (.r (.l (.l .e))))))))) (.l (.r (.r (.r (.r (.l (.l .e))))))),
  .p (.mv (.t (.l (.r (.r (.r (.r (.l (.l .e))))))))) (.r (.r (.r (.r (.r (.l (.l .e))))))),
  .gp (.t (.r (.r (.r (.r (.r (.l (.l .e)))))))) false (.fa 3 (.t (.r (.l (.l (.l (.l (.l (.l .e))))))))) (.l (.l (.l (.l (.l (.r (.l .e))))))),
  .gp (.t (.r (.r (.r (.r (.r (.l (.l .e)))))))) false (.ld false 1 (.t (.l (.l (.l (.l (.l (.r (.l .e))))))))) (.r (.l (.l (.l (.l (.r (.l .e))))))),
  .gp (.t (.r (.r (.r (.r (.r (.l (.l .e)))))))) false (.mv (.t (.r (.l (.l (.l (.l (.r (.l .e))))))))) (.l (.r (.l (.l (.l (.r (.l .e))))))),
  .gp (.t (.l (.r (.l (.l (.l (.r (.l .e)))))))) true (.fa 4 (.t (.r (.l (.l (.l (.l (.l (.l .e))))))))) (.r (.r (.l (.l (.l (.r (.l .e))))))),
  .gp (.t (.l (.r (.l (.l (.l (.r (.l .e)))))))) true (.ld false 1 (.t (.r (.r (.l (.l (.l (.r (.l .e))))))))) (.l (.l (.r (.l (.l (.r (.l .e))))))),
  .gp (.t (.r (.r (.r (.r (.r (.l (.l .e)))))))) false (.pk (.t (.l (.r (.l (.l (.l (.r (.l .e)))))))) (.t (.l (.l (.r (.l (.l (.r (.l .e)))))))) (.c (.tc (.sc (.bool false))))) (.r (.l (.r (.l (.l (.r (.l .e))))))),
  .p (.pk (.t (.r (.r (.r (.r (.r (.l (.l .e)))))))) (.c (.tc (.sc (.bool true)))) (.t (.r (.l (.r (.l (.l (.r (.l .e))))))))) (.l (.r (.r (.l (.l (.r (.l .e))))))),
  .p (.mv (.t (.l (.r (.r (.l (.l (.r (.l .e))))))))) (.l (.r (.r (.l (.r (.l (.l .e)))))))])
 (.cond (.t (.l (.r (.r (.l (.r (.l (.l .e)))))))) (.seq (.reg [.p (.mv (.c (.tc (.sc (.int .i64 8))))) (.l (.r (.l (.l (.l (.l (.l .e)))))))])
 .ret)
 (.seq (.reg [.p (.ld false 1 (.t (.r (.r (.l (.l (.l (.l (.l .e))))))))) (.l (.l (.l (.r (.l (.r (.l .e))))))),
  .p (.call 49 [(.t (.l (.l (.l (.r (.l (.r (.l .e)))))))), (.c (.tc (.sc (.func (.func 50) #[] #[]))))] ⟨7, opAt XP 27 11 1⟩) (.r (.l (.l (.r (.l (.r (.l .e))))))),
  .p (.mv (.t (.r (.l (.l (.r (.l (.r (.l .e))))))))) (.r (.r (.r (.l (.l (.r (.l .e)))))))])
 (.cond (.t (.r (.r (.r (.l (.l (.r (.l .e)))))))) (.seq (.reg [.p (.mv (.c (.tc (.sc (.int .i64 8))))) (.l (.r (.l (.l (.l (.l (.l .e)))))))])
 .ret)
 (.seq (.reg [.p (.mv (.t (.l (.l (.r (.l (.l (.l (.l .e))))))))) (.r (.r (.l (.r (.l (.r (.l .e))))))),
  .p (.bin .gtr (.t (.r (.r (.l (.r (.l (.r (.l .e)))))))) (.c (.tc (.sc (.int .i64 1)))) ⟨7, opAt XP 27 13 1⟩) (.l (.l (.r (.r (.l (.r (.l .e))))))),
  .p (.mv (.t (.l (.l (.r (.r (.l (.r (.l .e))))))))) (.l (.r (.l (.r (.l (.r (.l .e)))))))])
 (.cond (.t (.l (.r (.l (.r (.l (.r (.l .e)))))))) (.seq (.reg [.p (.mv (.c (.tc (.sc (.int .i64 14))))) (.l (.r (.l (.l (.l (.l (.l .e)))))))])
 .ret)
 (.seq (.reg [.p (.ld false 1 (.t (.r (.r (.l (.l (.l (.l (.l .e))))))))) (.l (.r (.r (.r (.l (.r (.l .e))))))),
  .p (.call 52 [(.t (.l (.r (.r (.r (.l (.r (.l .e))))))))] ⟨7, opAt XP 27 15 1⟩) (.r (.r (.r (.r (.l (.r (.l .e))))))),
  .p (.mv (.t (.r (.r (.r (.r (.l (.r (.l .e))))))))) (.r (.l (.r (.r (.l (.r (.l .e)))))))])
 (.cond (.t (.r (.l (.r (.r (.l (.r (.l .e)))))))) (.seq (.reg [.p (.mv (.c (.tc (.sc (.int .i64 11))))) (.l (.r (.l (.l (.l (.l (.l .e)))))))])
 .ret)
 (.seq (.reg [.p (.ld false 1 (.t (.r (.r (.l (.l (.l (.l (.l .e))))))))) (.r (.l (.l (.l (.r (.r (.l .e))))))),
  .p (.mf (.func 53) [] [(.t (.r (.r (.l (.l (.l (.l (.l .e))))))))]) (.l (.r (.l (.l (.r (.r (.l .e))))))),
  .p (.call 49 [(.t (.r (.l (.l (.l (.r (.r (.l .e)))))))), (.t (.l (.r (.l (.l (.r (.r (.l .e))))))))] ⟨7, opAt XP 27 17 2⟩) (.r (.r (.l (.l (.r (.r (.l .e))))))),
  .p (.mv (.t (.r (.r (.l (.l (.r (.r (.l .e))))))))) (.l (.l (.l (.l (.r (.r (.l .e)))))))])
 (.cond (.t (.l (.l (.l (.l (.r (.r (.l .e)))))))) (.seq (.reg [.p (.mv (.c (.tc (.sc (.int .i64 12))))) (.l (.r (.l (.l (.l (.l (.l .e)))))))])
 .ret)
 (.seq (.regD 7 65 (regAt XP 27 19) [0, 1, 3, 7, 15, 31, 63, 127, 127, 383, 1023, 2047, 4095] [.mk .none .yes (.fa 1 (.t (.r (.l (.l (.l (.l (.l (.l .e))))))))) (.fa 1 (.t (.r (.l (.l (.l (.l (.l (.l .e))))))))) (some (.r (.l (.r (.l (.r (.r (.l .e)))))))),
  .mk .none .yes (.ld false 1 (.t (.r (.l (.r (.l (.r (.r (.l .e))))))))) (.ld false 1 (.t (.r (.l (.r (.l (.r (.r (.l .e))))))))) (some (.l (.r (.r (.l (.r (.r (.l .e)))))))),
  .mk .none .yes (.mv (.t (.l (.r (.r (.l (.r (.r (.l .e))))))))) (.mv (.t (.l (.r (.r (.l (.r (.r (.l .e))))))))) (some (.r (.r (.r (.l (.r (.r (.l .e)))))))),
  .mk (.on (.t (.r (.r (.r (.l (.r (.r (.l .e)))))))) false) .yes (.fa 2 (.t (.r (.l (.l (.l (.l (.l (.l .e))))))))) (.fa 2 (.t (.r (.l (.l (.l (.l (.l (.l .e))))))))) (some (.l (.l (.l (.r (.r (.r (.l .e)))))))),
  .mk (.on (.t (.r (.r (.r (.l (.r (.r (.l .e)))))))) false) .yes (.ld false 1 (.t (.l (.l (.l (.r (.r (.r (.l .e))))))))) (.ld false 1 (.t (.l (.l (.l (.r (.r (.r (.l .e))))))))) (some (.r (.l (.l (.r (.r (.r (.l .e)))))))),
  .mk .none .yes (.pk (.t (.r (.r (.r (.l (.r (.r (.l .e)))))))) (.c (.tc (.sc (.bool true)))) (.t (.r (.l (.l (.r (.r (.r (.l .e))))))))) (.pk (.t (.r (.r (.r (.l (.r (.r (.l .e)))))))) (.c (.tc (.sc (.bool true)))) (.t (.r (.l (.l (.r (.r (.r (.l .e))))))))) (some (.l (.r (.l (.r (.r (.r (.l .e)))))))),
  .mk .none .yes (.mv (.t (.l (.r (.l (.r (.r (.r (.l .e))))))))) (.mv (.t (.l (.r (.l (.r (.r (.r (.l .e))))))))) (some (.r (.r (.l (.r (.r (.r (.l .e)))))))),
  .mk (.on (.t (.r (.r (.l (.r (.r (.r (.l .e)))))))) true) .yes (.ld false 1 (.t (.r (.r (.l (.l (.l (.l (.l .e))))))))) (.ld false 1 (.t (.r (.r (.l (.l (.l (.l (.l .e))))))))) (some (.l (.l (.r (.r (.r (.r (.l .e)))))))),
  .mk (.on (.t (.r (.r (.l (.r (.r (.r (.l .e)))))))) true) .yes (.bt 1 [[(.tc (.sc (.int .u8 0)))], [(.tc (.sc (.int .u8 0)))]] [(.mk 0 1 (.c (.tc (.sc (.int .u8 5))))), (.mk 1 1 (.c (.tc (.sc (.int .u8 6)))))] ⟨7, opAt XP 27 19 8⟩) (.bs 1 2 [[(.tc (.sc (.int .u8 0)))], [(.tc (.sc (.int .u8 0)))]] [(.mk 0 1 (.c (.tc (.sc (.int .u8 5))))), (.mk 1 1 (.c (.tc (.sc (.int .u8 6)))))] ⟨7, opAt XP 27 19 8⟩) (some (.r (.l (.r (.r (.r (.r (.l .e)))))))),
  .mk (.on (.t (.r (.r (.l (.r (.r (.r (.l .e)))))))) true) (.dyn 48 [(.t (.r (.l (.r (.r (.r (.r (.l .e))))))))]) (.call 48 [(.t (.r (.l (.r (.r (.r (.r (.l .e))))))))] ⟨7, opAt XP 27 19 9⟩) (.call 48 [(.t (.r (.l (.r (.r (.r (.r (.l .e))))))))] ⟨7, opAt XP 27 19 9⟩) (some (.l (.r (.r (.r (.r (.r (.l .e)))))))),
  .mk (.on (.t (.r (.r (.l (.r (.r (.r (.l .e)))))))) true) (.dyn 49 [(.t (.l (.l (.r (.r (.r (.r (.l .e)))))))), (.t (.l (.r (.r (.r (.r (.r (.l .e))))))))]) (.call 49 [(.t (.l (.l (.r (.r (.r (.r (.l .e)))))))), (.t (.l (.r (.r (.r (.r (.r (.l .e))))))))] ⟨7, opAt XP 27 19 10⟩) (.call 49 [(.t (.l (.l (.r (.r (.r (.r (.l .e)))))))), (.t (.l (.r (.r (.r (.r (.r (.l .e))))))))] ⟨7, opAt XP 27 19 10⟩) (some (.r (.r (.r (.r (.r (.r (.l .e)))))))),
  .mk .none .yes (.pk (.t (.r (.r (.l (.r (.r (.r (.l .e)))))))) (.t (.r (.r (.r (.r (.r (.r (.l .e)))))))) (.c (.tc (.sc (.bool false))))) (.pk (.t (.r (.r (.l (.r (.r (.r (.l .e)))))))) (.t (.r (.r (.r (.r (.r (.r (.l .e)))))))) (.c (.tc (.sc (.bool false))))) (some (.l (.l (.l (.l (.l (.l (.r .e)))))))),
  .mk .none .yes (.mv (.t (.l (.l (.l (.l (.l (.l (.r .e))))))))) (.mv (.t (.l (.l (.l (.l (.l (.l (.r .e))))))))) (some (.l (.l (.r (.l (.r (.r (.l .e))))))))])
 (.cond (.t (.l (.l (.r (.l (.r (.r (.l .e)))))))) (.seq (.reg [.p (.mv (.c (.tc (.sc (.int .i64 13))))) (.l (.r (.l (.l (.l (.l (.l .e)))))))])
 .ret)
 .skip)))))))))))))
 (.seq (.reg [.p (.mv (.c (.tc (.sc (.int .i64 0))))) (.l (.r (.l (.l (.l (.l (.l .e)))))))])
 .ret))))))
 [.tmp (.t (.l (.r (.l (.l (.l (.l (.l .e))))))))]
theorem ff27_ok : compF SBase 27 = ff27 := by kernel_rfl
noncomputable def ff48 : FF := .mk 1 [(.l (.l .e))] (encF 2 fun _ => undefA)
 (.seq (.reg [.p (.bx 1 (.t (.l (.l .e))) ⟨2, opAt XP 48 0 0⟩) (.r (.l .e)),
  .p (.mv (.c (.tc (.sc .nilFunc)))) (.l (.r .e))])
 (.seq (.reg [.p (.mf (.func 75) [] [(.t (.r (.l .e)))]) (.r (.r .e)),
  .p (.mv (.t (.r (.r .e)))) (.l (.r .e))])
 .ret))
 [.tmp (.t (.l (.r .e)))]
theorem ff48_ok : compF SBase 48 = ff48 := by kernel_rfl
noncomputable def ff75 : FF := .mk 2 [(.l (.l (.l .e))), (.r (.l (.l .e)))] (encF 3 fun _ => undefA)
 (.seq (.reg [.p (.bx 11 (.t (.l (.l (.l .e)))) ⟨3, opAt XP 75 0 0⟩) (.l (.r (.l .e))),
  .p (.mv (.c (.tc (.sc (.bool false))))) (.r (.r (.l .e)))])
 (.seq (.regD 3 8 (regAt XP 75 1) [0, 0, 2, 7, 15] [.mk .none .yes (.ld false 1 (.t (.r (.l (.l .e))))) (.ld false 1 (.t (.r (.l (.l .e))))) (some (.l (.l (.r .e)))),
  .mk .none .yes (.ld true 11 (.t (.l (.r (.l .e))))) (.ld true 11 (.t (.l (.r (.l .e))))) (some (.r (.l (.r .e)))),
  .mk .none (.dyn 77 [(.t (.r (.l (.r .e))))]) (.call 77 [(.t (.r (.l (.r .e))))] ⟨3, opAt XP 75 1 2⟩) (.call 77 [(.t (.r (.l (.r .e))))] ⟨3, opAt XP 75 1 2⟩) (some (.l (.r (.r .e)))),
  .mk .none (.dyn 76 [(.t (.l (.l (.r .e)))), (.t (.l (.r (.r .e))))]) (.call 76 [(.t (.l (.l (.r .e)))), (.t (.l (.r (.r .e))))] ⟨3, opAt XP 75 1 3⟩) (.call 76 [(.t (.l (.l (.r .e)))), (.t (.l (.r (.r .e))))] ⟨3, opAt XP 75 1 3⟩) (some (.r (.r (.r .e)))),
  .mk .none .yes (.mv (.t (.r (.r (.r .e))))) (.mv (.t (.r (.r (.r .e))))) (some (.r (.r (.l .e))))])
 .ret))
 [.tmp (.t (.r (.r (.l .e))))]
theorem ff75_ok : compF SBase 75 = ff75 := by kernel_rfl
noncomputable def ff77 : FF := .mk 1 [(.l (.l (.l (.l .e))))] (encF 4 fun _ => undefA)
 (.seq (.reg [.p (.bx 11 (.t (.l (.l (.l (.l .e))))) ⟨4, opAt XP 77 0 0⟩) (.r (.l (.l (.l .e)))),
  .p (.mv (.c (.tc (.sc (.int .u8 0))))) (.l (.r (.l (.l .e))))])
 (.seq (.reg [.p (.fa 0 (.t (.r (.l (.l (.l .e)))))) (.l (.r (.r (.l .e)))),
  .p (.ld false 1 (.t (.l (.r (.r (.l .e)))))) (.r (.r (.r (.l .e)))),
  .p (.call 79 [(.t (.r (.r (.r (.l .e)))))] ⟨4, opAt XP 77 1 2⟩) (.l (.l (.l (.r .e)))),
  .p (.mv (.t (.l (.l (.l (.r .e)))))) (.r (.l (.r (.l .e)))),
  .p (.ex (.t (.r (.l (.r (.l .e))))) 0) (.r (.l (.l (.r .e)))),
  .p (.ex (.t (.r (.l (.r (.l .e))))) 1) (.l (.r (.l (.r .e)))),
  .p (.al 5 [(.sc (.int .u8 0)), (.sc (.string ⟨#[]⟩)), (.sc (.int .u8 0)), (.sc (.int .u8 0)), (.sc (.slice none 0 0))]) (.r (.r (.l (.l .e)))),
  .n (.st 5 (.t (.r (.r (.l (.l .e))))) (.t (.r (.l (.l (.r .e))))) ⟨4, opAt XP 77 1 7⟩),
  .p (.mv (.t (.l (.r (.l (.r .e)))))) (.l (.l (.r (.l .e))))])
 (.seq (.reg [.p (.fa 2 (.t (.r (.r (.l (.l .e)))))) (.r (.r (.l (.r .e)))),
  .p (.ld false 1 (.t (.r (.r (.l (.r .e)))))) (.l (.l (.r (.r .e)))),
  .p (.mv (.t (.l (.l (.r (.r .e)))))) (.l (.r (.l (.l .e))))])
 .ret)))
 [.tmp (.t (.l (.r (.l (.l .e)))))]
theorem ff77_ok : compF SBase 77 = ff77 := by kernel_rfl
noncomputable def ff79 : FF := .mk 1 [(.l (.l (.l (.l (.l .e)))))] (encF 5 fun _ => undefA)
 (.seq (.reg [.p (.al 5 [(.sc (.int .u8 0)), (.sc (.string ⟨#[]⟩)), (.sc (.int .u8 0)), (.sc (.int .u8 0)), (.sc (.slice none 0 0))]) (.l (.r (.l (.l (.l .e))))),
  .p (.mv (.c (.tc (.sc (.bool false))))) (.r (.r (.l (.l (.l .e)))))])
 (.seq (.reg [.p (.mv (.t (.l (.l (.l (.l (.l .e))))))) (.r (.r (.r (.l (.l .e))))),
  .p (.call 100 [(.t (.r (.r (.r (.l (.l .e))))))] ⟨5, opAt XP 79 1 1⟩) (.l (.l (.l (.r (.l .e))))),
  .p (.mv (.t (.l (.l (.l (.r (.l .e))))))) (.l (.r (.r (.l (.l .e))))),
  .p (.ex (.t (.l (.r (.r (.l (.l .e)))))) 0) (.r (.l (.l (.r (.l .e))))),
  .p (.ex (.t (.l (.r (.r (.l (.l .e)))))) 1) (.l (.r (.l (.r (.l .e))))),
  .p (.al 5 [(.sc (.int .u8 0)), (.sc (.string ⟨#[]⟩)), (.sc (.int .u8 0)), (.sc (.int .u8 0)), (.sc (.slice none 0 0))]) (.l (.l (.r (.l (.l .e))))),
  .n (.st 5 (.t (.l (.l (.r (.l (.l .e)))))) (.t (.r (.l (.l (.r (.l .e)))))) ⟨5, opAt XP 79 1 6⟩),
  .p (.mv (.t (.l (.r (.l (.r (.l .e))))))) (.r (.l (.r (.l (.l .e)))))])
 (.seq (.reg [.p (.fa 4 (.t (.l (.l (.r (.l (.l .e))))))) (.r (.r (.l (.r (.l .e))))),
  .p (.ld false 1 (.t (.r (.r (.l (.r (.l .e))))))) (.l (.l (.r (.r (.l .e))))),
  .p (.call 103 [(.t (.l (.l (.r (.r (.l .e))))))] ⟨5, opAt XP 79 2 2⟩) (.r (.l (.r (.r (.l .e))))),
  .p (.fa 4 (.t (.l (.l (.r (.l (.l .e))))))) (.l (.r (.r (.r (.l .e))))),
  .n (.st 1 (.t (.l (.r (.r (.r (.l .e)))))) (.t (.r (.l (.r (.r (.l .e)))))) ⟨5, opAt XP 79 2 4⟩)])
 (.seq (.reg [.p (.ld true 5 (.t (.l (.l (.r (.l (.l .e))))))) (.r (.r (.r (.r (.l .e))))),
  .p (.mv (.t (.r (.l (.r (.l (.l .e))))))) (.l (.l (.l (.l (.r .e))))),
  .n (.st 5 (.t (.l (.r (.l (.l (.l .e)))))) (.t (.r (.r (.r (.r (.l .e)))))) ⟨5, opAt XP 79 3 2⟩),
  .p (.mv (.t (.l (.l (.l (.l (.r .e))))))) (.r (.r (.l (.l (.l .e)))))])
 .ret))))
 [.cell (.t (.l (.r (.l (.l (.l .e)))))) true 5, .tmp (.t (.r (.r (.l (.l (.l .e))))))]
theorem ff79_ok : compF SBase 79 = ff79 := by kernel_rfl
noncomputable def ff100 : FF := .mk 1 [(.l (.l (.l (.l (.l .e)))))] (encF 5 fun _ => undefA)
 (.seq (.reg [.p (.al 5 [(.sc (.int .u8 0)), (.sc (.string ⟨#[]⟩)), (.sc (.int .u8 0)), (.sc (.int .u8 0)), (.sc (.slice none 0 0))]) (.l (.r (.l (.l (.l .e))))),
  .p (.mv (.c (.tc (.sc (.bool false))))) (.r (.r (.l (.l (.l .e)))))])
 (.seq (.reg [.p (.call 110 [] ⟨5, opAt XP 100 1 0⟩) (.r (.l (.r (.l (.l .e))))),
  .p (.mv (.t (.r (.l (.r (.l (.l .e))))))) (.l (.l (.r (.l (.l .e)))))])
 (.seq (.seq (.reg [.p (.mv (.t (.l (.l (.l (.l (.l .e))))))) (.l (.r (.r (.l (.l .e))))),
  .p (.bin .lss (.t (.l (.r (.r (.l (.l .e)))))) (.c (.tc (.sc (.int .u8 1)))) ⟨5, opAt XP 100 2 1⟩) (.r (.r (.r (.l (.l .e))))),
  .p (.mv (.t (.r (.r (.r (.l (.l .e))))))) (.l (.l (.l (.r (.l .e))))),
  .gp (.t (.l (.l (.l (.r (.l .e)))))) false (.mv (.t (.l (.l (.l (.l (.l .e))))))) (.r (.l (.l (.r (.l .e))))),
  .gp (.t (.l (.l (.l (.r (.l .e)))))) false (.cv .i64 (.t (.r (.l (.l (.r (.l .e)))))) ⟨5, opAt XP 100 2 4⟩) (.l (.r (.l (.r (.l .e))))),
  .gp (.t (.l (.l (.l (.r (.l .e)))))) false (.mv (.t (.l (.l (.r (.l (.l .e))))))) (.r (.r (.l (.r (.l .e))))),
  .gp (.t (.l (.l (.l (.r (.l .e)))))) false (.len (.t (.r (.r (.l (.r (.l .e)))))) ⟨5, opAt XP 100 2 6⟩) (.l (.l (.r (.r (.l .e))))),
  .gp (.t (.l (.l (.l (.r (.l .e)))))) false (.bin .gtr (.t (.l (.r (.l (.r (.l .e)))))) (.t (.l (.l (.r (.r (.l .e)))))) ⟨5, opAt XP 100 2 7⟩) (.r (.l (.r (.r (.l .e))))),
  .p (.pk (.t (.l (.l (.l (.r (.l .e)))))) (.c (.tc (.sc (.bool true)))) (.t (.r (.l (.r (.r (.l .e))))))) (.l (.r (.r (.r (.l .e)))))])
 (.cond (.t (.l (.r (.r (.r (.l .e)))))) (.seq (.reg [.p (.bd [(.tc (.sc (.int .u8 0))), (.tc (.sc (.string ⟨#[]⟩))), (.tc (.sc (.int .u8 0))), (.tc (.sc (.int .u8 0))), (.tc (.sc (.slice none 0 0)))] [] ⟨5, opAt XP 100 3 0⟩) (.r (.r (.r (.r (.l .e))))),
  .n (.st 5 (.t (.l (.r (.l (.l (.l .e)))))) (.t (.r (.r (.r (.r (.l .e)))))) ⟨5, opAt XP 100 3 1⟩),
  .p (.mv (.c (.tc (.sc (.bool false))))) (.r (.r (.l (.l (.l .e)))))])
 .ret)
 .skip))
 (.seq (.reg [.p (.mv (.t (.l (.l (.r (.l (.l .e))))))) (.l (.l (.l (.l (.r .e))))),
  .p (.mv (.t (.l (.l (.l (.l (.l .e))))))) (.r (.l (.l (.l (.r .e))))),
  .p (.bin .sub (.t (.r (.l (.l (.l (.r .e)))))) (.c (.tc (.sc (.int .u8 1)))) ⟨5, opAt XP 100 4 2⟩) (.l (.r (.l (.l (.r .e))))),
  .p (.ia 5 (.t (.l (.l (.l (.l (.r .e)))))) (.t (.l (.r (.l (.l (.r .e)))))) ⟨5, opAt XP 100 4 3⟩) (.r (.r (.l (.l (.r .e))))),
  .p (.ld true 5 (.t (.r (.r (.l (.l (.r .e))))))) (.l (.l (.r (.l (.r .e))))),
  .n (.st 5 (.t (.l (.r (.l (.l (.l .e)))))) (.t (.l (.l (.r (.l (.r .e)))))) ⟨5, opAt XP 100 4 5⟩),
  .p (.mv (.c (.tc (.sc (.bool true))))) (.r (.r (.l (.l (.l .e)))))])
 .ret))))
 [.cell (.t (.l (.r (.l (.l (.l .e)))))) true 5, .tmp (.t (.r (.r (.l (.l (.l .e))))))]
theorem ff100_ok : compF SBase 100 = ff100 := by kernel_rfl
noncomputable def ff110 : FF := .mk 0 [] (encF 8 fun _ => undefA)
 (.seq (.reg [.p (.mv (.c (.tc (.sc (.slice none 0 0))))) (.l (.l (.l (.l (.l (.l (.l (.l .e))))))))])
 (.seq (.reg [.p (.call 114 [(.c (.tc (.sc (.int .u8 1)))), (.c (.tc (.sc (.string ⟨#[110, 111, 112]⟩)))), (.c (.tc (.sc (.int .u8 1)))), (.c (.tc (.sc (.slice none 0 0))))] ⟨8, opAt XP 110 1 0⟩) (.r (.l (.l (.l (.l (.l (.l (.l .e)))))))),
  .p (.call 115 [] ⟨8, opAt XP 110 1 1⟩) (.l (.r (.l (.l (.l (.l (.l (.l .e)))))))),
  .p (.call 116 [] ⟨8, opAt XP 110 1 2⟩) (.r (.r (.l (.l (.l (.l (.l (.l .e)))))))),
  .p (.call 117 [] ⟨8, opAt XP 110 1 3⟩) (.l (.l (.r (.l (.l (.l (.l (.l .e)))))))),
  .p (.call 118 [] ⟨8, opAt XP 110 1 4⟩) (.r (.l (.r (.l (.l (.l (.l (.l .e)))))))),
  .p (.bs 1 4 [[(.tc (.sc (.slice none 0 0)))], [(.tc (.sc (.slice none 0 0)))], [(.tc (.sc (.slice none 0 0)))], [(.tc (.sc (.slice none 0 0)))]] [(.mk 0 1 (.t (.l (.r (.l (.l (.l (.l (.l (.l .e)))))))))), (.mk 1 1 (.t (.r (.r (.l (.l (.l (.l (.l (.l .e)))))))))), (.mk 2 1 (.t (.l (.l (.r (.l (.l (.l (.l (.l .e)))))))))), (.mk 3 1 (.t (.r (.l (.r (.l (.l (.l (.l (.l .e))))))))))] ⟨8, opAt XP 110 1 5⟩) (.l (.r (.r (.l (.l (.l (.l (.l .e)))))))),
  .p (.call 114 [(.c (.tc (.sc (.int .u8 2)))), (.c (.tc (.sc (.string ⟨#[97, 100, 100]⟩)))), (.c (.tc (.sc (.int .u8 1)))), (.t (.l (.r (.r (.l (.l (.l (.l (.l .e)))))))))] ⟨8, opAt XP 110 1 6⟩) (.r (.r (.r (.l (.l (.l (.l (.l .e)))))))),
  .p (.call 115 [] ⟨8, opAt XP 110 1 7⟩) (.l (.l (.l (.r (.l (.l (.l (.l .e)))))))),
  .p (.call 116 [] ⟨8, opAt XP 110 1 8⟩) (.r (.l (.l (.r (.l (.l (.l (.l .e)))))))),
  .p (.call 117 [] ⟨8, opAt XP 110 1 9⟩) (.l (.r (.l (.r (.l (.l (.l (.l .e)))))))),
  .p (.call 118 [] ⟨8, opAt XP 110 1 10⟩) (.r (.r (.l (.r (.l (.l (.l (.l .e)))))))),
  .p (.bs 1 4 [[(.tc (.sc (.slice none 0 0)))], [(.tc (.sc (.slice none 0 0)))], [(.tc (.sc (.slice none 0 0)))], [(.tc (.sc (.slice none 0 0)))]] [(.mk 0 1 (.t (.l (.l (.l (.r (.l (.l (.l (.l .e)))))))))), (.mk 1 1 (.t (.r (.l (.l (.r (.l (.l (.l (.l .e)))))))))), (.mk 2 1 (.t (.l (.r (.l (.r (.l (.l (.l (.l .e)))))))))), (.mk 3 1 (.t (.r (.r (.l (.r (.l (.l (.l (.l .e))))))))))] ⟨8, opAt XP 110 1 11⟩) (.l (.l (.r (.r (.l (.l (.l (.l .e)))))))),
  .p (.call 114 [(.c (.tc (.sc (.int .u8 3)))), (.c (.tc (.sc (.string ⟨#[115, 117, 98]⟩)))), (.c (.tc (.sc (.int .u8 1)))), (.t (.l (.l (.r (.r (.l (.l (.l (.l .e)))))))))] ⟨8, opAt XP 110 1 12⟩) (.r (.l (.r (.r (.l (.l (.l (.l .e)))))))),
  .p (.call 115 [] ⟨8, opAt XP 110 1 13⟩) (.l (.r (.r (.r (.l (.l (.l (.l .e)))))))),
  .p (.call 116 [] ⟨8, opAt XP 110 1 14⟩) (.r (.r (.r (.r (.l (.l (.l (.l .e)))))))),
  .p (.call 117 [] ⟨8, opAt XP 110 1 15⟩) (.l (.l (.l (.l (.r (.l (.l (.l .e)))))))),
  .p (.call 118 [] ⟨8, opAt XP 110 1 16⟩) (.r (.l (.l (.l (.r (.l (.l (.l .e)))))))),
  .p (.bs 1 4 [[(.tc (.sc (.slice none 0 0)))], [(.tc (.sc (.slice none 0 0)))], [(.tc (.sc (.slice none 0 0)))], [(.tc (.sc (.slice none 0 0)))]] [(.mk 0 1 (.t (.l (.r (.r (.r (.l (.l (.l (.l .e)))))))))), (.mk 1 1 (.t (.r (.r (.r (.r (.l (.l (.l (.l .e)))))))))), (.mk 2 1 (.t (.l (.l (.l (.l (.r (.l (.l (.l .e)))))))))), (.mk 3 1 (.t (.r (.l (.l (.l (.r (.l (.l (.l .e))))))))))] ⟨8, opAt XP 110 1 17⟩) (.l (.r (.l (.l (.r (.l (.l (.l .e)))))))),
  .p (.call 114 [(.c (.tc (.sc (.int .u8 4)))), (.c (.tc (.sc (.string ⟨#[97, 110, 100]⟩)))), (.c (.tc (.sc (.int .u8 1)))), (.t (.l (.r (.l (.l (.r (.l (.l (.l .e)))))))))] ⟨8, opAt XP 110 1 18⟩) (.r (.r (.l (.l (.r (.l (.l (.l .e)))))))),
  .p (.call 115 [] ⟨8, opAt XP 110 1 19⟩) (.l (.l (.r (.l (.r (.l (.l (.l .e)))))))),
  .p (.call 116 [] ⟨8, opAt XP 110 1 20⟩) (.r (.l (.r (.l (.r (.l (.l (.l .e)))))))),
  .p (.call 117 [] ⟨8, opAt XP 110 1 21⟩) (.l (.r (.r (.l (.r (.l (.l (.l .e)))))))),
  .p (.call 118 [] ⟨8, opAt XP 110 1 22⟩) (.r (.r (.r (.l (.r (.l (.l (.l .e)))))))),
  .p (.bs 1 4 [[(.tc (.sc (.slice none 0 0)))], [(.tc (.sc (.slice none 0 0)))], [(.tc (.sc (.slice none 0 0)))], [(.tc (.sc (.slice none 0 0)))]] [(.mk 0 1 (.t (.l (.l (.r (.l (.r (.l (.l (.l .e)))))))))), (.mk 1 1 (.t (.r (.l (.r (.l (.r (.l (.l (.l .e)))))))))), (.mk 2 1 (.t (.l (.r (.r (.l (.r (.l (.l (.l .e)))))))))), (.mk 3 1 (.t (.r (.r (.r (.l (.r (.l (.l (.l .e))))))))))] ⟨8, opAt XP 110 1 23⟩) (.l (.l (.l (.r (.r (.l (.l (.l .e)))))))),
  .p (.call 114 [(.c (.tc (.sc (.int .u8 5)))), (.c (.tc (.sc (.string ⟨#[111, 114]⟩)))), (.c (.tc (.sc (.int .u8 1)))), (.t (.l (.l (.l (.r (.r (.l (.l (.l .e)))))))))] ⟨8, opAt XP 110 1 24⟩) (.r (.l (.l (.r (.r (.l (.l (.l .e)))))))),
  .p (.call 115 [] ⟨8, opAt XP 110 1 25⟩) (.l (.r (.l (.r (.r (.l (.l (.l .e)))))))),
  .p (.call 116 [] ⟨8, opAt XP 110 1 26⟩) (.r (.r (.l (.r (.r (.l (.l (.l .e)))))))),
  .p (.call 117 [] ⟨8, opAt XP 110 1 27⟩) (.l (.l (.r (.r (.r (.l (.l (.l .e)))))))),
  .p (.call 118 [] ⟨8, opAt XP 110 1 28⟩) (.r (.l (.r (.r (.r (.l (.l (.l .e)))))))),
  .p (.bs 1 4 [[(.tc (.sc (.slice none 0 0)))], [(.tc (.sc (.slice none 0 0)))], [(.tc (.sc (.slice none 0 0)))], [(.tc (.sc (.slice none 0 0)))]] [(.mk 0 1 (.t (.l (.r (.l (.r (.r (.l (.l (.l .e)))))))))), (.mk 1 1 (.t (.r (.r (.l (.r (.r (.l (.l (.l .e)))))))))), (.mk 2 1 (.t (.l (.l (.r (.r (.r (.l (.l (.l .e)))))))))), (.mk 3 1 (.t (.r (.l (.r (.r (.r (.l (.l (.l .e))))))))))] ⟨8, opAt XP 110 1 29⟩) (.l (.r (.r (.r (.r (.l (.l (.l .e)))))))),
  .p (.call 114 [(.c (.tc (.sc (.int .u8 6)))), (.c (.tc (.sc (.string ⟨#[120, 111, 114]⟩)))), (.c (.tc (.sc (.int .u8 1)))), (.t (.l (.r (.r (.r (.r (.l (.l (.l .e)))))))))] ⟨8, opAt XP 110 1 30⟩) (.r (.r (.r (.r (.r (.l (.l (.l .e)))))))),
  .p (.call 116 [] ⟨8, opAt XP 110 1 31⟩) (.l (.l (.l (.l (.l (.r (.l (.l .e)))))))),
  .p (.call 117 [] ⟨8, opAt XP 110 1 32⟩) (.r (.l (.l (.l (.l (.r (.l (.l .e)))))))),
  .p (.call 119 [(.c (.tc (.sc (.int .i64 14)))), (.c (.tc (.sc (.int .i64 0))))] ⟨8, opAt XP 110 1 33⟩) (.l (.r (.l (.l (.l (.r (.l (.l .e)))))))),
  .p (.bs 1 3 [[(.tc (.sc (.slice none 0 0)))], [(.tc (.sc (.slice none 0 0)))], [(.tc (.sc (.slice none 0 0)))]] [(.mk 0 1 (.t (.l (.l (.l (.l (.l (.r (.l (.l .e)))))))))), (.mk 1 1 (.t (.r (.l (.l (.l (.l (.r (.l (.l .e)))))))))), (.mk 2 1 (.t (.l (.r (.l (.l (.l (.r (.l (.l .e))))))))))] ⟨8, opAt XP 110 1 34⟩) (.r (.r (.l (.l (.l (.r (.l (.l .e)))))))),
  .p (.call 114 [(.c (.tc (.sc (.int .u8 7)))), (.c (.tc (.sc (.string ⟨#[97, 100, 100, 105]⟩)))), (.c (.tc (.sc (.int .u8 1)))), (.t (.r (.r (.l (.l (.l (.r (.l (.l .e)))))))))] ⟨8, opAt XP 110 1 35⟩) (.l (.l (.r (.l (.l (.r (.l (.l .e)))))))),
  .p (.call 115 [] ⟨8, opAt XP 110 1 36⟩) (.r (.l (.r (.l (.l (.r (.l (.l .e)))))))),
  .p (.call 116 [] ⟨8, opAt XP 110 1 37⟩) (.l (.r (.r (.l (.l (.r (.l (.l .e)))))))),
  .p (.call 119 [(.c (.tc (.sc (.int .i64 14)))), (.c (.tc (.sc (.int .i64 0))))] ⟨8, opAt XP 110 1 38⟩) (.r (.r (.r (.l (.l (.r (.l (.l .e)))))))),
  .p (.bs 1 3 [[(.tc (.sc (.slice none 0 0)))], [(.tc (.sc (.slice none 0 0)))], [(.tc (.sc (.slice none 0 0)))]] [(.mk 0 1 (.t (.r (.l (.r (.l (.l (.r (.l (.l .e)))))))))), (.mk 1 1 (.t (.l (.r (.r (.l (.l (.r (.l (.l .e)))))))))), (.mk 2 1 (.t (.r (.r (.r (.l (.l (.r (.l (.l .e))))))))))] ⟨8, opAt XP 110 1 39⟩) (.l (.l (.l (.r (.l (.r (.l (.l .e)))))))),
  .p (.call 114 [(.c (.tc (.sc (.int .u8 8)))), (.c (.tc (.sc (.string ⟨#[109, 111, 118, 105]⟩)))), (.c (.tc (.sc (.int .u8 1)))), (.t (.l (.l (.l (.r (.l (.r (.l (.l .e)))))))))] ⟨8, opAt XP 110 1 40⟩) (.r (.l (.l (.r (.l (.r (.l (.l .e)))))))),
  .p (.call 115 [] ⟨8, opAt XP 110 1 41⟩) (.l (.r (.l (.r (.l (.r (.l (.l .e)))))))),
  .p (.call 116 [] ⟨8, opAt XP 110 1 42⟩) (.r (.r (.l (.r (.l (.r (.l (.l .e)))))))),
  .p (.call 117 [] ⟨8, opAt XP 110 1 43⟩) (.l (.l (.r (.r (.l (.r (.l (.l .e)))))))),
  .p (.bs 1 3 [[(.tc (.sc (.slice none 0 0)))], [(.tc (.sc (.slice none 0 0)))], [(.tc (.sc (.slice none 0 0)))]] [(.mk 0 1 (.t (.l (.r (.l (.r (.l (.r (.l (.l .e)))))))))), (.mk 1 1 (.t (.r (.r (.l (.r (.l (.r (.l (.l .e)))))))))), (.mk 2 1 (.t (.l (.l (.r (.r (.l (.r (.l (.l .e))))))))))] ⟨8, opAt XP 110 1 44⟩) (.r (.l (.r (.r (.l (.r (.l (.l .e)))))))),
  .p (.call 114 [(.c (.tc (.sc (.int .u8 9)))), (.c (.tc (.sc (.string ⟨#[109, 111, 118]⟩)))), (.c (.tc (.sc (.int .u8 1)))), (.t (.r (.l (.r (.r (.l (.r (.l (.l .e)))))))))] ⟨8, opAt XP 110 1 45⟩) (.l (.r (.r (.r (.l (.r (.l (.l .e)))))))),
  .p (.call 120 [] ⟨8, opAt XP 110 1 46⟩) (.r (.r (.r (.r (.l (.r (.l (.l .e)))))))),
  .p (.call 117 [] ⟨8, opAt XP 110 1 47⟩) (.l (.l (.l (.l (.r (.r (.l (.l .e)))))))),
  .p (.call 118 [] ⟨8, opAt XP 110 1 48⟩) (.r (.l (.l (.l (.r (.r (.l (.l .e)))))))),
  .p (.bs 1 3 [[(.tc (.sc (.slice none 0 0)))], [(.tc (.sc (.slice none 0 0)))], [(.tc (.sc (.slice none 0 0)))]] [(.mk 0 1 (.t (.r (.r (.r (.r (.l (.r (.l (.l .e)))))))))), (.mk 1 1 (.t (.l (.l (.l (.l (.r (.r (.l (.l .e)))))))))), (.mk 2 1 (.t (.r (.l (.l (.l (.r (.r (.l (.l .e))))))))))] ⟨8, opAt XP 110 1 49⟩) (.l (.r (.l (.l (.r (.r (.l (.l .e)))))))),
  .p (.call 114 [(.c (.tc (.sc (.int .u8 10)))), (.c (.tc (.sc (.string ⟨#[99, 109, 112, 101, 113]⟩)))), (.c (.tc (.sc (.int .u8 1)))), (.t (.l (.r (.l (.l (.r (.r (.l (.l .e)))))))))] ⟨8, opAt XP 110 1 50⟩) (.r (.r (.l (.l (.r (.r (.l (.l .e)))))))),
  .p (.call 120 [] ⟨8, opAt XP 110 1 51⟩) (.l (.l (.r (.l (.r (.r (.l (.l .e)))))))),
  .p (.call 117 [] ⟨8, opAt XP 110 1 52⟩) (.r (.l (.r (.l (.r (.r (.l (.l .e)))))))),
  .p (.call 118 [] ⟨8, opAt XP 110 1 53⟩) (.l (.r (.r (.l (.r (.r (.l (.l .e)))))))),
  .p (.bs 1 3 [[(.tc (.sc (.slice none 0 0)))], [(.tc (.sc (.slice none 0 0)))], [(.tc (.sc (.slice none 0 0)))]] [(.mk 0 1 (.t (.l (.l (.r (.l (.r (.r (.l (.l .e)))))))))), (.mk 1 1 (.t (.r (.l (.r (.l (.r (.r (.l (.l .e)))))))))), (.mk 2 1 (.t (.l (.r (.r (.l (.r (.r (.l (.l .e))))))))))] ⟨8, opAt XP 110 1 54⟩) (.r (.r (.r (.l (.r (.r (.l (.l .e)))))))),
  .p (.call 114 [(.c (.tc (.sc (.int .u8 11)))), (.c (.tc (.sc (.string ⟨#[99, 109, 112, 103, 116]⟩)))), (.c (.tc (.sc (.int .u8 1)))), (.t (.r (.r (.r (.l (.r (.r (.l (.l .e)))))))))] ⟨8, opAt XP 110 1 55⟩) (.l (.l (.l (.r (.r (.r (.l (.l .e)))))))),
  .p (.call 120 [] ⟨8, opAt XP 110 1 56⟩) (.r (.l (.l (.r (.r (.r (.l (.l .e)))))))),
  .p (.call 117 [] ⟨8, opAt XP 110 1 57⟩) (.l (.r (.l (.r (.r (.r (.l (.l .e)))))))),
  .p (.call 118 [] ⟨8, opAt XP 110 1 58⟩) (.r (.r (.l (.r (.r (.r (.l (.l .e)))))))),
  .p (.bs 1 3 [[(.tc (.sc (.slice none 0 0)))], [(.tc (.sc (.slice none 0 0)))], [(.tc (.sc (.slice none 0 0)))]] [(.mk 0 1 (.t (.r (.l (.l (.r (.r (.r (.l (.l .e)))))))))), (.mk 1 1 (.t (.l (.r (.l (.r (.r (.r (.l (.l .e)))))))))), (.mk 2 1 (.t (.r (.r (.l (.r (.r (.r (.l (.l .e))))))))))] ⟨8, opAt XP 110 1 59⟩) (.l (.l (.r (.r (.r (.r (.l (.l .e)))))))),
  .p (.call 114 [(.c (.tc (.sc (.int .u8 12)))), (.c (.tc (.sc (.string ⟨#[99, 109, 112, 103, 116, 117]⟩)))), (.c (.tc (.sc (.int .u8 1)))), (.t (.l (.l (.r (.r (.r (.r (.l (.l .e)))))))))] ⟨8, opAt XP 110 1 60⟩) (.r (.l (.r (.r (.r (.r (.l (.l .e)))))))),
  .p (.call 120 [] ⟨8, opAt XP 110 1 61⟩) (.l (.r (.r (.r (.r (.r (.l (.l .e)))))))),
  .p (.call 117 [] ⟨8, opAt XP 110 1 62⟩) (.r (.r (.r (.r (.r (.r (.l (.l .e)))))))),
  .p (.call 119 [(.c (.tc (.sc (.int .i64 14)))), (.c (.tc (.sc (.int .i64 0))))] ⟨8, opAt XP 110 1 63⟩) (.l (.l (.l (.l (.l (.l (.r (.l .e)))))))),
  .p (.bs 1 3 [[(.tc (.sc (.slice none 0 0)))], [(.tc (.sc (.slice none 0 0)))], [(.tc (.sc (.slice none 0 0)))]] [(.mk 0 1 (.t (.l (.r (.r (.r (.r (.r (.l (.l .e)))))))))), (.mk 1 1 (.t (.r (.r (.r (.r (.r (.r (.l (.l .e)))))))))), (.mk 2 1 (.t (.l (.l (.l (.l (.l (.l (.r (.l .e))))))))))] ⟨8, opAt XP 110 1 64⟩) (.r (.l (.l (.l (.l (.l (.r (.l .e)))))))),
  .p (.call 114 [(.c (.tc (.sc (.int .u8 13)))), (.c (.tc (.sc (.string ⟨#[99, 109, 112, 101, 113, 105]⟩)))), (.c (.tc (.sc (.int .u8 1)))), (.t (.r (.l (.l (.l (.l (.l (.r (.l .e)))))))))] ⟨8, opAt XP 110 1 65⟩) (.l (.r (.l (.l (.l (.l (.r (.l .e)))))))),
  .p (.call 116 [] ⟨8, opAt XP 110 1 66⟩) (.r (.r (.l (.l (.l (.l (.r (.l .e)))))))),
  .p (.call 121 [(.c (.tc (.sc (.int .u8 2)))), (.c (.tc (.sc (.int .i64 2))))] ⟨8, opAt XP 110 1 67⟩) (.l (.l (.r (.l (.l (.l (.r (.l .e)))))))),
  .p (.call 117 [] ⟨8, opAt XP 110 1 68⟩) (.r (.l (.r (.l (.l (.l (.r (.l .e)))))))),
  .p (.call 118 [] ⟨8, opAt XP 110 1 69⟩) (.l (.r (.r (.l (.l (.l (.r (.l .e)))))))),
  .p (.bs 1 4 [[(.tc (.sc (.slice none 0 0)))], [(.tc (.sc (.slice none 0 0)))], [(.tc (.sc (.slice none 0 0)))], [(.tc (.sc (.slice none 0 0)))]] [(.mk 0 1 (.t (.r (.r (.l (.l (.l (.l (.r (.l .e)))))))))), (.mk 1 1 (.t (.l (.l (.r (.l (.l (.l (.r (.l .e)))))))))), (.mk 2 1 (.t (.r (.l (.r (.l (.l (.l (.r (.l .e)))))))))), (.mk 3 1 (.t (.l (.r (.r (.l (.l (.l (.r (.l .e))))))))))] ⟨8, opAt XP 110 1 70⟩) (.r (.r (.r (.l (.l (.l (.r (.l .e)))))))),
  .p (.call 114 [(.c (.tc (.sc (.int .u8 14)))), (.c (.tc (.sc (.string ⟨#[109, 117, 120]⟩)))), (.c (.tc (.sc (.int .u8 1)))), (.t (.r (.r (.r (.l (.l (.l (.r (.l .e)))))))))] ⟨8, opAt XP 110 1 71⟩) (.l (.l (.l (.r (.l (.l (.r (.l .e)))))))),
  .p (.call 116 [] ⟨8, opAt XP 110 1 72⟩) (.r (.l (.l (.r (.l (.l (.r (.l .e)))))))),
  .p (.call 117 [] ⟨8, opAt XP 110 1 73⟩) (.l (.r (.l (.r (.l (.l (.r (.l .e)))))))),
  .p (.call 121 [(.c (.tc (.sc (.int .u8 9)))), (.c (.tc (.sc (.int .i64 5))))] ⟨8, opAt XP 110 1 74⟩) (.r (.r (.l (.r (.l (.l (.r (.l .e)))))))),
  .p (.bs 1 3 [[(.tc (.sc (.slice none 0 0)))], [(.tc (.sc (.slice none 0 0)))], [(.tc (.sc (.slice none 0 0)))]] [(.mk 0 1 (.t (.r (.l (.l (.r (.l (.l (.r (.l .e)))))))))), (.mk 1 1 (.t (.l (.r (.l (.r (.l (.l (.r (.l .e)))))))))), (.mk 2 1 (.t (.r (.r (.l (.r (.l (.l (.r (.l .e))))))))))] ⟨8, opAt XP 110 1 75⟩) (.l (.l (.r (.r (.l (.l (.r (.l .e)))))))),
  .p (.call 114 [(.c (.tc (.sc (.int .u8 15)))), (.c (.tc (.sc (.string ⟨#[97, 115, 108]⟩)))), (.c (.tc (.sc (.int .u8 2)))), (.t (.l (.l (.r (.r (.l (.l (.r (.l .e)))))))))] ⟨8, opAt XP 110 1 76⟩) (.r (.l (.r (.r (.l (.l (.r (.l .e)))))))),
  .p (.call 116 [] ⟨8, opAt XP 110 1 77⟩) (.l (.r (.r (.r (.l (.l (.r (.l .e)))))))),
  .p (.call 117 [] ⟨8, opAt XP 110 1 78⟩) (.r (.r (.r (.r (.l (.l (.r (.l .e)))))))),
  .p (.call 121 [(.c (.tc (.sc (.int .u8 9)))), (.c (.tc (.sc (.int .i64 5))))] ⟨8, opAt XP 110 1 79⟩) (.l (.l (.l (.l (.r (.l (.r (.l .e)))))))),
  .p (.bs 1 3 [[(.tc (.sc (.slice none 0 0)))], [(.tc (.sc (.slice none 0 0)))], [(.tc (.sc (.slice none 0 0)))]] [(.mk 0 1 (.t (.l (.r (.r (.r (.l (.l (.r (.l .e)))))))))), (.mk 1 1 (.t (.r (.r (.r (.r (.l (.l (.r (.l .e)))))))))), (.mk 2 1 (.t (.l (.l (.l (.l (.r (.l (.r (.l .e))))))))))] ⟨8, opAt XP 110 1 80⟩) (.r (.l (.l (.l (.r (.l (.r (.l .e)))))))),
  .p (.call 114 [(.c (.tc (.sc (.int .u8 16)))), (.c (.tc (.sc (.string ⟨#[108, 115, 114]⟩)))), (.c (.tc (.sc (.int .u8 2)))), (.t (.r (.l (.l (.l (.r (.l (.r (.l .e)))))))))] ⟨8, opAt XP 110 1 81⟩) (.l (.r (.l (.l (.r (.l (.r (.l .e)))))))),
  .p (.call 116 [] ⟨8, opAt XP 110 1 82⟩) (.r (.r (.l (.l (.r (.l (.r (.l .e)))))))),
  .p (.call 117 [] ⟨8, opAt XP 110 1 83⟩) (.l (.l (.r (.l (.r (.l (.r (.l .e)))))))),
  .p (.call 121 [(.c (.tc (.sc (.int .u8 9)))), (.c (.tc (.sc (.int .i64 5))))] ⟨8, opAt XP 110 1 84⟩) (.r (.l (.r (.l (.r (.l (.r (.l .e)))))))),
  .p (.bs 1 3 [[(.tc (.sc (.slice none 0 0)))], [(.tc (.sc (.slice none 0 0)))], [(.tc (.sc (.slice none 0 0)))]] [(.mk 0 1 (.t (.r (.r (.l (.l (.r (.l (.r (.l .e)))))))))), (.mk 1 1 (.t (.l (.l (.r (.l (.r (.l (.r (.l .e)))))))))), (.mk 2 1 (.t (.r (.l (.r (.l (.r (.l (.r (.l .e))))))))))] ⟨8, opAt XP 110 1 85⟩) (.l (.r (.r (.l (.r (.l (.r (.l .e)))))))),
  .p (.call 114 [(.c (.tc (.sc (.int .u8 17)))), (.c (.tc (.sc (.string ⟨#[97, 115, 114]⟩)))), (.c (.tc (.sc (.int .u8 2)))), (.t (.l (.r (.r (.l (.r (.l (.r (.l .e)))))))))] ⟨8, opAt XP 110 1 86⟩) (.r (.r (.r (.l (.r (.l (.r (.l .e)))))))),
  .p (.call 116 [] ⟨8, opAt XP 110 1 87⟩) (.l (.l (.l (.r (.r (.l (.r (.l .e)))))))),
  .p (.call 117 [] ⟨8, opAt XP 110 1 88⟩) (.r (.l (.l (.r (.r (.l (.r (.l .e)))))))),
  .p (.call 118 [] ⟨8, opAt XP 110 1 89⟩) (.l (.r (.l (.r (.r (.l (.r (.l .e)))))))),
  .p (.bs 1 3 [[(.tc (.sc (.slice none 0 0)))], [(.tc (.sc (.slice none 0 0)))], [(.tc (.sc (.slice none 0 0)))]] [(.mk 0 1 (.t (.l (.l (.l (.r (.r (.l (.r (.l .e)))))))))), (.mk 1 1 (.t (.r (.l (.l (.r (.r (.l (.r (.l .e)))))))))), (.mk 2 1 (.t (.l (.r (.l (.r (.r (.l (.r (.l .e))))))))))] ⟨8, opAt XP 110 1 90⟩) (.r (.r (.l (.r (.r (.l (.r (.l .e)))))))),
  .p (.call 114 [(.c (.tc (.sc (.int .u8 18)))), (.c (.tc (.sc (.string ⟨#[109, 112, 121]⟩)))), (.c (.tc (.sc (.int .u8 2)))), (.t (.r (.r (.l (.r (.r (.l (.r (.l .e)))))))))] ⟨8, opAt XP 110 1 91⟩) (.l (.l (.r (.r (.r (.l (.r (.l .e)))))))),
  .p (.call 116 [] ⟨8, opAt XP 110 1 92⟩) (.r (.l (.r (.r (.r (.l (.r (.l .e)))))))),
  .p (.call 117 [] ⟨8, opAt XP 110 1 93⟩) (.l (.r (.r (.r (.r (.l (.r (.l .e)))))))),
  .p (.call 118 [] ⟨8, opAt XP 110 1 94⟩) (.r (.r (.r (.r (.r (.l (.r (.l .e)))))))),
  .p (.bs 1 3 [[(.tc (.sc (.slice none 0 0)))], [(.tc (.sc (.slice none 0 0)))], [(.tc (.sc (.slice none 0 0)))]] [(.mk 0 1 (.t (.r (.l (.r (.r (.r (.l (.r (.l .e)))))))))), (.mk 1 1 (.t (.l (.r (.r (.r (.r (.l (.r (.l .e)))))))))), (.mk 2 1 (.t (.r (.r (.r (.r (.r (.l (.r (.l .e))))))))))] ⟨8, opAt XP 110 1 95⟩) (.l (.l (.l (.l (.l (.r (.r (.l .e)))))))),
  .p (.call 114 [(.c (.tc (.sc (.int .u8 19)))), (.c (.tc (.sc (.string ⟨#[99, 109, 112, 121]⟩)))), (.c (.tc (.sc (.int .u8 2)))), (.t (.l (.l (.l (.l (.l (.r (.r (.l .e)))))))))] ⟨8, opAt XP 110 1 96⟩) (.r (.l (.l (.l (.l (.r (.r (.l .e)))))))),
  .p (.call 116 [] ⟨8, opAt XP 110 1 97⟩) (.l (.r (.l (.l (.l (.r (.r (.l .e)))))))),
  .p (.call 117 [] ⟨8, opAt XP 110 1 98⟩) (.r (.r (.l (.l (.l (.r (.r (.l .e)))))))),
  .p (.call 118 [] ⟨8, opAt XP 110 1 99⟩) (.l (.l (.r (.l (.l (.r (.r (.l .e)))))))),
  .p (.bs 1 3 [[(.tc (.sc (.slice none 0 0)))], [(.tc (.sc (.slice none 0 0)))], [(.tc (.sc (.slice none 0 0)))]] [(.mk 0 1 (.t (.l (.r (.l (.l (.l (.r (.r (.l .e)))))))))), (.mk 1 1 (.t (.r (.r (.l (.l (.l (.r (.r (.l .e)))))))))), (.mk 2 1 (.t (.l (.l (.r (.l (.l (.r (.r (.l .e))))))))))] ⟨8, opAt XP 110 1 100⟩) (.r (.l (.r (.l (.l (.r (.r (.l .e)))))))),
  .p (.call 114 [(.c (.tc (.sc (.int .u8 20)))), (.c (.tc (.sc (.string ⟨#[99, 109, 112, 121, 99]⟩)))), (.c (.tc (.sc (.int .u8 2)))), (.t (.r (.l (.r (.l (.l (.r (.r (.l .e)))))))))] ⟨8, opAt XP 110 1 101⟩) (.l (.r (.r (.l (.l (.r (.r (.l .e)))))))),
  .p (.call 116 [] ⟨8, opAt XP 110 1 102⟩) (.r (.r (.r (.l (.l (.r (.r (.l .e)))))))),
  .p (.call 117 [] ⟨8, opAt XP 110 1 103⟩) (.l (.l (.l (.r (.l (.r (.r (.l .e)))))))),
  .p (.call 119 [(.c (.tc (.sc (.int .i64 12)))), (.c (.tc (.sc (.int .i64 2))))] ⟨8, opAt XP 110 1 104⟩) (.r (.l (.l (.r (.l (.r (.r (.l .e)))))))),
  .p (.bs 1 3 [[(.tc (.sc (.slice none 0 0)))], [(.tc (.sc (.slice none 0 0)))], [(.tc (.sc (.slice none 0 0)))]] [(.mk 0 1 (.t (.r (.r (.r (.l (.l (.r (.r (.l .e)))))))))), (.mk 1 1 (.t (.l (.l (.l (.r (.l (.r (.r (.l .e)))))))))), (.mk 2 1 (.t (.r (.l (.l (.r (.l (.r (.r (.l .e))))))))))] ⟨8, opAt XP 110 1 105⟩) (.l (.r (.l (.r (.l (.r (.r (.l .e)))))))),
  .p (.call 114 [(.c (.tc (.sc (.int .u8 21)))), (.c (.tc (.sc (.string ⟨#[108, 100, 119]⟩)))), (.c (.tc (.sc (.int .u8 3)))), (.t (.l (.r (.l (.r (.l (.r (.r (.l .e)))))))))] ⟨8, opAt XP 110 1 106⟩) (.r (.r (.l (.r (.l (.r (.r (.l .e)))))))),
  .p (.call 116 [] ⟨8, opAt XP 110 1 107⟩) (.l (.l (.r (.r (.l (.r (.r (.l .e)))))))),
  .p (.call 117 [] ⟨8, opAt XP 110 1 108⟩) (.r (.l (.r (.r (.l (.r (.r (.l .e)))))))),
  .p (.call 119 [(.c (.tc (.sc (.int .i64 12)))), (.c (.tc (.sc (.int .i64 1))))] ⟨8, opAt XP 110 1 109⟩) (.l (.r (.r (.r (.l (.r (.r (.l .e)))))))),
  .p (.bs 1 3 [[(.tc (.sc (.slice none 0 0)))], [(.tc (.sc (.slice none 0 0)))], [(.tc (.sc (.slice none 0 0)))]] [(.mk 0 1 (.t (.l (.l (.r (.r (.l (.r (.r (.l .e)))))))))), (.mk 1 1 (.t (.r (.l (.r (.r (.l (.r (.r (.l .e)))))))))), (.mk 2 1 (.t (.l (.r (.r (.r (.l (.r (.r (.l .e))))))))))] ⟨8, opAt XP 110 1 110⟩) (.r (.r (.r (.r (.l (.r (.r (.l .e)))))))),
  .p (.call 114 [(.c (.tc (.sc (.int .u8 22)))), (.c (.tc (.sc (.string ⟨#[108, 100, 104]⟩)))), (.c (.tc (.sc (.int .u8 3)))), (.t (.r (.r (.r (.r (.l (.r (.r (.l .e)))))))))] ⟨8, opAt XP 110 1 111⟩) (.l (.l (.l (.l (.r (.r (.r (.l .e)))))))),
  .p (.call 116 [] ⟨8, opAt XP 110 1 112⟩) (.r (.l (.l (.l (.r (.r (.r (.l .e)))))))),
  .p (.call 117 [] ⟨8, opAt XP 110 1 113⟩) (.l (.r (.l (.l (.r (.r (.r (.l .e)))))))),
  .p (.call 119 [(.c (.tc (.sc (.int .i64 12)))), (.c (.tc (.sc (.int .i64 0))))] ⟨8, opAt XP 110 1 114⟩) (.r (.r (.l (.l (.r (.r (.r (.l .e)))))))),
  .p (.bs 1 3 [[(.tc (.sc (.slice none 0 0)))], [(.tc (.sc (.slice none 0 0)))], [(.tc (.sc (.slice none 0 0)))]] [(.mk 0 1 (.t (.r (.l (.l (.l (.r (.r (.r (.l .e)))))))))), (.mk 1 1 (.t (.l (.r (.l (.l (.r (.r (.r (.l .e)))))))))), (.mk 2 1 (.t (.r (.r (.l (.l (.r (.r (.r (.l .e))))))))))] ⟨8, opAt XP 110 1 115⟩) (.l (.l (.r (.l (.r (.r (.r (.l .e)))))))),
  .p (.call 114 [(.c (.tc (.sc (.int .u8 23)))), (.c (.tc (.sc (.string ⟨#[108, 100, 98]⟩)))), (.c (.tc (.sc (.int .u8 3)))), (.t (.l (.l (.r (.l (.r (.r (.r (.l .e)))))))))] ⟨8, opAt XP 110 1 116⟩) (.r (.l (.r (.l (.r (.r (.r (.l .e)))))))),
  .p (.call 117 [] ⟨8, opAt XP 110 1 117⟩) (.l (.r (.r (.l (.r (.r (.r (.l .e)))))))),
  .p (.call 121 [(.c (.tc (.sc (.int .u8 8)))), (.c (.tc (.sc (.int .i64 1))))] ⟨8, opAt XP 110 1 118⟩) (.r (.r (.r (.l (.r (.r (.r (.l .e)))))))),
  .p (.call 118 [] ⟨8, opAt XP 110 1 119⟩) (.l (.l (.l (.r (.r (.r (.r (.l .e)))))))),
  .p (.call 119 [(.c (.tc (.sc (.int .i64 12)))), (.c (.tc (.sc (.int .i64 2))))] ⟨8, opAt XP 110 1 120⟩) (.r (.l (.l (.r (.r (.r (.r (.l .e)))))))),
  .p (.bs 1 4 [[(.tc (.sc (.slice none 0 0)))], [(.tc (.sc (.slice none 0 0)))], [(.tc (.sc (.slice none 0 0)))], [(.tc (.sc (.slice none 0 0)))]] [(.mk 0 1 (.t (.l (.r (.r (.l (.r (.r (.r (.l .e)))))))))), (.mk 1 1 (.t (.r (.r (.r (.l (.r (.r (.r (.l .e)))))))))), (.mk 2 1 (.t (.l (.l (.l (.r (.r (.r (.r (.l .e)))))))))), (.mk 3 1 (.t (.r (.l (.l (.r (.r (.r (.r (.l .e))))))))))] ⟨8, opAt XP 110 1 121⟩) (.l (.r (.l (.r (.r (.r (.r (.l .e)))))))),
  .p (.call 114 [(.c (.tc (.sc (.int .u8 24)))), (.c (.tc (.sc (.string ⟨#[115, 116, 119]⟩)))), (.c (.tc (.sc (.int .u8 4)))), (.t (.l (.r (.l (.r (.r (.r (.r (.l .e)))))))))] ⟨8, opAt XP 110 1 122⟩) (.r (.r (.l (.r (.r (.r (.r (.l .e)))))))),
  .p (.call 117 [] ⟨8, opAt XP 110 1 123⟩) (.l (.l (.r (.r (.r (.r (.r (.l .e)))))))),
  .p (.call 121 [(.c (.tc (.sc (.int .u8 8)))), (.c (.tc (.sc (.int .i64 1))))] ⟨8, opAt XP 110 1 124⟩) (.r (.l (.r (.r (.r (.r (.r (.l .e)))))))),
  .p (.call 118 [] ⟨8, opAt XP 110 1 125⟩) (.l (.r (.r (.r (.r (.r (.r (.l .e)))))))),
  .p (.call 119 [(.c (.tc (.sc (.int .i64 12)))), (.c (.tc (.sc (.int .i64 1))))] ⟨8, opAt XP 110 1 126⟩) (.r (.r (.r (.r (.r (.r (.r (.l .e)))))))),
  .p (.bs 1 4 [[(.tc (.sc (.slice none 0 0)))], [(.tc (.sc (.slice none 0 0)))], [(.tc (.sc (.slice none 0 0)))], [(.tc (.sc (.slice none 0 0)))]] [(.mk 0 1 (.t (.l (.l (.r (.r (.r (.r (.r (.l .e)))))))))), (.mk 1 1 (.t (.r (.l (.r (.r (.r (.r (.r (.l .e)))))))))), (.mk 2 1 (.t (.l (.r (.r (.r (.r (.r (.r (.l .e)))))))))), (.mk 3 1 (.t (.r (.r (.r (.r (.r (.r (.r (.l .e))))))))))] ⟨8, opAt XP 110 1 127⟩) (.l (.l (.l (.l (.l (.l (.l (.r .e)))))))),
  .p (.call 114 [(.c (.tc (.sc (.int .u8 25)))), (.c (.tc (.sc (.string ⟨#[115, 116, 104]⟩)))), (.c (.tc (.sc (.int .u8 4)))), (.t (.l (.l (.l (.l (.l (.l (.l (.r .e)))))))))] ⟨8, opAt XP 110 1 128⟩) (.r (.l (.l (.l (.l (.l (.l (.r .e)))))))),
  .p (.call 117 [] ⟨8, opAt XP 110 1 129⟩) (.l (.r (.l (.l (.l (.l (.l (.r .e)))))))),
  .p (.call 121 [(.c (.tc (.sc (.int .u8 8)))), (.c (.tc (.sc (.int .i64 1))))] ⟨8, opAt XP 110 1 130⟩) (.r (.r (.l (.l (.l (.l (.l (.r .e)))))))),
  .p (.call 118 [] ⟨8, opAt XP 110 1 131⟩) (.l (.l (.r (.l (.l (.l (.l (.r .e)))))))),
  .p (.call 119 [(.c (.tc (.sc (.int .i64 12)))), (.c (.tc (.sc (.int .i64 0))))] ⟨8, opAt XP 110 1 132⟩) (.r (.l (.r (.l (.l (.l (.l (.r .e)))))))),
  .p (.bs 1 4 [[(.tc (.sc (.slice none 0 0)))], [(.tc (.sc (.slice none 0 0)))], [(.tc (.sc (.slice none 0 0)))], [(.tc (.sc (.slice none 0 0)))]] [(.mk 0 1 (.t (.l (.r (.l (.l (.l (.l (.l (.r .e)))))))))), (.mk 1 1 (.t (.r (.r (.l (.l (.l (.l (.l (.r .e)))))))))), (.mk 2 1 (.t (.l (.l (.r (.l (.l (.l (.l (.r .e)))))))))), (.mk 3 1 (.t (.r (.l (.r (.l (.l (.l (.l (.r .e))))))))))] ⟨8, opAt XP 110 1 133⟩) (.l (.r (.r (.l (.l (.l (.l (.r .e)))))))),
  .p (.call 114 [(.c (.tc (.sc (.int .u8 26)))), (.c (.tc (.sc (.string ⟨#[115, 116, 98]⟩)))), (.c (.tc (.sc (.int .u8 4)))), (.t (.l (.r (.r (.l (.l (.l (.l (.r .e)))))))))] ⟨8, opAt XP 110 1 134⟩) (.r (.r (.r (.l (.l (.l (.l (.r .e)))))))),
  .p (.call 115 [] ⟨8, opAt XP 110 1 135⟩) (.l (.l (.l (.r (.l (.l (.l (.r .e)))))))),
  .p (.call 122 [(.c (.tc (.sc (.int .i64 19))))] ⟨8, opAt XP 110 1 136⟩) (.r (.l (.l (.r (.l (.l (.l (.r .e)))))))),
  .p (.bs 1 2 [[(.tc (.sc (.slice none 0 0)))], [(.tc (.sc (.slice none 0 0)))]] [(.mk 0 1 (.t (.l (.l (.l (.r (.l (.l (.l (.r .e)))))))))), (.mk 1 1 (.t (.r (.l (.l (.r (.l (.l (.l (.r .e))))))))))] ⟨8, opAt XP 110 1 137⟩) (.l (.r (.l (.r (.l (.l (.l (.r .e)))))))),
  .p (.call 114 [(.c (.tc (.sc (.int .u8 27)))), (.c (.tc (.sc (.string ⟨#[106, 117, 109, 112]⟩)))), (.c (.tc (.sc (.int .u8 5)))), (.t (.l (.r (.l (.r (.l (.l (.l (.r .e)))))))))] ⟨8, opAt XP 110 1 138⟩) (.r (.r (.l (.r (.l (.l (.l (.r .e)))))))),
  .p (.call 115 [] ⟨8, opAt XP 110 1 139⟩) (.l (.l (.r (.r (.l (.l (.l (.r .e)))))))),
  .p (.call 117 [] ⟨8, opAt XP 110 1 140⟩) (.r (.l (.r (.r (.l (.l (.l (.r .e)))))))),
  .p (.bs 1 2 [[(.tc (.sc (.slice none 0 0)))], [(.tc (.sc (.slice none 0 0)))]] [(.mk 0 1 (.t (.l (.l (.r (.r (.l (.l (.l (.r .e)))))))))), (.mk 1 1 (.t (.r (.l (.r (.r (.l (.l (.l (.r .e))))))))))] ⟨8, opAt XP 110 1 141⟩) (.l (.r (.r (.r (.l (.l (.l (.r .e)))))))),
  .p (.call 114 [(.c (.tc (.sc (.int .u8 28)))), (.c (.tc (.sc (.string ⟨#[106, 117, 109, 112, 114]⟩)))), (.c (.tc (.sc (.int .u8 5)))), (.t (.l (.r (.r (.r (.l (.l (.l (.r .e)))))))))] ⟨8, opAt XP 110 1 142⟩) (.r (.r (.r (.r (.l (.l (.l (.r .e)))))))),
  .p (.call 122 [(.c (.tc (.sc (.int .i64 24))))] ⟨8, opAt XP 110 1 143⟩) (.l (.l (.l (.l (.r (.l (.l (.r .e)))))))),
  .p (.bs 1 1 [[(.tc (.sc (.slice none 0 0)))]] [(.mk 0 1 (.t (.l (.l (.l (.l (.r (.l (.l (.r .e))))))))))] ⟨8, opAt XP 110 1 144⟩) (.r (.l (.l (.l (.r (.l (.l (.r .e)))))))),
  .p (.call 114 [(.c (.tc (.sc (.int .u8 29)))), (.c (.tc (.sc (.string ⟨#[99, 97, 108, 108]⟩)))), (.c (.tc (.sc (.int .u8 5)))), (.t (.r (.l (.l (.l (.r (.l (.l (.r .e)))))))))] ⟨8, opAt XP 110 1 145⟩) (.l (.r (.l (.l (.r (.l (.l (.r .e)))))))),
  .p (.call 121 [(.c (.tc (.sc (.int .u8 7)))), (.c (.tc (.sc (.int .i64 1))))] ⟨8, opAt XP 110 1 146⟩) (.r (.r (.l (.l (.r (.l (.l (.r .e)))))))),
  .p (.call 122 [(.c (.tc (.sc (.int .i64 12))))] ⟨8, opAt XP 110 1 147⟩) (.l (.l (.r (.l (.r (.l (.l (.r .e)))))))),
  .p (.call 121 [(.c (.tc (.sc (.int .u8 11)))), (.c (.tc (.sc (.int .i64 11))))] ⟨8, opAt XP 110 1 148⟩) (.r (.l (.r (.l (.r (.l (.l (.r .e)))))))),
  .p (.bs 1 3 [[(.tc (.sc (.slice none 0 0)))], [(.tc (.sc (.slice none 0 0)))], [(.tc (.sc (.slice none 0 0)))]] [(.mk 0 1 (.t (.r (.r (.l (.l (.r (.l (.l (.r .e)))))))))), (.mk 1 1 (.t (.l (.l (.r (.l (.r (.l (.l (.r .e)))))))))), (.mk 2 1 (.t (.r (.l (.r (.l (.r (.l (.l (.r .e))))))))))] ⟨8, opAt XP 110 1 149⟩) (.l (.r (.r (.l (.r (.l (.l (.r .e)))))))),
  .p (.call 114 [(.c (.tc (.sc (.int .u8 30)))), (.c (.tc (.sc (.string ⟨#[108, 111, 111, 112, 105]⟩)))), (.c (.tc (.sc (.int .u8 6)))), (.t (.l (.r (.r (.l (.r (.l (.l (.r .e)))))))))] ⟨8, opAt XP 110 1 150⟩) (.r (.r (.r (.l (.r (.l (.l (.r .e)))))))),
  .p (.call 121 [(.c (.tc (.sc (.int .u8 7)))), (.c (.tc (.sc (.int .i64 1))))] ⟨8, opAt XP 110 1 151⟩) (.l (.l (.l (.r (.r (.l (.l (.r .e)))))))),
  .p (.call 122 [(.c (.tc (.sc (.int .i64 12))))] ⟨8, opAt XP 110 1 152⟩) (.r (.l (.l (.r (.r (.l (.l (.r .e)))))))),
  .p (.call 117 [] ⟨8, opAt XP 110 1 153⟩) (.l (.r (.l (.r (.r (.l (.l (.r .e)))))))),
  .p (.bs 1 3 [[(.tc (.sc (.slice none 0 0)))], [(.tc (.sc (.slice none 0 0)))], [(.tc (.sc (.slice none 0 0)))]] [(.mk 0 1 (.t (.l (.l (.l (.r (.r (.l (.l (.r .e)))))))))), (.mk 1 1 (.t (.r (.l (.l (.r (.r (.l (.l (.r .e)))))))))), (.mk 2 1 (.t (.l (.r (.l (.r (.r (.l (.l (.r .e))))))))))] ⟨8, opAt XP 110 1 154⟩) (.r (.r (.l (.r (.r (.l (.l (.r .e)))))))),
  .p (.call 114 [(.c (.tc (.sc (.int .u8 31)))), (.c (.tc (.sc (.string ⟨#[108, 111, 111, 112, 114]⟩)))), (.c (.tc (.sc (.int .u8 6)))), (.t (.r (.r (.l (.r (.r (.l (.l (.r .e)))))))))] ⟨8, opAt XP 110 1 155⟩) (.l (.l (.r (.r (.r (.l (.l (.r .e)))))))),
  .p (.bs 5 31 [[(.tc (.sc (.int .u8 0))), (.tc (.sc (.string ⟨#[]⟩))), (.tc (.sc (.int .u8 0))), (.tc (.sc (.int .u8 0))), (.tc (.sc (.slice none 0 0)))], [(.tc (.sc (.int .u8 0))), (.tc (.sc (.string ⟨#[]⟩))), (.tc (.sc (.int .u8 0))), (.tc (.sc (.int .u8 0))), (.tc (.sc (.slice none 0 0)))], [(.tc (.sc (.int .u8 0))), (.tc (.sc (.string ⟨#[]⟩))), (.tc (.sc (.int .u8 0))), (.tc (.sc (.int .u8 0))), (.tc (.sc (.slice none 0 0)))], [(.tc (.sc (.int .u8 0))), (.tc (.sc (.string ⟨#[]⟩))), (.tc (.sc (.int .u8 0))), (.tc (.sc (.int .u8 0))), (.tc (.sc (.slice none 0 0)))], [(.tc (.sc (.int .u8 0))), (.tc (.sc (.string ⟨#[]⟩))), (.tc (.sc (.int .u8 0))), (.tc (.sc (.int .u8 0))), (.tc (.sc (.slice none 0 0)))], [(.tc (.sc (.int .u8 0))), (.tc (.sc (.string ⟨#[]⟩))), (.tc (.sc (.int .u8 0))), (.tc (.sc (.int .u8 0))), (.tc (.sc (.slice none 0 0)))], [(.tc (.sc (.int .u8 0))), (.tc (.sc (.string ⟨#[]⟩))), (.tc (.sc (.int .u8 0))), (.tc (.sc (.int .u8 0))), (.tc (.sc (.slice none 0 0)))], [(.tc (.sc (.int .u8 0))), (.tc (.sc (.string ⟨#[]⟩))), (.tc (.sc (.int .u8 0))), (.tc (.sc (.int .u8 0))), (.tc (.sc (.slice none 0 0)))], [(.tc (.sc (.int .u8 0))), (.tc (.sc (.string ⟨#[]⟩))), (.tc (.sc (.int .u8 0))), (.tc (.sc (.int .u8 0))), (.tc (.sc (.slice none 0 0)))], [(.tc (.sc (.int .u8 0))), (.tc (.sc (.string ⟨#[]⟩))), (.tc (.sc (.int .u8 0))), (.tc (.sc (.int .u8 0))), (.tc (.sc (.slice none 0 0)))], [(.tc (.sc (.int .u8 0))), (.tc (.sc (.string ⟨#[]⟩))), (.tc (.sc (.int .u8 0))), (.tc (.sc (.int .u8 0))), (.tc (.sc (.slice none 0 0)))], [(.tc (.sc (.int .u8 0))), (.tc (.sc (.string ⟨#[]⟩))), (.tc (.sc (.int .u8 0))), (.tc (.sc (.int .u8 0))), (.tc (.sc (.slice none 0 0)))], [(.tc (.sc (.int .u8 0))), (.tc (.sc (.string ⟨#[]⟩))), (.tc (.sc (.int .u8 0))), (.tc (.sc (.int .u8 0))), (.tc (.sc (.slice none 0 0)))], [(.tc (.sc (.int .u8 0))), (.tc (.sc (.string ⟨#[]⟩))), (.tc (.sc (.int .u8 0))), (.tc (.sc (.int .u8 0))), (.tc (.sc (.slice none 0 0)))], [(.tc (.sc (.int .u8 0))), (.tc (.sc (.string ⟨#[]⟩))), (.tc (.sc (.int .u8 0))), (.tc (.sc (.int .u8 0))), (.tc (.sc (.slice none 0 0)))], [(.tc (.sc (.int .u8 0))), (.tc (.sc (.string ⟨#[]⟩))), (.tc (.sc (.int .u8 0))), (.tc (.sc (.int .u8 0))), (.tc (.sc (.slice none 0 0)))], [(.tc (.sc (.int .u8 0))), (.tc (.sc (.string ⟨#[]⟩))), (.tc (.sc (.int .u8 0))), (.tc (.sc (.int .u8 0))), (.tc (.sc (.slice none 0 0)))], [(.tc (.sc (.int .u8 0))), (.tc (.sc (.string ⟨#[]⟩))), (.tc (.sc (.int .u8 0))), (.tc (.sc (.int .u8 0))), (.tc (.sc (.slice none 0 0)))], [(.tc (.sc (.int .u8 0))), (.tc (.sc (.string ⟨#[]⟩))), (.tc (.sc (.int .u8 0))), (.tc (.sc (.int .u8 0))), (.tc (.sc (.slice none 0 0)))], [(.tc (.sc (.int .u8 0))), (.tc (.sc (.string ⟨#[]⟩))), (.tc (.sc (.int .u8 0))), (.tc (.sc (.int .u8 0))), (.tc (.sc (.slice none 0 0)))], [(.tc (.sc (.int .u8 0))), (.tc (.sc (.string ⟨#[]⟩))), (.tc (.sc (.int .u8 0))), (.tc (.sc (.int .u8 0))), (.tc (.sc (.slice none 0 0)))], [(.tc (.sc (.int .u8 0))), (.tc (.sc (.string ⟨#[]⟩))), (.tc (.sc (.int .u8 0))), (.tc (.sc (.int .u8 0))), (.tc (.sc (.slice none 0 0)))], [(.tc (.sc (.int .u8 0))), (.tc (.sc (.string ⟨#[]⟩))), (.tc (.sc (.int .u8 0))), (.tc (.sc (.int .u8 0))), (.tc (.sc (.slice none 0 0)))], [(.tc (.sc (.int .u8 0))), (.tc (.sc (.string ⟨#[]⟩))), (.tc (.sc (.int .u8 0))), (.tc (.sc (.int .u8 0))), (.tc (.sc (.slice none 0 0)))], [(.tc (.sc (.int .u8 0))), (.tc (.sc (.string ⟨#[]⟩))), (.tc (.sc (.int .u8 0))), (.tc (.sc (.int .u8 0))), (.tc (.sc (.slice none 0 0)))], [(.tc (.sc (.int .u8 0))), (.tc (.sc (.string ⟨#[]⟩))), (.tc (.sc (.int .u8 0))), (.tc (.sc (.int .u8 0))), (.tc (.sc (.slice none 0 0)))], [(.tc (.sc (.int .u8 0))), (.tc (.sc (.string ⟨#[]⟩))), (.tc (.sc (.int .u8 0))), (.tc (.sc (.int .u8 0))), (.tc (.sc (.slice none 0 0)))], [(.tc (.sc (.int .u8 0))), (.tc (.sc (.string ⟨#[]⟩))), (.tc (.sc (.int .u8 0))), (.tc (.sc (.int .u8 0))), (.tc (.sc (.slice none 0 0)))], [(.tc (.sc (.int .u8 0))), (.tc (.sc (.string ⟨#[]⟩))), (.tc (.sc (.int .u8 0))), (.tc (.sc (.int .u8 0))), (.tc (.sc (.slice none 0 0)))], [(.tc (.sc (.int .u8 0))), (.tc (.sc (.string ⟨#[]⟩))), (.tc (.sc (.int .u8 0))), (.tc (.sc (.int .u8 0))), (.tc (.sc (.slice none 0 0)))], [(.tc (.sc (.int .u8 0))), (.tc (.sc (.string ⟨#[]⟩))), (.tc (.sc (.int .u8 0))), (.tc (.sc (.int .u8 0))), (.tc (.sc (.slice none 0 0)))]] [(.mk 0 5 (.t (.r (.l (.l (.l (.l (.l (.l (.l .e)))))))))), (.mk 1 5 (.t (.r (.r (.r (.l (.l (.l (.l (.l .e)))))))))), (.mk 2 5 (.t (.r (.l (.r (.r (.l (.l (.l (.l .e)))))))))), (.mk 3 5 (.t (.r (.r (.l (.l (.r (.l (.l (.l .e)))))))))), (.mk 4 5 (.t (.r (.l (.l (.r (.r (.l (.l (.l .e)))))))))), (.mk 5 5 (.t (.r (.r (.r (.r (.r (.l (.l (.l .e)))))))))), (.mk 6 5 (.t (.l (.l (.r (.l (.l (.r (.l (.l .e)))))))))), (.mk 7 5 (.t (.r (.l (.l (.r (.l (.r (.l (.l .e)))))))))), (.mk 8 5 (.t (.l (.r (.r (.r (.l (.r (.l (.l .e)))))))))), (.mk 9 5 (.t (.r (.r (.l (.l (.r (.r (.l (.l .e)))))))))), (.mk 10 5 (.t (.l (.l (.l (.r (.r (.r (.l (.l .e)))))))))), (.mk 11 5 (.t (.r (.l (.r (.r (.r (.r (.l (.l .e)))))))))), (.mk 12 5 (.t (.l (.r (.l (.l (.l (.l (.r (.l .e)))))))))), (.mk 13 5 (.t (.l (.l (.l (.r (.l (.l (.r (.l .e)))))))))), (.mk 14 5 (.t (.r (.l (.r (.r (.l (.l (.r (.l .e)))))))))), (.mk 15 5 (.t (.l (.r (.l (.l (.r (.l (.r (.l .e)))))))))), (.mk 16 5 (.t (.r (.r (.r (.l (.r (.l (.r (.l .e)))))))))), (.mk 17 5 (.t (.l (.l (.r (.r (.r (.l (.r (.l .e)))))))))), (.mk 18 5 (.t (.r (.l (.l (.l (.l (.r (.r (.l .e)))))))))), (.mk 19 5 (.t (.l (.r (.r (.l (.l (.r (.r (.l .e)))))))))), (.mk 20 5 (.t (.r (.r (.l (.r (.l (.r (.r (.l .e)))))))))), (.mk 21 5 (.t (.l (.l (.l (.l (.r (.r (.r (.l .e)))))))))), (.mk 22 5 (.t (.r (.l (.r (.l (.r (.r (.r (.l .e)))))))))), (.mk 23 5 (.t (.r (.r (.l (.r (.r (.r (.r (.l .e)))))))))), (.mk 24 5 (.t (.r (.l (.l (.l (.l (.l (.l (.r .e)))))))))), (.mk 25 5 (.t (.r (.r (.r (.l (.l (.l (.l (.r .e)))))))))), (.mk 26 5 (.t (.r (.r (.l (.r (.l (.l (.l (.r .e)))))))))), (.mk 27 5 (.t (.r (.r (.r (.r (.l (.l (.l (.r .e)))))))))), (.mk 28 5 (.t (.l (.r (.l (.l (.r (.l (.l (.r .e)))))))))), (.mk 29 5 (.t (.r (.r (.r (.l (.r (.l (.l (.r .e)))))))))), (.mk 30 5 (.t (.l (.l (.r (.r (.r (.l (.l (.r .e))))))))))] ⟨8, opAt XP 110 1 156⟩) (.r (.l (.r (.r (.r (.l (.l (.r .e)))))))),
  .p (.mv (.t (.r (.l (.r (.r (.r (.l (.l (.r .e)))))))))) (.l (.l (.l (.l (.l (.l (.l (.l .e))))))))])
 .ret))
 [.tmp (.t (.l (.l (.l (.l (.l (.l (.l (.l .e)))))))))]
theorem ff110_ok : compF SBase 110 = ff110 := by kernel_rfl
noncomputable def ff114 : FF := .mk 4 [(.l (.l (.l (.l (.l .e))))), (.r (.l (.l (.l (.l .e))))), (.l (.r (.l (.l (.l .e))))), (.r (.r (.l (.l (.l .e)))))] (encF 5 fun _ => undefA)
 (.seq (.reg [.p (.al 5 [(.sc (.int .u8 0)), (.sc (.string ⟨#[]⟩)), (.sc (.int .u8 0)), (.sc (.int .u8 0)), (.sc (.slice none 0 0))]) (.l (.l (.l (.r (.l .e)))))])
 (.seq (.reg [.p (.mv (.t (.l (.l (.l (.l (.l .e))))))) (.r (.l (.l (.r (.l .e))))),
  .p (.mv (.t (.r (.l (.l (.l (.l .e))))))) (.l (.r (.l (.r (.l .e))))),
  .p (.mv (.t (.l (.r (.l (.l (.l .e))))))) (.r (.r (.l (.r (.l .e))))),
  .p (.mv (.t (.l (.r (.l (.l (.l .e))))))) (.l (.l (.r (.r (.l .e))))),
  .p (.call 123 [(.t (.l (.l (.r (.r (.l .e))))))] ⟨5, opAt XP 114 1 4⟩) (.r (.l (.r (.r (.l .e))))),
  .p (.mv (.t (.r (.r (.l (.l (.l .e))))))) (.l (.r (.r (.r (.l .e))))),
  .p (.call 124 [(.t (.l (.r (.r (.r (.l .e))))))] ⟨5, opAt XP 114 1 6⟩) (.r (.r (.r (.r (.l .e))))),
  .p (.bd [(.tc (.sc (.int .u8 0))), (.tc (.sc (.string ⟨#[]⟩))), (.tc (.sc (.int .u8 0))), (.tc (.sc (.int .u8 0))), (.tc (.sc (.slice none 0 0)))] [(.mk 0 1 (.t (.r (.l (.l (.r (.l .e))))))), (.mk 1 1 (.t (.l (.r (.l (.r (.l .e))))))), (.mk 2 1 (.t (.r (.r (.l (.r (.l .e))))))), (.mk 3 1 (.t (.r (.l (.r (.r (.l .e))))))), (.mk 4 1 (.t (.r (.r (.r (.r (.l .e)))))))] ⟨5, opAt XP 114 1 7⟩) (.l (.l (.l (.l (.r .e))))),
  .n (.st 5 (.t (.l (.l (.l (.r (.l .e)))))) (.t (.l (.l (.l (.l (.r .e)))))) ⟨5, opAt XP 114 1 8⟩)])
 .ret))
 [.cell (.t (.l (.l (.l (.r (.l .e)))))) true 5]
theorem ff114_ok : compF SBase 114 = ff114 := by kernel_rfl
noncomputable def ff123 : FF := .mk 1 [(.l (.l (.l (.l .e))))] (encF 4 fun _ => undefA)
 (.seq (.reg [.p (.mv (.c (.tc (.sc (.int .u8 0))))) (.l (.r (.l (.l .e))))])
 (.seq (.seq (.reg [.p (.mv (.t (.l (.l (.l (.l .e)))))) (.r (.r (.l (.l .e))))])
 (.block 0 (.seq (.reg [.p (.bin .eql (.t (.r (.r (.l (.l .e))))) (.c (.tc (.sc (.int .u8 1)))) ⟨4, opAt XP 123 2 0⟩) (.r (.l (.r (.l .e)))),
  .p (.mv (.t (.r (.l (.r (.l .e)))))) (.l (.l (.r (.l .e))))])
 (.cond (.t (.l (.l (.r (.l .e))))) (.seq (.reg [.p (.mv (.c (.tc (.sc (.int .u8 15))))) (.l (.r (.l (.l .e))))])
 .ret)
 (.seq (.seq (.reg [.p (.bin .eql (.t (.r (.r (.l (.l .e))))) (.c (.tc (.sc (.int .u8 2)))) ⟨4, opAt XP 123 4 0⟩) (.r (.r (.r (.l .e)))),
  .p (.mv (.t (.r (.r (.r (.l .e)))))) (.l (.r (.r (.l .e))))])
 (.cond (.t (.l (.r (.r (.l .e))))) .skip
 (.reg [.p (.bin .eql (.t (.r (.r (.l (.l .e))))) (.c (.tc (.sc (.int .u8 5)))) ⟨4, opAt XP 123 5 0⟩) (.l (.l (.l (.r .e)))),
  .p (.mv (.t (.l (.l (.l (.r .e)))))) (.l (.r (.r (.l .e))))])))
 (.cond (.t (.l (.r (.r (.l .e))))) (.seq (.reg [.p (.mv (.c (.tc (.sc (.int .u8 12))))) (.l (.r (.l (.l .e))))])
 .ret)
 (.seq (.reg [.p (.bin .eql (.t (.r (.r (.l (.l .e))))) (.c (.tc (.sc (.int .u8 3)))) ⟨4, opAt XP 123 7 0⟩) (.l (.r (.l (.r .e)))),
  .p (.mv (.t (.l (.r (.l (.r .e)))))) (.r (.l (.l (.r .e))))])
 (.cond (.t (.r (.l (.l (.r .e))))) (.seq (.reg [.p (.mv (.c (.tc (.sc (.int .u8 3))))) (.l (.r (.l (.l .e))))])
 .ret)
 (.seq (.reg [.p (.bin .eql (.t (.r (.r (.l (.l .e))))) (.c (.tc (.sc (.int .u8 4)))) ⟨4, opAt XP 123 9 0⟩) (.l (.l (.r (.r .e)))),
  .p (.mv (.t (.l (.l (.r (.r .e)))))) (.r (.r (.l (.r .e))))])
 (.cond (.t (.r (.r (.l (.r .e))))) (.seq (.reg [.p (.mv (.c (.tc (.sc (.int .u8 1))))) (.l (.r (.l (.l .e))))])
 .ret)
 (.seq (.reg [.p (.bin .eql (.t (.r (.r (.l (.l .e))))) (.c (.tc (.sc (.int .u8 6)))) ⟨4, opAt XP 123 11 0⟩) (.l (.r (.r (.r .e)))),
  .p (.mv (.t (.l (.r (.r (.r .e)))))) (.r (.l (.r (.r .e))))])
 (.cond (.t (.r (.l (.r (.r .e))))) (.seq (.reg [.p (.mv (.c (.tc (.sc (.int .u8 8))))) (.l (.r (.l (.l .e))))])
 .ret)
 .skip))))))))))))
 (.seq (.reg [.p (.mv (.c (.tc (.sc (.int .u8 0))))) (.l (.r (.l (.l .e))))])
 .ret)))
 [.tmp (.t (.l (.r (.l (.l .e)))))]
theorem ff123_ok : compF SBase 123 = ff123 := by kernel_rfl
noncomputable def ff124 : FF := .mk 1 [(.l (.l (.l (.l (.l (.l .e))))))] (encF 6 fun _ => undefA)
 (.seq (.reg [.p (.mv (.c (.tc (.sc (.slice none 0 0))))) (.l (.r (.l (.l (.l (.l .e))))))])
 (.seq (.reg [.p (.mv (.c (.tc (.sc (.int .i64 0))))) (.r (.r (.l (.l (.l (.l .e))))))])
 (.seq (.seq (.reg [.p (.mv (.t (.l (.l (.l (.l (.l (.l .e)))))))) (.r (.l (.l (.r (.l (.l .e)))))),
  .p (.len (.t (.r (.l (.l (.r (.l (.l .e))))))) ⟨6, opAt XP 124 2 1⟩) (.l (.r (.l (.r (.l (.l .e)))))),
  .p (.mv (.c (.tc (.sc (.int .i64 0))))) (.r (.r (.l (.r (.l (.l .e))))))])
 (.block 0 (.loop 4294967296 (.seq (.reg [.p (.bin .lss (.t (.r (.r (.l (.r (.l (.l .e))))))) (.t (.l (.r (.l (.r (.l (.l .e))))))) ⟨6, opAt XP 124 3 0⟩) (.l (.l (.r (.r (.l (.l .e))))))])
 (.seq (.cond (.t (.l (.l (.r (.r (.l (.l .e))))))) .skip
 (.exit 0))
 (.seq (.block 1 (.seq (.reg [.p (.ia 1 (.t (.r (.l (.l (.r (.l (.l .e))))))) (.t (.r (.r (.l (.r (.l (.l .e))))))) ⟨6, opAt XP 124 4 0⟩) (.r (.l (.r (.r (.l (.l .e)))))),
  .p (.ld false 1 (.t (.r (.l (.r (.r (.l (.l .e)))))))) (.l (.r (.r (.r (.l (.l .e)))))),
  .p (.mv (.t (.l (.r (.r (.r (.l (.l .e)))))))) (.r (.l (.r (.l (.l (.l .e))))))])
 (.seq (.reg [.p (.mv (.t (.r (.r (.l (.l (.l (.l .e)))))))) (.r (.r (.r (.r (.l (.l .e)))))),
  .p (.mv (.t (.r (.l (.r (.l (.l (.l .e)))))))) (.l (.l (.l (.l (.r (.l .e)))))),
  .p (.len (.t (.l (.l (.l (.l (.r (.l .e))))))) ⟨6, opAt XP 124 5 2⟩) (.r (.l (.l (.l (.r (.l .e)))))),
  .p (.bin .add (.t (.r (.r (.r (.r (.l (.l .e))))))) (.t (.r (.l (.l (.l (.r (.l .e))))))) ⟨6, opAt XP 124 5 3⟩) (.l (.r (.l (.l (.r (.l .e)))))),
  .p (.mv (.t (.l (.r (.l (.l (.r (.l .e)))))))) (.r (.r (.l (.l (.l (.l .e))))))])
 (.seq (.reg [.p (.mv (.t (.r (.r (.l (.l (.l (.l .e)))))))) (.r (.r (.l (.l (.r (.l .e)))))),
  .p (.bin .lss (.t (.r (.r (.l (.l (.r (.l .e))))))) (.c (.tc (.sc (.int .i64 0)))) ⟨6, opAt XP 124 6 1⟩) (.l (.l (.r (.l (.r (.l .e))))))])
 (.cond (.t (.l (.l (.r (.l (.r (.l .e))))))) (.reg [.p (.gen ⟨6, opAt XP 124 7 0⟩) (.r (.l (.r (.l (.r (.l .e)))))),
  .n (.gen ⟨6, opAt XP 124 7 1⟩)])
 .skip)))))
 (.reg [.p (.bin .add (.t (.r (.r (.l (.r (.l (.l .e))))))) (.c (.tc (.sc (.int .i64 1)))) ⟨6, opAt XP 124 8 0⟩) (.l (.r (.r (.l (.r (.l .e)))))),
  .p (.mv (.t (.l (.r (.r (.l (.r (.l .e)))))))) (.r (.r (.l (.r (.l (.l .e))))))])))))))
 (.seq (.reg [.p (.mv (.t (.r (.r (.l (.l (.l (.l .e)))))))) (.r (.r (.r (.l (.r (.l .e)))))),
  .p (.call 125 [(.c (.tc (.sc (.slice none 0 0)))), (.t (.r (.r (.r (.l (.r (.l .e)))))))] ⟨6, opAt XP 124 9 1⟩) (.l (.l (.l (.r (.r (.l .e)))))),
  .p (.mv (.t (.l (.l (.l (.r (.r (.l .e)))))))) (.l (.r (.r (.l (.l (.l .e))))))])
 (.seq (.seq (.reg [.p (.mv (.t (.l (.l (.l (.l (.l (.l .e)))))))) (.r (.l (.l (.r (.r (.l .e)))))),
  .p (.len (.t (.r (.l (.l (.r (.r (.l .e))))))) ⟨6, opAt XP 124 10 1⟩) (.l (.r (.l (.r (.r (.l .e)))))),
  .p (.mv (.c (.tc (.sc (.int .i64 0))))) (.r (.r (.l (.r (.r (.l .e))))))])
 (.block 2 (.loop 4294967296 (.seq (.reg [.p (.bin .lss (.t (.r (.r (.l (.r (.r (.l .e))))))) (.t (.l (.r (.l (.r (.r (.l .e))))))) ⟨6, opAt XP 124 11 0⟩) (.l (.l (.r (.r (.r (.l .e))))))])
 (.seq (.cond (.t (.l (.l (.r (.r (.r (.l .e))))))) .skip
 (.exit 2))
 (.seq (.block 3 (.seq (.reg [.p (.ia 1 (.t (.r (.l (.l (.r (.r (.l .e))))))) (.t (.r (.r (.l (.r (.r (.l .e))))))) ⟨6, opAt XP 124 12 0⟩) (.r (.l (.r (.r (.r (.l .e)))))),
  .p (.ld false 1 (.t (.r (.l (.r (.r (.r (.l .e)))))))) (.l (.r (.r (.r (.r (.l .e)))))),
  .p (.mv (.t (.l (.r (.r (.r (.r (.l .e)))))))) (.l (.l (.l (.r (.l (.l .e))))))])
 (.reg [.p (.mv (.t (.l (.r (.r (.l (.l (.l .e)))))))) (.r (.r (.r (.r (.r (.l .e)))))),
  .p (.mv (.t (.l (.l (.l (.r (.l (.l .e)))))))) (.l (.l (.l (.l (.l (.r .e)))))),
  .p (.ap 5 32 (.t (.r (.r (.r (.r (.r (.l .e))))))) (.t (.l (.l (.l (.l (.l (.r .e)))))))) (.r (.l (.l (.l (.l (.r .e)))))),
  .p (.mv (.t (.r (.l (.l (.l (.l (.r .e)))))))) (.l (.r (.r (.l (.l (.l .e))))))])))
 (.reg [.p (.bin .add (.t (.r (.r (.l (.r (.r (.l .e))))))) (.c (.tc (.sc (.int .i64 1)))) ⟨6, opAt XP 124 14 0⟩) (.l (.r (.l (.l (.l (.r .e)))))),
  .p (.mv (.t (.l (.r (.l (.l (.l (.r .e)))))))) (.r (.r (.l (.r (.r (.l .e))))))])))))))
 (.seq (.reg [.p (.mv (.t (.l (.r (.r (.l (.l (.l .e)))))))) (.r (.r (.l (.l (.l (.r .e)))))),
  .p (.mv (.t (.r (.r (.l (.l (.l (.r .e)))))))) (.l (.r (.l (.l (.l (.l .e))))))])
 .ret))))))
 [.tmp (.t (.l (.r (.l (.l (.l (.l .e)))))))]
theorem ff124_ok : compF SBase 124 = ff124 := by kernel_rfl
noncomputable def ff125 : FF := .mk 2 [(.l (.l (.l (.l (.l .e))))), (.r (.l (.l (.l (.l .e)))))] (encF 5 fun _ => undefA)
 (.seq (.reg [.p (.mv (.c (.tc (.sc (.slice none 0 0))))) (.l (.l (.r (.l (.l .e)))))])
 (.seq (.seq (.reg [.p (.mv (.t (.r (.l (.l (.l (.l .e))))))) (.r (.l (.r (.l (.l .e))))),
  .p (.bin .lss (.t (.r (.l (.r (.l (.l .e)))))) (.c (.tc (.sc (.int .i64 0)))) ⟨5, opAt XP 125 1 1⟩) (.l (.r (.r (.l (.l .e)))))])
 (.cond (.t (.l (.r (.r (.l (.l .e)))))) (.reg [.p (.gen ⟨5, opAt XP 125 2 0⟩) (.r (.r (.r (.l (.l .e))))),
  .n (.gen ⟨5, opAt XP 125 2 1⟩)])
 .skip))
 (.seq (.seq (.reg [.p (.mv (.t (.r (.l (.l (.l (.l .e))))))) (.l (.l (.l (.r (.l .e))))),
  .p (.mv (.t (.l (.l (.l (.l (.l .e))))))) (.r (.l (.l (.r (.l .e))))),
  .p (.gen ⟨5, opAt XP 125 3 2⟩) (.l (.r (.l (.r (.l .e))))),
  .p (.mv (.t (.l (.l (.l (.l (.l .e))))))) (.r (.r (.l (.r (.l .e))))),
  .p (.len (.t (.r (.r (.l (.r (.l .e)))))) ⟨5, opAt XP 125 3 4⟩) (.l (.l (.r (.r (.l .e))))),
  .p (.bin .sub (.t (.l (.r (.l (.r (.l .e)))))) (.t (.l (.l (.r (.r (.l .e)))))) ⟨5, opAt XP 125 3 5⟩) (.r (.l (.r (.r (.l .e))))),
  .p (.bin .sub (.t (.l (.l (.l (.r (.l .e)))))) (.t (.r (.l (.r (.r (.l .e)))))) ⟨5, opAt XP 125 3 6⟩) (.l (.r (.r (.r (.l .e))))),
  .p (.mv (.t (.l (.r (.r (.r (.l .e))))))) (.r (.l (.l (.l (.l .e)))))])
 (.seq (.reg [.p (.mv (.t (.r (.l (.l (.l (.l .e))))))) (.r (.r (.r (.r (.l .e))))),
  .p (.bin .gtr (.t (.r (.r (.r (.r (.l .e)))))) (.c (.tc (.sc (.int .i64 0)))) ⟨5, opAt XP 125 4 1⟩) (.l (.l (.l (.l (.r .e)))))])
 (.cond (.t (.l (.l (.l (.l (.r .e)))))) (.reg [.p (.mv (.t (.l (.l (.l (.l (.l .e))))))) (.r (.l (.l (.l (.r .e))))),
  .p (.mv (.t (.l (.l (.l (.l (.l .e))))))) (.l (.r (.l (.l (.r .e))))),
  .p (.gen ⟨5, opAt XP 125 5 2⟩) (.r (.r (.l (.l (.r .e))))),
  .p (.sl 5 (.t (.r (.l (.l (.l (.r .e)))))) none (some (.t (.r (.r (.l (.l (.r .e))))))) none ⟨5, opAt XP 125 5 3⟩) (.l (.l (.r (.l (.r .e))))),
  .p (.mv (.t (.r (.l (.l (.l (.l .e))))))) (.r (.l (.r (.l (.r .e))))),
  .p (.gen ⟨5, opAt XP 125 5 5⟩) (.l (.r (.r (.l (.r .e))))),
  .p (.mv (.t (.l (.l (.l (.l (.l .e))))))) (.r (.r (.r (.l (.r .e))))),
  .p (.len (.t (.r (.r (.r (.l (.r .e)))))) ⟨5, opAt XP 125 5 7⟩) (.l (.l (.l (.r (.r .e))))),
  .p (.sl 5 (.t (.l (.r (.r (.l (.r .e)))))) none (some (.t (.l (.l (.l (.r (.r .e))))))) none ⟨5, opAt XP 125 5 8⟩) (.r (.l (.l (.r (.r .e))))),
  .p (.mv (.t (.r (.l (.l (.r (.r .e))))))) (.l (.l (.l (.l (.l .e)))))])
 .skip)))
 (.seq (.reg [.p (.mv (.t (.l (.l (.l (.l (.l .e))))))) (.l (.r (.l (.r (.r .e))))),
  .p (.mv (.t (.l (.r (.l (.r (.r .e))))))) (.l (.l (.r (.l (.l .e)))))])
 .ret))))
 [.tmp (.t (.l (.l (.r (.l (.l .e))))))]
theorem ff125_ok : compF SBase 125 = ff125 := by kernel_rfl
noncomputable def ff115 : FF := .mk 0 [] (encF 2 fun _ => undefA)
 (.seq (.reg [.p (.mv (.c (.tc (.sc (.slice none 0 0))))) (.l (.l .e))])
 (.seq (.reg [.p (.call 121 [(.c (.tc (.sc (.int .u8 1)))), (.c (.tc (.sc (.int .i64 3))))] ⟨2, opAt XP 115 1 0⟩) (.r (.l .e)),
  .p (.call 121 [(.c (.tc (.sc (.int .u8 2)))), (.c (.tc (.sc (.int .i64 2))))] ⟨2, opAt XP 115 1 1⟩) (.l (.r .e)),
  .p (.ap 5 32 (.t (.r (.l .e))) (.t (.l (.r .e)))) (.r (.r .e)),
  .p (.mv (.t (.r (.r .e)))) (.l (.l .e))])
 .ret))
 [.tmp (.t (.l (.l .e)))]
theorem ff115_ok : compF SBase 115 = ff115 := by kernel_rfl
noncomputable def ff121 : FF := .mk 2 [(.l (.l (.l (.l .e)))), (.r (.l (.l (.l .e))))] (encF 4 fun _ => undefA)
 (.seq (.reg [.p (.mv (.c (.tc (.sc (.slice none 0 0))))) (.l (.l (.r (.l .e))))])
 (.seq (.reg [.p (.mv (.t (.l (.l (.l (.l .e)))))) (.r (.l (.r (.l .e)))),
  .p (.mv (.t (.r (.l (.l (.l .e)))))) (.l (.r (.r (.l .e)))),
  .p (.bd [(.tc (.sc (.int .u8 0))), (.tc (.sc (.int .i64 0))), (.tc (.sc (.int .i64 0))), (.tc (.sc (.bool false))), (.tc (.sc (.bool false)))] [(.mk 0 1 (.t (.r (.l (.r (.l .e)))))), (.mk 1 1 (.t (.l (.r (.r (.l .e))))))] ⟨4, opAt XP 121 1 2⟩) (.r (.r (.r (.l .e)))),
  .p (.bs 5 1 [[(.tc (.sc (.int .u8 0))), (.tc (.sc (.int .i64 0))), (.tc (.sc (.int .i64 0))), (.tc (.sc (.bool false))), (.tc (.sc (.bool false)))]] [(.mk 0 5 (.t (.r (.r (.r (.l .e))))))] ⟨4, opAt XP 121 1 3⟩) (.l (.l (.l (.r .e)))),
  .p (.mv (.t (.l (.l (.l (.r .e)))))) (.l (.l (.r (.l .e))))])
 .ret))
 [.tmp (.t (.l (.l (.r (.l .e)))))]
theorem ff121_ok : compF SBase 121 = ff121 := by kernel_rfl
noncomputable def ff116 : FF := .mk 0 [] (encF 1 fun _ => undefA)
 (.seq (.reg [.p (.mv (.c (.tc (.sc (.slice none 0 0))))) (.l .e)])
 (.seq (.reg [.p (.call 121 [(.c (.tc (.sc (.int .u8 3)))), (.c (.tc (.sc (.int .i64 5))))] ⟨1, opAt XP 116 1 0⟩) (.r .e),
  .p (.mv (.t (.r .e))) (.l .e)])
 .ret))
 [.tmp (.t (.l .e))]
theorem ff116_ok : compF SBase 116 = ff116 := by kernel_rfl
noncomputable def ff117 : FF := .mk 0 [] (encF 1 fun _ => undefA)
 (.seq (.reg [.p (.mv (.c (.tc (.sc (.slice none 0 0))))) (.l .e)])
 (.seq (.reg [.p (.call 121 [(.c (.tc (.sc (.int .u8 5)))), (.c (.tc (.sc (.int .i64 5))))] ⟨1, opAt XP 117 1 0⟩) (.r .e),
  .p (.mv (.t (.r .e))) (.l .e)])
 .ret))
 [.tmp (.t (.l .e))]
theorem ff117_ok : compF SBase 117 = ff117 := by kernel_rfl
noncomputable def ff118 : FF := .mk 0 [] (encF 1 fun _ => undefA)
 (.seq (.reg [.p (.mv (.c (.tc (.sc (.slice none 0 0))))) (.l .e)])
 (.seq (.reg [.p (.call 121 [(.c (.tc (.sc (.int .u8 6)))), (.c (.tc (.sc (.int .i64 5))))] ⟨1, opAt XP 118 1 0⟩) (.r .e),
  .p (.mv (.t (.r .e))) (.l .e)])
 .ret))
 [.tmp (.t (.l .e))]
theorem ff118_ok : compF SBase 118 = ff118 := by kernel_rfl
noncomputable def ff119 : FF := .mk 2 [(.l (.l (.l (.l .e)))), (.r (.l (.l (.l .e))))] (encF 4 fun _ => undefA)
 (.seq (.reg [.p (.mv (.c (.tc (.sc (.slice none 0 0))))) (.l (.l (.r (.l .e))))])
 (.seq (.reg [.p (.mv (.t (.l (.l (.l (.l .e)))))) (.r (.l (.r (.l .e)))),
  .p (.mv (.t (.r (.l (.l (.l .e)))))) (.l (.r (.r (.l .e)))),
  .p (.bd [(.tc (.sc (.int .u8 0))), (.tc (.sc (.int .i64 0))), (.tc (.sc (.int .i64 0))), (.tc (.sc (.bool false))), (.tc (.sc (.bool false)))] [(.mk 0 1 (.c (.tc (.sc (.int .u8 9))))), (.mk 1 1 (.t (.r (.l (.r (.l .e)))))), (.mk 2 1 (.t (.l (.r (.r (.l .e)))))), (.mk 3 1 (.c (.tc (.sc (.bool true))))), (.mk 4 1 (.c (.tc (.sc (.bool true)))))] ⟨4, opAt XP 119 1 2⟩) (.r (.r (.r (.l .e)))),
  .p (.bs 5 1 [[(.tc (.sc (.int .u8 0))), (.tc (.sc (.int .i64 0))), (.tc (.sc (.int .i64 0))), (.tc (.sc (.bool false))), (.tc (.sc (.bool false)))]] [(.mk 0 5 (.t (.r (.r (.r (.l .e))))))] ⟨4, opAt XP 119 1 3⟩) (.l (.l (.l (.r .e)))),
  .p (.mv (.t (.l (.l (.l (.r .e)))))) (.l (.l (.r (.l .e))))])
 .ret))
 [.tmp (.t (.l (.l (.r (.l .e)))))]
theorem ff119_ok : compF SBase 119 = ff119 := by kernel_rfl
noncomputable def ff120 : FF := .mk 0 [] (encF 1 fun _ => undefA)
 (.seq (.reg [.p (.mv (.c (.tc (.sc (.slice none 0 0))))) (.l .e)])
 (.seq (.reg [.p (.call 121 [(.c (.tc (.sc (.int .u8 4)))), (.c (.tc (.sc (.int .i64 2))))] ⟨1, opAt XP 120 1 0⟩) (.r .e),
  .p (.mv (.t (.r .e))) (.l .e)])
 .ret))
 [.tmp (.t (.l .e))]
theorem ff120_ok : compF SBase 120 = ff120 := by kernel_rfl
noncomputable def ff122 : FF := .mk 1 [(.l (.l (.l .e)))] (encF 3 fun _ => undefA)
 (.seq (.reg [.p (.mv (.c (.tc (.sc (.slice none 0 0))))) (.l (.r (.l .e)))])
 (.seq (.reg [.p (.mv (.t (.l (.l (.l .e))))) (.r (.r (.l .e))),
  .p (.bd [(.tc (.sc (.int .u8 0))), (.tc (.sc (.int .i64 0))), (.tc (.sc (.int .i64 0))), (.tc (.sc (.bool false))), (.tc (.sc (.bool false)))] [(.mk 0 1 (.c (.tc (.sc (.int .u8 10))))), (.mk 1 1 (.t (.r (.r (.l .e))))), (.mk 2 1 (.c (.tc (.sc (.int .i64 2))))), (.mk 3 1 (.c (.tc (.sc (.bool true))))), (.mk 4 1 (.c (.tc (.sc (.bool true)))))] ⟨3, opAt XP 122 1 1⟩) (.l (.l (.r .e))),
  .p (.bs 5 1 [[(.tc (.sc (.int .u8 0))), (.tc (.sc (.int .i64 0))), (.tc (.sc (.int .i64 0))), (.tc (.sc (.bool false))), (.tc (.sc (.bool false)))]] [(.mk 0 5 (.t (.l (.l (.r .e)))))] ⟨3, opAt XP 122 1 2⟩) (.r (.l (.r .e))),
  .p (.mv (.t (.r (.l (.r .e))))) (.l (.r (.l .e)))])
 .ret))
 [.tmp (.t (.l (.r (.l .e))))]
theorem ff122_ok : compF SBase 122 = ff122 := by kernel_rfl
noncomputable def ff103 : FF := .mk 1 [(.l (.l (.l .e)))] (encF 3 fun _ => undefA)
 (.seq (.reg [.p (.mv (.c (.tc (.sc (.slice none 0 0))))) (.l (.r (.l .e)))])
 (.seq (.seq (.reg [.p (.mv (.t (.l (.l (.l .e))))) (.r (.r (.l .e))),
  .p (.bin .eql (.t (.r (.r (.l .e)))) (.c (.tc (.sc (.slice none 0 0)))) ⟨3, opAt XP 103 1 1⟩) (.l (.l (.r .e)))])
 (.cond (.t (.l (.l (.r .e)))) (.seq (.reg [.p (.mv (.c (.tc (.sc (.slice none 0 0))))) (.l (.r (.l .e)))])
 .ret)
 .skip))
 (.seq (.reg [.p (.bs 5 0 [] [] ⟨3, opAt XP 103 3 0⟩) (.r (.l (.r .e))),
  .p (.mv (.t (.l (.l (.l .e))))) (.l (.r (.r .e))),
  .p (.ap 5 32 (.t (.r (.l (.r .e)))) (.t (.l (.r (.r .e))))) (.r (.r (.r .e))),
  .p (.mv (.t (.r (.r (.r .e))))) (.l (.r (.l .e)))])
 .ret)))
 [.tmp (.t (.l (.r (.l .e))))]
theorem ff103_ok : compF SBase 103 = ff103 := by kernel_rfl
noncomputable def ff76 : FF := .mk 2 [(.l (.l (.l (.l .e)))), (.r (.l (.l (.l .e))))] (encF 4 fun _ => undefA)
 (.seq (.reg [.p (.mv (.c (.tc (.sc (.bool false))))) (.l (.l (.r (.l .e))))])
 (.seq (.reg [.p (.mv (.t (.l (.l (.l (.l .e)))))) (.r (.l (.r (.l .e)))),
  .p (.mv (.t (.r (.l (.l (.l .e)))))) (.l (.r (.r (.l .e)))),
  .p (.call 102 [(.t (.r (.l (.r (.l .e))))), (.t (.l (.r (.r (.l .e)))))] ⟨4, opAt XP 76 1 2⟩) (.r (.r (.r (.l .e)))),
  .p (.bin .geq (.t (.r (.r (.r (.l .e))))) (.c (.tc (.sc (.int .i64 0)))) ⟨4, opAt XP 76 1 3⟩) (.l (.l (.l (.r .e)))),
  .p (.mv (.t (.l (.l (.l (.r .e)))))) (.l (.l (.r (.l .e))))])
 .ret))
 [.tmp (.t (.l (.l (.r (.l .e)))))]
theorem ff76_ok : compF SBase 76 = ff76 := by kernel_rfl
noncomputable def ff102 : FF := .mk 2 [(.l (.l (.l (.l (.l .e))))), (.r (.l (.l (.l (.l .e)))))] (encF 5 fun _ => undefA)
 (.seq (.reg [.p (.mv (.c (.tc (.sc (.int .i64 0))))) (.l (.l (.r (.l (.l .e)))))])
 (.seq (.seq (.reg [.p (.mv (.t (.l (.l (.l (.l (.l .e))))))) (.l (.r (.r (.l (.l .e))))),
  .p (.len (.t (.l (.r (.r (.l (.l .e)))))) ⟨5, opAt XP 102 1 1⟩) (.r (.r (.r (.l (.l .e))))),
  .p (.mv (.c (.tc (.sc (.int .i64 0))))) (.l (.l (.l (.r (.l .e)))))])
 (.block 0 (.loop 4294967296 (.seq (.reg [.p (.bin .lss (.t (.l (.l (.l (.r (.l .e)))))) (.t (.r (.r (.r (.l (.l .e)))))) ⟨5, opAt XP 102 2 0⟩) (.r (.l (.l (.r (.l .e)))))])
 (.seq (.cond (.t (.r (.l (.l (.r (.l .e)))))) .skip
 (.exit 0))
 (.seq (.block 1 (.seq (.reg [.p (.mv (.t (.l (.l (.l (.r (.l .e))))))) (.l (.r (.l (.r (.l .e))))),
  .p (.mv (.t (.l (.r (.l (.r (.l .e))))))) (.r (.l (.r (.l (.l .e)))))])
 (.seq (.reg [.p (.mv (.t (.r (.l (.l (.l (.l .e))))))) (.r (.r (.l (.r (.l .e))))),
  .p (.mv (.t (.l (.l (.l (.l (.l .e))))))) (.l (.l (.r (.r (.l .e))))),
  .p (.mv (.t (.r (.l (.r (.l (.l .e))))))) (.r (.l (.r (.r (.l .e))))),
  .p (.ia 1 (.t (.l (.l (.r (.r (.l .e)))))) (.t (.r (.l (.r (.r (.l .e)))))) ⟨5, opAt XP 102 4 3⟩) (.l (.r (.r (.r (.l .e))))),
  .p (.ld false 1 (.t (.l (.r (.r (.r (.l .e))))))) (.r (.r (.r (.r (.l .e))))),
  .p (.bin .eql (.t (.r (.r (.l (.r (.l .e)))))) (.t (.r (.r (.r (.r (.l .e)))))) ⟨5, opAt XP 102 4 5⟩) (.l (.l (.l (.l (.r .e)))))])
 (.cond (.t (.l (.l (.l (.l (.r .e)))))) (.seq (.reg [.p (.mv (.t (.r (.l (.r (.l (.l .e))))))) (.r (.l (.l (.l (.r .e))))),
  .p (.mv (.t (.r (.l (.l (.l (.r .e))))))) (.l (.l (.r (.l (.l .e)))))])
 .ret)
 .skip))))
 (.reg [.p (.bin .add (.t (.l (.l (.l (.r (.l .e)))))) (.c (.tc (.sc (.int .i64 1)))) ⟨5, opAt XP 102 6 0⟩) (.l (.r (.l (.l (.r .e))))),
  .p (.mv (.t (.l (.r (.l (.l (.r .e))))))) (.l (.l (.l (.r (.l .e)))))])))))))
 (.seq (.reg [.p (.mv (.c (.tc (.sc (.int .i64 (-1)))))) (.l (.l (.r (.l (.l .e)))))])
 .ret)))
 [.tmp (.t (.l (.l (.r (.l (.l .e))))))]
theorem ff102_ok : compF SBase 102 = ff102 := by kernel_rfl
noncomputable def ff49 : FF := .mk 2 [(.l (.l (.l (.l .e)))), (.r (.l (.l (.l .e))))] (encF 4 fun _ => undefA)
 (.seq (.reg [.p (.mv (.c (.tc (.sc (.bool false))))) (.l (.l (.r (.l .e))))])
 (.seq (.reg [.p (.mv (.t (.l (.l (.l (.l .e)))))) (.r (.l (.r (.l .e)))),
  .p (.mv (.t (.r (.l (.l (.l .e)))))) (.l (.r (.r (.l .e)))),
  .p (.call 78 [(.t (.r (.l (.r (.l .e))))), (.t (.l (.r (.r (.l .e)))))] ⟨4, opAt XP 49 1 2⟩) (.r (.r (.r (.l .e)))),
  .p (.bin .geq (.t (.r (.r (.r (.l .e))))) (.c (.tc (.sc (.int .i64 0)))) ⟨4, opAt XP 49 1 3⟩) (.l (.l (.l (.r .e)))),
  .p (.mv (.t (.l (.l (.l (.r .e)))))) (.l (.l (.r (.l .e))))])
 .ret))
 [.tmp (.t (.l (.l (.r (.l .e)))))]
theorem ff49_ok : compF SBase 49 = ff49 := by kernel_rfl
noncomputable def ff78 : FF := .mk 2 [(.l (.l (.l (.l (.l .e))))), (.r (.l (.l (.l (.l .e)))))] (encF 5 fun _ => undefA)
 (.seq (.reg [.p (.mv (.c (.tc (.sc (.int .i64 0))))) (.l (.l (.r (.l (.l .e)))))])
 (.seq (.seq (.reg [.p (.mv (.t (.l (.l (.l (.l (.l .e))))))) (.l (.r (.r (.l (.l .e))))),
  .p (.len (.t (.l (.r (.r (.l (.l .e)))))) ⟨5, opAt XP 78 1 1⟩) (.r (.r (.r (.l (.l .e))))),
  .p (.mv (.c (.tc (.sc (.int .i64 0))))) (.l (.l (.l (.r (.l .e)))))])
 (.block 0 (.loop 4294967296 (.seq (.reg [.p (.bin .lss (.t (.l (.l (.l (.r (.l .e)))))) (.t (.r (.r (.r (.l (.l .e)))))) ⟨5, opAt XP 78 2 0⟩) (.r (.l (.l (.r (.l .e)))))])
 (.seq (.cond (.t (.r (.l (.l (.r (.l .e)))))) .skip
 (.exit 0))
 (.seq (.block 1 (.seq (.reg [.p (.mv (.t (.l (.l (.l (.r (.l .e))))))) (.l (.r (.l (.r (.l .e))))),
  .p (.mv (.t (.l (.r (.l (.r (.l .e))))))) (.r (.l (.r (.l (.l .e)))))])
 (.seq (.reg [.p (.mv (.t (.r (.l (.l (.l (.l .e))))))) (.r (.r (.l (.r (.l .e))))),
  .p (.mv (.t (.l (.l (.l (.l (.l .e))))))) (.l (.l (.r (.r (.l .e))))),
  .p (.mv (.t (.r (.l (.r (.l (.l .e))))))) (.r (.l (.r (.r (.l .e))))),
  .p (.ia 11 (.t (.l (.l (.r (.r (.l .e)))))) (.t (.r (.l (.r (.r (.l .e)))))) ⟨5, opAt XP 78 4 3⟩) (.l (.r (.r (.r (.l .e))))),
  .p (.ld true 11 (.t (.l (.r (.r (.r (.l .e))))))) (.r (.r (.r (.r (.l .e))))),
  .p (.gen ⟨5, opAt XP 78 4 5⟩) (.l (.l (.l (.l (.r .e)))))])
 (.cond (.t (.l (.l (.l (.l (.r .e)))))) (.seq (.reg [.p (.mv (.t (.r (.l (.r (.l (.l .e))))))) (.r (.l (.l (.l (.r .e))))),
  .p (.mv (.t (.r (.l (.l (.l (.r .e))))))) (.l (.l (.r (.l (.l .e)))))])
 .ret)
 .skip))))
 (.reg [.p (.bin .add (.t (.l (.l (.l (.r (.l .e)))))) (.c (.tc (.sc (.int .i64 1)))) ⟨5, opAt XP 78 6 0⟩) (.l (.r (.l (.l (.r .e))))),
  .p (.mv (.t (.l (.r (.l (.l (.r .e))))))) (.l (.l (.l (.r (.l .e)))))])))))))
 (.seq (.reg [.p (.mv (.c (.tc (.sc (.int .i64 (-1)))))) (.l (.l (.r (.l (.l .e)))))])
 .ret)))
 [.tmp (.t (.l (.l (.r (.l (.l .e))))))]
theorem ff78_ok : compF SBase 78 = ff78 := by kernel_rfl
noncomputable def ff50 : FF := .mk 1 [(.l (.l (.l .e)))] (encF 3 fun _ => undefA)
 (.seq (.reg [.p (.bx 11 (.t (.l (.l (.l .e)))) ⟨3, opAt XP 50 0 0⟩) (.r (.l (.l .e))),
  .p (.mv (.c (.tc (.sc (.bool false))))) (.l (.r (.l .e)))])
 (.seq (.reg [.p (.ld true 11 (.t (.r (.l (.l .e))))) (.r (.r (.l .e))),
  .p (.call 51 [(.t (.r (.r (.l .e))))] ⟨3, opAt XP 50 1 1⟩) (.l (.l (.r .e))),
  .p (.nt (.t (.l (.l (.r .e)))) ⟨3, opAt XP 50 1 2⟩) (.r (.l (.r .e))),
  .p (.mv (.t (.r (.l (.r .e))))) (.l (.r (.l .e)))])
 .ret))
 [.tmp (.t (.l (.r (.l .e))))]
theorem ff50_ok : compF SBase 50 = ff50 := by kernel_rfl
noncomputable def ff51 : FF := .mk 1 [(.l (.l (.l (.l (.l (.l .e))))))] (encF 6 fun _ => undefA)
 (.seq (.reg [.p (.bx 11 (.t (.l (.l (.l (.l (.l (.l .e))))))) ⟨6, opAt XP 51 0 0⟩) (.r (.l (.l (.l (.l (.l .e)))))),
  .p (.mv (.c (.tc (.sc (.bool false))))) (.l (.r (.l (.l (.l (.l .e))))))])
 (.seq (.reg [.p (.fa 0 (.t (.r (.l (.l (.l (.l (.l .e)))))))) (.r (.l (.l (.r (.l (.l .e)))))),
  .p (.ld false 1 (.t (.r (.l (.l (.r (.l (.l .e)))))))) (.l (.r (.l (.r (.l (.l .e)))))),
  .p (.call 79 [(.t (.l (.r (.l (.r (.l (.l .e)))))))] ⟨6, opAt XP 51 1 2⟩) (.r (.r (.l (.r (.l (.l .e)))))),
  .p (.mv (.t (.r (.r (.l (.r (.l (.l .e)))))))) (.l (.l (.l (.r (.l (.l .e)))))),
  .p (.ex (.t (.l (.l (.l (.r (.l (.l .e))))))) 0) (.l (.l (.r (.r (.l (.l .e)))))),
  .p (.ex (.t (.l (.l (.l (.r (.l (.l .e))))))) 1) (.r (.l (.r (.r (.l (.l .e)))))),
  .p (.al 5 [(.sc (.int .u8 0)), (.sc (.string ⟨#[]⟩)), (.sc (.int .u8 0)), (.sc (.int .u8 0)), (.sc (.slice none 0 0))]) (.r (.r (.l (.l (.l (.l .e)))))),
  .n (.st 5 (.t (.r (.r (.l (.l (.l (.l .e))))))) (.t (.l (.l (.r (.r (.l (.l .e))))))) ⟨6, opAt XP 51 1 7⟩),
  .p (.mv (.t (.r (.l (.r (.r (.l (.l .e)))))))) (.l (.l (.r (.l (.l (.l .e))))))])
 (.seq (.reg [.p (.ld true 11 (.t (.r (.l (.l (.l (.l (.l .e)))))))) (.l (.r (.r (.r (.l (.l .e)))))),
  .p (.al 11 [(.sc (.int .u8 0)), (.sc (.int .u8 0)), (.sc (.int .u8 0)), (.sc (.int .u8 0)), (.sc (.int .u8 0)), (.sc (.int .u8 0)), (.sc (.int .u8 0)), (.sc (.bool false)), (.sc (.bool false)), (.sc (.int .u16 0)), (.sc (.int .i64 0))]) (.r (.l (.r (.l (.l (.l .e)))))),
  .n (.st 11 (.t (.r (.l (.r (.l (.l (.l .e))))))) (.t (.l (.r (.r (.r (.l (.l .e))))))) ⟨6, opAt XP 51 2 2⟩)])
 (.seq (.reg [.p (.fa 0 (.t (.r (.l (.r (.l (.l (.l .e)))))))) (.r (.r (.r (.r (.l (.l .e)))))),
  .n (.st 1 (.t (.r (.r (.r (.r (.l (.l .e))))))) (.c (.tc (.sc (.int .u8 0)))) ⟨6, opAt XP 51 3 1⟩)])
 (.seq (.seq (.reg [.p (.fa 4 (.t (.r (.r (.l (.l (.l (.l .e)))))))) (.l (.l (.l (.l (.r (.l .e)))))),
  .p (.ld false 1 (.t (.l (.l (.l (.l (.r (.l .e)))))))) (.r (.l (.l (.l (.r (.l .e)))))),
  .p (.len (.t (.r (.l (.l (.l (.r (.l .e))))))) ⟨6, opAt XP 51 4 2⟩) (.l (.r (.l (.l (.r (.l .e)))))),
  .p (.mv (.c (.tc (.sc (.int .i64 0))))) (.r (.r (.l (.l (.r (.l .e))))))])
 (.block 0 (.loop 4294967296 (.seq (.reg [.p (.bin .lss (.t (.r (.r (.l (.l (.r (.l .e))))))) (.t (.l (.r (.l (.l (.r (.l .e))))))) ⟨6, opAt XP 51 5 0⟩) (.l (.l (.r (.l (.r (.l .e))))))])
 (.seq (.cond (.t (.l (.l (.r (.l (.r (.l .e))))))) .skip
 (.exit 0))
 (.seq (.block 1 (.seq (.reg [.p (.ia 5 (.t (.r (.l (.l (.l (.r (.l .e))))))) (.t (.r (.r (.l (.l (.r (.l .e))))))) ⟨6, opAt XP 51 6 0⟩) (.r (.l (.r (.l (.r (.l .e)))))),
  .p (.ld true 5 (.t (.r (.l (.r (.l (.r (.l .e)))))))) (.l (.r (.r (.l (.r (.l .e)))))),
  .p (.al 5 [(.sc (.int .u8 0)), (.sc (.int .i64 0)), (.sc (.int .i64 0)), (.sc (.bool false)), (.sc (.bool false))]) (.r (.r (.r (.l (.l (.l .e)))))),
  .n (.st 5 (.t (.r (.r (.r (.l (.l (.l .e))))))) (.t (.l (.r (.r (.l (.r (.l .e))))))) ⟨6, opAt XP 51 6 3⟩)])
 (.seq (.reg [.p (.ld true 11 (.t (.r (.l (.r (.l (.l (.l .e)))))))) (.r (.r (.r (.l (.r (.l .e)))))),
  .p (.ld true 5 (.t (.r (.r (.r (.l (.l (.l .e)))))))) (.l (.l (.l (.r (.r (.l .e)))))),
  .p (.call 80 [(.t (.r (.r (.r (.l (.r (.l .e))))))), (.t (.l (.l (.l (.r (.r (.l .e)))))))] ⟨6, opAt XP 51 7 2⟩) (.r (.l (.l (.r (.r (.l .e)))))),
  .n (.st 11 (.t (.r (.l (.r (.l (.l (.l .e))))))) (.t (.r (.l (.l (.r (.r (.l .e))))))) ⟨6, opAt XP 51 7 3⟩)])
 (.reg [.p (.mv (.t (.l (.l (.r (.l (.l (.l .e)))))))) (.l (.r (.l (.r (.r (.l .e)))))),
  .p (.mv (.t (.l (.r (.l (.r (.r (.l .e)))))))) (.r (.r (.l (.r (.r (.l .e)))))),
  .gp (.t (.r (.r (.l (.r (.r (.l .e))))))) true (.ld true 11 (.t (.r (.l (.l (.l (.l (.l .e)))))))) (.l (.l (.r (.r (.r (.l .e)))))),
  .gp (.t (.r (.r (.l (.r (.r (.l .e))))))) true (.ld true 5 (.t (.r (.r (.r (.l (.l (.l .e)))))))) (.r (.l (.r (.r (.r (.l .e)))))),
  .gp (.t (.r (.r (.l (.r (.r (.l .e))))))) true (.call 81 [(.t (.l (.l (.r (.r (.r (.l .e))))))), (.t (.r (.l (.r (.r (.r (.l .e)))))))] ⟨6, opAt XP 51 8 4⟩) (.l (.r (.r (.r (.r (.l .e)))))),
  .p (.pk (.t (.r (.r (.l (.r (.r (.l .e))))))) (.t (.l (.r (.r (.r (.r (.l .e))))))) (.c (.tc (.sc (.bool false))))) (.r (.r (.r (.r (.r (.l .e)))))),
  .p (.mv (.t (.r (.r (.r (.r (.r (.l .e)))))))) (.l (.l (.r (.l (.l (.l .e))))))]))))
 (.reg [.p (.bin .add (.t (.r (.r (.l (.l (.r (.l .e))))))) (.c (.tc (.sc (.int .i64 1)))) ⟨6, opAt XP 51 9 0⟩) (.l (.l (.l (.l (.l (.r .e)))))),
  .p (.mv (.t (.l (.l (.l (.l (.l (.r .e)))))))) (.r (.r (.l (.l (.r (.l .e))))))])))))))
 (.seq (.reg [.p (.mv (.t (.l (.l (.r (.l (.l (.l .e)))))))) (.r (.l (.l (.l (.l (.r .e)))))),
  .p (.mv (.t (.r (.l (.l (.l (.l (.r .e)))))))) (.l (.r (.l (.l (.l (.r .e)))))),
  .gp (.t (.l (.r (.l (.l (.l (.r .e))))))) true (.ld true 11 (.t (.r (.l (.r (.l (.l (.l .e)))))))) (.r (.r (.l (.l (.l (.r .e)))))),
  .gp (.t (.l (.r (.l (.l (.l (.r .e))))))) true (.bd [(.tc (.sc (.int .u8 0))), (.tc (.sc (.int .u8 0))), (.tc (.sc (.int .u8 0))), (.tc (.sc (.int .u8 0))), (.tc (.sc (.int .u8 0))), (.tc (.sc (.int .u8 0))), (.tc (.sc (.int .u8 0))), (.tc (.sc (.bool false))), (.tc (.sc (.bool false))), (.tc (.sc (.int .u16 0))), (.tc (.sc (.int .i64 0)))] [] ⟨6, opAt XP 51 10 3⟩) (.l (.l (.r (.l (.l (.r .e)))))),
  .gp (.t (.l (.r (.l (.l (.l (.r .e))))))) true (.eqs .eql [(.mk 0 .int), (.mk 1 .int), (.mk 2 .int), (.mk 3 .int), (.mk 4 .int), (.mk 5 .int), (.mk 6 .int), (.mk 7 .bool), (.mk 8 .bool), (.mk 9 .int), (.mk 10 .int)] (.t (.r (.r (.l (.l (.l (.r .e))))))) (.t (.l (.l (.r (.l (.l (.r .e))))))) ⟨6, opAt XP 51 10 4⟩) (.r (.l (.r (.l (.l (.r .e)))))),
  .p (.pk (.t (.l (.r (.l (.l (.l (.r .e))))))) (.t (.r (.l (.r (.l (.l (.r .e))))))) (.c (.tc (.sc (.bool false))))) (.l (.r (.r (.l (.l (.r .e)))))),
  .p (.mv (.t (.l (.r (.r (.l (.l (.r .e)))))))) (.r (.r (.r (.l (.l (.r .e)))))),
  .gp (.t (.r (.r (.r (.l (.l (.r .e))))))) true (.ld true 11 (.t (.r (.l (.l (.l (.l (.l .e)))))))) (.l (.l (.l (.r (.l (.r .e)))))),
  .gp (.t (.r (.r (.r (.l (.l (.r .e))))))) true (.call 82 [(.t (.l (.l (.l (.r (.l (.r .e)))))))] ⟨6, opAt XP 51 10 8⟩) (.r (.l (.l (.r (.l (.r .e)))))),
  .gp (.t (.r (.r (.r (.l (.l (.r .e))))))) true (.mv (.t (.r (.l (.l (.r (.l (.r .e)))))))) (.l (.r (.l (.r (.l (.r .e)))))),
  .gp (.t (.l (.r (.l (.r (.l (.r .e))))))) true (.fa 6 (.t (.r (.l (.l (.l (.l (.l .e)))))))) (.r (.r (.l (.r (.l (.r .e)))))),
  .gp (.t (.l (.r (.l (.r (.l (.r .e))))))) true (.ld false 1 (.t (.r (.r (.l (.r (.l (.r .e)))))))) (.l (.l (.r (.r (.l (.r .e)))))),
  .gp (.t (.l (.r (.l (.r (.l (.r .e))))))) true (.bin .eql (.t (.l (.l (.r (.r (.l (.r .e))))))) (.c (.tc (.sc (.int .u8 0)))) ⟨6, opAt XP 51 10 12⟩) (.r (.l (.r (.r (.l (.r .e)))))),
  .gp (.t (.r (.r (.r (.l (.l (.r .e))))))) true (.pk (.t (.l (.r (.l (.r (.l (.r .e))))))) (.t (.r (.l (.r (.r (.l (.r .e))))))) (.c (.tc (.sc (.bool false))))) (.l (.r (.r (.r (.l (.r .e)))))),
  .gp (.t (.r (.r (.r (.l (.l (.r .e))))))) true (.mv (.t (.l (.r (.r (.r (.l (.r .e)))))))) (.r (.r (.r (.r (.l (.r .e)))))),
  .gp (.t (.r (.r (.r (.r (.l (.r .e))))))) true (.fa 5 (.t (.r (.l (.l (.l (.l (.l .e)))))))) (.l (.l (.l (.l (.r (.r .e)))))),
  .gp (.t (.r (.r (.r (.r (.l (.r .e))))))) true (.ld false 1 (.t (.l (.l (.l (.l (.r (.r .e)))))))) (.r (.l (.l (.l (.r (.r .e)))))),
  .gp (.t (.r (.r (.r (.r (.l (.r .e))))))) true (.bin .neq (.t (.r (.l (.l (.l (.r (.r .e))))))) (.c (.tc (.sc (.int .u8 0)))) ⟨6, opAt XP 51 10 17⟩) (.l (.r (.l (.l (.r (.r .e)))))),
  .gp (.t (.r (.r (.r (.l (.l (.r .e))))))) true (.pk (.t (.r (.r (.r (.r (.l (.r .e))))))) (.t (.l (.r (.l (.l (.r (.r .e))))))) (.c (.tc (.sc (.bool false))))) (.r (.r (.l (.l (.r (.r .e)))))),
  .gp (.t (.r (.r (.r (.l (.l (.r .e))))))) true (.nt (.t (.r (.r (.l (.l (.r (.r .e))))))) ⟨6, opAt XP 51 10 19⟩) (.l (.l (.r (.l (.r (.r .e)))))),
  .p (.pk (.t (.r (.r (.r (.l (.l (.r .e))))))) (.t (.l (.l (.r (.l (.r (.r .e))))))) (.c (.tc (.sc (.bool false))))) (.r (.l (.r (.l (.r (.r .e)))))),
  .p (.mv (.t (.r (.l (.r (.l (.r (.r .e)))))))) (.l (.r (.l (.l (.l (.l .e))))))])
 .ret))))))
 [.tmp (.t (.l (.r (.l (.l (.l (.l .e)))))))]
theorem ff51_ok : compF SBase 51 = ff51 := by kernel_rfl
noncomputable def ff80 : FF := .mk 2 [(.l (.l (.l (.l (.l (.l .e)))))), (.r (.l (.l (.l (.l (.l .e))))))] (encF 6 fun _ => undefA)
 (.seq (.reg [.p (.bx 11 (.t (.l (.l (.l (.l (.l (.l .e))))))) ⟨6, opAt XP 80 0 0⟩) (.l (.r (.l (.l (.l (.l .e)))))),
  .p (.bx 5 (.t (.r (.l (.l (.l (.l (.l .e))))))) ⟨6, opAt XP 80 0 1⟩) (.r (.r (.l (.l (.l (.l .e)))))),
  .p (.al 11 [(.sc (.int .u8 0)), (.sc (.int .u8 0)), (.sc (.int .u8 0)), (.sc (.int .u8 0)), (.sc (.int .u8 0)), (.sc (.int .u8 0)), (.sc (.int .u8 0)), (.sc (.bool false)), (.sc (.bool false)), (.sc (.int .u16 0)), (.sc (.int .i64 0))]) (.l (.l (.r (.l (.l (.l .e))))))])
 (.seq (.seq (.reg [.p (.fa 0 (.t (.r (.r (.l (.l (.l (.l .e)))))))) (.r (.l (.r (.l (.l (.l .e)))))),
  .p (.ld false 1 (.t (.r (.l (.r (.l (.l (.l .e)))))))) (.l (.r (.r (.l (.l (.l .e))))))])
 (.block 0 (.seq (.reg [.p (.bin .eql (.t (.l (.r (.r (.l (.l (.l .e))))))) (.c (.tc (.sc (.int .u8 1)))) ⟨6, opAt XP 80 2 0⟩) (.l (.l (.l (.r (.l (.l .e)))))),
  .p (.mv (.t (.l (.l (.l (.r (.l (.l .e)))))))) (.r (.r (.r (.l (.l (.l .e))))))])
 (.cond (.t (.r (.r (.r (.l (.l (.l .e))))))) (.reg [.p (.fa 6 (.t (.l (.r (.l (.l (.l (.l .e)))))))) (.r (.l (.l (.r (.l (.l .e)))))),
  .n (.st 1 (.t (.r (.l (.l (.r (.l (.l .e))))))) (.c (.tc (.sc (.int .u8 0)))) ⟨6, opAt XP 80 3 1⟩)])
 (.seq (.reg [.p (.bin .eql (.t (.l (.r (.r (.l (.l (.l .e))))))) (.c (.tc (.sc (.int .u8 2)))) ⟨6, opAt XP 80 4 0⟩) (.r (.r (.l (.r (.l (.l .e)))))),
  .p (.mv (.t (.r (.r (.l (.r (.l (.l .e)))))))) (.l (.r (.l (.r (.l (.l .e))))))])
 (.cond (.t (.l (.r (.l (.r (.l (.l .e))))))) (.reg [.p (.fa 5 (.t (.l (.r (.l (.l (.l (.l .e)))))))) (.l (.l (.r (.r (.l (.l .e)))))),
  .n (.st 1 (.t (.l (.l (.r (.r (.l (.l .e))))))) (.c (.tc (.sc (.int .u8 0)))) ⟨6, opAt XP 80 5 1⟩)])
 (.seq (.seq (.reg [.p (.bin .eql (.t (.l (.r (.r (.l (.l (.l .e))))))) (.c (.tc (.sc (.int .u8 3)))) ⟨6, opAt XP 80 6 0⟩) (.l (.r (.r (.r (.l (.l .e)))))),
  .p (.mv (.t (.l (.r (.r (.r (.l (.l .e)))))))) (.r (.l (.r (.r (.l (.l .e))))))])
 (.cond (.t (.r (.l (.r (.r (.l (.l .e))))))) .skip
 (.reg [.p (.bin .eql (.t (.l (.r (.r (.l (.l (.l .e))))))) (.c (.tc (.sc (.int .u8 4)))) ⟨6, opAt XP 80 7 0⟩) (.r (.r (.r (.r (.l (.l .e)))))),
  .p (.mv (.t (.r (.r (.r (.r (.l (.l .e)))))))) (.r (.l (.r (.r (.l (.l .e))))))])))
 (.cond (.t (.r (.l (.r (.r (.l (.l .e))))))) (.reg [.p (.fa 1 (.t (.l (.r (.l (.l (.l (.l .e)))))))) (.l (.l (.l (.l (.r (.l .e)))))),
  .n (.st 1 (.t (.l (.l (.l (.l (.r (.l .e))))))) (.c (.tc (.sc (.int .u8 0)))) ⟨6, opAt XP 80 8 1⟩)])
 (.seq (.reg [.p (.bin .eql (.t (.l (.r (.r (.l (.l (.l .e))))))) (.c (.tc (.sc (.int .u8 5)))) ⟨6, opAt XP 80 9 0⟩) (.l (.r (.l (.l (.r (.l .e)))))),
  .p (.mv (.t (.l (.r (.l (.l (.r (.l .e)))))))) (.r (.l (.l (.l (.r (.l .e))))))])
 (.cond (.t (.r (.l (.l (.l (.r (.l .e))))))) (.reg [.p (.fa 2 (.t (.l (.r (.l (.l (.l (.l .e)))))))) (.r (.r (.l (.l (.r (.l .e)))))),
  .n (.st 1 (.t (.r (.r (.l (.l (.r (.l .e))))))) (.c (.tc (.sc (.int .u8 0)))) ⟨6, opAt XP 80 10 1⟩)])
 (.seq (.reg [.p (.bin .eql (.t (.l (.r (.r (.l (.l (.l .e))))))) (.c (.tc (.sc (.int .u8 6)))) ⟨6, opAt XP 80 11 0⟩) (.r (.l (.r (.l (.r (.l .e)))))),
  .p (.mv (.t (.r (.l (.r (.l (.r (.l .e)))))))) (.l (.l (.r (.l (.r (.l .e))))))])
 (.cond (.t (.l (.l (.r (.l (.r (.l .e))))))) (.reg [.p (.fa 3 (.t (.l (.r (.l (.l (.l (.l .e)))))))) (.l (.r (.r (.l (.r (.l .e)))))),
  .n (.st 1 (.t (.l (.r (.r (.l (.r (.l .e))))))) (.c (.tc (.sc (.int .u8 0)))) ⟨6, opAt XP 80 12 1⟩)])
 (.seq (.reg [.p (.bin .eql (.t (.l (.r (.r (.l (.l (.l .e))))))) (.c (.tc (.sc (.int .u8 7)))) ⟨6, opAt XP 80 13 0⟩) (.l (.l (.l (.r (.r (.l .e)))))),
  .p (.mv (.t (.l (.l (.l (.r (.r (.l .e)))))))) (.r (.r (.r (.l (.r (.l .e))))))])
 (.cond (.t (.r (.r (.r (.l (.r (.l .e))))))) (.reg [.p (.fa 4 (.t (.l (.r (.l (.l (.l (.l .e)))))))) (.r (.l (.l (.r (.r (.l .e)))))),
  .n (.st 1 (.t (.r (.l (.l (.r (.r (.l .e))))))) (.c (.tc (.sc (.int .u8 0)))) ⟨6, opAt XP 80 14 1⟩)])
 (.seq (.reg [.p (.bin .eql (.t (.l (.r (.r (.l (.l (.l .e))))))) (.c (.tc (.sc (.int .u8 8)))) ⟨6, opAt XP 80 15 0⟩) (.r (.r (.l (.r (.r (.l .e)))))),
  .p (.mv (.t (.r (.r (.l (.r (.r (.l .e)))))))) (.l (.r (.l (.r (.r (.l .e))))))])
 (.cond (.t (.l (.r (.l (.r (.r (.l .e))))))) (.reg [.p (.fa 7 (.t (.l (.r (.l (.l (.l (.l .e)))))))) (.l (.l (.r (.r (.r (.l .e)))))),
  .n (.st 1 (.t (.l (.l (.r (.r (.r (.l .e))))))) (.c (.tc (.sc (.bool false)))) ⟨6, opAt XP 80 16 1⟩)])
 (.seq (.seq (.reg [.p (.bin .eql (.t (.l (.r (.r (.l (.l (.l .e))))))) (.c (.tc (.sc (.int .u8 9)))) ⟨6, opAt XP 80 17 0⟩) (.l (.r (.r (.r (.r (.l .e)))))),
  .p (.mv (.t (.l (.r (.r (.r (.r (.l .e)))))))) (.r (.l (.r (.r (.r (.l .e))))))])
 (.cond (.t (.r (.l (.r (.r (.r (.l .e))))))) .skip
 (.reg [.p (.bin .eql (.t (.l (.r (.r (.l (.l (.l .e))))))) (.c (.tc (.sc (.int .u8 10)))) ⟨6, opAt XP 80 18 0⟩) (.r (.r (.r (.r (.r (.l .e)))))),
  .p (.mv (.t (.r (.r (.r (.r (.r (.l .e)))))))) (.r (.l (.r (.r (.r (.l .e))))))])))
 (.cond (.t (.r (.l (.r (.r (.r (.l .e))))))) (.reg [.p (.fa 10 (.t (.l (.r (.l (.l (.l (.l .e)))))))) (.l (.l (.l (.l (.l (.r .e)))))),
  .n (.st 1 (.t (.l (.l (.l (.l (.l (.r .e))))))) (.c (.tc (.sc (.int .i64 0)))) ⟨6, opAt XP 80 19 1⟩)])
 (.seq (.reg [.p (.bin .eql (.t (.l (.r (.r (.l (.l (.l .e))))))) (.c (.tc (.sc (.int .u8 11)))) ⟨6, opAt XP 80 20 0⟩) (.l (.r (.l (.l (.l (.r .e)))))),
  .p (.mv (.t (.l (.r (.l (.l (.l (.r .e)))))))) (.r (.l (.l (.l (.l (.r .e))))))])
 (.cond (.t (.r (.l (.l (.l (.l (.r .e))))))) (.reg [.p (.fa 9 (.t (.l (.r (.l (.l (.l (.l .e)))))))) (.r (.r (.l (.l (.l (.r .e)))))),
  .n (.st 1 (.t (.r (.r (.l (.l (.l (.r .e))))))) (.c (.tc (.sc (.int .u16 0)))) ⟨6, opAt XP 80 21 1⟩)])
 .skip))))))))))))))))))))
 (.seq (.seq (.reg [.p (.fa 4 (.t (.r (.r (.l (.l (.l (.l .e)))))))) (.l (.l (.r (.l (.l (.r .e)))))),
  .p (.ld false 1 (.t (.l (.l (.r (.l (.l (.r .e)))))))) (.r (.l (.r (.l (.l (.r .e))))))])
 (.cond (.t (.r (.l (.r (.l (.l (.r .e))))))) (.reg [.p (.fa 8 (.t (.l (.r (.l (.l (.l (.l .e)))))))) (.l (.r (.r (.l (.l (.r .e)))))),
  .n (.st 1 (.t (.l (.r (.r (.l (.l (.r .e))))))) (.c (.tc (.sc (.bool false)))) ⟨6, opAt XP 80 23 1⟩)])
 .skip))
 (.seq (.reg [.p (.ld true 11 (.t (.l (.r (.l (.l (.l (.l .e)))))))) (.r (.r (.r (.l (.l (.r .e)))))),
  .n (.st 11 (.t (.l (.l (.r (.l (.l (.l .e))))))) (.t (.r (.r (.r (.l (.l (.r .e))))))) ⟨6, opAt XP 80 24 1⟩)])
 .ret))))
 [.cell (.t (.l (.l (.r (.l (.l (.l .e))))))) true 11]
theorem ff80_ok : compF SBase 80 = ff80 := by kernel_rfl
noncomputable def ff81 : FF := .mk 2 [(.l (.l (.l (.l (.l (.l (.l .e))))))), (.r (.l (.l (.l (.l (.l (.l .e)))))))] (encF 7 fun _ => undefA)
 (.seq (.reg [.p (.bx 11 (.t (.l (.l (.l (.l (.l (.l (.l .e)))))))) ⟨7, opAt XP 81 0 0⟩) (.l (.r (.l (.l (.l (.l (.l .e))))))),
  .p (.bx 5 (.t (.r (.l (.l (.l (.l (.l (.l .e)))))))) ⟨7, opAt XP 81 0 1⟩) (.r (.r (.l (.l (.l (.l (.l .e))))))),
  .p (.mv (.c (.tc (.sc (.bool false))))) (.l (.l (.r (.l (.l (.l (.l .e)))))))])
 (.seq (.seq (.reg [.p (.fa 0 (.t (.r (.r (.l (.l (.l (.l (.l .e))))))))) (.r (.l (.r (.l (.l (.l (.l .e))))))),
  .p (.ld false 1 (.t (.r (.l (.r (.l (.l (.l (.l .e))))))))) (.l (.r (.r (.l (.l (.l (.l .e)))))))])
 (.block 0 (.seq (.reg [.p (.bin .eql (.t (.l (.r (.r (.l (.l (.l (.l .e)))))))) (.c (.tc (.sc (.int .u8 1)))) ⟨7, opAt XP 81 2 0⟩) (.l (.l (.l (.r (.l (.l (.l .e))))))),
  .p (.mv (.t (.l (.l (.l (.r (.l (.l (.l .e))))))))) (.r (.r (.r (.l (.l (.l (.l .e)))))))])
 (.cond (.t (.r (.r (.r (.l (.l (.l (.l .e)))))))) (.seq (.reg [.p (.fa 6 (.t (.l (.r (.l (.l (.l (.l (.l .e))))))))) (.r (.l (.l (.r (.l (.l (.l .e))))))),
  .p (.ld false 1 (.t (.r (.l (.l (.r (.l (.l (.l .e))))))))) (.l (.r (.l (.r (.l (.l (.l .e))))))),
  .p (.bin .leq (.t (.l (.r (.l (.r (.l (.l (.l .e)))))))) (.c (.tc (.sc (.int .u8 4)))) ⟨7, opAt XP 81 3 2⟩) (.r (.r (.l (.r (.l (.l (.l .e))))))),
  .p (.mv (.t (.r (.r (.l (.r (.l (.l (.l .e))))))))) (.l (.l (.r (.l (.l (.l (.l .e)))))))])
 .ret)
 (.seq (.reg [.p (.bin .eql (.t (.l (.r (.r (.l (.l (.l (.l .e)))))))) (.c (.tc (.sc (.int .u8 2)))) ⟨7, opAt XP 81 4 0⟩) (.r (.l (.r (.r (.l (.l (.l .e))))))),
  .p (.mv (.t (.r (.l (.r (.r (.l (.l (.l .e))))))))) (.l (.l (.r (.r (.l (.l (.l .e)))))))])
 (.cond (.t (.l (.l (.r (.r (.l (.l (.l .e)))))))) (.seq (.reg [.p (.fa 5 (.t (.l (.r (.l (.l (.l (.l (.l .e))))))))) (.l (.r (.r (.r (.l (.l (.l .e))))))),
  .p (.ld false 1 (.t (.l (.r (.r (.r (.l (.l (.l .e))))))))) (.r (.r (.r (.r (.l (.l (.l .e))))))),
  .p (.bin .lss (.t (.r (.r (.r (.r (.l (.l (.l .e)))))))) (.c (.tc (.sc (.int .u8 4)))) ⟨7, opAt XP 81 5 2⟩) (.l (.l (.l (.l (.r (.l (.l .e))))))),
  .p (.mv (.t (.l (.l (.l (.l (.r (.l (.l .e))))))))) (.l (.l (.r (.l (.l (.l (.l .e)))))))])
 .ret)
 (.seq (.reg [.p (.bin .eql (.t (.l (.r (.r (.l (.l (.l (.l .e)))))))) (.c (.tc (.sc (.int .u8 3)))) ⟨7, opAt XP 81 6 0⟩) (.l (.r (.l (.l (.r (.l (.l .e))))))),
  .p (.mv (.t (.l (.r (.l (.l (.r (.l (.l .e))))))))) (.r (.l (.l (.l (.r (.l (.l .e)))))))])
 (.cond (.t (.r (.l (.l (.l (.r (.l (.l .e)))))))) (.seq (.reg [.p (.fa 1 (.t (.l (.r (.l (.l (.l (.l (.l .e))))))))) (.r (.r (.l (.l (.r (.l (.l .e))))))),
  .p (.ld false 1 (.t (.r (.r (.l (.l (.r (.l (.l .e))))))))) (.l (.l (.r (.l (.r (.l (.l .e))))))),
  .p (.bin .lss (.t (.l (.l (.r (.l (.r (.l (.l .e)))))))) (.c (.tc (.sc (.int .u8 32)))) ⟨7, opAt XP 81 7 2⟩) (.r (.l (.r (.l (.r (.l (.l .e))))))),
  .p (.mv (.t (.r (.l (.r (.l (.r (.l (.l .e))))))))) (.l (.l (.r (.l (.l (.l (.l .e)))))))])
 .ret)
 (.seq (.reg [.p (.bin .eql (.t (.l (.r (.r (.l (.l (.l (.l .e)))))))) (.c (.tc (.sc (.int .u8 4)))) ⟨7, opAt XP 81 8 0⟩) (.r (.r (.r (.l (.r (.l (.l .e))))))),
  .p (.mv (.t (.r (.r (.r (.l (.r (.l (.l .e))))))))) (.l (.r (.r (.l (.r (.l (.l .e)))))))])
 (.cond (.t (.l (.r (.r (.l (.r (.l (.l .e)))))))) (.seq (.reg [.p (.fa 1 (.t (.l (.r (.l (.l (.l (.l (.l .e))))))))) (.l (.l (.l (.r (.r (.l (.l .e))))))),
  .p (.ld false 1 (.t (.l (.l (.l (.r (.r (.l (.l .e))))))))) (.r (.l (.l (.r (.r (.l (.l .e))))))),
  .p (.bin .lss (.t (.r (.l (.l (.r (.r (.l (.l .e)))))))) (.c (.tc (.sc (.int .u8 4)))) ⟨7, opAt XP 81 9 2⟩) (.l (.r (.l (.r (.r (.l (.l .e))))))),
  .p (.mv (.t (.l (.r (.l (.r (.r (.l (.l .e))))))))) (.l (.l (.r (.l (.l (.l (.l .e)))))))])
 .ret)
 (.seq (.reg [.p (.bin .eql (.t (.l (.r (.r (.l (.l (.l (.l .e)))))))) (.c (.tc (.sc (.int .u8 5)))) ⟨7, opAt XP 81 10 0⟩) (.l (.l (.r (.r (.r (.l (.l .e))))))),
  .p (.mv (.t (.l (.l (.r (.r (.r (.l (.l .e))))))))) (.r (.r (.l (.r (.r (.l (.l .e)))))))])
 (.cond (.t (.r (.r (.l (.r (.r (.l (.l .e)))))))) (.seq (.reg [.p (.fa 2 (.t (.l (.r (.l (.l (.l (.l (.l .e))))))))) (.r (.l (.r (.r (.r (.l (.l .e))))))),
  .p (.ld false 1 (.t (.r (.l (.r (.r (.r (.l (.l .e))))))))) (.l (.r (.r (.r (.r (.l (.l .e))))))),
  .p (.bin .lss (.t (.l (.r (.r (.r (.r (.l (.l .e)))))))) (.c (.tc (.sc (.int .u8 32)))) ⟨7, opAt XP 81 11 2⟩) (.r (.r (.r (.r (.r (.l (.l .e))))))),
  .p (.mv (.t (.r (.r (.r (.r (.r (.l (.l .e))))))))) (.l (.l (.r (.l (.l (.l (.l .e)))))))])
 .ret)
 (.seq (.reg [.p (.bin .eql (.t (.l (.r (.r (.l (.l (.l (.l .e)))))))) (.c (.tc (.sc (.int .u8 6)))) ⟨7, opAt XP 81 12 0⟩) (.r (.l (.l (.l (.l (.r (.l .e))))))),
  .p (.mv (.t (.r (.l (.l (.l (.l (.r (.l .e))))))))) (.l (.l (.l (.l (.l (.r (.l .e)))))))])
 (.cond (.t (.l (.l (.l (.l (.l (.r (.l .e)))))))) (.seq (.reg [.p (.fa 3 (.t (.l (.r (.l (.l (.l (.l (.l .e))))))))) (.l (.r (.l (.l (.l (.r (.l .e))))))),
  .p (.ld false 1 (.t (.l (.r (.l (.l (.l (.r (.l .e))))))))) (.r (.r (.l (.l (.l (.r (.l .e))))))),
  .p (.bin .lss (.t (.r (.r (.l (.l (.l (.r (.l .e)))))))) (.c (.tc (.sc (.int .u8 32)))) ⟨7, opAt XP 81 13 2⟩) (.l (.l (.r (.l (.l (.r (.l .e))))))),
  .p (.mv (.t (.l (.l (.r (.l (.l (.r (.l .e))))))))) (.l (.l (.r (.l (.l (.l (.l .e)))))))])
 .ret)
 (.seq (.reg [.p (.bin .eql (.t (.l (.r (.r (.l (.l (.l (.l .e)))))))) (.c (.tc (.sc (.int .u8 7)))) ⟨7, opAt XP 81 14 0⟩) (.l (.r (.r (.l (.l (.r (.l .e))))))),
  .p (.mv (.t (.l (.r (.r (.l (.l (.r (.l .e))))))))) (.r (.l (.r (.l (.l (.r (.l .e)))))))])
 (.cond (.t (.r (.l (.r (.l (.l (.r (.l .e)))))))) (.seq (.reg [.p (.fa 4 (.t (.l (.r (.l (.l (.l (.l (.l .e))))))))) (.r (.r (.r (.l (.l (.r (.l .e))))))),
  .p (.ld false 1 (.t (.r (.r (.r (.l (.l (.r (.l .e))))))))) (.l (.l (.l (.r (.l (.r (.l .e))))))),
  .p (.bin .lss (.t (.l (.l (.l (.r (.l (.r (.l .e)))))))) (.c (.tc (.sc (.int .u8 2)))) ⟨7, opAt XP 81 15 2⟩) (.r (.l (.l (.r (.l (.r (.l .e))))))),
  .p (.mv (.t (.r (.l (.l (.r (.l (.r (.l .e))))))))) (.l (.l (.r (.l (.l (.l (.l .e)))))))])
 .ret)
 (.seq (.reg [.p (.bin .eql (.t (.l (.r (.r (.l (.l (.l (.l .e)))))))) (.c (.tc (.sc (.int .u8 9)))) ⟨7, opAt XP 81 16 0⟩) (.r (.r (.l (.r (.l (.r (.l .e))))))),
  .p (.mv (.t (.r (.r (.l (.r (.l (.r (.l .e))))))))) (.l (.r (.l (.r (.l (.r (.l .e)))))))])
 (.cond (.t (.l (.r (.l (.r (.l (.r (.l .e)))))))) (.seq (.seq (.reg [.p (.fa 8 (.t (.l (.r (.l (.l (.l (.l (.l .e))))))))) (.l (.l (.r (.r (.l (.r (.l .e))))))),
  .p (.ld false 1 (.t (.l (.l (.r (.r (.l (.r (.l .e))))))))) (.r (.l (.r (.r (.l (.r (.l .e)))))))])
 (.cond (.t (.r (.l (.r (.r (.l (.r (.l .e)))))))) (.seq (.reg [.p (.fa 10 (.t (.l (.r (.l (.l (.l (.l (.l .e))))))))) (.l (.r (.r (.r (.l (.r (.l .e))))))),
  .p (.ld false 1 (.t (.l (.r (.r (.r (.l (.r (.l .e))))))))) (.r (.r (.r (.r (.l (.r (.l .e))))))),
  .p (.bin .geq (.t (.r (.r (.r (.r (.l (.r (.l .e)))))))) (.c (.tc (.sc (.int .i64 (-2147483648))))) ⟨7, opAt XP 81 18 2⟩) (.l (.l (.l (.l (.r (.r (.l .e))))))),
  .p (.mv (.t (.l (.l (.l (.l (.r (.r (.l .e))))))))) (.r (.l (.l (.l (.r (.r (.l .e))))))),
  .gp (.t (.r (.l (.l (.l (.r (.r (.l .e)))))))) true (.fa 10 (.t (.l (.r (.l (.l (.l (.l (.l .e))))))))) (.l (.r (.l (.l (.r (.r (.l .e))))))),
  .gp (.t (.r (.l (.l (.l (.r (.r (.l .e)))))))) true (.ld false 1 (.t (.l (.r (.l (.l (.r (.r (.l .e))))))))) (.r (.r (.l (.l (.r (.r (.l .e))))))),
  .gp (.t (.r (.l (.l (.l (.r (.r (.l .e)))))))) true (.bin .leq (.t (.r (.r (.l (.l (.r (.r (.l .e)))))))) (.c (.tc (.sc (.int .i64 2147483647)))) ⟨7, opAt XP 81 18 6⟩) (.l (.l (.r (.l (.r (.r (.l .e))))))),
  .p (.pk (.t (.r (.l (.l (.l (.r (.r (.l .e)))))))) (.t (.l (.l (.r (.l (.r (.r (.l .e)))))))) (.c (.tc (.sc (.bool false))))) (.r (.l (.r (.l (.r (.r (.l .e))))))),
  .p (.mv (.t (.r (.l (.r (.l (.r (.r (.l .e))))))))) (.l (.l (.r (.l (.l (.l (.l .e)))))))])
 .ret)
 .skip))
 (.seq (.reg [.p (.fa 10 (.t (.l (.r (.l (.l (.l (.l (.l .e))))))))) (.l (.r (.r (.l (.r (.r (.l .e))))))),
  .p (.ld false 1 (.t (.l (.r (.r (.l (.r (.r (.l .e))))))))) (.r (.r (.r (.l (.r (.r (.l .e))))))),
  .p (.fa 1 (.t (.r (.r (.l (.l (.l (.l (.l .e))))))))) (.l (.l (.l (.r (.r (.r (.l .e))))))),
  .p (.ld false 1 (.t (.l (.l (.l (.r (.r (.r (.l .e))))))))) (.r (.l (.l (.r (.r (.r (.l .e))))))),
  .p (.fa 2 (.t (.r (.r (.l (.l (.l (.l (.l .e))))))))) (.l (.r (.l (.r (.r (.r (.l .e))))))),
  .p (.ld false 1 (.t (.l (.r (.l (.r (.r (.r (.l .e))))))))) (.r (.r (.l (.r (.r (.r (.l .e))))))),
  .p (.fa 3 (.t (.r (.r (.l (.l (.l (.l (.l .e))))))))) (.l (.l (.r (.r (.r (.r (.l .e))))))),
  .p (.ld false 1 (.t (.l (.l (.r (.r (.r (.r (.l .e))))))))) (.r (.l (.r (.r (.r (.r (.l .e))))))),
  .p (.call 46 [(.t (.r (.r (.r (.l (.r (.r (.l .e)))))))), (.t (.r (.l (.l (.r (.r (.r (.l .e)))))))), (.t (.r (.r (.l (.r (.r (.r (.l .e)))))))), (.t (.r (.l (.r (.r (.r (.r (.l .e))))))))] ⟨7, opAt XP 81 19 8⟩) (.l (.r (.r (.r (.r (.r (.l .e))))))),
  .p (.mv (.t (.l (.r (.r (.r (.r (.r (.l .e))))))))) (.l (.l (.r (.l (.l (.l (.l .e)))))))])
 .ret))
 (.seq (.reg [.p (.bin .eql (.t (.l (.r (.r (.l (.l (.l (.l .e)))))))) (.c (.tc (.sc (.int .u8 10)))) ⟨7, opAt XP 81 20 0⟩) (.l (.l (.l (.l (.l (.l (.r .e))))))),
  .p (.mv (.t (.l (.l (.l (.l (.l (.l (.r .e))))))))) (.r (.r (.r (.r (.r (.r (.l .e)))))))])
 (.cond (.t (.r (.r (.r (.r (.r (.r (.l .e)))))))) (.seq (.reg [.p (.fa 10 (.t (.l (.r (.l (.l (.l (.l (.l .e))))))))) (.r (.l (.l (.l (.l (.l (.r .e))))))),
  .p (.ld false 1 (.t (.r (.l (.l (.l (.l (.l (.r .e))))))))) (.l (.r (.l (.l (.l (.l (.r .e))))))),
  .p (.bin .geq (.t (.l (.r (.l (.l (.l (.l (.r .e)))))))) (.c (.tc (.sc (.int .i64 0)))) ⟨7, opAt XP 81 21 2⟩) (.r (.r (.l (.l (.l (.l (.r .e))))))),
  .p (.mv (.t (.r (.r (.l (.l (.l (.l (.r .e))))))))) (.l (.l (.r (.l (.l (.l (.r .e))))))),
  .gp (.t (.l (.l (.r (.l (.l (.l (.r .e)))))))) true (.fa 10 (.t (.l (.r (.l (.l (.l (.l (.l .e))))))))) (.r (.l (.r (.l (.l (.l (.r .e))))))),
  .gp (.t (.l (.l (.r (.l (.l (.l (.r .e)))))))) true (.ld false 1 (.t (.r (.l (.r (.l (.l (.l (.r .e))))))))) (.l (.r (.r (.l (.l (.l (.r .e))))))),
  .gp (.t (.l (.l (.r (.l (.l (.l (.r .e)))))))) true (.bin .lss (.t (.l (.r (.r (.l (.l (.l (.r .e)))))))) (.c (.tc (.sc (.int .i64 4294967296)))) ⟨7, opAt XP 81 21 6⟩) (.r (.r (.r (.l (.l (.l (.r .e))))))),
  .p (.pk (.t (.l (.l (.r (.l (.l (.l (.r .e)))))))) (.t (.r (.r (.r (.l (.l (.l (.r .e)))))))) (.c (.tc (.sc (.bool false))))) (.l (.l (.l (.r (.l (.l (.r .e))))))),
  .p (.mv (.t (.l (.l (.l (.r (.l (.l (.r .e))))))))) (.r (.l (.l (.r (.l (.l (.r .e))))))),
  .gp (.t (.r (.l (.l (.r (.l (.l (.r .e)))))))) true (.fa 10 (.t (.l (.r (.l (.l (.l (.l (.l .e))))))))) (.l (.r (.l (.r (.l (.l (.r .e))))))),
  .gp (.t (.r (.l (.l (.r (.l (.l (.r .e)))))))) true (.ld false 1 (.t (.l (.r (.l (.r (.l (.l (.r .e))))))))) (.r (.r (.l (.r (.l (.l (.r .e))))))),
  .gp (.t (.r (.l (.l (.r (.l (.l (.r .e)))))))) true (.bin .rem (.t (.r (.r (.l (.r (.l (.l (.r .e)))))))) (.c (.tc (.sc (.int .i64 4)))) ⟨7, opAt XP 81 21 11⟩) (.l (.l (.r (.r (.l (.l (.r .e))))))),
  .gp (.t (.r (.l (.l (.r (.l (.l (.r .e)))))))) true (.bin .eql (.t (.l (.l (.r (.r (.l (.l (.r .e)))))))) (.c (.tc (.sc (.int .i64 0)))) ⟨7, opAt XP 81 21 12⟩) (.r (.l (.r (.r (.l (.l (.r .e))))))),
  .p (.pk (.t (.r (.l (.l (.r (.l (.l (.r .e)))))))) (.t (.r (.l (.r (.r (.l (.l (.r .e)))))))) (.c (.tc (.sc (.bool false))))) (.l (.r (.r (.r (.l (.l (.r .e))))))),
  .p (.mv (.t (.l (.r (.r (.r (.l (.l (.r .e))))))))) (.l (.l (.r (.l (.l (.l (.l .e)))))))])
 .ret)
 (.seq (.reg [.p (.bin .eql (.t (.l (.r (.r (.l (.l (.l (.l .e)))))))) (.c (.tc (.sc (.int .u8 11)))) ⟨7, opAt XP 81 22 0⟩) (.l (.l (.l (.l (.r (.l (.r .e))))))),
  .p (.mv (.t (.l (.l (.l (.l (.r (.l (.r .e))))))))) (.r (.r (.r (.r (.l (.l (.r .e)))))))])
 (.cond (.t (.r (.r (.r (.r (.l (.l (.r .e)))))))) (.seq (.reg [.p (.fa 9 (.t (.l (.r (.l (.l (.l (.l (.l .e))))))))) (.r (.l (.l (.l (.r (.l (.r .e))))))),
  .p (.ld false 1 (.t (.r (.l (.l (.l (.r (.l (.r .e))))))))) (.l (.r (.l (.l (.r (.l (.r .e))))))),
  .p (.bin .lss (.t (.l (.r (.l (.l (.r (.l (.r .e)))))))) (.c (.tc (.sc (.int .u16 2048)))) ⟨7, opAt XP 81 23 2⟩) (.r (.r (.l (.l (.r (.l (.r .e))))))),
  .p (.mv (.t (.r (.r (.l (.l (.r (.l (.r .e))))))))) (.l (.l (.r (.l (.l (.l (.l .e)))))))])
 .ret)
 .skip))))))))))))))))))))))
 (.seq (.reg [.p (.mv (.c (.tc (.sc (.bool true))))) (.l (.l (.r (.l (.l (.l (.l .e)))))))])
 .ret)))
 [.tmp (.t (.l (.l (.r (.l (.l (.l (.l .e))))))))]
theorem ff81_ok : compF SBase 81 = ff81 := by kernel_rfl
noncomputable def ff46 : FF := .mk 4 [(.l (.l (.l (.l (.l (.l .e)))))), (.r (.l (.l (.l (.l (.l .e)))))), (.l (.r (.l (.l (.l (.l .e)))))), (.r (.r (.l (.l (.l (.l .e))))))] (encF 6 fun _ => undefA)
 (.seq (.reg [.p (.mv (.c (.tc (.sc (.bool false))))) (.l (.l (.l (.r (.l (.l .e))))))])
 (.seq (.seq (.reg [.p (.mv (.t (.r (.l (.l (.l (.l (.l .e)))))))) (.r (.l (.l (.r (.l (.l .e)))))),
  .p (.bin .lss (.t (.r (.l (.l (.r (.l (.l .e))))))) (.c (.tc (.sc (.int .i64 1)))) ⟨6, opAt XP 46 1 1⟩) (.l (.r (.l (.r (.l (.l .e)))))),
  .p (.mv (.t (.l (.r (.l (.r (.l (.l .e)))))))) (.r (.r (.l (.r (.l (.l .e)))))),
  .gp (.t (.r (.r (.l (.r (.l (.l .e))))))) false (.mv (.t (.r (.l (.l (.l (.l (.l .e)))))))) (.l (.l (.r (.r (.l (.l .e)))))),
  .gp (.t (.r (.r (.l (.r (.l (.l .e))))))) false (.bin .gtr (.t (.l (.l (.r (.r (.l (.l .e))))))) (.c (.tc (.sc (.int .i64 32)))) ⟨6, opAt XP 46 1 4⟩) (.r (.l (.r (.r (.l (.l .e)))))),
  .p (.pk (.t (.r (.r (.l (.r (.l (.l .e))))))) (.c (.tc (.sc (.bool true)))) (.t (.r (.l (.r (.r (.l (.l .e)))))))) (.l (.r (.r (.r (.l (.l .e)))))),
  .p (.mv (.t (.l (.r (.r (.r (.l (.l .e)))))))) (.r (.r (.r (.r (.l (.l .e)))))),
  .gp (.t (.r (.r (.r (.r (.l (.l .e))))))) false (.mv (.t (.l (.r (.l (.l (.l (.l .e)))))))) (.l (.l (.l (.l (.r (.l .e)))))),
  .gp (.t (.r (.r (.r (.r (.l (.l .e))))))) false (.bin .lss (.t (.l (.l (.l (.l (.r (.l .e))))))) (.c (.tc (.sc (.int .i64 0)))) ⟨6, opAt XP 46 1 8⟩) (.r (.l (.l (.l (.r (.l .e)))))),
  .p (.pk (.t (.r (.r (.r (.r (.l (.l .e))))))) (.c (.tc (.sc (.bool true)))) (.t (.r (.l (.l (.l (.r (.l .e)))))))) (.l (.r (.l (.l (.r (.l .e)))))),
  .p (.mv (.t (.l (.r (.l (.l (.r (.l .e)))))))) (.r (.r (.l (.l (.r (.l .e)))))),
  .gp (.t (.r (.r (.l (.l (.r (.l .e))))))) false (.mv (.t (.l (.r (.l (.l (.l (.l .e)))))))) (.l (.l (.r (.l (.r (.l .e)))))),
  .gp (.t (.r (.r (.l (.l (.r (.l .e))))))) false (.bin .gtr (.t (.l (.l (.r (.l (.r (.l .e))))))) (.c (.tc (.sc (.int .i64 8)))) ⟨6, opAt XP 46 1 12⟩) (.r (.l (.r (.l (.r (.l .e)))))),
  .p (.pk (.t (.r (.r (.l (.l (.r (.l .e))))))) (.c (.tc (.sc (.bool true)))) (.t (.r (.l (.r (.l (.r (.l .e)))))))) (.l (.r (.r (.l (.r (.l .e)))))),
  .p (.mv (.t (.l (.r (.r (.l (.r (.l .e)))))))) (.r (.r (.r (.l (.r (.l .e)))))),
  .gp (.t (.r (.r (.r (.l (.r (.l .e))))))) false (.mv (.t (.l (.l (.l (.l (.l (.l .e)))))))) (.l (.l (.l (.r (.r (.l .e)))))),
  .gp (.t (.r (.r (.r (.l (.r (.l .e))))))) false (.mv (.t (.l (.r (.l (.l (.l (.l .e)))))))) (.r (.l (.l (.r (.r (.l .e)))))),
  .gp (.t (.r (.r (.r (.l (.r (.l .e))))))) false (.bin .shl (.c (.tc (.sc (.int .i64 1)))) (.t (.r (.l (.l (.r (.r (.l .e))))))) ⟨6, opAt XP 46 1 17⟩) (.l (.r (.l (.r (.r (.l .e)))))),
  .gp (.t (.r (.r (.r (.l (.r (.l .e))))))) false (.bin .sub (.t (.l (.r (.l (.r (.r (.l .e))))))) (.c (.tc (.sc (.int .i64 1)))) ⟨6, opAt XP 46 1 18⟩) (.r (.r (.l (.r (.r (.l .e)))))),
  .gp (.t (.r (.r (.r (.l (.r (.l .e))))))) false (.bin .and (.t (.l (.l (.l (.r (.r (.l .e))))))) (.t (.r (.r (.l (.r (.r (.l .e))))))) ⟨6, opAt XP 46 1 19⟩) (.l (.l (.r (.r (.r (.l .e)))))),
  .gp (.t (.r (.r (.r (.l (.r (.l .e))))))) false (.bin .neq (.t (.l (.l (.r (.r (.r (.l .e))))))) (.c (.tc (.sc (.int .i64 0)))) ⟨6, opAt XP 46 1 20⟩) (.r (.l (.r (.r (.r (.l .e)))))),
  .p (.pk (.t (.r (.r (.r (.l (.r (.l .e))))))) (.c (.tc (.sc (.bool true)))) (.t (.r (.l (.r (.r (.r (.l .e)))))))) (.l (.r (.r (.r (.r (.l .e))))))])
 (.cond (.t (.l (.r (.r (.r (.r (.l .e))))))) (.seq (.reg [.p (.mv (.c (.tc (.sc (.bool false))))) (.l (.l (.l (.r (.l (.l .e))))))])
 .ret)
 .skip))
 (.seq (.reg [.p (.mv (.t (.l (.l (.l (.l (.l (.l .e)))))))) (.r (.r (.r (.r (.r (.l .e)))))),
  .p (.mv (.t (.l (.r (.l (.l (.l (.l .e)))))))) (.l (.l (.l (.l (.l (.r .e)))))),
  .p (.bin .shr (.t (.r (.r (.r (.r (.r (.l .e))))))) (.t (.l (.l (.l (.l (.l (.r .e))))))) ⟨6, opAt XP 46 3 2⟩) (.r (.l (.l (.l (.l (.r .e)))))),
  .p (.mv (.t (.r (.l (.l (.l (.l (.r .e)))))))) (.l (.l (.l (.l (.l (.l .e))))))])
 (.seq (.seq (.reg [.p (.mv (.t (.r (.r (.l (.l (.l (.l .e)))))))) (.l (.r (.l (.l (.l (.r .e))))))])
 (.cond (.t (.l (.r (.l (.l (.l (.r .e))))))) (.reg [.p (.mv (.t (.l (.l (.l (.l (.l (.l .e)))))))) (.r (.r (.l (.l (.l (.r .e)))))),
  .p (.mv (.t (.r (.l (.l (.l (.l (.l .e)))))))) (.l (.l (.r (.l (.l (.r .e)))))),
  .p (.bin .sub (.t (.l (.l (.r (.l (.l (.r .e))))))) (.c (.tc (.sc (.int .i64 1)))) ⟨6, opAt XP 46 5 2⟩) (.r (.l (.r (.l (.l (.r .e)))))),
  .p (.bin .shl (.c (.tc (.sc (.int .i64 1)))) (.t (.r (.l (.r (.l (.l (.r .e))))))) ⟨6, opAt XP 46 5 3⟩) (.l (.r (.r (.l (.l (.r .e)))))),
  .p (.bin .add (.t (.r (.r (.l (.l (.l (.r .e))))))) (.t (.l (.r (.r (.l (.l (.r .e))))))) ⟨6, opAt XP 46 5 4⟩) (.r (.r (.r (.l (.l (.r .e)))))),
  .p (.mv (.t (.r (.r (.r (.l (.l (.r .e)))))))) (.l (.l (.l (.l (.l (.l .e))))))])
 .skip))
 (.seq (.reg [.p (.mv (.t (.l (.l (.l (.l (.l (.l .e)))))))) (.l (.l (.l (.r (.l (.r .e)))))),
  .p (.bin .geq (.t (.l (.l (.l (.r (.l (.r .e))))))) (.c (.tc (.sc (.int .i64 0)))) ⟨6, opAt XP 46 6 1⟩) (.r (.l (.l (.r (.l (.r .e)))))),
  .p (.mv (.t (.r (.l (.l (.r (.l (.r .e)))))))) (.l (.r (.l (.r (.l (.r .e)))))),
  .gp (.t (.l (.r (.l (.r (.l (.r .e))))))) true (.mv (.t (.l (.l (.l (.l (.l (.l .e)))))))) (.r (.r (.l (.r (.l (.r .e)))))),
  .gp (.t (.l (.r (.l (.r (.l (.r .e))))))) true (.mv (.t (.r (.l (.l (.l (.l (.l .e)))))))) (.l (.l (.r (.r (.l (.r .e)))))),
  .gp (.t (.l (.r (.l (.r (.l (.r .e))))))) true (.bin .shl (.c (.tc (.sc (.int .i64 1)))) (.t (.l (.l (.r (.r (.l (.r .e))))))) ⟨6, opAt XP 46 6 5⟩) (.r (.l (.r (.r (.l (.r .e)))))),
  .gp (.t (.l (.r (.l (.r (.l (.r .e))))))) true (.bin .lss (.t (.r (.r (.l (.r (.l (.r .e))))))) (.t (.r (.l (.r (.r (.l (.r .e))))))) ⟨6, opAt XP 46 6 6⟩) (.l (.r (.r (.r (.l (.r .e)))))),
  .p (.pk (.t (.l (.r (.l (.r (.l (.r .e))))))) (.t (.l (.r (.r (.r (.l (.r .e))))))) (.c (.tc (.sc (.bool false))))) (.r (.r (.r (.r (.l (.r .e)))))),
  .p (.mv (.t (.r (.r (.r (.r (.l (.r .e)))))))) (.l (.l (.l (.r (.l (.l .e))))))])
 .ret)))))
 [.tmp (.t (.l (.l (.l (.r (.l (.l .e)))))))]
theorem ff46_ok : compF SBase 46 = ff46 := by kernel_rfl
noncomputable def ff82 : FF := .mk 1 [(.l (.l (.l .e)))] (encF 3 fun _ => undefA)
 (.seq (.reg [.p (.bx 11 (.t (.l (.l (.l .e)))) ⟨3, opAt XP 82 0 0⟩) (.r (.l (.l .e))),
  .p (.mv (.c (.tc (.sc (.bool false))))) (.l (.r (.l .e)))])
 (.seq (.reg [.p (.ld true 11 (.t (.r (.l (.l .e))))) (.r (.r (.l .e))),
  .p (.call 104 [(.t (.r (.r (.l .e)))), (.c (.tc (.sc (.int .u8 1))))] ⟨3, opAt XP 82 1 1⟩) (.l (.l (.r .e))),
  .p (.mv (.t (.l (.l (.r .e))))) (.l (.r (.l .e)))])
 .ret))
 [.tmp (.t (.l (.r (.l .e))))]
theorem ff82_ok : compF SBase 82 = ff82 := by kernel_rfl
noncomputable def ff104 : FF := .mk 2 [(.l (.l (.l (.l (.l .e))))), (.r (.l (.l (.l (.l .e)))))] (encF 5 fun _ => undefA)
 (.seq (.reg [.p (.bx 11 (.t (.l (.l (.l (.l (.l .e)))))) ⟨5, opAt XP 104 0 0⟩) (.l (.r (.l (.l (.l .e))))),
  .p (.mv (.c (.tc (.sc (.bool false))))) (.l (.l (.r (.l (.l .e)))))])
 (.seq (.reg [.p (.fa 0 (.t (.l (.r (.l (.l (.l .e))))))) (.r (.l (.l (.r (.l .e))))),
  .p (.ld false 1 (.t (.r (.l (.l (.r (.l .e))))))) (.l (.r (.l (.r (.l .e))))),
  .p (.mv (.t (.r (.l (.l (.l (.l .e))))))) (.r (.r (.l (.r (.l .e))))),
  .p (.call 73 [(.t (.l (.r (.l (.r (.l .e)))))), (.t (.r (.r (.l (.r (.l .e))))))] ⟨5, opAt XP 104 1 3⟩) (.l (.l (.r (.r (.l .e))))),
  .p (.mv (.t (.l (.l (.r (.r (.l .e))))))) (.l (.l (.l (.r (.l .e))))),
  .p (.ex (.t (.l (.l (.l (.r (.l .e)))))) 0) (.r (.l (.r (.r (.l .e))))),
  .p (.ex (.t (.l (.l (.l (.r (.l .e)))))) 1) (.l (.r (.r (.r (.l .e))))),
  .p (.ex (.t (.l (.l (.l (.r (.l .e)))))) 2) (.r (.r (.r (.r (.l .e))))),
  .p (.al 5 [(.sc (.int .u8 0)), (.sc (.int .i64 0)), (.sc (.int .i64 0)), (.sc (.bool false)), (.sc (.bool false))]) (.r (.l (.r (.l (.l .e))))),
  .n (.st 5 (.t (.r (.l (.r (.l (.l .e)))))) (.t (.r (.l (.r (.r (.l .e)))))) ⟨5, opAt XP 104 1 9⟩),
  .p (.mv (.t (.l (.r (.r (.r (.l .e))))))) (.l (.r (.r (.l (.l .e))))),
  .p (.mv (.t (.r (.r (.r (.r (.l .e))))))) (.r (.r (.r (.l (.l .e)))))])
 (.seq (.reg [.p (.mv (.t (.r (.r (.r (.l (.l .e))))))) (.l (.l (.l (.l (.r .e))))),
  .p (.mv (.t (.l (.l (.l (.l (.r .e))))))) (.l (.l (.r (.l (.l .e)))))])
 .ret)))
 [.tmp (.t (.l (.l (.r (.l (.l .e))))))]
theorem ff104_ok : compF SBase 104 = ff104 := by kernel_rfl
noncomputable def ff73 : FF := .mk 2 [(.l (.l (.l (.l (.l (.l .e)))))), (.r (.l (.l (.l (.l (.l .e))))))] (encF 6 fun _ => undefA)
 (.seq (.reg [.p (.al 5 [(.sc (.int .u8 0)), (.sc (.int .i64 0)), (.sc (.int .i64 0)), (.sc (.bool false)), (.sc (.bool false))]) (.l (.l (.r (.l (.l (.l .e)))))),
  .p (.mv (.c (.tc (.sc (.int .i64 0))))) (.r (.l (.r (.l (.l (.l .e)))))),
  .p (.mv (.c (.tc (.sc (.bool false))))) (.l (.r (.r (.l (.l (.l .e))))))])
 (.seq (.reg [.p (.mv (.t (.l (.l (.l (.l (.l (.l .e)))))))) (.l (.l (.r (.r (.l (.l .e)))))),
  .p (.call 100 [(.t (.l (.l (.r (.r (.l (.l .e)))))))] ⟨6, opAt XP 73 1 1⟩) (.r (.l (.r (.r (.l (.l .e)))))),
  .p (.mv (.t (.r (.l (.r (.r (.l (.l .e)))))))) (.r (.r (.l (.r (.l (.l .e)))))),
  .p (.ex (.t (.r (.r (.l (.r (.l (.l .e))))))) 0) (.l (.r (.r (.r (.l (.l .e)))))),
  .p (.ex (.t (.r (.r (.l (.r (.l (.l .e))))))) 1) (.r (.r (.r (.r (.l (.l .e)))))),
  .p (.al 5 [(.sc (.int .u8 0)), (.sc (.string ⟨#[]⟩)), (.sc (.int .u8 0)), (.sc (.int .u8 0)), (.sc (.slice none 0 0))]) (.r (.r (.r (.l (.l (.l .e)))))),
  .n (.st 5 (.t (.r (.r (.r (.l (.l (.l .e))))))) (.t (.l (.r (.r (.r (.l (.l .e))))))) ⟨6, opAt XP 73 1 6⟩),
  .p (.mv (.t (.r (.r (.r (.r (.l (.l .e)))))))) (.l (.l (.l (.r (.l (.l .e))))))])
 (.seq (.reg [.p (.mv (.c (.tc (.sc (.int .i64 24))))) (.r (.l (.r (.l (.l (.l .e))))))])
 (.seq (.seq (.reg [.p (.fa 4 (.t (.r (.r (.r (.l (.l (.l .e)))))))) (.l (.l (.l (.l (.r (.l .e)))))),
  .p (.ld false 1 (.t (.l (.l (.l (.l (.r (.l .e)))))))) (.r (.l (.l (.l (.r (.l .e)))))),
  .p (.len (.t (.r (.l (.l (.l (.r (.l .e))))))) ⟨6, opAt XP 73 3 2⟩) (.l (.r (.l (.l (.r (.l .e)))))),
  .p (.mv (.c (.tc (.sc (.int .i64 0))))) (.r (.r (.l (.l (.r (.l .e))))))])
 (.block 0 (.loop 4294967296 (.seq (.reg [.p (.bin .lss (.t (.r (.r (.l (.l (.r (.l .e))))))) (.t (.l (.r (.l (.l (.r (.l .e))))))) ⟨6, opAt XP 73 4 0⟩) (.l (.l (.r (.l (.r (.l .e))))))])
 (.seq (.cond (.t (.l (.l (.r (.l (.r (.l .e))))))) .skip
 (.exit 0))
 (.seq (.block 1 (.seq (.reg [.p (.ia 5 (.t (.r (.l (.l (.l (.r (.l .e))))))) (.t (.r (.r (.l (.l (.r (.l .e))))))) ⟨6, opAt XP 73 5 0⟩) (.r (.l (.r (.l (.r (.l .e)))))),
  .p (.ld true 5 (.t (.r (.l (.r (.l (.r (.l .e)))))))) (.l (.r (.r (.l (.r (.l .e)))))),
  .p (.al 5 [(.sc (.int .u8 0)), (.sc (.int .i64 0)), (.sc (.int .i64 0)), (.sc (.bool false)), (.sc (.bool false))]) (.l (.r (.l (.r (.l (.l .e)))))),
  .n (.st 5 (.t (.l (.r (.l (.r (.l (.l .e))))))) (.t (.l (.r (.r (.l (.r (.l .e))))))) ⟨6, opAt XP 73 5 3⟩)])
 (.seq (.reg [.p (.mv (.t (.r (.l (.r (.l (.l (.l .e)))))))) (.r (.r (.r (.l (.r (.l .e)))))),
  .p (.fa 1 (.t (.l (.r (.l (.r (.l (.l .e)))))))) (.l (.l (.l (.r (.r (.l .e)))))),
  .p (.ld false 1 (.t (.l (.l (.l (.r (.r (.l .e)))))))) (.r (.l (.l (.r (.r (.l .e)))))),
  .p (.bin .sub (.t (.r (.r (.r (.l (.r (.l .e))))))) (.t (.r (.l (.l (.r (.r (.l .e))))))) ⟨6, opAt XP 73 6 3⟩) (.l (.r (.l (.r (.r (.l .e)))))),
  .p (.mv (.t (.l (.r (.l (.r (.r (.l .e)))))))) (.r (.l (.r (.l (.l (.l .e))))))])
 (.seq (.reg [.p (.fa 0 (.t (.l (.r (.l (.r (.l (.l .e)))))))) (.r (.r (.l (.r (.r (.l .e)))))),
  .p (.ld false 1 (.t (.r (.r (.l (.r (.r (.l .e)))))))) (.l (.l (.r (.r (.r (.l .e)))))),
  .p (.mv (.t (.r (.l (.l (.l (.l (.l .e)))))))) (.r (.l (.r (.r (.r (.l .e)))))),
  .p (.bin .eql (.t (.l (.l (.r (.r (.r (.l .e))))))) (.t (.r (.l (.r (.r (.r (.l .e))))))) ⟨6, opAt XP 73 7 3⟩) (.l (.r (.r (.r (.r (.l .e))))))])
 (.cond (.t (.l (.r (.r (.r (.r (.l .e))))))) (.seq (.reg [.p (.ld true 5 (.t (.l (.r (.l (.r (.l (.l .e)))))))) (.r (.r (.r (.r (.r (.l .e)))))),
  .p (.mv (.t (.r (.l (.r (.l (.l (.l .e)))))))) (.l (.l (.l (.l (.l (.r .e)))))),
  .n (.st 5 (.t (.l (.l (.r (.l (.l (.l .e))))))) (.t (.r (.r (.r (.r (.r (.l .e))))))) ⟨6, opAt XP 73 8 2⟩),
  .p (.mv (.t (.l (.l (.l (.l (.l (.r .e)))))))) (.r (.l (.r (.l (.l (.l .e)))))),
  .p (.mv (.c (.tc (.sc (.bool true))))) (.l (.r (.r (.l (.l (.l .e))))))])
 .ret)
 .skip)))))
 (.reg [.p (.bin .add (.t (.r (.r (.l (.l (.r (.l .e))))))) (.c (.tc (.sc (.int .i64 1)))) ⟨6, opAt XP 73 9 0⟩) (.r (.l (.l (.l (.l (.r .e)))))),
  .p (.mv (.t (.r (.l (.l (.l (.l (.r .e)))))))) (.r (.r (.l (.l (.r (.l .e))))))])))))))
 (.seq (.reg [.p (.bd [(.tc (.sc (.int .u8 0))), (.tc (.sc (.int .i64 0))), (.tc (.sc (.int .i64 0))), (.tc (.sc (.bool false))), (.tc (.sc (.bool false)))] [] ⟨6, opAt XP 73 10 0⟩) (.l (.r (.l (.l (.l (.r .e)))))),
  .n (.st 5 (.t (.l (.l (.r (.l (.l (.l .e))))))) (.t (.l (.r (.l (.l (.l (.r .e))))))) ⟨6, opAt XP 73 10 1⟩),
  .p (.mv (.c (.tc (.sc (.int .i64 0))))) (.r (.l (.r (.l (.l (.l .e)))))),
  .p (.mv (.c (.tc (.sc (.bool false))))) (.l (.r (.r (.l (.l (.l .e))))))])
 .ret)))))
 [.cell (.t (.l (.l (.r (.l (.l (.l .e))))))) true 5, .tmp (.t (.r (.l (.r (.l (.l (.l .e))))))), .tmp (.t (.l (.r (.r (.l (.l (.l .e)))))))]
theorem ff73_ok : compF SBase 73 = ff73 := by kernel_rfl
noncomputable def ff52 : FF := .mk 1 [(.l (.l (.l (.l (.l .e)))))] (encF 5 fun _ => undefA)
 (.seq (.reg [.p (.mv (.c (.tc (.sc (.bool false))))) (.l (.r (.l (.l (.l .e)))))])
 (.seq (.seq (.reg [.p (.mv (.t (.l (.l (.l (.l (.l .e))))))) (.r (.l (.r (.l (.l .e))))),
  .p (.len (.t (.r (.l (.r (.l (.l .e)))))) ⟨5, opAt XP 52 1 1⟩) (.l (.r (.r (.l (.l .e))))),
  .p (.mv (.c (.tc (.sc (.int .i64 0))))) (.r (.r (.r (.l (.l .e)))))])
 (.block 0 (.loop 4294967296 (.seq (.reg [.p (.bin .lss (.t (.r (.r (.r (.l (.l .e)))))) (.t (.l (.r (.r (.l (.l .e)))))) ⟨5, opAt XP 52 2 0⟩) (.l (.l (.l (.r (.l .e)))))])
 (.seq (.cond (.t (.l (.l (.l (.r (.l .e)))))) .skip
 (.exit 0))
 (.seq (.block 1 (.seq (.reg [.p (.mv (.t (.r (.r (.r (.l (.l .e))))))) (.r (.l (.l (.r (.l .e))))),
  .p (.ia 11 (.t (.r (.l (.r (.l (.l .e)))))) (.t (.r (.r (.r (.l (.l .e)))))) ⟨5, opAt XP 52 3 1⟩) (.l (.r (.l (.r (.l .e))))),
  .p (.ld true 11 (.t (.l (.r (.l (.r (.l .e))))))) (.r (.r (.l (.r (.l .e))))),
  .p (.al 11 [(.sc (.int .u8 0)), (.sc (.int .u8 0)), (.sc (.int .u8 0)), (.sc (.int .u8 0)), (.sc (.int .u8 0)), (.sc (.int .u8 0)), (.sc (.int .u8 0)), (.sc (.bool false)), (.sc (.bool false)), (.sc (.int .u16 0)), (.sc (.int .i64 0))]) (.l (.l (.r (.l (.l .e))))),
  .p (.mv (.t (.r (.l (.l (.r (.l .e))))))) (.r (.r (.l (.l (.l .e))))),
  .n (.st 11 (.t (.l (.l (.r (.l (.l .e)))))) (.t (.r (.r (.l (.r (.l .e)))))) ⟨5, opAt XP 52 3 5⟩)])
 (.seq (.reg [.p (.mv (.t (.l (.l (.l (.l (.l .e))))))) (.l (.l (.r (.r (.l .e))))),
  .p (.mv (.t (.r (.r (.l (.l (.l .e))))))) (.r (.l (.r (.r (.l .e))))),
  .p (.bin .add (.t (.r (.l (.r (.r (.l .e)))))) (.c (.tc (.sc (.int .i64 1)))) ⟨5, opAt XP 52 4 2⟩) (.l (.r (.r (.r (.l .e))))),
  .p (.sl 11 (.t (.l (.l (.r (.r (.l .e)))))) (some (.t (.l (.r (.r (.r (.l .e))))))) none none ⟨5, opAt XP 52 4 3⟩) (.r (.r (.r (.r (.l .e))))),
  .p (.mf (.func 83) [] [(.t (.l (.l (.r (.l (.l .e))))))]) (.l (.l (.l (.l (.r .e))))),
  .p (.call 49 [(.t (.r (.r (.r (.r (.l .e)))))), (.t (.l (.l (.l (.l (.r .e))))))] ⟨5, opAt XP 52 4 5⟩) (.r (.l (.l (.l (.r .e)))))])
 (.cond (.t (.r (.l (.l (.l (.r .e)))))) (.seq (.reg [.p (.mv (.c (.tc (.sc (.bool true))))) (.l (.r (.l (.l (.l .e)))))])
 .ret)
 .skip))))
 (.reg [.p (.bin .add (.t (.r (.r (.r (.l (.l .e)))))) (.c (.tc (.sc (.int .i64 1)))) ⟨5, opAt XP 52 6 0⟩) (.l (.r (.l (.l (.r .e))))),
  .p (.mv (.t (.l (.r (.l (.l (.r .e))))))) (.r (.r (.r (.l (.l .e)))))])))))))
 (.seq (.reg [.p (.mv (.c (.tc (.sc (.bool false))))) (.l (.r (.l (.l (.l .e)))))])
 .ret)))
 [.tmp (.t (.l (.r (.l (.l (.l .e))))))]
theorem ff52_ok : compF SBase 52 = ff52 := by kernel_rfl
noncomputable def ff83 : FF := .mk 2 [(.l (.l (.l .e))), (.r (.l (.l .e)))] (encF 3 fun _ => undefA)
 (.seq (.reg [.p (.bx 11 (.t (.l (.l (.l .e)))) ⟨3, opAt XP 83 0 0⟩) (.l (.r (.l .e))),
  .p (.mv (.c (.tc (.sc (.bool false))))) (.r (.r (.l .e)))])
 (.seq (.reg [.p (.ld true 11 (.t (.r (.l (.l .e))))) (.l (.l (.r .e))),
  .p (.ld true 11 (.t (.l (.r (.l .e))))) (.r (.l (.r .e))),
  .p (.call 55 [(.t (.l (.l (.r .e)))), (.t (.r (.l (.r .e))))] ⟨3, opAt XP 83 1 2⟩) (.l (.r (.r .e))),
  .p (.mv (.t (.l (.r (.r .e))))) (.r (.r (.l .e)))])
 .ret))
 [.tmp (.t (.r (.r (.l .e))))]
theorem ff83_ok : compF SBase 83 = ff83 := by kernel_rfl
noncomputable def ff55 : FF := .mk 2 [(.l (.l (.l (.l (.l (.l .e)))))), (.r (.l (.l (.l (.l (.l .e))))))] (encF 6 fun _ => undefA)
 (.seq (.reg [.p (.bx 11 (.t (.l (.l (.l (.l (.l (.l .e))))))) ⟨6, opAt XP 55 0 0⟩) (.l (.r (.l (.l (.l (.l .e)))))),
  .p (.bx 11 (.t (.r (.l (.l (.l (.l (.l .e))))))) ⟨6, opAt XP 55 0 1⟩) (.r (.r (.l (.l (.l (.l .e)))))),
  .p (.mv (.c (.tc (.sc (.bool false))))) (.l (.l (.r (.l (.l (.l .e))))))])
 (.seq (.reg [.p (.ld true 11 (.t (.l (.r (.l (.l (.l (.l .e)))))))) (.l (.l (.r (.r (.l (.l .e)))))),
  .p (.call 87 [(.t (.l (.l (.r (.r (.l (.l .e)))))))] ⟨6, opAt XP 55 1 1⟩) (.r (.l (.r (.r (.l (.l .e)))))),
  .p (.mv (.t (.r (.l (.r (.r (.l (.l .e)))))))) (.r (.r (.l (.r (.l (.l .e)))))),
  .p (.ex (.t (.r (.r (.l (.r (.l (.l .e))))))) 0) (.l (.r (.r (.r (.l (.l .e)))))),
  .p (.ex (.t (.r (.r (.l (.r (.l (.l .e))))))) 1) (.r (.r (.r (.r (.l (.l .e)))))),
  .p (.mv (.t (.l (.r (.r (.r (.l (.l .e)))))))) (.r (.l (.r (.l (.l (.l .e)))))),
  .p (.mv (.t (.r (.r (.r (.r (.l (.l .e)))))))) (.l (.r (.r (.l (.l (.l .e))))))])
 (.seq (.reg [.p (.ld true 11 (.t (.r (.r (.l (.l (.l (.l .e)))))))) (.r (.l (.l (.l (.r (.l .e)))))),
  .p (.call 87 [(.t (.r (.l (.l (.l (.r (.l .e)))))))] ⟨6, opAt XP 55 2 1⟩) (.l (.r (.l (.l (.r (.l .e)))))),
  .p (.mv (.t (.l (.r (.l (.l (.r (.l .e)))))))) (.l (.l (.l (.l (.r (.l .e)))))),
  .p (.ex (.t (.l (.l (.l (.l (.r (.l .e))))))) 0) (.r (.r (.l (.l (.r (.l .e)))))),
  .p (.ex (.t (.l (.l (.l (.l (.r (.l .e))))))) 1) (.l (.l (.r (.l (.r (.l .e)))))),
  .p (.mv (.t (.r (.r (.l (.l (.r (.l .e)))))))) (.r (.r (.r (.l (.l (.l .e)))))),
  .p (.mv (.t (.l (.l (.r (.l (.r (.l .e)))))))) (.l (.l (.l (.r (.l (.l .e))))))])
 (.seq (.seq (.reg [.p (.mv (.t (.l (.r (.r (.l (.l (.l .e)))))))) (.r (.l (.r (.l (.r (.l .e)))))),
  .p (.mv (.t (.r (.l (.r (.l (.r (.l .e)))))))) (.l (.r (.r (.l (.r (.l .e)))))),
  .gp (.t (.l (.r (.r (.l (.r (.l .e))))))) true (.mv (.t (.l (.l (.l (.r (.l (.l .e)))))))) (.r (.r (.r (.l (.r (.l .e)))))),
  .p (.pk (.t (.l (.r (.r (.l (.r (.l .e))))))) (.t (.r (.r (.r (.l (.r (.l .e))))))) (.c (.tc (.sc (.bool false))))) (.l (.l (.l (.r (.r (.l .e)))))),
  .p (.mv (.t (.l (.l (.l (.r (.r (.l .e)))))))) (.r (.l (.l (.r (.r (.l .e)))))),
  .gp (.t (.r (.l (.l (.r (.r (.l .e))))))) true (.mv (.t (.r (.l (.r (.l (.l (.l .e)))))))) (.l (.r (.l (.r (.r (.l .e)))))),
  .gp (.t (.r (.l (.l (.r (.r (.l .e))))))) true (.mv (.t (.r (.r (.r (.l (.l (.l .e)))))))) (.r (.r (.l (.r (.r (.l .e)))))),
  .gp (.t (.r (.l (.l (.r (.r (.l .e))))))) true (.bin .eql (.t (.l (.r (.l (.r (.r (.l .e))))))) (.t (.r (.r (.l (.r (.r (.l .e))))))) ⟨6, opAt XP 55 3 7⟩) (.l (.l (.r (.r (.r (.l .e)))))),
  .p (.pk (.t (.r (.l (.l (.r (.r (.l .e))))))) (.t (.l (.l (.r (.r (.r (.l .e))))))) (.c (.tc (.sc (.bool false))))) (.r (.l (.r (.r (.r (.l .e))))))])
 (.cond (.t (.r (.l (.r (.r (.r (.l .e))))))) (.seq (.reg [.p (.ld true 11 (.t (.l (.r (.l (.l (.l (.l .e)))))))) (.l (.r (.r (.r (.r (.l .e)))))),
  .p (.ld true 11 (.t (.r (.r (.l (.l (.l (.l .e)))))))) (.r (.r (.r (.r (.r (.l .e)))))),
  .p (.call 88 [(.t (.l (.r (.r (.r (.r (.l .e))))))), (.t (.r (.r (.r (.r (.r (.l .e)))))))] ⟨6, opAt XP 55 4 2⟩) (.l (.l (.l (.l (.l (.r .e)))))),
  .p (.nt (.t (.l (.l (.l (.l (.l (.r .e))))))) ⟨6, opAt XP 55 4 3⟩) (.r (.l (.l (.l (.l (.r .e)))))),
  .p (.mv (.t (.r (.l (.l (.l (.l (.r .e)))))))) (.l (.l (.r (.l (.l (.l .e))))))])
 .ret)
 .skip))
 (.seq (.reg [.p (.ld true 11 (.t (.l (.r (.l (.l (.l (.l .e)))))))) (.r (.r (.l (.l (.l (.r .e)))))),
  .p (.call 86 [(.t (.r (.r (.l (.l (.l (.r .e)))))))] ⟨6, opAt XP 55 5 1⟩) (.l (.l (.r (.l (.l (.r .e)))))),
  .p (.mv (.t (.l (.l (.r (.l (.l (.r .e)))))))) (.l (.r (.l (.l (.l (.r .e)))))),
  .p (.ex (.t (.l (.r (.l (.l (.l (.r .e))))))) 0) (.r (.l (.r (.l (.l (.r .e)))))),
  .p (.ex (.t (.l (.r (.l (.l (.l (.r .e))))))) 1) (.l (.r (.r (.l (.l (.r .e)))))),
  .p (.mv (.t (.r (.l (.r (.l (.l (.r .e)))))))) (.r (.l (.l (.r (.l (.l .e)))))),
  .p (.mv (.t (.l (.r (.r (.l (.l (.r .e)))))))) (.l (.r (.r (.l (.l (.l .e))))))])
 (.seq (.reg [.p (.ld true 11 (.t (.r (.r (.l (.l (.l (.l .e)))))))) (.l (.l (.l (.r (.l (.r .e)))))),
  .p (.call 86 [(.t (.l (.l (.l (.r (.l (.r .e)))))))] ⟨6, opAt XP 55 6 1⟩) (.r (.l (.l (.r (.l (.r .e)))))),
  .p (.mv (.t (.r (.l (.l (.r (.l (.r .e)))))))) (.r (.r (.r (.l (.l (.r .e)))))),
  .p (.ex (.t (.r (.r (.r (.l (.l (.r .e))))))) 0) (.l (.r (.l (.r (.l (.r .e)))))),
  .p (.ex (.t (.r (.r (.r (.l (.l (.r .e))))))) 1) (.r (.r (.l (.r (.l (.r .e)))))),
  .p (.mv (.t (.l (.r (.l (.r (.l (.r .e)))))))) (.l (.r (.l (.r (.l (.l .e)))))),
  .p (.mv (.t (.r (.r (.l (.r (.l (.r .e)))))))) (.l (.l (.l (.r (.l (.l .e))))))])
 (.seq (.reg [.p (.mv (.t (.l (.r (.r (.l (.l (.l .e)))))))) (.l (.l (.r (.r (.l (.r .e)))))),
  .p (.mv (.t (.l (.l (.r (.r (.l (.r .e)))))))) (.r (.l (.r (.r (.l (.r .e)))))),
  .gp (.t (.r (.l (.r (.r (.l (.r .e))))))) true (.mv (.t (.l (.l (.l (.r (.l (.l .e)))))))) (.l (.r (.r (.r (.l (.r .e)))))),
  .p (.pk (.t (.r (.l (.r (.r (.l (.r .e))))))) (.t (.l (.r (.r (.r (.l (.r .e))))))) (.c (.tc (.sc (.bool false))))) (.r (.r (.r (.r (.l (.r .e)))))),
  .p (.mv (.t (.r (.r (.r (.r (.l (.r .e)))))))) (.l (.l (.l (.l (.r (.r .e)))))),
  .gp (.t (.l (.l (.l (.l (.r (.r .e))))))) true (.mv (.t (.r (.l (.l (.r (.l (.l .e)))))))) (.r (.l (.l (.l (.r (.r .e)))))),
  .gp (.t (.l (.l (.l (.l (.r (.r .e))))))) true (.mv (.t (.l (.r (.l (.r (.l (.l .e)))))))) (.l (.r (.l (.l (.r (.r .e)))))),
  .gp (.t (.l (.l (.l (.l (.r (.r .e))))))) true (.bin .eql (.t (.r (.l (.l (.l (.r (.r .e))))))) (.t (.l (.r (.l (.l (.r (.r .e))))))) ⟨6, opAt XP 55 7 7⟩) (.r (.r (.l (.l (.r (.r .e)))))),
  .p (.pk (.t (.l (.l (.l (.l (.r (.r .e))))))) (.t (.r (.r (.l (.l (.r (.r .e))))))) (.c (.tc (.sc (.bool false))))) (.l (.l (.r (.l (.r (.r .e)))))),
  .p (.mv (.t (.l (.l (.r (.l (.r (.r .e)))))))) (.l (.l (.r (.l (.l (.l .e))))))])
 .ret)))))))
 [.tmp (.t (.l (.l (.r (.l (.l (.l .e)))))))]
theorem ff55_ok : compF SBase 55 = ff55 := by kernel_rfl
noncomputable def ff87 : FF := .mk 1 [(.l (.l (.l (.l (.l .e)))))] (encF 5 fun _ => undefA)
 (.seq (.reg [.p (.bx 11 (.t (.l (.l (.l (.l (.l .e)))))) ⟨5, opAt XP 87 0 0⟩) (.r (.l (.l (.l (.l .e))))),
  .p (.mv (.c (.tc (.sc (.int .u8 0))))) (.l (.r (.l (.l (.l .e))))),
  .p (.mv (.c (.tc (.sc (.bool false))))) (.r (.r (.l (.l (.l .e)))))])
 (.seq (.block 0 (.seq (.reg [.p (.ld true 11 (.t (.r (.l (.l (.l (.l .e))))))) (.r (.l (.r (.l (.l .e))))),
  .p (.call 51 [(.t (.r (.l (.r (.l (.l .e))))))] ⟨5, opAt XP 87 1 1⟩) (.l (.r (.r (.l (.l .e))))),
  .p (.nt (.t (.l (.r (.r (.l (.l .e)))))) ⟨5, opAt XP 87 1 2⟩) (.r (.r (.r (.l (.l .e))))),
  .p (.mv (.t (.r (.r (.r (.l (.l .e))))))) (.l (.l (.r (.l (.l .e)))))])
 (.cond (.t (.l (.l (.r (.l (.l .e)))))) (.seq (.reg [.p (.mv (.c (.tc (.sc (.int .u8 0))))) (.l (.r (.l (.l (.l .e))))),
  .p (.mv (.c (.tc (.sc (.bool false))))) (.r (.r (.l (.l (.l .e)))))])
 .ret)
 (.seq (.reg [.p (.fa 0 (.t (.r (.l (.l (.l (.l .e))))))) (.r (.l (.l (.r (.l .e))))),
  .p (.ld false 1 (.t (.r (.l (.l (.r (.l .e))))))) (.l (.r (.l (.r (.l .e))))),
  .p (.bin .eql (.t (.l (.r (.l (.r (.l .e)))))) (.c (.tc (.sc (.int .u8 29)))) ⟨5, opAt XP 87 3 2⟩) (.r (.r (.l (.r (.l .e))))),
  .p (.mv (.t (.r (.r (.l (.r (.l .e))))))) (.l (.l (.l (.r (.l .e)))))])
 (.cond (.t (.l (.l (.l (.r (.l .e)))))) (.seq (.reg [.p (.mv (.c (.tc (.sc (.int .u8 31))))) (.l (.r (.l (.l (.l .e))))),
  .p (.mv (.c (.tc (.sc (.bool true))))) (.r (.r (.l (.l (.l .e)))))])
 .ret)
 (.seq (.reg [.p (.ld true 11 (.t (.r (.l (.l (.l (.l .e))))))) (.r (.l (.r (.r (.l .e))))),
  .p (.call 104 [(.t (.r (.l (.r (.r (.l .e)))))), (.c (.tc (.sc (.int .u8 3))))] ⟨5, opAt XP 87 5 1⟩) (.l (.r (.r (.r (.l .e))))),
  .p (.nt (.t (.l (.r (.r (.r (.l .e)))))) ⟨5, opAt XP 87 5 2⟩) (.r (.r (.r (.r (.l .e))))),
  .p (.mv (.t (.r (.r (.r (.r (.l .e))))))) (.l (.l (.r (.r (.l .e)))))])
 (.cond (.t (.l (.l (.r (.r (.l .e)))))) (.seq (.reg [.p (.mv (.c (.tc (.sc (.int .u8 0))))) (.l (.r (.l (.l (.l .e))))),
  .p (.mv (.c (.tc (.sc (.bool false))))) (.r (.r (.l (.l (.l .e)))))])
 .ret)
 .skip)))))))
 (.seq (.reg [.p (.fa 1 (.t (.r (.l (.l (.l (.l .e))))))) (.l (.l (.l (.l (.r .e))))),
  .p (.ld false 1 (.t (.l (.l (.l (.l (.r .e))))))) (.r (.l (.l (.l (.r .e))))),
  .p (.mv (.t (.r (.l (.l (.l (.r .e))))))) (.l (.r (.l (.l (.l .e))))),
  .p (.mv (.c (.tc (.sc (.bool true))))) (.r (.r (.l (.l (.l .e)))))])
 .ret)))
 [.tmp (.t (.l (.r (.l (.l (.l .e)))))), .tmp (.t (.r (.r (.l (.l (.l .e))))))]
theorem ff87_ok : compF SBase 87 = ff87 := by kernel_rfl
noncomputable def ff88 : FF := .mk 2 [(.l (.l (.l (.l (.l (.l .e)))))), (.r (.l (.l (.l (.l (.l .e))))))] (encF 6 fun _ => undefA)
 (.seq (.reg [.p (.bx 11 (.t (.l (.l (.l (.l (.l (.l .e))))))) ⟨6, opAt XP 88 0 0⟩) (.l (.r (.l (.l (.l (.l .e)))))),
  .p (.bx 11 (.t (.r (.l (.l (.l (.l (.l .e))))))) ⟨6, opAt XP 88 0 1⟩) (.r (.r (.l (.l (.l (.l .e)))))),
  .p (.mv (.c (.tc (.sc (.bool false))))) (.l (.l (.r (.l (.l (.l .e))))))])
 (.seq (.seq (.reg [.p (.fa 5 (.t (.l (.r (.l (.l (.l (.l .e)))))))) (.r (.r (.r (.l (.l (.l .e)))))),
  .p (.ld false 1 (.t (.r (.r (.r (.l (.l (.l .e)))))))) (.l (.l (.l (.r (.l (.l .e)))))),
  .p (.fa 5 (.t (.r (.r (.l (.l (.l (.l .e)))))))) (.r (.l (.l (.r (.l (.l .e)))))),
  .p (.ld false 1 (.t (.r (.l (.l (.r (.l (.l .e)))))))) (.l (.r (.l (.r (.l (.l .e)))))),
  .p (.bin .neq (.t (.l (.l (.l (.r (.l (.l .e))))))) (.t (.l (.r (.l (.r (.l (.l .e))))))) ⟨6, opAt XP 88 1 4⟩) (.r (.r (.l (.r (.l (.l .e))))))])
 (.cond (.t (.r (.r (.l (.r (.l (.l .e))))))) (.seq (.reg [.p (.mv (.c (.tc (.sc (.bool false))))) (.l (.l (.r (.l (.l (.l .e))))))])
 .ret)
 .skip))
 (.seq (.regD 6 36 (regAt XP 88 3) [0, 1, 0, 4, 15, 0, 32, 0, 128, 480, 31, 2047] [.mk .none .yes (.fa 6 (.t (.l (.r (.l (.l (.l (.l .e)))))))) (.fa 6 (.t (.l (.r (.l (.l (.l (.l .e)))))))) (some (.l (.l (.r (.r (.l (.l .e))))))),
  .mk .none .yes (.ld false 1 (.t (.l (.l (.r (.r (.l (.l .e)))))))) (.ld false 1 (.t (.l (.l (.r (.r (.l (.l .e)))))))) (some (.r (.l (.r (.r (.l (.l .e))))))),
  .mk .none .yes (.fa 6 (.t (.r (.r (.l (.l (.l (.l .e)))))))) (.fa 6 (.t (.r (.r (.l (.l (.l (.l .e)))))))) (some (.l (.r (.r (.r (.l (.l .e))))))),
  .mk .none .yes (.ld false 1 (.t (.l (.r (.r (.r (.l (.l .e)))))))) (.ld false 1 (.t (.l (.r (.r (.r (.l (.l .e)))))))) (some (.r (.r (.r (.r (.l (.l .e))))))),
  .mk .none .yes (.gen ⟨6, opAt XP 88 3 4⟩) (.gen ⟨6, opAt XP 88 3 4⟩) (some (.l (.l (.l (.l (.r (.l .e))))))),
  .mk .none .yes (.fa 6 (.t (.l (.r (.l (.l (.l (.l .e)))))))) (.fa 6 (.t (.l (.r (.l (.l (.l (.l .e)))))))) (some (.r (.l (.l (.l (.r (.l .e))))))),
  .mk .none .yes (.ld false 1 (.t (.r (.l (.l (.l (.r (.l .e)))))))) (.ld false 1 (.t (.r (.l (.l (.l (.r (.l .e)))))))) (some (.l (.r (.l (.l (.r (.l .e))))))),
  .mk .none .yes (.fa 6 (.t (.r (.r (.l (.l (.l (.l .e)))))))) (.fa 6 (.t (.r (.r (.l (.l (.l (.l .e)))))))) (some (.r (.r (.l (.l (.r (.l .e))))))),
  .mk .none .yes (.ld false 1 (.t (.r (.r (.l (.l (.r (.l .e)))))))) (.ld false 1 (.t (.r (.r (.l (.l (.r (.l .e)))))))) (some (.l (.l (.r (.l (.r (.l .e))))))),
  .mk .none .yes (.gen ⟨6, opAt XP 88 3 9⟩) (.gen ⟨6, opAt XP 88 3 9⟩) (some (.r (.l (.r (.l (.r (.l .e))))))),
  .mk .none .yes (.mv (.t (.l (.l (.l (.l (.r (.l .e)))))))) (.mv (.t (.l (.l (.l (.l (.r (.l .e)))))))) (some (.r (.l (.r (.l (.l (.l .e))))))),
  .mk .none .yes (.mv (.t (.r (.l (.r (.l (.r (.l .e)))))))) (.mv (.t (.r (.l (.r (.l (.r (.l .e)))))))) (some (.l (.r (.r (.l (.l (.l .e)))))))])
 (.seq (.reg [.p (.mv (.t (.r (.l (.r (.l (.l (.l .e)))))))) (.l (.r (.r (.l (.r (.l .e)))))),
  .p (.bin .eql (.t (.l (.r (.r (.l (.r (.l .e))))))) (.c (.tc (.sc (.int .u8 1)))) ⟨6, opAt XP 88 4 1⟩) (.r (.r (.r (.l (.r (.l .e)))))),
  .p (.mv (.t (.r (.r (.r (.l (.r (.l .e)))))))) (.l (.l (.l (.r (.r (.l .e)))))),
  .gp (.t (.l (.l (.l (.r (.r (.l .e))))))) true (.mv (.t (.l (.r (.r (.l (.l (.l .e)))))))) (.r (.l (.l (.r (.r (.l .e)))))),
  .gp (.t (.l (.l (.l (.r (.r (.l .e))))))) true (.bin .eql (.t (.r (.l (.l (.r (.r (.l .e))))))) (.c (.tc (.sc (.int .u8 2)))) ⟨6, opAt XP 88 4 4⟩) (.l (.r (.l (.r (.r (.l .e)))))),
  .p (.pk (.t (.l (.l (.l (.r (.r (.l .e))))))) (.t (.l (.r (.l (.r (.r (.l .e))))))) (.c (.tc (.sc (.bool false))))) (.r (.r (.l (.r (.r (.l .e)))))),
  .p (.mv (.t (.r (.r (.l (.r (.r (.l .e)))))))) (.l (.l (.r (.r (.r (.l .e)))))),
  .gp (.t (.l (.l (.r (.r (.r (.l .e))))))) false (.mv (.t (.r (.l (.r (.l (.l (.l .e)))))))) (.r (.l (.r (.r (.r (.l .e)))))),
  .gp (.t (.l (.l (.r (.r (.r (.l .e))))))) false (.bin .eql (.t (.r (.l (.r (.r (.r (.l .e))))))) (.c (.tc (.sc (.int .u8 3)))) ⟨6, opAt XP 88 4 8⟩) (.l (.r (.r (.r (.r (.l .e)))))),
  .gp (.t (.l (.l (.r (.r (.r (.l .e))))))) false (.mv (.t (.l (.r (.r (.r (.r (.l .e)))))))) (.r (.r (.r (.r (.r (.l .e)))))),
  .gp (.t (.r (.r (.r (.r (.r (.l .e))))))) true (.mv (.t (.l (.r (.r (.l (.l (.l .e)))))))) (.l (.l (.l (.l (.l (.r .e)))))),
  .gp (.t (.r (.r (.r (.r (.r (.l .e))))))) true (.bin .eql (.t (.l (.l (.l (.l (.l (.r .e))))))) (.c (.tc (.sc (.int .u8 4)))) ⟨6, opAt XP 88 4 11⟩) (.r (.l (.l (.l (.l (.r .e)))))),
  .gp (.t (.l (.l (.r (.r (.r (.l .e))))))) false (.pk (.t (.r (.r (.r (.r (.r (.l .e))))))) (.t (.r (.l (.l (.l (.l (.r .e))))))) (.c (.tc (.sc (.bool false))))) (.l (.r (.l (.l (.l (.r .e)))))),
  .p (.pk (.t (.l (.l (.r (.r (.r (.l .e))))))) (.c (.tc (.sc (.bool true)))) (.t (.l (.r (.l (.l (.l (.r .e)))))))) (.r (.r (.l (.l (.l (.r .e)))))),
  .p (.mv (.t (.r (.r (.l (.l (.l (.r .e)))))))) (.l (.l (.r (.l (.l (.l .e))))))])
 .ret))))
 [.tmp (.t (.l (.l (.r (.l (.l (.l .e)))))))]
theorem ff88_ok : compF SBase 88 = ff88 := by kernel_rfl
noncomputable def ff86 : FF := .mk 1 [(.l (.l (.l (.l .e))))] (encF 4 fun _ => undefA)
 (.seq (.reg [.p (.bx 11 (.t (.l (.l (.l (.l .e))))) ⟨4, opAt XP 86 0 0⟩) (.r (.l (.l (.l .e)))),
  .p (.mv (.c (.tc (.sc (.int .u8 0))))) (.l (.r (.l (.l .e)))),
  .p (.mv (.c (.tc (.sc (.bool false))))) (.r (.r (.l (.l .e))))])
 (.seq (.seq (.reg [.p (.ld true 11 (.t (.r (.l (.l (.l .e)))))) (.l (.l (.r (.l .e)))),
  .p (.call 51 [(.t (.l (.l (.r (.l .e)))))] ⟨4, opAt XP 86 1 1⟩) (.r (.l (.r (.l .e)))),
  .p (.nt (.t (.r (.l (.r (.l .e))))) ⟨4, opAt XP 86 1 2⟩) (.l (.r (.r (.l .e)))),
  .p (.mv (.t (.l (.r (.r (.l .e)))))) (.r (.r (.r (.l .e)))),
  .gp (.t (.r (.r (.r (.l .e))))) false (.ld true 11 (.t (.r (.l (.l (.l .e)))))) (.l (.l (.l (.r .e)))),
  .gp (.t (.r (.r (.r (.l .e))))) false (.call 104 [(.t (.l (.l (.l (.r .e))))), (.c (.tc (.sc (.int .u8 4))))] ⟨4, opAt XP 86 1 5⟩) (.r (.l (.l (.r .e)))),
  .gp (.t (.r (.r (.r (.l .e))))) false (.nt (.t (.r (.l (.l (.r .e))))) ⟨4, opAt XP 86 1 6⟩) (.l (.r (.l (.r .e)))),
  .p (.pk (.t (.r (.r (.r (.l .e))))) (.c (.tc (.sc (.bool true)))) (.t (.l (.r (.l (.r .e)))))) (.r (.r (.l (.r .e))))])
 (.cond (.t (.r (.r (.l (.r .e))))) (.seq (.reg [.p (.mv (.c (.tc (.sc (.int .u8 0))))) (.l (.r (.l (.l .e)))),
  .p (.mv (.c (.tc (.sc (.bool false))))) (.r (.r (.l (.l .e))))])
 .ret)
 .skip))
 (.seq (.reg [.p (.fa 1 (.t (.r (.l (.l (.l .e)))))) (.l (.l (.r (.r .e)))),
  .p (.ld false 1 (.t (.l (.l (.r (.r .e)))))) (.r (.l (.r (.r .e)))),
  .p (.mv (.t (.r (.l (.r (.r .e)))))) (.l (.r (.l (.l .e)))),
  .p (.mv (.c (.tc (.sc (.bool true))))) (.r (.r (.l (.l .e))))])
 .ret)))
 [.tmp (.t (.l (.r (.l (.l .e))))), .tmp (.t (.r (.r (.l (.l .e)))))]
theorem ff86_ok : compF SBase 86 = ff86 := by kernel_rfl
noncomputable def ff53 : FF := .mk 2 [(.l (.l (.l .e))), (.r (.l (.l .e)))] (encF 3 fun _ => undefA)
 (.seq (.reg [.p (.bx 11 (.t (.l (.l (.l .e)))) ⟨3, opAt XP 53 0 0⟩) (.l (.r (.l .e))),
  .p (.mv (.c (.tc (.sc (.bool false))))) (.r (.r (.l .e)))])
 (.seq (.reg [.p (.ld true 11 (.t (.l (.r (.l .e))))) (.l (.l (.r .e))),
  .p (.ld false 1 (.t (.r (.l (.l .e))))) (.r (.l (.r .e))),
  .p (.call 54 [(.t (.l (.l (.r .e)))), (.t (.r (.l (.r .e))))] ⟨3, opAt XP 53 1 2⟩) (.l (.r (.r .e))),
  .p (.nt (.t (.l (.r (.r .e)))) ⟨3, opAt XP 53 1 3⟩) (.r (.r (.r .e))),
  .p (.mv (.t (.r (.r (.r .e))))) (.r (.r (.l .e)))])
 .ret))
 [.tmp (.t (.r (.r (.l .e))))]
theorem ff53_ok : compF SBase 53 = ff53 := by kernel_rfl
end Go.Proofs.Ytdafainfcegfkaa
