/- What the seat's code is made ready by. -/
import Derived.Test.YtdafainfcegfkaaSyFastOk4
import Derived.Test.YtdafainfcegfkaaSyLaw
import Derived.Test.YtdafainfcegfkaaProg
namespace Go.Proofs.Ytdafainfcegfkaa
open Go

noncomputable abbrev XP : Program := Try.prog
noncomputable def SBase : Base := ⟨XP, fun _ => none, 4294967296⟩
end Go.Proofs.Ytdafainfcegfkaa
