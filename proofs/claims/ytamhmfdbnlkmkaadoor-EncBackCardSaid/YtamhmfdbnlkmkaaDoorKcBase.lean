/- What the seat's code is made ready by. -/
import Derived.Test.YtamhmfdbnlkmkaaDoorMg7
import Derived.Test.YtamhmfdbnlkmkaaDoorMg6
import Derived.Test.YtamhmfdbnlkmkaaDoorProg
namespace Go.Proofs.YtamhmfdbnlkmkaaDoor
open Go

noncomputable abbrev XP : Program := Tryd.prog
noncomputable def SBase : Base := ⟨XP, fun _ => none, 4294967296⟩
noncomputable def G2 (f r j : Nat) : GI T2 := ⟨E2.look, opAt XP f r j⟩
noncomputable def G3 (f r j : Nat) : GI T3 := ⟨E3.look, opAt XP f r j⟩
end Go.Proofs.YtamhmfdbnlkmkaaDoor
