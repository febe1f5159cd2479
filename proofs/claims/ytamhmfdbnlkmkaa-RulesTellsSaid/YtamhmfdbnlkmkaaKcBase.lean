/- What the seat's code is made ready by. -/
import Derived.Test.YtamhmfdbnlkmkaaMg7
import Derived.Test.YtamhmfdbnlkmkaaMg6
import Derived.Test.YtamhmfdbnlkmkaaProg
namespace Go.Proofs.Ytamhmfdbnlkmkaa
open Go

noncomputable abbrev XP : Program := Try.prog
noncomputable def SBase : Base := ⟨XP, fun _ => none, 4294967296⟩
noncomputable def G2 (f r j : Nat) : GI T2 := ⟨E2.look, opAt XP f r j⟩
noncomputable def G3 (f r j : Nat) : GI T3 := ⟨E3.look, opAt XP f r j⟩
end Go.Proofs.Ytamhmfdbnlkmkaa
