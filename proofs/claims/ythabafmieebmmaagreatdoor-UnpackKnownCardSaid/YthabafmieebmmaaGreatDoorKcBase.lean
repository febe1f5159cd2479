/- What the seat's code is made ready by. -/
import Derived.Test.YthabafmieebmmaaGreatDoorMg7
import Derived.Test.YthabafmieebmmaaGreatDoorMg6
import Derived.Test.YthabafmieebmmaaGreatDoorProg
namespace Go.Proofs.YthabafmieebmmaaGreatDoor
open Go

noncomputable abbrev XP : Program := Tryz.prog
noncomputable def SBase : Base := ⟨XP, fun _ => none, 4294967296⟩
noncomputable def G2 (f r j : Nat) : GI T2 := ⟨E2.look, opAt XP f r j⟩
noncomputable def G3 (f r j : Nat) : GI T3 := ⟨E3.look, opAt XP f r j⟩
end Go.Proofs.YthabafmieebmmaaGreatDoor
