/- A context for closed runs. -/
import Derived.Test.YthabafmieebmmaaGreatDoorIsaOf0
set_option linter.unusedVariables false
namespace Go.Proofs.YthabafmieebmmaaGreatDoor
open Go

noncomputable def CK : Ctx := { C1 with pure := fun f => match f with
  | 155 => true
  | 111 => true
  | 150 => true
  | 59 => true
  | 161 => true
  | 114 => true
  | 172 => true
  | 152 => true
  | 154 => true
  | 124 => true
  | 65 => true
  | 120 => true
  | 153 => true
  | 151 => true
  | 90 => true
  | 88 => true
  | 110 => true
  | 186 => true
  | 132 => true
  | 185 => true
  | 104 => true
  | 123 => true
  | 141 => true
  | 147 => true
  | 146 => true
  | 144 => true
  | 169 => true
  | 139 => true
  | 140 => true
  | 170 => true
  | 143 => true
  | 165 => true
  | _ => false }

theorem CK_ok (ρ : Env) : Summ ρ CK := C1_ok ρ
end Go.Proofs.YthabafmieebmmaaGreatDoor
