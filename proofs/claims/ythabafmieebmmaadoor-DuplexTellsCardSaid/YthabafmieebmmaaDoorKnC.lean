/- A context for closed runs. -/
import Derived.Test.YthabafmieebmmaaDoorIsaOf0
set_option linter.unusedVariables false
namespace Go.Proofs.YthabafmieebmmaaDoor
open Go

noncomputable def CK : Ctx := { C1 with pure := fun f => match f with
  | 88 => true
  | 89 => true
  | 85 => true
  | 42 => true
  | 39 => true
  | 65 => true
  | 63 => true
  | 69 => true
  | 64 => true
  | 53 => true
  | 86 => true
  | 73 => true
  | 24 => true
  | 71 => true
  | 45 => true
  | 82 => true
  | 81 => true
  | 79 => true
  | 70 => true
  | 43 => true
  | 44 => true
  | 91 => true
  | 78 => true
  | _ => false }

theorem CK_ok (ρ : Env) : Summ ρ CK := C1_ok ρ
end Go.Proofs.YthabafmieebmmaaDoor
