/- A context for closed runs. -/
import Derived.Test.YtdafainfcegfkaaDoorIsaOf0
set_option linter.unusedVariables false
namespace Go.Proofs.YtdafainfcegfkaaDoor
open Go

noncomputable def CK : Ctx := { C1 with pure := fun f => match f with
  | 79 => true
  | 37 => true
  | 91 => true
  | 36 => true
  | 29 => true
  | 40 => true
  | 51 => true
  | 61 => true
  | 52 => true
  | 53 => true
  | 65 => true
  | 77 => true
  | 64 => true
  | 60 => true
  | 42 => true
  | 35 => true
  | 67 => true
  | 59 => true
  | 66 => true
  | 30 => true
  | 57 => true
  | 56 => true
  | 88 => true
  | 87 => true
  | 85 => true
  | 78 => true
  | 54 => true
  | 55 => true
  | 102 => true
  | 84 => true
  | _ => false }

theorem CK_ok (ρ : Env) : Summ ρ CK := C1_ok ρ
end Go.Proofs.YtdafainfcegfkaaDoor
