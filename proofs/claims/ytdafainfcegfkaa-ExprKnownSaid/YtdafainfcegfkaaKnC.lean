/- A context for closed runs. -/
import Derived.Test.YtdafainfcegfkaaIsaOf0
set_option linter.unusedVariables false
namespace Go.Proofs.Ytdafainfcegfkaa
open Go

noncomputable def CK : Ctx := { C1 with pure := fun f => match f with
  | 110 => true
  | 73 => true
  | 123 => true
  | 79 => true
  | 43 => true
  | 74 => true
  | 45 => true
  | 46 => true
  | 71 => true
  | 72 => true
  | 101 => true
  | 99 => true
  | 18 => true
  | 19 => true
  | 20 => true
  | 21 => true
  | 22 => true
  | 23 => true
  | 44 => true
  | 47 => true
  | 51 => true
  | 77 => true
  | 82 => true
  | 87 => true
  | 86 => true
  | 84 => true
  | 104 => true
  | 80 => true
  | 81 => true
  | 88 => true
  | 55 => true
  | 24 => true
  | 28 => true
  | 9 => true
  | 37 => true
  | 17 => true
  | 8 => true
  | 57 => true
  | _ => false }

theorem CK_ok (ρ : Env) : Summ ρ CK := C1_ok ρ
end Go.Proofs.Ytdafainfcegfkaa
