/- A context for closed runs. -/
import Derived.Test.YtamhmfdbnlkmkaaIsaOf0
set_option linter.unusedVariables false
namespace Go.Proofs.Ytamhmfdbnlkmkaa
open Go

noncomputable def CK : Ctx := { C1 with pure := fun f => match f with
  | 73 => true
  | 57 => true
  | 89 => true
  | 38 => true
  | 56 => true
  | 14 => true
  | 16 => true
  | 41 => true
  | 17 => true
  | 15 => true
  | 49 => true
  | 42 => true
  | 39 => true
  | 40 => true
  | 34 => true
  | 12 => true
  | 9 => true
  | 22 => true
  | 19 => true
  | _ => false }

theorem CK_ok (ρ : Env) : Summ ρ CK := C1_ok ρ
end Go.Proofs.Ytamhmfdbnlkmkaa
