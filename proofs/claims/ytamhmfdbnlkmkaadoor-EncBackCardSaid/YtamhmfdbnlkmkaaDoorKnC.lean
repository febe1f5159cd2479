/- A context for closed runs. -/
import Derived.Test.YtamhmfdbnlkmkaaDoorIsaOf0
set_option linter.unusedVariables false
namespace Go.Proofs.YtamhmfdbnlkmkaaDoor
open Go

noncomputable def CK : Ctx := { C1 with pure := fun f => match f with
  | 65 => true
  | 21 => true
  | 71 => true
  | 19 => true
  | 22 => true
  | 23 => true
  | 48 => true
  | 33 => true
  | 46 => true
  | 43 => true
  | 47 => true
  | 64 => true
  | 51 => true
  | 32 => true
  | 20 => true
  | 9 => true
  | 50 => true
  | 31 => true
  | 49 => true
  | 8 => true
  | 72 => true
  | 30 => true
  | 81 => true
  | 80 => true
  | 78 => true
  | 52 => true
  | 28 => true
  | 29 => true
  | 95 => true
  | 77 => true
  | _ => false }

theorem CK_ok (ρ : Env) : Summ ρ CK := C1_ok ρ
end Go.Proofs.YtamhmfdbnlkmkaaDoor
