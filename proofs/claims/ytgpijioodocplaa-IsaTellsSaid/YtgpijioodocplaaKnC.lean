/- A context for closed runs. -/
import Derived.Test.YtgpijioodocplaaIsaOf0
set_option linter.unusedVariables false
namespace Go.Proofs.Ytgpijioodocplaa
open Go

noncomputable def CK : Ctx := { C1 with pure := fun f => match f with
  | 37 => true
  | 13 => true
  | 15 => true
  | 17 => true
  | 10 => true
  | 42 => true
  | 43 => true
  | 39 => true
  | 41 => true
  | 54 => true
  | 53 => true
  | 55 => true
  | 57 => true
  | 27 => true
  | 19 => true
  | 25 => true
  | 24 => true
  | 23 => true
  | 31 => true
  | 38 => true
  | 30 => true
  | 11 => true
  | 26 => true
  | _ => false }

theorem CK_ok (ρ : Env) : Summ ρ CK := C1_ok ρ
end Go.Proofs.Ytgpijioodocplaa
