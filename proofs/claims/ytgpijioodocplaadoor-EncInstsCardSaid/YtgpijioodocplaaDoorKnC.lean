/- A context for closed runs. -/
import Derived.Test.YtgpijioodocplaaDoorIsaOf0
set_option linter.unusedVariables false
namespace Go.Proofs.YtgpijioodocplaaDoor
open Go

noncomputable def CK : Ctx := { C1 with pure := fun f => match f with
  | 57 => true
  | 16 => true
  | 68 => true
  | 15 => true
  | 33 => true
  | 19 => true
  | 53 => true
  | 43 => true
  | 47 => true
  | 52 => true
  | 48 => true
  | 58 => true
  | 46 => true
  | 42 => true
  | 32 => true
  | 14 => true
  | 55 => true
  | 41 => true
  | 54 => true
  | 13 => true
  | 40 => true
  | 30 => true
  | 38 => true
  | 39 => true
  | _ => false }

theorem CK_ok (ρ : Env) : Summ ρ CK := C1_ok ρ
end Go.Proofs.YtgpijioodocplaaDoor
