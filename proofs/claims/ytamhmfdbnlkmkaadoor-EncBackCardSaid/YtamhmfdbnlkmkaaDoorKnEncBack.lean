/- The law EncBack. -/
import Derived.Test.YtamhmfdbnlkmkaaDoorKnECAA
import Derived.Test.YtamhmfdbnlkmkaaDoorKnECAB
import Derived.Test.YtamhmfdbnlkmkaaDoorKnECAC
import Derived.Test.YtamhmfdbnlkmkaaDoorKnECAD
import Derived.Test.YtamhmfdbnlkmkaaDoorKnECAE
import Derived.Test.YtamhmfdbnlkmkaaDoorKnECAF
import Derived.Test.YtamhmfdbnlkmkaaDoorKnECX0
import Derived.Test.YtamhmfdbnlkmkaaDoorKnECX1
import Derived.Test.YtamhmfdbnlkmkaaDoorKnECX2
import Derived.Test.YtamhmfdbnlkmkaaDoorKnECX3
import Derived.Test.YtamhmfdbnlkmkaaDoorKnECW
import Derived.Test.YtamhmfdbnlkmkaaDoorMg8
import Derived.Test.YtamhmfdbnlkmkaaDoorRows
set_option linter.unusedVariables false
set_option linter.unusedSimpArgs false
set_option maxRecDepth 100000
namespace Go.Proofs.YtamhmfdbnlkmkaaDoor
open Go Go.RowKit


def ATold (ρ : Env) (A T : List AV) (W : AV) (b : Bool) : Prop := ∃ XI XB ok, CallsTo CX06 6 (concs ρ A) (.tuple [xV XI XB, blV ok]) ∧ CallsTo CX06 6 (concs ρ T) (.tuple [xV XI XB, blV ok]) ∧
  (ok = true → XB 8 = b ∧ CallsTo CX06 7 [xV XI XB, conc ρ pcX] (conc ρ W) ∧ CallsTo CX06 8 [xV XI XB] (blV true))

theorem aTold {ρ : Env} {F : Facts} {A T : List AV} {W : AV} {b : Bool} (hf : FactsOk ρ F) (h : RunsCh (CV06 F) 24 F 6 A (kA b T W)) : ATold ρ A T W b := by
  obtain ⟨r, fs, c1, hf1, h1⟩ := h.calls (CV06_ok hf) hf
  obtain ⟨XI, XB, ok, e, g1, g2⟩ := kA_ok hf1 h1
  rw [e] at c1
  exact ⟨XI, XB, ok, c1.of rfl rfl, g1, g2⟩

theorem w64k {x : Int} (h0 : 0 ≤ x) (h1 : x ≤ 9000000000) : IntKind.i64.wrap x = x := w64i (by omega) (by omega)
theorem w32k {x : Int} (h0 : 0 ≤ x) (h1 : x ≤ 4294967295) : IntKind.u32.wrap x = x := by rw [wrap_u32]; omega

theorem at0t {ρ : Env} (f : FactsOk ρ ebF) : ATold ρ (ebA 0 true) (ebT 0 true) (ebW 0 true) true := aTold f ebA_run0t
theorem at0f {ρ : Env} (f : FactsOk ρ ebF) : ATold ρ (ebA 0 false) (ebT 0 false) (ebW 0 false) false := aTold f ebA_run0f
theorem at1t {ρ : Env} (f : FactsOk ρ ebF) : ATold ρ (ebA 1 true) (ebT 1 true) (ebW 1 true) true := aTold f ebA_run1t
theorem at1f {ρ : Env} (f : FactsOk ρ ebF) : ATold ρ (ebA 1 false) (ebT 1 false) (ebW 1 false) false := aTold f ebA_run1f
theorem at2t {ρ : Env} (f : FactsOk ρ ebF) : ATold ρ (ebA 2 true) (ebT 2 true) (ebW 2 true) true := aTold f ebA_run2t
theorem at2f {ρ : Env} (f : FactsOk ρ ebF) : ATold ρ (ebA 2 false) (ebT 2 false) (ebW 2 false) false := aTold f ebA_run2f
theorem at3t {ρ : Env} (f : FactsOk ρ ebF) : ATold ρ (ebA 3 true) (ebT 3 true) (ebW 3 true) true := aTold f ebA_run3t
theorem at3f {ρ : Env} (f : FactsOk ρ ebF) : ATold ρ (ebA 3 false) (ebT 3 false) (ebW 3 false) false := aTold f ebA_run3f
theorem at4t {ρ : Env} (f : FactsOk ρ ebF) : ATold ρ (ebA 4 true) (ebT 4 true) (ebW 4 true) true := aTold f ebA_run4t
theorem at4f {ρ : Env} (f : FactsOk ρ ebF) : ATold ρ (ebA 4 false) (ebT 4 false) (ebW 4 false) false := aTold f ebA_run4f
theorem at5t {ρ : Env} (f : FactsOk ρ ebF) : ATold ρ (ebA 5 true) (ebT 5 true) (ebW 5 true) true := aTold f ebA_run5t
theorem at5f {ρ : Env} (f : FactsOk ρ ebF) : ATold ρ (ebA 5 false) (ebT 5 false) (ebW 5 false) false := aTold f ebA_run5f
theorem at6t {ρ : Env} (f : FactsOk ρ ebF) : ATold ρ (ebA 6 true) (ebT 6 true) (ebW 6 true) true := aTold f ebA_run6t
theorem at6f {ρ : Env} (f : FactsOk ρ ebF) : ATold ρ (ebA 6 false) (ebT 6 false) (ebW 6 false) false := aTold f ebA_run6f
theorem at7t {ρ : Env} (f : FactsOk ρ ebF) : ATold ρ (ebA 7 true) (ebT 7 true) (ebW 7 true) true := aTold f ebA_run7t
theorem at7f {ρ : Env} (f : FactsOk ρ ebF) : ATold ρ (ebA 7 false) (ebT 7 false) (ebW 7 false) false := aTold f ebA_run7f
theorem at8t {ρ : Env} (f : FactsOk ρ ebF) : ATold ρ (ebA 8 true) (ebT 8 true) (ebW 8 true) true := aTold f ebA_run8t
theorem at8f {ρ : Env} (f : FactsOk ρ ebF) : ATold ρ (ebA 8 false) (ebT 8 false) (ebW 8 false) false := aTold f ebA_run8f
theorem at9t {ρ : Env} (f : FactsOk ρ ebF) : ATold ρ (ebA 9 true) (ebT 9 true) (ebW 9 true) true := aTold f ebA_run9t
theorem at9f {ρ : Env} (f : FactsOk ρ ebF) : ATold ρ (ebA 9 false) (ebT 9 false) (ebW 9 false) false := aTold f ebA_run9f
theorem at10t {ρ : Env} (f : FactsOk ρ ebF) : ATold ρ (ebA 10 true) (ebT 10 true) (ebW 10 true) true := aTold f ebA_run10t
theorem at10f {ρ : Env} (f : FactsOk ρ ebF) : ATold ρ (ebA 10 false) (ebT 10 false) (ebW 10 false) false := aTold f ebA_run10f
theorem at11t {ρ : Env} (f : FactsOk ρ ebF) : ATold ρ (ebA 11 true) (ebT 11 true) (ebW 11 true) true := aTold f ebA_run11t
theorem at11f {ρ : Env} (f : FactsOk ρ ebF) : ATold ρ (ebA 11 false) (ebT 11 false) (ebW 11 false) false := aTold f ebA_run11f
theorem at12t {ρ : Env} (f : FactsOk ρ ebF) : ATold ρ (ebA 12 true) (ebT 12 true) (ebW 12 true) true := aTold f ebA_run12t
theorem at12f {ρ : Env} (f : FactsOk ρ ebF) : ATold ρ (ebA 12 false) (ebT 12 false) (ebW 12 false) false := aTold f ebA_run12f
theorem at13t {ρ : Env} (f : FactsOk ρ ebF) : ATold ρ (ebA 13 true) (ebT 13 true) (ebW 13 true) true := aTold f ebA_run13t
theorem at13f {ρ : Env} (f : FactsOk ρ ebF) : ATold ρ (ebA 13 false) (ebT 13 false) (ebW 13 false) false := aTold f ebA_run13f
theorem at14t {ρ : Env} (f : FactsOk ρ ebF) : ATold ρ (ebA 14 true) (ebT 14 true) (ebW 14 true) true := aTold f ebA_run14t
theorem at14f {ρ : Env} (f : FactsOk ρ ebF) : ATold ρ (ebA 14 false) (ebT 14 false) (ebW 14 false) false := aTold f ebA_run14f
theorem at15t {ρ : Env} (f : FactsOk ρ ebF) : ATold ρ (ebA 15 true) (ebT 15 true) (ebW 15 true) true := aTold f ebA_run15t
theorem at15f {ρ : Env} (f : FactsOk ρ ebF) : ATold ρ (ebA 15 false) (ebT 15 false) (ebW 15 false) false := aTold f ebA_run15f
theorem at16t {ρ : Env} (f : FactsOk ρ ebF) : ATold ρ (ebA 16 true) (ebT 16 true) (ebW 16 true) true := aTold f ebA_run16t
theorem at16f {ρ : Env} (f : FactsOk ρ ebF) : ATold ρ (ebA 16 false) (ebT 16 false) (ebW 16 false) false := aTold f ebA_run16f
theorem at17t {ρ : Env} (f : FactsOk ρ ebF) : ATold ρ (ebA 17 true) (ebT 17 true) (ebW 17 true) true := aTold f ebA_run17t
theorem at17f {ρ : Env} (f : FactsOk ρ ebF) : ATold ρ (ebA 17 false) (ebT 17 false) (ebW 17 false) false := aTold f ebA_run17f
theorem at18t {ρ : Env} (f : FactsOk ρ ebF) : ATold ρ (ebA 18 true) (ebT 18 true) (ebW 18 true) true := aTold f ebA_run18t
theorem at18f {ρ : Env} (f : FactsOk ρ ebF) : ATold ρ (ebA 18 false) (ebT 18 false) (ebW 18 false) false := aTold f ebA_run18f
theorem at19t {ρ : Env} (f : FactsOk ρ ebF) : ATold ρ (ebA 19 true) (ebT 19 true) (ebW 19 true) true := aTold f ebA_run19t
theorem at19f {ρ : Env} (f : FactsOk ρ ebF) : ATold ρ (ebA 19 false) (ebT 19 false) (ebW 19 false) false := aTold f ebA_run19f
theorem at20t {ρ : Env} (f : FactsOk ρ ebF) : ATold ρ (ebA 20 true) (ebT 20 true) (ebW 20 true) true := aTold f ebA_run20t
theorem at20f {ρ : Env} (f : FactsOk ρ ebF) : ATold ρ (ebA 20 false) (ebT 20 false) (ebW 20 false) false := aTold f ebA_run20f
theorem at21t {ρ : Env} (f : FactsOk ρ ebF) : ATold ρ (ebA 21 true) (ebT 21 true) (ebW 21 true) true := aTold f ebA_run21t
theorem at21f {ρ : Env} (f : FactsOk ρ ebF) : ATold ρ (ebA 21 false) (ebT 21 false) (ebW 21 false) false := aTold f ebA_run21f
theorem at22t {ρ : Env} (f : FactsOk ρ ebF) : ATold ρ (ebA 22 true) (ebT 22 true) (ebW 22 true) true := aTold f ebA_run22t
theorem at22f {ρ : Env} (f : FactsOk ρ ebF) : ATold ρ (ebA 22 false) (ebT 22 false) (ebW 22 false) false := aTold f ebA_run22f
theorem at23t {ρ : Env} (f : FactsOk ρ ebF) : ATold ρ (ebA 23 true) (ebT 23 true) (ebW 23 true) true := aTold f ebA_run23t
theorem at23f {ρ : Env} (f : FactsOk ρ ebF) : ATold ρ (ebA 23 false) (ebT 23 false) (ebW 23 false) false := aTold f ebA_run23f
theorem at24t {ρ : Env} (f : FactsOk ρ ebF24) : ATold ρ (ebA24 24 true) (ebT24 24 true) (ebW24 24 true) true := by
  cases h0 : (den ρ (.cmp .leq (.var 8) (.lit 0))).b with
  | true =>
    cases h1 : (den ρ (.cmp .leq (.var 7) (.lit 0))).b with
    | true =>
      exact aTold ((f.cons h0).cons h1) ebA_run24tr
    | false =>
      exact aTold ((f.cons h0).cons h1) ebA_run24tq
  | false =>
    exact aTold (f.cons h0) ebA_run24tp
theorem at24f {ρ : Env} (f : FactsOk ρ ebF) : ATold ρ (ebA 24 false) (ebT 24 false) (ebW 24 false) false := aTold f ebA_run24f
theorem at25t {ρ : Env} (f : FactsOk ρ ebF24) : ATold ρ (ebA24 25 true) (ebT24 25 true) (ebW24 25 true) true := by
  cases h0 : (den ρ (.cmp .leq (.var 8) (.lit 0))).b with
  | true =>
    cases h1 : (den ρ (.cmp .leq (.var 7) (.lit 0))).b with
    | true =>
      exact aTold ((f.cons h0).cons h1) ebA_run25tr
    | false =>
      exact aTold ((f.cons h0).cons h1) ebA_run25tq
  | false =>
    exact aTold (f.cons h0) ebA_run25tp
theorem at25f {ρ : Env} (f : FactsOk ρ ebF) : ATold ρ (ebA 25 false) (ebT 25 false) (ebW 25 false) false := aTold f ebA_run25f
theorem at26t {ρ : Env} (f : FactsOk ρ ebF24) : ATold ρ (ebA24 26 true) (ebT24 26 true) (ebW24 26 true) true := by
  cases h0 : (den ρ (.cmp .leq (.var 8) (.lit 0))).b with
  | true =>
    cases h1 : (den ρ (.cmp .leq (.var 7) (.lit 0))).b with
    | true =>
      exact aTold ((f.cons h0).cons h1) ebA_run26tr
    | false =>
      exact aTold ((f.cons h0).cons h1) ebA_run26tq
  | false =>
    exact aTold (f.cons h0) ebA_run26tp
theorem at26f {ρ : Env} (f : FactsOk ρ ebF) : ATold ρ (ebA 26 false) (ebT 26 false) (ebW 26 false) false := aTold f ebA_run26f
theorem at27t {ρ : Env} (f : FactsOk ρ ebF27) : ATold ρ (ebA27 27 true) (ebT27 27 true) (ebW27 27 true) true := by
  cases h0 : (den ρ (.cmp .leq (.var 6) (.lit 0))).b with
  | true =>
    cases h1 : (den ρ (.cmp .leq (.var 5) (.lit 0))).b with
    | true =>
      cases h2 : (den ρ (.cmp .leq (.var 0) (.lit 255))).b with
      | true =>
        exact aTold (((f.cons h0).cons h1).cons h2) ebA_run27tr
      | false =>
        exact aTold (((f.cons h0).cons h1).cons h2) ebA_run27ts
    | false =>
      exact aTold ((f.cons h0).cons h1) ebA_run27tq
  | false =>
    exact aTold (f.cons h0) ebA_run27tp
theorem at27f {ρ : Env} (f : FactsOk ρ ebF27) : ATold ρ (ebA27 27 false) (ebT27 27 false) (ebW27 27 false) false := by
  cases h0 : (den ρ (.cmp .leq (.var 6) (.lit 0))).b with
  | true =>
    exact aTold (f.cons h0) ebA_run27fq
  | false =>
    exact aTold (f.cons h0) ebA_run27fp
theorem at28t {ρ : Env} (f : FactsOk ρ ebF) : ATold ρ (ebA 28 true) (ebT 28 true) (ebW 28 true) true := aTold f ebA_run28t
theorem at28f {ρ : Env} (f : FactsOk ρ ebF) : ATold ρ (ebA 28 false) (ebT 28 false) (ebW 28 false) false := aTold f ebA_run28f
theorem at29t {ρ : Env} (f : FactsOk ρ ebF) : ATold ρ (ebA 29 true) (ebT 29 true) (ebW 29 true) true := aTold f ebA_run29t
theorem at29f {ρ : Env} (f : FactsOk ρ ebF) : ATold ρ (ebA 29 false) (ebT 29 false) (ebW 29 false) false := aTold f ebA_run29f
theorem at30t {ρ : Env} (f : FactsOk ρ ebF30) : ATold ρ (ebA30 30 true) (ebT30 30 true) (ebW30 30 true) true := by
  cases h0 : (den ρ (.cmp .leq (.var 7) (.lit 0))).b with
  | true =>
    cases h1 : (den ρ (.cmp .leq (.var 8) (.lit 0))).b with
    | true =>
      exact aTold ((f.cons h0).cons h1) ebA_run30tr
    | false =>
      exact aTold ((f.cons h0).cons h1) ebA_run30ts
  | false =>
    exact aTold (f.cons h0) ebA_run30tp
theorem at30f {ρ : Env} (f : FactsOk ρ ebF30) : ATold ρ (ebA30 30 false) (ebT30 30 false) (ebW30 30 false) false := aTold f ebA_run30f
theorem at31t {ρ : Env} (f : FactsOk ρ ebF30) : ATold ρ (ebA30 31 true) (ebT30 31 true) (ebW30 31 true) true := by
  cases h0 : (den ρ (.cmp .leq (.var 7) (.lit 0))).b with
  | true =>
    cases h1 : (den ρ (.cmp .leq (.var 8) (.lit 0))).b with
    | true =>
      exact aTold ((f.cons h0).cons h1) ebA_run31tr
    | false =>
      exact aTold ((f.cons h0).cons h1) ebA_run31ts
  | false =>
    exact aTold (f.cons h0) ebA_run31tp
theorem at31f {ρ : Env} (f : FactsOk ρ ebF30) : ATold ρ (ebA30 31 false) (ebT30 31 false) (ebW30 31 false) false := by
  cases h0 : (den ρ (.cmp .leq (.var 8) (.lit 0))).b with
  | true =>
    exact aTold (f.cons h0) ebA_run31fp
  | false =>
    exact aTold (f.cons h0) ebA_run31fq
theorem at32t {ρ : Env} (f : FactsOk ρ ebF) : ATold ρ (ebA 32 true) (ebT 32 true) (ebW 32 true) true := aTold f ebA_run32t
theorem at32f {ρ : Env} (f : FactsOk ρ ebF) : ATold ρ (ebA 32 false) (ebT 32 false) (ebW 32 false) false := aTold f ebA_run32f
theorem at33t {ρ : Env} (f : FactsOk ρ ebF) : ATold ρ (ebA 33 true) (ebT 33 true) (ebW 33 true) true := aTold f ebA_run33t
theorem at33f {ρ : Env} (f : FactsOk ρ ebF) : ATold ρ (ebA 33 false) (ebT 33 false) (ebW 33 false) false := aTold f ebA_run33f
theorem at34t {ρ : Env} (f : FactsOk ρ ebF) : ATold ρ (ebA 34 true) (ebT 34 true) (ebW 34 true) true := aTold f ebA_run34t
theorem at34f {ρ : Env} (f : FactsOk ρ ebF) : ATold ρ (ebA 34 false) (ebT 34 false) (ebW 34 false) false := aTold f ebA_run34f
theorem at35t {ρ : Env} (f : FactsOk ρ ebF) : ATold ρ (ebA 35 true) (ebT 35 true) (ebW 35 true) true := aTold f ebA_run35t
theorem at35f {ρ : Env} (f : FactsOk ρ ebF) : ATold ρ (ebA 35 false) (ebT 35 false) (ebW 35 false) false := aTold f ebA_run35f
theorem at36t {ρ : Env} (f : FactsOk ρ ebF) : ATold ρ (ebA 36 true) (ebT 36 true) (ebW 36 true) true := aTold f ebA_run36t
theorem at36f {ρ : Env} (f : FactsOk ρ ebF) : ATold ρ (ebA 36 false) (ebT 36 false) (ebW 36 false) false := aTold f ebA_run36f
theorem at37t {ρ : Env} (f : FactsOk ρ ebF) : ATold ρ (ebA 37 true) (ebT 37 true) (ebW 37 true) true := aTold f ebA_run37t
theorem at37f {ρ : Env} (f : FactsOk ρ ebF) : ATold ρ (ebA 37 false) (ebT 37 false) (ebW 37 false) false := aTold f ebA_run37f
theorem at38t {ρ : Env} (f : FactsOk ρ ebF) : ATold ρ (ebA 38 true) (ebT 38 true) (ebW 38 true) true := aTold f ebA_run38t
theorem at38f {ρ : Env} (f : FactsOk ρ ebF) : ATold ρ (ebA 38 false) (ebT 38 false) (ebW 38 false) false := aTold f ebA_run38f
theorem at39t {ρ : Env} (f : FactsOk ρ ebF) : ATold ρ (ebA 39 true) (ebT 39 true) (ebW 39 true) true := aTold f ebA_run39t
theorem at39f {ρ : Env} (f : FactsOk ρ ebF) : ATold ρ (ebA 39 false) (ebT 39 false) (ebW 39 false) false := aTold f ebA_run39f
theorem at40t {ρ : Env} (f : FactsOk ρ ebF) : ATold ρ (ebA 40 true) (ebT 40 true) (ebW 40 true) true := aTold f ebA_run40t
theorem at40f {ρ : Env} (f : FactsOk ρ ebF) : ATold ρ (ebA 40 false) (ebT 40 false) (ebW 40 false) false := aTold f ebA_run40f
theorem at41t {ρ : Env} (f : FactsOk ρ ebF) : ATold ρ (ebA 41 true) (ebT 41 true) (ebW 41 true) true := aTold f ebA_run41t
theorem at41f {ρ : Env} (f : FactsOk ρ ebF) : ATold ρ (ebA 41 false) (ebT 41 false) (ebW 41 false) false := aTold f ebA_run41f
theorem at42t {ρ : Env} (f : FactsOk ρ ebF) : ATold ρ (ebA 42 true) (ebT 42 true) (ebW 42 true) true := aTold f ebA_run42t
theorem at42f {ρ : Env} (f : FactsOk ρ ebF) : ATold ρ (ebA 42 false) (ebT 42 false) (ebW 42 false) false := aTold f ebA_run42f
theorem at43t {ρ : Env} (f : FactsOk ρ ebF) : ATold ρ (ebA 43 true) (ebT 43 true) (ebW 43 true) true := aTold f ebA_run43t
theorem at43f {ρ : Env} (f : FactsOk ρ ebF) : ATold ρ (ebA 43 false) (ebT 43 false) (ebW 43 false) false := aTold f ebA_run43f
theorem at44t {ρ : Env} (f : FactsOk ρ ebF) : ATold ρ (ebA 44 true) (ebT 44 true) (ebW 44 true) true := aTold f ebA_run44t
theorem at44f {ρ : Env} (f : FactsOk ρ ebF) : ATold ρ (ebA 44 false) (ebT 44 false) (ebW 44 false) false := aTold f ebA_run44f
theorem at45t {ρ : Env} (f : FactsOk ρ ebF) : ATold ρ (ebA 45 true) (ebT 45 true) (ebW 45 true) true := aTold f ebA_run45t
theorem at45f {ρ : Env} (f : FactsOk ρ ebF) : ATold ρ (ebA 45 false) (ebT 45 false) (ebW 45 false) false := aTold f ebA_run45f
theorem at46t {ρ : Env} (f : FactsOk ρ ebF) : ATold ρ (ebA 46 true) (ebT 46 true) (ebW 46 true) true := aTold f ebA_run46t
theorem at46f {ρ : Env} (f : FactsOk ρ ebF) : ATold ρ (ebA 46 false) (ebT 46 false) (ebW 46 false) false := aTold f ebA_run46f
theorem at47t {ρ : Env} (f : FactsOk ρ ebF) : ATold ρ (ebA 47 true) (ebT 47 true) (ebW 47 true) true := aTold f ebA_run47t
theorem at47f {ρ : Env} (f : FactsOk ρ ebF) : ATold ρ (ebA 47 false) (ebT 47 false) (ebW 47 false) false := aTold f ebA_run47f
theorem at48t {ρ : Env} (f : FactsOk ρ ebF) : ATold ρ (ebA 48 true) (ebT 48 true) (ebW 48 true) true := aTold f ebA_run48t
theorem at48f {ρ : Env} (f : FactsOk ρ ebF) : ATold ρ (ebA 48 false) (ebT 48 false) (ebW 48 false) false := aTold f ebA_run48f
theorem at49t {ρ : Env} (f : FactsOk ρ ebF) : ATold ρ (ebA 49 true) (ebT 49 true) (ebW 49 true) true := aTold f ebA_run49t
theorem at49f {ρ : Env} (f : FactsOk ρ ebF) : ATold ρ (ebA 49 false) (ebT 49 false) (ebW 49 false) false := aTold f ebA_run49f
theorem at50t {ρ : Env} (f : FactsOk ρ ebF) : ATold ρ (ebA 50 true) (ebT 50 true) (ebW 50 true) true := aTold f ebA_run50t
theorem at50f {ρ : Env} (f : FactsOk ρ ebF) : ATold ρ (ebA 50 false) (ebT 50 false) (ebW 50 false) false := aTold f ebA_run50f
theorem at51t {ρ : Env} (f : FactsOk ρ ebF) : ATold ρ (ebA 51 true) (ebT 51 true) (ebW 51 true) true := aTold f ebA_run51t
theorem at51f {ρ : Env} (f : FactsOk ρ ebF) : ATold ρ (ebA 51 false) (ebT 51 false) (ebW 51 false) false := aTold f ebA_run51f
theorem at52t {ρ : Env} (f : FactsOk ρ ebF) : ATold ρ (ebA 52 true) (ebT 52 true) (ebW 52 true) true := aTold f ebA_run52t
theorem at52f {ρ : Env} (f : FactsOk ρ ebF) : ATold ρ (ebA 52 false) (ebT 52 false) (ebW 52 false) false := aTold f ebA_run52f
theorem at53t {ρ : Env} (f : FactsOk ρ ebF) : ATold ρ (ebA 53 true) (ebT 53 true) (ebW 53 true) true := aTold f ebA_run53t
theorem at53f {ρ : Env} (f : FactsOk ρ ebF) : ATold ρ (ebA 53 false) (ebT 53 false) (ebW 53 false) false := aTold f ebA_run53f
theorem at54t {ρ : Env} (f : FactsOk ρ ebF) : ATold ρ (ebA 54 true) (ebT 54 true) (ebW 54 true) true := aTold f ebA_run54t
theorem at54f {ρ : Env} (f : FactsOk ρ ebF) : ATold ρ (ebA 54 false) (ebT 54 false) (ebW 54 false) false := aTold f ebA_run54f
theorem at55t {ρ : Env} (f : FactsOk ρ ebF) : ATold ρ (ebA 55 true) (ebT 55 true) (ebW 55 true) true := aTold f ebA_run55t
theorem at55f {ρ : Env} (f : FactsOk ρ ebF) : ATold ρ (ebA 55 false) (ebT 55 false) (ebW 55 false) false := aTold f ebA_run55f
theorem at56t {ρ : Env} (f : FactsOk ρ ebF) : ATold ρ (ebA 56 true) (ebT 56 true) (ebW 56 true) true := aTold f ebA_run56t
theorem at56f {ρ : Env} (f : FactsOk ρ ebF) : ATold ρ (ebA 56 false) (ebT 56 false) (ebW 56 false) false := aTold f ebA_run56f
theorem at57t {ρ : Env} (f : FactsOk ρ ebF) : ATold ρ (ebA 57 true) (ebT 57 true) (ebW 57 true) true := aTold f ebA_run57t
theorem at57f {ρ : Env} (f : FactsOk ρ ebF) : ATold ρ (ebA 57 false) (ebT 57 false) (ebW 57 false) false := aTold f ebA_run57f
theorem at58t {ρ : Env} (f : FactsOk ρ ebF) : ATold ρ (ebA 58 true) (ebT 58 true) (ebW 58 true) true := aTold f ebA_run58t
theorem at58f {ρ : Env} (f : FactsOk ρ ebF) : ATold ρ (ebA 58 false) (ebT 58 false) (ebW 58 false) false := aTold f ebA_run58f
theorem at59t {ρ : Env} (f : FactsOk ρ ebF) : ATold ρ (ebA 59 true) (ebT 59 true) (ebW 59 true) true := aTold f ebA_run59t
theorem at59f {ρ : Env} (f : FactsOk ρ ebF) : ATold ρ (ebA 59 false) (ebT 59 false) (ebW 59 false) false := aTold f ebA_run59f
theorem at60t {ρ : Env} (f : FactsOk ρ ebF) : ATold ρ (ebA 60 true) (ebT 60 true) (ebW 60 true) true := aTold f ebA_run60t
theorem at60f {ρ : Env} (f : FactsOk ρ ebF) : ATold ρ (ebA 60 false) (ebT 60 false) (ebW 60 false) false := aTold f ebA_run60f
theorem at61t {ρ : Env} (f : FactsOk ρ ebF) : ATold ρ (ebA 61 true) (ebT 61 true) (ebW 61 true) true := aTold f ebA_run61t
theorem at61f {ρ : Env} (f : FactsOk ρ ebF) : ATold ρ (ebA 61 false) (ebT 61 false) (ebW 61 false) false := aTold f ebA_run61f
theorem at62t {ρ : Env} (f : FactsOk ρ ebF) : ATold ρ (ebA 62 true) (ebT 62 true) (ebW 62 true) true := aTold f ebA_run62t
theorem at62f {ρ : Env} (f : FactsOk ρ ebF) : ATold ρ (ebA 62 false) (ebT 62 false) (ebW 62 false) false := aTold f ebA_run62f
theorem at63t {ρ : Env} (f : FactsOk ρ ebF) : ATold ρ (ebA 63 true) (ebT 63 true) (ebW 63 true) true := aTold f ebA_run63t
theorem at63f {ρ : Env} (f : FactsOk ρ ebF) : ATold ρ (ebA 63 false) (ebT 63 false) (ebW 63 false) false := aTold f ebA_run63f
/-- The parts of a word, as variables. -/
def eaE (ρ : Env) (w u pc q : Int) : Env := ⟨fun i => match i with | 1 => u | 3 => pc | 12 => q | 0 => w % 16384 | 4 => w / 16384 % 4 | 5 => w / 65536 % 1024 | _ => 0, ρ.B, ρ.S, ρ.F⟩
theorem eaF {ρ : Env} {w u pc q : Int} (h0 : 0 ≤ w) (h1 : w ≤ 4294967295) (h2 : 0 ≤ u) (h3 : u ≤ 16777215) (h4 : 0 ≤ pc) (h5 : pc ≤ 4294967295) (h6 : 0 ≤ q) (h7 : q ≤ 3) : FactsOk (eaE ρ w u pc q) ebF := by
  intro p hp
  simp only [ebF, List.mem_cons, List.not_mem_nil, or_false] at hp
  rcases hp with rfl | rfl | rfl | rfl | rfl | rfl | rfl | rfl | rfl | rfl | rfl | rfl
  all_goals (refine decide_eq_true ?_; simp only [den, eaE]; omega)
theorem wordX_den {ρ : Env} {w u pc q : Int} (h0 : 0 ≤ w) (h1 : w ≤ 4294967295) (h6 : 0 ≤ q) (h7 : q ≤ 3) : (den (eaE ρ w u pc q) (wordX (w / 67108864))).i = w := by
  simp only [wordX, den, eaE, binI]
  obtain ⟨p0, e0⟩ : ∃ p, w % 16384 = p := ⟨_, rfl⟩
  obtain ⟨p4, e4⟩ : ∃ p, w / 16384 % 4 = p := ⟨_, rfl⟩
  obtain ⟨p5, e5⟩ : ∃ p, w / 65536 % 1024 = p := ⟨_, rfl⟩
  obtain ⟨c, ec⟩ : ∃ c, w / 67108864 = c := ⟨_, rfl⟩
  have b0 : 0 ≤ p0 ∧ p0 ≤ 16383 := by omega
  have b4 : 0 ≤ p4 ∧ p4 ≤ 3 := by omega
  have b5 : 0 ≤ p5 ∧ p5 ≤ 1023 := by omega
  have bc : 0 ≤ c ∧ c ≤ 63 := by omega
  have d0 : w = 16384 * (w / 16384) + p0 := by omega
  have d4 : w / 16384 = 4 * (w / 65536) + p4 := by rw [← e4]; clear e4; first | omega | (have z := Int.mul_ediv_add_emod (w / 16384) 4; rw [Int.ediv_ediv_of_nonneg (by decide)] at z; omega)
  have d5 : w / 65536 = 1024 * (w / 67108864) + p5 := by rw [← e5]; clear e5; first | omega | (have z := Int.mul_ediv_add_emod (w / 65536) 1024; rw [Int.ediv_ediv_of_nonneg (by decide)] at z; omega)
  have hw : w = c * 67108864 + p0 + p4 * 16384 + p5 * 65536 := by omega
  rw [e0, e4, e5, ec]
  rw [w32k (x := p5 * 65536) (by omega) (by omega), w32k (x := p4 * 16384) (by omega) (by omega), w32k (x := p0 + c * 67108864) (by omega) (by omega), w32k (x := p4 * 16384 + (p0 + c * 67108864)) (by omega) (by omega), w32k (by omega) (by omega)]
  first | omega | (rw [e4]; omega)
theorem turnX_den {ρ : Env} {w u pc q : Int} (h0 : 0 ≤ w) (h1 : w ≤ 4294967295) (h6 : 0 ≤ q) (h7 : q ≤ 3) : (den (eaE ρ w u pc q) (turnX (w / 67108864))).i = w - w / 16384 % 4 * 16384 + q * 16384 := by
  simp only [turnX, den, eaE, binI]
  obtain ⟨p0, e0⟩ : ∃ p, w % 16384 = p := ⟨_, rfl⟩
  obtain ⟨p4, e4⟩ : ∃ p, w / 16384 % 4 = p := ⟨_, rfl⟩
  obtain ⟨p5, e5⟩ : ∃ p, w / 65536 % 1024 = p := ⟨_, rfl⟩
  obtain ⟨c, ec⟩ : ∃ c, w / 67108864 = c := ⟨_, rfl⟩
  have b0 : 0 ≤ p0 ∧ p0 ≤ 16383 := by omega
  have b4 : 0 ≤ p4 ∧ p4 ≤ 3 := by omega
  have b5 : 0 ≤ p5 ∧ p5 ≤ 1023 := by omega
  have bc : 0 ≤ c ∧ c ≤ 63 := by omega
  have d0 : w = 16384 * (w / 16384) + p0 := by omega
  have d4 : w / 16384 = 4 * (w / 65536) + p4 := by rw [← e4]; clear e4; first | omega | (have z := Int.mul_ediv_add_emod (w / 16384) 4; rw [Int.ediv_ediv_of_nonneg (by decide)] at z; omega)
  have d5 : w / 65536 = 1024 * (w / 67108864) + p5 := by rw [← e5]; clear e5; first | omega | (have z := Int.mul_ediv_add_emod (w / 65536) 1024; rw [Int.ediv_ediv_of_nonneg (by decide)] at z; omega)
  have hw : w = c * 67108864 + p0 + p4 * 16384 + p5 * 65536 := by omega
  rw [e0, e5, ec]
  rw [w32k (x := p5 * 65536) (by omega) (by omega), w32k (x := q * 16384) (by omega) (by omega), w32k (x := p0 + c * 67108864) (by omega) (by omega), w32k (x := q * 16384 + (p0 + c * 67108864)) (by omega) (by omega), w32k (by omega) (by omega)]
  first | omega | (rw [e4]; omega)
theorem clearX_den {ρ : Env} {w u pc q : Int} (h0 : 0 ≤ w) (h1 : w ≤ 4294967295) (h6 : 0 ≤ q) (h7 : q ≤ 3) : (den (eaE ρ w u pc q) (clearX (w / 67108864))).i = w - w / 16384 % 4 * 16384 := by
  simp only [clearX, den, eaE, binI]
  obtain ⟨p0, e0⟩ : ∃ p, w % 16384 = p := ⟨_, rfl⟩
  obtain ⟨p4, e4⟩ : ∃ p, w / 16384 % 4 = p := ⟨_, rfl⟩
  obtain ⟨p5, e5⟩ : ∃ p, w / 65536 % 1024 = p := ⟨_, rfl⟩
  obtain ⟨c, ec⟩ : ∃ c, w / 67108864 = c := ⟨_, rfl⟩
  have b0 : 0 ≤ p0 ∧ p0 ≤ 16383 := by omega
  have b4 : 0 ≤ p4 ∧ p4 ≤ 3 := by omega
  have b5 : 0 ≤ p5 ∧ p5 ≤ 1023 := by omega
  have bc : 0 ≤ c ∧ c ≤ 63 := by omega
  have d0 : w = 16384 * (w / 16384) + p0 := by omega
  have d4 : w / 16384 = 4 * (w / 65536) + p4 := by rw [← e4]; clear e4; first | omega | (have z := Int.mul_ediv_add_emod (w / 16384) 4; rw [Int.ediv_ediv_of_nonneg (by decide)] at z; omega)
  have d5 : w / 65536 = 1024 * (w / 67108864) + p5 := by rw [← e5]; clear e5; first | omega | (have z := Int.mul_ediv_add_emod (w / 65536) 1024; rw [Int.ediv_ediv_of_nonneg (by decide)] at z; omega)
  have hw : w = c * 67108864 + p0 + p4 * 16384 + p5 * 65536 := by omega
  rw [e0, e5, ec]
  rw [w32k (x := p5 * 65536) (by omega) (by omega), w32k (x := 0 * 16384) (by omega) (by omega), w32k (x := p0 + c * 67108864) (by omega) (by omega), w32k (x := 0 * 16384 + (p0 + c * 67108864)) (by omega) (by omega), w32k (by omega) (by omega)]
  first | omega | (rw [e4]; omega)
/-- The parts of a word, as variables. -/
def eaE24 (ρ : Env) (w u pc q : Int) : Env := ⟨fun i => match i with | 1 => u | 3 => pc | 12 => q | 6 => w % 2 | 0 => w / 2 % 256 | 7 => w / 512 % 8 | 8 => w / 4096 % 2 | 9 => w / 8192 % 2 | 4 => w / 16384 % 4 | 5 => w / 65536 % 1024 | _ => 0, ρ.B, ρ.S, ρ.F⟩
theorem eaF24 {ρ : Env} {w u pc q : Int} (h0 : 0 ≤ w) (h1 : w ≤ 4294967295) (h2 : 0 ≤ u) (h3 : u ≤ 16777215) (h4 : 0 ≤ pc) (h5 : pc ≤ 4294967295) (h6 : 0 ≤ q) (h7 : q ≤ 3) : FactsOk (eaE24 ρ w u pc q) ebF24 := by
  intro p hp
  simp only [ebF24, List.mem_cons, List.not_mem_nil, or_false] at hp
  rcases hp with rfl | rfl | rfl | rfl | rfl | rfl | rfl | rfl | rfl | rfl | rfl | rfl | rfl | rfl | rfl | rfl | rfl | rfl | rfl | rfl
  all_goals (refine decide_eq_true ?_; simp only [den, eaE24]; omega)
theorem wordX24_den {ρ : Env} {w u pc q : Int} (h0 : 0 ≤ w) (h1 : w ≤ 4294967295) (h6 : 0 ≤ q) (h7 : q ≤ 3) : (den (eaE24 ρ w u pc q) (wordX24 (w / 67108864))).i = w := by
  simp only [wordX24, den, eaE24, binI]
  obtain ⟨p6, e6⟩ : ∃ p, w % 2 = p := ⟨_, rfl⟩
  obtain ⟨p0, e0⟩ : ∃ p, w / 2 % 256 = p := ⟨_, rfl⟩
  obtain ⟨p7, e7⟩ : ∃ p, w / 512 % 8 = p := ⟨_, rfl⟩
  obtain ⟨p8, e8⟩ : ∃ p, w / 4096 % 2 = p := ⟨_, rfl⟩
  obtain ⟨p9, e9⟩ : ∃ p, w / 8192 % 2 = p := ⟨_, rfl⟩
  obtain ⟨p4, e4⟩ : ∃ p, w / 16384 % 4 = p := ⟨_, rfl⟩
  obtain ⟨p5, e5⟩ : ∃ p, w / 65536 % 1024 = p := ⟨_, rfl⟩
  obtain ⟨c, ec⟩ : ∃ c, w / 67108864 = c := ⟨_, rfl⟩
  have b6 : 0 ≤ p6 ∧ p6 ≤ 1 := by omega
  have b0 : 0 ≤ p0 ∧ p0 ≤ 255 := by omega
  have b7 : 0 ≤ p7 ∧ p7 ≤ 7 := by omega
  have b8 : 0 ≤ p8 ∧ p8 ≤ 1 := by omega
  have b9 : 0 ≤ p9 ∧ p9 ≤ 1 := by omega
  have b4 : 0 ≤ p4 ∧ p4 ≤ 3 := by omega
  have b5 : 0 ≤ p5 ∧ p5 ≤ 1023 := by omega
  have bc : 0 ≤ c ∧ c ≤ 63 := by omega
  have d6 : w = 2 * (w / 2) + p6 := by omega
  have d0 : w / 2 = 256 * (w / 512) + p0 := by rw [← e0]; clear e0; first | omega | (have z := Int.mul_ediv_add_emod (w / 2) 256; rw [Int.ediv_ediv_of_nonneg (by decide)] at z; omega)
  have d7 : w / 512 = 8 * (w / 4096) + p7 := by rw [← e7]; clear e7; first | omega | (have z := Int.mul_ediv_add_emod (w / 512) 8; rw [Int.ediv_ediv_of_nonneg (by decide)] at z; omega)
  have d8 : w / 4096 = 2 * (w / 8192) + p8 := by rw [← e8]; clear e8; first | omega | (have z := Int.mul_ediv_add_emod (w / 4096) 2; rw [Int.ediv_ediv_of_nonneg (by decide)] at z; omega)
  have d9 : w / 8192 = 2 * (w / 16384) + p9 := by rw [← e9]; clear e9; first | omega | (have z := Int.mul_ediv_add_emod (w / 8192) 2; rw [Int.ediv_ediv_of_nonneg (by decide)] at z; omega)
  have d4 : w / 16384 = 4 * (w / 65536) + p4 := by rw [← e4]; clear e4; first | omega | (have z := Int.mul_ediv_add_emod (w / 16384) 4; rw [Int.ediv_ediv_of_nonneg (by decide)] at z; omega)
  have d5 : w / 65536 = 1024 * (w / 67108864) + p5 := by rw [← e5]; clear e5; first | omega | (have z := Int.mul_ediv_add_emod (w / 65536) 1024; rw [Int.ediv_ediv_of_nonneg (by decide)] at z; omega)
  have hw : w = c * 67108864 + p6 + p0 * 2 + p7 * 512 + p8 * 4096 + p9 * 8192 + p4 * 16384 + p5 * 65536 := by omega
  rw [e6, e0, e7, e8, e9, e4, e5, ec]
  rw [w64k (x := p6 + (c * 67108864)) (by omega) (by omega)]
  rw [w64k (x := p0 * 2) (by omega) (by omega)]
  rw [w64k (x := p0 * 2 + (p6 + (c * 67108864))) (by omega) (by omega)]
  rw [w64k (x := p7 * 512) (by omega) (by omega)]
  rw [w64k (x := p7 * 512 + (p0 * 2 + (p6 + (c * 67108864)))) (by omega) (by omega)]
  rw [w64k (x := p8 * 4096) (by omega) (by omega)]
  rw [w64k (x := p8 * 4096 + (p7 * 512 + (p0 * 2 + (p6 + (c * 67108864))))) (by omega) (by omega)]
  rw [w64k (x := p9 * 8192) (by omega) (by omega)]
  rw [w64k (x := p9 * 8192 + (p8 * 4096 + (p7 * 512 + (p0 * 2 + (p6 + (c * 67108864)))))) (by omega) (by omega)]
  rw [w64k (x := p4 * 16384) (by omega) (by omega)]
  rw [w64k (x := p4 * 16384 + (p9 * 8192 + (p8 * 4096 + (p7 * 512 + (p0 * 2 + (p6 + (c * 67108864))))))) (by omega) (by omega)]
  rw [w64k (x := p5 * 65536) (by omega) (by omega)]
  rw [w64k (x := p5 * 65536 + (p4 * 16384 + (p9 * 8192 + (p8 * 4096 + (p7 * 512 + (p0 * 2 + (p6 + (c * 67108864)))))))) (by omega) (by omega)]
  first | omega | (rw [e4]; omega)
theorem turnX24_den {ρ : Env} {w u pc q : Int} (h0 : 0 ≤ w) (h1 : w ≤ 4294967295) (h6 : 0 ≤ q) (h7 : q ≤ 3) : (den (eaE24 ρ w u pc q) (turnX24 (w / 67108864))).i = w - w / 16384 % 4 * 16384 + q * 16384 := by
  simp only [turnX24, den, eaE24, binI]
  obtain ⟨p6, e6⟩ : ∃ p, w % 2 = p := ⟨_, rfl⟩
  obtain ⟨p0, e0⟩ : ∃ p, w / 2 % 256 = p := ⟨_, rfl⟩
  obtain ⟨p7, e7⟩ : ∃ p, w / 512 % 8 = p := ⟨_, rfl⟩
  obtain ⟨p8, e8⟩ : ∃ p, w / 4096 % 2 = p := ⟨_, rfl⟩
  obtain ⟨p9, e9⟩ : ∃ p, w / 8192 % 2 = p := ⟨_, rfl⟩
  obtain ⟨p4, e4⟩ : ∃ p, w / 16384 % 4 = p := ⟨_, rfl⟩
  obtain ⟨p5, e5⟩ : ∃ p, w / 65536 % 1024 = p := ⟨_, rfl⟩
  obtain ⟨c, ec⟩ : ∃ c, w / 67108864 = c := ⟨_, rfl⟩
  have b6 : 0 ≤ p6 ∧ p6 ≤ 1 := by omega
  have b0 : 0 ≤ p0 ∧ p0 ≤ 255 := by omega
  have b7 : 0 ≤ p7 ∧ p7 ≤ 7 := by omega
  have b8 : 0 ≤ p8 ∧ p8 ≤ 1 := by omega
  have b9 : 0 ≤ p9 ∧ p9 ≤ 1 := by omega
  have b4 : 0 ≤ p4 ∧ p4 ≤ 3 := by omega
  have b5 : 0 ≤ p5 ∧ p5 ≤ 1023 := by omega
  have bc : 0 ≤ c ∧ c ≤ 63 := by omega
  have d6 : w = 2 * (w / 2) + p6 := by omega
  have d0 : w / 2 = 256 * (w / 512) + p0 := by rw [← e0]; clear e0; first | omega | (have z := Int.mul_ediv_add_emod (w / 2) 256; rw [Int.ediv_ediv_of_nonneg (by decide)] at z; omega)
  have d7 : w / 512 = 8 * (w / 4096) + p7 := by rw [← e7]; clear e7; first | omega | (have z := Int.mul_ediv_add_emod (w / 512) 8; rw [Int.ediv_ediv_of_nonneg (by decide)] at z; omega)
  have d8 : w / 4096 = 2 * (w / 8192) + p8 := by rw [← e8]; clear e8; first | omega | (have z := Int.mul_ediv_add_emod (w / 4096) 2; rw [Int.ediv_ediv_of_nonneg (by decide)] at z; omega)
  have d9 : w / 8192 = 2 * (w / 16384) + p9 := by rw [← e9]; clear e9; first | omega | (have z := Int.mul_ediv_add_emod (w / 8192) 2; rw [Int.ediv_ediv_of_nonneg (by decide)] at z; omega)
  have d4 : w / 16384 = 4 * (w / 65536) + p4 := by rw [← e4]; clear e4; first | omega | (have z := Int.mul_ediv_add_emod (w / 16384) 4; rw [Int.ediv_ediv_of_nonneg (by decide)] at z; omega)
  have d5 : w / 65536 = 1024 * (w / 67108864) + p5 := by rw [← e5]; clear e5; first | omega | (have z := Int.mul_ediv_add_emod (w / 65536) 1024; rw [Int.ediv_ediv_of_nonneg (by decide)] at z; omega)
  have hw : w = c * 67108864 + p6 + p0 * 2 + p7 * 512 + p8 * 4096 + p9 * 8192 + p4 * 16384 + p5 * 65536 := by omega
  rw [e6, e0, e7, e8, e9, e5, ec]
  rw [w64k (x := p6 + (c * 67108864)) (by omega) (by omega)]
  rw [w64k (x := p0 * 2) (by omega) (by omega)]
  rw [w64k (x := p0 * 2 + (p6 + (c * 67108864))) (by omega) (by omega)]
  rw [w64k (x := p7 * 512) (by omega) (by omega)]
  rw [w64k (x := p7 * 512 + (p0 * 2 + (p6 + (c * 67108864)))) (by omega) (by omega)]
  rw [w64k (x := p8 * 4096) (by omega) (by omega)]
  rw [w64k (x := p8 * 4096 + (p7 * 512 + (p0 * 2 + (p6 + (c * 67108864))))) (by omega) (by omega)]
  rw [w64k (x := p9 * 8192) (by omega) (by omega)]
  rw [w64k (x := p9 * 8192 + (p8 * 4096 + (p7 * 512 + (p0 * 2 + (p6 + (c * 67108864)))))) (by omega) (by omega)]
  rw [w64k (x := q * 16384) (by omega) (by omega)]
  rw [w64k (x := q * 16384 + (p9 * 8192 + (p8 * 4096 + (p7 * 512 + (p0 * 2 + (p6 + (c * 67108864))))))) (by omega) (by omega)]
  rw [w64k (x := p5 * 65536) (by omega) (by omega)]
  rw [w64k (x := p5 * 65536 + (q * 16384 + (p9 * 8192 + (p8 * 4096 + (p7 * 512 + (p0 * 2 + (p6 + (c * 67108864)))))))) (by omega) (by omega)]
  first | omega | (rw [e4]; omega)
theorem clearX24_den {ρ : Env} {w u pc q : Int} (h0 : 0 ≤ w) (h1 : w ≤ 4294967295) (h6 : 0 ≤ q) (h7 : q ≤ 3) : (den (eaE24 ρ w u pc q) (clearX24 (w / 67108864))).i = w - w / 16384 % 4 * 16384 := by
  simp only [clearX24, den, eaE24, binI]
  obtain ⟨p6, e6⟩ : ∃ p, w % 2 = p := ⟨_, rfl⟩
  obtain ⟨p0, e0⟩ : ∃ p, w / 2 % 256 = p := ⟨_, rfl⟩
  obtain ⟨p7, e7⟩ : ∃ p, w / 512 % 8 = p := ⟨_, rfl⟩
  obtain ⟨p8, e8⟩ : ∃ p, w / 4096 % 2 = p := ⟨_, rfl⟩
  obtain ⟨p9, e9⟩ : ∃ p, w / 8192 % 2 = p := ⟨_, rfl⟩
  obtain ⟨p4, e4⟩ : ∃ p, w / 16384 % 4 = p := ⟨_, rfl⟩
  obtain ⟨p5, e5⟩ : ∃ p, w / 65536 % 1024 = p := ⟨_, rfl⟩
  obtain ⟨c, ec⟩ : ∃ c, w / 67108864 = c := ⟨_, rfl⟩
  have b6 : 0 ≤ p6 ∧ p6 ≤ 1 := by omega
  have b0 : 0 ≤ p0 ∧ p0 ≤ 255 := by omega
  have b7 : 0 ≤ p7 ∧ p7 ≤ 7 := by omega
  have b8 : 0 ≤ p8 ∧ p8 ≤ 1 := by omega
  have b9 : 0 ≤ p9 ∧ p9 ≤ 1 := by omega
  have b4 : 0 ≤ p4 ∧ p4 ≤ 3 := by omega
  have b5 : 0 ≤ p5 ∧ p5 ≤ 1023 := by omega
  have bc : 0 ≤ c ∧ c ≤ 63 := by omega
  have d6 : w = 2 * (w / 2) + p6 := by omega
  have d0 : w / 2 = 256 * (w / 512) + p0 := by rw [← e0]; clear e0; first | omega | (have z := Int.mul_ediv_add_emod (w / 2) 256; rw [Int.ediv_ediv_of_nonneg (by decide)] at z; omega)
  have d7 : w / 512 = 8 * (w / 4096) + p7 := by rw [← e7]; clear e7; first | omega | (have z := Int.mul_ediv_add_emod (w / 512) 8; rw [Int.ediv_ediv_of_nonneg (by decide)] at z; omega)
  have d8 : w / 4096 = 2 * (w / 8192) + p8 := by rw [← e8]; clear e8; first | omega | (have z := Int.mul_ediv_add_emod (w / 4096) 2; rw [Int.ediv_ediv_of_nonneg (by decide)] at z; omega)
  have d9 : w / 8192 = 2 * (w / 16384) + p9 := by rw [← e9]; clear e9; first | omega | (have z := Int.mul_ediv_add_emod (w / 8192) 2; rw [Int.ediv_ediv_of_nonneg (by decide)] at z; omega)
  have d4 : w / 16384 = 4 * (w / 65536) + p4 := by rw [← e4]; clear e4; first | omega | (have z := Int.mul_ediv_add_emod (w / 16384) 4; rw [Int.ediv_ediv_of_nonneg (by decide)] at z; omega)
  have d5 : w / 65536 = 1024 * (w / 67108864) + p5 := by rw [← e5]; clear e5; first | omega | (have z := Int.mul_ediv_add_emod (w / 65536) 1024; rw [Int.ediv_ediv_of_nonneg (by decide)] at z; omega)
  have hw : w = c * 67108864 + p6 + p0 * 2 + p7 * 512 + p8 * 4096 + p9 * 8192 + p4 * 16384 + p5 * 65536 := by omega
  rw [e6, e0, e7, e8, e9, e5, ec]
  rw [w64k (x := p6 + (c * 67108864)) (by omega) (by omega)]
  rw [w64k (x := p0 * 2) (by omega) (by omega)]
  rw [w64k (x := p0 * 2 + (p6 + (c * 67108864))) (by omega) (by omega)]
  rw [w64k (x := p7 * 512) (by omega) (by omega)]
  rw [w64k (x := p7 * 512 + (p0 * 2 + (p6 + (c * 67108864)))) (by omega) (by omega)]
  rw [w64k (x := p8 * 4096) (by omega) (by omega)]
  rw [w64k (x := p8 * 4096 + (p7 * 512 + (p0 * 2 + (p6 + (c * 67108864))))) (by omega) (by omega)]
  rw [w64k (x := p9 * 8192) (by omega) (by omega)]
  rw [w64k (x := p9 * 8192 + (p8 * 4096 + (p7 * 512 + (p0 * 2 + (p6 + (c * 67108864)))))) (by omega) (by omega)]
  rw [w64k (x := 0 * 16384) (by omega) (by omega)]
  rw [w64k (x := 0 * 16384 + (p9 * 8192 + (p8 * 4096 + (p7 * 512 + (p0 * 2 + (p6 + (c * 67108864))))))) (by omega) (by omega)]
  rw [w64k (x := p5 * 65536) (by omega) (by omega)]
  rw [w64k (x := p5 * 65536 + (0 * 16384 + (p9 * 8192 + (p8 * 4096 + (p7 * 512 + (p0 * 2 + (p6 + (c * 67108864)))))))) (by omega) (by omega)]
  first | omega | (rw [e4]; omega)
/-- The parts of a word, as variables. -/
def eaE27 (ρ : Env) (w u pc q : Int) : Env := ⟨fun i => match i with | 1 => u | 3 => pc | 12 => q | 0 => w % 16384 | 4 => w / 16384 % 4 | 5 => w / 65536 % 16 | 6 => w / 1048576 % 2 | 7 => w / 2097152 % 32 | _ => 0, ρ.B, ρ.S, ρ.F⟩
theorem eaF27 {ρ : Env} {w u pc q : Int} (h0 : 0 ≤ w) (h1 : w ≤ 4294967295) (h2 : 0 ≤ u) (h3 : u ≤ 16777215) (h4 : 0 ≤ pc) (h5 : pc ≤ 4294967295) (h6 : 0 ≤ q) (h7 : q ≤ 3) : FactsOk (eaE27 ρ w u pc q) ebF27 := by
  intro p hp
  simp only [ebF27, List.mem_cons, List.not_mem_nil, or_false] at hp
  rcases hp with rfl | rfl | rfl | rfl | rfl | rfl | rfl | rfl | rfl | rfl | rfl | rfl | rfl | rfl | rfl | rfl
  all_goals (refine decide_eq_true ?_; simp only [den, eaE27]; omega)
theorem wordX27_den {ρ : Env} {w u pc q : Int} (h0 : 0 ≤ w) (h1 : w ≤ 4294967295) (h6 : 0 ≤ q) (h7 : q ≤ 3) : (den (eaE27 ρ w u pc q) (wordX27 (w / 67108864))).i = w := by
  simp only [wordX27, den, eaE27, binI]
  obtain ⟨p0, e0⟩ : ∃ p, w % 16384 = p := ⟨_, rfl⟩
  obtain ⟨p4, e4⟩ : ∃ p, w / 16384 % 4 = p := ⟨_, rfl⟩
  obtain ⟨p5, e5⟩ : ∃ p, w / 65536 % 16 = p := ⟨_, rfl⟩
  obtain ⟨p6, e6⟩ : ∃ p, w / 1048576 % 2 = p := ⟨_, rfl⟩
  obtain ⟨p7, e7⟩ : ∃ p, w / 2097152 % 32 = p := ⟨_, rfl⟩
  obtain ⟨c, ec⟩ : ∃ c, w / 67108864 = c := ⟨_, rfl⟩
  have b0 : 0 ≤ p0 ∧ p0 ≤ 16383 := by omega
  have b4 : 0 ≤ p4 ∧ p4 ≤ 3 := by omega
  have b5 : 0 ≤ p5 ∧ p5 ≤ 15 := by omega
  have b6 : 0 ≤ p6 ∧ p6 ≤ 1 := by omega
  have b7 : 0 ≤ p7 ∧ p7 ≤ 31 := by omega
  have bc : 0 ≤ c ∧ c ≤ 63 := by omega
  have d0 : w = 16384 * (w / 16384) + p0 := by omega
  have d4 : w / 16384 = 4 * (w / 65536) + p4 := by rw [← e4]; clear e4; first | omega | (have z := Int.mul_ediv_add_emod (w / 16384) 4; rw [Int.ediv_ediv_of_nonneg (by decide)] at z; omega)
  have d5 : w / 65536 = 16 * (w / 1048576) + p5 := by rw [← e5]; clear e5; first | omega | (have z := Int.mul_ediv_add_emod (w / 65536) 16; rw [Int.ediv_ediv_of_nonneg (by decide)] at z; omega)
  have d6 : w / 1048576 = 2 * (w / 2097152) + p6 := by rw [← e6]; clear e6; first | omega | (have z := Int.mul_ediv_add_emod (w / 1048576) 2; rw [Int.ediv_ediv_of_nonneg (by decide)] at z; omega)
  have d7 : w / 2097152 = 32 * (w / 67108864) + p7 := by rw [← e7]; clear e7; first | omega | (have z := Int.mul_ediv_add_emod (w / 2097152) 32; rw [Int.ediv_ediv_of_nonneg (by decide)] at z; omega)
  have hw : w = c * 67108864 + p0 + p4 * 16384 + p5 * 65536 + p6 * 1048576 + p7 * 2097152 := by omega
  rw [e0, e4, e5, e6, e7, ec]
  rw [w64k (x := p0 + (c * 67108864)) (by omega) (by omega)]
  rw [w64k (x := p4 * 16384) (by omega) (by omega)]
  rw [w64k (x := p4 * 16384 + (p0 + (c * 67108864))) (by omega) (by omega)]
  rw [w64k (x := p5 * 65536) (by omega) (by omega)]
  rw [w64k (x := p5 * 65536 + (p4 * 16384 + (p0 + (c * 67108864)))) (by omega) (by omega)]
  rw [w64k (x := p6 * 1048576) (by omega) (by omega)]
  rw [w64k (x := p6 * 1048576 + (p5 * 65536 + (p4 * 16384 + (p0 + (c * 67108864))))) (by omega) (by omega)]
  rw [w64k (x := p7 * 2097152) (by omega) (by omega)]
  rw [w64k (x := p7 * 2097152 + (p6 * 1048576 + (p5 * 65536 + (p4 * 16384 + (p0 + (c * 67108864)))))) (by omega) (by omega)]
  first | omega | (rw [e4]; omega)
theorem turnX27_den {ρ : Env} {w u pc q : Int} (h0 : 0 ≤ w) (h1 : w ≤ 4294967295) (h6 : 0 ≤ q) (h7 : q ≤ 3) : (den (eaE27 ρ w u pc q) (turnX27 (w / 67108864))).i = w - w / 16384 % 4 * 16384 + q * 16384 := by
  simp only [turnX27, den, eaE27, binI]
  obtain ⟨p0, e0⟩ : ∃ p, w % 16384 = p := ⟨_, rfl⟩
  obtain ⟨p4, e4⟩ : ∃ p, w / 16384 % 4 = p := ⟨_, rfl⟩
  obtain ⟨p5, e5⟩ : ∃ p, w / 65536 % 16 = p := ⟨_, rfl⟩
  obtain ⟨p6, e6⟩ : ∃ p, w / 1048576 % 2 = p := ⟨_, rfl⟩
  obtain ⟨p7, e7⟩ : ∃ p, w / 2097152 % 32 = p := ⟨_, rfl⟩
  obtain ⟨c, ec⟩ : ∃ c, w / 67108864 = c := ⟨_, rfl⟩
  have b0 : 0 ≤ p0 ∧ p0 ≤ 16383 := by omega
  have b4 : 0 ≤ p4 ∧ p4 ≤ 3 := by omega
  have b5 : 0 ≤ p5 ∧ p5 ≤ 15 := by omega
  have b6 : 0 ≤ p6 ∧ p6 ≤ 1 := by omega
  have b7 : 0 ≤ p7 ∧ p7 ≤ 31 := by omega
  have bc : 0 ≤ c ∧ c ≤ 63 := by omega
  have d0 : w = 16384 * (w / 16384) + p0 := by omega
  have d4 : w / 16384 = 4 * (w / 65536) + p4 := by rw [← e4]; clear e4; first | omega | (have z := Int.mul_ediv_add_emod (w / 16384) 4; rw [Int.ediv_ediv_of_nonneg (by decide)] at z; omega)
  have d5 : w / 65536 = 16 * (w / 1048576) + p5 := by rw [← e5]; clear e5; first | omega | (have z := Int.mul_ediv_add_emod (w / 65536) 16; rw [Int.ediv_ediv_of_nonneg (by decide)] at z; omega)
  have d6 : w / 1048576 = 2 * (w / 2097152) + p6 := by rw [← e6]; clear e6; first | omega | (have z := Int.mul_ediv_add_emod (w / 1048576) 2; rw [Int.ediv_ediv_of_nonneg (by decide)] at z; omega)
  have d7 : w / 2097152 = 32 * (w / 67108864) + p7 := by rw [← e7]; clear e7; first | omega | (have z := Int.mul_ediv_add_emod (w / 2097152) 32; rw [Int.ediv_ediv_of_nonneg (by decide)] at z; omega)
  have hw : w = c * 67108864 + p0 + p4 * 16384 + p5 * 65536 + p6 * 1048576 + p7 * 2097152 := by omega
  rw [e0, e5, e6, e7, ec]
  rw [w64k (x := p0 + (c * 67108864)) (by omega) (by omega)]
  rw [w64k (x := q * 16384) (by omega) (by omega)]
  rw [w64k (x := q * 16384 + (p0 + (c * 67108864))) (by omega) (by omega)]
  rw [w64k (x := p5 * 65536) (by omega) (by omega)]
  rw [w64k (x := p5 * 65536 + (q * 16384 + (p0 + (c * 67108864)))) (by omega) (by omega)]
  rw [w64k (x := p6 * 1048576) (by omega) (by omega)]
  rw [w64k (x := p6 * 1048576 + (p5 * 65536 + (q * 16384 + (p0 + (c * 67108864))))) (by omega) (by omega)]
  rw [w64k (x := p7 * 2097152) (by omega) (by omega)]
  rw [w64k (x := p7 * 2097152 + (p6 * 1048576 + (p5 * 65536 + (q * 16384 + (p0 + (c * 67108864)))))) (by omega) (by omega)]
  first | omega | (rw [e4]; omega)
theorem clearX27_den {ρ : Env} {w u pc q : Int} (h0 : 0 ≤ w) (h1 : w ≤ 4294967295) (h6 : 0 ≤ q) (h7 : q ≤ 3) : (den (eaE27 ρ w u pc q) (clearX27 (w / 67108864))).i = w - w / 16384 % 4 * 16384 := by
  simp only [clearX27, den, eaE27, binI]
  obtain ⟨p0, e0⟩ : ∃ p, w % 16384 = p := ⟨_, rfl⟩
  obtain ⟨p4, e4⟩ : ∃ p, w / 16384 % 4 = p := ⟨_, rfl⟩
  obtain ⟨p5, e5⟩ : ∃ p, w / 65536 % 16 = p := ⟨_, rfl⟩
  obtain ⟨p6, e6⟩ : ∃ p, w / 1048576 % 2 = p := ⟨_, rfl⟩
  obtain ⟨p7, e7⟩ : ∃ p, w / 2097152 % 32 = p := ⟨_, rfl⟩
  obtain ⟨c, ec⟩ : ∃ c, w / 67108864 = c := ⟨_, rfl⟩
  have b0 : 0 ≤ p0 ∧ p0 ≤ 16383 := by omega
  have b4 : 0 ≤ p4 ∧ p4 ≤ 3 := by omega
  have b5 : 0 ≤ p5 ∧ p5 ≤ 15 := by omega
  have b6 : 0 ≤ p6 ∧ p6 ≤ 1 := by omega
  have b7 : 0 ≤ p7 ∧ p7 ≤ 31 := by omega
  have bc : 0 ≤ c ∧ c ≤ 63 := by omega
  have d0 : w = 16384 * (w / 16384) + p0 := by omega
  have d4 : w / 16384 = 4 * (w / 65536) + p4 := by rw [← e4]; clear e4; first | omega | (have z := Int.mul_ediv_add_emod (w / 16384) 4; rw [Int.ediv_ediv_of_nonneg (by decide)] at z; omega)
  have d5 : w / 65536 = 16 * (w / 1048576) + p5 := by rw [← e5]; clear e5; first | omega | (have z := Int.mul_ediv_add_emod (w / 65536) 16; rw [Int.ediv_ediv_of_nonneg (by decide)] at z; omega)
  have d6 : w / 1048576 = 2 * (w / 2097152) + p6 := by rw [← e6]; clear e6; first | omega | (have z := Int.mul_ediv_add_emod (w / 1048576) 2; rw [Int.ediv_ediv_of_nonneg (by decide)] at z; omega)
  have d7 : w / 2097152 = 32 * (w / 67108864) + p7 := by rw [← e7]; clear e7; first | omega | (have z := Int.mul_ediv_add_emod (w / 2097152) 32; rw [Int.ediv_ediv_of_nonneg (by decide)] at z; omega)
  have hw : w = c * 67108864 + p0 + p4 * 16384 + p5 * 65536 + p6 * 1048576 + p7 * 2097152 := by omega
  rw [e0, e5, e6, e7, ec]
  rw [w64k (x := p0 + (c * 67108864)) (by omega) (by omega)]
  rw [w64k (x := 0 * 16384) (by omega) (by omega)]
  rw [w64k (x := 0 * 16384 + (p0 + (c * 67108864))) (by omega) (by omega)]
  rw [w64k (x := p5 * 65536) (by omega) (by omega)]
  rw [w64k (x := p5 * 65536 + (0 * 16384 + (p0 + (c * 67108864)))) (by omega) (by omega)]
  rw [w64k (x := p6 * 1048576) (by omega) (by omega)]
  rw [w64k (x := p6 * 1048576 + (p5 * 65536 + (0 * 16384 + (p0 + (c * 67108864))))) (by omega) (by omega)]
  rw [w64k (x := p7 * 2097152) (by omega) (by omega)]
  rw [w64k (x := p7 * 2097152 + (p6 * 1048576 + (p5 * 65536 + (0 * 16384 + (p0 + (c * 67108864)))))) (by omega) (by omega)]
  first | omega | (rw [e4]; omega)
/-- The parts of a word, as variables. -/
def eaE30 (ρ : Env) (w u pc q : Int) : Env := ⟨fun i => match i with | 1 => u | 3 => pc | 12 => q | 0 => w % 2048 | 6 => w / 2048 % 8 | 4 => w / 16384 % 4 | 5 => w / 65536 % 32 | 7 => w / 2097152 % 8 | 8 => w / 16777216 % 2 | 9 => w / 33554432 % 2 | _ => 0, ρ.B, ρ.S, ρ.F⟩
theorem eaF30 {ρ : Env} {w u pc q : Int} (h0 : 0 ≤ w) (h1 : w ≤ 4294967295) (h2 : 0 ≤ u) (h3 : u ≤ 16777215) (h4 : 0 ≤ pc) (h5 : pc ≤ 4294967295) (h6 : 0 ≤ q) (h7 : q ≤ 3) : FactsOk (eaE30 ρ w u pc q) ebF30 := by
  intro p hp
  simp only [ebF30, List.mem_cons, List.not_mem_nil, or_false] at hp
  rcases hp with rfl | rfl | rfl | rfl | rfl | rfl | rfl | rfl | rfl | rfl | rfl | rfl | rfl | rfl | rfl | rfl | rfl | rfl | rfl | rfl
  all_goals (refine decide_eq_true ?_; simp only [den, eaE30]; omega)
theorem wordX30_den {ρ : Env} {w u pc q : Int} (h0 : 0 ≤ w) (h1 : w ≤ 4294967295) (h6 : 0 ≤ q) (h7 : q ≤ 3) : (den (eaE30 ρ w u pc q) (wordX30 (w / 67108864))).i = w := by
  simp only [wordX30, den, eaE30, binI]
  obtain ⟨p0, e0⟩ : ∃ p, w % 2048 = p := ⟨_, rfl⟩
  obtain ⟨p6, e6⟩ : ∃ p, w / 2048 % 8 = p := ⟨_, rfl⟩
  obtain ⟨p4, e4⟩ : ∃ p, w / 16384 % 4 = p := ⟨_, rfl⟩
  obtain ⟨p5, e5⟩ : ∃ p, w / 65536 % 32 = p := ⟨_, rfl⟩
  obtain ⟨p7, e7⟩ : ∃ p, w / 2097152 % 8 = p := ⟨_, rfl⟩
  obtain ⟨p8, e8⟩ : ∃ p, w / 16777216 % 2 = p := ⟨_, rfl⟩
  obtain ⟨p9, e9⟩ : ∃ p, w / 33554432 % 2 = p := ⟨_, rfl⟩
  obtain ⟨c, ec⟩ : ∃ c, w / 67108864 = c := ⟨_, rfl⟩
  have b0 : 0 ≤ p0 ∧ p0 ≤ 2047 := by omega
  have b6 : 0 ≤ p6 ∧ p6 ≤ 7 := by omega
  have b4 : 0 ≤ p4 ∧ p4 ≤ 3 := by omega
  have b5 : 0 ≤ p5 ∧ p5 ≤ 31 := by omega
  have b7 : 0 ≤ p7 ∧ p7 ≤ 7 := by omega
  have b8 : 0 ≤ p8 ∧ p8 ≤ 1 := by omega
  have b9 : 0 ≤ p9 ∧ p9 ≤ 1 := by omega
  have bc : 0 ≤ c ∧ c ≤ 63 := by omega
  have d0 : w = 2048 * (w / 2048) + p0 := by omega
  have d6 : w / 2048 = 8 * (w / 16384) + p6 := by rw [← e6]; clear e6; first | omega | (have z := Int.mul_ediv_add_emod (w / 2048) 8; rw [Int.ediv_ediv_of_nonneg (by decide)] at z; omega)
  have d4 : w / 16384 = 4 * (w / 65536) + p4 := by rw [← e4]; clear e4; first | omega | (have z := Int.mul_ediv_add_emod (w / 16384) 4; rw [Int.ediv_ediv_of_nonneg (by decide)] at z; omega)
  have d5 : w / 65536 = 32 * (w / 2097152) + p5 := by rw [← e5]; clear e5; first | omega | (have z := Int.mul_ediv_add_emod (w / 65536) 32; rw [Int.ediv_ediv_of_nonneg (by decide)] at z; omega)
  have d7 : w / 2097152 = 8 * (w / 16777216) + p7 := by rw [← e7]; clear e7; first | omega | (have z := Int.mul_ediv_add_emod (w / 2097152) 8; rw [Int.ediv_ediv_of_nonneg (by decide)] at z; omega)
  have d8 : w / 16777216 = 2 * (w / 33554432) + p8 := by rw [← e8]; clear e8; first | omega | (have z := Int.mul_ediv_add_emod (w / 16777216) 2; rw [Int.ediv_ediv_of_nonneg (by decide)] at z; omega)
  have d9 : w / 33554432 = 2 * (w / 67108864) + p9 := by rw [← e9]; clear e9; first | omega | (have z := Int.mul_ediv_add_emod (w / 33554432) 2; rw [Int.ediv_ediv_of_nonneg (by decide)] at z; omega)
  have hw : w = c * 67108864 + p0 + p6 * 2048 + p4 * 16384 + p5 * 65536 + p7 * 2097152 + p8 * 16777216 + p9 * 33554432 := by omega
  rw [e0, e6, e4, e5, e7, e8, e9, ec]
  rw [w64k (x := p0 + (c * 67108864)) (by omega) (by omega)]
  rw [w64k (x := p6 * 2048) (by omega) (by omega)]
  rw [w64k (x := p6 * 2048 + (p0 + (c * 67108864))) (by omega) (by omega)]
  rw [w64k (x := p4 * 16384) (by omega) (by omega)]
  rw [w64k (x := p4 * 16384 + (p6 * 2048 + (p0 + (c * 67108864)))) (by omega) (by omega)]
  rw [w64k (x := p5 * 65536) (by omega) (by omega)]
  rw [w64k (x := p5 * 65536 + (p4 * 16384 + (p6 * 2048 + (p0 + (c * 67108864))))) (by omega) (by omega)]
  rw [w64k (x := p7 * 2097152) (by omega) (by omega)]
  rw [w64k (x := p7 * 2097152 + (p5 * 65536 + (p4 * 16384 + (p6 * 2048 + (p0 + (c * 67108864)))))) (by omega) (by omega)]
  rw [w64k (x := p8 * 16777216) (by omega) (by omega)]
  rw [w64k (x := p8 * 16777216 + (p7 * 2097152 + (p5 * 65536 + (p4 * 16384 + (p6 * 2048 + (p0 + (c * 67108864))))))) (by omega) (by omega)]
  rw [w64k (x := p9 * 33554432) (by omega) (by omega)]
  rw [w64k (x := p9 * 33554432 + (p8 * 16777216 + (p7 * 2097152 + (p5 * 65536 + (p4 * 16384 + (p6 * 2048 + (p0 + (c * 67108864)))))))) (by omega) (by omega)]
  first | omega | (rw [e4]; omega)
theorem turnX30_den {ρ : Env} {w u pc q : Int} (h0 : 0 ≤ w) (h1 : w ≤ 4294967295) (h6 : 0 ≤ q) (h7 : q ≤ 3) : (den (eaE30 ρ w u pc q) (turnX30 (w / 67108864))).i = w - w / 16384 % 4 * 16384 + q * 16384 := by
  simp only [turnX30, den, eaE30, binI]
  obtain ⟨p0, e0⟩ : ∃ p, w % 2048 = p := ⟨_, rfl⟩
  obtain ⟨p6, e6⟩ : ∃ p, w / 2048 % 8 = p := ⟨_, rfl⟩
  obtain ⟨p4, e4⟩ : ∃ p, w / 16384 % 4 = p := ⟨_, rfl⟩
  obtain ⟨p5, e5⟩ : ∃ p, w / 65536 % 32 = p := ⟨_, rfl⟩
  obtain ⟨p7, e7⟩ : ∃ p, w / 2097152 % 8 = p := ⟨_, rfl⟩
  obtain ⟨p8, e8⟩ : ∃ p, w / 16777216 % 2 = p := ⟨_, rfl⟩
  obtain ⟨p9, e9⟩ : ∃ p, w / 33554432 % 2 = p := ⟨_, rfl⟩
  obtain ⟨c, ec⟩ : ∃ c, w / 67108864 = c := ⟨_, rfl⟩
  have b0 : 0 ≤ p0 ∧ p0 ≤ 2047 := by omega
  have b6 : 0 ≤ p6 ∧ p6 ≤ 7 := by omega
  have b4 : 0 ≤ p4 ∧ p4 ≤ 3 := by omega
  have b5 : 0 ≤ p5 ∧ p5 ≤ 31 := by omega
  have b7 : 0 ≤ p7 ∧ p7 ≤ 7 := by omega
  have b8 : 0 ≤ p8 ∧ p8 ≤ 1 := by omega
  have b9 : 0 ≤ p9 ∧ p9 ≤ 1 := by omega
  have bc : 0 ≤ c ∧ c ≤ 63 := by omega
  have d0 : w = 2048 * (w / 2048) + p0 := by omega
  have d6 : w / 2048 = 8 * (w / 16384) + p6 := by rw [← e6]; clear e6; first | omega | (have z := Int.mul_ediv_add_emod (w / 2048) 8; rw [Int.ediv_ediv_of_nonneg (by decide)] at z; omega)
  have d4 : w / 16384 = 4 * (w / 65536) + p4 := by rw [← e4]; clear e4; first | omega | (have z := Int.mul_ediv_add_emod (w / 16384) 4; rw [Int.ediv_ediv_of_nonneg (by decide)] at z; omega)
  have d5 : w / 65536 = 32 * (w / 2097152) + p5 := by rw [← e5]; clear e5; first | omega | (have z := Int.mul_ediv_add_emod (w / 65536) 32; rw [Int.ediv_ediv_of_nonneg (by decide)] at z; omega)
  have d7 : w / 2097152 = 8 * (w / 16777216) + p7 := by rw [← e7]; clear e7; first | omega | (have z := Int.mul_ediv_add_emod (w / 2097152) 8; rw [Int.ediv_ediv_of_nonneg (by decide)] at z; omega)
  have d8 : w / 16777216 = 2 * (w / 33554432) + p8 := by rw [← e8]; clear e8; first | omega | (have z := Int.mul_ediv_add_emod (w / 16777216) 2; rw [Int.ediv_ediv_of_nonneg (by decide)] at z; omega)
  have d9 : w / 33554432 = 2 * (w / 67108864) + p9 := by rw [← e9]; clear e9; first | omega | (have z := Int.mul_ediv_add_emod (w / 33554432) 2; rw [Int.ediv_ediv_of_nonneg (by decide)] at z; omega)
  have hw : w = c * 67108864 + p0 + p6 * 2048 + p4 * 16384 + p5 * 65536 + p7 * 2097152 + p8 * 16777216 + p9 * 33554432 := by omega
  rw [e0, e6, e5, e7, e8, e9, ec]
  rw [w64k (x := p0 + (c * 67108864)) (by omega) (by omega)]
  rw [w64k (x := p6 * 2048) (by omega) (by omega)]
  rw [w64k (x := p6 * 2048 + (p0 + (c * 67108864))) (by omega) (by omega)]
  rw [w64k (x := q * 16384) (by omega) (by omega)]
  rw [w64k (x := q * 16384 + (p6 * 2048 + (p0 + (c * 67108864)))) (by omega) (by omega)]
  rw [w64k (x := p5 * 65536) (by omega) (by omega)]
  rw [w64k (x := p5 * 65536 + (q * 16384 + (p6 * 2048 + (p0 + (c * 67108864))))) (by omega) (by omega)]
  rw [w64k (x := p7 * 2097152) (by omega) (by omega)]
  rw [w64k (x := p7 * 2097152 + (p5 * 65536 + (q * 16384 + (p6 * 2048 + (p0 + (c * 67108864)))))) (by omega) (by omega)]
  rw [w64k (x := p8 * 16777216) (by omega) (by omega)]
  rw [w64k (x := p8 * 16777216 + (p7 * 2097152 + (p5 * 65536 + (q * 16384 + (p6 * 2048 + (p0 + (c * 67108864))))))) (by omega) (by omega)]
  rw [w64k (x := p9 * 33554432) (by omega) (by omega)]
  rw [w64k (x := p9 * 33554432 + (p8 * 16777216 + (p7 * 2097152 + (p5 * 65536 + (q * 16384 + (p6 * 2048 + (p0 + (c * 67108864)))))))) (by omega) (by omega)]
  first | omega | (rw [e4]; omega)
theorem clearX30_den {ρ : Env} {w u pc q : Int} (h0 : 0 ≤ w) (h1 : w ≤ 4294967295) (h6 : 0 ≤ q) (h7 : q ≤ 3) : (den (eaE30 ρ w u pc q) (clearX30 (w / 67108864))).i = w - w / 16384 % 4 * 16384 := by
  simp only [clearX30, den, eaE30, binI]
  obtain ⟨p0, e0⟩ : ∃ p, w % 2048 = p := ⟨_, rfl⟩
  obtain ⟨p6, e6⟩ : ∃ p, w / 2048 % 8 = p := ⟨_, rfl⟩
  obtain ⟨p4, e4⟩ : ∃ p, w / 16384 % 4 = p := ⟨_, rfl⟩
  obtain ⟨p5, e5⟩ : ∃ p, w / 65536 % 32 = p := ⟨_, rfl⟩
  obtain ⟨p7, e7⟩ : ∃ p, w / 2097152 % 8 = p := ⟨_, rfl⟩
  obtain ⟨p8, e8⟩ : ∃ p, w / 16777216 % 2 = p := ⟨_, rfl⟩
  obtain ⟨p9, e9⟩ : ∃ p, w / 33554432 % 2 = p := ⟨_, rfl⟩
  obtain ⟨c, ec⟩ : ∃ c, w / 67108864 = c := ⟨_, rfl⟩
  have b0 : 0 ≤ p0 ∧ p0 ≤ 2047 := by omega
  have b6 : 0 ≤ p6 ∧ p6 ≤ 7 := by omega
  have b4 : 0 ≤ p4 ∧ p4 ≤ 3 := by omega
  have b5 : 0 ≤ p5 ∧ p5 ≤ 31 := by omega
  have b7 : 0 ≤ p7 ∧ p7 ≤ 7 := by omega
  have b8 : 0 ≤ p8 ∧ p8 ≤ 1 := by omega
  have b9 : 0 ≤ p9 ∧ p9 ≤ 1 := by omega
  have bc : 0 ≤ c ∧ c ≤ 63 := by omega
  have d0 : w = 2048 * (w / 2048) + p0 := by omega
  have d6 : w / 2048 = 8 * (w / 16384) + p6 := by rw [← e6]; clear e6; first | omega | (have z := Int.mul_ediv_add_emod (w / 2048) 8; rw [Int.ediv_ediv_of_nonneg (by decide)] at z; omega)
  have d4 : w / 16384 = 4 * (w / 65536) + p4 := by rw [← e4]; clear e4; first | omega | (have z := Int.mul_ediv_add_emod (w / 16384) 4; rw [Int.ediv_ediv_of_nonneg (by decide)] at z; omega)
  have d5 : w / 65536 = 32 * (w / 2097152) + p5 := by rw [← e5]; clear e5; first | omega | (have z := Int.mul_ediv_add_emod (w / 65536) 32; rw [Int.ediv_ediv_of_nonneg (by decide)] at z; omega)
  have d7 : w / 2097152 = 8 * (w / 16777216) + p7 := by rw [← e7]; clear e7; first | omega | (have z := Int.mul_ediv_add_emod (w / 2097152) 8; rw [Int.ediv_ediv_of_nonneg (by decide)] at z; omega)
  have d8 : w / 16777216 = 2 * (w / 33554432) + p8 := by rw [← e8]; clear e8; first | omega | (have z := Int.mul_ediv_add_emod (w / 16777216) 2; rw [Int.ediv_ediv_of_nonneg (by decide)] at z; omega)
  have d9 : w / 33554432 = 2 * (w / 67108864) + p9 := by rw [← e9]; clear e9; first | omega | (have z := Int.mul_ediv_add_emod (w / 33554432) 2; rw [Int.ediv_ediv_of_nonneg (by decide)] at z; omega)
  have hw : w = c * 67108864 + p0 + p6 * 2048 + p4 * 16384 + p5 * 65536 + p7 * 2097152 + p8 * 16777216 + p9 * 33554432 := by omega
  rw [e0, e6, e5, e7, e8, e9, ec]
  rw [w64k (x := p0 + (c * 67108864)) (by omega) (by omega)]
  rw [w64k (x := p6 * 2048) (by omega) (by omega)]
  rw [w64k (x := p6 * 2048 + (p0 + (c * 67108864))) (by omega) (by omega)]
  rw [w64k (x := 0 * 16384) (by omega) (by omega)]
  rw [w64k (x := 0 * 16384 + (p6 * 2048 + (p0 + (c * 67108864)))) (by omega) (by omega)]
  rw [w64k (x := p5 * 65536) (by omega) (by omega)]
  rw [w64k (x := p5 * 65536 + (0 * 16384 + (p6 * 2048 + (p0 + (c * 67108864))))) (by omega) (by omega)]
  rw [w64k (x := p7 * 2097152) (by omega) (by omega)]
  rw [w64k (x := p7 * 2097152 + (p5 * 65536 + (0 * 16384 + (p6 * 2048 + (p0 + (c * 67108864)))))) (by omega) (by omega)]
  rw [w64k (x := p8 * 16777216) (by omega) (by omega)]
  rw [w64k (x := p8 * 16777216 + (p7 * 2097152 + (p5 * 65536 + (0 * 16384 + (p6 * 2048 + (p0 + (c * 67108864))))))) (by omega) (by omega)]
  rw [w64k (x := p9 * 33554432) (by omega) (by omega)]
  rw [w64k (x := p9 * 33554432 + (p8 * 16777216 + (p7 * 2097152 + (p5 * 65536 + (0 * 16384 + (p6 * 2048 + (p0 + (c * 67108864)))))))) (by omega) (by omega)]
  first | omega | (rw [e4]; omega)

/-- What a word says, at any parse bits, and its word. -/
def SidesA (w u pc q : Int) (b : Bool) : Prop := ∃ XI XB ok, CallsTo CX06 6 [wV .u32 w, wV .u32 u, blV b, wV .u32 pc] (.tuple [xV XI XB, blV ok]) ∧
  CallsTo CX06 6 [wV .u32 (w - w / 16384 % 4 * 16384 + q * 16384), wV .u32 u, blV b, wV .u32 pc] (.tuple [xV XI XB, blV ok]) ∧
  (ok = true → XB 8 = b ∧ CallsTo CX06 7 [xV XI XB, wV .u32 pc] (.tuple [wV .u32 (w - w / 16384 % 4 * 16384), wV .u32 u, blV true]) ∧ CallsTo CX06 8 [xV XI XB] (blV true))

theorem sidesA_v {ρ : Env} {w u pc q : Int} {b : Bool} (h0 : 0 ≤ w) (h1 : w ≤ 4294967295) (h6 : 0 ≤ q) (h7 : q ≤ 3) (hu : b = false → u = 0) (h : ATold (eaE ρ w u pc q) (ebA (w / 67108864) b) (ebT (w / 67108864) b) (ebW (w / 67108864) b) b) : SidesA w u pc q b := by
  have e1 : concs (eaE ρ w u pc q) (ebA (w / 67108864) b) = [wV .u32 w, wV .u32 u, blV b, wV .u32 pc] := by
    cases b <;> simp only [ebA, ebU, cond_true, _root_.cond_false, concs, conc, concT, STy.val, wordX_den h0 h1 h6 h7]
    · rw [hu rfl]; rfl
    · rfl
  have e2 : concs (eaE ρ w u pc q) (ebT (w / 67108864) b) = [wV .u32 (w - w / 16384 % 4 * 16384 + q * 16384), wV .u32 u, blV b, wV .u32 pc] := by
    cases b <;> simp only [ebT, ebU, cond_true, _root_.cond_false, concs, conc, concT, STy.val, turnX_den h0 h1 h6 h7]
    · rw [hu rfl]; rfl
    · rfl
  have e3 : conc (eaE ρ w u pc q) (ebW (w / 67108864) b) = .tuple [wV .u32 (w - w / 16384 % 4 * 16384), wV .u32 u, blV true] := by
    cases b <;> simp only [ebW, ebU, cond_true, _root_.cond_false, concs, conc, concT, STy.val, clearX_den h0 h1 h6 h7]
    · rw [hu rfl]; rfl
    · rfl
  unfold ATold at h
  rw [e1, e2, e3] at h
  exact h

theorem sidesA_v24 {ρ : Env} {w u pc q : Int} {b : Bool} (h0 : 0 ≤ w) (h1 : w ≤ 4294967295) (h6 : 0 ≤ q) (h7 : q ≤ 3) (hu : b = false → u = 0) (h : ATold (eaE24 ρ w u pc q) (ebA24 (w / 67108864) b) (ebT24 (w / 67108864) b) (ebW24 (w / 67108864) b) b) : SidesA w u pc q b := by
  have e1 : concs (eaE24 ρ w u pc q) (ebA24 (w / 67108864) b) = [wV .u32 w, wV .u32 u, blV b, wV .u32 pc] := by
    cases b <;> simp only [ebA24, ebU24, cond_true, _root_.cond_false, concs, conc, concT, STy.val, wordX24_den h0 h1 h6 h7]
    · rw [hu rfl]; rfl
    · rfl
  have e2 : concs (eaE24 ρ w u pc q) (ebT24 (w / 67108864) b) = [wV .u32 (w - w / 16384 % 4 * 16384 + q * 16384), wV .u32 u, blV b, wV .u32 pc] := by
    cases b <;> simp only [ebT24, ebU24, cond_true, _root_.cond_false, concs, conc, concT, STy.val, turnX24_den h0 h1 h6 h7]
    · rw [hu rfl]; rfl
    · rfl
  have e3 : conc (eaE24 ρ w u pc q) (ebW24 (w / 67108864) b) = .tuple [wV .u32 (w - w / 16384 % 4 * 16384), wV .u32 u, blV true] := by
    cases b <;> simp only [ebW24, ebU24, cond_true, _root_.cond_false, concs, conc, concT, STy.val, clearX24_den h0 h1 h6 h7]
    · rw [hu rfl]; rfl
    · rfl
  unfold ATold at h
  rw [e1, e2, e3] at h
  exact h

theorem sidesA_v27 {ρ : Env} {w u pc q : Int} {b : Bool} (h0 : 0 ≤ w) (h1 : w ≤ 4294967295) (h6 : 0 ≤ q) (h7 : q ≤ 3) (hu : b = false → u = 0) (h : ATold (eaE27 ρ w u pc q) (ebA27 (w / 67108864) b) (ebT27 (w / 67108864) b) (ebW27 (w / 67108864) b) b) : SidesA w u pc q b := by
  have e1 : concs (eaE27 ρ w u pc q) (ebA27 (w / 67108864) b) = [wV .u32 w, wV .u32 u, blV b, wV .u32 pc] := by
    cases b <;> simp only [ebA27, ebU27, cond_true, _root_.cond_false, concs, conc, concT, STy.val, wordX27_den h0 h1 h6 h7]
    · rw [hu rfl]; rfl
    · rfl
  have e2 : concs (eaE27 ρ w u pc q) (ebT27 (w / 67108864) b) = [wV .u32 (w - w / 16384 % 4 * 16384 + q * 16384), wV .u32 u, blV b, wV .u32 pc] := by
    cases b <;> simp only [ebT27, ebU27, cond_true, _root_.cond_false, concs, conc, concT, STy.val, turnX27_den h0 h1 h6 h7]
    · rw [hu rfl]; rfl
    · rfl
  have e3 : conc (eaE27 ρ w u pc q) (ebW27 (w / 67108864) b) = .tuple [wV .u32 (w - w / 16384 % 4 * 16384), wV .u32 u, blV true] := by
    cases b <;> simp only [ebW27, ebU27, cond_true, _root_.cond_false, concs, conc, concT, STy.val, clearX27_den h0 h1 h6 h7]
    · rw [hu rfl]; rfl
    · rfl
  unfold ATold at h
  rw [e1, e2, e3] at h
  exact h

theorem sidesA_v30 {ρ : Env} {w u pc q : Int} {b : Bool} (h0 : 0 ≤ w) (h1 : w ≤ 4294967295) (h6 : 0 ≤ q) (h7 : q ≤ 3) (hu : b = false → u = 0) (h : ATold (eaE30 ρ w u pc q) (ebA30 (w / 67108864) b) (ebT30 (w / 67108864) b) (ebW30 (w / 67108864) b) b) : SidesA w u pc q b := by
  have e1 : concs (eaE30 ρ w u pc q) (ebA30 (w / 67108864) b) = [wV .u32 w, wV .u32 u, blV b, wV .u32 pc] := by
    cases b <;> simp only [ebA30, ebU30, cond_true, _root_.cond_false, concs, conc, concT, STy.val, wordX30_den h0 h1 h6 h7]
    · rw [hu rfl]; rfl
    · rfl
  have e2 : concs (eaE30 ρ w u pc q) (ebT30 (w / 67108864) b) = [wV .u32 (w - w / 16384 % 4 * 16384 + q * 16384), wV .u32 u, blV b, wV .u32 pc] := by
    cases b <;> simp only [ebT30, ebU30, cond_true, _root_.cond_false, concs, conc, concT, STy.val, turnX30_den h0 h1 h6 h7]
    · rw [hu rfl]; rfl
    · rfl
  have e3 : conc (eaE30 ρ w u pc q) (ebW30 (w / 67108864) b) = .tuple [wV .u32 (w - w / 16384 % 4 * 16384), wV .u32 u, blV true] := by
    cases b <;> simp only [ebW30, ebU30, cond_true, _root_.cond_false, concs, conc, concT, STy.val, clearX30_den h0 h1 h6 h7]
    · rw [hu rfl]; rfl
    · rfl
  unfold ATold at h
  rw [e1, e2, e3] at h
  exact h

theorem sidesA {ρ : Env} {w u pc q : Int} {b : Bool} (h0 : 0 ≤ w) (h1 : w ≤ 4294967295) (h2 : 0 ≤ u) (h3 : u ≤ 16777215) (h4 : 0 ≤ pc) (h5 : pc ≤ 4294967295) (h6 : 0 ≤ q) (h7 : q ≤ 3) (hu : b = false → u = 0) : SidesA w u pc q b := by
  have h : w / 67108864 = 0 ∨ w / 67108864 = 1 ∨ w / 67108864 = 2 ∨ w / 67108864 = 3 ∨ w / 67108864 = 4 ∨ w / 67108864 = 5 ∨ w / 67108864 = 6 ∨ w / 67108864 = 7 ∨ w / 67108864 = 8 ∨ w / 67108864 = 9 ∨ w / 67108864 = 10 ∨ w / 67108864 = 11 ∨ w / 67108864 = 12 ∨ w / 67108864 = 13 ∨ w / 67108864 = 14 ∨ w / 67108864 = 15 ∨ w / 67108864 = 16 ∨ w / 67108864 = 17 ∨ w / 67108864 = 18 ∨ w / 67108864 = 19 ∨ w / 67108864 = 20 ∨ w / 67108864 = 21 ∨ w / 67108864 = 22 ∨ w / 67108864 = 23 ∨ w / 67108864 = 24 ∨ w / 67108864 = 25 ∨ w / 67108864 = 26 ∨ w / 67108864 = 27 ∨ w / 67108864 = 28 ∨ w / 67108864 = 29 ∨ w / 67108864 = 30 ∨ w / 67108864 = 31 ∨ w / 67108864 = 32 ∨ w / 67108864 = 33 ∨ w / 67108864 = 34 ∨ w / 67108864 = 35 ∨ w / 67108864 = 36 ∨ w / 67108864 = 37 ∨ w / 67108864 = 38 ∨ w / 67108864 = 39 ∨ w / 67108864 = 40 ∨ w / 67108864 = 41 ∨ w / 67108864 = 42 ∨ w / 67108864 = 43 ∨ w / 67108864 = 44 ∨ w / 67108864 = 45 ∨ w / 67108864 = 46 ∨ w / 67108864 = 47 ∨ w / 67108864 = 48 ∨ w / 67108864 = 49 ∨ w / 67108864 = 50 ∨ w / 67108864 = 51 ∨ w / 67108864 = 52 ∨ w / 67108864 = 53 ∨ w / 67108864 = 54 ∨ w / 67108864 = 55 ∨ w / 67108864 = 56 ∨ w / 67108864 = 57 ∨ w / 67108864 = 58 ∨ w / 67108864 = 59 ∨ w / 67108864 = 60 ∨ w / 67108864 = 61 ∨ w / 67108864 = 62 ∨ w / 67108864 = 63 := by omega
  rcases h with h | h | h | h | h | h | h | h | h | h | h | h | h | h | h | h | h | h | h | h | h | h | h | h | h | h | h | h | h | h | h | h | h | h | h | h | h | h | h | h | h | h | h | h | h | h | h | h | h | h | h | h | h | h | h | h | h | h | h | h | h | h | h | h
  · cases b with
    | true => exact sidesA_v (ρ := ρ) h0 h1 h6 h7 hu (by rw [h]; exact at0t (eaF h0 h1 h2 h3 h4 h5 h6 h7))
    | false => exact sidesA_v (ρ := ρ) h0 h1 h6 h7 hu (by rw [h]; exact at0f (eaF h0 h1 h2 h3 h4 h5 h6 h7))
  · cases b with
    | true => exact sidesA_v (ρ := ρ) h0 h1 h6 h7 hu (by rw [h]; exact at1t (eaF h0 h1 h2 h3 h4 h5 h6 h7))
    | false => exact sidesA_v (ρ := ρ) h0 h1 h6 h7 hu (by rw [h]; exact at1f (eaF h0 h1 h2 h3 h4 h5 h6 h7))
  · cases b with
    | true => exact sidesA_v (ρ := ρ) h0 h1 h6 h7 hu (by rw [h]; exact at2t (eaF h0 h1 h2 h3 h4 h5 h6 h7))
    | false => exact sidesA_v (ρ := ρ) h0 h1 h6 h7 hu (by rw [h]; exact at2f (eaF h0 h1 h2 h3 h4 h5 h6 h7))
  · cases b with
    | true => exact sidesA_v (ρ := ρ) h0 h1 h6 h7 hu (by rw [h]; exact at3t (eaF h0 h1 h2 h3 h4 h5 h6 h7))
    | false => exact sidesA_v (ρ := ρ) h0 h1 h6 h7 hu (by rw [h]; exact at3f (eaF h0 h1 h2 h3 h4 h5 h6 h7))
  · cases b with
    | true => exact sidesA_v (ρ := ρ) h0 h1 h6 h7 hu (by rw [h]; exact at4t (eaF h0 h1 h2 h3 h4 h5 h6 h7))
    | false => exact sidesA_v (ρ := ρ) h0 h1 h6 h7 hu (by rw [h]; exact at4f (eaF h0 h1 h2 h3 h4 h5 h6 h7))
  · cases b with
    | true => exact sidesA_v (ρ := ρ) h0 h1 h6 h7 hu (by rw [h]; exact at5t (eaF h0 h1 h2 h3 h4 h5 h6 h7))
    | false => exact sidesA_v (ρ := ρ) h0 h1 h6 h7 hu (by rw [h]; exact at5f (eaF h0 h1 h2 h3 h4 h5 h6 h7))
  · cases b with
    | true => exact sidesA_v (ρ := ρ) h0 h1 h6 h7 hu (by rw [h]; exact at6t (eaF h0 h1 h2 h3 h4 h5 h6 h7))
    | false => exact sidesA_v (ρ := ρ) h0 h1 h6 h7 hu (by rw [h]; exact at6f (eaF h0 h1 h2 h3 h4 h5 h6 h7))
  · cases b with
    | true => exact sidesA_v (ρ := ρ) h0 h1 h6 h7 hu (by rw [h]; exact at7t (eaF h0 h1 h2 h3 h4 h5 h6 h7))
    | false => exact sidesA_v (ρ := ρ) h0 h1 h6 h7 hu (by rw [h]; exact at7f (eaF h0 h1 h2 h3 h4 h5 h6 h7))
  · cases b with
    | true => exact sidesA_v (ρ := ρ) h0 h1 h6 h7 hu (by rw [h]; exact at8t (eaF h0 h1 h2 h3 h4 h5 h6 h7))
    | false => exact sidesA_v (ρ := ρ) h0 h1 h6 h7 hu (by rw [h]; exact at8f (eaF h0 h1 h2 h3 h4 h5 h6 h7))
  · cases b with
    | true => exact sidesA_v (ρ := ρ) h0 h1 h6 h7 hu (by rw [h]; exact at9t (eaF h0 h1 h2 h3 h4 h5 h6 h7))
    | false => exact sidesA_v (ρ := ρ) h0 h1 h6 h7 hu (by rw [h]; exact at9f (eaF h0 h1 h2 h3 h4 h5 h6 h7))
  · cases b with
    | true => exact sidesA_v (ρ := ρ) h0 h1 h6 h7 hu (by rw [h]; exact at10t (eaF h0 h1 h2 h3 h4 h5 h6 h7))
    | false => exact sidesA_v (ρ := ρ) h0 h1 h6 h7 hu (by rw [h]; exact at10f (eaF h0 h1 h2 h3 h4 h5 h6 h7))
  · cases b with
    | true => exact sidesA_v (ρ := ρ) h0 h1 h6 h7 hu (by rw [h]; exact at11t (eaF h0 h1 h2 h3 h4 h5 h6 h7))
    | false => exact sidesA_v (ρ := ρ) h0 h1 h6 h7 hu (by rw [h]; exact at11f (eaF h0 h1 h2 h3 h4 h5 h6 h7))
  · cases b with
    | true => exact sidesA_v (ρ := ρ) h0 h1 h6 h7 hu (by rw [h]; exact at12t (eaF h0 h1 h2 h3 h4 h5 h6 h7))
    | false => exact sidesA_v (ρ := ρ) h0 h1 h6 h7 hu (by rw [h]; exact at12f (eaF h0 h1 h2 h3 h4 h5 h6 h7))
  · cases b with
    | true => exact sidesA_v (ρ := ρ) h0 h1 h6 h7 hu (by rw [h]; exact at13t (eaF h0 h1 h2 h3 h4 h5 h6 h7))
    | false => exact sidesA_v (ρ := ρ) h0 h1 h6 h7 hu (by rw [h]; exact at13f (eaF h0 h1 h2 h3 h4 h5 h6 h7))
  · cases b with
    | true => exact sidesA_v (ρ := ρ) h0 h1 h6 h7 hu (by rw [h]; exact at14t (eaF h0 h1 h2 h3 h4 h5 h6 h7))
    | false => exact sidesA_v (ρ := ρ) h0 h1 h6 h7 hu (by rw [h]; exact at14f (eaF h0 h1 h2 h3 h4 h5 h6 h7))
  · cases b with
    | true => exact sidesA_v (ρ := ρ) h0 h1 h6 h7 hu (by rw [h]; exact at15t (eaF h0 h1 h2 h3 h4 h5 h6 h7))
    | false => exact sidesA_v (ρ := ρ) h0 h1 h6 h7 hu (by rw [h]; exact at15f (eaF h0 h1 h2 h3 h4 h5 h6 h7))
  · cases b with
    | true => exact sidesA_v (ρ := ρ) h0 h1 h6 h7 hu (by rw [h]; exact at16t (eaF h0 h1 h2 h3 h4 h5 h6 h7))
    | false => exact sidesA_v (ρ := ρ) h0 h1 h6 h7 hu (by rw [h]; exact at16f (eaF h0 h1 h2 h3 h4 h5 h6 h7))
  · cases b with
    | true => exact sidesA_v (ρ := ρ) h0 h1 h6 h7 hu (by rw [h]; exact at17t (eaF h0 h1 h2 h3 h4 h5 h6 h7))
    | false => exact sidesA_v (ρ := ρ) h0 h1 h6 h7 hu (by rw [h]; exact at17f (eaF h0 h1 h2 h3 h4 h5 h6 h7))
  · cases b with
    | true => exact sidesA_v (ρ := ρ) h0 h1 h6 h7 hu (by rw [h]; exact at18t (eaF h0 h1 h2 h3 h4 h5 h6 h7))
    | false => exact sidesA_v (ρ := ρ) h0 h1 h6 h7 hu (by rw [h]; exact at18f (eaF h0 h1 h2 h3 h4 h5 h6 h7))
  · cases b with
    | true => exact sidesA_v (ρ := ρ) h0 h1 h6 h7 hu (by rw [h]; exact at19t (eaF h0 h1 h2 h3 h4 h5 h6 h7))
    | false => exact sidesA_v (ρ := ρ) h0 h1 h6 h7 hu (by rw [h]; exact at19f (eaF h0 h1 h2 h3 h4 h5 h6 h7))
  · cases b with
    | true => exact sidesA_v (ρ := ρ) h0 h1 h6 h7 hu (by rw [h]; exact at20t (eaF h0 h1 h2 h3 h4 h5 h6 h7))
    | false => exact sidesA_v (ρ := ρ) h0 h1 h6 h7 hu (by rw [h]; exact at20f (eaF h0 h1 h2 h3 h4 h5 h6 h7))
  · cases b with
    | true => exact sidesA_v (ρ := ρ) h0 h1 h6 h7 hu (by rw [h]; exact at21t (eaF h0 h1 h2 h3 h4 h5 h6 h7))
    | false => exact sidesA_v (ρ := ρ) h0 h1 h6 h7 hu (by rw [h]; exact at21f (eaF h0 h1 h2 h3 h4 h5 h6 h7))
  · cases b with
    | true => exact sidesA_v (ρ := ρ) h0 h1 h6 h7 hu (by rw [h]; exact at22t (eaF h0 h1 h2 h3 h4 h5 h6 h7))
    | false => exact sidesA_v (ρ := ρ) h0 h1 h6 h7 hu (by rw [h]; exact at22f (eaF h0 h1 h2 h3 h4 h5 h6 h7))
  · cases b with
    | true => exact sidesA_v (ρ := ρ) h0 h1 h6 h7 hu (by rw [h]; exact at23t (eaF h0 h1 h2 h3 h4 h5 h6 h7))
    | false => exact sidesA_v (ρ := ρ) h0 h1 h6 h7 hu (by rw [h]; exact at23f (eaF h0 h1 h2 h3 h4 h5 h6 h7))
  · cases b with
    | true => exact sidesA_v24 (ρ := ρ) h0 h1 h6 h7 hu (by rw [h]; exact at24t (eaF24 h0 h1 h2 h3 h4 h5 h6 h7))
    | false => exact sidesA_v (ρ := ρ) h0 h1 h6 h7 hu (by rw [h]; exact at24f (eaF h0 h1 h2 h3 h4 h5 h6 h7))
  · cases b with
    | true => exact sidesA_v24 (ρ := ρ) h0 h1 h6 h7 hu (by rw [h]; exact at25t (eaF24 h0 h1 h2 h3 h4 h5 h6 h7))
    | false => exact sidesA_v (ρ := ρ) h0 h1 h6 h7 hu (by rw [h]; exact at25f (eaF h0 h1 h2 h3 h4 h5 h6 h7))
  · cases b with
    | true => exact sidesA_v24 (ρ := ρ) h0 h1 h6 h7 hu (by rw [h]; exact at26t (eaF24 h0 h1 h2 h3 h4 h5 h6 h7))
    | false => exact sidesA_v (ρ := ρ) h0 h1 h6 h7 hu (by rw [h]; exact at26f (eaF h0 h1 h2 h3 h4 h5 h6 h7))
  · cases b with
    | true => exact sidesA_v27 (ρ := ρ) h0 h1 h6 h7 hu (by rw [h]; exact at27t (eaF27 h0 h1 h2 h3 h4 h5 h6 h7))
    | false => exact sidesA_v27 (ρ := ρ) h0 h1 h6 h7 hu (by rw [h]; exact at27f (eaF27 h0 h1 h2 h3 h4 h5 h6 h7))
  · cases b with
    | true => exact sidesA_v (ρ := ρ) h0 h1 h6 h7 hu (by rw [h]; exact at28t (eaF h0 h1 h2 h3 h4 h5 h6 h7))
    | false => exact sidesA_v (ρ := ρ) h0 h1 h6 h7 hu (by rw [h]; exact at28f (eaF h0 h1 h2 h3 h4 h5 h6 h7))
  · cases b with
    | true => exact sidesA_v (ρ := ρ) h0 h1 h6 h7 hu (by rw [h]; exact at29t (eaF h0 h1 h2 h3 h4 h5 h6 h7))
    | false => exact sidesA_v (ρ := ρ) h0 h1 h6 h7 hu (by rw [h]; exact at29f (eaF h0 h1 h2 h3 h4 h5 h6 h7))
  · cases b with
    | true => exact sidesA_v30 (ρ := ρ) h0 h1 h6 h7 hu (by rw [h]; exact at30t (eaF30 h0 h1 h2 h3 h4 h5 h6 h7))
    | false => exact sidesA_v30 (ρ := ρ) h0 h1 h6 h7 hu (by rw [h]; exact at30f (eaF30 h0 h1 h2 h3 h4 h5 h6 h7))
  · cases b with
    | true => exact sidesA_v30 (ρ := ρ) h0 h1 h6 h7 hu (by rw [h]; exact at31t (eaF30 h0 h1 h2 h3 h4 h5 h6 h7))
    | false => exact sidesA_v30 (ρ := ρ) h0 h1 h6 h7 hu (by rw [h]; exact at31f (eaF30 h0 h1 h2 h3 h4 h5 h6 h7))
  · cases b with
    | true => exact sidesA_v (ρ := ρ) h0 h1 h6 h7 hu (by rw [h]; exact at32t (eaF h0 h1 h2 h3 h4 h5 h6 h7))
    | false => exact sidesA_v (ρ := ρ) h0 h1 h6 h7 hu (by rw [h]; exact at32f (eaF h0 h1 h2 h3 h4 h5 h6 h7))
  · cases b with
    | true => exact sidesA_v (ρ := ρ) h0 h1 h6 h7 hu (by rw [h]; exact at33t (eaF h0 h1 h2 h3 h4 h5 h6 h7))
    | false => exact sidesA_v (ρ := ρ) h0 h1 h6 h7 hu (by rw [h]; exact at33f (eaF h0 h1 h2 h3 h4 h5 h6 h7))
  · cases b with
    | true => exact sidesA_v (ρ := ρ) h0 h1 h6 h7 hu (by rw [h]; exact at34t (eaF h0 h1 h2 h3 h4 h5 h6 h7))
    | false => exact sidesA_v (ρ := ρ) h0 h1 h6 h7 hu (by rw [h]; exact at34f (eaF h0 h1 h2 h3 h4 h5 h6 h7))
  · cases b with
    | true => exact sidesA_v (ρ := ρ) h0 h1 h6 h7 hu (by rw [h]; exact at35t (eaF h0 h1 h2 h3 h4 h5 h6 h7))
    | false => exact sidesA_v (ρ := ρ) h0 h1 h6 h7 hu (by rw [h]; exact at35f (eaF h0 h1 h2 h3 h4 h5 h6 h7))
  · cases b with
    | true => exact sidesA_v (ρ := ρ) h0 h1 h6 h7 hu (by rw [h]; exact at36t (eaF h0 h1 h2 h3 h4 h5 h6 h7))
    | false => exact sidesA_v (ρ := ρ) h0 h1 h6 h7 hu (by rw [h]; exact at36f (eaF h0 h1 h2 h3 h4 h5 h6 h7))
  · cases b with
    | true => exact sidesA_v (ρ := ρ) h0 h1 h6 h7 hu (by rw [h]; exact at37t (eaF h0 h1 h2 h3 h4 h5 h6 h7))
    | false => exact sidesA_v (ρ := ρ) h0 h1 h6 h7 hu (by rw [h]; exact at37f (eaF h0 h1 h2 h3 h4 h5 h6 h7))
  · cases b with
    | true => exact sidesA_v (ρ := ρ) h0 h1 h6 h7 hu (by rw [h]; exact at38t (eaF h0 h1 h2 h3 h4 h5 h6 h7))
    | false => exact sidesA_v (ρ := ρ) h0 h1 h6 h7 hu (by rw [h]; exact at38f (eaF h0 h1 h2 h3 h4 h5 h6 h7))
  · cases b with
    | true => exact sidesA_v (ρ := ρ) h0 h1 h6 h7 hu (by rw [h]; exact at39t (eaF h0 h1 h2 h3 h4 h5 h6 h7))
    | false => exact sidesA_v (ρ := ρ) h0 h1 h6 h7 hu (by rw [h]; exact at39f (eaF h0 h1 h2 h3 h4 h5 h6 h7))
  · cases b with
    | true => exact sidesA_v (ρ := ρ) h0 h1 h6 h7 hu (by rw [h]; exact at40t (eaF h0 h1 h2 h3 h4 h5 h6 h7))
    | false => exact sidesA_v (ρ := ρ) h0 h1 h6 h7 hu (by rw [h]; exact at40f (eaF h0 h1 h2 h3 h4 h5 h6 h7))
  · cases b with
    | true => exact sidesA_v (ρ := ρ) h0 h1 h6 h7 hu (by rw [h]; exact at41t (eaF h0 h1 h2 h3 h4 h5 h6 h7))
    | false => exact sidesA_v (ρ := ρ) h0 h1 h6 h7 hu (by rw [h]; exact at41f (eaF h0 h1 h2 h3 h4 h5 h6 h7))
  · cases b with
    | true => exact sidesA_v (ρ := ρ) h0 h1 h6 h7 hu (by rw [h]; exact at42t (eaF h0 h1 h2 h3 h4 h5 h6 h7))
    | false => exact sidesA_v (ρ := ρ) h0 h1 h6 h7 hu (by rw [h]; exact at42f (eaF h0 h1 h2 h3 h4 h5 h6 h7))
  · cases b with
    | true => exact sidesA_v (ρ := ρ) h0 h1 h6 h7 hu (by rw [h]; exact at43t (eaF h0 h1 h2 h3 h4 h5 h6 h7))
    | false => exact sidesA_v (ρ := ρ) h0 h1 h6 h7 hu (by rw [h]; exact at43f (eaF h0 h1 h2 h3 h4 h5 h6 h7))
  · cases b with
    | true => exact sidesA_v (ρ := ρ) h0 h1 h6 h7 hu (by rw [h]; exact at44t (eaF h0 h1 h2 h3 h4 h5 h6 h7))
    | false => exact sidesA_v (ρ := ρ) h0 h1 h6 h7 hu (by rw [h]; exact at44f (eaF h0 h1 h2 h3 h4 h5 h6 h7))
  · cases b with
    | true => exact sidesA_v (ρ := ρ) h0 h1 h6 h7 hu (by rw [h]; exact at45t (eaF h0 h1 h2 h3 h4 h5 h6 h7))
    | false => exact sidesA_v (ρ := ρ) h0 h1 h6 h7 hu (by rw [h]; exact at45f (eaF h0 h1 h2 h3 h4 h5 h6 h7))
  · cases b with
    | true => exact sidesA_v (ρ := ρ) h0 h1 h6 h7 hu (by rw [h]; exact at46t (eaF h0 h1 h2 h3 h4 h5 h6 h7))
    | false => exact sidesA_v (ρ := ρ) h0 h1 h6 h7 hu (by rw [h]; exact at46f (eaF h0 h1 h2 h3 h4 h5 h6 h7))
  · cases b with
    | true => exact sidesA_v (ρ := ρ) h0 h1 h6 h7 hu (by rw [h]; exact at47t (eaF h0 h1 h2 h3 h4 h5 h6 h7))
    | false => exact sidesA_v (ρ := ρ) h0 h1 h6 h7 hu (by rw [h]; exact at47f (eaF h0 h1 h2 h3 h4 h5 h6 h7))
  · cases b with
    | true => exact sidesA_v (ρ := ρ) h0 h1 h6 h7 hu (by rw [h]; exact at48t (eaF h0 h1 h2 h3 h4 h5 h6 h7))
    | false => exact sidesA_v (ρ := ρ) h0 h1 h6 h7 hu (by rw [h]; exact at48f (eaF h0 h1 h2 h3 h4 h5 h6 h7))
  · cases b with
    | true => exact sidesA_v (ρ := ρ) h0 h1 h6 h7 hu (by rw [h]; exact at49t (eaF h0 h1 h2 h3 h4 h5 h6 h7))
    | false => exact sidesA_v (ρ := ρ) h0 h1 h6 h7 hu (by rw [h]; exact at49f (eaF h0 h1 h2 h3 h4 h5 h6 h7))
  · cases b with
    | true => exact sidesA_v (ρ := ρ) h0 h1 h6 h7 hu (by rw [h]; exact at50t (eaF h0 h1 h2 h3 h4 h5 h6 h7))
    | false => exact sidesA_v (ρ := ρ) h0 h1 h6 h7 hu (by rw [h]; exact at50f (eaF h0 h1 h2 h3 h4 h5 h6 h7))
  · cases b with
    | true => exact sidesA_v (ρ := ρ) h0 h1 h6 h7 hu (by rw [h]; exact at51t (eaF h0 h1 h2 h3 h4 h5 h6 h7))
    | false => exact sidesA_v (ρ := ρ) h0 h1 h6 h7 hu (by rw [h]; exact at51f (eaF h0 h1 h2 h3 h4 h5 h6 h7))
  · cases b with
    | true => exact sidesA_v (ρ := ρ) h0 h1 h6 h7 hu (by rw [h]; exact at52t (eaF h0 h1 h2 h3 h4 h5 h6 h7))
    | false => exact sidesA_v (ρ := ρ) h0 h1 h6 h7 hu (by rw [h]; exact at52f (eaF h0 h1 h2 h3 h4 h5 h6 h7))
  · cases b with
    | true => exact sidesA_v (ρ := ρ) h0 h1 h6 h7 hu (by rw [h]; exact at53t (eaF h0 h1 h2 h3 h4 h5 h6 h7))
    | false => exact sidesA_v (ρ := ρ) h0 h1 h6 h7 hu (by rw [h]; exact at53f (eaF h0 h1 h2 h3 h4 h5 h6 h7))
  · cases b with
    | true => exact sidesA_v (ρ := ρ) h0 h1 h6 h7 hu (by rw [h]; exact at54t (eaF h0 h1 h2 h3 h4 h5 h6 h7))
    | false => exact sidesA_v (ρ := ρ) h0 h1 h6 h7 hu (by rw [h]; exact at54f (eaF h0 h1 h2 h3 h4 h5 h6 h7))
  · cases b with
    | true => exact sidesA_v (ρ := ρ) h0 h1 h6 h7 hu (by rw [h]; exact at55t (eaF h0 h1 h2 h3 h4 h5 h6 h7))
    | false => exact sidesA_v (ρ := ρ) h0 h1 h6 h7 hu (by rw [h]; exact at55f (eaF h0 h1 h2 h3 h4 h5 h6 h7))
  · cases b with
    | true => exact sidesA_v (ρ := ρ) h0 h1 h6 h7 hu (by rw [h]; exact at56t (eaF h0 h1 h2 h3 h4 h5 h6 h7))
    | false => exact sidesA_v (ρ := ρ) h0 h1 h6 h7 hu (by rw [h]; exact at56f (eaF h0 h1 h2 h3 h4 h5 h6 h7))
  · cases b with
    | true => exact sidesA_v (ρ := ρ) h0 h1 h6 h7 hu (by rw [h]; exact at57t (eaF h0 h1 h2 h3 h4 h5 h6 h7))
    | false => exact sidesA_v (ρ := ρ) h0 h1 h6 h7 hu (by rw [h]; exact at57f (eaF h0 h1 h2 h3 h4 h5 h6 h7))
  · cases b with
    | true => exact sidesA_v (ρ := ρ) h0 h1 h6 h7 hu (by rw [h]; exact at58t (eaF h0 h1 h2 h3 h4 h5 h6 h7))
    | false => exact sidesA_v (ρ := ρ) h0 h1 h6 h7 hu (by rw [h]; exact at58f (eaF h0 h1 h2 h3 h4 h5 h6 h7))
  · cases b with
    | true => exact sidesA_v (ρ := ρ) h0 h1 h6 h7 hu (by rw [h]; exact at59t (eaF h0 h1 h2 h3 h4 h5 h6 h7))
    | false => exact sidesA_v (ρ := ρ) h0 h1 h6 h7 hu (by rw [h]; exact at59f (eaF h0 h1 h2 h3 h4 h5 h6 h7))
  · cases b with
    | true => exact sidesA_v (ρ := ρ) h0 h1 h6 h7 hu (by rw [h]; exact at60t (eaF h0 h1 h2 h3 h4 h5 h6 h7))
    | false => exact sidesA_v (ρ := ρ) h0 h1 h6 h7 hu (by rw [h]; exact at60f (eaF h0 h1 h2 h3 h4 h5 h6 h7))
  · cases b with
    | true => exact sidesA_v (ρ := ρ) h0 h1 h6 h7 hu (by rw [h]; exact at61t (eaF h0 h1 h2 h3 h4 h5 h6 h7))
    | false => exact sidesA_v (ρ := ρ) h0 h1 h6 h7 hu (by rw [h]; exact at61f (eaF h0 h1 h2 h3 h4 h5 h6 h7))
  · cases b with
    | true => exact sidesA_v (ρ := ρ) h0 h1 h6 h7 hu (by rw [h]; exact at62t (eaF h0 h1 h2 h3 h4 h5 h6 h7))
    | false => exact sidesA_v (ρ := ρ) h0 h1 h6 h7 hu (by rw [h]; exact at62f (eaF h0 h1 h2 h3 h4 h5 h6 h7))
  · cases b with
    | true => exact sidesA_v (ρ := ρ) h0 h1 h6 h7 hu (by rw [h]; exact at63t (eaF h0 h1 h2 h3 h4 h5 h6 h7))
    | false => exact sidesA_v (ρ := ρ) h0 h1 h6 h7 hu (by rw [h]; exact at63f (eaF h0 h1 h2 h3 h4 h5 h6 h7))
def encBack_facts : Facts := [(.cmp .geq (.var 0) (.lit 0), true), (.cmp .leq (.var 0) (.lit 4294967295), true), (.cmp .geq (.var 1) (.lit 0), true), (.cmp .leq (.var 1) (.lit 4294967295), true), (.cmp .geq (.var 3) (.lit 0), true), (.cmp .leq (.var 3) (.lit 255), true), (.cmp .geq (.var 4) (.lit 0), true), (.cmp .leq (.var 4) (.lit 255), true), (.cmp .geq (.var 5) (.lit 0), true), (.cmp .leq (.var 5) (.lit 255), true), (.cmp .geq (.var 6) (.lit 0), true), (.cmp .leq (.var 6) (.lit 255), true), (.cmp .geq (.var 7) (.lit 0), true), (.cmp .leq (.var 7) (.lit 255), true), (.cmp .geq (.var 8) (.lit 0), true), (.cmp .leq (.var 8) (.lit 255), true), (.cmp .geq (.var 9) (.lit 0), true), (.cmp .leq (.var 9) (.lit 255), true), (.cmp .geq (.var 12) (.lit 0), true), (.cmp .leq (.var 12) (.lit 65535), true), (.cmp .geq (.var 13) (.lit (-9223372036854775808)), true), (.cmp .leq (.var 13) (.lit 9223372036854775807), true), (.cmp .geq (.var 14) (.lit 0), true), (.cmp .leq (.var 14) (.lit 4294967295), true), (.cmp .geq (.var 15) (.lit 0), true), (.cmp .leq (.var 15) (.lit 255), true)]
def encBack_args : List AV := [.tc (.sy (.int .u32) (.var 0)), .tc (.sy (.int .u32) (.var 1)), .tc (.sy .bool (.var 2)), .agg [.tc (.sy (.int .u8) (.var 3)), .tc (.sy (.int .u8) (.var 4)), .tc (.sy (.int .u8) (.var 5)), .tc (.sy (.int .u8) (.var 6)), .tc (.sy (.int .u8) (.var 7)), .tc (.sy (.int .u8) (.var 8)), .tc (.sy (.int .u8) (.var 9)), .tc (.sy .bool (.var 10)), .tc (.sy .bool (.var 11)), .tc (.sy (.int .u16) (.var 12)), .tc (.sy (.int .i64) (.var 13))], .tc (.sy (.int .u32) (.var 14)), .tc (.sy (.int .u8) (.var 15))]
def ebIn : AV := .agg [.tc (.sy (.int .u8) (.var 3)), .tc (.sy (.int .u8) (.var 4)), .tc (.sy (.int .u8) (.var 5)), .tc (.sy (.int .u8) (.var 6)), .tc (.sy (.int .u8) (.var 7)), .tc (.sy (.int .u8) (.var 8)), .tc (.sy (.int .u8) (.var 9)), .tc (.sy .bool (.var 10)), .tc (.sy .bool (.var 11)), .tc (.sy (.int .u16) (.var 12)), .tc (.sy (.int .i64) (.var 13))]
def ebX (a b : Bool) : AV := .agg [.tc (.sy (.int .u8) (.var 20)), .tc (.sy (.int .u8) (.var 21)), .tc (.sy (.int .u8) (.var 22)), .tc (.sy (.int .u8) (.var 23)), .tc (.sy (.int .u8) (.var 24)), .tc (.sy (.int .u8) (.var 25)), .tc (.sy (.int .u8) (.var 26)), .tc (.sy .bool (.var 27)), cond a (blV b) (.tc (.sy .bool (.var 28))), .tc (.sy (.int .u16) (.var 29)), .tc (.sy (.int .i64) (.var 30))]
def argsL (b : Bool) : List AV := [.tc (.sy (.int .u32) (.var 0)), .tc (.sy (.int .u32) (.var 1)), blV b, ebIn, .tc (.sy (.int .u32) (.var 14)), .tc (.sy (.int .u8) (.var 15))]
def pcL : AV := .tc (.sy (.int .u32) (.var 14))
def wL : AV := .tc (.sy (.int .u32) (.var 0))
def uL (b : Bool) : AV := cond b (.tc (.sy (.int .u32) (.bin .rem .u32 (.var 1) (.lit 16777216)))) (wV .u32 0)
def clrX : Sx := .bin .add .i64 (.var 0) (.bin .mul .i64 (.bin .add .i64 (.bin .shr .i64 (.var 0) (.lit 14)) (.bin .mul .i64 (.bin .shr .i64 (.var 0) (.lit 16)) (.lit (-4)))) (.lit (-16384)))
def parX : Sx := .bin .add .i64 (.var 15) (.bin .mul .i64 (.bin .shr .i64 (.var 15) (.lit 2)) (.lit (-4)))
def turnL : AV := .tc (.sy (.int .u32) (.bin .add .i64 clrX (.bin .mul .i64 parX (.lit 16384))))
def clrL : AV := .tc (.sy (.int .u32) clrX)
def vL (said : Bool) : AV := cond said (.tc (.sy (.int .u32) (.bin .add .i64 (.bin .mul .i64 (.var 40) (.lit 65536)) (.var 41)))) (wV .u32 0)
def uuL (said : Bool) : AV := cond said (.tc (.sy (.int .u32) (.var 42))) (wV .u32 0)
def factL : Facts := (.cmp .geq (.var 40) (.lit 0), true) :: (.cmp .leq (.var 40) (.lit 65535), true) :: (.cmp .geq (.var 41) (.lit 0), true) :: (.cmp .leq (.var 41) (.lit 16383), true) :: (.cmp .geq (.var 42) (.lit 0), true) :: (.cmp .leq (.var 42) (.lit 16777215), true) :: encBack_facts
/-- What is known of the four ways: it may not be; it fits; it does not and has no extender; it does not and has one. -/
def factK (k : Nat) : Facts := match k with | 2 => (.var 11, false) :: factL | 3 => (.var 11, true) :: factL | _ => factL
def saidK (k : Nat) : Bool := match k with | 1 => true | 3 => true | _ => false
def rightK (k : Nat) : Bool := match k with | 0 => false | _ => true
def fitsK (k : Nat) : Bool := match k with | 1 => true | _ => false
def tabsL (b a : Bool) (k : Nat) : Tabs := [
  (6, ([wL, uL b, blV b, pcL], .tuple [ebX a b, blV a]) :: ([turnL, uL b, blV b, pcL], .tuple [ebX a b, blV a]) :: cond (saidK k) [([vL true, uuL true, .tc (.sy .bool (.var 11)), pcL], .tuple [ebIn, blV true])] []),
  (7, ([ebIn, pcL], .tuple [vL (saidK k), uuL (saidK k), blV (saidK k)]) :: cond a [([ebX a b, pcL], .tuple [clrL, uL b, blV true])] []),
  (8, ([ebIn], blV (rightK k)) :: cond a [([ebX a b], blV true)] []),
  (9, cond (rightK k) [([ebIn, pcL], blV (fitsK k))] [])]

theorem law_tt0 : RunsN (ctxT CX06 (factK 0) (tabsL true true 0)) 24 (factK 0) 3 (argsL true) := .code codeEnc_ok rfl (by kernel_rfl)
theorem law_tt1 : RunsN (ctxT CX06 (factK 1) (tabsL true true 1)) 24 (factK 1) 3 (argsL true) := .code codeEnc_ok rfl (by kernel_rfl)
theorem law_tt2 : RunsN (ctxT CX06 (factK 2) (tabsL true true 2)) 24 (factK 2) 3 (argsL true) := .code codeEnc_ok rfl (by kernel_rfl)
theorem law_tt3 : RunsN (ctxT CX06 (factK 3) (tabsL true true 3)) 24 (factK 3) 3 (argsL true) := .code codeEnc_ok rfl (by kernel_rfl)
theorem law_tf0 : RunsN (ctxT CX06 (factK 0) (tabsL true false 0)) 24 (factK 0) 3 (argsL true) := .code codeEnc_ok rfl (by kernel_rfl)
theorem law_tf1 : RunsN (ctxT CX06 (factK 1) (tabsL true false 1)) 24 (factK 1) 3 (argsL true) := .code codeEnc_ok rfl (by kernel_rfl)
theorem law_tf2 : RunsN (ctxT CX06 (factK 2) (tabsL true false 2)) 24 (factK 2) 3 (argsL true) := .code codeEnc_ok rfl (by kernel_rfl)
theorem law_tf3 : RunsN (ctxT CX06 (factK 3) (tabsL true false 3)) 24 (factK 3) 3 (argsL true) := .code codeEnc_ok rfl (by kernel_rfl)
theorem law_ft0 : RunsN (ctxT CX06 (factK 0) (tabsL false true 0)) 24 (factK 0) 3 (argsL false) := .code codeEnc_ok rfl (by kernel_rfl)
theorem law_ft1 : RunsN (ctxT CX06 (factK 1) (tabsL false true 1)) 24 (factK 1) 3 (argsL false) := .code codeEnc_ok rfl (by kernel_rfl)
theorem law_ft2 : RunsN (ctxT CX06 (factK 2) (tabsL false true 2)) 24 (factK 2) 3 (argsL false) := .code codeEnc_ok rfl (by kernel_rfl)
theorem law_ft3 : RunsN (ctxT CX06 (factK 3) (tabsL false true 3)) 24 (factK 3) 3 (argsL false) := .code codeEnc_ok rfl (by kernel_rfl)
theorem law_ff0 : RunsN (ctxT CX06 (factK 0) (tabsL false false 0)) 24 (factK 0) 3 (argsL false) := .code codeEnc_ok rfl (by kernel_rfl)
theorem law_ff1 : RunsN (ctxT CX06 (factK 1) (tabsL false false 1)) 24 (factK 1) 3 (argsL false) := .code codeEnc_ok rfl (by kernel_rfl)
theorem law_ff2 : RunsN (ctxT CX06 (factK 2) (tabsL false false 2)) 24 (factK 2) 3 (argsL false) := .code codeEnc_ok rfl (by kernel_rfl)
theorem law_ff3 : RunsN (ctxT CX06 (factK 3) (tabsL false false 3)) 24 (factK 3) 3 (argsL false) := .code codeEnc_ok rfl (by kernel_rfl)
theorem law_all (b a : Bool) (k : Nat) (hk : k < 4) : RunsN (ctxT CX06 (factK k) (tabsL b a k)) 24 (factK k) 3 (argsL b) := by
  have h : k = 0 ∨ k = 1 ∨ k = 2 ∨ k = 3 := by omega
  rcases h with rfl | rfl | rfl | rfl <;> cases b <;> cases a
  · exact law_ff0
  · exact law_ft0
  · exact law_tf0
  · exact law_tt0
  · exact law_ff1
  · exact law_ft1
  · exact law_tf1
  · exact law_tt1
  · exact law_ff2
  · exact law_ft2
  · exact law_tf2
  · exact law_tt2
  · exact law_ff3
  · exact law_ft3
  · exact law_tf3
  · exact law_tt3

/-- The law's variables: those of its arguments, an instruction's cells, a word. -/
def lawE (ρ : Env) (XI : Nat → Int) (XB : Nat → Bool) (v u : Int) : Env := ⟨fun i => match i with | 20 => XI 0 | 21 => XI 1 | 22 => XI 2 | 23 => XI 3 | 24 => XI 4 | 25 => XI 5 | 26 => XI 6 | 29 => XI 9 | 30 => XI 10 | 40 => v / 65536 | 41 => v % 65536 | 42 => u | i => ρ.I i,
  fun i => match i with | 27 => XB 7 | 28 => XB 8 | i => ρ.B i, ρ.S, ρ.F⟩

theorem encBack_calls {ρ : Env} (hf : FactsOk ρ encBack_facts) : CallsTo CX06 3 (concs ρ encBack_args) (.sc (.bool true)) := by
  have g : ∀ (i : Nat) (n : Int), (.cmp .leq (.var i) (.lit n), true) ∈ encBack_facts → ρ.I i ≤ n := fun i n h => of_decide_eq_true (hf _ h)
  have g' : ∀ (i : Nat) (n : Int), (.cmp .geq (.var i) (.lit n), true) ∈ encBack_facts → n ≤ ρ.I i := fun i n h => of_decide_eq_true (hf _ h)
  have w0 := g' 0 0 (by simp [encBack_facts])
  have w1 := g 0 4294967295 (by simp [encBack_facts])
  have c0 := g' 14 0 (by simp [encBack_facts])
  have c1 := g 14 4294967295 (by simp [encBack_facts])
  have s0 := g' 15 0 (by simp [encBack_facts])
  have s1 := g 15 255 (by simp [encBack_facts])
  have u0 := g' 1 0 (by simp [encBack_facts])
  have u1 := g 1 4294967295 (by simp [encBack_facts])
  obtain ⟨b, hb⟩ : ∃ b, ρ.B 2 = b := ⟨_, rfl⟩
  obtain ⟨XI, XB, a, a1, a2, a3⟩ := sidesA (ρ := ρ) (w := ρ.I 0) (u := cond b (ρ.I 1 % 16777216) 0) (pc := ρ.I 14) (q := ρ.I 15 % 4) (b := b) w0 w1 (by cases b <;> simp only [cond_true, _root_.cond_false] <;> omega) (by cases b <;> simp only [cond_true, _root_.cond_false] <;> omega) c0 c1 (by omega) (by omega) (by rintro rfl; rfl)
  let ρB : Env := ⟨fun i => ρ.I (i + 3), fun i => ρ.B (i + 3), ρ.S, ρ.F⟩
  have hB : FactsOk ρB ebBK := fun p hp => by
    simp only [ebBK, ebBF, rightF, List.mem_cons, List.not_mem_nil, or_false] at hp
    rcases hp with rfl | rfl | rfl | rfl | rfl | rfl | rfl | rfl | rfl | rfl | rfl | rfl | rfl | rfl | rfl | rfl | rfl | rfl | rfl | rfl
    · exact hf (.cmp .geq (.var 3) (.lit 0), true) (by simp [encBack_facts])
    · exact hf (.cmp .leq (.var 3) (.lit 255), true) (by simp [encBack_facts])
    · exact hf (.cmp .geq (.var 14) (.lit 0), true) (by simp [encBack_facts])
    · exact hf (.cmp .leq (.var 14) (.lit 4294967295), true) (by simp [encBack_facts])
    · exact hf (.cmp .geq (.var 4) (.lit 0), true) (by simp [encBack_facts])
    · exact hf (.cmp .leq (.var 4) (.lit 255), true) (by simp [encBack_facts])
    · exact hf (.cmp .geq (.var 5) (.lit 0), true) (by simp [encBack_facts])
    · exact hf (.cmp .leq (.var 5) (.lit 255), true) (by simp [encBack_facts])
    · exact hf (.cmp .geq (.var 6) (.lit 0), true) (by simp [encBack_facts])
    · exact hf (.cmp .leq (.var 6) (.lit 255), true) (by simp [encBack_facts])
    · exact hf (.cmp .geq (.var 7) (.lit 0), true) (by simp [encBack_facts])
    · exact hf (.cmp .leq (.var 7) (.lit 255), true) (by simp [encBack_facts])
    · exact hf (.cmp .geq (.var 8) (.lit 0), true) (by simp [encBack_facts])
    · exact hf (.cmp .leq (.var 8) (.lit 255), true) (by simp [encBack_facts])
    · exact hf (.cmp .geq (.var 9) (.lit 0), true) (by simp [encBack_facts])
    · exact hf (.cmp .leq (.var 9) (.lit 255), true) (by simp [encBack_facts])
    · exact hf (.cmp .geq (.var 12) (.lit 0), true) (by simp [encBack_facts])
    · exact hf (.cmp .leq (.var 12) (.lit 65535), true) (by simp [encBack_facts])
    · exact hf (.cmp .geq (.var 13) (.lit (-9223372036854775808)), true) (by simp [encBack_facts])
    · exact hf (.cmp .leq (.var 13) (.lit 9223372036854775807), true) (by simp [encBack_facts])
  obtain ⟨v, u, said, rt, ft, hw, hr, hfit, he, hno, hyes⟩ := wt_any hB
  obtain ⟨k, hk, k1, k2, k3, k4⟩ : ∃ k, k < 4 ∧ said = saidK k ∧ rt = rightK k ∧ (rt = true → ft = fitsK k) ∧ FactsOk (lawE ρ XI XB v u) (factK k) := by
    have hL : FactsOk (lawE ρ XI XB v u) encBack_facts := fun p hp => by
      have := hf p hp
      simp only [encBack_facts, List.mem_cons, List.not_mem_nil, or_false] at hp
      rcases hp with rfl | rfl | rfl | rfl | rfl | rfl | rfl | rfl | rfl | rfl | rfl | rfl | rfl | rfl | rfl | rfl | rfl | rfl | rfl | rfl | rfl | rfl | rfl | rfl | rfl | rfl <;> exact this
    have hv : 0 ≤ v ∧ v ≤ 4294967295 ∧ v / 16384 % 4 = 0 ∧ 0 ≤ u ∧ u ≤ 16777215 := by
      cases said with
      | true => obtain ⟨⟨q1, q2, q3, q4, q5⟩, _⟩ := hyes rfl; exact ⟨q2, q3, q1, q4, q5⟩
      | false => obtain ⟨rfl, rfl⟩ := hno rfl; decide
    obtain ⟨v0, v1, v2, v3, v4⟩ := hv
    have hL2 : FactsOk (lawE ρ XI XB v u) factL := by
      refine FactsOk.cons (FactsOk.cons (FactsOk.cons (FactsOk.cons (FactsOk.cons (FactsOk.cons hL ?_) ?_) ?_) ?_) ?_) ?_ <;> refine decide_eq_true ?_
      · exact v4
      · exact v3
      · show v % 65536 ≤ 16383; omega
      · show v % 65536 ≥ 0; omega
      · show v / 65536 ≤ 65535; omega
      · show v / 65536 ≥ 0; omega
    cases rt with
    | false => exact ⟨0, by decide, by rw [he]; rfl, rfl, (fun h => by cases h), hL2⟩
    | true =>
      cases ft with
      | true => exact ⟨1, by decide, by rw [he]; cases ρB.B 8 <;> rfl, rfl, fun _ => rfl, hL2⟩
      | false =>
        cases h8 : ρB.B 8 with
        | false => exact ⟨2, by decide, by rw [he, h8]; rfl, rfl, fun _ => rfl, hL2.cons (show (ρ.B 11) = false from h8)⟩
        | true => exact ⟨3, by decide, by rw [he, h8]; rfl, rfl, fun _ => rfl, hL2.cons (show (ρ.B 11) = true from h8)⟩
  have eA : concs ρ encBack_args = concs (lawE ρ XI XB v u) (argsL b) := by subst hb; rfl
  have eI : conc (lawE ρ XI XB v u) ebIn = conc ρB ebBJ := rfl
  have eP : conc (lawE ρ XI XB v u) pcL = wV .u32 (ρ.I 14) := rfl
  have eX : (a = true → XB 8 = b) → conc (lawE ρ XI XB v u) (ebX a b) = xV XI XB := fun h => by
    cases a with
    | false => rfl
    | true => have h := h rfl; subst h; rfl
  have eX := eX fun h => (a3 h).1
  have sh14 : binI .shr .i64 (ρ.I 0) 14 = ρ.I 0 / 16384 := shrE_i64 (m := 14) (d := 16384) _ (by decide) (by decide)
  have sh16 : binI .shr .i64 (ρ.I 0) 16 = ρ.I 0 / 65536 := shrE_i64 (m := 16) (d := 65536) _ (by decide) (by decide)
  have sh2 : binI .shr .i64 (ρ.I 15) 2 = ρ.I 15 / 4 := shrE_i64 (m := 2) (d := 4) _ (by decide) (by decide)
  have eC : (den (lawE ρ XI XB v u) clrX).i = ρ.I 0 - ρ.I 0 / 16384 % 4 * 16384 := by
    show IntKind.i64.wrap (ρ.I 0 + IntKind.i64.wrap (IntKind.i64.wrap (binI .shr .i64 (ρ.I 0) 14 + IntKind.i64.wrap (binI .shr .i64 (ρ.I 0) 16 * (-4))) * (-16384))) = _
    rw [sh14, sh16, w64i (x := ρ.I 0 / 65536 * (-4)) (by omega) (by omega), w64i (x := ρ.I 0 / 16384 + ρ.I 0 / 65536 * (-4)) (by omega) (by omega), w64i (x := (ρ.I 0 / 16384 + ρ.I 0 / 65536 * (-4)) * (-16384)) (by omega) (by omega), w64i (by omega) (by omega)]
    omega
  have eQ : (den (lawE ρ XI XB v u) parX).i = ρ.I 15 % 4 := by
    show IntKind.i64.wrap (ρ.I 15 + IntKind.i64.wrap (binI .shr .i64 (ρ.I 15) 2 * (-4))) = _
    rw [sh2, w64i (x := ρ.I 15 / 4 * (-4)) (by omega) (by omega), w64i (by omega) (by omega)]
    omega
  have eT : conc (lawE ρ XI XB v u) turnL = wV .u32 (ρ.I 0 - ρ.I 0 / 16384 % 4 * 16384 + ρ.I 15 % 4 * 16384) := by
    have : (den (lawE ρ XI XB v u) (.bin .add .i64 clrX (.bin .mul .i64 parX (.lit 16384)))).i = ρ.I 0 - ρ.I 0 / 16384 % 4 * 16384 + ρ.I 15 % 4 * 16384 := by
      show IntKind.i64.wrap ((den (lawE ρ XI XB v u) clrX).i + IntKind.i64.wrap ((den (lawE ρ XI XB v u) parX).i * 16384)) = _
      rw [eC, eQ, w64i (x := ρ.I 15 % 4 * 16384) (by omega) (by omega), w64i (by omega) (by omega)]
    simp only [turnL, conc, concT, STy.val, this]
    rfl
  have eL : conc (lawE ρ XI XB v u) clrL = wV .u32 (ρ.I 0 - ρ.I 0 / 16384 % 4 * 16384) := by
    simp only [clrL, conc, concT, STy.val, eC]
    rfl
  have eU : conc (lawE ρ XI XB v u) (uL b) = wV .u32 (cond b (ρ.I 1 % 16777216) 0) := by
    cases b with
    | false => rfl
    | true =>
      have : (den (lawE ρ XI XB v u) (.bin .rem .u32 (.var 1) (.lit 16777216))).i = ρ.I 1 % 16777216 := Int.tmod_eq_emod_of_nonneg u0
      simp only [uL, cond_true, conc, concT, STy.val, this]
      rfl
  have eV : conc (lawE ρ XI XB v u) (vL said) = wV .u32 v ∧ conc (lawE ρ XI XB v u) (uuL said) = wV .u32 u := by
    cases said with
    | false => obtain ⟨rfl, rfl⟩ := hno rfl; exact ⟨rfl, rfl⟩
    | true =>
      obtain ⟨⟨q1, q2, q3, q4, q5⟩, _⟩ := hyes rfl
      refine ⟨?_, rfl⟩
      have : (den (lawE ρ XI XB v u) (.bin .add .i64 (.bin .mul .i64 (.var 40) (.lit 65536)) (.var 41))).i = v := by
        show IntKind.i64.wrap (IntKind.i64.wrap (v / 65536 * 65536) + v % 65536) = v
        rw [w64i (x := v / 65536 * 65536) (by omega) (by omega), w64i (by omega) (by omega)]
        omega
      simp only [vL, cond_true, conc, concT, STy.val, this]
      rfl
  rw [eA]
  refine ((law_all b a k hk).calls (ctxT_ok (CX06_ok _) k4 fun p hp q hq => ?_) k4).of rfl rfl
  simp only [tabsL, List.mem_cons, List.not_mem_nil, or_false] at hp
  rcases hp with rfl | rfl | rfl | rfl
  · simp only [List.mem_cons] at hq
    rcases hq with rfl | rfl | hq
    · simp only [concs, conc, eX, eU, eP]
      exact a1
    · simp only [concs, conc, eX, eT, eU, eP]
      exact a2
    · rw [← k1] at hq
      cases said with
      | false => cases hq
      | true =>
        simp only [cond_true, List.mem_cons, List.not_mem_nil, or_false] at hq
        subst hq
        simp only [concs, conc, eV.1, eV.2, eP, eI]
        exact (hyes rfl).2
  · simp only [List.mem_cons] at hq
    rcases hq with rfl | hq
    · rw [← k1]
      simp only [concs, conc, eV.1, eV.2, eP, eI]
      exact hw
    · cases a with
      | false => cases hq
      | true =>
        simp only [cond_true, List.mem_cons, List.not_mem_nil, or_false] at hq
        subst hq
        simp only [concs, conc, eX, eL, eU, eP]
        exact (a3 rfl).2.1
  · simp only [List.mem_cons] at hq
    rcases hq with rfl | hq
    · rw [← k2]
      simp only [concs, conc, eI]
      exact hr
    · cases a with
      | false => cases hq
      | true =>
        simp only [cond_true, List.mem_cons, List.not_mem_nil, or_false] at hq
        subst hq
        simp only [concs, conc, eX]
        exact (a3 rfl).2.2
  · rw [← k2] at hq
    cases rt with
    | false => cases hq
    | true =>
      simp only [cond_true, List.mem_cons, List.not_mem_nil, or_false] at hq
      subst hq
      rw [← k3 rfl]
      simp only [concs, conc, eP, eI]
      exact hfit rfl


theorem encBack_glob : GlobOk Tryd.prog Rows.encBackRow.laid globEnc := ⟨⟨"coxless/bits.codeAt", Rows.laid_coxless_bits_codeAt, .head _, by kernel_rfl, by kernel_rfl⟩, ⟨"coxless/bits.ends", Rows.laid_coxless_bits_ends, .tail _ (.head _), by kernel_rfl, by kernel_rfl⟩, ⟨"coxless/bits.parseAt", Rows.laid_coxless_bits_parseAt, .tail _ (.tail _ (.head _)), by kernel_rfl, by kernel_rfl⟩, trivial⟩

theorem encBack_walk (a0 : Int) (w0 : IntKind.min .u32 ≤ a0 ∧ a0 ≤ IntKind.max .u32) (a1 : Int) (w1 : IntKind.min .u32 ≤ a1 ∧ a1 ≤ IntKind.max .u32) (a2 : Bool) (a3 : Int) (w3 : IntKind.min .u8 ≤ a3 ∧ a3 ≤ IntKind.max .u8) (a4 : Int) (w4 : IntKind.min .u8 ≤ a4 ∧ a4 ≤ IntKind.max .u8) (a5 : Int) (w5 : IntKind.min .u8 ≤ a5 ∧ a5 ≤ IntKind.max .u8) (a6 : Int) (w6 : IntKind.min .u8 ≤ a6 ∧ a6 ≤ IntKind.max .u8) (a7 : Int) (w7 : IntKind.min .u8 ≤ a7 ∧ a7 ≤ IntKind.max .u8) (a8 : Int) (w8 : IntKind.min .u8 ≤ a8 ∧ a8 ≤ IntKind.max .u8) (a9 : Int) (w9 : IntKind.min .u8 ≤ a9 ∧ a9 ≤ IntKind.max .u8) (a10 : Bool) (a11 : Bool) (a12 : Int) (w12 : IntKind.min .u16 ≤ a12 ∧ a12 ≤ IntKind.max .u16) (a13 : Int) (w13 : IntKind.min .i64 ≤ a13 ∧ a13 ≤ IntKind.max .i64) (a14 : Int) (w14 : IntKind.min .u32 ≤ a14 ∧ a14 ≤ IntKind.max .u32) (a15 : Int) (w15 : IntKind.min .u8 ≤ a15 ∧ a15 ≤ IntKind.max .u8) (w : World) (hL : laidMetH Tryd.prog Rows.encBackRow.laid w) : Calls Tryd.prog 3 #[.int .u32 a0, .int .u32 a1, .bool a2, .agg #[.int .u8 a3, .int .u8 a4, .int .u8 a5, .int .u8 a6, .int .u8 a7, .int .u8 a8, .int .u8 a9, .bool a10, .bool a11, .int .u16 a12, .int .i64 a13], .int .u32 a14, .int .u8 a15] w fun e w' => e = .returned (.bool true) ∧ Below w.heap.size w w' := by
  have hf : FactsOk ⟨fun i => [a0, a1, 0, a3, a4, a5, a6, a7, a8, a9, 0, 0, a12, a13, a14, a15].getD i 0, fun i => [false, false, a2, false, false, false, false, false, false, false, a10, a11, false, false, false, false].getD i false, fun i => [ByteArray.empty, ByteArray.empty, ByteArray.empty, ByteArray.empty, ByteArray.empty, ByteArray.empty, ByteArray.empty, ByteArray.empty, ByteArray.empty, ByteArray.empty, ByteArray.empty, ByteArray.empty, ByteArray.empty, ByteArray.empty, ByteArray.empty, ByteArray.empty].getD i ByteArray.empty, FF0⟩ encBack_facts := by
    intro p hp
    simp only [encBack_facts, List.mem_cons, List.not_mem_nil, or_false] at hp
    rcases hp with rfl | rfl | rfl | rfl | rfl | rfl | rfl | rfl | rfl | rfl | rfl | rfl | rfl | rfl | rfl | rfl | rfl | rfl | rfl | rfl | rfl | rfl | rfl | rfl | rfl | rfl
    · exact decide_eq_true w0.1
    · exact decide_eq_true w0.2
    · exact decide_eq_true w1.1
    · exact decide_eq_true w1.2
    · exact decide_eq_true w3.1
    · exact decide_eq_true w3.2
    · exact decide_eq_true w4.1
    · exact decide_eq_true w4.2
    · exact decide_eq_true w5.1
    · exact decide_eq_true w5.2
    · exact decide_eq_true w6.1
    · exact decide_eq_true w6.2
    · exact decide_eq_true w7.1
    · exact decide_eq_true w7.2
    · exact decide_eq_true w8.1
    · exact decide_eq_true w8.2
    · exact decide_eq_true w9.1
    · exact decide_eq_true w9.2
    · exact decide_eq_true w12.1
    · exact decide_eq_true w12.2
    · exact decide_eq_true w13.1
    · exact decide_eq_true w13.2
    · exact decide_eq_true w14.1
    · exact decide_eq_true w14.2
    · exact decide_eq_true w15.1
    · exact decide_eq_true w15.2
  refine walk_laid_of (C := CX06) (encBack_calls hf) rfl encBack_glob (by kernel_rfl) w (fun ob => ?_) hL
  refine ⟨rfl, fun i a v hi hv => ?_⟩
  match i, hi, hv with
  | 0, hi, hv =>
    obtain rfl := Option.some.inj hi
    obtain rfl := Option.some.inj hv
    exact .of_sc _ _ _ _
  | 1, hi, hv =>
    obtain rfl := Option.some.inj hi
    obtain rfl := Option.some.inj hv
    exact .of_sc _ _ _ _
  | 2, hi, hv =>
    obtain rfl := Option.some.inj hi
    obtain rfl := Option.some.inj hv
    exact .of_sc _ _ _ _
  | 3, hi, hv =>
    obtain rfl := Option.some.inj hi
    obtain rfl := Option.some.inj hv
    exact relA_scs _ _ _ #[.int .u8 a3, .int .u8 a4, .int .u8 a5, .int .u8 a6, .int .u8 a7, .int .u8 a8, .int .u8 a9, .bool a10, .bool a11, .int .u16 a12, .int .i64 a13]
  | 4, hi, hv =>
    obtain rfl := Option.some.inj hi
    obtain rfl := Option.some.inj hv
    exact .of_sc _ _ _ _
  | 5, hi, hv =>
    obtain rfl := Option.some.inj hi
    obtain rfl := Option.some.inj hv
    exact .of_sc _ _ _ _
  | k + 6, hi, _ => simp [concs, encBack_args] at hi
end Go.Proofs.YtamhmfdbnlkmkaaDoor
