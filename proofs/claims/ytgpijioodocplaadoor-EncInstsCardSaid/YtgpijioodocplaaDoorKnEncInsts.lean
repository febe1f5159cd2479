/- The law EncInsts: each leaf of its run is true. -/
import Derived.Test.YtgpijioodocplaaDoorKnEncInstsX0
import Derived.Test.YtgpijioodocplaaDoorKnEncInstsX1
import Derived.Test.YtgpijioodocplaaDoorKnEncInstsX2
import Derived.Test.YtgpijioodocplaaDoorKnEncInstsX3
import Derived.Test.YtgpijioodocplaaDoorKnEncInstsX4
import Derived.Test.YtgpijioodocplaaDoorKnEncInstsX5
import Derived.Test.YtgpijioodocplaaDoorKnEncInstsX6
import Derived.Test.YtgpijioodocplaaDoorKnEncInstsX7
import Derived.Test.YtgpijioodocplaaDoorKnEncInstsX8
import Derived.Test.YtgpijioodocplaaDoorKnEncInstsX9
import Derived.Test.YtgpijioodocplaaDoorKnEncInstsX10
import Derived.Test.YtgpijioodocplaaDoorKnEncInstsX11
import Derived.Test.YtgpijioodocplaaDoorKnEncInstsX12
import Derived.Test.YtgpijioodocplaaDoorKnEncInstsX13
import Derived.Test.YtgpijioodocplaaDoorKnEncInstsX14
import Derived.Test.YtgpijioodocplaaDoorKnEncInstsA
import Derived.Test.YtgpijioodocplaaDoorKnEncInstsB
import Derived.Test.YtgpijioodocplaaDoorKnEncInstsC
import Derived.Test.YtgpijioodocplaaDoorKnEncInstsD
import Derived.Test.YtgpijioodocplaaDoorKnEncInstsE
import Derived.Test.YtgpijioodocplaaDoorKnEncInstsF
import Derived.Test.YtgpijioodocplaaDoorKnEncInstsG
import Derived.Test.YtgpijioodocplaaDoorKnEncInstsH
import Derived.Test.YtgpijioodocplaaDoorKnEncInstsI
import Derived.Test.YtgpijioodocplaaDoorKnEncInstsJ
set_option linter.unusedVariables false
set_option maxRecDepth 100000
namespace Go.Proofs.YtgpijioodocplaaDoor
open Go Go.RowKit

theorem encInsts_all (c : Int) (h0 : 0 ≤ c) (h1 : c ≤ 63) (hn : c ≠ 24 ∧ c ≠ 25 ∧ c ≠ 26 ∧ c ≠ 27 ∧ c ≠ 30 ∧ c ≠ 31) (b : Bool) : RunsN (CV06 encInsts_factsV) 24 encInsts_factsV 5 (encInsts_argsV c b) := by
  have h : c = 0 ∨ c = 1 ∨ c = 2 ∨ c = 3 ∨ c = 4 ∨ c = 5 ∨ c = 6 ∨ c = 7 ∨ c = 8 ∨ c = 9 ∨ c = 10 ∨ c = 11 ∨ c = 12 ∨ c = 13 ∨ c = 14 ∨ c = 15 ∨ c = 16 ∨ c = 17 ∨ c = 18 ∨ c = 19 ∨ c = 20 ∨ c = 21 ∨ c = 22 ∨ c = 23 ∨ c = 28 ∨ c = 29 ∨ c = 32 ∨ c = 33 ∨ c = 34 ∨ c = 35 ∨ c = 36 ∨ c = 37 ∨ c = 38 ∨ c = 39 ∨ c = 40 ∨ c = 41 ∨ c = 42 ∨ c = 43 ∨ c = 44 ∨ c = 45 ∨ c = 46 ∨ c = 47 ∨ c = 48 ∨ c = 49 ∨ c = 50 ∨ c = 51 ∨ c = 52 ∨ c = 53 ∨ c = 54 ∨ c = 55 ∨ c = 56 ∨ c = 57 ∨ c = 58 ∨ c = 59 ∨ c = 60 ∨ c = 61 ∨ c = 62 ∨ c = 63 := by omega
  rcases h with rfl | rfl | rfl | rfl | rfl | rfl | rfl | rfl | rfl | rfl | rfl | rfl | rfl | rfl | rfl | rfl | rfl | rfl | rfl | rfl | rfl | rfl | rfl | rfl | rfl | rfl | rfl | rfl | rfl | rfl | rfl | rfl | rfl | rfl | rfl | rfl | rfl | rfl | rfl | rfl | rfl | rfl | rfl | rfl | rfl | rfl | rfl | rfl | rfl | rfl | rfl | rfl | rfl | rfl | rfl | rfl | rfl | rfl
  · cases b with
    | true => exact encInsts_run0t
    | false => exact encInsts_run0f
  · cases b with
    | true => exact encInsts_run1t
    | false => exact encInsts_run1f
  · cases b with
    | true => exact encInsts_run2t
    | false => exact encInsts_run2f
  · cases b with
    | true => exact encInsts_run3t
    | false => exact encInsts_run3f
  · cases b with
    | true => exact encInsts_run4t
    | false => exact encInsts_run4f
  · cases b with
    | true => exact encInsts_run5t
    | false => exact encInsts_run5f
  · cases b with
    | true => exact encInsts_run6t
    | false => exact encInsts_run6f
  · cases b with
    | true => exact encInsts_run7t
    | false => exact encInsts_run7f
  · cases b with
    | true => exact encInsts_run8t
    | false => exact encInsts_run8f
  · cases b with
    | true => exact encInsts_run9t
    | false => exact encInsts_run9f
  · cases b with
    | true => exact encInsts_run10t
    | false => exact encInsts_run10f
  · cases b with
    | true => exact encInsts_run11t
    | false => exact encInsts_run11f
  · cases b with
    | true => exact encInsts_run12t
    | false => exact encInsts_run12f
  · cases b with
    | true => exact encInsts_run13t
    | false => exact encInsts_run13f
  · cases b with
    | true => exact encInsts_run14t
    | false => exact encInsts_run14f
  · cases b with
    | true => exact encInsts_run15t
    | false => exact encInsts_run15f
  · cases b with
    | true => exact encInsts_run16t
    | false => exact encInsts_run16f
  · cases b with
    | true => exact encInsts_run17t
    | false => exact encInsts_run17f
  · cases b with
    | true => exact encInsts_run18t
    | false => exact encInsts_run18f
  · cases b with
    | true => exact encInsts_run19t
    | false => exact encInsts_run19f
  · cases b with
    | true => exact encInsts_run20t
    | false => exact encInsts_run20f
  · cases b with
    | true => exact encInsts_run21t
    | false => exact encInsts_run21f
  · cases b with
    | true => exact encInsts_run22t
    | false => exact encInsts_run22f
  · cases b with
    | true => exact encInsts_run23t
    | false => exact encInsts_run23f
  · cases b with
    | true => exact encInsts_run28t
    | false => exact encInsts_run28f
  · cases b with
    | true => exact encInsts_run29t
    | false => exact encInsts_run29f
  · cases b with
    | true => exact encInsts_run32t
    | false => exact encInsts_run32f
  · cases b with
    | true => exact encInsts_run33t
    | false => exact encInsts_run33f
  · cases b with
    | true => exact encInsts_run34t
    | false => exact encInsts_run34f
  · cases b with
    | true => exact encInsts_run35t
    | false => exact encInsts_run35f
  · cases b with
    | true => exact encInsts_run36t
    | false => exact encInsts_run36f
  · cases b with
    | true => exact encInsts_run37t
    | false => exact encInsts_run37f
  · cases b with
    | true => exact encInsts_run38t
    | false => exact encInsts_run38f
  · cases b with
    | true => exact encInsts_run39t
    | false => exact encInsts_run39f
  · cases b with
    | true => exact encInsts_run40t
    | false => exact encInsts_run40f
  · cases b with
    | true => exact encInsts_run41t
    | false => exact encInsts_run41f
  · cases b with
    | true => exact encInsts_run42t
    | false => exact encInsts_run42f
  · cases b with
    | true => exact encInsts_run43t
    | false => exact encInsts_run43f
  · cases b with
    | true => exact encInsts_run44t
    | false => exact encInsts_run44f
  · cases b with
    | true => exact encInsts_run45t
    | false => exact encInsts_run45f
  · cases b with
    | true => exact encInsts_run46t
    | false => exact encInsts_run46f
  · cases b with
    | true => exact encInsts_run47t
    | false => exact encInsts_run47f
  · cases b with
    | true => exact encInsts_run48t
    | false => exact encInsts_run48f
  · cases b with
    | true => exact encInsts_run49t
    | false => exact encInsts_run49f
  · cases b with
    | true => exact encInsts_run50t
    | false => exact encInsts_run50f
  · cases b with
    | true => exact encInsts_run51t
    | false => exact encInsts_run51f
  · cases b with
    | true => exact encInsts_run52t
    | false => exact encInsts_run52f
  · cases b with
    | true => exact encInsts_run53t
    | false => exact encInsts_run53f
  · cases b with
    | true => exact encInsts_run54t
    | false => exact encInsts_run54f
  · cases b with
    | true => exact encInsts_run55t
    | false => exact encInsts_run55f
  · cases b with
    | true => exact encInsts_run56t
    | false => exact encInsts_run56f
  · cases b with
    | true => exact encInsts_run57t
    | false => exact encInsts_run57f
  · cases b with
    | true => exact encInsts_run58t
    | false => exact encInsts_run58f
  · cases b with
    | true => exact encInsts_run59t
    | false => exact encInsts_run59f
  · cases b with
    | true => exact encInsts_run60t
    | false => exact encInsts_run60f
  · cases b with
    | true => exact encInsts_run61t
    | false => exact encInsts_run61f
  · cases b with
    | true => exact encInsts_run62t
    | false => exact encInsts_run62f
  · cases b with
    | true => exact encInsts_run63t
    | false => exact encInsts_run63f

/-- The parts of a word, as variables. -/
def insV (ρ : Env) : Env := { ρ with I := fun i => match i with
  | 0 => ρ.I 0 % 16384
  | 4 => ρ.I 0 / 16384 % 4
  | 5 => ρ.I 0 / 65536 % 1024
  | i => ρ.I i }

theorem wordX_ok {ρ : Env} (h0 : 0 ≤ ρ.I 0) (h1 : ρ.I 0 ≤ 4294967295) : (den (insV ρ) (wordX (ρ.I 0 / 67108864))).i = ρ.I 0 := by
  have k : ∀ {x : Int}, 0 ≤ x → x ≤ 4294967295 → IntKind.u32.wrap x = x := fun {x} a b => wrap_id (k := .u32) a b
  simp only [wordX, den, insV, binI]
  rw [k (x := ρ.I 0 / 65536 % 1024 * 65536) (by omega) (by omega), k (x := ρ.I 0 / 16384 % 4 * 16384) (by omega) (by omega), k (x := ρ.I 0 % 16384 + ρ.I 0 / 67108864 * 67108864) (by omega) (by omega),
    k (x := ρ.I 0 / 16384 % 4 * 16384 + (ρ.I 0 % 16384 + ρ.I 0 / 67108864 * 67108864)) (by omega) (by omega), k (x := ρ.I 0 / 65536 % 1024 * 65536 + (ρ.I 0 / 16384 % 4 * 16384 + (ρ.I 0 % 16384 + ρ.I 0 / 67108864 * 67108864))) (by omega) (by omega)]
  omega

def insV24 (ρ : Env) : Env := { ρ with I := fun i => match i with | 6 => ρ.I 0 % 2 | 0 => ρ.I 0 / 2 % 256 | 7 => ρ.I 0 / 512 % 8 | 8 => ρ.I 0 / 4096 % 2 | 9 => ρ.I 0 / 8192 % 2 | 4 => ρ.I 0 / 16384 % 4 | 5 => ρ.I 0 / 65536 % 1024 | i => ρ.I i }
theorem wordX24_ok {ρ : Env} (h0 : 0 ≤ ρ.I 0) (h1 : ρ.I 0 ≤ 4294967295) : (den (insV24 ρ) (wordX24 (ρ.I 0 / 67108864))).i = ρ.I 0 := by
  have k : ∀ {x : Int}, 0 ≤ x → x ≤ 9000000000 → IntKind.i64.wrap x = x := fun {x} a b => wrap_id (k := .i64) (by show -9223372036854775808 ≤ x; omega) (by show x ≤ 9223372036854775807; omega)
  simp only [wordX24, den, insV24, binI]
  obtain ⟨p6, e6⟩ : ∃ p, ρ.I 0 % 2 = p := ⟨_, rfl⟩
  obtain ⟨p0, e0⟩ : ∃ p, ρ.I 0 / 2 % 256 = p := ⟨_, rfl⟩
  obtain ⟨p7, e7⟩ : ∃ p, ρ.I 0 / 512 % 8 = p := ⟨_, rfl⟩
  obtain ⟨p8, e8⟩ : ∃ p, ρ.I 0 / 4096 % 2 = p := ⟨_, rfl⟩
  obtain ⟨p9, e9⟩ : ∃ p, ρ.I 0 / 8192 % 2 = p := ⟨_, rfl⟩
  obtain ⟨p4, e4⟩ : ∃ p, ρ.I 0 / 16384 % 4 = p := ⟨_, rfl⟩
  obtain ⟨p5, e5⟩ : ∃ p, ρ.I 0 / 65536 % 1024 = p := ⟨_, rfl⟩
  obtain ⟨q, eq⟩ : ∃ q, ρ.I 0 / 67108864 = q := ⟨_, rfl⟩
  have b6 : 0 ≤ p6 ∧ p6 ≤ 1 := by omega
  have b0 : 0 ≤ p0 ∧ p0 ≤ 255 := by omega
  have b7 : 0 ≤ p7 ∧ p7 ≤ 7 := by omega
  have b8 : 0 ≤ p8 ∧ p8 ≤ 1 := by omega
  have b9 : 0 ≤ p9 ∧ p9 ≤ 1 := by omega
  have b4 : 0 ≤ p4 ∧ p4 ≤ 3 := by omega
  have b5 : 0 ≤ p5 ∧ p5 ≤ 1023 := by omega
  have bq : 0 ≤ q ∧ q ≤ 63 := by omega
  have d6 : ρ.I 0 / 1 = 2 * (ρ.I 0 / 2) + p6 := by rw [← e6]; clear e6; first | omega | (have z := Int.mul_ediv_add_emod (ρ.I 0 / 1) 2; rw [Int.ediv_ediv_of_nonneg (by decide)] at z; omega)
  have d0 : ρ.I 0 / 2 = 256 * (ρ.I 0 / 512) + p0 := by rw [← e0]; clear e0; first | omega | (have z := Int.mul_ediv_add_emod (ρ.I 0 / 2) 256; rw [Int.ediv_ediv_of_nonneg (by decide)] at z; omega)
  have d7 : ρ.I 0 / 512 = 8 * (ρ.I 0 / 4096) + p7 := by rw [← e7]; clear e7; first | omega | (have z := Int.mul_ediv_add_emod (ρ.I 0 / 512) 8; rw [Int.ediv_ediv_of_nonneg (by decide)] at z; omega)
  have d8 : ρ.I 0 / 4096 = 2 * (ρ.I 0 / 8192) + p8 := by rw [← e8]; clear e8; first | omega | (have z := Int.mul_ediv_add_emod (ρ.I 0 / 4096) 2; rw [Int.ediv_ediv_of_nonneg (by decide)] at z; omega)
  have d9 : ρ.I 0 / 8192 = 2 * (ρ.I 0 / 16384) + p9 := by rw [← e9]; clear e9; first | omega | (have z := Int.mul_ediv_add_emod (ρ.I 0 / 8192) 2; rw [Int.ediv_ediv_of_nonneg (by decide)] at z; omega)
  have d4 : ρ.I 0 / 16384 = 4 * (ρ.I 0 / 65536) + p4 := by rw [← e4]; clear e4; first | omega | (have z := Int.mul_ediv_add_emod (ρ.I 0 / 16384) 4; rw [Int.ediv_ediv_of_nonneg (by decide)] at z; omega)
  have d5 : ρ.I 0 / 65536 = 1024 * (ρ.I 0 / 67108864) + p5 := by rw [← e5]; clear e5; first | omega | (have z := Int.mul_ediv_add_emod (ρ.I 0 / 65536) 1024; rw [Int.ediv_ediv_of_nonneg (by decide)] at z; omega)
  rw [e6, e0, e7, e8, e9, e4, e5, eq]
  rw [k (x := p6 + (q * 67108864)) (by omega) (by omega)]
  rw [k (x := p0 * 2) (by omega) (by omega)]
  rw [k (x := p0 * 2 + (p6 + (q * 67108864))) (by omega) (by omega)]
  rw [k (x := p7 * 512) (by omega) (by omega)]
  rw [k (x := p7 * 512 + (p0 * 2 + (p6 + (q * 67108864)))) (by omega) (by omega)]
  rw [k (x := p8 * 4096) (by omega) (by omega)]
  rw [k (x := p8 * 4096 + (p7 * 512 + (p0 * 2 + (p6 + (q * 67108864))))) (by omega) (by omega)]
  rw [k (x := p9 * 8192) (by omega) (by omega)]
  rw [k (x := p9 * 8192 + (p8 * 4096 + (p7 * 512 + (p0 * 2 + (p6 + (q * 67108864)))))) (by omega) (by omega)]
  rw [k (x := p4 * 16384) (by omega) (by omega)]
  rw [k (x := p4 * 16384 + (p9 * 8192 + (p8 * 4096 + (p7 * 512 + (p0 * 2 + (p6 + (q * 67108864))))))) (by omega) (by omega)]
  rw [k (x := p5 * 65536) (by omega) (by omega)]
  rw [k (x := p5 * 65536 + (p4 * 16384 + (p9 * 8192 + (p8 * 4096 + (p7 * 512 + (p0 * 2 + (p6 + (q * 67108864)))))))) (by omega) (by omega)]
  have z0 : ρ.I 0 / 1 = ρ.I 0 := Int.ediv_one _
  omega
def insV27 (ρ : Env) : Env := { ρ with I := fun i => match i with | 0 => ρ.I 0 % 16384 | 4 => ρ.I 0 / 16384 % 4 | 5 => ρ.I 0 / 65536 % 16 | 6 => ρ.I 0 / 1048576 % 2 | 7 => ρ.I 0 / 2097152 % 32 | i => ρ.I i }
theorem wordX27_ok {ρ : Env} (h0 : 0 ≤ ρ.I 0) (h1 : ρ.I 0 ≤ 4294967295) : (den (insV27 ρ) (wordX27 (ρ.I 0 / 67108864))).i = ρ.I 0 := by
  have k : ∀ {x : Int}, 0 ≤ x → x ≤ 9000000000 → IntKind.i64.wrap x = x := fun {x} a b => wrap_id (k := .i64) (by show -9223372036854775808 ≤ x; omega) (by show x ≤ 9223372036854775807; omega)
  simp only [wordX27, den, insV27, binI]
  obtain ⟨p0, e0⟩ : ∃ p, ρ.I 0 % 16384 = p := ⟨_, rfl⟩
  obtain ⟨p4, e4⟩ : ∃ p, ρ.I 0 / 16384 % 4 = p := ⟨_, rfl⟩
  obtain ⟨p5, e5⟩ : ∃ p, ρ.I 0 / 65536 % 16 = p := ⟨_, rfl⟩
  obtain ⟨p6, e6⟩ : ∃ p, ρ.I 0 / 1048576 % 2 = p := ⟨_, rfl⟩
  obtain ⟨p7, e7⟩ : ∃ p, ρ.I 0 / 2097152 % 32 = p := ⟨_, rfl⟩
  obtain ⟨q, eq⟩ : ∃ q, ρ.I 0 / 67108864 = q := ⟨_, rfl⟩
  have b0 : 0 ≤ p0 ∧ p0 ≤ 16383 := by omega
  have b4 : 0 ≤ p4 ∧ p4 ≤ 3 := by omega
  have b5 : 0 ≤ p5 ∧ p5 ≤ 15 := by omega
  have b6 : 0 ≤ p6 ∧ p6 ≤ 1 := by omega
  have b7 : 0 ≤ p7 ∧ p7 ≤ 31 := by omega
  have bq : 0 ≤ q ∧ q ≤ 63 := by omega
  have d0 : ρ.I 0 / 1 = 16384 * (ρ.I 0 / 16384) + p0 := by rw [← e0]; clear e0; first | omega | (have z := Int.mul_ediv_add_emod (ρ.I 0 / 1) 16384; rw [Int.ediv_ediv_of_nonneg (by decide)] at z; omega)
  have d4 : ρ.I 0 / 16384 = 4 * (ρ.I 0 / 65536) + p4 := by rw [← e4]; clear e4; first | omega | (have z := Int.mul_ediv_add_emod (ρ.I 0 / 16384) 4; rw [Int.ediv_ediv_of_nonneg (by decide)] at z; omega)
  have d5 : ρ.I 0 / 65536 = 16 * (ρ.I 0 / 1048576) + p5 := by rw [← e5]; clear e5; first | omega | (have z := Int.mul_ediv_add_emod (ρ.I 0 / 65536) 16; rw [Int.ediv_ediv_of_nonneg (by decide)] at z; omega)
  have d6 : ρ.I 0 / 1048576 = 2 * (ρ.I 0 / 2097152) + p6 := by rw [← e6]; clear e6; first | omega | (have z := Int.mul_ediv_add_emod (ρ.I 0 / 1048576) 2; rw [Int.ediv_ediv_of_nonneg (by decide)] at z; omega)
  have d7 : ρ.I 0 / 2097152 = 32 * (ρ.I 0 / 67108864) + p7 := by rw [← e7]; clear e7; first | omega | (have z := Int.mul_ediv_add_emod (ρ.I 0 / 2097152) 32; rw [Int.ediv_ediv_of_nonneg (by decide)] at z; omega)
  rw [e0, e4, e5, e6, e7, eq]
  rw [k (x := p0 + (q * 67108864)) (by omega) (by omega)]
  rw [k (x := p4 * 16384) (by omega) (by omega)]
  rw [k (x := p4 * 16384 + (p0 + (q * 67108864))) (by omega) (by omega)]
  rw [k (x := p5 * 65536) (by omega) (by omega)]
  rw [k (x := p5 * 65536 + (p4 * 16384 + (p0 + (q * 67108864)))) (by omega) (by omega)]
  rw [k (x := p6 * 1048576) (by omega) (by omega)]
  rw [k (x := p6 * 1048576 + (p5 * 65536 + (p4 * 16384 + (p0 + (q * 67108864))))) (by omega) (by omega)]
  rw [k (x := p7 * 2097152) (by omega) (by omega)]
  rw [k (x := p7 * 2097152 + (p6 * 1048576 + (p5 * 65536 + (p4 * 16384 + (p0 + (q * 67108864)))))) (by omega) (by omega)]
  have z0 : ρ.I 0 / 1 = ρ.I 0 := Int.ediv_one _
  omega
def insV30 (ρ : Env) : Env := { ρ with I := fun i => match i with | 0 => ρ.I 0 % 2048 | 6 => ρ.I 0 / 2048 % 8 | 4 => ρ.I 0 / 16384 % 4 | 5 => ρ.I 0 / 65536 % 32 | 7 => ρ.I 0 / 2097152 % 8 | 8 => ρ.I 0 / 16777216 % 2 | 9 => ρ.I 0 / 33554432 % 2 | i => ρ.I i }
theorem wordX30_ok {ρ : Env} (h0 : 0 ≤ ρ.I 0) (h1 : ρ.I 0 ≤ 4294967295) : (den (insV30 ρ) (wordX30 (ρ.I 0 / 67108864))).i = ρ.I 0 := by
  have k : ∀ {x : Int}, 0 ≤ x → x ≤ 9000000000 → IntKind.i64.wrap x = x := fun {x} a b => wrap_id (k := .i64) (by show -9223372036854775808 ≤ x; omega) (by show x ≤ 9223372036854775807; omega)
  simp only [wordX30, den, insV30, binI]
  obtain ⟨p0, e0⟩ : ∃ p, ρ.I 0 % 2048 = p := ⟨_, rfl⟩
  obtain ⟨p6, e6⟩ : ∃ p, ρ.I 0 / 2048 % 8 = p := ⟨_, rfl⟩
  obtain ⟨p4, e4⟩ : ∃ p, ρ.I 0 / 16384 % 4 = p := ⟨_, rfl⟩
  obtain ⟨p5, e5⟩ : ∃ p, ρ.I 0 / 65536 % 32 = p := ⟨_, rfl⟩
  obtain ⟨p7, e7⟩ : ∃ p, ρ.I 0 / 2097152 % 8 = p := ⟨_, rfl⟩
  obtain ⟨p8, e8⟩ : ∃ p, ρ.I 0 / 16777216 % 2 = p := ⟨_, rfl⟩
  obtain ⟨p9, e9⟩ : ∃ p, ρ.I 0 / 33554432 % 2 = p := ⟨_, rfl⟩
  obtain ⟨q, eq⟩ : ∃ q, ρ.I 0 / 67108864 = q := ⟨_, rfl⟩
  have b0 : 0 ≤ p0 ∧ p0 ≤ 2047 := by omega
  have b6 : 0 ≤ p6 ∧ p6 ≤ 7 := by omega
  have b4 : 0 ≤ p4 ∧ p4 ≤ 3 := by omega
  have b5 : 0 ≤ p5 ∧ p5 ≤ 31 := by omega
  have b7 : 0 ≤ p7 ∧ p7 ≤ 7 := by omega
  have b8 : 0 ≤ p8 ∧ p8 ≤ 1 := by omega
  have b9 : 0 ≤ p9 ∧ p9 ≤ 1 := by omega
  have bq : 0 ≤ q ∧ q ≤ 63 := by omega
  have d0 : ρ.I 0 / 1 = 2048 * (ρ.I 0 / 2048) + p0 := by rw [← e0]; clear e0; first | omega | (have z := Int.mul_ediv_add_emod (ρ.I 0 / 1) 2048; rw [Int.ediv_ediv_of_nonneg (by decide)] at z; omega)
  have d6 : ρ.I 0 / 2048 = 8 * (ρ.I 0 / 16384) + p6 := by rw [← e6]; clear e6; first | omega | (have z := Int.mul_ediv_add_emod (ρ.I 0 / 2048) 8; rw [Int.ediv_ediv_of_nonneg (by decide)] at z; omega)
  have d4 : ρ.I 0 / 16384 = 4 * (ρ.I 0 / 65536) + p4 := by rw [← e4]; clear e4; first | omega | (have z := Int.mul_ediv_add_emod (ρ.I 0 / 16384) 4; rw [Int.ediv_ediv_of_nonneg (by decide)] at z; omega)
  have d5 : ρ.I 0 / 65536 = 32 * (ρ.I 0 / 2097152) + p5 := by rw [← e5]; clear e5; first | omega | (have z := Int.mul_ediv_add_emod (ρ.I 0 / 65536) 32; rw [Int.ediv_ediv_of_nonneg (by decide)] at z; omega)
  have d7 : ρ.I 0 / 2097152 = 8 * (ρ.I 0 / 16777216) + p7 := by rw [← e7]; clear e7; first | omega | (have z := Int.mul_ediv_add_emod (ρ.I 0 / 2097152) 8; rw [Int.ediv_ediv_of_nonneg (by decide)] at z; omega)
  have d8 : ρ.I 0 / 16777216 = 2 * (ρ.I 0 / 33554432) + p8 := by rw [← e8]; clear e8; first | omega | (have z := Int.mul_ediv_add_emod (ρ.I 0 / 16777216) 2; rw [Int.ediv_ediv_of_nonneg (by decide)] at z; omega)
  have d9 : ρ.I 0 / 33554432 = 2 * (ρ.I 0 / 67108864) + p9 := by rw [← e9]; clear e9; first | omega | (have z := Int.mul_ediv_add_emod (ρ.I 0 / 33554432) 2; rw [Int.ediv_ediv_of_nonneg (by decide)] at z; omega)
  rw [e0, e6, e4, e5, e7, e8, e9, eq]
  rw [k (x := p0 + (q * 67108864)) (by omega) (by omega)]
  rw [k (x := p6 * 2048) (by omega) (by omega)]
  rw [k (x := p6 * 2048 + (p0 + (q * 67108864))) (by omega) (by omega)]
  rw [k (x := p4 * 16384) (by omega) (by omega)]
  rw [k (x := p4 * 16384 + (p6 * 2048 + (p0 + (q * 67108864)))) (by omega) (by omega)]
  rw [k (x := p5 * 65536) (by omega) (by omega)]
  rw [k (x := p5 * 65536 + (p4 * 16384 + (p6 * 2048 + (p0 + (q * 67108864))))) (by omega) (by omega)]
  rw [k (x := p7 * 2097152) (by omega) (by omega)]
  rw [k (x := p7 * 2097152 + (p5 * 65536 + (p4 * 16384 + (p6 * 2048 + (p0 + (q * 67108864)))))) (by omega) (by omega)]
  rw [k (x := p8 * 16777216) (by omega) (by omega)]
  rw [k (x := p8 * 16777216 + (p7 * 2097152 + (p5 * 65536 + (p4 * 16384 + (p6 * 2048 + (p0 + (q * 67108864))))))) (by omega) (by omega)]
  rw [k (x := p9 * 33554432) (by omega) (by omega)]
  rw [k (x := p9 * 33554432 + (p8 * 16777216 + (p7 * 2097152 + (p5 * 65536 + (p4 * 16384 + (p6 * 2048 + (p0 + (q * 67108864)))))))) (by omega) (by omega)]
  have z0 : ρ.I 0 / 1 = ρ.I 0 := Int.ediv_one _
  omega
theorem encInsts_spec {ρ : Env} (h0 : 0 ≤ ρ.I 0) (h1 : ρ.I 0 ≤ 4294967295) (h2 : 0 ≤ ρ.I 1) (h3 : ρ.I 1 ≤ 4294967295) (h4 : 0 ≤ ρ.I 3) (h5 : ρ.I 3 ≤ 4294967295) (hc : ρ.I 0 / 67108864 = 24 ∨ ρ.I 0 / 67108864 = 25 ∨ ρ.I 0 / 67108864 = 26 ∨ ρ.I 0 / 67108864 = 27 ∨ ρ.I 0 / 67108864 = 30 ∨ ρ.I 0 / 67108864 = 31) : CallsTo CX06 5 (concs ρ encInsts_args) (.sc (.bool true)) := by
  have f24 : FactsOk (insV24 ρ) encInsts_factsV24 := by
    intro p hp
    simp only [encInsts_factsV24, List.mem_cons, List.not_mem_nil, or_false] at hp
    rcases hp with rfl | rfl | rfl | rfl | rfl | rfl | rfl | rfl | rfl | rfl | rfl | rfl | rfl | rfl | rfl | rfl | rfl | rfl
    all_goals (refine decide_eq_true ?_; simp only [den, insV24]; omega)
  have e24 : concs ρ encInsts_args = concs (insV24 ρ) (encInsts_argsV24 (ρ.I 0 / 67108864) (ρ.B 2)) := by
    simp only [encInsts_args, encInsts_argsV24, concs, conc, concT, STy.val, wordX24_ok h0 h1]
    rfl
  have f27 : FactsOk (insV27 ρ) encInsts_factsV27 := by
    intro p hp
    simp only [encInsts_factsV27, List.mem_cons, List.not_mem_nil, or_false] at hp
    rcases hp with rfl | rfl | rfl | rfl | rfl | rfl | rfl | rfl | rfl | rfl | rfl | rfl | rfl | rfl
    all_goals (refine decide_eq_true ?_; simp only [den, insV27]; omega)
  have e27 : concs ρ encInsts_args = concs (insV27 ρ) (encInsts_argsV27 (ρ.I 0 / 67108864) (ρ.B 2)) := by
    simp only [encInsts_args, encInsts_argsV27, concs, conc, concT, STy.val, wordX27_ok h0 h1]
    rfl
  have f30 : FactsOk (insV30 ρ) encInsts_factsV30 := by
    intro p hp
    simp only [encInsts_factsV30, List.mem_cons, List.not_mem_nil, or_false] at hp
    rcases hp with rfl | rfl | rfl | rfl | rfl | rfl | rfl | rfl | rfl | rfl | rfl | rfl | rfl | rfl | rfl | rfl | rfl | rfl
    all_goals (refine decide_eq_true ?_; simp only [den, insV30]; omega)
  have e30 : concs ρ encInsts_args = concs (insV30 ρ) (encInsts_argsV30 (ρ.I 0 / 67108864) (ρ.B 2)) := by
    simp only [encInsts_args, encInsts_argsV30, concs, conc, concT, STy.val, wordX30_ok h0 h1]
    rfl
  have f : FactsOk (insV ρ) encInsts_factsV := by
    intro p hp
    simp only [encInsts_factsV, List.mem_cons, List.not_mem_nil, or_false] at hp
    rcases hp with rfl | rfl | rfl | rfl | rfl | rfl | rfl | rfl | rfl | rfl
    all_goals (refine decide_eq_true ?_; simp only [den, insV]; omega)
  have e : concs ρ encInsts_args = concs (insV ρ) (encInsts_argsV (ρ.I 0 / 67108864) (ρ.B 2)) := by
    simp only [encInsts_args, encInsts_argsV, concs, conc, concT, STy.val, wordX_ok h0 h1]
    rfl
  rcases hc with hc | hc | hc | hc | hc | hc
  · cases hB : ρ.B 2
    · rw [e, hc, hB]
      exact (encInsts_run24f.calls (CV06_ok f) f).of rfl rfl
    · rw [e24, hc, hB]
      cases h0 : (den (insV24 ρ) (.cmp .leq (.var 8) (.lit 0))).b with
      | true =>
        cases h1 : (den (insV24 ρ) (.cmp .leq (.var 7) (.lit 0))).b with
        | true =>
          exact (encInsts_run24tr.calls (CV06_ok ((f24.cons h0).cons h1)) ((f24.cons h0).cons h1)).of rfl rfl
        | false =>
          exact (encInsts_run24tq.calls (CV06_ok ((f24.cons h0).cons h1)) ((f24.cons h0).cons h1)).of rfl rfl
      | false =>
        exact (encInsts_run24tp.calls (CV06_ok (f24.cons h0)) (f24.cons h0)).of rfl rfl
  · cases hB : ρ.B 2
    · rw [e, hc, hB]
      exact (encInsts_run25f.calls (CV06_ok f) f).of rfl rfl
    · rw [e24, hc, hB]
      cases h0 : (den (insV24 ρ) (.cmp .leq (.var 8) (.lit 0))).b with
      | true =>
        cases h1 : (den (insV24 ρ) (.cmp .leq (.var 7) (.lit 0))).b with
        | true =>
          exact (encInsts_run25tr.calls (CV06_ok ((f24.cons h0).cons h1)) ((f24.cons h0).cons h1)).of rfl rfl
        | false =>
          exact (encInsts_run25tq.calls (CV06_ok ((f24.cons h0).cons h1)) ((f24.cons h0).cons h1)).of rfl rfl
      | false =>
        exact (encInsts_run25tp.calls (CV06_ok (f24.cons h0)) (f24.cons h0)).of rfl rfl
  · cases hB : ρ.B 2
    · rw [e, hc, hB]
      exact (encInsts_run26f.calls (CV06_ok f) f).of rfl rfl
    · rw [e24, hc, hB]
      cases h0 : (den (insV24 ρ) (.cmp .leq (.var 8) (.lit 0))).b with
      | true =>
        cases h1 : (den (insV24 ρ) (.cmp .leq (.var 7) (.lit 0))).b with
        | true =>
          exact (encInsts_run26tr.calls (CV06_ok ((f24.cons h0).cons h1)) ((f24.cons h0).cons h1)).of rfl rfl
        | false =>
          exact (encInsts_run26tq.calls (CV06_ok ((f24.cons h0).cons h1)) ((f24.cons h0).cons h1)).of rfl rfl
      | false =>
        exact (encInsts_run26tp.calls (CV06_ok (f24.cons h0)) (f24.cons h0)).of rfl rfl
  · rw [e27, hc]
    cases ρ.B 2
    · exact (encInsts_run27f.calls (CV06_ok f27) f27).of rfl rfl
    · cases h0 : (den (insV27 ρ) (.cmp .leq (.var 6) (.lit 0))).b with
      | true =>
        cases h1 : (den (insV27 ρ) (.cmp .leq (.var 5) (.lit 0))).b with
        | true =>
          cases h2 : (den (insV27 ρ) (.cmp .leq (.var 0) (.lit 255))).b with
          | true =>
            exact (encInsts_run27tr.calls (CV06_ok (((f27.cons h0).cons h1).cons h2)) (((f27.cons h0).cons h1).cons h2)).of rfl rfl
          | false =>
            exact (encInsts_run27ts.calls (CV06_ok (((f27.cons h0).cons h1).cons h2)) (((f27.cons h0).cons h1).cons h2)).of rfl rfl
        | false =>
          exact (encInsts_run27tq.calls (CV06_ok ((f27.cons h0).cons h1)) ((f27.cons h0).cons h1)).of rfl rfl
      | false =>
        exact (encInsts_run27tp.calls (CV06_ok (f27.cons h0)) (f27.cons h0)).of rfl rfl
  · rw [e30, hc]
    cases ρ.B 2
    · exact (encInsts_run30f.calls (CV06_ok f30) f30).of rfl rfl
    · cases h0 : (den (insV30 ρ) (.cmp .leq (.var 7) (.lit 0))).b with
      | true =>
        cases h1 : (den (insV30 ρ) (.cmp .leq (.var 8) (.lit 0))).b with
        | true =>
          exact (encInsts_run30tr.calls (CV06_ok ((f30.cons h0).cons h1)) ((f30.cons h0).cons h1)).of rfl rfl
        | false =>
          exact (encInsts_run30ts.calls (CV06_ok ((f30.cons h0).cons h1)) ((f30.cons h0).cons h1)).of rfl rfl
      | false =>
        exact (encInsts_run30tp.calls (CV06_ok (f30.cons h0)) (f30.cons h0)).of rfl rfl
  · rw [e30, hc]
    cases ρ.B 2
    · cases h0 : (den (insV30 ρ) (.cmp .leq (.var 8) (.lit 0))).b with
      | true =>
        exact (encInsts_run31fp.calls (CV06_ok (f30.cons h0)) (f30.cons h0)).of rfl rfl
      | false =>
        exact (encInsts_run31fq.calls (CV06_ok (f30.cons h0)) (f30.cons h0)).of rfl rfl
    · cases h0 : (den (insV30 ρ) (.cmp .leq (.var 7) (.lit 0))).b with
      | true =>
        cases h1 : (den (insV30 ρ) (.cmp .leq (.var 8) (.lit 0))).b with
        | true =>
          exact (encInsts_run31tr.calls (CV06_ok ((f30.cons h0).cons h1)) ((f30.cons h0).cons h1)).of rfl rfl
        | false =>
          exact (encInsts_run31ts.calls (CV06_ok ((f30.cons h0).cons h1)) ((f30.cons h0).cons h1)).of rfl rfl
      | false =>
        exact (encInsts_run31tp.calls (CV06_ok (f30.cons h0)) (f30.cons h0)).of rfl rfl
theorem encInsts_calls {ρ : Env} (hf : FactsOk ρ encInsts_facts) : CallsTo CX06 5 (concs ρ encInsts_args) (.sc (.bool true)) := by
  have h0 : 0 ≤ ρ.I 0 := of_decide_eq_true (hf (.cmp .geq (.var 0) (.lit 0), true) (by simp [encInsts_facts]))
  have h1 : ρ.I 0 ≤ 4294967295 := of_decide_eq_true (hf (.cmp .leq (.var 0) (.lit 4294967295), true) (by simp [encInsts_facts]))
  have h2 : 0 ≤ ρ.I 1 := of_decide_eq_true (hf (.cmp .geq (.var 1) (.lit 0), true) (by simp [encInsts_facts]))
  have h3 : ρ.I 1 ≤ 4294967295 := of_decide_eq_true (hf (.cmp .leq (.var 1) (.lit 4294967295), true) (by simp [encInsts_facts]))
  have h4 : 0 ≤ ρ.I 3 := of_decide_eq_true (hf (.cmp .geq (.var 3) (.lit 0), true) (by simp [encInsts_facts]))
  have h5 : ρ.I 3 ≤ 4294967295 := of_decide_eq_true (hf (.cmp .leq (.var 3) (.lit 4294967295), true) (by simp [encInsts_facts]))
  by_cases hn : ρ.I 0 / 67108864 ≠ 24 ∧ ρ.I 0 / 67108864 ≠ 25 ∧ ρ.I 0 / 67108864 ≠ 26 ∧ ρ.I 0 / 67108864 ≠ 27 ∧ ρ.I 0 / 67108864 ≠ 30 ∧ ρ.I 0 / 67108864 ≠ 31
  case neg => exact encInsts_spec h0 h1 h2 h3 h4 h5 (by omega)
  have hf2 : FactsOk (insV ρ) encInsts_factsV := by
    intro p hp
    simp only [encInsts_factsV, List.mem_cons, List.not_mem_nil, or_false] at hp
    rcases hp with rfl | rfl | rfl | rfl | rfl | rfl | rfl | rfl | rfl | rfl
    all_goals (refine decide_eq_true ?_; simp only [den, insV]; omega)
  have e : concs ρ encInsts_args = concs (insV ρ) (encInsts_argsV (ρ.I 0 / 67108864) (ρ.B 2)) := by
    simp only [encInsts_args, encInsts_argsV, concs, conc, concT, STy.val, wordX_ok h0 h1]
    rfl
  rw [e]
  exact ((encInsts_all (ρ.I 0 / 67108864) (by omega) (by omega) hn (ρ.B 2)).calls (CV06_ok hf2) hf2).of rfl rfl

theorem encInsts_glob : GlobOk Tryd.prog Rows.encInstsRow.laid globEnc := ⟨⟨"coxless/bits.codeAt", Rows.laid_coxless_bits_codeAt, .head _, by kernel_rfl, by kernel_rfl⟩, ⟨"coxless/bits.ends", Rows.laid_coxless_bits_ends, .tail _ (.head _), by kernel_rfl, by kernel_rfl⟩, ⟨"coxless/bits.parseAt", Rows.laid_coxless_bits_parseAt, .tail _ (.tail _ (.head _)), by kernel_rfl, by kernel_rfl⟩, trivial⟩

theorem encInsts_walk (a0 : Int) (w0 : IntKind.min .u32 ≤ a0 ∧ a0 ≤ IntKind.max .u32) (a1 : Int) (w1 : IntKind.min .u32 ≤ a1 ∧ a1 ≤ IntKind.max .u32) (a2 : Bool) (a3 : Int) (w3 : IntKind.min .u32 ≤ a3 ∧ a3 ≤ IntKind.max .u32) (w : World) (hL : laidMetH Tryd.prog Rows.encInstsRow.laid w) : Calls Tryd.prog 5 #[.int .u32 a0, .int .u32 a1, .bool a2, .int .u32 a3] w fun e w' => e = .returned (.bool true) ∧ Below w.heap.size w w' := by
  have hf : FactsOk ⟨fun i => [a0, a1, 0, a3].getD i 0, fun i => [false, false, a2, false].getD i false, fun i => [ByteArray.empty, ByteArray.empty, ByteArray.empty, ByteArray.empty].getD i ByteArray.empty, FF0⟩ encInsts_facts := by
    intro p hp
    simp only [encInsts_facts, List.mem_cons, List.not_mem_nil, or_false] at hp
    rcases hp with rfl | rfl | rfl | rfl | rfl | rfl
    · exact decide_eq_true w0.1
    · exact decide_eq_true w0.2
    · exact decide_eq_true w1.1
    · exact decide_eq_true w1.2
    · exact decide_eq_true w3.1
    · exact decide_eq_true w3.2
  refine walk_laid_of (C := CX06) (encInsts_calls hf) rfl encInsts_glob (by kernel_rfl) w (fun ob => ?_) hL
  refine ⟨rfl, fun i a v hi hv => ?_⟩
  match i, hi, hv with
  | 0, hi, hv =>
    obtain rfl := Option.some.inj hi
    obtain rfl := Option.some.inj hv
    exact .of_sc _ _ _ _
  | 1, hi, hv =>
    obtain rfl := Option.some.inj hi
    obtain rfl := Option.some.inj hv
    exact .of_sc _ _ _ _
  | 2, hi, hv =>
    obtain rfl := Option.some.inj hi
    obtain rfl := Option.some.inj hv
    exact .of_sc _ _ _ _
  | 3, hi, hv =>
    obtain rfl := Option.some.inj hi
    obtain rfl := Option.some.inj hv
    exact .of_sc _ _ _ _
  | k + 4, hi, _ => simp [concs, encInsts_args] at hi
end Go.Proofs.YtgpijioodocplaaDoor
