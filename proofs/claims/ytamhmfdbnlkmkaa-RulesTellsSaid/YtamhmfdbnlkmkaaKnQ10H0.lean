/- Rules: what is told, as variables. -/
import Derived.Test.YtamhmfdbnlkmkaaKnQ100
set_option linter.unusedVariables false
set_option linter.unusedSimpArgs false
set_option maxRecDepth 100000
namespace Go.Proofs.Ytamhmfdbnlkmkaa
open Go Go.RowKit


/-- What is told, as variables. -/
def tE (ρ : Env) (cl w kd p : Nat → Int) (rt f : Nat → Bool) (c : Nat → Nat → Bool) (cab : Bool) (chk : Int) : Env := ⟨fun v => if v = 740 then chk else if (v - 100) % 40 = 12 then cl ((v - 100) / 40) else if (v - 100) % 40 = 13 then w ((v - 100) / 40) else if (v - 100) % 40 = 14 then kd ((v - 100) / 40) else if (v - 100) % 40 = 15 then p ((v - 100) / 40) else ρ.I v,
  fun v => if 600 ≤ v ∧ v < 700 then c ((v - 600) / 10) ((v - 600) % 10) else if 700 ≤ v ∧ v < 709 then f (v - 700) else if v = 720 then cab else if 730 ≤ v ∧ v < 739 then rt (v - 730) else ρ.B v, ρ.S, iteF⟩

section
variable {ρ : Env} {cl w kd p : Nat → Int} {rt f : Nat → Bool} {c : Nat → Nat → Bool} {cab : Bool} {chk : Int}

theorem tE_I {i k : Nat} (hi : i < 10) (hk : k ≤ 10) : (tE ρ cl w kd p rt f c cab chk).I (qB i + k) = ρ.I (qB i + k) := by
  have e : qB i = 100 + 40 * i := rfl
  have h1 : ¬ (qB i + k = 740) := by omega
  have h2 : (qB i + k - 100) % 40 = k := by omega
  show (if qB i + k = 740 then _ else _) = _
  rw [if_neg h1, h2, if_neg (by omega), if_neg (by omega), if_neg (by omega), if_neg (by omega)]

theorem tE_B {i k : Nat} (hi : i < 10) (hk : k ≤ 10) : (tE ρ cl w kd p rt f c cab chk).B (qB i + k) = ρ.B (qB i + k) := by
  have e : qB i = 100 + 40 * i := rfl
  show (if 600 ≤ qB i + k ∧ qB i + k < 700 then _ else _) = _
  rw [if_neg (by omega), if_neg (by omega), if_neg (by omega), if_neg (by omega)]

theorem tE_cl {i : Nat} (hi : i < 10) : (tE ρ cl w kd p rt f c cab chk).I (qB i + 12) = cl i := by
  have e : qB i = 100 + 40 * i := rfl
  have h2 : (qB i + 12 - 100) % 40 = 12 := by omega
  have h3 : (qB i + 12 - 100) / 40 = i := by omega
  show (if qB i + 12 = 740 then _ else _) = _
  rw [if_neg (by omega), h2, if_pos rfl, h3]
theorem tE_w {i : Nat} (hi : i < 10) : (tE ρ cl w kd p rt f c cab chk).I (qB i + 13) = w i := by
  have e : qB i = 100 + 40 * i := rfl
  have h2 : (qB i + 13 - 100) % 40 = 13 := by omega
  have h3 : (qB i + 13 - 100) / 40 = i := by omega
  show (if qB i + 13 = 740 then _ else _) = _
  rw [if_neg (by omega), h2, if_neg (by decide), if_pos rfl, h3]
theorem tE_kd {i : Nat} (hi : i < 10) : (tE ρ cl w kd p rt f c cab chk).I (qB i + 14) = kd i := by
  have e : qB i = 100 + 40 * i := rfl
  have h2 : (qB i + 14 - 100) % 40 = 14 := by omega
  have h3 : (qB i + 14 - 100) / 40 = i := by omega
  show (if qB i + 14 = 740 then _ else _) = _
  rw [if_neg (by omega), h2, if_neg (by decide), if_neg (by decide), if_pos rfl, h3]
theorem tE_p {i : Nat} (hi : i < 10) : (tE ρ cl w kd p rt f c cab chk).I (qB i + 15) = p i := by
  have e : qB i = 100 + 40 * i := rfl
  have h2 : (qB i + 15 - 100) % 40 = 15 := by omega
  have h3 : (qB i + 15 - 100) / 40 = i := by omega
  show (if qB i + 15 = 740 then _ else _) = _
  rw [if_neg (by omega), h2, if_neg (by decide), if_neg (by decide), if_neg (by decide), if_pos rfl, h3]

theorem tE_A {i : Nat} (hi : i < 10) : conc (tE ρ cl w kd p rt f c cab chk) (qA false i) = conc ρ (iA (qB i)) := by
  have hI := fun k (hk : k ≤ 10) => tE_I (ρ := ρ) (cl := cl) (w := w) (kd := kd) (p := p) (rt := rt) (f := f) (c := c) (cab := cab) (chk := chk) hi hk
  have hB := fun k (hk : k ≤ 10) => tE_B (ρ := ρ) (cl := cl) (w := w) (kd := kd) (p := p) (rt := rt) (f := f) (c := c) (cab := cab) (chk := chk) hi hk
  show AV.agg [inV .u8 ((tE ρ cl w kd p rt f c cab chk).I (qB i + 0)), inV .u8 ((tE ρ cl w kd p rt f c cab chk).I (qB i + 1)), inV .u8 ((tE ρ cl w kd p rt f c cab chk).I (qB i + 2)), inV .u8 ((tE ρ cl w kd p rt f c cab chk).I (qB i + 3)), inV .u8 ((tE ρ cl w kd p rt f c cab chk).I (qB i + 4)), inV .u8 ((tE ρ cl w kd p rt f c cab chk).I (qB i + 5)), inV .u8 ((tE ρ cl w kd p rt f c cab chk).I (qB i + 6)), blV ((tE ρ cl w kd p rt f c cab chk).B (qB i + 7)), blV ((tE ρ cl w kd p rt f c cab chk).B (qB i + 8)), inV .u16 ((tE ρ cl w kd p rt f c cab chk).I (qB i + 9)), inV .i64 ((tE ρ cl w kd p rt f c cab chk).I (qB i + 10))] = AV.agg [inV .u8 (ρ.I (qB i + 0)), inV .u8 (ρ.I (qB i + 1)), inV .u8 (ρ.I (qB i + 2)), inV .u8 (ρ.I (qB i + 3)), inV .u8 (ρ.I (qB i + 4)), inV .u8 (ρ.I (qB i + 5)), inV .u8 (ρ.I (qB i + 6)), blV (ρ.B (qB i + 7)), blV (ρ.B (qB i + 8)), inV .u16 (ρ.I (qB i + 9)), inV .i64 (ρ.I (qB i + 10))]
  rw [hI 0 (by decide), hI 1 (by decide), hI 2 (by decide), hI 3 (by decide), hI 4 (by decide), hI 5 (by decide), hI 6 (by decide), hB 7 (by decide), hB 8 (by decide), hI 9 (by decide), hI 10 (by decide)]

theorem tE_At {i : Nat} (hi : i < 10) (hm : ρ.B (qB i + 7) = true → ρ.I (qB i + 6) = 0) : conc (tE ρ cl w kd p rt f c cab chk) (qA true i) = conc ρ (iA (qB i)) := by
  have hI := fun k (hk : k ≤ 10) => tE_I (ρ := ρ) (cl := cl) (w := w) (kd := kd) (p := p) (rt := rt) (f := f) (c := c) (cab := cab) (chk := chk) hi hk
  have hB := fun k (hk : k ≤ 10) => tE_B (ρ := ρ) (cl := cl) (w := w) (kd := kd) (p := p) (rt := rt) (f := f) (c := c) (cab := cab) (chk := chk) hi hk
  show AV.agg [inV .u8 ((tE ρ cl w kd p rt f c cab chk).I (qB i + 0)), inV .u8 ((tE ρ cl w kd p rt f c cab chk).I (qB i + 1)), inV .u8 ((tE ρ cl w kd p rt f c cab chk).I (qB i + 2)), inV .u8 ((tE ρ cl w kd p rt f c cab chk).I (qB i + 3)), inV .u8 ((tE ρ cl w kd p rt f c cab chk).I (qB i + 4)), inV .u8 ((tE ρ cl w kd p rt f c cab chk).I (qB i + 5)), inV .u8 ((tE ρ cl w kd p rt f c cab chk).I (qB i + 6)), blV ((tE ρ cl w kd p rt f c cab chk).B (qB i + 7) && ((tE ρ cl w kd p rt f c cab chk).I (qB i + 6) == 0)), blV ((tE ρ cl w kd p rt f c cab chk).B (qB i + 8)), inV .u16 ((tE ρ cl w kd p rt f c cab chk).I (qB i + 9)), inV .i64 ((tE ρ cl w kd p rt f c cab chk).I (qB i + 10))] = AV.agg [inV .u8 (ρ.I (qB i + 0)), inV .u8 (ρ.I (qB i + 1)), inV .u8 (ρ.I (qB i + 2)), inV .u8 (ρ.I (qB i + 3)), inV .u8 (ρ.I (qB i + 4)), inV .u8 (ρ.I (qB i + 5)), inV .u8 (ρ.I (qB i + 6)), blV (ρ.B (qB i + 7)), blV (ρ.B (qB i + 8)), inV .u16 (ρ.I (qB i + 9)), inV .i64 (ρ.I (qB i + 10))]
  have h7 : ((tE ρ cl w kd p rt f c cab chk).B (qB i + 7) && ((tE ρ cl w kd p rt f c cab chk).I (qB i + 6) == 0)) = ρ.B (qB i + 7) := by
    rw [hB 7 (by decide), hI 6 (by decide)]
    cases hb : ρ.B (qB i + 7) with
    | false => rfl
    | true => rw [hm hb]; rfl
  rw [h7, hI 0 (by decide), hI 1 (by decide), hI 2 (by decide), hI 3 (by decide), hI 4 (by decide), hI 5 (by decide), hI 6 (by decide), hB 8 (by decide), hI 9 (by decide), hI 10 (by decide)]
end

end Go.Proofs.Ytamhmfdbnlkmkaa
