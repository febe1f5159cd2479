/- Duplexes: words of two halves, stores; small instructions where the variables of bits are known too. -/
import Derived.Test.YthabafmieebmmaaDoorKnS07R
import Derived.Test.YthabafmieebmmaaDoorKnA08
set_option linter.unusedVariables false
set_option linter.unusedSimpArgs false
set_option maxRecDepth 100000
namespace Go.Proofs.YthabafmieebmmaaDoor
open Go Go.RowKit

theorem CallsTo.more {C C' : Ctx} {f : FuncId} {args : List AV} {r : AV} (h : CallsTo C f args r) (hp : C'.P = C.P) (hg : ∀ g v, C.glob g = some v → C'.glob g = some v) : CallsTo C' f args r := by
  intro ob Pb w vs h1 h2 h3
  have := h ob Pb w vs h1 h2 (fun o g s el hh => h3 o g s el (hg g (s, el) hh))
  rw [hp]
  exact this

theorem subDup (g : Nat) (v : Nat × List (List TC)) (h : CA07.glob g = some v) : CA08.glob g = some v := by
  have h' : globAt globSub g = some v := h
  show globAt globDup g = some v
  match g, h' with
  | 0, h' => exact h'
  | g + 1, h' =>
    have : globAt globSub (g + 1) = none := by
      simp only [globSub, globAt]
      rfl
    rw [this] at h'
    cases h'

theorem CallsTo.dup {f : FuncId} {args : List AV} {r : AV} (h : CallsTo CA07 f args r) : CallsTo CA08 f args r := h.more rfl subDup

/-- The number of two halves' word. -/
def wrd (x y : Int) : Int := x * 131072 + (y / 16384 * 65536 + y % 16384)
theorem wrd_inj {x y : Int} (hx : 0 ≤ x) (hy : 0 ≤ y) (hx1 : x ≤ 32767) (hy1 : y ≤ 32767) (h : wrd x y = wrd y x) : x = y := by
  have ex : x = 16384 * (x / 16384) + x % 16384 := by omega
  have ey : y = 16384 * (y / 16384) + y % 16384 := by omega
  have a0 : 0 ≤ x % 16384 ∧ x % 16384 ≤ 16383 := by omega
  have b0 : 0 ≤ y % 16384 ∧ y % 16384 ≤ 16383 := by omega
  have a1 : x / 16384 = 0 ∨ x / 16384 = 1 := by omega
  have b1 : y / 16384 = 0 ∨ y / 16384 = 1 := by omega
  unfold wrd at h
  generalize x / 16384 = p at *
  generalize y / 16384 = q at *
  generalize x % 16384 = l at *
  generalize y % 16384 = m at *
  rcases a1 with rfl | rfl <;> rcases b1 with rfl | rfl <;> omega
theorem wrd_le {x y : Int} (hx : 0 ≤ x) (hy : 0 ≤ y) (hx1 : x ≤ 32767) (hy1 : y ≤ 32767) : 0 ≤ wrd x y ∧ wrd x y ≤ 4294967295 := by unfold wrd; omega
def thirty (w : Int) : Int := w % 16384 + w / 65536 * 16384
theorem thirty_wrd {x y : Int} (hx : 0 ≤ x) (hy : 0 ≤ y) (hx1 : x ≤ 32767) (hy1 : y ≤ 32767) : thirty (wrd x y) = x * 32768 + y ∧ wrd x y / 16384 % 4 = 0 := by
  have e : y = 16384 * (y / 16384) + y % 16384 := by omega
  unfold wrd
  generalize hu : y / 16384 = q at e ⊢
  generalize hl : y % 16384 = l at e ⊢
  have hl0 : 0 ≤ l := by omega
  have hl1 : l ≤ 16383 := by omega
  have a : (x * 131072 + (q * 65536 + l)) % 16384 = l := by omega
  have b : (x * 131072 + (q * 65536 + l)) / 65536 = 2 * x + q := by omega
  have c : (x * 131072 + (q * 65536 + l)) / 16384 = 8 * x + 4 * q := by omega
  unfold thirty
  rw [a, b, c]
  omega
theorem wrd_thirty {w : Int} (h0 : 0 ≤ w) (h1 : w ≤ 4294967295) (hp : w / 16384 % 4 = 0) : wrd (thirty w / 32768) (thirty w % 32768) = w := by
  have h2 : w / 16384 / 4 = w / 65536 := by rw [Int.ediv_ediv_of_nonneg (by decide)]; rfl
  have e : w = 65536 * (w / 65536) + w % 16384 := by
    rw [← h2]
    generalize hq : w / 16384 = q at *
    omega
  have hl : 0 ≤ w % 16384 ∧ w % 16384 ≤ 16383 := by omega
  have hu : 0 ≤ w / 65536 := by omega
  unfold thirty
  clear hp h2 h0 h1
  generalize w / 65536 = u at *
  generalize w % 16384 = l at *
  subst e
  have a : (l + u * 16384) / 32768 = u / 2 := by omega
  have b : (l + u * 16384) % 32768 = l + 16384 * (u % 2) := by omega
  have c : (l + 16384 * (u % 2)) / 16384 = u % 2 := by omega
  have d : (l + 16384 * (u % 2)) % 16384 = l := by omega
  rw [a, b]
  unfold wrd
  rw [c, d]
  omega

def shrE (a : Sx) (k : Int) : Sx := .bin .shr .i64 a (.lit k)
def wrdE (x y : Sx) : Sx := addE (mulE x 131072) (addE (mulE (shrE y 14) 65536) (addE y (mulE (shrE y 14) (-16384))))
def thirtyE (w : Sx) : Sx := addE (addE w (mulE (shrE w 14) (-16384))) (mulE (shrE w 16) 16384)
def parseE (w : Sx) : Sx := addE (shrE w 14) (mulE (shrE w 16) (-4))
def payloadE (w : Sx) : Sx := addE (addE w (mulE (shrE w 14) (-16384))) (addE (mulE (shrE w 16) 16384) (mulE (shrE w 26) (-16777216)))
def xyF : Facts := [(.cmp .geq (.var 0) (.lit 0), true), (.cmp .leq (.var 0) (.lit 32767), true), (.cmp .geq (.var 1) (.lit 0), true), (.cmp .leq (.var 1) (.lit 32767), true)]
def wF : Facts := [(.cmp .geq (.var 0) (.lit 0), true), (.cmp .leq (.var 0) (.lit 4294967295), true)]
abbrev i64E (e : Sx) : AV := .tc (.sy (.int .i64) e)
abbrev u32E (e : Sx) : AV := .tc (.sy (.int .u32) e)
abbrev u16E (e : Sx) : AV := .tc (.sy (.int .u16) e)
abbrev u8E (e : Sx) : AV := .tc (.sy (.int .u8) e)
theorem word_run : RunsIs CA08 24 xyF 50 [u16E (.var 0), u16E (.var 1)] (u32E (wrdE (.var 0) (.var 1))) := .code codeDup_ok rfl (by kernel_rfl)
theorem join_run : RunsIs CA08 24 xyF 51 [i64E (.var 0), i64E (.var 1)] (u32E (wrdE (.var 0) (.var 1))) := .code codeDup_ok rfl (by kernel_rfl)
theorem thirty_run : RunsIs CA08 24 wF 46 [u32E (.var 0)] (u32E (thirtyE (.var 0))) := .code codeDup_ok rfl (by kernel_rfl)
theorem partsD_run : RunsIs CA08 24 wF 32 [u32E (.var 0)] (.tuple [u8E (shrE (.var 0) 26), u32E (payloadE (.var 0)), u8E (parseE (.var 0))]) := .code codeDup_ok rfl (by kernel_rfl)
theorem halves_run : RunsIs CA08 24 wF 48 [u32E (.var 0)] (.tuple [i64E (shrE (.var 0) 17), i64E (addE (addE (.var 0) (mulE (shrE (.var 0) 14) (-16384))) (addE (mulE (shrE (.var 0) 16) 16384) (mulE (shrE (.var 0) 17) (-32768)))), i64E (parseE (.var 0))]) := .code codeDup_ok rfl (by kernel_rfl)
theorem store_run0 : RunsIs CA08 24 rightF 47 (rightA 0) (.tc (.sc (.bool false))) := .code codeDup_ok rfl (by kernel_rfl)
theorem stoq_run0 : RunsIs CA08 24 rightF 49 (rightA 0) (.tc (.sc (.bool false))) := .code codeDup_ok rfl (by kernel_rfl)
theorem store_run1 : RunsIs CA08 24 rightF 47 (rightA 1) (.tc (.sc (.bool false))) := .code codeDup_ok rfl (by kernel_rfl)
theorem stoq_run1 : RunsIs CA08 24 rightF 49 (rightA 1) (.tc (.sc (.bool false))) := .code codeDup_ok rfl (by kernel_rfl)
theorem store_run2 : RunsIs CA08 24 rightF 47 (rightA 2) (.tc (.sc (.bool false))) := .code codeDup_ok rfl (by kernel_rfl)
theorem stoq_run2 : RunsIs CA08 24 rightF 49 (rightA 2) (.tc (.sc (.bool false))) := .code codeDup_ok rfl (by kernel_rfl)
theorem store_run3 : RunsIs CA08 24 rightF 47 (rightA 3) (.tc (.sc (.bool false))) := .code codeDup_ok rfl (by kernel_rfl)
theorem stoq_run3 : RunsIs CA08 24 rightF 49 (rightA 3) (.tc (.sc (.bool false))) := .code codeDup_ok rfl (by kernel_rfl)
theorem store_run4 : RunsIs CA08 24 rightF 47 (rightA 4) (.tc (.sc (.bool false))) := .code codeDup_ok rfl (by kernel_rfl)
theorem stoq_run4 : RunsIs CA08 24 rightF 49 (rightA 4) (.tc (.sc (.bool false))) := .code codeDup_ok rfl (by kernel_rfl)
theorem store_run5 : RunsIs CA08 24 rightF 47 (rightA 5) (.tc (.sc (.bool false))) := .code codeDup_ok rfl (by kernel_rfl)
theorem stoq_run5 : RunsIs CA08 24 rightF 49 (rightA 5) (.tc (.sc (.bool false))) := .code codeDup_ok rfl (by kernel_rfl)
theorem store_run6 : RunsIs CA08 24 rightF 47 (rightA 6) (.tc (.sc (.bool false))) := .code codeDup_ok rfl (by kernel_rfl)
theorem stoq_run6 : RunsIs CA08 24 rightF 49 (rightA 6) (.tc (.sc (.bool false))) := .code codeDup_ok rfl (by kernel_rfl)
theorem store_run7 : RunsIs CA08 24 rightF 47 (rightA 7) (.tc (.sc (.bool false))) := .code codeDup_ok rfl (by kernel_rfl)
theorem stoq_run7 : RunsIs CA08 24 rightF 49 (rightA 7) (.tc (.sc (.bool false))) := .code codeDup_ok rfl (by kernel_rfl)
theorem store_run8 : RunsIs CA08 24 rightF 47 (rightA 8) (.tc (.sc (.bool false))) := .code codeDup_ok rfl (by kernel_rfl)
theorem stoq_run8 : RunsIs CA08 24 rightF 49 (rightA 8) (.tc (.sc (.bool false))) := .code codeDup_ok rfl (by kernel_rfl)
theorem store_run9 : RunsIs CA08 24 rightF 47 (rightA 9) (.tc (.sc (.bool false))) := .code codeDup_ok rfl (by kernel_rfl)
theorem stoq_run9 : RunsIs CA08 24 rightF 49 (rightA 9) (.tc (.sc (.bool false))) := .code codeDup_ok rfl (by kernel_rfl)
theorem store_run10 : RunsIs CA08 24 rightF 47 (rightA 10) (.tc (.sc (.bool false))) := .code codeDup_ok rfl (by kernel_rfl)
theorem stoq_run10 : RunsIs CA08 24 rightF 49 (rightA 10) (.tc (.sc (.bool false))) := .code codeDup_ok rfl (by kernel_rfl)
theorem store_run11 : RunsIs CA08 24 rightF 47 (rightA 11) (.tc (.sc (.bool false))) := .code codeDup_ok rfl (by kernel_rfl)
theorem stoq_run11 : RunsIs CA08 24 rightF 49 (rightA 11) (.tc (.sc (.bool false))) := .code codeDup_ok rfl (by kernel_rfl)
theorem store_run12 : RunsIs CA08 24 rightF 47 (rightA 12) (.tc (.sc (.bool false))) := .code codeDup_ok rfl (by kernel_rfl)
theorem stoq_run12 : RunsIs CA08 24 rightF 49 (rightA 12) (.tc (.sc (.bool false))) := .code codeDup_ok rfl (by kernel_rfl)
theorem store_run13 : RunsIs CA08 24 rightF 47 (rightA 13) (.tc (.sc (.bool false))) := .code codeDup_ok rfl (by kernel_rfl)
theorem stoq_run13 : RunsIs CA08 24 rightF 49 (rightA 13) (.tc (.sc (.bool false))) := .code codeDup_ok rfl (by kernel_rfl)
theorem store_run14 : RunsIs CA08 24 rightF 47 (rightA 14) (.tc (.sc (.bool false))) := .code codeDup_ok rfl (by kernel_rfl)
theorem stoq_run14 : RunsIs CA08 24 rightF 49 (rightA 14) (.tc (.sc (.bool false))) := .code codeDup_ok rfl (by kernel_rfl)
theorem store_run15 : RunsIs CA08 24 rightF 47 (rightA 15) (.tc (.sc (.bool false))) := .code codeDup_ok rfl (by kernel_rfl)
theorem stoq_run15 : RunsIs CA08 24 rightF 49 (rightA 15) (.tc (.sc (.bool false))) := .code codeDup_ok rfl (by kernel_rfl)
theorem store_run16 : RunsIs CA08 24 rightF 47 (rightA 16) (.tc (.sc (.bool false))) := .code codeDup_ok rfl (by kernel_rfl)
theorem stoq_run16 : RunsIs CA08 24 rightF 49 (rightA 16) (.tc (.sc (.bool false))) := .code codeDup_ok rfl (by kernel_rfl)
theorem store_run17 : RunsIs CA08 24 rightF 47 (rightA 17) (.tc (.sc (.bool false))) := .code codeDup_ok rfl (by kernel_rfl)
theorem stoq_run17 : RunsIs CA08 24 rightF 49 (rightA 17) (.tc (.sc (.bool false))) := .code codeDup_ok rfl (by kernel_rfl)
theorem store_run18 : RunsIs CA08 24 rightF 47 (rightA 18) (.tc (.sc (.bool false))) := .code codeDup_ok rfl (by kernel_rfl)
theorem stoq_run18 : RunsIs CA08 24 rightF 49 (rightA 18) (.tc (.sc (.bool false))) := .code codeDup_ok rfl (by kernel_rfl)
theorem store_run19 : RunsIs CA08 24 rightF 47 (rightA 19) (.tc (.sc (.bool false))) := .code codeDup_ok rfl (by kernel_rfl)
theorem stoq_run19 : RunsIs CA08 24 rightF 49 (rightA 19) (.tc (.sc (.bool false))) := .code codeDup_ok rfl (by kernel_rfl)
theorem store_run20 : RunsIs CA08 24 rightF 47 (rightA 20) (.tc (.sc (.bool false))) := .code codeDup_ok rfl (by kernel_rfl)
theorem stoq_run20 : RunsIs CA08 24 rightF 49 (rightA 20) (.tc (.sc (.bool false))) := .code codeDup_ok rfl (by kernel_rfl)
theorem store_run21 : RunsIs CA08 24 rightF 47 (rightA 21) (.tc (.sc (.bool false))) := .code codeDup_ok rfl (by kernel_rfl)
theorem stoq_run21 : RunsIs CA08 24 rightF 49 (rightA 21) (.tc (.sc (.bool false))) := .code codeDup_ok rfl (by kernel_rfl)
theorem store_run22 : RunsIs CA08 24 rightF 47 (rightA 22) (.tc (.sc (.bool false))) := .code codeDup_ok rfl (by kernel_rfl)
theorem stoq_run22 : RunsIs CA08 24 rightF 49 (rightA 22) (.tc (.sc (.bool false))) := .code codeDup_ok rfl (by kernel_rfl)
theorem store_run23 : RunsIs CA08 24 rightF 47 (rightA 23) (.tc (.sc (.bool false))) := .code codeDup_ok rfl (by kernel_rfl)
theorem stoq_run23 : RunsIs CA08 24 rightF 49 (rightA 23) (.tc (.sc (.bool false))) := .code codeDup_ok rfl (by kernel_rfl)
theorem store_run24 : RunsIs CA08 24 rightF 47 (rightA 24) (.tc (.sc (.bool true))) := .code codeDup_ok rfl (by kernel_rfl)
theorem stoq_run24 : RunsIs CA08 24 rightF 49 (rightA 24) (.tc (.sc (.bool true))) := .code codeDup_ok rfl (by kernel_rfl)
theorem store_run25 : RunsIs CA08 24 rightF 47 (rightA 25) (.tc (.sc (.bool true))) := .code codeDup_ok rfl (by kernel_rfl)
theorem stoq_run25 : RunsIs CA08 24 rightF 49 (rightA 25) (.tc (.sc (.bool true))) := .code codeDup_ok rfl (by kernel_rfl)
theorem store_run26 : RunsIs CA08 24 rightF 47 (rightA 26) (.tc (.sc (.bool true))) := .code codeDup_ok rfl (by kernel_rfl)
theorem stoq_run26 : RunsIs CA08 24 rightF 49 (rightA 26) (.tc (.sc (.bool true))) := .code codeDup_ok rfl (by kernel_rfl)
theorem store_run27 : RunsIs CA08 24 rightF 47 (rightA 27) (.tc (.sc (.bool false))) := .code codeDup_ok rfl (by kernel_rfl)
theorem stoq_run27 : RunsIs CA08 24 rightF 49 (rightA 27) (.tc (.sc (.bool false))) := .code codeDup_ok rfl (by kernel_rfl)
theorem store_run28 : RunsIs CA08 24 rightF 47 (rightA 28) (.tc (.sc (.bool false))) := .code codeDup_ok rfl (by kernel_rfl)
theorem stoq_run28 : RunsIs CA08 24 rightF 49 (rightA 28) (.tc (.sc (.bool false))) := .code codeDup_ok rfl (by kernel_rfl)
theorem store_run29 : RunsIs CA08 24 rightF 47 (rightA 29) (.tc (.sc (.bool false))) := .code codeDup_ok rfl (by kernel_rfl)
theorem stoq_run29 : RunsIs CA08 24 rightF 49 (rightA 29) (.tc (.sc (.bool false))) := .code codeDup_ok rfl (by kernel_rfl)
theorem store_run30 : RunsIs CA08 24 rightF 47 (rightA 30) (.tc (.sc (.bool false))) := .code codeDup_ok rfl (by kernel_rfl)
theorem stoq_run30 : RunsIs CA08 24 rightF 49 (rightA 30) (.tc (.sc (.bool false))) := .code codeDup_ok rfl (by kernel_rfl)
theorem store_run31 : RunsIs CA08 24 rightF 47 (rightA 31) (.tc (.sc (.bool false))) := .code codeDup_ok rfl (by kernel_rfl)
theorem stoq_run31 : RunsIs CA08 24 rightF 49 (rightA 31) (.tc (.sc (.bool false))) := .code codeDup_ok rfl (by kernel_rfl)
theorem store_runG : RunsIs CA08 24 opG 47 opArgsG (.tc (.sc (.bool false))) := .code codeDup_ok rfl (by kernel_rfl)
theorem stoq_runG : RunsIs CA08 24 opG 49 opArgsG (.tc (.sc (.bool false))) := .code codeDup_ok rfl (by kernel_rfl)
end Go.Proofs.YthabafmieebmmaaDoor
