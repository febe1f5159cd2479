/- The law IsaTells: what its functions tell, as trees. -/
import Derived.Test.YtgpijioodocplaaKnA03
import Derived.Test.YtgpijioodocplaaSyTab
import Derived.Test.YtgpijioodocplaaKcIsa
set_option linter.unusedVariables false
set_option linter.unusedSimpArgs false
set_option maxRecDepth 100000
namespace Go.Proofs.Ytgpijioodocplaa
open Go Go.RowKit

abbrev u8v (n : Int) : AV := .tc (.sc (.int .u8 n))
abbrev i64v (n : Int) : AV := .tc (.sc (.int .i64 n))
abbrev boolv (b : Bool) : AV := .tc (.sc (.bool b))
structure FT where
  kind : Int
  bits : Int
  shift : Int
  signed : Bool
  ext : Bool
  at_ : Int
def atV (f : FT) (ok : Bool) : AV := .tuple [.agg [u8v f.kind, i64v f.bits, i64v f.shift, boolv f.signed, boolv f.ext], i64v f.at_, boolv ok]
def noF : FT := ⟨0, 0, 0, false, false, 0⟩
def atO : List FT → Out
  | [] => .leaf (atV noF false)
  | f :: r => .sel (.cmp .eql (.var 0) (.lit f.kind)) (.leaf (atV f true)) (atO r)
theorem atO_total (ρ : Env) : ∀ l, ∃ f ok, outV ρ (atO l) = some (atV f ok)
  | [] => ⟨noF, false, rfl⟩
  | f :: r => by
    simp only [atO, outV]
    cases (den ρ (.cmp .eql (.var 0) (.lit f.kind))).b with
    | true => exact ⟨f, true, rfl⟩
    | false => exact atO_total ρ r
def fieldsT (c : Int) : List FT := match c with
  | 1 => []
  | 2 => [⟨1, 3, 0, false, false, 21⟩, ⟨2, 2, 0, false, false, 19⟩, ⟨3, 5, 0, false, false, 14⟩, ⟨5, 5, 0, false, false, 9⟩, ⟨6, 5, 0, false, false, 4⟩]
  | 3 => [⟨1, 3, 0, false, false, 21⟩, ⟨2, 2, 0, false, false, 19⟩, ⟨3, 5, 0, false, false, 14⟩, ⟨5, 5, 0, false, false, 9⟩, ⟨6, 5, 0, false, false, 4⟩]
  | 4 => [⟨1, 3, 0, false, false, 21⟩, ⟨2, 2, 0, false, false, 19⟩, ⟨3, 5, 0, false, false, 14⟩, ⟨5, 5, 0, false, false, 9⟩, ⟨6, 5, 0, false, false, 4⟩]
  | 5 => [⟨1, 3, 0, false, false, 21⟩, ⟨2, 2, 0, false, false, 19⟩, ⟨3, 5, 0, false, false, 14⟩, ⟨5, 5, 0, false, false, 9⟩, ⟨6, 5, 0, false, false, 4⟩]
  | 6 => [⟨1, 3, 0, false, false, 21⟩, ⟨2, 2, 0, false, false, 19⟩, ⟨3, 5, 0, false, false, 14⟩, ⟨5, 5, 0, false, false, 9⟩, ⟨6, 5, 0, false, false, 4⟩]
  | 7 => [⟨3, 5, 0, false, false, 19⟩, ⟨5, 5, 0, false, false, 14⟩, ⟨9, 14, 0, true, true, 0⟩]
  | 8 => [⟨1, 3, 0, false, false, 21⟩, ⟨2, 2, 0, false, false, 19⟩, ⟨3, 5, 0, false, false, 14⟩, ⟨9, 14, 0, true, true, 0⟩]
  | 9 => [⟨1, 3, 0, false, false, 21⟩, ⟨2, 2, 0, false, false, 19⟩, ⟨3, 5, 0, false, false, 14⟩, ⟨5, 5, 0, false, false, 9⟩]
  | 10 => [⟨4, 2, 0, false, false, 22⟩, ⟨5, 5, 0, false, false, 17⟩, ⟨6, 5, 0, false, false, 12⟩]
  | 11 => [⟨4, 2, 0, false, false, 22⟩, ⟨5, 5, 0, false, false, 17⟩, ⟨6, 5, 0, false, false, 12⟩]
  | 12 => [⟨4, 2, 0, false, false, 22⟩, ⟨5, 5, 0, false, false, 17⟩, ⟨6, 5, 0, false, false, 12⟩]
  | 13 => [⟨4, 2, 0, false, false, 22⟩, ⟨5, 5, 0, false, false, 17⟩, ⟨9, 14, 0, true, true, 3⟩]
  | 14 => [⟨3, 5, 0, false, false, 19⟩, ⟨2, 2, 0, false, false, 17⟩, ⟨5, 5, 0, false, false, 12⟩, ⟨6, 5, 0, false, false, 7⟩]
  | 15 => [⟨3, 5, 0, false, false, 19⟩, ⟨5, 5, 0, false, false, 14⟩, ⟨9, 5, 0, false, false, 9⟩]
  | 16 => [⟨3, 5, 0, false, false, 19⟩, ⟨5, 5, 0, false, false, 14⟩, ⟨9, 5, 0, false, false, 9⟩]
  | 17 => [⟨3, 5, 0, false, false, 19⟩, ⟨5, 5, 0, false, false, 14⟩, ⟨9, 5, 0, false, false, 9⟩]
  | 18 => [⟨3, 5, 0, false, false, 19⟩, ⟨5, 5, 0, false, false, 14⟩, ⟨6, 5, 0, false, false, 9⟩]
  | 19 => [⟨3, 5, 0, false, false, 19⟩, ⟨5, 5, 0, false, false, 14⟩, ⟨6, 5, 0, false, false, 9⟩]
  | 20 => [⟨3, 5, 0, false, false, 19⟩, ⟨5, 5, 0, false, false, 14⟩, ⟨6, 5, 0, false, false, 9⟩]
  | 21 => [⟨3, 5, 0, false, false, 19⟩, ⟨5, 5, 0, false, false, 14⟩, ⟨9, 12, 2, true, true, 2⟩]
  | 22 => [⟨3, 5, 0, false, false, 19⟩, ⟨5, 5, 0, false, false, 14⟩, ⟨9, 12, 1, true, true, 2⟩]
  | 23 => [⟨3, 5, 0, false, false, 19⟩, ⟨5, 5, 0, false, false, 14⟩, ⟨9, 12, 0, true, true, 2⟩]
  | 24 => [⟨5, 5, 0, false, false, 19⟩, ⟨8, 1, 0, false, false, 18⟩, ⟨6, 5, 0, false, false, 13⟩, ⟨9, 12, 2, true, true, 1⟩]
  | 25 => [⟨5, 5, 0, false, false, 19⟩, ⟨8, 1, 0, false, false, 18⟩, ⟨6, 5, 0, false, false, 13⟩, ⟨9, 12, 1, true, true, 1⟩]
  | 26 => [⟨5, 5, 0, false, false, 19⟩, ⟨8, 1, 0, false, false, 18⟩, ⟨6, 5, 0, false, false, 13⟩, ⟨9, 12, 0, true, true, 1⟩]
  | 27 => [⟨1, 3, 0, false, false, 21⟩, ⟨2, 2, 0, false, false, 19⟩, ⟨10, 19, 2, true, true, 0⟩]
  | 28 => [⟨1, 3, 0, false, false, 21⟩, ⟨2, 2, 0, false, false, 19⟩, ⟨5, 5, 0, false, false, 14⟩]
  | 29 => [⟨10, 24, 2, true, true, 0⟩]
  | 30 => [⟨7, 1, 0, false, false, 23⟩, ⟨10, 12, 2, true, true, 11⟩, ⟨11, 11, 0, false, false, 0⟩]
  | 31 => [⟨7, 1, 0, false, false, 23⟩, ⟨10, 12, 2, true, true, 11⟩, ⟨5, 5, 0, false, false, 6⟩]
  | _ => []
def namesT : List (ByteArray × Int) := [(⟨#[110, 111, 112]⟩, 1), (⟨#[97, 100, 100]⟩, 2), (⟨#[115, 117, 98]⟩, 3), (⟨#[97, 110, 100]⟩, 4), (⟨#[111, 114]⟩, 5), (⟨#[120, 111, 114]⟩, 6), (⟨#[97, 100, 100, 105]⟩, 7), (⟨#[109, 111, 118, 105]⟩, 8), (⟨#[109, 111, 118]⟩, 9), (⟨#[99, 109, 112, 101, 113]⟩, 10), (⟨#[99, 109, 112, 103, 116]⟩, 11), (⟨#[99, 109, 112, 103, 116, 117]⟩, 12), (⟨#[99, 109, 112, 101, 113, 105]⟩, 13), (⟨#[109, 117, 120]⟩, 14), (⟨#[97, 115, 108]⟩, 15), (⟨#[108, 115, 114]⟩, 16), (⟨#[97, 115, 114]⟩, 17), (⟨#[109, 112, 121]⟩, 18), (⟨#[99, 109, 112, 121]⟩, 19), (⟨#[99, 109, 112, 121, 99]⟩, 20), (⟨#[108, 100, 119]⟩, 21), (⟨#[108, 100, 104]⟩, 22), (⟨#[108, 100, 98]⟩, 23), (⟨#[115, 116, 119]⟩, 24), (⟨#[115, 116, 104]⟩, 25), (⟨#[115, 116, 98]⟩, 26), (⟨#[106, 117, 109, 112]⟩, 27), (⟨#[106, 117, 109, 112, 114]⟩, 28), (⟨#[99, 97, 108, 108]⟩, 29), (⟨#[108, 111, 111, 112, 105]⟩, 30), (⟨#[108, 111, 111, 112, 114]⟩, 31)]
def byO : List (ByteArray × Int) → Out
  | [] => .leaf (.tuple [u8v 0, boolv false])
  | p :: r => .sel (.cmps .eql (.var 0) (.ls p.1)) (.leaf (.tuple [u8v p.2, boolv true])) (byO r)
theorem byO_total (ρ : Env) : ∀ l, ∃ n b, outV ρ (byO l) = some (.tuple [u8v n, boolv b])
  | [] => ⟨0, false, rfl⟩
  | p :: r => by
    simp only [byO, outV]
    cases (den ρ (.cmps .eql (.var 0) (.ls p.1))).b with
    | true => exact ⟨p.2, true, rfl⟩
    | false => exact byO_total ρ r
def slO : List (Int × Int) → Out
  | [] => .leaf (u8v 0)
  | p :: r => .sel (.cmp .eql (.var 0) (.lit p.1)) (.leaf (u8v p.2)) (slO r)
theorem slO_total (ρ : Env) : ∀ l, ∃ n, outV ρ (slO l) = some (u8v n)
  | [] => ⟨0, rfl⟩
  | p :: r => by
    simp only [slO, outV]
    cases (den ρ (.cmp .eql (.var 0) (.lit p.1))).b with
    | true => exact ⟨p.2, rfl⟩
    | false => exact slO_total ρ r
def slotsT : List (Int × Int) := [(1, 15), (2, 12), (3, 3), (4, 1), (5, 12), (6, 8)]
def kF : Facts := [(.cmp .geq (.var 0) (.lit 0), true), (.cmp .leq (.var 0) (.lit 255), true)]
def lineV (a b c : ByteArray) (ok : Bool) : AV := .tuple [.tc (.sc (.string a)), .tc (.sc (.string b)), .tc (.sc (.string c)), boolv ok]
def line0 : AV := lineV ⟨#[]⟩ ⟨#[]⟩ ⟨#[]⟩ false
def line1 : AV := lineV ⟨#[110, 111, 112]⟩ ⟨#[65]⟩ ⟨#[]⟩ true
def line2 : AV := lineV ⟨#[97, 100, 100]⟩ ⟨#[65]⟩ ⟨#[99, 100, 115, 116]⟩ true
def line3 : AV := lineV ⟨#[115, 117, 98]⟩ ⟨#[65]⟩ ⟨#[99, 100, 115, 116]⟩ true
def line4 : AV := lineV ⟨#[97, 110, 100]⟩ ⟨#[65]⟩ ⟨#[99, 100, 115, 116]⟩ true
def line5 : AV := lineV ⟨#[111, 114]⟩ ⟨#[65]⟩ ⟨#[99, 100, 115, 116]⟩ true
def line6 : AV := lineV ⟨#[120, 111, 114]⟩ ⟨#[65]⟩ ⟨#[99, 100, 115, 116]⟩ true
def line7 : AV := lineV ⟨#[97, 100, 100, 105]⟩ ⟨#[65]⟩ ⟨#[100, 115, 105]⟩ true
def line8 : AV := lineV ⟨#[109, 111, 118, 105]⟩ ⟨#[65]⟩ ⟨#[99, 100, 105]⟩ true
def line9 : AV := lineV ⟨#[109, 111, 118]⟩ ⟨#[65]⟩ ⟨#[99, 100, 115]⟩ true
def line10 : AV := lineV ⟨#[99, 109, 112, 101, 113]⟩ ⟨#[65]⟩ ⟨#[112, 115, 116]⟩ true
def line11 : AV := lineV ⟨#[99, 109, 112, 103, 116]⟩ ⟨#[65]⟩ ⟨#[112, 115, 116]⟩ true
def line12 : AV := lineV ⟨#[99, 109, 112, 103, 116, 117]⟩ ⟨#[65]⟩ ⟨#[112, 115, 116]⟩ true
def line13 : AV := lineV ⟨#[99, 109, 112, 101, 113, 105]⟩ ⟨#[65]⟩ ⟨#[112, 115, 105]⟩ true
def line14 : AV := lineV ⟨#[109, 117, 120]⟩ ⟨#[65]⟩ ⟨#[100, 113, 115, 116]⟩ true
def line15 : AV := lineV ⟨#[97, 115, 108]⟩ ⟨#[88]⟩ ⟨#[100, 115, 117]⟩ true
def line16 : AV := lineV ⟨#[108, 115, 114]⟩ ⟨#[88]⟩ ⟨#[100, 115, 117]⟩ true
def line17 : AV := lineV ⟨#[97, 115, 114]⟩ ⟨#[88]⟩ ⟨#[100, 115, 117]⟩ true
def line18 : AV := lineV ⟨#[109, 112, 121]⟩ ⟨#[88]⟩ ⟨#[100, 115, 116]⟩ true
def line19 : AV := lineV ⟨#[99, 109, 112, 121]⟩ ⟨#[88]⟩ ⟨#[100, 115, 116]⟩ true
def line20 : AV := lineV ⟨#[99, 109, 112, 121, 99]⟩ ⟨#[88]⟩ ⟨#[100, 115, 116]⟩ true
def line21 : AV := lineV ⟨#[108, 100, 119]⟩ ⟨#[76]⟩ ⟨#[100, 115, 108]⟩ true
def line22 : AV := lineV ⟨#[108, 100, 104]⟩ ⟨#[76]⟩ ⟨#[100, 115, 109]⟩ true
def line23 : AV := lineV ⟨#[108, 100, 98]⟩ ⟨#[76]⟩ ⟨#[100, 115, 111]⟩ true
def line24 : AV := lineV ⟨#[115, 116, 119]⟩ ⟨#[83]⟩ ⟨#[115, 119, 116, 108]⟩ true
def line25 : AV := lineV ⟨#[115, 116, 104]⟩ ⟨#[83]⟩ ⟨#[115, 119, 116, 109]⟩ true
def line26 : AV := lineV ⟨#[115, 116, 98]⟩ ⟨#[83]⟩ ⟨#[115, 119, 116, 111]⟩ true
def line27 : AV := lineV ⟨#[106, 117, 109, 112]⟩ ⟨#[74]⟩ ⟨#[99, 114]⟩ true
def line28 : AV := lineV ⟨#[106, 117, 109, 112, 114]⟩ ⟨#[74]⟩ ⟨#[99, 115]⟩ true
def line29 : AV := lineV ⟨#[99, 97, 108, 108]⟩ ⟨#[74]⟩ ⟨#[120]⟩ true
def line30 : AV := lineV ⟨#[108, 111, 111, 112, 105]⟩ ⟨#[67]⟩ ⟨#[110, 121, 118]⟩ true
def line31 : AV := lineV ⟨#[108, 111, 111, 112, 114]⟩ ⟨#[67]⟩ ⟨#[110, 121, 115]⟩ true
def lineT : List (List AV × AV) := [([i64v 0], line0), ([i64v 1], line1), ([i64v 2], line2), ([i64v 3], line3), ([i64v 4], line4), ([i64v 5], line5), ([i64v 6], line6), ([i64v 7], line7), ([i64v 8], line8), ([i64v 9], line9), ([i64v 10], line10), ([i64v 11], line11), ([i64v 12], line12), ([i64v 13], line13), ([i64v 14], line14), ([i64v 15], line15), ([i64v 16], line16), ([i64v 17], line17), ([i64v 18], line18), ([i64v 19], line19), ([i64v 20], line20), ([i64v 21], line21), ([i64v 22], line22), ([i64v 23], line23), ([i64v 24], line24), ([i64v 25], line25), ([i64v 26], line26), ([i64v 27], line27), ([i64v 28], line28), ([i64v 29], line29), ([i64v 30], line30), ([i64v 31], line31)]
end Go.Proofs.Ytgpijioodocplaa
