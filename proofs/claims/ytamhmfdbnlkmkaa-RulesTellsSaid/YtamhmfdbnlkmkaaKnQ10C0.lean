/- Rules: whether two clash: runs. -/
import Derived.Test.YtamhmfdbnlkmkaaKnQ100
set_option linter.unusedVariables false
set_option linter.unusedSimpArgs false
set_option maxRecDepth 100000
namespace Go.Proofs.Ytamhmfdbnlkmkaa
open Go Go.RowKit


def cW (k : Int) (e : Sx) : AV := .tuple [u8X e, blV (decide (k = 1))]
def cP (k : Int) (e : Sx) : AV := .tuple [u8X e, blV (decide (k = 2))]
/-- Registers or predicates: any two; the same; the second greater; the first greater. -/
def cE (s : Nat) (a b : Nat) : Sx × Sx := match s with
  | 0 => (.var a, .var b)
  | 1 => (.var a, .var a)
  | 2 => (.var a, .bin .add .i64 (.var a) (.var 90))
  | _ => (.var a, .bin .add .i64 (.var a) (.bin .mul .i64 (.var 90) (.lit (-1))))
def cS (k ka kb : Int) (s : Nat) : Nat := cond (decide (ka = k) && decide (kb = k)) s 0
def cT (ka kb : Int) (s : Nat) : Tabs := [
  (17, [([qA false 0], cW ka (cE (cS 1 ka kb s) 113 153).1), ([qA false 1], cW kb (cE (cS 1 ka kb s) 113 153).2)]), (35, [([qA false 0], cW ka (cE (cS 1 ka kb s) 113 153).1), ([qA false 1], cW kb (cE (cS 1 ka kb s) 113 153).2)]),
  (15, [([qA false 0], cP ka (cE (cS 2 ka kb s) 115 155).1), ([qA false 1], cP kb (cE (cS 2 ka kb s) 115 155).2)]), (37, [([qA false 0], cP ka (cE (cS 2 ka kb s) 115 155).1), ([qA false 1], cP kb (cE (cS 2 ka kb s) 115 155).2)])]
def cF : Facts := qBnd 113 0 31 ++ qBnd 153 0 31 ++ qBnd 115 0 3 ++ qBnd 155 0 3 ++ qBnd 90 1 31
/-- Is never more than one of two due? -/
def apE (pa pb ma mb : Sx) : Sx := andX (.cmp .eql pa pb) (orX (.and (.cmp .eql ma (.lit 1)) (.cmp .eql mb (.lit 2))) (orX (.and (.cmp .eql ma (.lit 2)) (.cmp .eql mb (.lit 1))) (orX (.and (.cmp .eql ma (.lit 3)) (.cmp .eql mb (.lit 4))) (.and (.cmp .eql ma (.lit 4)) (.cmp .eql mb (.lit 3))))))
def ap01 : Sx := apE (.var 105) (.var 145) (.var 106) (.var 146)
noncomputable def isC (C : Ctx) (R : AV) (f : FuncId) (args : List AV) (fs : Facts) : Bool := isN R (runF codeRul C 24 f args) fs
noncomputable def kC (ka kb : Int) (s : Nat) (r : AV) (fs : Facts) : Bool := both (isC (ctxF CA10 (cT ka kb s)) r 13 [qA false 0, qA false 1] fs) (both (isC (ctxF CA10 (cT ka kb s)) r 12 [qA false 1, qA false 0] fs)
  (match asSx r with
    | some (.bool, e) => cond (decide (s = 1) && decide (ka = 2) && decide (kb = 2)) (knowN e true fs) true
    | _ => false))


/-- An instruction of a mode; of one beyond all, where m is 5. -/
def mC (m : Int) (i : Nat) : AV := match qA false i with
  | .agg l => .agg (l.set 6 (cond (decide (m = 5)) (.tc (.sy (.int .u8) (.var (qB i + 6)))) (inV .u8 m)))
  | x => x
/-- The same, its predicate that of the first. -/
def mS (m : Int) (i : Nat) : AV := match mC m i with
  | .agg l => .agg (l.set 5 (.tc (.sy (.int .u8) (.var 105))))
  | x => x
def mN (s : Bool) (m : Int) : AV := cond s (mS m 1) (mC m 1)
def mX (m : Int) (i : Nat) : Sx := cond (decide (m = 5)) (.var (qB i + 6)) (.lit m)
def mT (s : Bool) (ma mb : Int) : Tabs := [
  (17, [([mC ma 0], cW 1 (.var 113)), ([mN s mb], cW 1 (.var 113))]), (35, [([mC ma 0], cW 1 (.var 113)), ([mN s mb], cW 1 (.var 113))]),
  (15, [([mC ma 0], cP 1 (.var 115)), ([mN s mb], cP 1 (.var 155))]), (37, [([mC ma 0], cP 1 (.var 115)), ([mN s mb], cP 1 (.var 155))])]
def mF (s : Bool) : Facts := cond s [] [(.cmp .eql (.var 105) (.var 145), false), (.cmp .eql (.var 145) (.var 105), false)] ++ qBnd 106 5 255 ++ qBnd 146 5 255 ++ cF
noncomputable def kM (s : Bool) (ma mb : Int) (r : AV) (fs : Facts) : Bool := both (isC (ctxF CA10 (mT s ma mb)) r 13 [mC ma 0, mN s mb] fs) (both (isC (ctxF CA10 (mT s ma mb)) r 12 [mN s mb, mC ma 0] fs)
  (match asSx r with
    | some (.bool, e) => knowN (.and (.not e) (.not (apE (.var 105) (.var (cond s 105 145)) (mX ma 0) (mX mb 1)))) false fs
    | _ => false))

end Go.Proofs.Ytamhmfdbnlkmkaa
