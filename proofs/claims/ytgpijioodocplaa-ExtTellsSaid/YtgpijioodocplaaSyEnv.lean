/- Temporaries in trees of eights: each way in, and each way to put, is a constant. -/
import Derived.Test.YtgpijioodocplaaSyFast
set_option linter.unusedVariables false
namespace Go.Proofs.Ytgpijioodocplaa
open Go

structure S8 (α : Type) where
  mk ::
  (a b c d e f g h : α)

abbrev T1 := S8 AV
abbrev T2 := S8 T1
abbrev T3 := S8 T2

noncomputable def g0 : T2 → AV := fun t => @S8.rec T1 (fun _ => AV) (fun a b c d e f g h => @S8.rec AV (fun _ => AV) (fun a b c d e f g h => a) a) t
noncomputable def g1 : T2 → AV := fun t => @S8.rec T1 (fun _ => AV) (fun a b c d e f g h => @S8.rec AV (fun _ => AV) (fun a b c d e f g h => b) a) t
noncomputable def g2 : T2 → AV := fun t => @S8.rec T1 (fun _ => AV) (fun a b c d e f g h => @S8.rec AV (fun _ => AV) (fun a b c d e f g h => c) a) t
noncomputable def g3 : T2 → AV := fun t => @S8.rec T1 (fun _ => AV) (fun a b c d e f g h => @S8.rec AV (fun _ => AV) (fun a b c d e f g h => d) a) t
noncomputable def g4 : T2 → AV := fun t => @S8.rec T1 (fun _ => AV) (fun a b c d e f g h => @S8.rec AV (fun _ => AV) (fun a b c d e f g h => e) a) t
noncomputable def g5 : T2 → AV := fun t => @S8.rec T1 (fun _ => AV) (fun a b c d e f g h => @S8.rec AV (fun _ => AV) (fun a b c d e f g h => f) a) t
noncomputable def g6 : T2 → AV := fun t => @S8.rec T1 (fun _ => AV) (fun a b c d e f g h => @S8.rec AV (fun _ => AV) (fun a b c d e f g h => g) a) t
noncomputable def g7 : T2 → AV := fun t => @S8.rec T1 (fun _ => AV) (fun a b c d e f g h => @S8.rec AV (fun _ => AV) (fun a b c d e f g h => h) a) t
noncomputable def g8 : T2 → AV := fun t => @S8.rec T1 (fun _ => AV) (fun a b c d e f g h => @S8.rec AV (fun _ => AV) (fun a b c d e f g h => a) b) t
noncomputable def g9 : T2 → AV := fun t => @S8.rec T1 (fun _ => AV) (fun a b c d e f g h => @S8.rec AV (fun _ => AV) (fun a b c d e f g h => b) b) t
noncomputable def g10 : T2 → AV := fun t => @S8.rec T1 (fun _ => AV) (fun a b c d e f g h => @S8.rec AV (fun _ => AV) (fun a b c d e f g h => c) b) t
noncomputable def g11 : T2 → AV := fun t => @S8.rec T1 (fun _ => AV) (fun a b c d e f g h => @S8.rec AV (fun _ => AV) (fun a b c d e f g h => d) b) t
noncomputable def g12 : T2 → AV := fun t => @S8.rec T1 (fun _ => AV) (fun a b c d e f g h => @S8.rec AV (fun _ => AV) (fun a b c d e f g h => e) b) t
noncomputable def g13 : T2 → AV := fun t => @S8.rec T1 (fun _ => AV) (fun a b c d e f g h => @S8.rec AV (fun _ => AV) (fun a b c d e f g h => f) b) t
noncomputable def g14 : T2 → AV := fun t => @S8.rec T1 (fun _ => AV) (fun a b c d e f g h => @S8.rec AV (fun _ => AV) (fun a b c d e f g h => g) b) t
noncomputable def g15 : T2 → AV := fun t => @S8.rec T1 (fun _ => AV) (fun a b c d e f g h => @S8.rec AV (fun _ => AV) (fun a b c d e f g h => h) b) t
noncomputable def g16 : T2 → AV := fun t => @S8.rec T1 (fun _ => AV) (fun a b c d e f g h => @S8.rec AV (fun _ => AV) (fun a b c d e f g h => a) c) t
noncomputable def g17 : T2 → AV := fun t => @S8.rec T1 (fun _ => AV) (fun a b c d e f g h => @S8.rec AV (fun _ => AV) (fun a b c d e f g h => b) c) t
noncomputable def g18 : T2 → AV := fun t => @S8.rec T1 (fun _ => AV) (fun a b c d e f g h => @S8.rec AV (fun _ => AV) (fun a b c d e f g h => c) c) t
noncomputable def g19 : T2 → AV := fun t => @S8.rec T1 (fun _ => AV) (fun a b c d e f g h => @S8.rec AV (fun _ => AV) (fun a b c d e f g h => d) c) t
noncomputable def g20 : T2 → AV := fun t => @S8.rec T1 (fun _ => AV) (fun a b c d e f g h => @S8.rec AV (fun _ => AV) (fun a b c d e f g h => e) c) t
noncomputable def g21 : T2 → AV := fun t => @S8.rec T1 (fun _ => AV) (fun a b c d e f g h => @S8.rec AV (fun _ => AV) (fun a b c d e f g h => f) c) t
noncomputable def g22 : T2 → AV := fun t => @S8.rec T1 (fun _ => AV) (fun a b c d e f g h => @S8.rec AV (fun _ => AV) (fun a b c d e f g h => g) c) t
noncomputable def g23 : T2 → AV := fun t => @S8.rec T1 (fun _ => AV) (fun a b c d e f g h => @S8.rec AV (fun _ => AV) (fun a b c d e f g h => h) c) t
noncomputable def g24 : T2 → AV := fun t => @S8.rec T1 (fun _ => AV) (fun a b c d e f g h => @S8.rec AV (fun _ => AV) (fun a b c d e f g h => a) d) t
noncomputable def g25 : T2 → AV := fun t => @S8.rec T1 (fun _ => AV) (fun a b c d e f g h => @S8.rec AV (fun _ => AV) (fun a b c d e f g h => b) d) t
noncomputable def g26 : T2 → AV := fun t => @S8.rec T1 (fun _ => AV) (fun a b c d e f g h => @S8.rec AV (fun _ => AV) (fun a b c d e f g h => c) d) t
noncomputable def g27 : T2 → AV := fun t => @S8.rec T1 (fun _ => AV) (fun a b c d e f g h => @S8.rec AV (fun _ => AV) (fun a b c d e f g h => d) d) t
noncomputable def g28 : T2 → AV := fun t => @S8.rec T1 (fun _ => AV) (fun a b c d e f g h => @S8.rec AV (fun _ => AV) (fun a b c d e f g h => e) d) t
noncomputable def g29 : T2 → AV := fun t => @S8.rec T1 (fun _ => AV) (fun a b c d e f g h => @S8.rec AV (fun _ => AV) (fun a b c d e f g h => f) d) t
noncomputable def g30 : T2 → AV := fun t => @S8.rec T1 (fun _ => AV) (fun a b c d e f g h => @S8.rec AV (fun _ => AV) (fun a b c d e f g h => g) d) t
noncomputable def g31 : T2 → AV := fun t => @S8.rec T1 (fun _ => AV) (fun a b c d e f g h => @S8.rec AV (fun _ => AV) (fun a b c d e f g h => h) d) t
noncomputable def g32 : T2 → AV := fun t => @S8.rec T1 (fun _ => AV) (fun a b c d e f g h => @S8.rec AV (fun _ => AV) (fun a b c d e f g h => a) e) t
noncomputable def g33 : T2 → AV := fun t => @S8.rec T1 (fun _ => AV) (fun a b c d e f g h => @S8.rec AV (fun _ => AV) (fun a b c d e f g h => b) e) t
noncomputable def g34 : T2 → AV := fun t => @S8.rec T1 (fun _ => AV) (fun a b c d e f g h => @S8.rec AV (fun _ => AV) (fun a b c d e f g h => c) e) t
noncomputable def g35 : T2 → AV := fun t => @S8.rec T1 (fun _ => AV) (fun a b c d e f g h => @S8.rec AV (fun _ => AV) (fun a b c d e f g h => d) e) t
noncomputable def g36 : T2 → AV := fun t => @S8.rec T1 (fun _ => AV) (fun a b c d e f g h => @S8.rec AV (fun _ => AV) (fun a b c d e f g h => e) e) t
noncomputable def g37 : T2 → AV := fun t => @S8.rec T1 (fun _ => AV) (fun a b c d e f g h => @S8.rec AV (fun _ => AV) (fun a b c d e f g h => f) e) t
noncomputable def g38 : T2 → AV := fun t => @S8.rec T1 (fun _ => AV) (fun a b c d e f g h => @S8.rec AV (fun _ => AV) (fun a b c d e f g h => g) e) t
noncomputable def g39 : T2 → AV := fun t => @S8.rec T1 (fun _ => AV) (fun a b c d e f g h => @S8.rec AV (fun _ => AV) (fun a b c d e f g h => h) e) t
noncomputable def g40 : T2 → AV := fun t => @S8.rec T1 (fun _ => AV) (fun a b c d e f g h => @S8.rec AV (fun _ => AV) (fun a b c d e f g h => a) f) t
noncomputable def g41 : T2 → AV := fun t => @S8.rec T1 (fun _ => AV) (fun a b c d e f g h => @S8.rec AV (fun _ => AV) (fun a b c d e f g h => b) f) t
noncomputable def g42 : T2 → AV := fun t => @S8.rec T1 (fun _ => AV) (fun a b c d e f g h => @S8.rec AV (fun _ => AV) (fun a b c d e f g h => c) f) t
noncomputable def g43 : T2 → AV := fun t => @S8.rec T1 (fun _ => AV) (fun a b c d e f g h => @S8.rec AV (fun _ => AV) (fun a b c d e f g h => d) f) t
noncomputable def g44 : T2 → AV := fun t => @S8.rec T1 (fun _ => AV) (fun a b c d e f g h => @S8.rec AV (fun _ => AV) (fun a b c d e f g h => e) f) t
noncomputable def g45 : T2 → AV := fun t => @S8.rec T1 (fun _ => AV) (fun a b c d e f g h => @S8.rec AV (fun _ => AV) (fun a b c d e f g h => f) f) t
noncomputable def g46 : T2 → AV := fun t => @S8.rec T1 (fun _ => AV) (fun a b c d e f g h => @S8.rec AV (fun _ => AV) (fun a b c d e f g h => g) f) t
noncomputable def g47 : T2 → AV := fun t => @S8.rec T1 (fun _ => AV) (fun a b c d e f g h => @S8.rec AV (fun _ => AV) (fun a b c d e f g h => h) f) t
noncomputable def g48 : T2 → AV := fun t => @S8.rec T1 (fun _ => AV) (fun a b c d e f g h => @S8.rec AV (fun _ => AV) (fun a b c d e f g h => a) g) t
noncomputable def g49 : T2 → AV := fun t => @S8.rec T1 (fun _ => AV) (fun a b c d e f g h => @S8.rec AV (fun _ => AV) (fun a b c d e f g h => b) g) t
noncomputable def g50 : T2 → AV := fun t => @S8.rec T1 (fun _ => AV) (fun a b c d e f g h => @S8.rec AV (fun _ => AV) (fun a b c d e f g h => c) g) t
noncomputable def g51 : T2 → AV := fun t => @S8.rec T1 (fun _ => AV) (fun a b c d e f g h => @S8.rec AV (fun _ => AV) (fun a b c d e f g h => d) g) t
noncomputable def g52 : T2 → AV := fun t => @S8.rec T1 (fun _ => AV) (fun a b c d e f g h => @S8.rec AV (fun _ => AV) (fun a b c d e f g h => e) g) t
noncomputable def g53 : T2 → AV := fun t => @S8.rec T1 (fun _ => AV) (fun a b c d e f g h => @S8.rec AV (fun _ => AV) (fun a b c d e f g h => f) g) t
noncomputable def g54 : T2 → AV := fun t => @S8.rec T1 (fun _ => AV) (fun a b c d e f g h => @S8.rec AV (fun _ => AV) (fun a b c d e f g h => g) g) t
noncomputable def g55 : T2 → AV := fun t => @S8.rec T1 (fun _ => AV) (fun a b c d e f g h => @S8.rec AV (fun _ => AV) (fun a b c d e f g h => h) g) t
noncomputable def g56 : T2 → AV := fun t => @S8.rec T1 (fun _ => AV) (fun a b c d e f g h => @S8.rec AV (fun _ => AV) (fun a b c d e f g h => a) h) t
noncomputable def g57 : T2 → AV := fun t => @S8.rec T1 (fun _ => AV) (fun a b c d e f g h => @S8.rec AV (fun _ => AV) (fun a b c d e f g h => b) h) t
noncomputable def g58 : T2 → AV := fun t => @S8.rec T1 (fun _ => AV) (fun a b c d e f g h => @S8.rec AV (fun _ => AV) (fun a b c d e f g h => c) h) t
noncomputable def g59 : T2 → AV := fun t => @S8.rec T1 (fun _ => AV) (fun a b c d e f g h => @S8.rec AV (fun _ => AV) (fun a b c d e f g h => d) h) t
noncomputable def g60 : T2 → AV := fun t => @S8.rec T1 (fun _ => AV) (fun a b c d e f g h => @S8.rec AV (fun _ => AV) (fun a b c d e f g h => e) h) t
noncomputable def g61 : T2 → AV := fun t => @S8.rec T1 (fun _ => AV) (fun a b c d e f g h => @S8.rec AV (fun _ => AV) (fun a b c d e f g h => f) h) t
noncomputable def g62 : T2 → AV := fun t => @S8.rec T1 (fun _ => AV) (fun a b c d e f g h => @S8.rec AV (fun _ => AV) (fun a b c d e f g h => g) h) t
noncomputable def g63 : T2 → AV := fun t => @S8.rec T1 (fun _ => AV) (fun a b c d e f g h => @S8.rec AV (fun _ => AV) (fun a b c d e f g h => h) h) t
noncomputable def s0 : AV → T2 → T2 := fun v t => @S8.rec T1 (fun _ => T2) (fun a b c d e f g h => ⟨@S8.rec AV (fun _ => T1) (fun a b c d e f g h => ⟨v, b, c, d, e, f, g, h⟩) a, b, c, d, e, f, g, h⟩) t
noncomputable def s1 : AV → T2 → T2 := fun v t => @S8.rec T1 (fun _ => T2) (fun a b c d e f g h => ⟨@S8.rec AV (fun _ => T1) (fun a b c d e f g h => ⟨a, v, c, d, e, f, g, h⟩) a, b, c, d, e, f, g, h⟩) t
noncomputable def s2 : AV → T2 → T2 := fun v t => @S8.rec T1 (fun _ => T2) (fun a b c d e f g h => ⟨@S8.rec AV (fun _ => T1) (fun a b c d e f g h => ⟨a, b, v, d, e, f, g, h⟩) a, b, c, d, e, f, g, h⟩) t
noncomputable def s3 : AV → T2 → T2 := fun v t => @S8.rec T1 (fun _ => T2) (fun a b c d e f g h => ⟨@S8.rec AV (fun _ => T1) (fun a b c d e f g h => ⟨a, b, c, v, e, f, g, h⟩) a, b, c, d, e, f, g, h⟩) t
noncomputable def s4 : AV → T2 → T2 := fun v t => @S8.rec T1 (fun _ => T2) (fun a b c d e f g h => ⟨@S8.rec AV (fun _ => T1) (fun a b c d e f g h => ⟨a, b, c, d, v, f, g, h⟩) a, b, c, d, e, f, g, h⟩) t
noncomputable def s5 : AV → T2 → T2 := fun v t => @S8.rec T1 (fun _ => T2) (fun a b c d e f g h => ⟨@S8.rec AV (fun _ => T1) (fun a b c d e f g h => ⟨a, b, c, d, e, v, g, h⟩) a, b, c, d, e, f, g, h⟩) t
noncomputable def s6 : AV → T2 → T2 := fun v t => @S8.rec T1 (fun _ => T2) (fun a b c d e f g h => ⟨@S8.rec AV (fun _ => T1) (fun a b c d e f g h => ⟨a, b, c, d, e, f, v, h⟩) a, b, c, d, e, f, g, h⟩) t
noncomputable def s7 : AV → T2 → T2 := fun v t => @S8.rec T1 (fun _ => T2) (fun a b c d e f g h => ⟨@S8.rec AV (fun _ => T1) (fun a b c d e f g h => ⟨a, b, c, d, e, f, g, v⟩) a, b, c, d, e, f, g, h⟩) t
noncomputable def s8 : AV → T2 → T2 := fun v t => @S8.rec T1 (fun _ => T2) (fun a b c d e f g h => ⟨a, @S8.rec AV (fun _ => T1) (fun a b c d e f g h => ⟨v, b, c, d, e, f, g, h⟩) b, c, d, e, f, g, h⟩) t
noncomputable def s9 : AV → T2 → T2 := fun v t => @S8.rec T1 (fun _ => T2) (fun a b c d e f g h => ⟨a, @S8.rec AV (fun _ => T1) (fun a b c d e f g h => ⟨a, v, c, d, e, f, g, h⟩) b, c, d, e, f, g, h⟩) t
noncomputable def s10 : AV → T2 → T2 := fun v t => @S8.rec T1 (fun _ => T2) (fun a b c d e f g h => ⟨a, @S8.rec AV (fun _ => T1) (fun a b c d e f g h => ⟨a, b, v, d, e, f, g, h⟩) b, c, d, e, f, g, h⟩) t
noncomputable def s11 : AV → T2 → T2 := fun v t => @S8.rec T1 (fun _ => T2) (fun a b c d e f g h => ⟨a, @S8.rec AV (fun _ => T1) (fun a b c d e f g h => ⟨a, b, c, v, e, f, g, h⟩) b, c, d, e, f, g, h⟩) t
noncomputable def s12 : AV → T2 → T2 := fun v t => @S8.rec T1 (fun _ => T2) (fun a b c d e f g h => ⟨a, @S8.rec AV (fun _ => T1) (fun a b c d e f g h => ⟨a, b, c, d, v, f, g, h⟩) b, c, d, e, f, g, h⟩) t
noncomputable def s13 : AV → T2 → T2 := fun v t => @S8.rec T1 (fun _ => T2) (fun a b c d e f g h => ⟨a, @S8.rec AV (fun _ => T1) (fun a b c d e f g h => ⟨a, b, c, d, e, v, g, h⟩) b, c, d, e, f, g, h⟩) t
noncomputable def s14 : AV → T2 → T2 := fun v t => @S8.rec T1 (fun _ => T2) (fun a b c d e f g h => ⟨a, @S8.rec AV (fun _ => T1) (fun a b c d e f g h => ⟨a, b, c, d, e, f, v, h⟩) b, c, d, e, f, g, h⟩) t
noncomputable def s15 : AV → T2 → T2 := fun v t => @S8.rec T1 (fun _ => T2) (fun a b c d e f g h => ⟨a, @S8.rec AV (fun _ => T1) (fun a b c d e f g h => ⟨a, b, c, d, e, f, g, v⟩) b, c, d, e, f, g, h⟩) t
noncomputable def s16 : AV → T2 → T2 := fun v t => @S8.rec T1 (fun _ => T2) (fun a b c d e f g h => ⟨a, b, @S8.rec AV (fun _ => T1) (fun a b c d e f g h => ⟨v, b, c, d, e, f, g, h⟩) c, d, e, f, g, h⟩) t
noncomputable def s17 : AV → T2 → T2 := fun v t => @S8.rec T1 (fun _ => T2) (fun a b c d e f g h => ⟨a, b, @S8.rec AV (fun _ => T1) (fun a b c d e f g h => ⟨a, v, c, d, e, f, g, h⟩) c, d, e, f, g, h⟩) t
noncomputable def s18 : AV → T2 → T2 := fun v t => @S8.rec T1 (fun _ => T2) (fun a b c d e f g h => ⟨a, b, @S8.rec AV (fun _ => T1) (fun a b c d e f g h => ⟨a, b, v, d, e, f, g, h⟩) c, d, e, f, g, h⟩) t
noncomputable def s19 : AV → T2 → T2 := fun v t => @S8.rec T1 (fun _ => T2) (fun a b c d e f g h => ⟨a, b, @S8.rec AV (fun _ => T1) (fun a b c d e f g h => ⟨a, b, c, v, e, f, g, h⟩) c, d, e, f, g, h⟩) t
noncomputable def s20 : AV → T2 → T2 := fun v t => @S8.rec T1 (fun _ => T2) (fun a b c d e f g h => ⟨a, b, @S8.rec AV (fun _ => T1) (fun a b c d e f g h => ⟨a, b, c, d, v, f, g, h⟩) c, d, e, f, g, h⟩) t
noncomputable def s21 : AV → T2 → T2 := fun v t => @S8.rec T1 (fun _ => T2) (fun a b c d e f g h => ⟨a, b, @S8.rec AV (fun _ => T1) (fun a b c d e f g h => ⟨a, b, c, d, e, v, g, h⟩) c, d, e, f, g, h⟩) t
noncomputable def s22 : AV → T2 → T2 := fun v t => @S8.rec T1 (fun _ => T2) (fun a b c d e f g h => ⟨a, b, @S8.rec AV (fun _ => T1) (fun a b c d e f g h => ⟨a, b, c, d, e, f, v, h⟩) c, d, e, f, g, h⟩) t
noncomputable def s23 : AV → T2 → T2 := fun v t => @S8.rec T1 (fun _ => T2) (fun a b c d e f g h => ⟨a, b, @S8.rec AV (fun _ => T1) (fun a b c d e f g h => ⟨a, b, c, d, e, f, g, v⟩) c, d, e, f, g, h⟩) t
noncomputable def s24 : AV → T2 → T2 := fun v t => @S8.rec T1 (fun _ => T2) (fun a b c d e f g h => ⟨a, b, c, @S8.rec AV (fun _ => T1) (fun a b c d e f g h => ⟨v, b, c, d, e, f, g, h⟩) d, e, f, g, h⟩) t
noncomputable def s25 : AV → T2 → T2 := fun v t => @S8.rec T1 (fun _ => T2) (fun a b c d e f g h => ⟨a, b, c, @S8.rec AV (fun _ => T1) (fun a b c d e f g h => ⟨a, v, c, d, e, f, g, h⟩) d, e, f, g, h⟩) t
noncomputable def s26 : AV → T2 → T2 := fun v t => @S8.rec T1 (fun _ => T2) (fun a b c d e f g h => ⟨a, b, c, @S8.rec AV (fun _ => T1) (fun a b c d e f g h => ⟨a, b, v, d, e, f, g, h⟩) d, e, f, g, h⟩) t
noncomputable def s27 : AV → T2 → T2 := fun v t => @S8.rec T1 (fun _ => T2) (fun a b c d e f g h => ⟨a, b, c, @S8.rec AV (fun _ => T1) (fun a b c d e f g h => ⟨a, b, c, v, e, f, g, h⟩) d, e, f, g, h⟩) t
noncomputable def s28 : AV → T2 → T2 := fun v t => @S8.rec T1 (fun _ => T2) (fun a b c d e f g h => ⟨a, b, c, @S8.rec AV (fun _ => T1) (fun a b c d e f g h => ⟨a, b, c, d, v, f, g, h⟩) d, e, f, g, h⟩) t
noncomputable def s29 : AV → T2 → T2 := fun v t => @S8.rec T1 (fun _ => T2) (fun a b c d e f g h => ⟨a, b, c, @S8.rec AV (fun _ => T1) (fun a b c d e f g h => ⟨a, b, c, d, e, v, g, h⟩) d, e, f, g, h⟩) t
noncomputable def s30 : AV → T2 → T2 := fun v t => @S8.rec T1 (fun _ => T2) (fun a b c d e f g h => ⟨a, b, c, @S8.rec AV (fun _ => T1) (fun a b c d e f g h => ⟨a, b, c, d, e, f, v, h⟩) d, e, f, g, h⟩) t
noncomputable def s31 : AV → T2 → T2 := fun v t => @S8.rec T1 (fun _ => T2) (fun a b c d e f g h => ⟨a, b, c, @S8.rec AV (fun _ => T1) (fun a b c d e f g h => ⟨a, b, c, d, e, f, g, v⟩) d, e, f, g, h⟩) t
noncomputable def s32 : AV → T2 → T2 := fun v t => @S8.rec T1 (fun _ => T2) (fun a b c d e f g h => ⟨a, b, c, d, @S8.rec AV (fun _ => T1) (fun a b c d e f g h => ⟨v, b, c, d, e, f, g, h⟩) e, f, g, h⟩) t
noncomputable def s33 : AV → T2 → T2 := fun v t => @S8.rec T1 (fun _ => T2) (fun a b c d e f g h => ⟨a, b, c, d, @S8.rec AV (fun _ => T1) (fun a b c d e f g h => ⟨a, v, c, d, e, f, g, h⟩) e, f, g, h⟩) t
noncomputable def s34 : AV → T2 → T2 := fun v t => @S8.rec T1 (fun _ => T2) (fun a b c d e f g h => ⟨a, b, c, d, @S8.rec AV (fun _ => T1) (fun a b c d e f g h => ⟨a, b, v, d, e, f, g, h⟩) e, f, g, h⟩) t
noncomputable def s35 : AV → T2 → T2 := fun v t => @S8.rec T1 (fun _ => T2) (fun a b c d e f g h => ⟨a, b, c, d, @S8.rec AV (fun _ => T1) (fun a b c d e f g h => ⟨a, b, c, v, e, f, g, h⟩) e, f, g, h⟩) t
noncomputable def s36 : AV → T2 → T2 := fun v t => @S8.rec T1 (fun _ => T2) (fun a b c d e f g h => ⟨a, b, c, d, @S8.rec AV (fun _ => T1) (fun a b c d e f g h => ⟨a, b, c, d, v, f, g, h⟩) e, f, g, h⟩) t
noncomputable def s37 : AV → T2 → T2 := fun v t => @S8.rec T1 (fun _ => T2) (fun a b c d e f g h => ⟨a, b, c, d, @S8.rec AV (fun _ => T1) (fun a b c d e f g h => ⟨a, b, c, d, e, v, g, h⟩) e, f, g, h⟩) t
noncomputable def s38 : AV → T2 → T2 := fun v t => @S8.rec T1 (fun _ => T2) (fun a b c d e f g h => ⟨a, b, c, d, @S8.rec AV (fun _ => T1) (fun a b c d e f g h => ⟨a, b, c, d, e, f, v, h⟩) e, f, g, h⟩) t
noncomputable def s39 : AV → T2 → T2 := fun v t => @S8.rec T1 (fun _ => T2) (fun a b c d e f g h => ⟨a, b, c, d, @S8.rec AV (fun _ => T1) (fun a b c d e f g h => ⟨a, b, c, d, e, f, g, v⟩) e, f, g, h⟩) t
noncomputable def s40 : AV → T2 → T2 := fun v t => @S8.rec T1 (fun _ => T2) (fun a b c d e f g h => ⟨a, b, c, d, e, @S8.rec AV (fun _ => T1) (fun a b c d e f g h => ⟨v, b, c, d, e, f, g, h⟩) f, g, h⟩) t
noncomputable def s41 : AV → T2 → T2 := fun v t => @S8.rec T1 (fun _ => T2) (fun a b c d e f g h => ⟨a, b, c, d, e, @S8.rec AV (fun _ => T1) (fun a b c d e f g h => ⟨a, v, c, d, e, f, g, h⟩) f, g, h⟩) t
noncomputable def s42 : AV → T2 → T2 := fun v t => @S8.rec T1 (fun _ => T2) (fun a b c d e f g h => ⟨a, b, c, d, e, @S8.rec AV (fun _ => T1) (fun a b c d e f g h => ⟨a, b, v, d, e, f, g, h⟩) f, g, h⟩) t
noncomputable def s43 : AV → T2 → T2 := fun v t => @S8.rec T1 (fun _ => T2) (fun a b c d e f g h => ⟨a, b, c, d, e, @S8.rec AV (fun _ => T1) (fun a b c d e f g h => ⟨a, b, c, v, e, f, g, h⟩) f, g, h⟩) t
noncomputable def s44 : AV → T2 → T2 := fun v t => @S8.rec T1 (fun _ => T2) (fun a b c d e f g h => ⟨a, b, c, d, e, @S8.rec AV (fun _ => T1) (fun a b c d e f g h => ⟨a, b, c, d, v, f, g, h⟩) f, g, h⟩) t
noncomputable def s45 : AV → T2 → T2 := fun v t => @S8.rec T1 (fun _ => T2) (fun a b c d e f g h => ⟨a, b, c, d, e, @S8.rec AV (fun _ => T1) (fun a b c d e f g h => ⟨a, b, c, d, e, v, g, h⟩) f, g, h⟩) t
noncomputable def s46 : AV → T2 → T2 := fun v t => @S8.rec T1 (fun _ => T2) (fun a b c d e f g h => ⟨a, b, c, d, e, @S8.rec AV (fun _ => T1) (fun a b c d e f g h => ⟨a, b, c, d, e, f, v, h⟩) f, g, h⟩) t
noncomputable def s47 : AV → T2 → T2 := fun v t => @S8.rec T1 (fun _ => T2) (fun a b c d e f g h => ⟨a, b, c, d, e, @S8.rec AV (fun _ => T1) (fun a b c d e f g h => ⟨a, b, c, d, e, f, g, v⟩) f, g, h⟩) t
noncomputable def s48 : AV → T2 → T2 := fun v t => @S8.rec T1 (fun _ => T2) (fun a b c d e f g h => ⟨a, b, c, d, e, f, @S8.rec AV (fun _ => T1) (fun a b c d e f g h => ⟨v, b, c, d, e, f, g, h⟩) g, h⟩) t
noncomputable def s49 : AV → T2 → T2 := fun v t => @S8.rec T1 (fun _ => T2) (fun a b c d e f g h => ⟨a, b, c, d, e, f, @S8.rec AV (fun _ => T1) (fun a b c d e f g h => ⟨a, v, c, d, e, f, g, h⟩) g, h⟩) t
noncomputable def s50 : AV → T2 → T2 := fun v t => @S8.rec T1 (fun _ => T2) (fun a b c d e f g h => ⟨a, b, c, d, e, f, @S8.rec AV (fun _ => T1) (fun a b c d e f g h => ⟨a, b, v, d, e, f, g, h⟩) g, h⟩) t
noncomputable def s51 : AV → T2 → T2 := fun v t => @S8.rec T1 (fun _ => T2) (fun a b c d e f g h => ⟨a, b, c, d, e, f, @S8.rec AV (fun _ => T1) (fun a b c d e f g h => ⟨a, b, c, v, e, f, g, h⟩) g, h⟩) t
noncomputable def s52 : AV → T2 → T2 := fun v t => @S8.rec T1 (fun _ => T2) (fun a b c d e f g h => ⟨a, b, c, d, e, f, @S8.rec AV (fun _ => T1) (fun a b c d e f g h => ⟨a, b, c, d, v, f, g, h⟩) g, h⟩) t
noncomputable def s53 : AV → T2 → T2 := fun v t => @S8.rec T1 (fun _ => T2) (fun a b c d e f g h => ⟨a, b, c, d, e, f, @S8.rec AV (fun _ => T1) (fun a b c d e f g h => ⟨a, b, c, d, e, v, g, h⟩) g, h⟩) t
noncomputable def s54 : AV → T2 → T2 := fun v t => @S8.rec T1 (fun _ => T2) (fun a b c d e f g h => ⟨a, b, c, d, e, f, @S8.rec AV (fun _ => T1) (fun a b c d e f g h => ⟨a, b, c, d, e, f, v, h⟩) g, h⟩) t
noncomputable def s55 : AV → T2 → T2 := fun v t => @S8.rec T1 (fun _ => T2) (fun a b c d e f g h => ⟨a, b, c, d, e, f, @S8.rec AV (fun _ => T1) (fun a b c d e f g h => ⟨a, b, c, d, e, f, g, v⟩) g, h⟩) t
noncomputable def s56 : AV → T2 → T2 := fun v t => @S8.rec T1 (fun _ => T2) (fun a b c d e f g h => ⟨a, b, c, d, e, f, g, @S8.rec AV (fun _ => T1) (fun a b c d e f g h => ⟨v, b, c, d, e, f, g, h⟩) h⟩) t
noncomputable def s57 : AV → T2 → T2 := fun v t => @S8.rec T1 (fun _ => T2) (fun a b c d e f g h => ⟨a, b, c, d, e, f, g, @S8.rec AV (fun _ => T1) (fun a b c d e f g h => ⟨a, v, c, d, e, f, g, h⟩) h⟩) t
noncomputable def s58 : AV → T2 → T2 := fun v t => @S8.rec T1 (fun _ => T2) (fun a b c d e f g h => ⟨a, b, c, d, e, f, g, @S8.rec AV (fun _ => T1) (fun a b c d e f g h => ⟨a, b, v, d, e, f, g, h⟩) h⟩) t
noncomputable def s59 : AV → T2 → T2 := fun v t => @S8.rec T1 (fun _ => T2) (fun a b c d e f g h => ⟨a, b, c, d, e, f, g, @S8.rec AV (fun _ => T1) (fun a b c d e f g h => ⟨a, b, c, v, e, f, g, h⟩) h⟩) t
noncomputable def s60 : AV → T2 → T2 := fun v t => @S8.rec T1 (fun _ => T2) (fun a b c d e f g h => ⟨a, b, c, d, e, f, g, @S8.rec AV (fun _ => T1) (fun a b c d e f g h => ⟨a, b, c, d, v, f, g, h⟩) h⟩) t
noncomputable def s61 : AV → T2 → T2 := fun v t => @S8.rec T1 (fun _ => T2) (fun a b c d e f g h => ⟨a, b, c, d, e, f, g, @S8.rec AV (fun _ => T1) (fun a b c d e f g h => ⟨a, b, c, d, e, v, g, h⟩) h⟩) t
noncomputable def s62 : AV → T2 → T2 := fun v t => @S8.rec T1 (fun _ => T2) (fun a b c d e f g h => ⟨a, b, c, d, e, f, g, @S8.rec AV (fun _ => T1) (fun a b c d e f g h => ⟨a, b, c, d, e, f, v, h⟩) h⟩) t
noncomputable def s63 : AV → T2 → T2 := fun v t => @S8.rec T1 (fun _ => T2) (fun a b c d e f g h => ⟨a, b, c, d, e, f, g, @S8.rec AV (fun _ => T1) (fun a b c d e f g h => ⟨a, b, c, d, e, f, g, v⟩) h⟩) t
noncomputable def h0 (x : T2 → AV) : T3 → AV := fun t => @S8.rec T2 (fun _ => AV) (fun a b c d e f g h => x a) t
noncomputable def h1 (x : T2 → AV) : T3 → AV := fun t => @S8.rec T2 (fun _ => AV) (fun a b c d e f g h => x b) t
noncomputable def h2 (x : T2 → AV) : T3 → AV := fun t => @S8.rec T2 (fun _ => AV) (fun a b c d e f g h => x c) t
noncomputable def h3 (x : T2 → AV) : T3 → AV := fun t => @S8.rec T2 (fun _ => AV) (fun a b c d e f g h => x d) t
noncomputable def h4 (x : T2 → AV) : T3 → AV := fun t => @S8.rec T2 (fun _ => AV) (fun a b c d e f g h => x e) t
noncomputable def h5 (x : T2 → AV) : T3 → AV := fun t => @S8.rec T2 (fun _ => AV) (fun a b c d e f g h => x f) t
noncomputable def h6 (x : T2 → AV) : T3 → AV := fun t => @S8.rec T2 (fun _ => AV) (fun a b c d e f g h => x g) t
noncomputable def h7 (x : T2 → AV) : T3 → AV := fun t => @S8.rec T2 (fun _ => AV) (fun a b c d e f g h => x h) t
noncomputable def i0 (x : AV → T2 → T2) : AV → T3 → T3 := fun v t => @S8.rec T2 (fun _ => T3) (fun a b c d e f g h => ⟨x v a, b, c, d, e, f, g, h⟩) t
noncomputable def i1 (x : AV → T2 → T2) : AV → T3 → T3 := fun v t => @S8.rec T2 (fun _ => T3) (fun a b c d e f g h => ⟨a, x v b, c, d, e, f, g, h⟩) t
noncomputable def i2 (x : AV → T2 → T2) : AV → T3 → T3 := fun v t => @S8.rec T2 (fun _ => T3) (fun a b c d e f g h => ⟨a, b, x v c, d, e, f, g, h⟩) t
noncomputable def i3 (x : AV → T2 → T2) : AV → T3 → T3 := fun v t => @S8.rec T2 (fun _ => T3) (fun a b c d e f g h => ⟨a, b, c, x v d, e, f, g, h⟩) t
noncomputable def i4 (x : AV → T2 → T2) : AV → T3 → T3 := fun v t => @S8.rec T2 (fun _ => T3) (fun a b c d e f g h => ⟨a, b, c, d, x v e, f, g, h⟩) t
noncomputable def i5 (x : AV → T2 → T2) : AV → T3 → T3 := fun v t => @S8.rec T2 (fun _ => T3) (fun a b c d e f g h => ⟨a, b, c, d, e, x v f, g, h⟩) t
noncomputable def i6 (x : AV → T2 → T2) : AV → T3 → T3 := fun v t => @S8.rec T2 (fun _ => T3) (fun a b c d e f g h => ⟨a, b, c, d, e, f, x v g, h⟩) t
noncomputable def i7 (x : AV → T2 → T2) : AV → T3 → T3 := fun v t => @S8.rec T2 (fun _ => T3) (fun a b c d e f g h => ⟨a, b, c, d, e, f, g, x v h⟩) t

noncomputable def getT2 : List (T2 → AV) := [g0, g1, g2, g3, g4, g5, g6, g7, g8, g9, g10, g11, g12, g13, g14, g15, g16, g17, g18, g19, g20, g21, g22, g23, g24, g25, g26, g27, g28, g29, g30, g31, g32, g33, g34, g35, g36, g37, g38, g39, g40, g41, g42, g43, g44, g45, g46, g47, g48, g49, g50, g51, g52, g53, g54, g55, g56, g57, g58, g59, g60, g61, g62, g63]
noncomputable def setT2 : List (AV → T2 → T2) := [s0, s1, s2, s3, s4, s5, s6, s7, s8, s9, s10, s11, s12, s13, s14, s15, s16, s17, s18, s19, s20, s21, s22, s23, s24, s25, s26, s27, s28, s29, s30, s31, s32, s33, s34, s35, s36, s37, s38, s39, s40, s41, s42, s43, s44, s45, s46, s47, s48, s49, s50, s51, s52, s53, s54, s55, s56, s57, s58, s59, s60, s61, s62, s63]
noncomputable def getT3 : List ((T2 → AV) → T3 → AV) := [h0, h1, h2, h3, h4, h5, h6, h7]
noncomputable def setT3 : List ((AV → T2 → T2) → AV → T3 → T3) := [i0, i1, i2, i3, i4, i5, i6, i7]

noncomputable def encT1 (f : Nat → AV) (n : Nat) : T1 := ⟨f (n + 0), f (n + 1), f (n + 2), f (n + 3), f (n + 4), f (n + 5), f (n + 6), f (n + 7)⟩
noncomputable def encT2 (f : Nat → AV) : T2 := ⟨⟨f 0, f 1, f 2, f 3, f 4, f 5, f 6, f 7⟩, ⟨f 8, f 9, f 10, f 11, f 12, f 13, f 14, f 15⟩, ⟨f 16, f 17, f 18, f 19, f 20, f 21, f 22, f 23⟩, ⟨f 24, f 25, f 26, f 27, f 28, f 29, f 30, f 31⟩, ⟨f 32, f 33, f 34, f 35, f 36, f 37, f 38, f 39⟩, ⟨f 40, f 41, f 42, f 43, f 44, f 45, f 46, f 47⟩, ⟨f 48, f 49, f 50, f 51, f 52, f 53, f 54, f 55⟩, ⟨f 56, f 57, f 58, f 59, f 60, f 61, f 62, f 63⟩⟩
noncomputable def encT3 (f : Nat → AV) : T3 := ⟨encT2 fun n => f (n + 0), encT2 fun n => f (n + 64), encT2 fun n => f (n + 128), encT2 fun n => f (n + 192), encT2 fun n => f (n + 256), encT2 fun n => f (n + 320), encT2 fun n => f (n + 384), encT2 fun n => f (n + 448)⟩

noncomputable def E2 : EnvO T2 := ⟨64, fun n => getT2.getD n (kc undefA), fun n => setT2.getD n (fun _ t => t), encT2⟩
noncomputable def E3 : EnvO T3 := ⟨512, fun n => getT3.getD (n / 64) (fun _ => kc undefA) (getT2.getD (n % 64) (kc undefA)), fun n => setT3.getD (n / 64) (fun _ _ t => t) (setT2.getD (n % 64) (fun _ t => t)), encT3⟩

theorem E2_ok : EnvOk E2 where
  get_enc := fun n f h => by
    have h : n < 64 := h
    match n, h with
    | 0, _ => rfl
    | 1, _ => rfl
    | 2, _ => rfl
    | 3, _ => rfl
    | 4, _ => rfl
    | 5, _ => rfl
    | 6, _ => rfl
    | 7, _ => rfl
    | 8, _ => rfl
    | 9, _ => rfl
    | 10, _ => rfl
    | 11, _ => rfl
    | 12, _ => rfl
    | 13, _ => rfl
    | 14, _ => rfl
    | 15, _ => rfl
    | 16, _ => rfl
    | 17, _ => rfl
    | 18, _ => rfl
    | 19, _ => rfl
    | 20, _ => rfl
    | 21, _ => rfl
    | 22, _ => rfl
    | 23, _ => rfl
    | 24, _ => rfl
    | 25, _ => rfl
    | 26, _ => rfl
    | 27, _ => rfl
    | 28, _ => rfl
    | 29, _ => rfl
    | 30, _ => rfl
    | 31, _ => rfl
    | 32, _ => rfl
    | 33, _ => rfl
    | 34, _ => rfl
    | 35, _ => rfl
    | 36, _ => rfl
    | 37, _ => rfl
    | 38, _ => rfl
    | 39, _ => rfl
    | 40, _ => rfl
    | 41, _ => rfl
    | 42, _ => rfl
    | 43, _ => rfl
    | 44, _ => rfl
    | 45, _ => rfl
    | 46, _ => rfl
    | 47, _ => rfl
    | 48, _ => rfl
    | 49, _ => rfl
    | 50, _ => rfl
    | 51, _ => rfl
    | 52, _ => rfl
    | 53, _ => rfl
    | 54, _ => rfl
    | 55, _ => rfl
    | 56, _ => rfl
    | 57, _ => rfl
    | 58, _ => rfl
    | 59, _ => rfl
    | 60, _ => rfl
    | 61, _ => rfl
    | 62, _ => rfl
    | 63, _ => rfl
    | n + 64, h => omega
  set_enc := fun n v f h => by
    have h : n < 64 := h
    match n, h with
    | 0, _ => rfl
    | 1, _ => rfl
    | 2, _ => rfl
    | 3, _ => rfl
    | 4, _ => rfl
    | 5, _ => rfl
    | 6, _ => rfl
    | 7, _ => rfl
    | 8, _ => rfl
    | 9, _ => rfl
    | 10, _ => rfl
    | 11, _ => rfl
    | 12, _ => rfl
    | 13, _ => rfl
    | 14, _ => rfl
    | 15, _ => rfl
    | 16, _ => rfl
    | 17, _ => rfl
    | 18, _ => rfl
    | 19, _ => rfl
    | 20, _ => rfl
    | 21, _ => rfl
    | 22, _ => rfl
    | 23, _ => rfl
    | 24, _ => rfl
    | 25, _ => rfl
    | 26, _ => rfl
    | 27, _ => rfl
    | 28, _ => rfl
    | 29, _ => rfl
    | 30, _ => rfl
    | 31, _ => rfl
    | 32, _ => rfl
    | 33, _ => rfl
    | 34, _ => rfl
    | 35, _ => rfl
    | 36, _ => rfl
    | 37, _ => rfl
    | 38, _ => rfl
    | 39, _ => rfl
    | 40, _ => rfl
    | 41, _ => rfl
    | 42, _ => rfl
    | 43, _ => rfl
    | 44, _ => rfl
    | 45, _ => rfl
    | 46, _ => rfl
    | 47, _ => rfl
    | 48, _ => rfl
    | 49, _ => rfl
    | 50, _ => rfl
    | 51, _ => rfl
    | 52, _ => rfl
    | 53, _ => rfl
    | 54, _ => rfl
    | 55, _ => rfl
    | 56, _ => rfl
    | 57, _ => rfl
    | 58, _ => rfl
    | 59, _ => rfl
    | 60, _ => rfl
    | 61, _ => rfl
    | 62, _ => rfl
    | 63, _ => rfl
    | n + 64, h => omega

theorem get3 (i : Nat) (x : T2 → AV) (f : Nat → AV) (h : i < 8) : getT3.getD i (fun _ => kc undefA) x (encT3 f) = x (encT2 fun n => f (n + 64 * i)) := by
  match i, h with
  | 0, _ => rfl
  | 1, _ => rfl
  | 2, _ => rfl
  | 3, _ => rfl
  | 4, _ => rfl
  | 5, _ => rfl
  | 6, _ => rfl
  | 7, _ => rfl
  | n + 8, h => omega

theorem set3 (i : Nat) (x : AV → T2 → T2) (v : AV) (f : Nat → AV) (j : Nat) (hj : j < 64) (hx : ∀ f, x v (encT2 f) = encT2 fun m => if m = j then v else f m) (h : i < 8) :
    setT3.getD i (fun _ _ t => t) x v (encT3 f) = encT3 fun m => if m = 64 * i + j then v else f m := by
  have ne : ∀ k, k < 8 → k ≠ i → (encT2 fun n => f (n + 64 * k)) = encT2 fun n => if n + 64 * k = 64 * i + j then v else f (n + 64 * k) := fun k hk hne => by
    have : ∀ n, n < 64 → (if n + 64 * k = 64 * i + j then v else f (n + 64 * k)) = f (n + 64 * k) := fun n hn => if_neg (by omega)
    simp only [encT2, this 0 (by omega), this 1 (by omega), this 2 (by omega), this 3 (by omega), this 4 (by omega), this 5 (by omega), this 6 (by omega), this 7 (by omega), this 8 (by omega), this 9 (by omega), this 10 (by omega), this 11 (by omega), this 12 (by omega), this 13 (by omega), this 14 (by omega), this 15 (by omega), this 16 (by omega), this 17 (by omega), this 18 (by omega), this 19 (by omega), this 20 (by omega), this 21 (by omega), this 22 (by omega), this 23 (by omega), this 24 (by omega), this 25 (by omega), this 26 (by omega), this 27 (by omega), this 28 (by omega), this 29 (by omega), this 30 (by omega), this 31 (by omega), this 32 (by omega), this 33 (by omega), this 34 (by omega), this 35 (by omega), this 36 (by omega), this 37 (by omega), this 38 (by omega), this 39 (by omega), this 40 (by omega), this 41 (by omega), this 42 (by omega), this 43 (by omega), this 44 (by omega), this 45 (by omega), this 46 (by omega), this 47 (by omega), this 48 (by omega), this 49 (by omega), this 50 (by omega), this 51 (by omega), this 52 (by omega), this 53 (by omega), this 54 (by omega), this 55 (by omega), this 56 (by omega), this 57 (by omega), this 58 (by omega), this 59 (by omega), this 60 (by omega), this 61 (by omega), this 62 (by omega), this 63 (by omega)]
  have eq : ∀ k, k = i → (x v (encT2 fun n => f (n + 64 * k))) = encT2 fun n => if n + 64 * k = 64 * i + j then v else f (n + 64 * k) := fun k hk => by
    subst hk
    rw [hx]
    congr 1
    funext n
    by_cases hn : n = j
    · rw [if_pos hn, if_pos (by omega)]
    · rw [if_neg hn, if_neg (by omega)]
  match i, h with
  | 0, _ => show (⟨x v (encT2 fun n => f (n + 64 * 0)), encT2 fun n => f (n + 64 * 1), encT2 fun n => f (n + 64 * 2), encT2 fun n => f (n + 64 * 3), encT2 fun n => f (n + 64 * 4), encT2 fun n => f (n + 64 * 5), encT2 fun n => f (n + 64 * 6), encT2 fun n => f (n + 64 * 7)⟩ : T3) = ⟨encT2 fun n => if n + 64 * 0 = 64 * 0 + j then v else f (n + 64 * 0), encT2 fun n => if n + 64 * 1 = 64 * 0 + j then v else f (n + 64 * 1), encT2 fun n => if n + 64 * 2 = 64 * 0 + j then v else f (n + 64 * 2), encT2 fun n => if n + 64 * 3 = 64 * 0 + j then v else f (n + 64 * 3), encT2 fun n => if n + 64 * 4 = 64 * 0 + j then v else f (n + 64 * 4), encT2 fun n => if n + 64 * 5 = 64 * 0 + j then v else f (n + 64 * 5), encT2 fun n => if n + 64 * 6 = 64 * 0 + j then v else f (n + 64 * 6), encT2 fun n => if n + 64 * 7 = 64 * 0 + j then v else f (n + 64 * 7)⟩; rw [eq 0 rfl, ne 1 (by omega) (by omega), ne 2 (by omega) (by omega), ne 3 (by omega) (by omega), ne 4 (by omega) (by omega), ne 5 (by omega) (by omega), ne 6 (by omega) (by omega), ne 7 (by omega) (by omega)]
  | 1, _ => show (⟨encT2 fun n => f (n + 64 * 0), x v (encT2 fun n => f (n + 64 * 1)), encT2 fun n => f (n + 64 * 2), encT2 fun n => f (n + 64 * 3), encT2 fun n => f (n + 64 * 4), encT2 fun n => f (n + 64 * 5), encT2 fun n => f (n + 64 * 6), encT2 fun n => f (n + 64 * 7)⟩ : T3) = ⟨encT2 fun n => if n + 64 * 0 = 64 * 1 + j then v else f (n + 64 * 0), encT2 fun n => if n + 64 * 1 = 64 * 1 + j then v else f (n + 64 * 1), encT2 fun n => if n + 64 * 2 = 64 * 1 + j then v else f (n + 64 * 2), encT2 fun n => if n + 64 * 3 = 64 * 1 + j then v else f (n + 64 * 3), encT2 fun n => if n + 64 * 4 = 64 * 1 + j then v else f (n + 64 * 4), encT2 fun n => if n + 64 * 5 = 64 * 1 + j then v else f (n + 64 * 5), encT2 fun n => if n + 64 * 6 = 64 * 1 + j then v else f (n + 64 * 6), encT2 fun n => if n + 64 * 7 = 64 * 1 + j then v else f (n + 64 * 7)⟩; rw [ne 0 (by omega) (by omega), eq 1 rfl, ne 2 (by omega) (by omega), ne 3 (by omega) (by omega), ne 4 (by omega) (by omega), ne 5 (by omega) (by omega), ne 6 (by omega) (by omega), ne 7 (by omega) (by omega)]
  | 2, _ => show (⟨encT2 fun n => f (n + 64 * 0), encT2 fun n => f (n + 64 * 1), x v (encT2 fun n => f (n + 64 * 2)), encT2 fun n => f (n + 64 * 3), encT2 fun n => f (n + 64 * 4), encT2 fun n => f (n + 64 * 5), encT2 fun n => f (n + 64 * 6), encT2 fun n => f (n + 64 * 7)⟩ : T3) = ⟨encT2 fun n => if n + 64 * 0 = 64 * 2 + j then v else f (n + 64 * 0), encT2 fun n => if n + 64 * 1 = 64 * 2 + j then v else f (n + 64 * 1), encT2 fun n => if n + 64 * 2 = 64 * 2 + j then v else f (n + 64 * 2), encT2 fun n => if n + 64 * 3 = 64 * 2 + j then v else f (n + 64 * 3), encT2 fun n => if n + 64 * 4 = 64 * 2 + j then v else f (n + 64 * 4), encT2 fun n => if n + 64 * 5 = 64 * 2 + j then v else f (n + 64 * 5), encT2 fun n => if n + 64 * 6 = 64 * 2 + j then v else f (n + 64 * 6), encT2 fun n => if n + 64 * 7 = 64 * 2 + j then v else f (n + 64 * 7)⟩; rw [ne 0 (by omega) (by omega), ne 1 (by omega) (by omega), eq 2 rfl, ne 3 (by omega) (by omega), ne 4 (by omega) (by omega), ne 5 (by omega) (by omega), ne 6 (by omega) (by omega), ne 7 (by omega) (by omega)]
  | 3, _ => show (⟨encT2 fun n => f (n + 64 * 0), encT2 fun n => f (n + 64 * 1), encT2 fun n => f (n + 64 * 2), x v (encT2 fun n => f (n + 64 * 3)), encT2 fun n => f (n + 64 * 4), encT2 fun n => f (n + 64 * 5), encT2 fun n => f (n + 64 * 6), encT2 fun n => f (n + 64 * 7)⟩ : T3) = ⟨encT2 fun n => if n + 64 * 0 = 64 * 3 + j then v else f (n + 64 * 0), encT2 fun n => if n + 64 * 1 = 64 * 3 + j then v else f (n + 64 * 1), encT2 fun n => if n + 64 * 2 = 64 * 3 + j then v else f (n + 64 * 2), encT2 fun n => if n + 64 * 3 = 64 * 3 + j then v else f (n + 64 * 3), encT2 fun n => if n + 64 * 4 = 64 * 3 + j then v else f (n + 64 * 4), encT2 fun n => if n + 64 * 5 = 64 * 3 + j then v else f (n + 64 * 5), encT2 fun n => if n + 64 * 6 = 64 * 3 + j then v else f (n + 64 * 6), encT2 fun n => if n + 64 * 7 = 64 * 3 + j then v else f (n + 64 * 7)⟩; rw [ne 0 (by omega) (by omega), ne 1 (by omega) (by omega), ne 2 (by omega) (by omega), eq 3 rfl, ne 4 (by omega) (by omega), ne 5 (by omega) (by omega), ne 6 (by omega) (by omega), ne 7 (by omega) (by omega)]
  | 4, _ => show (⟨encT2 fun n => f (n + 64 * 0), encT2 fun n => f (n + 64 * 1), encT2 fun n => f (n + 64 * 2), encT2 fun n => f (n + 64 * 3), x v (encT2 fun n => f (n + 64 * 4)), encT2 fun n => f (n + 64 * 5), encT2 fun n => f (n + 64 * 6), encT2 fun n => f (n + 64 * 7)⟩ : T3) = ⟨encT2 fun n => if n + 64 * 0 = 64 * 4 + j then v else f (n + 64 * 0), encT2 fun n => if n + 64 * 1 = 64 * 4 + j then v else f (n + 64 * 1), encT2 fun n => if n + 64 * 2 = 64 * 4 + j then v else f (n + 64 * 2), encT2 fun n => if n + 64 * 3 = 64 * 4 + j then v else f (n + 64 * 3), encT2 fun n => if n + 64 * 4 = 64 * 4 + j then v else f (n + 64 * 4), encT2 fun n => if n + 64 * 5 = 64 * 4 + j then v else f (n + 64 * 5), encT2 fun n => if n + 64 * 6 = 64 * 4 + j then v else f (n + 64 * 6), encT2 fun n => if n + 64 * 7 = 64 * 4 + j then v else f (n + 64 * 7)⟩; rw [ne 0 (by omega) (by omega), ne 1 (by omega) (by omega), ne 2 (by omega) (by omega), ne 3 (by omega) (by omega), eq 4 rfl, ne 5 (by omega) (by omega), ne 6 (by omega) (by omega), ne 7 (by omega) (by omega)]
  | 5, _ => show (⟨encT2 fun n => f (n + 64 * 0), encT2 fun n => f (n + 64 * 1), encT2 fun n => f (n + 64 * 2), encT2 fun n => f (n + 64 * 3), encT2 fun n => f (n + 64 * 4), x v (encT2 fun n => f (n + 64 * 5)), encT2 fun n => f (n + 64 * 6), encT2 fun n => f (n + 64 * 7)⟩ : T3) = ⟨encT2 fun n => if n + 64 * 0 = 64 * 5 + j then v else f (n + 64 * 0), encT2 fun n => if n + 64 * 1 = 64 * 5 + j then v else f (n + 64 * 1), encT2 fun n => if n + 64 * 2 = 64 * 5 + j then v else f (n + 64 * 2), encT2 fun n => if n + 64 * 3 = 64 * 5 + j then v else f (n + 64 * 3), encT2 fun n => if n + 64 * 4 = 64 * 5 + j then v else f (n + 64 * 4), encT2 fun n => if n + 64 * 5 = 64 * 5 + j then v else f (n + 64 * 5), encT2 fun n => if n + 64 * 6 = 64 * 5 + j then v else f (n + 64 * 6), encT2 fun n => if n + 64 * 7 = 64 * 5 + j then v else f (n + 64 * 7)⟩; rw [ne 0 (by omega) (by omega), ne 1 (by omega) (by omega), ne 2 (by omega) (by omega), ne 3 (by omega) (by omega), ne 4 (by omega) (by omega), eq 5 rfl, ne 6 (by omega) (by omega), ne 7 (by omega) (by omega)]
  | 6, _ => show (⟨encT2 fun n => f (n + 64 * 0), encT2 fun n => f (n + 64 * 1), encT2 fun n => f (n + 64 * 2), encT2 fun n => f (n + 64 * 3), encT2 fun n => f (n + 64 * 4), encT2 fun n => f (n + 64 * 5), x v (encT2 fun n => f (n + 64 * 6)), encT2 fun n => f (n + 64 * 7)⟩ : T3) = ⟨encT2 fun n => if n + 64 * 0 = 64 * 6 + j then v else f (n + 64 * 0), encT2 fun n => if n + 64 * 1 = 64 * 6 + j then v else f (n + 64 * 1), encT2 fun n => if n + 64 * 2 = 64 * 6 + j then v else f (n + 64 * 2), encT2 fun n => if n + 64 * 3 = 64 * 6 + j then v else f (n + 64 * 3), encT2 fun n => if n + 64 * 4 = 64 * 6 + j then v else f (n + 64 * 4), encT2 fun n => if n + 64 * 5 = 64 * 6 + j then v else f (n + 64 * 5), encT2 fun n => if n + 64 * 6 = 64 * 6 + j then v else f (n + 64 * 6), encT2 fun n => if n + 64 * 7 = 64 * 6 + j then v else f (n + 64 * 7)⟩; rw [ne 0 (by omega) (by omega), ne 1 (by omega) (by omega), ne 2 (by omega) (by omega), ne 3 (by omega) (by omega), ne 4 (by omega) (by omega), ne 5 (by omega) (by omega), eq 6 rfl, ne 7 (by omega) (by omega)]
  | 7, _ => show (⟨encT2 fun n => f (n + 64 * 0), encT2 fun n => f (n + 64 * 1), encT2 fun n => f (n + 64 * 2), encT2 fun n => f (n + 64 * 3), encT2 fun n => f (n + 64 * 4), encT2 fun n => f (n + 64 * 5), encT2 fun n => f (n + 64 * 6), x v (encT2 fun n => f (n + 64 * 7))⟩ : T3) = ⟨encT2 fun n => if n + 64 * 0 = 64 * 7 + j then v else f (n + 64 * 0), encT2 fun n => if n + 64 * 1 = 64 * 7 + j then v else f (n + 64 * 1), encT2 fun n => if n + 64 * 2 = 64 * 7 + j then v else f (n + 64 * 2), encT2 fun n => if n + 64 * 3 = 64 * 7 + j then v else f (n + 64 * 3), encT2 fun n => if n + 64 * 4 = 64 * 7 + j then v else f (n + 64 * 4), encT2 fun n => if n + 64 * 5 = 64 * 7 + j then v else f (n + 64 * 5), encT2 fun n => if n + 64 * 6 = 64 * 7 + j then v else f (n + 64 * 6), encT2 fun n => if n + 64 * 7 = 64 * 7 + j then v else f (n + 64 * 7)⟩; rw [ne 0 (by omega) (by omega), ne 1 (by omega) (by omega), ne 2 (by omega) (by omega), ne 3 (by omega) (by omega), ne 4 (by omega) (by omega), ne 5 (by omega) (by omega), ne 6 (by omega) (by omega), eq 7 rfl]
  | n + 8, h => omega

theorem E3_ok : EnvOk E3 where
  get_enc := fun n f h => by
    have h : n < 512 := h
    show getT3.getD (n / 64) (fun _ => kc undefA) (getT2.getD (n % 64) (kc undefA)) (encT3 f) = f n
    rw [get3 _ _ _ (by omega)]
    have := E2_ok.get_enc (n % 64) (fun m => f (m + 64 * (n / 64))) (by show n % 64 < 64; omega)
    have h2 : n % 64 + 64 * (n / 64) = n := by omega
    rw [h2] at this
    exact this
  set_enc := fun n v f h => by
    have h : n < 512 := h
    show setT3.getD (n / 64) (fun _ _ t => t) (setT2.getD (n % 64) (fun _ t => t)) v (encT3 f) = encT3 (fun m => if m = n then v else f m)
    rw [set3 (n / 64) (setT2.getD (n % 64) (fun _ t => t)) v f (n % 64) (by omega) (fun f => E2_ok.set_enc (n % 64) v f (by show n % 64 < 64; omega)) (by omega)]
    congr 1
    funext m
    have h2 : 64 * (n / 64) + n % 64 = n := by omega
    rw [h2]

/-! ### functions -/
inductive FF where
  | bad
  | t2 (b : FB T2)
  | t3 (b : FB T3)

noncomputable def compF (B : Base) (f : FuncId) : FF :=
  match B.P.funcs[f]? with
  | none => .bad
  | some fn => match fn.body with
    | none => .bad
    | some c => cond (Nat.ble fn.ntmps 64) (.t2 (compB E2 B fn c)) (cond (Nat.ble fn.ntmps 512) (.t3 (compB E3 B fn c)) .bad)

/-- A call. -/
noncomputable def fcall (code : FuncId → FF) (C : Ctx) : Nat → Caller :=
  @Nat.rec (fun _ => Caller) (fun _ _ _ _ => .fail) (fun n ih f args H k =>
    @FF.rec (fun _ => Out) (acall C (Nat.succ n) f args H k) (fun b => callB encT2 b ⟨C, ih⟩ args H k (acall C (Nat.succ n) f args H k)) (fun b => callB encT3 b ⟨C, ih⟩ args H k (acall C (Nat.succ n) f args H k)) (code f))
end Go.Proofs.Ytgpijioodocplaa
