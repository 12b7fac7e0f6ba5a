/-
  WALKS: the exact law of BlockOk.
-/
import Derived.Test.YthhaekeiepphbaaRows2
namespace Go.Proofs.Ythhaekeiepphbaa
set_option linter.unusedVariables false
open Go.RowKit

set_option maxRecDepth 100000 in
set_option maxHeartbeats 1600000 in
theorem fnExactBlockOk_walk (w : World) (a0 : Option Addr) (len0 cap0 : Nat) (z0 : List PB.Row) (hz0 : z0.length = len0) (rd0 : Rd w w.heap.size 2 a0 len0 (rows z0)) (lc0 : len0 ≤ cap0) (cm0 : cap0 ≤ maxLen) :
    Calls Try.prog 3 #[.slice a0 len0 cap0] w fun e w' => e = .returned (.bool true) ∧ Below w.heap.size w w' := by
  have HZ := hide hz0
  have HR := hide rd0
  clear rd0 hz0
  unfold maxLen at cm0
  by_cases hl : 1048576 < len0
  · have c0 := hide (szRowS_not a0 len0 cap0 1048576 w (by omega) (by omega) (by omega))
    go_enter Try.func3, Try.ntmps3
    go_wp2_with fail
    refine c0.out.mono ?_
    rintro e w' ⟨rfl, rfl⟩
    go_wp2
    go_ret
    exact ⟨rfl, Below.refl _ _⟩
  · have c0 := hide (szRowS_fits a0 len0 cap0 1048576 w (by omega) (by omega))
    have c1 := hide (toRowS_any a0 len0 cap0 z0 w.heap.size w HZ.out HR.out (by omega) (Nat.le_refl _))
    have hlz : z0.length ≤ 1048576 := by rw [HZ.out]; omega
    go_enter Try.func3, Try.ntmps3
    go_wp2_with fail
    refine c0.out.mono ?_
    rintro e w' ⟨rfl, rfl⟩
    go_wp2_with fail
    refine c1.out.mono ?_
    rintro e w1 ⟨A1, d1, rfl, o1, b1⟩
    have c2 := hide (specBlockOk A1 z0.length d1 z0 w1.heap.size w1 rfl (Rd.of_own o1) (by omega) (Nat.le_refl _))
    have R1 := hide (HR.out.below b1)
    have B1 := hide b1
    have s1 := b1.size
    clear c0 c1 o1 b1
    go_wp2_with fail
    refine c2.out.mono ?_
    rintro e w2 ⟨rfl, b2⟩
    have R2 := hide (R1.out.below (b2.mono s1))
    have B2 := hide (B1.out.trans (b2.mono s1))
    have s2 := B2.out.size
    have c3 := hide (toRowS_any a0 len0 cap0 z0 w.heap.size w2 HZ.out R2.out (by omega) s2)
    clear c2 R1 B1 b2 s1
    go_wp2_with fail
    refine c3.out.mono ?_
    rintro e w3 ⟨A3, d3, rfl, o3, b3⟩
    have r3 := Rd.of_own o3
    have c4 := hide (implBlockOk A3 z0.length d3 z0 w3.heap.size w3 rfl r3 (by omega) (Nat.le_refl _))
    have R3 := hide (R2.out.below (b3.mono s2))
    have B3 := hide (B2.out.trans (b3.mono s2))
    have s3 := B3.out.size
    have X3 := hide r3
    clear c3 R2 B2 b3 s2 o3 r3
    go_wp2_with fail
    refine c4.out.mono ?_
    rintro e w4 ⟨rfl, b4⟩
    have R4 := hide (R3.out.below (b4.mono s3))
    have B4 := hide (B3.out.trans (b4.mono s3))
    have s4 := B4.out.size
    have X4 := hide (X3.out.below b4)
    have q4 := b4.size
    have c5 := hide (toRowS_any a0 len0 cap0 z0 w.heap.size w4 HZ.out R4.out (by omega) s4)
    clear c4 R3 B3 b4 s3 X3
    go_wp2_with fail
    refine c5.out.mono ?_
    rintro e w5 ⟨A5, d5, rfl, o5, b5⟩
    have B5 := hide (B4.out.trans (b5.mono s4))
    have c6 := hide (eqRowS_any A3 A5 _ _ d3 d5 z0 z0 w3.heap.size w5.heap.size w5 rfl rfl (X4.out.below (b5.mono q4)) (Rd.of_own o5) (by omega) (by omega) (by have := b5.size; omega) (Nat.le_refl _))
    have hd : decide (z0 = z0) = true := by simp
    rw [hd] at c6
    have s5 := B5.out.size
    clear hd c5 R4 B4 b5 s4 X4 o5
    go_wp2_with fail
    refine c6.out.mono ?_
    rintro e w6 ⟨rfl, b6⟩
    go_wp2
    go_ret
    exact ⟨rfl, B5.out.trans (b6.mono s5)⟩

end Go.Proofs.Ythhaekeiepphbaa
