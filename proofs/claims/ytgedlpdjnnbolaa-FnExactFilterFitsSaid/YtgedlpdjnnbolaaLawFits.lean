/-
  WALKS: the exact law of FilterFits.
-/
import Derived.Test.YtgedlpdjnnbolaaFits2
import Derived.Test.YtgedlpdjnnbolaaTail
namespace Go.Proofs.Ytgedlpdjnnbolaa
set_option linter.unusedVariables false
open Go.RowKit

theorem szOC_le (l : List PT.Cond) (left : Int) (h : 0 ≤ left) : szOC left l ≤ left := by
  induction l generalizing left with
  | nil => exact Int.le_refl _
  | cons t r ih =>
    unfold szOC
    split
    · omega
    · rename_i h2
      have h3 := szOne_le left t.1 h
      have h4 := ih (szOne left t.1) (by omega)
      omega
theorem szTC_le {l : List PT.Cond} {left : Int} (h : 0 ≤ left) : szTC left l ≤ left := by
  unfold szTC
  split
  · omega
  · have := szOC_le l (left - l.length) (by omega)
    omega

set_option maxRecDepth 100000 in
set_option maxHeartbeats 3200000 in
theorem fnExactFilterFits_walk (w : World) (a0 : Option Addr) (len0 cap0 : Nat) (z0 : List PT.Cond) (hz0 : z0.length = len0) (rd0 : Rd w w.heap.size 3 a0 len0 (cnds z0)) (sz0 : SizedC z0) (lc0 : len0 ≤ cap0) (cm0 : cap0 ≤ maxLen)
    (a1 : Option Addr) (len1 cap1 : Nat) (z1 : List PT.Tag) (hz1 : z1.length = len1) (rd1 : Rd w w.heap.size 2 a1 len1 (tgs z1)) (sz1 : Sized z1) (lc1 : len1 ≤ cap1) (cm1 : cap1 ≤ maxLen) :
    Calls Try.prog 11 #[.slice a0 len0 cap0, .slice a1 len1 cap1] w fun e w' => e = .returned (.bool true) ∧ Below w.heap.size w w' := by
  have HZ0 := hide hz0
  have HR0 := hide rd0
  have HZ1 := hide hz1
  have HR1 := hide rd1
  have HS1 := hide sz1
  unfold maxLen at cm0 cm1
  have c0 := hide (szCondS_any a0 len0 cap0 z0 w.heap.size 1048576 w hz0 rd0 (Nat.le_refl _) sz0 (by omega) (by omega))
  have hzl := hide (szTC_len (left := 1048576) (l := z0))
  have hzle := szTC_le (l := z0) (left := 1048576) (by omega)
  clear rd0 hz0 sz0 rd1 hz1 sz1
  generalize szTC 1048576 z0 = lf at c0 hzl hzle
  by_cases hl : lf < 0
  · go_enter Try.func11, Try.ntmps11
    go_wp2_with fail
    refine c0.out.mono ?_
    rintro e w' ⟨rfl, b⟩
    go_wp2
    go_ret
    exact ⟨rfl, b⟩
  · have hlz : z0.length ≤ 1048576 := by have := hzl.out (by omega); omega
    have hln : len0 ≤ 1048576 := by rw [← HZ0.out]; exact hlz
    have c1 : Hid (∀ wx, Below w.heap.size w wx → Calls Try.prog 19 #[.slice a1 len1 cap1, .int .i64 lf] wx fun e w' => e = .returned (.int .i64 (szT lf z1)) ∧ Below wx.heap.size wx w') := hide (fun wx hx => szTagS_any a1 len1 cap1 z1 w.heap.size lf wx HZ1.out (HR1.out.below hx) hx.size HS1.out (by omega) (by omega))
    have hzl1 := hide (szT_len (left := lf) (l := z1))
    generalize szT lf z1 = lg at c1 hzl1
    by_cases hg : lg < 0
    · go_enter Try.func11, Try.ntmps11
      go_wp2_with fail
      refine c0.out.mono ?_
      rintro e w1 ⟨rfl, b1⟩
      go_wp2_with fail
      refine (c1.out _ b1).mono ?_
      rintro e w2 ⟨rfl, b2⟩
      have B2 := hide (below_keepN b1 b2)
      clear b1 b2
      go_wp2
      go_ret
      exact ⟨rfl, B2.out⟩
    · have hlz1 : z1.length ≤ 1048576 := by have := hzl1.out (by omega); omega
      have hln1 : len1 ≤ 1048576 := by rw [← HZ1.out]; exact hlz1
      go_enter Try.func11, Try.ntmps11
      have BW := hide (Below.refl w.heap.size w)
      have R0 := hide ((⟨HR0.out, Nat.le_refl _⟩ : RdB w w.heap.size 3 a0 len0 (cnds z0)))
      have R1 := hide ((⟨HR1.out, Nat.le_refl _⟩ : RdB w w.heap.size 2 a1 len1 (tgs z1)))
      clear HR0 HR1 hzl hzl1
      have C1 := c0
      go_wp2_with fail
      refine C1.out.mono ?_
      rintro e w1 ⟨rfl, b⟩
      have s1 := b.size
      replace BW := hide (below_keep BW.out b)
      replace R0 := hide (R0.out.keep b)
      replace R1 := hide (R1.out.keep b)
      clear b C1
      have C2 := hide (c1.out w1 BW.out)
      go_wp2_with fail
      refine C2.out.mono ?_
      rintro e w2 ⟨rfl, b⟩
      have s2 := b.size
      replace BW := hide (below_keep BW.out b)
      replace R0 := hide (R0.out.keep b)
      replace R1 := hide (R1.out.keep b)
      clear b C2
      have C3 := hide (toCondS_any a0 len0 cap0 z0 _ w2 HZ0.out R0.out.rd (by omega) R0.out.le)
      go_wp2_with fail
      refine C3.out.mono ?_
      rintro e w3 ⟨A3, d3, rfl, o, b⟩
      have s3 := b.size
      replace BW := hide (below_keep BW.out b)
      replace R0 := hide (R0.out.keep b)
      replace R1 := hide (R1.out.keep b)
      have X1 := hide (OwB.of o b.size)
      clear b C3
      clear o
      have C4 := hide (toTagS_any a1 len1 cap1 z1 _ w3 HZ1.out R1.out.rd (by omega) R1.out.le)
      go_wp2_with fail
      refine C4.out.mono ?_
      rintro e w4 ⟨A4, d4, rfl, o, b⟩
      have s4 := b.size
      replace BW := hide (below_keep BW.out b)
      replace R0 := hide (R0.out.keep b)
      replace R1 := hide (R1.out.keep b)
      replace X1 := hide (X1.out.keep b)
      have X2 := hide (OwB.of o b.size)
      clear b C4
      clear o
      have C5 := hide (specFilterFits A3 A4 _ _ d3 d4 z0 z1 _ _ w4 rfl rfl X1.out.rd X2.out.rd (by omega) (by omega) X1.out.top X2.out.top)
      go_wp2_with fail
      refine C5.out.mono ?_
      rintro e w5 ⟨rfl, b⟩
      have s5 := b.size
      replace BW := hide (below_keep BW.out b)
      replace R0 := hide (R0.out.keep b)
      replace R1 := hide (R1.out.keep b)
      replace X1 := hide (X1.out.keep b)
      replace X2 := hide (X2.out.keep b)
      clear b C5
      clear X1 X2
      have C6 := hide (toCondS_any a0 len0 cap0 z0 _ w5 HZ0.out R0.out.rd (by omega) R0.out.le)
      go_wp2_with fail
      refine C6.out.mono ?_
      rintro e w6 ⟨A6, d6, rfl, o, b⟩
      have s6 := b.size
      replace BW := hide (below_keep BW.out b)
      replace R0 := hide (R0.out.keep b)
      replace R1 := hide (R1.out.keep b)
      have XA := hide (OwB.of o b.size)
      clear b C6
      clear o
      have C7 := hide (toTagS_any a1 len1 cap1 z1 _ w6 HZ1.out R1.out.rd (by omega) R1.out.le)
      go_wp2_with fail
      refine C7.out.mono ?_
      rintro e w7 ⟨A7, d7, rfl, o, b⟩
      have s7 := b.size
      replace BW := hide (below_keep BW.out b)
      replace R0 := hide (R0.out.keep b)
      replace R1 := hide (R1.out.keep b)
      replace XA := hide (XA.out.keep b)
      have XB := hide (OwB.of o b.size)
      clear b C7
      clear o
      have C8 := hide (implFilterFits A6 A7 _ _ d6 d7 z0 z1 _ _ w7 rfl rfl XA.out.rd XB.out.rd (by omega) (by omega) XA.out.top XB.out.top)
      go_wp2_with fail
      refine C8.out.mono ?_
      rintro e w8 ⟨rfl, b⟩
      have s8 := b.size
      replace BW := hide (below_keep BW.out b)
      replace R0 := hide (R0.out.keep b)
      replace R1 := hide (R1.out.keep b)
      replace XA := hide (XA.out.keep b)
      replace XB := hide (XB.out.keep b)
      clear b C8
      have C9 := hide (toCondS_any a0 len0 cap0 z0 _ w8 HZ0.out R0.out.rd (by omega) R0.out.le)
      go_wp2_with fail
      refine C9.out.mono ?_
      rintro e w9 ⟨A9, d9, rfl, o, b⟩
      have s9 := b.size
      replace BW := hide (below_keep BW.out b)
      replace R0 := hide (R0.out.keep b)
      replace R1 := hide (R1.out.keep b)
      replace XA := hide (XA.out.keep b)
      replace XB := hide (XB.out.keep b)
      have XC := hide (OwB.of o b.size)
      clear b C9
      clear o
      have C10 := hide (eqCondS_any A6 A9 _ _ d6 d9 z0 z0 _ _ w9 rfl rfl XA.out.rd XC.out.rd (by omega) (by omega) XA.out.top XC.out.top)
      rw [decide_eq_true rfl] at C10
      go_wp2_with fail
      refine C10.out.mono ?_
      rintro e w10 ⟨rfl, b⟩
      have s10 := b.size
      replace BW := hide (below_keep BW.out b)
      replace R0 := hide (R0.out.keep b)
      replace R1 := hide (R1.out.keep b)
      replace XA := hide (XA.out.keep b)
      replace XB := hide (XB.out.keep b)
      replace XC := hide (XC.out.keep b)
      clear b C10
      clear XC
      have C11 := hide (toTagS_any a1 len1 cap1 z1 _ w10 HZ1.out R1.out.rd (by omega) R1.out.le)
      go_wp2_with fail
      refine C11.out.mono ?_
      rintro e w11 ⟨A11, d11, rfl, o, b⟩
      have s11 := b.size
      replace BW := hide (below_keep BW.out b)
      replace R0 := hide (R0.out.keep b)
      replace R1 := hide (R1.out.keep b)
      replace XA := hide (XA.out.keep b)
      replace XB := hide (XB.out.keep b)
      have XD := hide (OwB.of o b.size)
      clear b C11
      clear o
      have C12 := hide (eqTagS_any A7 A11 _ _ d7 d11 z1 z1 _ _ w11 rfl rfl XB.out.rd XD.out.rd (by omega) (by omega) XB.out.top XD.out.top)
      rw [decide_eq_true rfl] at C12
      go_wp2_with fail
      refine C12.out.mono ?_
      rintro e w12 ⟨rfl, b⟩
      have s12 := b.size
      replace BW := hide (below_keep BW.out b)
      replace R0 := hide (R0.out.keep b)
      replace R1 := hide (R1.out.keep b)
      replace XA := hide (XA.out.keep b)
      replace XB := hide (XB.out.keep b)
      replace XD := hide (XD.out.keep b)
      clear b C12
      go_wp2
      go_ret
      exact ⟨rfl, BW.out⟩

end Go.Proofs.Ytgedlpdjnnbolaa
