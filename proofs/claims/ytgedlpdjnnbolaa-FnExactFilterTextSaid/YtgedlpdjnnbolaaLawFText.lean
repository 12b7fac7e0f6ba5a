/-
  WALKS: the exact law of FilterText.
-/
import Derived.Test.YtgedlpdjnnbolaaConds1
import Derived.Test.YtgedlpdjnnbolaaFText
import Derived.Test.YtgedlpdjnnbolaaTail
namespace Go.Proofs.Ytgedlpdjnnbolaa
set_option linter.unusedVariables false
open Go.RowKit

set_option maxRecDepth 100000 in
set_option maxHeartbeats 3200000 in
theorem fnExactFilterText_walk (w : World) (a0 : Option Addr) (len0 cap0 : Nat) (z0 : List PT.Cond) (hz0 : z0.length = len0) (rd0 : Rd w w.heap.size 3 a0 len0 (cnds z0)) (sz0 : SizedC z0) (lc0 : len0 ≤ cap0) (cm0 : cap0 ≤ maxLen) :
    Calls Try.prog 12 #[.slice a0 len0 cap0] w fun e w' => e = .returned (.bool true) ∧ Below w.heap.size w w' := by
  have HZ := hide hz0
  have HR := hide rd0
  unfold maxLen at cm0
  have c0 := hide (szCondS_any a0 len0 cap0 z0 w.heap.size 1048576 w hz0 rd0 (Nat.le_refl _) sz0 (by omega) (by omega))
  have hzl := hide (szTC_len (left := 1048576) (l := z0))
  clear rd0 hz0 sz0
  generalize szTC 1048576 z0 = lf at c0 hzl
  by_cases hl : lf < 0
  · go_enter Try.func12, Try.ntmps12
    go_wp2_with fail
    refine c0.out.mono ?_
    rintro e w' ⟨rfl, b⟩
    go_wp2
    go_ret
    exact ⟨rfl, b⟩
  · have hlz : z0.length ≤ 1048576 := by have := hzl.out (by omega); omega
    have hln : len0 ≤ 1048576 := by rw [← HZ.out]; exact hlz
    go_enter Try.func12, Try.ntmps12
    have BW := hide (Below.refl w.heap.size w)
    have R0 := hide ((⟨HR.out, Nat.le_refl _⟩ : RdB w w.heap.size 3 a0 len0 (cnds z0)))
    clear HR hzl
    have C1 := c0
    go_wp2_with fail
    refine C1.out.mono ?_
    rintro e w1 ⟨rfl, b⟩
    have s1 := b.size
    replace BW := hide (below_keep BW.out b)
    replace R0 := hide (R0.out.keep b)
    clear b C1
    have C2 := hide (toCondS_any a0 len0 cap0 z0 _ w1 HZ.out R0.out.rd (by omega) R0.out.le)
    go_wp2_with fail
    refine C2.out.mono ?_
    rintro e w2 ⟨A2, d2, rfl, o, b⟩
    have s2 := b.size
    replace BW := hide (below_keep BW.out b)
    replace R0 := hide (R0.out.keep b)
    have X1 := hide (OwB.of o b.size)
    clear b C2
    clear o
    have C3 := hide (specFilterText A2 _ d2 z0 _ w2 rfl X1.out.rd (by omega) X1.out.top)
    go_wp2_with fail
    refine C3.out.mono ?_
    rintro e w3 ⟨rfl, b⟩
    have s3 := b.size
    replace BW := hide (below_keep BW.out b)
    replace R0 := hide (R0.out.keep b)
    replace X1 := hide (X1.out.keep b)
    clear b C3
    clear X1
    have C4 := hide (toCondS_any a0 len0 cap0 z0 _ w3 HZ.out R0.out.rd (by omega) R0.out.le)
    go_wp2_with fail
    refine C4.out.mono ?_
    rintro e w4 ⟨A4, d4, rfl, o, b⟩
    have s4 := b.size
    replace BW := hide (below_keep BW.out b)
    replace R0 := hide (R0.out.keep b)
    have X2 := hide (OwB.of o b.size)
    clear b C4
    clear o
    have C5 := hide (implFilterText A4 _ d4 z0 _ w4 rfl X2.out.rd (by omega) X2.out.top)
    go_wp2_with fail
    refine C5.out.mono ?_
    rintro e w5 ⟨rfl, b⟩
    have s5 := b.size
    replace BW := hide (below_keep BW.out b)
    replace R0 := hide (R0.out.keep b)
    replace X2 := hide (X2.out.keep b)
    clear b C5
    have C6 := hide (toCondS_any a0 len0 cap0 z0 _ w5 HZ.out R0.out.rd (by omega) R0.out.le)
    go_wp2_with fail
    refine C6.out.mono ?_
    rintro e w6 ⟨A6, d6, rfl, o, b⟩
    have s6 := b.size
    replace BW := hide (below_keep BW.out b)
    replace R0 := hide (R0.out.keep b)
    replace X2 := hide (X2.out.keep b)
    have X3 := hide (OwB.of o b.size)
    clear b C6
    clear o
    have C7 := hide (eqCondS_any A4 A6 _ _ d4 d6 z0 z0 _ _ w6 rfl rfl X2.out.rd X3.out.rd (by omega) (by omega) X2.out.top X3.out.top)
    rw [decide_eq_true rfl] at C7
    go_wp2_with fail
    refine C7.out.mono ?_
    rintro e w7 ⟨rfl, b⟩
    have s7 := b.size
    replace BW := hide (below_keep BW.out b)
    replace R0 := hide (R0.out.keep b)
    replace X2 := hide (X2.out.keep b)
    replace X3 := hide (X3.out.keep b)
    clear b C7
    go_wp2
    go_ret
    exact ⟨rfl, BW.out⟩

end Go.Proofs.Ytgedlpdjnnbolaa
