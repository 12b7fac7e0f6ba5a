/-
  WALKS: the exact law of BlockMerge.
-/
import Derived.Test.YtednahmfjpaehaaMark
import Derived.Test.YtednahmfjpaehaaBlockMerge
namespace Go.Proofs.Ytednahmfjpaehaa
set_option linter.unusedVariables false
open Go.RowKit

theorem calls_pair {P : Program} {f : FuncId} {args : Array Value} {w : World} {p : List PB.Row × Bool} {L : List PB.Row} {K : Bool} (h : Calls P f args w (RowLB w p)) (hp : p = (L, K)) :
    Calls P f args w fun e w' => ∃ A c, e = .returned (.tuple #[.slice A L.length c, .bool K]) ∧ w'.ownsRow w.heap.size 30 2 (.slice A L.length c) L.length (rows L) ∧ Below w.heap.size w w' := by
  subst hp; exact h

set_option maxRecDepth 100000 in
set_option maxHeartbeats 6400000 in
theorem fnExactBlockMerge_walk (w : World) (a0 : Option Addr) (len0 cap0 : Nat) (z0 : List PB.Row) (hz0 : z0.length = len0) (rd0 : Rd w w.heap.size 2 a0 len0 (rows z0)) (lc0 : len0 ≤ cap0) (cm0 : cap0 ≤ maxLen)
    (a1 : Option Addr) (len1 cap1 : Nat) (z1 : List PB.Row) (hz1 : z1.length = len1) (rd1 : Rd w w.heap.size 2 a1 len1 (rows z1)) (lc1 : len1 ≤ cap1) (cm1 : cap1 ≤ maxLen) :
    Calls Try.prog 5 #[.slice a0 len0 cap0, .slice a1 len1 cap1] w fun e w' => e = .returned (.bool true) ∧ Below w.heap.size w w' := by
  have HZ0 := hide hz0
  have HR0 := hide rd0
  have HZ1 := hide hz1
  have HR1 := hide rd1
  clear rd0 hz0 rd1 hz1
  unfold maxLen at cm0 cm1
  by_cases hl : 1048576 < len0
  · have c0 := hide (szRowS_not a0 len0 cap0 1048576 w (by omega) (by omega) (by omega))
    go_enter Try.func5, Try.ntmps5
    go_wp2_with fail
    refine c0.out.mono ?_
    rintro e w' ⟨rfl, rfl⟩
    go_wp2
    go_ret
    exact ⟨rfl, Below.refl _ _⟩
  have c0 := hide (szRowS_fits a0 len0 cap0 1048576 w (by omega) (by omega))
  have hnn : ¬ ((1048576 : Int) - (len0 : Int) < 0) := by omega
  by_cases hl1 : 1048576 < len0 + len1
  · have c1 := hide (szRowS_not a1 len1 cap1 (1048576 - (len0 : Int)) w (by omega) (by omega) (by omega))
    go_enter Try.func5, Try.ntmps5
    go_wp2_with fail
    refine c0.out.mono ?_
    rintro e w' ⟨rfl, rfl⟩
    go_wp2_with fail
    refine c1.out.mono ?_
    rintro e w' ⟨rfl, rfl⟩
    go_wp2
    go_ret
    exact ⟨rfl, Below.refl _ _⟩
  · have c1 := hide (szRowS_fits a1 len1 cap1 (1048576 - (len0 : Int)) w (by omega) (by omega))
    have hnn1 : ¬ ((1048576 : Int) - (len0 : Int) - (len1 : Int) < 0) := by omega
    have hlz0 : z0.length ≤ 1048576 := by rw [HZ0.out]; omega
    have hlz1 : z1.length ≤ 1048576 := by rw [HZ1.out]; omega
    obtain ⟨L, K, hP⟩ : ∃ L K, mergeO z0 z1 = (L, K) := ⟨_, _, rfl⟩
    have hLL : L.length ≤ 24 := by have := mergeO_len z0 z1; rw [hP] at this; exact this
    have HP := hide hP
    clear hP
    go_enter Try.func5, Try.ntmps5
    go_wp2_with fail
    refine c0.out.mono ?_
    rintro e w' ⟨rfl, rfl⟩
    go_wp2_with fail
    refine c1.out.mono ?_
    rintro e w' ⟨rfl, rfl⟩
    clear c0 c1
    have BW := hide (Below.refl w.heap.size w)
    have R0 := hide ((⟨HR0.out, Nat.le_refl _⟩ : RdB w w.heap.size 2 a0 len0 (rows z0)))
    have R1 := hide ((⟨HR1.out, Nat.le_refl _⟩ : RdB w w.heap.size 2 a1 len1 (rows z1)))
    clear HR0 HR1
    have C1 := hide (toRowS_any a0 len0 cap0 z0 _ w HZ0.out R0.out.rd (by omega) R0.out.le)
    go_wp2_with fail
    refine C1.out.mono ?_
    rintro e w1 ⟨A1, d1, rfl, o, b⟩
    have s1 := b.size
    replace BW := hide (below_keep BW.out b)
    replace R0 := hide (R0.out.keep b)
    replace R1 := hide (R1.out.keep b)
    have X1 := hide (OwB.of o b.size)
    clear b C1
    clear o
    have C2 := hide (toRowS_any a1 len1 cap1 z1 _ w1 HZ1.out R1.out.rd (by omega) R1.out.le)
    go_wp2_with fail
    refine C2.out.mono ?_
    rintro e w2 ⟨A2, d2, rfl, o, b⟩
    have s2 := b.size
    replace BW := hide (below_keep BW.out b)
    replace R0 := hide (R0.out.keep b)
    replace R1 := hide (R1.out.keep b)
    replace X1 := hide (X1.out.keep b)
    have X2 := hide (OwB.of o b.size)
    clear b C2
    clear o
    have C3 := hide (calls_pair (specBlockMerge A1 A2 _ _ d1 d2 z0 z1 _ _ w2 rfl rfl X1.out.rd X2.out.rd (by omega) (by omega) X1.out.top X2.out.top) HP.out)
    go_wp2_with fail
    refine C3.out.mono ?_
    rintro e w3 ⟨A3, d3, rfl, o, b⟩
    have s3 := b.size
    replace BW := hide (below_keep BW.out b)
    replace R0 := hide (R0.out.keep b)
    replace R1 := hide (R1.out.keep b)
    replace X1 := hide (X1.out.keep b)
    replace X2 := hide (X2.out.keep b)
    have WT := hide (OwB.of o b.size)
    clear b C3
    clear o
    clear X1 X2
    have C4 := hide (toRowS_any a0 len0 cap0 z0 _ w3 HZ0.out R0.out.rd (by omega) R0.out.le)
    go_wp2_with fail
    refine C4.out.mono ?_
    rintro e w4 ⟨A4, d4, rfl, o, b⟩
    have s4 := b.size
    replace BW := hide (below_keep BW.out b)
    replace R0 := hide (R0.out.keep b)
    replace R1 := hide (R1.out.keep b)
    replace WT := hide (WT.out.keep b)
    have XA := hide (OwB.of o b.size)
    clear b C4
    clear o
    have C5 := hide (toRowS_any a1 len1 cap1 z1 _ w4 HZ1.out R1.out.rd (by omega) R1.out.le)
    go_wp2_with fail
    refine C5.out.mono ?_
    rintro e w5 ⟨A5, d5, rfl, o, b⟩
    have s5 := b.size
    replace BW := hide (below_keep BW.out b)
    replace R0 := hide (R0.out.keep b)
    replace R1 := hide (R1.out.keep b)
    replace WT := hide (WT.out.keep b)
    replace XA := hide (XA.out.keep b)
    have XB := hide (OwB.of o b.size)
    clear b C5
    clear o
    have C6 := hide (calls_pair (implBlockMerge A4 A5 _ _ d4 d5 z0 z1 _ _ w5 rfl rfl XA.out.rd XB.out.rd (by omega) (by omega) XA.out.top XB.out.top) HP.out)
    go_wp2_with fail
    refine C6.out.mono ?_
    rintro e w6 ⟨A6, d6, rfl, o, b⟩
    have s6 := b.size
    replace BW := hide (below_keep BW.out b)
    replace R0 := hide (R0.out.keep b)
    replace R1 := hide (R1.out.keep b)
    replace WT := hide (WT.out.keep b)
    replace XA := hide (XA.out.keep b)
    replace XB := hide (XB.out.keep b)
    have GT := hide (OwB.of o b.size)
    clear b C6
    clear o
    have C7 := hide (eqRowS_any A6 A3 _ _ d6 d3 L L _ _ w6 rfl rfl GT.out.rd WT.out.rd (by omega) (by omega) GT.out.top WT.out.top)
    rw [decide_eq_true rfl] at C7
    go_wp2_with fail
    refine C7.out.mono ?_
    rintro e w7 ⟨rfl, b⟩
    have s7 := b.size
    replace BW := hide (below_keep BW.out b)
    replace R0 := hide (R0.out.keep b)
    replace R1 := hide (R1.out.keep b)
    replace WT := hide (WT.out.keep b)
    replace XA := hide (XA.out.keep b)
    replace XB := hide (XB.out.keep b)
    replace GT := hide (GT.out.keep b)
    clear b C7
    have C8 := hide (toRowS_any a0 len0 cap0 z0 _ w7 HZ0.out R0.out.rd (by omega) R0.out.le)
    go_wp2_with fail
    refine C8.out.mono ?_
    rintro e w8 ⟨A8, d8, rfl, o, b⟩
    have s8 := b.size
    replace BW := hide (below_keep BW.out b)
    replace R0 := hide (R0.out.keep b)
    replace R1 := hide (R1.out.keep b)
    replace WT := hide (WT.out.keep b)
    replace XA := hide (XA.out.keep b)
    replace XB := hide (XB.out.keep b)
    replace GT := hide (GT.out.keep b)
    have XC := hide (OwB.of o b.size)
    clear b C8
    clear o
    have C9 := hide (eqRowS_any A4 A8 _ _ d4 d8 z0 z0 _ _ w8 rfl rfl XA.out.rd XC.out.rd (by omega) (by omega) XA.out.top XC.out.top)
    rw [decide_eq_true rfl] at C9
    go_wp2_with fail
    refine C9.out.mono ?_
    rintro e w9 ⟨rfl, b⟩
    have s9 := b.size
    replace BW := hide (below_keep BW.out b)
    replace R0 := hide (R0.out.keep b)
    replace R1 := hide (R1.out.keep b)
    replace WT := hide (WT.out.keep b)
    replace XA := hide (XA.out.keep b)
    replace XB := hide (XB.out.keep b)
    replace GT := hide (GT.out.keep b)
    replace XC := hide (XC.out.keep b)
    clear b C9
    clear XC
    have C10 := hide (toRowS_any a1 len1 cap1 z1 _ w9 HZ1.out R1.out.rd (by omega) R1.out.le)
    go_wp2_with fail
    refine C10.out.mono ?_
    rintro e w10 ⟨A10, d10, rfl, o, b⟩
    have s10 := b.size
    replace BW := hide (below_keep BW.out b)
    replace R0 := hide (R0.out.keep b)
    replace R1 := hide (R1.out.keep b)
    replace WT := hide (WT.out.keep b)
    replace XA := hide (XA.out.keep b)
    replace XB := hide (XB.out.keep b)
    replace GT := hide (GT.out.keep b)
    have XC := hide (OwB.of o b.size)
    clear b C10
    clear o
    have C11 := hide (eqRowS_any A5 A10 _ _ d5 d10 z1 z1 _ _ w10 rfl rfl XB.out.rd XC.out.rd (by omega) (by omega) XB.out.top XC.out.top)
    rw [decide_eq_true rfl] at C11
    go_wp2_with fail
    refine C11.out.mono ?_
    rintro e w11 ⟨rfl, b⟩
    have s11 := b.size
    replace BW := hide (below_keep BW.out b)
    replace R0 := hide (R0.out.keep b)
    replace R1 := hide (R1.out.keep b)
    replace WT := hide (WT.out.keep b)
    replace XA := hide (XA.out.keep b)
    replace XB := hide (XB.out.keep b)
    replace GT := hide (GT.out.keep b)
    replace XC := hide (XC.out.keep b)
    clear b C11
    clear XC
    have C12 := hide (markRowS_any A4 z0.length d4 _ _ z0 1 w11 rfl XA.out (by omega) (by omega))
    go_wp2_with fail
    refine C12.out.mono ?_
    rintro e w12 ⟨rfl, _, t⟩
    have s12 := t.size
    replace BW := hide (below_touch BW.out t (by omega) (by omega))
    replace R0 := hide (R0.out.touch t (by omega))
    replace R1 := hide (R1.out.touch t (by omega))
    replace WT := hide (WT.out.touch t (by omega))
    replace XB := hide (XB.out.touch t (by omega))
    replace GT := hide (GT.out.touch t (by omega))
    clear t C12
    clear XA
    have C13 := hide (markRowS_any A5 z1.length d5 _ _ z1 (1 + 2 * z0.length) w12 rfl XB.out (by omega) (by omega))
    go_wp2_with fail
    refine C13.out.mono ?_
    rintro e w13 ⟨rfl, _, t⟩
    have s13 := t.size
    replace BW := hide (below_touch BW.out t (by omega) (by omega))
    replace R0 := hide (R0.out.touch t (by omega))
    replace R1 := hide (R1.out.touch t (by omega))
    replace WT := hide (WT.out.touch t (by omega))
    replace GT := hide (GT.out.touch t (by omega))
    clear t C13
    clear XB
    have C14 := hide (eqRowS_any A6 A3 _ _ d6 d3 L L _ _ w13 rfl rfl GT.out.rd WT.out.rd (by omega) (by omega) GT.out.top WT.out.top)
    rw [decide_eq_true rfl] at C14
    go_wp2_with fail
    refine C14.out.mono ?_
    rintro e w14 ⟨rfl, b⟩
    have s14 := b.size
    replace BW := hide (below_keep BW.out b)
    replace R0 := hide (R0.out.keep b)
    replace R1 := hide (R1.out.keep b)
    replace WT := hide (WT.out.keep b)
    replace GT := hide (GT.out.keep b)
    clear b C14
    have C15 := hide (markRowS_any A6 L.length d6 _ _ L 1 w14 rfl GT.out (by omega) (by omega))
    go_wp2_with fail
    refine C15.out.mono ?_
    rintro e w15 ⟨rfl, o, t⟩
    have s15 := t.size
    replace BW := hide (below_touch BW.out t (by omega) (by omega))
    replace R0 := hide (R0.out.touch t (by omega))
    replace R1 := hide (R1.out.touch t (by omega))
    replace WT := hide (WT.out.touch t (by omega))
    have G2 := hide (o)
    clear t C15
    clear o GT
    have C16 := hide (heldRowS_any A6 L.length d6 _ _ 1 w15 G2.out (by omega) (by omega))
    go_wp2_with fail
    refine C16.out.mono ?_
    rintro e w16 ⟨rfl, rfl⟩
    clear C16
    have C17 := hide (toRowS_any a0 len0 cap0 z0 _ w15 HZ0.out R0.out.rd (by omega) R0.out.le)
    go_wp2_with fail
    refine C17.out.mono ?_
    rintro e w17 ⟨A17, d17, rfl, o, b⟩
    have s17 := b.size
    replace BW := hide (below_keep BW.out b)
    replace R0 := hide (R0.out.keep b)
    replace R1 := hide (R1.out.keep b)
    replace WT := hide (WT.out.keep b)
    replace G2 := hide (G2.out.keep b)
    have XC := hide (OwB.of o b.size)
    clear b C17
    clear o
    have C18 := hide (toRowS_any a1 len1 cap1 z1 _ w17 HZ1.out R1.out.rd (by omega) R1.out.le)
    go_wp2_with fail
    refine C18.out.mono ?_
    rintro e w18 ⟨A18, d18, rfl, o, b⟩
    have s18 := b.size
    replace BW := hide (below_keep BW.out b)
    replace R0 := hide (R0.out.keep b)
    replace R1 := hide (R1.out.keep b)
    replace WT := hide (WT.out.keep b)
    replace G2 := hide (G2.out.keep b)
    replace XC := hide (XC.out.keep b)
    have XD := hide (OwB.of o b.size)
    clear b C18
    clear o
    have C19 := hide (calls_pair (implBlockMerge A17 A18 _ _ d17 d18 z0 z1 _ _ w18 rfl rfl XC.out.rd XD.out.rd (by omega) (by omega) XC.out.top XD.out.top) HP.out)
    go_wp2_with fail
    refine C19.out.mono ?_
    rintro e w19 ⟨A19, d19, rfl, o, b⟩
    have s19 := b.size
    replace BW := hide (below_keep BW.out b)
    replace R0 := hide (R0.out.keep b)
    replace R1 := hide (R1.out.keep b)
    replace WT := hide (WT.out.keep b)
    replace G2 := hide (G2.out.keep b)
    replace XC := hide (XC.out.keep b)
    replace XD := hide (XD.out.keep b)
    have GG := hide (OwB.of o b.size)
    clear b C19
    clear o
    clear XC XD
    have C20 := hide (eqRowS_any A19 A3 _ _ d19 d3 L L _ _ w19 rfl rfl GG.out.rd WT.out.rd (by omega) (by omega) GG.out.top WT.out.top)
    rw [decide_eq_true rfl] at C20
    go_wp2_with fail
    refine C20.out.mono ?_
    rintro e w20 ⟨rfl, b⟩
    have s20 := b.size
    replace BW := hide (below_keep BW.out b)
    replace R0 := hide (R0.out.keep b)
    replace R1 := hide (R1.out.keep b)
    replace WT := hide (WT.out.keep b)
    replace G2 := hide (G2.out.keep b)
    replace GG := hide (GG.out.keep b)
    clear b C20
    clear GG
    have C21 := hide (heldRowS_any A6 L.length d6 _ _ 1 w20 G2.out (by omega) (by omega))
    go_wp2_with fail
    refine C21.out.mono ?_
    rintro e w21 ⟨rfl, rfl⟩
    clear C21
    go_wp2
    go_ret
    exact ⟨rfl, BW.out⟩

end Go.Proofs.Ytednahmfjpaehaa
