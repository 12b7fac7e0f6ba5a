/-
  WALKS: the exact law of BlockCut.
-/
import Derived.Test.YthhaekeiepphbaaMark
import Derived.Test.YthhaekeiepphbaaCut
namespace Go.Proofs.Ythhaekeiepphbaa
set_option linter.unusedVariables false
open Go.RowKit

theorem cutB_len (l : List PB.Row) (lo hi : Int) : (cutB l lo hi).length ≤ l.length := by
  unfold cutB
  split
  · exact List.length_filter_le _ _
  · exact Nat.zero_le _

set_option maxRecDepth 100000 in
set_option maxHeartbeats 3200000 in
theorem fnExactBlockCut_walk (w : World) (a0 : Option Addr) (len0 cap0 : Nat) (z0 : List PB.Row) (hz0 : z0.length = len0) (rd0 : Rd w w.heap.size 2 a0 len0 (rows z0)) (lc0 : len0 ≤ cap0) (cm0 : cap0 ≤ maxLen) (lo : Int) (hlo : (Lit.int .i64 lo).wf = true) (hi : Int) (hhi : (Lit.int .i64 hi).wf = true) :
    Calls Try.prog 6 #[.slice a0 len0 cap0, .int .i64 lo, .int .i64 hi] w fun e w' => e = .returned (.bool true) ∧ Below w.heap.size w w' := by
  have HZ := hide hz0
  have HR := hide rd0
  clear rd0 hz0 hlo hhi
  unfold maxLen at cm0
  by_cases hl : 1048576 < len0
  · have c0 := hide (szRowS_not a0 len0 cap0 1048576 w (by omega) (by omega) (by omega))
    go_enter Try.func6, Try.ntmps6
    go_wp2_with fail
    refine c0.out.mono ?_
    rintro e w' ⟨rfl, rfl⟩
    go_wp2
    go_ret
    exact ⟨rfl, Below.refl _ _⟩
  · have c0 := hide (szRowS_fits a0 len0 cap0 1048576 w (by omega) (by omega))
    have hlz : z0.length ≤ 1048576 := by rw [HZ.out]; omega
    obtain ⟨L, hL⟩ : ∃ L, L = cutB z0 lo hi := ⟨_, rfl⟩
    have hLL : L.length ≤ 1048576 := by rw [hL]; exact Nat.le_trans (cutB_len _ _ _) hlz
    have HL := hide hL
    clear hL
    go_enter Try.func6, Try.ntmps6
    go_wp2_with fail
    refine c0.out.mono ?_
    rintro e w' ⟨rfl, rfl⟩
    clear c0
    have BW := hide (Below.refl w.heap.size w)
    have R0 := hide ((⟨HR.out, Nat.le_refl _⟩ : RdB w w.heap.size 2 a0 len0 (rows z0)))
    clear HR
    have C1 := hide (toRowS_any a0 len0 cap0 z0 _ w HZ.out R0.out.rd (by omega) R0.out.le)
    go_wp2_with fail
    refine C1.out.mono ?_
    rintro e w1 ⟨A1, d1, rfl, o, b⟩
    have s1 := b.size
    replace BW := hide (below_keep BW.out b)
    replace R0 := hide (R0.out.keep b)
    have X1 := hide (OwB.of o b.size)
    clear b C1
    clear o
    have C2 := hide (specBlockCut A1 z0.length d1 z0 lo hi _ w1 rfl X1.out.rd (by omega) X1.out.top)
    rw [← HL.out] at C2
    go_wp2_with fail
    refine C2.out.mono ?_
    rintro e w2 ⟨A2, d2, rfl, o, b⟩
    have s2 := b.size
    replace BW := hide (below_keep BW.out b)
    replace R0 := hide (R0.out.keep b)
    replace X1 := hide (X1.out.keep b)
    have WT := hide (OwB.of o b.size)
    clear b C2
    clear o
    clear X1
    have C3 := hide (toRowS_any a0 len0 cap0 z0 _ w2 HZ.out R0.out.rd (by omega) R0.out.le)
    go_wp2_with fail
    refine C3.out.mono ?_
    rintro e w3 ⟨A3, d3, rfl, o, b⟩
    have s3 := b.size
    replace BW := hide (below_keep BW.out b)
    replace R0 := hide (R0.out.keep b)
    replace WT := hide (WT.out.keep b)
    have X3 := hide (OwB.of o b.size)
    clear b C3
    clear o
    have C4 := hide (implBlockCut A3 z0.length d3 z0 lo hi _ w3 rfl X3.out.rd (by omega) X3.out.top)
    rw [← HL.out] at C4
    go_wp2_with fail
    refine C4.out.mono ?_
    rintro e w4 ⟨A4, d4, rfl, o, b⟩
    have s4 := b.size
    replace BW := hide (below_keep BW.out b)
    replace R0 := hide (R0.out.keep b)
    replace WT := hide (WT.out.keep b)
    replace X3 := hide (X3.out.keep b)
    have GT := hide (OwB.of o b.size)
    clear b C4
    clear o
    have C5 := hide (eqRowS_any A4 A2 _ _ d4 d2 L L _ _ w4 rfl rfl GT.out.rd WT.out.rd (by omega) (by omega) GT.out.top WT.out.top)
    rw [decide_eq_true rfl] at C5
    go_wp2_with fail
    refine C5.out.mono ?_
    rintro e w5 ⟨rfl, b⟩
    have s5 := b.size
    replace BW := hide (below_keep BW.out b)
    replace R0 := hide (R0.out.keep b)
    replace WT := hide (WT.out.keep b)
    replace X3 := hide (X3.out.keep b)
    replace GT := hide (GT.out.keep b)
    clear b C5
    have C6 := hide (toRowS_any a0 len0 cap0 z0 _ w5 HZ.out R0.out.rd (by omega) R0.out.le)
    go_wp2_with fail
    refine C6.out.mono ?_
    rintro e w6 ⟨A6, d6, rfl, o, b⟩
    have s6 := b.size
    replace BW := hide (below_keep BW.out b)
    replace R0 := hide (R0.out.keep b)
    replace WT := hide (WT.out.keep b)
    replace X3 := hide (X3.out.keep b)
    replace GT := hide (GT.out.keep b)
    have X6 := hide (OwB.of o b.size)
    clear b C6
    clear o
    have C7 := hide (eqRowS_any A3 A6 _ _ d3 d6 z0 z0 _ _ w6 rfl rfl X3.out.rd X6.out.rd (by omega) (by omega) X3.out.top X6.out.top)
    rw [decide_eq_true rfl] at C7
    go_wp2_with fail
    refine C7.out.mono ?_
    rintro e w7 ⟨rfl, b⟩
    have s7 := b.size
    replace BW := hide (below_keep BW.out b)
    replace R0 := hide (R0.out.keep b)
    replace WT := hide (WT.out.keep b)
    replace X3 := hide (X3.out.keep b)
    replace GT := hide (GT.out.keep b)
    replace X6 := hide (X6.out.keep b)
    clear b C7
    clear X6
    have C8 := hide (markRowS_any A3 z0.length d3 _ _ z0 1 w7 rfl X3.out (by omega) (by omega))
    go_wp2_with fail
    refine C8.out.mono ?_
    rintro e w8 ⟨rfl, _, t⟩
    have s8 := t.size
    replace BW := hide (below_touch BW.out t (by omega) (by omega))
    replace R0 := hide (R0.out.touch t (by omega))
    replace WT := hide (WT.out.touch t (by omega))
    replace GT := hide (GT.out.touch t (by omega))
    clear t C8
    clear X3
    have C9 := hide (eqRowS_any A4 A2 _ _ d4 d2 L L _ _ w8 rfl rfl GT.out.rd WT.out.rd (by omega) (by omega) GT.out.top WT.out.top)
    rw [decide_eq_true rfl] at C9
    go_wp2_with fail
    refine C9.out.mono ?_
    rintro e w9 ⟨rfl, b⟩
    have s9 := b.size
    replace BW := hide (below_keep BW.out b)
    replace R0 := hide (R0.out.keep b)
    replace WT := hide (WT.out.keep b)
    replace GT := hide (GT.out.keep b)
    clear b C9
    have C10 := hide (markRowS_any A4 L.length d4 _ _ L 1 w9 rfl GT.out (by omega) (by omega))
    go_wp2_with fail
    refine C10.out.mono ?_
    rintro e w10 ⟨rfl, o, t⟩
    have s10 := t.size
    replace BW := hide (below_touch BW.out t (by omega) (by omega))
    replace R0 := hide (R0.out.touch t (by omega))
    replace WT := hide (WT.out.touch t (by omega))
    have G2 := hide (o)
    clear t C10
    clear o GT
    have C11 := hide (heldRowS_any A4 L.length d4 _ _ 1 w10 G2.out (by omega) (by omega))
    go_wp2_with fail
    refine C11.out.mono ?_
    rintro e w11 ⟨rfl, rfl⟩
    clear C11
    have C12 := hide (toRowS_any a0 len0 cap0 z0 _ w10 HZ.out R0.out.rd (by omega) R0.out.le)
    go_wp2_with fail
    refine C12.out.mono ?_
    rintro e w12 ⟨A12, d12, rfl, o, b⟩
    have s12 := b.size
    replace BW := hide (below_keep BW.out b)
    replace R0 := hide (R0.out.keep b)
    replace WT := hide (WT.out.keep b)
    replace G2 := hide (G2.out.keep b)
    have X12 := hide (OwB.of o b.size)
    clear b C12
    clear o
    have C13 := hide (implBlockCut A12 z0.length d12 z0 lo hi _ w12 rfl X12.out.rd (by omega) X12.out.top)
    rw [← HL.out] at C13
    go_wp2_with fail
    refine C13.out.mono ?_
    rintro e w13 ⟨AA, dd, rfl, o, b⟩
    have s13 := b.size
    replace BW := hide (below_keep BW.out b)
    replace R0 := hide (R0.out.keep b)
    replace WT := hide (WT.out.keep b)
    replace G2 := hide (G2.out.keep b)
    replace X12 := hide (X12.out.keep b)
    have GG := hide (OwB.of o b.size)
    clear b C13
    clear o
    clear X12
    have C14 := hide (eqRowS_any AA A2 _ _ dd d2 L L _ _ w13 rfl rfl GG.out.rd WT.out.rd (by omega) (by omega) GG.out.top WT.out.top)
    rw [decide_eq_true rfl] at C14
    go_wp2_with fail
    refine C14.out.mono ?_
    rintro e w14 ⟨rfl, b⟩
    have s14 := b.size
    replace BW := hide (below_keep BW.out b)
    replace R0 := hide (R0.out.keep b)
    replace WT := hide (WT.out.keep b)
    replace G2 := hide (G2.out.keep b)
    replace GG := hide (GG.out.keep b)
    clear b C14
    clear GG
    have C15 := hide (heldRowS_any A4 L.length d4 _ _ 1 w14 G2.out (by omega) (by omega))
    go_wp2_with fail
    refine C15.out.mono ?_
    rintro e w15 ⟨rfl, rfl⟩
    clear C15
    go_wp2
    go_ret
    exact ⟨rfl, BW.out⟩

end Go.Proofs.Ythhaekeiepphbaa
