/-
  WALKS: the exact laws of BlockPack and BlockUnpack.
-/
import Derived.Test.YtlalldjlgaldeaaBlockUnpack
import Derived.Test.YtlalldjlgaldeaaMark
namespace Go.Proofs.Ytlalldjlgaldeaa
set_option linter.unusedVariables false
open Go.RowKit

theorem calls_pairR {P : Program} {f : FuncId} {args : Array Value} {w : World} {p : List PB.Row × Bool} {L : List PB.Row} {K : Bool} (h : Calls P f args w (RowLU w p)) (hp : p = (L, K)) :
    Calls P f args w fun e w' => ∃ A c, e = .returned (.tuple #[.slice A L.length c, .bool K]) ∧ w'.ownsRow w.heap.size 32 2 (.slice A L.length c) L.length (rows L) ∧ Below w.heap.size w w' := by
  subst hp; exact h

set_option maxRecDepth 100000 in
set_option maxHeartbeats 3200000 in
theorem fnExactBlockPack_walk (w : World) (a0 : Option Addr) (len0 cap0 : Nat) (z0 : List PB.Row) (hz0 : z0.length = len0) (rd0 : Rd w w.heap.size 2 a0 len0 (rows z0)) (lc0 : len0 ≤ cap0) (cm0 : cap0 ≤ maxLen) :
    Calls Try.prog 3 #[.slice a0 len0 cap0] w fun e w' => e = .returned (.bool true) ∧ Below w.heap.size w w' := by
  have HZ := hide hz0
  have HR := hide rd0
  clear rd0 hz0
  unfold maxLen at cm0
  by_cases hl : 1048576 < len0
  · have c0 := hide (szRowS_not a0 len0 cap0 1048576 w (by omega) (by omega) (by omega))
    go_enter Try.func3, Try.ntmps3
    go_wp2_with fail
    refine c0.out.mono ?_
    rintro e w' ⟨rfl, rfl⟩
    go_wp2
    go_ret
    exact ⟨rfl, Below.refl _ _⟩
  · have c0 := hide (szRowS_fits a0 len0 cap0 1048576 w (by omega) (by omega))
    have hlz : z0.length ≤ 1048576 := by rw [HZ.out]; omega
    obtain ⟨X, hX⟩ : ∃ X, X = bpk z0 := ⟨_, rfl⟩
    have HX := hide hX
    have heq : ((S X).toList == (S X).toList) = true := beq_self_eq_true _
    clear hX
    go_enter Try.func3, Try.ntmps3
    go_wp2_with fail
    refine c0.out.mono ?_
    rintro e w' ⟨rfl, rfl⟩
    clear c0
    have BW := hide (Below.refl w.heap.size w)
    have R0 := hide ((⟨HR.out, Nat.le_refl _⟩ : RdB w w.heap.size 2 a0 len0 (rows z0)))
    clear HR
    have C1 := hide (toRowS_any a0 len0 cap0 z0 _ w HZ.out R0.out.rd (by omega) R0.out.le)
    go_wp2_with fail
    refine C1.out.mono ?_
    rintro e w1 ⟨A1, d1, rfl, o, b⟩
    have s1 := b.size
    replace BW := hide (below_keep BW.out b)
    replace R0 := hide (R0.out.keep b)
    have X1 := hide (OwB.of o b.size)
    clear b C1
    clear o
    have C2 := hide (specBlockPack A1 _ d1 z0 _ w1 rfl X1.out.rd (by omega) X1.out.top)
    rw [← HX.out] at C2
    go_wp2_with fail
    refine C2.out.mono ?_
    rintro e w2 ⟨rfl, b⟩
    have s2 := b.size
    replace BW := hide (below_keep BW.out b)
    replace R0 := hide (R0.out.keep b)
    replace X1 := hide (X1.out.keep b)
    clear b C2
    clear X1
    have C3 := hide (toRowS_any a0 len0 cap0 z0 _ w2 HZ.out R0.out.rd (by omega) R0.out.le)
    go_wp2_with fail
    refine C3.out.mono ?_
    rintro e w3 ⟨A3, d3, rfl, o, b⟩
    have s3 := b.size
    replace BW := hide (below_keep BW.out b)
    replace R0 := hide (R0.out.keep b)
    have X2 := hide (OwB.of o b.size)
    clear b C3
    clear o
    have C4 := hide (implBlockPack A3 _ d3 z0 _ w3 rfl X2.out.rd (by omega) X2.out.top)
    rw [← HX.out] at C4
    go_wp2_with fail
    refine C4.out.mono ?_
    rintro e w4 ⟨rfl, b⟩
    have s4 := b.size
    replace BW := hide (below_keep BW.out b)
    replace R0 := hide (R0.out.keep b)
    replace X2 := hide (X2.out.keep b)
    clear b C4
    have C5 := hide (toRowS_any a0 len0 cap0 z0 _ w4 HZ.out R0.out.rd (by omega) R0.out.le)
    go_wp2_with fail
    refine C5.out.mono ?_
    rintro e w5 ⟨A5, d5, rfl, o, b⟩
    have s5 := b.size
    replace BW := hide (below_keep BW.out b)
    replace R0 := hide (R0.out.keep b)
    replace X2 := hide (X2.out.keep b)
    have X3 := hide (OwB.of o b.size)
    clear b C5
    clear o
    have C6 := hide (eqRowS_any A3 A5 _ _ d3 d5 z0 z0 _ _ w5 rfl rfl X2.out.rd X3.out.rd (by omega) (by omega) X2.out.top X3.out.top)
    rw [decide_eq_true rfl] at C6
    go_wp2_with fail
    refine C6.out.mono ?_
    rintro e w6 ⟨rfl, b⟩
    have s6 := b.size
    replace BW := hide (below_keep BW.out b)
    replace R0 := hide (R0.out.keep b)
    replace X2 := hide (X2.out.keep b)
    replace X3 := hide (X3.out.keep b)
    clear b C6
    go_wp2
    go_ret
    exact ⟨rfl, BW.out⟩

set_option maxRecDepth 100000 in
set_option maxHeartbeats 3200000 in
theorem fnExactBlockUnpack_walk (w : World) (a0 : ByteArray) (_w0 : a0.size ≤ maxLen) : Calls Try.prog 5 #[.string a0] w fun e w' => e = .returned (.bool true) ∧ Below w.heap.size w w' := by
  obtain ⟨l, rfl⟩ : ∃ l, a0 = S l := ⟨_, S_of a0⟩
  have hs := S_size l
  by_cases hl : 1048576 < l.length
  · go_enter Try.func5, Try.ntmps5
    go_wp2
    go_ret
    exact ⟨rfl, Below.refl _ _⟩
  · obtain ⟨L, K, hP⟩ : ∃ L K, buO l = (L, K) := ⟨_, _, rfl⟩
    have hLL : L.length ≤ 24 := by have := buO_len l; rw [hP] at this; exact this
    have HP := hide hP
    clear hP
    go_enter Try.func5, Try.ntmps5
    have BW := hide (Below.refl w.heap.size w)
    have C1 := hide (calls_pairR (specBlockUnpack l w (by omega)) HP.out)
    go_wp2_with fail
    refine C1.out.mono ?_
    rintro e w1 ⟨A1, d1, rfl, o, b⟩
    have s1 := b.size
    replace BW := hide (below_keep BW.out b)
    have WT := hide (OwB.of o b.size)
    clear b C1
    clear o
    have C2 := hide (calls_pairR (implBlockUnpack l w1 (by omega)) HP.out)
    go_wp2_with fail
    refine C2.out.mono ?_
    rintro e w2 ⟨A2, d2, rfl, o, b⟩
    have s2 := b.size
    replace BW := hide (below_keep BW.out b)
    replace WT := hide (WT.out.keep b)
    have GT := hide (OwB.of o b.size)
    clear b C2
    clear o
    have C3 := hide (eqRowS_any A2 A1 _ _ d2 d1 L L _ _ w2 rfl rfl GT.out.rd WT.out.rd (by omega) (by omega) GT.out.top WT.out.top)
    rw [decide_eq_true rfl] at C3
    go_wp2_with fail
    refine C3.out.mono ?_
    rintro e w3 ⟨rfl, b⟩
    have s3 := b.size
    replace BW := hide (below_keep BW.out b)
    replace WT := hide (WT.out.keep b)
    replace GT := hide (GT.out.keep b)
    clear b C3
    have C4 := hide (markRowS_any A2 L.length d2 _ _ L 1 w3 rfl GT.out (by omega) (by omega))
    go_wp2_with fail
    refine C4.out.mono ?_
    rintro e w4 ⟨rfl, o, t⟩
    have s4 := t.size
    replace BW := hide (below_touch BW.out t (by omega) (by omega))
    replace WT := hide (WT.out.touch t (by omega))
    have G2 := hide (o)
    clear t C4
    clear o GT
    have C5 := hide (heldRowS_any A2 L.length d2 _ _ 1 w4 G2.out (by omega) (by omega))
    go_wp2_with fail
    refine C5.out.mono ?_
    rintro e w5 ⟨rfl, rfl⟩
    clear C5
    have C6 := hide (calls_pairR (implBlockUnpack l w4 (by omega)) HP.out)
    go_wp2_with fail
    refine C6.out.mono ?_
    rintro e w6 ⟨A6, d6, rfl, o, b⟩
    have s6 := b.size
    replace BW := hide (below_keep BW.out b)
    replace WT := hide (WT.out.keep b)
    replace G2 := hide (G2.out.keep b)
    have GG := hide (OwB.of o b.size)
    clear b C6
    clear o
    have C7 := hide (eqRowS_any A6 A1 _ _ d6 d1 L L _ _ w6 rfl rfl GG.out.rd WT.out.rd (by omega) (by omega) GG.out.top WT.out.top)
    rw [decide_eq_true rfl] at C7
    go_wp2_with fail
    refine C7.out.mono ?_
    rintro e w7 ⟨rfl, b⟩
    have s7 := b.size
    replace BW := hide (below_keep BW.out b)
    replace WT := hide (WT.out.keep b)
    replace G2 := hide (G2.out.keep b)
    replace GG := hide (GG.out.keep b)
    clear b C7
    clear GG
    have C8 := hide (heldRowS_any A2 L.length d2 _ _ 1 w7 G2.out (by omega) (by omega))
    go_wp2_with fail
    refine C8.out.mono ?_
    rintro e w8 ⟨rfl, rfl⟩
    clear C8
    go_wp2
    go_ret
    exact ⟨rfl, BW.out⟩

end Go.Proofs.Ytlalldjlgaldeaa
