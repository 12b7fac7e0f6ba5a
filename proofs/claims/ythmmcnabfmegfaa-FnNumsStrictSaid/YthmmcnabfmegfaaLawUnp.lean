/-
  WALKS: the exact law of NumsUnpack.
-/
import Derived.Test.YthmmcnabfmegfaaUnpack
import Derived.Test.YthmmcnabfmegfaaMarkInts
import Derived.OpenShut
namespace Go.Proofs.Ythmmcnabfmegfaa
set_option linter.unusedVariables false
open Go.RowKit

theorem calls_pairI {P : Program} {f : FuncId} {args : Array Value} {w : World} {p : List Int × Bool} {L : List Int} {K : Bool} (h : Calls P f args w (IntLB w p)) (hp : p = (L, K)) :
    Calls P f args w fun e w' => ∃ A c, e = .returned (.tuple #[.slice A L.length c, .bool K]) ∧ w'.ownsRow w.heap.size 3 1 (.slice A L.length c) L.length (ints L) ∧ Below w.heap.size w w' := by
  subst hp; exact h
theorem unpO_len (l : List UInt8) : (unpO l).1.length ≤ 24 := by
  unfold unpO
  cases h : PN.unp l
  · exact Nat.zero_le _
  · exact (PN.okB_iff.1 (PN.of_unp h).1).2

set_option maxRecDepth 100000 in
set_option maxHeartbeats 3200000 in
theorem fnExactNumsUnpack_walk (w : World) (a0 : ByteArray) (_w0 : a0.size ≤ maxLen) : Calls Try.prog 12 #[.string a0] w fun e w' => e = .returned (.bool true) ∧ Below w.heap.size w w' := by
  obtain ⟨l, rfl⟩ : ∃ l, a0 = S l := ⟨_, S_of a0⟩
  have hs := S_size l
  by_cases hl : 1048576 < l.length
  · go_enter Try.func12, Try.ntmps12
    go_wp2
    go_ret
    exact ⟨rfl, Below.refl _ _⟩
  · obtain ⟨L, K, hP⟩ : ∃ L K, unpO l = (L, K) := ⟨_, _, rfl⟩
    have hLL : L.length ≤ 24 := by have := unpO_len l; rw [hP] at this; exact this
    have HP := hide hP
    clear hP
    go_enter Try.func12, Try.ntmps12
    have BW := hide (Below.refl w.heap.size w)
    have C1 := hide (calls_pairI (specNumsUnpack l w (by omega)) HP.out)
    go_wp2_with fail
    refine C1.out.mono ?_
    rintro e w1 ⟨A1, d1, rfl, o, b⟩
    have s1 := b.size
    replace BW := hide (below_keep BW.out b)
    have WT := hide (OwB.of o b.size)
    clear b C1
    clear o
    have C2 := hide (calls_pairI (implNumsUnpack l w1 (by omega)) HP.out)
    go_wp2_with fail
    refine C2.out.mono ?_
    rintro e w2 ⟨A2, d2, rfl, o, b⟩
    have s2 := b.size
    replace BW := hide (below_keep BW.out b)
    replace WT := hide (WT.out.keep b)
    have GT := hide (OwB.of o b.size)
    clear b C2
    clear o
    have C3 := hide (eqIntS_any A2 A1 _ _ d2 d1 L L _ _ w2 rfl rfl GT.out.rd WT.out.rd (by omega) (by omega) GT.out.top WT.out.top)
    rw [decide_eq_true rfl] at C3
    go_wp2_with fail
    refine C3.out.mono ?_
    rintro e w3 ⟨rfl, b⟩
    have s3 := b.size
    replace BW := hide (below_keep BW.out b)
    replace WT := hide (WT.out.keep b)
    replace GT := hide (GT.out.keep b)
    clear b C3
    have C4 := hide (markIntS_any A2 L.length d2 _ _ L 1 w3 rfl GT.out (by omega) (by omega))
    go_wp2_with fail
    refine C4.out.mono ?_
    rintro e w4 ⟨rfl, o, t⟩
    have s4 := t.size
    replace BW := hide (below_touch BW.out t (by omega) (by omega))
    replace WT := hide (WT.out.touch t (by omega))
    have G2 := hide (o)
    clear t C4
    clear o GT
    have C5 := hide (heldIntS_any A2 L.length d2 _ _ 1 w4 G2.out (by omega) (by omega))
    go_wp2_with fail
    refine C5.out.mono ?_
    rintro e w5 ⟨rfl, rfl⟩
    clear C5
    have C6 := hide (calls_pairI (implNumsUnpack l w4 (by omega)) HP.out)
    go_wp2_with fail
    refine C6.out.mono ?_
    rintro e w6 ⟨A6, d6, rfl, o, b⟩
    have s6 := b.size
    replace BW := hide (below_keep BW.out b)
    replace WT := hide (WT.out.keep b)
    replace G2 := hide (G2.out.keep b)
    have GG := hide (OwB.of o b.size)
    clear b C6
    clear o
    have C7 := hide (eqIntS_any A6 A1 _ _ d6 d1 L L _ _ w6 rfl rfl GG.out.rd WT.out.rd (by omega) (by omega) GG.out.top WT.out.top)
    rw [decide_eq_true rfl] at C7
    go_wp2_with fail
    refine C7.out.mono ?_
    rintro e w7 ⟨rfl, b⟩
    have s7 := b.size
    replace BW := hide (below_keep BW.out b)
    replace WT := hide (WT.out.keep b)
    replace G2 := hide (G2.out.keep b)
    replace GG := hide (GG.out.keep b)
    clear b C7
    clear GG
    have C8 := hide (heldIntS_any A2 L.length d2 _ _ 1 w7 G2.out (by omega) (by omega))
    go_wp2_with fail
    refine C8.out.mono ?_
    rintro e w8 ⟨rfl, rfl⟩
    clear C8
    go_wp2
    go_ret
    exact ⟨rfl, BW.out⟩

end Go.Proofs.Ythmmcnabfmegfaa
