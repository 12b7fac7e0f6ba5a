/-
  WALKS: the law BlockStrict.
-/
import Derived.Test.YtlalldjlgaldeaaLawShort
import Derived.Test.YtlalldjlgaldeaaLy
namespace Go.Proofs.Ytlalldjlgaldeaa
set_option linter.unusedVariables false
open Go.RowKit

set_option maxRecDepth 100000 in
set_option maxHeartbeats 6400000 in
theorem fnBlockStrict_walk (w : World) (a0 : Option Addr) (len0 cap0 : Nat) (z0 : List Int) (hz0 : z0.length = len0) (rd0 : Rd w w.heap.size 1 a0 len0 (z0.map (Value.int .u8))) (wf0 : ∀ z ∈ z0, (Lit.int .u8 z).wf = true) (lc0 : len0 ≤ cap0) (cm0 : cap0 ≤ maxLen) :
    Calls Try.prog 7 #[.slice a0 len0 cap0] w fun e w' => e = .returned (.bool true) ∧ Below w.heap.size w w' := by
  have HD := hide (drawBlockUnpack_any a0 len0 cap0 z0 w hz0 rd0 (bytes_ofB wf0) lc0 cm0)
  clear rd0 wf0 hz0
  unfold maxLen at cm0
  by_cases hl0 : 1048576 < len0
  · clear HD
    go_enter Try.func7, Try.ntmps7
    go_wp2
    go_ret
    exact ⟨rfl, Below.refl _ _⟩
  go_enter Try.func7, Try.ntmps7
  have BW := hide (Below.refl w.heap.size w)
  have C1 := HD
  go_wp2_with fail
  refine C1.out.mono ?_
  rintro e w1 ⟨l, rfl, hl, b⟩
  have s1 := b.size
  replace BW := hide (below_keep BW.out b)
  clear b C1
  obtain ⟨L, K, hP⟩ : ∃ L K, buO l = (L, K) := ⟨_, _, rfl⟩
  have hLL : L.length ≤ 24 := by have := buO_len l; rw [hP] at this; exact this
  have HP := hide hP
  have hs := S_size l
  clear hP
  have C2 := hide (calls_pairR (specBlockUnpack l w1 (by omega)) HP.out)
  go_wp2_with fail
  refine C2.out.mono ?_
  rintro e w2 ⟨A2, d2, rfl, o, b⟩
  have s2 := b.size
  replace BW := hide (below_keep BW.out b)
  have SP := hide (OwB.of o b.size)
  clear b C2
  clear o
  have C3 := hide (calls_pairR (implBlockUnpack l w2 (by omega)) HP.out)
  go_wp2_with fail
  refine C3.out.mono ?_
  rintro e w3 ⟨A3, d3, rfl, o, b⟩
  have s3 := b.size
  replace BW := hide (below_keep BW.out b)
  replace SP := hide (SP.out.keep b)
  have GT := hide (OwB.of o b.size)
  clear b C3
  clear o
  have C4 := hide (lyRows_any A3 A2 _ _ d3 d2 L L _ _ w3 rfl rfl GT.out.rd SP.out.rd (by omega) (by omega) GT.out.top SP.out.top)
  rw [decide_eq_true rfl] at C4
  go_wp2_with fail
  refine C4.out.mono ?_
  rintro e w4 ⟨rfl, b⟩
  have s4 := b.size
  replace BW := hide (below_keep BW.out b)
  replace SP := hide (SP.out.keep b)
  replace GT := hide (GT.out.keep b)
  clear b C4
  cases K
  · have C5 := hide (lyRows_any A3 A2 _ _ d3 d2 L L _ _ w4 rfl rfl GT.out.rd SP.out.rd (by omega) (by omega) GT.out.top SP.out.top)
    rw [decide_eq_true rfl] at C5
    go_wp2_with fail
    refine C5.out.mono ?_
    rintro e w5 ⟨rfl, b⟩
    have s5 := b.size
    replace BW := hide (below_keep BW.out b)
    replace SP := hide (SP.out.keep b)
    replace GT := hide (GT.out.keep b)
    clear b C5
    go_wp2
    go_ret
    exact ⟨rfl, BW.out⟩
  · obtain ⟨h1, h2⟩ := of_buO HP.out
    have H1 := hide h1
    have H2 := hide h2
    clear h1 h2
    have heq : ((S l).toList == (S l).toList) = true := beq_self_eq_true _
    have C5 := hide (implBlockOk A3 _ d3 L _ w4 rfl GT.out.rd (by omega) GT.out.top)
    rw [H1.out] at C5
    go_wp2_with fail
    refine C5.out.mono ?_
    rintro e w5 ⟨rfl, b⟩
    have s5 := b.size
    replace BW := hide (below_keep BW.out b)
    replace SP := hide (SP.out.keep b)
    replace GT := hide (GT.out.keep b)
    clear b C5
    have C6 := hide (implBlockPack A3 _ d3 L _ w5 rfl GT.out.rd (by omega) GT.out.top)
    rw [H2.out] at C6
    go_wp2_with fail
    refine C6.out.mono ?_
    rintro e w6 ⟨rfl, b⟩
    have s6 := b.size
    replace BW := hide (below_keep BW.out b)
    replace SP := hide (SP.out.keep b)
    replace GT := hide (GT.out.keep b)
    clear b C6
    go_wp2
    go_ret
    exact ⟨rfl, BW.out⟩

end Go.Proofs.Ytlalldjlgaldeaa
