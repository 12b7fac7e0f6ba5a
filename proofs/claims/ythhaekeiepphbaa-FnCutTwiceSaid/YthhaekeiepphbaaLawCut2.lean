/-
  WALKS: the laws CutTwice and CutAt.
-/
import Derived.Test.YthhaekeiepphbaaDrawCut
import Derived.Test.YthhaekeiepphbaaLy
import Derived.Test.YthhaekeiepphbaaTail
import Derived.Test.YthhaekeiepphbaaCut
import Derived.Test.YthhaekeiepphbaaPlainPut2
import Derived.OpenShut
namespace Go.Proofs.Ythhaekeiepphbaa
set_option linter.unusedVariables false
open Go.RowKit

theorem bytes_ofC {zs : List Int} (h : ∀ z ∈ zs, (Lit.int .u8 z).wf = true) : ByteL zs := fun z hz => bounds_u8 (h z hz)
theorem cutB_le (l : List PB.Row) (lo hi : Int) : (cutB l lo hi).length ≤ l.length := by
  unfold cutB
  split
  · exact List.length_filter_le _ _
  · exact Nat.zero_le _
theorem cutB_ok {l : List PB.Row} (h : PB.blockB l = true) (lo hi : Int) : cutB l lo hi = PB.cutR l lo hi := by unfold cutB; rw [h]; rfl
theorem cutB_two {l : List PB.Row} (h : PB.blockB l = true) (lo hi lo' hi' : Int) (h1 : lo ≤ lo') (h2 : hi' ≤ hi) : cutB (cutB l lo hi) lo' hi' = cutB l lo' hi' := by
  rw [cutB_ok h, cutB_ok (PB.block_cut h), cutB_ok h, PB.cut_two lo hi lo' hi' h1 h2]
theorem cutB_none {l : List PB.Row} (h : PB.blockB l = true) (lo hi : Int) (h1 : hi < lo) : cutB l lo hi = [] := by
  rw [cutB_ok h, PB.cut_none lo hi h1]
theorem cutB_split {l : List PB.Row} (h : PB.blockB l = true) (t : Int) : cutB l 0 t ++ cutB l (t + 1) 99 = l := by
  rw [cutB_ok h, cutB_ok h]
  have hb := PB.blockB_iff.1 h
  exact PB.cut_split hb.2.1 (fun r hr => (PB.rowB_iff.1 (hb.1 r hr)).1) t
theorem cutB_block {l : List PB.Row} (h : PB.blockB l = true) (lo hi : Int) : PB.blockB (cutB l lo hi) = true := by
  rw [cutB_ok h]; exact PB.block_cut h
theorem cutB_look {l : List PB.Row} (h : PB.blockB l = true) (lo hi : Int) {k : Nat} (hk : k < l.length) {t v : Int} (hx : l.getD k (0, 0) = (t, v)) :
    PB.look (cutB l lo hi) t = if lo ≤ t ∧ t ≤ hi then some v else none := by
  rw [cutB_ok h, PB.look_cutR]
  have hm : (t, v) ∈ l := by rw [← hx, PB.getD_row hk]; exact List.getElem_mem _
  rw [PB.look_mem (PB.blockB_iff.1 h).2.1 hm]

set_option maxRecDepth 100000 in
set_option maxHeartbeats 3200000 in
theorem fnCutTwice_walk (w : World) (a0 : Option Addr) (len0 cap0 : Nat) (z0 : List Int) (hz0 : z0.length = len0) (rd0 : Rd w w.heap.size 1 a0 len0 (z0.map (Value.int .u8))) (wf0 : ∀ z ∈ z0, (Lit.int .u8 z).wf = true) (lc0 : len0 ≤ cap0) (cm0 : cap0 ≤ maxLen) :
    Calls Try.prog 7 #[.slice a0 len0 cap0] w fun e w' => e = .returned (.bool true) ∧ Below w.heap.size w w' := by
  have HD := hide (drawBlockCut_any a0 len0 cap0 z0 w hz0 rd0 (bytes_ofC wf0) lc0 cm0)
  clear rd0 wf0 hz0
  unfold maxLen at cm0
  by_cases hl : 1048576 < len0
  · clear HD
    go_enter Try.func7, Try.ntmps7
    go_wp2
    go_ret
    exact ⟨rfl, Below.refl _ _⟩
  · go_enter Try.func7, Try.ntmps7
    have BW := hide (Below.refl w.heap.size w)
    have C1 := HD
    go_wp2_with fail
    refine C1.out.mono ?_
    rintro e w1 ⟨l, lo, hi, A1, d1, rfl, hll, hlo, hhi, o, b⟩
    have s1 := b.size
    replace BW := hide (below_keep BW.out b)
    have DB := hide (OwB.of o b.size)
    clear b C1
    clear o
    obtain ⟨L, hL⟩ : ∃ L, L = cutB l lo hi := ⟨_, rfl⟩
    have hLL : L.length ≤ l.length := by rw [hL]; exact cutB_le _ _ _
    have HL := hide hL
    clear hL
    have C2 := hide (implBlockCut A1 _ d1 l lo hi _ w1 rfl DB.out.rd (by omega) DB.out.top)
    rw [← HL.out] at C2
    go_wp2_with fail
    refine C2.out.mono ?_
    rintro e w2 ⟨A2, d2, rfl, o, b⟩
    have s2 := b.size
    replace BW := hide (below_keep BW.out b)
    replace DB := hide (DB.out.keep b)
    have CU := hide (OwB.of o b.size)
    clear b C2
    clear o
    have C3 := hide (specBlockCut A1 _ d1 l lo hi _ w2 rfl DB.out.rd (by omega) DB.out.top)
    rw [← HL.out] at C3
    go_wp2_with fail
    refine C3.out.mono ?_
    rintro e w3 ⟨A3, d3, rfl, o, b⟩
    have s3 := b.size
    replace BW := hide (below_keep BW.out b)
    replace DB := hide (DB.out.keep b)
    replace CU := hide (CU.out.keep b)
    have SP := hide (OwB.of o b.size)
    clear b C3
    clear o
    have C4 := hide (lyRows_any A2 A3 _ _ d2 d3 L L _ _ w3 rfl rfl CU.out.rd SP.out.rd (by omega) (by omega) CU.out.top SP.out.top)
    rw [decide_eq_true rfl] at C4
    go_wp2_with fail
    refine C4.out.mono ?_
    rintro e w4 ⟨rfl, b⟩
    have s4 := b.size
    replace BW := hide (below_keep BW.out b)
    replace DB := hide (DB.out.keep b)
    replace CU := hide (CU.out.keep b)
    replace SP := hide (SP.out.keep b)
    clear b C4
    clear SP
    have C5 := hide (specBlockOk A1 _ d1 l _ w4 rfl DB.out.rd (by omega) DB.out.top)
    go_wp2_with fail
    refine C5.out.mono ?_
    rintro e w5 ⟨rfl, b⟩
    have s5 := b.size
    replace BW := hide (below_keep BW.out b)
    replace DB := hide (DB.out.keep b)
    replace CU := hide (CU.out.keep b)
    clear b C5
    cases hb : PB.blockB l
    · clear hb
      have C6 := hide (specBlockCut A1 _ d1 l lo hi _ w5 rfl DB.out.rd (by omega) DB.out.top)
      rw [← HL.out] at C6
      go_wp2_with fail
      refine C6.out.mono ?_
      rintro e w6 ⟨A6, d6, rfl, o, b⟩
      have s6 := b.size
      replace BW := hide (below_keep BW.out b)
      replace DB := hide (DB.out.keep b)
      replace CU := hide (CU.out.keep b)
      have SP := hide (OwB.of o b.size)
      clear b C6
      clear o
      have C7 := hide (lyRows_any A2 A6 _ _ d2 d6 L L _ _ w6 rfl rfl CU.out.rd SP.out.rd (by omega) (by omega) CU.out.top SP.out.top)
      rw [decide_eq_true rfl] at C7
      go_wp2_with fail
      refine C7.out.mono ?_
      rintro e w7 ⟨rfl, b⟩
      have s7 := b.size
      replace BW := hide (below_keep BW.out b)
      replace DB := hide (DB.out.keep b)
      replace CU := hide (CU.out.keep b)
      replace SP := hide (SP.out.keep b)
      clear b C7
      go_wp2
      go_ret
      exact ⟨rfl, BW.out⟩
    · have HB := hide hb
      clear hb
      obtain ⟨M, hM⟩ : ∃ M, M = cutB l (lo + 3) (hi - 2) := ⟨_, rfl⟩
      have hML : M.length ≤ l.length := by rw [hM]; exact cutB_le _ _ _
      have HM := hide hM
      have HM2 : Hid (M = cutB L (lo + 3) (hi - 2)) := hide (by rw [HL.out, cutB_two HB.out _ _ _ _ (by omega) (by omega)]; exact hM)
      clear hM
      have C6 := hide (implBlockCut A2 _ d2 L (lo + 3) (hi - 2) _ w5 rfl CU.out.rd (by omega) CU.out.top)
      rw [← HM2.out] at C6
      go_wp2_with fail
      refine C6.out.mono ?_
      rintro e w6 ⟨A6, d6, rfl, o, b⟩
      have s6 := b.size
      replace BW := hide (below_keep BW.out b)
      replace DB := hide (DB.out.keep b)
      replace CU := hide (CU.out.keep b)
      have AG := hide (OwB.of o b.size)
      clear b C6
      clear o
      clear CU
      have C7 := hide (implBlockCut A1 _ d1 l (lo + 3) (hi - 2) _ w6 rfl DB.out.rd (by omega) DB.out.top)
      rw [← HM.out] at C7
      go_wp2_with fail
      refine C7.out.mono ?_
      rintro e w7 ⟨A7, d7, rfl, o, b⟩
      have s7 := b.size
      replace BW := hide (below_keep BW.out b)
      replace DB := hide (DB.out.keep b)
      replace AG := hide (AG.out.keep b)
      have TH := hide (OwB.of o b.size)
      clear b C7
      clear o
      have C8 := hide (lyRows_any A6 A7 _ _ d6 d7 M M _ _ w7 rfl rfl AG.out.rd TH.out.rd (by omega) (by omega) AG.out.top TH.out.top)
      rw [decide_eq_true rfl] at C8
      go_wp2_with fail
      refine C8.out.mono ?_
      rintro e w8 ⟨rfl, b⟩
      have s8 := b.size
      replace BW := hide (below_keep BW.out b)
      replace DB := hide (DB.out.keep b)
      replace AG := hide (AG.out.keep b)
      replace TH := hide (TH.out.keep b)
      clear b C8
      clear AG TH
      by_cases hlh : hi ≤ lo
      · go_wp2
        go_ret
        exact ⟨rfl, BW.out⟩
      · have hnl : decide (hi ≤ lo) = false := decide_eq_false hlh
        have HN : Hid ([] = cutB l hi lo) := hide (cutB_none HB.out _ _ (by omega)).symm
        have C9 := hide (implBlockCut A1 _ d1 l hi lo _ w8 rfl DB.out.rd (by omega) DB.out.top)
        rw [← HN.out] at C9
        go_wp2_with fail
        refine C9.out.mono ?_
        rintro e w9 ⟨A9, d9, rfl, o, b⟩
        have s9 := b.size
        replace BW := hide (below_keep BW.out b)
        replace DB := hide (DB.out.keep b)
        have NO := hide (OwB.of o b.size)
        clear b C9
        clear o
        go_wp2
        go_ret
        exact ⟨rfl, BW.out⟩


end Go.Proofs.Ythhaekeiepphbaa
