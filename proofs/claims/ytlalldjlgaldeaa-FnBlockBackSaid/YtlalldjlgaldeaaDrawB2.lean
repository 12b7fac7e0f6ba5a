/-
  WALKS: drawn blocks and drawn bytes of blocks.
-/
import Derived.Test.YtlalldjlgaldeaaBlockPack
import Derived.Test.YtlalldjlgaldeaaDrawRows
import Derived.Deep.RegionWith
namespace Go.Proofs.Ytlalldjlgaldeaa
set_option linter.unusedVariables false
open Go.RowKit

def DrawnB (w : World) (e : Ending) (w' : World) : Prop := ∃ (l : List PB.Row) (A : Option Addr) (c : Nat), e = .returned (.slice A l.length c) ∧ l.length ≤ 30 ∧ w'.ownsRow w.heap.size 32 2 (.slice A l.length c) l.length (rows l) ∧ Below w.heap.size w w'
def DrawnS (w : World) (e : Ending) (w' : World) : Prop := ∃ l : List UInt8, e = .returned (.string (S l)) ∧ l.length ≤ 200 ∧ Below w.heap.size w w'
theorem bpk_len (l : List PB.Row) : (bpk l).length ≤ 97 := by
  cases h : PB.blockB l
  · rw [bpk_no h]; simp
  · rw [bpk_yes h]
    have := pack0_small (okB_tms h)
    have := pack0_small (okB_vls h)
    simp only [List.length_cons, List.length_append]
    omega

set_option maxRecDepth 100000 in
set_option maxHeartbeats 1600000 in
theorem drawBlockPack_any (A : Option Addr) (n c : Nat) (zs : List Int) (w : World) (hz : zs.length = n) (h : Rd w w.heap.size 1 A n (u8s zs)) (hb : ByteL zs) (hc : n ≤ c) (hm : c ≤ maxLen) :
    Calls Try.prog 13 #[.slice A n c] w (DrawnB w) := by
  have H1 := hide (open_any A n c zs w hz h hb hc hm)
  clear hz h hb hc hm
  go_enter Try.func13, Try.ntmps13
  go_wp2_with fail
  refine H1.out.mono ?_
  rintro e w1 ⟨rfl, hr1, hb1, hs1⟩
  have B1 := hide hb1
  clear hs1 H1 hb1
  go_wp2_with fail
  refine (l71Block_any _ _ _ _ hr1 (by omega)).mono ?_
  rintro e w2 ⟨A2, c2, l2, rfl, o2, hl2, hr2, hk2⟩
  have F := hide (⟨l2, A2, c2, rfl, hl2, own_base o2 B1.out.size, B1.out.trans (hk2.to_below (Nat.le_refl _) B1.out.size)⟩ : DrawnB w (.returned (.slice A2 l2.length c2)) w2)
  clear o2 hk2 hr1 hr2 B1
  go_wp2
  go_ret
  exact F.out

set_option maxRecDepth 100000 in
set_option maxHeartbeats 3200000 in
theorem drawBlockUnpack_any (A : Option Addr) (n c : Nat) (zs : List Int) (w : World) (hz : zs.length = n) (h : Rd w w.heap.size 1 A n (u8s zs)) (hb : ByteL zs) (hc : n ≤ c) (hm : c ≤ maxLen) :
    Calls Try.prog 20 #[.slice A n c] w (DrawnS w) := by
  have H1 := hide (open_any A n c zs w hz h hb hc hm)
  clear hz h hb hc hm
  go_enter Try.func20, Try.ntmps20
  go_wp2_with fail
  refine H1.out.mono ?_
  rintro e w1 ⟨rfl, hr1, hb1, hs1⟩
  have B1 := hide hb1
  clear hs1 H1 hb1
  go_wp2_with fail
  refine (l71Block_any _ _ _ _ hr1 (by omega)).mono ?_
  rintro e w2 ⟨A2, c2, a, rfl, o2, hl2, hr2, hk2⟩
  have B2 := hide (B1.out.trans (hk2.to_below (Nat.le_refl _) B1.out.size))
  have D2 := hide (Rd.of_own o2)
  clear o2 hk2 hr1 B1
  have C3 := hide (specBlockPack A2 _ c2 a _ w2 rfl D2.out (by omega) (Nat.le_refl _))
  have hpl := bpk_len a
  obtain ⟨P, hP⟩ : ∃ P, P = bpk a := ⟨_, rfl⟩
  rw [← hP] at C3 hpl
  have hs := S_size P
  clear hP D2
  go_wp2_with fail
  refine C3.out.mono ?_
  rintro e w3 ⟨rfl, b3⟩
  have B3 := hide (B2.out.trans (b3.mono B2.out.size))
  have hr3 := hr2.below (b3.mono (by have := hr2.lt; omega))
  clear b3 C3 hr2 B2
  go_wp2_with fail
  refine (pick_any _ _ _ ((P.length : Int) + 1) _ hr3 (by omega) (by omega)).mono ?_
  rintro e w4 ⟨v4, rfl, l4, u4, hr4, g4, hs4⟩
  have u4 := u4 (by omega)
  have B4 := hide (B3.out.trans (Kept.to_below (R := w.heap.size) g4 (Nat.le_refl _) B3.out.size))
  clear hs4 g4 B3 hr3
  go_wp2_with fail
  refine (pick_any _ _ 201 _ _ (hr4.more (by omega)) (by omega) (by omega)).mono ?_
  rintro e w5 ⟨v5, rfl, l5, u5, hr5, g5, hs5⟩
  have u5 := u5 (by omega)
  have B5 := hide (B4.out.trans (Kept.to_below (R := w.heap.size) g5 (Nat.le_refl _) B4.out.size))
  clear hs5 g5 B4 hr4
  obtain ⟨k, rfl⟩ := Int.eq_ofNat_of_zero_le l4
  rcases (show v5 = 0 ∨ v5 = 1 ∨ 2 ≤ v5 from by omega) with h5 | h5 | h5
  · subst h5
    have he : (S P).extract 0 k = S (P.take k) := S_take _ _
    go_wp2
    go_ret
    exact ⟨_, by first | rfl | rw [he], by simp; omega, B5.out⟩
  · subst h5
    obtain ⟨P1, hP1⟩ : ∃ P1, P1 = P.take k := ⟨_, rfl⟩
    obtain ⟨P2, hP2⟩ : ∃ P2, P2 = P.drop k := ⟨_, rfl⟩
    have he : (S P).extract 0 k = S P1 := by rw [hP1]; exact S_take _ _
    have he2 : (S P).extract k P.length = S P2 := by rw [← hs, hP2]; exact S_drop P k
    have hs1 := S_size P1
    have hs2 := S_size P2
    have hl1 : P1.length ≤ 97 := by rw [hP1]; simp; omega
    have hl2 : P2.length ≤ 97 := by rw [hP2]; simp; omega
    clear hP1 hP2
    have hr5d : Hid (Rdr w5.drew w.heap.size w.heap.size 202) := hide hr5
    have B5d : Hid (Below w.heap.size w w5.drew) := hide B5.out.drew
    have CB : Hid (∀ (v : Int) (wr : World), 0 ≤ v → v ≤ 255 → Calls Try.prog 24 #[.int .i64 v] wr fun e w' => ∃ Y : List UInt8, (S Y).size = 1 ∧ e = .returned (.string (S Y)) ∧ Below wr.heap.size wr w') := hide (fun v wr h1 h2 => (l1Byte_any v (UInt8.ofNat v.toNat) wr ⟨h1, h2⟩ (by rw [PN.ofNat_toNat (by omega)]; omega)).mono fun e w' h => ⟨_, S_size _, h⟩)
    clear B5 hr5
    go_wp2
    go_region_with (first
      | (go_at_call 34; refine (pick_any _ _ _ _ _ hr5d.out (by omega) (by omega)).mono ?_; rintro e w6 ⟨v6, rfl, l6, u6, hr6, g6, hs6⟩; have u7 := u6 (by omega); have B6 := hide (B5d.out.trans (Kept.to_below (R := w.heap.size) g6 (Nat.le_refl _) B5d.out.size)); clear hs6 g6 hr6 u6)
      | (go_at_call 24; refine (CB.out _ _ l6 (by omega)).mono ?_; rintro e w7 ⟨Y, hY, rfl, b7⟩; have B7 := hide (B6.out.trans (b7.mono B6.out.size)); clear b7))
    all_goals
      simp [Act.put]
      go_wp2
      go_ret
      refine ⟨P1 ++ Y ++ P2, by rw [S_append, S_append]; rfl, ?_, B7.out⟩
      have := S_size Y
      simp only [List.length_append]
      omega
  · have z0 : (v5 == 0) = false := beq_eq_false_iff_ne.2 (by omega)
    have z1 : (v5 == 1) = false := beq_eq_false_iff_ne.2 (by omega)
    go_wp2
    go_ret
    exact ⟨P, rfl, by omega, B5.out⟩

end Go.Proofs.Ytlalldjlgaldeaa
