/-
  WALKS: the drawn number of the zigzag laws; the three laws on it.
-/
import Derived.Test.YthmmcnabfmegfaaZig
import Derived.Test.YthmmcnabfmegfaaRead
namespace Go.Proofs.Ythmmcnabfmegfaa
open Go.RowKit

/-- The call wrote nothing that was there, and returned a number within bounds. -/
def Num (w : World) (lo hi : Int) (e : Ending) (w' : World) : Prop := ∃ v : Int, e = .returned (.int .i64 v) ∧ lo ≤ v ∧ v ≤ hi ∧ Below w.heap.size w w'

theorem grown_below {w w' : World} {R : Nat} (h : w.grownBy w' (some R)) {B : Nat} (hB : B ≤ R) (hs : B ≤ w.heap.size) : Below B w w' :=
  ⟨h.os, h.tape, h.output, h.size, fun k hk => h.block k (by omega) (by intro e; injection e; omega)⟩

set_option maxHeartbeats 1600000 in
theorem drawZig_any (A : Option Addr) (n c : Nat) (zs : List Int) (w : World) (hz : zs.length = n) (h : Rd w w.heap.size 1 A n (u8s zs)) (hb : ByteL zs) (hc : n ≤ c) (hm : c ≤ maxLen) :
    Calls Try.prog 20 #[.slice A n c] w (Num w (-8000) 8000) := by
  have H1 := hide (open_any A n c zs w hz h hb hc hm)
  clear hz h hb hc hm
  go_enter Try.func20, Try.ntmps20
  go_wp2_with fail
  refine H1.out.mono ?_
  rintro e w1 ⟨rfl, hr1, hb1, hs1⟩
  have S1 := hide hs1
  clear hs1 H1
  go_wp2_with fail
  refine (pick_any _ _ _ _ _ hr1 (by omega) (by omega)).mono ?_
  rintro e w2 ⟨v2, rfl, l2, u2, hr2, g2, hs2⟩
  have S2 := hide hs2
  have u2 := u2 (by omega)
  clear hs2
  go_wp2_with fail
  refine (pick_any _ _ _ _ _ hr2 (by omega) (by omega)).mono ?_
  rintro e w3 ⟨v3, rfl, l3, u3, hr3, g3, hs3⟩
  have S3 := hide hs3
  have u3 := u3 (by omega)
  clear hs3
  go_wp2_with fail
  refine (pick_any _ _ _ _ _ hr3 (by omega) (by omega)).mono ?_
  rintro e w4 ⟨v4, rfl, l4, u4, hr4, g4, hs4⟩
  have S4 := hide hs4
  have u4 := u4 (by omega)
  clear hs4
  go_wp2_with fail
  have hr5 := hr4.below (w' := w4.alloc (.cells #[.int .i64 (v2 - 4), .int .i64 (v3 - 150), .int .i64 (v4 - 2000), .int .i64 7992, .int .i64 (-7992), .int .i64 7993] 3)) ((Below.refl _ _).alloc hr4.lt _)
  refine (pick_any _ _ _ _ _ hr5 (by omega) (by omega)).mono ?_
  rintro e w5 ⟨v5, rfl, l5, u5, hr6, g5, hs5⟩
  have S5 := hide hs5
  have u5 := u5 (by omega)
  clear hs5
  have hcell : ∀ j, w5.cell? ⟨w4.heap.size, j, none⟩ = #[Value.int .i64 (v2 - 4), .int .i64 (v3 - 150), .int .i64 (v4 - 2000), .int .i64 7992, .int .i64 (-7992), .int .i64 7993][j]? := by
    intro j
    have hl := hr4.lt
    rw [World.cell?_of_block (w := w4.alloc _) (g5.block w4.heap.size (by simp) (by simp; omega))]
    exact World.cell?_alloc_new _ _ _ _
  have hbel : Hid (Below w.heap.size w w5) := hide (by
    have hl := hr4.lt
    have hl3 := hr3.lt
    have hl2 := hr2.lt
    have hl1 := hr1.lt
    exact ((((hb1.trans (grown_below g2 (Nat.le_refl _) (by omega))).trans (grown_below g3 (Nat.le_refl _) (by omega))).trans (grown_below g4 (Nat.le_refl _) (by omega))).alloc (by omega) _).trans (grown_below g5 (Nat.le_refl _) (by simp; omega)))
  clear g2 g3 g4 g5 hr1 hr2 hr3 hr4 hr5 hr6 hb1
  obtain rfl | rfl | rfl | rfl | rfl | rfl : v5 = 0 ∨ v5 = 1 ∨ v5 = 2 ∨ v5 = 3 ∨ v5 = 4 ∨ v5 = 5 := by omega
  · have hc := hcell 0
    clear hcell
    go_wp2
    go_ret
    exact ⟨_, rfl, by omega, by omega, hbel.out⟩
  · have hc := hcell 1
    clear hcell
    go_wp2
    go_ret
    exact ⟨_, rfl, by omega, by omega, hbel.out⟩
  · have hc := hcell 2
    clear hcell
    go_wp2
    go_ret
    exact ⟨_, rfl, by omega, by omega, hbel.out⟩
  · have hc := hcell 3
    clear hcell
    go_wp2
    go_ret
    exact ⟨_, rfl, by omega, by omega, hbel.out⟩
  · have hc := hcell 4
    clear hcell
    go_wp2
    go_ret
    exact ⟨_, rfl, by omega, by omega, hbel.out⟩
  · have hc := hcell 5
    clear hcell
    go_wp2
    go_ret
    exact ⟨_, rfl, by omega, by omega, hbel.out⟩

set_option maxHeartbeats 1600000 in
theorem drawZag_any (A : Option Addr) (n c : Nat) (zs : List Int) (w : World) (hz : zs.length = n) (h : Rd w w.heap.size 1 A n (u8s zs)) (hb : ByteL zs) (hc : n ≤ c) (hm : c ≤ maxLen) :
    Calls Try.prog 21 #[.slice A n c] w (Num w (-1) 16000) := by
  have H1 := hide (open_any A n c zs w hz h hb hc hm)
  clear hz h hb hc hm
  go_enter Try.func21, Try.ntmps21
  go_wp2_with fail
  refine H1.out.mono ?_
  rintro e w1 ⟨rfl, hr1, hb1, hs1⟩
  have S1 := hide hs1
  clear hs1 H1
  go_wp2_with fail
  refine (pick_any _ _ _ _ _ hr1 (by omega) (by omega)).mono ?_
  rintro e w2 ⟨v2, rfl, l2, u2, hr2, g2, hs2⟩
  have S2 := hide hs2
  have u2 := u2 (by omega)
  clear hs2
  go_wp2_with fail
  refine (pick_any _ _ _ _ _ hr2 (by omega) (by omega)).mono ?_
  rintro e w3 ⟨v3, rfl, l3, u3, hr3, g3, hs3⟩
  have S3 := hide hs3
  have u3 := u3 (by omega)
  clear hs3
  go_wp2_with fail
  refine (pick_any _ _ _ _ _ hr3 (by omega) (by omega)).mono ?_
  rintro e w4 ⟨v4, rfl, l4, u4, hr4, g4, hs4⟩
  have S4 := hide hs4
  have u4 := u4 (by omega)
  clear hs4
  go_wp2_with fail
  have hr5 := hr4.below (w' := w4.alloc (.cells #[.int .i64 v2, .int .i64 v3, .int .i64 v4, .int .i64 15984, .int .i64 15985, .int .i64 (-1)] 3)) ((Below.refl _ _).alloc hr4.lt _)
  refine (pick_any _ _ _ _ _ hr5 (by omega) (by omega)).mono ?_
  rintro e w5 ⟨v5, rfl, l5, u5, hr6, g5, hs5⟩
  have S5 := hide hs5
  have u5 := u5 (by omega)
  clear hs5
  have hcell : ∀ j, w5.cell? ⟨w4.heap.size, j, none⟩ = #[Value.int .i64 v2, .int .i64 v3, .int .i64 v4, .int .i64 15984, .int .i64 15985, .int .i64 (-1)][j]? := by
    intro j
    have hl := hr4.lt
    rw [World.cell?_of_block (w := w4.alloc _) (g5.block w4.heap.size (by simp) (by simp; omega))]
    exact World.cell?_alloc_new _ _ _ _
  have hbel : Hid (Below w.heap.size w w5) := hide (by
    have hl := hr4.lt
    have hl3 := hr3.lt
    have hl2 := hr2.lt
    have hl1 := hr1.lt
    exact ((((hb1.trans (grown_below g2 (Nat.le_refl _) (by omega))).trans (grown_below g3 (Nat.le_refl _) (by omega))).trans (grown_below g4 (Nat.le_refl _) (by omega))).alloc (by omega) _).trans (grown_below g5 (Nat.le_refl _) (by simp; omega)))
  clear g2 g3 g4 g5 hr1 hr2 hr3 hr4 hr5 hr6 hb1
  obtain rfl | rfl | rfl | rfl | rfl | rfl : v5 = 0 ∨ v5 = 1 ∨ v5 = 2 ∨ v5 = 3 ∨ v5 = 4 ∨ v5 = 5 := by omega
  · have hc := hcell 0
    clear hcell
    go_wp2
    go_ret
    exact ⟨_, rfl, by omega, by omega, hbel.out⟩
  · have hc := hcell 1
    clear hcell
    go_wp2
    go_ret
    exact ⟨_, rfl, by omega, by omega, hbel.out⟩
  · have hc := hcell 2
    clear hcell
    go_wp2
    go_ret
    exact ⟨_, rfl, by omega, by omega, hbel.out⟩
  · have hc := hcell 3
    clear hcell
    go_wp2
    go_ret
    exact ⟨_, rfl, by omega, by omega, hbel.out⟩
  · have hc := hcell 4
    clear hcell
    go_wp2
    go_ret
    exact ⟨_, rfl, by omega, by omega, hbel.out⟩
  · have hc := hcell 5
    clear hcell
    go_wp2
    go_ret
    exact ⟨_, rfl, by omega, by omega, hbel.out⟩


end Go.Proofs.Ythmmcnabfmegfaa
