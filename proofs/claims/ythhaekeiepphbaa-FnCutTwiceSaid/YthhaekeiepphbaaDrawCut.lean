/-
  WALKS: the drawn case of BlockCut: a block and two times.
-/
import Derived.Test.YthhaekeiepphbaaDrawRows
namespace Go.Proofs.Ythhaekeiepphbaa
set_option linter.unusedVariables false
open Go.RowKit

def DrawnCut (w : World) (e : Ending) (w' : World) : Prop :=
  ∃ (l : List PB.Row) (lo hi : Int) (A : Option Addr) (c : Nat), e = .returned (.tuple #[.slice A l.length c, .int .i64 lo, .int .i64 hi]) ∧ l.length ≤ 30 ∧ (-2 ≤ lo ∧ lo ≤ 27) ∧ (-4 ≤ hi ∧ hi ≤ 54) ∧ w'.ownsRow w.heap.size 32 2 (.slice A l.length c) l.length (rows l) ∧ Below w.heap.size w w'

set_option maxRecDepth 100000 in
set_option maxHeartbeats 1600000 in
theorem drawBlockCut_any (A : Option Addr) (n c : Nat) (zs : List Int) (w : World) (hz : zs.length = n) (h : Rd w w.heap.size 1 A n (u8s zs)) (hb : ByteL zs) (hc : n ≤ c) (hm : c ≤ maxLen) :
    Calls Try.prog 19 #[.slice A n c] w (DrawnCut w) := by
  have H1 := hide (open_any A n c zs w hz h hb hc hm)
  clear hz h hb hc hm
  go_enter Try.func19, Try.ntmps19
  go_wp2_with fail
  refine H1.out.mono ?_
  rintro e w1 ⟨rfl, hr1, hb1, hs1⟩
  have S1 := hide hs1
  have B1 := hide hb1
  clear hs1 H1 hb1
  go_wp2_with fail
  refine (pick_any _ _ _ _ _ hr1 (by omega) (by omega)).mono ?_
  rintro e w2 ⟨v2, rfl, l2, u2, hr2, g2, hs2⟩
  have u2 := u2 (by omega)
  have hRl : w.heap.size < w2.heap.size := by have := S1.out; omega
  have B2 := hide (B1.out.trans (Kept.to_below (R := w.heap.size) g2 (Nat.le_refl _) B1.out.size))
  clear hs2 g2 B1 hr1
  go_wp2_with fail
  refine (l71Block_any _ _ _ _ hr2 (by omega)).mono ?_
  rintro e w3 ⟨A3, c3, l3, rfl, o3, hl3, hr3, hk3⟩
  have O3 := hide o3
  have B3 := hide (B2.out.trans (hk3.to_below (Nat.le_refl _) B2.out.size))
  clear o3 hk3 hr2
  go_wp2_with fail
  refine (pick_any _ _ _ _ _ hr3 (by omega) (by omega)).mono ?_
  rintro e w4 ⟨v4, rfl, l4, u4, hr4, g4, hs4⟩
  have u4 := u4 (by omega)
  have O4 := hide (own_pick O3.out g4 hRl)
  have B4 := hide (B3.out.trans (Kept.to_below (R := w.heap.size) g4 (Nat.le_refl _) B3.out.size))
  have F := hide (⟨l3, v2 - 2, v2 - 2 + v4 - 2, A3, c3, rfl, hl3, by omega, by omega, own_base O4.out B2.out.size, B4.out⟩ : DrawnCut w (.returned (.tuple #[.slice A3 l3.length c3, .int .i64 (v2 - 2), .int .i64 (v2 - 2 + v4 - 2)])) w4)
  clear hs4 g4 B3 hr3 hr4 O3 O4 B4 B2
  go_wp2
  exact bodyPost_ret (v := .tuple #[.slice A3 l3.length c3, .int .i64 (v2 - 2), .int .i64 (v2 - 2 + v4 - 2)]) (by simp [results, Try.results19, go_sem]) rfl F.out

end Go.Proofs.Ythhaekeiepphbaa
