/-
  WALKS: the drawn case of BlockMerge: two blocks.
-/
import Derived.Test.YtednahmfjpaehaaDrawRows
namespace Go.Proofs.Ytednahmfjpaehaa
set_option linter.unusedVariables false
open Go.RowKit

def DrawnTwo (w : World) (e : Ending) (w' : World) : Prop :=
  ∃ (a b : List PB.Row) (A : Option Addr) (c : Nat) (A' : Option Addr) (c' : Nat), e = .returned (.tuple #[.slice A a.length c, .slice A' b.length c']) ∧ a.length ≤ 30 ∧ b.length ≤ 30 ∧ w'.ownsRow w.heap.size 30 2 (.slice A a.length c) a.length (rows a) ∧ w'.ownsRow w.heap.size 30 2 (.slice A' b.length c') b.length (rows b) ∧ Below w.heap.size w w'

set_option maxRecDepth 100000 in
set_option maxHeartbeats 1600000 in
theorem drawBlockMerge_any (A : Option Addr) (n c : Nat) (zs : List Int) (w : World) (hz : zs.length = n) (h : Rd w w.heap.size 1 A n (u8s zs)) (hb : ByteL zs) (hc : n ≤ c) (hm : c ≤ maxLen) :
    Calls Try.prog 20 #[.slice A n c] w (DrawnTwo w) := by
  have H1 := hide (open_any A n c zs w hz h hb hc hm)
  clear hz h hb hc hm
  go_enter Try.func20, Try.ntmps20
  go_wp2_with fail
  refine H1.out.mono ?_
  rintro e w1 ⟨rfl, hr1, hb1, hs1⟩
  have S1 := hide hs1
  have B1 := hide hb1
  clear hs1 H1 hb1
  go_wp2_with fail
  refine (l71Block_any _ _ _ _ hr1 (by omega)).mono ?_
  rintro e w2 ⟨A2, c2, l2, rfl, o2, hl2, hr2, hk2⟩
  have O2 := hide o2
  have B2 := hide (B1.out.trans (hk2.to_below (Nat.le_refl _) B1.out.size))
  have hRl : w.heap.size < w1.heap.size := by have := S1.out; omega
  clear o2 hk2 hr1
  go_wp2_with fail
  refine (l71Block_any _ _ _ _ hr2 (by omega)).mono ?_
  rintro e w3 ⟨A3, c3, l3, rfl, o3, hl3, hr3, hk3⟩
  have F := hide (⟨l2, l3, A2, c2, A3, c3, rfl, hl2, hl3, own_base (own_pick O2.out hk3 hRl) B1.out.size, own_base o3 B2.out.size, B2.out.trans (hk3.to_below (Nat.le_refl _) B2.out.size)⟩ : DrawnTwo w (.returned (.tuple #[.slice A2 l2.length c2, .slice A3 l3.length c3])) w3)
  clear o3 hk3 hr2 hr3 O2 B2 B1
  go_wp2
  exact bodyPost_ret (v := .tuple #[.slice A2 l2.length c2, .slice A3 l3.length c3]) (by simp [results, Try.results20, go_sem]) rfl F.out

end Go.Proofs.Ytednahmfjpaehaa
