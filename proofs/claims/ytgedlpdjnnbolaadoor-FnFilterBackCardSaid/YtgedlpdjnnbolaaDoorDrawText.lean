/-
  WALKS: drawn names and filters, for the texts.
-/
import Derived.Test.YtgedlpdjnnbolaaDoorDrawOk
namespace Go.Proofs.YtgedlpdjnnbolaaDoor
set_option linter.unusedVariables false
open Go.RowKit

set_option maxRecDepth 100000 in
set_option maxHeartbeats 3200000 in
theorem drawNameText_any (A : Option Addr) (n c : Nat) (zs : List Int) (w : World) (hz : zs.length = n) (h : Rd w w.heap.size 1 A n (u8s zs)) (hb : ByteL zs) (hc : n ≤ c) (hm : c ≤ maxLen) :
    Calls Tryd.prog 6 #[.slice A n c] w (DrawnN w) := by
  have H1 := hide (open_any A n c zs w hz h hb hc hm)
  clear hz h hb hc hm
  go_enter Tryd.func6, Tryd.ntmps6
  go_wp2_with fail
  refine H1.out.mono ?_
  rintro e w1 ⟨rfl, hr1, hb1, hs1⟩
  have hRl : Hid (w.heap.size < w1.heap.size) := hide (by omega)
  have B1 := hide hb1
  clear hs1 H1 hb1
  have C2 := hide (l71Name_any _ _ _ _ hr1 (by omega))
  clear hr1
  go_wp2_with fail
  refine C2.out.mono ?_
  rintro e w2 ⟨A2, c2, l2, rfl, o2, hl2, hl1, hsm, hr2, hk2⟩
  have F : Hid (DrawnN w (.returned (.slice A2 l2.length c2)) w2) := hide ⟨A2, c2, l2, rfl, by omega, hsm, own_base o2 (by have := hRl.out; omega), B1.out.trans (hk2.to_below (Nat.le_refl _) B1.out.size)⟩
  clear o2 hk2 hr2 hsm B1 C2
  go_wp2
  go_ret
  exact F.out

set_option maxRecDepth 100000 in
set_option maxHeartbeats 3200000 in
theorem drawFilterText_any (A : Option Addr) (n c : Nat) (zs : List Int) (w : World) (hz : zs.length = n) (h : Rd w w.heap.size 1 A n (u8s zs)) (hb : ByteL zs) (hc : n ≤ c) (hm : c ≤ maxLen) :
    Calls Tryd.prog 12 #[.slice A n c] w (DrawnF w) := by
  have H1 := hide (open_any A n c zs w hz h hb hc hm)
  clear hz h hb hc hm
  go_enter Tryd.func12, Tryd.ntmps12
  go_wp2_with fail
  refine H1.out.mono ?_
  rintro e w1 ⟨rfl, hr1, hb1, hs1⟩
  have hRl : Hid (w.heap.size < w1.heap.size) := hide (by omega)
  have B1 := hide hb1
  clear hs1 H1 hb1
  have C2 := hide (l71Filter_any _ _ _ _ hr1 (by omega))
  clear hr1
  go_wp2_with fail
  refine C2.out.mono ?_
  rintro e w2 ⟨A2, c2, l2, rfl, o2, hl2, hsm, hr2, hk2⟩
  have F : Hid (DrawnF w (.returned (.slice A2 l2.length c2)) w2) := hide ⟨A2, c2, l2, rfl, by omega, hsm, own_base o2 (by have := hRl.out; omega), B1.out.trans (hk2.to_below (Nat.le_refl _) B1.out.size)⟩
  clear o2 hk2 hr2 hsm B1 C2
  go_wp2
  go_ret
  exact F.out

end Go.Proofs.YtgedlpdjnnbolaaDoor
