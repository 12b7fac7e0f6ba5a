/-
  WALKS: a drawn filter and name.
-/
import Derived.Test.YtgedlpdjnnbolaaDrawFilter
import Derived.Deep.RegionWith
import Derived.Deep.Cut
import Derived.Deep.CutRange
namespace Go.Proofs.Ytgedlpdjnnbolaa
set_option linter.unusedVariables false
open Go.RowKit

def DrawnFF (w : World) (e : Ending) (w' : World) : Prop :=
  ∃ (f : List PT.Cond) (n : List PT.Tag) (A : Option Addr) (c : Nat) (A' : Option Addr) (c' : Nat), e = .returned (.tuple #[.slice A f.length c, .slice A' n.length c']) ∧ f.length ≤ 4 ∧ n.length ≤ 5 ∧ w'.ownsRow w.heap.size 29 3 (.slice A f.length c) f.length (cnds f) ∧ w'.ownsRow w.heap.size 27 2 (.slice A' n.length c') n.length (tgs n) ∧ Below w.heap.size w w'

set_option maxRecDepth 100000 in
set_option maxHeartbeats 3200000 in
theorem drawFilterFits_any (A : Option Addr) (n c : Nat) (zs : List Int) (w : World) (hz : zs.length = n) (h : Rd w w.heap.size 1 A n (u8s zs)) (hb : ByteL zs) (hc : n ≤ c) (hm : c ≤ maxLen) :
    Calls Try.prog 25 #[.slice A n c] w (DrawnFF w) := by
  have H1 := hide (open_any A n c zs w hz h hb hc hm)
  clear hz h hb hc hm
  go_enter Try.func25, Try.ntmps25
  go_wp2_with fail
  refine H1.out.mono ?_
  rintro e w1 ⟨rfl, hr1, hb1, hs1⟩
  have hRl : Hid (w.heap.size < w1.heap.size) := hide (by omega)
  have B1 := hide hb1
  clear hs1 H1 hb1
  have C2 := hide (l71Name_any _ _ _ _ hr1 (by omega))
  clear hr1
  go_wp2_with fail
  refine C2.out.mono ?_
  rintro e w2 ⟨A2, c2, z, rfl, o2, hl2, hl1, hsm, hr2, hk2⟩
  have O2 := hide o2
  have B2 := hide (B1.out.trans (hk2.to_below (Nat.le_refl _) B1.out.size))
  have C3 := hide (l71Filter_any _ _ _ _ hr2 (by omega))
  have hw12 := hide hk2.size
  have hRl2 : Hid (w.heap.size < w2.heap.size) := hide (Nat.lt_of_lt_of_le hRl.out hk2.size)
  clear o2 hk2 hr2 C2 hsm B1
  go_wp2_with fail
  refine C3.out.mono ?_
  rintro e w3 ⟨A3, c3, f, rfl, o3, hl3, hsf, hr3, hk3⟩
  have O2' := hide (own_pick O2.out hk3 hRl.out)
  have O3 := hide o3
  have B3 := hide (B2.out.trans (hk3.to_below (Nat.le_refl _) B2.out.size))
  have P4 := hide (pick_any _ _ _ 2 _ hr3 (by omega) (by omega))
  clear o3 hk3 hr3 C3 hsf B2 O2
  go_wp2_with fail
  refine P4.out.mono ?_
  rintro e w4 ⟨v4, rfl, l4, u4, hr4, g4, hs4⟩
  have O2 := hide (own_pick O2'.out g4 hRl.out)
  have O4 := hide (own_pick O3.out g4 hRl2.out)
  have B4 := hide (B3.out.trans (Kept.to_below (R := w.heap.size) g4 (Nat.le_refl _) B3.out.size))
  have R4 := hide hr4
  clear g4 hs4 hr4 P4 O2' O3 B3 u4
  by_cases h4 : v4 = 0
  · subst h4
    have R4d : Hid (Rdr w4.drew w.heap.size w.heap.size 101) := hide (R4.out.more (by omega))
    have P5 : Hid (Calls Try.prog 35 #[.pointer (some ⟨w.heap.size, 0, none⟩), .int .i64 (z.length : Int)] w4.drew (Picked w4.drew w.heap.size w.heap.size 101 (z.length : Int))) := hide (pick_any _ _ _ _ _ R4d.out (by omega) (by omega))
    have O2d : Hid (w4.drew.ownsRow w1.heap.size 27 2 (.slice A2 z.length c2) z.length (tgs z)) := hide O2.out
    have B4d : Hid (Below w.heap.size w w4.drew) := hide B4.out.drew
    clear R4 R4d O4 B4 O2
    go_wp2
    go_cut [6] from 16 to 27 (fun s6 wx => ∃ (f : List PT.Cond) (A : Option Addr) (c : Nat), s6 = .slice A f.length c ∧ f.length ≤ 4 ∧ Hid (wx.ownsRow w.heap.size 29 3 (.slice A f.length c) f.length (cnds f)) ∧ Hid (wx.ownsRow w.heap.size 27 2 (.slice A2 z.length c2) z.length (tgs z)) ∧ Hid (Below w.heap.size w wx))
    case first =>
      go_region_with (first
        | (go_at_call 35; refine (pick_any _ _ _ 5 _ R6.out (by omega) (by omega)).mono ?_; rintro e w7 ⟨v7, rfl, l7, u7', hr7, g7, hs7⟩; have O7 := hide (own_pick O6.out g7 hRl.out); have B7 := hide (B6.out.trans (Kept.to_below (R := w.heap.size) g7 (Nat.le_refl _) B6.out.size)); have hbn : b ≠ w.heap.size := (by rcases O6.out.2 with ⟨hn, _⟩ | ⟨g, _, _, he, hg, _⟩; (cases hn); (injection he with he; injection he with he; injection he with he1; have := hRl.out; omega)); have c71 := cell_kept g7 c61 hbn; have c72 := cell_kept g7 c62 hbn; clear g7 hs7 hr7 u7')
        | (go_at_call 35; refine P5.out.mono ?_; rintro e w6 ⟨v6, rfl, l6, u6, hr6, g6, hs6⟩; have u7 := u6 (by omega); obtain ⟨j, rfl⟩ := Int.eq_ofNat_of_zero_le l6; have hj : j < z.length := (by omega); have O6 := hide (own_pick O2d.out g6 hRl.out); have B6 := hide (B4d.out.trans (Kept.to_below (R := w.heap.size) g6 (Nat.le_refl _) B4d.out.size)); obtain ⟨b, off, rfl, hb6, hc6⟩ := (Rd.of_own O6.out).tag rfl hj; obtain ⟨c61, c62⟩ := hc6 j hj; obtain ⟨y, hy⟩ : ∃ y, z.getD j ([], []) = y := ⟨_, rfl⟩; rw [hy] at c61 c62; obtain ⟨t, v⟩ := y; have R6 := hide hr6; clear hc6 hy g6 hs6 hr6 u6))
      all_goals (simp [Act.put]; go_wp2_with fail; go_meet)
      all_goals exact ⟨[((t, v), v7 == 0)], some ⟨w7.heap.size, 0, none⟩, 1, rfl, by simp, hide (World.ownsRow_lit w7 #[.string (S t), .string (S v), .bool (v7 == 0)] 1 B7.out.size (by unfold maxLen; omega) rfl), hide ((own_base O7.out (Nat.le_of_lt hRl.out)).alloc _), hide (B7.out.alloc B7.out.size _)⟩
    case rest =>
      obtain ⟨W1, hW1⟩ : ∃ W1, W1 = wc := ⟨_, rfl⟩
      subst hW1
      obtain ⟨f', A', c', rfl, hl', O', Z', B'⟩ := hcut
      have F := hide (⟨f', z, A', c', A2, c2, rfl, hl', hl2, O'.out, Z'.out, B'.out⟩ : DrawnFF w (.returned (.tuple #[.slice A' f'.length c', .slice A2 z.length c2])) W1)
      clear O' Z' B'
      go_wp2
      exact bodyPost_ret (v := .tuple #[.slice A' f'.length c', .slice A2 z.length c2]) (by simp [results, Try.results25, go_sem]) rfl F.out
  · have hv2 : (v4 == 0) = false := beq_eq_false_iff_ne.2 h4
    have F := hide (⟨f, z, A3, c3, A2, c2, rfl, hl3, hl2, own_base O4.out (by have := hRl2.out; omega), own_base O2.out (by have := hRl.out; omega), B4.out⟩ : DrawnFF w (.returned (.tuple #[.slice A3 f.length c3, .slice A2 z.length c2])) w4)
    clear O4 O2 B4 R4 h4
    go_wp2
    exact bodyPost_ret (v := .tuple #[.slice A3 f.length c3, .slice A2 z.length c2]) (by simp [results, Try.results25, go_sem]) rfl F.out

end Go.Proofs.Ytgedlpdjnnbolaa
