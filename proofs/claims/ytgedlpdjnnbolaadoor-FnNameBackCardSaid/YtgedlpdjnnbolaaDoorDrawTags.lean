/-
  WALKS: a drawn string of some, a drawn tag.
-/
import Derived.Test.YtgedlpdjnnbolaaDoorKept
namespace Go.Proofs.YtgedlpdjnnbolaaDoor
set_option linter.unusedVariables false
open Go.RowKit

set_option maxRecDepth 100000 in
set_option maxHeartbeats 1600000 in
theorem of_any (B R k : Nat) (b m c : Nat) (w : World) (h : Rdr w B R k) (hk : k ≤ 1000000) (hm : 1 ≤ m ∧ m ≤ 10) (hbR : b ≠ R) (hcell : ∀ j, j < m → ∃ s : ByteArray, w.cell? ⟨b, j, none⟩ = some (.string s) ∧ s.size ≤ 3) :
    Calls Tryd.prog 31 #[.pointer (some ⟨R, 0, none⟩), .slice (some ⟨b, 0, none⟩) m c] w fun e w' => ∃ s : List UInt8, e = .returned (.string (S s)) ∧ s.length ≤ 3 ∧ Rdr w' B R (k + 1) ∧ Kept R w w' ∧ w'.heap.size = w.heap.size := by
  have C := hide (pick_any B R k (m : Int) w h hk (by omega))
  have HC := hide hcell
  clear h hcell
  go_enter Tryd.func31, Tryd.ntmps31
  go_wp2_with fail
  refine C.out.mono ?_
  rintro e w2 ⟨v, rfl, l2, u2, hr2, g2, hs2⟩
  have u2 := u2 (by omega)
  obtain ⟨j, rfl⟩ := Int.eq_ofNat_of_zero_le l2
  have hj : j < m := by omega
  obtain ⟨s, c1, hsl⟩ := HC.out j hj
  obtain ⟨s, rfl⟩ : ∃ l, s = S l := ⟨_, S_of s⟩
  rw [S_size] at hsl
  have c2 := cell_kept g2 c1 hbR
  have G2 := hide g2
  clear g2 c1 C
  go_wp2
  go_ret
  exact ⟨s, rfl, hsl, hr2, G2.out, hs2⟩

theorem lit3 (w : World) (a b c : ByteArray) (t : TypeId) (h1 : a.size ≤ 3) (h2 : b.size ≤ 3) (h3 : c.size ≤ 3) : ∀ j, j < 3 → ∃ s : ByteArray, (w.alloc (.cells #[.string a, .string b, .string c] t)).cell? ⟨w.heap.size, j, none⟩ = some (.string s) ∧ s.size ≤ 3 := by
  intro j hj
  rw [World.cell?_alloc_new]
  match j, hj with
  | 0, _ => exact ⟨a, rfl, h1⟩
  | 1, _ => exact ⟨b, rfl, h2⟩
  | 2, _ => exact ⟨c, rfl, h3⟩
/-- One of three strings that are laid for it. -/
theorem of_three (B R k : Nat) (w : World) (h : Rdr w B R k) (hk : k ≤ 1000000) (g : Nat) (hg : w.heap.size = g) (a b c : ByteArray) (h1 : a.size ≤ 3) (h2 : b.size ≤ 3) (h3 : c.size ≤ 3) :
    Calls Tryd.prog 31 #[.pointer (some ⟨R, 0, none⟩), .slice (some ⟨g, 0, none⟩) 3 3] (w.alloc (.cells #[.string a, .string b, .string c] 9)) fun e w' => ∃ s : List UInt8, e = .returned (.string (S s)) ∧ s.length ≤ 3 ∧ Rdr w' B R (k + 1) ∧ Kept R w w' ∧ w'.heap.size = w.heap.size + 1 ∧ ∀ i, i < w.heap.size → i ≠ R → w'.heap[i]? = w.heap[i]? := by
  subst hg
  have hlt := h.lt
  refine (of_any B R k w.heap.size 3 3 _ (h.below ((Below.refl _ _).alloc hlt _)) hk (by omega) (by omega) (lit3 w a b c 9 h1 h2 h3)).mono ?_
  rintro e w' ⟨s, rfl, hs, hr, hk2, hsz⟩
  refine ⟨s, rfl, hs, hr, ((Kept.refl R w).alloc _).trans hk2, by rw [hsz]; simp, fun i hi hne => ?_⟩
  exact (hk2.block i (by simp; omega) (by intro e; injection e; omega)).trans (Below.heap_alloc w _ i hi)

def DrawnTag (w : World) (B R k : Nat) (e : Ending) (w' : World) : Prop :=
  ∃ t v : List UInt8, e = .returned (.agg #[.string (S t), .string (S v)]) ∧ t.length ≤ 3 ∧ v.length ≤ 3 ∧ Rdr w' B R (k + 2) ∧ Kept R w w'

set_option maxRecDepth 100000 in
set_option maxHeartbeats 3200000 in
theorem l71Tag_any (B R k : Nat) (w : World) (h : Rdr w B R k) (hk : k ≤ 1000) : Calls Tryd.prog 32 #[.pointer (some ⟨R, 0, none⟩)] w (DrawnTag w B R k) := by
  have hR := h.lt
  have r0 := hide (h.below (w' := w.alloc (.cells #[.string ⟨#[]⟩, .string ⟨#[]⟩] 42)) ((Below.refl _ _).alloc hR _))
  have K0 : Hid (Kept R w (w.alloc (.cells #[.string ⟨#[]⟩, .string ⟨#[]⟩] 42))) := hide ((Kept.refl R w).alloc _)
  have q0 : Hid ((w.alloc (.cells #[.string ⟨#[]⟩, .string ⟨#[]⟩] 42)).heap[w.heap.size]? = some (.cells #[.string ⟨#[]⟩, .string ⟨#[]⟩] 42 (0, 0))) := hide (heap_alloc_new _ _)
  have C1 := hide (of_three B R k _ r0.out (by omega) (w.heap.size + 1) (by simp))
  clear h
  go_enter Tryd.func32, Tryd.ntmps32
  go_wp2_with fail
  refine (C1.out _ _ _ (by decide) (by decide) (by decide)).mono ?_
  rintro e w2 ⟨t, rfl, ht, hr2, g2, hs2, hb2⟩
  have K2 := hide (K0.out.trans g2)
  have q2 := hide ((hb2 w.heap.size (by simp) (by omega)).trans q0.out)
  have hs2' := hide (show w.heap.size < w2.heap.size by rw [hs2]; simp; omega)
  clear g2 hs2 C1 K0 q0 r0 hb2
  have C3 := hide (of_three B R (k + 1) w2 hr2 (by omega) w2.heap.size rfl)
  go_wp2_with fail
  refine (C3.out _ _ _ (by decide) (by decide) (by decide)).mono ?_
  rintro e w4 ⟨v, rfl, hv, hr4, g4, hs4, hb4⟩
  have K4 := hide (K2.out.trans g4)
  have q4 := hide ((hb4 w.heap.size hs2'.out (by omega)).trans q2.out)
  clear g4 hs4 C3 K2 q2 hb4 hr2
  obtain ⟨a0, a1, f0, f1⟩ := cell_two q4.out
  go_wp2
  obtain ⟨e0, e1, _, _⟩ := cell_two (set_two (.string (S t)) (.string (S v)) q4.out)
  have KF := (K4.out.set_ (p := ⟨w.heap.size, 0, none⟩) (Nat.le_refl _) (.string (S t))).set_ (p := ⟨w.heap.size, 1, none⟩) (Nat.le_refl _) (.string (S v))
  have RF := hr4.below (w' := (w4.setCell ⟨w.heap.size, 0, none⟩ (.string (S t))).setCell ⟨w.heap.size, 1, none⟩ (.string (S v))) (((Below.refl _ _).setCell (p := ⟨w.heap.size, 0, none⟩) hR _).setCell (p := ⟨w.heap.size, 1, none⟩) hR _)
  exact bodyPost_ret (v := .agg #[.string (S t), .string (S v)]) (by simp [results, Tryd.results32, go_sem, e0, e1]) rfl ⟨t, v, rfl, ht, hv, RF, KF⟩

end Go.Proofs.YtgedlpdjnnbolaaDoor
