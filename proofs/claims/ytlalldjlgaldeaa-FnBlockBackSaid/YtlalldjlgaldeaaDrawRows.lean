/-
  WALKS: drawn rows and blocks.
-/
import Derived.Test.YtlalldjlgaldeaaRead
import Derived.Test.YtlalldjlgaldeaaPutSpec
namespace Go.Proofs.Ytlalldjlgaldeaa
set_option linter.unusedVariables false
open Go.RowKit

/-- Of what there was in w only block R has turned. -/
def Kept (R : Nat) (w w' : World) : Prop := w.grownBy w' (some R)
theorem Kept.refl (R : Nat) (w : World) : Kept R w w := ⟨rfl, rfl, rfl, Nat.le_refl _, fun _ _ _ => rfl⟩
theorem Kept.trans {R : Nat} {a b c : World} (h : Kept R a b) (k : b.grownBy c (some R)) : Kept R a c :=
  ⟨k.os.trans h.os, k.tape.trans h.tape, k.output.trans h.output, Nat.le_trans h.size k.size, fun i hi hne => (k.block i (Nat.lt_of_lt_of_le hi h.size) hne).trans (h.block i hi hne)⟩
theorem Kept.below {R : Nat} {a b c : World} (h : Kept R a b) (k : Below a.heap.size b c) : Kept R a c :=
  ⟨k.os.trans h.os, k.tape.trans h.tape, k.output.trans h.output, Nat.le_trans h.size k.size, fun i hi hne => (k.block i hi).trans (h.block i hi hne)⟩
theorem Kept.alloc {R : Nat} {a b : World} (h : Kept R a b) (o : Obj) : Kept R a (b.alloc o) := h.below ((Below.refl _ _).alloc h.size o)
theorem Kept.own {R : Nat} {a b c : World} {row : Option Nat} (h : Kept R a b) (k : b.grownBy c row) (hr : ∀ g, row = some g → a.heap.size ≤ g) : Kept R a c := h.below ((Below.refl _ _).grown k h.size hr)
theorem Kept.set_ {R : Nat} {a b : World} (h : Kept R a b) {p : Addr} (hp : a.heap.size ≤ p.block) (u : Value) : Kept R a (b.setCell p u) := h.below ((Below.refl _ _).setCell hp u)
theorem Kept.to_below {R B : Nat} {a b : World} (h : Kept R a b) (hB : B ≤ R) (hs : B ≤ a.heap.size) : Below B a b :=
  ⟨h.os, h.tape, h.output, h.size, fun k hk => h.block k (by omega) (by intro e; injection e; omega)⟩
/-- A row behind R is not touched by a pick. -/
theorem own_pick {R B e size n : Nat} {w w' : World} {v : Value} {xs : List Value} (h : w.ownsRow B e size v n xs) (g : w.grownBy w' (some R)) (hB : R < B) : w'.ownsRow B e size v n xs :=
  h.kept g (by
    rcases ho : v.ownBlock with _ | k
    · exact .inl rfl
    · refine .inr ?_
      intro e
      injection e with e
      have := (h.lt k ho).1
      omega)
theorem cell_kept {R b j : Nat} {w w' : World} {v : Value} (g : w.grownBy w' (some R)) (h : w.cell? ⟨b, j, none⟩ = some v) (hb : b ≠ R) : w'.cell? ⟨b, j, none⟩ = some v :=
  g.cell h (by intro e; injection e with e; exact hb e)
theorem free_kept {R b j : Nat} {w w' : World} {v : Value} (g : w.grownBy w' (some R)) (h : w.cell? ⟨b, j, none⟩ = some v) (hf : w.frozen? ⟨b, j, none⟩ = false) (hb : b ≠ R) : w'.frozen? ⟨b, j, none⟩ = false := by
  rw [World.frozen?_of_block (w := w) (a := ⟨b, j, none⟩) (g.block b (World.block_lt_of_cell? _ _ h) (by intro e; injection e with e; exact hb e))]
  exact hf

/-- Two stores into a block of two cells. -/
theorem set_two {w : World} {g : Nat} {e : TypeId} {a b : Value} (x y : Value) (h : w.heap[g]? = some (.cells #[a, b] e (0, 0))) :
    ((w.setCell ⟨g, 0, none⟩ x).setCell ⟨g, 1, none⟩ y).heap[g]? = some (.cells #[x, y] e (0, 0)) := by
  have h1 := heap_setCell_same w g 0 _ e x h
  have h2 := heap_setCell_same _ g 1 _ e y h1
  simpa using h2
theorem cell_two {w : World} {g : Nat} {e : TypeId} {a b : Value} (h : w.heap[g]? = some (.cells #[a, b] e (0, 0))) : w.cell? ⟨g, 0, none⟩ = some a ∧ w.cell? ⟨g, 1, none⟩ = some b ∧ w.frozen? ⟨g, 0, none⟩ = false ∧ w.frozen? ⟨g, 1, none⟩ = false :=
  ⟨by rw [cell_of_row _ _ _ _ _ _ h]; rfl, by rw [cell_of_row _ _ _ _ _ _ h]; rfl, frozen_of_row _ _ _ _ _ h, frozen_of_row _ _ _ _ _ h⟩

/-- A slice's length: for a loop's measure. -/
def lenR : Value → Nat | .slice _ n _ => n | _ => 0

/-- A drawn row. -/
def DrawnRow (w : World) (B R k : Nat) (e : Ending) (w' : World) : Prop :=
  ∃ t v : Int, e = .returned (.agg #[.int .i64 t, .int .i64 v]) ∧ -1 ≤ t ∧ t ≤ 100 ∧ -100 ≤ v ∧ v ≤ 100 ∧ Rdr w' B R (k + 4) ∧ Kept R w w'

set_option maxRecDepth 100000 in
set_option maxHeartbeats 3200000 in
theorem l71Row_any (B R k0 : Nat) (w : World) (h : Rdr w B R k0) (hk : k0 ≤ 1000) : Calls Try.prog 39 #[.pointer (some ⟨R, 0, none⟩)] w (DrawnRow w B R k0) := by
  have hR := h.lt
  have h' := h.below (w' := w.alloc (.cells #[.int .i64 0, .int .i64 0] 32)) ((Below.refl _ _).alloc hR _)
  have K0 : Hid (Kept R w (w.alloc (.cells #[.int .i64 0, .int .i64 0] 32))) := hide ((Kept.refl R w).alloc _)
  have q0 : Hid ((w.alloc (.cells #[.int .i64 0, .int .i64 0] 32)).heap[w.heap.size]? = some (.cells #[.int .i64 0, .int .i64 0] 32 (0, 0))) := hide (heap_alloc_new _ _)
  clear h
  go_enter Try.func39, Try.ntmps39
  go_wp2_with fail
  refine (pick_any _ _ _ _ _ h' (by omega) (by omega)).mono ?_
  rintro e w1 ⟨v1, rfl, l1, u1, hr1, g1, hs1⟩
  have u1 := u1 (by omega)
  have K1 := hide (K0.out.trans g1)
  have q1 := hide ((g1.block w.heap.size (by simp) (by intro e; injection e; omega)).trans q0.out)
  clear hs1 g1 K0 h' q0
  go_wp2_with fail
  refine (pick_any _ _ _ _ _ hr1 (by omega) (by omega)).mono ?_
  rintro e w2 ⟨v2, rfl, l2, u2, hr2, g2, hs2⟩
  have u2 := u2 (by omega)
  have K2 := hide (K1.out.trans g2)
  have q2 := hide ((g2.block w.heap.size (lt_of_block q1.out) (by intro e; injection e; omega)).trans q1.out)
  clear hs2 g2 K1 hr1 q1
  have x3 : Hid ((w2.alloc (.cells #[.int .i64 v1, .int .i64 (v2 - 6)] 32)).heap[w2.heap.size]? = some (.cells #[.int .i64 v1, .int .i64 (v2 - 6)] 32 (0, 0))) := hide (heap_alloc_new _ _)
  have q3 : Hid ((w2.alloc (.cells #[.int .i64 v1, .int .i64 (v2 - 6)] 32)).heap[w.heap.size]? = some (.cells #[.int .i64 0, .int .i64 0] 32 (0, 0))) := hide ((Below.heap_alloc _ _ _ (lt_of_block q2.out)).trans q2.out)
  have K3 := hide (K2.out.alloc (.cells #[.int .i64 v1, .int .i64 (v2 - 6)] 32))
  have hr3 := hr2.below (w' := w2.alloc (.cells #[.int .i64 v1, .int .i64 (v2 - 6)] 32)) ((Below.refl _ _).alloc hr2.lt _)
  have hlt2 := hide (lt_of_block q2.out)
  go_wp2_with fail
  refine (pick_any _ _ _ _ _ hr3 (by omega) (by omega)).mono ?_
  rintro e w4 ⟨v4, rfl, l4, u4, hr4, g4, hs4⟩
  have K4 := hide (K3.out.trans g4)
  have q4 := hide ((g4.block w.heap.size (lt_of_block q3.out) (by intro e; injection e; omega)).trans q3.out)
  have x4 := hide ((g4.block w2.heap.size (lt_of_block x3.out) (by intro e; injection e; have := hlt2.out; omega)).trans x3.out)
  clear hs4 g4 K3 q3 x3 hr3 hr2
  rcases (show v4 = 0 ∨ v4 = 1 ∨ 2 ≤ v4 from by omega) with h4 | h4 | h4
  · subst h4
    have hr5 := hr4.below (w' := w4.alloc (.cells #[.int .i64 (-1), .int .i64 99, .int .i64 100] 3)) ((Below.refl _ _).alloc hr4.lt _)
    go_wp2_with fail
    refine (pick_any _ _ _ _ _ hr5 (by omega) (by omega)).mono ?_
    rintro e w6 ⟨v6, rfl, l6, u6, hr6, g6, hs6⟩
    have u6 := u6 (by omega)
    have q6 := hide ((g6.block w.heap.size (by have := lt_of_block q4.out; simp; omega) (by intro e; injection e; omega)).trans ((Below.heap_alloc _ _ _ (lt_of_block q4.out)).trans q4.out))
    have x6 := hide ((g6.block w2.heap.size (by have := lt_of_block x4.out; simp; omega) (by intro e; injection e; have := hlt2.out; omega)).trans ((Below.heap_alloc _ _ _ (lt_of_block x4.out)).trans x4.out))
    have hcell : ∀ j, w6.cell? ⟨w4.heap.size, j, none⟩ = #[Value.int .i64 (-1), .int .i64 99, .int .i64 100][j]? := by
      intro j
      have hl := hr4.lt
      rw [World.cell?_of_block (w := w4.alloc _) (g6.block w4.heap.size (by simp) (by intro e; injection e; omega))]
      exact World.cell?_alloc_new _ _ _ _
    have K6 := hide ((K4.out.alloc (.cells #[.int .i64 (-1), .int .i64 99, .int .i64 100] 3)).trans g6)
    obtain ⟨x7, hx7, hb7, hb8⟩ : ∃ x7 : Int, w6.cell? ⟨w4.heap.size, v6.toNat, none⟩ = some (.int .i64 x7) ∧ -1 ≤ x7 ∧ x7 ≤ 100 := by
      rcases (show v6 = 0 ∨ v6 = 1 ∨ v6 = 2 from by omega) with h6 | h6 | h6 <;> subst h6 <;> exact ⟨_, hcell _, by omega, by omega⟩
    obtain ⟨n6, rfl⟩ := Int.eq_ofNat_of_zero_le l6
    simp only [Int.toNat_natCast] at hx7
    have hx4 := hide (lt_of_block x4.out)
    clear hcell hr4 hr5 g6 hs6 q4 x4 K4
    have x8 : Hid ((w6.setCell ⟨w2.heap.size, 0, none⟩ (.int .i64 x7)).heap[w2.heap.size]? = some (.cells #[.int .i64 x7, .int .i64 (v2 - 6)] 32 (0, 0))) := hide (by
      have := heap_setCell_same w6 w2.heap.size 0 _ 32 (.int .i64 x7) x6.out
      simpa using this)
    have q8 : Hid ((w6.setCell ⟨w2.heap.size, 0, none⟩ (.int .i64 x7)).heap[w.heap.size]? = some (.cells #[.int .i64 0, .int .i64 0] 32 (0, 0))) := hide ((Below.heap_setCell _ _ _ _ (by have := hlt2.out; simp; omega)).trans q6.out)
    have K8 := hide (K6.out.set_ (p := ⟨w2.heap.size, 0, none⟩) (Nat.le_of_lt hlt2.out) (.int .i64 x7))
    have hr8 := hr6.below (w' := w6.setCell ⟨w2.heap.size, 0, none⟩ (.int .i64 x7)) ((Below.refl _ _).setCell (p := ⟨w2.heap.size, 0, none⟩) (by have := hlt2.out; show R + 1 ≤ w2.heap.size; omega) _)
    obtain ⟨b0, b1, fb0, fb1⟩ := cell_two x6.out
    obtain ⟨a0, a1, f0, f1⟩ := cell_two q8.out
    obtain ⟨d0, d1, _, _⟩ := cell_two x8.out
    have hne1 := hlt2.out
    have hne2 := hx4.out
    go_wp2
    obtain ⟨e0, e1, _, _⟩ := cell_two (set_two (.int .i64 (x7)) (.int .i64 (v2 - 6)) q8.out)
    have KF := (K8.out.set_ (p := ⟨w.heap.size, 0, none⟩) (Nat.le_refl _) (.int .i64 (x7))).set_ (p := ⟨w.heap.size, 1, none⟩) (Nat.le_refl _) (.int .i64 (v2 - 6))
    have RF := hr8.below (w' := ((w6.setCell ⟨w2.heap.size, 0, none⟩ (.int .i64 x7)).setCell ⟨w.heap.size, 0, none⟩ (.int .i64 (x7))).setCell ⟨w.heap.size, 1, none⟩ (.int .i64 (v2 - 6))) (((Below.refl _ _).setCell (p := ⟨w.heap.size, 0, none⟩) hR _).setCell (p := ⟨w.heap.size, 1, none⟩) hR _)
    exact bodyPost_ret (v := .agg #[.int .i64 (x7), .int .i64 (v2 - 6)]) (by simp [results, Try.results39, go_sem, e0, e1]) rfl ⟨_, _, rfl, by omega, by omega, by omega, by omega, RF.more (by omega), KF⟩
  · subst h4
    have hr5 := hr4.below (w' := w4.alloc (.cells #[.int .i64 (-99), .int .i64 99, .int .i64 100] 3)) ((Below.refl _ _).alloc hr4.lt _)
    go_wp2_with fail
    refine (pick_any _ _ _ _ _ hr5 (by omega) (by omega)).mono ?_
    rintro e w6 ⟨v6, rfl, l6, u6, hr6, g6, hs6⟩
    have u6 := u6 (by omega)
    have q6 := hide ((g6.block w.heap.size (by have := lt_of_block q4.out; simp; omega) (by intro e; injection e; omega)).trans ((Below.heap_alloc _ _ _ (lt_of_block q4.out)).trans q4.out))
    have x6 := hide ((g6.block w2.heap.size (by have := lt_of_block x4.out; simp; omega) (by intro e; injection e; have := hlt2.out; omega)).trans ((Below.heap_alloc _ _ _ (lt_of_block x4.out)).trans x4.out))
    have hcell : ∀ j, w6.cell? ⟨w4.heap.size, j, none⟩ = #[Value.int .i64 (-99), .int .i64 99, .int .i64 100][j]? := by
      intro j
      have hl := hr4.lt
      rw [World.cell?_of_block (w := w4.alloc _) (g6.block w4.heap.size (by simp) (by intro e; injection e; omega))]
      exact World.cell?_alloc_new _ _ _ _
    have K6 := hide ((K4.out.alloc (.cells #[.int .i64 (-99), .int .i64 99, .int .i64 100] 3)).trans g6)
    obtain ⟨x7, hx7, hb7, hb8⟩ : ∃ x7 : Int, w6.cell? ⟨w4.heap.size, v6.toNat, none⟩ = some (.int .i64 x7) ∧ -99 ≤ x7 ∧ x7 ≤ 100 := by
      rcases (show v6 = 0 ∨ v6 = 1 ∨ v6 = 2 from by omega) with h6 | h6 | h6 <;> subst h6 <;> exact ⟨_, hcell _, by omega, by omega⟩
    obtain ⟨n6, rfl⟩ := Int.eq_ofNat_of_zero_le l6
    simp only [Int.toNat_natCast] at hx7
    have hx4 := hide (lt_of_block x4.out)
    clear hcell hr4 hr5 g6 hs6 q4 x4 K4
    have x8 : Hid ((w6.setCell ⟨w2.heap.size, 1, none⟩ (.int .i64 x7)).heap[w2.heap.size]? = some (.cells #[.int .i64 v1, .int .i64 x7] 32 (0, 0))) := hide (by
      have := heap_setCell_same w6 w2.heap.size 1 _ 32 (.int .i64 x7) x6.out
      simpa using this)
    have q8 : Hid ((w6.setCell ⟨w2.heap.size, 1, none⟩ (.int .i64 x7)).heap[w.heap.size]? = some (.cells #[.int .i64 0, .int .i64 0] 32 (0, 0))) := hide ((Below.heap_setCell _ _ _ _ (by have := hlt2.out; simp; omega)).trans q6.out)
    have K8 := hide (K6.out.set_ (p := ⟨w2.heap.size, 1, none⟩) (Nat.le_of_lt hlt2.out) (.int .i64 x7))
    have hr8 := hr6.below (w' := w6.setCell ⟨w2.heap.size, 1, none⟩ (.int .i64 x7)) ((Below.refl _ _).setCell (p := ⟨w2.heap.size, 1, none⟩) (by have := hlt2.out; show R + 1 ≤ w2.heap.size; omega) _)
    obtain ⟨b0, b1, fb0, fb1⟩ := cell_two x6.out
    obtain ⟨a0, a1, f0, f1⟩ := cell_two q8.out
    obtain ⟨d0, d1, _, _⟩ := cell_two x8.out
    have hne1 := hlt2.out
    have hne2 := hx4.out
    go_wp2
    obtain ⟨e0, e1, _, _⟩ := cell_two (set_two (.int .i64 (v1)) (.int .i64 (x7)) q8.out)
    have KF := (K8.out.set_ (p := ⟨w.heap.size, 0, none⟩) (Nat.le_refl _) (.int .i64 (v1))).set_ (p := ⟨w.heap.size, 1, none⟩) (Nat.le_refl _) (.int .i64 (x7))
    have RF := hr8.below (w' := ((w6.setCell ⟨w2.heap.size, 1, none⟩ (.int .i64 x7)).setCell ⟨w.heap.size, 0, none⟩ (.int .i64 (v1))).setCell ⟨w.heap.size, 1, none⟩ (.int .i64 (x7))) (((Below.refl _ _).setCell (p := ⟨w.heap.size, 0, none⟩) hR _).setCell (p := ⟨w.heap.size, 1, none⟩) hR _)
    exact bodyPost_ret (v := .agg #[.int .i64 (v1), .int .i64 (x7)]) (by simp [results, Try.results39, go_sem, e0, e1]) rfl ⟨_, _, rfl, by omega, by omega, by omega, by omega, RF.more (by omega), KF⟩
  · have z0 : (v4 == 0) = false := beq_eq_false_iff_ne.2 (by omega)
    have z1 : (v4 == 1) = false := beq_eq_false_iff_ne.2 (by omega)
    obtain ⟨a0, a1, f0, f1⟩ := cell_two q4.out
    obtain ⟨b0, b1, fb0, fb1⟩ := cell_two x4.out
    have hne1 := hlt2.out
    go_wp2
    obtain ⟨e0, e1, _, _⟩ := cell_two (set_two (.int .i64 (v1)) (.int .i64 (v2 - 6)) q4.out)
    have KF := (K4.out.set_ (p := ⟨w.heap.size, 0, none⟩) (Nat.le_refl _) (.int .i64 (v1))).set_ (p := ⟨w.heap.size, 1, none⟩) (Nat.le_refl _) (.int .i64 (v2 - 6))
    have RF := hr4.below (w' := (w4.setCell ⟨w.heap.size, 0, none⟩ (.int .i64 (v1))).setCell ⟨w.heap.size, 1, none⟩ (.int .i64 (v2 - 6))) (((Below.refl _ _).setCell (p := ⟨w.heap.size, 0, none⟩) hR _).setCell (p := ⟨w.heap.size, 1, none⟩) hR _)
    exact bodyPost_ret (v := .agg #[.int .i64 (v1), .int .i64 (v2 - 6)]) (by simp [results, Try.results39, go_sem, e0, e1]) rfl ⟨_, _, rfl, by omega, by omega, by omega, by omega, RF.more (by omega), KF⟩

/-- Drawn rows: in new memory; only the reader has turned besides. -/
def DrawnRows (w : World) (B R k : Nat) (e : Ending) (w' : World) : Prop :=
  ∃ (A : Option Addr) (c : Nat) (l : List PB.Row), e = .returned (.slice A l.length c) ∧ w'.ownsRow w.heap.size 32 2 (.slice A l.length c) l.length (rows l) ∧ l.length ≤ 30 ∧ Rdr w' B R (k + 200) ∧ Kept R w w'

/-- What an append to the call's own rows leaves. -/
theorem draw_step {w wr w1 : World} {B R k n : Nat} {l : List PB.Row} {A : Option Addr} {c : Nat} {v' : Value} {x : PB.Row} {o : Obj}
    (ho : wr.ownsRow w.heap.size 32 2 (.slice A l.length c) l.length (rows l)) (hr : Rdr wr B R k) (hR : R < w.heap.size) (hK : Kept R w wr)
    (hown : w1.ownsRow w.heap.size 32 2 v' n (rows l ++ [.int .i64 x.1, .int .i64 x.2])) (hn : n = l.length + 1) (hg : (wr.alloc o).grownBy w1 (Value.ownBlock (.slice A l.length c))) :
    (∃ A' c', v' = .slice A' (l ++ [x]).length c' ∧ w1.ownsRow w.heap.size 32 2 (.slice A' (l ++ [x]).length c') (l ++ [x]).length (rows (l ++ [x]))) ∧ Rdr w1 B R k ∧ Kept R w w1 := by
  have hrow : ∀ g, Value.ownBlock (.slice A l.length c) = some g → w.heap.size ≤ g := fun g hgg => (ho.lt g hgg).1
  exact ⟨own_row hown hn, hr.below (((Below.refl _ _).alloc hr.lt _).grown hg (by have := hr.lt; simp; omega) (fun g hgg => by have := hrow g hgg; omega)), (hK.alloc _).own hg hrow⟩

set_option maxRecDepth 100000 in
set_option maxHeartbeats 6400000 in
theorem l71Block_any (B R k0 : Nat) (w : World) (h : Rdr w B R k0) (hk : k0 ≤ 500) : Calls Try.prog 27 #[.pointer (some ⟨R, 0, none⟩)] w (DrawnRows w B R k0) := by
  obtain ⟨i0, hi, hz0, hz1, hz2⟩ := info_parts info_row
  have hR := h.lt
  have hO : Hid ((w.alloc (.cells #[] 32)).ownsRow w.heap.size 32 2 (.slice (some ⟨w.heap.size, 0, none⟩) 0 0) 0 (rows [])) := hide (World.ownsRow_lit w #[] 0 (Nat.le_refl _) (Nat.zero_le _) rfl)
  have h' := h.below (w' := w.alloc (.cells #[] 32)) ((Below.refl _ _).alloc hR _)
  have K0 : Kept R w (w.alloc (.cells #[] 32)) := (Kept.refl R w).alloc _
  clear h
  go_enter Try.func27, Try.ntmps27
  go_wp2_with fail
  refine (pick_any _ _ _ _ _ h' (by omega) (by omega)).mono ?_
  rintro e w1 ⟨v1, rfl, l1, u1, hr1, g1, hs1⟩
  have u1 := u1 (by omega)
  have O1 := hide (own_pick hO.out g1 hR)
  have K1 := hide (K0.trans g1)
  clear hs1 hO g1 K0 h'
  obtain ⟨n1, rfl⟩ := Int.eq_ofNat_of_zero_le l1
  go_wp2_with fail
  go_loopw [3, 4] (fun s i wr => ∃ (k : Nat) (l : List PB.Row) (A' : Option Addr) (c' : Nat), k ≤ 8 ∧ k + l.length ≤ 8 ∧ i = .int .i64 k ∧ s = .slice A' l.length c' ∧ Hid (PB.Asc l) ∧ Hid (wr.ownsRow w.heap.size 32 2 (.slice A' l.length c') l.length (rows l)) ∧ Rdr wr B R (k0 + 50 - 5 * k) ∧ Hid (Kept R w wr)) (fun _ i _ => (intOf i).toNat)
  case atStart => exact ⟨n1, [], _, _, by omega, by simp; omega, rfl, rfl, hide (by simp), O1, hr1.more (by omega), K1⟩
  case round =>
    clear hr1 O1 K1
    obtain ⟨k, l, A', c', hk8, hkl, rfl, rfl, hA, ho, hr, hK⟩ := hrel
    by_cases hlt : 0 < k
    · go_wp2_with fail
      refine (l71Row_any _ _ _ _ hr (by omega)).mono ?_
      rintro e w2 ⟨t, v, rfl, b1, b2, b3, b4, hr2, hk2⟩
      have O2 := own_pick ho.out hk2 hR
      have K2 := hK.out.trans hk2
      have hs2 : w.heap.size ≤ w2.heap.size := K2.size
      have hr3 := hr2.below (w' := w2.alloc (.cells #[.int .i64 t, .int .i64 v] 32)) ((Below.refl _ _).alloc hr2.lt _)
      have O3 := O2.alloc (.cells #[.int .i64 t, .int .i64 v] 32)
      have K3 := K2.alloc (.cells #[.int .i64 t, .int .i64 v] 32)
      have X3 : (w2.alloc (.cells #[.int .i64 t, .int .i64 v] 32)).heap[w2.heap.size]? = some (.cells #[.int .i64 t, .int .i64 v] 32 (0, 0)) := heap_alloc_new _ _
      have HO := hide O3
      have HK := hide K3
      have HX := hide X3
      have hs3 := hide K3.size
      clear O2 K2 hr2 O3 K3 X3 ho hr hK hk2 b1 b2 b3 b4
      go_wp2_with fail
      generalize w2.alloc (.cells #[.int .i64 t, .int .i64 v] 32) = W3 at hr3 HO HK HX hs3 ⊢
      have hr3' := hide hr3
      cases hb : PB.rowB (t, v)
      · have cr := hide (l2Row_any t v W3)
        rw [hb] at cr
        clear hb hr3
        refine cr.out.mono ?_
        rintro e w4 ⟨rfl, b4⟩
        have hR4 : Below (R + 1) W3 w4 := b4.mono (by have := hr3'.out.lt; omega)
        have O4 := hide (own_below HO.out b4)
        have K4 := hide (HK.out.below (b4.mono hs3.out))
        have hr4 := hr3'.out.below hR4
        clear cr HO HK HX hr3' b4 hR4
        go_wp2
        go_roundw
        case rel => exact ⟨k - 1, l, A', c', by omega, by omega, by go_num, rfl, hA, O4, hr4.more (by omega), K4⟩
        case measure => simp [intOf]; omega
      · have cr := hide (l2Row_any t v W3)
        rw [hb] at cr
        clear hb hr3
        refine cr.out.mono ?_
        rintro e w4 ⟨rfl, b4⟩
        have hR4 : Below (R + 1) W3 w4 := b4.mono (by have := hr3'.out.lt; omega)
        have O4 := hide (own_below HO.out b4)
        have K4 := hide (HK.out.below (b4.mono hs3.out))
        have hr4 := hide (hr3'.out.below hR4)
        have X4 := (b4.block _ (lt_of_block HX.out)).trans HX.out
        obtain ⟨x0, x1, _, _⟩ := cell_two X4
        have C5 := hide (l2Put_any A' l.length c' l t v w4.heap.size w4 rfl (Rd.of_own O4.out) hA.out (by omega) (Nat.le_refl _))
        clear cr HO HK HX hr3' b4 hR4 X4
        go_wp2_with fail
        refine C5.out.mono ?_
        rintro e w5 ⟨A5, c5, rfl, o5, b5⟩
        have hR5 : Below (R + 1) w4 w5 := b5.mono (by have := hr4.out.lt; omega)
        have O5 := hide (own_base o5 K4.out.size)
        have K5 := hide (K4.out.below (b5.mono K4.out.size))
        have hr5 := hr4.out.below hR5
        have hA5 : Hid (PB.Asc (PB.putR (t, v) l)) := hide (PB.putR_asc hA.out)
        have hl5 : (PB.putR (t, v) l).length ≤ l.length + 1 := by rw [PB.putR_len _ _ hA.out]; split <;> omega
        clear C5 O4 K4 hr4 o5 b5 hR5 x0 x1 hA
        go_wp2
        go_roundw
        case rel => exact ⟨k - 1, PB.putR (t, v) l, A5, c5, by omega, by omega, by go_num, rfl, hA5, O5, hr5.more (by omega), K5⟩
        case measure => simp [intOf]; omega
    · have hl9 : l.length ≤ 8 := by omega
      clear hkl hk8 hA
      go_wp2_with fail
      refine (pick_any _ _ _ _ _ hr (by omega) (by omega)).mono ?_
      rintro e w5 ⟨v5, rfl, l5, u5, hr5, g5, hs5⟩
      have O5 := hide (own_pick ho.out g5 hR)
      have K5 := hide (hK.out.trans g5)
      clear hr ho hK g5 hs5
      rcases (show v5 = 0 ∨ v5 = 1 ∨ 2 ≤ v5 from by omega) with h5 | h5 | h5
      · subst h5
        go_wp2_with fail
        refine (l71Row_any _ _ _ _ hr5 (by omega)).mono ?_
        rintro e w6 ⟨t, v, rfl, b1, b2, b3, b4, hr6, hk6⟩
        have O6 := own_pick O5.out hk6 hR
        have K6 := hide (K5.out.trans hk6)
        have hsz := K6.out.size
        clear hr5 O5 K5 hk6 b1 b2 b3 b4
        go_wp2_with (first | (at_builtin; refine wpList_append_own _ rfl (.tmp 25) (.tmp 28) 25 rfl w.heap.size 32 i0 (.agg #[.int .i64 0, .int .i64 0]) 2 16 Try.underlying25 hi hz0 hz1 hz2 rfl (by decide) _ _ _ rfl (O6.alloc _) ⟨w6.heap.size, 0, none⟩ 1 1 [.int .i64 t, .int .i64 v] rfl rfl (cell_two_new _ _ _ _) (row_one _ _) (by unfold maxLen; omega) (by omega) (by simp; omega) ?_; intro v9 w9 hown9 hgrow9 _))
        obtain ⟨⟨A9, c9, hv9, ho9⟩, hr9, hK9⟩ := draw_step (x := (t, v)) O6 hr6 hR K6.out hown9 rfl hgrow9
        have F := hide (⟨A9, c9, l ++ [(t, v)], by rw [hv9], ho9, by simp; omega, hr9.more (by omega), hK9⟩ : DrawnRows w B R k0 (.returned v9) w9)
        clear hown9 hgrow9 hv9 ho9 hr9 hK9 O6 K6 hr6
        go_ret
        exact F.out
      · subst h5
        go_wp2_with fail
        go_loopw [3, 6] (fun s i wr => ∃ (l : List PB.Row) (A' : Option Addr) (c' : Nat) (tt : Int), l.length ≤ 24 ∧ i = .int .i64 tt ∧ s = .slice A' l.length c' ∧ Hid (wr.ownsRow w.heap.size 32 2 (.slice A' l.length c') l.length (rows l)) ∧ Rdr wr B R (k0 + 60 + l.length) ∧ Hid (Kept R w wr)) (fun s _ _ => 30 - (lenR s))
        case atStart => exact ⟨l, _, _, _, by omega, rfl, rfl, O5, hr5.more (by omega), K5⟩
        case round =>
          clear hr5 O5 K5 hl9
          obtain ⟨l, A', c', tt, hl26, rfl, rfl, ho, hr, hK⟩ := hrel
          go_wp2_with fail
          refine (pick_any _ _ _ _ _ hr (by omega) (by omega)).mono ?_
          rintro e w6 ⟨v6, rfl, l6, u6, hr6, g6, hs6⟩
          have u6 := u6 (by omega)
          have O6 := own_pick ho.out g6 hR
          have K6 := hide (hK.out.trans g6)
          have hsz := K6.out.size
          clear hr ho hK g6 hs6
          by_cases hlt : (l.length : Int) < 24 - v6
          · go_wp2_with (first | (at_builtin; refine wpList_append_own _ rfl (.tmp 40) (.tmp 43) 25 rfl w.heap.size 32 i0 (.agg #[.int .i64 0, .int .i64 0]) 2 16 Try.underlying25 hi hz0 hz1 hz2 rfl (by decide) _ _ _ rfl (O6.alloc _) ⟨w6.heap.size, 0, none⟩ 1 1 [.int .i64 tt, .int .i64 1] rfl rfl (cell_two_new _ _ _ _) (row_one _ _) (by unfold maxLen; omega) (by omega) (by simp; omega) ?_; intro v9 w9 hown9 hgrow9 _))
            obtain ⟨⟨A9, c9, hv9, ho9⟩, hr9, hK9⟩ := draw_step (x := (tt, 1)) O6 hr6 hR K6.out hown9 rfl hgrow9
            clear hown9 hgrow9 O6 K6 hr6
            go_wp2
            go_roundw
            case rel => exact ⟨l ++ [(tt, 1)], A9, c9, _, by simp; omega, rfl, hv9, hide ho9, hr9.more (by simp; omega), hide hK9⟩
            case measure => rw [hv9]; simp [lenR]; omega
          · have F := hide (⟨A', c', l, rfl, O6, by omega, hr6.more (by omega), K6.out⟩ : DrawnRows w B R k0 (.returned (.slice A' l.length c')) w6)
            clear hr6 O6 K6
            go_wp2
            go_ret
            exact F.out
      · have q0 : (v5 == 0) = false := beq_eq_false_iff_ne.2 (by omega)
        have q1 : (v5 == 1) = false := beq_eq_false_iff_ne.2 (by omega)
        have F := hide (⟨A', c', l, rfl, O5.out, by omega, hr5.more (by omega), K5.out⟩ : DrawnRows w B R k0 (.returned (.slice A' l.length c')) w5)
        clear hr5 O5 K5
        go_wp2
        go_ret
        exact F.out

/-- Drawn rows in new memory; nothing that was there is written. -/
def DrawnRowL (w : World) (e : Ending) (w' : World) : Prop := ∃ l : List PB.Row, l.length ≤ 32 ∧ RowL w l e w'


end Go.Proofs.Ytlalldjlgaldeaa
