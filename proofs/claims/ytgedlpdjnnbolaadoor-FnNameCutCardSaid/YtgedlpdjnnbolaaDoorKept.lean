/-
  LAWS on worlds: of what there was only the reader has turned; stores into a block of two cells.
-/
import Derived.Test.YtgedlpdjnnbolaaDoorRead
import Derived.Test.YtgedlpdjnnbolaaDoorNames2
namespace Go.Proofs.YtgedlpdjnnbolaaDoor
set_option linter.unusedVariables false
open Go.RowKit

/-- Of what there was in w only block R has turned. -/
def Kept (R : Nat) (w w' : World) : Prop := w.grownBy w' (some R)
theorem Kept.refl (R : Nat) (w : World) : Kept R w w := ⟨rfl, rfl, rfl, Nat.le_refl _, fun _ _ _ => rfl⟩
theorem Kept.trans {R : Nat} {a b c : World} (h : Kept R a b) (k : b.grownBy c (some R)) : Kept R a c :=
  ⟨k.os.trans h.os, k.tape.trans h.tape, k.output.trans h.output, Nat.le_trans h.size k.size, fun i hi hne => (k.block i (Nat.lt_of_lt_of_le hi h.size) hne).trans (h.block i hi hne)⟩
theorem Kept.below {R : Nat} {a b c : World} (h : Kept R a b) (k : Below a.heap.size b c) : Kept R a c :=
  ⟨k.os.trans h.os, k.tape.trans h.tape, k.output.trans h.output, Nat.le_trans h.size k.size, fun i hi hne => (k.block i hi).trans (h.block i hi hne)⟩
theorem Kept.alloc {R : Nat} {a b : World} (h : Kept R a b) (o : Obj) : Kept R a (b.alloc o) := h.below ((Below.refl _ _).alloc h.size o)
theorem Kept.own {R : Nat} {a b c : World} {row : Option Nat} (h : Kept R a b) (k : b.grownBy c row) (hr : ∀ g, row = some g → a.heap.size ≤ g) : Kept R a c := h.below ((Below.refl _ _).grown k h.size hr)
theorem Kept.set_ {R : Nat} {a b : World} (h : Kept R a b) {p : Addr} (hp : a.heap.size ≤ p.block) (u : Value) : Kept R a (b.setCell p u) := h.below ((Below.refl _ _).setCell hp u)
theorem Kept.to_below {R B : Nat} {a b : World} (h : Kept R a b) (hB : B ≤ R) (hs : B ≤ a.heap.size) : Below B a b :=
  ⟨h.os, h.tape, h.output, h.size, fun k hk => h.block k (by omega) (by intro e; injection e; omega)⟩
/-- A row behind R is not touched by a pick. -/
theorem own_pick {R B e size n : Nat} {w w' : World} {v : Value} {xs : List Value} (h : w.ownsRow B e size v n xs) (g : w.grownBy w' (some R)) (hB : R < B) : w'.ownsRow B e size v n xs :=
  h.kept g (by
    rcases ho : v.ownBlock with _ | k
    · exact .inl rfl
    · refine .inr ?_
      intro e
      injection e with e
      have := (h.lt k ho).1
      omega)
theorem cell_kept {R b j : Nat} {w w' : World} {v : Value} (g : w.grownBy w' (some R)) (h : w.cell? ⟨b, j, none⟩ = some v) (hb : b ≠ R) : w'.cell? ⟨b, j, none⟩ = some v :=
  g.cell h (by intro e; injection e with e; exact hb e)
theorem free_kept {R b j : Nat} {w w' : World} {v : Value} (g : w.grownBy w' (some R)) (h : w.cell? ⟨b, j, none⟩ = some v) (hf : w.frozen? ⟨b, j, none⟩ = false) (hb : b ≠ R) : w'.frozen? ⟨b, j, none⟩ = false := by
  rw [World.frozen?_of_block (w := w) (a := ⟨b, j, none⟩) (g.block b (World.block_lt_of_cell? _ _ h) (by intro e; injection e with e; exact hb e))]
  exact hf

/-- Two stores into a block of two cells. -/
theorem set_two {w : World} {g : Nat} {e : TypeId} {a b : Value} (x y : Value) (h : w.heap[g]? = some (.cells #[a, b] e (0, 0))) :
    ((w.setCell ⟨g, 0, none⟩ x).setCell ⟨g, 1, none⟩ y).heap[g]? = some (.cells #[x, y] e (0, 0)) := by
  have h1 := heap_setCell_same w g 0 _ e x h
  have h2 := heap_setCell_same _ g 1 _ e y h1
  simpa using h2
theorem cell_two {w : World} {g : Nat} {e : TypeId} {a b : Value} (h : w.heap[g]? = some (.cells #[a, b] e (0, 0))) : w.cell? ⟨g, 0, none⟩ = some a ∧ w.cell? ⟨g, 1, none⟩ = some b ∧ w.frozen? ⟨g, 0, none⟩ = false ∧ w.frozen? ⟨g, 1, none⟩ = false :=
  ⟨by rw [cell_of_row _ _ _ _ _ _ h]; rfl, by rw [cell_of_row _ _ _ _ _ _ h]; rfl, frozen_of_row _ _ _ _ _ h, frozen_of_row _ _ _ _ _ h⟩


end Go.Proofs.YtgedlpdjnnbolaaDoor
