/-
  LAWS on worlds: what was read reads again, after calls that only make memory ('keep'), and after a call that writes into one row of the call's own ('touch').
-/
import Derived.Test.YtgedlpdjnnbolaaDoorKit
namespace Go.Proofs.YtgedlpdjnnbolaaDoor
set_option linter.unusedVariables false
open Go.RowKit

section
variable {w w' a : World} {B lo hi lo' hi' size n c : Nat} {e : TypeId} {A : Option Addr} {xs : List Value}

structure RdB (w : World) (B size : Nat) (A : Option Addr) (n : Nat) (xs : List Value) : Prop where
  rd : Rd w B size A n xs
  le : B ≤ w.heap.size
theorem RdB.keep (h : RdB w B size A n xs) (b : Below w.heap.size w w') : RdB w' B size A n xs := ⟨h.rd.below (b.mono h.le), Nat.le_trans h.le b.size⟩

/-- A row of the call's own, its block from lo on and below hi. -/
structure OwB (w : World) (lo hi : Nat) (e : TypeId) (size : Nat) (A : Option Addr) (n c : Nat) (xs : List Value) : Prop where
  own : w.ownsRow lo e size (.slice A n c) n xs
  blk : ∀ g, (Value.slice A n c).ownBlock = some g → g < hi
  le : lo ≤ hi
  top : hi ≤ w.heap.size
theorem OwB.of (o : w'.ownsRow w.heap.size e size (.slice A n c) n xs) (b : w.heap.size ≤ w'.heap.size) : OwB w' w.heap.size w'.heap.size e size A n c xs := ⟨o, fun g hg => (o.lt g hg).2, b, Nat.le_refl _⟩
theorem OwB.keep (h : OwB w lo hi e size A n c xs) (b : Below w.heap.size w w') : OwB w' lo hi e size A n c xs := ⟨own_below h.own b, h.blk, h.le, Nat.le_trans h.top b.size⟩
theorem OwB.rd (h : OwB w lo hi e size A n c xs) : Rd w hi size A n xs := by
  have r := Rd.of_own h.own
  refine ⟨r.1, fun hn => ?_⟩
  obtain ⟨b, off, rfl, _, hc⟩ := r.2 hn
  exact ⟨b, off, rfl, h.blk b rfl, hc⟩
theorem OwB.rdB (h : OwB w lo hi e size A n c xs) : RdB w hi size A n xs := ⟨h.rd, h.top⟩

/-- Blocks outside lo .. hi are as they were. -/
structure Touch (lo hi : Nat) (w w' : World) : Prop where
  os : w'.os = w.os
  tape : w'.tape = w.tape
  output : w'.output = w.output
  size : w.heap.size ≤ w'.heap.size
  block : ∀ k, k < w.heap.size → k < lo ∨ hi ≤ k → w'.heap[k]? = w.heap[k]?
theorem Touch.refl (lo hi : Nat) (w : World) : Touch lo hi w w := ⟨rfl, rfl, rfl, Nat.le_refl _, fun _ _ _ => rfl⟩
theorem RdB.touch (h : RdB w B size A n xs) (t : Touch lo hi w w') (hB : B ≤ lo) : RdB w' B size A n xs :=
  ⟨h.rd.keep fun p hp => World.cell?_of_block (t.block p.block (Nat.lt_of_lt_of_le hp h.le) (.inl (Nat.lt_of_lt_of_le hp hB))), Nat.le_trans h.le t.size⟩
theorem OwB.touch (h : OwB w lo' hi' e size A n c xs) (t : Touch lo hi w w') (hB : hi' ≤ lo ∨ hi ≤ lo') : OwB w' lo' hi' e size A n c xs := by
  refine ⟨⟨h.own.1, ?_⟩, h.blk, h.le, Nat.le_trans h.top t.size⟩
  rcases h.own.2 with hn | ⟨g, cap, cur, e1, hg, hgg, rest⟩
  · exact .inl hn
  · have hgh : g < hi' := h.blk g (by rw [e1]; rfl)
    exact .inr ⟨g, cap, cur, e1, hg, by rw [t.block g (Array.getElem?_eq_some_iff.1 hgg).1 (by rcases hB with h | h <;> omega)]; exact hgg, rest⟩
theorem below_touch (h : Below B a w) (t : Touch lo hi w w') (hB : B ≤ lo) (hw : B ≤ w.heap.size) : Below B a w' :=
  ⟨t.os.trans h.os, t.tape.trans h.tape, t.output.trans h.output, Nat.le_trans h.size t.size, fun k hk => (t.block k (by omega) (.inl (by omega))).trans (h.block k hk)⟩
theorem below_keep {W : World} (h : Below W.heap.size W w) (b : Below w.heap.size w w') : Below W.heap.size W w' := h.trans (b.mono h.size)
/-- Two stores into one row of the call's own. -/
theorem Touch.set (t : Touch lo hi a w) {g : Nat} (hg : lo ≤ g ∧ g < hi) (j : Nat) (u : Value) : Touch lo hi a (w.setCell ⟨g, j, none⟩ u) :=
  ⟨t.os, t.tape, t.output, by simpa using t.size, fun k hk hk2 => by
    rw [heap_setCell_other w ⟨g, j, none⟩ k u (fun e => by simp at e; omega)]; exact t.block k hk hk2⟩
end

end Go.Proofs.YtgedlpdjnnbolaaDoor
