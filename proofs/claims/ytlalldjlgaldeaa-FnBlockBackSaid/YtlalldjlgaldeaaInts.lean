/-
  WALKS: lists of integers: told apart (eqIntS, lyInts), copied (toIntS), marked and held (markIntS, heldIntS).
-/
import Derived.Test.YtlalldjlgaldeaaPack2
import Derived.BigQuiet
import Derived.Deep.QuietTactic
namespace Go.Proofs.Ytlalldjlgaldeaa
set_option linter.unusedVariables false
open Go.RowKit


theorem eq_take {l l' : List Int} {k : Nat} (hk : k < l.length) (hk' : k < l'.length) (h : l.take k = l'.take k) (hx : l.getD k 0 = l'.getD k 0) : l.take (k + 1) = l'.take (k + 1) := by
  rw [take_snoc l k hk, take_snoc l' k hk', h, ← getD_eq hk, ← getD_eq hk', hx]



theorem info_int : (Try.prog.info? 3).map (fun i => (i.zero, i.size, i.bytes)) = some (some (.int .i64 0), 1, 8) := by kernel_rfl

/-- A list, its first k numbers laid, zeros behind. -/
def laidInts (l : List Int) (n k : Nat) : List Value := ints (l.take k) ++ List.replicate (n - k) (.int .i64 0)
theorem laid_step {l : List Int} {n k : Nat} (hl : l.length = n) (hk : k < n) : (laidInts l n k).set k (.int .i64 (l.getD k 0)) = laidInts l n (k + 1) := by
  unfold laidInts
  rw [List.set_append_right _ _ (by simp; omega), take_snoc l k (by omega), ints_append, ← getD_eq (by omega)]
  rw [show n - k = (n - (k + 1)) + 1 by omega, List.replicate_succ]
  have : k - (ints (l.take k)).length = 0 := by simp; omega
  rw [this]
  simp [ints]
theorem laid_done {l : List Int} {n : Nat} (hl : l.length = n) : laidInts l n n = ints l := by
  unfold laidInts
  rw [← hl]; simp
theorem laid_start (l : List Int) (n : Nat) : (madeCells (Value.int .i64 0).cells (n * 1)).toList = laidInts l n 0 := by
  rw [Nat.mul_one]
  simp only [laidInts, List.take_zero, ints, List.map_nil, List.nil_append, Nat.sub_zero]
  exact toList_madeCells_one _ _

/-- A list of integers in the call's own memory. -/
def IntL (w : World) (l : List Int) (e : Ending) (w' : World) : Prop := ∃ A c, e = .returned (.slice A l.length c) ∧ w'.ownsRow w.heap.size 3 1 (.slice A l.length c) l.length (ints l) ∧ Below w.heap.size w w'


end Go.Proofs.Ytlalldjlgaldeaa
