/-
  WALKS: the zigzag code and its way back, of the program and of the reference; the laws on them that draw nothing.
-/
import Derived.Test.YthmmcnabfmegfaaRows
import Derived.Test.YthmmcnabfmegfaaKit
import Derived.Test.YthmmcnabfmegfaaPlainNums
import Derived.WalkLawsBesides
import Derived.Outline
namespace Go.Proofs.Ythmmcnabfmegfaa
open Go.RowKit

theorem fnExactConstants_walk (w : World) : Calls Try.prog 3 #[] w fun e w' => e = .returned (.bool true) ∧ Below w.heap.size w w' := by
  go_enter Try.func3, Try.ntmps3
  go_wp2
  go_ret
  exact ⟨rfl, Below.refl _ _⟩

/-- Within two bounds. -/
def inB (n lo hi : Int) : Bool := decide (lo ≤ n) && decide (n ≤ hi)
theorem inB_iff {n lo hi : Int} : inB n lo hi = true ↔ lo ≤ n ∧ n ≤ hi := by simp [inB]

theorem within_any (n lo hi : Int) (w : World) : Calls Try.prog 35 #[.int .i64 n, .int .i64 lo, .int .i64 hi] w fun e w' => e = .returned (.bool (inB n lo hi)) ∧ w = w' := by
  by_cases h1 : lo ≤ n <;> by_cases h2 : n ≤ hi
  all_goals
    have hb : Hid (inB n lo hi = (decide (lo ≤ n) && decide (n ≤ hi))) := hide rfl
    go_enter Try.func35, Try.ntmps35
    go_wp2
    go_ret
    exact ⟨ret_bool (by rw [hb.out]; simp [h1, h2]), rfl⟩

end Go.Proofs.Ythmmcnabfmegfaa
