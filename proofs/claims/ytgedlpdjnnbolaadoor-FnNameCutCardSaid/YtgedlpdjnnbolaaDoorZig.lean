/-
  WALKS: the zigzag code and its way back, of the program and of the reference; the laws on them that draw nothing.
-/
import Derived.Test.YtgedlpdjnnbolaaDoorRows
import Derived.Test.YtgedlpdjnnbolaaDoorKit
import Derived.Test.YtgedlpdjnnbolaaDoorPlainNums
import Derived.WalkLawsBesides
import Derived.Outline
namespace Go.Proofs.YtgedlpdjnnbolaaDoor
set_option linter.unusedVariables false
open Go.RowKit


/-- Within two bounds. -/
def inB (n lo hi : Int) : Bool := decide (lo ≤ n) && decide (n ≤ hi)
theorem inB_iff {n lo hi : Int} : inB n lo hi = true ↔ lo ≤ n ∧ n ≤ hi := by simp [inB]
theorem inB_of {n lo hi : Int} (h : lo ≤ n ∧ n ≤ hi) : inB n lo hi = true := inB_iff.2 h
theorem inB_not {n lo hi : Int} (h : ¬ (lo ≤ n ∧ n ≤ hi)) : inB n lo hi = false := by
  cases hb : inB n lo hi
  · rfl
  · exact absurd (inB_iff.1 hb) h

theorem within_any (n lo hi : Int) (w : World) : Calls Tryd.prog 25 #[.int .i64 n, .int .i64 lo, .int .i64 hi] w fun e w' => e = .returned (.bool (inB n lo hi)) ∧ w = w' := by
  by_cases h1 : lo ≤ n <;> by_cases h2 : n ≤ hi
  all_goals
    have hb : Hid (inB n lo hi = (decide (lo ≤ n) && decide (n ≤ hi))) := hide rfl
    go_enter Tryd.func25, Tryd.ntmps25
    go_wp2
    go_ret
    exact ⟨ret_bool (by rw [hb.out]; simp [h1, h2]), rfl⟩

theorem l6In_any (n lo hi : Int) (w : World) : Calls Tryd.prog 37 #[.int .i64 n, .int .i64 lo, .int .i64 hi] w fun e w' => e = .returned (.bool (inB n lo hi)) ∧ w = w' := by
  by_cases h1 : lo ≤ n <;> by_cases h2 : n ≤ hi
  all_goals
    have hb : Hid (inB n lo hi = (decide (lo ≤ n) && decide (n ≤ hi))) := hide rfl
    go_enter Tryd.func37, Tryd.ntmps37
    go_wp2
    go_ret
    exact ⟨ret_bool (by rw [hb.out]; simp [h1, h2]), rfl⟩

theorem within_yes (n lo hi : Int) (w : World) (h : lo ≤ n ∧ n ≤ hi) : Calls Tryd.prog 25 #[.int .i64 n, .int .i64 lo, .int .i64 hi] w fun e w' => e = .returned (.bool true) ∧ w = w' := by
  rw [← inB_of h]; exact within_any n lo hi w
theorem within_no (n lo hi : Int) (w : World) (h : ¬ (lo ≤ n ∧ n ≤ hi)) : Calls Tryd.prog 25 #[.int .i64 n, .int .i64 lo, .int .i64 hi] w fun e w' => e = .returned (.bool false) ∧ w = w' := by
  rw [← inB_not h]; exact within_any n lo hi w
theorem l6In_yes (n lo hi : Int) (w : World) (h : lo ≤ n ∧ n ≤ hi) : Calls Tryd.prog 37 #[.int .i64 n, .int .i64 lo, .int .i64 hi] w fun e w' => e = .returned (.bool true) ∧ w = w' := by
  rw [← inB_of h]; exact l6In_any n lo hi w
theorem l6In_no (n lo hi : Int) (w : World) (h : ¬ (lo ≤ n ∧ n ≤ hi)) : Calls Tryd.prog 37 #[.int .i64 n, .int .i64 lo, .int .i64 hi] w fun e w' => e = .returned (.bool false) ∧ w = w' := by
  rw [← inB_not h]; exact l6In_any n lo hi w



/-- What NumZig returns. -/
def numZig (n : Int) : Int := if -7992 ≤ n ∧ n ≤ 7992 then ((PN.zig n : Nat) : Int) else -1
/-- What NumZag returns. -/
def numZag (z : Int) : Int := if 0 ≤ z ∧ z ≤ 15984 then PN.zag z.toNat else 0


theorem zag_odd {z : Int} (h0 : 0 ≤ z) (h : z % 2 = 1) : PN.zag z.toNat = -((z + 1) / 2) := by
  unfold PN.zag; rw [if_pos (by omega)]; omega
theorem zag_even {z : Int} (h0 : 0 ≤ z) (h : z % 2 = 0) : PN.zag z.toNat = z / 2 := by
  unfold PN.zag; rw [if_neg (by omega)]; omega



end Go.Proofs.YtgedlpdjnnbolaaDoor
