/-
  WALKS: the zigzag code and its way back, of the program and of the reference; the laws on them that draw nothing.
-/
import Derived.Test.YtlalldjlgaldeaaRows
import Derived.Test.YtlalldjlgaldeaaKit
import Derived.Test.YtlalldjlgaldeaaPlainNums
import Derived.WalkLawsBesides
import Derived.Outline
namespace Go.Proofs.Ytlalldjlgaldeaa
set_option linter.unusedVariables false
open Go.RowKit


/-- Within two bounds. -/
def inB (n lo hi : Int) : Bool := decide (lo ≤ n) && decide (n ≤ hi)
theorem inB_iff {n lo hi : Int} : inB n lo hi = true ↔ lo ≤ n ∧ n ≤ hi := by simp [inB]
theorem inB_of {n lo hi : Int} (h : lo ≤ n ∧ n ≤ hi) : inB n lo hi = true := inB_iff.2 h
theorem inB_not {n lo hi : Int} (h : ¬ (lo ≤ n ∧ n ≤ hi)) : inB n lo hi = false := by
  cases hb : inB n lo hi
  · rfl
  · exact absurd (inB_iff.1 hb) h

theorem within_any (n lo hi : Int) (w : World) : Calls Try.prog 31 #[.int .i64 n, .int .i64 lo, .int .i64 hi] w fun e w' => e = .returned (.bool (inB n lo hi)) ∧ w = w' := by
  by_cases h1 : lo ≤ n <;> by_cases h2 : n ≤ hi
  all_goals
    have hb : Hid (inB n lo hi = (decide (lo ≤ n) && decide (n ≤ hi))) := hide rfl
    go_enter Try.func31, Try.ntmps31
    go_wp2
    go_ret
    exact ⟨ret_bool (by rw [hb.out]; simp [h1, h2]), rfl⟩

theorem l6In_any (n lo hi : Int) (w : World) : Calls Try.prog 45 #[.int .i64 n, .int .i64 lo, .int .i64 hi] w fun e w' => e = .returned (.bool (inB n lo hi)) ∧ w = w' := by
  by_cases h1 : lo ≤ n <;> by_cases h2 : n ≤ hi
  all_goals
    have hb : Hid (inB n lo hi = (decide (lo ≤ n) && decide (n ≤ hi))) := hide rfl
    go_enter Try.func45, Try.ntmps45
    go_wp2
    go_ret
    exact ⟨ret_bool (by rw [hb.out]; simp [h1, h2]), rfl⟩

theorem within_yes (n lo hi : Int) (w : World) (h : lo ≤ n ∧ n ≤ hi) : Calls Try.prog 31 #[.int .i64 n, .int .i64 lo, .int .i64 hi] w fun e w' => e = .returned (.bool true) ∧ w = w' := by
  rw [← inB_of h]; exact within_any n lo hi w
theorem within_no (n lo hi : Int) (w : World) (h : ¬ (lo ≤ n ∧ n ≤ hi)) : Calls Try.prog 31 #[.int .i64 n, .int .i64 lo, .int .i64 hi] w fun e w' => e = .returned (.bool false) ∧ w = w' := by
  rw [← inB_not h]; exact within_any n lo hi w
theorem l6In_yes (n lo hi : Int) (w : World) (h : lo ≤ n ∧ n ≤ hi) : Calls Try.prog 45 #[.int .i64 n, .int .i64 lo, .int .i64 hi] w fun e w' => e = .returned (.bool true) ∧ w = w' := by
  rw [← inB_of h]; exact l6In_any n lo hi w
theorem l6In_no (n lo hi : Int) (w : World) (h : ¬ (lo ≤ n ∧ n ≤ hi)) : Calls Try.prog 45 #[.int .i64 n, .int .i64 lo, .int .i64 hi] w fun e w' => e = .returned (.bool false) ∧ w = w' := by
  rw [← inB_not h]; exact l6In_any n lo hi w

theorem zig_any (n : Int) (h : -1000000000 ≤ n ∧ n ≤ 1000000000) (w : World) : Calls Try.prog 33 #[.int .i64 n] w fun e w' => e = .returned (.int .i64 (PN.zig n : Nat)) ∧ w = w' := by
  obtain ⟨h1, h2⟩ := h
  by_cases h0 : n < 0
  · have hv : Hid (-2 * n - 1 = ((PN.zig n : Nat) : Int)) := hide (by unfold PN.zig; rw [if_pos h0]; omega)
    go_enter Try.func33, Try.ntmps33
    go_wp2
    go_ret
    exact ⟨ret_int hv.out, rfl⟩
  · have hv : Hid (2 * n = ((PN.zig n : Nat) : Int)) := hide (by unfold PN.zig; rw [if_neg h0]; omega)
    go_enter Try.func33, Try.ntmps33
    go_wp2
    go_ret
    exact ⟨ret_int hv.out, rfl⟩

theorem l1Zig_any (n : Int) (h : -1000000000 ≤ n ∧ n ≤ 1000000000) (w : World) : Calls Try.prog 38 #[.int .i64 n] w fun e w' => e = .returned (.int .i64 (PN.zig n : Nat)) ∧ w = w' := by
  obtain ⟨h1, h2⟩ := h
  by_cases h0 : n < 0
  · have hv : Hid (-2 * n - 1 = ((PN.zig n : Nat) : Int)) := hide (by unfold PN.zig; rw [if_pos h0]; omega)
    go_enter Try.func38, Try.ntmps38
    go_wp2
    go_ret
    exact ⟨ret_int hv.out, rfl⟩
  · have hv : Hid (2 * n = ((PN.zig n : Nat) : Int)) := hide (by unfold PN.zig; rw [if_neg h0]; omega)
    go_enter Try.func38, Try.ntmps38
    go_wp2
    go_ret
    exact ⟨ret_int hv.out, rfl⟩

/-- What NumZig returns. -/
def numZig (n : Int) : Int := if -7992 ≤ n ∧ n ≤ 7992 then ((PN.zig n : Nat) : Int) else -1
/-- What NumZag returns. -/
def numZag (z : Int) : Int := if 0 ≤ z ∧ z ≤ 15984 then PN.zag z.toNat else 0


theorem zag_odd {z : Int} (h0 : 0 ≤ z) (h : z % 2 = 1) : PN.zag z.toNat = -((z + 1) / 2) := by
  unfold PN.zag; rw [if_pos (by omega)]; omega
theorem zag_even {z : Int} (h0 : 0 ≤ z) (h : z % 2 = 0) : PN.zag z.toNat = z / 2 := by
  unfold PN.zag; rw [if_neg (by omega)]; omega

/-- The number of a code, of the reference's own. -/
theorem l1Zag_any (z : Int) (h : 0 ≤ z ∧ z ≤ 1000000000) (w : World) : Calls Try.prog 42 #[.int .i64 z] w fun e w' => e = .returned (.int .i64 (PN.zag z.toNat)) ∧ w = w' := by
  obtain ⟨h1, h2⟩ := h
  by_cases h0 : z % 2 = 1
  · have hv : Hid (PN.zag z.toNat = -((z + 1) / 2)) := hide (zag_odd h1 h0)
    have hd : Hid (wrap64 (-(z + 1).tdiv 2) = -((z + 1) / 2)) := hide (by rw [Int.tdiv_eq_ediv_of_nonneg (by omega)]; exact IntWalk.wrap64_in _ ⟨by omega, by omega⟩)
    have ho : (z % 2 == 1) = true := by simpa using h0
    clear h0
    go_enter Try.func42, Try.ntmps42
    go_wp2
    go_ret
    exact ⟨ret_int (by rw [hv.out, hd.out]), rfl⟩
  · have hv : Hid (PN.zag z.toNat = z / 2) := hide (zag_even h1 (by omega))
    have ho : (z % 2 == 1) = false := by simpa using h0
    clear h0
    go_enter Try.func42, Try.ntmps42
    go_wp2
    go_ret
    exact ⟨ret_int (by rw [hv.out]), rfl⟩

theorem implNumZag (z : Int) (w : World) : Calls Try.prog 44 #[.int .i64 z] w fun e w' => e = .returned (.int .i64 (numZag z)) ∧ w = w' := by
  by_cases h : 0 ≤ z ∧ z ≤ 15984
  · obtain ⟨h1, h2⟩ := h
    by_cases h0 : z % 2 = 1
    · have hv : Hid (numZag z = -((z + 1) / 2)) := hide (by unfold numZag; rw [if_pos ⟨h1, h2⟩]; exact zag_odd h1 h0)
      have hd : Hid (wrap64 (-(z + 1).tdiv 2) = -((z + 1) / 2)) := hide (by rw [Int.tdiv_eq_ediv_of_nonneg (by omega)]; exact IntWalk.wrap64_in _ ⟨by omega, by omega⟩)
      have ho : (z % 2 == 1) = true := by simpa using h0
      clear h0
      go_enter Try.func44, Try.ntmps44
      go_wp2_with (first | (go_at_call 31; refine (within_yes _ _ _ _ ⟨h1, h2⟩).mono ?_; rintro e w' ⟨rfl, rfl⟩))
      go_ret
      exact ⟨ret_int (by rw [hv.out, hd.out]), rfl⟩
    · have hv : Hid (numZag z = z / 2) := hide (by unfold numZag; rw [if_pos ⟨h1, h2⟩]; exact zag_even h1 (by omega))
      have ho : (z % 2 == 1) = false := by simpa using h0
      clear h0
      go_enter Try.func44, Try.ntmps44
      go_wp2_with (first | (go_at_call 31; refine (within_yes _ _ _ _ ⟨h1, h2⟩).mono ?_; rintro e w' ⟨rfl, rfl⟩))
      go_ret
      exact ⟨ret_int (by rw [hv.out]), rfl⟩
  · have hv : Hid (0 = numZag z) := hide (by unfold numZag; rw [if_neg h])
    go_enter Try.func44, Try.ntmps44
    go_wp2_with (first | (go_at_call 31; refine (within_no _ _ _ _ h).mono ?_; rintro e w' ⟨rfl, rfl⟩))
    go_ret
    exact ⟨ret_int hv.out, rfl⟩

end Go.Proofs.Ytlalldjlgaldeaa
