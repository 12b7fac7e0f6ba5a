/-
  WALKS: the three laws on a drawn number's zigzag code.
-/
import Derived.Test.YthmmcnabfmegfaaDrawZig
import Derived.OpenShut
namespace Go.Proofs.Ythmmcnabfmegfaa
open Go.RowKit

theorem bytes_of {zs : List Int} (h : ∀ z ∈ zs, (Lit.int .u8 z).wf = true) : ByteL zs := fun z hz => bounds_u8 (h z hz)

theorem numZig_in {n : Int} (h : -7992 ≤ n ∧ n ≤ 7992) : numZig n = ((PN.zig n : Nat) : Int) := by unfold numZig; rw [if_pos h]
theorem numZig_out {n : Int} (h : ¬ (-7992 ≤ n ∧ n ≤ 7992)) : numZig n = -1 := by unfold numZig; rw [if_neg h]
theorem zig_bd {n : Int} (h : -7992 ≤ n ∧ n ≤ 7992) : PN.zig n ≤ 15984 := PN.zig_le n 7992 h.1 h.2
theorem numZag_zig {n : Int} (h : -7992 ≤ n ∧ n ≤ 7992) : numZag (numZig n) = n := by
  have := zig_bd h
  rw [numZig_in h]
  unfold numZag
  rw [if_pos (by omega)]
  simpa using PN.zag_zig n
theorem numZig_neg {n : Int} (h : -7992 ≤ n ∧ n ≤ 7992) (h0 : n < 0) : numZig n = -2 * n - 1 := by rw [numZig_in h]; unfold PN.zig; rw [if_pos h0]; omega
theorem numZig_pos {n : Int} (h : -7992 ≤ n ∧ n ≤ 7992) (h0 : ¬ n < 0) : numZig n = 2 * n := by rw [numZig_in h]; unfold PN.zig; rw [if_neg h0]; omega

set_option maxHeartbeats 800000 in
theorem fnZigZag_walk (w : World) (a0 : Option Addr) (len0 cap0 : Nat) (z0 : List Int) (hz0 : z0.length = len0) (rd0 : Rd w w.heap.size 1 a0 len0 (z0.map (Value.int .u8))) (wf0 : ∀ z ∈ z0, (Lit.int .u8 z).wf = true) (lc0 : len0 ≤ cap0) (cm0 : cap0 ≤ maxLen) :
    Calls Try.prog 8 #[.slice a0 len0 cap0] w fun e w' => e = .returned (.bool true) ∧ Below w.heap.size w w' := by
  have H1 := hide (drawZig_any a0 len0 cap0 z0 w hz0 rd0 (bytes_of wf0) lc0 cm0)
  clear rd0 wf0 hz0
  unfold maxLen at cm0
  by_cases hl : 1048576 < len0
  · clear H1
    go_enter Try.func8, Try.ntmps8
    go_wp2
    go_ret
    exact ⟨rfl, Below.refl _ _⟩
  · go_enter Try.func8, Try.ntmps8
    go_wp2_with fail
    refine H1.out.mono ?_
    rintro e w1 ⟨n, rfl, l1, u1, hb1⟩
    clear H1
    have HB := hide hb1
    clear hb1
    by_cases hn : -7992 ≤ n ∧ n ≤ 7992
    · have c3 := hide (implNumZag (numZig n) w1)
      rw [numZag_zig hn] at c3
      by_cases h0 : n < 0
      · have c1 := hide (implNumZig n w1)
        have c2 := hide (specNumZig n w1)
        have c4 := hide (implNumZig (n - 1) w1)
        rw [numZig_neg hn h0] at c1 c2 c3
        have ho : ((-2 * n - 1) % 2 == 1) = true := by simp; omega
        by_cases hf : -7992 ≤ n - 1
        · rw [numZig_neg ⟨hf, by omega⟩ (by omega)] at c4
          go_wp2_with fail
          refine c1.out.mono ?_
          rintro e w' ⟨rfl, rfl⟩
          go_wp2_with fail
          refine c2.out.mono ?_
          rintro e w' ⟨rfl, rfl⟩
          go_wp2_with fail
          refine c4.out.mono ?_
          rintro e w' ⟨rfl, rfl⟩
          go_wp2_with fail
          refine c3.out.mono ?_
          rintro e w' ⟨rfl, rfl⟩
          go_wp2
          go_ret
          exact ⟨rfl, HB.out⟩
        · rw [numZig_out (by omega)] at c4
          go_wp2_with fail
          refine c1.out.mono ?_
          rintro e w' ⟨rfl, rfl⟩
          go_wp2_with fail
          refine c2.out.mono ?_
          rintro e w' ⟨rfl, rfl⟩
          go_wp2_with fail
          refine c4.out.mono ?_
          rintro e w' ⟨rfl, rfl⟩
          go_wp2_with fail
          refine c3.out.mono ?_
          rintro e w' ⟨rfl, rfl⟩
          go_wp2
          go_ret
          exact ⟨rfl, HB.out⟩
      · have c1 := hide (implNumZig n w1)
        have c2 := hide (specNumZig n w1)
        have c4 := hide (implNumZig (n + 1) w1)
        rw [numZig_pos hn h0] at c1 c2 c3
        have ho : ((2 * n) % 2 == 1) = false := by simp
        by_cases hf : n + 1 ≤ 7992
        · rw [numZig_pos ⟨by omega, hf⟩ (by omega)] at c4
          go_wp2_with fail
          refine c1.out.mono ?_
          rintro e w' ⟨rfl, rfl⟩
          go_wp2_with fail
          refine c2.out.mono ?_
          rintro e w' ⟨rfl, rfl⟩
          go_wp2_with fail
          refine c4.out.mono ?_
          rintro e w' ⟨rfl, rfl⟩
          go_wp2_with fail
          refine c3.out.mono ?_
          rintro e w' ⟨rfl, rfl⟩
          go_wp2
          go_ret
          exact ⟨ret_bool (by simp; omega), HB.out⟩
        · rw [numZig_out (by omega)] at c4
          go_wp2_with fail
          refine c1.out.mono ?_
          rintro e w' ⟨rfl, rfl⟩
          go_wp2_with fail
          refine c2.out.mono ?_
          rintro e w' ⟨rfl, rfl⟩
          go_wp2_with fail
          refine c4.out.mono ?_
          rintro e w' ⟨rfl, rfl⟩
          go_wp2_with fail
          refine c3.out.mono ?_
          rintro e w' ⟨rfl, rfl⟩
          go_wp2
          go_ret
          exact ⟨ret_bool (by simp; omega), HB.out⟩
    · have c1 := hide (implNumZig n w1)
      have c2 := hide (specNumZig n w1)
      rw [numZig_out hn] at c1 c2
      go_wp2_with fail
      refine c1.out.mono ?_
      rintro e w' ⟨rfl, rfl⟩
      go_wp2_with fail
      refine c2.out.mono ?_
      rintro e w' ⟨rfl, rfl⟩
      go_wp2_with fail
      refine c2.out.mono ?_
      rintro e w' ⟨rfl, rfl⟩
      go_wp2
      go_ret
      exact ⟨rfl, HB.out⟩

theorem numZig_zag {z : Int} (h : 0 ≤ z ∧ z ≤ 15984) : numZig (numZag z) = z := by
  unfold numZag
  rw [if_pos h]
  have h1 := PN.zig_zag z.toNat
  by_cases h0 : z % 2 = 1
  · have h2 := zag_odd h.1 h0
    rw [h2] at h1 ⊢
    rw [numZig_in (by omega), h1]
    omega
  · have h2 := zag_even h.1 (by omega)
    rw [h2] at h1 ⊢
    rw [numZig_in (by omega), h1]
    omega

set_option maxHeartbeats 800000 in
theorem fnZagZig_walk (w : World) (a0 : Option Addr) (len0 cap0 : Nat) (z0 : List Int) (hz0 : z0.length = len0) (rd0 : Rd w w.heap.size 1 a0 len0 (z0.map (Value.int .u8))) (wf0 : ∀ z ∈ z0, (Lit.int .u8 z).wf = true) (lc0 : len0 ≤ cap0) (cm0 : cap0 ≤ maxLen) :
    Calls Try.prog 7 #[.slice a0 len0 cap0] w fun e w' => e = .returned (.bool true) ∧ Below w.heap.size w w' := by
  have H1 := hide (drawZag_any a0 len0 cap0 z0 w hz0 rd0 (bytes_of wf0) lc0 cm0)
  clear rd0 wf0 hz0
  unfold maxLen at cm0
  by_cases hl : 1048576 < len0
  · clear H1
    go_enter Try.func7, Try.ntmps7
    go_wp2
    go_ret
    exact ⟨rfl, Below.refl _ _⟩
  · go_enter Try.func7, Try.ntmps7
    go_wp2_with fail
    refine H1.out.mono ?_
    rintro e w1 ⟨z, rfl, l1, u1, hb1⟩
    clear H1
    have HB := hide hb1
    clear hb1
    by_cases hz : 0 ≤ z ∧ z ≤ 15984
    · have c1 := hide (implNumZag z w1)
      have c2 := hide (specNumZag z w1)
      have c3 := hide (implNumZig (numZag z) w1)
      rw [numZig_zag hz] at c3
      by_cases h0 : z % 2 = 1
      · have hv : numZag z < 0 := by unfold numZag; rw [if_pos hz, zag_odd hz.1 h0]; omega
        have ho : (z % 2 == 1) = true := by simpa using h0
        clear h0
        generalize numZag z = m at c1 c2 c3 hv
        go_wp2_with fail
        refine c1.out.mono ?_
        rintro e w' ⟨rfl, rfl⟩
        go_wp2_with fail
        refine c2.out.mono ?_
        rintro e w' ⟨rfl, rfl⟩
        go_wp2_with fail
        refine c3.out.mono ?_
        rintro e w' ⟨rfl, rfl⟩
        go_wp2
        go_ret
        exact ⟨rfl, HB.out⟩
      · have hv : 0 ≤ numZag z := by unfold numZag; rw [if_pos hz, zag_even hz.1 (by omega)]; omega
        have ho : (z % 2 == 1) = false := by simpa using h0
        clear h0
        generalize numZag z = m at c1 c2 c3 hv
        go_wp2_with fail
        refine c1.out.mono ?_
        rintro e w' ⟨rfl, rfl⟩
        go_wp2_with fail
        refine c2.out.mono ?_
        rintro e w' ⟨rfl, rfl⟩
        go_wp2_with fail
        refine c3.out.mono ?_
        rintro e w' ⟨rfl, rfl⟩
        go_wp2
        go_ret
        exact ⟨ret_bool (by simp; omega), HB.out⟩
    · have c1 := hide (implNumZag z w1)
      have c2 := hide (specNumZag z w1)
      have hv : numZag z = 0 := by unfold numZag; rw [if_neg hz]
      rw [hv] at c1 c2
      clear hv
      by_cases h0 : z < 0
      · go_wp2_with fail
        refine c1.out.mono ?_
        rintro e w' ⟨rfl, rfl⟩
        go_wp2_with fail
        refine c2.out.mono ?_
        rintro e w' ⟨rfl, rfl⟩
        go_wp2_with fail
        refine c2.out.mono ?_
        rintro e w' ⟨rfl, rfl⟩
        go_wp2
        go_ret
        exact ⟨rfl, HB.out⟩
      · have h1 : 15984 < z := by omega
        clear hz
        go_wp2_with fail
        refine c1.out.mono ?_
        rintro e w' ⟨rfl, rfl⟩
        go_wp2_with fail
        refine c2.out.mono ?_
        rintro e w' ⟨rfl, rfl⟩
        go_wp2_with fail
        refine c2.out.mono ?_
        rintro e w' ⟨rfl, rfl⟩
        go_wp2
        go_ret
        exact ⟨rfl, HB.out⟩

set_option maxHeartbeats 1600000 in
theorem fnZigOrder_walk (w : World) (a0 : Option Addr) (len0 cap0 : Nat) (z0 : List Int) (hz0 : z0.length = len0) (rd0 : Rd w w.heap.size 1 a0 len0 (z0.map (Value.int .u8))) (wf0 : ∀ z ∈ z0, (Lit.int .u8 z).wf = true) (lc0 : len0 ≤ cap0) (cm0 : cap0 ≤ maxLen)
    (a1 : Option Addr) (len1 cap1 : Nat) (z1 : List Int) (hz1 : z1.length = len1) (rd1 : Rd w w.heap.size 1 a1 len1 (z1.map (Value.int .u8))) (wf1 : ∀ z ∈ z1, (Lit.int .u8 z).wf = true) (lc1 : len1 ≤ cap1) (cm1 : cap1 ≤ maxLen) :
    Calls Try.prog 6 #[.slice a0 len0 cap0, .slice a1 len1 cap1] w fun e w' => e = .returned (.bool true) ∧ Below w.heap.size w w' := by
  have H1 := hide (drawZig_any a0 len0 cap0 z0 w hz0 rd0 (bytes_of wf0) lc0 cm0)
  clear rd0 wf0 hz0 rd1 wf1 hz1
  unfold maxLen at cm0 cm1
  by_cases hl : 1048576 < len0
  · clear H1
    go_enter Try.func6, Try.ntmps6
    go_wp2
    go_ret
    exact ⟨rfl, Below.refl _ _⟩
  · by_cases hl1 : 1048576 < len1
    · clear H1
      go_enter Try.func6, Try.ntmps6
      go_wp2
      go_ret
      exact ⟨rfl, Below.refl _ _⟩
    · go_enter Try.func6, Try.ntmps6
      go_wp2_with fail
      refine H1.out.mono ?_
      rintro e w1 ⟨n, rfl, l1, u1, hb1⟩
      clear H1
      have HB := hide hb1
      clear hb1
      by_cases hn : -7992 ≤ n ∧ n ≤ 7992
      · have hm : -200 ≤ (len1 : Int) % 400 - 200 ∧ (len1 : Int) % 400 - 200 ≤ 199 := by omega
        have c1 := hide (implNumZig n w1)
        have c2 := hide (specNumZig n w1)
        have c3 := hide (implNumZig ((len1 : Int) % 400 - 200) w1)
        by_cases h0 : n < 0
        · by_cases h1 : ((len1 : Int) % 400 - 200) < 0
          · rw [numZig_neg hn h0] at c1 c2
            rw [numZig_neg (by omega) h1] at c3
            go_wp2_with fail
            refine c1.out.mono ?_
            rintro e w' ⟨rfl, rfl⟩
            go_wp2_with fail
            refine c2.out.mono ?_
            rintro e w' ⟨rfl, rfl⟩
            go_wp2_with fail
            refine c3.out.mono ?_
            rintro e w' ⟨rfl, rfl⟩
            rcases (show (-n) < (-((len1 : Int) % 400 - 200)) ∨ (-((len1 : Int) % 400 - 200)) < (-n) ∨ n = ((len1 : Int) % 400 - 200) from by omega) with hx | hx | hx
            · have hq : ((-n) == (-((len1 : Int) % 400 - 200))) = false := by simp; omega
              go_wp2
              all_goals (go_ret; exact ⟨ret_bool (by first | rfl | (simp; omega)), HB.out⟩)
            · have hq : ((-n) == (-((len1 : Int) % 400 - 200))) = false := by simp; omega
              go_wp2
              all_goals (go_ret; exact ⟨ret_bool (by first | rfl | (simp; omega)), HB.out⟩)
            · subst hx
              go_wp2
              all_goals (go_ret; exact ⟨ret_bool (by first | rfl | (simp; omega)), HB.out⟩)
          · rw [numZig_neg hn h0] at c1 c2
            rw [numZig_pos (by omega) h1] at c3
            go_wp2_with fail
            refine c1.out.mono ?_
            rintro e w' ⟨rfl, rfl⟩
            go_wp2_with fail
            refine c2.out.mono ?_
            rintro e w' ⟨rfl, rfl⟩
            go_wp2_with fail
            refine c3.out.mono ?_
            rintro e w' ⟨rfl, rfl⟩
            rcases (show (-n) < ((len1 : Int) % 400 - 200) ∨ ((len1 : Int) % 400 - 200) < (-n) ∨ n = -((len1 : Int) % 400 - 200) from by omega) with hx | hx | hx
            · have hq : ((-n) == ((len1 : Int) % 400 - 200)) = false := by simp; omega
              go_wp2
              all_goals (go_ret; exact ⟨ret_bool (by first | rfl | (simp; omega)), HB.out⟩)
            · have hq : ((-n) == ((len1 : Int) % 400 - 200)) = false := by simp; omega
              go_wp2
              all_goals (go_ret; exact ⟨ret_bool (by first | rfl | (simp; omega)), HB.out⟩)
            · subst hx
              go_wp2
              all_goals (go_ret; exact ⟨ret_bool (by first | rfl | (simp; omega)), HB.out⟩)
        · by_cases h1 : ((len1 : Int) % 400 - 200) < 0
          · rw [numZig_pos hn h0] at c1 c2
            rw [numZig_neg (by omega) h1] at c3
            go_wp2_with fail
            refine c1.out.mono ?_
            rintro e w' ⟨rfl, rfl⟩
            go_wp2_with fail
            refine c2.out.mono ?_
            rintro e w' ⟨rfl, rfl⟩
            go_wp2_with fail
            refine c3.out.mono ?_
            rintro e w' ⟨rfl, rfl⟩
            rcases (show n < (-((len1 : Int) % 400 - 200)) ∨ (-((len1 : Int) % 400 - 200)) < n ∨ n = -((len1 : Int) % 400 - 200) from by omega) with hx | hx | hx
            · have hq : (n == (-((len1 : Int) % 400 - 200))) = false := by simp; omega
              go_wp2
              all_goals (go_ret; exact ⟨ret_bool (by first | rfl | (simp; omega)), HB.out⟩)
            · have hq : (n == (-((len1 : Int) % 400 - 200))) = false := by simp; omega
              go_wp2
              all_goals (go_ret; exact ⟨ret_bool (by first | rfl | (simp; omega)), HB.out⟩)
            · subst hx
              go_wp2
              all_goals (go_ret; exact ⟨ret_bool (by first | rfl | (simp; omega)), HB.out⟩)
          · rw [numZig_pos hn h0] at c1 c2
            rw [numZig_pos (by omega) h1] at c3
            go_wp2_with fail
            refine c1.out.mono ?_
            rintro e w' ⟨rfl, rfl⟩
            go_wp2_with fail
            refine c2.out.mono ?_
            rintro e w' ⟨rfl, rfl⟩
            go_wp2_with fail
            refine c3.out.mono ?_
            rintro e w' ⟨rfl, rfl⟩
            rcases (show n < ((len1 : Int) % 400 - 200) ∨ ((len1 : Int) % 400 - 200) < n ∨ n = ((len1 : Int) % 400 - 200) from by omega) with hx | hx | hx
            · have hq : (n == ((len1 : Int) % 400 - 200)) = false := by simp; omega
              go_wp2
              all_goals (go_ret; exact ⟨ret_bool (by first | rfl | (simp; omega)), HB.out⟩)
            · have hq : (n == ((len1 : Int) % 400 - 200)) = false := by simp; omega
              go_wp2
              all_goals (go_ret; exact ⟨ret_bool (by first | rfl | (simp; omega)), HB.out⟩)
            · subst hx
              go_wp2
              all_goals (go_ret; exact ⟨ret_bool (by first | rfl | (simp; omega)), HB.out⟩)
      · have c1 := hide (implNumZig n w1)
        have c2 := hide (specNumZig n w1)
        rw [numZig_out hn] at c1 c2
        go_wp2_with fail
        refine c1.out.mono ?_
        rintro e w' ⟨rfl, rfl⟩
        go_wp2_with fail
        refine c2.out.mono ?_
        rintro e w' ⟨rfl, rfl⟩
        go_wp2_with fail
        refine c2.out.mono ?_
        rintro e w' ⟨rfl, rfl⟩
        go_wp2
        go_ret
        exact ⟨rfl, HB.out⟩

end Go.Proofs.Ythmmcnabfmegfaa
