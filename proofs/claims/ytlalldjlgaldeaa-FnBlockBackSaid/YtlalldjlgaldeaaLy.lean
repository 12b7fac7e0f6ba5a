/-
  WALKS: rows told apart (laws.lyRows), and looked up (laws.lyAt).
-/
import Derived.Test.YtlalldjlgaldeaaRows2
import Derived.Test.YtlalldjlgaldeaaPlainPut
import Derived.Test.YtlalldjlgaldeaaQuiet
namespace Go.Proofs.Ytlalldjlgaldeaa
set_option linter.unusedVariables false
open Go.RowKit

theorem drewN_below' (w : World) (n : Nat) (B : Nat) : Below B w (w.drewN n) := ⟨rfl, rfl, rfl, Nat.le_refl _, fun _ _ => rfl⟩

set_option maxRecDepth 100000 in
set_option maxHeartbeats 1600000 in
theorem lyRows_any (A A' : Option Addr) (n n' c c' : Nat) (l l' : List PB.Row) (B B' : Nat) (w : World) (hl : l.length = n) (hl' : l'.length = n') (h : Rd w B 2 A n (rows l)) (h' : Rd w B' 2 A' n' (rows l')) (hn : n ≤ 4000000) (hn' : n' ≤ 4000000) (hB : B ≤ w.heap.size) (hB' : B' ≤ w.heap.size) :
    Calls Try.prog 18 #[.slice A n c, .slice A' n' c'] w (Bl w (decide (l = l'))) := by
  have HL := hide hl
  have HL' := hide hl'
  have HR := hide (h.more hB)
  have HR' := hide (h'.more hB')
  clear hl hl' h h' hB hB'
  by_cases hnn : n = n'
  · subst hnn
    go_enter Try.func18, Try.ntmps18
    go_wp2
    go_loopw [5] (fun i wr => ∃ k : Nat, k ≤ n ∧ i = .int .i64 k ∧ Hid (l.take k = l'.take k) ∧ Below w.heap.size w wr) (fun i _ => n - (intOf i).toNat)
    case atStart => exact ⟨0, Nat.zero_le _, rfl, hide (by simp), Below.refl _ _⟩
    case round =>
      obtain ⟨k, hk, rfl, hp, hbel⟩ := hrel
      have HB := hide hbel
      have hsz := hbel.size
      by_cases hlt : k < n
      · obtain ⟨b, off, rfl, hb, hc⟩ := (HR.out.below hbel).row HL.out hlt
        obtain ⟨b', off', rfl, hb', hc'⟩ := (HR'.out.below hbel).row HL'.out hlt
        obtain ⟨c1, c2⟩ := hc k hlt
        obtain ⟨c1', c2'⟩ := hc' k hlt
        have hN : Hid (l.getD k (0, 0) = l'.getD k (0, 0) → l.take (k + 1) = l'.take (k + 1)) := hide (eq_takeR (by rw [HL.out]; exact hlt) (by rw [HL'.out]; exact hlt) hp.out)
        have hF : Hid (l.getD k (0, 0) ≠ l'.getD k (0, 0) → decide (l = l') = false) := hide (fun hne => by
          apply decide_eq_false
          rintro rfl
          exact hne rfl)
        generalize l.getD k (0, 0) = x at c1 c2 hN hF
        generalize l'.getD k (0, 0) = y at c1' c2' hN hF
        obtain ⟨t, v⟩ := x
        obtain ⟨t', v'⟩ := y
        clear hc hc' hbel
        have e1 := ext_cell (B := wr.heap.size) c1 (Nat.le_refl _)
        have e2 := ext_cell (B := wr.heap.size) c2 (Nat.le_refl _)
        have e3 := ext_cell (B := wr.heap.size) c1' (Nat.le_refl _)
        have e4 := ext_cell (B := wr.heap.size) c2' (Nat.le_refl _)
        have hin : (0 : Int) ≤ (k : Int) ∧ (k : Int) < (n : Int) := by omega
        by_cases hxy : t = t' ∧ v = v'
        · obtain ⟨rfl, rfl⟩ := hxy
          have hT := hide (hN.out rfl)
          clear hN hF
          go_wp2
          refine wp_region_ext wr.heap.size (by kernel_rfl) (by kernel_rfl) ?_
          repeat (go_big_quiet_step (fail))
          refine wpQuiet_nil ?_
          intro _ hw'
          obtain ⟨x, hw''⟩ := hw'
          subst hw''
          clear e1 e2 e3 e4
          go_wp2
          go_roundw
          case rel => exact ⟨k + 1, by omega, by go_num, hT, HB.out.trans (x.is.mono hsz)⟩
          case measure => simp [intOf]; omega
        · have hf := hide (hF.out (by simpa using hxy))
          clear hF hN
          by_cases htt : t = t'
          · subst htt
            have hvv : v ≠ v' := fun e => hxy ⟨rfl, e⟩
            have hb1 : (v == v') = false := beq_eq_false_iff_ne.2 hvv
            have hb2 : (v != v') = true := bne_iff_ne.2 hvv
            clear hxy
            go_wp2
            refine wp_region_ext wr.heap.size (by kernel_rfl) (by kernel_rfl) ?_
            repeat (go_big_quiet_step (fail))
            refine wpQuiet_nil ?_
            intro _ hw'
            obtain ⟨x, hw''⟩ := hw'
            subst hw''
            clear e1 e2 e3 e4
            go_wp2
            go_ret
            exact ⟨ret_bool hf.out.symm, HB.out.trans (x.is.mono hsz)⟩
          · have hb1 : (t == t') = false := beq_eq_false_iff_ne.2 htt
            have hb2 : (t != t') = true := bne_iff_ne.2 htt
            clear hxy
            go_wp2
            refine wp_region_ext wr.heap.size (by kernel_rfl) (by kernel_rfl) ?_
            repeat (go_big_quiet_step (fail))
            refine wpQuiet_nil ?_
            intro _ hw'
            obtain ⟨x, hw''⟩ := hw'
            subst hw''
            clear e1 e2 e3 e4
            go_wp2
            go_ret
            exact ⟨ret_bool hf.out.symm, HB.out.trans (x.is.mono hsz)⟩
      · have hf : Hid (decide (l = l') = true) := hide (by
          have h1 := hp.out
          rw [List.take_of_length_le (by rw [HL.out]; omega), List.take_of_length_le (by rw [HL'.out]; omega)] at h1
          exact decide_eq_true h1)
        go_wp2
        go_ret
        exact ⟨ret_bool hf.out.symm, hbel⟩
  · have hf : Hid (decide (l = l') = false) := hide (decide_eq_false (fun e => hnn (by rw [← HL.out, ← HL'.out, e])))
    have hne : ((n : Int) != (n' : Int)) = true := by simp; omega
    clear hnn
    go_enter Try.func18, Try.ntmps18
    go_wp2
    go_ret
    exact ⟨ret_bool hf.out.symm, Below.refl _ _⟩


end Go.Proofs.Ytlalldjlgaldeaa
