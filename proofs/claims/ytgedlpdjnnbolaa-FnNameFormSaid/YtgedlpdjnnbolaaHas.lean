/-
  WALKS: whether a name has a tag (laws.lyHas).
-/
import Derived.Test.YtgedlpdjnnbolaaFits1
namespace Go.Proofs.Ytgedlpdjnnbolaa
set_option linter.unusedVariables false
open Go.RowKit

set_option maxRecDepth 100000 in
set_option maxHeartbeats 3200000 in
theorem lyHas_any (A : Option Addr) (n c : Nat) (l : List PT.Tag) (t v : List UInt8) (B : Nat) (w : World) (hl : l.length = n) (h : Rd w B 2 A n (tgs l)) (hn : n ≤ 4000000) (hB : B ≤ w.heap.size) :
    Calls Try.prog 28 #[.slice A n c, .agg #[.string (S t), .string (S v)]] w (Bl w (PT.has l (t, v))) := by
  have HL := hide hl
  have HR := hide (h.more hB)
  clear hl h hB
  obtain ⟨W, hW⟩ : ∃ W, W = w.alloc (.cells #[.string (S t), .string (S v)] 27) := ⟨_, rfl⟩
  have B0 : Hid (Below w.heap.size w W) := hide (by rw [hW]; exact (Below.refl _ _).alloc (Nat.le_refl _) _)
  have X0 : Hid (W.cell? ⟨w.heap.size, 0, none⟩ = some (.string (S t)) ∧ W.cell? ⟨w.heap.size, 1, none⟩ = some (.string (S v))) := hide (by
    rw [hW]; exact ⟨by rw [World.cell?_alloc_new]; rfl, by rw [World.cell?_alloc_new]; rfl⟩)
  have R1 := hide (HR.out.below B0.out)
  have hs : w.heap.size < W.heap.size := by rw [hW]; simp
  clear HR
  go_enter Try.func28, Try.ntmps28
  go_wp2
  rw [← hW]
  clear hW
  go_loopw [5] (fun i wr => ∃ k : Nat, k ≤ n ∧ i = .int .i64 k ∧ Hid (PT.has (l.take k) (t, v) = false) ∧ Hid (Below W.heap.size W wr)) (fun i _ => n - (intOf i).toNat)
  case atStart => exact ⟨0, Nat.zero_le _, rfl, hide (by simp [PT.has]), hide (Below.refl _ _)⟩
  case round =>
    obtain ⟨k, hk, rfl, hp, hbel⟩ := hrel
    have hsz := hbel.out.size
    by_cases hlt : k < n
    · obtain ⟨b, off, rfl, hb, hc⟩ := (R1.out.below (hbel.out.mono (by omega))).tag HL.out hlt
      obtain ⟨c1, c2⟩ := hc k hlt
      obtain ⟨y, hy⟩ : ∃ y, l.getD k ([], []) = y := ⟨_, rfl⟩
      have hY := hide (fun h => has_yes (t := (t, v)) (k := k) (by rw [HL.out]; exact hlt) (hy.trans h))
      have hN := hide (has_no (t := (t, v)) (by rw [HL.out]; exact hlt) hp.out)
      rw [hy] at c1 c2 hN
      obtain ⟨t', v'⟩ := y
      clear hc hy
      have x0 := (hbel.out.cell (p := ⟨w.heap.size, 0, none⟩) hs).trans X0.out.1
      have x1 := (hbel.out.cell (p := ⟨w.heap.size, 1, none⟩) hs).trans X0.out.2
      have e1 := ext_cell (B := wr.heap.size) c1 (Nat.le_refl _)
      have e2 := ext_cell (B := wr.heap.size) c2 (Nat.le_refl _)
      have e3 := ext_cell (B := wr.heap.size) x0 (Nat.le_refl _)
      have e4 := ext_cell (B := wr.heap.size) x1 (Nat.le_refl _)
      have hin : (0 : Int) ≤ (k : Int) ∧ (k : Int) < (n : Int) := by omega
      have HBW := hide (B0.out.trans (hbel.out.mono (by omega)))
      by_cases hxy : (t', v') = (t, v)
      · have F : Hid (PT.has l (t, v) = true) := hide (hY.out hxy)
        injection hxy with h1 h2
        subst h1 h2
        clear hY hN hp
        have q1 : ((S t').toList == (S t').toList) = true := beq_self_eq_true _
        have q2 : ((S v').toList == (S v').toList) = true := beq_self_eq_true _
        go_wp2
        refine wp_region_ext wr.heap.size (by kernel_rfl) (by kernel_rfl) ?_
        repeat (go_big_quiet_step (fail))
        refine wpQuiet_nil ?_
        intro _ hw'
        obtain ⟨x, hw''⟩ := hw'
        subst hw''
        clear e1 e2 e3 e4
        go_wp2
        go_ret
        exact ⟨ret_bool F.out.symm, HBW.out.trans (x.is.mono HBW.out.size)⟩
      · have F : Hid (PT.has (l.take (k + 1)) (t, v) = false) := hide (hN.out hxy)
        by_cases htt : t' = t
        · have hvv : v' ≠ v := fun e => hxy (by rw [htt, e])
          subst htt
          have q1 : ((S t').toList == (S t').toList) = true := beq_self_eq_true _
          have q2 : ((S v').toList == (S v).toList) = false := by rw [S_eq]; exact decide_eq_false hvv
          clear hY hN hp hxy hvv
          go_wp2
          refine wp_region_ext wr.heap.size (by kernel_rfl) (by kernel_rfl) ?_
          repeat (go_big_quiet_step (fail))
          refine wpQuiet_nil ?_
          intro _ hw'
          obtain ⟨x, hw''⟩ := hw'
          subst hw''
          clear e1 e2 e3 e4
          go_wp2
          go_roundw
          case rel => exact ⟨k + 1, by omega, by go_num, F, hide (hbel.out.trans (x.is.mono hsz))⟩
          case measure => simp [intOf]; omega
        · have q1 : ((S t').toList == (S t).toList) = false := by rw [S_eq]; exact decide_eq_false htt
          clear hY hN hp hxy htt
          go_wp2
          refine wp_region_ext wr.heap.size (by kernel_rfl) (by kernel_rfl) ?_
          repeat (go_big_quiet_step (fail))
          refine wpQuiet_nil ?_
          intro _ hw'
          obtain ⟨x, hw''⟩ := hw'
          subst hw''
          clear e1 e2 e3 e4
          go_wp2
          go_roundw
          case rel => exact ⟨k + 1, by omega, by go_num, F, hide (hbel.out.trans (x.is.mono hsz))⟩
          case measure => simp [intOf]; omega
    · have F : Hid (PT.has l (t, v) = false) := hide (by have := hp.out; rwa [List.take_of_length_le (by rw [HL.out]; omega)] at this)
      have HBW := hide (B0.out.trans (hbel.out.mono (by omega)))
      go_wp2
      go_ret
      exact ⟨ret_bool F.out.symm, HBW.out⟩

end Go.Proofs.Ytgedlpdjnnbolaa
