/-
  WALKS: names and filters held against themselves (laws.lyName, laws.lyFilter).
-/
import Derived.Test.YtgedlpdjnnbolaaDoorConds1
import Derived.Test.YtgedlpdjnnbolaaDoorTail
namespace Go.Proofs.YtgedlpdjnnbolaaDoor
set_option linter.unusedVariables false
open Go.RowKit

theorem Rd.take_tg {w : World} {B : Nat} {A : Option Addr} {n : Nat} {l : List PT.Tag} (h : Rd w B 2 A n (tgs l)) (hl : l.length = n) {k : Nat} (hk : k ≤ n) : Rd w B 2 A k (tgs (l.take k)) := by
  refine ⟨by rw [tgs_len]; simp; omega, fun h0 => ?_⟩
  obtain ⟨b, off, e, hb, hc⟩ := h.2 (by omega)
  refine ⟨b, off, e, hb, fun j u hu => hc j u ?_⟩
  have h1 : tgs l = tgs (l.take k) ++ tgs (l.drop k) := by rw [← tgs_append, List.take_append_drop]
  have h2 := (List.getElem?_eq_some_iff.1 hu).1
  rw [h1, List.getElem?_append_left h2]
  exact hu

set_option maxRecDepth 100000 in
set_option maxHeartbeats 1600000 in
theorem lyName_same (A A' : Option Addr) (n c c' : Nat) (l : List PT.Tag) (B B' : Nat) (w : World) (hl : l.length = n) (h : Rd w B 2 A n (tgs l)) (h' : Rd w B' 2 A' n (tgs l)) (hn : n ≤ 4000000) (hB : B ≤ w.heap.size) (hB' : B' ≤ w.heap.size) :
    Calls Tryd.prog 10 #[.slice A n c, .slice A' n c'] w (Bl w true) := by
  have HL := hide hl
  have HR := hide (h.more hB)
  have HR' := hide (h'.more hB')
  clear hl h h' hB hB'
  have hnn : ((n : Int) != (n : Int)) = false := by simp
  go_enter Tryd.func10, Tryd.ntmps10
  go_wp2
  go_loopw [5] (fun i wr => ∃ k : Nat, k ≤ n ∧ i = .int .i64 k ∧ Hid (Below w.heap.size w wr)) (fun i _ => n - (intOf i).toNat)
  case atStart => exact ⟨0, Nat.zero_le _, rfl, hide (Below.refl _ _)⟩
  case round =>
    obtain ⟨k, hk, rfl, hbel⟩ := hrel
    have hsz := hbel.out.size
    by_cases hlt : k < n
    · obtain ⟨b, off, rfl, hb, hc⟩ := (HR.out.below hbel.out).tag HL.out hlt
      obtain ⟨b', off', rfl, hb', hc'⟩ := (HR'.out.below hbel.out).tag HL.out hlt
      obtain ⟨c1, c2⟩ := hc k hlt
      obtain ⟨d1, d2⟩ := hc' k hlt
      clear hc hc'
      generalize l.getD k ([], []) = r at c1 d1 c2 d2
      obtain ⟨t, v⟩ := r
      have e1 := ext_cell (B := wr.heap.size) c1 (Nat.le_refl _)
      have f1 := ext_cell (B := wr.heap.size) d1 (Nat.le_refl _)
      have e2 := ext_cell (B := wr.heap.size) c2 (Nat.le_refl _)
      have f2 := ext_cell (B := wr.heap.size) d2 (Nat.le_refl _)
      have hin : (0 : Int) ≤ (k : Int) ∧ (k : Int) < (n : Int) := by omega
      go_wp2
      refine wp_region_ext wr.heap.size (by kernel_rfl) (by kernel_rfl) ?_
      repeat (go_big_quiet_step (fail))
      refine wpQuiet_nil ?_
      intro _ hw'
      obtain ⟨x, hw''⟩ := hw'
      subst hw''
      clear e1 f1 e2 f2
      go_wp2
      go_roundw
      case rel => exact ⟨k + 1, by omega, by go_num, hide (hbel.out.trans (x.is.mono hsz))⟩
      case measure => simp [intOf]; omega
    · go_wp2
      go_ret
      exact ⟨rfl, hbel.out⟩

set_option maxRecDepth 100000 in
set_option maxHeartbeats 1600000 in
theorem lyFilter_same (A A' : Option Addr) (n c c' : Nat) (l : List PT.Cond) (B B' : Nat) (w : World) (hl : l.length = n) (h : Rd w B 3 A n (cnds l)) (h' : Rd w B' 3 A' n (cnds l)) (hn : n ≤ 4000000) (hB : B ≤ w.heap.size) (hB' : B' ≤ w.heap.size) :
    Calls Tryd.prog 16 #[.slice A n c, .slice A' n c'] w (Bl w true) := by
  have HL := hide hl
  have HR := hide (h.more hB)
  have HR' := hide (h'.more hB')
  clear hl h h' hB hB'
  have hnn : ((n : Int) != (n : Int)) = false := by simp
  go_enter Tryd.func16, Tryd.ntmps16
  go_wp2
  go_loopw [5] (fun i wr => ∃ k : Nat, k ≤ n ∧ i = .int .i64 k ∧ Hid (Below w.heap.size w wr)) (fun i _ => n - (intOf i).toNat)
  case atStart => exact ⟨0, Nat.zero_le _, rfl, hide (Below.refl _ _)⟩
  case round =>
    obtain ⟨k, hk, rfl, hbel⟩ := hrel
    have hsz := hbel.out.size
    by_cases hlt : k < n
    · obtain ⟨b, off, rfl, hb, hc⟩ := (HR.out.below hbel.out).cond HL.out hlt
      obtain ⟨b', off', rfl, hb', hc'⟩ := (HR'.out.below hbel.out).cond HL.out hlt
      obtain ⟨c1, c2, c3⟩ := hc k hlt
      obtain ⟨d1, d2, d3⟩ := hc' k hlt
      clear hc hc'
      generalize l.getD k (([], []), false) = r at c1 d1 c2 d2 c3 d3
      obtain ⟨⟨t, v⟩, q⟩ := r
      have e1 := ext_cell (B := wr.heap.size) c1 (Nat.le_refl _)
      have f1 := ext_cell (B := wr.heap.size) d1 (Nat.le_refl _)
      have e2 := ext_cell (B := wr.heap.size) c2 (Nat.le_refl _)
      have f2 := ext_cell (B := wr.heap.size) d2 (Nat.le_refl _)
      have e3 := ext_cell (B := wr.heap.size) c3 (Nat.le_refl _)
      have f3 := ext_cell (B := wr.heap.size) d3 (Nat.le_refl _)
      have hin : (0 : Int) ≤ (k : Int) ∧ (k : Int) < (n : Int) := by omega
      go_wp2
      refine wp_region_ext wr.heap.size (by kernel_rfl) (by kernel_rfl) ?_
      repeat (go_big_quiet_step (fail))
      refine wpQuiet_nil ?_
      intro _ hw'
      obtain ⟨x, hw''⟩ := hw'
      subst hw''
      clear e1 f1 e2 f2 e3 f3
      go_wp2
      go_roundw
      case rel => exact ⟨k + 1, by omega, by go_num, hide (hbel.out.trans (x.is.mono hsz))⟩
      case measure => simp [intOf]; omega
    · go_wp2
      go_ret
      exact ⟨rfl, hbel.out⟩

end Go.Proofs.YtgedlpdjnnbolaaDoor
