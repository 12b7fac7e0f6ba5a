/-
  WALKS: lists of integers: told apart (eqIntS, lyInts), copied (toIntS), marked and held (markIntS, heldIntS).
-/
import Derived.Test.YthmmcnabfmegfaaPack2
import Derived.BigQuiet
import Derived.Deep.QuietTactic
namespace Go.Proofs.Ythmmcnabfmegfaa
set_option linter.unusedVariables false
open Go.RowKit

/-- A bool is handed back, nothing that was there is written. -/
def Bl (w : World) (b : Bool) (e : Ending) (w' : World) : Prop := e = .returned (.bool b) ∧ Below w.heap.size w w'

theorem eq_take {l l' : List Int} {k : Nat} (hk : k < l.length) (hk' : k < l'.length) (h : l.take k = l'.take k) (hx : l.getD k 0 = l'.getD k 0) : l.take (k + 1) = l'.take (k + 1) := by
  rw [take_snoc l k hk, take_snoc l' k hk', h, ← getD_eq hk, ← getD_eq hk', hx]
theorem drewN_below (w : World) (n : Nat) (B : Nat) : Below B w (w.drewN n) := ⟨rfl, rfl, rfl, Nat.le_refl _, fun _ _ => rfl⟩

set_option maxRecDepth 100000 in
set_option maxHeartbeats 1600000 in
theorem eqIntS_any (A A' : Option Addr) (n n' c c' : Nat) (l l' : List Int) (B B' : Nat) (w : World) (hl : l.length = n) (hl' : l'.length = n') (h : Rd w B 1 A n (ints l)) (h' : Rd w B' 1 A' n' (ints l')) (hn : n ≤ 4000000) (hn' : n' ≤ 4000000) (hB : B ≤ w.heap.size) (hB' : B' ≤ w.heap.size) :
    Calls Try.prog 25 #[.slice A n c, .slice A' n' c'] w (Bl w (decide (l = l'))) := by
  have HL := hide hl
  have HL' := hide hl'
  have HR := hide (h.more hB)
  have HR' := hide (h'.more hB')
  clear hl hl' h h' hB hB'
  by_cases hnn : n = n'
  · subst hnn
    go_enter Try.func25, Try.ntmps25
    go_wp2
    go_loopw [5] (fun i wr => ∃ k : Nat, k ≤ n ∧ i = .int .i64 k ∧ Hid (l.take k = l'.take k) ∧ Below w.heap.size w wr) (fun i _ => n - (intOf i).toNat)
    case atStart => exact ⟨0, Nat.zero_le _, rfl, hide (by simp), Below.refl _ _⟩
    case round =>
      obtain ⟨k, hk, rfl, hp, hbel⟩ := hrel
      by_cases hlt : k < n
      · obtain ⟨b, off, rfl, hb, hc⟩ := (HR.out.below hbel).int HL.out hlt
        obtain ⟨b', off', rfl, hb', hc'⟩ := (HR'.out.below hbel).int HL'.out hlt
        have hN : Hid (l.getD k 0 = l'.getD k 0 → l.take (k + 1) = l'.take (k + 1)) := hide (eq_take (by rw [HL.out]; exact hlt) (by rw [HL'.out]; exact hlt) hp.out)
        have hF : Hid (l.getD k 0 ≠ l'.getD k 0 → decide (l = l') = false) := hide (fun hne => by
          apply decide_eq_false
          rintro rfl
          exact hne rfl)
        generalize l.getD k 0 = x at hc hN hF
        generalize l'.getD k 0 = y at hc' hN hF
        by_cases hxy : x = y
        · subst hxy
          have hT := hide (hN.out rfl)
          clear hN hF
          have hin : (0 : Int) ≤ (k : Int) ∧ (k : Int) < (n : Int) := by omega
          go_wp2
          go_quiet (fail)
          go_wp2
          go_roundw
          case rel => exact ⟨k + 1, by omega, by go_num, hT, below_drewN hbel _⟩
          case measure => simp [intOf]; omega
        · have hne : (x != y) = true := by simpa using hxy
          have hin : (0 : Int) ≤ (k : Int) ∧ (k : Int) < (n : Int) := by omega
          have hf := hide (hF.out hxy)
          clear hF hN hxy
          go_wp2
          go_quiet (fail)
          go_wp2
          go_ret
          exact ⟨ret_bool hf.out.symm, below_drewN hbel _⟩
      · have hf : Hid (decide (l = l') = true) := hide (by
          have h1 := hp.out
          rw [List.take_of_length_le (by rw [HL.out]; omega), List.take_of_length_le (by rw [HL'.out]; omega)] at h1
          exact decide_eq_true h1)
        go_wp2
        go_ret
        exact ⟨ret_bool hf.out.symm, hbel⟩
  · have hf : Hid (decide (l = l') = false) := hide (decide_eq_false (fun e => hnn (by rw [← HL.out, ← HL'.out, e])))
    have hne : ((n : Int) != (n' : Int)) = true := by simp; omega
    clear hnn
    go_enter Try.func25, Try.ntmps25
    go_wp2
    go_ret
    exact ⟨ret_bool hf.out.symm, Below.refl _ _⟩

set_option maxRecDepth 100000 in
set_option maxHeartbeats 1600000 in
theorem lyInts_any (A A' : Option Addr) (n n' c c' : Nat) (l l' : List Int) (B B' : Nat) (w : World) (hl : l.length = n) (hl' : l'.length = n') (h : Rd w B 1 A n (ints l)) (h' : Rd w B' 1 A' n' (ints l')) (hn : n ≤ 4000000) (hn' : n' ≤ 4000000) (hB : B ≤ w.heap.size) (hB' : B' ≤ w.heap.size) :
    Calls Try.prog 27 #[.slice A n c, .slice A' n' c'] w (Bl w (decide (l = l'))) := by
  have HL := hide hl
  have HL' := hide hl'
  have HR := hide (h.more hB)
  have HR' := hide (h'.more hB')
  clear hl hl' h h' hB hB'
  by_cases hnn : n = n'
  · subst hnn
    go_enter Try.func27, Try.ntmps27
    go_wp2
    go_loopw [5] (fun i wr => ∃ k : Nat, k ≤ n ∧ i = .int .i64 k ∧ Hid (l.take k = l'.take k) ∧ Below w.heap.size w wr) (fun i _ => n - (intOf i).toNat)
    case atStart => exact ⟨0, Nat.zero_le _, rfl, hide (by simp), Below.refl _ _⟩
    case round =>
      obtain ⟨k, hk, rfl, hp, hbel⟩ := hrel
      by_cases hlt : k < n
      · obtain ⟨b, off, rfl, hb, hc⟩ := (HR.out.below hbel).int HL.out hlt
        obtain ⟨b', off', rfl, hb', hc'⟩ := (HR'.out.below hbel).int HL'.out hlt
        have hN : Hid (l.getD k 0 = l'.getD k 0 → l.take (k + 1) = l'.take (k + 1)) := hide (eq_take (by rw [HL.out]; exact hlt) (by rw [HL'.out]; exact hlt) hp.out)
        have hF : Hid (l.getD k 0 ≠ l'.getD k 0 → decide (l = l') = false) := hide (fun hne => by
          apply decide_eq_false
          rintro rfl
          exact hne rfl)
        generalize l.getD k 0 = x at hc hN hF
        generalize l'.getD k 0 = y at hc' hN hF
        by_cases hxy : x = y
        · subst hxy
          have hT := hide (hN.out rfl)
          clear hN hF
          have hin : (0 : Int) ≤ (k : Int) ∧ (k : Int) < (n : Int) := by omega
          go_wp2
          go_quiet (fail)
          go_wp2
          go_roundw
          case rel => exact ⟨k + 1, by omega, by go_num, hT, below_drewN hbel _⟩
          case measure => simp [intOf]; omega
        · have hne : (x != y) = true := by simpa using hxy
          have hin : (0 : Int) ≤ (k : Int) ∧ (k : Int) < (n : Int) := by omega
          have hf := hide (hF.out hxy)
          clear hF hN hxy
          go_wp2
          go_quiet (fail)
          go_wp2
          go_ret
          exact ⟨ret_bool hf.out.symm, below_drewN hbel _⟩
      · have hf : Hid (decide (l = l') = true) := hide (by
          have h1 := hp.out
          rw [List.take_of_length_le (by rw [HL.out]; omega), List.take_of_length_le (by rw [HL'.out]; omega)] at h1
          exact decide_eq_true h1)
        go_wp2
        go_ret
        exact ⟨ret_bool hf.out.symm, hbel⟩
  · have hf : Hid (decide (l = l') = false) := hide (decide_eq_false (fun e => hnn (by rw [← HL.out, ← HL'.out, e])))
    have hne : ((n : Int) != (n' : Int)) = true := by simp; omega
    clear hnn
    go_enter Try.func27, Try.ntmps27
    go_wp2
    go_ret
    exact ⟨ret_bool hf.out.symm, Below.refl _ _⟩

theorem info_int : (Try.prog.info? 3).map (fun i => (i.zero, i.size, i.bytes)) = some (some (.int .i64 0), 1, 8) := by kernel_rfl

/-- A list, its first k numbers laid, zeros behind. -/
def laidInts (l : List Int) (n k : Nat) : List Value := ints (l.take k) ++ List.replicate (n - k) (.int .i64 0)
theorem laid_step {l : List Int} {n k : Nat} (hl : l.length = n) (hk : k < n) : (laidInts l n k).set k (.int .i64 (l.getD k 0)) = laidInts l n (k + 1) := by
  unfold laidInts
  rw [List.set_append_right _ _ (by simp; omega), take_snoc l k (by omega), ints_append, ← getD_eq (by omega)]
  rw [show n - k = (n - (k + 1)) + 1 by omega, List.replicate_succ]
  have : k - (ints (l.take k)).length = 0 := by simp; omega
  rw [this]
  simp [ints]
theorem laid_done {l : List Int} {n : Nat} (hl : l.length = n) : laidInts l n n = ints l := by
  unfold laidInts
  rw [← hl]; simp
theorem laid_start (l : List Int) (n : Nat) : (madeCells (Value.int .i64 0).cells (n * 1)).toList = laidInts l n 0 := by
  rw [Nat.mul_one]
  simp only [laidInts, List.take_zero, ints, List.map_nil, List.nil_append, Nat.sub_zero]
  exact toList_madeCells_one _ _

/-- A list of integers in the call's own memory. -/
def IntL (w : World) (l : List Int) (e : Ending) (w' : World) : Prop := ∃ A c, e = .returned (.slice A l.length c) ∧ w'.ownsRow w.heap.size 3 1 (.slice A l.length c) l.length (ints l) ∧ Below w.heap.size w w'

set_option maxRecDepth 100000 in
set_option maxHeartbeats 1600000 in
theorem toIntS_any (A : Option Addr) (n c : Nat) (l : List Int) (B : Nat) (w : World) (hl : l.length = n) (h : Rd w B 1 A n (ints l)) (hn : n ≤ 4000000) (hB : B ≤ w.heap.size) :
    Calls Try.prog 23 #[.slice A n c] w (IntL w l) := by
  obtain ⟨i0, hi, hz0, hz1, hz2⟩ := info_parts info_int
  have HL := hide hl
  have HR := hide (h.more hB)
  clear hl h hB
  go_enter Try.func23, Try.ntmps23
  go_wp2_with (first
    | (at_make; refine wpList_make_full _ rfl (.tmp 6) (.tmp 6) 29 rfl w.heap.size 3 i0 (.int .i64 0) 1 Try.underlying29 hi hz0 hz1 _ _ _ _ n rfl rfl rfl rfl (by rw [hz2]; omega) (by unfold maxLen; omega) (Nat.le_refl _) ?_; intro w1 hown1 hg1))
  have HO : Hid (w1.ownsRow w.heap.size 3 1 (.slice (some ⟨w.heap.size, 0, none⟩) n n) n (laidInts l n 0)) := hide (by rw [← laid_start l n]; exact hown1)
  have hb1 : Below w.heap.size w w1 := (Below.refl _ _).grown hg1 (Nat.le_refl _) (by simp)
  clear hown1 hg1
  go_loopw [4] (fun i wr => ∃ k : Nat, k ≤ n ∧ i = .int .i64 k ∧ Hid (wr.ownsRow w.heap.size 3 1 (.slice (some ⟨w.heap.size, 0, none⟩) n n) n (laidInts l n k)) ∧ Below w.heap.size w wr) (fun i _ => n - (intOf i).toNat)
  case atStart => exact ⟨0, Nat.zero_le _, rfl, HO, hb1⟩
  case round =>
    clear HO hb1
    obtain ⟨k, hk, rfl, ho, hbel⟩ := hrel
    by_cases hlt : k < n
    · obtain ⟨b, off, rfl, hb, hc⟩ := (HR.out.below hbel).int HL.out hlt
      have hS := hide ((ho.out.stored k (.int .i64 (l.getD k 0))).1)
      rw [laid_step HL.out hlt] at hS
      have hl1 : (laidInts l n k).length = n := by have := ho.out.1; omega
      have hcell : wr.cell? ⟨w.heap.size, k, none⟩ = some ((laidInts l n k)[k]'(by omega)) := by
        rw [ho.out.cellAt k (by omega)]; exact List.getElem?_eq_getElem _
      have hfr := ho.out.frozenAt k
      generalize (laidInts l n k)[k]'(by omega) = old at hcell
      have hsz := hbel.size
      generalize l.getD k 0 = x at hc hS
      go_wp2
      go_roundw
      case rel => exact ⟨k + 1, by omega, by go_num, hS, hbel.setCell (p := ⟨w.heap.size, k, none⟩) (Nat.le_refl _) _⟩
      case measure => simp [intOf]; omega
    · have hf := hide (laid_done HL.out)
      have hkn : Hid (k = n) := hide (by omega)
      have hln := hide HL.out
      go_wp2
      go_ret
      have := ho.out
      rw [hkn.out, hf.out] at this
      rw [← HL.out] at this ⊢
      exact ⟨_, _, rfl, this, hbel⟩

end Go.Proofs.Ythmmcnabfmegfaa
