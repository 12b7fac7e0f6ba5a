/-
  WALKS: integers marked and held (laws.markIntS, laws.heldIntS).
-/
import Derived.Test.YthmmcnabfmegfaaInts
import Derived.Test.YthmmcnabfmegfaaTail
namespace Go.Proofs.Ythmmcnabfmegfaa
set_option linter.unusedVariables false
open Go.RowKit

/-- What marking writes: a count from k on. -/
def marksI (k n : Nat) : List Int := (List.range n).map fun i => ((k + i : Nat) : Int)
@[simp] theorem marksI_len (k n : Nat) : (marksI k n).length = n := by simp [marksI]
theorem marksI_succ (k j : Nat) : marksI k (j + 1) = marksI k j ++ [((k + j : Nat) : Int)] := by simp [marksI, List.range_succ]
theorem marksI_at {k n j : Nat} (h : j < n) : (marksI k n).getD j 0 = ((k + j : Nat) : Int) := by simp [marksI, h]
def markInts (l : List Int) (k j : Nat) : List Value := ints (marksI k j) ++ ints (l.drop j)
theorem markInts_step {l : List Int} {k j : Nat} (hj : j < l.length) : (markInts l k j).set j (.int .i64 ((k + j : Nat) : Int)) = markInts l k (j + 1) := by
  have h1 : (ints (marksI k j)).length = j := by rw [ints_len]; simp
  have h2 : l.drop j = l.getD j 0 :: l.drop (j + 1) := by rw [getD_eq hj]; exact List.drop_eq_getElem_cons hj
  unfold markInts
  rw [List.set_append_right _ _ (by omega), h1, h2, marksI_succ, ints_append]
  simp [ints]

set_option maxRecDepth 100000 in
set_option maxHeartbeats 1600000 in
theorem markIntS_any (A : Option Addr) (n c lo hi : Nat) (l : List Int) (k : Nat) (w : World) (hl : l.length = n) (h : OwB w lo hi 3 1 A n c (ints l)) (hn : n ≤ 4000000) (hk : k ≤ 40000000) :
    Calls Try.prog 30 #[.slice A n c, .int .i64 k] w fun e w' => e = .returned (.int .i64 ((k + n : Nat) : Int)) ∧ OwB w' lo hi 3 1 A n c (ints (marksI k n)) ∧ Touch lo hi w w' := by
  have HL := hide hl
  have HO : Hid (w.ownsRow lo 3 1 (.slice A n c) n (markInts l k 0)) := hide (by simpa [markInts, marksI, ints] using h.own)
  have HB : Hid (∀ w', Touch lo hi w w' → w'.ownsRow lo 3 1 (.slice A n c) n (markInts l k n) → OwB w' lo hi 3 1 A n c (ints (marksI k n))) :=
    hide (fun w' t o => ⟨by have h2 : markInts l k n = ints (marksI k n) := by unfold markInts; rw [List.drop_of_length_le (by omega)]; simp [ints]
                            rw [← h2]; exact o, h.blk, h.le, Nat.le_trans h.top t.size⟩)
  have HG : Hid (0 < n → ∃ g, A = some ⟨g, 0, none⟩ ∧ lo ≤ g ∧ g < hi) := hide (fun hn => by
    rcases h.own.2 with ⟨_, h0⟩ | ⟨g, cap, cur, e1, hg, _⟩
    · omega
    · injection e1 with e1
      subst e1
      exact ⟨g, rfl, hg, h.blk g rfl⟩)
  clear hl h
  go_enter Try.func30, Try.ntmps30
  go_wp2
  go_loopw [1, 5] (fun m i wr => ∃ j : Nat, j ≤ n ∧ m = .int .i64 ((k + j : Nat) : Int) ∧ i = .int .i64 j ∧ Hid (wr.ownsRow lo 3 1 (.slice A n c) n (markInts l k j)) ∧ Touch lo hi w wr) (fun _ i _ => n - (intOf i).toNat)
  case atStart => exact ⟨0, Nat.zero_le _, by simp, rfl, HO, Touch.refl _ _ _⟩
  case round =>
    clear HO
    obtain ⟨j, hj, rfl, rfl, ho, ht⟩ := hrel
    by_cases hlt : j < n
    · obtain ⟨g, rfl, hg1, hg2⟩ := HG.out (by omega)
      have hT := hide (markInts_step (l := l) (k := k) (j := j) (by rw [HL.out]; exact hlt))
      have hcell : ∀ i, i < n * 1 → ∃ old, wr.cell? ⟨g, i, none⟩ = some old := fun i hi => ⟨(markInts l k j)[i]'(by rw [ho.out.1]; exact hi), by rw [ho.out.cellAt i hi]; exact List.getElem?_eq_getElem _⟩
      obtain ⟨o1, g1⟩ := hcell j (by omega)
      have f1 := ho.out.frozenAt j
      clear hcell
      go_wp2
      have S1 := (ho.out.stored j (.int .i64 ((k + j : Nat) : Int))).1
      rw [hT.out] at S1
      go_roundw
      case rel => exact ⟨j + 1, by omega, by go_num, by go_num, hide (by simpa using S1), by have := ht.set ⟨hg1, hg2⟩ j (.int .i64 ((k + j : Nat) : Int)); simpa using this⟩
      case measure => simp [intOf]; omega
    · have hkn : Hid (j = n) := hide (by omega)
      have hF := hide (HB.out wr ht (by have := ho.out; rwa [hkn.out] at this))
      go_wp2
      go_ret
      exact ⟨ret_int (by rw [hkn.out]), hF.out, ht⟩

set_option maxRecDepth 100000 in
set_option maxHeartbeats 1600000 in
theorem heldIntS_any (A : Option Addr) (n c lo hi : Nat) (k : Nat) (w : World) (h : OwB w lo hi 3 1 A n c (ints (marksI k n))) (hn : n ≤ 4000000) (hk : k ≤ 40000000) :
    Calls Try.prog 31 #[.slice A n c, .int .i64 k] w fun e w' => e = .returned (.int .i64 ((k + n : Nat) : Int)) ∧ w = w' := by
  have HR := hide h.rd
  clear h
  go_enter Try.func31, Try.ntmps31
  go_wp2
  go_loopw [1, 5] (fun m i wr => ∃ j : Nat, j ≤ n ∧ m = .int .i64 ((k + j : Nat) : Int) ∧ i = .int .i64 j ∧ w = wr) (fun _ i _ => n - (intOf i).toNat)
  case atStart => exact ⟨0, Nat.zero_le _, by simp, rfl, rfl⟩
  case round =>
    obtain ⟨j, hj, rfl, rfl, rfl⟩ := hrel
    by_cases hlt : j < n
    · obtain ⟨b, off, rfl, hb, hc⟩ := HR.out.int (by simp) hlt
      rw [marksI_at hlt] at hc
      go_wp2
      go_roundw
      case rel => exact ⟨j + 1, by omega, by go_num, by go_num, trivial⟩
      case measure => simp [intOf]; omega
    · have hkn : Hid (j = n) := hide (by omega)
      go_wp2
      go_ret
      exact ⟨ret_int (by rw [hkn.out]), rfl⟩

end Go.Proofs.Ythmmcnabfmegfaa
