/-
  WALKS: rows marked and held (laws.markRowS, laws.heldRowS).
-/
import Derived.Test.YtlalldjlgaldeaaRows2
import Derived.Test.YtlalldjlgaldeaaTail
namespace Go.Proofs.Ytlalldjlgaldeaa
set_option linter.unusedVariables false
open Go.RowKit

/-- What marking writes: a count from k on. -/
def marks (k n : Nat) : List PB.Row := (List.range n).map fun i => (((k + 2 * i : Nat) : Int), ((k + 2 * i + 1 : Nat) : Int))
@[simp] theorem marks_len (k n : Nat) : (marks k n).length = n := by simp [marks]
theorem marks_succ (k j : Nat) : marks k (j + 1) = marks k j ++ [(((k + 2 * j : Nat) : Int), ((k + 2 * j + 1 : Nat) : Int))] := by simp [marks, List.range_succ]
theorem marks_at {k n j : Nat} (h : j < n) : (marks k n).getD j (0, 0) = (((k + 2 * j : Nat) : Int), ((k + 2 * j + 1 : Nat) : Int)) := by simp [marks, h]
def markRows (l : List PB.Row) (k j : Nat) : List Value := rows (marks k j) ++ rows (l.drop j)
theorem markRows_step {l : List PB.Row} {k j : Nat} (hj : j < l.length) :
    ((markRows l k j).set (j * 2) (.int .i64 ((k + 2 * j : Nat) : Int))).set (j * 2 + 1) (.int .i64 ((k + 2 * j + 1 : Nat) : Int)) = markRows l k (j + 1) := by
  have h1 : (rows (marks k j)).length = j * 2 := by rw [rows_len]; simp
  have h2 : l.drop j = l.getD j (0, 0) :: l.drop (j + 1) := by rw [PB.getD_row hj]; exact List.drop_eq_getElem_cons hj
  unfold markRows
  rw [List.set_append_right _ _ (by omega), List.set_append_right _ _ (by omega), h1, h2, marks_succ, rows_append]
  simp [rows]

set_option maxRecDepth 100000 in
set_option maxHeartbeats 1600000 in
theorem markRowS_any (A : Option Addr) (n c lo hi : Nat) (l : List PB.Row) (k : Nat) (w : World) (hl : l.length = n) (h : OwB w lo hi 32 2 A n c (rows l)) (hn : n ≤ 4000000) (hk : k ≤ 40000000) :
    Calls Try.prog 16 #[.slice A n c, .int .i64 k] w fun e w' => e = .returned (.int .i64 ((k + 2 * n : Nat) : Int)) ∧ OwB w' lo hi 32 2 A n c (rows (marks k n)) ∧ Touch lo hi w w' := by
  have HL := hide hl
  have HO : Hid (w.ownsRow lo 32 2 (.slice A n c) n (markRows l k 0)) := hide (by simpa [markRows, marks, rows] using h.own)
  have HB : Hid (∀ w', Touch lo hi w w' → w'.ownsRow lo 32 2 (.slice A n c) n (markRows l k n) → OwB w' lo hi 32 2 A n c (rows (marks k n))) :=
    hide (fun w' t o => ⟨by have h2 : markRows l k n = rows (marks k n) := by unfold markRows; rw [List.drop_of_length_le (by omega)]; simp [rows]
                            rw [← h2]; exact o, h.blk, h.le, Nat.le_trans h.top t.size⟩)
  have HG : Hid (0 < n → ∃ g, A = some ⟨g, 0, none⟩ ∧ lo ≤ g ∧ g < hi) := hide (fun hn => by
    rcases h.own.2 with ⟨_, h0⟩ | ⟨g, cap, cur, e1, hg, _⟩
    · omega
    · injection e1 with e1
      subst e1
      exact ⟨g, rfl, hg, h.blk g rfl⟩)
  clear hl h
  go_enter Try.func16, Try.ntmps16
  go_wp2
  go_loopw [1, 5] (fun m i wr => ∃ j : Nat, j ≤ n ∧ m = .int .i64 ((k + 2 * j : Nat) : Int) ∧ i = .int .i64 j ∧ Hid (wr.ownsRow lo 32 2 (.slice A n c) n (markRows l k j)) ∧ Touch lo hi w wr) (fun _ i _ => n - (intOf i).toNat)
  case atStart => exact ⟨0, Nat.zero_le _, by simp, rfl, HO, Touch.refl _ _ _⟩
  case round =>
    clear HO
    obtain ⟨j, hj, rfl, rfl, ho, ht⟩ := hrel
    by_cases hlt : j < n
    · obtain ⟨g, rfl, hg1, hg2⟩ := HG.out (by omega)
      have hT := hide (markRows_step (l := l) (k := k) (j := j) (by rw [HL.out]; exact hlt))
      have hcell : ∀ i, i < n * 2 → ∃ old, wr.cell? ⟨g, i, none⟩ = some old := fun i hi => ⟨(markRows l k j)[i]'(by rw [ho.out.1]; exact hi), by rw [ho.out.cellAt i hi]; exact List.getElem?_eq_getElem _⟩
      obtain ⟨o1, g1⟩ := hcell (j * 2) (by omega)
      obtain ⟨o2, g2⟩ := hcell (j * 2 + 1) (by omega)
      have f1 := ho.out.frozenAt (j * 2)
      have f2 := ho.out.frozenAt (j * 2 + 1)
      clear hcell
      go_wp2
      have S1 := (ho.out.stored (j * 2) (.int .i64 ((k + 2 * j : Nat) : Int))).1
      have S2 := (S1.stored (j * 2 + 1) (.int .i64 ((k + 2 * j + 1 : Nat) : Int))).1
      rw [hT.out] at S2
      go_roundw
      case rel => exact ⟨j + 1, by omega, by go_num, by go_num, hide (by simpa using S2), by have := (ht.set ⟨hg1, hg2⟩ (j * 2) (.int .i64 ((k + 2 * j : Nat) : Int))).set ⟨hg1, hg2⟩ (j * 2 + 1) (.int .i64 ((k + 2 * j + 1 : Nat) : Int)); simpa using this⟩
      case measure => simp [intOf]; omega
    · have hkn : Hid (j = n) := hide (by omega)
      have hF := hide (HB.out wr ht (by have := ho.out; rwa [hkn.out] at this))
      go_wp2
      go_ret
      exact ⟨ret_int (by rw [hkn.out]), hF.out, ht⟩

set_option maxRecDepth 100000 in
set_option maxHeartbeats 1600000 in
theorem heldRowS_any (A : Option Addr) (n c lo hi : Nat) (k : Nat) (w : World) (h : OwB w lo hi 32 2 A n c (rows (marks k n))) (hn : n ≤ 4000000) (hk : k ≤ 40000000) :
    Calls Try.prog 17 #[.slice A n c, .int .i64 k] w fun e w' => e = .returned (.int .i64 ((k + 2 * n : Nat) : Int)) ∧ w = w' := by
  have HR := hide h.rd
  clear h
  go_enter Try.func17, Try.ntmps17
  go_wp2
  go_loopw [1, 5] (fun m i wr => ∃ j : Nat, j ≤ n ∧ m = .int .i64 ((k + 2 * j : Nat) : Int) ∧ i = .int .i64 j ∧ w = wr) (fun _ i _ => n - (intOf i).toNat)
  case atStart => exact ⟨0, Nat.zero_le _, by simp, rfl, rfl⟩
  case round =>
    obtain ⟨j, hj, rfl, rfl, rfl⟩ := hrel
    by_cases hlt : j < n
    · obtain ⟨b, off, rfl, hb, hc⟩ := HR.out.row (by simp) hlt
      obtain ⟨c1, c2⟩ := hc j hlt
      rw [marks_at hlt] at c1 c2
      clear hc
      go_wp2
      go_roundw
      case rel => exact ⟨j + 1, by omega, by go_num, by go_num, trivial⟩
      case measure => simp [intOf]; omega
    · have hkn : Hid (j = n) := hide (by omega)
      go_wp2
      go_ret
      exact ⟨ret_int (by rw [hkn.out]), rfl⟩

end Go.Proofs.Ytlalldjlgaldeaa
