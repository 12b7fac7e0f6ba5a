/-
  WALKS: conditions and filters: FilterOk of the program and of the reference; lists of conditions copied, told apart, measured.
-/
import Derived.Test.YtgedlpdjnnbolaaDoorNames2
namespace Go.Proofs.YtgedlpdjnnbolaaDoor
set_option linter.unusedVariables false
open Go.RowKit

def cnds (l : List PT.Cond) : List Value := l.flatMap fun r => [.string (S r.1.1), .string (S r.1.2), .bool r.2]
theorem cnds_len (l : List PT.Cond) : (cnds l).length = l.length * 3 := by
  induction l with
  | nil => rfl
  | cons a l ih => simp only [cnds, List.flatMap_cons, List.length_append, List.length_cons, List.length_nil] at ih ⊢; omega
theorem cnds_append (a b : List PT.Cond) : cnds (a ++ b) = cnds a ++ cnds b := by simp [cnds]
theorem cnds_at {l : List PT.Cond} {k : Nat} (h : k < l.length) : (cnds l)[k * 3]? = some (.string (S (l.getD k (([], []), false)).1.1)) ∧ (cnds l)[k * 3 + 1]? = some (.string (S (l.getD k (([], []), false)).1.2)) ∧ (cnds l)[k * 3 + 2]? = some (.bool (l.getD k (([], []), false)).2) := by
  induction l generalizing k with
  | nil => simp at h
  | cons a l ih =>
    have e : cnds (a :: l) = .string (S a.1.1) :: .string (S a.1.2) :: .bool a.2 :: cnds l := rfl
    rw [e]
    match k with
    | 0 => simp
    | k + 1 =>
      have := ih (k := k) (by simpa using h)
      rw [show (k + 1) * 3 = k * 3 + 1 + 1 + 1 by omega]
      simpa using this
theorem cnds_one {l : List PT.Cond} : ∀ u ∈ cnds l, u.oneCell' = true := by
  intro u hu
  simp only [cnds, List.mem_flatMap, List.mem_cons, List.not_mem_nil, or_false] at hu
  obtain ⟨a, _, rfl | rfl | rfl⟩ := hu <;> rfl
/-- Where there is a k-th condition: its three cells. -/
theorem Rd.cond {w : World} {B : Nat} {A : Option Addr} {n : Nat} {l : List PT.Cond} (h : Rd w B 3 A n (cnds l)) (hl : l.length = n) {k : Nat} (hk : k < n) :
    ∃ b off, A = some ⟨b, off, none⟩ ∧ b < B ∧ ∀ j, j < n → w.cell? ⟨b, off + j * 3, none⟩ = some (.string (S (l.getD j (([], []), false)).1.1)) ∧ w.cell? ⟨b, off + j * 3 + 1, none⟩ = some (.string (S (l.getD j (([], []), false)).1.2)) ∧ w.cell? ⟨b, off + j * 3 + 2, none⟩ = some (.bool (l.getD j (([], []), false)).2) := by
  obtain ⟨b, off, e, hb, hc⟩ := h.at_ (by omega)
  exact ⟨b, off, e, hb, fun j hj => ⟨hc _ _ (cnds_at (by omega)).1, hc _ _ (cnds_at (by omega)).2.1, hc _ _ (cnds_at (by omega)).2.2⟩⟩

theorem info_cond : (Tryd.prog.info? 52).map (fun i => (i.zero, i.size, i.bytes)) = some (some (.agg #[.string ⟨#[]⟩, .string ⟨#[]⟩, .bool false]), 3, 40) := by kernel_rfl

theorem below_keepN {W w w' : World} (h : Below W.heap.size W w) (b : Below w.heap.size w w') : Below W.heap.size W w' := h.trans (b.mono h.size)

set_option maxRecDepth 100000 in
set_option maxHeartbeats 1600000 in
theorem implFilterOk (A : Option Addr) (n c : Nat) (l : List PT.Cond) (B : Nat) (w : World) (hl : l.length = n) (h : Rd w B 3 A n (cnds l)) (hn : n ≤ 2000000) (hB : B ≤ w.heap.size) : Calls Tryd.prog 27 #[.slice A n c] w (Bl w (PT.filterB l)) := by
  have HL := hide hl
  have HR := hide (h.more hB)
  clear hl h hB
  go_enter Tryd.func27, Tryd.ntmps27
  go_wp2
  go_loopw [7] (fun i wr => ∃ k : Nat, k ≤ n ∧ i = .int .i64 k ∧ Hid (PT.condTo l k = true) ∧ Hid (Below w.heap.size w wr)) (fun i _ => n - (intOf i).toNat)
  case atStart => exact ⟨0, Nat.zero_le _, rfl, hide (by simp [PT.condTo]), hide (Below.refl _ _)⟩
  case round =>
    obtain ⟨k, hk, rfl, hall, hbel⟩ := hrel
    have hsz := hbel.out.size
    by_cases hlt : k < n
    · obtain ⟨b, off, rfl, hb, hc⟩ := (HR.out.below hbel.out).cond HL.out hlt
      obtain ⟨c1, c2, c3⟩ := hc k hlt
      obtain ⟨y, hy⟩ : ∃ y, l.getD k (([], []), false) = y := ⟨_, rfl⟩
      have hs := hide (PT.condTo_succ (l := l) (k := k) (by rw [HL.out]; exact hlt))
      have hF := hide (PT.filterB_no (l := l) (k := k) (by rw [HL.out]; exact hlt))
      rw [hy] at c1 c2 c3
      have HY := hide hy
      obtain ⟨⟨t, v⟩, q⟩ := y
      clear hc hy
      have C := hide (tagOk_any t v (wr.alloc (.cells #[.string (S t), .string (S v), .bool q] 52)))
      cases ht : PT.tagB (t, v)
      · have F : Hid (PT.filterB l = false) := hide (hF.out (by rw [HY.out]; exact ht))
        rw [ht] at C
        clear ht hF hs
        go_wp2_with fail
        refine C.out.mono ?_
        rintro e w2 ⟨rfl, b2⟩
        have HB := hide (below_keepN (hbel.out.alloc hsz _) b2)
        clear b2 C
        go_wp2
        go_ret
        exact ⟨ret_bool F.out.symm, HB.out⟩
      · have F : Hid (PT.condTo l (k + 1) = true) := hide (by rw [hs.out, hall.out, HY.out, Bool.true_and]; exact ht)
        rw [ht] at C
        clear ht hF hs hall
        go_wp2_with fail
        refine C.out.mono ?_
        rintro e w2 ⟨rfl, b2⟩
        have HB := hide (below_keepN (hbel.out.alloc hsz _) b2)
        clear b2 C
        go_wp2
        go_roundw
        case rel => exact ⟨k + 1, by omega, by go_num, F, HB⟩
        case measure => simp [intOf]; omega
    · have hkn : k = n := by omega
      have F : Hid (PT.filterB l = decide (n ≤ 3)) := hide (by
        have h1 := hall.out
        unfold PT.condTo at h1
        rw [hkn, ← HL.out, List.take_length] at h1
        unfold PT.filterB
        rw [h1, HL.out]; rfl)
      clear hkn
      go_wp2
      all_goals (go_ret; exact ⟨ret_bool (by rw [F.out]; exact decide_eq_decide.2 (by omega)), hbel.out⟩)

set_option maxRecDepth 100000 in
set_option maxHeartbeats 1600000 in
theorem specFilterOk (A : Option Addr) (n c : Nat) (l : List PT.Cond) (B : Nat) (w : World) (hl : l.length = n) (h : Rd w B 3 A n (cnds l)) (hn : n ≤ 2000000) (hB : B ≤ w.heap.size) : Calls Tryd.prog 28 #[.slice A n c] w (Bl w (PT.filterB l)) := by
  have HL := hide hl
  have HR := hide (h.more hB)
  clear hl h hB
  go_enter Tryd.func28, Tryd.ntmps28
  go_wp2
  go_loopw [3] (fun i wr => ∃ k : Nat, k ≤ n ∧ i = .int .i64 k ∧ Hid (PT.condTo l k = true) ∧ Hid (Below w.heap.size w wr)) (fun i _ => n - (intOf i).toNat)
  case atStart => exact ⟨0, Nat.zero_le _, rfl, hide (by simp [PT.condTo]), hide (Below.refl _ _)⟩
  case round =>
    obtain ⟨k, hk, rfl, hall, hbel⟩ := hrel
    have hsz := hbel.out.size
    by_cases hlt : k < n
    · obtain ⟨b, off, rfl, hb, hc⟩ := (HR.out.below hbel.out).cond HL.out hlt
      obtain ⟨c1, c2, c3⟩ := hc k hlt
      obtain ⟨y, hy⟩ : ∃ y, l.getD k (([], []), false) = y := ⟨_, rfl⟩
      have hs := hide (PT.condTo_succ (l := l) (k := k) (by rw [HL.out]; exact hlt))
      have hF := hide (PT.filterB_no (l := l) (k := k) (by rw [HL.out]; exact hlt))
      rw [hy] at c1 c2 c3
      have HY := hide hy
      obtain ⟨⟨t, v⟩, q⟩ := y
      clear hc hy
      have C := hide (l3Tag_any t v wr)
      cases ht : PT.tagB (t, v)
      · have F : Hid (PT.filterB l = false) := hide (hF.out (by rw [HY.out]; exact ht))
        rw [ht] at C
        clear ht hF hs
        go_wp2_with fail
        refine C.out.mono ?_
        rintro e w2 ⟨rfl, b2⟩
        have HB := hide (below_keepN hbel.out b2)
        clear b2 C
        go_wp2
        go_ret
        exact ⟨ret_bool F.out.symm, HB.out⟩
      · have F : Hid (PT.condTo l (k + 1) = true) := hide (by rw [hs.out, hall.out, HY.out, Bool.true_and]; exact ht)
        rw [ht] at C
        clear ht hF hs hall
        go_wp2_with fail
        refine C.out.mono ?_
        rintro e w2 ⟨rfl, b2⟩
        have HB := hide (below_keepN hbel.out b2)
        clear b2 C
        go_wp2
        go_roundw
        case rel => exact ⟨k + 1, by omega, by go_num, F, HB⟩
        case measure => simp [intOf]; omega
    · have hkn : k = n := by omega
      have F : Hid (PT.filterB l = decide (n ≤ 3)) := hide (by
        have h1 := hall.out
        unfold PT.condTo at h1
        rw [hkn, ← HL.out, List.take_length] at h1
        unfold PT.filterB
        rw [h1, HL.out]; rfl)
      clear hkn
      go_wp2
      all_goals (go_ret; exact ⟨ret_bool (by rw [F.out]; exact decide_eq_decide.2 (by omega)), hbel.out⟩)

/-- Three stores into a block of three cells. -/
theorem set_three {w : World} {g : Nat} {e : TypeId} {a b c : Value} (x y z : Value) (h : w.heap[g]? = some (.cells #[a, b, c] e (0, 0))) :
    (((w.setCell ⟨g, 0, none⟩ x).setCell ⟨g, 1, none⟩ y).setCell ⟨g, 2, none⟩ z).heap[g]? = some (.cells #[x, y, z] e (0, 0)) := by
  have h1 := heap_setCell_same w g 0 _ e x h
  have h2 := heap_setCell_same _ g 1 _ e y h1
  have h3 := heap_setCell_same _ g 2 _ e z h2
  simpa using h3
theorem cell_three {w : World} {g : Nat} {e : TypeId} {a b c : Value} (h : w.heap[g]? = some (.cells #[a, b, c] e (0, 0))) : w.cell? ⟨g, 0, none⟩ = some a ∧ w.cell? ⟨g, 1, none⟩ = some b ∧ w.cell? ⟨g, 2, none⟩ = some c ∧ w.frozen? ⟨g, 0, none⟩ = false ∧ w.frozen? ⟨g, 1, none⟩ = false ∧ w.frozen? ⟨g, 2, none⟩ = false :=
  ⟨by rw [cell_of_row _ _ _ _ _ _ h]; rfl, by rw [cell_of_row _ _ _ _ _ _ h]; rfl, by rw [cell_of_row _ _ _ _ _ _ h]; rfl, frozen_of_row _ _ _ _ _ h, frozen_of_row _ _ _ _ _ h, frozen_of_row _ _ _ _ _ h⟩



end Go.Proofs.YtgedlpdjnnbolaaDoor
