/-
  WALKS: conditions and filters: FilterOk of the program and of the reference; lists of conditions copied, told apart, measured.
-/
import Derived.Test.YtgedlpdjnnbolaaNames2
namespace Go.Proofs.Ytgedlpdjnnbolaa
set_option linter.unusedVariables false
open Go.RowKit

def cnds (l : List PT.Cond) : List Value := l.flatMap fun r => [.string (S r.1.1), .string (S r.1.2), .bool r.2]
theorem cnds_len (l : List PT.Cond) : (cnds l).length = l.length * 3 := by
  induction l with
  | nil => rfl
  | cons a l ih => simp only [cnds, List.flatMap_cons, List.length_append, List.length_cons, List.length_nil] at ih ⊢; omega
theorem cnds_append (a b : List PT.Cond) : cnds (a ++ b) = cnds a ++ cnds b := by simp [cnds]
theorem cnds_at {l : List PT.Cond} {k : Nat} (h : k < l.length) : (cnds l)[k * 3]? = some (.string (S (l.getD k (([], []), false)).1.1)) ∧ (cnds l)[k * 3 + 1]? = some (.string (S (l.getD k (([], []), false)).1.2)) ∧ (cnds l)[k * 3 + 2]? = some (.bool (l.getD k (([], []), false)).2) := by
  induction l generalizing k with
  | nil => simp at h
  | cons a l ih =>
    have e : cnds (a :: l) = .string (S a.1.1) :: .string (S a.1.2) :: .bool a.2 :: cnds l := rfl
    rw [e]
    match k with
    | 0 => simp
    | k + 1 =>
      have := ih (k := k) (by simpa using h)
      rw [show (k + 1) * 3 = k * 3 + 1 + 1 + 1 by omega]
      simpa using this
theorem cnds_one {l : List PT.Cond} : ∀ u ∈ cnds l, u.oneCell' = true := by
  intro u hu
  simp only [cnds, List.mem_flatMap, List.mem_cons, List.not_mem_nil, or_false] at hu
  obtain ⟨a, _, rfl | rfl | rfl⟩ := hu <;> rfl
/-- Where there is a k-th condition: its three cells. -/
theorem Rd.cond {w : World} {B : Nat} {A : Option Addr} {n : Nat} {l : List PT.Cond} (h : Rd w B 3 A n (cnds l)) (hl : l.length = n) {k : Nat} (hk : k < n) :
    ∃ b off, A = some ⟨b, off, none⟩ ∧ b < B ∧ ∀ j, j < n → w.cell? ⟨b, off + j * 3, none⟩ = some (.string (S (l.getD j (([], []), false)).1.1)) ∧ w.cell? ⟨b, off + j * 3 + 1, none⟩ = some (.string (S (l.getD j (([], []), false)).1.2)) ∧ w.cell? ⟨b, off + j * 3 + 2, none⟩ = some (.bool (l.getD j (([], []), false)).2) := by
  obtain ⟨b, off, e, hb, hc⟩ := h.at_ (by omega)
  exact ⟨b, off, e, hb, fun j hj => ⟨hc _ _ (cnds_at (by omega)).1, hc _ _ (cnds_at (by omega)).2.1, hc _ _ (cnds_at (by omega)).2.2⟩⟩

theorem info_cond : (Try.prog.info? 29).map (fun i => (i.zero, i.size, i.bytes)) = some (some (.agg #[.string ⟨#[]⟩, .string ⟨#[]⟩, .bool false]), 3, 40) := by kernel_rfl

theorem below_keepN {W w w' : World} (h : Below W.heap.size W w) (b : Below w.heap.size w w') : Below W.heap.size W w' := h.trans (b.mono h.size)

set_option maxRecDepth 100000 in
set_option maxHeartbeats 1600000 in
theorem implFilterOk (A : Option Addr) (n c : Nat) (l : List PT.Cond) (B : Nat) (w : World) (hl : l.length = n) (h : Rd w B 3 A n (cnds l)) (hn : n ≤ 2000000) (hB : B ≤ w.heap.size) : Calls Try.prog 14 #[.slice A n c] w (Bl w (PT.filterB l)) := by
  have HL := hide hl
  have HR := hide (h.more hB)
  clear hl h hB
  go_enter Try.func14, Try.ntmps14
  go_wp2
  go_loopw [7] (fun i wr => ∃ k : Nat, k ≤ n ∧ i = .int .i64 k ∧ Hid (PT.condTo l k = true) ∧ Hid (Below w.heap.size w wr)) (fun i _ => n - (intOf i).toNat)
  case atStart => exact ⟨0, Nat.zero_le _, rfl, hide (by simp [PT.condTo]), hide (Below.refl _ _)⟩
  case round =>
    obtain ⟨k, hk, rfl, hall, hbel⟩ := hrel
    have hsz := hbel.out.size
    by_cases hlt : k < n
    · obtain ⟨b, off, rfl, hb, hc⟩ := (HR.out.below hbel.out).cond HL.out hlt
      obtain ⟨c1, c2, c3⟩ := hc k hlt
      obtain ⟨y, hy⟩ : ∃ y, l.getD k (([], []), false) = y := ⟨_, rfl⟩
      have hs := hide (PT.condTo_succ (l := l) (k := k) (by rw [HL.out]; exact hlt))
      have hF := hide (PT.filterB_no (l := l) (k := k) (by rw [HL.out]; exact hlt))
      rw [hy] at c1 c2 c3
      have HY := hide hy
      obtain ⟨⟨t, v⟩, q⟩ := y
      clear hc hy
      have C := hide (tagOk_any t v (wr.alloc (.cells #[.string (S t), .string (S v), .bool q] 29)))
      cases ht : PT.tagB (t, v)
      · have F : Hid (PT.filterB l = false) := hide (hF.out (by rw [HY.out]; exact ht))
        rw [ht] at C
        clear ht hF hs
        go_wp2_with fail
        refine C.out.mono ?_
        rintro e w2 ⟨rfl, b2⟩
        have HB := hide (below_keepN (hbel.out.alloc hsz _) b2)
        clear b2 C
        go_wp2
        go_ret
        exact ⟨ret_bool F.out.symm, HB.out⟩
      · have F : Hid (PT.condTo l (k + 1) = true) := hide (by rw [hs.out, hall.out, HY.out, Bool.true_and]; exact ht)
        rw [ht] at C
        clear ht hF hs hall
        go_wp2_with fail
        refine C.out.mono ?_
        rintro e w2 ⟨rfl, b2⟩
        have HB := hide (below_keepN (hbel.out.alloc hsz _) b2)
        clear b2 C
        go_wp2
        go_roundw
        case rel => exact ⟨k + 1, by omega, by go_num, F, HB⟩
        case measure => simp [intOf]; omega
    · have hkn : k = n := by omega
      have F : Hid (PT.filterB l = decide (n ≤ 3)) := hide (by
        have h1 := hall.out
        unfold PT.condTo at h1
        rw [hkn, ← HL.out, List.take_length] at h1
        unfold PT.filterB
        rw [h1, HL.out]; rfl)
      clear hkn
      go_wp2
      all_goals (go_ret; exact ⟨ret_bool (by rw [F.out]; exact decide_eq_decide.2 (by omega)), hbel.out⟩)

set_option maxRecDepth 100000 in
set_option maxHeartbeats 1600000 in
theorem specFilterOk (A : Option Addr) (n c : Nat) (l : List PT.Cond) (B : Nat) (w : World) (hl : l.length = n) (h : Rd w B 3 A n (cnds l)) (hn : n ≤ 2000000) (hB : B ≤ w.heap.size) : Calls Try.prog 15 #[.slice A n c] w (Bl w (PT.filterB l)) := by
  have HL := hide hl
  have HR := hide (h.more hB)
  clear hl h hB
  go_enter Try.func15, Try.ntmps15
  go_wp2
  go_loopw [3] (fun i wr => ∃ k : Nat, k ≤ n ∧ i = .int .i64 k ∧ Hid (PT.condTo l k = true) ∧ Hid (Below w.heap.size w wr)) (fun i _ => n - (intOf i).toNat)
  case atStart => exact ⟨0, Nat.zero_le _, rfl, hide (by simp [PT.condTo]), hide (Below.refl _ _)⟩
  case round =>
    obtain ⟨k, hk, rfl, hall, hbel⟩ := hrel
    have hsz := hbel.out.size
    by_cases hlt : k < n
    · obtain ⟨b, off, rfl, hb, hc⟩ := (HR.out.below hbel.out).cond HL.out hlt
      obtain ⟨c1, c2, c3⟩ := hc k hlt
      obtain ⟨y, hy⟩ : ∃ y, l.getD k (([], []), false) = y := ⟨_, rfl⟩
      have hs := hide (PT.condTo_succ (l := l) (k := k) (by rw [HL.out]; exact hlt))
      have hF := hide (PT.filterB_no (l := l) (k := k) (by rw [HL.out]; exact hlt))
      rw [hy] at c1 c2 c3
      have HY := hide hy
      obtain ⟨⟨t, v⟩, q⟩ := y
      clear hc hy
      have C := hide (l3Tag_any t v wr)
      cases ht : PT.tagB (t, v)
      · have F : Hid (PT.filterB l = false) := hide (hF.out (by rw [HY.out]; exact ht))
        rw [ht] at C
        clear ht hF hs
        go_wp2_with fail
        refine C.out.mono ?_
        rintro e w2 ⟨rfl, b2⟩
        have HB := hide (below_keepN hbel.out b2)
        clear b2 C
        go_wp2
        go_ret
        exact ⟨ret_bool F.out.symm, HB.out⟩
      · have F : Hid (PT.condTo l (k + 1) = true) := hide (by rw [hs.out, hall.out, HY.out, Bool.true_and]; exact ht)
        rw [ht] at C
        clear ht hF hs hall
        go_wp2_with fail
        refine C.out.mono ?_
        rintro e w2 ⟨rfl, b2⟩
        have HB := hide (below_keepN hbel.out b2)
        clear b2 C
        go_wp2
        go_roundw
        case rel => exact ⟨k + 1, by omega, by go_num, F, HB⟩
        case measure => simp [intOf]; omega
    · have hkn : k = n := by omega
      have F : Hid (PT.filterB l = decide (n ≤ 3)) := hide (by
        have h1 := hall.out
        unfold PT.condTo at h1
        rw [hkn, ← HL.out, List.take_length] at h1
        unfold PT.filterB
        rw [h1, HL.out]; rfl)
      clear hkn
      go_wp2
      all_goals (go_ret; exact ⟨ret_bool (by rw [F.out]; exact decide_eq_decide.2 (by omega)), hbel.out⟩)

/-- Three stores into a block of three cells. -/
theorem set_three {w : World} {g : Nat} {e : TypeId} {a b c : Value} (x y z : Value) (h : w.heap[g]? = some (.cells #[a, b, c] e (0, 0))) :
    (((w.setCell ⟨g, 0, none⟩ x).setCell ⟨g, 1, none⟩ y).setCell ⟨g, 2, none⟩ z).heap[g]? = some (.cells #[x, y, z] e (0, 0)) := by
  have h1 := heap_setCell_same w g 0 _ e x h
  have h2 := heap_setCell_same _ g 1 _ e y h1
  have h3 := heap_setCell_same _ g 2 _ e z h2
  simpa using h3
theorem cell_three {w : World} {g : Nat} {e : TypeId} {a b c : Value} (h : w.heap[g]? = some (.cells #[a, b, c] e (0, 0))) : w.cell? ⟨g, 0, none⟩ = some a ∧ w.cell? ⟨g, 1, none⟩ = some b ∧ w.cell? ⟨g, 2, none⟩ = some c ∧ w.frozen? ⟨g, 0, none⟩ = false ∧ w.frozen? ⟨g, 1, none⟩ = false ∧ w.frozen? ⟨g, 2, none⟩ = false :=
  ⟨by rw [cell_of_row _ _ _ _ _ _ h]; rfl, by rw [cell_of_row _ _ _ _ _ _ h]; rfl, by rw [cell_of_row _ _ _ _ _ _ h]; rfl, frozen_of_row _ _ _ _ _ h, frozen_of_row _ _ _ _ _ h, frozen_of_row _ _ _ _ _ h⟩

set_option maxRecDepth 100000 in
set_option maxHeartbeats 1600000 in
theorem toCond_any (t v : List UInt8) (q : Bool) (w : World) : Calls Try.prog 47 #[.agg #[.string (S t), .string (S v), .bool q]] w fun e w' => e = .returned (.agg #[.string (S t), .string (S v), .bool q]) ∧ Below w.heap.size w w' := by
  obtain ⟨W, hW⟩ : ∃ W, W = ((w.alloc (.cells #[.string (S t), .string (S v), .bool q] 68)).alloc (.cells #[.string ⟨#[]⟩, .string ⟨#[]⟩, .bool false] 29)).alloc (.cells #[.string ⟨#[]⟩, .string ⟨#[]⟩, .bool false] 29) := ⟨_, rfl⟩
  have C := hide (toTag_any t v W)
  have hs : Hid (W.heap.size = w.heap.size + 3) := hide (by rw [hW]; simp)
  have B0 : Hid (Below w.heap.size w W) := hide (by rw [hW]; exact (((Below.refl _ _).alloc (Nat.le_refl _) _).alloc (by simp) _).alloc (by simp; omega) _)
  have x0 : Hid (W.heap[w.heap.size]? = some (.cells #[.string (S t), .string (S v), .bool q] 68 (0, 0))) := hide (by
    rw [hW, Below.heap_alloc _ _ _ (by simp; omega), Below.heap_alloc _ _ _ (by simp)]; exact heap_alloc_new _ _)
  have x1 : Hid (W.heap[w.heap.size + 1]? = some (.cells #[.string ⟨#[]⟩, .string ⟨#[]⟩, .bool false] 29 (0, 0))) := hide (by
    rw [hW, Below.heap_alloc _ _ _ (by simp)]
    have := heap_alloc_new (w.alloc (.cells #[.string (S t), .string (S v), .bool q] 68)) (.cells #[.string ⟨#[]⟩, .string ⟨#[]⟩, .bool false] 29)
    simpa [World.size_alloc] using this)
  have x2 : Hid (W.heap[w.heap.size + 2]? = some (.cells #[.string ⟨#[]⟩, .string ⟨#[]⟩, .bool false] 29 (0, 0))) := hide (by
    rw [hW]
    have := heap_alloc_new ((w.alloc (.cells #[.string (S t), .string (S v), .bool q] 68)).alloc (.cells #[.string ⟨#[]⟩, .string ⟨#[]⟩, .bool false] 29)) (.cells #[.string ⟨#[]⟩, .string ⟨#[]⟩, .bool false] 29)
    simpa [World.size_alloc] using this)
  rw [hW] at C
  go_enter Try.func47, Try.ntmps47
  go_wp2_with fail
  refine C.out.mono ?_
  rintro e w2 ⟨rfl, b2⟩
  rw [← hW] at b2
  have y0 := hide ((b2.block _ (by rw [hs.out]; omega)).trans x0.out)
  have y1 := hide ((b2.block _ (by rw [hs.out]; omega)).trans x1.out)
  have y2 := hide ((b2.block _ (by rw [hs.out]; omega)).trans x2.out)
  have B2 := hide (below_keepN B0.out b2)
  clear b2 C x0 x1 x2 B0 hs hW
  obtain ⟨a0, a1, a2, _, _, _⟩ := cell_three y0.out
  obtain ⟨d0, d1, d2, f0, f1, f2⟩ := cell_three y2.out
  obtain ⟨g0, g1, g2, h0, h1, h2⟩ := cell_three y1.out
  go_wp2
  have Y : (((w2.setCell ⟨w.heap.size + 1 + 1, 0, none⟩ (.string (S t))).setCell ⟨w.heap.size + 1 + 1, 1, none⟩ (.string (S v))).setCell ⟨w.heap.size + 1 + 1, 2, none⟩ (.bool q)).heap[w.heap.size + 1]? = some (.cells #[.string ⟨#[]⟩, .string ⟨#[]⟩, .bool false] 29 (0, 0)) := by
    rw [heap_setCell_other _ _ _ _ (by simp), heap_setCell_other _ _ _ _ (by simp), heap_setCell_other _ _ _ _ (by simp)]
    exact y1.out
  obtain ⟨e0, e1, e2, _, _, _⟩ := cell_three (set_three (.string (S t)) (.string (S v)) (.bool q) Y)
  have BF := (((((B2.out.setCell (p := ⟨w.heap.size + 1 + 1, 0, none⟩) (by show w.heap.size ≤ w.heap.size + 1 + 1; omega) (.string (S t))).setCell (p := ⟨w.heap.size + 1 + 1, 1, none⟩) (by show w.heap.size ≤ w.heap.size + 1 + 1; omega) (.string (S v))).setCell (p := ⟨w.heap.size + 1 + 1, 2, none⟩) (by show w.heap.size ≤ w.heap.size + 1 + 1; omega) (.bool q)).setCell (p := ⟨w.heap.size + 1, 0, none⟩) (by show w.heap.size ≤ w.heap.size + 1; omega) (.string (S t))).setCell (p := ⟨w.heap.size + 1, 1, none⟩) (by show w.heap.size ≤ w.heap.size + 1; omega) (.string (S v))).setCell (p := ⟨w.heap.size + 1, 2, none⟩) (by show w.heap.size ≤ w.heap.size + 1; omega) (.bool q)
  exact bodyPost_ret (v := .agg #[.string (S t), .string (S v), .bool q]) (by simp [results, Try.results47, go_sem, e0, e1, e2]) rfl ⟨rfl, BF⟩

set_option maxRecDepth 100000 in
set_option maxHeartbeats 1600000 in
theorem eqCond_any (t v : List UInt8) (q : Bool) (t' v' : List UInt8) (q' : Bool) (w : World) : Calls Try.prog 48 #[.agg #[.string (S t), .string (S v), .bool q], .agg #[.string (S t'), .string (S v'), .bool q']] w (Bl w (decide (((t, v), q) = ((t', v'), q')))) := by
  obtain ⟨W, hW⟩ : ∃ W, W = (w.alloc (.cells #[.string (S t), .string (S v), .bool q] 29)).alloc (.cells #[.string (S t'), .string (S v'), .bool q'] 29) := ⟨_, rfl⟩
  have C := hide (eqTag_any t v t' v' W)
  have hs : Hid (W.heap.size = w.heap.size + 2) := hide (by rw [hW]; simp)
  have B0 : Hid (Below w.heap.size w W) := hide (by rw [hW]; exact ((Below.refl _ _).alloc (Nat.le_refl _) _).alloc (by simp) _)
  have x0 : Hid (W.heap[w.heap.size]? = some (.cells #[.string (S t), .string (S v), .bool q] 29 (0, 0))) := hide (by
    rw [hW, Below.heap_alloc _ _ _ (by simp)]; exact heap_alloc_new _ _)
  have x1 : Hid (W.heap[w.heap.size + 1]? = some (.cells #[.string (S t'), .string (S v'), .bool q'] 29 (0, 0))) := hide (by
    rw [hW]
    have := heap_alloc_new (w.alloc (.cells #[.string (S t), .string (S v), .bool q] 29)) (.cells #[.string (S t'), .string (S v'), .bool q'] 29)
    simpa [World.size_alloc] using this)
  rw [hW] at C
  by_cases hd : (t, v) = (t', v')
  · rw [decide_eq_true hd] at C
    by_cases hq : q = q'
    · have F : Hid (decide (((t, v), q) = ((t', v'), q')) = true) := hide (decide_eq_true (by rw [hd, hq]))
      have hq2 : (q == q') = true := by rw [hq]; exact beq_self_eq_true _
      clear hd hq
      go_enter Try.func48, Try.ntmps48
      go_wp2_with fail
      refine C.out.mono ?_
      rintro e w2 ⟨rfl, b2⟩
      rw [← hW] at b2
      obtain ⟨a0, a1, a2, _, _, _⟩ := cell_three ((b2.block _ (by rw [hs.out]; omega)).trans x0.out)
      obtain ⟨d0, d1, d2, _, _, _⟩ := cell_three ((b2.block _ (by rw [hs.out]; omega)).trans x1.out)
      have B2 := hide (below_keepN B0.out b2)
      clear b2 C x0 x1 B0 hs hW
      go_wp2
      go_ret
      exact ⟨ret_bool F.out.symm, B2.out⟩
    · have F : Hid (decide (((t, v), q) = ((t', v'), q')) = false) := hide (decide_eq_false (fun e => hq (by injection e)))
      have hq2 : (q == q') = false := beq_eq_false_iff_ne.2 hq
      clear hd hq
      go_enter Try.func48, Try.ntmps48
      go_wp2_with fail
      refine C.out.mono ?_
      rintro e w2 ⟨rfl, b2⟩
      rw [← hW] at b2
      obtain ⟨a0, a1, a2, _, _, _⟩ := cell_three ((b2.block _ (by rw [hs.out]; omega)).trans x0.out)
      obtain ⟨d0, d1, d2, _, _, _⟩ := cell_three ((b2.block _ (by rw [hs.out]; omega)).trans x1.out)
      have B2 := hide (below_keepN B0.out b2)
      clear b2 C x0 x1 B0 hs hW
      go_wp2
      go_ret
      exact ⟨ret_bool F.out.symm, B2.out⟩
  · rw [decide_eq_false hd] at C
    have F : Hid (decide (((t, v), q) = ((t', v'), q')) = false) := hide (decide_eq_false (fun e => hd (by injection e)))
    clear hd
    go_enter Try.func48, Try.ntmps48
    go_wp2_with fail
    refine C.out.mono ?_
    rintro e w2 ⟨rfl, b2⟩
    rw [← hW] at b2
    have B2 := hide (below_keepN B0.out b2)
    clear b2 C x0 x1 B0 hs hW
    go_wp2
    go_ret
    exact ⟨ret_bool F.out.symm, B2.out⟩

set_option maxRecDepth 100000 in
theorem szCond_any (t v : List UInt8) (q : Bool) (left : Int) (w : World) (ht : t.length ≤ 9223372036854775807) (hv : v.length ≤ 9223372036854775807) (hl : 0 ≤ left ∧ left ≤ 1048576) :
    Calls Try.prog 46 #[.agg #[.string (S t), .string (S v), .bool q], .int .i64 left] w fun e w' => e = .returned (.int .i64 (szOne left (t, v))) ∧ Below w.heap.size w w' := by
  have C := hide (szTag_any t v left (w.alloc (.cells #[.string (S t), .string (S v), .bool q] 68)) ht hv hl)
  have hng := hide (szOne_neg left (t, v))
  generalize szOne left (t, v) = z at C hng ⊢
  clear ht hv hl
  by_cases hz : z < 0
  · have hz1 := hng.out hz
    subst hz1
    go_enter Try.func46, Try.ntmps46
    go_wp2_with fail
    refine C.out.mono ?_
    rintro e w2 ⟨rfl, b2⟩
    have B2 := hide (below_keepN ((Below.refl w.heap.size w).alloc (Nat.le_refl _) _) b2)
    clear b2 C
    go_wp2
    go_ret
    exact ⟨rfl, B2.out⟩
  · go_enter Try.func46, Try.ntmps46
    go_wp2_with fail
    refine C.out.mono ?_
    rintro e w2 ⟨rfl, b2⟩
    have B2 := hide (below_keepN ((Below.refl w.heap.size w).alloc (Nat.le_refl _) _) b2)
    clear b2 C
    go_wp2
    go_ret
    exact ⟨rfl, B2.out⟩

abbrev c0 : PT.Cond := (([], []), false)
/-- A list, its first k conditions laid, zeros behind. -/
def laidConds (l : List PT.Cond) (n k : Nat) : List Value := cnds (l.take k) ++ cnds (List.replicate (n - k) c0)
theorem laidConds_step {l : List PT.Cond} {n k : Nat} (hl : l.length = n) (hk : k < n) :
    (((laidConds l n k).set (k * 3) (.string (S (l.getD k (([], []), false)).1.1))).set (k * 3 + 1) (.string (S (l.getD k (([], []), false)).1.2))).set (k * 3 + 2) (.bool (l.getD k (([], []), false)).2) = laidConds l n (k + 1) := by
  have h1 : (cnds (l.take k)).length = k * 3 := by rw [cnds_len]; simp; omega
  have h2 : l.take (k + 1) = l.take k ++ [l.getD k (([], []), false)] := by rw [List.take_succ_eq_append_getElem (by omega), PT.getD_cond (by omega)]
  have h3 : n - k = n - (k + 1) + 1 := by omega
  unfold laidConds
  rw [List.set_append_right _ _ (by omega), List.set_append_right _ _ (by omega), List.set_append_right _ _ (by omega), h1, h2, cnds_append, h3, List.replicate_succ]
  simp [cnds]
theorem laidConds_done {l : List PT.Cond} {n : Nat} (hl : l.length = n) : laidConds l n n = cnds l := by
  unfold laidConds
  rw [← hl]; simp [cnds]
theorem laidConds_start (l : List PT.Cond) (n : Nat) : (madeCells (Value.agg #[.string ⟨#[]⟩, .string ⟨#[]⟩, .bool false]).cells (n * 3)).toList = laidConds l n 0 := by
  apply List.ext_getElem?
  intro j
  have e : laidConds l n 0 = cnds (List.replicate n c0) := by simp [laidConds, cnds]
  rw [e]
  by_cases hj : j < n * 3
  · obtain ⟨q0, q1, q2⟩ := cnds_at (l := List.replicate n c0) (k := j / 3) (by simp; omega)
    have hd : (List.replicate n c0).getD (j / 3) (([], []), false) = c0 := by
      rw [List.getD_eq_getElem?_getD, List.getElem?_replicate]
      split <;> rfl
    rw [hd] at q0 q1 q2
    rcases (show j % 3 = 0 ∨ j % 3 = 1 ∨ j % 3 = 2 from by omega) with h | h | h
    · rw [show j / 3 * 3 = j by omega] at q0
      rw [q0]
      simp [madeCells, hj, Value.cells, h]
      rfl
    · rw [show j / 3 * 3 + 1 = j by omega] at q1
      rw [q1]
      simp [madeCells, hj, Value.cells, h]
      rfl
    · rw [show j / 3 * 3 + 2 = j by omega] at q2
      rw [q2]
      simp [madeCells, hj, Value.cells, h]
  · have h2 : (cnds (List.replicate n c0))[j]? = none := List.getElem?_eq_none (by rw [cnds_len]; simp; omega)
    rw [h2]
    simp [madeCells, hj]

/-- A list of conditions in the call's own memory. -/
def CondL (w : World) (l : List PT.Cond) (e : Ending) (w' : World) : Prop := ∃ A c, e = .returned (.slice A l.length c) ∧ w'.ownsRow w.heap.size 29 3 (.slice A l.length c) l.length (cnds l) ∧ Below w.heap.size w w'

set_option maxRecDepth 100000 in
set_option maxHeartbeats 1600000 in
theorem toCondS_any (A : Option Addr) (n c : Nat) (l : List PT.Cond) (B : Nat) (w : World) (hl : l.length = n) (h : Rd w B 3 A n (cnds l)) (hn : n ≤ 3000000) (hB : B ≤ w.heap.size) :
    Calls Try.prog 23 #[.slice A n c] w (CondL w l) := by
  obtain ⟨i0, hi, hz0, hz1, hz2⟩ := info_parts info_cond
  have HL := hide hl
  have HR := hide (h.more hB)
  clear hl h hB
  go_enter Try.func23, Try.ntmps23
  go_wp2_with (first
    | (at_make; refine wpList_make_full _ rfl (.tmp 6) (.tmp 6) 23 rfl w.heap.size 29 i0 (.agg #[.string ⟨#[]⟩, .string ⟨#[]⟩, .bool false]) 3 Try.underlying23 hi hz0 hz1 _ _ _ _ n rfl rfl rfl rfl (by rw [hz2]; omega) (by unfold maxLen; omega) (Nat.le_refl _) ?_; intro w1 hown1 hg1))
  have HO : Hid (w1.ownsRow w.heap.size 29 3 (.slice (some ⟨w.heap.size, 0, none⟩) n n) n (laidConds l n 0)) := hide (by rw [← laidConds_start l n]; exact hown1)
  have hb1 : Below w.heap.size w w1 := (Below.refl _ _).grown hg1 (Nat.le_refl _) (by simp)
  clear hown1 hg1
  go_loopw [4] (fun i wr => ∃ k : Nat, k ≤ n ∧ i = .int .i64 k ∧ Hid (wr.ownsRow w.heap.size 29 3 (.slice (some ⟨w.heap.size, 0, none⟩) n n) n (laidConds l n k)) ∧ Below w.heap.size w wr) (fun i _ => n - (intOf i).toNat)
  case atStart => exact ⟨0, Nat.zero_le _, rfl, HO, hb1⟩
  case round =>
    clear HO hb1
    obtain ⟨k, hk, rfl, ho, hbel⟩ := hrel
    have hsz := hbel.size
    by_cases hlt : k < n
    · obtain ⟨b, off, rfl, hb, hc⟩ := (HR.out.below hbel).cond HL.out hlt
      obtain ⟨c1, c2, c3⟩ := hc k hlt
      clear hc
      have hT := hide (laidConds_step HL.out hlt)
      generalize l.getD k (([], []), false) = r at c1 c2 c3 hT
      obtain ⟨⟨t, v⟩, q⟩ := r
      go_wp2_with fail
      refine (toCond_any _ _ _ _).mono ?_
      rintro e w2 ⟨rfl, b2⟩
      have ho2 := own_below ho.out b2
      have hl1 : (laidConds l n k).length = n * 3 := ho2.1
      have hcell : ∀ j, j < n * 3 → ∃ old, w2.cell? ⟨w.heap.size, j, none⟩ = some old := fun j hj => ⟨(laidConds l n k)[j]'(by omega), by rw [ho2.cellAt j hj]; exact List.getElem?_eq_getElem _⟩
      obtain ⟨o1, g1⟩ := hcell (k * 3) (by omega)
      obtain ⟨o2, g2⟩ := hcell (k * 3 + 1) (by omega)
      obtain ⟨o3, g3⟩ := hcell (k * 3 + 2) (by omega)
      have f1 := ho2.frozenAt (k * 3)
      have f2 := ho2.frozenAt (k * 3 + 1)
      have f3 := ho2.frozenAt (k * 3 + 2)
      have HB := hide (hbel.trans (b2.mono hsz))
      have HO2 := hide ho2
      clear hcell ho2 hl1 b2 hbel ho
      go_wp2
      have S1 := (HO2.out.stored (k * 3) (.string (S t))).1
      have S2 := (S1.stored (k * 3 + 1) (.string (S v))).1
      have S3 := (S2.stored (k * 3 + 2) (.bool q)).1
      rw [hT.out] at S3
      go_roundw
      case rel => exact ⟨k + 1, by omega, by go_num, hide S3, ((HB.out.setCell (p := ⟨w.heap.size, k * 3, none⟩) (Nat.le_refl _) _).setCell (p := ⟨w.heap.size, k * 3 + 1, none⟩) (Nat.le_refl _) _).setCell (p := ⟨w.heap.size, k * 3 + 2, none⟩) (Nat.le_refl _) _⟩
      case measure => simp [intOf]; omega
    · have hf := hide (laidConds_done HL.out)
      have hkn : Hid (k = n) := hide (by omega)
      go_wp2
      go_ret
      have := ho.out
      rw [hkn.out, hf.out] at this
      rw [← HL.out] at this ⊢
      exact ⟨_, _, rfl, this, hbel⟩

theorem eq_takeC {l l' : List PT.Cond} {k : Nat} (hk : k < l.length) (hk' : k < l'.length) (h : l.take k = l'.take k) (hx : l.getD k (([], []), false) = l'.getD k (([], []), false)) : l.take (k + 1) = l'.take (k + 1) := by
  rw [List.take_succ_eq_append_getElem hk, List.take_succ_eq_append_getElem hk', h, ← PT.getD_cond hk, ← PT.getD_cond hk', hx]

set_option maxRecDepth 100000 in
set_option maxHeartbeats 1600000 in
theorem eqCondS_any (A A' : Option Addr) (n n' c c' : Nat) (l l' : List PT.Cond) (B B' : Nat) (w : World) (hl : l.length = n) (hl' : l'.length = n') (h : Rd w B 3 A n (cnds l)) (h' : Rd w B' 3 A' n' (cnds l')) (hn : n ≤ 3000000) (hn' : n' ≤ 3000000) (hB : B ≤ w.heap.size) (hB' : B' ≤ w.heap.size) :
    Calls Try.prog 24 #[.slice A n c, .slice A' n' c'] w (Bl w (decide (l = l'))) := by
  have HL := hide hl
  have HL' := hide hl'
  have HR := hide (h.more hB)
  have HR' := hide (h'.more hB')
  clear hl hl' h h' hB hB'
  by_cases hnn : n = n'
  · subst hnn
    go_enter Try.func24, Try.ntmps24
    go_wp2
    go_loopw [5] (fun i wr => ∃ k : Nat, k ≤ n ∧ i = .int .i64 k ∧ Hid (l.take k = l'.take k) ∧ Below w.heap.size w wr) (fun i _ => n - (intOf i).toNat)
    case atStart => exact ⟨0, Nat.zero_le _, rfl, hide (by simp), Below.refl _ _⟩
    case round =>
      obtain ⟨k, hk, rfl, hp, hbel⟩ := hrel
      by_cases hlt : k < n
      · obtain ⟨b, off, rfl, hb, hc⟩ := (HR.out.below hbel).cond HL.out hlt
        obtain ⟨b', off', rfl, hb', hc'⟩ := (HR'.out.below hbel).cond HL'.out hlt
        obtain ⟨c1, c2, c5⟩ := hc k hlt
        obtain ⟨c3, c4, c6⟩ := hc' k hlt
        clear hc hc'
        have hN : Hid (l.getD k (([], []), false) = l'.getD k (([], []), false) → l.take (k + 1) = l'.take (k + 1)) := hide (eq_takeC (by rw [HL.out]; exact hlt) (by rw [HL'.out]; exact hlt) hp.out)
        have hF : Hid (l.getD k (([], []), false) ≠ l'.getD k (([], []), false) → decide (l = l') = false) := hide (fun hne => by
          apply decide_eq_false
          rintro rfl
          exact hne rfl)
        generalize l.getD k (([], []), false) = r at c1 c2 c5 hN hF
        generalize l'.getD k (([], []), false) = r' at c3 c4 c6 hN hF
        obtain ⟨⟨t, v⟩, q⟩ := r
        obtain ⟨⟨t', v'⟩, q'⟩ := r'
        have HB := hide hbel
        have hsz := hbel.size
        have hin : (0 : Int) ≤ (k : Int) ∧ (k : Int) < (n : Int) := by omega
        have e1 := ext_cell (B := wr.heap.size) c1 (Nat.le_refl _)
        have e2 := ext_cell (B := wr.heap.size) c2 (Nat.le_refl _)
        have e3 := ext_cell (B := wr.heap.size) c3 (Nat.le_refl _)
        have e4 := ext_cell (B := wr.heap.size) c4 (Nat.le_refl _)
        have e5 := ext_cell (B := wr.heap.size) c5 (Nat.le_refl _)
        have e6 := ext_cell (B := wr.heap.size) c6 (Nat.le_refl _)
        clear hbel
        by_cases hxy : ((t, v), q) = ((t', v'), q')
        · have hT := hide (hN.out hxy)
          have cr := hide (fun W : World => eqCond_any t v q t' v' q' W)
          rw [decide_eq_true hxy] at cr
          clear hN hF hxy
          go_wp2
          refine wp_region_ext wr.heap.size (by kernel_rfl) (by kernel_rfl) ?_
          repeat (go_big_quiet_step ((go_at_call 48; exact ext_call _ (Nat.le_refl _) (cr.out _))))
          refine wpQuiet_nil ?_
          intro _ hw'
          obtain ⟨x, hw''⟩ := hw'
          subst hw''
          clear e1 e2 e3 e4 e5 e6
          go_wp2
          go_roundw
          case rel => exact ⟨k + 1, by omega, by go_num, hT, HB.out.trans (x.is.mono hsz)⟩
          case measure => simp [intOf]; omega
        · have hf := hide (hF.out hxy)
          have cr := hide (fun W : World => eqCond_any t v q t' v' q' W)
          rw [decide_eq_false hxy] at cr
          clear hN hF hxy
          go_wp2
          refine wp_region_ext wr.heap.size (by kernel_rfl) (by kernel_rfl) ?_
          repeat (go_big_quiet_step ((go_at_call 48; exact ext_call _ (Nat.le_refl _) (cr.out _))))
          refine wpQuiet_nil ?_
          intro _ hw'
          obtain ⟨x, hw''⟩ := hw'
          subst hw''
          clear e1 e2 e3 e4 e5 e6
          go_wp2
          go_ret
          exact ⟨ret_bool hf.out.symm, HB.out.trans (x.is.mono hsz)⟩
      · have hf : Hid (decide (l = l') = true) := hide (by
          have h1 := hp.out
          rw [List.take_of_length_le (by rw [HL.out]; omega), List.take_of_length_le (by rw [HL'.out]; omega)] at h1
          exact decide_eq_true h1)
        go_wp2
        go_ret
        exact ⟨ret_bool hf.out.symm, hbel⟩
  · have hf : Hid (decide (l = l') = false) := hide (decide_eq_false (fun e => hnn (by rw [← HL.out, ← HL'.out, e])))
    have hne : ((n : Int) != (n' : Int)) = true := bne_iff_ne.2 (by omega)
    clear hnn
    go_enter Try.func24, Try.ntmps24
    go_wp2
    go_ret
    exact ⟨ret_bool hf.out.symm, Below.refl _ _⟩


def szOC (left : Int) : List PT.Cond → Int
  | [] => left
  | t :: r => if szOne left t.1 < 0 then -1 else szOC (szOne left t.1) r
def szTC (left : Int) (l : List PT.Cond) : Int := if left - l.length < 0 then -1 else szOC (left - l.length) l
theorem szTC_len {left : Int} {l : List PT.Cond} (h : 0 ≤ szTC left l) : (l.length : Int) ≤ left := by
  unfold szTC at h
  split at h
  · omega
  · omega

def SizedC (l : List PT.Cond) : Prop := ∀ t ∈ l, t.1.1.length ≤ 9223372036854775807 ∧ t.1.2.length ≤ 9223372036854775807

set_option maxRecDepth 100000 in
set_option maxHeartbeats 1600000 in
theorem szCondS_any (A : Option Addr) (n c : Nat) (l : List PT.Cond) (B : Nat) (left : Int) (w : World) (hl : l.length = n) (h : Rd w B 3 A n (cnds l)) (hB : B ≤ w.heap.size) (hS : SizedC l) (hn : n ≤ 9223372036854775807) (hlf : 0 ≤ left ∧ left ≤ 1048576) :
    Calls Try.prog 22 #[.slice A n c, .int .i64 left] w fun e w' => e = .returned (.int .i64 (szTC left l)) ∧ Below w.heap.size w w' := by
  have HL := hide hl
  have HR := hide (h.more hB)
  have HS := hide hS
  clear hl h hB hS
  obtain ⟨l1, l2⟩ := hlf
  by_cases h1 : left - (n : Int) < 0
  · have F : Hid (szTC left l = -1) := hide (by unfold szTC; rw [HL.out, if_pos h1])
    go_enter Try.func22, Try.ntmps22
    go_wp2
    go_ret
    exact ⟨ret_int F.out.symm, Below.refl _ _⟩
  · have F : Hid (szTC left l = szOC (left - (n : Int)) l) := hide (by unfold szTC; rw [HL.out, if_neg h1])
    go_enter Try.func22, Try.ntmps22
    go_wp2
    go_loopw [1, 5] (fun lf i wr => ∃ (k : Nat) (x : Int), k ≤ n ∧ i = .int .i64 k ∧ lf = .int .i64 x ∧ 0 ≤ x ∧ x ≤ 1048576 ∧ Hid (szTC left l = szOC x (l.drop k)) ∧ Below w.heap.size w wr) (fun _ i _ => n - (intOf i).toNat)
    case atStart => exact ⟨0, _, Nat.zero_le _, rfl, rfl, by omega, by omega, F, Below.refl _ _⟩
    case round =>
      clear F
      obtain ⟨k, x, hk, rfl, rfl, hx0, hx1, hp, hbel⟩ := hrel
      have hsz := hbel.size
      by_cases hlt : k < n
      · obtain ⟨b, off, rfl, hb, hc⟩ := (HR.out.below hbel).cond HL.out hlt
        obtain ⟨c1, c2, c3⟩ := hc k hlt
        obtain ⟨y, hy⟩ : ∃ y, l.getD k (([], []), false) = y := ⟨_, rfl⟩
        have hd : l.drop k = y :: l.drop (k + 1) := by rw [← hy, PT.getD_cond (by rw [HL.out]; exact hlt)]; exact List.drop_eq_getElem_cons (by rw [HL.out]; exact hlt)
        have hm : y ∈ l := by rw [← hy, PT.getD_cond (by rw [HL.out]; exact hlt)]; exact List.getElem_mem _
        obtain ⟨s1, s2⟩ := HS.out y hm
        have hq := hide (by have := hp.out; rw [hd] at this; exact this : szTC left l = szOC x (y :: l.drop (k + 1)))
        rw [hy] at c1 c2 c3
        obtain ⟨⟨t, v⟩, q⟩ := y
        have C := hide (szCond_any t v q x wr s1 s2 ⟨hx0, hx1⟩)
        have hle := szOne_le x (t, v) hx0
        have hng := hide (szOne_neg x (t, v))
        have HQ : Hid (szTC left l = if szOne x (t, v) < 0 then -1 else szOC (szOne x (t, v)) (l.drop (k + 1))) := hide hq.out
        clear hc hy hd hm s1 s2 hq hp
        generalize szOne x (t, v) = z at C hle hng HQ
        go_wp2_with fail
        refine C.out.mono ?_
        rintro e w2 ⟨rfl, b2⟩
        have HB := hbel.trans (b2.mono hsz)
        clear b2 hbel C
        by_cases hz : z < 0
        · have F : Hid (szTC left l = -1) := hide (by rw [HQ.out, if_pos hz])
          go_wp2
          go_ret
          exact ⟨ret_int F.out.symm, HB⟩
        · have F : Hid (szTC left l = szOC z (l.drop (k + 1))) := hide (by rw [HQ.out, if_neg hz])
          go_wp2
          go_roundw
          case rel => exact ⟨k + 1, z, by omega, by go_num, rfl, by omega, by omega, F, HB⟩
          case measure => simp [intOf]; omega
      · have F : Hid (szTC left l = x) := hide (by rw [hp.out, List.drop_of_length_le (by rw [HL.out]; omega)]; rfl)
        go_wp2
        go_ret
        exact ⟨ret_int F.out.symm, hbel⟩


end Go.Proofs.Ytgedlpdjnnbolaa
