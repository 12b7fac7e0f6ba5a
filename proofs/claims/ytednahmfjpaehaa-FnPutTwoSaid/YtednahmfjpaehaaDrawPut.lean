/-
  WALKS: the drawn case of BlockPut: a block and a row.
-/
import Derived.Test.YtednahmfjpaehaaDrawRows
namespace Go.Proofs.Ytednahmfjpaehaa
set_option linter.unusedVariables false
open Go.RowKit

def DrawnPut (w : World) (e : Ending) (w' : World) : Prop :=
  ∃ (l : List PB.Row) (t v : Int) (A : Option Addr) (c : Nat), e = .returned (.tuple #[.slice A l.length c, .agg #[.int .i64 t, .int .i64 v]]) ∧ l.length ≤ 30 ∧ w'.ownsRow w.heap.size 30 2 (.slice A l.length c) l.length (rows l) ∧ Below w.heap.size w w'

/-- The end: the two results laid. -/
theorem drawnPut_end {w wE w' : World} {l : List PB.Row} {A : Option Addr} {c base : Nat} {t v : Int} (hl : l.length ≤ 30) (o : wE.ownsRow base 30 2 (.slice A l.length c) l.length (rows l)) (hb : w.heap.size < base)
    (b : Below w.heap.size w wE) (hw : w' = (wE.setCell ⟨w.heap.size, 0, none⟩ (.int .i64 t)).setCell ⟨w.heap.size, 1, none⟩ (.int .i64 v)) :
    DrawnPut w (.returned (.tuple #[.slice A l.length c, .agg #[.int .i64 t, .int .i64 v]])) w' := by
  subst hw
  refine ⟨l, t, v, A, c, rfl, hl, ?_, (b.setCell (p := ⟨w.heap.size, 0, none⟩) (Nat.le_refl _) _).setCell (p := ⟨w.heap.size, 1, none⟩) (Nat.le_refl _) _⟩
  have k : ∀ {a : World} (j : Nat) (u : Value), a.ownsRow base 30 2 (.slice A l.length c) l.length (rows l) → (a.setCell ⟨w.heap.size, j, none⟩ u).ownsRow base 30 2 (.slice A l.length c) l.length (rows l) := by
    intro a j u h
    refine ⟨h.1, ?_⟩
    rcases h.2 with hn | ⟨g, cap, cur, e1, hg, hgg, rest⟩
    · exact .inl hn
    · exact .inr ⟨g, cap, cur, e1, hg, by rw [heap_setCell_other a ⟨w.heap.size, j, none⟩ g u (fun e => by simp at e; omega)]; exact hgg, rest⟩
  exact own_base (k _ _ (k _ _ o)) (by omega)

set_option maxRecDepth 100000 in
set_option maxHeartbeats 3200000 in
theorem drawBlockPut_any (A : Option Addr) (n c : Nat) (zs : List Int) (w : World) (hz : zs.length = n) (h : Rd w w.heap.size 1 A n (u8s zs)) (hb : ByteL zs) (hc : n ≤ c) (hm : c ≤ maxLen) :
    Calls Try.prog 25 #[.slice A n c] w (DrawnPut w) := by
  have H1 : ∃ R, R = w.heap.size + 1 ∧ Calls Try.prog 34 #[.slice A n c] (w.alloc (.cells #[.int .i64 0, .int .i64 0] 30)) fun e w' => e = .returned (.pointer (some ⟨R, 0, none⟩)) ∧ Rdr w' R R 0 ∧ Below R (w.alloc (.cells #[.int .i64 0, .int .i64 0] 30)) w' ∧ w'.heap.size = R + 1 :=
    ⟨(w.alloc (.cells #[.int .i64 0, .int .i64 0] 30)).heap.size, by simp, open_any A n c zs _ hz ((h.alloc (Nat.le_refl _) _).more (by simp)) hb hc hm⟩
  obtain ⟨R, hR, H1⟩ := H1
  have q0 : Hid ((w.alloc (.cells #[.int .i64 0, .int .i64 0] 30)).heap[w.heap.size]? = some (.cells #[.int .i64 0, .int .i64 0] 30 (0, 0))) := hide (heap_alloc_new _ _)
  have B0 : Hid (Below w.heap.size w (w.alloc (.cells #[.int .i64 0, .int .i64 0] 30))) := hide ((Below.refl _ _).alloc (Nat.le_refl _) _)
  have HR := hide hR
  replace H1 := hide H1
  have HRl : Hid (w.heap.size < R) := hide (by omega)
  clear hz h hb hc hm hR
  go_enter Try.func25, Try.ntmps25
  go_wp2_with fail
  refine H1.out.mono ?_
  rintro e w1 ⟨rfl, hr1, hb1, hs1⟩
  have S1 := hide hs1
  have q1 := hide ((hb1.block w.heap.size HRl.out).trans q0.out)
  have B1 := hide (B0.out.trans (hb1.mono (by have := HRl.out; omega)))
  clear hs1 H1 hb1 q0 B0
  go_wp2_with fail
  refine (l71Block_any _ _ _ _ hr1 (by omega)).mono ?_
  rintro e w2 ⟨A2, c2, l2, rfl, o2, hl2, hr2, hk2⟩
  have O2 := hide o2
  have q2 := hide ((hk2.block w.heap.size (lt_of_block q1.out) (by have := HRl.out; intro e; injection e; omega)).trans q1.out)
  have B2 := hide (B1.out.trans (hk2.to_below (Nat.le_of_lt HRl.out) B1.out.size))
  clear o2 hk2 hr1 q1 B1
  go_wp2_with fail
  refine (l71Row_any _ _ _ _ hr2 (by omega)).mono ?_
  rintro e w3 ⟨t, v, rfl, t1, t2, v1, v2, hr3, hk3⟩
  have O3 := hide (own_pick O2.out hk3 (by have := S1.out; omega))
  have q3 := hide ((hk3.block w.heap.size (lt_of_block q2.out) (by have := HRl.out; intro e; injection e; omega)).trans q2.out)
  have B3 := hide (B2.out.trans (hk3.to_below (Nat.le_of_lt HRl.out) B2.out.size))
  have O4 := hide (own_below O3.out ((Below.refl w3.heap.size w3).alloc (Nat.le_refl _) (.cells #[.int .i64 t, .int .i64 v] 30)))
  have x4 : Hid ((w3.alloc (.cells #[.int .i64 t, .int .i64 v] 30)).heap[w3.heap.size]? = some (.cells #[.int .i64 t, .int .i64 v] 30 (0, 0))) := hide (heap_alloc_new _ _)
  have hlt3 := hide (lt_of_block q3.out)
  have q4 := hide ((((Below.refl w3.heap.size w3).alloc (Nat.le_refl _) (.cells #[.int .i64 t, .int .i64 v] 30)).block w.heap.size hlt3.out).trans q3.out)
  have B4 := hide (B3.out.alloc B3.out.size (.cells #[.int .i64 t, .int .i64 v] 30))
  have hr4 := hr3.below (w' := w3.alloc (.cells #[.int .i64 t, .int .i64 v] 30)) ((Below.refl _ _).alloc hr3.lt _)
  have hRX := hide hr3.lt
  have hb1 : Hid (w.heap.size < w1.heap.size) := hide (by have := S1.out; have := HRl.out; omega)
  have hb1R : Hid (R < w1.heap.size) := hide (by have := S1.out; omega)
  have HOX : Hid (∀ g, (Value.slice A2 l2.length c2).ownBlock = some g → g < w3.heap.size) := hide (fun g hg => (O3.out.lt g hg).2)
  clear hk3 O2 q2 B2 hr2 O3 q3 B3 hr3 t1 t2 v1 v2
  by_cases hn0 : l2.length = 0
  · clear hr4 hRX
    have hz0 : ¬ (0 < l2.length) := by omega
    obtain ⟨W4, hW4⟩ : ∃ W4, W4 = (w3.alloc (.cells #[.int .i64 t, .int .i64 v] 30)) := ⟨_, rfl⟩
    go_wp2
    obtain ⟨b0, b1, _, _⟩ := cell_two x4.out
    obtain ⟨a0, a1, f0, f1⟩ := cell_two q4.out
    obtain ⟨e0, e1, _, _⟩ := cell_two (set_two (.int .i64 (t)) (.int .i64 v) q4.out)
    have F := hide (fun w' => drawnPut_end (w := w) (wE := ((w3.alloc (.cells #[.int .i64 t, .int .i64 v] 30))).drew) (w' := w') (t := t) (v := v) hl2 O4.out hb1.out B4.out.drew)
    have hXn := hlt3.out
    generalize (w3.alloc (.cells #[.int .i64 t, .int .i64 v] 30)) = WX at b0 b1 a0 a1 f0 f1 e0 e1 F ⊢
    go_region
    all_goals go_wp2
    all_goals exact bodyPost_ret (v := .tuple #[.slice A2 l2.length c2, .agg #[.int .i64 (t), .int .i64 v]]) (by simp [results, Try.results25, go_sem, e0, e1, hn0]) rfl (F.out _ rfl)
  · have hpos : 0 < l2.length := by omega
    clear hn0
    have P4 := hide (pick_any _ _ _ 3 _ hr4 (by omega) (by omega))
    clear hr4
    go_wp2_with fail
    refine P4.out.mono ?_
    rintro e w5 ⟨v5, rfl, l5, u5, hr5, g5, hs5⟩
    have O5 := hide (own_pick O4.out g5 hb1R.out)
    have q5 := hide ((g5.block w.heap.size (lt_of_block q4.out) (by have := HRl.out; intro e; injection e; omega)).trans q4.out)
    have x5 := hide ((g5.block w3.heap.size (lt_of_block x4.out) (by have := hRX.out; intro e; injection e; omega)).trans x4.out)
    have B5 := hide (B4.out.trans (Kept.to_below g5 (Nat.le_of_lt HRl.out) B4.out.size))
    clear g5 hs5 u5 O4 q4 x4 B4 P4
    by_cases h5 : v5 = 0
    · subst h5
      have P5 := hide (pick_any _ _ _ l2.length _ hr5 (by omega) (by omega))
      clear hr5
      go_wp2_with fail
      refine P5.out.mono ?_
      rintro e w6 ⟨v6, rfl, l6, u6, hr6, g6, hs6⟩
      have u6 := u6 (by omega)
      have O6 := hide (own_pick O5.out g6 hb1R.out)
      have q6 := hide ((g6.block w.heap.size (lt_of_block q5.out) (by have := HRl.out; intro e; injection e; omega)).trans q5.out)
      have x6 := hide ((g6.block w3.heap.size (lt_of_block x5.out) (by have := hRX.out; intro e; injection e; omega)).trans x5.out)
      have B6 := hide (B5.out.trans (Kept.to_below g6 (Nat.le_of_lt HRl.out) B5.out.size))
      clear g6 hs6 hr6 O5 q5 x5 B5 P5
      obtain ⟨k6, rfl⟩ := Int.eq_ofNat_of_zero_le l6
      have hk6 : k6 < l2.length := by omega
      obtain ⟨b, off, rfl, hbb, hc⟩ := (Rd.of_own O6.out).row rfl hk6
      obtain ⟨c1, _⟩ := hc k6 hk6
      obtain ⟨y, hy⟩ : ∃ y, (l2.getD k6 (0, 0)).1 = y := ⟨_, rfl⟩
      rw [hy] at c1
      clear hc hy
      obtain ⟨bb0, bb1, fb0, fb1⟩ := cell_two x6.out
      have x7 : Hid ((w6.setCell ⟨w3.heap.size, 0, none⟩ (.int .i64 y)).heap[w3.heap.size]? = some (.cells #[.int .i64 y, .int .i64 v] 30 (0, 0))) := hide (by simpa using heap_setCell_same w6 w3.heap.size 0 _ _ (.int .i64 y) x6.out)
      have q7 : Hid ((w6.setCell ⟨w3.heap.size, 0, none⟩ (.int .i64 y)).heap[w.heap.size]? = some (.cells #[.int .i64 0, .int .i64 0] 30 (0, 0))) := hide (by rw [heap_setCell_other w6 ⟨w3.heap.size, 0, none⟩ _ _ (fun e => by have := hlt3.out; simp at e; omega)]; exact q6.out)
      have B7 := hide (B6.out.setCell (p := ⟨w3.heap.size, 0, none⟩) (Nat.le_of_lt hlt3.out) (.int .i64 y))
      have O7 : Hid ((w6.setCell ⟨w3.heap.size, 0, none⟩ (.int .i64 y)).ownsRow w1.heap.size 30 2 (.slice (some ⟨b, off, none⟩) l2.length c2) l2.length (rows l2)) := hide (by
        refine ⟨O6.out.1, ?_⟩
        rcases O6.out.2 with hn | ⟨g, cap, cur, e1, hg, hgg, rest⟩
        · exact .inl hn
        · exact .inr ⟨g, cap, cur, e1, hg, by rw [heap_setCell_other w6 ⟨w3.heap.size, 0, none⟩ g _ (fun e => by have := HOX.out g (by rw [e1]; rfl); simp at e; omega)]; exact hgg, rest⟩)
      clear O6 q6 B6 x6
      have hz5 : (k6 : Int) < (l2.length : Int) := by omega
      go_wp2
      obtain ⟨b0, b1, _, _⟩ := cell_two x7.out
      obtain ⟨a0, a1, f0, f1⟩ := cell_two q7.out
      obtain ⟨e0, e1, _, _⟩ := cell_two (set_two (.int .i64 (y)) (.int .i64 v) q7.out)
      have F := hide (fun w' => drawnPut_end (w := w) (wE := ((w6.setCell ⟨w3.heap.size, 0, none⟩ (.int .i64 y))).drew) (w' := w') (t := y) (v := v) hl2 O7.out hb1.out B7.out.drew)
      have hXn := hlt3.out
      generalize (w6.setCell ⟨w3.heap.size, 0, none⟩ (.int .i64 y)) = WX at b0 b1 a0 a1 f0 f1 e0 e1 F ⊢
      go_region
      all_goals go_wp2
      all_goals exact bodyPost_ret (v := .tuple #[.slice (some ⟨b, off, none⟩) l2.length c2, .agg #[.int .i64 (y), .int .i64 v]]) (by simp [results, Try.results25, go_sem, e0, e1]) rfl (F.out _ rfl)
    · have hz5 : (v5 == 0) = false := beq_eq_false_iff_ne.2 h5
      clear hr5 h5
      skip
      go_wp2
      obtain ⟨b0, b1, _, _⟩ := cell_two x5.out
      obtain ⟨a0, a1, f0, f1⟩ := cell_two q5.out
      obtain ⟨e0, e1, _, _⟩ := cell_two (set_two (.int .i64 (t)) (.int .i64 v) q5.out)
      have F := hide (fun w' => drawnPut_end (w := w) (wE := (w5).drew) (w' := w') (t := t) (v := v) hl2 O5.out hb1.out B5.out.drew)
      have hXn := hlt3.out
      generalize w5 = WX at b0 b1 a0 a1 f0 f1 e0 e1 F ⊢
      go_region
      all_goals go_wp2
      all_goals exact bodyPost_ret (v := .tuple #[.slice A2 l2.length c2, .agg #[.int .i64 (t), .int .i64 v]]) (by simp [results, Try.results25, go_sem, e0, e1]) rfl (F.out _ rfl)

end Go.Proofs.Ytednahmfjpaehaa
