/-
  WALKS: the program's put: a copy, a place, and the row set or inserted there.
-/
import Derived.Test.YtednahmfjpaehaaInsert
import Derived.Test.YtednahmfjpaehaaQuiet
namespace Go.Proofs.Ytednahmfjpaehaa
set_option linter.unusedVariables false
open Go.RowKit

theorem put_go {l : List PB.Row} {r : PB.Row} {k : Nat} (h : PB.putR r l = l.take k ++ PB.putR r (l.drop k)) (hk : k < l.length) :
    ((l.getD k (0, 0)).1 < r.1 → PB.putR r l = l.take (k + 1) ++ PB.putR r (l.drop (k + 1))) ∧ ((l.getD k (0, 0)).1 = r.1 → PB.putR r l = l.set k r) ∧ (r.1 < (l.getD k (0, 0)).1 → PB.putR r l = l.take k ++ r :: l.drop k) := by
  rw [PB.getD_row hk]
  have hd : l.drop k = l[k] :: l.drop (k + 1) := List.drop_eq_getElem_cons hk
  refine ⟨fun hlt => ?_, fun he => ?_, fun hgt => ?_⟩
  · rw [h, hd, PB.putR, if_pos hlt, List.take_succ_eq_append_getElem hk, List.append_assoc]; rfl
  · rw [h, hd, PB.putR, if_neg (by omega), if_pos he, List.set_eq_take_append_cons_drop, if_pos hk]
  · rw [h, hd, PB.putR, if_neg (by omega), if_neg (by omega), ← hd]
theorem put_all {l : List PB.Row} {r : PB.Row} {k : Nat} (h : PB.putR r l = l.take k ++ PB.putR r (l.drop k)) (hk : l.length ≤ k) : PB.putR r l = l.take k ++ r :: l.drop k := by
  rw [h, List.drop_of_length_le hk]; rfl
theorem rows_set {l : List PB.Row} {k : Nat} (hk : k < l.length) (r : PB.Row) : ((rows l).set (k * 2) (.int .i64 r.1)).set (k * 2 + 1) (.int .i64 r.2) = rows (l.set k r) := by
  have h1 : rows l = rows (l.take k) ++ rows (l.drop k) := by rw [← rows_append, List.take_append_drop]
  have h2 : (rows (l.take k)).length = k * 2 := by rw [rows_len]; simp; omega
  have hd : l.drop k = l[k] :: l.drop (k + 1) := List.drop_eq_getElem_cons hk
  generalize l[k] = y at hd
  rw [show l.set k r = l.take k ++ r :: l.drop (k + 1) from by rw [List.set_eq_take_append_cons_drop, if_pos hk], rows_append, h1, hd, List.set_append_right _ _ (by omega), List.set_append_right _ _ (by omega), h2]
  simp [rows]

set_option maxRecDepth 100000 in
set_option maxHeartbeats 6400000 in
theorem implPut_any (A : Option Addr) (n c : Nat) (l : List PB.Row) (t v : Int) (B : Nat) (w : World) (hl : l.length = n) (h : Rd w B 2 A n (rows l)) (hn : n ≤ 100000) (hB : B ≤ w.heap.size) :
    Calls Try.prog 32 #[.slice A n c, .agg #[.int .i64 t, .int .i64 v]] w (RowL w (PB.putR (t, v) l)) := by
  obtain ⟨i0, hi_, hz0, hz1, hz2⟩ := info_parts info_row
  have HL := hide hl
  have hO : Hid (((w.alloc (.cells #[.int .i64 t, .int .i64 v] 30)).alloc (.cells #[] 30)).ownsRow (w.heap.size + 1) 30 2 (.slice (some ⟨w.heap.size + 1, 0, none⟩) 0 0) 0 []) := hide (by
    have := World.ownsRow_lit (base := w.heap.size + 1) (size := 2) (w.alloc (.cells #[.int .i64 t, .int .i64 v] 30)) (e := 30) #[] 0 (by simp) (Nat.zero_le _) rfl
    rw [World.size_alloc] at this
    exact this)
  have V0 : Hid (Cells ((w.alloc (.cells #[.int .i64 t, .int .i64 v] 30)).alloc (.cells #[] 30)) w.heap.size 30 [.int .i64 t, .int .i64 v]) := hide ((Cells.new w #[.int .i64 t, .int .i64 v] 30).block (Below.heap_alloc _ _ _ (by simp)))
  have hb0 : Below w.heap.size w ((w.alloc (.cells #[.int .i64 t, .int .i64 v] 30)).alloc (.cells #[] 30)) := ((Below.refl _ _).alloc (Nat.le_refl _) _).alloc (by simp) _
  have HX := hide ((h.more hB).below hb0)
  have HB0 := hide hb0
  have hone := hide (rows_one (l := l))
  clear hl h hB hb0
  go_enter Try.func32, Try.ntmps32
  go_wp2_with (first | (at_builtin; refine wpList_app _ rfl (.tmp 7) (.tmp 8) 26 rfl (w.heap.size + 1) 30 i0 (.agg #[.int .i64 0, .int .i64 0]) 2 16 Try.underlying26 hi_ hz0 hz1 hz2 rfl (by decide) _ _ _ rfl hO.out w.heap.size _ _ _ _ rfl HX.out hone.out (by unfold maxLen; omega) (by omega) (by simp) ?_; intro A5 c5 w5 o5 b5; simp only [Nat.zero_add, List.nil_append] at o5; replace V0 := hide (V0.out.block (b5.block _ (by omega))); replace HB0 := hide (HB0.out.trans (b5.mono (by omega))); have O5 := hide o5; clear o5 b5 hO HX hone))
  have hw5 : w.heap.size < w5.heap.size := V0.out.lt
  go_loopw [6] (fun i W => ∃ k : Nat, k ≤ n ∧ i = .int .i64 k ∧ Hid (PB.putR (t, v) l = l.take k ++ PB.putR (t, v) (l.drop k)) ∧ Below w5.heap.size w5 W) (fun i _ => n - (intOf i).toNat)
  case atStart => exact ⟨0, Nat.zero_le _, by simp, hide (by simp), Below.refl _ _⟩
  case round =>
    obtain ⟨k, hk, rfl, hp, hbel⟩ := hrel
    have O := hide (own_below O5.out hbel)
    have V := hide (V0.out.block (hbel.block _ hw5))
    have HB := hide (HB0.out.trans (hbel.mono HB0.out.size))
    have HB5 := hide hbel
    have v0 := V.out.cell 0
    have v1 := V.out.cell 1
    simp only [List.getElem?_cons_zero, List.getElem?_cons_succ] at v0 v1
    have hwW : w.heap.size < wr.heap.size := V.out.lt
    clear hbel V0 HB0 O5
    by_cases hlt : k < n
    · obtain ⟨b, off, rfl, hb, hc⟩ := (Rd.of_own O.out).row HL.out hlt
      obtain ⟨c1, c2⟩ := hc k hlt
      obtain ⟨g1, g2, g3⟩ := put_go hp.out (by rw [HL.out]; exact hlt)
      obtain ⟨y, hy⟩ : ∃ y, l.getD k (0, 0) = y := ⟨_, rfl⟩
      obtain ⟨p, q⟩ := y
      rw [hy] at c1 c2 g1 g2 g3
      have G1 := hide g1
      have G2 := hide g2
      have G3 := hide g3
      have off0 : off = 0 := by
        rcases O.out.2 with ⟨h1, _⟩ | ⟨g, cap, cur, h1, _⟩
        · injection h1 with h1; cases h1
        · injection h1 with h1; injection h1 with h1; injection h1
      subst off0
      have f1 := O.out.frozenAt (k * 2)
      have f2 := O.out.frozenAt (k * 2 + 1)
      rw [Nat.zero_add] at c1 c2
      clear hc hy g1 g2 g3 hp
      have hin : (0 : Int) ≤ (k : Int) ∧ (k : Int) < (n : Int) := by omega
      have e0 := ext_cell (B := wr.heap.size) c1 (Nat.le_refl _)
      have e1 := ext_cell (B := wr.heap.size) v0 (Nat.le_refl _)
      by_cases hpt : p < t
      · have hP := hide (G1.out hpt)
        clear G1 G2 G3
        go_wp2
        refine wp_region_ext wr.heap.size (by kernel_rfl) (by kernel_rfl) ?_
        repeat (go_big_quiet_step (fail))
        refine wpQuiet_nil ?_
        intro _ hw'
        obtain ⟨x, hw''⟩ := hw'
        subst hw''
        have xb := hide x.is
        clear e0 e1 f1 f2
        generalize x.val = W1 at xb ⊢
        clear x
        replace O := hide (own_below O.out xb.out)
        replace V := hide (V.out.block (xb.out.block _ hwW))
        replace HB := hide (HB.out.trans (xb.out.mono HB.out.size))
        replace HB5 := hide (HB5.out.trans (xb.out.mono HB5.out.size))
        replace hwW := V.out.lt
        replace v0 := (xb.out.cell (World.block_lt_of_cell? _ _ v0)).trans v0
        replace v1 := (xb.out.cell (World.block_lt_of_cell? _ _ v1)).trans v1
        replace c1 := (xb.out.cell (World.block_lt_of_cell? _ _ c1)).trans c1
        replace c2 := (xb.out.cell (World.block_lt_of_cell? _ _ c2)).trans c2
        clear xb
        go_wp2
        go_roundw
        case rel => exact ⟨k + 1, by omega, by go_num, hP, HB5.out⟩
        case measure => simp [intOf]; omega
      · go_wp2
        refine wp_region_ext wr.heap.size (by kernel_rfl) (by kernel_rfl) ?_
        repeat (go_big_quiet_step (fail))
        refine wpQuiet_nil ?_
        intro _ hw'
        obtain ⟨x, hw''⟩ := hw'
        subst hw''
        have xb := hide x.is
        clear e0 e1 f1 f2
        generalize x.val = W1 at xb ⊢
        clear x
        replace O := hide (own_below O.out xb.out)
        replace V := hide (V.out.block (xb.out.block _ hwW))
        replace HB := hide (HB.out.trans (xb.out.mono HB.out.size))
        replace HB5 := hide (HB5.out.trans (xb.out.mono HB5.out.size))
        replace hwW := V.out.lt
        replace v0 := (xb.out.cell (World.block_lt_of_cell? _ _ v0)).trans v0
        replace v1 := (xb.out.cell (World.block_lt_of_cell? _ _ v1)).trans v1
        replace c1 := (xb.out.cell (World.block_lt_of_cell? _ _ c1)).trans c1
        replace c2 := (xb.out.cell (World.block_lt_of_cell? _ _ c2)).trans c2
        clear xb
        by_cases hpe : p = t
        · have hP := hide (G2.out hpe)
          subst hpe
          clear G1 G2 G3 hpt
          have e0 := ext_cell (B := W1.heap.size) c1 (Nat.le_refl _)
          have e1 := ext_cell (B := W1.heap.size) v0 (Nat.le_refl _)
          have hbeq : (p == p) = true := beq_self_eq_true _
          go_wp2
          refine wp_region_ext W1.heap.size (by kernel_rfl) (by kernel_rfl) ?_
          repeat (go_big_quiet_step (fail))
          refine wpQuiet_nil ?_
          intro _ hw'
          obtain ⟨x, hw''⟩ := hw'
          subst hw''
          have xb := hide x.is
          clear e0 e1
          generalize x.val = W2 at xb ⊢
          clear x
          replace O := hide (own_below O.out xb.out)
          replace V := hide (V.out.block (xb.out.block _ hwW))
          replace HB := hide (HB.out.trans (xb.out.mono HB.out.size))
          replace HB5 := hide (HB5.out.trans (xb.out.mono HB5.out.size))
          replace hwW := V.out.lt
          replace v0 := (xb.out.cell (World.block_lt_of_cell? _ _ v0)).trans v0
          replace v1 := (xb.out.cell (World.block_lt_of_cell? _ _ v1)).trans v1
          replace c1 := (xb.out.cell (World.block_lt_of_cell? _ _ c1)).trans c1
          replace c2 := (xb.out.cell (World.block_lt_of_cell? _ _ c2)).trans c2
          clear xb
          have f1 := O.out.frozenAt (k * 2)
          have f2 := O.out.frozenAt (k * 2 + 1)
          go_wp2
          go_ret
          have S1 := (O.out.stored (k * 2) (.int .i64 p)).1
          have S2 := (S1.stored (k * 2 + 1) (.int .i64 v)).1
          have hrs := rows_set (l := l) (k := k) (by rw [HL.out]; exact hlt) (p, v)
          rw [hrs, ← hP.out] at S2
          have hlen : (PB.putR (p, v) l).length = n := by rw [hP.out]; simp [HL.out]
          have hgb := (O.out.lt b rfl).1
          exact ⟨some ⟨b, 0, none⟩, c5, by rw [hlen]; exact rfl, by rw [hlen]; exact own_base S2 (Nat.le_succ _), (HB.out.setCell (p := ⟨b, k * 2, none⟩) (Nat.le_of_succ_le hgb) _).setCell (p := ⟨b, k * 2 + 1, none⟩) (Nat.le_of_succ_le hgb) _⟩
        · have HP := hide (G3.out (by show t < p; omega))
          have hbeq : (p == t) = false := beq_eq_false_iff_ne.2 hpe
          clear G1 G2 G3
          have e0 := ext_cell (B := W1.heap.size) c1 (Nat.le_refl _)
          have e1 := ext_cell (B := W1.heap.size) v0 (Nat.le_refl _)
          go_wp2
          refine wp_region_ext W1.heap.size (by kernel_rfl) (by kernel_rfl) ?_
          repeat (go_big_quiet_step (fail))
          refine wpQuiet_nil ?_
          intro _ hw'
          obtain ⟨x, hw''⟩ := hw'
          subst hw''
          have xb := hide x.is
          clear e0 e1
          generalize x.val = W2 at xb ⊢
          clear x
          replace O := hide (own_below O.out xb.out)
          replace V := hide (V.out.block (xb.out.block _ hwW))
          replace HB := hide (HB.out.trans (xb.out.mono HB.out.size))
          replace HB5 := hide (HB5.out.trans (xb.out.mono HB5.out.size))
          replace hwW := V.out.lt
          replace v0 := (xb.out.cell (World.block_lt_of_cell? _ _ v0)).trans v0
          replace v1 := (xb.out.cell (World.block_lt_of_cell? _ _ v1)).trans v1
          replace c1 := (xb.out.cell (World.block_lt_of_cell? _ _ c1)).trans c1
          replace c2 := (xb.out.cell (World.block_lt_of_cell? _ _ c2)).trans c2
          clear xb
          clear c1 c2 hbeq hpe hpt
          generalize W2 = W at O V HB HB5 hwW v0 v1 ⊢
          have sW := HB.out.size
          have HOO := hide ((O.out.alloc (.cells #[] 30)).alloc (.cells #[.int .i64 t, .int .i64 v] 30))
          have hCV : Cells ((W.alloc (.cells #[] 30)).alloc (.cells #[.int .i64 t, .int .i64 v] 30)) (W.heap.size + 1) 30 [.int .i64 t, .int .i64 v] := by
            have := Cells.new (W.alloc (.cells #[] 30)) #[.int .i64 t, .int .i64 v] 30
            simpa using this
          have hlt := fun g hg => (O.out.lt g hg)
          have C8 := hide (insert_any (some ⟨b, 0, none⟩) n c5 k l t v (w.heap.size + 1) (W.heap.size + 1) _ HOO.out HL.out (by omega) hCV (by intro e; have := (hlt _ e).2; omega) (by omega) (by simp; omega))
          have hl0 := World.ownsRow_lit (base := W.heap.size) (e := 30) (size := 2) W #[] 0 (Nat.le_refl _) (Nat.zero_le _) rfl
          have HL0 := hide (hl0.alloc (.cells #[.int .i64 t, .int .i64 v] 30))
          have hbb : Below W.heap.size W ((W.alloc (.cells #[] 30)).alloc (.cells #[.int .i64 t, .int .i64 v] 30)) := ((Below.refl _ _).alloc (Nat.le_refl _) _).alloc (by simp) _
          have HBB := hide hbb
          have V0 := hide (V.out.cell 0)
          have V1 := hide (V.out.cell 1)
          have hne : (Value.slice (some ⟨b, 0, none⟩) n c5).ownBlock ≠ some W.heap.size := fun e => by have := (hlt _ e).2; omega
          have HNE := hide hne
          have hlw := HB.out.size
          have HGE := hide (fun g hg => (hlt g hg).1)
          clear hlt hCV hl0 hbb hne
          have v0 : W.cell? ⟨w.heap.size, 0, none⟩ = some (.int .i64 t) := V0.out
          have v1 : W.cell? ⟨w.heap.size, 1, none⟩ = some (.int .i64 v) := V1.out
          have hwW : w.heap.size < W.heap.size := V.out.lt
          go_wp2_with fail
          refine C8.out.mono ?_
          rintro e w8 ⟨A6, c6, rfl, o6, g6⟩
          have L8 := hide (HL0.out.kept g6 (.inr (fun e => HNE.out e.symm)))
          have s8 := g6.size
          simp at s8
          have B8 := hide (HB.out.trans ((HBB.out.mono hlw).trans ((Below.refl _ _).grown g6 (by simp; omega) (fun g hg => Nat.le_of_lt (Nat.lt_of_succ_le (HGE.out g hg))))))
          have R8 := hide (Rd.of_own o6)
          have hlen6 : Hid (n + 1 = (PB.putR (t, v) l).length) := hide (by rw [HP.out]; simp; have := HL.out; omega)
          have hone := hide (rows_one (l := l.take k ++ (t, v) :: l.drop k))
          clear o6 g6 C8 HL0 HBB v0 v1
          go_wp2_with (first | (at_builtin; go_loud (refine wpList_app _ rfl (.tmp 45) (.tmp 50) 26 rfl W.heap.size 30 i0 (.agg #[.int .i64 0, .int .i64 0]) 2 16 Try.underlying26 hi_ hz0 hz1 hz2 rfl (by decide) _ _ _ rfl L8.out w8.heap.size _ _ _ _ rfl R8.out hone.out (by unfold maxLen; omega) (by omega) (by omega) ?_; intro A9 c9 w9 o9 b9; simp only [Nat.zero_add, List.nil_append] at o9)))
          have F : Hid (RowL w (PB.putR (t, v) l) (.returned (.slice A9 (n + 1) c9)) w9) := hide ⟨A9, c9, by rw [← hlen6.out], by rw [← hlen6.out]; have := own_base o9 hlw; rw [HP.out]; exact this, B8.out.trans (b9.mono hlw)⟩
          clear o9 b9 B8 R8 L8
          go_wp2
          go_ret
          exact F.out
    · have hkn : k = n := by omega
      have HP := hide (put_all hp.out (by rw [HL.out]; omega))
      subst hkn
      clear hp
      have hin : ¬ ((k : Int) < (k : Int)) := by omega
      go_wp2
      refine wp_region_ext wr.heap.size (by kernel_rfl) (by kernel_rfl) ?_
      repeat (go_big_quiet_step (fail))
      refine wpQuiet_nil ?_
      intro _ hw'
      obtain ⟨x, hw''⟩ := hw'
      subst hw''
      have xb := hide x.is
      generalize x.val = W1 at xb ⊢
      clear x
      replace O := hide (own_below O.out xb.out)
      replace V := hide (V.out.block (xb.out.block _ hwW))
      replace HB := hide (HB.out.trans (xb.out.mono HB.out.size))
      replace HB5 := hide (HB5.out.trans (xb.out.mono HB5.out.size))
      replace hwW := V.out.lt
      replace v0 := (xb.out.cell (World.block_lt_of_cell? _ _ v0)).trans v0
      replace v1 := (xb.out.cell (World.block_lt_of_cell? _ _ v1)).trans v1
      clear xb
      go_wp2
      refine wp_region_ext W1.heap.size (by kernel_rfl) (by kernel_rfl) ?_
      repeat (go_big_quiet_step (fail))
      refine wpQuiet_nil ?_
      intro _ hw'
      obtain ⟨x, hw''⟩ := hw'
      subst hw''
      have xb := hide x.is
      generalize x.val = W2 at xb ⊢
      clear x
      replace O := hide (own_below O.out xb.out)
      replace V := hide (V.out.block (xb.out.block _ hwW))
      replace HB := hide (HB.out.trans (xb.out.mono HB.out.size))
      replace HB5 := hide (HB5.out.trans (xb.out.mono HB5.out.size))
      replace hwW := V.out.lt
      replace v0 := (xb.out.cell (World.block_lt_of_cell? _ _ v0)).trans v0
      replace v1 := (xb.out.cell (World.block_lt_of_cell? _ _ v1)).trans v1
      clear xb
      generalize W2 = W at O V HB HB5 hwW v0 v1 ⊢
      have sW := HB.out.size
      have HOO := hide ((O.out.alloc (.cells #[] 30)).alloc (.cells #[.int .i64 t, .int .i64 v] 30))
      have hCV : Cells ((W.alloc (.cells #[] 30)).alloc (.cells #[.int .i64 t, .int .i64 v] 30)) (W.heap.size + 1) 30 [.int .i64 t, .int .i64 v] := by
        have := Cells.new (W.alloc (.cells #[] 30)) #[.int .i64 t, .int .i64 v] 30
        simpa using this
      have hlt := fun g hg => (O.out.lt g hg)
      have C8 := hide (insert_any A5 k c5 k l t v (w.heap.size + 1) (W.heap.size + 1) _ HOO.out HL.out (by omega) hCV (by intro e; have := (hlt _ e).2; omega) (by omega) (by simp; omega))
      have hl0 := World.ownsRow_lit (base := W.heap.size) (e := 30) (size := 2) W #[] 0 (Nat.le_refl _) (Nat.zero_le _) rfl
      have HL0 := hide (hl0.alloc (.cells #[.int .i64 t, .int .i64 v] 30))
      have hbb : Below W.heap.size W ((W.alloc (.cells #[] 30)).alloc (.cells #[.int .i64 t, .int .i64 v] 30)) := ((Below.refl _ _).alloc (Nat.le_refl _) _).alloc (by simp) _
      have HBB := hide hbb
      have V0 := hide (V.out.cell 0)
      have V1 := hide (V.out.cell 1)
      have hne : (Value.slice A5 k c5).ownBlock ≠ some W.heap.size := fun e => by have := (hlt _ e).2; omega
      have HNE := hide hne
      have hlw := HB.out.size
      have HGE := hide (fun g hg => (hlt g hg).1)
      clear hlt hCV hl0 hbb hne
      have v0 : W.cell? ⟨w.heap.size, 0, none⟩ = some (.int .i64 t) := V0.out
      have v1 : W.cell? ⟨w.heap.size, 1, none⟩ = some (.int .i64 v) := V1.out
      have hwW : w.heap.size < W.heap.size := V.out.lt
      go_wp2_with fail
      refine C8.out.mono ?_
      rintro e w8 ⟨A6, c6, rfl, o6, g6⟩
      have L8 := hide (HL0.out.kept g6 (.inr (fun e => HNE.out e.symm)))
      have s8 := g6.size
      simp at s8
      have B8 := hide (HB.out.trans ((HBB.out.mono hlw).trans ((Below.refl _ _).grown g6 (by simp; omega) (fun g hg => Nat.le_of_lt (Nat.lt_of_succ_le (HGE.out g hg))))))
      have R8 := hide (Rd.of_own o6)
      have hlen6 : Hid (k + 1 = (PB.putR (t, v) l).length) := hide (by rw [HP.out]; simp; have := HL.out; omega)
      have hone := hide (rows_one (l := l.take k ++ (t, v) :: l.drop k))
      clear o6 g6 C8 HL0 HBB v0 v1
      go_wp2_with (first | (at_builtin; go_loud (refine wpList_app _ rfl (.tmp 45) (.tmp 50) 26 rfl W.heap.size 30 i0 (.agg #[.int .i64 0, .int .i64 0]) 2 16 Try.underlying26 hi_ hz0 hz1 hz2 rfl (by decide) _ _ _ rfl L8.out w8.heap.size _ _ _ _ rfl R8.out hone.out (by unfold maxLen; omega) (by omega) (by omega) ?_; intro A9 c9 w9 o9 b9; simp only [Nat.zero_add, List.nil_append] at o9)))
      have F : Hid (RowL w (PB.putR (t, v) l) (.returned (.slice A9 (k + 1) c9)) w9) := hide ⟨A9, c9, by rw [← hlen6.out], by rw [← hlen6.out]; have := own_base o9 hlw; rw [HP.out]; exact this, B8.out.trans (b9.mono hlw)⟩
      clear o9 b9 B8 R8 L8
      go_wp2
      go_ret
      exact F.out

end Go.Proofs.Ytednahmfjpaehaa
