/-
  WALKS: lists of rows: copied (toRowS), told apart (eqRowS), measured (szRowS).
-/
import Derived.Test.YtlalldjlgaldeaaRows1
import Derived.Outline
namespace Go.Proofs.Ytlalldjlgaldeaa
set_option linter.unusedVariables false
open Go.RowKit

theorem info_row : (Try.prog.info? 32).map (fun i => (i.zero, i.size, i.bytes)) = some (some (.agg #[.int .i64 0, .int .i64 0]), 2, 16) := by kernel_rfl

set_option maxRecDepth 100000 in
theorem szRowS_fits (A : Option Addr) (n c : Nat) (left : Int) (w : World) (hl : 0 ≤ left ∧ left ≤ 1048576) (h : (n : Int) ≤ left) : Calls Try.prog 8 #[.slice A n c, .int .i64 left] w fun e w' => e = .returned (.int .i64 (left - n)) ∧ w = w' := by
  go_enter Try.func8, Try.ntmps8
  go_wp2
  go_ret
  exact ⟨rfl, rfl⟩
set_option maxRecDepth 100000 in
theorem szRowS_not (A : Option Addr) (n c : Nat) (left : Int) (w : World) (hl : 0 ≤ left ∧ left ≤ 1048576) (hn : n ≤ 9223372036854775807) (h : left < (n : Int)) : Calls Try.prog 8 #[.slice A n c, .int .i64 left] w fun e w' => e = .returned (.int .i64 (-1)) ∧ w = w' := by
  go_enter Try.func8, Try.ntmps8
  go_wp2
  go_ret
  exact ⟨rfl, rfl⟩

set_option maxRecDepth 100000 in
theorem toRow_any (t v : Int) (w : World) : Calls Try.prog 25 #[.agg #[.int .i64 t, .int .i64 v]] w fun e w' => e = .returned (.agg #[.int .i64 t, .int .i64 v]) ∧ Below w.heap.size w w' := by
  go_enter Try.func25, Try.ntmps25
  go_wp2
  exact bodyPost_ret (v := .agg #[.int .i64 t, .int .i64 v]) (by simp [results, Try.results25, go_sem]) rfl ⟨rfl, (((Below.refl _ _).alloc (Nat.le_refl _) _).alloc (by simp) _).alloc (by simp; omega) _⟩

set_option maxRecDepth 100000 in
theorem eqRow_any (t v t' v' : Int) (w : World) : Calls Try.prog 26 #[.agg #[.int .i64 t, .int .i64 v], .agg #[.int .i64 t', .int .i64 v']] w (Bl w (decide ((t, v) = (t', v')))) := by
  by_cases h1 : t = t'
  · subst h1
    by_cases h2 : v = v'
    · subst h2
      go_enter Try.func26, Try.ntmps26
      go_wp2
      go_ret
      exact ⟨ret_bool (by simp), ((Below.refl _ _).alloc (Nat.le_refl _) _).alloc (by simp) _⟩
    · have hb : (v != v') = true := by simpa using h2
      have hF : Hid (decide ((t, v) = (t, v')) = false) := hide (by simp [h2])
      clear h2
      go_enter Try.func26, Try.ntmps26
      go_wp2
      go_ret
      exact ⟨ret_bool hF.out.symm, ((Below.refl _ _).alloc (Nat.le_refl _) _).alloc (by simp) _⟩
  · have hb : (t != t') = true := by simpa using h1
    have hF : Hid (decide ((t, v) = (t', v')) = false) := hide (by simp [h1])
    clear h1
    go_enter Try.func26, Try.ntmps26
    go_wp2
    go_ret
    exact ⟨ret_bool hF.out.symm, ((Below.refl _ _).alloc (Nat.le_refl _) _).alloc (by simp) _⟩

/-- A list, its first k rows laid, zeros behind. -/
def laidRows (l : List PB.Row) (n k : Nat) : List Value := rows (l.take k) ++ List.replicate ((n - k) * 2) (.int .i64 0)
theorem laidRows_step {l : List PB.Row} {n k : Nat} (hl : l.length = n) (hk : k < n) :
    ((laidRows l n k).set (k * 2) (.int .i64 (l.getD k (0, 0)).1)).set (k * 2 + 1) (.int .i64 (l.getD k (0, 0)).2) = laidRows l n (k + 1) := by
  have h1 : (rows (l.take k)).length = k * 2 := by rw [rows_len]; simp; omega
  have h2 : l.take (k + 1) = l.take k ++ [l.getD k (0, 0)] := by rw [List.take_succ_eq_append_getElem (by omega), PB.getD_row (by omega)]
  have h3 : (n - k) * 2 = (n - (k + 1)) * 2 + 1 + 1 := by omega
  unfold laidRows
  rw [List.set_append_right _ _ (by omega), List.set_append_right _ _ (by omega), h1, h2, rows_append, h3, List.replicate_succ, List.replicate_succ]
  simp [rows]
theorem laidRows_done {l : List PB.Row} {n : Nat} (hl : l.length = n) : laidRows l n n = rows l := by
  unfold laidRows
  rw [← hl]; simp
theorem laidRows_start (l : List PB.Row) (n : Nat) : (madeCells (Value.agg #[.int .i64 0, .int .i64 0]).cells (n * 2)).toList = laidRows l n 0 := by
  apply List.ext_getElem?
  intro j
  simp only [laidRows, List.take_zero, rows, List.flatMap_nil, List.nil_append, Nat.sub_zero]
  by_cases hj : j < n * 2
  · simp [madeCells, hj, Value.cells]
    rcases Nat.mod_two_eq_zero_or_one j with h | h <;> simp [h]
  · simp [madeCells, hj]

/-- A list of rows in the call's own memory. -/
def RowL (w : World) (l : List PB.Row) (e : Ending) (w' : World) : Prop := ∃ A c, e = .returned (.slice A l.length c) ∧ w'.ownsRow w.heap.size 32 2 (.slice A l.length c) l.length (rows l) ∧ Below w.heap.size w w'

set_option maxRecDepth 100000 in
set_option maxHeartbeats 1600000 in
theorem toRowS_any (A : Option Addr) (n c : Nat) (l : List PB.Row) (B : Nat) (w : World) (hl : l.length = n) (h : Rd w B 2 A n (rows l)) (hn : n ≤ 4000000) (hB : B ≤ w.heap.size) :
    Calls Try.prog 10 #[.slice A n c] w (RowL w l) := by
  obtain ⟨i0, hi, hz0, hz1, hz2⟩ := info_parts info_row
  have HL := hide hl
  have HR := hide (h.more hB)
  clear hl h hB
  go_enter Try.func10, Try.ntmps10
  go_wp2_with (first
    | (at_make; refine wpList_make_full _ rfl (.tmp 6) (.tmp 6) 25 rfl w.heap.size 32 i0 (.agg #[.int .i64 0, .int .i64 0]) 2 Try.underlying25 hi hz0 hz1 _ _ _ _ n rfl rfl rfl rfl (by rw [hz2]; omega) (by unfold maxLen; omega) (Nat.le_refl _) ?_; intro w1 hown1 hg1))
  have HO : Hid (w1.ownsRow w.heap.size 32 2 (.slice (some ⟨w.heap.size, 0, none⟩) n n) n (laidRows l n 0)) := hide (by rw [← laidRows_start l n]; exact hown1)
  have hb1 : Below w.heap.size w w1 := (Below.refl _ _).grown hg1 (Nat.le_refl _) (by simp)
  clear hown1 hg1
  go_loopw [4] (fun i wr => ∃ k : Nat, k ≤ n ∧ i = .int .i64 k ∧ Hid (wr.ownsRow w.heap.size 32 2 (.slice (some ⟨w.heap.size, 0, none⟩) n n) n (laidRows l n k)) ∧ Below w.heap.size w wr) (fun i _ => n - (intOf i).toNat)
  case atStart => exact ⟨0, Nat.zero_le _, rfl, HO, hb1⟩
  case round =>
    clear HO hb1
    obtain ⟨k, hk, rfl, ho, hbel⟩ := hrel
    have hsz := hbel.size
    by_cases hlt : k < n
    · obtain ⟨b, off, rfl, hb, hc⟩ := (HR.out.below hbel).row HL.out hlt
      obtain ⟨c1, c2⟩ := hc k hlt
      clear hc
      have hT := hide (laidRows_step HL.out hlt)
      generalize l.getD k (0, 0) = r at c1 c2 hT
      obtain ⟨t, v⟩ := r
      go_wp2_with fail
      refine (toRow_any _ _ _).mono ?_
      rintro e w2 ⟨rfl, b2⟩
      have ho2 := own_below ho.out b2
      have hl1 : (laidRows l n k).length = n * 2 := ho2.1
      have hcell : ∀ j, j < n * 2 → ∃ old, w2.cell? ⟨w.heap.size, j, none⟩ = some old := fun j hj => ⟨(laidRows l n k)[j]'(by omega), by rw [ho2.cellAt j hj]; exact List.getElem?_eq_getElem _⟩
      obtain ⟨o1, g1⟩ := hcell (k * 2) (by omega)
      obtain ⟨o2, g2⟩ := hcell (k * 2 + 1) (by omega)
      have f1 := ho2.frozenAt (k * 2)
      have f2 := ho2.frozenAt (k * 2 + 1)
      have HB := hide (hbel.trans (b2.mono hsz))
      have HO2 := hide ho2
      clear hcell ho2 hl1 b2 hbel ho
      go_wp2
      have S1 := (HO2.out.stored (k * 2) (.int .i64 t)).1
      have S2 := (S1.stored (k * 2 + 1) (.int .i64 v)).1
      rw [hT.out] at S2
      go_roundw
      case rel => exact ⟨k + 1, by omega, by go_num, hide S2, (HB.out.setCell (p := ⟨w.heap.size, k * 2, none⟩) (Nat.le_refl _) _).setCell (p := ⟨w.heap.size, k * 2 + 1, none⟩) (Nat.le_refl _) _⟩
      case measure => simp [intOf]; omega
    · have hf := hide (laidRows_done HL.out)
      have hkn : Hid (k = n) := hide (by omega)
      go_wp2
      go_ret
      have := ho.out
      rw [hkn.out, hf.out] at this
      rw [← HL.out] at this ⊢
      exact ⟨_, _, rfl, this, hbel⟩

theorem eq_takeR {l l' : List PB.Row} {k : Nat} (hk : k < l.length) (hk' : k < l'.length) (h : l.take k = l'.take k) (hx : l.getD k (0, 0) = l'.getD k (0, 0)) : l.take (k + 1) = l'.take (k + 1) := by
  rw [List.take_succ_eq_append_getElem hk, List.take_succ_eq_append_getElem hk', h, ← PB.getD_row hk, ← PB.getD_row hk', hx]

set_option maxRecDepth 100000 in
set_option maxHeartbeats 1600000 in
theorem eqRowS_any (A A' : Option Addr) (n n' c c' : Nat) (l l' : List PB.Row) (B B' : Nat) (w : World) (hl : l.length = n) (hl' : l'.length = n') (h : Rd w B 2 A n (rows l)) (h' : Rd w B' 2 A' n' (rows l')) (hn : n ≤ 4000000) (hn' : n' ≤ 4000000) (hB : B ≤ w.heap.size) (hB' : B' ≤ w.heap.size) :
    Calls Try.prog 12 #[.slice A n c, .slice A' n' c'] w (Bl w (decide (l = l'))) := by
  have HL := hide hl
  have HL' := hide hl'
  have HR := hide (h.more hB)
  have HR' := hide (h'.more hB')
  clear hl hl' h h' hB hB'
  by_cases hnn : n = n'
  · subst hnn
    go_enter Try.func12, Try.ntmps12
    go_wp2
    go_loopw [5] (fun i wr => ∃ k : Nat, k ≤ n ∧ i = .int .i64 k ∧ Hid (l.take k = l'.take k) ∧ Below w.heap.size w wr) (fun i _ => n - (intOf i).toNat)
    case atStart => exact ⟨0, Nat.zero_le _, rfl, hide (by simp), Below.refl _ _⟩
    case round =>
      obtain ⟨k, hk, rfl, hp, hbel⟩ := hrel
      by_cases hlt : k < n
      · obtain ⟨b, off, rfl, hb, hc⟩ := (HR.out.below hbel).row HL.out hlt
        obtain ⟨b', off', rfl, hb', hc'⟩ := (HR'.out.below hbel).row HL'.out hlt
        obtain ⟨c1, c2⟩ := hc k hlt
        obtain ⟨c3, c4⟩ := hc' k hlt
        clear hc hc'
        have hN : Hid (l.getD k (0, 0) = l'.getD k (0, 0) → l.take (k + 1) = l'.take (k + 1)) := hide (eq_takeR (by rw [HL.out]; exact hlt) (by rw [HL'.out]; exact hlt) hp.out)
        have hF : Hid (l.getD k (0, 0) ≠ l'.getD k (0, 0) → decide (l = l') = false) := hide (fun hne => by
          apply decide_eq_false
          rintro rfl
          exact hne rfl)
        generalize l.getD k (0, 0) = r at c1 c2 hN hF
        generalize l'.getD k (0, 0) = r' at c3 c4 hN hF
        obtain ⟨t, v⟩ := r
        obtain ⟨t', v'⟩ := r'
        have HB := hide hbel
        have hsz := hbel.size
        have hin : (0 : Int) ≤ (k : Int) ∧ (k : Int) < (n : Int) := by omega
        have e1 := ext_cell (B := wr.heap.size) c1 (Nat.le_refl _)
        have e2 := ext_cell (B := wr.heap.size) c2 (Nat.le_refl _)
        have e3 := ext_cell (B := wr.heap.size) c3 (Nat.le_refl _)
        have e4 := ext_cell (B := wr.heap.size) c4 (Nat.le_refl _)
        clear hbel
        by_cases hxy : (t, v) = (t', v')
        · have hT := hide (hN.out hxy)
          have cr := hide (fun W : World => eqRow_any t v t' v' W)
          rw [decide_eq_true hxy] at cr
          clear hN hF hxy
          go_wp2
          refine wp_region_ext wr.heap.size (by kernel_rfl) (by kernel_rfl) ?_
          repeat (go_big_quiet_step ((go_at_call 26; exact ext_call _ (Nat.le_refl _) (cr.out _))))
          refine wpQuiet_nil ?_
          intro _ hw'
          obtain ⟨x, hw''⟩ := hw'
          subst hw''
          clear e1 e2 e3 e4
          go_wp2
          go_roundw
          case rel => exact ⟨k + 1, by omega, by go_num, hT, HB.out.trans (x.is.mono hsz)⟩
          case measure => simp [intOf]; omega
        · have hf := hide (hF.out hxy)
          have cr := hide (fun W : World => eqRow_any t v t' v' W)
          rw [decide_eq_false hxy] at cr
          clear hN hF hxy
          go_wp2
          refine wp_region_ext wr.heap.size (by kernel_rfl) (by kernel_rfl) ?_
          repeat (go_big_quiet_step ((go_at_call 26; exact ext_call _ (Nat.le_refl _) (cr.out _))))
          refine wpQuiet_nil ?_
          intro _ hw'
          obtain ⟨x, hw''⟩ := hw'
          subst hw''
          clear e1 e2 e3 e4
          go_wp2
          go_ret
          exact ⟨ret_bool hf.out.symm, HB.out.trans (x.is.mono hsz)⟩
      · have hf : Hid (decide (l = l') = true) := hide (by
          have h1 := hp.out
          rw [List.take_of_length_le (by rw [HL.out]; omega), List.take_of_length_le (by rw [HL'.out]; omega)] at h1
          exact decide_eq_true h1)
        go_wp2
        go_ret
        exact ⟨ret_bool hf.out.symm, hbel⟩
  · have hf : Hid (decide (l = l') = false) := hide (decide_eq_false (fun e => hnn (by rw [← HL.out, ← HL'.out, e])))
    have hne : ((n : Int) != (n' : Int)) = true := bne_iff_ne.2 (by omega)
    clear hnn
    go_enter Try.func12, Try.ntmps12
    go_wp2
    go_ret
    exact ⟨ret_bool hf.out.symm, Below.refl _ _⟩

end Go.Proofs.Ytlalldjlgaldeaa
