/-
  WALKS: rows and blocks: rowOk, l2Row, BlockOk of the program and of the reference.
-/
import Derived.Test.YtlalldjlgaldeaaZig
import Derived.Test.YtlalldjlgaldeaaPlainRows
import Derived.Test.YtlalldjlgaldeaaQuiet
import Derived.BigQuiet
import Derived.Deep.QuietTactic
namespace Go.Proofs.Ytlalldjlgaldeaa
set_option linter.unusedVariables false
open Go.RowKit

/-- A bool is handed back, nothing that was there is written. -/
def Bl (w : World) (b : Bool) (e : Ending) (w' : World) : Prop := e = .returned (.bool b) ∧ Below w.heap.size w w'
theorem drewN_below (w : World) (n : Nat) (B : Nat) : Below B w (w.drewN n) := ⟨rfl, rfl, rfl, Nat.le_refl _, fun _ _ => rfl⟩

def rowV (r : PB.Row) : Value := .agg #[.int .i64 r.1, .int .i64 r.2]
def rows (l : List PB.Row) : List Value := l.flatMap fun r => [.int .i64 r.1, .int .i64 r.2]
theorem rows_len (l : List PB.Row) : (rows l).length = l.length * 2 := by
  induction l with
  | nil => rfl
  | cons a l ih => simp only [rows, List.flatMap_cons, List.length_append, List.length_cons, List.length_nil] at ih ⊢; omega
theorem rows_append (a b : List PB.Row) : rows (a ++ b) = rows a ++ rows b := by simp [rows]
theorem rows_at {l : List PB.Row} {k : Nat} (h : k < l.length) : (rows l)[k * 2]? = some (.int .i64 (l.getD k (0, 0)).1) ∧ (rows l)[k * 2 + 1]? = some (.int .i64 (l.getD k (0, 0)).2) := by
  induction l generalizing k with
  | nil => simp at h
  | cons a l ih =>
    have e : rows (a :: l) = .int .i64 a.1 :: .int .i64 a.2 :: rows l := rfl
    rw [e]
    match k with
    | 0 => simp
    | k + 1 =>
      have := ih (k := k) (by simpa using h)
      rw [show (k + 1) * 2 = k * 2 + 1 + 1 by omega]
      simpa using this
theorem rows_one {l : List PB.Row} : ∀ u ∈ rows l, u.oneCell' = true := by
  intro u hu
  simp only [rows, List.mem_flatMap, List.mem_cons, List.not_mem_nil, or_false] at hu
  obtain ⟨a, _, rfl | rfl⟩ := hu <;> rfl
/-- Where there is a k-th row: its two cells. -/
theorem Rd.row {w : World} {B : Nat} {A : Option Addr} {n : Nat} {l : List PB.Row} (h : Rd w B 2 A n (rows l)) (hl : l.length = n) {k : Nat} (hk : k < n) :
    ∃ b off, A = some ⟨b, off, none⟩ ∧ b < B ∧ ∀ j, j < n → w.cell? ⟨b, off + j * 2, none⟩ = some (.int .i64 (l.getD j (0, 0)).1) ∧ w.cell? ⟨b, off + j * 2 + 1, none⟩ = some (.int .i64 (l.getD j (0, 0)).2) := by
  obtain ⟨b, off, e, hb, hc⟩ := h.at_ (by omega)
  exact ⟨b, off, e, hb, fun j hj => ⟨hc _ _ (rows_at (by omega)).1, hc _ _ (rows_at (by omega)).2⟩⟩

set_option maxRecDepth 100000 in
theorem rowOk_any (t v : Int) (w : World) : Calls Try.prog 35 #[.agg #[.int .i64 t, .int .i64 v]] w (Bl w (PB.rowB (t, v))) := by
  have hb : Hid (PB.rowB (t, v) = (decide (0 ≤ t) && decide (t ≤ 99) && (decide (-99 ≤ v) && decide (v ≤ 99)))) := hide rfl
  by_cases h1 : 0 ≤ t ∧ t ≤ 99
  · by_cases h2 : -99 ≤ v ∧ v ≤ 99
    · go_enter Try.func35, Try.ntmps35
      go_wp2_with fail
      refine (within_yes _ _ _ _ h1).mono ?_
      rintro e w' ⟨rfl, rfl⟩
      go_wp2_with fail
      refine (within_yes _ _ _ _ h2).mono ?_
      rintro e w' ⟨rfl, rfl⟩
      go_wp2
      go_ret
      exact ⟨ret_bool (by rw [hb.out]; simp [h1, h2]), (Below.refl _ _).alloc (Nat.le_refl _) _⟩
    · go_enter Try.func35, Try.ntmps35
      go_wp2_with fail
      refine (within_yes _ _ _ _ h1).mono ?_
      rintro e w' ⟨rfl, rfl⟩
      go_wp2_with fail
      refine (within_no _ _ _ _ h2).mono ?_
      rintro e w' ⟨rfl, rfl⟩
      go_wp2
      go_ret
      exact ⟨ret_bool (by rw [hb.out]; rw [← Bool.decide_and (-99 ≤ v), decide_eq_false h2]; simp), (Below.refl _ _).alloc (Nat.le_refl _) _⟩
  · go_enter Try.func35, Try.ntmps35
    go_wp2_with fail
    refine (within_no _ _ _ _ h1).mono ?_
    rintro e w' ⟨rfl, rfl⟩
    go_wp2
    go_ret
    exact ⟨ret_bool (by rw [hb.out]; rw [← Bool.decide_and (0 ≤ t), decide_eq_false h1]; simp), (Below.refl _ _).alloc (Nat.le_refl _) _⟩

set_option maxRecDepth 100000 in
set_option maxHeartbeats 1600000 in
theorem implBlockOk (A : Option Addr) (n c : Nat) (l : List PB.Row) (B : Nat) (w : World) (hl : l.length = n) (h : Rd w B 2 A n (rows l)) (hn : n ≤ 2000000) (hB : B ≤ w.heap.size) : Calls Try.prog 21 #[.slice A n c] w (Bl w (PB.blockB l)) := by
  have HL := hide hl
  have HR := hide (h.more hB)
  clear hl h hB
  go_enter Try.func21, Try.ntmps21
  go_wp2
  go_loopw [7] (fun i wr => ∃ k : Nat, k ≤ n ∧ i = .int .i64 k ∧ Hid (PB.okTo l k = true) ∧ Below w.heap.size w wr) (fun i _ => n - (intOf i).toNat)
  case atStart => exact ⟨0, Nat.zero_le _, rfl, hide (PB.okTo_zero l), Below.refl _ _⟩
  case round =>
    obtain ⟨k, hk, rfl, hall, hbel⟩ := hrel
    have hsz := hbel.size
    by_cases hlt : k < n
    · obtain ⟨b, off, rfl, hb, hc⟩ := (HR.out.below hbel).row HL.out hlt
      obtain ⟨c1, c2⟩ := hc k hlt
      have hs := hide (PB.okTo_succ l k)
      have hF : Hid (PB.okAt l k = false → PB.blockB l = false) := hide (fun hf => by
        cases hh : PB.blockB l
        · rfl
        · unfold PB.blockB at hh
          rw [Bool.and_eq_true] at hh
          rw [PB.okTo_iff.1 hh.1 k (by rw [HL.out]; exact hlt)] at hf
          cases hf)
      obtain ⟨r, hr⟩ : ∃ r, r = l.getD k (0, 0) := ⟨_, rfl⟩
      have hR := hide hr
      rw [← hr] at c1 c2
      obtain ⟨t, v⟩ := r
      clear hr
      have hbw : b ≠ wr.heap.size := by omega
      have W0 : Hid (∀ j, (wr.alloc (.cells #[.int .i64 t, .int .i64 v] 32)).cell? ⟨wr.heap.size, j, none⟩ = #[Value.int .i64 t, .int .i64 v][j]?) := hide (fun j => World.cell?_alloc_new _ _ _ _)
      have WB := hide (hbel.alloc hsz (.cells #[.int .i64 t, .int .i64 v] 32))
      have WR := hide (fun j hj => (hc j hj).1)
      clear hc
      cases hro : PB.rowB (t, v)
      · have cr := hide (fun W : World => rowOk_any t v W)
        simp only [hro] at cr
        have hF' := hide (hF.out (by unfold PB.okAt; rw [← hR.out, hro]; rfl))
        clear hro hF hs
        go_wp2
        generalize wr.alloc (.cells #[.int .i64 t, .int .i64 v] 32) = W at W0 WB ⊢
        have k0 := W0.out 0
        have k1 := W0.out 1
        simp only [List.getElem?_toArray, List.getElem?_cons_zero, List.getElem?_cons_succ] at k0 k1
        have g0 : wr.heap.size < W.heap.size := World.block_lt_of_cell? _ _ k0
        have e0 := ext_cell (B := W.heap.size) k0 (Nat.le_refl _)
        have e1 := ext_cell (B := W.heap.size) k1 (Nat.le_refl _)
        refine wp_region_ext W.heap.size (by kernel_rfl) (by kernel_rfl) ?_
        repeat (go_big_quiet_step ((go_at_call 35; exact ext_call _ (Nat.le_refl _) (cr.out _))))
        refine wpQuiet_nil ?_
        intro _ hw'
        obtain ⟨x, hw''⟩ := hw'
        subst hw''
        go_wp2
        go_ret
        exact ⟨ret_bool hF'.out.symm, WB.out.trans (x.is.mono WB.out.size)⟩
      · have cr := hide (fun W : World => rowOk_any t v W)
        simp only [hro] at cr
        have hN : Hid (∀ b, PB.okAt l k = b → PB.okTo l (k + 1) = b) := hide (fun b hb => by rw [hs.out, hall.out, hb]; simp)
        clear hs hall
        by_cases hk0 : k = 0
        · subst hk0
          simp only [Nat.zero_mul, Nat.add_zero] at c1 c2
          have hN' := hide (hN.out true (by unfold PB.okAt; rw [← hR.out, hro]; simp))
          clear hN hro hF WR
          go_wp2
          generalize wr.alloc (.cells #[.int .i64 t, .int .i64 v] 32) = W at W0 WB ⊢
          have k0 := W0.out 0
          have k1 := W0.out 1
          simp only [List.getElem?_toArray, List.getElem?_cons_zero, List.getElem?_cons_succ] at k0 k1
          have e0 := ext_cell (B := W.heap.size) k0 (Nat.le_refl _)
          have e1 := ext_cell (B := W.heap.size) k1 (Nat.le_refl _)
          refine wp_region_ext W.heap.size (by kernel_rfl) (by kernel_rfl) ?_
          repeat (go_big_quiet_step ((go_at_call 35; exact ext_call _ (Nat.le_refl _) (cr.out _))))
          refine wpQuiet_nil ?_
          intro _ hw'
          obtain ⟨x, hw''⟩ := hw'
          subst hw''
          clear e0 e1 k0 k1
          go_wp2
          go_roundw
          case rel => exact ⟨1, by omega, by go_num, hN', WB.out.trans (x.is.mono WB.out.size)⟩
          case measure => simp [intOf]; omega
        · obtain ⟨j, rfl⟩ : ∃ j, k = j + 1 := ⟨k - 1, by omega⟩
          have c3 := WR.out j (by omega)
          obtain ⟨p, hp⟩ : ∃ p, p = (l.getD j (0, 0)).1 := ⟨_, rfl⟩
          rw [← hp] at c3
          have hA : Hid (PB.okAt l (j + 1) = decide (p < t)) := hide (by unfold PB.okAt; rw [← hR.out, hro, Nat.add_sub_cancel, ← hp]; simp)
          clear hp WR hro hk0
          have ha1 : IntKind.i64.wrap (j : Int) = (j : Int) := IntWalk.i64_in _ (by omega)
          have hj0 : (0 : Int) < (j : Int) + 1 := by omega
          have hj1 : decide ((0 : Int) < (j : Int) + 1) = true := decide_eq_true (by omega)
          have hj2 : (0 : Int) ≤ (j : Int) ∧ (j : Int) < (n : Int) := by omega
          by_cases hpt : p < t
          · have hN' := hide (hN.out true (by rw [hA.out]; simpa using hpt))
            have hpt' : decide (t ≤ p) = false := decide_eq_false (by omega)
            clear hN hA hF
            go_wp2
            have k2 : (wr.alloc (.cells #[.int .i64 t, .int .i64 v] 32)).cell? ⟨b, off + j * 2, none⟩ = some (.int .i64 p) := by rw [World.cell?_alloc_lt _ _ _ (by simp; omega)]; exact c3
            generalize wr.alloc (.cells #[.int .i64 t, .int .i64 v] 32) = W at W0 WB k2 ⊢
            have k0 := W0.out 0
            have k1 := W0.out 1
            simp only [List.getElem?_toArray, List.getElem?_cons_zero, List.getElem?_cons_succ] at k0 k1
            have e0 := ext_cell (B := W.heap.size) k0 (Nat.le_refl _)
            have e1 := ext_cell (B := W.heap.size) k1 (Nat.le_refl _)
            have e2 := ext_cell (B := W.heap.size) k2 (Nat.le_refl _)
            refine wp_region_ext W.heap.size (by kernel_rfl) (by kernel_rfl) ?_
            repeat (go_big_quiet_step ((go_at_call 35; exact ext_call _ (Nat.le_refl _) (cr.out _))))
            refine wpQuiet_nil ?_
            intro _ hw'
            obtain ⟨x, hw''⟩ := hw'
            subst hw''
            clear e0 e1 e2 k0 k1 k2 ha1
            go_wp2
            go_roundw
            case rel => exact ⟨j + 1 + 1, by omega, by go_num, hN', WB.out.trans (x.is.mono WB.out.size)⟩
            case measure => simp [intOf]; omega
          · have hF' := hide (hF.out (by rw [hA.out]; simpa using hpt))
            have hpt' : decide (t ≤ p) = true := decide_eq_true (by omega)
            clear hN hA hF
            go_wp2
            have k2 : (wr.alloc (.cells #[.int .i64 t, .int .i64 v] 32)).cell? ⟨b, off + j * 2, none⟩ = some (.int .i64 p) := by rw [World.cell?_alloc_lt _ _ _ (by simp; omega)]; exact c3
            generalize wr.alloc (.cells #[.int .i64 t, .int .i64 v] 32) = W at W0 WB k2 ⊢
            have k0 := W0.out 0
            have k1 := W0.out 1
            simp only [List.getElem?_toArray, List.getElem?_cons_zero, List.getElem?_cons_succ] at k0 k1
            have e0 := ext_cell (B := W.heap.size) k0 (Nat.le_refl _)
            have e1 := ext_cell (B := W.heap.size) k1 (Nat.le_refl _)
            have e2 := ext_cell (B := W.heap.size) k2 (Nat.le_refl _)
            refine wp_region_ext W.heap.size (by kernel_rfl) (by kernel_rfl) ?_
            repeat (go_big_quiet_step ((go_at_call 35; exact ext_call _ (Nat.le_refl _) (cr.out _))))
            refine wpQuiet_nil ?_
            intro _ hw'
            obtain ⟨x, hw''⟩ := hw'
            subst hw''
            clear e0 e1 e2 k0 k1 k2 ha1
            go_wp2
            go_ret
            exact ⟨ret_bool hF'.out.symm, WB.out.trans (x.is.mono WB.out.size)⟩
    · have hkn : k = n := by omega
      have hF : Hid (PB.blockB l = decide (n ≤ 24)) := hide (by unfold PB.blockB; rw [HL.out, ← hkn, hall.out]; rfl)
      clear hkn
      go_wp2
      all_goals (go_ret; exact ⟨ret_bool (by rw [hF.out]; exact decide_eq_decide.2 (by omega)), hbel⟩)

set_option maxRecDepth 100000 in
theorem l2Row_any (t v : Int) (w : World) : Calls Try.prog 36 #[.agg #[.int .i64 t, .int .i64 v]] w (Bl w (PB.rowB (t, v))) := by
  have hb : Hid (PB.rowB (t, v) = (decide (0 ≤ t) && decide (t ≤ 99) && (decide (-99 ≤ v) && decide (v ≤ 99)))) := hide rfl
  by_cases h1 : 0 ≤ t ∧ t ≤ 99
  · by_cases h2 : -99 ≤ v ∧ v ≤ 99
    · go_enter Try.func36, Try.ntmps36
      go_wp2_with fail
      refine (l6In_yes _ _ _ _ h1).mono ?_
      rintro e w' ⟨rfl, rfl⟩
      go_wp2_with fail
      refine (l6In_yes _ _ _ _ h2).mono ?_
      rintro e w' ⟨rfl, rfl⟩
      go_wp2
      go_ret
      exact ⟨ret_bool (by rw [hb.out]; simp [h1, h2]), (Below.refl _ _).alloc (Nat.le_refl _) _⟩
    · go_enter Try.func36, Try.ntmps36
      go_wp2_with fail
      refine (l6In_yes _ _ _ _ h1).mono ?_
      rintro e w' ⟨rfl, rfl⟩
      go_wp2_with fail
      refine (l6In_no _ _ _ _ h2).mono ?_
      rintro e w' ⟨rfl, rfl⟩
      go_wp2
      go_ret
      exact ⟨ret_bool (by rw [hb.out]; rw [← Bool.decide_and (-99 ≤ v), decide_eq_false h2]; simp), (Below.refl _ _).alloc (Nat.le_refl _) _⟩
  · go_enter Try.func36, Try.ntmps36
    go_wp2_with fail
    refine (l6In_no _ _ _ _ h1).mono ?_
    rintro e w' ⟨rfl, rfl⟩
    go_wp2
    go_ret
    exact ⟨ret_bool (by rw [hb.out]; rw [← Bool.decide_and (0 ≤ t), decide_eq_false h1]; simp), (Below.refl _ _).alloc (Nat.le_refl _) _⟩


set_option maxRecDepth 100000 in
set_option maxHeartbeats 1600000 in
theorem specBlockOk (A : Option Addr) (n c : Nat) (l : List PB.Row) (B : Nat) (w : World) (hl : l.length = n) (h : Rd w B 2 A n (rows l)) (hn : n ≤ 2000000) (hB : B ≤ w.heap.size) : Calls Try.prog 22 #[.slice A n c] w (Bl w (PB.blockB l)) := by
  have HL := hide hl
  have HR := hide (h.more hB)
  clear hl h hB
  go_enter Try.func22, Try.ntmps22
  go_wp2
  go_loopw [3] (fun i wr => ∃ k : Nat, k ≤ n ∧ i = .int .i64 k ∧ Hid (PB.okTo l k = true) ∧ Below w.heap.size w wr) (fun i _ => n - (intOf i).toNat)
  case atStart => exact ⟨0, Nat.zero_le _, rfl, hide (PB.okTo_zero l), Below.refl _ _⟩
  case round =>
    obtain ⟨k, hk, rfl, hall, hbel⟩ := hrel
    have hsz := hbel.size
    by_cases hlt : k < n
    · obtain ⟨b, off, rfl, hb, hc⟩ := (HR.out.below hbel).row HL.out hlt
      obtain ⟨c1, c2⟩ := hc k hlt
      have hs := hide (PB.okTo_succ l k)
      have hF : Hid (PB.okAt l k = false → PB.blockB l = false) := hide (fun hf => by
        cases hh : PB.blockB l
        · rfl
        · unfold PB.blockB at hh
          rw [Bool.and_eq_true] at hh
          rw [PB.okTo_iff.1 hh.1 k (by rw [HL.out]; exact hlt)] at hf
          cases hf)
      obtain ⟨r, hr⟩ : ∃ r, r = l.getD k (0, 0) := ⟨_, rfl⟩
      have hR := hide hr
      rw [← hr] at c1 c2
      obtain ⟨t, v⟩ := r
      clear hr
      have WB := hide hbel
      have WR := hide (fun j hj => (hc j hj).1)
      have hin : (0 : Int) ≤ (k : Int) ∧ (k : Int) < (n : Int) := by omega
      clear hc hbel
      cases hro : PB.rowB (t, v)
      · have cr := hide (fun W : World => l2Row_any t v W)
        simp only [hro] at cr
        have hF' := hide (hF.out (by unfold PB.okAt; rw [← hR.out, hro]; rfl))
        clear hro hF hs
        have e0 := ext_cell (B := wr.heap.size) c1 (Nat.le_refl _)
        have e1 := ext_cell (B := wr.heap.size) c2 (Nat.le_refl _)
        go_wp2
        refine wp_region_ext wr.heap.size (by kernel_rfl) (by kernel_rfl) ?_
        repeat (go_big_quiet_step ((go_at_call 36; exact ext_call _ (Nat.le_refl _) (cr.out _))))
        refine wpQuiet_nil ?_
        intro _ hw'
        obtain ⟨x, hw''⟩ := hw'
        subst hw''
        go_wp2
        go_ret
        exact ⟨ret_bool hF'.out.symm, WB.out.trans (x.is.mono WB.out.size)⟩
      · have cr := hide (fun W : World => l2Row_any t v W)
        simp only [hro] at cr
        have hN : Hid (∀ b, PB.okAt l k = b → PB.okTo l (k + 1) = b) := hide (fun b hb => by rw [hs.out, hall.out, hb]; simp)
        clear hs hall
        by_cases hk0 : k = 0
        · subst hk0
          simp only [Nat.zero_mul, Nat.add_zero] at c1 c2
          have hN' := hide (hN.out true (by unfold PB.okAt; rw [← hR.out, hro]; simp))
          clear hN hro hF WR
          have e0 := ext_cell (B := wr.heap.size) c1 (Nat.le_refl _)
          have e1 := ext_cell (B := wr.heap.size) c2 (Nat.le_refl _)
          go_wp2
          refine wp_region_ext wr.heap.size (by kernel_rfl) (by kernel_rfl) ?_
          repeat (go_big_quiet_step ((go_at_call 36; exact ext_call _ (Nat.le_refl _) (cr.out _))))
          refine wpQuiet_nil ?_
          intro _ hw'
          obtain ⟨x, hw''⟩ := hw'
          subst hw''
          clear e0 e1
          go_wp2
          go_roundw
          case rel => exact ⟨1, by omega, by go_num, hN', WB.out.trans (x.is.mono WB.out.size)⟩
          case measure => simp [intOf]; omega
        · obtain ⟨j, rfl⟩ : ∃ j, k = j + 1 := ⟨k - 1, by omega⟩
          have c3 := WR.out j (by omega)
          obtain ⟨p, hp⟩ : ∃ p, p = (l.getD j (0, 0)).1 := ⟨_, rfl⟩
          rw [← hp] at c3
          have hA : Hid (PB.okAt l (j + 1) = decide (p < t)) := hide (by unfold PB.okAt; rw [← hR.out, hro, Nat.add_sub_cancel, ← hp]; simp)
          clear hp WR hro hk0
          have ha1 : IntKind.i64.wrap (j : Int) = (j : Int) := IntWalk.i64_in _ (by omega)
          have hj0 : (0 : Int) < (j : Int) + 1 := by omega
          have hj1 : decide ((0 : Int) < (j : Int) + 1) = true := decide_eq_true (by omega)
          have hj2 : (0 : Int) ≤ (j : Int) ∧ (j : Int) < (n : Int) := by omega
          have hj3 : (0 : Int) ≤ (j : Int) + 1 ∧ (j : Int) + 1 < (n : Int) := by omega
          have hj4 : ((j : Int) + 1).toNat = j + 1 := by omega
          have e0 := ext_cell (B := wr.heap.size) c1 (Nat.le_refl _)
          have e1 := ext_cell (B := wr.heap.size) c2 (Nat.le_refl _)
          have e2 := ext_cell (B := wr.heap.size) c3 (Nat.le_refl _)
          by_cases hpt : p < t
          · have hN' := hide (hN.out true (by rw [hA.out]; simpa using hpt))
            have hpt' : decide (t ≤ p) = false := decide_eq_false (by omega)
            clear hN hA hF
            go_wp2
            refine wp_region_ext wr.heap.size (by kernel_rfl) (by kernel_rfl) ?_
            repeat (go_big_quiet_step ((go_at_call 36; exact ext_call _ (Nat.le_refl _) (cr.out _))))
            refine wpQuiet_nil ?_
            intro _ hw'
            obtain ⟨x, hw''⟩ := hw'
            subst hw''
            clear e0 e1 e2 ha1 hj4
            go_wp2
            go_roundw
            case rel => exact ⟨j + 1 + 1, by omega, by go_num, hN', WB.out.trans (x.is.mono WB.out.size)⟩
            case measure => simp [intOf]; omega
          · have hF' := hide (hF.out (by rw [hA.out]; simpa using hpt))
            have hpt' : decide (t ≤ p) = true := decide_eq_true (by omega)
            clear hN hA hF
            go_wp2
            refine wp_region_ext wr.heap.size (by kernel_rfl) (by kernel_rfl) ?_
            repeat (go_big_quiet_step ((go_at_call 36; exact ext_call _ (Nat.le_refl _) (cr.out _))))
            refine wpQuiet_nil ?_
            intro _ hw'
            obtain ⟨x, hw''⟩ := hw'
            subst hw''
            clear e0 e1 e2 ha1 hj4
            go_wp2
            go_ret
            exact ⟨ret_bool hF'.out.symm, WB.out.trans (x.is.mono WB.out.size)⟩
    · have hkn : k = n := by omega
      have hF : Hid (PB.blockB l = decide (n ≤ 24)) := hide (by unfold PB.blockB; rw [HL.out, ← hkn, hall.out]; rfl)
      clear hkn
      go_wp2
      all_goals (go_ret; exact ⟨ret_bool (by rw [hF.out]; exact decide_eq_decide.2 (by omega)), hbel⟩)

end Go.Proofs.Ytlalldjlgaldeaa
