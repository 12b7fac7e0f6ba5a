/-
  WALKS: drawn names.
-/
import Derived.Test.YtgedlpdjnnbolaaDoorDrawTags
import Derived.Maps.AppendAt
namespace Go.Proofs.YtgedlpdjnnbolaaDoor
set_option linter.unusedVariables false
open Go.RowKit

def Small (l : List PT.Tag) : Prop := ∀ t ∈ l, t.1.length ≤ 3 ∧ t.2.length ≤ 3
theorem Small.snoc {l : List PT.Tag} {x : PT.Tag} (h : Small l) (hx : x.1.length ≤ 3 ∧ x.2.length ≤ 3) : Small (l ++ [x]) := by
  intro t ht
  rcases List.mem_append.1 ht with h1 | h1
  · exact h t h1
  · simp at h1; subst h1; exact hx
theorem two_new (w : World) (x y : Value) (t : TypeId) : ∀ j u, [x, y][j]? = some u → (w.alloc (.cells #[x, y] t)).cell? ((⟨w.heap.size, 0, none⟩ : Addr).add j) = some u := by
  intro j u hj
  match j, hj with
  | 0, hj => simp at hj; subst hj; simp [Addr.add]
  | 1, hj => simp at hj; subst hj; simp [Addr.add]
  | (j + 2), hj => simp at hj
theorem two_str (a b : ByteArray) : ∀ u ∈ [Value.string a, .string b], u.oneCell' = true := by
  intro u hu
  simp at hu
  rcases hu with rfl | rfl <;> rfl
/-- One tag more in a row of the call's own; the reader has not turned. -/
theorem tag_step {w wr w1 : World} {B R k n : Nat} {l : List PT.Tag} {A : Option Addr} {c : Nat} {v' : Value} {x : PT.Tag} {o : Obj}
    (ho : wr.ownsRow w.heap.size 42 2 (.slice A l.length c) l.length (tgs l)) (hr : Rdr wr B R k) (hR : R < w.heap.size) (hK : Kept R w wr)
    (hown : w1.ownsRow w.heap.size 42 2 v' n (tgs l ++ [.string (S x.1), .string (S x.2)])) (hn : n = l.length + 1) (hg : (wr.alloc o).grownBy w1 (Value.ownBlock (.slice A l.length c))) :
    (∃ A' c', v' = .slice A' (l ++ [x]).length c' ∧ w1.ownsRow w.heap.size 42 2 (.slice A' (l ++ [x]).length c') (l ++ [x]).length (tgs (l ++ [x]))) ∧ Rdr w1 B R k ∧ Kept R w w1 := by
  have hrow : ∀ g, Value.ownBlock (.slice A l.length c) = some g → w.heap.size ≤ g := fun g hgg => (ho.lt g hgg).1
  refine ⟨?_, hr.below (((Below.refl _ _).alloc hr.lt _).grown hg (by have := hr.lt; simp; omega) (fun g hgg => by have := hrow g hgg; omega)), (hK.alloc _).own hg hrow⟩
  have e : tgs l ++ [.string (S x.1), .string (S x.2)] = tgs (l ++ [x]) := by rw [tgs_append]; rfl
  have e2 : n = (l ++ [x]).length := by simp [hn]
  subst e2
  rw [e] at hown
  obtain ⟨A', c', rfl, _⟩ := own_shape hown
  exact ⟨A', c', rfl, hown⟩

def DrawnTags (w : World) (B R k : Nat) (e : Ending) (w' : World) : Prop :=
  ∃ (A : Option Addr) (c : Nat) (l : List PT.Tag), e = .returned (.slice A l.length c) ∧ w'.ownsRow w.heap.size 42 2 (.slice A l.length c) l.length (tgs l) ∧ l.length ≤ 5 ∧ 1 ≤ l.length ∧ Small l ∧ Rdr w' B R (k + 50) ∧ Kept R w w'

set_option maxRecDepth 100000 in
set_option maxHeartbeats 6400000 in
theorem l71Name_any (B R k0 : Nat) (w : World) (h : Rdr w B R k0) (hk : k0 ≤ 500) : Calls Tryd.prog 17 #[.pointer (some ⟨R, 0, none⟩)] w (DrawnTags w B R k0) := by
  obtain ⟨i0, hi, hz0, hz1, hz2⟩ := info_parts info_tag
  have hR := h.lt
  have hO : Hid (∀ o, ((w.alloc (.cells #[] 42)).alloc o).ownsRow w.heap.size 42 2 (.slice (some ⟨w.heap.size, 0, none⟩) 0 0) 0 (tgs [])) := hide (fun o => (World.ownsRow_lit w #[] 0 (Nat.le_refl _) (Nat.zero_le _) rfl : (w.alloc (.cells #[] 42)).ownsRow w.heap.size 42 2 (.slice (some ⟨w.heap.size, 0, none⟩) 0 0) 0 []).alloc o)
  have h' : Hid (∀ o, Rdr ((w.alloc (.cells #[] 42)).alloc o) B R k0) := hide (fun o => h.below (((Below.refl _ _).alloc hR _).alloc (by simp; omega) _))
  have K0 : Hid (∀ o, Kept R w ((w.alloc (.cells #[] 42)).alloc o)) := hide (fun o => ((Kept.refl R w).alloc _).alloc _)
  have KY : Hid (∀ a b c : ByteArray, ∀ j, j < 3 → ∃ s : ByteArray, ((w.alloc (.cells #[] 42)).alloc (.cells #[.string a, .string b, .string c] 9)).cell? ⟨w.heap.size + 1, j, none⟩ = some (.string s) ∧ (a.size ≤ 3 → b.size ≤ 3 → c.size ≤ 3 → s.size ≤ 3)) := hide (fun a b c j hj => by
    have e : (w.alloc (.cells #[] 42)).heap.size = w.heap.size + 1 := by simp
    rw [← e, World.cell?_alloc_new]
    match j, hj with
    | 0, _ => exact ⟨a, rfl, fun h _ _ => h⟩
    | 1, _ => exact ⟨b, rfl, fun _ h _ => h⟩
    | 2, _ => exact ⟨c, rfl, fun _ _ h => h⟩)
  clear h
  go_enter Tryd.func17, Tryd.ntmps17
  go_wp2
  go_loopw [3, 9] (fun s i wr => ∃ (k : Nat) (l : List PT.Tag) (A' : Option Addr) (c' : Nat), k ≤ 3 ∧ l.length ≤ k ∧ i = .int .i64 k ∧ s = .slice A' l.length c' ∧ Hid (Small l) ∧ Hid (wr.ownsRow w.heap.size 42 2 (.slice A' l.length c') l.length (tgs l)) ∧ Hid (Rdr wr B R (k0 + 2 * k)) ∧ Hid (Kept R w wr) ∧ Hid (∀ g, (Value.slice A' l.length c').ownBlock = some g → g ≠ w.heap.size + 1) ∧ Hid (∀ j, j < 3 → ∃ s : List UInt8, wr.cell? ⟨w.heap.size + 1, j, none⟩ = some (.string (S s)) ∧ s.length ≤ 3)) (fun _ i _ => 3 - (intOf i).toNat)
  case atStart =>
    refine ⟨0, [], _, _, by omega, by simp, rfl, rfl, hide (fun t ht => by cases ht), hide (hO.out _), hide (h'.out _), hide (K0.out _), hide (fun g hg => by simp [Value.ownBlock] at hg; omega), hide (fun j hj => ?_)⟩
    obtain ⟨s, h1, h2⟩ := KY.out _ _ _ j hj
    obtain ⟨s, rfl⟩ : ∃ l, s = S l := ⟨_, S_of s⟩
    refine ⟨s, h1, ?_⟩
    have := h2 (by decide) (by decide) (by decide)
    rwa [S_size] at this
  case round =>
    clear hO h' K0 KY
    obtain ⟨k, l, A', c', hk3, hlk, rfl, rfl, hsm, ho, hr, hK, hne, hky⟩ := hrel
    by_cases hlt : k < 3
    · obtain ⟨s, c1, hsl⟩ := hky.out k hlt
      have P1 := hide (pick_any B R (k0 + 2 * k) 2 wr hr.out (by omega) (by omega))
      go_wp2_with fail
      refine P1.out.mono ?_
      rintro e w2 ⟨v, rfl, l2, u2, hr2, g2, hs2⟩
      have u2 := u2 (by omega)
      have O2 := hide (own_pick ho.out g2 hR)
      have K2 := hide (hK.out.trans g2)
      have KY2 := hide (fun j (hj : j < 3) => by
        obtain ⟨s, q1, q2⟩ := hky.out j hj
        exact (⟨s, cell_kept g2 q1 (by omega), q2⟩ : ∃ s : List UInt8, w2.cell? ⟨w.heap.size + 1, j, none⟩ = some (.string (S s)) ∧ s.length ≤ 3))
      have R2 := hide hr2
      clear g2 hs2 hr2 P1 ho hr hK hky c1
      by_cases hv : v = 0
      · subst hv
        have C3 := hide (of_three B R (k0 + 2 * k + 1) w2 R2.out (by omega) w2.heap.size rfl)
        go_wp2_with fail
        refine (C3.out _ _ _ (by decide) (by decide) (by decide)).mono ?_
        rintro e w3 ⟨t, rfl, ht, hr3, g3, hs3, hb3⟩
        have O3 := own_pick O2.out g3 hR
        have K3 := hide (K2.out.trans g3)
        have KY3 := hide (fun j (hj : j < 3) => by
          obtain ⟨s, q1, q2⟩ := KY2.out j hj
          exact (⟨s, cell_kept g3 q1 (by omega), q2⟩ : ∃ s : List UInt8, w3.cell? ⟨w.heap.size + 1, j, none⟩ = some (.string (S s)) ∧ s.length ≤ 3))
        have R3 := hide hr3
        have hs33 : Hid (w.heap.size + 1 < w3.heap.size) := hide (by
          obtain ⟨s, q1, q2⟩ := KY3.out 0 (by omega)
          exact World.block_lt_of_cell? _ _ q1)
        have hsz := K3.out.size
        clear C3 g3 hs3 hb3 hr3 O2 K2 KY2 R2
        go_wp2_with (first
          | (at_builtin; refine wpList_append_own_at _ rfl (.tmp 16) (.tmp 22) 23 rfl w.heap.size 42 i0 (.agg #[.string ⟨#[]⟩, .string ⟨#[]⟩]) 2 32 Tryd.underlying23 hi hz0 hz1 hz2 rfl (by decide) _ _ _ rfl (O3.alloc _) ⟨w3.heap.size, 0, none⟩ 1 1 [.string (S s), .string (S t)] rfl rfl (two_new _ _ _ _) (two_str _ _) (by unfold maxLen; omega) (by omega) (by simp; omega) ?_; intro v4 w4 hown4 hgrow4 _ hat4))
        obtain ⟨⟨A4, c4, rfl, o4⟩, r4, k4⟩ := tag_step (x := (s, t)) O3 R3.out hR K3.out hown4 rfl hgrow4
        have NE4 : Hid (∀ g, (Value.slice A4 (l ++ [(s, t)]).length c4).ownBlock = some g → g ≠ w.heap.size + 1) := hide (fun g hg => by
          rcases hat4 with h4 | h4
          · exact hne.out g (Eq.trans (Eq.symm h4) hg)
          · have h5 : g = _ := Option.some.inj (hg.symm.trans h4)
            rw [World.size_alloc] at h5
            have := hs33.out
            omega)
        have KY4 := hide (fun j (hj : j < 3) => by
          obtain ⟨s', q1, q2⟩ := KY3.out j hj
          exact (⟨s', hgrow4.cell (by rw [World.cell?_alloc_lt _ _ _ (by have := hs33.out; simpa using this)]; exact q1) (fun e => hne.out _ e.symm rfl), q2⟩ : ∃ s : List UInt8, w4.cell? ⟨w.heap.size + 1, j, none⟩ = some (.string (S s)) ∧ s.length ≤ 3))
        have O4 := hide o4
        have R4 := hide (r4.more (k' := k0 + 2 * (k + 1)) (by omega))
        have K4 := hide k4
        have S4 := hide (hsm.out.snoc (x := (s, t)) ⟨hsl, ht⟩)
        clear hown4 hgrow4 hat4 o4 r4 k4 O3 R3 K3 KY3 hne hsm
        go_wp2
        go_roundw
        case rel => exact ⟨k + 1, l ++ [(s, t)], A4, c4, by omega, by simp; omega, by go_num, by simp, S4, O4, R4, K4, NE4, KY4⟩
        case measure => simp [intOf]; omega
      · have hv2 : (v == 0) = false := beq_eq_false_iff_ne.2 hv
        clear hv
        go_wp2
        go_roundw
        case rel => exact ⟨k + 1, l, A', c', by omega, by omega, by go_num, rfl, hsm, O2, hide (R2.out.more (by omega)), K2, hne, KY2⟩
        case measure => simp [intOf]; omega
    · have hl3 : l.length ≤ 3 := by omega
      have R1 := hide (hr.out.more (k' := k0 + 6) (by omega))
      clear hky hne hr hlk
      by_cases h0 : l.length = 0
      · obtain rfl : l = [] := List.eq_nil_of_length_eq_zero h0
        simp only [List.length_nil] at ho
        have C5 := hide (l71Tag_any B R (k0 + 6) wr R1.out (by omega))
        go_wp2_with fail
        refine C5.out.mono ?_
        rintro e w5 ⟨t5, v5, rfl, ht5, hv5, hr5, hk5⟩
        have O5 := own_pick ho.out hk5 hR
        have K5 := hK.out.trans hk5
        have hsz5 := K5.size
        clear C5 hk5
        go_wp2_with (first
          | (at_builtin; refine wpList_append_own_at _ rfl (.tmp 28) (.tmp 31) 23 rfl w.heap.size 42 i0 (.agg #[.string ⟨#[]⟩, .string ⟨#[]⟩]) 2 32 Tryd.underlying23 hi hz0 hz1 hz2 rfl (by decide) _ _ _ rfl (O5.alloc _) ⟨w5.heap.size, 0, none⟩ 1 1 [.string (S t5), .string (S v5)] rfl rfl (two_new _ _ _ _) (two_str _ _) (by unfold maxLen; omega) (by omega) (by simp; omega) ?_; intro v4 w6 hown4 hgrow4 _ hat4))
        obtain ⟨⟨A5, c5, rfl, o4⟩, r4, k4⟩ := tag_step (x := (t5, v5)) O5 hr5 hR K5 hown4 rfl hgrow4
        have OA5 := hide o4
        have KA5 := hide k4
        have RA5 := hide r4
        have SA5 := hide (hsm.out.snoc (x := (t5, v5)) ⟨ht5, hv5⟩)
        clear hown4 hgrow4 hat4 o4 r4 k4 O5 K5 hr5
        have hL : ([] ++ [(t5, v5)] : List PT.Tag).length ≤ 4 := by simp
        have hP : 1 ≤ ([] ++ [(t5, v5)] : List PT.Tag).length := by simp
        clear ho hK hsm R1
        have PF := hide (pick_any B R (k0 + 6 + 2) 40 w6 RA5.out (by omega) (by omega))
        go_wp2_with fail
        refine PF.out.mono ?_
        rintro e w7 ⟨v7, rfl, l7, u7, hr7, g7, hs7⟩
        have u7 := u7 (by omega)
        have O7 := hide (own_pick OA5.out g7 hR)
        have K7 := hide (KA5.out.trans g7)
        have R7 := hide hr7
        clear g7 hs7 hr7 PF
        rcases (show v7 = 0 ∨ v7 = 1 ∨ 2 ≤ v7 from by omega) with h7 | h7 | h7
        · subst h7
          have C8 := hide (l71Tag_any B R (k0 + 6 + 2 + 1) w7 R7.out (by omega))
          go_wp2_with fail
          refine C8.out.mono ?_
          rintro e w8 ⟨t8, v8, rfl, ht8, hv8, hr8, hk8⟩
          have O8 := own_pick O7.out hk8 hR
          have K8 := K7.out.trans hk8
          have hsz8 := K8.size
          clear C8 hk8
          go_wp2_with (first
            | (at_builtin; refine wpList_append_own_at _ rfl (.tmp 37) (.tmp 40) 23 rfl w.heap.size 42 i0 (.agg #[.string ⟨#[]⟩, .string ⟨#[]⟩]) 2 32 Tryd.underlying23 hi hz0 hz1 hz2 rfl (by decide) _ _ _ rfl (O8.alloc _) ⟨w8.heap.size, 0, none⟩ 1 1 [.string (S t8), .string (S v8)] rfl rfl (two_new _ _ _ _) (two_str _ _) (by unfold maxLen; omega) (by omega) (by simp; omega) ?_; intro v4 w9 hown4 hgrow4 _ hat4))
          obtain ⟨⟨A8, c8, rfl, o4⟩, r4, k4⟩ := tag_step (x := (t8, v8)) O8 hr8 hR K8 hown4 rfl hgrow4
          have OA8 := hide o4
          have KA8 := hide k4
          have RA8 := hide r4
          have SA8 := hide (SA5.out.snoc (x := (t8, v8)) ⟨ht8, hv8⟩)
          clear hown4 hgrow4 hat4 o4 r4 k4 O8 K8 hr8
          have F : Hid (DrawnTags w B R k0 (.returned (.slice A8 (([] ++ [(t5, v5)]) ++ [(t8, v8)]).length c8)) w9) := hide ⟨A8, c8, _, rfl, OA8.out, by simp at hL ⊢ <;> omega, by simp, SA8.out, RA8.out.more (by omega), KA8.out⟩
          clear OA8 KA8 RA8 SA8
          go_wp2
          go_ret
          simpa using F.out
        · subst h7
          have C8 := hide (of_three B R (k0 + 6 + 2 + 1) w7 R7.out (by omega) w7.heap.size rfl)
          go_wp2_with fail
          refine (C8.out _ _ _ (by decide) (by decide) (by decide)).mono ?_
          rintro e w8 ⟨t8, rfl, ht8, hr8, g8, hs8, hb8⟩
          have O8 := hide (own_pick O7.out g8 hR)
          have K8 := hide (K7.out.trans g8)
          have R8 := hide hr8
          clear C8 g8 hs8 hb8 hr8 O7 K7 R7
          obtain ⟨t0, lt, hlq⟩ : ∃ t0 lt, ([] ++ [(t5, v5)]) = t0 :: lt := by
            match hq : ([] ++ [(t5, v5)]), hP with
            | [], hP => simp at hP
            | t0 :: lt, _ => exact ⟨t0, lt, rfl⟩
          have hg8 : ∃ g, A5 = some ⟨g, 0, none⟩ ∧ w.heap.size ≤ g := by
            rcases O8.out.2 with ⟨_, h0⟩ | ⟨g, cap, cur, e1, hg, _⟩
            · omega
            · injection e1 with e1
              exact ⟨g, e1, hg⟩
          obtain ⟨g, rfl, hgw⟩ := hg8
          have hcl : w8.cell? ⟨g, 1, none⟩ = some (.string (S t0.2)) := by
            rw [O8.out.cellAt 1 (by omega), hlq]
            rfl
          have hfr := O8.out.frozenAt 1
          have ST := (O8.out.stored 1 (.string (S t8))).1
          have e8 : (tgs (([] ++ [(t5, v5)]))).set 1 (.string (S t8)) = tgs ((t0.1, t8) :: lt) := by rw [hlq]; rfl
          rw [e8] at ST
          have el : (([] ++ [(t5, v5)])).length = ((t0.1, t8) :: lt).length := by rw [hlq]; rfl
          have sm : Small ((t0.1, t8) :: lt) := by
            have h1 := SA5.out
            rw [hlq] at h1
            intro x hx
            rcases List.mem_cons.1 hx with h2 | h2
            · rw [h2]; exact ⟨(h1 t0 (by simp)).1, ht8⟩
            · exact h1 x (by simp [h2])
          have rr := R8.out.below (w' := w8.setCell ⟨g, 1, none⟩ (.string (S t8))) ((Below.refl _ _).setCell (p := ⟨g, 1, none⟩) (by show R + 1 ≤ g; omega) _)
          have kk := K8.out.set_ (p := ⟨g, 1, none⟩) hgw (.string (S t8))
          have F : Hid (DrawnTags w B R k0 (.returned (.slice (some ⟨g, 0, none⟩) (([] ++ [(t5, v5)])).length c5)) (w8.setCell ⟨g, 1, none⟩ (.string (S t8)))) := hide ⟨some ⟨g, 0, none⟩, c5, (t0.1, t8) :: lt, by rw [el], by rw [← el]; exact ST, by rw [← el]; omega, by simp, sm, rr.more (by omega), kk⟩
          clear ST e8 el sm rr kk hlq O8 K8 R8
          have hP2 : (0 : Int) < ((([] ++ [(t5, v5)])).length : Int) := by omega
          go_wp2
          go_ret
          exact F.out
        · have z0 : (v7 == 0) = false := beq_eq_false_iff_ne.2 (by omega)
          have z1 : (v7 == 1) = false := beq_eq_false_iff_ne.2 (by omega)
          have F : Hid (DrawnTags w B R k0 (.returned (.slice A5 (([] ++ [(t5, v5)])).length c5)) w7) := hide ⟨A5, c5, _, rfl, O7.out, by omega, hP, SA5.out, R7.out.more (by omega), K7.out⟩
          clear O7 K7 R7
          go_wp2
          go_ret
          exact F.out
      · have hL : l.length ≤ 4 := by omega
        have hP : 1 ≤ l.length := by omega
        have h00 : ((l.length : Int) == 0) = false := beq_eq_false_iff_ne.2 (by omega)
        clear h0
        have PF := hide (pick_any B R (k0 + 6) 40 wr R1.out (by omega) (by omega))
        go_wp2_with fail
        refine PF.out.mono ?_
        rintro e w7 ⟨v7, rfl, l7, u7, hr7, g7, hs7⟩
        have u7 := u7 (by omega)
        have O7 := hide (own_pick ho.out g7 hR)
        have K7 := hide (hK.out.trans g7)
        have R7 := hide hr7
        clear g7 hs7 hr7 PF
        rcases (show v7 = 0 ∨ v7 = 1 ∨ 2 ≤ v7 from by omega) with h7 | h7 | h7
        · subst h7
          have C8 := hide (l71Tag_any B R (k0 + 6 + 1) w7 R7.out (by omega))
          go_wp2_with fail
          refine C8.out.mono ?_
          rintro e w8 ⟨t8, v8, rfl, ht8, hv8, hr8, hk8⟩
          have O8 := own_pick O7.out hk8 hR
          have K8 := K7.out.trans hk8
          have hsz8 := K8.size
          clear C8 hk8
          go_wp2_with (first
            | (at_builtin; refine wpList_append_own_at _ rfl (.tmp 37) (.tmp 40) 23 rfl w.heap.size 42 i0 (.agg #[.string ⟨#[]⟩, .string ⟨#[]⟩]) 2 32 Tryd.underlying23 hi hz0 hz1 hz2 rfl (by decide) _ _ _ rfl (O8.alloc _) ⟨w8.heap.size, 0, none⟩ 1 1 [.string (S t8), .string (S v8)] rfl rfl (two_new _ _ _ _) (two_str _ _) (by unfold maxLen; omega) (by omega) (by simp; omega) ?_; intro v4 w9 hown4 hgrow4 _ hat4))
          obtain ⟨⟨A8, c8, rfl, o4⟩, r4, k4⟩ := tag_step (x := (t8, v8)) O8 hr8 hR K8 hown4 rfl hgrow4
          have OA8 := hide o4
          have KA8 := hide k4
          have RA8 := hide r4
          have SA8 := hide (hsm.out.snoc (x := (t8, v8)) ⟨ht8, hv8⟩)
          clear hown4 hgrow4 hat4 o4 r4 k4 O8 K8 hr8
          have F : Hid (DrawnTags w B R k0 (.returned (.slice A8 (l ++ [(t8, v8)]).length c8)) w9) := hide ⟨A8, c8, _, rfl, OA8.out, by simp at hL ⊢ <;> omega, by simp, SA8.out, RA8.out.more (by omega), KA8.out⟩
          clear OA8 KA8 RA8 SA8
          go_wp2
          go_ret
          simpa using F.out
        · subst h7
          have C8 := hide (of_three B R (k0 + 6 + 1) w7 R7.out (by omega) w7.heap.size rfl)
          go_wp2_with fail
          refine (C8.out _ _ _ (by decide) (by decide) (by decide)).mono ?_
          rintro e w8 ⟨t8, rfl, ht8, hr8, g8, hs8, hb8⟩
          have O8 := hide (own_pick O7.out g8 hR)
          have K8 := hide (K7.out.trans g8)
          have R8 := hide hr8
          clear C8 g8 hs8 hb8 hr8 O7 K7 R7
          obtain ⟨t0, lt, hlq⟩ : ∃ t0 lt, l = t0 :: lt := by
            match hq : l, hP with
            | [], hP => simp at hP
            | t0 :: lt, _ => exact ⟨t0, lt, rfl⟩
          have hg8 : ∃ g, A' = some ⟨g, 0, none⟩ ∧ w.heap.size ≤ g := by
            rcases O8.out.2 with ⟨_, h0⟩ | ⟨g, cap, cur, e1, hg, _⟩
            · omega
            · injection e1 with e1
              exact ⟨g, e1, hg⟩
          obtain ⟨g, rfl, hgw⟩ := hg8
          have hcl : w8.cell? ⟨g, 1, none⟩ = some (.string (S t0.2)) := by
            rw [O8.out.cellAt 1 (by omega), hlq]
            rfl
          have hfr := O8.out.frozenAt 1
          have ST := (O8.out.stored 1 (.string (S t8))).1
          have e8 : (tgs (l)).set 1 (.string (S t8)) = tgs ((t0.1, t8) :: lt) := by rw [hlq]; rfl
          rw [e8] at ST
          have el : (l).length = ((t0.1, t8) :: lt).length := by rw [hlq]; rfl
          have sm : Small ((t0.1, t8) :: lt) := by
            have h1 := hsm.out
            rw [hlq] at h1
            intro x hx
            rcases List.mem_cons.1 hx with h2 | h2
            · rw [h2]; exact ⟨(h1 t0 (by simp)).1, ht8⟩
            · exact h1 x (by simp [h2])
          have rr := R8.out.below (w' := w8.setCell ⟨g, 1, none⟩ (.string (S t8))) ((Below.refl _ _).setCell (p := ⟨g, 1, none⟩) (by show R + 1 ≤ g; omega) _)
          have kk := K8.out.set_ (p := ⟨g, 1, none⟩) hgw (.string (S t8))
          have F : Hid (DrawnTags w B R k0 (.returned (.slice (some ⟨g, 0, none⟩) (l).length c')) (w8.setCell ⟨g, 1, none⟩ (.string (S t8)))) := hide ⟨some ⟨g, 0, none⟩, c', (t0.1, t8) :: lt, by rw [el], by rw [← el]; exact ST, by rw [← el]; omega, by simp, sm, rr.more (by omega), kk⟩
          clear ST e8 el sm rr kk hlq O8 K8 R8
          have hP2 : (0 : Int) < ((l).length : Int) := by omega
          go_wp2
          go_ret
          exact F.out
        · have z0 : (v7 == 0) = false := beq_eq_false_iff_ne.2 (by omega)
          have z1 : (v7 == 1) = false := beq_eq_false_iff_ne.2 (by omega)
          have F : Hid (DrawnTags w B R k0 (.returned (.slice A' (l).length c')) w7) := hide ⟨A', c', _, rfl, O7.out, by omega, hP, hsm.out, R7.out.more (by omega), K7.out⟩
          clear O7 K7 R7
          go_wp2
          go_ret
          exact F.out

end Go.Proofs.YtgedlpdjnnbolaaDoor
