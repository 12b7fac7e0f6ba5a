/-
  WALKS: drawn filters.
-/
import Derived.Test.YtgedlpdjnnbolaaDoorDrawName
import Derived.Test.YtgedlpdjnnbolaaDoorConds1
namespace Go.Proofs.YtgedlpdjnnbolaaDoor
set_option linter.unusedVariables false
open Go.RowKit

def SmallC (l : List PT.Cond) : Prop := ∀ t ∈ l, t.1.1.length ≤ 3 ∧ t.1.2.length ≤ 3
theorem SmallC.snoc {l : List PT.Cond} {x : PT.Cond} (h : SmallC l) (hx : x.1.1.length ≤ 3 ∧ x.1.2.length ≤ 3) : SmallC (l ++ [x]) := by
  intro t ht
  rcases List.mem_append.1 ht with h1 | h1
  · exact h t h1
  · simp at h1; subst h1; exact hx
theorem three_new (w : World) (x y z : Value) (t : TypeId) : ∀ j u, [x, y, z][j]? = some u → (w.alloc (.cells #[x, y, z] t)).cell? ((⟨w.heap.size, 0, none⟩ : Addr).add j) = some u := by
  intro j u hj
  match j, hj with
  | 0, hj => simp at hj; subst hj; simp [Addr.add]
  | 1, hj => simp at hj; subst hj; simp [Addr.add]
  | 2, hj => simp at hj; subst hj; simp [Addr.add]
  | (j + 3), hj => simp at hj
theorem three_str (a b : ByteArray) (c : Bool) : ∀ u ∈ [Value.string a, .string b, .bool c], u.oneCell' = true := by
  intro u hu
  simp at hu
  rcases hu with rfl | rfl | rfl <;> rfl
theorem cond_step {w wr w1 : World} {B R k n : Nat} {l : List PT.Cond} {A : Option Addr} {c : Nat} {v' : Value} {x : PT.Cond} {o : Obj}
    (ho : wr.ownsRow w.heap.size 52 3 (.slice A l.length c) l.length (cnds l)) (hr : Rdr wr B R k) (hR : R < w.heap.size) (hK : Kept R w wr)
    (hown : w1.ownsRow w.heap.size 52 3 v' n (cnds l ++ [.string (S x.1.1), .string (S x.1.2), .bool x.2])) (hn : n = l.length + 1) (hg : (wr.alloc o).grownBy w1 (Value.ownBlock (.slice A l.length c))) :
    (∃ A' c', v' = .slice A' (l ++ [x]).length c' ∧ w1.ownsRow w.heap.size 52 3 (.slice A' (l ++ [x]).length c') (l ++ [x]).length (cnds (l ++ [x]))) ∧ Rdr w1 B R k ∧ Kept R w w1 := by
  have hrow : ∀ g, Value.ownBlock (.slice A l.length c) = some g → w.heap.size ≤ g := fun g hgg => (ho.lt g hgg).1
  refine ⟨?_, hr.below (((Below.refl _ _).alloc hr.lt _).grown hg (by have := hr.lt; simp; omega) (fun g hgg => by have := hrow g hgg; omega)), (hK.alloc _).own hg hrow⟩
  have e : cnds l ++ [.string (S x.1.1), .string (S x.1.2), .bool x.2] = cnds (l ++ [x]) := by rw [cnds_append]; rfl
  have e2 : n = (l ++ [x]).length := by simp [hn]
  subst e2
  rw [e] at hown
  obtain ⟨A', c', rfl, _⟩ := own_shape hown
  exact ⟨A', c', rfl, hown⟩

def lenC : Value → Nat | .slice _ n _ => n | _ => 0
def DrawnConds (w : World) (B R k : Nat) (e : Ending) (w' : World) : Prop :=
  ∃ (A : Option Addr) (c : Nat) (l : List PT.Cond), e = .returned (.slice A l.length c) ∧ w'.ownsRow w.heap.size 52 3 (.slice A l.length c) l.length (cnds l) ∧ l.length ≤ 4 ∧ SmallC l ∧ Rdr w' B R (k + 50) ∧ Kept R w w'

set_option maxRecDepth 100000 in
set_option maxHeartbeats 6400000 in
theorem l71Filter_any (B R k0 : Nat) (w : World) (h : Rdr w B R k0) (hk : k0 ≤ 500) : Calls Tryd.prog 26 #[.pointer (some ⟨R, 0, none⟩)] w (DrawnConds w B R k0) := by
  obtain ⟨i0, hi, hz0, hz1, hz2⟩ := info_parts info_cond
  have hR := h.lt
  have hO : Hid ((w.alloc (.cells #[] 52)).ownsRow w.heap.size 52 3 (.slice (some ⟨w.heap.size, 0, none⟩) 0 0) 0 (cnds [])) := hide (World.ownsRow_lit w #[] 0 (Nat.le_refl _) (Nat.zero_le _) rfl)
  have h' := h.below (w' := w.alloc (.cells #[] 52)) ((Below.refl _ _).alloc hR _)
  have K0 : Hid (Kept R w (w.alloc (.cells #[] 52))) := hide ((Kept.refl R w).alloc _)
  have P1 := hide (pick_any B R k0 3 _ h' (by omega) (by omega))
  clear h h'
  go_enter Tryd.func26, Tryd.ntmps26
  go_wp2_with fail
  refine P1.out.mono ?_
  rintro e w1 ⟨v1, rfl, l1, u1, hr1, g1, hs1⟩
  have u1 := u1 (by omega)
  have O1 := hide (own_pick hO.out g1 hR)
  have K1 := hide (K0.out.trans g1)
  have R1 := hide hr1
  clear hs1 hO g1 K0 hr1 P1
  obtain ⟨n1, rfl⟩ := Int.eq_ofNat_of_zero_le l1
  go_wp2
  go_loopw [3, 4] (fun s i wr => ∃ (k : Nat) (l : List PT.Cond) (A' : Option Addr) (c' : Nat), k ≤ 2 ∧ k + l.length ≤ 2 ∧ i = .int .i64 k ∧ s = .slice A' l.length c' ∧ Hid (SmallC l) ∧ Hid (wr.ownsRow w.heap.size 52 3 (.slice A' l.length c') l.length (cnds l)) ∧ Hid (Rdr wr B R (k0 + 20 - 5 * k)) ∧ Hid (Kept R w wr)) (fun _ i _ => (intOf i).toNat)
  case atStart => exact ⟨n1, [], _, _, by omega, by simp; omega, rfl, rfl, hide (fun t ht => by cases ht), O1, hide (R1.out.more (by omega)), K1⟩
  case round =>
    clear R1 O1 K1
    obtain ⟨k, l, A', c', hk2, hkl, rfl, rfl, hsm, ho, hr, hK⟩ := hrel
    by_cases hlt : 0 < k
    · have C2 := hide (l71Tag_any B R (k0 + 20 - 5 * k) wr hr.out (by omega))
      go_wp2_with fail
      refine C2.out.mono ?_
      rintro e w2 ⟨t, v, rfl, ht, hv, hr2, hk2'⟩
      have O2 := hide (own_pick ho.out hk2' hR)
      have K2 := hide (hK.out.trans hk2')
      have P2 := hide (pick_any B R (k0 + 20 - 5 * k + 2) 3 w2 hr2 (by omega) (by omega))
      clear C2 hk2' hr2 ho hK hr
      go_wp2_with fail
      refine P2.out.mono ?_
      rintro e w3 ⟨v3, rfl, l3, u3, hr3, g3, hs3⟩
      have O3 := own_pick O2.out g3 hR
      have K3 := hide (K2.out.trans g3)
      have R3 := hide hr3
      have hsz := K3.out.size
      obtain ⟨q, hq⟩ : ∃ q, (v3 == 0) = q := ⟨_, rfl⟩
      clear g3 hs3 hr3 O2 K2 P2 u3 l3
      go_wp2_with (first
        | (at_builtin; refine wpList_append_own_at _ rfl (.tmp 12) (.tmp 19) 31 rfl w.heap.size 52 i0 (.agg #[.string ⟨#[]⟩, .string ⟨#[]⟩, .bool false]) 3 40 Tryd.underlying31 hi hz0 hz1 hz2 rfl (by decide) _ _ _ rfl (O3.alloc _) ⟨w3.heap.size, 0, none⟩ 1 1 [.string (S t), .string (S v), .bool q] rfl rfl (three_new _ _ _ _ _) (three_str _ _ _) (by unfold maxLen; omega) (by omega) (by simp; omega) ?_; intro v4 w4 hown4 hgrow4 _ hat4))
      obtain ⟨⟨A4, c4, rfl, o4⟩, r4, k4⟩ := cond_step (x := ((t, v), q)) O3 R3.out hR K3.out hown4 rfl hgrow4
      have O4 := hide o4
      have R4 := hide (r4.more (k' := k0 + 20 - 5 * (k - 1)) (by omega))
      have K4 := hide k4
      have S4 := hide (hsm.out.snoc (x := ((t, v), q)) ⟨ht, hv⟩)
      clear hown4 hgrow4 hat4 o4 r4 k4 O3 R3 K3 hsm hq
      go_wp2
      go_roundw
      case rel => exact ⟨k - 1, l ++ [((t, v), q)], A4, c4, by omega, by simp; omega, by go_num, by simp, S4, O4, R4, K4⟩
      case measure => simp [intOf]; omega
    · have hl2 : l.length ≤ 2 := by omega
      have R1 := hide (hr.out.more (k' := k0 + 20) (by omega))
      have PF := hide (pick_any B R (k0 + 20) 30 wr R1.out (by omega) (by omega))
      clear hr R1
      go_wp2_with fail
      refine PF.out.mono ?_
      rintro e w7 ⟨v7, rfl, l7, u7, hr7, g7, hs7⟩
      have u7 := u7 (by omega)
      have O7 := hide (own_pick ho.out g7 hR)
      have K7 := hide (hK.out.trans g7)
      have R7 := hide hr7
      clear g7 hs7 hr7 PF ho hK
      rcases (show v7 = 0 ∨ v7 = 1 ∨ 2 ≤ v7 from by omega) with h7 | h7 | h7
      · subst h7
        go_wp2
        go_loopw [3] (fun s wr => ∃ (l : List PT.Cond) (A' : Option Addr) (c' : Nat), l.length ≤ 4 ∧ s = .slice A' l.length c' ∧ Hid (SmallC l) ∧ Hid (wr.ownsRow w.heap.size 52 3 (.slice A' l.length c') l.length (cnds l)) ∧ Hid (Rdr wr B R (k0 + 21 + 2 * l.length)) ∧ Hid (Kept R w wr)) (fun s _ => 4 - lenC s)
        case atStart => exact ⟨l, A', c', by omega, rfl, hsm, O7, hide (R7.out.more (by omega)), K7⟩
        case round =>
          clear hsm O7 R7 K7 hl2
          obtain ⟨l, A', c', hl4, rfl, hsm, ho, hr, hK⟩ := hrel
          by_cases hlt : l.length ≤ 3
          · have C2 := hide (l71Tag_any B R (k0 + 21 + 2 * l.length) wr hr.out (by omega))
            go_wp2_with fail
            refine C2.out.mono ?_
            rintro e w3 ⟨t, v, rfl, ht, hv, hr2, hk2'⟩
            have O3 := own_pick ho.out hk2' hR
            have K3 := hide (hK.out.trans hk2')
            have R3 := hide hr2
            have hsz := K3.out.size
            clear C2 hk2' hr2 ho hK hr
            go_wp2_with (first
              | (at_builtin; refine wpList_append_own_at _ rfl (.tmp 28) (.tmp 32) 31 rfl w.heap.size 52 i0 (.agg #[.string ⟨#[]⟩, .string ⟨#[]⟩, .bool false]) 3 40 Tryd.underlying31 hi hz0 hz1 hz2 rfl (by decide) _ _ _ rfl (O3.alloc _) ⟨w3.heap.size, 0, none⟩ 1 1 [.string (S t), .string (S v), .bool false] rfl rfl (three_new _ _ _ _ _) (three_str _ _ _) (by unfold maxLen; omega) (by omega) (by simp; omega) ?_; intro v4 w4 hown4 hgrow4 _ hat4))
            obtain ⟨⟨A4, c4, rfl, o4⟩, r4, k4⟩ := cond_step (x := ((t, v), false)) O3 R3.out hR K3.out hown4 rfl hgrow4
            have O4 := hide o4
            have R4 := hide (r4.more (k' := k0 + 21 + 2 * (l ++ [((t, v), false)]).length) (by simp; omega))
            have K4 := hide k4
            have S4 := hide (hsm.out.snoc (x := ((t, v), false)) ⟨ht, hv⟩)
            clear hown4 hgrow4 hat4 o4 r4 k4 O3 R3 K3 hsm
            go_wp2
            go_roundw
            case rel => exact ⟨l ++ [((t, v), false)], A4, c4, by simp; omega, by simp, S4, O4, R4, K4⟩
            case measure => simp [lenC]; omega
          · have F : Hid (DrawnConds w B R k0 (.returned (.slice A' l.length c')) wr) := hide ⟨A', c', l, rfl, ho.out, by omega, hsm.out, hr.out.more (by omega), hK.out⟩
            clear hsm ho hr hK
            go_wp2
            go_ret
            exact F.out
      · subst h7
        have hs7 := K7.out.size
        have O3 := O7.out
        go_wp2_with (first
          | (at_builtin; refine wpList_append_own_at _ rfl (.tmp 36) (.tmp 39) 31 rfl w.heap.size 52 i0 (.agg #[.string ⟨#[]⟩, .string ⟨#[]⟩, .bool false]) 3 40 Tryd.underlying31 hi hz0 hz1 hz2 rfl (by decide) _ _ _ rfl (O3.alloc _) ⟨w7.heap.size, 0, none⟩ 1 1 [.string ⟨#[101]⟩, .string ⟨#[112]⟩, .bool false] rfl rfl (three_new _ _ _ _ _) (three_str _ _ _) (by unfold maxLen; omega) (by omega) (by simp; omega) ?_; intro v4 w4 hown4 hgrow4 _ hat4))
        obtain ⟨⟨A4, c4, rfl, o4⟩, r4, k4⟩ := cond_step (x := (([101], [112]), false)) O3 R7.out hR K7.out hown4 rfl hgrow4
        have F : Hid (DrawnConds w B R k0 (.returned (.slice A4 (l ++ [(([101], [112]), false)]).length c4)) w4) := hide ⟨A4, c4, _, rfl, o4, by simp; omega, hsm.out.snoc ⟨by simp, by simp⟩, r4.more (by omega), k4⟩
        clear hown4 hgrow4 hat4 o4 r4 k4 O3 R7 K7 O7 hsm
        go_wp2
        go_ret
        simpa using F.out
      · have z0 : (v7 == 0) = false := beq_eq_false_iff_ne.2 (by omega)
        have z1 : (v7 == 1) = false := beq_eq_false_iff_ne.2 (by omega)
        have F : Hid (DrawnConds w B R k0 (.returned (.slice A' l.length c')) w7) := hide ⟨A', c', l, rfl, O7.out, by omega, hsm.out, R7.out.more (by omega), K7.out⟩
        clear O7 K7 R7 hsm
        go_wp2
        go_ret
        exact F.out

end Go.Proofs.YtgedlpdjnnbolaaDoor
