/-
  WALKS: drawn names and filters.
-/
import Derived.Test.YtgedlpdjnnbolaaDrawFilter
namespace Go.Proofs.Ytgedlpdjnnbolaa
set_option linter.unusedVariables false
open Go.RowKit

def DrawnN (w : World) (e : Ending) (w' : World) : Prop :=
  ∃ (A : Option Addr) (c : Nat) (l : List PT.Tag), e = .returned (.slice A l.length c) ∧ l.length ≤ 6 ∧ Small l ∧ w'.ownsRow w.heap.size 27 2 (.slice A l.length c) l.length (tgs l) ∧ Below w.heap.size w w'
def DrawnF (w : World) (e : Ending) (w' : World) : Prop :=
  ∃ (A : Option Addr) (c : Nat) (l : List PT.Cond), e = .returned (.slice A l.length c) ∧ l.length ≤ 5 ∧ SmallC l ∧ w'.ownsRow w.heap.size 29 3 (.slice A l.length c) l.length (cnds l) ∧ Below w.heap.size w w'

set_option maxRecDepth 100000 in
set_option maxHeartbeats 3200000 in
theorem drawNameOk_any (A : Option Addr) (n c : Nat) (zs : List Int) (w : World) (hz : zs.length = n) (h : Rd w w.heap.size 1 A n (u8s zs)) (hb : ByteL zs) (hc : n ≤ c) (hm : c ≤ maxLen) :
    Calls Try.prog 16 #[.slice A n c] w (DrawnN w) := by
  obtain ⟨i0, hi, hz0, hz1, hz2⟩ := info_parts info_tag
  have H1 := hide (open_any A n c zs w hz h hb hc hm)
  clear hz h hb hc hm
  go_enter Try.func16, Try.ntmps16
  go_wp2_with fail
  refine H1.out.mono ?_
  rintro e w1 ⟨rfl, hr1, hb1, hs1⟩
  have hRl : Hid (w.heap.size < w1.heap.size) := hide (by omega)
  have B1 := hide hb1
  clear hs1 H1 hb1
  have C2 := hide (l71Name_any _ _ _ _ hr1 (by omega))
  clear hr1
  go_wp2_with fail
  refine C2.out.mono ?_
  rintro e w2 ⟨A2, c2, l2, rfl, o2, hl2, hl1, hsm, hr2, hk2⟩
  have SM := hide hsm
  clear C2 hsm
  have O2 := hide o2
  have B2 := hide hk2
  have P4 := hide (pick_any _ _ _ 4 _ hr2 (by omega) (by omega))
  clear o2 hk2 hr2
  go_wp2_with fail
  refine P4.out.mono ?_
  rintro e w4 ⟨v4, rfl, l4, u4, hr4, g4, hs4⟩
  have O4 := hide (own_pick O2.out g4 hRl.out)
  have K4 := hide (B2.out.trans g4)
  have R4 := hide hr4
  clear g4 hs4 hr4 P4 O2 B2 u4
  by_cases h4 : v4 = 0
  · subst h4
    have C5 := hide (l71Tag_any _ _ _ w4 R4.out (by omega))
    go_wp2_with fail
    refine C5.out.mono ?_
    rintro e w5 ⟨t, v, rfl, ht, hv, hr5, hk5⟩
    have O5 := own_pick O4.out hk5 hRl.out
    have K5 := K4.out.trans hk5
    have hsz5 := K5.size
    clear C5 hk5 O4 K4 R4
    go_wp2_with (first
      | (at_builtin; refine wpList_append_own_at _ rfl (.tmp 12) (.tmp 15) 31 rfl w1.heap.size 27 i0 (.agg #[.string ⟨#[]⟩, .string ⟨#[]⟩]) 2 32 Try.underlying31 hi hz0 hz1 hz2 rfl (by decide) _ _ _ rfl (O5.alloc _) ⟨w5.heap.size, 0, none⟩ 1 1 [.string (S t), .string (S v)] rfl rfl (two_new _ _ _ _) (two_str _ _) (by unfold maxLen; omega) (by omega) (by simp; omega) ?_; intro v4 w6 hown4 hgrow4 _ hat4))
    obtain ⟨⟨A6, c6, rfl, o6⟩, r6, k6⟩ := tag_step (x := (t, v)) O5 hr5 hRl.out K5 hown4 rfl hgrow4
    have F : Hid (DrawnN w (.returned (.slice A6 (l2 ++ [(t, v)]).length c6)) w6) := hide ⟨A6, c6, _, rfl, by simp; omega, SM.out.snoc ⟨ht, hv⟩, own_base o6 (by have := hRl.out; omega), B1.out.trans (k6.to_below (Nat.le_refl _) B1.out.size)⟩
    clear hown4 hgrow4 hat4 o6 r6 k6 O5 K5 B1 hr5
    go_wp2
    go_ret
    simpa using F.out
  · have hv2 : (v4 == 0) = false := beq_eq_false_iff_ne.2 h4
    have F : Hid (DrawnN w (.returned (.slice A2 l2.length c2)) w4) := hide ⟨A2, c2, l2, rfl, by omega, SM.out, own_base O4.out (by have := hRl.out; omega), B1.out.trans (K4.out.to_below (Nat.le_refl _) B1.out.size)⟩
    clear O4 K4 R4 B1 h4
    go_wp2
    go_ret
    exact F.out

set_option maxRecDepth 100000 in
set_option maxHeartbeats 3200000 in
theorem drawFilterOk_any (A : Option Addr) (n c : Nat) (zs : List Int) (w : World) (hz : zs.length = n) (h : Rd w w.heap.size 1 A n (u8s zs)) (hb : ByteL zs) (hc : n ≤ c) (hm : c ≤ maxLen) :
    Calls Try.prog 13 #[.slice A n c] w (DrawnF w) := by
  obtain ⟨i0, hi, hz0, hz1, hz2⟩ := info_parts info_cond
  have H1 := hide (open_any A n c zs w hz h hb hc hm)
  clear hz h hb hc hm
  go_enter Try.func13, Try.ntmps13
  go_wp2_with fail
  refine H1.out.mono ?_
  rintro e w1 ⟨rfl, hr1, hb1, hs1⟩
  have hRl : Hid (w.heap.size < w1.heap.size) := hide (by omega)
  have B1 := hide hb1
  clear hs1 H1 hb1
  have C2 := hide (l71Filter_any _ _ _ _ hr1 (by omega))
  clear hr1
  go_wp2_with fail
  refine C2.out.mono ?_
  rintro e w2 ⟨A2, c2, l2, rfl, o2, hl2, hsm, hr2, hk2⟩
  have SM := hide hsm
  clear C2 hsm
  have O2 := hide o2
  have B2 := hide hk2
  have P4 := hide (pick_any _ _ _ 5 _ hr2 (by omega) (by omega))
  clear o2 hk2 hr2
  go_wp2_with fail
  refine P4.out.mono ?_
  rintro e w4 ⟨v4, rfl, l4, u4, hr4, g4, hs4⟩
  have O4 := hide (own_pick O2.out g4 hRl.out)
  have K4 := hide (B2.out.trans g4)
  have R4 := hide hr4
  clear g4 hs4 hr4 P4 O2 B2 u4
  by_cases h4 : v4 = 0
  · subst h4
    have C5 := hide (of_three _ _ _ w4 R4.out (by omega) w4.heap.size rfl)
    go_wp2_with fail
    refine (C5.out _ _ _ (by decide) (by decide) (by decide)).mono ?_
    rintro e w5 ⟨t, rfl, ht, hr5, hk5, hs5, hb5⟩
    have O5 := own_pick O4.out hk5 hRl.out
    have K5 := K4.out.trans hk5
    have hsz5 := K5.size
    clear C5 hk5 O4 K4 R4 hs5 hb5
    go_wp2_with (first
      | (at_builtin; refine wpList_append_own_at _ rfl (.tmp 12) (.tmp 18) 23 rfl w1.heap.size 29 i0 (.agg #[.string ⟨#[]⟩, .string ⟨#[]⟩, .bool false]) 3 40 Try.underlying23 hi hz0 hz1 hz2 rfl (by decide) _ _ _ rfl (O5.alloc _) ⟨w5.heap.size, 0, none⟩ 1 1 [.string (S t), .string ⟨#[113]⟩, .bool false] rfl rfl (three_new _ _ _ _ _) (three_str _ _ _) (by unfold maxLen; omega) (by omega) (by simp; omega) ?_; intro v4 w6 hown4 hgrow4 _ hat4))
    obtain ⟨⟨A6, c6, rfl, o6⟩, r6, k6⟩ := cond_step (x := ((t, [113]), false)) O5 hr5 hRl.out K5 hown4 rfl hgrow4
    have F : Hid (DrawnF w (.returned (.slice A6 (l2 ++ [((t, [113]), false)]).length c6)) w6) := hide ⟨A6, c6, _, rfl, by simp; omega, SM.out.snoc ⟨ht, by simp⟩, own_base o6 (by have := hRl.out; omega), B1.out.trans (k6.to_below (Nat.le_refl _) B1.out.size)⟩
    clear hown4 hgrow4 hat4 o6 r6 k6 O5 K5 B1 hr5
    go_wp2
    go_ret
    simpa using F.out
  · have hv2 : (v4 == 0) = false := beq_eq_false_iff_ne.2 h4
    have F : Hid (DrawnF w (.returned (.slice A2 l2.length c2)) w4) := hide ⟨A2, c2, l2, rfl, by omega, SM.out, own_base O4.out (by have := hRl.out; omega), B1.out.trans (K4.out.to_below (Nat.le_refl _) B1.out.size)⟩
    clear O4 K4 R4 B1 h4
    go_wp2
    go_ret
    exact F.out

end Go.Proofs.Ytgedlpdjnnbolaa
