/-
  WALKS: drawn lists of numbers.
-/
import Derived.Test.YthmmcnabfmegfaaRead
import Derived.Test.YthmmcnabfmegfaaInts
namespace Go.Proofs.Ythmmcnabfmegfaa
set_option linter.unusedVariables false
open Go.RowKit

/-- Of what there was in w only block R has turned. -/
def Kept (R : Nat) (w w' : World) : Prop := w.grownBy w' (some R)
theorem Kept.refl (R : Nat) (w : World) : Kept R w w := ⟨rfl, rfl, rfl, Nat.le_refl _, fun _ _ _ => rfl⟩
theorem Kept.trans {R : Nat} {a b c : World} (h : Kept R a b) (k : b.grownBy c (some R)) : Kept R a c :=
  ⟨k.os.trans h.os, k.tape.trans h.tape, k.output.trans h.output, Nat.le_trans h.size k.size, fun i hi hne => (k.block i (Nat.lt_of_lt_of_le hi h.size) hne).trans (h.block i hi hne)⟩
theorem Kept.below {R : Nat} {a b c : World} (h : Kept R a b) (k : Below a.heap.size b c) : Kept R a c :=
  ⟨k.os.trans h.os, k.tape.trans h.tape, k.output.trans h.output, Nat.le_trans h.size k.size, fun i hi hne => (k.block i hi).trans (h.block i hi hne)⟩
theorem Kept.alloc {R : Nat} {a b : World} (h : Kept R a b) (o : Obj) : Kept R a (b.alloc o) := h.below ((Below.refl _ _).alloc h.size o)
theorem Kept.own {R : Nat} {a b c : World} {row : Option Nat} (h : Kept R a b) (k : b.grownBy c row) (hr : ∀ g, row = some g → a.heap.size ≤ g) : Kept R a c := h.below ((Below.refl _ _).grown k h.size hr)
theorem Kept.to_below {R B : Nat} {a b : World} (h : Kept R a b) (hB : B ≤ R) (hs : B ≤ a.heap.size) : Below B a b :=
  ⟨h.os, h.tape, h.output, h.size, fun k hk => h.block k (by omega) (by intro e; injection e; omega)⟩
/-- A row behind R is not touched by a pick. -/
theorem own_pick {R B e size n : Nat} {w w' : World} {v : Value} {xs : List Value} (h : w.ownsRow B e size v n xs) (g : w.grownBy w' (some R)) (hB : R < B) : w'.ownsRow B e size v n xs :=
  h.kept g (by
    rcases ho : v.ownBlock with _ | k
    · exact .inl rfl
    · refine .inr ?_
      intro e
      injection e with e
      have := (h.lt k ho).1
      omega)

/-- A slice's length: for a loop's measure. -/
def lenOf : Value → Nat | .slice _ n _ => n | _ => 0

/-- A drawn list: in new memory; only the reader has turned besides. -/
def DrawnInts (w : World) (B R k : Nat) (e : Ending) (w' : World) : Prop :=
  ∃ (A : Option Addr) (c : Nat) (l : List Int), e = .returned (.slice A l.length c) ∧ w'.ownsRow w.heap.size 3 1 (.slice A l.length c) l.length (ints l) ∧ l.length ≤ 30 ∧ Rdr w' B R (k + 200) ∧ Kept R w w'

/-- One number more. -/
theorem own_int {w : World} {B n : Nat} {v : Value} {l : List Int} {x : Int} (h : w.ownsRow B 3 1 v n (ints l ++ [.int .i64 x])) (hn : n = l.length + 1) : ∃ A c, v = .slice A (l ++ [x]).length c ∧ w.ownsRow B 3 1 (.slice A (l ++ [x]).length c) (l ++ [x]).length (ints (l ++ [x])) := by
  have e : ints l ++ [.int .i64 x] = ints (l ++ [x]) := by rw [ints_append]; rfl
  have e2 : n = (l ++ [x]).length := by simp [hn]
  subst e2
  rw [e] at h
  obtain ⟨A, c, hv, ho⟩ := own_ret h
  exact ⟨A, c, hv, ho⟩

set_option maxRecDepth 100000 in
set_option maxHeartbeats 3200000 in
theorem l71Nums_any (B R k0 : Nat) (w : World) (h : Rdr w B R k0) (hk : k0 ≤ 1000) : Calls Try.prog 43 #[.pointer (some ⟨R, 0, none⟩)] w (DrawnInts w B R k0) := by
  obtain ⟨i0, hi, hz0, hz1, hz2⟩ := info_parts info_int
  have hR := h.lt
  have hO : Hid ((w.alloc (.cells #[] 3)).ownsRow w.heap.size 3 1 (.slice (some ⟨w.heap.size, 0, none⟩) 0 0) 0 (ints [])) := hide (World.ownsRow_lit w #[] 0 (Nat.le_refl _) (Nat.zero_le _) rfl)
  have h' := h.below (w' := w.alloc (.cells #[] 3)) ((Below.refl _ _).alloc hR _)
  have K0 : Kept R w (w.alloc (.cells #[] 3)) := (Kept.refl R w).alloc _
  clear h
  go_enter Try.func43, Try.ntmps43
  go_wp2_with fail
  refine (pick_any _ _ _ _ _ h' (by omega) (by omega)).mono ?_
  rintro e w1 ⟨v1, rfl, l1, u1, hr1, g1, hs1⟩
  have u1 := u1 (by omega)
  have O1 := hide (own_pick hO.out g1 hR)
  have K1 := hide (K0.trans g1)
  clear hs1 hO g1 K0 h'
  go_wp2_with fail
  refine (pick_any _ _ _ _ _ hr1 (by omega) (by omega)).mono ?_
  rintro e w2 ⟨v2, rfl, l2, u2, hr2, g2, hs2⟩
  have u2 := u2 (by omega)
  have O2 := hide (own_pick O1.out g2 hR)
  have K2 := hide (K1.out.trans g2)
  clear hs2 O1 g2 K1 hr1
  go_wp2_with fail
  refine (pick_any _ _ _ _ _ hr2 (by omega) (by omega)).mono ?_
  rintro e w3 ⟨v3, rfl, l3, u3, hr3, g3, hs3⟩
  have u3 := u3 (by omega)
  have O3 := hide (own_pick O2.out g3 hR)
  have K3 := hide (K2.out.trans g3)
  clear hs3 O2 g3 K2 hr2
  obtain ⟨n3, rfl⟩ := Int.eq_ofNat_of_zero_le l3
  go_wp2_with fail
  go_loopw [3, 4, 5, 6] (fun s n st i wr => ∃ (k : Nat) (x y : Int) (l : List Int) (A' : Option Addr) (c' : Nat), k ≤ 9 ∧ k + l.length ≤ 9 ∧ i = .int .i64 k ∧ n = .int .i64 x ∧ st = .int .i64 y ∧ s = .slice A' l.length c' ∧ Hid (wr.ownsRow w.heap.size 3 1 (.slice A' l.length c') l.length (ints l)) ∧ Rdr wr B R (k0 + 3 + 3 * l.length) ∧ Hid (Kept R w wr)) (fun _ _ _ i _ => (intOf i).toNat)
  case atStart => exact ⟨n3, _, _, [], _, _, by omega, by simp; omega, rfl, rfl, rfl, rfl, O3, hr3.more (by simp), K3⟩
  case round =>
    clear hr3 O3 K3
    obtain ⟨k, x, y, l, A', c', hk9, hkl, rfl, rfl, rfl, rfl, ho, hr, hK⟩ := hrel
    by_cases hlt : 0 < k
    · have hsz := hK.out.size
      have ho' := ho.out
      go_wp2_with (first
        | (at_builtin; refine wpList_append_own _ rfl (.tmp 19) (.tmp 21) 29 rfl w.heap.size 3 i0 (.int .i64 0) 1 8 Try.underlying29 hi hz0 hz1 hz2 rfl (by decide) _ _ _ rfl (ho'.alloc _) ⟨wr.heap.size, 0, none⟩ 1 1 [_] rfl rfl (one_new _ _ _) (by intro u hu; simp at hu; subst hu; rfl) (by unfold maxLen; omega) (by omega) (by simp; omega) ?_; intro v4 w4 hown4 hgrow4 _))
      have hg : (wr.alloc _).grownBy w4 (Value.ownBlock (.slice A' l.length c')) := hgrow4
      obtain ⟨A4, c4, hv4, ho4⟩ := own_int hown4 rfl
      have hrow : ∀ g, Value.ownBlock (.slice A' l.length c') = some g → w.heap.size ≤ g := fun g hgg => (ho'.lt g hgg).1
      have K4 := hide ((hK.out.alloc _).own hg hrow)
      have hr4 := hr.below (w' := w4) (((Below.refl _ _).alloc hr.lt _).grown hg (by have := hr.lt; simp; omega) (fun g hgg => by have := hrow g hgg; omega))
      have O4 := hide ho4
      have V4 := hide hv4
      clear ho' hown4 hgrow4 hg hv4 ho4 hrow ho hK hr
      refine (pick_any _ _ _ _ _ hr4 (by omega) (by omega)).mono ?_
      rintro e w5 ⟨v5, rfl, l5, u5, hr5, g5, hs5⟩
      have O5 := hide (own_pick O4.out g5 hR)
      have K5 := hide (K4.out.trans g5)
      clear hr4 O4 K4 g5 hs5
      rcases (show v5 = 0 ∨ v5 = 1 ∨ 2 ≤ v5 from by omega) with h5 | h5 | h5
      · subst h5
        go_wp2_with fail
        refine (pick_any _ _ _ _ _ hr5 (by omega) (by omega)).mono ?_
        rintro e w6 ⟨v6, rfl, l6, u6, hr6, g6, hs6⟩
        have O6 := hide (own_pick O5.out g6 hR)
        have K6 := hide (K5.out.trans g6)
        have u6 := u6 (by omega)
        clear hr5 O5 K5 g6 hs6
        go_wp2
        go_roundw
        case rel => exact ⟨k - 1, _, _, l ++ [x], A4, c4, by omega, by simp; omega, by go_num, rfl, rfl, V4.out, O6, hr6.more (by simp; omega), K6⟩
        case measure => simp [intOf]; omega
      · subst h5
        go_wp2_with fail
        refine (pick_any _ _ _ _ _ hr5 (by omega) (by omega)).mono ?_
        rintro e w6 ⟨v6, rfl, l6, u6, hr6, g6, hs6⟩
        have O6 := hide (own_pick O5.out g6 hR)
        have K6 := hide (K5.out.trans g6)
        have u6 := u6 (by omega)
        clear hr5 O5 K5 g6 hs6
        go_wp2
        go_roundw
        case rel => exact ⟨k - 1, _, _, l ++ [x], A4, c4, by omega, by simp; omega, by go_num, rfl, rfl, V4.out, O6, hr6.more (by simp; omega), K6⟩
        case measure => simp [intOf]; omega
      · have q0 : (v5 == 0) = false := by simp; omega
        have q1 : (v5 == 1) = false := by simp; omega
        go_wp2
        go_roundw
        case rel => exact ⟨k - 1, _, _, l ++ [x], A4, c4, by omega, by simp; omega, by go_num, rfl, rfl, V4.out, O5, hr5.more (by simp; omega), K5⟩
        case measure => simp [intOf]; omega
    · have hl9 : l.length ≤ 9 := by omega
      clear hkl hk9
      go_wp2_with fail
      refine (pick_any _ _ _ _ _ hr (by omega) (by omega)).mono ?_
      rintro e w5 ⟨v5, rfl, l5, u5, hr5, g5, hs5⟩
      have O5 := hide (own_pick ho.out g5 hR)
      have K5 := hide (hK.out.trans g5)
      clear hr ho hK g5 hs5
      rcases (show v5 = 0 ∨ v5 = 1 ∨ 2 ≤ v5 from by omega) with h5 | h5 | h5
      · subst h5
        have hr6 := hr5.below (w' := w5.alloc (.cells #[.int .i64 999, .int .i64 (-999), .int .i64 1000] 3)) ((Below.refl _ _).alloc hr5.lt _)
        go_wp2_with fail
        refine (pick_any _ _ _ _ _ hr6 (by omega) (by omega)).mono ?_
        rintro e w6 ⟨v6, rfl, l6, u6, hr7, g6, hs6⟩
        have u6 := u6 (by omega)
        have hcell : ∀ j, w6.cell? ⟨w5.heap.size, j, none⟩ = #[Value.int .i64 999, .int .i64 (-999), .int .i64 1000][j]? := by
          intro j
          have hl := hr5.lt
          rw [World.cell?_of_block (w := w5.alloc _) (g6.block w5.heap.size (by simp) (by simp; omega))]
          exact World.cell?_alloc_new _ _ _ _
        have O6 := own_pick (O5.out.alloc (.cells #[.int .i64 999, .int .i64 (-999), .int .i64 1000] 3)) g6 hR
        have K6 := hide ((K5.out.alloc (.cells #[.int .i64 999, .int .i64 (-999), .int .i64 1000] 3)).trans g6)
        have hsz := K6.out.size
        obtain ⟨x6, hx6⟩ : ∃ x6 : Int, w6.cell? ⟨w5.heap.size, v6.toNat, none⟩ = some (.int .i64 x6) := by
          rcases (show v6 = 0 ∨ v6 = 1 ∨ v6 = 2 from by omega) with h6 | h6 | h6 <;> subst h6 <;> exact ⟨_, hcell _⟩
        obtain ⟨n6, rfl⟩ := Int.eq_ofNat_of_zero_le l6
        simp only [Int.toNat_natCast] at hx6
        clear hcell hr5 hr6 g6 hs6 O5 K5
        go_wp2_with (first
          | (at_builtin; refine wpList_append_own _ rfl (.tmp 42) (.tmp 48) 29 rfl w.heap.size 3 i0 (.int .i64 0) 1 8 Try.underlying29 hi hz0 hz1 hz2 rfl (by decide) _ _ _ rfl (O6.alloc _) ⟨w6.heap.size, 0, none⟩ 1 1 [_] rfl rfl (one_new _ _ _) (by intro u hu; simp at hu; subst hu; rfl) (by unfold maxLen; omega) (by omega) (by simp; omega) ?_; intro v7 w7 hown7 hgrow7 _))
        have hg : (w6.alloc _).grownBy w7 (Value.ownBlock (.slice A' l.length c')) := hgrow7
        obtain ⟨A7, c7, hv7, ho7⟩ := own_int hown7 rfl
        have hrow : ∀ g, Value.ownBlock (.slice A' l.length c') = some g → w.heap.size ≤ g := fun g hgg => (O6.lt g hgg).1
        have K7 := hide ((K6.out.alloc _).own hg hrow)
        have hr8 := hr7.below (w' := w7) (((Below.refl _ _).alloc hr7.lt _).grown hg (by have := hr7.lt; simp; omega) (fun g hgg => by have := hrow g hgg; omega))
        have F := hide (⟨A7, c7, l ++ [x6], by rw [hv7], ho7, by simp; omega, hr8.more (by omega), K7.out⟩ : DrawnInts w B R k0 (.returned v7) w7)
        clear hown7 hgrow7 hg hv7 ho7 hrow hr7 hr8 O6 K6 K7
        go_ret
        exact F.out
      · subst h5
        go_wp2_with fail
        go_loopw [3] (fun s wr => ∃ (l : List Int) (A' : Option Addr) (c' : Nat), l.length ≤ 26 ∧ s = .slice A' l.length c' ∧ Hid (wr.ownsRow w.heap.size 3 1 (.slice A' l.length c') l.length (ints l)) ∧ Rdr wr B R (k0 + 40 + l.length) ∧ Hid (Kept R w wr)) (fun s _ => 30 - (lenOf s))
        case atStart => exact ⟨l, _, _, by omega, rfl, O5, hr5.more (by omega), K5⟩
        case round =>
          clear hr5 O5 K5 hl9
          obtain ⟨l, A', c', hl26, rfl, ho, hr, hK⟩ := hrel
          have hsz := hK.out.size
          go_wp2_with fail
          refine (pick_any _ _ _ _ _ hr (by omega) (by omega)).mono ?_
          rintro e w6 ⟨v6, rfl, l6, u6, hr6, g6, hs6⟩
          have u6 := u6 (by omega)
          have O6 := own_pick ho.out g6 hR
          have K6 := hide (hK.out.trans g6)
          have hsz6 := K6.out.size
          clear hr ho hK g6 hs6
          by_cases hlt : (l.length : Int) < 24 + v6
          · go_wp2_with (first
              | (at_builtin; refine wpList_append_own _ rfl (.tmp 58) (.tmp 61) 29 rfl w.heap.size 3 i0 (.int .i64 0) 1 8 Try.underlying29 hi hz0 hz1 hz2 rfl (by decide) _ _ _ rfl (O6.alloc _) ⟨w6.heap.size, 0, none⟩ 1 1 [_] rfl rfl (one_new _ _ _) (by intro u hu; simp at hu; subst hu; rfl) (by unfold maxLen; omega) (by omega) (by simp; omega) ?_; intro v7 w7 hown7 hgrow7 _))
            have hg : (w6.alloc _).grownBy w7 (Value.ownBlock (.slice A' l.length c')) := hgrow7
            obtain ⟨A7, c7, hv7, ho7⟩ := own_int hown7 rfl
            have hrow : ∀ g, Value.ownBlock (.slice A' l.length c') = some g → w.heap.size ≤ g := fun g hgg => (O6.lt g hgg).1
            have K7 := hide ((K6.out.alloc _).own hg hrow)
            have hr8 := hr6.below (w' := w7) (((Below.refl _ _).alloc hr6.lt _).grown hg (by have := hr6.lt; simp; omega) (fun g hgg => by have := hrow g hgg; omega))
            clear hown7 hgrow7 hg hrow hr6 O6 K6
            go_roundw
            case rel => exact ⟨l ++ [(l.length : Int)], A7, c7, by simp; omega, hv7, hide ho7, hr8.more (by simp; omega), K7⟩
            case measure => rw [hv7]; simp [lenOf]; omega
          · have F := hide (⟨A', c', l, rfl, O6, by omega, hr6.more (by omega), K6.out⟩ : DrawnInts w B R k0 (.returned (.slice A' l.length c')) w6)
            clear hr6 O6 K6
            go_wp2
            go_ret
            exact F.out
      · have q0 : (v5 == 0) = false := by simp; omega
        have q1 : (v5 == 1) = false := by simp; omega
        have F := hide (⟨A', c', l, rfl, O5.out, by omega, hr5.more (by omega), K5.out⟩ : DrawnInts w B R k0 (.returned (.slice A' l.length c')) w5)
        clear hr5 O5 K5
        go_wp2
        go_ret
        exact F.out

/-- A drawn list in new memory; nothing that was there is written. -/
def DrawnL (w : World) (e : Ending) (w' : World) : Prop := ∃ l : List Int, l.length ≤ 30 ∧ IntL w l e w'

set_option maxRecDepth 100000 in
theorem drawNumsPack_any (A : Option Addr) (n c : Nat) (zs : List Int) (w : World) (hz : zs.length = n) (h : Rd w w.heap.size 1 A n (u8s zs)) (hb : ByteL zs) (hc : n ≤ c) (hm : c ≤ maxLen) :
    Calls Try.prog 26 #[.slice A n c] w (DrawnL w) := by
  have H1 := hide (open_any A n c zs w hz h hb hc hm)
  clear hz h hb hc hm
  go_enter Try.func26, Try.ntmps26
  go_wp2_with fail
  refine H1.out.mono ?_
  rintro e w1 ⟨rfl, hr1, hb1, hs1⟩
  have S1 := hide hs1
  clear hs1 H1
  go_wp2_with fail
  refine (l71Nums_any _ _ _ _ hr1 (by omega)).mono ?_
  rintro e w2 ⟨A2, c2, l, rfl, ho, hl, hr2, hk⟩
  have F := hide (⟨l, hl, A2, c2, rfl, own_base ho hb1.size, hb1.trans (hk.to_below (Nat.le_refl _) hb1.size)⟩ : DrawnL w (.returned (.slice A2 l.length c2)) w2)
  clear ho hl hr2 hk hr1 hb1
  go_wp2
  go_ret
  exact F.out

end Go.Proofs.Ythmmcnabfmegfaa
