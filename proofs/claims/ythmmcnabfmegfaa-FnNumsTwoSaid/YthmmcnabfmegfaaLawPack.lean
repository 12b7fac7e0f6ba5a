/-
  WALKS: the exact law of NumsPack.
-/
import Derived.Test.YthmmcnabfmegfaaDrawInts
import Derived.OpenShut
namespace Go.Proofs.Ythmmcnabfmegfaa
set_option linter.unusedVariables false
open Go.RowKit

theorem IntL.rd {w w' : World} {l : List Int} {A : Option Addr} {c : Nat} (h : w'.ownsRow w.heap.size 3 1 (.slice A l.length c) l.length (ints l)) : Rd w' w'.heap.size 1 A l.length (ints l) := Rd.of_own h

set_option maxRecDepth 100000 in
set_option maxHeartbeats 1600000 in
theorem fnExactNumsPack_walk (w : World) (a0 : Option Addr) (len0 cap0 : Nat) (z0 : List Int) (hz0 : z0.length = len0) (rd0 : Rd w w.heap.size 1 a0 len0 (z0.map (Value.int .i64))) (wf0 : ∀ z ∈ z0, (Lit.int .i64 z).wf = true) (lc0 : len0 ≤ cap0) (cm0 : cap0 ≤ maxLen) :
    Calls Try.prog 9 #[.slice a0 len0 cap0] w fun e w' => e = .returned (.bool true) ∧ Below w.heap.size w w' := by
  have HZ := hide hz0
  have HR : Hid (Rd w w.heap.size 1 a0 len0 (ints z0)) := hide rd0
  clear rd0 wf0 hz0
  unfold maxLen at cm0
  by_cases hl : 1048576 < len0
  · go_enter Try.func9, Try.ntmps9
    go_wp2
    go_ret
    exact ⟨rfl, Below.refl _ _⟩
  · have c1 := hide (toIntS_any a0 len0 cap0 z0 w.heap.size w HZ.out HR.out (by omega) (Nat.le_refl _))
    have hlz : z0.length ≤ 1048576 := by rw [HZ.out]; omega
    go_enter Try.func9, Try.ntmps9
    go_wp2_with fail
    refine c1.out.mono ?_
    rintro e w1 ⟨A1, d1, rfl, o1, b1⟩
    have c2 := hide (specNumsPack A1 z0.length d1 z0 w1.heap.size w1 rfl (Rd.of_own o1) (by omega) (Nat.le_refl _))
    have R1 := hide (HR.out.below b1)
    have B1 := hide b1
    have s1 := b1.size
    clear c1 o1 b1
    go_wp2_with fail
    refine c2.out.mono ?_
    rintro e w2 ⟨rfl, b2⟩
    have R2 := hide (R1.out.below (b2.mono s1))
    have B2 := hide (B1.out.trans (b2.mono s1))
    have s2 := B2.out.size
    have c3 := hide (toIntS_any a0 len0 cap0 z0 w.heap.size w2 HZ.out R2.out (by omega) s2)
    clear c2 R1 B1 b2 s1
    go_wp2_with fail
    refine c3.out.mono ?_
    rintro e w3 ⟨A3, d3, rfl, o3, b3⟩
    have r3 := Rd.of_own o3
    have c4 := hide (implNumsPack A3 z0.length d3 z0 w3.heap.size w3 rfl r3 (by omega) (Nat.le_refl _))
    have R3 := hide (R2.out.below (b3.mono s2))
    have B3 := hide (B2.out.trans (b3.mono s2))
    have s3 := B3.out.size
    have X3 := hide r3
    clear c3 R2 B2 b3 s2 o3 r3
    go_wp2_with fail
    refine c4.out.mono ?_
    rintro e w4 ⟨rfl, b4⟩
    have R4 := hide (R3.out.below (b4.mono s3))
    have B4 := hide (B3.out.trans (b4.mono s3))
    have s4 := B4.out.size
    have X4 := hide (X3.out.below b4)
    have q4 := b4.size
    have c5 := hide (toIntS_any a0 len0 cap0 z0 w.heap.size w4 HZ.out R4.out (by omega) s4)
    clear c4 R3 B3 b4 s3 X3
    go_wp2_with fail
    refine c5.out.mono ?_
    rintro e w5 ⟨A5, d5, rfl, o5, b5⟩
    have B5 := hide (B4.out.trans (b5.mono s4))
    have c6 := hide (eqIntS_any A3 A5 _ _ d3 d5 z0 z0 w3.heap.size w5.heap.size w5 rfl rfl (X4.out.below (b5.mono q4)) (Rd.of_own o5) (by omega) (by omega) (by have := b5.size; omega) (Nat.le_refl _))
    have hd : decide (z0 = z0) = true := by simp
    rw [hd] at c6
    have s5 := B5.out.size
    clear hd c5 R4 B4 b5 s4 X4 o5
    go_wp2_with fail
    refine c6.out.mono ?_
    rintro e w6 ⟨rfl, b6⟩
    go_wp2
    go_ret
    exact ⟨rfl, B5.out.trans (b6.mono s5)⟩

theorem bytes_of' {zs : List Int} (h : ∀ z ∈ zs, (Lit.int .u8 z).wf = true) : ByteL zs := fun z hz => bounds_u8 (h z hz)

set_option maxRecDepth 100000 in
set_option maxHeartbeats 1600000 in
theorem fnNumsTwo_walk (w : World) (a0 : Option Addr) (len0 cap0 : Nat) (z0 : List Int) (hz0 : z0.length = len0) (rd0 : Rd w w.heap.size 1 a0 len0 (z0.map (Value.int .u8))) (wf0 : ∀ z ∈ z0, (Lit.int .u8 z).wf = true) (lc0 : len0 ≤ cap0) (cm0 : cap0 ≤ maxLen)
    (a1 : Option Addr) (len1 cap1 : Nat) (z1 : List Int) (hz1 : z1.length = len1) (rd1 : Rd w w.heap.size 1 a1 len1 (z1.map (Value.int .u8))) (wf1 : ∀ z ∈ z1, (Lit.int .u8 z).wf = true) (lc1 : len1 ≤ cap1) (cm1 : cap1 ≤ maxLen) :
    Calls Try.prog 11 #[.slice a0 len0 cap0, .slice a1 len1 cap1] w fun e w' => e = .returned (.bool true) ∧ Below w.heap.size w w' := by
  have H1 := hide (drawNumsPack_any a0 len0 cap0 z0 w hz0 rd0 (bytes_of' wf0) lc0 cm0)
  have H2 : Hid (∀ w', Below w.heap.size w w' → Calls Try.prog 26 #[.slice a1 len1 cap1] w' (DrawnL w')) := hide (fun w' hb => drawNumsPack_any a1 len1 cap1 z1 w' hz1 ((rd1.below hb).more hb.size) (bytes_of' wf1) lc1 cm1)
  clear rd0 wf0 hz0 rd1 wf1 hz1
  unfold maxLen at cm0 cm1
  by_cases hl : 1048576 < len0
  · clear H1 H2
    go_enter Try.func11, Try.ntmps11
    go_wp2
    go_ret
    exact ⟨rfl, Below.refl _ _⟩
  · by_cases hl1 : 1048576 < len1
    · clear H1 H2
      go_enter Try.func11, Try.ntmps11
      go_wp2
      go_ret
      exact ⟨rfl, Below.refl _ _⟩
    · go_enter Try.func11, Try.ntmps11
      go_wp2_with fail
      refine H1.out.mono ?_
      rintro e w1 ⟨a, hal, A1, d1, rfl, o1, b1⟩
      have X1 := hide (Rd.of_own o1)
      have B1 := hide b1
      have C2 := hide (H2.out w1 b1)
      clear H1 H2 o1 b1
      go_wp2_with fail
      refine C2.out.mono ?_
      rintro e w2 ⟨b, hbl, A2, d2, rfl, o2, b2⟩
      have X2 := hide (Rd.of_own o2)
      have R2 := hide (X1.out.below b2)
      have B2 := hide (B1.out.trans (b2.mono B1.out.size))
      have q2 := b2.size
      have C3 := hide (implNumsPack A1 a.length d1 a w1.heap.size w2 rfl R2.out (by omega) q2)
      clear C2 o2 b2 X1 B1
      go_wp2_with fail
      refine C3.out.mono ?_
      rintro e w3 ⟨rfl, b3⟩
      have R3 := hide (R2.out.below (b3.mono q2))
      have X3 := hide (X2.out.below b3)
      have B3 := hide (B2.out.trans (b3.mono B2.out.size))
      have q3 := b3.size
      have C4 := hide (implNumsPack A2 b.length d2 b w2.heap.size w3 rfl X3.out (by omega) q3)
      clear C3 R2 X2 B2 b3
      go_wp2_with fail
      refine C4.out.mono ?_
      rintro e w4 ⟨rfl, b4⟩
      have R4 := hide (R3.out.below (b4.mono (by omega)))
      have X4 := hide (X3.out.below (b4.mono q3))
      have B4 := hide (B3.out.trans (b4.mono B3.out.size))
      have q4 := b4.size
      have C5 := hide (specNumsPack A1 a.length d1 a w1.heap.size w4 rfl R4.out (by omega) (by omega))
      clear C4 R3 X3 B3 b4
      go_wp2_with fail
      refine C5.out.mono ?_
      rintro e w5 ⟨rfl, b5⟩
      have R5 := hide (R4.out.below (b5.mono (by omega)))
      have X5 := hide (X4.out.below (b5.mono (by omega)))
      have B5 := hide (B4.out.trans (b5.mono B4.out.size))
      have q5 := b5.size
      have C6 := hide (specNumsPack A1 a.length d1 a w1.heap.size w5 rfl R5.out (by omega) (by omega))
      have C7 := hide (lyInts_any A1 A2 _ _ d1 d2 a b w1.heap.size w2.heap.size w5 rfl rfl R5.out X5.out (by omega) (by omega) (by omega) (by omega))
      clear C5 R4 X4 B4 b5 R5 X5
      by_cases ha : PN.pack a = []
      · obtain ⟨t1, t2⟩ := S_empty _ ha
        clear ha C7
        go_wp2_with fail
        refine C6.out.mono ?_
        rintro e w6 ⟨rfl, b6⟩
        have B6 := hide (B5.out.trans (b6.mono B5.out.size))
        clear t1 t2
        go_wp2
        go_ret
        exact ⟨ret_bool (by simp), B6.out⟩
      · obtain ⟨t1, t2⟩ := S_full _ ha
        by_cases hb : PN.pack b = []
        · obtain ⟨t3, t4⟩ := S_empty _ hb
          clear ha hb C7
          go_wp2_with fail
          refine C6.out.mono ?_
          rintro e w6 ⟨rfl, b6⟩
          have B6 := hide (B5.out.trans (b6.mono B5.out.size))
          clear t1 t2 t3 t4
          go_wp2
          go_ret
          exact ⟨ret_bool (by simp), B6.out⟩
        · obtain ⟨t3, t4⟩ := S_full _ hb
          have hE := hide (PN.pack_inj ha hb)
          clear ha hb C6
          go_wp2_with fail
          refine C7.out.mono ?_
          rintro e w6 ⟨rfl, b6⟩
          have B6 := hide (B5.out.trans (b6.mono B5.out.size))
          clear t1 t2 t3 t4
          go_wp2
          go_ret
          exact ⟨ret_bool (by rw [S_toList, S_toList, beq_iff_eq, Bool.eq_iff_iff]; simpa using hE.out), B6.out⟩

theorem extract_S (l : List UInt8) (a b : Nat) : (S l).extract a b = S ((l.drop a).take (b - a)) := by
  apply ByteArray.ext
  simp [S]
theorem ev_text {T p : List UInt8} (h : T = p ++ List.replicate 7 0) : (((S T).size : Int) == ((S p).size : Int) + 7) = true ∧ (S p).size ≤ (S T).size ∧ (S T).size ≤ (S p).size + 7 ∧ (((S T).extract 0 (S p).size).toList == (S p).toList) = true ∧ (((S T).extract (S p).size (S T).size).toList == [0, 0, 0, 0, 0, 0, 0]) = true := by
  subst h
  have h1 : (S (p ++ List.replicate 7 0)).size = p.length + 7 := by rw [S_size]; simp
  refine ⟨by rw [h1, S_size]; simp, by rw [h1, S_size]; omega, by rw [h1, S_size]; omega, ?_, ?_⟩
  · rw [extract_S, S_toList, S_toList, S_size, Nat.sub_zero, List.drop_zero, List.take_left]; simp
  · rw [extract_S, S_toList, h1, S_size, List.drop_left, List.take_of_length_le (by simp)]; rfl
theorem prod_bd (k : Nat) (s : Int) (hk : k ≤ 8) (hs : -7 ≤ s ∧ s ≤ 7) : -56 ≤ (k : Int) * s ∧ (k : Int) * s ≤ 56 := by
  rcases (show k = 0 ∨ k = 1 ∨ k = 2 ∨ k = 3 ∨ k = 4 ∨ k = 5 ∨ k = 6 ∨ k = 7 ∨ k = 8 from by omega) with h | h | h | h | h | h | h | h | h <;> subst h <;> omega
theorem half_bd (x : Int) (h : -999 ≤ x ∧ x ≤ 999) : -500 ≤ x.tdiv 2 ∧ x.tdiv 2 ≤ 500 := by
  rcases Int.le_total 0 x with h0 | h0
  · rw [Int.tdiv_eq_ediv_of_nonneg h0]; omega
  · have e : x.tdiv 2 = -((-x).tdiv 2) := by rw [Int.neg_tdiv]; omega
    rw [e, Int.tdiv_eq_ediv_of_nonneg (by omega)]; omega

set_option maxRecDepth 100000 in
set_option maxHeartbeats 3200000 in
theorem fnNumsEven_walk (w : World) (a0 : Option Addr) (len0 cap0 : Nat) (z0 : List Int) (hz0 : z0.length = len0) (rd0 : Rd w w.heap.size 1 a0 len0 (z0.map (Value.int .u8))) (wf0 : ∀ z ∈ z0, (Lit.int .u8 z).wf = true) (lc0 : len0 ≤ cap0) (cm0 : cap0 ≤ maxLen)
    (a1 : Option Addr) (len1 cap1 : Nat) (z1 : List Int) (hz1 : z1.length = len1) (rd1 : Rd w w.heap.size 1 a1 len1 (z1.map (Value.int .u8))) (wf1 : ∀ z ∈ z1, (Lit.int .u8 z).wf = true) (lc1 : len1 ≤ cap1) (cm1 : cap1 ≤ maxLen) :
    Calls Try.prog 10 #[.slice a0 len0 cap0, .slice a1 len1 cap1] w fun e w' => e = .returned (.bool true) ∧ Below w.heap.size w w' := by
  obtain ⟨i0, hi, hz0', hz1', hz2'⟩ := info_parts info_int
  have H1 := hide (drawNumsPack_any a0 len0 cap0 z0 w hz0 rd0 (bytes_of' wf0) lc0 cm0)
  clear rd0 wf0 hz0 rd1 wf1 hz1
  unfold maxLen at cm0 cm1
  by_cases hl : 1048576 < len0
  · clear H1
    go_enter Try.func10, Try.ntmps10
    go_wp2
    go_ret
    exact ⟨rfl, Below.refl _ _⟩
  · by_cases hl1 : 1048576 < len1
    · clear H1
      go_enter Try.func10, Try.ntmps10
      go_wp2
      go_ret
      exact ⟨rfl, Below.refl _ _⟩
    · go_enter Try.func10, Try.ntmps10
      go_wp2_with fail
      refine H1.out.mono ?_
      rintro e w1 ⟨a, hal, A1, d1, rfl, o1, b1⟩
      have X1 := hide (Rd.of_own o1)
      have B1 := hide b1
      have C2 := hide (implNumsPack A1 a.length d1 a w1.heap.size w1 rfl X1.out (by omega) (Nat.le_refl _))
      clear H1 o1 b1
      go_wp2_with fail
      refine C2.out.mono ?_
      rintro e w2 ⟨rfl, b2⟩
      have R2 := hide (X1.out.below b2)
      have B2 := hide (B1.out.trans (b2.mono B1.out.size))
      have q2 := b2.size
      have C3 := hide (specNumsPack A1 a.length d1 a w1.heap.size w2 rfl R2.out (by omega) q2)
      clear C2 b2 X1 B1
      go_wp2_with fail
      refine C3.out.mono ?_
      rintro e w3 ⟨rfl, b3⟩
      have R3 := hide (R2.out.below (b3.mono q2))
      have B3 := hide (B2.out.trans (b3.mono B2.out.size))
      have q3 := b3.size
      have C4 := hide (specNumsPack A1 a.length d1 a w1.heap.size w3 rfl R3.out (by omega) (by omega))
      clear C3 R2 B2 b3
      by_cases ha : PN.pack a = []
      · obtain ⟨t1, t2⟩ := S_empty _ ha
        clear ha
        by_cases h0 : a.length = 0
        · have : a = [] := List.eq_nil_of_length_eq_zero h0
          subst this
          clear h0
          go_wp2_with fail
          refine C4.out.mono ?_
          rintro e w4 ⟨rfl, b4⟩
          have B4 := hide (B3.out.trans (b4.mono B3.out.size))
          clear t1 t2
          go_wp2
          go_ret
          exact ⟨ret_bool (by simp), B4.out⟩
        · have hne' : ((a.length : Int) == 0) = false := beq_eq_false_iff_ne.2 (by omega)
          clear h0
          go_wp2_with fail
          refine C4.out.mono ?_
          rintro e w4 ⟨rfl, b4⟩
          have B4 := hide (B3.out.trans (b4.mono B3.out.size))
          clear t1 t2
          go_wp2
          go_ret
          exact ⟨ret_bool (by simp), B4.out⟩
      · obtain ⟨t1, t2⟩ := S_full _ ha
        have hok := PN.okB_iff.1 (PN.pack_ok ha).1
        have hne : 0 < a.length := by
          rcases Nat.eq_zero_or_pos a.length with h | h
          · exfalso
            have : a = [] := List.eq_nil_of_length_eq_zero h
            subst this
            exact ha rfl
          · exact h
        have hne' : ((a.length : Int) == 0) = false := beq_eq_false_iff_ne.2 (by omega)
        have hx := hide (num_at hok.1 hne)
        obtain ⟨x, hxe⟩ : ∃ x, x = a.getD 0 0 := ⟨_, rfl⟩
        rw [← hxe] at hx
        have hh := half_bd x hx.out
        have hs : -7 ≤ (len1 : Int) % 15 - 7 ∧ (len1 : Int) % 15 - 7 ≤ 7 := by omega
        have hO : Hid ((w3.alloc (.cells #[] 3)).ownsRow w3.heap.size 3 1 (.slice (some ⟨w3.heap.size, 0, none⟩) 0 0) 0 (ints (PN.ev (x.tdiv 2) ((len1 : Int) % 15 - 7) 0))) := hide (World.ownsRow_lit w3 #[] 0 (Nat.le_refl _) (Nat.zero_le _) rfl)
        have XE := hide hxe
        clear ha hok C4 hxe
        go_wp2
        go_loopw [8, 9] (fun s i wr => ∃ (k : Nat) (A' : Option Addr) (c' : Nat), k ≤ 9 ∧ i = .int .i64 k ∧ s = .slice A' k c' ∧ Hid (wr.ownsRow w3.heap.size 3 1 (.slice A' k c') k (ints (PN.ev (x.tdiv 2) ((len1 : Int) % 15 - 7) k))) ∧ Below w3.heap.size w3 wr) (fun _ i _ => 9 - (intOf i).toNat)
        case atStart => exact ⟨0, _, _, by omega, rfl, rfl, hO, (Below.refl _ _).alloc (Nat.le_refl _) _⟩
        case round =>
          clear hO
          obtain ⟨k, A', c', hk9, rfl, rfl, ho, hbel⟩ := hrel
          by_cases hlt : k < 9
          · obtain ⟨b, off, rfl, hb, hc⟩ := ((R3.out.more (by omega : w1.heap.size ≤ w3.heap.size)).below hbel).int rfl hne
            rw [← XE.out, Nat.add_zero] at hc
            have hp := prod_bd k _ (by omega) hs
            have ho' := ho.out
            have hsz := hbel.size
            go_wp2_with (first
              | (at_builtin; refine wpList_append_own _ rfl (.tmp 50) (.tmp 59) 29 rfl w3.heap.size 3 i0 (.int .i64 0) 1 8 Try.underlying29 hi hz0' hz1' hz2' rfl (by decide) _ _ _ rfl (ho'.alloc _) ⟨wr.heap.size, 0, none⟩ 1 1 [_] rfl rfl (one_new _ _ _) (by intro u hu; simp at hu; subst hu; rfl) (by unfold maxLen; omega) (by omega) (by simp; omega) ?_; intro v4 w4 hown4 hgrow4 _))
            have hg : (wr.alloc _).grownBy w4 (Value.ownBlock (.slice A' k c')) := hgrow4
            have hown5 : w4.ownsRow w3.heap.size 3 1 v4 (k + 1) (ints (PN.ev (x.tdiv 2) ((len1 : Int) % 15 - 7) (k + 1))) := by
              rw [PN.ev_snoc, ints_append]; exact hown4
            obtain ⟨A4, c4, hv4, ho4⟩ := own_ret hown5
            have HB := (hbel.alloc hsz _).grown hg (by simp; omega) (fun g hgg => (ho'.lt g hgg).1)
            clear hown4 hgrow4 hg hown5 ho' ho hbel hp
            go_roundw
            case rel => exact ⟨k + 1, A4, c4, by omega, by go_num, hv4, hide ho4, HB⟩
            case measure => simp [intOf]; omega
          · obtain rfl : k = 9 := by omega
            obtain ⟨_, h9, hc9⟩ : ∃ q, q = c' ∧ 9 ≤ c' := by
              obtain ⟨A5, c5, he, hcc⟩ := own_shape ho.out
              simp only [Value.slice.injEq, true_and] at he
              exact ⟨c', rfl, by omega⟩
            clear h9
            have R9 := Rd.of_own ho.out
            have R2' : Rd wr wr.heap.size 1 A' 2 (ints (PN.ev (x.tdiv 2) ((len1 : Int) % 15 - 7) 2)) := by
              refine ⟨rfl, fun _ => ?_⟩
              obtain ⟨b, off, e, hb, hcc⟩ := R9.at_ (by omega)
              refine ⟨b, off, e, hb, fun j u hu => hcc j u ?_⟩
              match j, hu with
              | 0, hu => exact hu
              | 1, hu => exact hu
            have hB9 := hide (B3.out.trans (hbel.mono B3.out.size))
            have C5 := hide (implNumsPack A' 2 c' _ wr.heap.size wr rfl R2' (by omega) (Nat.le_refl _))
            have R9' := hide R9
            have hp := hide (PN.pack_ev (x.tdiv 2) ((len1 : Int) % 15 - 7) hh hs)
            clear R9 R2' ho hbel hlt
            go_wp2_with fail
            refine C5.out.mono ?_
            rintro e w5 ⟨rfl, b5⟩
            have B5 := hide (hB9.out.trans (b5.mono hB9.out.size))
            have C6 := hide (implNumsPack A' 9 c' (PN.ev (x.tdiv 2) ((len1 : Int) % 15 - 7) 9) wr.heap.size w5 rfl (R9'.out.below b5) (by omega) b5.size)
            rw [hp.out] at C6
            have pl := PN.pack_len (PN.ev (x.tdiv 2) ((len1 : Int) % 15 - 7) 2)
            generalize PN.pack (PN.ev (x.tdiv 2) ((len1 : Int) % 15 - 7) 2) = p at C6 pl ⊢
            obtain ⟨T, hT⟩ : ∃ T, T = p ++ List.replicate 7 0 := ⟨_, rfl⟩
            rw [← hT] at C6
            obtain ⟨e1, e2, e2', e3, e4⟩ := ev_text hT
            have e6 : (S T).size ≤ 100000 := by rw [S_size, hT]; have := pl; simp; omega
            clear hB9 b5 C5 R9' hp hT
            go_wp2_with fail
            refine C6.out.mono ?_
            rintro e w6 ⟨rfl, b6⟩
            have B6 := hide (B5.out.trans (b6.mono B5.out.size))
            go_wp2
            go_ret
            exact ⟨rfl, B6.out⟩

end Go.Proofs.Ythmmcnabfmegfaa
