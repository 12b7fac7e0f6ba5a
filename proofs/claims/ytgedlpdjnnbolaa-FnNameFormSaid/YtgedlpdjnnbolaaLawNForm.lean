/-
  WALKS: the law NameForm.
-/
import Derived.Test.YtgedlpdjnnbolaaLawMore
import Derived.Test.YtgedlpdjnnbolaaDrawOk
import Derived.Test.YtgedlpdjnnbolaaPlainTags2
namespace Go.Proofs.Ytgedlpdjnnbolaa
set_option linter.unusedVariables false
open Go.RowKit

theorem Rd.take_tags {w : World} {B : Nat} {A : Option Addr} {n : Nat} {l : List PT.Tag} (h : Rd w B 2 A n (tgs l)) (hl : l.length = n) {k : Nat} (hk : k ≤ n) : Rd w B 2 A k (tgs (l.take k)) := by
  refine ⟨by rw [tgs_len]; simp; omega, fun h0 => ?_⟩
  obtain ⟨b, off, e, hb, hc⟩ := h.2 (by omega)
  refine ⟨b, off, e, hb, fun j u hu => hc j u ?_⟩
  have h1 : tgs l = tgs (l.take k) ++ tgs (l.drop k) := by rw [← tgs_append, List.take_append_drop]
  rw [h1]
  exact getElem?_appC hu
theorem Rd.drop_tags {w : World} {B b off : Nat} {n : Nat} {l : List PT.Tag} (h : Rd w B 2 (some ⟨b, off, none⟩) n (tgs l)) (hl : l.length = n) {k : Nat} (hk : k ≤ n) : Rd w B 2 (some ⟨b, off + k * 2, none⟩) (n - k) (tgs (l.drop k)) := by
  refine ⟨by rw [tgs_len]; simp; omega, fun h0 => ?_⟩
  obtain ⟨b', off', e, hb, hc⟩ := h.2 (by omega)
  injection e with e
  injection e with e1 e2 _
  subst e1 e2
  refine ⟨_, _, rfl, hb, fun j u hu => ?_⟩
  have h1 : tgs l = tgs (l.take k) ++ tgs (l.drop k) := by rw [← tgs_append, List.take_append_drop]
  have h2 : (tgs (l.take k)).length = k * 2 := by rw [tgs_len]; simp; omega
  have h3 := hc (k * 2 + j) u (by rw [h1, List.getElem?_append_right (by omega), h2, Nat.add_sub_cancel_left]; exact hu)
  rwa [Nat.add_assoc]

set_option maxRecDepth 100000 in
set_option maxHeartbeats 6400000 in
theorem fnNameForm_walk (w : World) (a0 : Option Addr) (len0 cap0 : Nat) (z0 : List Int) (hz0 : z0.length = len0) (rd0 : Rd w w.heap.size 1 a0 len0 (z0.map (Value.int .u8))) (wf0 : ∀ z ∈ z0, (Lit.int .u8 z).wf = true) (lc0 : len0 ≤ cap0) (cm0 : cap0 ≤ maxLen)
    (a1 : Option Addr) (len1 cap1 : Nat) (z1 : List Int) (hz1 : z1.length = len1) (rd1 : Rd w w.heap.size 1 a1 len1 (z1.map (Value.int .u8))) (wf1 : ∀ z ∈ z1, (Lit.int .u8 z).wf = true) (lc1 : len1 ≤ cap1) (cm1 : cap1 ≤ maxLen) :
    Calls Try.prog 4 #[.slice a0 len0 cap0, .slice a1 len1 cap1] w fun e w' => e = .returned (.bool true) ∧ Below w.heap.size w w' := by
  obtain ⟨i0, hi_, hzz0, hzz1, hzz2⟩ := info_parts info_tag
  have HD := hide (drawNameOk_any a0 len0 cap0 z0 w hz0 rd0 (bytes_ofF wf0) lc0 cm0)
  clear rd0 wf0 hz0 rd1 wf1 hz1
  unfold maxLen at cm0 cm1
  by_cases hl0 : 1048576 < len0
  · clear HD
    go_enter Try.func4, Try.ntmps4
    go_wp2
    go_ret
    exact ⟨rfl, Below.refl _ _⟩
  by_cases hl1 : 1048576 < len1
  · clear HD
    go_enter Try.func4, Try.ntmps4
    go_wp2
    go_ret
    exact ⟨rfl, Below.refl _ _⟩
  go_enter Try.func4, Try.ntmps4

  have BW := hide (Below.refl w.heap.size w)
  have C1 := HD
  go_wp2_with fail
  refine C1.out.mono ?_
  rintro e w1 ⟨A1, d1, l, rfl, hll, hsm, of, b⟩
  have s1 := b.size
  replace BW := hide (below_keep BW.out b)
  have DB := hide (OwB.of of b.size)
  clear b C1
  clear of hsm
  have C2 := hide (implNameOk A1 _ d1 l _ w1 rfl DB.out.rd (by omega) DB.out.top)
  go_wp2_with fail
  refine C2.out.mono ?_
  rintro e w2 ⟨rfl, b⟩
  have s2 := b.size
  replace BW := hide (below_keep BW.out b)
  replace DB := hide (DB.out.keep b)
  clear b C2
  have C3 := hide (specNameOk A1 _ d1 l _ w2 rfl DB.out.rd (by omega) DB.out.top)
  go_wp2_with fail
  refine C3.out.mono ?_
  rintro e w3 ⟨rfl, b⟩
  have s3 := b.size
  replace BW := hide (below_keep BW.out b)
  replace DB := hide (DB.out.keep b)
  clear b C3
  cases hb : PT.nameB l
  · have C4 := hide (specNameOk A1 _ d1 l _ w3 rfl DB.out.rd (by omega) DB.out.top)
    go_wp2_with fail
    refine C4.out.mono ?_
    rintro e w4 ⟨rfl, b⟩
    have s4 := b.size
    replace BW := hide (below_keep BW.out b)
    replace DB := hide (DB.out.keep b)
    clear b C4
    go_wp2
    go_ret
    exact ⟨ret_bool (by simp), BW.out⟩
  · have HB := hide hb
    obtain ⟨hl1', hl3⟩ : 1 ≤ l.length ∧ l.length ≤ 3 := (PT.nameB_iff.1 hb).2.2
    clear hb
    obtain ⟨W0, hW0⟩ : ∃ W0, W0 = w3 := ⟨_, rfl⟩
    subst hW0
    go_wp2
    go_loopw [7] (fun i wr => ∃ k : Nat, k + 1 ≤ l.length ∧ i = .int .i64 ((k : Int) + 1) ∧ Hid (Below W0.heap.size W0 wr)) (fun i _ => l.length - (intOf i).toNat)
    case atStart => exact ⟨0, by omega, rfl, hide (Below.refl _ _)⟩
    case round =>
      obtain ⟨k, hk, rfl, hbel⟩ := hrel
      have hsz := hbel.out.size
      by_cases hlt : k + 1 < l.length
      · obtain ⟨b, off, rfl, hb, hc⟩ := (DB.out.rd.below (hbel.out.mono DB.out.top)).tag rfl hlt
        obtain ⟨c1, c2⟩ := hc (k + 1) hlt
        obtain ⟨c3, c4⟩ := hc k (by omega)
        have hpt := PT.name_asc HB.out hlt
        generalize (l.getD k ([], [])).1 = p at c3 hpt
        generalize (l.getD (k + 1) ([], [])).1 = t at c1 hpt
        clear hc c2 c4
        have hpt' : Op.bytesLess (S p).toList (S t).toList = true := by rw [S_toList, S_toList]; exact hpt
        have e1 := ext_cell (B := wr.heap.size) c1 (Nat.le_refl _)
        have e2 := ext_cell (B := wr.heap.size) c3 (Nat.le_refl _)
        have ha1 : IntKind.i64.wrap (k : Int) = (k : Int) := IntWalk.i64_in _ (by omega)
        have hj2 : (0 : Int) ≤ (k : Int) ∧ (k : Int) < (l.length : Int) := by omega
        have hj3 : (0 : Int) ≤ (k : Int) + 1 ∧ (k : Int) + 1 < (l.length : Int) := by omega
        have hj4 : ((k : Int) + 1).toNat = k + 1 := by omega
        clear hk hpt
        go_wp2
        refine wp_region_ext wr.heap.size (by kernel_rfl) (by kernel_rfl) ?_
        repeat (go_big_quiet_step (fail))
        refine wpQuiet_nil ?_
        intro _ hw'
        obtain ⟨x, hw''⟩ := hw'
        subst hw''
        clear e1 e2 ha1 hj4 c1 c3
        go_wp2
        go_roundw
        case rel => exact ⟨k + 1, by omega, by go_num, hide (hbel.out.trans (x.is.mono hsz))⟩
        case measure => simp [intOf]; omega
      · clear hk
        obtain ⟨W1, hW1⟩ : ∃ W1, W1 = wr := ⟨_, rfl⟩
        subst hW1
        replace BW := hide (below_keep BW.out hbel.out)
        replace DB := hide (DB.out.keep hbel.out)
        clear hbel hsz
        have hz2 : ((l.length : Int) == 0) = false := beq_eq_false_iff_ne.2 (by omega)
        obtain ⟨i, hi⟩ : ∃ i : Nat, i = len1 % l.length := ⟨_, rfl⟩
        have hil : i < l.length := by rw [hi]; exact Nat.mod_lt _ (by omega)
        have hir : (len1 : Int).tmod (l.length : Int) = (i : Int) := by rw [hi, Int.tmod_eq_emod_of_nonneg (by omega)]; exact (Int.natCast_emod _ _).symm
        clear hi
        obtain ⟨g, rfl, hg0⟩ : ∃ g, A1 = some ⟨g, 0, none⟩ ∧ g < W1.heap.size := by
          rcases DB.out.own.2 with ⟨_, h0⟩ | ⟨g, cap, cur, e1, hg, hgg, _⟩
          · omega
          · injection e1 with e1
            subst e1
            exact ⟨g, rfl, (Array.getElem?_eq_some_iff.1 hgg).1⟩
        obtain ⟨_, _, _, _, hld, hdm⟩ : ∃ cap cur, cap = d1 ∧ cur = l ∧ l.length ≤ d1 ∧ d1 ≤ maxLen := by
          rcases DB.out.own.2 with ⟨_, h0⟩ | ⟨g, cap, cur, e1, hg, hgg, h5, h6, _⟩
          · omega
          · simp only [Value.slice.injEq] at e1
            obtain ⟨_, _, rfl⟩ := e1
            exact ⟨_, _, rfl, rfl, h5, h6⟩
        unfold maxLen at hdm
        obtain ⟨A2, hA2⟩ : ∃ A2, (if d1 = i + 1 then some ⟨g, 0, none⟩ else some ⟨g, (i + 1) * 2, none⟩ : Option Addr) = A2 := ⟨_, rfl⟩
        have hO : (W1.alloc (.cells #[] 27)).ownsRow W1.heap.size 27 2 (.slice (some ⟨W1.heap.size, 0, none⟩) 0 0) 0 (tgs []) := World.ownsRow_lit W1 #[] 0 (Nat.le_refl _) (Nat.zero_le _) rfl
        have hB1 : Below W1.heap.size W1 (W1.alloc (.cells #[] 27)) := (Below.refl _ _).alloc (Nat.le_refl _) _
        have hR := (DB.out.rd.more DB.out.top)
        have hX : Rd W1 W1.heap.size 2 (some ⟨g, 0, none⟩) i (tgs (l.take i)) := hR.take_tags rfl (by omega)
        have hY : Rd W1 W1.heap.size 2 A2 (l.length - (i + 1)) (tgs (l.drop (i + 1))) := by
          by_cases hd : d1 = i + 1
          · have h0 : l.length - (i + 1) = 0 := by omega
            have h1 : l.drop (i + 1) = [] := List.drop_of_length_le (by omega)
            rw [h0, h1]
            exact Rd.nil _ _ _ _
          · rw [if_neg hd] at hA2
            rw [← hA2]
            have := hR.drop_tags (k := i + 1) (off := 0) rfl (by omega)
            rwa [Nat.zero_add] at this
        have HXX := hide ((hX.below hB1).drew)
        have HYY := hide ((hY.below hB1).drew)
        have HO := hide hO.drew
        have HB1 := hide (hB1.drew)
        have hone := hide (tgs_one (l := l.take i))
        have hone' := hide (tgs_one (l := l.drop (i + 1)))
        have hlt1 : (l.take i).length = i := by simp; omega
        have hlt2 : (l.drop (i + 1)).length = l.length - (i + 1) := by simp
        have hid : i ≤ d1 := by omega
        have hid1 : i + 1 ≤ d1 := by omega
        have hw1 : IntKind.i64.wrap ((i : Int) + 1) = (i : Int) + 1 := IntWalk.i64_in _ (by omega)
        have hw2 : ((i : Int) + 1).toNat = i + 1 := by omega
        have hw3 : (0 : Int) ≤ (i : Int) + 1 ∧ (i : Int) + 1 ≤ (l.length : Int) := by omega
        clear hX hY hO hB1 hR
        go_wp2
        go_cut [9] from 58 to 67 (fun vx wx => ∃ A c, vx = .slice A (i + (l.length - (i + 1))) c ∧ Hid (wx.ownsRow W1.heap.size 27 2 (.slice A (i + (l.length - (i + 1))) c) (i + (l.length - (i + 1))) (tgs (l.take i ++ l.drop (i + 1)))) ∧ Hid (Below W1.heap.size W1 wx))
        case first =>
          go_region_law (first
            | (refine step_app rfl (.tmp 62) (.tmp 66) 31 rfl W1.heap.size 27 i0 (.agg #[.string ⟨#[]⟩, .string ⟨#[]⟩]) 2 32 Try.underlying31 hi_ hzz0 hzz1 hzz2 rfl (by decide) (.slice A4 (0 + i) c4) (0 + i) (tgs [] ++ tgs (l.take i)) (by simp [Act.eval]) o4 W1.heap.size A2 (l.length - (i + 1)) (d1 - (i + 1)) (tgs (l.drop (i + 1))) (by simp [Act.eval]) (HYY.out.below b4) hone'.out (by unfold maxLen; omega) (by omega) (Nat.le_trans (by simp) b4.size) ?_; intro A5 c5 w5 o5 b5 g5)
            | (refine step_app rfl (.tmp 58) (.tmp 61) 31 rfl W1.heap.size 27 i0 (.agg #[.string ⟨#[]⟩, .string ⟨#[]⟩]) 2 32 Try.underlying31 hi_ hzz0 hzz1 hzz2 rfl (by decide) (.slice (some ⟨W1.heap.size, 0, none⟩) 0 0) 0 (tgs []) (by simp [Act.eval]) HO.out W1.heap.size (some ⟨g, 0, none⟩) i d1 (tgs (l.take i)) (by simp [Act.eval]) HXX.out hone.out (by unfold maxLen; omega) (by omega) (by simp) ?_; intro A4 c4 w4 o4 b4 g4))
          all_goals (simp [Act.put]; go_wp2_with fail; go_meet)
          all_goals exact ⟨A5, c5, by simp, hide (by simpa [tgs, tgs_append] using o5), hide (HB1.out.trans (b4.trans b5))⟩
        case rest =>
          obtain ⟨W2, hW2⟩ : ∃ W2, W2 = wc := ⟨_, rfl⟩
          subst hW2
          obtain ⟨A9, c9, rfl, o9, b9⟩ := hcut
          clear HXX HYY HO HB1 hone hone' hw1 hw2 hw3 hlt1 hlt2 hA2 hid hid1
          replace BW := hide (below_keep BW.out b9.out)
          replace DB := hide (DB.out.keep b9.out)
          have OL := hide ((⟨Rd.of_own o9.out, Nat.le_refl _⟩ : RdB W2 W2.heap.size 2 A9 (i + (l.length - (i + 1))) (tgs (l.take i ++ l.drop (i + 1)))))
          have hlen1 : (l.take i ++ l.drop (i + 1)).length = i + (l.length - (i + 1)) := by simp; omega
          have HLN := hide hlen1
          clear o9 b9 hlen1
          obtain ⟨b, off, e0, hgb, hcells⟩ := DB.out.rd.tag rfl hil
          obtain ⟨rfl, rfl⟩ : g = b ∧ 0 = off := by injection e0 with e0; injection e0 with h1 h2; exact ⟨h1, h2⟩
          have hgW : g < W2.heap.size := Nat.lt_of_lt_of_le hgb DB.out.top
          obtain ⟨c1, c2⟩ := hcells i hil
          have HTT : Hid (PT.nameB (l.getD i ([], []) :: l) = false) := hide (PT.name_twice (by rw [PT.getD_tag hil]; exact List.getElem_mem _))
          have HLL := hide (PT.name_less HB.out i hil)
          generalize l.getD i ([], []) = y at c1 c2 HTT
          obtain ⟨t, v⟩ := y
          simp only [Nat.zero_add] at c1 c2
          clear e0 hcells
          have hO : (W2.alloc (.cells #[.string (S t), .string (S v)] 27)).ownsRow W2.heap.size 27 2 (.slice (some ⟨W2.heap.size, 0, none⟩) 1 1) 1 (tgs [(t, v)]) := World.ownsRow_lit W2 #[.string (S t), .string (S v)] 1 (Nat.le_refl _) (by unfold maxLen; omega) rfl
          have hB : Below W2.heap.size W2 (W2.alloc (.cells #[.string (S t), .string (S v)] 27)) := (Below.refl _ _).alloc (Nat.le_refl _) _
          have hR := (DB.out.rd.more DB.out.top).below hB
          have hone := hide (tgs_one (l := l))
          have BX := hide hB
          go_wp2_with (first
            | (at_builtin; refine wpList_app _ rfl (.tmp 72) (.tmp 73) 31 rfl W2.heap.size 27 i0 (.agg #[.string ⟨#[]⟩, .string ⟨#[]⟩]) 2 32 Try.underlying31 hi_ hzz0 hzz1 hzz2 rfl (by decide) _ _ _ rfl hO W2.heap.size _ _ _ (tgs l) rfl hR hone.out (by unfold maxLen; omega) (by omega) (by simp) ?_; intro A4 c4 w4 o4 b4))
          have BY := hide (BX.out.trans b4)
          have o5' : w4.ownsRow W2.heap.size 27 2 (.slice A4 (1 + l.length) c4) (1 + l.length) (tgs ((t, v) :: l)) := by simpa [tgs] using o4
          have s5 := BY.out.size
          have OB := hide o5'
          clear o5' hO hB hR BX b4 o4 c1 c2
          replace BW := hide (below_keep BW.out BY.out)
          replace DB := hide (DB.out.keep BY.out)
          replace OL := hide (OL.out.keep BY.out)
          have OV := hide ((⟨Rd.of_own OB.out, Nat.le_refl _⟩ : RdB w4 w4.heap.size 2 A4 (1 + l.length) (tgs ((t, v) :: l))))
          clear OB BY
          obtain ⟨X, hX⟩ : ∃ X, X = decide (1 < l.length) := ⟨_, rfl⟩
          have hd : decide ((1 : Int) < (l.length : Int)) = X := by rw [hX]; exact decide_eq_decide.2 (by omega)
          have hXX : (X == X) = true := beq_self_eq_true _
          have HL2 := hide (HLL.out.trans hX.symm)
          have h33 : decide ((l.length : Int) ≤ 3) = true := decide_eq_true (by omega)
          clear hX
          have C6 := hide (implNameOk A9 _ c9 (l.take i ++ l.drop (i + 1)) _ w4 HLN.out OL.out.rd (by omega) OL.out.le)
          rw [HL2.out] at C6
          go_wp2_with fail
          refine C6.out.mono ?_
          rintro e w6 ⟨rfl, b⟩
          have s6 := b.size
          replace BW := hide (below_keep BW.out b)
          replace DB := hide (DB.out.keep b)
          replace OL := hide (OL.out.keep b)
          replace OV := hide (OV.out.keep b)
          clear b C6
          have C7 := hide (implNameOk A4 _ c4 ((t, v) :: l) _ w6 (by simp; omega) OV.out.rd (by omega) OV.out.le)
          rw [HTT.out] at C7
          go_wp2_with fail
          refine C7.out.mono ?_
          rintro e w7 ⟨rfl, b⟩
          have s7 := b.size
          replace BW := hide (below_keep BW.out b)
          replace DB := hide (DB.out.keep b)
          replace OL := hide (OL.out.keep b)
          replace OV := hide (OV.out.keep b)
          clear b C7
          have C8 := hide (implNameOk none 0 0 [] 0 w7 rfl (Rd.nil _ _ _ _) (by omega) (by omega))
          rw [PT.nameB_nil] at C8
          go_wp2_with fail
          refine C8.out.mono ?_
          rintro e w8 ⟨rfl, b⟩
          have s8 := b.size
          replace BW := hide (below_keep BW.out b)
          replace DB := hide (DB.out.keep b)
          replace OL := hide (OL.out.keep b)
          replace OV := hide (OV.out.keep b)
          clear b C8
          go_wp2
          go_ret
          exact ⟨rfl, BW.out⟩

end Go.Proofs.Ytgedlpdjnnbolaa
