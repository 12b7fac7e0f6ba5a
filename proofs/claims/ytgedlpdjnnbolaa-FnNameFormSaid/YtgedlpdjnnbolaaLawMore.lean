/-
  WALKS: the law FitsMore.
-/
import Derived.Test.YtgedlpdjnnbolaaLawOrder
namespace Go.Proofs.Ytgedlpdjnnbolaa
set_option linter.unusedVariables false
open Go.RowKit

theorem getElem?_appC {xs ys : List Value} {j : Nat} {u : Value} (h : xs[j]? = some u) : (xs ++ ys)[j]? = some u := by
  rw [List.getElem?_append_left (List.getElem?_eq_some_iff.1 h).1]; exact h
theorem Rd.take_conds {w : World} {B : Nat} {A : Option Addr} {n : Nat} {l : List PT.Cond} (h : Rd w B 3 A n (cnds l)) (hl : l.length = n) {k : Nat} (hk : k ≤ n) : Rd w B 3 A k (cnds (l.take k)) := by
  refine ⟨by rw [cnds_len]; simp; omega, fun h0 => ?_⟩
  obtain ⟨b, off, e, hb, hc⟩ := h.2 (by omega)
  refine ⟨b, off, e, hb, fun j u hu => hc j u ?_⟩
  have h1 : cnds l = cnds (l.take k) ++ cnds (l.drop k) := by rw [← cnds_append, List.take_append_drop]
  rw [h1]
  exact getElem?_appC hu
theorem Rd.drop_conds {w : World} {B b off : Nat} {n : Nat} {l : List PT.Cond} (h : Rd w B 3 (some ⟨b, off, none⟩) n (cnds l)) (hl : l.length = n) {k : Nat} (hk : k ≤ n) : Rd w B 3 (some ⟨b, off + k * 3, none⟩) (n - k) (cnds (l.drop k)) := by
  refine ⟨by rw [cnds_len]; simp; omega, fun h0 => ?_⟩
  obtain ⟨b', off', e, hb, hc⟩ := h.2 (by omega)
  injection e with e
  injection e with e1 e2 _
  subst e1 e2
  refine ⟨_, _, rfl, hb, fun j u hu => ?_⟩
  have h1 : cnds l = cnds (l.take k) ++ cnds (l.drop k) := by rw [← cnds_append, List.take_append_drop]
  have h2 : (cnds (l.take k)).length = k * 3 := by rw [cnds_len]; simp; omega
  have h3 := hc (k * 3 + j) u (by rw [h1, List.getElem?_append_right (by omega), h2, Nat.add_sub_cancel_left]; exact hu)
  rwa [Nat.add_assoc]
theorem fits_less {f : List PT.Cond} {z : List PT.Tag} (h : PT.fitsB f z = true) (k : Nat) : PT.fitsB (f.take k ++ f.drop (k + 1)) z = true := by
  unfold PT.fitsB PT.filterB PT.fits at h ⊢
  simp only [Bool.and_eq_true, List.all_eq_true, decide_eq_true_eq] at h ⊢
  obtain ⟨⟨⟨h1, h2⟩, h3⟩, h4⟩ := h
  have hm : ∀ x, x ∈ f.take k ++ f.drop (k + 1) → x ∈ f := fun x hx => by
    rcases List.mem_append.1 hx with h | h
    · exact List.mem_of_mem_take h
    · exact List.mem_of_mem_drop h
  exact ⟨⟨⟨fun x hx => h1 x (hm x hx), by simp; omega⟩, h3⟩, fun x hx => h4 x (hm x hx)⟩
theorem fits_one {c : PT.Tag} {q : Bool} {z : List PT.Tag} (h1 : PT.tagB c = true) (h2 : PT.nameB z = true) : PT.fitsB [(c, q)] z = (PT.has z c != q) := by
  unfold PT.fitsB PT.filterB PT.fits
  rw [h2]
  simp [h1]

set_option maxRecDepth 100000 in
set_option maxHeartbeats 6400000 in
theorem fnFitsMore_walk (w : World) (a0 : Option Addr) (len0 cap0 : Nat) (z0 : List Int) (hz0 : z0.length = len0) (rd0 : Rd w w.heap.size 1 a0 len0 (z0.map (Value.int .u8))) (wf0 : ∀ z ∈ z0, (Lit.int .u8 z).wf = true) (lc0 : len0 ≤ cap0) (cm0 : cap0 ≤ maxLen)
    (a1 : Option Addr) (len1 cap1 : Nat) (z1 : List Int) (hz1 : z1.length = len1) (rd1 : Rd w w.heap.size 1 a1 len1 (z1.map (Value.int .u8))) (wf1 : ∀ z ∈ z1, (Lit.int .u8 z).wf = true) (lc1 : len1 ≤ cap1) (cm1 : cap1 ≤ maxLen) :
    Calls Try.prog 7 #[.slice a0 len0 cap0, .slice a1 len1 cap1] w fun e w' => e = .returned (.bool true) ∧ Below w.heap.size w w' := by
  obtain ⟨i0, hi_, hzz0, hzz1, hzz2⟩ := info_parts info_cond
  have HD := hide (drawFilterFits_any a0 len0 cap0 z0 w hz0 rd0 (bytes_ofF wf0) lc0 cm0)
  clear rd0 wf0 hz0 rd1 wf1 hz1
  unfold maxLen at cm0 cm1
  by_cases hl0 : 1048576 < len0
  · clear HD
    go_enter Try.func7, Try.ntmps7
    go_wp2
    go_ret
    exact ⟨rfl, Below.refl _ _⟩
  by_cases hl1 : 1048576 < len1
  · clear HD
    go_enter Try.func7, Try.ntmps7
    go_wp2
    go_ret
    exact ⟨rfl, Below.refl _ _⟩
  go_enter Try.func7, Try.ntmps7
  have BW := hide (Below.refl w.heap.size w)
  have C1 := HD
  go_wp2_with fail
  refine C1.out.mono ?_
  rintro e w1 ⟨f, z, P1, q1, P2, q2, rfl, hlf, hlz, of, oz, b⟩
  have s1 := b.size
  replace BW := hide (below_keep BW.out b)
  have DF := hide (OwB.of of b.size)
  have DZ := hide ((⟨Rd.of_own oz, Nat.le_refl _⟩ : RdB w1 w1.heap.size 2 P2 z.length (tgs z)))
  clear b C1
  clear of oz
  have C2 := hide (implFilterFits P1 P2 _ _ q1 q2 f z _ _ w1 rfl rfl DF.out.rd DZ.out.rd (by omega) (by omega) DF.out.top DZ.out.le)
  go_wp2_with fail
  refine C2.out.mono ?_
  rintro e w2 ⟨rfl, b⟩
  have s2 := b.size
  replace BW := hide (below_keep BW.out b)
  replace DF := hide (DF.out.keep b)
  replace DZ := hide (DZ.out.keep b)
  clear b C2
  have C3 := hide (specFilterFits P1 P2 _ _ q1 q2 f z _ _ w2 rfl rfl DF.out.rd DZ.out.rd (by omega) (by omega) DF.out.top DZ.out.le)
  go_wp2_with fail
  refine C3.out.mono ?_
  rintro e w3 ⟨rfl, b⟩
  have s3 := b.size
  replace BW := hide (below_keep BW.out b)
  replace DF := hide (DF.out.keep b)
  replace DZ := hide (DZ.out.keep b)
  clear b C3
  obtain ⟨X, hX⟩ : ∃ X, X = PT.fitsB f z := ⟨_, rfl⟩
  have HX := hide hX
  rw [← hX]
  clear hX
  have C4 := hide (specFilterOk P1 _ q1 f _ w3 rfl DF.out.rd (by omega) DF.out.top)
  go_wp2_with fail
  refine C4.out.mono ?_
  rintro e w4 ⟨rfl, b⟩
  have s4 := b.size
  replace BW := hide (below_keep BW.out b)
  replace DF := hide (DF.out.keep b)
  replace DZ := hide (DZ.out.keep b)
  clear b C4
  cases hf : PT.filterB f
  · clear hf
    have C5 := hide (specFilterFits P1 P2 _ _ q1 q2 f z _ _ w4 rfl rfl DF.out.rd DZ.out.rd (by omega) (by omega) DF.out.top DZ.out.le)
    go_wp2_with fail
    refine C5.out.mono ?_
    rintro e w5 ⟨rfl, b⟩
    have s5 := b.size
    replace BW := hide (below_keep BW.out b)
    replace DF := hide (DF.out.keep b)
    replace DZ := hide (DZ.out.keep b)
    clear b C5
    go_wp2
    go_ret
    exact ⟨ret_bool (by rw [HX.out]; simp), BW.out⟩
  · have HF := hide hf
    clear hf
    have C5 := hide (specNameOk P2 _ q2 z _ w4 rfl DZ.out.rd (by omega) DZ.out.le)
    go_wp2_with fail
    refine C5.out.mono ?_
    rintro e w5 ⟨rfl, b⟩
    have s5 := b.size
    replace BW := hide (below_keep BW.out b)
    replace DF := hide (DF.out.keep b)
    replace DZ := hide (DZ.out.keep b)
    clear b C5
    cases hz : PT.nameB z
    · clear hz
      have C6 := hide (specFilterFits P1 P2 _ _ q1 q2 f z _ _ w5 rfl rfl DF.out.rd DZ.out.rd (by omega) (by omega) DF.out.top DZ.out.le)
      go_wp2_with fail
      refine C6.out.mono ?_
      rintro e w6 ⟨rfl, b⟩
      have s6 := b.size
      replace BW := hide (below_keep BW.out b)
      replace DF := hide (DF.out.keep b)
      replace DZ := hide (DZ.out.keep b)
      clear b C6
      go_wp2
      go_ret
      exact ⟨ret_bool (by rw [HX.out]; simp), BW.out⟩
    · have HZ := hide hz
      clear hz
      by_cases h0 : f.length = 0
      · have hz2 : ((f.length : Int) == 0) = true := by rw [h0]; rfl
        clear h0
        have C6 := hide (specFilterFits P1 P2 _ _ q1 q2 f z _ _ w5 rfl rfl DF.out.rd DZ.out.rd (by omega) (by omega) DF.out.top DZ.out.le)
        go_wp2_with fail
        refine C6.out.mono ?_
        rintro e w6 ⟨rfl, b⟩
        have s6 := b.size
        replace BW := hide (below_keep BW.out b)
        replace DF := hide (DF.out.keep b)
        replace DZ := hide (DZ.out.keep b)
        clear b C6
        go_wp2
        go_ret
        exact ⟨ret_bool (by rw [HX.out]; simp), BW.out⟩
      · have hz2 : ((f.length : Int) == 0) = false := beq_eq_false_iff_ne.2 (by omega)
        obtain ⟨W1, hW1⟩ : ∃ W1, W1 = w5 := ⟨_, rfl⟩
        subst hW1
        obtain ⟨i, hi⟩ : ∃ i : Nat, i = len1 % f.length := ⟨_, rfl⟩
        have hil : i < f.length := by rw [hi]; exact Nat.mod_lt _ (by omega)
        have hir : (len1 : Int).tmod (f.length : Int) = (i : Int) := by rw [hi, Int.tmod_eq_emod_of_nonneg (by omega)]; exact (Int.natCast_emod _ _).symm
        clear hi
        obtain ⟨g, rfl, hg0⟩ : ∃ g, P1 = some ⟨g, 0, none⟩ ∧ g < W1.heap.size := by
          rcases DF.out.own.2 with ⟨_, h0⟩ | ⟨g, cap, cur, e1, hg, hgg, _⟩
          · omega
          · injection e1 with e1
            subst e1
            exact ⟨g, rfl, (Array.getElem?_eq_some_iff.1 hgg).1⟩
        obtain ⟨_, _, _, _, hld, hdm⟩ : ∃ cap cur, cap = q1 ∧ cur = f ∧ f.length ≤ q1 ∧ q1 ≤ maxLen := by
          rcases DF.out.own.2 with ⟨_, h0⟩ | ⟨g, cap, cur, e1, hg, hgg, h5, h6, _⟩
          · omega
          · simp only [Value.slice.injEq] at e1
            obtain ⟨_, _, rfl⟩ := e1
            exact ⟨_, _, rfl, rfl, h5, h6⟩
        unfold maxLen at hdm
        obtain ⟨A2, hA2⟩ : ∃ A2, (if q1 = i + 1 then some ⟨g, 0, none⟩ else some ⟨g, (i + 1) * 3, none⟩ : Option Addr) = A2 := ⟨_, rfl⟩
        have hO : (W1.alloc (.cells #[] 29)).ownsRow W1.heap.size 29 3 (.slice (some ⟨W1.heap.size, 0, none⟩) 0 0) 0 (cnds []) := World.ownsRow_lit W1 #[] 0 (Nat.le_refl _) (Nat.zero_le _) rfl
        have hB1 : Below W1.heap.size W1 (W1.alloc (.cells #[] 29)) := (Below.refl _ _).alloc (Nat.le_refl _) _
        have hR := (DF.out.rd.more DF.out.top)
        have hX : Rd W1 W1.heap.size 3 (some ⟨g, 0, none⟩) i (cnds (f.take i)) := hR.take_conds rfl (by omega)
        have hY : Rd W1 W1.heap.size 3 A2 (f.length - (i + 1)) (cnds (f.drop (i + 1))) := by
          by_cases hd : q1 = i + 1
          · have h0 : f.length - (i + 1) = 0 := by omega
            have h1 : f.drop (i + 1) = [] := List.drop_of_length_le (by omega)
            rw [h0, h1]
            exact Rd.nil _ _ _ _
          · rw [if_neg hd] at hA2
            rw [← hA2]
            have := hR.drop_conds (k := i + 1) (off := 0) rfl (by omega)
            rwa [Nat.zero_add] at this
        have HXX := hide ((hX.below hB1).drew)
        have HYY := hide ((hY.below hB1).drew)
        have HO := hide hO.drew
        have HB1 := hide (hB1.drew)
        have hone := hide (cnds_one (l := f.take i))
        have hone' := hide (cnds_one (l := f.drop (i + 1)))
        have hlt1 : (f.take i).length = i := by simp; omega
        have hlt2 : (f.drop (i + 1)).length = f.length - (i + 1) := by simp
        have hid : i ≤ q1 := by omega
        have hid1 : i + 1 ≤ q1 := by omega
        have hw1 : IntKind.i64.wrap ((i : Int) + 1) = (i : Int) + 1 := IntWalk.i64_in _ (by omega)
        have hw2 : ((i : Int) + 1).toNat = i + 1 := by omega
        have hw3 : (0 : Int) ≤ (i : Int) + 1 ∧ (i : Int) + 1 ≤ (f.length : Int) := by omega
        clear hX hY hO hB1 hR h0
        go_wp2
        go_cut [9] from 58 to 67 (fun v wx => ∃ A c, v = .slice A (i + (f.length - (i + 1))) c ∧ Hid (wx.ownsRow W1.heap.size 29 3 (.slice A (i + (f.length - (i + 1))) c) (i + (f.length - (i + 1))) (cnds (f.take i ++ f.drop (i + 1)))) ∧ Hid (Below W1.heap.size W1 wx))
        case first =>
          go_region_law (first
            | (refine step_app rfl (.tmp 62) (.tmp 66) 23 rfl W1.heap.size 29 i0 (.agg #[.string ⟨#[]⟩, .string ⟨#[]⟩, .bool false]) 3 40 Try.underlying23 hi_ hzz0 hzz1 hzz2 rfl (by decide) (.slice A4 (0 + i) c4) (0 + i) (cnds [] ++ cnds (f.take i)) (by simp [Act.eval]) o4 W1.heap.size A2 (f.length - (i + 1)) (q1 - (i + 1)) (cnds (f.drop (i + 1))) (by simp [Act.eval]) (HYY.out.below b4) hone'.out (by unfold maxLen; omega) (by omega) (Nat.le_trans (by simp) b4.size) ?_; intro A5 c5 w5 o5 b5 g5)
            | (refine step_app rfl (.tmp 58) (.tmp 61) 23 rfl W1.heap.size 29 i0 (.agg #[.string ⟨#[]⟩, .string ⟨#[]⟩, .bool false]) 3 40 Try.underlying23 hi_ hzz0 hzz1 hzz2 rfl (by decide) (.slice (some ⟨W1.heap.size, 0, none⟩) 0 0) 0 (cnds []) (by simp [Act.eval]) HO.out W1.heap.size (some ⟨g, 0, none⟩) i q1 (cnds (f.take i)) (by simp [Act.eval]) HXX.out hone.out (by unfold maxLen; omega) (by omega) (by simp) ?_; intro A4 c4 w4 o4 b4 g4))
          all_goals (simp [Act.put]; go_wp2_with fail; go_meet)
          all_goals exact ⟨A5, c5, by simp, hide (by simpa [cnds, cnds_append] using o5), hide (HB1.out.trans (b4.trans b5))⟩
        case rest =>
          obtain ⟨W2, hW2⟩ : ∃ W2, W2 = wc := ⟨_, rfl⟩
          subst hW2
          obtain ⟨A9, c9, rfl, o9, b9⟩ := hcut
          clear HXX HYY HO HB1 hone hone' hw1 hw2 hw3 hlt1 hlt2 hA2 hid hid1
          replace BW := hide (below_keep BW.out b9.out)
          replace DF := hide (DF.out.keep b9.out)
          replace DZ := hide (DZ.out.keep b9.out)
          have OL := hide ((⟨Rd.of_own o9.out, Nat.le_refl _⟩ : RdB W2 W2.heap.size 3 A9 (i + (f.length - (i + 1))) (cnds (f.take i ++ f.drop (i + 1)))))
          have hlen1 : (f.take i ++ f.drop (i + 1)).length = i + (f.length - (i + 1)) := by simp; omega
          have HLN := hide hlen1
          clear o9 b9 hlen1
          obtain ⟨b, off, e0, hgb, hcells⟩ := DF.out.rd.cond rfl hil
          obtain ⟨rfl, rfl⟩ : g = b ∧ 0 = off := by injection e0 with e0; injection e0 with h1 h2; exact ⟨h1, h2⟩
          have hgW : g < W2.heap.size := Nat.lt_of_lt_of_le hgb DF.out.top
          obtain ⟨c1, c2, c3⟩ := hcells i hil
          have HTG : Hid (PT.tagB (f.getD i (([], []), false)).1 = true) := hide (by
            have := HF.out
            unfold PT.filterB at this
            rw [Bool.and_eq_true, List.all_eq_true] at this
            exact this.1 _ (by rw [PT.getD_cond hil]; exact List.getElem_mem _))
          generalize f.getD i (([], []), false) = y at c1 c2 c3 HTG
          obtain ⟨⟨t, v⟩, q⟩ := y
          simp only [Nat.zero_add] at c1 c2 c3
          have F1 := hide (fun q' => fits_one (q := q') HTG.out HZ.out)
          clear e0 hcells HTG
          have O1 := hide ((World.ownsRow_lit W2 #[.string (S t), .string (S v), .bool q] 1 (Nat.le_refl _) (by unfold maxLen; omega) rfl : (W2.alloc (.cells #[.string (S t), .string (S v), .bool q] 29)).ownsRow W2.heap.size 29 3 (.slice (some ⟨W2.heap.size, 0, none⟩) 1 1) 1 (cnds [((t, v), q)])))
          have BA : Hid (Below W2.heap.size W2 (W2.alloc (.cells #[.string (S t), .string (S v), .bool q] 29))) := hide ((Below.refl _ _).alloc (Nat.le_refl _) _)
          have k1 := (BA.out.cell (p := ⟨g, i * 3, none⟩) hgW).trans c1
          have k2 := (BA.out.cell (p := ⟨g, i * 3 + 1, none⟩) hgW).trans c2
          have k3 := (BA.out.cell (p := ⟨g, i * 3 + 2, none⟩) hgW).trans c3
          go_wp2
          replace BW := hide (below_keep BW.out BA.out)
          replace DF := hide (DF.out.keep BA.out)
          replace DZ := hide (DZ.out.keep BA.out)
          replace OL := hide (OL.out.keep BA.out)
          have OA := hide ((⟨Rd.of_own O1.out, Nat.le_refl _⟩ : RdB (W2.alloc (.cells #[.string (S t), .string (S v), .bool q] 29)) (W2.alloc (.cells #[.string (S t), .string (S v), .bool q] 29)).heap.size 3 (some ⟨W2.heap.size, 0, none⟩) 1 (cnds [((t, v), q)])))
          clear O1 BA c1 c2 c3
          generalize hW3 : W2.alloc (.cells #[.string (S t), .string (S v), .bool q] 29) = W3 at *
          obtain ⟨a9, ha9⟩ : ∃ a9, a9 = W2.heap.size := ⟨_, rfl⟩
          rw [← ha9] at OA ⊢
          clear hW3 ha9 hgW
          have hgW : g < W3.heap.size := Nat.lt_of_lt_of_le hgb DF.out.top
          go_cut [11] from 73 to 85 (fun vx wx => ∃ A c, vx = .slice A 1 c ∧ Hid (wx.ownsRow W3.heap.size 29 3 (.slice A 1 c) 1 (cnds [((t, v), !q)])) ∧ Hid (Below W3.heap.size W3 wx))
          case first =>
            go_region
            all_goals (go_wp2_with fail; go_meet)
            all_goals exact ⟨some ⟨W3.heap.size, 0, none⟩, 1, rfl, hide ((World.ownsRow_lit W3 #[.string (S t), .string (S v), .bool !q] 1 (Nat.le_refl _) (by unfold maxLen; omega) rfl : (W3.alloc (.cells #[.string (S t), .string (S v), .bool !q] 29)).ownsRow W3.heap.size 29 3 (.slice (some ⟨W3.heap.size, 0, none⟩) 1 1) 1 (cnds [((t, v), !q)])).drew), hide (((Below.refl _ _).alloc (Nat.le_refl _) _).drew)⟩
          case rest =>
            obtain ⟨W4, hW4⟩ : ∃ W4, W4 = wc := ⟨_, rfl⟩
            subst hW4
            obtain ⟨A8, c8, rfl, o8, b8⟩ := hcut
            clear k1 k2 k3
            replace BW := hide (below_keep BW.out b8.out)
            replace DF := hide (DF.out.keep b8.out)
            replace DZ := hide (DZ.out.keep b8.out)
            replace OL := hide (OL.out.keep b8.out)
            replace OA := hide (OA.out.keep b8.out)
            have OX := hide ((⟨Rd.of_own o8.out, Nat.le_refl _⟩ : RdB W4 W4.heap.size 3 A8 1 (cnds [((t, v), !q)])))
            clear o8 b8
            cases X
            · have C6 := hide (implFilterFits (some ⟨a9, 0, none⟩) P2 1 _ 1 q2 [((t, v), q)] z _ _ W4 (rfl) rfl OA.out.rd DZ.out.rd (by omega) (by omega) OA.out.le DZ.out.le)
              rw [F1.out] at C6
              go_wp2_with fail
              refine C6.out.mono ?_
              rintro e w6 ⟨rfl, b⟩
              have s6 := b.size
              replace BW := hide (below_keep BW.out b)
              replace DF := hide (DF.out.keep b)
              replace DZ := hide (DZ.out.keep b)
              replace OL := hide (OL.out.keep b)
              replace OA := hide (OA.out.keep b)
              replace OX := hide (OX.out.keep b)
              clear b C6
              have C7 := hide (implFilterFits A8 P2 1 _ c8 q2 [((t, v), !q)] z _ _ w6 (rfl) rfl OX.out.rd DZ.out.rd (by omega) (by omega) OX.out.le DZ.out.le)
              rw [F1.out] at C7
              go_wp2_with fail
              refine C7.out.mono ?_
              rintro e w7 ⟨rfl, b⟩
              have s7 := b.size
              replace BW := hide (below_keep BW.out b)
              replace DF := hide (DF.out.keep b)
              replace DZ := hide (DZ.out.keep b)
              replace OL := hide (OL.out.keep b)
              replace OA := hide (OA.out.keep b)
              replace OX := hide (OX.out.keep b)
              clear b C7
              generalize PT.has z (t, v) = hs
              go_wp2
              go_ret
              exact ⟨ret_bool (by cases hs <;> cases q <;> rfl), BW.out⟩
            · have HLS := hide (fits_less (f := f) (z := z) HX.out.symm i)
              have C6 := hide (implFilterFits A9 P2 _ _ c9 q2 (f.take i ++ f.drop (i + 1)) z _ _ W4 (HLN.out) rfl OL.out.rd DZ.out.rd (by omega) (by omega) OL.out.le DZ.out.le)
              rw [HLS.out] at C6
              go_wp2_with fail
              refine C6.out.mono ?_
              rintro e w6 ⟨rfl, b⟩
              have s6 := b.size
              replace BW := hide (below_keep BW.out b)
              replace DF := hide (DF.out.keep b)
              replace DZ := hide (DZ.out.keep b)
              replace OL := hide (OL.out.keep b)
              replace OA := hide (OA.out.keep b)
              replace OX := hide (OX.out.keep b)
              clear b C6
              have C7 := hide (implFilterFits (some ⟨a9, 0, none⟩) P2 1 _ 1 q2 [((t, v), q)] z _ _ w6 (rfl) rfl OA.out.rd DZ.out.rd (by omega) (by omega) OA.out.le DZ.out.le)
              rw [F1.out] at C7
              go_wp2_with fail
              refine C7.out.mono ?_
              rintro e w7 ⟨rfl, b⟩
              have s7 := b.size
              replace BW := hide (below_keep BW.out b)
              replace DF := hide (DF.out.keep b)
              replace DZ := hide (DZ.out.keep b)
              replace OL := hide (OL.out.keep b)
              replace OA := hide (OA.out.keep b)
              replace OX := hide (OX.out.keep b)
              clear b C7
              have C8 := hide (implFilterFits A8 P2 1 _ c8 q2 [((t, v), !q)] z _ _ w7 (rfl) rfl OX.out.rd DZ.out.rd (by omega) (by omega) OX.out.le DZ.out.le)
              rw [F1.out] at C8
              go_wp2_with fail
              refine C8.out.mono ?_
              rintro e w8 ⟨rfl, b⟩
              have s8 := b.size
              replace BW := hide (below_keep BW.out b)
              replace DF := hide (DF.out.keep b)
              replace DZ := hide (DZ.out.keep b)
              replace OL := hide (OL.out.keep b)
              replace OA := hide (OA.out.keep b)
              replace OX := hide (OX.out.keep b)
              clear b C8
              generalize PT.has z (t, v) = hs
              go_wp2
              go_ret
              exact ⟨ret_bool (by cases hs <;> cases q <;> rfl), BW.out⟩

end Go.Proofs.Ytgedlpdjnnbolaa
