/-
  WALKS: the law FitsOrder.
-/
import Derived.Test.YtgedlpdjnnbolaaLawFits2
import Derived.Test.YtgedlpdjnnbolaaAppStep
import Derived.Test.YtgedlpdjnnbolaaAppend
import Derived.Deep.Cut
import Derived.Deep.CutRange
namespace Go.Proofs.Ytgedlpdjnnbolaa
set_option linter.unusedVariables false
open Go.RowKit

theorem Rd.keep2c {w w' : World} {B size n : Nat} {A : Option Addr} {xs : List Value} {row : Option Nat} (h : Rd w B size A n xs) (g : w.grownBy w' row) (hB : ∀ b off, A = some ⟨b, off, none⟩ → b < w.heap.size ∧ some b ≠ row) : Rd w' B size A n xs := by
  refine ⟨h.1, fun hn => ?_⟩
  obtain ⟨b, off, e, hb, hc⟩ := h.2 hn
  refine ⟨b, off, e, hb, fun j u hu => ?_⟩
  obtain ⟨h1, h2⟩ := hB b off e
  exact (World.cell?_of_block (w := w) (a := ⟨b, off + j, none⟩) (g.block b h1 h2)).trans (hc j u hu)
theorem fits_rev (f : List PT.Cond) (z : List PT.Tag) : PT.fitsB f.reverse z = PT.fitsB f z := by
  unfold PT.fitsB PT.filterB PT.fits
  simp
theorem fits_twice {f : List PT.Cond} {z : List PT.Tag} (h0 : 0 < f.length) (h2 : f.length ≤ 2) : PT.fitsB (f ++ [f.getD 0 (([], []), false)]) z = PT.fitsB f z := by
  match f, h0 with
  | x :: r, _ =>
    simp only [List.length_cons] at h2
    have e1 : decide ((x :: r ++ [(x :: r).getD 0 (([], []), false)]).length ≤ 3) = true := decide_eq_true (by simp; omega)
    have e2 : decide ((x :: r).length ≤ 3) = true := decide_eq_true (by simp; omega)
    unfold PT.fitsB PT.filterB PT.fits
    rw [e1, e2]
    simp only [List.getD_cons_zero, List.all_append, List.all_cons, List.all_nil, Bool.and_true]
    cases PT.tagB x.1 <;> cases (PT.has z x.1 != x.2) <;> simp
theorem rev_snoc {f : List PT.Cond} {m j : Nat} (h : m + 1 + j = f.length) : cnds (f.reverse.take j) ++ [.string (S (f.getD m (([], []), false)).1.1), .string (S (f.getD m (([], []), false)).1.2), .bool (f.getD m (([], []), false)).2] = cnds (f.reverse.take (j + 1)) := by
  have hj : j < f.reverse.length := by rw [List.length_reverse]; omega
  rw [List.take_succ_eq_append_getElem hj, cnds_append, List.getElem_reverse]
  have e : f.length - 1 - j = m := by omega
  rw [PT.getD_cond (by omega)]
  simp only [e]
  rfl

set_option maxRecDepth 100000 in
set_option maxHeartbeats 6400000 in
theorem fnFitsOrder_walk (w : World) (a0 : Option Addr) (len0 cap0 : Nat) (z0 : List Int) (hz0 : z0.length = len0) (rd0 : Rd w w.heap.size 1 a0 len0 (z0.map (Value.int .u8))) (wf0 : ∀ z ∈ z0, (Lit.int .u8 z).wf = true) (lc0 : len0 ≤ cap0) (cm0 : cap0 ≤ maxLen) :
    Calls Try.prog 8 #[.slice a0 len0 cap0] w fun e w' => e = .returned (.bool true) ∧ Below w.heap.size w w' := by
  obtain ⟨i0, hi_, hzz0, hzz1, hzz2⟩ := info_parts info_cond
  have HD := hide (drawFilterFits_any a0 len0 cap0 z0 w hz0 rd0 (bytes_ofF wf0) lc0 cm0)
  clear rd0 wf0 hz0
  unfold maxLen at cm0
  by_cases hl0 : 1048576 < len0
  · clear HD
    go_enter Try.func8, Try.ntmps8
    go_wp2
    go_ret
    exact ⟨rfl, Below.refl _ _⟩
  go_enter Try.func8, Try.ntmps8
  have BW := hide (Below.refl w.heap.size w)
  have C1 := HD
  go_wp2_with fail
  refine C1.out.mono ?_
  rintro e w1 ⟨f, z, P1, q1, P2, q2, rfl, hlf, hlz, of, oz, b⟩
  have s1 := b.size
  replace BW := hide (below_keep BW.out b)
  have DF := hide ((⟨Rd.of_own of, Nat.le_refl _⟩ : RdB w1 w1.heap.size 3 P1 f.length (cnds f)))
  have DZ := hide ((⟨Rd.of_own oz, Nat.le_refl _⟩ : RdB w1 w1.heap.size 2 P2 z.length (tgs z)))
  clear b C1
  clear of oz
  have C2 := hide (implFilterFits P1 P2 _ _ q1 q2 f z _ _ w1 rfl rfl DF.out.rd DZ.out.rd (by omega) (by omega) DF.out.le DZ.out.le)
  go_wp2_with fail
  refine C2.out.mono ?_
  rintro e w2 ⟨rfl, b⟩
  have s2 := b.size
  replace BW := hide (below_keep BW.out b)
  replace DF := hide (DF.out.keep b)
  replace DZ := hide (DZ.out.keep b)
  clear b C2
  have C3 := hide (specFilterFits P1 P2 _ _ q1 q2 f z _ _ w2 rfl rfl DF.out.rd DZ.out.rd (by omega) (by omega) DF.out.le DZ.out.le)
  go_wp2_with fail
  refine C3.out.mono ?_
  rintro e w3 ⟨rfl, b⟩
  have s3 := b.size
  replace BW := hide (below_keep BW.out b)
  replace DF := hide (DF.out.keep b)
  replace DZ := hide (DZ.out.keep b)
  clear b C3
  obtain ⟨X, hX⟩ : ∃ X, X = PT.fitsB f z := ⟨_, rfl⟩
  have HX := hide hX
  rw [← hX]
  clear hX
  have C4 := hide (specFilterOk P1 _ q1 f _ w3 rfl DF.out.rd (by omega) DF.out.le)
  go_wp2_with fail
  refine C4.out.mono ?_
  rintro e w4 ⟨rfl, b⟩
  have s4 := b.size
  replace BW := hide (below_keep BW.out b)
  replace DF := hide (DF.out.keep b)
  replace DZ := hide (DZ.out.keep b)
  clear b C4
  cases hf : PT.filterB f
  · clear hf
    have C5 := hide (specFilterFits P1 P2 _ _ q1 q2 f z _ _ w4 rfl rfl DF.out.rd DZ.out.rd (by omega) (by omega) DF.out.le DZ.out.le)
    go_wp2_with fail
    refine C5.out.mono ?_
    rintro e w5 ⟨rfl, b⟩
    have s5 := b.size
    replace BW := hide (below_keep BW.out b)
    replace DF := hide (DF.out.keep b)
    replace DZ := hide (DZ.out.keep b)
    clear b C5
    go_wp2
    go_ret
    exact ⟨ret_bool (by rw [HX.out]; simp), BW.out⟩
  · have HF := hide hf
    have h3 : f.length ≤ 3 := by unfold PT.filterB at hf; rw [Bool.and_eq_true] at hf; exact of_decide_eq_true hf.2
    clear hf
    by_cases h0 : f.length = 0
    · have hz2 : ((f.length : Int) == 0) = true := by rw [h0]; rfl
      clear h0
      have C5 := hide (specFilterFits P1 P2 _ _ q1 q2 f z _ _ w4 rfl rfl DF.out.rd DZ.out.rd (by omega) (by omega) DF.out.le DZ.out.le)
      go_wp2_with fail
      refine C5.out.mono ?_
      rintro e w5 ⟨rfl, b⟩
      have s5 := b.size
      replace BW := hide (below_keep BW.out b)
      replace DF := hide (DF.out.keep b)
      replace DZ := hide (DZ.out.keep b)
      clear b C5
      go_wp2
      go_ret
      exact ⟨ret_bool (by rw [HX.out]; simp), BW.out⟩
    · have hpos : 0 < f.length := by omega
      have hz2 : ((f.length : Int) == 0) = false := beq_eq_false_iff_ne.2 (by omega)
      clear h0
      have HREV := hide (fits_rev f z)
      have hO := hide ((World.ownsRow_lit w4 #[] 0 (Nat.le_refl _) (Nat.zero_le _) rfl : (w4.alloc (.cells #[] 29)).ownsRow w4.heap.size 29 3 (.slice (some ⟨w4.heap.size, 0, none⟩) 0 0) 0 []))
      go_wp2
      go_loopw [6, 7] (fun s i wr => ∃ (m j : Nat) (A : Option Addr) (c : Nat), m + j = f.length ∧ i = .int .i64 ((m : Int) - 1) ∧ s = .slice A j c ∧ Hid (wr.ownsRow w4.heap.size 29 3 (.slice A j c) j (cnds (f.reverse.take j))) ∧ Hid (Below w4.heap.size w4 wr)) (fun _ i _ => (intOf i + 1).toNat)
      case atStart => exact ⟨f.length, 0, _, _, by omega, rfl, rfl, hide (by simpa [cnds] using hO.out), hide ((Below.refl _ _).alloc (Nat.le_refl _) _)⟩
      case round =>
        clear hO
        obtain ⟨m, j, A, c, hmj, rfl, rfl, ho, hbel⟩ := hrel
        have hsz := hbel.out.size
        by_cases hlt : 0 < m
        · obtain ⟨m, rfl⟩ : ∃ k, m = k + 1 := ⟨m - 1, by omega⟩
          have hm1 : ((m + 1 : Nat) : Int) - 1 = (m : Int) := by omega
          rw [hm1]
          have hml : m < f.length := by omega
          obtain ⟨b, off, rfl, hb, hc⟩ := (DF.out.keep hbel.out).rd.cond rfl hml
          obtain ⟨c1, c2, c3⟩ := hc m hml
          have T := hide (rev_snoc (f := f) (m := m) (j := j) (by omega))
          generalize f.getD m (([], []), false) = y at c1 c2 c3 T
          obtain ⟨⟨t, v⟩, q⟩ := y
          have ho' := ho.out
          clear hc hm1
          go_wp2_with (first | (at_builtin; refine wpList_app _ rfl (.tmp 48) (.tmp 53) 23 rfl w4.heap.size 29 i0 (.agg #[.string ⟨#[]⟩, .string ⟨#[]⟩, .bool false]) 3 40 Try.underlying23 hi_ hzz0 hzz1 hzz2 rfl (by decide) _ _ _ rfl (ho'.alloc _) (wr.heap.size + 1) _ _ _ [.string (S t), .string (S v), .bool q] rfl (rd_lit wr [.string (S t), .string (S v), .bool q] _ 3 1 rfl) (three_str _ _ _) (by unfold maxLen; omega) (by omega) (by simp <;> omega) ?_; intro A4 c4 w4 o4 b4))
          rw [T.out] at o4
          have O4 := hide o4
          have HB := hide (hbel.out.trans (((Below.refl _ _).alloc hsz _).trans b4))
          clear o4 b4 ho' ho hbel T
          go_wp2
          go_roundw
          case rel => exact ⟨m, j + 1, A4, c4, by omega, by go_num, rfl, O4, HB⟩
          case measure => simp [intOf]
        · obtain rfl : m = 0 := by omega
          obtain rfl : j = f.length := by omega
          have e1 : f.reverse.take f.length = f.reverse := List.take_of_length_le (by simp)
          rw [e1] at ho
          obtain ⟨W1, hW1⟩ : ∃ W1, W1 = wr := ⟨_, rfl⟩
          subst hW1
          clear e1
          replace BW := hide (below_keep BW.out hbel.out)
          replace DF := hide (DF.out.keep hbel.out)
          replace DZ := hide (DZ.out.keep hbel.out)
          have OB := hide ((⟨(Rd.of_own ho.out), Nat.le_refl _⟩ : RdB W1 W1.heap.size 3 A f.length (cnds f.reverse)))
          clear ho hbel hsz
          have hrow := DF.out.rd
          obtain ⟨b, off, rfl, hgb, hcells⟩ := hrow.cond rfl hpos
          have hbW : b < W1.heap.size := Nat.lt_of_lt_of_le hgb DF.out.le
          obtain ⟨c1, c2, c3⟩ := hcells 0 hpos
          have TW := hide (fits_twice (f := f) (z := z) hpos)
          generalize f.getD 0 (([], []), false) = y at c1 c2 c3 TW
          obtain ⟨⟨t, v⟩, q⟩ := y
          simp only [Nat.zero_mul, Nat.add_zero] at c1 c2 c3
          clear hrow hcells
          have hO : (W1.alloc (.cells #[] 29)).ownsRow W1.heap.size 29 3 (.slice (some ⟨W1.heap.size, 0, none⟩) 0 0) 0 (cnds []) := World.ownsRow_lit W1 #[] 0 (Nat.le_refl _) (Nat.zero_le _) rfl
          have hB1 : Below W1.heap.size W1 (W1.alloc (.cells #[] 29)) := (Below.refl _ _).alloc (Nat.le_refl _) _
          have hR := DF.out.rd.more DF.out.le
          have hone := hide (cnds_one (l := f))
          have HW := hide ((hR.below hB1).drew)
          have HB1 := hide hB1.drew
          have HO := hide hO.drew
          have HB2 := hide ((hB1.alloc (by simp) (.cells #[.string (S t), .string (S v), .bool q] 29))).drew
          have HO2 := hide (hO.alloc (.cells #[.string (S t), .string (S v), .bool q] 29)).drew
          have HW2 := hide ((hR.below hB1).alloc (by simp) (.cells #[.string (S t), .string (S v), .bool q] 29)).drew
          have HL2 : Hid (Rd (((W1.alloc (.cells #[] 29)).alloc (.cells #[.string (S t), .string (S v), .bool q] 29)).drew) (W1.heap.size + 1 + 1) 3 (some ⟨W1.heap.size + 1, 0, none⟩) 1 [.string (S t), .string (S v), .bool q]) := hide (by have := rd_lit (W1.alloc (.cells #[] 29)) [.string (S t), .string (S v), .bool q] 29 3 1 rfl; simpa using this.drew)
          have hB3 : Below W1.heap.size W1 ((W1.alloc (.cells #[.string (S t), .string (S v), .bool q] 29)).alloc (.cells #[] 29)) := ((Below.refl _ _).alloc (Nat.le_refl _) _).alloc (by simp) _
          have HB3 := hide hB3.drew
          have HO3 : Hid (((W1.alloc (.cells #[.string (S t), .string (S v), .bool q] 29)).alloc (.cells #[] 29)).drew.ownsRow W1.heap.size 29 3 (.slice (some ⟨W1.heap.size + 1, 0, none⟩) 0 0) 0 (cnds [])) := hide (by have := World.ownsRow_lit (base := W1.heap.size) (e := 29) (size := 3) (W1.alloc (.cells #[.string (S t), .string (S v), .bool q] 29)) #[] 0 (by simp) (Nat.zero_le _) rfl; have := this.drew; simpa [cnds] using this)
          have HW3 := hide ((hR.below hB3).drew)
          have HL3 : Hid (Rd (((W1.alloc (.cells #[.string (S t), .string (S v), .bool q] 29)).alloc (.cells #[] 29)).drew) (W1.heap.size + 1) 3 (some ⟨W1.heap.size, 0, none⟩) 1 [.string (S t), .string (S v), .bool q]) := hide ((rd_lit W1 [.string (S t), .string (S v), .bool q] 29 3 1 rfl).alloc (by simp) _).drew
          have HQ1 := hide ((hB1.drew.cell (p := ⟨b, off, none⟩) hbW).trans c1)
          have HQ2 := hide ((hB1.drew.cell (p := ⟨b, off + 1, none⟩) hbW).trans c2)
          have HQ3 := hide ((hB1.drew.cell (p := ⟨b, off + 2, none⟩) hbW).trans c3)
          clear hO hB1 hR hB3
          go_wp2
          go_cut [8] from 55 to 62 (fun s8 wx => ∃ A c, s8 = .slice A (f.length + 1) c ∧ Hid (wx.ownsRow W1.heap.size 29 3 (.slice A (f.length + 1) c) (f.length + 1) (cnds (f ++ [((t, v), q)]))) ∧ Hid (Below W1.heap.size W1 wx))
          case first =>
            go_region_law (first
              | (refine step_app rfl (.tmp 57) (.tmp 61) 23 rfl W1.heap.size 29 i0 (.agg #[.string ⟨#[]⟩, .string ⟨#[]⟩, .bool false]) 3 40 Try.underlying23 hi_ hzz0 hzz1 hzz2 rfl (by decide) (.slice A4 (0 + f.length) c4) (0 + f.length) (cnds [] ++ cnds f) (by simp [Act.eval]) (o4.alloc (.cells #[.string (S t), .string (S v), .bool q] 29)) (w4.heap.size + 1) (some ⟨w4.heap.size, 0, none⟩) 1 1 [.string (S t), .string (S v), .bool q] (by simp [Act.eval]) (rd_lit w4 [.string (S t), .string (S v), .bool q] _ 3 1 rfl) (three_str _ _ _) (by unfold maxLen; omega) (by omega) (by simp; omega) ?_; intro A5 c5 w5 o5 b5 g5)
              | (refine step_app rfl (.tmp 57) (.tmp 61) 23 rfl W1.heap.size 29 i0 (.agg #[.string ⟨#[]⟩, .string ⟨#[]⟩, .bool false]) 3 40 Try.underlying23 hi_ hzz0 hzz1 hzz2 rfl (by decide) (.slice A4 (0 + f.length) c4) (0 + f.length) (cnds [] ++ cnds f) (by simp [Act.eval]) o4 (W1.heap.size + 1 + 1) (some ⟨W1.heap.size + 1, 0, none⟩) 1 1 [.string (S t), .string (S v), .bool q] (by simp [Act.eval]) L4 (three_str _ _ _) (by unfold maxLen; omega) (by omega) (by omega) ?_; intro A5 c5 w5 o5 b5 g5)
              | (refine step_app rfl (.tmp 57) (.tmp 61) 23 rfl W1.heap.size 29 i0 (.agg #[.string ⟨#[]⟩, .string ⟨#[]⟩, .bool false]) 3 40 Try.underlying23 hi_ hzz0 hzz1 hzz2 rfl (by decide) (.slice A4 (0 + f.length) c4) (0 + f.length) (cnds [] ++ cnds f) (by simp [Act.eval]) o4 (W1.heap.size + 1) (some ⟨W1.heap.size, 0, none⟩) 1 1 [.string (S t), .string (S v), .bool q] (by simp [Act.eval]) L4 (three_str _ _ _) (by unfold maxLen; omega) (by omega) (by omega) ?_; intro A5 c5 w5 o5 b5 g5)
              | (refine step_app rfl (.tmp 55) (.tmp 56) 23 rfl W1.heap.size 29 i0 (.agg #[.string ⟨#[]⟩, .string ⟨#[]⟩, .bool false]) 3 40 Try.underlying23 hi_ hzz0 hzz1 hzz2 rfl (by decide) (.slice (some ⟨W1.heap.size, 0, none⟩) 0 0) 0 (cnds []) (by simp [Act.eval]) HO.out W1.heap.size (some ⟨b, off, none⟩) f.length q1 (cnds f) (by simp [Act.eval]) HW.out hone.out (by unfold maxLen; omega) (by omega) (by simp) ?_; intro A4 c4 w4 o4 b4 g4; have k1 := (b4.cell (p := ⟨b, off, none⟩) hbW).trans HQ1.out; have k2 := (b4.cell (p := ⟨b, off + 1, none⟩) hbW).trans HQ2.out; have k3 := (b4.cell (p := ⟨b, off + 2, none⟩) hbW).trans HQ3.out; have s4 := b4.size; simp at s4)
              | (refine step_app rfl (.tmp 55) (.tmp 56) 23 rfl W1.heap.size 29 i0 (.agg #[.string ⟨#[]⟩, .string ⟨#[]⟩, .bool false]) 3 40 Try.underlying23 hi_ hzz0 hzz1 hzz2 rfl (by decide) (.slice (some ⟨W1.heap.size, 0, none⟩) 0 0) 0 (cnds []) (by simp [Act.eval]) HO2.out W1.heap.size (some ⟨b, off, none⟩) f.length q1 (cnds f) (by simp [Act.eval]) HW2.out hone.out (by unfold maxLen; omega) (by omega) (by simp; omega) ?_; intro A4 c4 w4 o4 b4 g4; have L4 := HL2.out.keep2c g4 (fun b' off' e => by injection e with e; injection e with e1; subst e1; refine ⟨?_, ?_⟩ <;> simp [Value.ownBlock] <;> omega); have s4 := b4.size; simp at s4)
              | (refine step_app rfl (.tmp 55) (.tmp 56) 23 rfl W1.heap.size 29 i0 (.agg #[.string ⟨#[]⟩, .string ⟨#[]⟩, .bool false]) 3 40 Try.underlying23 hi_ hzz0 hzz1 hzz2 rfl (by decide) (.slice (some ⟨W1.heap.size + 1, 0, none⟩) 0 0) 0 (cnds []) (by simp [Act.eval]) HO3.out W1.heap.size (some ⟨b, off, none⟩) f.length q1 (cnds f) (by simp [Act.eval]) HW3.out hone.out (by unfold maxLen; omega) (by omega) (by simp; omega) ?_; intro A4 c4 w4 o4 b4 g4; have L4 := HL3.out.keep2c g4 (fun b' off' e => by injection e with e; injection e with e1; subst e1; refine ⟨?_, ?_⟩ <;> simp [Value.ownBlock] <;> omega); have s4 := b4.size; simp at s4))
            all_goals (simp [Act.put]; go_wp2_with fail; go_meet)
            all_goals exact ⟨A5, c5, by simp, hide (by simpa [cnds, cnds_append] using o5), hide (by first | exact HB1.out.trans ((b4.alloc (by omega) _).trans b5) | exact HB2.out.trans (b4.trans b5) | exact HB3.out.trans (b4.trans b5))⟩
          case rest =>
            obtain ⟨W2, hW2⟩ : ∃ W2, W2 = wc := ⟨_, rfl⟩
            subst hW2
            obtain ⟨A9, c9, rfl, o9, b9⟩ := hcut
            clear HB1 HO HB2 HO2 HW2 HL2 HW HQ1 HQ2 HQ3 HB3 HO3 HW3 HL3 hone c1 c2 c3
            replace BW := hide (below_keep BW.out b9.out)
            replace DF := hide (DF.out.keep b9.out)
            replace DZ := hide (DZ.out.keep b9.out)
            replace OB := hide (OB.out.keep b9.out)
            have OT := hide ((⟨Rd.of_own o9.out, Nat.le_refl _⟩ : RdB W2 W2.heap.size 3 A9 (f.length + 1) (cnds (f ++ [((t, v), q)]))))
            clear o9 b9
            have C5 := hide (implFilterFits A P2 _ _ c q2 f.reverse z _ _ W2 (by simp) rfl OB.out.rd DZ.out.rd (by omega) (by omega) OB.out.le DZ.out.le)
            rw [HREV.out, ← HX.out] at C5
            go_wp2_with fail
            refine C5.out.mono ?_
            rintro e w5 ⟨rfl, b⟩
            have s5 := b.size
            replace BW := hide (below_keep BW.out b)
            replace DF := hide (DF.out.keep b)
            replace DZ := hide (DZ.out.keep b)
            replace OB := hide (OB.out.keep b)
            replace OT := hide (OT.out.keep b)
            clear b C5
            have hXX : (X == X) = true := beq_self_eq_true _
            by_cases h33 : f.length = 3
            · have h34 : ((f.length : Int) == 3) = true := by rw [h33]; rfl
              clear h33 TW
              go_wp2
              go_ret
              exact ⟨ret_bool (by simp), BW.out⟩
            · have h34 : ((f.length : Int) == 3) = false := beq_eq_false_iff_ne.2 (by omega)
              have HT := hide (TW.out (by omega))
              clear h33 TW
              have C6 := hide (implFilterFits A9 P2 _ _ c9 q2 (f ++ [((t, v), q)]) z _ _ w5 (by simp) rfl OT.out.rd DZ.out.rd (by omega) (by omega) OT.out.le DZ.out.le)
              rw [HT.out, ← HX.out] at C6
              go_wp2_with fail
              refine C6.out.mono ?_
              rintro e w6 ⟨rfl, b⟩
              have s6 := b.size
              replace BW := hide (below_keep BW.out b)
              replace DF := hide (DF.out.keep b)
              replace DZ := hide (DZ.out.keep b)
              replace OB := hide (OB.out.keep b)
              replace OT := hide (OT.out.keep b)
              clear b C6
              go_wp2
              go_ret
              exact ⟨ret_bool (by simp), BW.out⟩

end Go.Proofs.Ytgedlpdjnnbolaa
