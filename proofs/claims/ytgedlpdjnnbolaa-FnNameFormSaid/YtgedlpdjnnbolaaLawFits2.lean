/-
  WALKS: the law Fits.
-/
import Derived.Test.YtgedlpdjnnbolaaDrawFF
import Derived.Test.YtgedlpdjnnbolaaFits2
import Derived.Test.YtgedlpdjnnbolaaHas
import Derived.Test.YtgedlpdjnnbolaaTail
import Derived.OpenShut
namespace Go.Proofs.Ytgedlpdjnnbolaa
set_option linter.unusedVariables false
open Go.RowKit

theorem bytes_ofF {zs : List Int} (h : ∀ z ∈ zs, (Lit.int .u8 z).wf = true) : ByteL zs := fun z hz => bounds_u8 (h z hz)
theorem fits_succ {f : List PT.Cond} {n : List PT.Tag} {k : Nat} (hk : k < f.length) : PT.fits (f.take (k + 1)) n = (PT.fits (f.take k) n && fitOk n (f.getD k (([], []), false))) := by
  unfold PT.fits fitOk
  rw [List.take_succ_eq_append_getElem hk, List.all_append, PT.getD_cond hk]
  simp

set_option maxRecDepth 100000 in
set_option maxHeartbeats 6400000 in
theorem fnFits_walk (w : World) (a0 : Option Addr) (len0 cap0 : Nat) (z0 : List Int) (hz0 : z0.length = len0) (rd0 : Rd w w.heap.size 1 a0 len0 (z0.map (Value.int .u8))) (wf0 : ∀ z ∈ z0, (Lit.int .u8 z).wf = true) (lc0 : len0 ≤ cap0) (cm0 : cap0 ≤ maxLen) :
    Calls Try.prog 9 #[.slice a0 len0 cap0] w fun e w' => e = .returned (.bool true) ∧ Below w.heap.size w w' := by
  have HD := hide (drawFilterFits_any a0 len0 cap0 z0 w hz0 rd0 (bytes_ofF wf0) lc0 cm0)
  clear rd0 wf0 hz0
  unfold maxLen at cm0
  by_cases hl0 : 1048576 < len0
  · clear HD
    go_enter Try.func9, Try.ntmps9
    go_wp2
    go_ret
    exact ⟨rfl, Below.refl _ _⟩
  go_enter Try.func9, Try.ntmps9
  have BW := hide (Below.refl w.heap.size w)
  have C1 := HD
  go_wp2_with fail
  refine C1.out.mono ?_
  rintro e w1 ⟨f, z, P1, q1, P2, q2, rfl, hlf, hlz, of, oz, b⟩
  have s1 := b.size
  replace BW := hide (below_keep BW.out b)
  have DF := hide ((⟨Rd.of_own of, Nat.le_refl _⟩ : RdB w1 w1.heap.size 3 P1 f.length (cnds f)))
  have DZ := hide ((⟨Rd.of_own oz, Nat.le_refl _⟩ : RdB w1 w1.heap.size 2 P2 z.length (tgs z)))
  clear b C1
  clear of oz
  have C2 := hide (implFilterFits P1 P2 _ _ q1 q2 f z _ _ w1 rfl rfl DF.out.rd DZ.out.rd (by omega) (by omega) DF.out.le DZ.out.le)
  go_wp2_with fail
  refine C2.out.mono ?_
  rintro e w2 ⟨rfl, b⟩
  have s2 := b.size
  replace BW := hide (below_keep BW.out b)
  replace DF := hide (DF.out.keep b)
  replace DZ := hide (DZ.out.keep b)
  clear b C2
  have C3 := hide (specFilterFits P1 P2 _ _ q1 q2 f z _ _ w2 rfl rfl DF.out.rd DZ.out.rd (by omega) (by omega) DF.out.le DZ.out.le)
  go_wp2_with fail
  refine C3.out.mono ?_
  rintro e w3 ⟨rfl, b⟩
  have s3 := b.size
  replace BW := hide (below_keep BW.out b)
  replace DF := hide (DF.out.keep b)
  replace DZ := hide (DZ.out.keep b)
  clear b C3
  obtain ⟨X, hX⟩ : ∃ X, X = PT.fitsB f z := ⟨_, rfl⟩
  have HX := hide hX
  rw [← hX]
  clear hX
  have C4 := hide (specFilterOk P1 _ q1 f _ w3 rfl DF.out.rd (by omega) DF.out.le)
  go_wp2_with fail
  refine C4.out.mono ?_
  rintro e w4 ⟨rfl, b⟩
  have s4 := b.size
  replace BW := hide (below_keep BW.out b)
  replace DF := hide (DF.out.keep b)
  replace DZ := hide (DZ.out.keep b)
  clear b C4
  cases hf : PT.filterB f
  · clear hf
    have C5 := hide (specFilterFits P1 P2 _ _ q1 q2 f z _ _ w4 rfl rfl DF.out.rd DZ.out.rd (by omega) (by omega) DF.out.le DZ.out.le)
    go_wp2_with fail
    refine C5.out.mono ?_
    rintro e w5 ⟨rfl, b⟩
    have s5 := b.size
    replace BW := hide (below_keep BW.out b)
    replace DF := hide (DF.out.keep b)
    replace DZ := hide (DZ.out.keep b)
    clear b C5
    go_wp2
    go_ret
    exact ⟨ret_bool (by rw [HX.out]; simp), BW.out⟩
  · have HF := hide hf
    clear hf
    have C5 := hide (specNameOk P2 _ q2 z _ w4 rfl DZ.out.rd (by omega) DZ.out.le)
    go_wp2_with fail
    refine C5.out.mono ?_
    rintro e w5 ⟨rfl, b⟩
    have s5 := b.size
    replace BW := hide (below_keep BW.out b)
    replace DF := hide (DF.out.keep b)
    replace DZ := hide (DZ.out.keep b)
    clear b C5
    cases hz : PT.nameB z
    · clear hz
      have C6 := hide (specFilterFits P1 P2 _ _ q1 q2 f z _ _ w5 rfl rfl DF.out.rd DZ.out.rd (by omega) (by omega) DF.out.le DZ.out.le)
      go_wp2_with fail
      refine C6.out.mono ?_
      rintro e w6 ⟨rfl, b⟩
      have s6 := b.size
      replace BW := hide (below_keep BW.out b)
      replace DF := hide (DF.out.keep b)
      replace DZ := hide (DZ.out.keep b)
      clear b C6
      go_wp2
      go_ret
      exact ⟨ret_bool (by rw [HX.out]; simp), BW.out⟩
    · have HZ := hide hz
      clear hz
      have FX : Hid (X = PT.fits f z) := hide (by rw [HX.out]; unfold PT.fitsB; rw [HF.out, HZ.out]; simp)
      have FN : Hid (PT.fitsB [] z = true) := hide (by unfold PT.fitsB; rw [HZ.out]; rfl)
      go_wp2
      go_loopw [6, 7] (fun b i wr => ∃ k : Nat, k ≤ f.length ∧ i = .int .i64 k ∧ b = .bool (PT.fits (f.take k) z) ∧ Hid (Below w5.heap.size w5 wr)) (fun _ i _ => f.length - (intOf i).toNat)
      case atStart => exact ⟨0, Nat.zero_le _, rfl, by simp [PT.fits], hide (Below.refl _ _)⟩
      case round =>
        obtain ⟨k, hk, rfl, rfl, hbel⟩ := hrel
        have hsz := hbel.out.size
        by_cases hlt : k < f.length
        · obtain ⟨b, off, rfl, hb, hc⟩ := (DF.out.keep hbel.out).rd.cond rfl hlt
          obtain ⟨c1, c2, c3⟩ := hc k hlt
          obtain ⟨y, hy⟩ : ∃ y, f.getD k (([], []), false) = y := ⟨_, rfl⟩
          have HS := hide (fits_succ (n := z) hlt)
          rw [hy] at c1 c2 c3 HS
          obtain ⟨⟨t, v⟩, q⟩ := y
          have C : Hid (∀ wx, Below wr.heap.size wr wx → Calls Try.prog 28 #[.slice P2 z.length q2, .agg #[.string (S t), .string (S v)]] wx (Bl wx (PT.has z (t, v)))) := hide (fun wx hx => lyHas_any P2 _ q2 z t v _ wx rfl ((DZ.out.keep hbel.out).keep hx).rd (by omega) ((DZ.out.keep hbel.out).keep hx).le)
          unfold fitOk at HS
          clear hc hy
          generalize PT.has z (t, v) = hs at C HS
          have e1 := ext_cell (B := wr.heap.size) c1 (Nat.le_refl _)
          have e2 := ext_cell (B := wr.heap.size) c2 (Nat.le_refl _)
          have e3 := ext_cell (B := wr.heap.size) c3 (Nat.le_refl _)
          have hin : (0 : Int) ≤ (k : Int) ∧ (k : Int) < (f.length : Int) := by omega
          cases hcan : PT.fits (f.take k) z
          · have F : Hid (PT.fits (f.take (k + 1)) z = false) := hide (by rw [HS.out, hcan]; rfl)
            clear HS hcan
            go_wp2
            refine wp_region_ext wr.heap.size (by kernel_rfl) (by kernel_rfl) ?_
            repeat (go_big_quiet_step ((go_at_call 28; exact ext_call _ (Nat.le_refl _) (C.out _ (Ext.is _)))))
            refine wpQuiet_nil ?_
            intro _ hw'
            obtain ⟨x, hw''⟩ := hw'
            subst hw''
            clear e1 e2 e3
            go_wp2
            go_roundw
            case rel => exact ⟨k + 1, by omega, by go_num, by rw [F.out] <;> first | rfl | simp [bne], hide (hbel.out.trans (x.is.mono hsz))⟩
            case measure => simp [intOf]; omega
          · have F : Hid (PT.fits (f.take (k + 1)) z = (hs != q)) := hide (by rw [HS.out, hcan]; rfl)
            clear HS hcan
            go_wp2
            refine wp_region_ext wr.heap.size (by kernel_rfl) (by kernel_rfl) ?_
            repeat (go_big_quiet_step ((go_at_call 28; exact ext_call _ (Nat.le_refl _) (C.out _ (Ext.is _)))))
            refine wpQuiet_nil ?_
            intro _ hw'
            obtain ⟨x, hw''⟩ := hw'
            subst hw''
            clear e1 e2 e3
            go_wp2
            go_roundw
            case rel => exact ⟨k + 1, by omega, by go_num, by rw [F.out] <;> first | rfl | simp [bne], hide (hbel.out.trans (x.is.mono hsz))⟩
            case measure => simp [intOf]; omega
        · have hkn : k = f.length := by omega
          subst hkn
          have hft : f.take f.length = f := List.take_of_length_le (Nat.le_refl _)
          rw [hft]
          have hX2 : (X == PT.fits f z) = true := by rw [FX.out]; exact beq_self_eq_true _
          have C := hide (implFilterFits none P2 0 _ 0 q2 [] z 0 _ wr rfl rfl (Rd.nil _ 0 3 none) (DZ.out.keep hbel.out).rd (by omega) (by omega) (Nat.zero_le _) (DZ.out.keep hbel.out).le)
          rw [FN.out] at C
          have BX := hide (BW.out.trans (hbel.out.mono BW.out.size))
          clear hft
          go_wp2_with fail
          refine C.out.mono ?_
          rintro e w9 ⟨rfl, b9⟩
          go_wp2
          go_ret
          exact ⟨ret_bool (by simp), below_keep BX.out b9⟩

end Go.Proofs.Ytgedlpdjnnbolaa
