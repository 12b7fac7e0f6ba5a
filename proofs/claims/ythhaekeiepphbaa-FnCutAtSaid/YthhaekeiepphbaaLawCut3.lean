/-
  WALKS: the law CutAt.
-/
import Derived.Test.YthhaekeiepphbaaLawCut2
import Derived.Test.YthhaekeiepphbaaAppend
namespace Go.Proofs.Ythhaekeiepphbaa
set_option linter.unusedVariables false
open Go.RowKit

set_option maxRecDepth 100000 in
set_option maxHeartbeats 3200000 in
theorem fnCutAt_walk (w : World) (a0 : Option Addr) (len0 cap0 : Nat) (z0 : List Int) (hz0 : z0.length = len0) (rd0 : Rd w w.heap.size 1 a0 len0 (z0.map (Value.int .u8))) (wf0 : ∀ z ∈ z0, (Lit.int .u8 z).wf = true) (lc0 : len0 ≤ cap0) (cm0 : cap0 ≤ maxLen) (a1 : Option Addr) (len1 cap1 : Nat) (z1 : List Int) (hz1 : z1.length = len1) (rd1 : Rd w w.heap.size 1 a1 len1 (z1.map (Value.int .u8))) (wf1 : ∀ z ∈ z1, (Lit.int .u8 z).wf = true) (lc1 : len1 ≤ cap1) (cm1 : cap1 ≤ maxLen) :
    Calls Try.prog 8 #[.slice a0 len0 cap0, .slice a1 len1 cap1] w fun e w' => e = .returned (.bool true) ∧ Below w.heap.size w w' := by
  have HD := hide (drawBlockCut_any a0 len0 cap0 z0 w hz0 rd0 (bytes_ofC wf0) lc0 cm0)
  clear rd0 wf0 hz0
  unfold maxLen at cm0
  clear rd1 wf1 hz1
  unfold maxLen at cm1
  by_cases hl : 1048576 < len0
  · clear HD
    go_enter Try.func8, Try.ntmps8
    go_wp2
    go_ret
    exact ⟨rfl, Below.refl _ _⟩
  by_cases hl1 : 1048576 < len1
  · clear HD
    go_enter Try.func8, Try.ntmps8
    go_wp2
    go_ret
    exact ⟨rfl, Below.refl _ _⟩
  · obtain ⟨i0, hi_, hzz0, hzz1, hzz2⟩ := info_parts info_row
    go_enter Try.func8, Try.ntmps8
    have BW := hide (Below.refl w.heap.size w)
    have C1 := HD
    go_wp2_with fail
    refine C1.out.mono ?_
    rintro e w1 ⟨l, lo, hi, A1, d1, rfl, hll, hlo, hhi, o, b⟩
    have s1 := b.size
    replace BW := hide (below_keep BW.out b)
    have DB := hide (OwB.of o b.size)
    clear b C1
    clear o
    obtain ⟨L, hL⟩ : ∃ L, L = cutB l lo hi := ⟨_, rfl⟩
    have hLL : L.length ≤ l.length := by rw [hL]; exact cutB_le _ _ _
    have HL := hide hL
    clear hL
    have C2 := hide (implBlockCut A1 _ d1 l lo hi _ w1 rfl DB.out.rd (by omega) DB.out.top)
    rw [← HL.out] at C2
    go_wp2_with fail
    refine C2.out.mono ?_
    rintro e w2 ⟨A2, d2, rfl, o, b⟩
    have s2 := b.size
    replace BW := hide (below_keep BW.out b)
    replace DB := hide (DB.out.keep b)
    have CU := hide (OwB.of o b.size)
    clear b C2
    clear o
    have C3 := hide (specBlockCut A1 _ d1 l lo hi _ w2 rfl DB.out.rd (by omega) DB.out.top)
    rw [← HL.out] at C3
    go_wp2_with fail
    refine C3.out.mono ?_
    rintro e w3 ⟨A3, d3, rfl, o, b⟩
    have s3 := b.size
    replace BW := hide (below_keep BW.out b)
    replace DB := hide (DB.out.keep b)
    replace CU := hide (CU.out.keep b)
    have SP := hide (OwB.of o b.size)
    clear b C3
    clear o
    have C4 := hide (lyRows_any A2 A3 _ _ d2 d3 L L _ _ w3 rfl rfl CU.out.rd SP.out.rd (by omega) (by omega) CU.out.top SP.out.top)
    rw [decide_eq_true rfl] at C4
    go_wp2_with fail
    refine C4.out.mono ?_
    rintro e w4 ⟨rfl, b⟩
    have s4 := b.size
    replace BW := hide (below_keep BW.out b)
    replace DB := hide (DB.out.keep b)
    replace CU := hide (CU.out.keep b)
    replace SP := hide (SP.out.keep b)
    clear b C4
    clear SP
    have C5 := hide (specBlockOk A1 _ d1 l _ w4 rfl DB.out.rd (by omega) DB.out.top)
    go_wp2_with fail
    refine C5.out.mono ?_
    rintro e w5 ⟨rfl, b⟩
    have s5 := b.size
    replace BW := hide (below_keep BW.out b)
    replace DB := hide (DB.out.keep b)
    replace CU := hide (CU.out.keep b)
    clear b C5
    cases hb : PB.blockB l
    · clear hb
      have C6 := hide (specBlockCut A1 _ d1 l lo hi _ w5 rfl DB.out.rd (by omega) DB.out.top)
      rw [← HL.out] at C6
      go_wp2_with fail
      refine C6.out.mono ?_
      rintro e w6 ⟨A6, d6, rfl, o, b⟩
      have s6 := b.size
      replace BW := hide (below_keep BW.out b)
      replace DB := hide (DB.out.keep b)
      replace CU := hide (CU.out.keep b)
      have SP := hide (OwB.of o b.size)
      clear b C6
      clear o
      have C7 := hide (lyRows_any A2 A6 _ _ d2 d6 L L _ _ w6 rfl rfl CU.out.rd SP.out.rd (by omega) (by omega) CU.out.top SP.out.top)
      rw [decide_eq_true rfl] at C7
      go_wp2_with fail
      refine C7.out.mono ?_
      rintro e w7 ⟨rfl, b⟩
      have s7 := b.size
      replace BW := hide (below_keep BW.out b)
      replace DB := hide (DB.out.keep b)
      replace CU := hide (CU.out.keep b)
      replace SP := hide (SP.out.keep b)
      clear b C7
      go_wp2
      go_ret
      exact ⟨rfl, BW.out⟩
    · have HB := hide hb
      clear hb
      have hbw := hide BW
      have X1 := hide CU.out.rd
      have Y1 := hide DB.out.rd
      go_wp2
      go_loopw [9] (fun i wr => ∃ k : Nat, k ≤ l.length ∧ i = .int .i64 k ∧ w5 = wr) (fun i _ => l.length - (intOf i).toNat)
      case atStart => exact ⟨0, Nat.zero_le _, rfl, rfl⟩
      case round =>
        obtain ⟨k, hk, rfl, rfl⟩ := hrel
        by_cases hlt : k < l.length
        · obtain ⟨b, off, rfl, hb, hc⟩ := Y1.out.row rfl hlt
          obtain ⟨c1, c2⟩ := hc k hlt
          obtain ⟨y, hy⟩ : ∃ y, l.getD k (0, 0) = y := ⟨_, rfl⟩
          obtain ⟨t, v⟩ := y
          have hT := cutB_look HB.out lo hi hlt hy
          rw [← HL.out] at hT
          have C := hide (lyAt_any A2 L.length d2 L t _ w5 rfl X1.out (by omega))
          rw [hT] at C
          rw [hy] at c1 c2
          clear hc hy hT
          by_cases h1 : lo ≤ t
          · by_cases h2 : t ≤ hi
            · rw [if_pos ⟨h1, h2⟩] at C
              have d1 : decide (lo ≤ t) = true := decide_eq_true h1
              have d2 : decide (t ≤ hi) = true := decide_eq_true h2
              go_wp2_with fail
              refine C.out.mono ?_
              rintro e w' ⟨rfl, rfl⟩
              unfold lookE
              go_wp2
              go_roundw
              case rel => exact ⟨k + 1, by omega, by go_num, trivial⟩
              case measure => simp [intOf]; omega
            · rw [if_neg (fun h => h2 h.2)] at C
              have d1 : decide (lo ≤ t) = true := decide_eq_true h1
              have d2 : decide (t ≤ hi) = false := decide_eq_false h2
              go_wp2_with fail
              refine C.out.mono ?_
              rintro e w' ⟨rfl, rfl⟩
              unfold lookE
              go_wp2
              go_roundw
              case rel => exact ⟨k + 1, by omega, by go_num, trivial⟩
              case measure => simp [intOf]; omega
          · rw [if_neg (fun h => h1 h.1)] at C
            have d1 : decide (lo ≤ t) = false := decide_eq_false h1
            go_wp2_with fail
            refine C.out.mono ?_
            rintro e w' ⟨rfl, rfl⟩
            unfold lookE
            go_wp2
            go_roundw
            case rel => exact ⟨k + 1, by omega, by go_num, trivial⟩
            case measure => simp [intOf]; omega
        · clear X1 Y1 hbw
          obtain ⟨at_, hat⟩ : ∃ at_ : Int, at_ = ((len1 % 100 : Nat) : Int) := ⟨_, rfl⟩
          have hat0 : 0 ≤ at_ ∧ at_ < 100 := by rw [hat]; omega
          have har : (len1 : Int).tmod 100 = at_ := by rw [hat, Int.tmod_eq_emod_of_nonneg (by omega)]; omega
          clear hat
          obtain ⟨M, hM⟩ : ∃ M, M = cutB l 0 at_ := ⟨_, rfl⟩
          have hML : M.length ≤ l.length := by rw [hM]; exact cutB_le _ _ _
          have HM := hide hM
          obtain ⟨N, hN⟩ : ∃ N, N = cutB l (at_ + 1) 99 := ⟨_, rfl⟩
          have hNL : N.length ≤ l.length := by rw [hN]; exact cutB_le _ _ _
          have HN := hide hN
          have HS : Hid (M ++ N = l) := hide (by rw [hM, hN, cutB_split HB.out])
          clear hM hN
          have C6 := hide (implBlockCut A1 _ d1 l 0 at_ _ w5 rfl DB.out.rd (by omega) DB.out.top)
          rw [← HM.out] at C6
          go_wp2_with fail
          refine C6.out.mono ?_
          rintro e w6 ⟨A6, d6, rfl, o, b⟩
          have s6 := b.size
          replace BW := hide (below_keep BW.out b)
          replace DB := hide (DB.out.keep b)
          replace CU := hide (CU.out.keep b)
          have LE := hide (OwB.of o b.size)
          clear b C6
          clear o
          have C7 := hide (implBlockCut A1 _ d1 l (at_ + 1) 99 _ w6 rfl DB.out.rd (by omega) DB.out.top)
          rw [← HN.out] at C7
          go_wp2_with fail
          refine C7.out.mono ?_
          rintro e w7 ⟨A7, d7, rfl, o, b⟩
          have s7 := b.size
          replace BW := hide (below_keep BW.out b)
          replace DB := hide (DB.out.keep b)
          replace CU := hide (CU.out.keep b)
          replace LE := hide (LE.out.keep b)
          have RI := hide (OwB.of o b.size)
          clear b C7
          clear o
          have hO : (w7.alloc (.cells #[] 32)).ownsRow w7.heap.size 32 2 (.slice (some ⟨w7.heap.size, 0, none⟩) 0 0) 0 [] := World.ownsRow_lit w7 #[] 0 (Nat.le_refl _) (Nat.zero_le _) rfl
          have b1 : Below w7.heap.size w7 (w7.alloc (.cells #[] 32)) := (Below.refl _ _).alloc (Nat.le_refl _) _
          have hX : Rd (w7.alloc (.cells #[] 32)) w7.heap.size 2 A6 M.length (rows M) := (LE.out.rd.more LE.out.top).below b1
          have hY : Rd (w7.alloc (.cells #[] 32)) w7.heap.size 2 A7 N.length (rows N) := (RI.out.rd.more RI.out.top).below b1
          have hone := hide (rows_one (l := M))
          have hone' := hide (rows_one (l := N))
          have HX := hide hX
          have HY := hide hY
          have B1 := hide b1
          have HO := hide hO
          have hsz : (w7.alloc (.cells #[] 32)).heap.size = w7.heap.size + 1 := by simp
          have HZ := hide hsz
          clear hX hY b1 hO hsz
          go_wp2_with (first
            | (at_builtin; refine wpList_app _ rfl (.tmp 107) (.tmp 108) 25 rfl w7.heap.size 32 i0 (.agg #[.int .i64 0, .int .i64 0]) 2 16 Try.underlying25 hi_ hzz0 hzz1 hzz2 rfl (by decide) _ _ _ rfl HO.out w7.heap.size _ _ _ _ rfl HX.out hone.out (by unfold maxLen; omega) (by omega) (by simp <;> omega) ?_; intro A4 c4 w4 o4 b4; simp only [Nat.zero_add, List.nil_append] at o4; have s4 := b4.size; rw [HZ.out] at s4)
            | (at_builtin; refine wpList_app _ rfl (.tmp 109) (.tmp 110) 25 rfl w7.heap.size 32 i0 (.agg #[.int .i64 0, .int .i64 0]) 2 16 Try.underlying25 hi_ hzz0 hzz1 hzz2 rfl (by decide) _ _ _ rfl o4 w7.heap.size _ _ _ _ rfl (HY.out.below b4) hone'.out (by unfold maxLen; omega) (by omega) (by omega) ?_; intro A5 c5 w5x o5 b5))
          have bb : Below w7.heap.size w7 w5x := B1.out.trans (b4.trans b5)
          have o6 : w5x.ownsRow w7.heap.size 32 2 (.slice A5 (M.length + N.length) c5) (M.length + N.length) (rows l) := by
            have := o5
            rw [← rows_append, HS.out] at this
            exact this
          have hlen : M.length + N.length = l.length := by rw [← List.length_append, HS.out]
          rw [hlen] at o6 ⊢
          have s5 := bb.size
          replace BW := hide (below_keep BW.out bb)
          replace DB := hide (DB.out.keep bb)
          replace CU := hide (CU.out.keep bb)
          replace LE := hide (LE.out.keep bb)
          replace RI := hide (RI.out.keep bb)
          clear o4 b4 o5 b5 HO HX HY B1 HZ hone hone' bb
          have AP := hide (OwB.of (w := w7) o6 s5)
          clear o6 hlen
          have C8 := hide (lyRows_any A5 A1 _ _ c5 d1 l l _ _ w5x rfl rfl AP.out.rd DB.out.rd (by omega) (by omega) AP.out.top DB.out.top)
          rw [decide_eq_true rfl] at C8
          go_wp2_with fail
          refine C8.out.mono ?_
          rintro e w8 ⟨rfl, b⟩
          have s8 := b.size
          replace BW := hide (below_keep BW.out b)
          replace DB := hide (DB.out.keep b)
          replace CU := hide (CU.out.keep b)
          replace LE := hide (LE.out.keep b)
          replace RI := hide (RI.out.keep b)
          replace AP := hide (AP.out.keep b)
          clear b C8
          have d3 : decide ((L.length : Int) ≤ (l.length : Int)) = true := decide_eq_true (by omega)
          have C9 := hide (implBlockOk A2 _ d2 L _ w8 rfl CU.out.rd (by omega) CU.out.top)
          rw [show PB.blockB L = true from by rw [HL.out]; exact cutB_block HB.out _ _] at C9
          go_wp2_with fail
          refine C9.out.mono ?_
          rintro e w9 ⟨rfl, b⟩
          have s9 := b.size
          replace BW := hide (below_keep BW.out b)
          replace DB := hide (DB.out.keep b)
          replace CU := hide (CU.out.keep b)
          replace LE := hide (LE.out.keep b)
          replace RI := hide (RI.out.keep b)
          replace AP := hide (AP.out.keep b)
          clear b C9
          go_wp2
          go_ret
          exact ⟨rfl, BW.out⟩

end Go.Proofs.Ythhaekeiepphbaa
