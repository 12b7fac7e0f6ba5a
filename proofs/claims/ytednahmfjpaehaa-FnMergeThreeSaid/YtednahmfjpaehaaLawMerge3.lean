/-
  WALKS: the law MergeThree.
-/
import Derived.Test.YtednahmfjpaehaaLawMerge2
namespace Go.Proofs.Ytednahmfjpaehaa
set_option linter.unusedVariables false
open Go.RowKit

theorem mergeO_self {a : List PB.Row} (h : PB.blockB a = true) : mergeO a a = (a, true) := by
  have hb := PB.blockB_iff.1 h
  have := mergeO_yes h h (by rw [PB.merge_self hb.2.1]; exact hb.2.2)
  rwa [PB.merge_self hb.2.1] at this
theorem mergeO_nil {a : List PB.Row} (h : PB.blockB a = true) : mergeO a [] = (a, true) := by
  have hb := PB.blockB_iff.1 h
  have h0 : PB.blockB [] = true := rfl
  have := mergeO_yes h h0 (by rw [PB.merge_nil]; exact hb.2.2)
  rwa [PB.merge_nil] at this
theorem mergeO_three {a b c L M : List PB.Row} (h : mergeO a b = (L, true)) (hc : PB.blockB c = true) (h2 : mergeO L c = (M, true)) : ∃ N, mergeO b c = (N, true) ∧ mergeO a N = (M, true) := by
  obtain ⟨ha, hb, hL, hl, hLb⟩ := mergeO_true h
  obtain ⟨_, _, hM, hm, _⟩ := mergeO_true h2
  have ha' := (PB.blockB_iff.1 ha).2.1
  have hb' := (PB.blockB_iff.1 hb).2.1
  have hc' := (PB.blockB_iff.1 hc).2.1
  have hn : (PB.mergeR b c).length ≤ 24 := by
    have := PB.merge_len_right ha' hb' hc'
    rw [← hL, ← hM] at this
    omega
  have hN : PB.blockB (PB.mergeR b c) = true := by rw [PB.block_merge hb hc]; exact decide_eq_true hn
  have hMM : M = PB.mergeR a (PB.mergeR b c) := by rw [hM, hL, PB.merge_assoc ha' hb' hc']
  refine ⟨_, mergeO_yes hb hc hn, ?_⟩
  rw [mergeO_yes ha hN (by rw [← hMM]; exact hm), ← hMM]
theorem mergeO_small {a b L : List PB.Row} {K : Bool} (h : mergeO a b = (L, K)) : L.length ≤ 24 := by have := mergeO_len a b; rw [h] at this; exact this

set_option maxRecDepth 100000 in
set_option maxHeartbeats 6400000 in
theorem fnMergeThree_walk (w : World) (a0 : Option Addr) (len0 cap0 : Nat) (z0 : List Int) (hz0 : z0.length = len0) (rd0 : Rd w w.heap.size 1 a0 len0 (z0.map (Value.int .u8))) (wf0 : ∀ z ∈ z0, (Lit.int .u8 z).wf = true) (lc0 : len0 ≤ cap0) (cm0 : cap0 ≤ maxLen) (a1 : Option Addr) (len1 cap1 : Nat) (z1 : List Int) (hz1 : z1.length = len1) (rd1 : Rd w w.heap.size 1 a1 len1 (z1.map (Value.int .u8))) (wf1 : ∀ z ∈ z1, (Lit.int .u8 z).wf = true) (lc1 : len1 ≤ cap1) (cm1 : cap1 ≤ maxLen) :
    Calls Try.prog 4 #[.slice a0 len0 cap0, .slice a1 len1 cap1] w fun e w' => e = .returned (.bool true) ∧ Below w.heap.size w w' := by
  have HD := hide (drawBlockMerge_any a0 len0 cap0 z0 w hz0 rd0 (bytes_ofM wf0) lc0 cm0)
  have HD2 : Hid (∀ w', Below w.heap.size w w' → Calls Try.prog 20 #[.slice a1 len1 cap1] w' (DrawnTwo w')) := hide (fun w' b' => drawBlockMerge_any a1 len1 cap1 z1 w' hz1 ((rd1.below b').more b'.size) (bytes_ofM wf1) lc1 cm1)
  clear rd0 wf0 hz0
  unfold maxLen at cm0
  clear rd1 wf1 hz1
  unfold maxLen at cm1
  by_cases hl0 : 1048576 < len0
  · clear HD HD2
    go_enter Try.func4, Try.ntmps4
    go_wp2
    go_ret
    exact ⟨rfl, Below.refl _ _⟩
  by_cases hl1 : 1048576 < len1
  · clear HD HD2
    go_enter Try.func4, Try.ntmps4
    go_wp2
    go_ret
    exact ⟨rfl, Below.refl _ _⟩
  go_enter Try.func4, Try.ntmps4
  have BW := hide (Below.refl w.heap.size w)
  have C1 := HD
  go_wp2_with fail
  refine C1.out.mono ?_
  rintro e w1 ⟨a, bb, P1, q1, P2, q2, rfl, hla, hlb, oa, ob, b⟩
  have s1 := b.size
  replace BW := hide (below_keep BW.out b)
  have DA := hide ((⟨Rd.of_own oa, Nat.le_refl _⟩ : RdB w1 w1.heap.size 2 P1 a.length (rows a)))
  have DB := hide ((⟨Rd.of_own ob, Nat.le_refl _⟩ : RdB w1 w1.heap.size 2 P2 bb.length (rows bb)))
  clear b C1
  clear oa ob
  have C2 := hide (HD2.out w1 BW.out)
  go_wp2_with fail
  refine C2.out.mono ?_
  rintro e w2 ⟨cc, dd, P3, q3, P4, q4, rfl, hlc, hld, oa, ob, b⟩
  have s2 := b.size
  replace BW := hide (below_keep BW.out b)
  replace DA := hide (DA.out.keep b)
  replace DB := hide (DB.out.keep b)
  have DC := hide ((⟨Rd.of_own oa, Nat.le_refl _⟩ : RdB w2 w2.heap.size 2 P3 cc.length (rows cc)))
  clear b C2
  clear oa ob HD2
  obtain ⟨L, K, hP⟩ : ∃ L K, mergeO a bb = (L, K) := ⟨_, _, rfl⟩
  have hLL : L.length ≤ 24 := mergeO_small hP
  have HP := hide hP
  clear hP
  have C3 := hide (calls_pair (specBlockMerge P1 P2 _ _ q1 q2 a bb _ _ w2 rfl rfl DA.out.rd DB.out.rd (by omega) (by omega) DA.out.le DB.out.le) HP.out)
  go_wp2_with fail
  refine C3.out.mono ?_
  rintro e w3 ⟨A3, d3, rfl, o, b⟩
  have s3 := b.size
  replace BW := hide (below_keep BW.out b)
  replace DA := hide (DA.out.keep b)
  replace DB := hide (DB.out.keep b)
  replace DC := hide (DC.out.keep b)
  have SP := hide ((OwB.of o b.size).rdB)
  clear b C3
  clear o
  have C4 := hide (calls_pair (implBlockMerge P1 P2 _ _ q1 q2 a bb _ _ w3 rfl rfl DA.out.rd DB.out.rd (by omega) (by omega) DA.out.le DB.out.le) HP.out)
  go_wp2_with fail
  refine C4.out.mono ?_
  rintro e w4 ⟨A4, d4, rfl, o, b⟩
  have s4 := b.size
  replace BW := hide (below_keep BW.out b)
  replace DA := hide (DA.out.keep b)
  replace DB := hide (DB.out.keep b)
  replace DC := hide (DC.out.keep b)
  replace SP := hide (SP.out.keep b)
  have GT := hide ((OwB.of o b.size).rdB)
  clear b C4
  clear o
  have C5 := hide (lyRows_any A4 A3 _ _ d4 d3 L L _ _ w4 rfl rfl GT.out.rd SP.out.rd (by omega) (by omega) GT.out.le SP.out.le)
  rw [decide_eq_true rfl] at C5
  go_wp2_with fail
  refine C5.out.mono ?_
  rintro e w5 ⟨rfl, b⟩
  have s5 := b.size
  replace BW := hide (below_keep BW.out b)
  replace DA := hide (DA.out.keep b)
  replace DB := hide (DB.out.keep b)
  replace DC := hide (DC.out.keep b)
  replace SP := hide (SP.out.keep b)
  replace GT := hide (GT.out.keep b)
  clear b C5
  cases K
  · have C6 := hide (lyRows_any A4 A3 _ _ d4 d3 L L _ _ w5 rfl rfl GT.out.rd SP.out.rd (by omega) (by omega) GT.out.le SP.out.le)
    rw [decide_eq_true rfl] at C6
    go_wp2_with fail
    refine C6.out.mono ?_
    rintro e w6 ⟨rfl, b⟩
    have s6 := b.size
    replace BW := hide (below_keep BW.out b)
    replace DA := hide (DA.out.keep b)
    replace DB := hide (DB.out.keep b)
    replace DC := hide (DC.out.keep b)
    replace SP := hide (SP.out.keep b)
    replace GT := hide (GT.out.keep b)
    clear b C6
    go_wp2
    go_ret
    exact ⟨rfl, BW.out⟩
  · have C6 := hide (specBlockOk P3 _ q3 cc _ w5 rfl DC.out.rd (by omega) DC.out.le)
    go_wp2_with fail
    refine C6.out.mono ?_
    rintro e w6 ⟨rfl, b⟩
    have s6 := b.size
    replace BW := hide (below_keep BW.out b)
    replace DA := hide (DA.out.keep b)
    replace DB := hide (DB.out.keep b)
    replace DC := hide (DC.out.keep b)
    replace SP := hide (SP.out.keep b)
    replace GT := hide (GT.out.keep b)
    clear b C6
    cases hcc : PB.blockB cc
    · have C7 := hide (lyRows_any A4 A3 _ _ d4 d3 L L _ _ w6 rfl rfl GT.out.rd SP.out.rd (by omega) (by omega) GT.out.le SP.out.le)
      clear hcc
      rw [decide_eq_true rfl] at C7
      go_wp2_with fail
      refine C7.out.mono ?_
      rintro e w7 ⟨rfl, b⟩
      have s7 := b.size
      replace BW := hide (below_keep BW.out b)
      replace DA := hide (DA.out.keep b)
      replace DB := hide (DB.out.keep b)
      replace DC := hide (DC.out.keep b)
      replace SP := hide (SP.out.keep b)
      replace GT := hide (GT.out.keep b)
      clear b C7
      go_wp2
      go_ret
      exact ⟨rfl, BW.out⟩
    · have HCC := hide hcc
      clear hcc SP
      have HS : Hid (mergeO a a = (a, true)) := hide (mergeO_self (mergeO_true HP.out).1)
      have HN0 : Hid (mergeO a [] = (a, true)) := hide (mergeO_nil (mergeO_true HP.out).1)
      obtain ⟨M, K2, hM⟩ : ∃ M K2, mergeO L cc = (M, K2) := ⟨_, _, rfl⟩
      have hML : M.length ≤ 24 := mergeO_small hM
      have HM := hide hM
      clear hM
      obtain ⟨N, K3, hN⟩ : ∃ N K3, mergeO bb cc = (N, K3) := ⟨_, _, rfl⟩
      have hNL : N.length ≤ 24 := mergeO_small hN
      have HN := hide hN
      clear hN
      obtain ⟨Q, K4, hQ⟩ : ∃ Q K4, mergeO a N = (Q, K4) := ⟨_, _, rfl⟩
      have hQL : Q.length ≤ 24 := mergeO_small hQ
      have HQ := hide hQ
      clear hQ
      have C7 := hide (calls_pair (implBlockMerge P1 P1 _ _ q1 q1 a a _ _ w6 rfl rfl DA.out.rd DA.out.rd (by omega) (by omega) DA.out.le DA.out.le) HS.out)
      go_wp2_with fail
      refine C7.out.mono ?_
      rintro e w7 ⟨A7, d7, rfl, o, b⟩
      have s7 := b.size
      replace BW := hide (below_keep BW.out b)
      replace DA := hide (DA.out.keep b)
      replace DB := hide (DB.out.keep b)
      replace DC := hide (DC.out.keep b)
      replace GT := hide (GT.out.keep b)
      have AA := hide ((OwB.of o b.size).rdB)
      clear b C7
      clear o
      have C8 := hide (calls_pair (implBlockMerge P1 none _ 0 q1 0 a [] _ _ w7 rfl rfl DA.out.rd (Rd.nil _ 0 2 none) (by omega) (by omega) DA.out.le (Nat.zero_le _)) HN0.out)
      go_wp2_with fail
      refine C8.out.mono ?_
      rintro e w8 ⟨A8, d8, rfl, o, b⟩
      have s8 := b.size
      replace BW := hide (below_keep BW.out b)
      replace DA := hide (DA.out.keep b)
      replace DB := hide (DB.out.keep b)
      replace DC := hide (DC.out.keep b)
      replace GT := hide (GT.out.keep b)
      replace AA := hide (AA.out.keep b)
      have AN := hide ((OwB.of o b.size).rdB)
      clear b C8
      clear o
      have C9 := hide (calls_pair (implBlockMerge A4 P3 _ _ d4 q3 L cc _ _ w8 rfl rfl GT.out.rd DC.out.rd (by omega) (by omega) GT.out.le DC.out.le) HM.out)
      go_wp2_with fail
      refine C9.out.mono ?_
      rintro e w9 ⟨A9, d9, rfl, o, b⟩
      have s9 := b.size
      replace BW := hide (below_keep BW.out b)
      replace DA := hide (DA.out.keep b)
      replace DB := hide (DB.out.keep b)
      replace DC := hide (DC.out.keep b)
      replace GT := hide (GT.out.keep b)
      replace AA := hide (AA.out.keep b)
      replace AN := hide (AN.out.keep b)
      have LC := hide ((OwB.of o b.size).rdB)
      clear b C9
      clear o
      have C10 := hide (calls_pair (implBlockMerge P2 P3 _ _ q2 q3 bb cc _ _ w9 rfl rfl DB.out.rd DC.out.rd (by omega) (by omega) DB.out.le DC.out.le) HN.out)
      go_wp2_with fail
      refine C10.out.mono ?_
      rintro e w10 ⟨A10, d10, rfl, o, b⟩
      have s10 := b.size
      replace BW := hide (below_keep BW.out b)
      replace DA := hide (DA.out.keep b)
      replace DB := hide (DB.out.keep b)
      replace DC := hide (DC.out.keep b)
      replace GT := hide (GT.out.keep b)
      replace AA := hide (AA.out.keep b)
      replace AN := hide (AN.out.keep b)
      replace LC := hide (LC.out.keep b)
      have BC := hide ((OwB.of o b.size).rdB)
      clear b C10
      clear o
      have C11 := hide (calls_pair (implBlockMerge P1 A10 _ _ q1 d10 a N _ _ w10 rfl rfl DA.out.rd BC.out.rd (by omega) (by omega) DA.out.le BC.out.le) HQ.out)
      go_wp2_with fail
      refine C11.out.mono ?_
      rintro e w11 ⟨A11, d11, rfl, o, b⟩
      have s11 := b.size
      replace BW := hide (below_keep BW.out b)
      replace DA := hide (DA.out.keep b)
      replace DB := hide (DB.out.keep b)
      replace DC := hide (DC.out.keep b)
      replace GT := hide (GT.out.keep b)
      replace AA := hide (AA.out.keep b)
      replace AN := hide (AN.out.keep b)
      replace LC := hide (LC.out.keep b)
      replace BC := hide (BC.out.keep b)
      have AB := hide ((OwB.of o b.size).rdB)
      clear b C11
      clear o
      have C12 := hide (lyRows_any A7 P1 _ _ d7 q1 a a _ _ w11 rfl rfl AA.out.rd DA.out.rd (by omega) (by omega) AA.out.le DA.out.le)
      rw [decide_eq_true rfl] at C12
      go_wp2_with fail
      refine C12.out.mono ?_
      rintro e w12 ⟨rfl, b⟩
      have s12 := b.size
      replace BW := hide (below_keep BW.out b)
      replace DA := hide (DA.out.keep b)
      replace DB := hide (DB.out.keep b)
      replace DC := hide (DC.out.keep b)
      replace GT := hide (GT.out.keep b)
      replace AA := hide (AA.out.keep b)
      replace AN := hide (AN.out.keep b)
      replace LC := hide (LC.out.keep b)
      replace BC := hide (BC.out.keep b)
      replace AB := hide (AB.out.keep b)
      clear b C12
      have C13 := hide (lyRows_any A8 P1 _ _ d8 q1 a a _ _ w12 rfl rfl AN.out.rd DA.out.rd (by omega) (by omega) AN.out.le DA.out.le)
      rw [decide_eq_true rfl] at C13
      go_wp2_with fail
      refine C13.out.mono ?_
      rintro e w13 ⟨rfl, b⟩
      have s13 := b.size
      replace BW := hide (below_keep BW.out b)
      replace DA := hide (DA.out.keep b)
      replace DB := hide (DB.out.keep b)
      replace DC := hide (DC.out.keep b)
      replace GT := hide (GT.out.keep b)
      replace AA := hide (AA.out.keep b)
      replace AN := hide (AN.out.keep b)
      replace LC := hide (LC.out.keep b)
      replace BC := hide (BC.out.keep b)
      replace AB := hide (AB.out.keep b)
      clear b C13
      cases K2
      · go_wp2
        go_ret
        exact ⟨rfl, BW.out⟩
      · obtain ⟨N', hN1, hN2⟩ := mergeO_three HP.out HCC.out HM.out
        obtain ⟨rfl, rfl⟩ : N = N' ∧ K3 = true := by
          have h1 := HN.out.symm.trans hN1
          injection h1 with h1 h2
          exact ⟨h1, h2⟩
        obtain ⟨rfl, rfl⟩ : Q = M ∧ K4 = true := by
          have h1 := HQ.out.symm.trans hN2
          injection h1 with h1 h2
          exact ⟨h1, h2⟩
        clear hN1 hN2
        have C14 := hide (lyRows_any A11 A9 _ _ d11 d9 Q Q _ _ w13 rfl rfl AB.out.rd LC.out.rd (by omega) (by omega) AB.out.le LC.out.le)
        rw [decide_eq_true rfl] at C14
        go_wp2_with fail
        refine C14.out.mono ?_
        rintro e w14 ⟨rfl, b⟩
        have s14 := b.size
        replace BW := hide (below_keep BW.out b)
        replace DA := hide (DA.out.keep b)
        replace DB := hide (DB.out.keep b)
        replace DC := hide (DC.out.keep b)
        replace GT := hide (GT.out.keep b)
        replace AA := hide (AA.out.keep b)
        replace AN := hide (AN.out.keep b)
        replace LC := hide (LC.out.keep b)
        replace BC := hide (BC.out.keep b)
        replace AB := hide (AB.out.keep b)
        clear b C14
        go_wp2
        go_ret
        exact ⟨rfl, BW.out⟩

end Go.Proofs.Ytednahmfjpaehaa
