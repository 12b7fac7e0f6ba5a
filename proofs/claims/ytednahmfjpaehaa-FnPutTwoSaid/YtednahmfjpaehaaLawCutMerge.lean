/-
  WALKS: laws of BlockMerge: CutMerge, MergeMany, MergePut.
-/
import Derived.Test.YtednahmfjpaehaaDrawMerge
import Derived.Test.YtednahmfjpaehaaLawMerge
import Derived.Test.YtednahmfjpaehaaCut
import Derived.Test.YtednahmfjpaehaaLy
import Derived.Test.YtednahmfjpaehaaPlainPut2
import Derived.OpenShut
namespace Go.Proofs.Ytednahmfjpaehaa
set_option linter.unusedVariables false
open Go.RowKit

theorem bytes_ofM {zs : List Int} (h : ∀ z ∈ zs, (Lit.int .u8 z).wf = true) : ByteL zs := fun z hz => bounds_u8 (h z hz)
theorem mergeO_true {a b L : List PB.Row} (h : mergeO a b = (L, true)) : PB.blockB a = true ∧ PB.blockB b = true ∧ L = PB.mergeR a b ∧ L.length ≤ 24 ∧ PB.blockB L = true := by
  unfold mergeO at h
  split at h
  · rename_i hab
    rw [Bool.and_eq_true] at hab
    split at h
    · rename_i hlen
      injection h with h1 h2
      subst h1
      exact ⟨hab.1, hab.2, rfl, hlen, by rw [PB.block_merge hab.1 hab.2]; exact decide_eq_true hlen⟩
    · injection h with h1 h2; cases h2
  · injection h with h1 h2; cases h2
theorem cutB_yes {l : List PB.Row} (h : PB.blockB l = true) (lo hi : Int) : cutB l lo hi = PB.cutR l lo hi := by unfold cutB; rw [h]; rfl
theorem cutB_small (l : List PB.Row) (lo hi : Int) : (cutB l lo hi).length ≤ l.length := by
  unfold cutB
  split
  · exact List.length_filter_le _ _
  · exact Nat.zero_le _
theorem mergeO_cut {a b L : List PB.Row} (h : mergeO a b = (L, true)) (lo hi : Int) : mergeO (cutB a lo hi) (cutB b lo hi) = (cutB L lo hi, true) := by
  obtain ⟨ha, hb, hL, hl, hLb⟩ := mergeO_true h
  rw [cutB_yes ha, cutB_yes hb, cutB_yes hLb, hL]
  have ha' := (PB.blockB_iff.1 ha).2.1
  have hb' := (PB.blockB_iff.1 hb).2.1
  rw [mergeO_yes (PB.block_cut ha) (PB.block_cut hb) (Nat.le_trans (PB.cut_merge_len ha' hb' lo hi) (by rw [← hL]; exact hl)), ← PB.cut_merge ha' hb']

set_option maxRecDepth 100000 in
set_option maxHeartbeats 6400000 in
theorem fnCutMerge_walk (w : World) (a0 : Option Addr) (len0 cap0 : Nat) (z0 : List Int) (hz0 : z0.length = len0) (rd0 : Rd w w.heap.size 1 a0 len0 (z0.map (Value.int .u8))) (wf0 : ∀ z ∈ z0, (Lit.int .u8 z).wf = true) (lc0 : len0 ≤ cap0) (cm0 : cap0 ≤ maxLen) (a1 : Option Addr) (len1 cap1 : Nat) (z1 : List Int) (hz1 : z1.length = len1) (rd1 : Rd w w.heap.size 1 a1 len1 (z1.map (Value.int .u8))) (wf1 : ∀ z ∈ z1, (Lit.int .u8 z).wf = true) (lc1 : len1 ≤ cap1) (cm1 : cap1 ≤ maxLen) :
    Calls Try.prog 11 #[.slice a0 len0 cap0, .slice a1 len1 cap1] w fun e w' => e = .returned (.bool true) ∧ Below w.heap.size w w' := by
  have HD := hide (drawBlockMerge_any a0 len0 cap0 z0 w hz0 rd0 (bytes_ofM wf0) lc0 cm0)
  clear rd0 wf0 hz0
  unfold maxLen at cm0
  clear rd1 wf1 hz1
  unfold maxLen at cm1
  by_cases hl0 : 1048576 < len0
  · clear HD
    go_enter Try.func11, Try.ntmps11
    go_wp2
    go_ret
    exact ⟨rfl, Below.refl _ _⟩
  by_cases hl1 : 1048576 < len1
  · clear HD
    go_enter Try.func11, Try.ntmps11
    go_wp2
    go_ret
    exact ⟨rfl, Below.refl _ _⟩
  go_enter Try.func11, Try.ntmps11
  have BW := hide (Below.refl w.heap.size w)
  have C1 := HD
  go_wp2_with fail
  refine C1.out.mono ?_
  rintro e w1 ⟨a, bb, P1, q1, P2, q2, rfl, hla, hlb, oa, ob, b⟩
  have s1 := b.size
  replace BW := hide (below_keep BW.out b)
  have DA := hide ((⟨Rd.of_own oa, Nat.le_refl _⟩ : RdB w1 w1.heap.size 2 P1 a.length (rows a)))
  have DB := hide ((⟨Rd.of_own ob, Nat.le_refl _⟩ : RdB w1 w1.heap.size 2 P2 bb.length (rows bb)))
  clear b C1
  clear oa ob
  obtain ⟨L, K, hP⟩ : ∃ L K, mergeO a bb = (L, K) := ⟨_, _, rfl⟩
  have hLL : L.length ≤ 24 := by have := mergeO_len a bb; rw [hP] at this; exact this
  have HP := hide hP
  clear hP
  have C2 := hide (calls_pair (specBlockMerge P1 P2 _ _ q1 q2 a bb _ _ w1 rfl rfl DA.out.rd DB.out.rd (by omega) (by omega) DA.out.le DB.out.le) HP.out)
  go_wp2_with fail
  refine C2.out.mono ?_
  rintro e w2 ⟨A2, d2, rfl, o, b⟩
  have s2 := b.size
  replace BW := hide (below_keep BW.out b)
  replace DA := hide (DA.out.keep b)
  replace DB := hide (DB.out.keep b)
  have SP := hide ((OwB.of o b.size).rdB)
  clear b C2
  clear o
  have C3 := hide (calls_pair (implBlockMerge P1 P2 _ _ q1 q2 a bb _ _ w2 rfl rfl DA.out.rd DB.out.rd (by omega) (by omega) DA.out.le DB.out.le) HP.out)
  go_wp2_with fail
  refine C3.out.mono ?_
  rintro e w3 ⟨A3, d3, rfl, o, b⟩
  have s3 := b.size
  replace BW := hide (below_keep BW.out b)
  replace DA := hide (DA.out.keep b)
  replace DB := hide (DB.out.keep b)
  replace SP := hide (SP.out.keep b)
  have GT := hide ((OwB.of o b.size).rdB)
  clear b C3
  clear o
  have C4 := hide (lyRows_any A3 A2 _ _ d3 d2 L L _ _ w3 rfl rfl GT.out.rd SP.out.rd (by omega) (by omega) GT.out.le SP.out.le)
  rw [decide_eq_true rfl] at C4
  go_wp2_with fail
  refine C4.out.mono ?_
  rintro e w4 ⟨rfl, b⟩
  have s4 := b.size
  replace BW := hide (below_keep BW.out b)
  replace DA := hide (DA.out.keep b)
  replace DB := hide (DB.out.keep b)
  replace SP := hide (SP.out.keep b)
  replace GT := hide (GT.out.keep b)
  clear b C4
  cases K
  · have C5 := hide (lyRows_any A3 A2 _ _ d3 d2 L L _ _ w4 rfl rfl GT.out.rd SP.out.rd (by omega) (by omega) GT.out.le SP.out.le)
    rw [decide_eq_true rfl] at C5
    go_wp2_with fail
    refine C5.out.mono ?_
    rintro e w5 ⟨rfl, b⟩
    have s5 := b.size
    replace BW := hide (below_keep BW.out b)
    replace DA := hide (DA.out.keep b)
    replace DB := hide (DB.out.keep b)
    replace SP := hide (SP.out.keep b)
    replace GT := hide (GT.out.keep b)
    clear b C5
    go_wp2
    go_ret
    exact ⟨rfl, BW.out⟩
  · obtain ⟨lo, hlo⟩ : ∃ lo : Int, lo = ((len1 % 30 : Nat) : Int) := ⟨_, rfl⟩
    have hlo1 : (len1 : Int).tmod 30 = lo := by rw [hlo, Int.tmod_eq_emod_of_nonneg (by omega)]; omega
    have hlo0 : 0 ≤ lo ∧ lo < 30 := by rw [hlo]; omega
    clear hlo
    obtain ⟨hp, hhp⟩ : ∃ hp : Int, hp = ((len1 % 17 : Nat) : Int) := ⟨_, rfl⟩
    have hhp1 : (len1 : Int).tmod 17 = hp := by rw [hhp, Int.tmod_eq_emod_of_nonneg (by omega)]; omega
    have hhp0 : 0 ≤ hp ∧ hp < 17 := by rw [hhp]; omega
    clear hhp
    obtain ⟨X, hX⟩ : ∃ X, X = cutB a lo (lo + hp) := ⟨_, rfl⟩
    obtain ⟨Y, hY⟩ : ∃ Y, Y = cutB bb lo (lo + hp) := ⟨_, rfl⟩
    obtain ⟨Z, hZ⟩ : ∃ Z, Z = cutB L lo (lo + hp) := ⟨_, rfl⟩
    have hXl : X.length ≤ a.length := by rw [hX]; exact cutB_small _ _ _
    have hYl : Y.length ≤ bb.length := by rw [hY]; exact cutB_small _ _ _
    have hZl : Z.length ≤ L.length := by rw [hZ]; exact cutB_small _ _ _
    have HM : Hid (mergeO X Y = (Z, true)) := hide (by rw [hX, hY, hZ]; exact mergeO_cut HP.out _ _)
    have HX := hide hX
    have HY := hide hY
    have HZ := hide hZ
    clear hX hY hZ
    have C5 := hide (implBlockCut P1 _ q1 a lo (lo + hp) _ w4 rfl DA.out.rd (by omega) DA.out.le)
    rw [← HX.out] at C5
    go_wp2_with fail
    refine C5.out.mono ?_
    rintro e w5 ⟨A5, d5, rfl, o, b⟩
    have s5 := b.size
    replace BW := hide (below_keep BW.out b)
    replace DA := hide (DA.out.keep b)
    replace DB := hide (DB.out.keep b)
    replace SP := hide (SP.out.keep b)
    replace GT := hide (GT.out.keep b)
    have CA := hide ((OwB.of o b.size).rdB)
    clear b C5
    clear o
    have C6 := hide (implBlockCut P2 _ q2 bb lo (lo + hp) _ w5 rfl DB.out.rd (by omega) DB.out.le)
    rw [← HY.out] at C6
    go_wp2_with fail
    refine C6.out.mono ?_
    rintro e w6 ⟨A6, d6, rfl, o, b⟩
    have s6 := b.size
    replace BW := hide (below_keep BW.out b)
    replace DA := hide (DA.out.keep b)
    replace DB := hide (DB.out.keep b)
    replace SP := hide (SP.out.keep b)
    replace GT := hide (GT.out.keep b)
    replace CA := hide (CA.out.keep b)
    have CB := hide ((OwB.of o b.size).rdB)
    clear b C6
    clear o
    have C7 := hide (calls_pair (implBlockMerge A5 A6 _ _ d5 d6 X Y _ _ w6 rfl rfl CA.out.rd CB.out.rd (by omega) (by omega) CA.out.le CB.out.le) HM.out)
    go_wp2_with fail
    refine C7.out.mono ?_
    rintro e w7 ⟨A7, d7, rfl, o, b⟩
    have s7 := b.size
    replace BW := hide (below_keep BW.out b)
    replace DA := hide (DA.out.keep b)
    replace DB := hide (DB.out.keep b)
    replace SP := hide (SP.out.keep b)
    replace GT := hide (GT.out.keep b)
    replace CA := hide (CA.out.keep b)
    replace CB := hide (CB.out.keep b)
    have MM := hide ((OwB.of o b.size).rdB)
    clear b C7
    clear o
    have C8 := hide (implBlockCut A3 _ d3 L lo (lo + hp) _ w7 rfl GT.out.rd (by omega) GT.out.le)
    rw [← HZ.out] at C8
    go_wp2_with fail
    refine C8.out.mono ?_
    rintro e w8 ⟨A8, d8, rfl, o, b⟩
    have s8 := b.size
    replace BW := hide (below_keep BW.out b)
    replace DA := hide (DA.out.keep b)
    replace DB := hide (DB.out.keep b)
    replace SP := hide (SP.out.keep b)
    replace GT := hide (GT.out.keep b)
    replace CA := hide (CA.out.keep b)
    replace CB := hide (CB.out.keep b)
    replace MM := hide (MM.out.keep b)
    have CL := hide ((OwB.of o b.size).rdB)
    clear b C8
    clear o
    have C9 := hide (lyRows_any A8 A7 _ _ d8 d7 Z Z _ _ w8 rfl rfl CL.out.rd MM.out.rd (by omega) (by omega) CL.out.le MM.out.le)
    rw [decide_eq_true rfl] at C9
    go_wp2_with fail
    refine C9.out.mono ?_
    rintro e w9 ⟨rfl, b⟩
    have s9 := b.size
    replace BW := hide (below_keep BW.out b)
    replace DA := hide (DA.out.keep b)
    replace DB := hide (DB.out.keep b)
    replace SP := hide (SP.out.keep b)
    replace GT := hide (GT.out.keep b)
    replace CA := hide (CA.out.keep b)
    replace CB := hide (CB.out.keep b)
    replace MM := hide (MM.out.keep b)
    replace CL := hide (CL.out.keep b)
    clear b C9
    go_wp2
    go_ret
    exact ⟨rfl, BW.out⟩

end Go.Proofs.Ytednahmfjpaehaa
