/-
  WALKS: laws of NumsUnpack on drawn numbers: NumsBack, NumsCut, NumsStrict.
-/
import Derived.Test.YthmmcnabfmegfaaLawUnp
import Derived.Test.YthmmcnabfmegfaaDrawInts
namespace Go.Proofs.Ythmmcnabfmegfaa
set_option linter.unusedVariables false
open Go.RowKit

theorem bytes_ofU {zs : List Int} (h : ∀ z ∈ zs, (Lit.int .u8 z).wf = true) : ByteL zs := fun z hz => bounds_u8 (h z hz)
theorem own_cap {w : World} {B e size n c : Nat} {A : Option Addr} {xs : List Value} (h : w.ownsRow B e size (.slice A n c) n xs) : n ≤ c := by
  obtain ⟨A', c', he, hc⟩ := own_shape h
  simp only [Value.slice.injEq, true_and] at he
  omega
theorem Rd.takeI {w : World} {B n k : Nat} {A : Option Addr} {l : List Int} (h : Rd w B 1 A n (ints l)) (hk : k ≤ n) : Rd w B 1 A k (ints (l.take k)) := by
  have hl : l.length = n := by have := h.1; simpa using this
  refine ⟨by simp; omega, fun h0 => ?_⟩
  obtain ⟨b, off, e, hb, hc⟩ := h.2 (by omega)
  refine ⟨b, off, e, hb, fun j u hu => hc j u ?_⟩
  simp only [ints, List.map_take, List.getElem?_take] at hu
  split at hu
  · exact hu
  · cases hu
theorem RdB.takeI {w : World} {B n k : Nat} {A : Option Addr} {l : List Int} (h : RdB w B 1 A n (ints l)) (hk : k ≤ n) : RdB w B 1 A k (ints (l.take k)) := ⟨h.rd.takeI hk, h.le⟩
theorem unpO_pack {a : List Int} (h : PN.pack a ≠ []) : unpO (PN.pack a) = (a, true) := by
  obtain ⟨h1, h2⟩ := PN.pack_ok h
  exact unpO_some (PN.unp_some h1 h2.symm)
theorem pack_bd {a : List Int} (h : PN.pack a ≠ []) : a.length ≤ (PN.pack a).length ∧ (PN.pack a).length ≤ 2 * a.length := by
  obtain ⟨h1, h2⟩ := PN.pack_ok h
  rw [h2]; exact PN.pack0_len h1
/-- The first numbers are the first bytes. -/
theorem pack_take {a : List Int} (h : PN.pack a ≠ []) (k : Nat) : (PN.pack (a.take k)).length ≤ (PN.pack a).length ∧ (PN.pack a).take (PN.pack (a.take k)).length = PN.pack (a.take k) := by
  obtain ⟨h1, h2⟩ := PN.pack_ok h
  have hk := PN.okB_iff.1 h1
  have h3 : PN.okB (a.take k) = true := PN.okB_iff.2 ⟨fun n hn => hk.1 n (List.mem_of_mem_take hn), by rw [List.length_take]; omega⟩
  have h4 : PN.pack0 a = PN.pack0 (a.take k) ++ PN.pk (0 + (a.take k).length) (PN.st (0, 0) (a.take k)).1 (PN.st (0, 0) (a.take k)).2 (a.drop k) := by
    unfold PN.pack0
    rw [← PN.pk_append, List.take_append_drop]
  rw [h2, PN.pack_of_ok h3, h4]
  exact ⟨by simp, by simp⟩
/-- One byte less: no numbers, or fewer. -/
theorem unp_cut {a : List Int} (h : PN.pack a ≠ []) {X : List Int} {K : Bool} (hX : unpO ((PN.pack a).take ((PN.pack a).length - 1)) = (X, K)) (hK : K = true) : X.length < a.length ∧ X = a.take X.length := by
  subst hK
  obtain ⟨h1, h2⟩ := PN.pack_ok h
  have hne : 0 < (PN.pack a).length := by
    rcases Nat.eq_zero_or_pos (PN.pack a).length with h0 | h0
    · exact absurd (List.eq_nil_of_length_eq_zero h0) h
    · exact h0
  have hu : PN.unp ((PN.pack a).take ((PN.pack a).length - 1)) = some X := by
    unfold unpO at hX
    cases hh : PN.unp ((PN.pack a).take ((PN.pack a).length - 1)) with
    | none => rw [hh] at hX; simp only [Prod.mk.injEq] at hX; cases hX.2
    | some y => rw [hh] at hX; simp only [Prod.mk.injEq] at hX; rw [hX.1]
  obtain ⟨h3, h4⟩ := PN.of_unp hu
  obtain ⟨r, hr, ht⟩ := PN.pk_pre X a 0 0 0 ((PN.pack a).drop ((PN.pack a).length - 1)) (by omega) (by omega) (PN.okB_iff.1 h3).1 (PN.okB_iff.1 h1).1 (by
    have := List.take_append_drop ((PN.pack a).length - 1) (PN.pack a)
    rw [← h4] at this
    unfold PN.pack0 at this
    rw [this, h2]; rfl)
  have hrn : r ≠ [] := by
    rintro rfl
    have := congrArg List.length ht
    simp only [PN.pk, List.length_drop, List.length_nil] at this
    omega
  have hrl : 0 < r.length := by
    rcases Nat.eq_zero_or_pos r.length with h0 | h0
    · exact absurd (List.eq_nil_of_length_eq_zero h0) hrn
    · exact h0
  rw [hr]
  exact ⟨by simp; omega, by simp⟩

set_option maxRecDepth 100000 in
set_option maxHeartbeats 3200000 in
theorem fnNumsBack_walk (w : World) (a0 : Option Addr) (len0 cap0 : Nat) (z0 : List Int) (hz0 : z0.length = len0) (rd0 : Rd w w.heap.size 1 a0 len0 (z0.map (Value.int .u8))) (wf0 : ∀ z ∈ z0, (Lit.int .u8 z).wf = true) (lc0 : len0 ≤ cap0) (cm0 : cap0 ≤ maxLen) :
    Calls Try.prog 13 #[.slice a0 len0 cap0] w fun e w' => e = .returned (.bool true) ∧ Below w.heap.size w w' := by
  have HD := hide (drawNumsPack_any a0 len0 cap0 z0 w hz0 rd0 (bytes_ofU wf0) lc0 cm0)
  clear rd0 wf0 hz0
  unfold maxLen at cm0
  by_cases hl0 : 1048576 < len0
  · clear HD
    go_enter Try.func13, Try.ntmps13
    go_wp2
    go_ret
    exact ⟨rfl, Below.refl _ _⟩
  go_enter Try.func13, Try.ntmps13
  have BW := hide (Below.refl w.heap.size w)
  have C1 := HD
  go_wp2_with fail
  refine C1.out.mono ?_
  rintro e w1 ⟨a, hal, A1, d1, rfl, o, b⟩
  have s1 := b.size
  replace BW := hide (below_keep BW.out b)
  have DA := hide ((⟨Rd.of_own o, Nat.le_refl _⟩ : RdB w1 w1.heap.size 1 A1 a.length (ints a)))
  clear b C1
  have hcap := own_cap o
  clear o
  have C2 := hide (implNumsPack A1 _ d1 a _ w1 rfl DA.out.rd (by omega) DA.out.le)
  go_wp2_with fail
  refine C2.out.mono ?_
  rintro e w2 ⟨rfl, b⟩
  have s2 := b.size
  replace BW := hide (below_keep BW.out b)
  replace DA := hide (DA.out.keep b)
  clear b C2
  have C3 := hide (specNumsPack A1 _ d1 a _ w2 rfl DA.out.rd (by omega) DA.out.le)
  go_wp2_with fail
  refine C3.out.mono ?_
  rintro e w3 ⟨rfl, b⟩
  have s3 := b.size
  replace BW := hide (below_keep BW.out b)
  replace DA := hide (DA.out.keep b)
  clear b C3
  by_cases ha : PN.pack a = []
  · obtain ⟨t1, t2⟩ := S_empty _ ha
    clear ha
    have C4 := hide (specNumsPack A1 _ d1 a _ w3 rfl DA.out.rd (by omega) DA.out.le)
    go_wp2_with fail
    refine C4.out.mono ?_
    rintro e w4 ⟨rfl, b⟩
    have s4 := b.size
    replace BW := hide (below_keep BW.out b)
    replace DA := hide (DA.out.keep b)
    clear b C4
    clear t1 t2
    go_wp2
    go_ret
    exact ⟨ret_bool (by simp), BW.out⟩
  · obtain ⟨t1, t2⟩ := S_full _ ha
    have HA := hide ha
    have hs := S_size (PN.pack a)
    have hbd := pack_bd ha
    have hpl := PN.pack_len a
    clear ha
    have C4 := hide (calls_pairI (implNumsUnpack (PN.pack a) w3 (by omega)) (unpO_pack HA.out))
    go_wp2_with fail
    refine C4.out.mono ?_
    rintro e w4 ⟨A4, d4, rfl, o, b⟩
    have s4 := b.size
    replace BW := hide (below_keep BW.out b)
    replace DA := hide (DA.out.keep b)
    have UX := hide (OwB.of o b.size)
    clear b C4
    clear o
    have C5 := hide (lyInts_any A4 A1 _ _ d4 d1 a a _ _ w4 rfl rfl UX.out.rd DA.out.rd (by omega) (by omega) UX.out.top DA.out.le)
    rw [decide_eq_true rfl] at C5
    go_wp2_with fail
    refine C5.out.mono ?_
    rintro e w5 ⟨rfl, b⟩
    have s5 := b.size
    replace BW := hide (below_keep BW.out b)
    replace DA := hide (DA.out.keep b)
    replace UX := hide (UX.out.keep b)
    clear b C5
    have hb2 : ((PN.pack a).length : Int) ≤ 3 * (a.length : Int) := by omega
    have hb1 : (a.length : Int) ≤ ((PN.pack a).length : Int) := by omega
    go_wp2
    go_ret
    exact ⟨rfl, BW.out⟩

set_option maxRecDepth 100000 in
set_option maxHeartbeats 3200000 in
theorem fnNumsCut_walk (w : World) (a0 : Option Addr) (len0 cap0 : Nat) (z0 : List Int) (hz0 : z0.length = len0) (rd0 : Rd w w.heap.size 1 a0 len0 (z0.map (Value.int .u8))) (wf0 : ∀ z ∈ z0, (Lit.int .u8 z).wf = true) (lc0 : len0 ≤ cap0) (cm0 : cap0 ≤ maxLen) (a1 : Option Addr) (len1 cap1 : Nat) (z1 : List Int) (hz1 : z1.length = len1) (rd1 : Rd w w.heap.size 1 a1 len1 (z1.map (Value.int .u8))) (wf1 : ∀ z ∈ z1, (Lit.int .u8 z).wf = true) (lc1 : len1 ≤ cap1) (cm1 : cap1 ≤ maxLen) :
    Calls Try.prog 14 #[.slice a0 len0 cap0, .slice a1 len1 cap1] w fun e w' => e = .returned (.bool true) ∧ Below w.heap.size w w' := by
  have HD := hide (drawNumsPack_any a0 len0 cap0 z0 w hz0 rd0 (bytes_ofU wf0) lc0 cm0)
  clear rd0 wf0 hz0
  unfold maxLen at cm0
  clear rd1 wf1 hz1
  unfold maxLen at cm1
  by_cases hl0 : 1048576 < len0
  · clear HD
    go_enter Try.func14, Try.ntmps14
    go_wp2
    go_ret
    exact ⟨rfl, Below.refl _ _⟩
  by_cases hl1 : 1048576 < len1
  · clear HD
    go_enter Try.func14, Try.ntmps14
    go_wp2
    go_ret
    exact ⟨rfl, Below.refl _ _⟩
  go_enter Try.func14, Try.ntmps14
  have BW := hide (Below.refl w.heap.size w)
  have C1 := HD
  go_wp2_with fail
  refine C1.out.mono ?_
  rintro e w1 ⟨a, hal, A1, d1, rfl, o, b⟩
  have s1 := b.size
  replace BW := hide (below_keep BW.out b)
  have DA := hide ((⟨Rd.of_own o, Nat.le_refl _⟩ : RdB w1 w1.heap.size 1 A1 a.length (ints a)))
  clear b C1
  have hcap := own_cap o
  clear o
  have C2 := hide (implNumsPack A1 _ d1 a _ w1 rfl DA.out.rd (by omega) DA.out.le)
  go_wp2_with fail
  refine C2.out.mono ?_
  rintro e w2 ⟨rfl, b⟩
  have s2 := b.size
  replace BW := hide (below_keep BW.out b)
  replace DA := hide (DA.out.keep b)
  clear b C2
  have C3 := hide (specNumsPack A1 _ d1 a _ w2 rfl DA.out.rd (by omega) DA.out.le)
  go_wp2_with fail
  refine C3.out.mono ?_
  rintro e w3 ⟨rfl, b⟩
  have s3 := b.size
  replace BW := hide (below_keep BW.out b)
  replace DA := hide (DA.out.keep b)
  clear b C3
  by_cases ha : PN.pack a = []
  · obtain ⟨t1, t2⟩ := S_empty _ ha
    clear ha
    have C4 := hide (specNumsPack A1 _ d1 a _ w3 rfl DA.out.rd (by omega) DA.out.le)
    go_wp2_with fail
    refine C4.out.mono ?_
    rintro e w4 ⟨rfl, b⟩
    have s4 := b.size
    replace BW := hide (below_keep BW.out b)
    replace DA := hide (DA.out.keep b)
    clear b C4
    clear t1 t2
    go_wp2
    go_ret
    exact ⟨ret_bool (by simp), BW.out⟩
  · obtain ⟨t1, t2⟩ := S_full _ ha
    have HA := hide ha
    have hs := S_size (PN.pack a)
    have hbd := pack_bd ha
    have hpl := PN.pack_len a
    clear ha
    obtain ⟨k, hk⟩ : ∃ k : Nat, k = len1 % (a.length + 1) := ⟨_, rfl⟩
    have hk1 : (len1 : Int).tmod ((a.length : Int) + 1) = (k : Int) := by rw [hk, Int.tmod_eq_emod_of_nonneg (by omega)]; push_cast; rfl
    have hka : k ≤ a.length := by rw [hk]; have := Nat.mod_lt len1 (show 0 < a.length + 1 by omega); omega
    have hpt := pack_take HA.out k
    have hPl := PN.pack_len (a.take k)
    have hs2 := S_size (PN.pack (a.take k))
    have HT := hide hpt.2
    have htl := hpt.1
    obtain ⟨X, K, hX⟩ : ∃ X K, unpO ((PN.pack a).take ((PN.pack a).length - 1)) = (X, K) := ⟨_, _, rfl⟩
    have hXl : X.length ≤ 24 := by have := unpO_len ((PN.pack a).take ((PN.pack a).length - 1)); rw [hX] at this; exact this
    have HX := hide hX
    have hpos : 0 < (PN.pack a).length := by
      rcases Nat.eq_zero_or_pos (PN.pack a).length with h0 | h0
      · exact absurd (List.eq_nil_of_length_eq_zero h0) HA.out
      · exact h0
    have he1 : (S (PN.pack a)).extract 0 ((PN.pack a).length - 1) = S ((PN.pack a).take ((PN.pack a).length - 1)) := S_take _ _
    have he2 : (((PN.pack a).length : Int) - 1).toNat = (PN.pack a).length - 1 := by omega
    have he3 : (S (PN.pack a)).extract 0 (PN.pack (a.take k)).length = S (PN.pack (a.take k)) := by rw [S_take, HT.out]
    clear hX hpt hk
    have C4 := hide (implNumsPack A1 k d1 (a.take k) _ w3 (by simp; omega) (DA.out.takeI hka).rd (by omega) DA.out.le)
    go_wp2_with fail
    refine C4.out.mono ?_
    rintro e w4 ⟨rfl, b⟩
    have s4 := b.size
    replace BW := hide (below_keep BW.out b)
    replace DA := hide (DA.out.keep b)
    clear b C4
    have C5 := hide (calls_pairI (implNumsUnpack ((PN.pack a).take ((PN.pack a).length - 1)) w4 (by simp; omega)) HX.out)
    go_wp2_with fail
    refine C5.out.mono ?_
    rintro e w5 ⟨A5, d5, rfl, o, b⟩
    have s5 := b.size
    replace BW := hide (below_keep BW.out b)
    replace DA := hide (DA.out.keep b)
    have UX := hide (OwB.of o b.size)
    clear b C5
    clear o
    cases K
    · clear t1 t2
      go_wp2
      go_ret
      exact ⟨rfl, BW.out⟩
    · obtain ⟨h1, h2⟩ := unp_cut HA.out HX.out rfl
      have H2 := hide h2
      clear h2 HX
      have C6 := hide (lyInts_any A5 A1 _ _ d5 d1 X (a.take X.length) _ _ w5 rfl (by simp; omega) UX.out.rd (DA.out.takeI (by omega)).rd (by omega) (by omega) UX.out.top DA.out.le)
      rw [decide_eq_true H2.out] at C6
      go_wp2_with fail
      refine C6.out.mono ?_
      rintro e w6 ⟨rfl, b⟩
      have s6 := b.size
      replace BW := hide (below_keep BW.out b)
      replace DA := hide (DA.out.keep b)
      replace UX := hide (UX.out.keep b)
      clear b C6
      clear t1 t2
      go_wp2
      go_ret
      exact ⟨rfl, BW.out⟩

end Go.Proofs.Ythmmcnabfmegfaa
