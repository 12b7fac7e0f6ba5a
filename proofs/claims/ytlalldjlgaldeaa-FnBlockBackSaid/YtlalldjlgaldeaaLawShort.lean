/-
  WALKS: the law PackShort.
-/
import Derived.Test.YtlalldjlgaldeaaLawB2
import Derived.Test.YtlalldjlgaldeaaDrawB2
import Derived.OpenShut
namespace Go.Proofs.Ytlalldjlgaldeaa
set_option linter.unusedVariables false
open Go.RowKit

theorem bytes_ofB {zs : List Int} (h : ∀ z ∈ zs, (Lit.int .u8 z).wf = true) : ByteL zs := fun z hz => bounds_u8 (h z hz)
/-- Rows at even times. -/
def evR (s : Int) (k : Nat) : List PB.Row := (List.range k).map fun (i : Nat) => (((i : Int) * s, (5 : Int)) : PB.Row)
@[simp] theorem evR_len (s : Int) (k : Nat) : (evR s k).length = k := by simp [evR]
theorem evR_snoc (s : Int) (k : Nat) : evR s (k + 1) = evR s k ++ [((k : Int) * s, 5)] := by simp [evR, List.range_succ]
theorem evR_tms (s : Int) (k : Nat) : tms (evR s k) = PN.ev 0 s k := by
  induction k with
  | zero => rfl
  | succ k ih =>
    rw [evR_snoc, PN.ev_snoc, ← ih]
    simp [tms]
theorem evR_vls (s : Int) (k : Nat) : vls (evR s k) = PN.ev 5 0 k := by
  induction k with
  | zero => rfl
  | succ k ih =>
    rw [evR_snoc, PN.ev_snoc, ← ih]
    simp [vls]
theorem ev_pack_len (h s : Int) (n : Nat) (hh : PN.zig h < 128) (hs : PN.zig s < 128) : (PN.pack0 (PN.ev h s n)).length = n := by
  match n with
  | 0 => rfl
  | 1 =>
    simp only [PN.pack0, PN.ev, PN.pk]
    rw [if_pos (by omega), show h - 0 = h by omega, PN.put_lt hh]
    rfl
  | n + 2 =>
    simp only [PN.pack0, PN.ev, PN.pk]
    rw [if_pos (by omega), if_pos (by omega), show h - 0 = h by omega, show h + s - h = s by omega, PN.put_lt hh, PN.put_lt hs, show 0 + 1 + 1 = 2 from rfl, PN.pk_ev 2 (Nat.le_refl _) (h + s) s n]
    simp
theorem evR_mul {i k : Nat} {s : Nat} (hi : i < k) (hk : k ≤ 20) (hs : s ≤ 4) : (i : Int) * (s : Int) ≤ 76 ∧ 0 ≤ (i : Int) * (s : Int) := by
  have h1 : i * s ≤ 19 * 4 := Nat.mul_le_mul (by omega) hs
  have h2 : (i : Int) * (s : Int) = ((i * s : Nat) : Int) := by push_cast; rfl
  omega
theorem evR_block {s k : Nat} (h1 : 1 ≤ s) (hs : s ≤ 4) (hk : k ≤ 20) : PB.blockB (evR s k) = true := by
  refine PB.blockB_iff.2 ⟨fun r hr => ?_, ?_, by rw [evR_len]; omega⟩
  · simp only [evR, List.mem_map, List.mem_range] at hr
    obtain ⟨i, hi, rfl⟩ := hr
    have := evR_mul hi hk hs
    exact PB.rowB_iff.2 ⟨⟨this.2, by show (i : Int) * (s : Int) ≤ 99; omega⟩, by show (-99 : Int) ≤ 5; omega, by show (5 : Int) ≤ 99; omega⟩
  · refine List.pairwise_map.2 ((by exact List.pairwise_lt_range : (List.range k).Pairwise (· < ·)).imp ?_)
    intro a b h
    exact Int.mul_lt_mul_of_pos_right (by omega) (by omega)
theorem evR_pack {s k : Nat} (h1 : 1 ≤ s) (hs : s ≤ 4) (hk : k ≤ 20) : (bpk (evR s k)).length = 2 * k + 1 := by
  rw [bpk_yes (evR_block h1 hs hk), evR_tms, evR_vls]
  simp only [List.length_cons, List.length_append]
  rw [ev_pack_len 0 s k (by decide) (by unfold PN.zig; split <;> omega), ev_pack_len 5 0 k (by decide) (by decide)]
  omega

set_option maxRecDepth 100000 in
set_option maxHeartbeats 6400000 in
theorem fnPackShort_walk (w : World) (a0 : Option Addr) (len0 cap0 : Nat) (z0 : List Int) (hz0 : z0.length = len0) (rd0 : Rd w w.heap.size 1 a0 len0 (z0.map (Value.int .u8))) (wf0 : ∀ z ∈ z0, (Lit.int .u8 z).wf = true) (lc0 : len0 ≤ cap0) (cm0 : cap0 ≤ maxLen) (a1 : Option Addr) (len1 cap1 : Nat) (z1 : List Int) (hz1 : z1.length = len1) (rd1 : Rd w w.heap.size 1 a1 len1 (z1.map (Value.int .u8))) (wf1 : ∀ z ∈ z1, (Lit.int .u8 z).wf = true) (lc1 : len1 ≤ cap1) (cm1 : cap1 ≤ maxLen) :
    Calls Try.prog 4 #[.slice a0 len0 cap0, .slice a1 len1 cap1] w fun e w' => e = .returned (.bool true) ∧ Below w.heap.size w w' := by
  have HD := hide (drawBlockPack_any a0 len0 cap0 z0 w hz0 rd0 (bytes_ofB wf0) lc0 cm0)
  clear rd0 wf0 hz0
  unfold maxLen at cm0
  clear rd1 wf1 hz1
  unfold maxLen at cm1
  by_cases hl0 : 1048576 < len0
  · clear HD
    go_enter Try.func4, Try.ntmps4
    go_wp2
    go_ret
    exact ⟨rfl, Below.refl _ _⟩
  by_cases hl1 : 1048576 < len1
  · clear HD
    go_enter Try.func4, Try.ntmps4
    go_wp2
    go_ret
    exact ⟨rfl, Below.refl _ _⟩
  go_enter Try.func4, Try.ntmps4
  have BW := hide (Below.refl w.heap.size w)
  have C1 := HD
  go_wp2_with fail
  refine C1.out.mono ?_
  rintro e w1 ⟨l, A1, d1, rfl, hl, o, b⟩
  have s1 := b.size
  replace BW := hide (below_keep BW.out b)
  have DA := hide ((⟨Rd.of_own o, Nat.le_refl _⟩ : RdB w1 w1.heap.size 2 A1 l.length (rows l)))
  clear b C1
  clear o
  obtain ⟨X, hX⟩ : ∃ X, X = bpk l := ⟨_, rfl⟩
  have HX := hide hX
  have heq : ((S X).toList == (S X).toList) = true := beq_self_eq_true _
  clear hX
  have C2 := hide (implBlockPack A1 _ d1 l _ w1 rfl DA.out.rd (by omega) DA.out.le)
  rw [← HX.out] at C2
  go_wp2_with fail
  refine C2.out.mono ?_
  rintro e w2 ⟨rfl, b⟩
  have s2 := b.size
  replace BW := hide (below_keep BW.out b)
  replace DA := hide (DA.out.keep b)
  clear b C2
  have C3 := hide (specBlockPack A1 _ d1 l _ w2 rfl DA.out.rd (by omega) DA.out.le)
  rw [← HX.out] at C3
  go_wp2_with fail
  refine C3.out.mono ?_
  rintro e w3 ⟨rfl, b⟩
  have s3 := b.size
  replace BW := hide (below_keep BW.out b)
  replace DA := hide (DA.out.keep b)
  clear b C3
  obtain ⟨i0, hi_, hz0, hz1, hz2⟩ := info_parts info_row
  obtain ⟨s, hs⟩ : ∃ s : Nat, s = 1 + len1 % 4 := ⟨_, rfl⟩
  have hs1 : (1 : Int) + (len1 : Int).tmod 4 = (s : Int) := by rw [hs, Int.tmod_eq_emod_of_nonneg (by omega)]; push_cast; rfl
  have hsb : 1 ≤ s ∧ s ≤ 4 := by omega
  obtain ⟨m, hm⟩ : ∃ m : Nat, m = 1 + len1 % 20 := ⟨_, rfl⟩
  have hm1 : (1 : Int) + (len1 : Int).tmod 20 = (m : Int) := by rw [hm, Int.tmod_eq_emod_of_nonneg (by omega)]; push_cast; rfl
  have hmb : m ≤ 20 := by omega
  clear hs hm
  have hs2 : (len1 : Int).tmod 4 = (s : Int) - 1 := by omega
  have hm2 : (len1 : Int).tmod 20 = (m : Int) - 1 := by omega
  have hm3 : (1 : Int) + ((m : Int) - 1) = (m : Int) := by omega
  have hs3 : (1 : Int) + ((s : Int) - 1) = (s : Int) := by omega
  clear hs1 hm1 heq
  have hO := hide (own_emptyR w3 _ (Nat.le_refl _))
  go_wp2
  go_loopw [8, 9] (fun v i wr => ∃ (k : Nat) (A : Option Addr) (c : Nat), k ≤ m ∧ i = .int .i64 k ∧ v = .slice A k c ∧ Hid (wr.ownsRow w3.heap.size 32 2 (.slice A k c) k (rows (evR s k))) ∧ Hid (Below w3.heap.size w3 wr)) (fun _ i _ => m - (intOf i).toNat)
  case atStart => exact ⟨0, _, _, Nat.zero_le _, rfl, rfl, hO, hide ((Below.refl _ _).alloc (Nat.le_refl _) _)⟩
  case round =>
    clear hO
    obtain ⟨k, A, c, hk, rfl, rfl, ho, hbel⟩ := hrel
    have hsz := hbel.out.size
    by_cases hlt : k < m
    · obtain ⟨t, ht⟩ : ∃ t : Int, t = (k : Int) * (s : Int) := ⟨_, rfl⟩
      have htb := evR_mul hlt hmb hsb.2
      have T : Hid (rows (evR s k) ++ [.int .i64 t, .int .i64 5] = rows (evR s (k + 1))) := hide (by rw [evR_snoc, rows_append, ht]; rfl)
      have hw : IntKind.i64.wrap ((k : Int) * (s : Int)) = t := by rw [ht]; exact IntWalk.i64_in _ (by omega)
      have hw2 : (k : Int) * (s : Int) = t := ht.symm
      have ho' := ho.out
      rw [← ht] at htb
      obtain ⟨htb1, htb2⟩ := htb
      clear ht
      go_wp2_with (first | (at_builtin; refine wpList_app _ rfl (.tmp 39) (.tmp 44) 25 rfl w3.heap.size 32 i0 (.agg #[.int .i64 0, .int .i64 0]) 2 16 Try.underlying25 hi_ hz0 hz1 hz2 rfl (by decide) _ _ _ rfl (ho'.alloc _) (wr.heap.size + 1) _ _ _ [.int .i64 t, .int .i64 5] rfl (rd_lit wr [.int .i64 t, .int .i64 5] _ 2 1 rfl) (one_row _ _) (by unfold maxLen; omega) (by omega) (by simp <;> omega) ?_; intro A4 c4 w4 o4 b4))
      rw [T.out] at o4
      have O4 := hide o4
      have HB := hide (hbel.out.trans (((Below.refl _ _).alloc hsz _).trans b4))
      clear o4 b4 ho' ho hbel hw hw2
      go_wp2
      go_roundw
      case rel => exact ⟨k + 1, A4, c4, by omega, by go_num, rfl, O4, HB⟩
      case measure => simp [intOf]; omega
    · obtain rfl : k = m := by omega
      have hpl := evR_pack hsb.1 hsb.2 hmb
      have C := hide (implBlockPack A _ c (evR s k) _ wr (by simp) (Rd.of_own ho.out) (by omega) (Nat.le_refl _))
      have hse := S_size (bpk (evR s k))
      rw [hpl] at hse
      have BX := hide (BW.out.trans (hbel.out.mono BW.out.size))
      clear ho hbel hpl
      go_wp2_with fail
      refine C.out.mono ?_
      rintro e w5 ⟨rfl, b5⟩
      have hle : (2 : Int) * (k : Int) + 1 ≤ 2 * (k : Int) + 5 := by omega
      have BY := hide (below_keep BX.out b5)
      clear b5
      go_wp2
      go_ret
      exact ⟨ret_bool (by simp), BY.out⟩

end Go.Proofs.Ytlalldjlgaldeaa
