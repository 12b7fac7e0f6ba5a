/-
  WALKS: the number at the beginning of bytes (spec.l1Get).
-/
import Derived.Test.YtlalldjlgaldeaaPack2
import Derived.Test.YtlalldjlgaldeaaPlainUnp
namespace Go.Proofs.Ytlalldjlgaldeaa
set_option linter.unusedVariables false
open Go.RowKit

theorem S_get (l : List UInt8) (i : Nat) (h : i < (S l).size) : (S l)[i] = l.getD i 0 := by
  have h2 : i < l.length := by rw [S_size] at h; exact h
  exact (show (S l)[i] = l[i] from rfl).trans (by simp [h2])
theorem S_drop (l : List UInt8) (u : Nat) : (S l).extract u (S l).size = S (l.drop u) := by
  rw [S_size]
  unfold S
  rw [ByteArray.extract_mk, List.take_of_length_le (by simp)]
theorem S_take (l : List UInt8) (u : Nat) : (S l).extract 0 u = S (l.take u) := by
  unfold S
  rw [ByteArray.extract_mk]; simp
theorem drop_get {l : List UInt8} {k : Nat} (h : k < l.length) : l.drop k = l.getD k 0 :: l.drop (k + 1) := by
  rw [List.drop_eq_getElem_cons h]; simp [h]

/-- What l1Get hands back. -/
def getR (l : List UInt8) : Ending := match PN.get l with
  | some (z, t) => .returned (.tuple #[.int .i64 (z : Nat), .int .i64 ((l.length - t.length : Nat) : Int)])
  | none => .returned (.tuple #[.int .i64 0, .int .i64 0])

theorem getR_some {l : List UInt8} {z u : Nat} (h : PN.get l = some (z, l.drop u)) (hu : u ≤ l.length) : getR l = .returned (.tuple #[.int .i64 (z : Nat), .int .i64 (u : Nat)]) := by
  unfold getR
  rw [h]
  simp only [List.length_drop]
  rw [show l.length - (l.length - u) = u by omega]
theorem getR_none {l : List UInt8} (h : PN.get l = none) : getR l = .returned (.tuple #[.int .i64 0, .int .i64 0]) := by
  unfold getR
  rw [h]

set_option maxRecDepth 100000 in
set_option maxHeartbeats 1600000 in
theorem l1Get_any (l : List UInt8) (w : World) (hl : l.length ≤ 1000000000) : Calls Try.prog 41 #[.string (S l)] w fun e w' => e = getR l ∧ w = w' := by
  have hz := S_size l
  have HG := hide (PN.get_gt l)
  go_enter Try.func41, Try.ntmps41
  go_wp2
  go_loopw [4, 5, 6] (fun z st i wr => ∃ (k x : Nat), k ≤ l.length ∧ k ≤ 3 ∧ i = .int .i64 k ∧ z = .int .i64 x ∧ st = .int .i64 ((128 ^ k : Nat) : Int) ∧ x < 128 ^ k ∧ Hid (PN.get l = PN.gt k x (l.drop k)) ∧ w = wr) (fun _ _ i _ => 3 - (intOf i).toNat)
  case atStart => exact ⟨0, 0, Nat.zero_le _, by omega, rfl, rfl, rfl, by simp, HG, rfl⟩
  case round =>
    clear HG
    obtain ⟨k, x, hkl, hk3, rfl, rfl, rfl, hx, hp, rfl⟩ := hrel
    by_cases hlt : k < l.length
    · have hd := drop_get hlt
      have hq := hp.out
      rw [hd] at hq
      have hS := S_get l k (by omega)
      obtain ⟨b, hb⟩ : ∃ b, b = l.getD k 0 := ⟨_, rfl⟩
      rw [← hb] at hS hq
      have hb2 := PN.toNat_lt b
      have HQ := hide hq
      have HD := hide hd
      clear hd hq hp hb
      rcases (show k = 0 ∨ k = 1 ∨ k = 2 ∨ k = 3 from by omega) with rfl | rfl | rfl | rfl
      · by_cases h7 : b.toNat < 128
        · have F : Hid (Ending.returned (.tuple #[.int .i64 ((x : Int) + (b.toNat : Int) % 128), .int .i64 1]) = getR l) := hide (by
            rw [getR_some (z := x + 1 * b.toNat) (u := 1) (by rw [HQ.out]; simp [PN.gt, h7]) (by omega)]
            simp only [Ending.returned.injEq, Value.tuple.injEq]
            rw [show (x : Int) + (b.toNat : Int) % 128 = ((x + 1 * b.toNat : Nat) : Int) by omega]
            rfl)
          clear HQ HD
          by_cases h0 : b.toNat = 0
          · have heq : ((b.toNat : Int) == 0) = true := by rw [h0]; rfl
            clear h0
            go_wp2
            exact bodyPost_ret (v := .tuple #[.int .i64 ((x : Int) + (b.toNat : Int) % 128), .int .i64 1]) (by simp [results, Try.results41, go_sem]) rfl ⟨F.out, rfl⟩
          · have hne : ((b.toNat : Int) == 0) = false := beq_eq_false_iff_ne.2 (by omega)
            clear h0
            go_wp2
            exact bodyPost_ret (v := .tuple #[.int .i64 ((x : Int) + (b.toNat : Int) % 128), .int .i64 1]) (by simp [results, Try.results41, go_sem]) rfl ⟨F.out, rfl⟩
        · have HN : Hid (PN.get l = PN.gt 1 (x + 1 * (b.toNat % 128)) (l.drop 1)) := hide (by rw [HQ.out]; simp [PN.gt, h7])
          clear HQ HD
          have hxx : x + 1 * (b.toNat % 128) < 128 := by have : x < 1 := hx; omega
          go_wp2
          go_roundw
          case rel => exact ⟨1, x + 1 * (b.toNat % 128), by omega, by omega, rfl, by push_cast; go_num, rfl, hxx, HN, trivial⟩
          case measure => simp [intOf]
      · by_cases h7 : b.toNat < 128
        · by_cases h0 : b.toNat = 0
          · have F : Hid (Ending.returned (.tuple #[.int .i64 0, .int .i64 0]) = getR l) := hide (getR_none (by rw [HQ.out]; simp [PN.gt, h0])).symm
            have heq : ((b.toNat : Int) == 0) = true := by rw [h0]; rfl
            clear HQ HD h0
            go_wp2
            exact bodyPost_ret (v := .tuple #[.int .i64 0, .int .i64 0]) (by simp [results, Try.results41, go_sem]) rfl ⟨F.out, rfl⟩
          · have F : Hid (Ending.returned (.tuple #[.int .i64 ((x : Int) + 128 * ((b.toNat : Int) % 128)), .int .i64 2]) = getR l) := hide (by
              rw [getR_some (z := x + 128 * b.toNat) (u := 2) (by rw [HQ.out]; simp [PN.gt, h7, h0]) (by omega)]
              simp only [Ending.returned.injEq, Value.tuple.injEq]
              rw [show (x : Int) + 128 * ((b.toNat : Int) % 128) = ((x + 128 * b.toNat : Nat) : Int) by omega]
              rfl)
            have hne : ((b.toNat : Int) == 0) = false := beq_eq_false_iff_ne.2 (by omega)
            clear HQ HD h0
            go_wp2
            exact bodyPost_ret (v := .tuple #[.int .i64 ((x : Int) + 128 * ((b.toNat : Int) % 128)), .int .i64 2]) (by simp [results, Try.results41, go_sem]) rfl ⟨F.out, rfl⟩
        · have HN : Hid (PN.get l = PN.gt 2 (x + 128 * (b.toNat % 128)) (l.drop 2)) := hide (by rw [HQ.out]; simp [PN.gt, h7])
          clear HQ HD
          have hxx : x + 128 * (b.toNat % 128) < 16384 := by have : x < 128 := hx; omega
          go_wp2
          go_roundw
          case rel => exact ⟨2, x + 128 * (b.toNat % 128), by omega, by omega, rfl, by push_cast; go_num, rfl, hxx, HN, trivial⟩
          case measure => simp [intOf]
      · by_cases h7 : b.toNat < 128
        · by_cases h0 : b.toNat = 0
          · have F : Hid (Ending.returned (.tuple #[.int .i64 0, .int .i64 0]) = getR l) := hide (getR_none (by rw [HQ.out]; simp [PN.gt, h0])).symm
            have heq : ((b.toNat : Int) == 0) = true := by rw [h0]; rfl
            clear HQ HD h0
            go_wp2
            exact bodyPost_ret (v := .tuple #[.int .i64 0, .int .i64 0]) (by simp [results, Try.results41, go_sem]) rfl ⟨F.out, rfl⟩
          · have F : Hid (Ending.returned (.tuple #[.int .i64 ((x : Int) + 16384 * ((b.toNat : Int) % 128)), .int .i64 3]) = getR l) := hide (by
              rw [getR_some (z := x + 16384 * b.toNat) (u := 3) (by rw [HQ.out]; simp [PN.gt, h7, h0]) (by omega)]
              simp only [Ending.returned.injEq, Value.tuple.injEq]
              rw [show (x : Int) + 16384 * ((b.toNat : Int) % 128) = ((x + 16384 * b.toNat : Nat) : Int) by omega]
              rfl)
            have hne : ((b.toNat : Int) == 0) = false := beq_eq_false_iff_ne.2 (by omega)
            clear HQ HD h0
            go_wp2
            exact bodyPost_ret (v := .tuple #[.int .i64 ((x : Int) + 16384 * ((b.toNat : Int) % 128)), .int .i64 3]) (by simp [results, Try.results41, go_sem]) rfl ⟨F.out, rfl⟩
        · have HN : Hid (PN.get l = PN.gt 3 (x + 16384 * (b.toNat % 128)) (l.drop 3)) := hide (by rw [HQ.out]; simp [PN.gt, h7])
          clear HQ HD
          have hxx : x + 16384 * (b.toNat % 128) < 2097152 := by have : x < 16384 := hx; omega
          go_wp2
          go_roundw
          case rel => exact ⟨3, x + 16384 * (b.toNat % 128), by omega, by omega, rfl, by push_cast; go_num, rfl, hxx, HN, trivial⟩
          case measure => simp [intOf]
      · have F : Hid (Ending.returned (.tuple #[.int .i64 0, .int .i64 0]) = getR l) := hide (getR_none (by rw [HQ.out]; exact PN.gt_three _ _)).symm
        clear HQ HD hS hb2
        go_wp2
        exact bodyPost_ret (v := .tuple #[.int .i64 0, .int .i64 0]) (by simp [results, Try.results41, go_sem]) rfl ⟨F.out, rfl⟩
    · have F : Hid (Ending.returned (.tuple #[.int .i64 0, .int .i64 0]) = getR l) := hide (getR_none (by rw [hp.out, List.drop_of_length_le (by omega)]; rfl)).symm
      go_wp2
      exact bodyPost_ret (v := .tuple #[.int .i64 0, .int .i64 0]) (by simp [results, Try.results41, go_sem]) rfl ⟨F.out, rfl⟩

end Go.Proofs.Ytlalldjlgaldeaa
