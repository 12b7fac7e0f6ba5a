/-
  WALKS: the reader that the draws share: l6Open, pick. Whatever the code's bytes are: a pick of n lies from 0 to n - 1.
-/
import Derived.Test.YtgedlpdjnnbolaaDoorRows
import Derived.Test.YtgedlpdjnnbolaaDoorKit
import Derived.WalkLawsBesides
import Derived.Outline
import Derived.BigQuiet
import Derived.Deep.QuietTactic
import Derived.Laws.BitsAllLaws
import Derived.Laws.BitsLemmas
namespace Go.Proofs.YtgedlpdjnnbolaaDoor
set_option linter.unusedVariables false
open Go.RowKit

def u8s (l : List Int) : List Value := l.map (Value.int .u8)
def ByteL (l : List Int) : Prop := ∀ z ∈ l, 0 ≤ z ∧ z ≤ 255

/-- THE READER in block R: its bytes lie below B, it has been asked at most k times. -/
def Rdr (w : World) (B R k : Nat) : Prop :=
  ∃ (A : Option Addr) (m c p : Nat) (bs : List Int), w.heap[R]? = some (.cells #[.slice A m c, .int .i64 p] 59 (0, 0)) ∧ Rd w B 1 A m (u8s bs) ∧ ByteL bs ∧ m ≤ 2000 ∧ m ≤ c ∧ p ≤ k ∧ B ≤ R

section
variable {w w' : World} {B R k k' : Nat}
theorem Rdr.lt (h : Rdr w B R k) : R < w.heap.size := by
  obtain ⟨A, m, c, p, bs, h1, _⟩ := h
  exact lt_of_block h1
theorem Rdr.le (h : Rdr w B R k) : B ≤ R := by
  obtain ⟨A, m, c, p, bs, _, _, _, _, _, _, h⟩ := h
  exact h
theorem Rdr.more (h : Rdr w B R k) (hk : k ≤ k') : Rdr w B R k' := by
  obtain ⟨A, m, c, p, bs, h1, h2, h3, h4, h5, h6, h7⟩ := h
  exact ⟨A, m, c, p, bs, h1, h2, h3, h4, h5, by omega, h7⟩
/-- Only blocks above R have turned. -/
theorem Rdr.below (h : Rdr w B R k) (hb : Below (R + 1) w w') : Rdr w' B R k := by
  have hl := h.le
  obtain ⟨A, m, c, p, bs, h1, h2, h3, h4, h5, h6, h7⟩ := h
  exact ⟨A, m, c, p, bs, (hb.block R (by omega)).trans h1, h2.below (hb.mono (by omega)), h3, h4, h5, h6, h7⟩
end

theorem ofInt_nat64 (a : Nat) (ha : a < 9223372036854775808) : (BitVec.ofInt 64 (a : Int)).toNat = a := by
  rw [BitVec.ofInt_natCast, BitVec.toNat_ofNat]; exact Nat.mod_eq_of_lt (by omega)
/-- The exclusive or of two numbers that are not negative, and below 2^60, is such. -/
theorem xor_bd (x y : Int) (hx : 0 ≤ x ∧ x < 1152921504606846976) (hy : 0 ≤ y ∧ y < 1152921504606846976) : 0 ≤ bits .xor .i64 x y ∧ bits .xor .i64 x y < 1152921504606846976 := by
  obtain ⟨a, rfl⟩ := Int.eq_ofNat_of_zero_le hx.1
  obtain ⟨b, rfl⟩ := Int.eq_ofNat_of_zero_le hy.1
  have h : a ^^^ b < 2 ^ 60 := Nat.xor_lt_two_pow (by omega) (by omega)
  have e : bits .xor .i64 (a : Int) (b : Int) = ((a ^^^ b : Nat) : Int) := by
    show IntKind.i64.wrap ((BitVec.ofInt 64 (a : Int) ^^^ BitVec.ofInt 64 (b : Int)).toNat : Int) = _
    rw [BitVec.toNat_xor, ofInt_nat64 a (by omega), ofInt_nat64 b (by omega), IntKind.wrap_i64]
    omega
  rw [e]
  omega

theorem u8_at {bs : List Int} {j : Nat} (h : j < bs.length) : (u8s bs)[j]? = some (.int .u8 (bs.getD j 0)) := by simp [u8s, h]
theorem byte_bd {bs : List Int} (h : ByteL bs) (j : Nat) : 0 ≤ bs.getD j 0 ∧ bs.getD j 0 ≤ 255 := by
  by_cases hj : j < bs.length
  · have := h (bs.getD j 0) (by simp [List.getD, List.getElem?_eq_getElem hj])
    exact this
  · simp [List.getD, List.getElem?_eq_none (by omega : bs.length ≤ j)]

/-- A pick of n: from 0 to n - 1. -/
def Picked (w : World) (B R k : Nat) (n : Int) (e : Ending) (w' : World) : Prop :=
  ∃ v : Int, e = .returned (.int .i64 v) ∧ 0 ≤ v ∧ (1 ≤ n → v < n) ∧ Rdr w' B R (k + 1) ∧ w.grownBy w' (some R) ∧ w'.heap.size = w.heap.size

theorem cell_blk {w : World} {g : Nat} {t : TypeId} {cs : Array Value} (h : w.heap[g]? = some (.cells cs t (0, 0))) (i : Nat) : w.cell? ⟨g, i, none⟩ = cs[i]? := cell_of_row w g i cs t (0, 0) h
theorem free_blk {w : World} {g : Nat} {t : TypeId} {cs : Array Value} (h : w.heap[g]? = some (.cells cs t (0, 0))) (i : Nat) : w.frozen? ⟨g, i, none⟩ = false := frozen_of_row w g i cs t h
theorem set_blk {w : World} {g : Nat} {t : TypeId} {cs : Array Value} (h : w.heap[g]? = some (.cells cs t (0, 0))) (i : Nat) (u : Value) : (w.setCell ⟨g, i, none⟩ u).heap[g]? = some (.cells (cs.setIfInBounds i u) t (0, 0)) := heap_setCell_same w g i cs t u h

/-- What a pick leaves: the place is one further. -/
theorem picked_of {w : World} {B R k : Nat} {A : Option Addr} {m c p : Nat} {bs : List Int} (h1 : w.heap[R]? = some (.cells #[.slice A m c, .int .i64 p] 59 (0, 0))) (h2 : Rd w B 1 A m (u8s bs)) (h3 : ByteL bs) (h4 : m ≤ 2000) (h5 : m ≤ c) (h6 : p ≤ k) (h7 : B ≤ R) (n v : Int) (nd : Nat)
    (hv : 0 ≤ v ∧ (1 ≤ n → v < n)) : Picked w B R k n (.returned (.int .i64 v)) ((w.setCell ⟨R, 1, none⟩ (.int .i64 ((p : Int) + 1))).drewN nd) := by
  refine ⟨v, rfl, hv.1, hv.2, ⟨A, m, c, p + 1, bs, ?_, (h2.setCell (p := ⟨R, 1, none⟩) h7 _).drewN nd, h3, h4, h5, by omega, h7⟩, ⟨rfl, rfl, rfl, by simp [World.drewN, World.setCell], fun i hi hne => ?_⟩, by simp [World.drewN, World.setCell]⟩
  · exact set_blk h1 1 _
  · exact Below.heap_setCell _ _ _ _ (fun e => hne (by rw [e]))

theorem picked_of0 {w : World} {B R k : Nat} {A : Option Addr} {m c p : Nat} {bs : List Int} (h1 : w.heap[R]? = some (.cells #[.slice A m c, .int .i64 p] 59 (0, 0))) (h2 : Rd w B 1 A m (u8s bs)) (h3 : ByteL bs) (h4 : m ≤ 2000) (h5 : m ≤ c) (h6 : p ≤ k) (h7 : B ≤ R) (n v : Int)
    (hv : 0 ≤ v ∧ (1 ≤ n → v < n)) : Picked w B R k n (.returned (.int .i64 v)) (w.setCell ⟨R, 1, none⟩ (.int .i64 ((p : Int) + 1))) := picked_of h1 h2 h3 h4 h5 h6 h7 n v 0 hv

set_option maxHeartbeats 1600000 in
theorem pick_any (B R k : Nat) (n : Int) (w : World) (h : Rdr w B R k) (hk : k ≤ 1000000) (hn : n ≤ 1000000) : Calls Tryd.prog 30 #[.pointer (some ⟨R, 0, none⟩), .int .i64 n] w (Picked w B R k n) := by
  obtain ⟨A, m, c, p, bs, h1, h2, h3, h4, h5, h6, h7⟩ := h
  have c0 : w.cell? ⟨R, 0, none⟩ = some (.slice A m c) := by rw [cell_blk h1]; rfl
  have c1 : w.cell? ⟨R, 1, none⟩ = some (.int .i64 p) := by rw [cell_blk h1]; rfl
  have f1 : w.frozen? ⟨R, 1, none⟩ = false := free_blk h1 1
  by_cases hn1 : n < 1
  · have F : Hid (Picked w B R k n (.returned (.int .i64 0)) (w.setCell ⟨R, 1, none⟩ (.int .i64 ((p : Int) + 1)))) := hide (picked_of0 h1 h2 h3 h4 h5 h6 h7 n 0 (by omega))
    clear h1 h2 h3
    go_enter Tryd.func30, Tryd.ntmps30
    go_wp2
    go_ret
    exact F.out
  · have hn1' : 1 ≤ n := by omega
    by_cases hm : m = 0
    · have F : Hid (Picked w B R k n (.returned (.int .i64 0)) (w.setCell ⟨R, 1, none⟩ (.int .i64 ((p : Int) + 1)))) := hide (picked_of0 h1 h2 h3 h4 h5 h6 h7 n 0 (by omega))
      clear h1 h2 h3
      subst hm
      go_enter Tryd.func30, Tryd.ntmps30
      go_wp2
      go_ret
      exact F.out
    · have hme : ((m : Int) == 0) = false := by simp; omega
      have hml : bs.length = m := by simpa [u8s] using h2.1
      obtain ⟨b, off, rfl, hbB, hc⟩ := h2.at_ (by omega)
      have hneR : (⟨R, 1, none⟩ : Addr) ≠ ⟨b, off + 0, none⟩ := by intro e; injection e; omega
      by_cases hpm : p < m
      · have hb := byte_bd h3 p
        have cB := hc p _ (u8_at (by omega))
        have F : Hid (Picked w B R k n (.returned (.int .i64 (bs.getD p 0 % n))) (w.setCell ⟨R, 1, none⟩ (.int .i64 ((p : Int) + 1)))) := hide (picked_of0 h1 h2 h3 h4 h5 h6 h7 n _ ⟨Int.emod_nonneg _ (by omega), fun _ => Int.emod_lt_of_pos _ (by omega)⟩)
        have cB' : (w.setCell ⟨R, 1, none⟩ (.int .i64 ((p : Int) + 1))).cell? ⟨b, off + p, none⟩ = some (.int .u8 (bs.getD p 0)) := by
          rw [World.cell?_setCell_other _ _ _ _ (by intro e; injection e; omega)]; exact cB
        obtain ⟨z, hz⟩ : ∃ z, z = bs.getD p 0 := ⟨_, rfl⟩
        rw [← hz] at F hb cB cB'
        clear hz h1 h2 h3 hc hml cB hm
        go_enter Tryd.func30, Tryd.ntmps30
        go_wp2
        go_ret
        exact F.out
      · have hmp : m ≤ p := by omega
        obtain ⟨j1, hj1⟩ : ∃ j : Nat, j = p % m := ⟨_, rfl⟩
        obtain ⟨j2, hj2⟩ : ∃ j : Nat, j = (p * 7 + 3) % m := ⟨_, rfl⟩
        obtain ⟨q, hq⟩ : ∃ j : Nat, j = p / m := ⟨_, rfl⟩
        have b1 := byte_bd h3 j1
        have b2 := byte_bd h3 j2
        have i1 : j1 < m := by rw [hj1]; exact Nat.mod_lt _ (by omega)
        have i2 : j2 < m := by rw [hj2]; exact Nat.mod_lt _ (by omega)
        have qp : q ≤ p := by rw [hq]; exact Nat.div_le_self _ _
        have cA : (w.setCell ⟨R, 1, none⟩ (.int .i64 ((p : Int) + 1))).cell? ⟨b, off + j1, none⟩ = some (.int .u8 (bs.getD j1 0)) := by
          rw [World.cell?_setCell_other _ _ _ _ (by intro e; injection e; omega)]; exact hc _ _ (u8_at (by omega))
        have cB : (w.setCell ⟨R, 1, none⟩ (.int .i64 ((p : Int) + 1))).cell? ⟨b, off + j2, none⟩ = some (.int .u8 (bs.getD j2 0)) := by
          rw [World.cell?_setCell_other _ _ _ _ (by intro e; injection e; omega)]; exact hc _ _ (u8_at (by omega))
        obtain ⟨z1, hz1⟩ : ∃ z, z = bs.getD j1 0 := ⟨_, rfl⟩
        obtain ⟨z2, hz2⟩ : ∃ z, z = bs.getD j2 0 := ⟨_, rfl⟩
        rw [← hz1] at cA b1
        rw [← hz2] at cB b2
        have F : Hid (∀ v : Int, 0 ≤ v → v < n → ∀ nd, Picked w B R k n (.returned (.int .i64 v)) ((w.setCell ⟨R, 1, none⟩ (.int .i64 ((p : Int) + 1))).drewN nd)) := hide (fun v hv1 hv2 nd => picked_of h1 h2 h3 h4 h5 h6 h7 n _ nd ⟨hv1, fun _ => hv2⟩)
        have e1 : (p : Int).tmod (m : Int) = (j1 : Int) := by rw [Int.tmod_eq_emod_of_nonneg (by omega), hj1]; push_cast; rfl
        have e2 : ((p : Int) * 7 + 3).tmod (m : Int) = (j2 : Int) := by rw [Int.tmod_eq_emod_of_nonneg (by omega), hj2]; push_cast; rfl
        have e3 : (p : Int).tdiv (m : Int) = (q : Int) := by rw [Int.tdiv_eq_ediv_of_nonneg (by omega), hq]; push_cast; rfl
        have a1 : IntKind.i64.wrap ((p : Int) * 7) = (p : Int) * 7 := IntWalk.i64_in _ (by omega)
        have a2 : IntKind.i64.wrap ((p : Int) * 7 + 3) = (p : Int) * 7 + 3 := IntWalk.i64_in _ (by omega)
        have a3 : IntKind.i64.wrap (z1 * 131) = z1 * 131 := IntWalk.i64_in _ (by omega)
        have a4 : IntKind.i64.wrap (z2 * 1117) = z2 * 1117 := IntWalk.i64_in _ (by omega)
        have a5 : IntKind.i64.wrap (z1 * 131 + z2 * 1117) = z1 * 131 + z2 * 1117 := IntWalk.i64_in _ (by omega)
        have a6 : IntKind.i64.wrap ((p : Int) * 29) = (p : Int) * 29 := IntWalk.i64_in _ (by omega)
        have a7 : IntKind.i64.wrap (z1 * 131 + z2 * 1117 + (p : Int) * 29) = z1 * 131 + z2 * 1117 + (p : Int) * 29 := IntWalk.i64_in _ (by omega)
        have a8 : IntKind.i64.wrap (q : Int) = (q : Int) := IntWalk.i64_in _ (by omega)
        have a9 : IntKind.i64.wrap ((q : Int) * 53) = (q : Int) * 53 := IntWalk.i64_in _ (by omega)
        have a10 : IntKind.i64.wrap (z1 * 131 + z2 * 1117 + (p : Int) * 29 + (q : Int) * 53) = z1 * 131 + z2 * 1117 + (p : Int) * 29 + (q : Int) * 53 := IntWalk.i64_in _ (by omega)
        have a11 : IntKind.i64.wrap z1 = z1 := IntWalk.i64_in _ (by omega)
        have a12 : IntKind.i64.wrap z2 = z2 := IntWalk.i64_in _ (by omega)
        have k1 : (0 : Int) ≤ (j1 : Int) ∧ (j1 : Int) < (m : Int) := by omega
        have k2 : (0 : Int) ≤ (j2 : Int) ∧ (j2 : Int) < (m : Int) := by omega
        clear hz1 hz2 h1 h2 h3 hc hml hj1 hj2 hq
        go_enter Tryd.func30, Tryd.ntmps30
        go_wp2
        go_quiet (fail)
        clear e1 e2 e3 a1 a2 a3 a4 a5 a6 a7 a8 a9 a10 a11 a12 cA cB
        have x0 : 0 ≤ z1 * 131 + z2 * 1117 + (p : Int) * 29 + (q : Int) * 53 ∧ z1 * 131 + z2 * 1117 + (p : Int) * 29 + (q : Int) * 53 ≤ 1000000000 := by omega
        generalize hX : z1 * 131 + z2 * 1117 + (p : Int) * 29 + (q : Int) * 53 = X at x0 ⊢
        have x1 := xor_bd X (X / 64) (by omega) (by omega)
        clear hX
        go_wp2
        go_ret
        exact F.out _ (Int.emod_nonneg _ (by omega)) (Int.emod_lt_of_pos _ (by omega)) _

/-- A code is opened: the reader is a new block. -/
theorem open_any (A : Option Addr) (n c : Nat) (zs : List Int) (w : World) (hz : zs.length = n) (h : Rd w w.heap.size 1 A n (u8s zs)) (hb : ByteL zs) (hc : n ≤ c) (hm : c ≤ maxLen) :
    Calls Tryd.prog 18 #[.slice A n c] w fun e w' => e = .returned (.pointer (some ⟨w.heap.size, 0, none⟩)) ∧ Rdr w' w.heap.size w.heap.size 0 ∧ Below w.heap.size w w' ∧ w'.heap.size = w.heap.size + 1 := by
  unfold maxLen at hm
  by_cases hn : 2000 < n
  · obtain ⟨b, off, e, hbB, hcc⟩ := h.at_ (by omega)
    have hr : Rd w w.heap.size 1 A 2000 (u8s (zs.take 2000)) := by
      refine ⟨by simp only [u8s, List.length_map, List.length_take]; omega, fun _ => ⟨b, off, e, hbB, fun j u hu => hcc j u ?_⟩⟩
      simp only [u8s, List.map_take, List.getElem?_take] at hu
      split at hu
      · exact hu
      · cases hu
    have F : Hid (Rdr (w.alloc (.cells #[.slice A 2000 c, .int .i64 0] 59)) w.heap.size w.heap.size 0) :=
      hide ⟨A, 2000, c, 0, zs.take 2000, heap_alloc_new w _, hr.alloc (Nat.le_refl _) _, fun z hz => hb z (List.mem_of_mem_take hz), Nat.le_refl _, by omega, Nat.le_refl _, Nat.le_refl _⟩
    clear hr hcc e
    clear h
    go_enter Tryd.func18, Tryd.ntmps18
    go_wp2
    go_ret
    exact ⟨rfl, F.out, (Below.refl _ _).alloc (Nat.le_refl _) _, by simp⟩
  · have F : Hid (Rdr (w.alloc (.cells #[.slice A n c, .int .i64 0] 59)) w.heap.size w.heap.size 0) := hide ⟨A, n, c, 0, zs, heap_alloc_new w _, h.alloc (Nat.le_refl _) _, hb, by omega, hc, Nat.le_refl _, Nat.le_refl _⟩
    clear h
    go_enter Tryd.func18, Tryd.ntmps18
    go_wp2
    go_ret
    exact ⟨rfl, F.out, (Below.refl _ _).alloc (Nat.le_refl _) _, by simp⟩

end Go.Proofs.YtgedlpdjnnbolaaDoor
