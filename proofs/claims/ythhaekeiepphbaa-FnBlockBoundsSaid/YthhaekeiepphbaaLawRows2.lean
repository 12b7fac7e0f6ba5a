/-
  WALKS: the laws BlockBounds and BlockForm.
-/
import Derived.Test.YthhaekeiepphbaaDrawRows
import Derived.Test.YthhaekeiepphbaaAppend
import Derived.OpenShut
namespace Go.Proofs.Ythhaekeiepphbaa
set_option linter.unusedVariables false
open Go.RowKit

theorem bytes_ofR {zs : List Int} (h : ∀ z ∈ zs, (Lit.int .u8 z).wf = true) : ByteL zs := fun z hz => bounds_u8 (h z hz)
theorem block_bad {l : List PB.Row} {r : PB.Row} (hr : r ∈ l) (h : PB.rowB r = false) : PB.blockB l = false := by
  cases hb : PB.blockB l
  · rfl
  · rw [(PB.blockB_iff.1 hb).1 r hr] at h; cases h
/-- A literal slice of rows. -/
theorem own_lit (w : World) (l : List PB.Row) (base : Nat) (hb : base ≤ w.heap.size) (hl : l.length ≤ 100) : (w.alloc (.cells (rows l).toArray 32)).ownsRow base 32 2 (.slice (some ⟨w.heap.size, 0, none⟩) l.length l.length) l.length (rows l) := by
  have := World.ownsRow_lit (base := base) (size := 2) (e := 32) w (rows l).toArray l.length hb (by unfold maxLen; omega) (by simp [rows_len])
  simpa using this

set_option maxRecDepth 100000 in
set_option maxHeartbeats 3200000 in
theorem fnBlockBounds_walk (w : World) (a0 : Option Addr) (len0 cap0 : Nat) (z0 : List Int) (hz0 : z0.length = len0) (rd0 : Rd w w.heap.size 1 a0 len0 (z0.map (Value.int .u8))) (wf0 : ∀ z ∈ z0, (Lit.int .u8 z).wf = true) (lc0 : len0 ≤ cap0) (cm0 : cap0 ≤ maxLen) :
    Calls Try.prog 4 #[.slice a0 len0 cap0] w fun e w' => e = .returned (.bool true) ∧ Below w.heap.size w w' := by
  obtain ⟨i0, hi, hz0', hz1, hz2⟩ := info_parts info_row
  have H1 := hide (drawBlockOk_any a0 len0 cap0 z0 w hz0 rd0 (bytes_ofR wf0) lc0 cm0)
  clear rd0 wf0 hz0
  unfold maxLen at cm0
  by_cases hl : 1048576 < len0
  · clear H1
    go_enter Try.func4, Try.ntmps4
    go_wp2
    go_ret
    exact ⟨rfl, Below.refl _ _⟩
  · go_enter Try.func4, Try.ntmps4
    go_wp2_with fail
    refine H1.out.mono ?_
    rintro e w1 ⟨l, hll, A1, d1, rfl, o1, b1⟩
    have X1 := hide (Rd.of_own o1)
    have B1 := hide b1
    have C2 := hide (implBlockOk A1 l.length d1 l w1.heap.size w1 rfl X1.out (by omega) (Nat.le_refl _))
    clear H1 o1 b1
    go_wp2_with fail
    refine C2.out.mono ?_
    rintro e w2 ⟨rfl, b2⟩
    have X2 := hide (X1.out.below b2)
    have B2 := hide (B1.out.trans (b2.mono B1.out.size))
    have q2 := hide b2.size
    have C3 := hide (specBlockOk A1 l.length d1 l w1.heap.size w2 rfl X2.out (by omega) q2.out)
    clear C2 X1 B1 b2
    go_wp2_with fail
    refine C3.out.mono ?_
    rintro e w3 ⟨rfl, b3⟩
    have X3 := hide (X2.out.below (b3.mono q2.out))
    have B3 := hide (B2.out.trans (b3.mono B2.out.size))
    have q3 := hide (Nat.le_trans q2.out b3.size)
    clear C3 X2 B2 b3 q2
    cases hb : PB.blockB l
    · have C4 := hide (specBlockOk A1 l.length d1 l w1.heap.size w3 rfl X3.out (by omega) q3.out)
      rw [hb] at C4
      clear hb
      go_wp2_with fail
      refine C4.out.mono ?_
      rintro e w4 ⟨rfl, b4⟩
      have B4 := hide (B3.out.trans (b4.mono B3.out.size))
      go_wp2
      go_ret
      exact ⟨rfl, B4.out⟩
    · have hO : (w3.alloc (.cells #[] 32)).ownsRow w3.heap.size 32 2 (.slice (some ⟨w3.heap.size, 0, none⟩) 0 0) 0 [] := World.ownsRow_lit w3 #[] 0 (Nat.le_refl _) (Nat.zero_le _) rfl
      have hX : Rd (w3.alloc (.cells #[] 32)) w1.heap.size 2 A1 l.length (rows l) := X3.out.alloc q3.out _
      have hone := hide (rows_one (l := l))
      have hq3 := q3.out
      clear hb
      go_wp2_with (first
        | (at_builtin; refine wpList_app _ rfl (.tmp 27) (.tmp 28) 25 rfl w3.heap.size 32 i0 (.agg #[.int .i64 0, .int .i64 0]) 2 16 Try.underlying25 hi hz0' hz1 hz2 rfl (by decide) _ _ _ rfl hO w1.heap.size _ _ _ _ rfl hX hone.out (by unfold maxLen; omega) (by omega) (by simp <;> omega) ?_; intro A4 c4 w4 o4 b4; simp only [Nat.zero_add, List.nil_append] at o4; have s4 := b4.size; simp at s4)
        | (at_builtin; refine wpList_app _ rfl (.tmp 29) (.tmp 31) 25 rfl w3.heap.size 32 i0 (.agg #[.int .i64 0, .int .i64 0]) 2 16 Try.underlying25 hi hz0' hz1 hz2 rfl (by decide) _ _ _ rfl (o4.alloc _) (w4.heap.size + 1) _ _ _ [.int .i64 100, .int .i64 0] rfl (rd_lit w4 [.int .i64 100, .int .i64 0] _ 2 1 rfl) (row_one _ _) (by unfold maxLen; omega) (by omega) (by simp <;> omega) ?_; intro A5 c5 w5 o5 b5; have s5 := b5.size; simp at s5; have hX5 := hide (((X3.out.alloc q3.out _).below (b4.mono hq3)).below ((Below.refl _ _).alloc (by omega) _ |>.trans (b5.mono hq3))))
        | (at_builtin; refine wpList_app _ rfl (.tmp 34) (.tmp 35) 25 rfl w5.heap.size 32 i0 (.agg #[.int .i64 0, .int .i64 0]) 2 16 Try.underlying25 hi hz0' hz1 hz2 rfl (by decide) _ _ _ rfl (World.ownsRow_lit w5 #[.int .i64 (-1), .int .i64 0] 1 (Nat.le_refl _) (by unfold maxLen; omega) rfl) w1.heap.size _ _ _ _ rfl (hX5.out.alloc (by omega) _) hone.out (by unfold maxLen; omega) (by omega) (by simp <;> omega) ?_; intro A6 c6 w6 o6 b6))
      have hb3 : Below w3.heap.size w3 (w6.alloc (.cells #[.int .i64 1, .int .i64 100] 32)) := ((((((Below.refl _ _).alloc (Nat.le_refl _) _).trans b4).alloc (by omega) _).trans b5).trans (((Below.refl _ _).alloc (by omega) _).trans (b6.mono (by omega)))).alloc (by have := b6.size; simp at this; omega) _
      have s6 := b6.size
      simp at s6
      have R5 : Rd w5 w5.heap.size 2 A5 (l.length + 1) (rows (l ++ [(100, 0)])) := by
        have := Rd.of_own o5
        rw [rows_append]; exact this
      have hb5 : Below w5.heap.size w5 (w6.alloc (.cells #[.int .i64 1, .int .i64 100] 32)) := (((Below.refl _ _).alloc (Nat.le_refl _) _).trans b6).alloc (by omega) _
      have R6 : Rd w6 w6.heap.size 2 A6 (1 + l.length) (rows ((-1, 0) :: l)) := Rd.of_own o6
      have R7 := rd_lit w6 (rows [(1, 100)]) 32 2 1 rfl
      have T5 := hide (R5.below hb5)
      have T6 := hide (R6.alloc (Nat.le_refl _) (.cells #[.int .i64 1, .int .i64 100] 32))
      have T7 : Hid (Rd (w6.alloc (.cells #[.int .i64 1, .int .i64 100] 32)) (w6.heap.size + 1) 2 (some ⟨w6.heap.size, 0, none⟩) 1 (rows [(1, 100)])) := hide R7
      have HB := hide (B3.out.trans (hb3.mono B3.out.size))
      have hs7 : (w6.alloc (.cells #[.int .i64 1, .int .i64 100] 32)).heap.size = w6.heap.size + 1 := by simp
      have SZ := hide hs7
      generalize w6.alloc (.cells #[.int .i64 1, .int .i64 100] 32) = W7 at T5 T6 T7 HB SZ ⊢
      clear hO hX o4 b4 o5 b5 o6 b6 R5 R6 R7 hb3 hb5 hs7 hX5 X3 B3
      have C7 := hide (implBlockOk A5 (l.length + 1) c5 (l ++ [(100, 0)]) w5.heap.size W7 (by simp) T5.out (by omega) (by rw [SZ.out]; omega))
      rw [block_bad (r := (100, 0)) (by simp) rfl] at C7
      refine C7.out.mono ?_
      rintro e w8 ⟨rfl, b8⟩
      have S8 := hide b8.size
      have C8 := hide (implBlockOk A6 (1 + l.length) c6 ((-1, 0) :: l) w6.heap.size w8 (by simp; omega) (T6.out.below (b8.mono (by rw [SZ.out]; omega))) (by omega) (by have := S8.out; rw [SZ.out] at this; omega))
      rw [block_bad (r := (-1, 0)) (by simp) rfl] at C8
      have T8 := hide (T7.out.below (b8.mono (by rw [SZ.out]; omega)))
      have HB8 := hide (HB.out.trans (b8.mono HB.out.size))
      clear C7 b8 T5 T6 T7 HB
      go_wp2_with fail
      refine C8.out.mono ?_
      rintro e w9 ⟨rfl, b9⟩
      have S9 := hide b9.size
      have C9 := hide (implBlockOk (some ⟨w6.heap.size, 0, none⟩) 1 1 [(1, 100)] (w6.heap.size + 1) w9 rfl (T8.out.below (b9.mono (by have := S8.out; rw [SZ.out] at this; omega))) (by omega) (by have := S8.out; have h := S9.out; rw [SZ.out] at this; omega))
      rw [block_bad (r := (1, 100)) (by simp) rfl] at C9
      have HB9 := hide (HB8.out.trans (b9.mono HB8.out.size))
      clear C8 b9 T8 HB8
      go_wp2_with fail
      refine C9.out.mono ?_
      rintro e w10 ⟨rfl, b10⟩
      go_wp2
      go_ret
      exact ⟨rfl, HB9.out.trans (b10.mono HB9.out.size)⟩

end Go.Proofs.Ythhaekeiepphbaa
