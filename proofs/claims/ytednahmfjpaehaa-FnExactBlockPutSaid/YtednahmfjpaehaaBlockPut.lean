/-
  WALKS: BlockPut, of the program and of the reference.
-/
import Derived.Test.YtednahmfjpaehaaPut
import Derived.Test.YtednahmfjpaehaaTail
import Derived.Test.YtednahmfjpaehaaPlainPut2
namespace Go.Proofs.Ytednahmfjpaehaa
set_option linter.unusedVariables false
open Go.RowKit

/-- A list of rows in the call's own memory, and a word whether it was done. -/
def RowLB (w : World) (p : List PB.Row × Bool) (e : Ending) (w' : World) : Prop :=
  ∃ A c, e = .returned (.tuple #[.slice A p.1.length c, .bool p.2]) ∧ w'.ownsRow w.heap.size 30 2 (.slice A p.1.length c) p.1.length (rows p.1) ∧ Below w.heap.size w w'
/-- What BlockPut hands back. -/
def putO (l : List PB.Row) (r : PB.Row) : List PB.Row × Bool := if PB.blockB l && PB.rowB r then (if (PB.putR r l).length ≤ 24 then (PB.putR r l, true) else (l, false)) else ([], false)
theorem putO_no {l : List PB.Row} {r : PB.Row} (h : PB.blockB l = false ∨ PB.rowB r = false) : putO l r = ([], false) := by
  unfold putO
  rcases h with h | h <;> simp [h]
theorem putO_big {l : List PB.Row} {r : PB.Row} (h : PB.blockB l = true) (h2 : PB.rowB r = true) (h3 : ¬ (PB.putR r l).length ≤ 24) : putO l r = (l, false) := by simp [putO, h, h2, h3]
theorem putO_yes {l : List PB.Row} {r : PB.Row} (h : PB.blockB l = true) (h2 : PB.rowB r = true) (h3 : (PB.putR r l).length ≤ 24) : putO l r = (PB.putR r l, true) := by simp [putO, h, h2, h3]
theorem putO_len (l : List PB.Row) (r : PB.Row) (n : Nat) (h : l.length ≤ n) : (putO l r).1.length ≤ n + 24 := by
  unfold putO
  split
  · split
    · show (PB.putR r l).length ≤ n + 24; omega
    · show l.length ≤ n + 24; omega
  · show 0 ≤ n + 24; omega
theorem cellV {w : World} {g : Nat} {e : TypeId} {a b : Value} (h : Cells w g e [a, b]) : w.cell? ⟨g, 0, none⟩ = some a ∧ w.cell? ⟨g, 1, none⟩ = some b := ⟨h.cell 0, h.cell 1⟩
theorem size_box {w : World} {o : Obj} {n : Nat} (h : (w.alloc o).heap.size ≤ n) : w.heap.size ≤ n := by rw [World.size_alloc] at h; omega
theorem own_empty (w : World) (base : Nat) (hb : base ≤ w.heap.size) : (w.alloc (.cells #[] 30)).ownsRow base 30 2 (.slice (some ⟨w.heap.size, 0, none⟩) 0 0) 0 [] := World.ownsRow_lit w #[] 0 hb (Nat.zero_le _) rfl

theorem putR_len {l : List PB.Row} {r : PB.Row} (h : PB.blockB l = true) : (PB.putR r l).length ≤ 25 := by
  have hb := PB.blockB_iff.1 h
  rw [PB.putR_len r l hb.2.1]
  have := hb.2.2
  split <;> omega

set_option maxRecDepth 100000 in
set_option maxHeartbeats 3200000 in
theorem implBlockPut (A : Option Addr) (n c : Nat) (l : List PB.Row) (t v : Int) (B : Nat) (w : World) (hl : l.length = n) (h : Rd w B 2 A n (rows l)) (hn : n ≤ 2000000) (hB : B ≤ w.heap.size) :
    Calls Try.prog 16 #[.slice A n c, .agg #[.int .i64 t, .int .i64 v]] w (RowLB w (putO l (t, v))) := by
  obtain ⟨i0, hi_, hz0, hz1, hz2⟩ := info_parts info_row
  have HL := hide hl
  have V : Hid (Cells (w.alloc (.cells #[.int .i64 t, .int .i64 v] 30)) w.heap.size 30 [.int .i64 t, .int .i64 v]) := hide (Cells.new w #[.int .i64 t, .int .i64 v] 30)
  have BW : Hid (Below w.heap.size w (w.alloc (.cells #[.int .i64 t, .int .i64 v] 30))) := hide ((Below.refl _ _).alloc (Nat.le_refl _) _)
  have R0 : Hid (RdB (w.alloc (.cells #[.int .i64 t, .int .i64 v] 30)) w.heap.size 2 A n (rows l)) := hide ⟨(h.more hB).below BW.out, BW.out.size⟩
  clear h hB hl
  go_enter Try.func16, Try.ntmps16
  have C1 := hide (implBlockOk A n c l _ (w.alloc (.cells #[.int .i64 t, .int .i64 v] 30)) HL.out R0.out.rd hn R0.out.le)
  go_wp2_with fail
  refine C1.out.mono ?_
  rintro e w1 ⟨rfl, b⟩
  have s1 := b.size
  replace V := hide (V.out.block (b.block _ V.out.lt))
  replace BW := hide (below_keep BW.out b)
  replace R0 := hide (R0.out.keep b)
  clear b C1
  obtain ⟨v0, v1⟩ := cellV V.out
  cases hb : PB.blockB l
  · have F : Hid (RowLB w (putO l (t, v)) (.returned (.tuple #[.slice (some ⟨w1.heap.size, 0, none⟩) 0 0, .bool false])) (w1.alloc (.cells #[] 30))) := hide (by
      rw [putO_no (.inl hb)]
      exact ⟨_, _, rfl, own_empty _ _ BW.out.size, BW.out.alloc BW.out.size _⟩)
    clear hb V BW R0
    go_wp2
    exact bodyPost_ret (v := .tuple #[.slice (some ⟨w1.heap.size, 0, none⟩) 0 0, .bool false]) (by simp [results, Try.results16, go_sem]) rfl F.out
  · have HOK := hide hb
    clear hb
    have C2 := hide (rowOk_any t v w1)
    go_wp2_with fail
    refine C2.out.mono ?_
    rintro e w2 ⟨rfl, b⟩
    have s2 := b.size
    replace V := hide (V.out.block (b.block _ V.out.lt))
    replace BW := hide (below_keep BW.out b)
    replace R0 := hide (R0.out.keep b)
    clear b C2
    clear v0 v1
    obtain ⟨v0, v1⟩ := cellV V.out
    cases hr : PB.rowB (t, v)
    · have F : Hid (RowLB w (putO l (t, v)) (.returned (.tuple #[.slice (some ⟨w2.heap.size, 0, none⟩) 0 0, .bool false])) (w2.alloc (.cells #[] 30))) := hide (by
        rw [putO_no (.inr hr)]
        exact ⟨_, _, rfl, own_empty _ _ BW.out.size, BW.out.alloc BW.out.size _⟩)
      clear hr V BW R0
      go_wp2
      exact bodyPost_ret (v := .tuple #[.slice (some ⟨w2.heap.size, 0, none⟩) 0 0, .bool false]) (by simp [results, Try.results16, go_sem]) rfl F.out
    · have HRK := hide hr
      have hn24 : n ≤ 24 := by have := (PB.blockB_iff.1 HOK.out).2.2; rw [HL.out] at this; exact this
      have hln := putR_len (r := (t, v)) HOK.out
      have HP := hide hln
      clear hr
      have C3 := hide (implPut_any A n c l t v _ w2 HL.out R0.out.rd (by omega) R0.out.le)
      go_wp2_with fail
      refine C3.out.mono ?_
      rintro e w3 ⟨A3, d3, rfl, o, b⟩
      have s3 := b.size
      replace V := hide (V.out.block (b.block _ V.out.lt))
      replace BW := hide (below_keep BW.out b)
      replace R0 := hide (R0.out.keep b)
      have OUT := hide (OwB.of o b.size)
      clear b C3
      clear o v0 v1
      by_cases hlen : (PB.putR (t, v) l).length ≤ 24
      · have F : Hid (RowLB w (putO l (t, v)) (.returned (.tuple #[.slice A3 (PB.putR (t, v) l).length d3, .bool true])) w3) := hide (by
          rw [putO_yes HOK.out HRK.out hlen]
          exact ⟨_, _, rfl, own_base OUT.out.own (size_box (o := .cells #[.int .i64 t, .int .i64 v] 30) (by omega)), BW.out⟩)
        have d1 : decide ((PB.putR (t, v) l).length ≤ 24) = true := decide_eq_true hlen
        clear V R0 OUT
        go_wp2
        exact bodyPost_ret (v := .tuple #[.slice A3 (PB.putR (t, v) l).length d3, .bool true]) (by simp [results, Try.results16, go_sem]) rfl F.out
      · have d1 : decide ((PB.putR (t, v) l).length ≤ 24) = false := decide_eq_false hlen
        have hO := own_empty w3 w3.heap.size (Nat.le_refl _)
        have hX := ((R0.out.rd.more R0.out.le).alloc (Nat.le_refl _) (.cells #[] 30))
        have hB1 : Below w3.heap.size w3 (w3.alloc (.cells #[] 30)) := (Below.refl _ _).alloc (Nat.le_refl _) _
        have HO := hide hO
        have HX := hide hX
        have HB1 := hide hB1
        have hone := hide (rows_one (l := l))
        clear hO hX hB1 V OUT
        go_wp2_with (first | (at_builtin; refine wpList_app _ rfl (.tmp 22) (.tmp 23) 26 rfl w3.heap.size 30 i0 (.agg #[.int .i64 0, .int .i64 0]) 2 16 Try.underlying26 hi_ hz0 hz1 hz2 rfl (by decide) _ _ _ rfl HO.out w3.heap.size _ _ _ _ rfl HX.out hone.out (by unfold maxLen; omega) (by omega) (by simp) ?_; intro A9 c9 w9 o9 b9; simp only [Nat.zero_add, List.nil_append] at o9))
        have F : Hid (RowLB w (putO l (t, v)) (.returned (.tuple #[.slice A9 n c9, .bool false])) w9) := hide (by
          rw [putO_big HOK.out HRK.out hlen, ← HL.out]
          have o9' := o9
          rw [← HL.out] at o9'
          exact ⟨_, _, rfl, own_base o9' BW.out.size, BW.out.trans ((HB1.out.trans b9).mono BW.out.size)⟩)
        clear o9 b9 BW R0 HO HX HB1
        go_wp2
        exact bodyPost_ret (v := .tuple #[.slice A9 n c9, .bool false]) (by simp [results, Try.results16, go_sem]) rfl F.out

set_option maxRecDepth 100000 in
set_option maxHeartbeats 3200000 in
theorem specBlockPut (A : Option Addr) (n c : Nat) (l : List PB.Row) (t v : Int) (B : Nat) (w : World) (hl : l.length = n) (h : Rd w B 2 A n (rows l)) (hn : n ≤ 2000000) (hB : B ≤ w.heap.size) :
    Calls Try.prog 13 #[.slice A n c, .agg #[.int .i64 t, .int .i64 v]] w (RowLB w (putO l (t, v))) := by
  obtain ⟨i0, hi_, hz0, hz1, hz2⟩ := info_parts info_row
  have HL := hide hl
  have V : Hid (Cells (w.alloc (.cells #[.int .i64 t, .int .i64 v] 30)) w.heap.size 30 [.int .i64 t, .int .i64 v]) := hide (Cells.new w #[.int .i64 t, .int .i64 v] 30)
  have BW : Hid (Below w.heap.size w (w.alloc (.cells #[.int .i64 t, .int .i64 v] 30))) := hide ((Below.refl _ _).alloc (Nat.le_refl _) _)
  have R0 : Hid (RdB (w.alloc (.cells #[.int .i64 t, .int .i64 v] 30)) w.heap.size 2 A n (rows l)) := hide ⟨(h.more hB).below BW.out, BW.out.size⟩
  clear h hB hl
  go_enter Try.func13, Try.ntmps13
  have C1 := hide (specBlockOk A n c l _ (w.alloc (.cells #[.int .i64 t, .int .i64 v] 30)) HL.out R0.out.rd hn R0.out.le)
  go_wp2_with fail
  refine C1.out.mono ?_
  rintro e w1 ⟨rfl, b⟩
  have s1 := b.size
  replace V := hide (V.out.block (b.block _ V.out.lt))
  replace BW := hide (below_keep BW.out b)
  replace R0 := hide (R0.out.keep b)
  clear b C1
  obtain ⟨v0, v1⟩ := cellV V.out
  cases hb : PB.blockB l
  · have F : Hid (RowLB w (putO l (t, v)) (.returned (.tuple #[.slice (some ⟨w1.heap.size, 0, none⟩) 0 0, .bool false])) (w1.alloc (.cells #[] 30))) := hide (by
      rw [putO_no (.inl hb)]
      exact ⟨_, _, rfl, own_empty _ _ BW.out.size, BW.out.alloc BW.out.size _⟩)
    clear hb V BW R0
    go_wp2
    exact bodyPost_ret (v := .tuple #[.slice (some ⟨w1.heap.size, 0, none⟩) 0 0, .bool false]) (by simp [results, Try.results13, go_sem]) rfl F.out
  · have HOK := hide hb
    clear hb
    have C2 := hide (l2Row_any t v w1)
    go_wp2_with fail
    refine C2.out.mono ?_
    rintro e w2 ⟨rfl, b⟩
    have s2 := b.size
    replace V := hide (V.out.block (b.block _ V.out.lt))
    replace BW := hide (below_keep BW.out b)
    replace R0 := hide (R0.out.keep b)
    clear b C2
    clear v0 v1
    obtain ⟨v0, v1⟩ := cellV V.out
    cases hr : PB.rowB (t, v)
    · have F : Hid (RowLB w (putO l (t, v)) (.returned (.tuple #[.slice (some ⟨w2.heap.size, 0, none⟩) 0 0, .bool false])) (w2.alloc (.cells #[] 30))) := hide (by
        rw [putO_no (.inr hr)]
        exact ⟨_, _, rfl, own_empty _ _ BW.out.size, BW.out.alloc BW.out.size _⟩)
      clear hr V BW R0
      go_wp2
      exact bodyPost_ret (v := .tuple #[.slice (some ⟨w2.heap.size, 0, none⟩) 0 0, .bool false]) (by simp [results, Try.results13, go_sem]) rfl F.out
    · have HRK := hide hr
      have hn24 : n ≤ 24 := by have := (PB.blockB_iff.1 HOK.out).2.2; rw [HL.out] at this; exact this
      have hln := putR_len (r := (t, v)) HOK.out
      have HP := hide hln
      clear hr
      have C3 := hide (l2Put_any A n c l t v _ w2 HL.out R0.out.rd (PB.blockB_iff.1 HOK.out).2.1 (by omega) R0.out.le)
      go_wp2_with fail
      refine C3.out.mono ?_
      rintro e w3 ⟨A3, d3, rfl, o, b⟩
      have s3 := b.size
      replace V := hide (V.out.block (b.block _ V.out.lt))
      replace BW := hide (below_keep BW.out b)
      replace R0 := hide (R0.out.keep b)
      have OUT := hide (OwB.of o b.size)
      clear b C3
      clear o v0 v1
      have C4 := hide (specBlockOk A3 _ d3 (PB.putR (t, v) l) _ w3 rfl OUT.out.rd (by omega) OUT.out.top)
      rw [PB.block_put HOK.out HRK.out] at C4
      go_wp2_with fail
      refine C4.out.mono ?_
      rintro e w4 ⟨rfl, b⟩
      have s4 := b.size
      replace V := hide (V.out.block (b.block _ V.out.lt))
      replace BW := hide (below_keep BW.out b)
      replace R0 := hide (R0.out.keep b)
      replace OUT := hide (OUT.out.keep b)
      clear b C4
      by_cases hlen : (PB.putR (t, v) l).length ≤ 24
      · have F : Hid (RowLB w (putO l (t, v)) (.returned (.tuple #[.slice A3 (PB.putR (t, v) l).length d3, .bool true])) w4) := hide (by
          rw [putO_yes HOK.out HRK.out hlen]
          exact ⟨_, _, rfl, own_base OUT.out.own (size_box (o := .cells #[.int .i64 t, .int .i64 v] 30) (by omega)), BW.out⟩)
        have d1 : decide ((PB.putR (t, v) l).length ≤ 24) = true := decide_eq_true hlen
        clear V R0 OUT
        go_wp2
        exact bodyPost_ret (v := .tuple #[.slice A3 (PB.putR (t, v) l).length d3, .bool true]) (by simp [results, Try.results13, go_sem]) rfl F.out
      · have d1 : decide ((PB.putR (t, v) l).length ≤ 24) = false := decide_eq_false hlen
        have hO := own_empty w4 w4.heap.size (Nat.le_refl _)
        have hX := ((R0.out.rd.more R0.out.le).alloc (Nat.le_refl _) (.cells #[] 30))
        have hB1 : Below w4.heap.size w4 (w4.alloc (.cells #[] 30)) := (Below.refl _ _).alloc (Nat.le_refl _) _
        have HO := hide hO
        have HX := hide hX
        have HB1 := hide hB1
        have hone := hide (rows_one (l := l))
        clear hO hX hB1 V OUT
        go_wp2_with (first | (at_builtin; refine wpList_app _ rfl (.tmp 22) (.tmp 23) 26 rfl w4.heap.size 30 i0 (.agg #[.int .i64 0, .int .i64 0]) 2 16 Try.underlying26 hi_ hz0 hz1 hz2 rfl (by decide) _ _ _ rfl HO.out w4.heap.size _ _ _ _ rfl HX.out hone.out (by unfold maxLen; omega) (by omega) (by simp) ?_; intro A9 c9 w9 o9 b9; simp only [Nat.zero_add, List.nil_append] at o9))
        have F : Hid (RowLB w (putO l (t, v)) (.returned (.tuple #[.slice A9 n c9, .bool false])) w9) := hide (by
          rw [putO_big HOK.out HRK.out hlen, ← HL.out]
          have o9' := o9
          rw [← HL.out] at o9'
          exact ⟨_, _, rfl, own_base o9' BW.out.size, BW.out.trans ((HB1.out.trans b9).mono BW.out.size)⟩)
        clear o9 b9 BW R0 HO HX HB1
        go_wp2
        exact bodyPost_ret (v := .tuple #[.slice A9 n c9, .bool false]) (by simp [results, Try.results13, go_sem]) rfl F.out

end Go.Proofs.Ytednahmfjpaehaa
