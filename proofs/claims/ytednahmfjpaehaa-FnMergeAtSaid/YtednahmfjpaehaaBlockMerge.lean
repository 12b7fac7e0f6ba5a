/-
  WALKS: BlockMerge, of the program and of the reference.
-/
import Derived.Test.YtednahmfjpaehaaBlockPut
namespace Go.Proofs.Ytednahmfjpaehaa
set_option linter.unusedVariables false
open Go.RowKit

/-- What BlockMerge hands back. -/
def mergeO (a b : List PB.Row) : List PB.Row × Bool := if PB.blockB a && PB.blockB b then (if (PB.mergeR a b).length ≤ 24 then (PB.mergeR a b, true) else ([], false)) else ([], false)
theorem mergeO_no {a b : List PB.Row} (h : PB.blockB a = false ∨ PB.blockB b = false) : mergeO a b = ([], false) := by
  unfold mergeO
  rcases h with h | h <;> simp [h]
theorem mergeO_big {a b : List PB.Row} (h : PB.blockB a = true) (h2 : PB.blockB b = true) (h3 : ¬ (PB.mergeR a b).length ≤ 24) : mergeO a b = ([], false) := by simp [mergeO, h, h2, h3]
theorem mergeO_yes {a b : List PB.Row} (h : PB.blockB a = true) (h2 : PB.blockB b = true) (h3 : (PB.mergeR a b).length ≤ 24) : mergeO a b = (PB.mergeR a b, true) := by simp [mergeO, h, h2, h3]
theorem mergeO_len (a b : List PB.Row) : (mergeO a b).1.length ≤ 24 := by
  unfold mergeO
  split
  · split
    · assumption
    · exact Nat.zero_le _
  · exact Nat.zero_le _
theorem putR_le (r : PB.Row) : ∀ l : List PB.Row, (PB.putR r l).length ≤ l.length + 1
  | [] => by simp [PB.putR]
  | a :: l => by
    have := putR_le r l
    unfold PB.putR
    split
    · simp; omega
    · split <;> simp
theorem mergeR_le (a : List PB.Row) : ∀ b : List PB.Row, (PB.mergeR a b).length ≤ a.length + b.length := by
  intro b
  unfold PB.mergeR
  induction b generalizing a with
  | nil => simp
  | cons x b ih =>
    have h1 := ih (PB.putR x a)
    have h2 := putR_le x a
    simp only [List.foldl_cons, List.length_cons]
    omega
theorem merge_take {a b : List PB.Row} {k : Nat} {x : PB.Row} (hk : k < b.length) (hx : x = b.getD k (0, 0)) : PB.mergeR a (b.take (k + 1)) = PB.putR x (PB.mergeR a (b.take k)) := by
  rw [PB.getD_row hk] at hx
  unfold PB.mergeR
  rw [hx, List.take_succ_eq_append_getElem hk, List.foldl_append]
  rfl

set_option maxRecDepth 100000 in
set_option maxHeartbeats 3200000 in
theorem l2Merge_any (A A' : Option Addr) (n n' c c' : Nat) (a b : List PB.Row) (B B' : Nat) (w : World) (hl : a.length = n) (hl' : b.length = n') (h : Rd w B 2 A n (rows a)) (h' : Rd w B' 2 A' n' (rows b)) (ha : PB.Asc a) (hn : n ≤ 1000) (hn' : n' ≤ 1000) (hB : B ≤ w.heap.size) (hB' : B' ≤ w.heap.size) :
    Calls Try.prog 36 #[.slice A n c, .slice A' n' c'] w (RowL w (PB.mergeR a b)) := by
  obtain ⟨i0, hi_, hz0, hz1, hz2⟩ := info_parts info_row
  have HL := hide hl
  have HL' := hide hl'
  have HR' := hide (h'.more hB')
  have HA := hide ha
  have hO := hide (own_empty w w.heap.size (Nat.le_refl _))
  have hb0 : Below w.heap.size w (w.alloc (.cells #[] 30)) := (Below.refl _ _).alloc (Nat.le_refl _) _
  have HX := hide ((h.more hB).below hb0)
  have HB0 := hide hb0
  have hone := hide (rows_one (l := a))
  clear hl hl' h h' hB hB' ha hb0
  go_enter Try.func36, Try.ntmps36
  go_wp2_with (first | (at_builtin; refine wpList_app _ rfl (.tmp 7) (.tmp 8) 26 rfl w.heap.size 30 i0 (.agg #[.int .i64 0, .int .i64 0]) 2 16 Try.underlying26 hi_ hz0 hz1 hz2 rfl (by decide) _ _ _ rfl hO.out w.heap.size _ _ _ _ rfl HX.out hone.out (by unfold maxLen; omega) (by omega) (by simp) ?_; intro A5 c5 w5 o5 b5; simp only [Nat.zero_add, List.nil_append] at o5; replace HB0 := hide (HB0.out.trans b5); rw [← HL.out] at o5; have O5 := hide o5; clear o5 b5 hO HX hone))
  go_loopw [5, 6] (fun s i wr => ∃ (k : Nat) (out : List PB.Row) (A9 : Option Addr) (c9 : Nat), k ≤ n' ∧ i = .int .i64 k ∧ s = .slice A9 out.length c9 ∧ Hid (out = PB.mergeR a (b.take k)) ∧ Hid (wr.ownsRow w.heap.size 30 2 (.slice A9 out.length c9) out.length (rows out)) ∧ Hid (Below w.heap.size w wr)) (fun _ i _ => n' - (intOf i).toNat)
  case atStart => exact ⟨0, a, _, _, Nat.zero_le _, rfl, by rw [HL.out], hide (by simp [PB.mergeR]), O5, HB0⟩
  case round =>
    clear O5 HB0
    obtain ⟨k, out, A9, c9, hk, rfl, rfl, hp, ho, hbel⟩ := hrel
    by_cases hlt : k < n'
    · obtain ⟨bb, off, rfl, hb, hc⟩ := (HR'.out.below hbel.out).row HL'.out hlt
      obtain ⟨c1, c2⟩ := hc k hlt
      obtain ⟨x, hx⟩ : ∃ x, x = b.getD k (0, 0) := ⟨_, rfl⟩
      have hT := hide (merge_take (a := a) (by rw [HL'.out]; exact hlt) hx)
      rw [← hx] at c1 c2
      obtain ⟨t, v⟩ := x
      have hlen : out.length ≤ 2000 := by
        have h1 := mergeR_le a (b.take k)
        rw [← hp.out, HL.out] at h1
        simp at h1; omega
      have C := hide (l2Put_any A9 out.length c9 out t v wr.heap.size wr rfl (Rd.of_own ho.out) (by rw [hp.out]; exact PB.mergeR_asc HA.out) (by omega) (Nat.le_refl _))
      rw [hp.out, ← hT.out] at C
      clear hc hx
      go_wp2_with fail
      rw [hp.out]
      refine C.out.mono ?_
      rintro e w2 ⟨A2, c2', rfl, o2, b2⟩
      have O2 := hide (own_base o2 hbel.out.size)
      have B2 := hide (hbel.out.trans (b2.mono hbel.out.size))
      clear o2 b2 C ho hbel
      go_wp2
      go_roundw
      case rel => exact ⟨k + 1, _, A2, c2', by omega, by go_num, rfl, hide rfl, O2, B2⟩
      case measure => simp [intOf]; omega
    · have hd : Hid (out = PB.mergeR a b) := hide (by have := hp.out; rwa [List.take_of_length_le (by rw [HL'.out]; omega)] at this)
      go_wp2
      go_ret
      have ho' := ho.out
      rw [hd.out] at ho'
      exact ⟨A9, c9, congrArg (fun l : List PB.Row => Ending.returned (.slice A9 l.length c9)) hd.out, ho', hbel.out⟩

set_option maxRecDepth 100000 in
set_option maxHeartbeats 3200000 in
theorem specBlockMerge (A A' : Option Addr) (n n' c c' : Nat) (a b : List PB.Row) (B B' : Nat) (w : World) (hl : a.length = n) (hl' : b.length = n') (h : Rd w B 2 A n (rows a)) (h' : Rd w B' 2 A' n' (rows b)) (hn : n ≤ 2000000) (hn' : n' ≤ 2000000) (hB : B ≤ w.heap.size) (hB' : B' ≤ w.heap.size) :
    Calls Try.prog 21 #[.slice A n c, .slice A' n' c'] w (RowLB w (mergeO a b)) := by
  obtain ⟨i0, hi_, hz0, hz1, hz2⟩ := info_parts info_row
  have HL := hide hl
  have HL' := hide hl'
  have BW : Hid (Below w.heap.size w w) := hide (Below.refl _ _)
  have RA : Hid (RdB w B 2 A n (rows a)) := hide ⟨h, hB⟩
  have RB : Hid (RdB w B' 2 A' n' (rows b)) := hide ⟨h', hB'⟩
  clear h hB hl h' hB' hl'
  go_enter Try.func21, Try.ntmps21
  have C1 := hide (specBlockOk A n c a _ w HL.out RA.out.rd hn RA.out.le)
  go_wp2_with fail
  refine C1.out.mono ?_
  rintro e w1 ⟨rfl, bm⟩
  have s1 := bm.size
  replace BW := hide (below_keep BW.out bm)
  replace RA := hide (RA.out.keep bm)
  replace RB := hide (RB.out.keep bm)
  clear bm C1
  cases ha : PB.blockB a
  · have F : Hid (RowLB w (mergeO a b) (.returned (.tuple #[.slice (some ⟨w1.heap.size, 0, none⟩) 0 0, .bool false])) (w1.alloc (.cells #[] 30))) := hide (by
      rw [mergeO_no (.inl ha)]
      exact ⟨_, _, rfl, own_empty _ _ BW.out.size, BW.out.alloc BW.out.size _⟩)
    clear ha BW RA RB
    go_wp2
    exact bodyPost_ret (v := .tuple #[.slice (some ⟨w1.heap.size, 0, none⟩) 0 0, .bool false]) (by simp [results, Try.results21, go_sem]) rfl F.out
  · have HOA := hide ha
    clear ha
    have C2 := hide (specBlockOk A' n' c' b _ w1 HL'.out RB.out.rd hn' RB.out.le)
    go_wp2_with fail
    refine C2.out.mono ?_
    rintro e w2 ⟨rfl, bm⟩
    have s2 := bm.size
    replace BW := hide (below_keep BW.out bm)
    replace RA := hide (RA.out.keep bm)
    replace RB := hide (RB.out.keep bm)
    clear bm C2
    cases hbk : PB.blockB b
    · have F : Hid (RowLB w (mergeO a b) (.returned (.tuple #[.slice (some ⟨w2.heap.size, 0, none⟩) 0 0, .bool false])) (w2.alloc (.cells #[] 30))) := hide (by
        rw [mergeO_no (.inr hbk)]
        exact ⟨_, _, rfl, own_empty _ _ BW.out.size, BW.out.alloc BW.out.size _⟩)
      clear hbk BW RA RB
      go_wp2
      exact bodyPost_ret (v := .tuple #[.slice (some ⟨w2.heap.size, 0, none⟩) 0 0, .bool false]) (by simp [results, Try.results21, go_sem]) rfl F.out
    · have HOB := hide hbk
      have hn24 : n ≤ 24 := by have := (PB.blockB_iff.1 HOA.out).2.2; rw [HL.out] at this; exact this
      have hn24' : n' ≤ 24 := by have := (PB.blockB_iff.1 HOB.out).2.2; rw [HL'.out] at this; exact this
      have hml : (PB.mergeR a b).length ≤ 48 := by have := mergeR_le a b; rw [HL.out, HL'.out] at this; omega
      clear hbk
      have C3 := hide (l2Merge_any A A' n n' c c' a b _ _ w2 HL.out HL'.out RA.out.rd RB.out.rd (PB.blockB_iff.1 HOA.out).2.1 (by omega) (by omega) RA.out.le RB.out.le)
      go_wp2_with fail
      refine C3.out.mono ?_
      rintro e w3 ⟨A3, d3, rfl, o, bm⟩
      have s3 := bm.size
      replace BW := hide (below_keep BW.out bm)
      replace RA := hide (RA.out.keep bm)
      replace RB := hide (RB.out.keep bm)
      have OUT := hide (OwB.of o bm.size)
      clear bm C3
      clear o
      have C4 := hide (specBlockOk A3 _ d3 (PB.mergeR a b) _ w3 rfl OUT.out.rd (by omega) OUT.out.top)
      rw [PB.block_merge HOA.out HOB.out] at C4
      go_wp2_with fail
      refine C4.out.mono ?_
      rintro e w4 ⟨rfl, bm⟩
      have s4 := bm.size
      replace BW := hide (below_keep BW.out bm)
      replace RA := hide (RA.out.keep bm)
      replace RB := hide (RB.out.keep bm)
      replace OUT := hide (OUT.out.keep bm)
      clear bm C4
      by_cases hlen : (PB.mergeR a b).length ≤ 24
      · have F : Hid (RowLB w (mergeO a b) (.returned (.tuple #[.slice A3 (PB.mergeR a b).length d3, .bool true])) w4) := hide (by
          rw [mergeO_yes HOA.out HOB.out hlen]
          exact ⟨_, _, rfl, own_base OUT.out.own (by omega), BW.out⟩)
        have d1 : decide ((PB.mergeR a b).length ≤ 24) = true := decide_eq_true hlen
        clear RA RB OUT
        go_wp2
        exact bodyPost_ret (v := .tuple #[.slice A3 (PB.mergeR a b).length d3, .bool true]) (by simp [results, Try.results21, go_sem]) rfl F.out
      · have d1 : decide ((PB.mergeR a b).length ≤ 24) = false := decide_eq_false hlen
        have F : Hid (RowLB w (mergeO a b) (.returned (.tuple #[.slice (some ⟨w4.heap.size, 0, none⟩) 0 0, .bool false])) (w4.alloc (.cells #[] 30))) := hide (by
          rw [mergeO_big HOA.out HOB.out hlen]
          exact ⟨_, _, rfl, own_empty _ _ BW.out.size, BW.out.alloc BW.out.size _⟩)
        clear BW RA RB OUT
        go_wp2
        exact bodyPost_ret (v := .tuple #[.slice (some ⟨w4.heap.size, 0, none⟩) 0 0, .bool false]) (by simp [results, Try.results21, go_sem]) rfl F.out

set_option maxRecDepth 100000 in
set_option maxHeartbeats 3200000 in
theorem implBlockMerge (A A' : Option Addr) (n n' c c' : Nat) (a b : List PB.Row) (B B' : Nat) (w : World) (hl : a.length = n) (hl' : b.length = n') (h : Rd w B 2 A n (rows a)) (h' : Rd w B' 2 A' n' (rows b)) (hn : n ≤ 2000000) (hn' : n' ≤ 2000000) (hB : B ≤ w.heap.size) (hB' : B' ≤ w.heap.size) :
    Calls Try.prog 22 #[.slice A n c, .slice A' n' c'] w (RowLB w (mergeO a b)) := by
  obtain ⟨i0, hi_, hz0, hz1, hz2⟩ := info_parts info_row
  have HL := hide hl
  have HL' := hide hl'
  have BW : Hid (Below w.heap.size w w) := hide (Below.refl _ _)
  have RA : Hid (RdB w B 2 A n (rows a)) := hide ⟨h, hB⟩
  have RB : Hid (RdB w B' 2 A' n' (rows b)) := hide ⟨h', hB'⟩
  have hBw := hide hB'
  clear h hB hl h' hB' hl'
  go_enter Try.func22, Try.ntmps22
  have C1 := hide (implBlockOk A n c a _ w HL.out RA.out.rd hn RA.out.le)
  go_wp2_with fail
  refine C1.out.mono ?_
  rintro e w1 ⟨rfl, bm⟩
  have s1 := bm.size
  replace BW := hide (below_keep BW.out bm)
  replace RA := hide (RA.out.keep bm)
  replace RB := hide (RB.out.keep bm)
  clear bm C1
  cases ha : PB.blockB a
  · have F : Hid (RowLB w (mergeO a b) (.returned (.tuple #[.slice (some ⟨w1.heap.size, 0, none⟩) 0 0, .bool false])) (w1.alloc (.cells #[] 30))) := hide (by
      rw [mergeO_no (.inl ha)]
      exact ⟨_, _, rfl, own_empty _ _ BW.out.size, BW.out.alloc BW.out.size _⟩)
    clear ha BW RA RB
    go_wp2
    exact bodyPost_ret (v := .tuple #[.slice (some ⟨w1.heap.size, 0, none⟩) 0 0, .bool false]) (by simp [results, Try.results22, go_sem]) rfl F.out
  · have HOA := hide ha
    clear ha
    have C2 := hide (implBlockOk A' n' c' b _ w1 HL'.out RB.out.rd hn' RB.out.le)
    go_wp2_with fail
    refine C2.out.mono ?_
    rintro e w2 ⟨rfl, bm⟩
    have s2 := bm.size
    replace BW := hide (below_keep BW.out bm)
    replace RA := hide (RA.out.keep bm)
    replace RB := hide (RB.out.keep bm)
    clear bm C2
    cases hbk : PB.blockB b
    · have F : Hid (RowLB w (mergeO a b) (.returned (.tuple #[.slice (some ⟨w2.heap.size, 0, none⟩) 0 0, .bool false])) (w2.alloc (.cells #[] 30))) := hide (by
        rw [mergeO_no (.inr hbk)]
        exact ⟨_, _, rfl, own_empty _ _ BW.out.size, BW.out.alloc BW.out.size _⟩)
      clear hbk BW RA RB
      go_wp2
      exact bodyPost_ret (v := .tuple #[.slice (some ⟨w2.heap.size, 0, none⟩) 0 0, .bool false]) (by simp [results, Try.results22, go_sem]) rfl F.out
    · have HOB := hide hbk
      have hn24 : n ≤ 24 := by have := (PB.blockB_iff.1 HOA.out).2.2; rw [HL.out] at this; exact this
      have hn24' : n' ≤ 24 := by have := (PB.blockB_iff.1 HOB.out).2.2; rw [HL'.out] at this; exact this
      have hml : (PB.mergeR a b).length ≤ 48 := by have := mergeR_le a b; rw [HL.out, HL'.out] at this; omega
      clear hbk
      have hO := own_empty w2 w2.heap.size (Nat.le_refl _)
      have hB1 : Below w2.heap.size w2 (w2.alloc (.cells #[] 30)) := (Below.refl _ _).alloc (Nat.le_refl _) _
      have hX := (RA.out.rd.more RA.out.le).below hB1
      have HO := hide hO
      have HX := hide hX
      have HB1 := hide hB1
      have hone := hide (rows_one (l := a))
      clear hO hX hB1
      go_wp2_with (first | (at_builtin; refine wpList_app _ rfl (.tmp 18) (.tmp 19) 26 rfl w2.heap.size 30 i0 (.agg #[.int .i64 0, .int .i64 0]) 2 16 Try.underlying26 hi_ hz0 hz1 hz2 rfl (by decide) _ _ _ rfl HO.out w2.heap.size _ _ _ _ rfl HX.out hone.out (by unfold maxLen; omega) (by omega) (by simp) ?_; intro A5 c5 w5 o5 b5; simp only [Nat.zero_add, List.nil_append] at o5; rw [← HL.out] at o5; replace HB1 := hide (HB1.out.trans b5); have O5 := hide (own_base o5 BW.out.size); clear o5 b5 HO HX hone))
      have RB5 := hide (RB.out.keep HB1.out)
      have BW5 := hide (below_keep BW.out HB1.out)
      clear RA RB BW HB1
      go_loopw [6, 23] (fun s i wr => ∃ (k : Nat) (out : List PB.Row) (A9 : Option Addr) (c9 : Nat), k ≤ n' ∧ i = .int .i64 k ∧ s = .slice A9 out.length c9 ∧ Hid (out = PB.mergeR a (b.take k)) ∧ Hid (wr.ownsRow w.heap.size 30 2 (.slice A9 out.length c9) out.length (rows out)) ∧ Hid (Below w5.heap.size w5 wr ∨ Below w.heap.size w wr) ∧ Hid (Below w.heap.size w wr) ∧ Hid (Rd wr B' 2 A' n' (rows b)) ∧ Hid (B' ≤ w.heap.size)) (fun _ i _ => n' - (intOf i).toNat)
      case atStart => exact ⟨0, a, _, _, Nat.zero_le _, rfl, by rw [HL.out], hide (by simp [PB.mergeR]), O5, hide (.inr BW5.out), BW5, hide RB5.out.rd, hBw⟩
      case round =>
        clear O5 BW5 RB5
        obtain ⟨k, out, A9, c9, hk, rfl, rfl, hp, ho, _, hbel, hrd, _⟩ := hrel
        have hsz := hbel.out.size
        by_cases hlt : k < n'
        · obtain ⟨bb, off, rfl, hb, hc⟩ := hrd.out.row HL'.out hlt
          obtain ⟨c1, c2⟩ := hc k hlt
          obtain ⟨x, hx⟩ : ∃ x, x = b.getD k (0, 0) := ⟨_, rfl⟩
          have hT := hide (merge_take (a := a) (by rw [HL'.out]; exact hlt) hx)
          rw [← hx] at c1 c2
          obtain ⟨t, v⟩ := x
          have hlen : out.length ≤ 2000 := by
            have h1 := mergeR_le a (b.take k)
            rw [← hp.out, HL.out] at h1
            simp at h1; omega
          have W0 : Hid (∀ j, (wr.alloc (.cells #[.int .i64 t, .int .i64 v] 30)).cell? ⟨wr.heap.size, j, none⟩ = #[Value.int .i64 t, .int .i64 v][j]?) := hide (fun j => World.cell?_alloc_new _ _ _ _)
          have O1 := hide (ho.out.alloc (.cells #[.int .i64 t, .int .i64 v] 30))
          have B1 := hide (hbel.out.alloc hsz (.cells #[.int .i64 t, .int .i64 v] 30))
          have BD := hide ((Below.refl wr.heap.size wr).alloc (Nat.le_refl _) (.cells #[.int .i64 t, .int .i64 v] 30))
          clear hc hx hb
          go_wp2_with fail
          generalize wr.alloc (.cells #[.int .i64 t, .int .i64 v] 30) = W1 at W0 O1 B1 BD ⊢
          have C := hide (implPut_any A9 out.length c9 out t v W1.heap.size W1 rfl (Rd.of_own O1.out) (by omega) (Nat.le_refl _))
          rw [hp.out, ← hT.out] at C
          rw [hp.out]
          have k0 := W0.out 0
          have k1 := W0.out 1
          simp only [List.getElem?_toArray, List.getElem?_cons_zero, List.getElem?_cons_succ] at k0 k1
          clear c1 c2
          go_wp2_with fail
          refine C.out.mono ?_
          rintro e w2 ⟨A2, c2', rfl, o2, b2⟩
          have O2 := hide (own_base o2 B1.out.size)
          have B2 := hide (B1.out.trans (b2.mono B1.out.size))
          have R2 := hide (hrd.out.below ((BD.out.mono (Nat.le_trans hBw.out hsz)).trans (b2.mono (Nat.le_trans hBw.out B1.out.size))))
          clear o2 b2 C ho hbel hrd O1 B1 BD W0 k0 k1
          go_wp2
          go_roundw
          case rel => exact ⟨k + 1, _, A2, c2', by omega, by go_num, rfl, hide rfl, O2, hide (.inr B2.out), B2, R2, hBw⟩
          case measure => simp [intOf]; omega
        · have hd : Hid (out = PB.mergeR a b) := hide (by have := hp.out; rwa [List.take_of_length_le (by rw [HL'.out]; omega)] at this)
          have ho' := ho.out
          have BW := hide hbel.out
          rw [hd.out] at ho'
          have OUT := hide ho'
          clear ho ho' hbel hrd
          rw [hd.out]
          clear hd hp
          by_cases hlen : (PB.mergeR a b).length ≤ 24
          · have F : Hid (RowLB w (mergeO a b) (.returned (.tuple #[.slice A9 (PB.mergeR a b).length c9, .bool true])) wr) := hide (by
              rw [mergeO_yes HOA.out HOB.out hlen]
              exact ⟨_, _, rfl, OUT.out, BW.out⟩)
            clear OUT BW
            go_wp2
            exact bodyPost_ret (v := .tuple #[.slice A9 (PB.mergeR a b).length c9, .bool true]) (by simp [results, Try.results22, go_sem]) rfl F.out
          · have F : Hid (RowLB w (mergeO a b) (.returned (.tuple #[.slice (some ⟨wr.heap.size, 0, none⟩) 0 0, .bool false])) (wr.alloc (.cells #[] 30))) := hide (by
              rw [mergeO_big HOA.out HOB.out hlen]
              exact ⟨_, _, rfl, own_empty _ _ BW.out.size, BW.out.alloc BW.out.size _⟩)
            clear OUT BW
            go_wp2
            exact bodyPost_ret (v := .tuple #[.slice (some ⟨wr.heap.size, 0, none⟩) 0 0, .bool false]) (by simp [results, Try.results22, go_sem]) rfl F.out

end Go.Proofs.Ytednahmfjpaehaa
