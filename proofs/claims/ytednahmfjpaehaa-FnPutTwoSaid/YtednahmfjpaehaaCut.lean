/-
  WALKS: BlockCut, of the program and of the reference.
-/
import Derived.Test.YtednahmfjpaehaaPutSpec
import Derived.Test.YtednahmfjpaehaaAppend
namespace Go.Proofs.Ytednahmfjpaehaa
set_option linter.unusedVariables false
open Go.RowKit

theorem cut_take {l : List PB.Row} {k : Nat} {x : PB.Row} (hk : k < l.length) (hx : x = l.getD k (0, 0)) (lo hi : Int) : PB.cutR (l.take (k + 1)) lo hi = PB.cutR (l.take k) lo hi ++ if PB.inT lo hi x then [x] else [] := by
  rw [PB.getD_row hk] at hx
  unfold PB.cutR
  rw [List.take_succ_eq_append_getElem hk, List.filter_append, ← hx, List.filter_cons]
  rfl
theorem cut_len (l : List PB.Row) (k : Nat) (lo hi : Int) : (PB.cutR (l.take k) lo hi).length ≤ k := Nat.le_trans (List.length_filter_le _ _) (List.length_take_le _ _)
/-- What BlockCut hands back. -/
def cutB (l : List PB.Row) (lo hi : Int) : List PB.Row := if PB.blockB l then PB.cutR l lo hi else []


set_option maxRecDepth 100000 in
set_option maxHeartbeats 3200000 in
theorem implBlockCut (A : Option Addr) (n c : Nat) (l : List PB.Row) (lo hi : Int) (B : Nat) (w : World) (hl : l.length = n) (h : Rd w B 2 A n (rows l)) (hn : n ≤ 2000000) (hB : B ≤ w.heap.size) :
    Calls Try.prog 28 #[.slice A n c, .int .i64 lo, .int .i64 hi] w (RowL w (cutB l lo hi)) := by
  obtain ⟨i0, hi_, hz0, hz1, hz2⟩ := info_parts info_row
  have HL := hide hl
  have HR := hide (h.more hB)
  clear hl h hB
  have hO : Hid ((w.alloc (.cells #[] 30)).ownsRow w.heap.size 30 2 (.slice (some ⟨w.heap.size, 0, none⟩) 0 0) 0 (rows [])) := hide (World.ownsRow_lit w #[] 0 (Nat.le_refl _) (Nat.zero_le _) rfl)
  have B0 : Hid (Below w.heap.size w (w.alloc (.cells #[] 30))) := hide ((Below.refl _ _).alloc (Nat.le_refl _) _)
  have H1 := hide (implBlockOk A n c l w.heap.size (w.alloc (.cells #[] 30)) HL.out (HR.out.below B0.out) hn B0.out.size)
  go_enter Try.func28, Try.ntmps28
  go_wp2_with fail
  refine H1.out.mono ?_
  rintro e w1 ⟨rfl, b1⟩
  have O1 := hide (own_below hO.out b1)
  have B1 := hide (B0.out.trans (b1.mono B0.out.size))
  clear H1 b1 hO B0
  cases hb : PB.blockB l
  · have hd : Hid (cutB l lo hi = []) := hide (by unfold cutB; rw [hb]; rfl)
    have F := hide (⟨_, _, rfl, O1.out, B1.out⟩ : RowL w [] (.returned (.slice (some ⟨w.heap.size, 0, none⟩) 0 0)) w1)
    clear hb O1 B1
    go_wp2
    go_ret
    rw [hd.out]
    exact F.out
  · have hd : Hid (cutB l lo hi = PB.cutR l lo hi) := hide (by unfold cutB; rw [hb]; rfl)
    have hn24 := (PB.blockB_iff.1 hb).2.2
    rw [HL.out] at hn24
    clear hb
    go_wp2
    go_loopw [7, 17] (fun s i wr => ∃ (k : Nat) (out : List PB.Row) (A' : Option Addr) (c' : Nat), k ≤ n ∧ i = .int .i64 k ∧ s = .slice A' out.length c' ∧ out.length ≤ k ∧ Hid (out = PB.cutR (l.take k) lo hi) ∧ Hid (wr.ownsRow w.heap.size 30 2 (.slice A' out.length c') out.length (rows out)) ∧ Below w.heap.size w wr) (fun _ i _ => n - (intOf i).toNat)
    case atStart => exact ⟨0, [], _, _, Nat.zero_le _, rfl, rfl, by simp, hide (by simp [PB.cutR]), O1, B1.out⟩
    case round =>
      clear O1 B1
      obtain ⟨k, out, A', c', hk, rfl, rfl, hol, hp, ho, hbel⟩ := hrel
      have hsz := hbel.size
      by_cases hlt : k < n
      · obtain ⟨b, off, rfl, hb, hc⟩ := (HR.out.below hbel).row HL.out hlt
        obtain ⟨c1, c2⟩ := hc k hlt
        clear hc
        obtain ⟨x, hx⟩ : ∃ x, x = l.getD k (0, 0) := ⟨_, rfl⟩
        have hC := hide (cut_take (by rw [HL.out]; exact hlt) hx lo hi)
        rw [← hx] at c1 c2
        obtain ⟨t, v⟩ := x
        have ho' := ho.out.alloc (.cells #[.int .i64 t, .int .i64 v] 30)
        have HB := hide (hbel.alloc hsz (.cells #[.int .i64 t, .int .i64 v] 30))
        have W0 : Hid (∀ j, (wr.alloc (.cells #[.int .i64 t, .int .i64 v] 30)).cell? ⟨wr.heap.size, j, none⟩ = #[Value.int .i64 t, .int .i64 v][j]?) := hide (fun j => World.cell?_alloc_new _ _ _ _)
        have ho1 := hide ho'
        clear hx hbel ho'
        by_cases hin : lo ≤ t ∧ t ≤ hi
        · have hC' : Hid (out ++ [(t, v)] = PB.cutR (l.take (k + 1)) lo hi) := hide (by rw [hC.out, if_pos (by simp [PB.inT, hin]), hp.out])
          clear hC hp
          go_wp2_with fail
          refine (within_yes _ _ _ _ hin).mono ?_
          rintro e w' ⟨rfl, rfl⟩
          clear hin c1 c2
          generalize wr.alloc (.cells #[.int .i64 t, .int .i64 v] 30) = W1 at W0 ho1 HB ⊢
          have k0 := W0.out 0
          have k1 := W0.out 1
          simp only [List.getElem?_toArray, List.getElem?_cons_zero, List.getElem?_cons_succ] at k0 k1
          have g0 : wr.heap.size < W1.heap.size := World.block_lt_of_cell? _ _ k0
          have gW := HB.out.size
          have ho' := ho1.out
          go_wp2_with (first | (at_builtin; refine wpList_app _ rfl (.tmp 26) (.tmp 28) 26 rfl w.heap.size 30 i0 (.agg #[.int .i64 0, .int .i64 0]) 2 16 Try.underlying26 hi_ hz0 hz1 hz2 rfl (by decide) _ _ _ rfl (ho'.alloc _) (W1.heap.size + 1) _ _ _ [.int .i64 t, .int .i64 v] rfl (rd_lit W1 [.int .i64 t, .int .i64 v] _ 2 1 rfl) (row_one _ _) (by unfold maxLen; omega) (by omega) (by simp <;> omega) ?_; intro A4 c4 w4 o4 b4))
          have e4 : rows out ++ [.int .i64 t, .int .i64 v] = rows (out ++ [(t, v)]) := by rw [rows_append]; rfl
          have O4 : Hid (w4.ownsRow w.heap.size 30 2 (.slice A4 (out ++ [(t, v)]).length c4) (out ++ [(t, v)]).length (rows (out ++ [(t, v)]))) := hide (by rw [← e4, List.length_append]; exact o4)
          have HB4 := HB.out.trans (((Below.refl _ _).alloc gW _).trans b4)
          clear o4 b4 e4 ho' ho ho1 W0
          go_wp2
          go_roundw
          case rel => exact ⟨k + 1, out ++ [(t, v)], A4, c4, by omega, by go_num, by rw [List.length_append]; rfl, by simp; omega, hC', O4, HB4⟩
          case measure => simp [intOf]; omega
        · have hC' : Hid (out = PB.cutR (l.take (k + 1)) lo hi) := hide (by rw [hC.out, if_neg (by simp only [PB.inT, Bool.and_eq_true, decide_eq_true_eq]; exact hin), hp.out]; simp)
          have O5 := ho1
          clear hC hp W0
          go_wp2_with fail
          refine (within_no _ _ _ _ hin).mono ?_
          rintro e w' ⟨rfl, rfl⟩
          clear hin
          go_wp2
          go_roundw
          case rel => exact ⟨k + 1, out, A', c', by omega, by go_num, rfl, by omega, hC', O5, HB.out⟩
          case measure => simp [intOf]; omega
      · have hd' : Hid (out = PB.cutR l lo hi) := hide (by have := hp.out; rwa [List.take_of_length_le (by rw [HL.out]; omega)] at this)
        clear hp
        go_wp2
        go_ret
        have ho' := ho.out
        rw [hd.out]
        rw [hd'.out] at ho'
        exact ⟨A', c', congrArg (fun l : List PB.Row => Ending.returned (.slice A' l.length c')) hd'.out, ho', hbel⟩

end Go.Proofs.Ytednahmfjpaehaa
