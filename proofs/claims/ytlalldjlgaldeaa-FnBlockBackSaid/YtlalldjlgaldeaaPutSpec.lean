/-
  WALKS: the reference's put (l2Put) on rows that ascend.
-/
import Derived.Test.YtlalldjlgaldeaaRows2
import Derived.Test.YtlalldjlgaldeaaPlainPut
namespace Go.Proofs.Ytlalldjlgaldeaa
set_option linter.unusedVariables false
open Go.RowKit

theorem own_ret' {w : World} {B e size n : Nat} {v : Value} {xs : List Value} (h : w.ownsRow B e size v n xs) : ∃ A c, v = .slice A n c ∧ w.ownsRow B e size (.slice A n c) n xs := by
  obtain ⟨A, c, rfl, _⟩ := own_shape h
  exact ⟨A, c, rfl, h⟩
/-- One row more. -/
theorem own_row {w : World} {B n : Nat} {v : Value} {l : List PB.Row} {r : PB.Row} (h : w.ownsRow B 32 2 v n (rows l ++ [.int .i64 r.1, .int .i64 r.2])) (hn : n = l.length + 1) :
    ∃ A c, v = .slice A (l ++ [r]).length c ∧ w.ownsRow B 32 2 (.slice A (l ++ [r]).length c) (l ++ [r]).length (rows (l ++ [r])) := by
  have e : rows l ++ [.int .i64 r.1, .int .i64 r.2] = rows (l ++ [r]) := by rw [rows_append]; rfl
  have e2 : n = (l ++ [r]).length := by simp [hn]
  subst e2
  rw [e] at h
  obtain ⟨A, c, hv, ho⟩ := own_ret' h
  exact ⟨A, c, hv, ho⟩
theorem row_one (t v : Int) : ∀ u ∈ [Value.int .i64 t, .int .i64 v], u.oneCell' = true := by
  intro u hu
  simp only [List.mem_cons, List.not_mem_nil, or_false] at hu
  rcases hu with rfl | rfl <;> rfl

/-- What stands behind k rounds of the reference's put. -/
def PutAt (l : List PB.Row) (r : PB.Row) (k : Nat) (fl : Bool) (out : List PB.Row) : Prop :=
  out.length ≤ k + 1 ∧ (fl = false → out = l.take k ∧ PB.putR r l = l.take k ++ PB.putR r (l.drop k)) ∧ (fl = true → out ++ l.drop k = PB.putR r l ∧ ∀ x ∈ l.drop k, r.1 < x.1)
theorem PutAt.start (l : List PB.Row) (r : PB.Row) : PutAt l r 0 false [] := ⟨by simp, fun _ => ⟨rfl, rfl⟩, fun h => by cases h⟩
theorem PutAt.low {l : List PB.Row} {r x : PB.Row} {k : Nat} {out : List PB.Row} (h : PutAt l r k false out) (hk : k < l.length) (hx : x = l.getD k (0, 0)) (hlt : x.1 < r.1) : PutAt l r (k + 1) false (out ++ [x]) := by
  obtain ⟨_, h2, _⟩ := h
  obtain ⟨e1, e2⟩ := h2 rfl
  rw [PB.getD_row hk] at hx
  have hd : l.drop k = x :: l.drop (k + 1) := by rw [hx]; exact List.drop_eq_getElem_cons hk
  refine ⟨?_, fun _ => ⟨?_, ?_⟩, fun h => by cases h⟩
  · rw [e1]; simp; omega
  · rw [e1, hx, ← List.take_succ_eq_append_getElem hk]
  · rw [e2, hd, PB.putR, if_pos hlt, List.take_succ_eq_append_getElem hk, ← hx]; simp
theorem PutAt.hit {l : List PB.Row} {r x : PB.Row} {k : Nat} {out : List PB.Row} (h : PutAt l r k false out) (ha : PB.Asc l) (hk : k < l.length) (hx : x = l.getD k (0, 0)) (he : x.1 = r.1) : PutAt l r (k + 1) true (out ++ [r]) := by
  obtain ⟨_, h2, _⟩ := h
  obtain ⟨e1, e2⟩ := h2 rfl
  rw [PB.getD_row hk] at hx
  have hd : l.drop k = x :: l.drop (k + 1) := by rw [hx]; exact List.drop_eq_getElem_cons hk
  have had : PB.Asc (l.drop k) := List.Pairwise.sublist (List.drop_sublist _ _) ha
  rw [hd] at had
  have hb := (List.pairwise_cons.1 had).1
  refine ⟨by rw [e1]; simp; omega, (fun h => by cases h), fun _ => ⟨?_, fun y hy => by have := hb y hy; omega⟩⟩
  rw [e2, hd, PB.putR, if_neg (by omega), if_pos he, e1]; simp
theorem PutAt.mid {l : List PB.Row} {r x : PB.Row} {k : Nat} {out : List PB.Row} (h : PutAt l r k false out) (ha : PB.Asc l) (hk : k < l.length) (hx : x = l.getD k (0, 0)) (he : r.1 < x.1) : PutAt l r (k + 1) true (out ++ [r] ++ [x]) := by
  obtain ⟨_, h2, _⟩ := h
  obtain ⟨e1, e2⟩ := h2 rfl
  rw [PB.getD_row hk] at hx
  have hd : l.drop k = x :: l.drop (k + 1) := by rw [hx]; exact List.drop_eq_getElem_cons hk
  have had : PB.Asc (l.drop k) := List.Pairwise.sublist (List.drop_sublist _ _) ha
  rw [hd] at had
  have hb := (List.pairwise_cons.1 had).1
  refine ⟨by rw [e1]; simp; omega, (fun h => by cases h), fun _ => ⟨?_, fun y hy => by have := hb y hy; omega⟩⟩
  rw [e2, hd, PB.putR, if_neg (by omega), if_neg (by omega), e1]; simp
theorem PutAt.high {l : List PB.Row} {r x : PB.Row} {k : Nat} {out : List PB.Row} (h : PutAt l r k true out) (hk : k < l.length) (hx : x = l.getD k (0, 0)) : r.1 < x.1 ∧ PutAt l r (k + 1) true (out ++ [x]) := by
  obtain ⟨h1, _, h3⟩ := h
  obtain ⟨e1, e2⟩ := h3 rfl
  rw [PB.getD_row hk] at hx
  have hd : l.drop k = x :: l.drop (k + 1) := by rw [hx]; exact List.drop_eq_getElem_cons hk
  rw [hd] at e1 e2
  exact ⟨e2 x (by simp), by simp; omega, (fun h => by cases h), fun _ => ⟨by rw [← e1]; simp, fun y hy => e2 y (by simp [hy])⟩⟩
theorem PutAt.end_ {l : List PB.Row} {r : PB.Row} {k : Nat} {out : List PB.Row} (h : PutAt l r k true out) (hk : l.length ≤ k) : out = PB.putR r l := by
  rw [← (h.2.2 rfl).1, List.drop_eq_nil_of_le hk]; simp
theorem PutAt.last {l : List PB.Row} {r : PB.Row} {k : Nat} {out : List PB.Row} (h : PutAt l r k false out) (hk : l.length ≤ k) : out ++ [r] = PB.putR r l := by
  obtain ⟨e1, e2⟩ := h.2.1 rfl
  rw [e2, List.drop_eq_nil_of_le hk, e1]; rfl

/-- What an append to out leaves of the call's own memory. -/
theorem put_step {w wr w1 : World} {out : List PB.Row} {A : Option Addr} {c n : Nat} {v' : Value} {t v : Int} {x : PB.Row} {o : Obj} {nd : Nat}
    (ho : wr.ownsRow (w.heap.size + 1) 32 2 (.slice A out.length c) out.length (rows out)) (hv : wr.heap[w.heap.size]? = some (.cells #[.int .i64 t, .int .i64 v] 32 (0, 0))) (hb : Below w.heap.size w wr)
    (hown : w1.ownsRow (w.heap.size + 1) 32 2 v' n (rows out ++ [.int .i64 x.1, .int .i64 x.2])) (hn : n = out.length + 1) (hg : ((wr.drewN nd).alloc o).grownBy w1 (Value.ownBlock (.slice A out.length c))) :
    (∃ A' c', v' = .slice A' (out ++ [x]).length c' ∧ w1.ownsRow (w.heap.size + 1) 32 2 (.slice A' (out ++ [x]).length c') (out ++ [x]).length (rows (out ++ [x]))) ∧
      w1.heap[w.heap.size]? = some (.cells #[.int .i64 t, .int .i64 v] 32 (0, 0)) ∧ Below w.heap.size w w1 := by
  have hlt := lt_of_block hv
  have hb1 : Below (w.heap.size + 1) wr w1 := ((drewN_below wr nd _).alloc (by show _ ≤ wr.heap.size; omega) o).grown hg (by simp; show _ ≤ wr.heap.size; omega) (fun g hgg => (ho.lt g hgg).1)
  exact ⟨own_row hown hn, (hb1.block _ (by omega)).trans hv, hb.trans (hb1.mono (by omega))⟩

set_option maxRecDepth 100000 in
set_option maxHeartbeats 3200000 in
theorem l2Put_any (A : Option Addr) (n c : Nat) (l : List PB.Row) (t v : Int) (B : Nat) (w : World) (hl : l.length = n) (h : Rd w B 2 A n (rows l)) (ha : PB.Asc l) (hn : n ≤ 100000) (hB : B ≤ w.heap.size) :
    Calls Try.prog 40 #[.slice A n c, .agg #[.int .i64 t, .int .i64 v]] w (RowL w (PB.putR (t, v) l)) := by
  obtain ⟨i0, hi, hz0, hz1, hz2⟩ := info_parts info_row
  have HL := hide hl
  have HR := hide (h.more hB)
  have HA := hide ha
  clear hl h hB ha
  have hO : Hid (((w.alloc (.cells #[.int .i64 t, .int .i64 v] 32)).alloc (.cells #[] 32)).ownsRow (w.heap.size + 1) 32 2 (.slice (some ⟨w.heap.size + 1, 0, none⟩) 0 0) 0 (rows [])) := hide (by
    have := World.ownsRow_lit (base := w.heap.size + 1) (size := 2) (w.alloc (.cells #[.int .i64 t, .int .i64 v] 32)) (e := 32) #[] 0 (by simp) (Nat.zero_le _) rfl
    rw [World.size_alloc] at this
    exact this)
  have HV : Hid (((w.alloc (.cells #[.int .i64 t, .int .i64 v] 32)).alloc (.cells #[] 32)).heap[w.heap.size]? = some (.cells #[.int .i64 t, .int .i64 v] 32 (0, 0))) := hide (by
    rw [Below.heap_alloc _ _ _ (by simp)]; exact heap_alloc_new _ _)
  go_enter Try.func40, Try.ntmps40
  go_wp2
  go_loopw [5, 6, 7] (fun s fl i wr => ∃ (k : Nat) (f : Bool) (out : List PB.Row) (A' : Option Addr) (c' : Nat), k ≤ n ∧ i = .int .i64 k ∧ fl = .bool f ∧ s = .slice A' out.length c' ∧ Hid (wr.ownsRow (w.heap.size + 1) 32 2 (.slice A' out.length c') out.length (rows out)) ∧ Hid (PutAt l (t, v) k f out) ∧ Hid (wr.heap[w.heap.size]? = some (.cells #[.int .i64 t, .int .i64 v] 32 (0, 0))) ∧ Below w.heap.size w wr) (fun _ _ i _ => n - (intOf i).toNat)
  case atStart => exact ⟨0, false, [], _, _, Nat.zero_le _, rfl, rfl, rfl, hO, hide (PutAt.start _ _), HV, ((Below.refl _ _).alloc (Nat.le_refl _) _).alloc (by simp) _⟩
  case round =>
    clear hO HV
    obtain ⟨k, f, out, A', c', hk, rfl, rfl, rfl, ho, hp, hv, hbel⟩ := hrel
    have hsz := hbel.size
    have hol := hp.out.1
    have v0 : wr.cell? ⟨w.heap.size, 0, none⟩ = some (.int .i64 t) := by rw [cell_of_row _ _ _ _ _ _ hv.out]; rfl
    have v1 : wr.cell? ⟨w.heap.size, 1, none⟩ = some (.int .i64 v) := by rw [cell_of_row _ _ _ _ _ _ hv.out]; rfl
    have hlt0 : w.heap.size < wr.heap.size := World.block_lt_of_cell? _ _ v0
    have HB := hide hbel
    have ho' := ho.out
    by_cases hlt : k < n
    · obtain ⟨b, off, rfl, hb, hc⟩ := (HR.out.below hbel).row HL.out hlt
      obtain ⟨c1, c2⟩ := hc k hlt
      clear hc
      obtain ⟨x, hx⟩ : ∃ x, x = l.getD k (0, 0) := ⟨_, rfl⟩
      have HX := hide hx
      rw [← hx] at c1 c2
      obtain ⟨p, q⟩ := x
      clear hx hbel
      have hin : (0 : Int) ≤ (k : Int) ∧ (k : Int) < (n : Int) := by omega
      have hkl : k < l.length := by rw [HL.out]; exact hlt
      cases f
      · rcases (show p < t ∨ p = t ∨ t < p from by omega) with h3 | h3 | h3
        · have hP := hide (hp.out.low hkl HX.out h3)
          have hd1 : decide (t ≤ p) = false := decide_eq_false (by omega)
          have hd2 : (p != t) = true := bne_iff_ne.2 (by omega)
          clear hp
          go_wp2
          go_quiet (fail)
          go_wp2
          go_quiet (fail)
          go_wp2_with (first | (at_builtin; refine wpList_append_own _ rfl (.tmp 39) (.tmp 44) 25 rfl (w.heap.size + 1) 32 i0 (.agg #[.int .i64 0, .int .i64 0]) 2 16 Try.underlying25 hi hz0 hz1 hz2 rfl (by decide) _ _ _ rfl (ho'.alloc _) ⟨wr.heap.size, 0, none⟩ 1 1 [.int .i64 p, .int .i64 q] rfl rfl (cell_two_new _ _ _ _) (row_one _ _) (by unfold maxLen; omega) (by omega) (by simp; omega) ?_; intro v4 w4 hown4 hgrow4 _))
          obtain ⟨⟨A4, c4, hv4, ho4⟩, hv5, hb5⟩ := put_step (x := (p, q)) ho' hv.out HB.out hown4 rfl hgrow4
          clear hown4 hgrow4 ho' v0 v1
          go_roundw
          case rel => exact ⟨k + 1, false, _, A4, c4, by omega, by go_num, rfl, hv4, hide ho4, hP, hide hv5, hb5⟩
          case measure => simp [intOf]; omega
        · have hP := hide (hp.out.hit HA.out hkl HX.out h3)
          have hd1 : decide (t ≤ p) = true := decide_eq_true (by omega)
          have hd2 : (p != t) = false := bne_eq_false_iff_eq.2 h3
          clear hp h3
          go_wp2
          go_quiet (fail)
          go_wp2_with (first | (at_builtin; refine wpList_append_own _ rfl (.tmp 27) (.tmp 29) 25 rfl (w.heap.size + 1) 32 i0 (.agg #[.int .i64 0, .int .i64 0]) 2 16 Try.underlying25 hi hz0 hz1 hz2 rfl (by decide) _ _ _ rfl (ho'.alloc _) ⟨wr.heap.size, 0, none⟩ 1 1 [.int .i64 t, .int .i64 v] rfl rfl (cell_two_new _ _ _ _) (row_one _ _) (by unfold maxLen; omega) (by omega) (by simp; omega) ?_; intro v4 w4 hown4 hgrow4 _))
          obtain ⟨⟨A4, c4, hv4, ho4⟩, hv5, hb5⟩ := put_step (x := (t, v)) ho' hv.out HB.out hown4 rfl hgrow4
          have v05 : w4.cell? ⟨w.heap.size, 0, none⟩ = some (.int .i64 t) := by rw [cell_of_row _ _ _ _ _ _ hv5]; rfl
          have c15 : w4.cell? ⟨b, off + k * 2, none⟩ = some (.int .i64 p) := by
            have h1 := HB.out.cell (p := ⟨b, off + k * 2, none⟩) hb
            rw [hb5.cell (p := ⟨b, off + k * 2, none⟩) hb, ← h1]; exact c1
          have V4 := hide hv4
          clear hown4 hgrow4 ho' v0 v1 hv4 c1 c2
          go_wp2
          go_quiet (fail)
          go_wp2
          go_roundw
          case rel => exact ⟨k + 1, true, _, A4, c4, by omega, by go_num, rfl, V4.out, hide ho4, hP, hide hv5, below_drewN hb5 _⟩
          case measure => simp [intOf]; omega
        · have hP := hide (hp.out.mid HA.out hkl HX.out h3)
          have hd1 : decide (t ≤ p) = true := decide_eq_true (by omega)
          have hd2 : (p != t) = true := bne_iff_ne.2 (by omega)
          clear hp
          go_wp2
          go_quiet (fail)
          go_wp2_with (first | (at_builtin; refine wpList_append_own _ rfl (.tmp 27) (.tmp 29) 25 rfl (w.heap.size + 1) 32 i0 (.agg #[.int .i64 0, .int .i64 0]) 2 16 Try.underlying25 hi hz0 hz1 hz2 rfl (by decide) _ _ _ rfl (ho'.alloc _) ⟨wr.heap.size, 0, none⟩ 1 1 [.int .i64 t, .int .i64 v] rfl rfl (cell_two_new _ _ _ _) (row_one _ _) (by unfold maxLen; omega) (by omega) (by simp; omega) ?_; intro v4 w4 hown4 hgrow4 _))
          obtain ⟨⟨A4, c4, hv4, ho4⟩, hv5, hb5⟩ := put_step (x := (t, v)) ho' hv.out HB.out hown4 rfl hgrow4
          have v05 : w4.cell? ⟨w.heap.size, 0, none⟩ = some (.int .i64 t) := by rw [cell_of_row _ _ _ _ _ _ hv5]; rfl
          have hcell : ∀ j, w4.cell? ⟨b, j, none⟩ = wr.cell? ⟨b, j, none⟩ := fun j => by
            rw [hb5.cell (p := ⟨b, j, none⟩) hb, ← HB.out.cell (p := ⟨b, j, none⟩) hb]
          have c15 := (hcell _).trans c1
          have c25 := (hcell _).trans c2
          have hs5 := hb5.size
          have hlt5 : w.heap.size < w4.heap.size := World.block_lt_of_cell? _ _ v05
          rw [hv4]
          have HB5 := hide hb5
          have HV5 := hide hv5
          have hl5 : (out ++ [(t, v)]).length ≤ k + 2 := by simp; omega
          clear hown4 hgrow4 ho' v0 v1 hv4 c1 c2 hcell ho hv HB hsz hlt0 hb5 hv5
          go_wp2
          go_quiet (fail)
          go_wp2_with (first | (at_builtin; refine wpList_append_own _ rfl (.tmp 39) (.tmp 44) 25 rfl (w.heap.size + 1) 32 i0 (.agg #[.int .i64 0, .int .i64 0]) 2 16 Try.underlying25 hi hz0 hz1 hz2 rfl (by decide) _ _ _ rfl (ho4.alloc _) ⟨w4.heap.size, 0, none⟩ 1 1 [.int .i64 p, .int .i64 q] rfl rfl (cell_two_new _ _ _ _) (row_one _ _) (by unfold maxLen; omega) (by omega) (by simp; omega) ?_; intro v6 w6 hown6 hgrow6 _))
          obtain ⟨⟨A6, c6, hv6, ho6⟩, hv7, hb7⟩ := put_step (x := (p, q)) ho4 HV5.out HB5.out hown6 rfl hgrow6
          have V6 := hide hv6
          clear hown6 hgrow6 ho4 hv6
          go_roundw
          case rel => exact ⟨k + 1, true, _, A6, c6, by omega, by go_num, rfl, V6.out, hide ho6, hP, hide hv7, hb7⟩
          case measure => simp [intOf]; omega
      · obtain ⟨h3, hP'⟩ := hp.out.high hkl HX.out
        have hP := hide hP'
        simp only at h3
        have hd2 : (p != t) = true := bne_iff_ne.2 (by omega)
        clear hp hP'
        go_wp2
        go_quiet (fail)
        go_wp2
        go_quiet (fail)
        go_wp2_with (first | (at_builtin; refine wpList_append_own _ rfl (.tmp 39) (.tmp 44) 25 rfl (w.heap.size + 1) 32 i0 (.agg #[.int .i64 0, .int .i64 0]) 2 16 Try.underlying25 hi hz0 hz1 hz2 rfl (by decide) _ _ _ rfl (ho'.alloc _) ⟨wr.heap.size, 0, none⟩ 1 1 [.int .i64 p, .int .i64 q] rfl rfl (cell_two_new _ _ _ _) (row_one _ _) (by unfold maxLen; omega) (by omega) (by simp; omega) ?_; intro v4 w4 hown4 hgrow4 _))
        obtain ⟨⟨A4, c4, hv4, ho4⟩, hv5, hb5⟩ := put_step (x := (p, q)) ho' hv.out HB.out hown4 rfl hgrow4
        clear hown4 hgrow4 ho' v0 v1
        go_roundw
        case rel => exact ⟨k + 1, true, _, A4, c4, by omega, by go_num, rfl, hv4, hide ho4, hP, hide hv5, hb5⟩
        case measure => simp [intOf]; omega
    · cases f
      · have hd := hide (hp.out.last (by rw [HL.out]; omega))
        clear hp
        go_wp2_with (first | (at_builtin; refine wpList_append_own _ rfl (.tmp 48) (.tmp 50) 25 rfl (w.heap.size + 1) 32 i0 (.agg #[.int .i64 0, .int .i64 0]) 2 16 Try.underlying25 hi hz0 hz1 hz2 rfl (by decide) _ _ _ rfl (ho'.alloc _) ⟨wr.heap.size, 0, none⟩ 1 1 [.int .i64 t, .int .i64 v] rfl rfl (cell_two_new _ _ _ _) (row_one _ _) (by unfold maxLen; omega) (by omega) (by simp; omega) ?_; intro v4 w4 hown4 hgrow4 _))
        obtain ⟨⟨A4, c4, hv4, ho4⟩, hv5, hb5⟩ := put_step (x := (t, v)) (nd := 0) ho' hv.out HB.out hown4 rfl hgrow4
        have V4 := hide hv4
        clear hown4 hgrow4 hv4
        go_ret
        rw [hd.out] at ho4 V4
        exact ⟨A4, c4, congrArg Ending.returned V4.out, own_base ho4 (by omega), hb5⟩
      · have hd := hide (hp.out.end_ (by rw [HL.out]; omega))
        clear hp
        go_wp2
        go_ret
        rw [hd.out] at ho'
        exact ⟨A', c', congrArg (fun l : List PB.Row => Ending.returned (.slice A' l.length c')) hd.out, own_base ho' (by omega), HB.out⟩

end Go.Proofs.Ytlalldjlgaldeaa
