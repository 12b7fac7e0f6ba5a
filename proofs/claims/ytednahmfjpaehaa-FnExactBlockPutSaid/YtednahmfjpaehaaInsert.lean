/-
  WALKS: slices.Insert of one row, on a row of the call's own: at the end; with room; without.
-/
import Derived.Test.YtednahmfjpaehaaPutSpec
import Derived.Test.YtednahmfjpaehaaOwnCopy
import Derived.Lib.AppendZerosOnto
import Derived.Lib.Overlaps
namespace Go.Proofs.Ytednahmfjpaehaa
set_option linter.unusedVariables false
set_option linter.unusedSimpArgs false
open Go.RowKit

section
variable {P : Program} (w : World)
theorem wpList_append_eq {o : Oper} {ops : Array Oper} {rest : List Oper} {a : Act} {Q : Exit → Act → World → Prop} (hgd : o.guard = none) (d s : Operand) (t t' : TypeId)
    (ho : o.op = .call { callee := .builtin .append, args := #[d, s], argTypes := #[t, t'] }) (v u : Value) (hd : a.eval d = v) (hs : a.eval s = u) {v' : Value} {w' : World}
    (hr : (Builtin.append_ #[t, t'] o.type #[v, u]).run P w = .ok v' w') (h : wpList P ops Q rest (a.put o.dst v') w') : wpList P ops Q (o :: rest) a w := by
  refine wpList_plain hgd fun _ hK => ?_
  unfold Oper.wp execOp
  simp only [ho, resolve, invoke, builtin, Sem.run_bind, Sem.run_pure, Result.andThen_ok, List.map_toArray, List.map_cons, List.map_nil, hd, hs, hr]
  exact hK _ _ h
end

theorem over_shift {L : List Value} {l : List PB.Row} {i n : Nat} (hl : l.length = n) (hi : i < n) (ht : L.take (n * 2) = rows l) (hL : (n + 1) * 2 ≤ L.length) (t v : Int) :
    (over (over L ((i + 1) * 2) (rows (l.drop i))) (i * 2) [.int .i64 t, .int .i64 v]).take ((n + 1) * 2) = rows (l.take i ++ (t, v) :: l.drop i) := by
  have hD : (rows (l.drop i)).length = (n - i) * 2 := by rw [rows_len]; simp; omega
  have h0 : L.take (i * 2) = rows (l.take i) := by
    have h1 : L.take (i * 2) = (L.take (n * 2)).take (i * 2) := by rw [List.take_take]; congr 1; omega
    have h2 : rows l = rows (l.take i) ++ rows (l.drop i) := by rw [← rows_append, List.take_append_drop]
    have h3 : (rows (l.take i)).length = i * 2 := by rw [rows_len]; simp; omega
    rw [h1, ht, h2, List.take_append_of_le_length (by omega), List.take_of_length_le (by omega)]
  have h4 : (rows (l.take i)).length = i * 2 := by rw [rows_len]; simp; omega
  have h5 : (L.take ((i + 1) * 2)).length = (i + 1) * 2 := by simp; omega
  have hM1 : (over L ((i + 1) * 2) (rows (l.drop i))).take (i * 2) = L.take (i * 2) := by
    unfold over
    rw [List.append_assoc, List.take_append_of_le_length (by omega), List.take_take]
    congr 1; omega
  have hM2 : (over L ((i + 1) * 2) (rows (l.drop i))).drop (i * 2 + 2) = rows (l.drop i) ++ L.drop ((i + 1) * 2 + (rows (l.drop i)).length) := by
    unfold over
    rw [List.append_assoc, List.drop_append_of_le_length (by omega), List.drop_of_length_le (by omega), List.nil_append]
  rw [over, hM1, h0]
  have : (i * 2 + [Value.int .i64 t, Value.int .i64 v].length) = i * 2 + 2 := rfl
  rw [this, hM2, rows_append]
  have h6 : rows ((t, v) :: l.drop i) = [.int .i64 t, .int .i64 v] ++ rows (l.drop i) := by simp [rows]
  rw [h6, ← List.append_assoc, ← List.append_assoc, List.take_append_of_le_length (by simp [h4, hD]; omega), List.take_of_length_le (by simp [h4, hD]; omega)]
theorem over_grow {R : List Value} {l : List PB.Row} {i n : Nat} (hl : l.length = n) (hi : i < n) (h0 : R.take (i * 2) = rows (l.take i)) (hR : (n + 1) * 2 ≤ R.length) (t v : Int) :
    (over (over R (i * 2) [.int .i64 t, .int .i64 v]) ((i + 1) * 2) (rows (l.drop i))).take ((n + 1) * 2) = rows (l.take i ++ (t, v) :: l.drop i) := by
  have hD : (rows (l.drop i)).length = (n - i) * 2 := by rw [rows_len]; simp; omega
  have h4 : (rows (l.take i)).length = i * 2 := by rw [rows_len]; simp; omega
  have hM : (over R (i * 2) [.int .i64 t, .int .i64 v]).take ((i + 1) * 2) = rows (l.take i) ++ [.int .i64 t, .int .i64 v] := by
    unfold over
    rw [h0, List.take_append_of_le_length (by simp [h4]; omega), List.take_of_length_le (by simp [h4]; omega)]
  have h6 : rows ((t, v) :: l.drop i) = [.int .i64 t, .int .i64 v] ++ rows (l.drop i) := by simp [rows]
  rw [over, hM, rows_append, h6, ← List.append_assoc, List.take_append_of_le_length (by simp [h4, hD]; omega), List.take_of_length_le (by simp [h4, hD]; omega)]

theorem Cells.rd {w : World} {g n : Nat} {e : TypeId} {L xs : List Value} (h : Cells w g e L) (hx : L.take (n * 2) = xs) (hn : xs.length = n * 2) : ∀ j v, xs[j]? = some v → w.cell? ⟨g, j, none⟩ = some v := by
  intro j v hj
  rw [h.cell]
  have hlt := (List.getElem?_eq_some_iff.1 hj).1
  rw [← hx, List.getElem?_take, if_pos (by omega)] at hj
  exact hj

/-- Writing into a block that was made. -/
theorem grown_new {a b c : World} (h : a.grownBy b none) (k : b.grownBy c (some a.heap.size)) : a.grownBy c none :=
  ⟨k.os.trans h.os, k.tape.trans h.tape, k.output.trans h.output, Nat.le_trans h.size k.size, fun i hi hne => (k.block i (Nat.lt_of_lt_of_le hi h.size) (by intro e; injection e with e; omega)).trans (h.block i hi hne)⟩
/-- What an insertion leaves. -/
def Inserted (base : Nat) (row : Option Nat) (w : World) (n : Nat) (l : List PB.Row) (e : Ending) (w' : World) : Prop :=
  ∃ A c, e = .returned (.slice A (n + 1) c) ∧ w'.ownsRow base 30 2 (.slice A (n + 1) c) (n + 1) (rows l) ∧ w.grownBy w' row
theorem grown_any {a b : World} (row : Option Nat) (h : a.grownBy b none) : a.grownBy b row := ⟨h.os, h.tape, h.output, h.size, fun k hk _ => h.block k hk (by simp)⟩

set_option maxRecDepth 100000 in
set_option maxHeartbeats 1600000 in
theorem insert_end (g n c : Nat) (l : List PB.Row) (t v : Int) (base vb : Nat) (w : World) (ho : w.ownsRow base 30 2 (.slice (some ⟨g, 0, none⟩) n c) n (rows l)) (hl : l.length = n) (hv : Cells w vb 30 [.int .i64 t, .int .i64 v]) (hn : n ≤ 1000000) (hnc : n ≤ c) (hb : base ≤ w.heap.size) :
    Calls Try.prog 41 #[.slice (some ⟨g, 0, none⟩) n c, .int .i64 n, .slice (some ⟨vb, 0, none⟩) 1 1] w (Inserted base (some g) w n (l ++ [(t, v)])) := by
  obtain ⟨i0, hi_, hz0, hz1, hz2⟩ := info_parts info_row
  have R : Hid (Rd w (vb + 1) 2 (some ⟨vb, 0, none⟩) 1 [.int .i64 t, .int .i64 v]) := hide ⟨rfl, fun _ => ⟨vb, 0, rfl, Nat.lt_succ_self _, fun j u hu => by rw [Nat.zero_add, hv.cell]; exact hu⟩⟩
  have HO := hide ho
  obtain ⟨A2, hA2⟩ : ∃ A2, (if c = n then some ⟨g, 0, none⟩ else some ⟨g, n * 2, none⟩ : Option Addr) = A2 := ⟨_, rfl⟩
  clear hv ho
  have e4 : Hid (rows l ++ [.int .i64 t, .int .i64 v] = rows (l ++ [(t, v)])) := hide (by rw [rows_append]; rfl)
  go_enter Try.func41, Try.ntmps41
  go_wp2_with (first | (at_builtin; refine wpList_append_rd _ rfl (.tmp 23) (.tmp 24) 26 rfl base 30 i0 (.agg #[.int .i64 0, .int .i64 0]) 2 16 Try.underlying26 hi_ hz0 hz1 hz2 rfl (by decide) _ _ _ rfl HO.out (vb + 1) _ _ _ [.int .i64 t, .int .i64 v] rfl R.out (row_one _ _) (by unfold maxLen; omega) (by omega) hb ?_; intro v4 w4 o4 b4; obtain ⟨A4, c4, rfl, _⟩ := own_shape o4))
  rw [e4.out] at o4
  have F := hide (⟨A4, c4, rfl, o4, b4⟩ : Inserted base (some g) w n (l ++ [(t, v)]) (.returned (.slice A4 (n + 1) c4)) w4)
  clear o4 b4 e4
  go_wp2
  go_ret
  exact F.out

set_option maxRecDepth 100000 in
set_option maxHeartbeats 1600000 in
theorem insert_nil (l : List PB.Row) (t v : Int) (base vb : Nat) (w : World) (ho : w.ownsRow base 30 2 (.slice none 0 0) 0 (rows l)) (hl : l.length = 0) (hv : Cells w vb 30 [.int .i64 t, .int .i64 v]) (hn : 0 ≤ 1000000) (hnc : 0 ≤ 0) (hb : base ≤ w.heap.size) :
    Calls Try.prog 41 #[.slice none 0 0, .int .i64 0, .slice (some ⟨vb, 0, none⟩) 1 1] w (Inserted base none w 0 (l ++ [(t, v)])) := by
  obtain ⟨i0, hi_, hz0, hz1, hz2⟩ := info_parts info_row
  have R : Hid (Rd w (vb + 1) 2 (some ⟨vb, 0, none⟩) 1 [.int .i64 t, .int .i64 v]) := hide ⟨rfl, fun _ => ⟨vb, 0, rfl, Nat.lt_succ_self _, fun j u hu => by rw [Nat.zero_add, hv.cell]; exact hu⟩⟩
  have HO := hide ho
  clear hv ho
  have e4 : Hid (rows l ++ [.int .i64 t, .int .i64 v] = rows (l ++ [(t, v)])) := hide (by rw [rows_append]; rfl)
  go_enter Try.func41, Try.ntmps41
  go_wp2_with (first | (at_builtin; refine wpList_append_rd _ rfl (.tmp 23) (.tmp 24) 26 rfl base 30 i0 (.agg #[.int .i64 0, .int .i64 0]) 2 16 Try.underlying26 hi_ hz0 hz1 hz2 rfl (by decide) _ _ _ rfl HO.out (vb + 1) _ _ _ [.int .i64 t, .int .i64 v] rfl R.out (row_one _ _) (by unfold maxLen; omega) (by omega) hb ?_; intro v4 w4 o4 b4; obtain ⟨A4, c4, rfl, _⟩ := own_shape o4))
  rw [e4.out] at o4
  have F := hide (⟨A4, c4, rfl, o4, b4⟩ : Inserted base none w 0 (l ++ [(t, v)]) (.returned (.slice A4 (0 + 1) c4)) w4)
  clear o4 b4 e4
  go_wp2
  go_ret
  exact F.out

set_option maxRecDepth 100000 in
set_option maxHeartbeats 3200000 in
theorem insert_shift (g n c i vb : Nat) (L : List Value) (l : List PB.Row) (t v : Int) (w : World) (hL : Cells w g 30 L) (hLl : L.length = c * 2) (ht : L.take (n * 2) = rows l) (hl : l.length = n) (hi : i < n) (hroom : n + 1 ≤ c) (hc : c ≤ maxLen) (hn : n ≤ 1000000)
    (hv : Cells w vb 30 [.int .i64 t, .int .i64 v]) (hne : vb ≠ g) :
    Calls Try.prog 41 #[.slice (some ⟨g, 0, none⟩) n c, .int .i64 i, .slice (some ⟨vb, 0, none⟩) 1 1] w fun e w' =>
      e = .returned (.slice (some ⟨g, 0, none⟩) (n + 1) c) ∧ ∃ L', Cells w' g 30 L' ∧ L'.length = c * 2 ∧ L'.take ((n + 1) * 2) = rows (l.take i ++ (t, v) :: l.drop i) ∧ w.grownBy w' (some g) := by
  obtain ⟨i0, hi_, hz0, hz1, hz2⟩ := info_parts info_row
  unfold maxLen at hc
  have hD : (rows (l.drop i)).length = (n - i) * 2 := by rw [rows_len]; simp; omega
  have hrl : (rows l).length = n * 2 := by rw [rows_len, hl]
  have hov : ∀ lb cb, (callFunc 42 #[.slice (some ⟨vb, 0, none⟩) 1 1, .slice (some ⟨g, (i + 1) * 2, none⟩) lb cb]).run Try.prog w = .ok (.value (.bool false)) w := fun lb cb => by
    obtain ⟨cv, hv1, hv2⟩ := hv
    obtain ⟨cg, hg1, hg2⟩ := hL
    have hcv : cv.size = 2 := by rw [← Array.length_toList, hv2]; rfl
    have hcg : cg.size = c * 2 := by rw [← Array.length_toList, hg2]; exact hLl
    rw [run_callFunc_extern Try.func42 (by kernel_rfl) (by kernel_rfl) (by kernel_rfl) (e := Extern.SlicesOverlaps.overlaps #[26, 26] #[4]) (by kernel_rfl),
      Lib.run_overlaps_apart w 26 4 30 Try.underlying26 2 (fun w => by simp [sizeOf, typeInfo, hi_, hz1]) ⟨vb, 0, none⟩ ⟨g, (i + 1) * 2, none⟩ 1 1 lb cb hne 30 30 2 (c * 2) (by simp [World.shape?, hv1, hcv]) (by simp [World.shape?, hg1, hcg]) (by omega) (frozen_of_row w vb 0 cv _ hv1) (frozen_of_row w vb 2 cv _ hv1)]
    rfl
  obtain ⟨W1, hW1⟩ : ∃ W1, W1 = w.drew.setCells g ((i + 1) * 2) (rows (l.drop i)) := ⟨_, rfl⟩
  have hS1 := Cells.sets (rows (l.drop i)) (o := (i + 1) * 2) hL.drew (by rw [hD, hLl]; omega)
  rw [← hW1] at hS1
  have hmin1 : Nat.min (n + 1 - i) (n + 1 - (i + 1)) = n - i := by simp only [Nat.min_def]; split <;> omega
  have hcp1 : ∀ ty dc sc, (Builtin.copy_ #[26, 26] ty #[.slice (some ⟨g, (i + 1) * 2, none⟩) (n + 1 - (i + 1)) dc, .slice (some ⟨g, i * 2, none⟩) (n + 1 - i) sc]).run Try.prog w.drew = .ok (goInt (Nat.min (n + 1 - i) (n + 1 - (i + 1)))) W1 := fun ty dc sc => by
    rw [hW1]
    exact run_copy_size w.drew _ _ ty 30 i0 2 g ((i + 1) * 2) (n + 1 - (i + 1)) dc ⟨g, i * 2, none⟩ (n + 1 - i) sc (rows (l.drop i)) Try.underlying26 hi_ hz1 (by rw [hmin1, hD])
      (fun j u hj => by
        rw [Addr.add_lit]
        refine Cells.rd hL.drew ht hrl _ _ ?_
        have h2 : rows l = rows (l.take i) ++ rows (l.drop i) := by rw [← rows_append, List.take_append_drop]
        have h3 : (rows (l.take i)).length = i * 2 := by rw [rows_len]; simp; omega
        rw [h2, List.getElem?_append_right (by omega), h3, Nat.add_sub_cancel_left]
        exact hj)
      (fun j hj => Cells.has hL.drew (by rw [hD] at hj; rw [hLl]; omega)) (fun j hj => Cells.free hL.drew _) rows_one
  have hv1 : Cells W1 vb 30 [.int .i64 t, .int .i64 v] := hv.drew.grown hS1.2 (by intro e; injection e with e; exact hne e.symm)
  obtain ⟨W2, hW2⟩ : ∃ W2, W2 = W1.setCells g (i * 2) [.int .i64 t, .int .i64 v] := ⟨_, rfl⟩
  have hoL : (over L ((i + 1) * 2) (rows (l.drop i))).length = c * 2 := by rw [over_len (by rw [hD, hLl]; omega), hLl]
  have hS2 := Cells.sets [.int .i64 t, .int .i64 v] (o := i * 2) hS1.1 (by rw [hoL]; simp; omega)
  rw [← hW2] at hS2
  have hmin2 : Nat.min 1 (n + 1 - i) = 1 := by simp only [Nat.min_def]; split <;> omega
  have hcp2 : ∀ ty dc, (Builtin.copy_ #[26, 26] ty #[.slice (some ⟨g, i * 2, none⟩) (n + 1 - i) dc, .slice (some ⟨vb, 0, none⟩) 1 1]).run Try.prog W1 = .ok (goInt (Nat.min 1 (n + 1 - i))) W2 := fun ty dc => by
    rw [hW2]
    exact run_copy_size W1 _ _ ty 30 i0 2 g (i * 2) (n + 1 - i) dc ⟨vb, 0, none⟩ 1 1 [.int .i64 t, .int .i64 v] Try.underlying26 hi_ hz1 (by rw [hmin2]; rfl)
      (fun j u hj => by rw [Addr.add_lit, Nat.zero_add, hv1.cell]; exact hj)
      (fun j hj => Cells.has hS1.1 (by rw [hoL]; simp at hj; omega)) (fun j hj => Cells.free hS1.1 _) (row_one _ _)
  have F := hide (⟨rfl, _, hS2.1, by rw [over_len (by rw [hoL]; simp; omega), hoL], over_shift hl hi ht (by rw [hLl]; omega) t v, grown_trans (grown_drew (⟨rfl, rfl, rfl, Nat.le_refl _, fun _ _ _ => rfl⟩ : w.grownBy w (some g))) (grown_trans hS1.2 hS2.2)⟩ :
    (Ending.returned (.slice (some ⟨g, 0, none⟩) (n + 1) c)) = .returned (.slice (some ⟨g, 0, none⟩) (n + 1) c) ∧ ∃ L', Cells W2 g 30 L' ∧ L'.length = c * 2 ∧ L'.take ((n + 1) * 2) = rows (l.take i ++ (t, v) :: l.drop i) ∧ w.grownBy W2 (some g))
  clear hL ht hl hv hS1 hv1 hS2 hoL hD hrl hW1 hW2
  have H1 := hide hcp1
  have H2 := hide hcp2
  have hw1 : IntKind.i64.wrap ((i : Int) + 1) = (i : Int) + 1 := IntWalk.i64_in _ (by omega)
  have hw2 : ((i : Int) + 1).toNat = i + 1 := by omega
  have hz2 : ¬ ((i : Int) = (n : Int)) := by omega
  have hb1 : (0 : Int) ≤ (i : Int) + 1 := by omega
  have hb2 : ¬ (c = i + 1) := by omega
  have hb4 : ¬ (c = i) := by omega
  have hin : i ≤ n := by omega
  have hb3 : (i : Int) ≤ (n : Int) + 1 := by omega
  have hb5 : (i : Int) + 1 ≤ (n : Int) + 1 := by omega
  clear hcp1 hcp2
  go_enter Try.func41, Try.ntmps41
  go_wp2_with (simp only [hov])
  go_region_law (refine step_copy_eq rfl (.tmp 73) (.tmp 76) 26 26 rfl (.slice (some ⟨g, (i + 1) * 2, none⟩) (n + 1 - (i + 1)) (c - (i + 1))) (.slice (some ⟨g, i * 2, none⟩) (n + 1 - i) (c - i)) (by simp [Act.eval, Act.put]) (by simp [Act.eval, Act.put]) (H1.out _ _ _) ?_)
  all_goals (have H2' := H2.out; go_wp2_with (simp only [H2']))
  all_goals (go_ret; exact ⟨rfl, F.out.2⟩)

theorem zero_len (n : Nat) : (Builtin.zeroCells (Value.agg #[.int .i64 0, .int .i64 0]).cells n).size = n * 2 := by simp [Builtin.zeroCells, Value.cells]

set_option maxRecDepth 100000 in
set_option maxHeartbeats 3200000 in
theorem insert_grow (g n c i vb base : Nat) (L : List Value) (l : List PB.Row) (t v : Int) (w : World) (hL : Cells w g 30 L) (hLl : L.length = c * 2) (ht : L.take (n * 2) = rows l) (hl : l.length = n) (hi : i < n) (hnc : n ≤ c) (hroom : c < n + 1) (hn : n ≤ 1000000)
    (hv : Cells w vb 30 [.int .i64 t, .int .i64 v]) (hb : base ≤ w.heap.size) :
    Calls Try.prog 41 #[.slice (some ⟨g, 0, none⟩) n c, .int .i64 i, .slice (some ⟨vb, 0, none⟩) 1 1] w (Inserted base (some g) w n (l.take i ++ (t, v) :: l.drop i)) := by
  obtain ⟨i0, hi_, hz0, hz1, hz2⟩ := info_parts info_row
  have hcn : c = n := by omega
  subst hcn
  have hD : (rows (l.drop i)).length = (c - i) * 2 := by rw [rows_len]; simp; omega
  have hrl : (rows l).length = c * 2 := by rw [rows_len, hl]
  have h4 : (rows (l.take i)).length = i * 2 := by rw [rows_len]; simp; omega
  have hgw := hL.lt
  have hvw := hv.lt
  have hold : (Builtin.firstCells i0.size i (.slice (some ⟨g, 0, none⟩) i c)).run Try.prog w.drew = .ok (rows (l.take i)).toArray w.drew := by
    rw [hz1]
    refine run_firstCells_some w.drew 2 i ⟨g, 0, none⟩ i c (rows (l.take i)) h4 (fun j u hj => ?_)
    rw [Addr.add_lit, Nat.zero_add]
    refine Cells.rd hL.drew ht hrl _ _ ?_
    have h2 : rows l = rows (l.take i) ++ rows (l.drop i) := by rw [← rows_append, List.take_append_drop]
    rw [h2, List.getElem?_append_left (List.getElem?_eq_some_iff.1 hj).1]
    exact hj
  have hkk : (c : Int) + 1 - (i : Int) = ((c + 1 - i : Nat) : Int) := by omega
  have hik : i + (c + 1 - i) = c + 1 := by omega
  obtain ⟨G, hG⟩ : ∃ G, G = grownCap w (c + 1) c 30 := ⟨_, rfl⟩
  have hG1 : c + 1 ≤ G := by rw [hG]; exact grownCap_ge w _ _ _
  have hG2 : G ≤ maxLen := by rw [hG]; exact grownCap_le_maxLen w (c + 1) c _ (by unfold maxLen; omega)
  obtain ⟨ROW, hROW⟩ : ∃ ROW : Array Value, ROW = (rows (l.take i)).toArray ++ Builtin.zeroCells (Value.agg #[.int .i64 0, .int .i64 0]).cells (c + 1 - i) ++ Builtin.zeroCells (Value.agg #[.int .i64 0, .int .i64 0]).cells (G - (c + 1)) := ⟨_, rfl⟩
  obtain ⟨W1, hW1⟩ : ∃ W1, W1 = w.drew.alloc (.cells ROW 30) := ⟨_, rfl⟩
  have hrz : ∀ ty, (Builtin.append_ #[26, 3] ty #[.slice (some ⟨g, 0, none⟩) i c, .int .i64 ((c : Int) + 1 - (i : Int))]).run Try.prog w = .ok (.slice (some ⟨w.heap.size, 0, none⟩) (c + 1) G) W1 := fun ty => by
    have h := Lib.run_append_grow_zeros w 26 3 ty 30 i0 _ .i64 .i64 Try.underlying26 Try.underlying3 hi_ hz0 (some ⟨g, 0, none⟩) i c (rows (l.take i)) hold (c + 1 - i) (by omega) (by omega) (by omega) (by omega) (by rw [hz2]; omega) (by rw [hz2, hik]; exact growslice_fits (by omega) (by omega))
    rw [hik, ← hG, ← hROW, ← hW1] at h
    rw [hkk]
    exact h
  have hRL : ROW.toList.length = G * 2 := by rw [hROW]; simp [zero_len, h4]; omega
  have hRt : ROW.toList.take (i * 2) = rows (l.take i) := by
    rw [hROW]; simp only [Array.toList_append, List.append_assoc]
    rw [List.take_append_of_le_length (by simp [h4]), List.take_of_length_le (by simp [h4])]
  have hN : Cells W1 w.heap.size 30 ROW.toList := by rw [hW1]; exact Cells.new w.drew ROW _
  have hg1 : w.grownBy W1 none := by rw [hW1]; exact grown_trans (grown_drew (⟨rfl, rfl, rfl, Nat.le_refl _, fun _ _ _ => rfl⟩ : w.grownBy w none)) (World.grownBy_alloc w.drew _ none)
  have hL1 : Cells W1 g 30 L := hL.grown hg1 (by simp)
  have hv1 : Cells W1 vb 30 [.int .i64 t, .int .i64 v] := hv.grown hg1 (by simp)
  obtain ⟨W2, hW2⟩ : ∃ W2, W2 = W1.setCells w.heap.size (i * 2) [.int .i64 t, .int .i64 v] := ⟨_, rfl⟩
  have hS2 := Cells.sets [.int .i64 t, .int .i64 v] (o := i * 2) hN (by rw [hRL]; simp; omega)
  rw [← hW2] at hS2
  have hmin2 : Nat.min 1 (c + 1 - i) = 1 := by simp only [Nat.min_def]; split <;> omega
  have hcp1 : ∀ ty dc, (Builtin.copy_ #[26, 26] ty #[.slice (some ⟨w.heap.size, i * 2, none⟩) (c + 1 - i) dc, .slice (some ⟨vb, 0, none⟩) 1 1]).run Try.prog W1 = .ok (goInt (Nat.min 1 (c + 1 - i))) W2 := fun ty dc => by
    rw [hW2]
    exact run_copy_size W1 _ _ ty 30 i0 2 w.heap.size (i * 2) (c + 1 - i) dc ⟨vb, 0, none⟩ 1 1 [.int .i64 t, .int .i64 v] Try.underlying26 hi_ hz1 (by rw [hmin2]; rfl)
      (fun j u hj => by rw [Addr.add_lit, Nat.zero_add, hv1.cell]; exact hj)
      (fun j hj => Cells.has hN (by rw [hRL]; simp at hj; omega)) (fun j hj => Cells.free hN _) (row_one _ _)
  have hL2 : Cells W2.drew g 30 L := (hL1.grown hS2.2 (by intro e; injection e with e; omega)).drew
  have hN2 : Cells W2.drew w.heap.size 30 (over ROW.toList (i * 2) [.int .i64 t, .int .i64 v]) := hS2.1.drew
  have hoL : (over ROW.toList (i * 2) [.int .i64 t, .int .i64 v]).length = G * 2 := by rw [over_len (by rw [hRL]; simp; omega), hRL]
  obtain ⟨W3, hW3⟩ : ∃ W3, W3 = W2.drew.setCells w.heap.size ((i + 1) * 2) (rows (l.drop i)) := ⟨_, rfl⟩
  have hS3 := Cells.sets (rows (l.drop i)) (o := (i + 1) * 2) hN2 (by rw [hoL, hD]; omega)
  rw [← hW3] at hS3
  have hmin1 : Nat.min (c - i) (c + 1 - (i + 1)) = c - i := by simp only [Nat.min_def]; split <;> omega
  have hcp2 : ∀ ty dc sc, (Builtin.copy_ #[26, 26] ty #[.slice (some ⟨w.heap.size, (i + 1) * 2, none⟩) (c + 1 - (i + 1)) dc, .slice (some ⟨g, i * 2, none⟩) (c - i) sc]).run Try.prog W2.drew = .ok (goInt (Nat.min (c - i) (c + 1 - (i + 1)))) W3 := fun ty dc sc => by
    rw [hW3]
    exact run_copy_size W2.drew _ _ ty 30 i0 2 w.heap.size ((i + 1) * 2) (c + 1 - (i + 1)) dc ⟨g, i * 2, none⟩ (c - i) sc (rows (l.drop i)) Try.underlying26 hi_ hz1 (by rw [hmin1, hD])
      (fun j u hj => by
        rw [Addr.add_lit]
        refine Cells.rd hL2 ht hrl _ _ ?_
        have h2 : rows l = rows (l.take i) ++ rows (l.drop i) := by rw [← rows_append, List.take_append_drop]
        rw [h2, List.getElem?_append_right (by omega), h4, Nat.add_sub_cancel_left]
        exact hj)
      (fun j hj => Cells.has hN2 (by rw [hD] at hj; rw [hoL]; omega)) (fun j hj => Cells.free hN2 _) rows_one
  have hbel : w.grownBy W3 (some g) := grown_any _ (grown_new hg1 (grown_trans (grown_drew hS2.2) hS3.2))
  have F := hide (⟨_, _, rfl, own_of_cells hS3.1 hb hG1 hG2 (by rw [over_len (by rw [hoL, hD]; omega), hoL]) (by rw [rows_len]; simp; omega) (over_grow hl hi hRt (by rw [hRL]; omega) t v), hbel⟩ : Inserted base (some g) w c (l.take i ++ (t, v) :: l.drop i) (.returned (.slice (some ⟨w.heap.size, 0, none⟩) (c + 1) G)) W3)
  unfold maxLen at hG2
  have H0 := hide hrz
  have H1 := hide hcp1
  have H2 := hide hcp2
  clear hL hLl ht hl hv hS2 hv1 hS3 hoL hD hrl hW1 hW2 hW3 hrz hcp1 hcp2 hN hN2 hL1 hL2 hold hROW hRL hRt h4 hbel hg1 hmin1 hmin2 hG hkk hik
  have hw1 : IntKind.i64.wrap ((i : Int) + 1) = (i : Int) + 1 := IntWalk.i64_in _ (by omega)
  have hw2 : ((i : Int) + 1).toNat = i + 1 := by omega
  have hz2 : ¬ ((i : Int) = (c : Int)) := by omega
  have hb1 : (0 : Int) ≤ (i : Int) + 1 := by omega
  have hb2 : ¬ (G = i + 1) := by omega
  have hb4 : ¬ (G = i) := by omega
  have hb6 : ¬ (c = i) := by omega
  have hin : i ≤ c := by omega
  have hb3 : (i : Int) ≤ (c : Int) := by omega
  have hb5 : (i : Int) + 1 ≤ (c : Int) + 1 := by omega
  have hb7 : (c : Int) < (c : Int) + 1 := by omega
  have hb8 : (i : Int) ≤ (c : Int) + 1 := by omega
  go_enter Try.func41, Try.ntmps41
  have H1' := H1.out
  go_wp2_with (first | (at_builtin; refine wpList_append_eq _ rfl (.tmp 34) (.tmp 39) 26 3 rfl (.slice (some ⟨g, 0, none⟩) i c) (.int .i64 ((c : Int) + 1 - (i : Int))) rfl rfl (H0.out _) ?_) | simp only [H1'])
  clear H1'
  go_region_law (refine step_copy_eq rfl (.tmp 50) (.tmp 53) 26 26 rfl (.slice (some ⟨w.heap.size, (i + 1) * 2, none⟩) (c + 1 - (i + 1)) (G - (i + 1))) (.slice (some ⟨g, i * 2, none⟩) (c - i) (c - i)) (by simp [Act.eval, Act.put]) (by simp [Act.eval, Act.put]) (H2.out _ _ _) ?_)
  all_goals (go_wp2; go_ret; exact F.out)

theorem insert_any (A : Option Addr) (n c i : Nat) (l : List PB.Row) (t v : Int) (base vb : Nat) (w : World) (ho : w.ownsRow base 30 2 (.slice A n c) n (rows l)) (hl : l.length = n) (hi : i ≤ n) (hv : Cells w vb 30 [.int .i64 t, .int .i64 v]) (hne : (Value.slice A n c).ownBlock ≠ some vb) (hn : n ≤ 1000000) (hb : base ≤ w.heap.size) :
    Calls Try.prog 41 #[.slice A n c, .int .i64 i, .slice (some ⟨vb, 0, none⟩) 1 1] w (Inserted base (Value.slice A n c).ownBlock w n (l.take i ++ (t, v) :: l.drop i)) := by
  rcases A with _ | a
  · have h0 : n = 0 ∧ c = 0 := by
      rcases ho.2 with ⟨h1, h2⟩ | ⟨g, cap, cur, h1, _⟩
      · injection h1 with _ h1 h2; exact ⟨h1, h2⟩
      · injection h1 with h1; cases h1
    obtain ⟨rfl, rfl⟩ := h0
    obtain rfl : i = 0 := by omega
    obtain rfl : l = [] := List.eq_nil_of_length_eq_zero hl
    exact insert_nil [] t v base vb w ho hl hv hn (Nat.le_refl _) hb
  · obtain ⟨g, L, h1, hbg, hC, hnc, hcm, hLl, ht⟩ := cells_of_own ho (by simp)
    injection h1 with h1
    subst h1
    have hvg : vb ≠ g := fun e => hne (by rw [e]; rfl)
    by_cases hin : i = n
    · subst hin
      have e1 : l.take i ++ (t, v) :: l.drop i = l ++ [(t, v)] := by rw [List.take_of_length_le (by omega), List.drop_of_length_le (by omega)]
      rw [e1]
      exact insert_end g i c l t v base vb w ho hl hv hn hnc hb
    · by_cases hroom : n + 1 ≤ c
      · refine (insert_shift g n c i vb L l t v w hC hLl ht hl (by omega) hroom hcm hn hv hvg).mono ?_
        rintro e w' ⟨rfl, L', hC', hL', ht', hg'⟩
        exact ⟨_, _, rfl, own_of_cells hC' hbg hroom hcm hL' (by rw [rows_len]; simp; omega) ht', hg'⟩
      · exact insert_grow g n c i vb base L l t v w hC hLl ht hl (by omega) hnc (by omega) hn hv hb

end Go.Proofs.Ytednahmfjpaehaa
