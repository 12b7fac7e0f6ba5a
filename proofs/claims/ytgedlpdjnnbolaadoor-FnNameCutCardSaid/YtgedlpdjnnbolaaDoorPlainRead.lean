/-
  PLAIN: a text of a name or of a filter is read back; no program in sight.
-/
import Derived.Test.YtgedlpdjnnbolaaDoorPlainText
import Derived.Lib.SplitLaws
namespace Go.Proofs.YtgedlpdjnnbolaaDoor.PT
set_option linter.unusedVariables false

theorem index_hit (x r : List UInt8) (c : UInt8) (h : c ∉ x) : Lib.index (x ++ c :: r) [c] = (x.length : Int) := by
  induction x with
  | nil => simp [Lib.index, List.isPrefixOf]
  | cons b l ih =>
    have h1 : b ≠ c := fun e => h (by simp [e])
    have h2 := ih (fun e => h (by simp [e]))
    have hp : ([c] : List UInt8).isPrefixOf (b :: (l ++ c :: r)) = false := by simp [List.isPrefixOf, Ne.symm h1]
    rw [List.cons_append, Lib.index, hp, h2]
    have : ((l.length : Int) == -1) = false := beq_eq_false_iff_ne.2 (by omega)
    simp [this]
theorem index_miss (x : List UInt8) (c : UInt8) (h : c ∉ x) : Lib.index x [c] = -1 := by
  induction x with
  | nil => rfl
  | cons b l ih =>
    have h1 : b ≠ c := fun e => h (by simp [e])
    have h2 := ih (fun e => h (by simp [e]))
    have hp : ([c] : List UInt8).isPrefixOf (b :: l) = false := by simp [List.isPrefixOf, Ne.symm h1]
    rw [Lib.index, hp, h2]; rfl
theorem split_hit (x r : List UInt8) (c : UInt8) (h : c ∉ x) : Lib.split (x ++ c :: r) [c] = x :: Lib.split r [c] := by
  unfold Lib.split
  have h1 : Lib.count (x ++ c :: r) [c] = Lib.count r [c] + 1 := by
    rw [Lib.count_one, Lib.count_one, List.count_append, List.count_eq_zero_of_not_mem h, List.count_cons_self]; omega
  rw [h1, Lib.splitK, index_hit x r c h]
  have : ((x.length : Int) == -1) = false := beq_eq_false_iff_ne.2 (by omega)
  rw [this]
  simp
theorem split_miss (x : List UInt8) (c : UInt8) (h : c ∉ x) : Lib.split x [c] = [x] := by
  unfold Lib.split
  rw [Lib.count_one, List.count_eq_zero_of_not_mem h]
  rfl
theorem cut_hit (x r : List UInt8) (c : UInt8) (h : c ∉ x) : Lib.cut (x ++ c :: r) [c] = (x, r, true) := by
  unfold Lib.cut
  rw [index_hit x r c h, if_pos (by omega)]
  simp
theorem split_len (l : List UInt8) : (Lib.split l [44]).length ≤ l.length + 1 := by
  have h1 := Lib.splitB_length_le ⟨#[44]⟩ 0 (Lib.count l [44]) ⟨l.toArray⟩
  have h2 := congrArg List.length (Lib.splitB_data ⟨#[44]⟩ 0 (Lib.count l [44]) ⟨l.toArray⟩)
  rw [List.length_map] at h2
  have h3 : (Lib.split l [44]).length = (Lib.splitB ⟨#[44]⟩ 0 (Lib.count l [44]) ⟨l.toArray⟩).length := h2.symm
  have h4 : Lib.count l [44] ≤ l.length := by rw [Lib.count_one]; exact List.count_le_length
  omega
/-- A word of a text of names. -/
def word (p : List UInt8) : Tag := ((Lib.cut p [61]).1, (Lib.cut p [61]).2.1)
def parse (l : List UInt8) : List Tag := (Lib.split l [44]).map word
theorem word_piece {t : Tag} (h : tagB t = true) : word (piece t) = t := by
  obtain ⟨a, b, rfl, h1, h2, h3, h4⟩ := tagB_iff.1 h
  have hn : (61 : UInt8) ∉ [a] := by
    intro e; simp at e; subst e; revert h1; decide
  unfold word piece
  have := cut_hit [a] [b] 61 hn
  rw [this]
theorem joinP_cons {α : Type} (p : α → List UInt8) (x y : α) (r : List α) : joinP p (x :: y :: r) = p x ++ 44 :: joinP p (y :: r) := by
  unfold joinP
  rw [List.map_cons, Lib.join_cons, List.map_cons, Lib.join_cons]
  simp [Lib.joinTail]
theorem joinP_one {α : Type} (p : α → List UInt8) (x : α) : joinP p [x] = p x := Lib.join_one _ _
theorem split_join {α : Type} (p : α → List UInt8) {l : List α} (h0 : l ≠ []) (h : ∀ x ∈ l, (44 : UInt8) ∉ p x) : Lib.split (joinP p l) [44] = l.map p := by
  induction l with
  | nil => exact absurd rfl h0
  | cons x r ih =>
    cases r with
    | nil => rw [joinP_one, split_miss _ _ (h x (by simp))]; rfl
    | cons y r =>
      rw [joinP_cons, split_hit _ _ _ (h x (by simp)), ih (by simp) (fun z hz => h z (by simp [hz]))]
      rfl
theorem piece_comma {t : Tag} (h : tagB t = true) : (44 : UInt8) ∉ piece t := by
  obtain ⟨a, b, rfl, h1, h2, h3, h4⟩ := tagB_iff.1 h
  intro e
  simp only [piece, List.singleton_append, List.mem_cons, List.not_mem_nil, or_false] at e
  rcases e with rfl | e | rfl
  · revert h1; decide
  · revert e; decide
  · revert h3; decide
theorem parse_join {n : List Tag} (h0 : n ≠ []) (h : ∀ t ∈ n, tagB t = true) : parse (joinP piece n) = n := by
  unfold parse
  rw [split_join piece h0 (fun t ht => piece_comma (h t ht)), List.map_map]
  conv => rhs; rw [← List.map_id n]
  exact List.map_congr_left fun t ht => word_piece (h t ht)
theorem join_length {n : List Tag} (h : ∀ t ∈ n, tagB t = true) (h0 : n ≠ []) : (joinP piece n).length + 1 = 4 * n.length := by
  induction n with
  | nil => exact absurd rfl h0
  | cons x r ih =>
    obtain ⟨h1, h2⟩ := tag_sizes (h x (by simp))
    have h3 : (piece x).length = 3 := by simp [piece]; omega
    cases r with
    | nil => rw [joinP_one]; simp; omega
    | cons y r =>
      have := ih (fun z hz => h z (by simp [hz])) (by simp)
      rw [joinP_cons, List.length_append, List.length_cons, h3]
      simp only [List.length_cons] at this ⊢
      omega
/-- What NameRead hands back. -/
def nameRead (l : List UInt8) : List Tag × Bool := if l = [] ∨ nameText (parse l) ≠ l then ([], false) else (parse l, true)
theorem nameB_ne {n : List Tag} (h : nameB n = true) : n ≠ [] := by
  intro e; subst e; cases h
theorem nameText_length {n : List Tag} (h : nameB n = true) : (joinP piece n).length + 1 = 4 * n.length := join_length (nameB_iff.1 h).1 (nameB_ne h)
theorem nameText_ne {n : List Tag} (h : nameB n = true) : joinP piece n ≠ [] := by
  intro e
  have := nameText_length h
  rw [e] at this
  have := (nameB_iff.1 h).2.2.1
  simp at *
  omega
theorem nameRead_back {n : List Tag} (h : nameB n = true) : nameRead (joinP piece n) = (n, true) := by
  have hp := parse_join (nameB_ne h) (nameB_iff.1 h).1
  unfold nameRead
  rw [hp, nameText_yes h]
  rw [if_neg]
  rintro (e | e)
  · exact nameText_ne h e
  · exact e rfl
/-- A text of another length is of no name. -/
theorem nameRead_not {l : List UInt8} (h : ∀ m, l.length + 1 ≠ 4 * m) : nameRead l = ([], false) := by
  unfold nameRead
  rw [if_pos]
  by_cases h0 : l = []
  · exact Or.inl h0
  · right
    intro e
    cases hb : nameB (parse l)
    · rw [nameText_no hb] at e; exact h0 e.symm
    · rw [nameText_yes hb] at e
      have := nameText_length hb
      rw [e] at this
      exact h _ this
theorem name_take {n : List Tag} (h : nameB n = true) (h2 : 2 ≤ n.length) : nameB (n.take (n.length - 1)) = true := by
  obtain ⟨h1, h3, h4, h5⟩ := nameB_iff.1 h
  refine nameB_iff.2 ⟨fun t ht => h1 t (List.mem_of_mem_take ht), h3.sublist (List.take_sublist _ _), ?_, ?_⟩ <;> simp <;> omega
theorem text_take {n : List Tag} (h : nameB n = true) (h2 : 2 ≤ n.length) : (joinP piece n).take ((joinP piece n).length - 4) = joinP piece (n.take (n.length - 1)) := by
  have hk : n.length - 1 < n.length := by omega
  have h3 := joinP_succ piece ([], []) hk
  rw [Nat.sub_add_cancel (by omega), List.take_of_length_le (Nat.le_refl _), if_neg (by omega)] at h3
  have h4 := nameText_length h
  have h5 := nameText_length (name_take h h2)
  rw [List.length_take] at h5
  have h6 : (joinP piece n).length - 4 = (joinP piece (n.take (n.length - 1))).length := by omega
  rw [h6]
  conv => lhs; rw [h3]
  rw [List.append_assoc, List.take_left']
  rfl

end Go.Proofs.YtgedlpdjnnbolaaDoor.PT
