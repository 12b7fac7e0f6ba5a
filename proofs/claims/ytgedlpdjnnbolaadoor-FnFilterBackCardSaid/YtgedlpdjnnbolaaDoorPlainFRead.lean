/-
  PLAIN: a text of a filter is read back; no program in sight.
-/
import Derived.Test.YtgedlpdjnnbolaaDoorPlainRead
namespace Go.Proofs.YtgedlpdjnnbolaaDoor.PT
set_option linter.unusedVariables false

/-- A word of a text of filters. -/
def cword (p : List UInt8) : Cond := ((Lib.trimSuffix (Lib.cut p [61]).1 [33], (Lib.cut p [61]).2.1), Lib.hasSuffix (Lib.cut p [61]).1 [33])
def fparse (l : List UInt8) : List Cond := (Lib.split l [44]).map cword
theorem cword_piece {c : Cond} (h : tagB c.1 = true) : cword (cpiece c) = c := by
  obtain ⟨⟨t, v⟩, q⟩ := c
  obtain ⟨a, b, e, h1, h2, h3, h4⟩ := tagB_iff.1 h
  simp only [Prod.mk.injEq] at e
  obtain ⟨rfl, rfl⟩ := e
  have ha61 : a ≠ 61 := by intro e; subst e; revert h1; decide
  have ha33 : a ≠ 33 := by intro e; subst e; revert h1; decide
  cases q
  · have hn : (61 : UInt8) ∉ [a] := by
      intro e; simp at e; exact ha61 e.symm
    have := cut_hit [a] [b] 61 hn
    have e : cpiece (([a], [b]), false) = [a] ++ 61 :: [b] := rfl
    unfold cword
    rw [e, this]
    have hs : Lib.hasSuffix [a] [33] = false := by simp [Lib.hasSuffix, List.isSuffixOf, List.isPrefixOf, Ne.symm ha33]
    simp [Lib.trimSuffix, hs]
  · have hn : (61 : UInt8) ∉ [a, 33] := by
      intro e; simp at e; exact ha61 e.symm
    have := cut_hit [a, 33] [b] 61 hn
    have e : cpiece (([a], [b]), true) = [a, 33] ++ 61 :: [b] := rfl
    unfold cword
    rw [e, this]
    have hs : Lib.hasSuffix [a, 33] [33] = true := by simp [Lib.hasSuffix, List.isSuffixOf, List.isPrefixOf]
    simp [Lib.trimSuffix, hs]
theorem cpiece_comma {c : Cond} (h : tagB c.1 = true) : (44 : UInt8) ∉ cpiece c := by
  obtain ⟨⟨t, v⟩, q⟩ := c
  obtain ⟨a, b, e, h1, h2, h3, h4⟩ := tagB_iff.1 h
  simp only [Prod.mk.injEq] at e
  obtain ⟨rfl, rfl⟩ := e
  have ha : a ≠ 44 := by intro e; subst e; revert h1; decide
  have hb : b ≠ 44 := by intro e; subst e; revert h3; decide
  cases q <;> simp [cpiece, sign, Ne.symm ha, Ne.symm hb]
theorem fparse_join {f : List Cond} (h0 : f ≠ []) (h : ∀ c ∈ f, tagB c.1 = true) : fparse (joinP cpiece f) = f := by
  unfold fparse
  rw [split_join cpiece h0 (fun t ht => cpiece_comma (h t ht)), List.map_map]
  conv => rhs; rw [← List.map_id f]
  exact List.map_congr_left fun t ht => cword_piece (h t ht)
theorem fjoin_long {f : List Cond} (h0 : f ≠ []) (h : ∀ c ∈ f, tagB c.1 = true) : 3 ≤ (joinP cpiece f).length := by
  cases f with
  | nil => exact absurd rfl h0
  | cons x r =>
    obtain ⟨h1, h2⟩ := tag_sizes (h x (by simp))
    have h3 : 3 ≤ (cpiece x).length := by
      unfold cpiece sign
      split <;> simp <;> omega
    cases r with
    | nil => rw [joinP_one]; exact h3
    | cons y r =>
      rw [joinP_cons, List.length_append]
      omega
/-- What FilterRead hands back. -/
def filterRead (l : List UInt8) : List Cond × Bool := if l = [42] then ([], true) else if l = [] ∨ filterText (fparse l) ≠ l then ([], false) else (fparse l, true)
theorem filterRead_back {f : List Cond} (h : filterB f = true) : filterRead (filterText f) = (f, true) := by
  by_cases h0 : f.length = 0
  · have : f = [] := List.eq_nil_of_length_eq_zero h0
    subst this
    rw [filterText_star h h0]
    rfl
  · have hne : f ≠ [] := by intro e; subst e; exact h0 rfl
    have hT := (filterB_iff.1 h).1
    have hl := fjoin_long hne hT
    rw [filterText_yes h h0]
    unfold filterRead
    rw [if_neg (by intro e; rw [e] at hl; simp at hl), fparse_join hne hT, filterText_yes h h0, if_neg]
    rintro (e | e)
    · rw [e] at hl; simp at hl
    · exact e rfl
theorem filterText_short (f : List Cond) : (filterText f).length ≤ 20 := by
  cases hb : filterB f
  · rw [filterText_no hb]; simp
  · obtain ⟨hT, h3⟩ := filterB_iff.1 hb
    by_cases h0 : f.length = 0
    · rw [filterText_star hb h0]; simp
    · rw [filterText_yes hb h0]
      have := joinP_len cpiece (m := 4) (fun x hx => cpiece_len (hT x hx)) f.length
      rw [List.take_of_length_le (Nat.le_refl _)] at this
      omega
theorem nameText_short (n : List Tag) : (nameText n).length ≤ 12 := by
  cases hb : nameB n
  · rw [nameText_no hb]; simp
  · have := nameText_length hb
    have := (nameB_iff.1 hb).2.2.2
    rw [nameText_yes hb]
    omega
/-- The text is the star just if the filter has no condition. -/
theorem star_iff {f : List Cond} (h : filterB f = true) : decide (filterText f = [42]) = decide (f.length = 0) := by
  apply decide_eq_decide.2
  constructor
  · intro e
    by_cases h0 : f.length = 0
    · exact h0
    · rw [filterText_yes h h0] at e
      have := fjoin_long (f := f) (by intro e; subst e; exact h0 rfl) (filterB_iff.1 h).1
      rw [e] at this
      simp at this
  · intro h0
    exact filterText_star h h0

end Go.Proofs.YtgedlpdjnnbolaaDoor.PT
