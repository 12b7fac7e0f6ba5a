/-
  PLAIN: rows, blocks: what is a block; put, merge, cut; no program in sight.
-/
namespace Go.Proofs.Ytlalldjlgaldeaa.PB
set_option linter.unusedVariables false

abbrev Row := Int × Int
/-- A row within bounds. -/
def rowB (r : Row) : Bool := decide (0 ≤ r.1) && decide (r.1 ≤ 99) && (decide (-99 ≤ r.2) && decide (r.2 ≤ 99))
theorem rowB_iff {r : Row} : rowB r = true ↔ (0 ≤ r.1 ∧ r.1 ≤ 99) ∧ -99 ≤ r.2 ∧ r.2 ≤ 99 := by simp [rowB]
/-- The k-th row is such, and behind the one ahead of it. -/
def okAt (l : List Row) (k : Nat) : Bool := rowB (l.getD k (0, 0)) && (decide (k = 0) || decide ((l.getD (k - 1) (0, 0)).1 < (l.getD k (0, 0)).1))
def okTo (l : List Row) (k : Nat) : Bool := (List.range k).all (okAt l)
theorem okTo_zero (l : List Row) : okTo l 0 = true := rfl
theorem okTo_succ (l : List Row) (k : Nat) : okTo l (k + 1) = (okTo l k && okAt l k) := by simp [okTo, List.range_succ]
theorem okTo_iff {l : List Row} {n : Nat} : okTo l n = true ↔ ∀ k, k < n → okAt l k = true := by simp [okTo]
/-- A block. -/
def blockB (l : List Row) : Bool := okTo l l.length && decide (l.length ≤ 24)

abbrev Asc (l : List Row) : Prop := l.Pairwise fun a b => a.1 < b.1
theorem getD_row {l : List Row} {k : Nat} (h : k < l.length) : l.getD k (0, 0) = l[k] := by simp [h]
theorem okTo_full {l : List Row} : okTo l l.length = true ↔ (∀ r ∈ l, rowB r = true) ∧ Asc l := by
  rw [okTo_iff]
  constructor
  · intro h
    have h2 : ∀ k, (hk : k < l.length) → rowB l[k] = true := fun k hk => by
      have := h k hk
      simp only [okAt, Bool.and_eq_true] at this
      rw [← getD_row hk]; exact this.1
    have h3 : ∀ k, (hk : k + 1 < l.length) → l[k].1 < l[k + 1].1 := fun k hk => by
      have := h (k + 1) hk
      simp only [okAt, Bool.and_eq_true, Bool.or_eq_true, decide_eq_true_eq] at this
      rcases this.2 with h0 | h0
      · omega
      · rw [getD_row hk, Nat.add_sub_cancel, getD_row (by omega)] at h0
        exact h0
    refine ⟨fun r hr => ?_, ?_⟩
    · obtain ⟨k, hk, e⟩ := List.getElem_of_mem hr
      rw [← e]; exact h2 k hk
    · refine List.pairwise_iff_getElem.2 ?_
      intro i j hi hj hij
      have : ∀ d, (hd : i + d + 1 < l.length) → l[i].1 < l[i + d + 1].1 := by
        intro d
        induction d with
        | zero => intro hd; exact h3 i hd
        | succ d ih =>
          intro hd
          have h4 := ih (by omega)
          have h5 := h3 (i + d + 1) (by omega)
          have e : l[i + d + 1 + 1] = l[i + (d + 1) + 1] := by congr 1
          rw [e] at h5
          omega
      have h6 := this (j - i - 1) (by omega)
      have e : l[i + (j - i - 1) + 1] = l[j] := by congr 1; omega
      rw [e] at h6
      exact h6
  · rintro ⟨h1, h2⟩ k hk
    simp only [okAt, Bool.and_eq_true, Bool.or_eq_true, decide_eq_true_eq]
    rw [getD_row hk]
    refine ⟨h1 _ (List.getElem_mem _), ?_⟩
    rcases Nat.eq_zero_or_pos k with h0 | h0
    · exact .inl h0
    · refine .inr ?_
      rw [getD_row (by omega)]
      exact List.pairwise_iff_getElem.1 h2 (k - 1) k (by omega) hk (by omega)
theorem blockB_iff {l : List Row} : blockB l = true ↔ (∀ r ∈ l, rowB r = true) ∧ Asc l ∧ l.length ≤ 24 := by
  unfold blockB
  rw [Bool.and_eq_true, okTo_full, decide_eq_true_eq, and_assoc]

end Go.Proofs.Ytlalldjlgaldeaa.PB
