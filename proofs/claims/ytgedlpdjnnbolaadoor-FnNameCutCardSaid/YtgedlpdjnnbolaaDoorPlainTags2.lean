/-
  PLAIN: names are by key, each key once; no program in sight.
-/
import Derived.Test.YtgedlpdjnnbolaaDoorNames1
namespace Go.Proofs.YtgedlpdjnnbolaaDoor.PT
set_option linter.unusedVariables false

def key (t : Tag) : Nat := (t.1.headD 0).toNat
theorem less_key {a b : Tag} (ha : tagB a = true) (hb : tagB b = true) : less a.1 b.1 = decide (key a < key b) := by
  obtain ⟨x, y, rfl, _⟩ := tagB_iff.1 ha
  obtain ⟨x', y', rfl, _⟩ := tagB_iff.1 hb
  exact one_less x x'
theorem okTo_pair {l : List Tag} : okTo l l.length = true ↔ (∀ t ∈ l, tagB t = true) ∧ l.Pairwise (fun a b => key a < key b) := by
  rw [okTo_iff]
  constructor
  · intro h
    have ht : ∀ k (hk : k < l.length), tagB l[k] = true := fun k hk => by
      have := h k hk
      unfold okAt at this
      rw [Bool.and_eq_true, getD_tag hk] at this
      exact this.1
    have hs : ∀ k (hk : k + 1 < l.length), key l[k] < key l[k + 1] := fun k hk => by
      have := h (k + 1) hk
      unfold okAt at this
      rw [Bool.and_eq_true] at this
      have h2 := this.2
      rw [Nat.add_sub_cancel, getD_tag hk, getD_tag (by omega : k < l.length)] at h2
      rw [less_key (ht k (by omega)) (ht (k + 1) hk)] at h2
      simpa using h2
    refine ⟨fun t hm => ?_, List.pairwise_iff_getElem.2 ?_⟩
    · obtain ⟨k, hk, rfl⟩ := List.getElem_of_mem hm
      exact ht k hk
    · intro i j hi hj hij
      induction j with
      | zero => omega
      | succ j ih =>
        rcases Nat.lt_or_ge i j with h1 | h1
        · exact Nat.lt_trans (ih (by omega) h1) (hs j hj)
        · obtain rfl : i = j := by omega
          exact hs i hj
  · rintro ⟨h1, h2⟩ k hk
    unfold okAt
    rw [getD_tag hk, h1 _ (List.getElem_mem hk), Bool.true_and]
    by_cases h0 : k = 0
    · simp [h0]
    · obtain ⟨j, rfl⟩ : ∃ j, k = j + 1 := ⟨k - 1, by omega⟩
      rw [Nat.add_sub_cancel, getD_tag (by omega : j < l.length), less_key (h1 _ (List.getElem_mem _)) (h1 _ (List.getElem_mem _))]
      have := List.pairwise_iff_getElem.1 h2 j (j + 1) (by omega) hk (by omega)
      simp [this]
theorem nameB_iff {l : List Tag} : nameB l = true ↔ (∀ t ∈ l, tagB t = true) ∧ l.Pairwise (fun a b => key a < key b) ∧ 1 ≤ l.length ∧ l.length ≤ 3 := by
  unfold nameB
  rw [Bool.and_eq_true, okTo_pair, Bool.and_eq_true]
  simp only [decide_eq_true_eq, and_assoc]
theorem nameB_nil : nameB [] = false := rfl
theorem name_less {l : List Tag} (h : nameB l = true) (i : Nat) (hi : i < l.length) : nameB (l.take i ++ l.drop (i + 1)) = decide (1 < l.length) := by
  rw [← List.eraseIdx_eq_take_drop_succ]
  obtain ⟨h1, h2, h3, h4⟩ := nameB_iff.1 h
  have hl : (l.eraseIdx i).length = l.length - 1 := List.length_eraseIdx_of_lt hi
  by_cases h5 : 1 < l.length
  · rw [decide_eq_true h5]
    exact nameB_iff.2 ⟨fun t ht => h1 t (List.mem_of_mem_eraseIdx ht), h2.sublist (List.eraseIdx_sublist _ _), by omega, by omega⟩
  · rw [decide_eq_false h5]
    have : l.eraseIdx i = [] := List.eq_nil_of_length_eq_zero (by omega)
    rw [this]
    rfl
theorem name_twice {l : List Tag} {x : Tag} (hx : x ∈ l) : nameB (x :: l) = false := by
  cases hb : nameB (x :: l)
  · rfl
  · have h2 := (nameB_iff.1 hb).2.1
    have := (List.pairwise_cons.1 h2).1 x hx
    omega
theorem name_asc {l : List Tag} (h : nameB l = true) {k : Nat} (hk : k + 1 < l.length) : less (l.getD k ([], [])).1 (l.getD (k + 1) ([], [])).1 = true := by
  obtain ⟨h1, h2, _⟩ := nameB_iff.1 h
  rw [getD_tag hk, getD_tag (by omega : k < l.length), less_key (h1 _ (List.getElem_mem _)) (h1 _ (List.getElem_mem _))]
  exact decide_eq_true (List.pairwise_iff_getElem.1 h2 k (k + 1) (by omega) hk (by omega))

end Go.Proofs.YtgedlpdjnnbolaaDoor.PT
