/-
  PLAIN: the laws on put, merge and cut; no program in sight.
-/
import Derived.Test.YtednahmfjpaehaaPlainPut
namespace Go.Proofs.Ytednahmfjpaehaa.PB
set_option linter.unusedVariables false

/-- Put and lookup. -/
theorem merge_self {a : List Row} (ha : Asc a) : mergeR a a = a :=
  asc_ext (mergeR_asc ha) ha (fun t => by rw [look_mergeR ha]; cases look a t <;> rfl)
theorem merge_nil (a : List Row) : mergeR a [] = a := rfl
theorem merge_assoc {a b c : List Row} (ha : Asc a) (hb : Asc b) (hc : Asc c) : mergeR (mergeR a b) c = mergeR a (mergeR b c) :=
  asc_ext (mergeR_asc (mergeR_asc ha)) (mergeR_asc ha) (fun t => by
    rw [look_mergeR hc, look_mergeR hb, look_mergeR (mergeR_asc hb), look_mergeR hc]
    cases look c t <;> simp)
theorem merge_len_right {a b c : List Row} (ha : Asc a) (hb : Asc b) (hc : Asc c) : (mergeR b c).length ≤ (mergeR (mergeR a b) c).length :=
  len_le (mergeR_asc hb) (mergeR_asc (mergeR_asc ha)) (fun t => by
    rw [look_mergeR hc, look_mergeR hc, look_mergeR hb]
    cases look c t <;> cases look b t <;> simp)
theorem cut_merge {a b : List Row} (ha : Asc a) (hb : Asc b) (lo hi : Int) : cutR (mergeR a b) lo hi = mergeR (cutR a lo hi) (cutR b lo hi) :=
  asc_ext (cutR_asc (mergeR_asc ha)) (mergeR_asc (cutR_asc ha)) (fun t => by
    rw [look_cutR, look_mergeR hb, look_mergeR (cutR_asc hb), look_cutR, look_cutR]
    split <;> simp)
theorem cut_merge_len {a b : List Row} (ha : Asc a) (hb : Asc b) (lo hi : Int) : (mergeR (cutR a lo hi) (cutR b lo hi)).length ≤ (mergeR a b).length := by
  rw [← cut_merge ha hb]
  exact List.length_filter_le _ _
theorem put_two {b : List Row} {x u : Row} (hb : Asc b) (h : u.1 ≠ x.1) : putR u (putR x b) = putR x (putR u b) :=
  asc_ext (putR_asc (putR_asc hb)) (putR_asc (putR_asc hb)) (fun t => by
    rw [look_putR, look_putR, look_putR, look_putR]
    by_cases h1 : t = u.1
    · rw [if_pos h1, if_neg (by omega), if_pos h1]
    · rw [if_neg h1]
      split <;> simp)
theorem cut_two {b : List Row} (lo hi lo' hi' : Int) (h : lo ≤ lo') (h' : hi' ≤ hi) : cutR (cutR b lo hi) lo' hi' = cutR b lo' hi' := by
  unfold cutR
  rw [List.filter_filter]
  apply List.filter_congr
  intro r hr
  unfold inT
  by_cases h1 : lo' ≤ r.1
  · by_cases h2 : r.1 ≤ hi'
    · simp [h1, h2]; omega
    · simp [h1, h2]
  · simp [h1]
theorem cut_none {b : List Row} (lo hi : Int) (h : hi < lo) : cutR b lo hi = [] := by
  unfold cutR
  rw [List.filter_eq_nil_iff]
  intro r hr
  simp [inT]; omega
/-- What is at most t, and what is behind it. -/
theorem cut_split {b : List Row} (hb : Asc b) (hr : ∀ r ∈ b, 0 ≤ r.1 ∧ r.1 ≤ 99) (t : Int) : cutR b 0 t ++ cutR b (t + 1) 99 = b := by
  induction b with
  | nil => rfl
  | cons a b ih =>
    have h' := List.pairwise_cons.1 hb
    have ha := hr a (by simp)
    have ih' := ih h'.2 (fun r h => hr r (by simp [h]))
    unfold cutR at ih' ⊢
    rw [List.filter_cons, List.filter_cons]
    by_cases h1 : a.1 ≤ t
    · rw [if_pos (by simp [inT, h1]; omega), if_neg (by simp [inT]; omega)]
      simp [ih']
    · rw [if_neg (by simp [inT]; omega), if_pos (by simp [inT]; omega)]
      have : b.filter (inT 0 t) = [] := by
        rw [List.filter_eq_nil_iff]
        intro r hr'
        have := h'.1 r hr'
        simp [inT]; omega
      rw [this] at ih' ⊢
      simpa using ih'

/-- How many times of the first n are there. -/
def count (l : List Row) (n : Nat) : Nat := ((List.range n).filter fun t : Nat => decide (look l (t : Int) ≠ none)).length
theorem count_succ (l : List Row) (n : Nat) : count l (n + 1) = count l n + if look l (n : Int) = none then 0 else 1 := by
  unfold count
  rw [List.range_succ, List.filter_append, List.length_append]
  by_cases h : look l (n : Int) = none <;> simp [h]
theorem count_len {l : List Row} (h : Asc l) (hr : ∀ r ∈ l, 0 ≤ r.1 ∧ r.1 ≤ 99) : count l 100 = l.length := by
  have key : ∀ n : Nat, count l n = (l.filter fun r => decide (r.1 < (n : Int))).length := by
    intro n
    induction n with
    | zero =>
      have : (l.filter fun r => decide (r.1 < ((0 : Nat) : Int))) = [] := by
        rw [List.filter_eq_nil_iff]
        intro r hr'
        have := hr r hr'
        simp; omega
      rw [this]; rfl
    | succ n ih =>
      rw [count_succ, ih]
      have step : ∀ m : List Row, Asc m → (m.filter fun r => decide (r.1 < ((n + 1 : Nat) : Int))).length = (m.filter fun r => decide (r.1 < (n : Int))).length + if look m (n : Int) = none then 0 else 1 := by
        intro m
        induction m with
        | nil => intro _; simp [look_nil]
        | cons a m ihm =>
          intro hm
          have hm' := List.pairwise_cons.1 hm
          have := ihm hm'.2
          rw [List.filter_cons, List.filter_cons, look_cons]
          by_cases e : a.1 = (n : Int)
          · have e1 : look m (n : Int) = none := look_none.2 (fun r hr => by have := hm'.1 r hr; omega)
            rw [e1] at this
            rw [if_pos (by simp; omega), if_neg (by simp; omega), if_pos e]
            simp at this ⊢
            omega
          · by_cases e2 : a.1 < (n : Int)
            · rw [if_pos (by simp; omega), if_pos (by simp; omega), if_neg e]
              simp only [List.length_cons]
              omega
            · rw [if_neg (by simp; omega), if_neg (by simp; omega), if_neg e]
              exact this
      exact (step l h).symm
  rw [key 100]
  congr 1
  rw [List.filter_eq_self]
  intro r hr'
  have := hr r hr'
  simp; omega

/-- As many rows of a have a time of b as rows of b have a time of a. -/
theorem both_same {a b : List Row} (ha : Asc a) (hb : Asc b) : (a.filter fun r => decide (look b r.1 ≠ none)).length = (b.filter fun r => decide (look a r.1 ≠ none)).length := by
  have sub : ∀ (a b : List Row), Asc a → Asc b → (a.filter fun r => decide (look b r.1 ≠ none)).length ≤ (b.filter fun r => decide (look a r.1 ≠ none)).length := by
    intro a b ha hb
    refine len_le (List.Pairwise.filter _ ha) (List.Pairwise.filter _ hb) (fun t ht hn => ?_)
    apply ht
    refine look_none.2 (fun r hr e => ?_)
    have hr' := List.mem_filter.1 hr
    subst e
    cases ho : look b r.1 with
    | none => simp [ho] at hr'
    | some v =>
      have hm := mem_look ho
      refine look_none.1 hn (r.1, v) (List.mem_filter.2 ⟨hm, ?_⟩) rfl
      simp only [decide_eq_true_eq]
      rw [look_mem ha hr'.1]
      simp
  exact Nat.le_antisymm (sub a b ha hb) (sub b a hb ha)
theorem merge_many {a b : List Row} (ha : Asc a) (hb : Asc b) : (mergeR a b).length + (a.filter fun r => decide (look b r.1 ≠ none)).length = a.length + b.length := by
  rw [mergeR_len ha hb, both_same ha hb]
  have : ∀ l : List Row, (l.filter fun r => decide (look a r.1 = none)).length + (l.filter fun r => decide (look a r.1 ≠ none)).length = l.length := by
    intro l
    induction l with
    | nil => rfl
    | cons x l ih =>
      rw [List.filter_cons, List.filter_cons]
      by_cases h : look a x.1 = none
      · simp [h] at ih ⊢; omega
      · simp [h] at ih ⊢; omega
  have := this b
  omega

end Go.Proofs.Ytednahmfjpaehaa.PB
