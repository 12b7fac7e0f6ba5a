/-
  PLAIN: put, merge, cut on rows by time: what is found at a time; how many rows there are; no program in sight.
-/
import Derived.Test.YtlalldjlgaldeaaPlainRows
namespace Go.Proofs.Ytlalldjlgaldeaa.PB
set_option linter.unusedVariables false

/-- A row put where its time stands. -/
def putR (r : Row) : List Row → List Row
  | [] => [r]
  | a :: l => if a.1 < r.1 then a :: putR r l else if a.1 = r.1 then r :: l else r :: a :: l
/-- The rows of b put one by one. -/
def mergeR (a b : List Row) : List Row := b.foldl (fun o r => putR r o) a
/-- The value at a time. -/
def look (l : List Row) (t : Int) : Option Int := (l.find? fun r => decide (r.1 = t)).map (·.2)
def inT (lo hi : Int) (r : Row) : Bool := decide (lo ≤ r.1) && decide (r.1 ≤ hi)
def cutR (l : List Row) (lo hi : Int) : List Row := l.filter (inT lo hi)

theorem look_nil (t : Int) : look [] t = none := rfl
theorem look_cons (a : Row) (l : List Row) (t : Int) : look (a :: l) t = if a.1 = t then some a.2 else look l t := by
  unfold look
  rw [List.find?_cons]
  by_cases h : a.1 = t <;> simp [h]
theorem look_append (a b : List Row) (t : Int) : look (a ++ b) t = (look a t).or (look b t) := by
  induction a with
  | nil => simp [look_nil]
  | cons x a ih => rw [List.cons_append, look_cons, look_cons, ih]; split <;> simp
theorem look_none {l : List Row} {t : Int} : look l t = none ↔ ∀ r ∈ l, r.1 ≠ t := by
  induction l with
  | nil => simp [look_nil]
  | cons a l ih =>
    rw [look_cons]
    by_cases h : a.1 = t
    · simp [h]
    · simp [h, ih]
theorem look_mem {l : List Row} (h : Asc l) {r : Row} (hr : r ∈ l) : look l r.1 = some r.2 := by
  induction l with
  | nil => cases hr
  | cons a l ih =>
    rw [look_cons]
    have h := List.pairwise_cons.1 h
    rcases List.mem_cons.1 hr with rfl | hr
    · simp
    · have := h.1 r hr
      rw [if_neg (by omega)]
      exact ih h.2 hr
theorem mem_look {l : List Row} {t v : Int} (h : look l t = some v) : (t, v) ∈ l := by
  induction l with
  | nil => cases h
  | cons a l ih =>
    rw [look_cons] at h
    split at h
    · rename_i e
      injection h with h
      rw [← e, ← h]
      simp
    · exact List.mem_cons_of_mem _ (ih h)

theorem look_putR (r : Row) (l : List Row) (t : Int) : look (putR r l) t = if t = r.1 then some r.2 else look l t := by
  induction l with
  | nil =>
    simp only [putR, look_cons, look_nil]
    by_cases h : t = r.1
    · simp [h]
    · rw [if_neg (fun e => h e.symm), if_neg h]
  | cons a l ih =>
    simp only [putR]
    by_cases h1 : a.1 < r.1
    · rw [if_pos h1, look_cons, look_cons, ih]
      by_cases h : t = r.1
      · rw [if_pos h, if_pos h, if_neg (by omega)]
      · rw [if_neg h, if_neg h]
    · rw [if_neg h1]
      by_cases h2 : a.1 = r.1
      · rw [if_pos h2, look_cons, look_cons]
        by_cases h : t = r.1
        · rw [if_pos h, if_pos h.symm]
        · rw [if_neg h, if_neg (fun e => h e.symm), if_neg (by omega)]
      · rw [if_neg h2, look_cons, look_cons]
        by_cases h : t = r.1
        · rw [if_pos h, if_pos h.symm]
        · rw [if_neg h, if_neg (fun e => h e.symm)]

theorem putR_mem {r x : Row} {l : List Row} (h : x ∈ putR r l) : x = r ∨ x ∈ l := by
  induction l with
  | nil => simp [putR] at h; exact .inl h
  | cons a l ih =>
    simp only [putR] at h
    split at h
    · rcases List.mem_cons.1 h with h | h
      · exact .inr (by simp [h])
      · rcases ih h with h | h
        · exact .inl h
        · exact .inr (by simp [h])
    · split at h
      · rcases List.mem_cons.1 h with h | h
        · exact .inl h
        · exact .inr (by simp [h])
      · rcases List.mem_cons.1 h with h | h
        · exact .inl h
        · exact .inr h
theorem putR_asc {r : Row} {l : List Row} (h : Asc l) : Asc (putR r l) := by
  induction l with
  | nil => simp [putR]
  | cons a l ih =>
    simp only [putR]
    have h' := h
    have h := List.pairwise_cons.1 h
    split
    · rename_i h1
      refine List.pairwise_cons.2 ⟨fun x hx => ?_, ih h.2⟩
      rcases putR_mem hx with rfl | hx
      · exact h1
      · exact h.1 x hx
    · split
      · rename_i h1 h2
        exact List.pairwise_cons.2 ⟨fun x hx => by have := h.1 x hx; omega, h.2⟩
      · rename_i h1 h2
        refine List.pairwise_cons.2 ⟨fun x hx => ?_, h'⟩
        rcases List.mem_cons.1 hx with rfl | hx
        · omega
        · have := h.1 x hx; omega
theorem mergeR_asc {a b : List Row} (ha : Asc a) : Asc (mergeR a b) := by
  induction b generalizing a with
  | nil => exact ha
  | cons r b ih => exact ih (putR_asc ha)
theorem mergeR_mem {a b : List Row} {x : Row} (h : x ∈ mergeR a b) : x ∈ a ∨ x ∈ b := by
  induction b generalizing a with
  | nil => exact .inl h
  | cons r b ih =>
    rcases ih (a := putR r a) h with h | h
    · rcases putR_mem h with rfl | h
      · exact .inr (by simp)
      · exact .inl h
    · exact .inr (by simp [h])
theorem look_mergeR {a b : List Row} (hb : Asc b) (t : Int) : look (mergeR a b) t = (look b t).or (look a t) := by
  induction b generalizing a with
  | nil => simp [mergeR, look_nil]
  | cons r b ih =>
    have h := List.pairwise_cons.1 hb
    show look (mergeR (putR r a) b) t = _
    rw [ih h.2, look_putR, look_cons]
    by_cases e : t = r.1
    · subst e
      have : look b r.1 = none := look_none.2 (fun x hx => by have := h.1 x hx; omega)
      simp [this]
    · rw [if_neg e, if_neg (fun h => e h.symm)]

/-- What is found at each time tells the rows. -/
theorem asc_ext {a b : List Row} (ha : Asc a) (hb : Asc b) (h : ∀ t, look a t = look b t) : a = b := by
  induction a generalizing b with
  | nil =>
    match b with
    | [] => rfl
    | y :: b =>
      have := h y.1
      rw [look_nil, look_cons, if_pos rfl] at this
      cases this
  | cons x a ih =>
    match b with
    | [] =>
      have := h x.1
      rw [look_nil, look_cons, if_pos rfl] at this
      cases this
    | y :: b =>
      have ha' := List.pairwise_cons.1 ha
      have hb' := List.pairwise_cons.1 hb
      have hx := h x.1
      have hy := h y.1
      rw [look_cons, if_pos rfl] at hx
      rw [look_cons (a := y), if_pos rfl] at hy
      have hxm := mem_look hx.symm
      have hym := mem_look hy
      have hle1 : y.1 ≤ x.1 := by
        rcases List.mem_cons.1 hxm with e | e
        · rw [← e]; exact Int.le_refl _
        · have := hb'.1 _ e; simp only at this; omega
      have hle2 : x.1 ≤ y.1 := by
        rcases List.mem_cons.1 hym with e | e
        · rw [← e]; exact Int.le_refl _
        · have := ha'.1 _ e; simp only at this; omega
      have e1 : x.1 = y.1 := by omega
      have e2 : x.2 = y.2 := by
        rw [look_cons, if_pos e1.symm] at hx
        injection hx
      have e : x = y := Prod.ext e1 e2
      subst e
      have hr : ∀ t, look a t = look b t := fun t => by
        have ht := h t
        rw [look_cons, look_cons] at ht
        by_cases ex : x.1 = t
        · rw [look_none.2 (fun r hr => by have := ha'.1 r hr; omega), look_none.2 (fun r hr => by have := hb'.1 r hr; omega)]
        · rwa [if_neg ex, if_neg ex] at ht
      rw [ih ha'.2 hb'.2 hr]

/-- How many rows a put adds. -/
theorem putR_len (r : Row) (l : List Row) (h : Asc l) : (putR r l).length = l.length + if look l r.1 = none then 1 else 0 := by
  induction l with
  | nil => simp [putR, look_nil]
  | cons a l ih =>
    have h' := List.pairwise_cons.1 h
    simp only [putR]
    by_cases h1 : a.1 < r.1
    · have hne : ¬ a.1 = r.1 := by omega
      rw [if_pos h1, look_cons, if_neg hne, List.length_cons, ih h'.2, List.length_cons]
      omega
    · rw [if_neg h1]
      by_cases h2 : a.1 = r.1
      · rw [if_pos h2, look_cons, if_pos h2]; simp
      · have hn : look (a :: l) r.1 = none := look_none.2 (fun x hx => by
          rcases List.mem_cons.1 hx with rfl | hx
          · exact h2
          · have := h'.1 x hx; omega)
        rw [if_neg h2, hn]; simp
theorem putR_ge (r : Row) (l : List Row) (h : Asc l) : l.length ≤ (putR r l).length := by rw [putR_len r l h]; omega
theorem mergeR_ge {a b : List Row} (ha : Asc a) : a.length ≤ (mergeR a b).length := by
  induction b generalizing a with
  | nil => exact Nat.le_refl _
  | cons r b ih => exact Nat.le_trans (putR_ge r a ha) (ih (putR_asc ha))
/-- How many rows a merge has. -/
theorem mergeR_len {a b : List Row} (ha : Asc a) (hb : Asc b) : (mergeR a b).length = a.length + (b.filter fun r => decide (look a r.1 = none)).length := by
  induction b generalizing a with
  | nil => simp [mergeR]
  | cons r b ih =>
    have h' := List.pairwise_cons.1 hb
    show (mergeR (putR r a) b).length = _
    rw [ih (putR_asc ha) h'.2, putR_len r a ha]
    have e : (b.filter fun x => decide (look (putR r a) x.1 = none)) = b.filter fun x => decide (look a x.1 = none) := by
      apply List.filter_congr
      intro x hx
      have := h'.1 x hx
      rw [look_putR, if_neg (by omega)]
    rw [e, List.filter_cons]
    by_cases hn : look a r.1 = none
    · simp [hn]; omega
    · simp [hn]
/-- Times that there are here are there: no more of them. -/
theorem len_le {a b : List Row} (ha : Asc a) (hb : Asc b) (h : ∀ t, look a t ≠ none → look b t ≠ none) : a.length ≤ b.length := by
  have h1 := mergeR_len hb ha
  have h2 : (a.filter fun r => decide (look b r.1 = none)) = [] := by
    rw [List.filter_eq_nil_iff]
    intro r hr hn
    refine h r.1 ?_ (by simpa using hn)
    rw [look_mem ha hr]
    simp
  rw [h2] at h1
  have h3 := mergeR_ge (b := b) ha
  have h8 : (mergeR a b).length = (mergeR b a).length :=
    len_same (mergeR_asc ha) (mergeR_asc hb) (fun t => by rw [look_mergeR hb, look_mergeR ha]; cases look a t <;> cases look b t <;> simp)
  simp only [List.length_nil, Nat.add_zero] at h1
  omega
where
  len_same {a b : List Row} (ha : Asc a) (hb : Asc b) (h : ∀ t, look a t = none ↔ look b t = none) : a.length = b.length := by
    induction a generalizing b with
    | nil =>
      match b with
      | [] => rfl
      | y :: b =>
        have := (h y.1).1 (look_nil _)
        rw [look_cons, if_pos rfl] at this
        cases this
    | cons x a ih =>
      match b with
      | [] =>
        have := (h x.1).2 (look_nil _)
        rw [look_cons, if_pos rfl] at this
        cases this
      | y :: b =>
        have ha' := List.pairwise_cons.1 ha
        have hb' := List.pairwise_cons.1 hb
        have hx : look (y :: b) x.1 ≠ none := fun e => by
          have := (h x.1).2 e
          rw [look_cons, if_pos rfl] at this
          cases this
        have hy : look (x :: a) y.1 ≠ none := fun e => by
          have := (h y.1).1 e
          rw [look_cons, if_pos rfl] at this
          cases this
        have hle1 : y.1 ≤ x.1 := by
          cases ho : look (y :: b) x.1 with
          | none => exact absurd ho hx
          | some v =>
            rcases List.mem_cons.1 (mem_look ho) with e | e
            · rw [← e]; exact Int.le_refl _
            · have := hb'.1 _ e; simp only at this; omega
        have hle2 : x.1 ≤ y.1 := by
          cases ho : look (x :: a) y.1 with
          | none => exact absurd ho hy
          | some v =>
            rcases List.mem_cons.1 (mem_look ho) with e | e
            · rw [← e]; exact Int.le_refl _
            · have := ha'.1 _ e; simp only at this; omega
        have exy : x.1 = y.1 := by omega
        have hr : ∀ t, look a t = none ↔ look b t = none := fun t => by
          have ht := h t
          rw [look_cons, look_cons] at ht
          by_cases ex : x.1 = t
          · rw [look_none.2 (fun r hr => by have := ha'.1 r hr; omega), look_none.2 (fun r hr => by have := hb'.1 r hr; omega)]
          · rwa [if_neg ex, if_neg (by omega)] at ht
        rw [List.length_cons, List.length_cons, ih ha'.2 hb'.2 hr]

theorem cutR_asc {l : List Row} {lo hi : Int} (h : Asc l) : Asc (cutR l lo hi) := List.Pairwise.filter _ h
theorem cutR_mem {l : List Row} {lo hi : Int} {r : Row} : r ∈ cutR l lo hi ↔ r ∈ l ∧ lo ≤ r.1 ∧ r.1 ≤ hi := by simp [cutR, inT]
theorem look_cutR (l : List Row) (lo hi t : Int) : look (cutR l lo hi) t = if lo ≤ t ∧ t ≤ hi then look l t else none := by
  induction l with
  | nil => simp [cutR, look_nil]
  | cons a l ih =>
    unfold cutR at ih ⊢
    rw [List.filter_cons]
    by_cases h : inT lo hi a = true
    · rw [if_pos h, look_cons, look_cons, ih]
      simp only [inT, Bool.and_eq_true, decide_eq_true_eq] at h
      by_cases e : a.1 = t
      · subst e; simp [h]
      · simp [e]
    · rw [if_neg h, look_cons, ih]
      simp only [inT, Bool.and_eq_true, decide_eq_true_eq] at h
      by_cases e : a.1 = t
      · subst e; rw [if_neg h, if_neg h]
      · simp [e]

/-- A block's rows keep within bounds. -/
theorem block_of {l : List Row} (h1 : ∀ r ∈ l, rowB r = true) (h2 : Asc l) (h3 : l.length ≤ 24) : blockB l = true := blockB_iff.2 ⟨h1, h2, h3⟩
theorem block_put {l : List Row} {r : Row} (h : blockB l = true) (hr : rowB r = true) : blockB (putR r l) = decide ((putR r l).length ≤ 24) := by
  obtain ⟨h1, h2, _⟩ := blockB_iff.1 h
  by_cases h3 : (putR r l).length ≤ 24
  · rw [decide_eq_true h3]
    exact block_of (fun x hx => by rcases putR_mem hx with rfl | hx; exact hr; exact h1 x hx) (putR_asc h2) h3
  · rw [decide_eq_false h3]
    cases hb : blockB (putR r l)
    · rfl
    · exact absurd (blockB_iff.1 hb).2.2 h3
theorem block_merge {a b : List Row} (ha : blockB a = true) (hb : blockB b = true) : blockB (mergeR a b) = decide ((mergeR a b).length ≤ 24) := by
  obtain ⟨h1, h2, _⟩ := blockB_iff.1 ha
  obtain ⟨h4, h5, _⟩ := blockB_iff.1 hb
  by_cases h3 : (mergeR a b).length ≤ 24
  · rw [decide_eq_true h3]
    exact block_of (fun x hx => by rcases mergeR_mem hx with hx | hx; exact h1 x hx; exact h4 x hx) (mergeR_asc h2) h3
  · rw [decide_eq_false h3]
    cases hb : blockB (mergeR a b)
    · rfl
    · exact absurd (blockB_iff.1 hb).2.2 h3
theorem block_cut {l : List Row} {lo hi : Int} (h : blockB l = true) : blockB (cutR l lo hi) = true := by
  obtain ⟨h1, h2, h3⟩ := blockB_iff.1 h
  exact block_of (fun r hr => h1 r (cutR_mem.1 hr).1) (cutR_asc h2) (Nat.le_trans (List.length_filter_le _ _) h3)

end Go.Proofs.Ytlalldjlgaldeaa.PB
