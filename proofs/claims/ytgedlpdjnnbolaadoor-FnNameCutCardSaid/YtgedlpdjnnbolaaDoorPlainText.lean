/-
  PLAIN: what the texts of names and of filters are; no program in sight.
-/
import Derived.Test.YtgedlpdjnnbolaaDoorPlainTags2
import Derived.Lib.Join
namespace Go.Proofs.YtgedlpdjnnbolaaDoor.PT
set_option linter.unusedVariables false

/-- Pieces with a comma between. -/
def joinP {α : Type} (p : α → List UInt8) (l : List α) : List UInt8 := Lib.join (l.map p) [44]
theorem joinP_succ {α : Type} (p : α → List UInt8) (d : α) {l : List α} {k : Nat} (hk : k < l.length) :
    joinP p (l.take (k + 1)) = joinP p (l.take k) ++ (if k = 0 then [] else [44]) ++ p (l.getD k d) := by
  cases l with
  | nil => simp at hk
  | cons x r =>
    cases k with
    | zero => simp [joinP, Lib.join_one, Lib.join_nil]
    | succ k =>
      have hk' : k < r.length := by simpa using hk
      have h1 : (r.map p)[k]? = some (p (r.getD k d)) := by simp [hk']
      have h2 := Lib.joinTail_take_succ [44] (r.map p) k _ h1
      simp only [joinP, List.take_succ_cons, List.map_cons, Lib.join_cons, List.map_take, h2, List.getD_cons_succ]
      simp
theorem joinP_len {α : Type} (p : α → List UInt8) {m : Nat} {l : List α} (h : ∀ x ∈ l, (p x).length ≤ m) (k : Nat) : (joinP p (l.take k)).length ≤ k * (m + 1) := by
  induction k with
  | zero => simp [joinP, Lib.join_nil]
  | succ k ih =>
    by_cases hk : k < l.length
    · have := joinP_succ p l[k] hk
      rw [this]
      have h1 : (l.getD k l[k]) ∈ l := by simp [hk]
      have := h _ h1
      rw [List.length_append, List.length_append, Nat.succ_mul]
      split <;> simp only [List.length_nil, List.length_singleton] <;> omega
    · rw [List.take_of_length_le (by omega)]
      rw [List.take_of_length_le (by omega)] at ih
      rw [Nat.succ_mul]; omega
def piece (t : Tag) : List UInt8 := t.1 ++ 61 :: t.2
def nameText (l : List Tag) : List UInt8 := if nameB l then joinP piece l else []
theorem nameText_no {l : List Tag} (h : nameB l = false) : nameText l = [] := by unfold nameText; rw [h]; rfl
theorem nameText_yes {l : List Tag} (h : nameB l = true) : nameText l = joinP piece l := by unfold nameText; rw [h]; rfl
theorem tag_sizes {t : Tag} (h : tagB t = true) : t.1.length = 1 ∧ t.2.length = 1 := by
  obtain ⟨a, b, rfl, _⟩ := tagB_iff.1 h
  exact ⟨rfl, rfl⟩
theorem piece_len {t : Tag} (h : tagB t = true) : (piece t).length ≤ 3 := by
  have := tag_sizes h
  simp [piece]; omega
def sign (q : Bool) : List UInt8 := if q then [33, 61] else [61]
def cpiece (c : Cond) : List UInt8 := c.1.1 ++ sign c.2 ++ c.1.2
def filterText (l : List Cond) : List UInt8 := if filterB l then (if l.length = 0 then [42] else joinP cpiece l) else []
theorem filterText_no {l : List Cond} (h : filterB l = false) : filterText l = [] := by unfold filterText; rw [h]; rfl
theorem filterText_star {l : List Cond} (h : filterB l = true) (h0 : l.length = 0) : filterText l = [42] := by unfold filterText; rw [h, if_pos h0]; rfl
theorem filterText_yes {l : List Cond} (h : filterB l = true) (h0 : ¬ l.length = 0) : filterText l = joinP cpiece l := by unfold filterText; rw [h, if_neg h0]; rfl
theorem cpiece_len {c : Cond} (h : tagB c.1 = true) : (cpiece c).length ≤ 4 := by
  have := tag_sizes h
  unfold cpiece sign
  split <;> simp <;> omega
theorem filterB_iff {l : List Cond} : filterB l = true ↔ (∀ c ∈ l, tagB c.1 = true) ∧ l.length ≤ 3 := by
  unfold filterB
  simp only [Bool.and_eq_true, List.all_eq_true, decide_eq_true_eq]

end Go.Proofs.YtgedlpdjnnbolaaDoor.PT
