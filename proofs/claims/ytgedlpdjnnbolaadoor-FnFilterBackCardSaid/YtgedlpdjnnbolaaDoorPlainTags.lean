/-
  PLAIN: tags, names, conditions, filters; no program in sight.
-/
import Derived.Test.YtgedlpdjnnbolaaDoorKit
namespace Go.Proofs.YtgedlpdjnnbolaaDoor.PT
set_option linter.unusedVariables false

abbrev Tag := List UInt8 × List UInt8
abbrev Cond := Tag × Bool
/-- A tag within bounds. -/
def tagB (t : Tag) : Bool := match t.1, t.2 with
  | [a], [b] => decide (97 ≤ a.toNat) && decide (a.toNat ≤ 100) && (decide (112 ≤ b.toNat) && decide (b.toNat ≤ 122))
  | _, _ => false
theorem tagB_iff {t : Tag} : tagB t = true ↔ ∃ a b, t = ([a], [b]) ∧ 97 ≤ a.toNat ∧ a.toNat ≤ 100 ∧ 112 ≤ b.toNat ∧ b.toNat ≤ 122 := by
  obtain ⟨k, v⟩ := t
  constructor
  · intro h
    match k, v, h with
    | [a], [b], h =>
      simp only [tagB, Bool.and_eq_true, decide_eq_true_eq] at h
      exact ⟨a, b, rfl, h.1.1, h.1.2, h.2.1, h.2.2⟩
  · rintro ⟨a, b, h, h1, h2, h3, h4⟩
    injection h with e1 e2
    subst e1 e2
    simp [tagB, h1, h2, h3, h4]
theorem tagB_key {k v : List UInt8} (h : k.length ≠ 1) : tagB (k, v) = false := by
  cases hb : tagB (k, v)
  · rfl
  · obtain ⟨a, b, e, _⟩ := tagB_iff.1 hb
    injection e with e1 e2
    subst e1
    exact absurd rfl h
theorem tagB_val {k v : List UInt8} (h : v.length ≠ 1) : tagB (k, v) = false := by
  cases hb : tagB (k, v)
  · rfl
  · obtain ⟨a, b, e, _⟩ := tagB_iff.1 hb
    injection e with e1 e2
    subst e2
    exact absurd rfl h
/-- One key ahead of another one. -/
def less (a b : List UInt8) : Bool := Op.bytesLess a b
/-- The k-th tag is such, and behind the one ahead of it. -/
def okAt (l : List Tag) (k : Nat) : Bool := tagB (l.getD k ([], [])) && (decide (k = 0) || less (l.getD (k - 1) ([], [])).1 (l.getD k ([], [])).1)
def okTo (l : List Tag) (k : Nat) : Bool := (List.range k).all (okAt l)
theorem okTo_zero (l : List Tag) : okTo l 0 = true := rfl
theorem okTo_succ (l : List Tag) (k : Nat) : okTo l (k + 1) = (okTo l k && okAt l k) := by simp [okTo, List.range_succ]
theorem okTo_iff {l : List Tag} {n : Nat} : okTo l n = true ↔ ∀ k, k < n → okAt l k = true := by simp [okTo]
/-- A name. -/
def nameB (l : List Tag) : Bool := okTo l l.length && (decide (1 ≤ l.length) && decide (l.length ≤ 3))
theorem getD_tag {l : List Tag} {k : Nat} (h : k < l.length) : l.getD k ([], []) = l[k] := by simp [h]
theorem getD_cond {l : List Cond} {k : Nat} (h : k < l.length) : l.getD k (([], []), false) = l[k] := by simp [h]
/-- A filter. -/
def condTo (l : List Cond) (k : Nat) : Bool := (l.take k).all fun c => tagB c.1
def filterB (l : List Cond) : Bool := (l.all fun c => tagB c.1) && decide (l.length ≤ 3)
theorem condTo_succ {l : List Cond} {k : Nat} (h : k < l.length) : condTo l (k + 1) = (condTo l k && tagB (l.getD k (([], []), false)).1) := by
  unfold condTo
  rw [List.take_succ_eq_append_getElem h, List.all_append, getD_cond h]
  simp
theorem filterB_no {l : List Cond} {k : Nat} (h : k < l.length) (hf : tagB (l.getD k (([], []), false)).1 = false) : filterB l = false := by
  cases hb : filterB l
  · rfl
  · unfold filterB at hb
    rw [Bool.and_eq_true, List.all_eq_true] at hb
    have := hb.1 (l.getD k (([], []), false)) (by rw [getD_cond h]; exact List.getElem_mem _)
    rw [hf] at this; cases this
/-- Whether a name has a tag. -/
def has (n : List Tag) (t : Tag) : Bool := n.any fun x => decide (x = t)
/-- Whether a name fits a filter. -/
def fits (f : List Cond) (n : List Tag) : Bool := f.all fun c => has n c.1 != c.2
def fitsB (f : List Cond) (n : List Tag) : Bool := filterB f && nameB n && fits f n

end Go.Proofs.YtgedlpdjnnbolaaDoor.PT
