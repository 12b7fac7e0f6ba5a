/-
  WORDS: a string of bytes; no program in sight.
-/
import Derived.Test.YtgedlpdjnnbolaaDoorKit
import Derived.Laws.IdiomStrings
import Derived.Laws.BytesArg
import Derived.Laws.Concat
namespace Go.Proofs.YtgedlpdjnnbolaaDoor
set_option linter.unusedVariables false
open Go.RowKit

/-- A string of bytes. -/
def S (l : List UInt8) : ByteArray := ⟨l.toArray⟩
theorem S_append (a b : List UInt8) : S a ++ S b = S (a ++ b) := by
  apply ByteArray.ext
  simp [S]
theorem S_size (a : List UInt8) : (S a).size = a.length := by simp [S, ByteArray.size]
theorem S_list (a : List UInt8) : (S a).data.toList = a := by simp [S]
theorem S_toList (a : List UInt8) : (S a).toList = a := by rw [ByteArray.toList_eq, S_list]
theorem S_inj {a b : List UInt8} (h : S a = S b) : a = b := by rw [← S_list a, ← S_list b, h]
theorem S_of (s : ByteArray) : s = S s.data.toList := by simp [S]
theorem S_nil : S [] = ⟨#[]⟩ := rfl
theorem S_eq (a b : List UInt8) : ((S a).toList == (S b).toList) = decide (a = b) := by
  rw [S_toList, S_toList]
  by_cases h : a = b
  · subst h; simp
  · rw [decide_eq_false h]; exact beq_eq_false_iff_ne.2 h
theorem S_empty (a : List UInt8) (h : a = []) : (S a).toList = [] ∧ (S a).toList.isEmpty = true := by rw [S_toList, h]; exact ⟨rfl, rfl⟩
theorem S_full (a : List UInt8) (h : a ≠ []) : ¬ (S a).toList = [] ∧ (S a).toList.isEmpty = false := by rw [S_toList]; exact ⟨h, by cases a <;> simp_all⟩

end Go.Proofs.YtgedlpdjnnbolaaDoor
