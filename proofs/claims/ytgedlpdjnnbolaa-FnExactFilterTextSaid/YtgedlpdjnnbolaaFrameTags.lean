/-
  ARGUMENTS OPENED: a slice of tags that came in reads as a list ('Rd'); no program in sight.
-/
import Derived.Test.YtgedlpdjnnbolaaFrame
import Derived.Test.YtgedlpdjnnbolaaNames2
import Derived.Deep.Slices
import Derived.Deep.Fields
import Derived.Lib.SmallJoins
namespace Go.Proofs.Ytgedlpdjnnbolaa
set_option linter.unusedVariables false
open Go.ChangeShapes Go.WideShapes Go.ChangeAt Go.RowKit Go.Deep

section
variable {H : Type} {enc : TypeId × Value → H} {P : Program} {w : World} {base : Nat} {spare : Nat → Bool} {held : Bool}

theorem rd_of_tags {t e : TypeId} {f0 f1 : Field} {fuel : Nat} {a : Option Addr} {len cap : Nat} {x : DataW H × List MemPlace} (ht : P.underlying t = some (.slice e)) (he : P.underlying e = some (.struct #[f0, f1]))
    (hone : oneCellFields P #[f0, f1] = true) (hC : P.cellsOf e = 2) (h0 : P.underlying f0.type = some .string) (h1 : P.underlying f1.type = some .string)
    (h : DataW.trod enc P w base spare held fuel t [.slice a len cap] = some x) :
    ∃ l : List PT.Tag, l.length = len ∧ Rd w w.heap.size 2 a len (tgs l) ∧ Sized l ∧ len ≤ cap ∧ cap ≤ maxLen := by
  rcases open_slice ht h with ⟨hcs, _⟩ | ⟨y, l, c, m, n, D, Pl, hcs, hb, hl, hm, hmm, hx, hi⟩
  · simp at hcs
    obtain ⟨rfl, rfl, rfl⟩ := hcs
    exact ⟨[], rfl, Rd.nil _ _ _ _, (fun t ht => by cases ht), Nat.le_refl _, Nat.zero_le _⟩
  · simp at hcs
    obtain ⟨rfl, rfl, rfl⟩ := hcs
    have hge : len ≤ m := by rw [hmm]; split <;> omega
    obtain ⟨V, hV⟩ := choose_lt (α := PT.Tag) (n := len) (p := fun i r => (w.cell? (y.add (i * 2)) = some (.string (S r.1)) ∧ w.cell? (y.add (i * 2 + 1)) = some (.string (S r.2))) ∧ r.1.length ≤ 9223372036854775807 ∧ r.2.length ≤ 9223372036854775807) (fun i hil => by
      obtain ⟨cs', hc, htr⟩ := hi i (by omega)
      rw [hC] at hc
      obtain ⟨_, hlen, hat⟩ := World.cells?_some hc
      obtain ⟨y0, y1, n', _, _, hf0, hf1⟩ := trod_struct2 he htr
      obtain ⟨o0, k0⟩ := hone_of hone 0 f0 rfl
      obtain ⟨o1, k1⟩ := hone_of hone 1 f1 rfl
      match cs', hlen, hf0, hf1, hat with
      | [c0, c1], _, hf0, hf1, hat =>
        rw [o0, k0] at hf0
        rw [o1, k1] at hf1
        obtain ⟨p, e0, _, g0⟩ := DataW.trod_string h0 hf0
        obtain ⟨q, e1, _, g1⟩ := DataW.trod_string h1 hf1
        obtain ⟨p, rfl⟩ : ∃ l, p = S l := ⟨_, S_of p⟩
        obtain ⟨q, rfl⟩ : ∃ l, q = S l := ⟨_, S_of q⟩
        rw [S_size] at g0 g1
        unfold maxLen at g0 g1
        simp at e0 e1
        subst e0 e1
        have a0 := hat 0 (by omega)
        have a1 := hat 1 (by omega)
        refine ⟨(p, q), ⟨?_, ?_⟩, by show p.length ≤ _; omega, by show q.length ≤ _; omega⟩
        · simpa [Go.Deep.add_add] using a0
        · rw [Go.Deep.add_add] at a1
          simpa using a1)
    have hrl : (((List.range len).map V) : List PT.Tag).length = len := by simp
    refine ⟨(List.range len).map V, hrl, ⟨by rw [tgs_len, hrl], fun hn => ?_⟩, fun t ht => ?_, hl, hm⟩
    rotate_left
    · simp only [List.mem_map, List.mem_range] at ht
      obtain ⟨i, hi, rfl⟩ := ht
      exact (hV i hi).2
    obtain ⟨b, off, spot⟩ := y
    have z0 := (hV 0 hn).1.1
    have hspot : spot = none := by simpa [Addr.add] using World.cell?_spot z0
    subst hspot
    refine ⟨b, off, rfl, World.block_lt_of_cell? _ _ z0, fun j u hu => ?_⟩
    have hj : j < len * 2 := by
      have := (List.getElem?_eq_some_iff.1 hu).1
      rw [tgs_len, hrl] at this
      exact this
    have key : ∀ i, i < len → w.cell? ⟨b, off + i * 2, none⟩ = some (.string (S (((List.range len).map V).getD i ([], [])).1)) ∧ w.cell? ⟨b, off + (i * 2 + 1), none⟩ = some (.string (S (((List.range len).map V).getD i ([], [])).2)) := fun i hil => by
      have := (hV i hil).1
      rw [Addr.add_lit, Addr.add_lit] at this
      simpa [hil] using this
    have hk := key (j / 2) (by omega)
    have hr := tgs_at (l := (List.range len).map V) (k := j / 2) (by rw [hrl]; omega)
    rcases Nat.mod_two_eq_zero_or_one j with h2 | h2
    · have e : j / 2 * 2 = j := by omega
      rw [e] at hk hr
      rw [hr.1] at hu
      rw [hk.1]; exact hu
    · have e : j / 2 * 2 + 1 = j := by omega
      rw [e] at hk hr
      rw [hr.2] at hu
      rw [hk.2]; exact hu
end

end Go.Proofs.Ytgedlpdjnnbolaa
