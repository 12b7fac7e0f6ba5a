/-
  ARGUMENTS OPENED: a slice of conditions that came in reads as a list ('Rd'); no program in sight.
-/
import Derived.Test.YtgedlpdjnnbolaaFrame
import Derived.Test.YtgedlpdjnnbolaaConds1
import Derived.Deep.Slices
import Derived.Deep.Fields
import Derived.Lib.SmallJoins
namespace Go.Proofs.Ytgedlpdjnnbolaa
set_option linter.unusedVariables false
open Go.ChangeShapes Go.WideShapes Go.ChangeAt Go.RowKit Go.Deep

section
variable {H : Type} {enc : TypeId × Value → H} {P : Program} {w : World} {base : Nat} {spare : Nat → Bool} {held : Bool}

theorem rd_of_conds {t e : TypeId} {f0 f1 g0 g1 : Field} {fuel : Nat} {a : Option Addr} {len cap : Nat} {x : DataW H × List MemPlace} (ht : P.underlying t = some (.slice e)) (he : P.underlying e = some (.struct #[f0, f1]))
    (hs : P.underlying f0.type = some (.struct #[g0, g1])) (h0 : P.underlying g0.type = some .string) (h1 : P.underlying g1.type = some .string) (h2 : P.underlying f1.type = some .bool)
    (o0 : f0.offset = 0) (k0 : P.cellsOf f0.type = 2) (o1 : f1.offset = 2) (k1 : P.cellsOf f1.type = 1) (hC : P.cellsOf e = 3) (hone : oneCellFields P #[g0, g1] = true)
    (h : DataW.trod enc P w base spare held fuel t [.slice a len cap] = some x) :
    ∃ l : List PT.Cond, l.length = len ∧ Rd w w.heap.size 3 a len (cnds l) ∧ SizedC l ∧ len ≤ cap ∧ cap ≤ maxLen := by
  rcases open_slice ht h with ⟨hcs, _⟩ | ⟨y, l, c, m, n, D, Pl, hcs, hb, hl, hm, hmm, hx, hi⟩
  · simp at hcs
    obtain ⟨rfl, rfl, rfl⟩ := hcs
    exact ⟨[], rfl, Rd.nil _ _ _ _, (fun t ht => by cases ht), Nat.le_refl _, Nat.zero_le _⟩
  · simp at hcs
    obtain ⟨rfl, rfl, rfl⟩ := hcs
    have hge : len ≤ m := by rw [hmm]; split <;> omega
    obtain ⟨V, hV⟩ := choose_lt (α := PT.Cond) (n := len) (p := fun i r => (w.cell? (y.add (i * 3)) = some (.string (S r.1.1)) ∧ w.cell? (y.add (i * 3 + 1)) = some (.string (S r.1.2)) ∧ w.cell? (y.add (i * 3 + 2)) = some (.bool r.2)) ∧ r.1.1.length ≤ 9223372036854775807 ∧ r.1.2.length ≤ 9223372036854775807) (fun i hil => by
      obtain ⟨cs', hc, htr⟩ := hi i (by omega)
      rw [hC] at hc
      obtain ⟨_, hlen, hat⟩ := World.cells?_some hc
      obtain ⟨y0, y1, n', _, _, hf0, hf1⟩ := trod_struct2 he htr
      rw [o0, k0] at hf0
      rw [o1, k1] at hf1
      obtain ⟨z0, z1, n2, _, _, hg0, hg1⟩ := trod_struct2 hs hf0
      obtain ⟨p0, r0⟩ := hone_of hone 0 g0 rfl
      obtain ⟨p1, r1⟩ := hone_of hone 1 g1 rfl
      match cs', hlen, hf1, hg0, hg1, hat with
      | [c0, c1, c2], _, hf1, hg0, hg1, hat =>
        rw [p0, r0] at hg0
        rw [p1, r1] at hg1
        obtain ⟨p, e0, _, b0⟩ := DataW.trod_string h0 hg0
        obtain ⟨q, e1, _, b1⟩ := DataW.trod_string h1 hg1
        obtain ⟨u, e2, _⟩ := DataW.trod_bool h2 hf1
        obtain ⟨p, rfl⟩ : ∃ l, p = S l := ⟨_, S_of p⟩
        obtain ⟨q, rfl⟩ : ∃ l, q = S l := ⟨_, S_of q⟩
        rw [S_size] at b0 b1
        unfold maxLen at b0 b1
        simp at e0 e1 e2
        subst e0 e1 e2
        have a0 := hat 0 (by omega)
        have a1 := hat 1 (by omega)
        have a2 := hat 2 (by omega)
        refine ⟨((p, q), u), ⟨?_, ?_, ?_⟩, by show p.length ≤ _; omega, by show q.length ≤ _; omega⟩
        · simpa [Go.Deep.add_add] using a0
        · rw [Go.Deep.add_add] at a1
          simpa using a1
        · rw [Go.Deep.add_add] at a2
          simpa using a2)
    have hrl : (((List.range len).map V) : List PT.Cond).length = len := by simp
    refine ⟨(List.range len).map V, hrl, ⟨by rw [cnds_len, hrl], fun hn => ?_⟩, fun t ht => ?_, hl, hm⟩
    rotate_left
    · simp only [List.mem_map, List.mem_range] at ht
      obtain ⟨i, hi, rfl⟩ := ht
      exact (hV i hi).2
    obtain ⟨b, off, spot⟩ := y
    have z0 := (hV 0 hn).1.1
    have hspot : spot = none := by simpa [Addr.add] using World.cell?_spot z0
    subst hspot
    refine ⟨b, off, rfl, World.block_lt_of_cell? _ _ z0, fun j u hu => ?_⟩
    have hj : j < len * 3 := by
      have := (List.getElem?_eq_some_iff.1 hu).1
      rw [cnds_len, hrl] at this
      exact this
    have key : ∀ i, i < len → w.cell? ⟨b, off + i * 3, none⟩ = some (.string (S (((List.range len).map V).getD i (([], []), false)).1.1)) ∧ w.cell? ⟨b, off + (i * 3 + 1), none⟩ = some (.string (S (((List.range len).map V).getD i (([], []), false)).1.2)) ∧ w.cell? ⟨b, off + (i * 3 + 2), none⟩ = some (.bool (((List.range len).map V).getD i (([], []), false)).2) := fun i hil => by
      have := (hV i hil).1
      rw [Addr.add_lit, Addr.add_lit, Addr.add_lit] at this
      simpa [hil] using this
    have hk := key (j / 3) (by omega)
    have hr := cnds_at (l := (List.range len).map V) (k := j / 3) (by rw [hrl]; omega)
    rcases (show j % 3 = 0 ∨ j % 3 = 1 ∨ j % 3 = 2 from by omega) with h3 | h3 | h3
    · have e : j / 3 * 3 = j := by omega
      rw [e] at hk hr
      rw [hr.1] at hu
      rw [hk.1]; exact hu
    · have e : j / 3 * 3 + 1 = j := by omega
      rw [e] at hk hr
      rw [hr.2.1] at hu
      rw [hk.2.1]; exact hu
    · have e : j / 3 * 3 + 2 = j := by omega
      rw [e] at hk hr
      rw [hr.2.2] at hu
      rw [hk.2.2]; exact hu
end

end Go.Proofs.Ytgedlpdjnnbolaa
