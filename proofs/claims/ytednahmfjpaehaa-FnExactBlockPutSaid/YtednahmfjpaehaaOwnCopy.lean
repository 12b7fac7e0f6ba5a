/-
  LAWS: copy over elements of any size, into a block whose cells are known; no program in sight.
-/
import Derived.Test.YtednahmfjpaehaaAppend
import Derived.Deep.RegionLaw
import Derived.Laws.IdiomCopy
namespace Go.Proofs.Ytednahmfjpaehaa
set_option linter.unusedVariables false
set_option linter.unusedSimpArgs false
open Go.RowKit

section
variable {P : Program} (w : World)

/-- All is read before anything is written: 'cs' is what the source held before the call. -/
theorem run_copy_size (dT sT ty elem : TypeId) (i : TypeInfo) (size b o dLen dCap : Nat) (a : Addr) (sLen sCap : Nat) (cs : List Value)
    (hu : P.underlying dT = some (.slice elem)) (hq : P.info? elem = some i) (hs : i.size = size) (hn : cs.length = Nat.min sLen dLen * size)
    (hsrc : ∀ j v, cs[j]? = some v → w.cell? (a.add j) = some v) (hc : ∀ j, j < cs.length → (w.cell? ⟨b, o + j, none⟩).isSome = true) (hf : ∀ j, j < cs.length → w.frozen? ⟨b, o + j, none⟩ = false) (h1 : ∀ v ∈ cs, v.oneCell' = true) :
    (Builtin.copy_ #[dT, sT] ty #[.slice (some ⟨b, o, none⟩) dLen dCap, .slice (some a) sLen sCap]).run P w = .ok (goInt (Nat.min sLen dLen)) (w.setCells b o cs) := by
  have hl := run_loadCells_list (P := P) w a cs hsrc
  have hst := run_storeCells_cells (P := P) b o cs 0 w (by simpa using hc) (by simpa using hf) h1
  subst hs
  simp [Builtin.copy_, run_underlying hu, Builtin.lenOf, Builtin.firstCells, sizeOf, typeInfo, hq, ← hn, hl, hst]

theorem wpList_copy_eq {o : Oper} {ops : Array Oper} {rest : List Oper} {a : Act} {Q : Exit → Act → World → Prop} (hgd : o.guard = none) (d s : Operand) (t t' : TypeId)
    (ho : o.op = .call { callee := .builtin .copy, args := #[d, s], argTypes := #[t, t'] }) (v u : Value) (hd : a.eval d = v) (hs : a.eval s = u) {v' : Value} {w' : World}
    (hr : (Builtin.copy_ #[t, t'] o.type #[v, u]).run P w = .ok v' w') (h : wpList P ops Q rest (a.put o.dst v') w') : wpList P ops Q (o :: rest) a w := by
  refine wpList_plain hgd fun _ hK => ?_
  unfold Oper.wp execOp
  simp only [ho, resolve, invoke, builtin, Sem.run_bind, Sem.run_pure, Result.andThen_ok, List.map_toArray, List.map_cons, List.map_nil, hd, hs, hr]
  exact hK _ _ h

theorem step_copy_eq {ops : Array Oper} {o : Oper} {a : Act} {w : World} {K : Act → World → Prop} {Q : Exit → Act → World → Prop} {E : Prop}
    (hg : o.guard = none) (d x : Operand) (dT sT : TypeId) (hop : o.op = Op.call { callee := Callee.builtin Builtin.copy, args := #[d, x], argTypes := #[dT, sT] })
    (v u : Value) (hd : a.eval d = v) (hx : a.eval x = u) {v' : Value} {w' : World} (hr : (Builtin.copy_ #[dT, sT] o.type #[v, u]).run P w = .ok v' w') (hK : K (a.put o.dst v') w') :
    if Region.wanted o (yielded ops a.tmps) = true then Oper.wp P o a w K Q else E := by
  have hw : Region.wanted o (yielded ops a.tmps) = true := by simp [Region.wanted, hg]
  rw [if_pos hw]
  unfold Oper.wp
  simp [execOp, hop, resolve, invoke, builtin, hd, hx, hr, Result.andThen]
  exact hK
end

/-- What a run of stores leaves of a block's cells. -/
def over (L : List Value) (o : Nat) (vs : List Value) : List Value := L.take o ++ vs ++ L.drop (o + vs.length)
theorem over_len {L vs : List Value} {o : Nat} (h : o + vs.length ≤ L.length) : (over L o vs).length = L.length := by simp [over]; omega
theorem set_over {L : List Value} {o : Nat} {x : Value} (vs : List Value) (h : o + (vs.length + 1) ≤ L.length) : over (L.set o x) (o + 1) vs = over L o (x :: vs) := by
  have h1 : (L.set o x).take (o + 1) = L.take o ++ [x] := by
    rw [List.take_succ_eq_append_getElem (by simp; omega), List.getElem_set_self]
    simp [List.take_set_of_le]
  have h2 : (L.set o x).drop (o + 1 + vs.length) = L.drop (o + (vs.length + 1)) := by
    rw [List.drop_set_of_lt (by omega), show o + 1 + vs.length = o + (vs.length + 1) by omega]
  simp [over, h1, h2]

/-- The block g holds exactly these cells, of type e. -/
def Cells (w : World) (g : Nat) (e : TypeId) (L : List Value) : Prop := ∃ cur : Array Value, w.heap[g]? = some (.cells cur e (0, 0)) ∧ cur.toList = L
section
variable {w w' : World} {g : Nat} {e : TypeId} {L : List Value}
theorem Cells.cell (h : Cells w g e L) (j : Nat) : w.cell? ⟨g, j, none⟩ = L[j]? := by
  obtain ⟨cur, h1, rfl⟩ := h
  rw [cell_of_row w g j cur e (0, 0) h1]; simp
theorem Cells.free (h : Cells w g e L) (j : Nat) : w.frozen? ⟨g, j, none⟩ = false := by
  obtain ⟨cur, h1, rfl⟩ := h
  exact frozen_of_row w g j cur e h1
theorem Cells.has (h : Cells w g e L) {j : Nat} (hj : j < L.length) : (w.cell? ⟨g, j, none⟩).isSome = true := by rw [h.cell, List.getElem?_eq_getElem hj]; rfl
theorem Cells.lt (h : Cells w g e L) : g < w.heap.size := by
  obtain ⟨cur, h1, _⟩ := h
  exact (Array.getElem?_eq_some_iff.1 h1).1
theorem Cells.block (h : Cells w g e L) (hb : w'.heap[g]? = w.heap[g]?) : Cells w' g e L := by
  obtain ⟨cur, h1, h2⟩ := h
  exact ⟨cur, hb.trans h1, h2⟩
theorem Cells.drew (h : Cells w g e L) : Cells w.drew g e L := h
theorem Cells.grown (h : Cells w g e L) {row : Option Nat} (k : w.grownBy w' row) (hne : row ≠ some g) : Cells w' g e L := h.block (k.block g h.lt (fun e => hne e.symm))
theorem Cells.new (w : World) (cs : Array Value) (e : TypeId) : Cells (w.alloc (.cells cs e)) w.heap.size e cs.toList := ⟨cs, heap_alloc_new w _, rfl⟩
theorem Cells.set (h : Cells w g e L) (j : Nat) (x : Value) : Cells (w.setCell ⟨g, j, none⟩ x) g e (L.set j x) := by
  obtain ⟨cur, h1, rfl⟩ := h
  exact ⟨_, heap_setCell_same w g j cur e x h1, by simp⟩
theorem grown_setCell (w : World) (g j : Nat) (x : Value) : w.grownBy (w.setCell ⟨g, j, none⟩ x) (some g) :=
  ⟨rfl, rfl, rfl, by simp, fun k _ hk => heap_setCell_other w ⟨g, j, none⟩ k x (fun e => hk (by simp [e]))⟩
theorem grown_trans {a b c : World} {row : Option Nat} (h : a.grownBy b row) (k : b.grownBy c row) : a.grownBy c row :=
  ⟨k.os.trans h.os, k.tape.trans h.tape, k.output.trans h.output, Nat.le_trans h.size k.size, fun i hi hne => (k.block i (Nat.lt_of_lt_of_le hi h.size) hne).trans (h.block i hi hne)⟩
theorem grown_drew {a b : World} {row : Option Nat} (h : a.grownBy b row) : a.grownBy b.drew row := ⟨h.os, h.tape, h.output, h.size, h.block⟩
theorem Cells.sets : ∀ (vs : List Value) {w : World} {L : List Value} {o : Nat}, Cells w g e L → o + vs.length ≤ L.length → Cells (w.setCells g o vs) g e (over L o vs) ∧ w.grownBy (w.setCells g o vs) (some g)
  | [], w, L, o, h, hl => by
    refine ⟨?_, ⟨rfl, rfl, rfl, Nat.le_refl _, fun _ _ _ => rfl⟩⟩
    have : over L o [] = L := by simp [over]
    rw [this]; exact h
  | x :: vs, w, L, o, h, hl => by
    have hl' : o + (vs.length + 1) ≤ L.length := by simpa using hl
    obtain ⟨h1, h2⟩ := Cells.sets vs (h.set o x) (o := o + 1) (by simp; omega)
    rw [set_over vs hl'] at h1
    exact ⟨h1, grown_trans (grown_setCell w g o x) h2⟩
/-- A row of the call's own, by its block's cells. -/
theorem own_of_cells {base size n c : Nat} {xs : List Value} (h : Cells w g e L) (hb : base ≤ g) (hnc : n ≤ c) (hc : c ≤ maxLen) (hL : L.length = c * size) (hx : xs.length = n * size) (ht : L.take (n * size) = xs) :
    w.ownsRow base e size (.slice (some ⟨g, 0, none⟩) n c) n xs := by
  obtain ⟨cur, h1, rfl⟩ := h
  exact ⟨hx, .inr ⟨g, c, cur, rfl, hb, h1, hnc, hc, by simpa using hL, ht⟩⟩
theorem cells_of_own {base size n c : Nat} {A : Option Addr} {xs : List Value} (h : w.ownsRow base e size (.slice A n c) n xs) (hA : A ≠ none) :
    ∃ g L, A = some ⟨g, 0, none⟩ ∧ base ≤ g ∧ Cells w g e L ∧ n ≤ c ∧ c ≤ maxLen ∧ L.length = c * size ∧ L.take (n * size) = xs := by
  rcases h.2 with ⟨h1, _⟩ | ⟨g, cap, cur, h1, hb, hg, hnc, hcm, hcs, ht⟩
  · injection h1 with h1; exact absurd h1 hA
  · injection h1 with h1 h2 h3
    subst h1 h3
    exact ⟨g, cur.toList, rfl, hb, ⟨cur, hg, rfl⟩, hnc, hcm, by simpa using hcs, ht⟩
end

end Go.Proofs.Ytednahmfjpaehaa
