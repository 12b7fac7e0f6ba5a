/-
  A REGION THAT DRAWS ITS ORDER, whose operations only read and whose callees only read or make memory: one walk of the lexical order serves every order. The class of worlds: what lies below block B is as it was.
-/
import Derived.Test.YtgedlpdjnnbolaaDoorKit
import Derived.BigQuiet
import Derived.Deep.QuietTactic
namespace Go.Proofs.YtgedlpdjnnbolaaDoor
set_option linter.unusedVariables false
open Go.RowKit

/-- A world that below block B is as w was. -/
structure Ext (B : Nat) (w : World) where
  val : World
  is : Below B w val

instance ext_some (B : Nat) (w : World) : Nonempty (Ext B w) := ⟨⟨w, Below.refl B w⟩⟩

theorem wp_region_ext {P : Program} {id : Nat} {Q : Exit → Act → World → Prop} {a : Act} {w : World} {l : List Oper} (B : Nat) (hm : P.follows .mixedOrders = true) (hB : Region.lexB .any l.toArray = true)
    (h : wpQuiet P l.toArray (fun w' => ∃ x : Ext B w, w' = x.val) (fun a' => ∀ w', (∃ x : Ext B w, w' = x.val) → Q .normal a' w') l a) : (Code.region id l.toArray true).wp P Q a w :=
  wp_region_quiet (C := fun w' => ∃ x : Ext B w, w' = x.val) hm hB ⟨⟨w.drew, (Below.refl B w).drew⟩, rfl⟩ (by simpa using h)

section
variable {B : Nat} {w : World}
/-- A cell below B, in whatever world of the class. -/
theorem ext_cell {p : Addr} {v : Value} (h : w.cell? p = some v) (hB : w.heap.size ≤ B) : ∀ x : Ext B w, x.val.cell? p = some v :=
  fun x => (x.is.cell (Nat.lt_of_lt_of_le (World.block_lt_of_cell? _ _ h) hB)).trans h
/-- A call that hands back v, in whatever world of the class. -/
theorem ext_call {P : Program} {f : FuncId} {args : Array Value} {v : Value} (x : Ext B w) (hB : B ≤ w.heap.size) (h : Calls P f args x.val fun e w' => e = .returned v ∧ Below x.val.heap.size x.val w') :
    Calls P f args x.val fun e w'' => e = .returned v ∧ ∃ y : Ext B w, w'' = y.val :=
  h.mono fun e w'' ⟨he, hb⟩ => ⟨he, ⟨w'', x.is.trans (hb.mono (Nat.le_trans hB x.is.size))⟩, rfl⟩
end

end Go.Proofs.YtgedlpdjnnbolaaDoor
