/-
  WALKS: drawn names and filters.
-/
import Derived.Test.YtgedlpdjnnbolaaDoorDrawFilter
namespace Go.Proofs.YtgedlpdjnnbolaaDoor
set_option linter.unusedVariables false
open Go.RowKit

def DrawnN (w : World) (e : Ending) (w' : World) : Prop :=
  ∃ (A : Option Addr) (c : Nat) (l : List PT.Tag), e = .returned (.slice A l.length c) ∧ l.length ≤ 6 ∧ Small l ∧ w'.ownsRow w.heap.size 42 2 (.slice A l.length c) l.length (tgs l) ∧ Below w.heap.size w w'
def DrawnF (w : World) (e : Ending) (w' : World) : Prop :=
  ∃ (A : Option Addr) (c : Nat) (l : List PT.Cond), e = .returned (.slice A l.length c) ∧ l.length ≤ 5 ∧ SmallC l ∧ w'.ownsRow w.heap.size 52 3 (.slice A l.length c) l.length (cnds l) ∧ Below w.heap.size w w'

end Go.Proofs.YtgedlpdjnnbolaaDoor
