/-
  No cell of these rows narrows 'for every input' (looked for: loops, veiled, ifaces, maps, wideKeys, modest, calm, conditions, laid).
  DERIVED. THE GIVEN ROWS OF THIS SEAT. 10 by the template 'for every input the law returns true; each argument reads behind the call as it read before'; 0 by the template 'total and deterministic' (their statements: YtgedlpdjnnbolaaTotals.lean).
  GIVEN WITH THE SEED: the statements are not yours to turn. If you find one false, say at which input.
  Laid BY PROGRAM, IN A SANDBOX (cutbox-rows.mjs): the forced cells as the released guide's own fill.sh prints them over the translation 5be7e25d14d70f79… (all of the seat's roots in one cut). By AI agents, Wed Nov 11 2026. No macro, syntax, notation, axiom, sorry.
-/
import Derived.Test.YtgedlpdjnnbolaaChecked
import GoSem.Claim
import GoSem.ClaimJoined
import GoSem.ClaimMapViews
import Derived.JoinedTies
import Derived.KernelRfl
namespace Go.Proofs.Ytgedlpdjnnbolaa
/- THE CELL 'sum', in the pinned program and in every row, IS THE sha256 OF THE DUMP (.gsa) THAT YtgedlpdjnnbolaaProg.lean LOADS. Nothing in Lean hashes anything: it is a label: what it is worth is what the hold of that sum in a sandbox is worth. -/
noncomputable def Try.pinned : Pinned := { name := "ytgedlpdjnnbolaa", sum := "5be7e25d14d70f791cd3bbf002169b27165ae42c5da12326883bb57d7425e01d", checked := Try.checked }
namespace Rows
def none {H : Type} : Left H := { results := [], args := [] }

/-- 'laws.FnFilterMany': WHATEVER THE INPUT: true; the input reads as it did. -/
def fnFilterManySpec : ChangeSpec := { name := "fnFilterMany", fn := fun _ => fun
  | [d1, d2] => { results := [.lit (.bool true)], args := [d1, d2] }
  | _ => none }
def fnFilterManyRow : OpenClaim := { program := "ytgedlpdjnnbolaa", sum := "5be7e25d14d70f791cd3bbf002169b27165ae42c5da12326883bb57d7425e01d", func := "loop.example/chronicler/laws.FnFilterMany", spec := "fnFilterMany", apart := false }
def FnFilterManySaid : Prop := fnFilterManyRow.holds Try.pinned (OpenSpec.ofChange fnFilterManySpec)

/-- ITS FALSE NEIGHBOUR: 'it returns false'. Refute it at one input. -/
def fnFilterManyWrong : ChangeSpec := { name := "fnFilterMany", fn := fun _ => fun
  | [d1, d2] => { results := [.lit (.bool false)], args := [d1, d2] }
  | _ => none }
def FnFilterManyWrongFalsely : Prop := fnFilterManyRow.holds Try.pinned (OpenSpec.ofChange fnFilterManyWrong)

/-- 'laws.FnNameForm': WHATEVER THE INPUT: true; the input reads as it did. -/
def fnNameFormSpec : ChangeSpec := { name := "fnNameForm", fn := fun _ => fun
  | [d1, d2] => { results := [.lit (.bool true)], args := [d1, d2] }
  | _ => none }
def fnNameFormRow : OpenClaim := { program := "ytgedlpdjnnbolaa", sum := "5be7e25d14d70f791cd3bbf002169b27165ae42c5da12326883bb57d7425e01d", func := "loop.example/chronicler/laws.FnNameForm", spec := "fnNameForm", apart := false }
def FnNameFormSaid : Prop := fnNameFormRow.holds Try.pinned (OpenSpec.ofChange fnNameFormSpec)

/-- ITS FALSE NEIGHBOUR: 'it returns false'. Refute it at one input. -/
def fnNameFormWrong : ChangeSpec := { name := "fnNameForm", fn := fun _ => fun
  | [d1, d2] => { results := [.lit (.bool false)], args := [d1, d2] }
  | _ => none }
def FnNameFormWrongFalsely : Prop := fnNameFormRow.holds Try.pinned (OpenSpec.ofChange fnNameFormWrong)

/-- 'laws.FnExactNameOk': WHATEVER THE INPUT: true; the input reads as it did. -/
def fnExactNameOkSpec : ChangeSpec := { name := "fnExactNameOk", fn := fun _ => fun
  | [d] => { results := [.lit (.bool true)], args := [d] }
  | _ => none }
def fnExactNameOkRow : OpenClaim := { program := "ytgedlpdjnnbolaa", sum := "5be7e25d14d70f791cd3bbf002169b27165ae42c5da12326883bb57d7425e01d", func := "loop.example/chronicler/laws.FnExactNameOk", spec := "fnExactNameOk", apart := false }
def FnExactNameOkSaid : Prop := fnExactNameOkRow.holds Try.pinned (OpenSpec.ofChange fnExactNameOkSpec)

/-- ITS FALSE NEIGHBOUR: 'it returns false'. Refute it at one input. -/
def fnExactNameOkWrong : ChangeSpec := { name := "fnExactNameOk", fn := fun _ => fun
  | [d] => { results := [.lit (.bool false)], args := [d] }
  | _ => none }
def FnExactNameOkWrongFalsely : Prop := fnExactNameOkRow.holds Try.pinned (OpenSpec.ofChange fnExactNameOkWrong)

/-- 'laws.FnExactFilterOk': WHATEVER THE INPUT: true; the input reads as it did. -/
def fnExactFilterOkSpec : ChangeSpec := { name := "fnExactFilterOk", fn := fun _ => fun
  | [d] => { results := [.lit (.bool true)], args := [d] }
  | _ => none }
def fnExactFilterOkRow : OpenClaim := { program := "ytgedlpdjnnbolaa", sum := "5be7e25d14d70f791cd3bbf002169b27165ae42c5da12326883bb57d7425e01d", func := "loop.example/chronicler/laws.FnExactFilterOk", spec := "fnExactFilterOk", apart := false }
def FnExactFilterOkSaid : Prop := fnExactFilterOkRow.holds Try.pinned (OpenSpec.ofChange fnExactFilterOkSpec)

/-- ITS FALSE NEIGHBOUR: 'it returns false'. Refute it at one input. -/
def fnExactFilterOkWrong : ChangeSpec := { name := "fnExactFilterOk", fn := fun _ => fun
  | [d] => { results := [.lit (.bool false)], args := [d] }
  | _ => none }
def FnExactFilterOkWrongFalsely : Prop := fnExactFilterOkRow.holds Try.pinned (OpenSpec.ofChange fnExactFilterOkWrong)

/-- 'laws.FnFitsMore': WHATEVER THE INPUT: true; the input reads as it did. -/
def fnFitsMoreSpec : ChangeSpec := { name := "fnFitsMore", fn := fun _ => fun
  | [d1, d2] => { results := [.lit (.bool true)], args := [d1, d2] }
  | _ => none }
def fnFitsMoreRow : OpenClaim := { program := "ytgedlpdjnnbolaa", sum := "5be7e25d14d70f791cd3bbf002169b27165ae42c5da12326883bb57d7425e01d", func := "loop.example/chronicler/laws.FnFitsMore", spec := "fnFitsMore", apart := false }
def FnFitsMoreSaid : Prop := fnFitsMoreRow.holds Try.pinned (OpenSpec.ofChange fnFitsMoreSpec)

/-- ITS FALSE NEIGHBOUR: 'it returns false'. Refute it at one input. -/
def fnFitsMoreWrong : ChangeSpec := { name := "fnFitsMore", fn := fun _ => fun
  | [d1, d2] => { results := [.lit (.bool false)], args := [d1, d2] }
  | _ => none }
def FnFitsMoreWrongFalsely : Prop := fnFitsMoreRow.holds Try.pinned (OpenSpec.ofChange fnFitsMoreWrong)

/-- 'laws.FnFitsOrder': WHATEVER THE INPUT: true; the input reads as it did. -/
def fnFitsOrderSpec : ChangeSpec := { name := "fnFitsOrder", fn := fun _ => fun
  | [d] => { results := [.lit (.bool true)], args := [d] }
  | _ => none }
def fnFitsOrderRow : OpenClaim := { program := "ytgedlpdjnnbolaa", sum := "5be7e25d14d70f791cd3bbf002169b27165ae42c5da12326883bb57d7425e01d", func := "loop.example/chronicler/laws.FnFitsOrder", spec := "fnFitsOrder", apart := false }
def FnFitsOrderSaid : Prop := fnFitsOrderRow.holds Try.pinned (OpenSpec.ofChange fnFitsOrderSpec)

/-- ITS FALSE NEIGHBOUR: 'it returns false'. Refute it at one input. -/
def fnFitsOrderWrong : ChangeSpec := { name := "fnFitsOrder", fn := fun _ => fun
  | [d] => { results := [.lit (.bool false)], args := [d] }
  | _ => none }
def FnFitsOrderWrongFalsely : Prop := fnFitsOrderRow.holds Try.pinned (OpenSpec.ofChange fnFitsOrderWrong)

/-- 'laws.FnFits': WHATEVER THE INPUT: true; the input reads as it did. -/
def fnFitsSpec : ChangeSpec := { name := "fnFits", fn := fun _ => fun
  | [d] => { results := [.lit (.bool true)], args := [d] }
  | _ => none }
def fnFitsRow : OpenClaim := { program := "ytgedlpdjnnbolaa", sum := "5be7e25d14d70f791cd3bbf002169b27165ae42c5da12326883bb57d7425e01d", func := "loop.example/chronicler/laws.FnFits", spec := "fnFits", apart := false }
def FnFitsSaid : Prop := fnFitsRow.holds Try.pinned (OpenSpec.ofChange fnFitsSpec)

/-- ITS FALSE NEIGHBOUR: 'it returns false'. Refute it at one input. -/
def fnFitsWrong : ChangeSpec := { name := "fnFits", fn := fun _ => fun
  | [d] => { results := [.lit (.bool false)], args := [d] }
  | _ => none }
def FnFitsWrongFalsely : Prop := fnFitsRow.holds Try.pinned (OpenSpec.ofChange fnFitsWrong)

/-- 'laws.FnExactNameText': WHATEVER THE INPUT: true; the input reads as it did. -/
def fnExactNameTextSpec : ChangeSpec := { name := "fnExactNameText", fn := fun _ => fun
  | [d] => { results := [.lit (.bool true)], args := [d] }
  | _ => none }
def fnExactNameTextRow : OpenClaim := { program := "ytgedlpdjnnbolaa", sum := "5be7e25d14d70f791cd3bbf002169b27165ae42c5da12326883bb57d7425e01d", func := "loop.example/chronicler/laws.FnExactNameText", spec := "fnExactNameText", inPlace := ["internal/abi.NoEscape", "internal/bytealg.MakeNoZero"], apart := false }
def FnExactNameTextSaid : Prop := fnExactNameTextRow.holds Try.pinned (OpenSpec.ofChange fnExactNameTextSpec)

/-- ITS FALSE NEIGHBOUR: 'it returns false'. Refute it at one input. -/
def fnExactNameTextWrong : ChangeSpec := { name := "fnExactNameText", fn := fun _ => fun
  | [d] => { results := [.lit (.bool false)], args := [d] }
  | _ => none }
def FnExactNameTextWrongFalsely : Prop := fnExactNameTextRow.holds Try.pinned (OpenSpec.ofChange fnExactNameTextWrong)

/-- 'laws.FnExactFilterFits': WHATEVER THE INPUT: true; the input reads as it did. -/
def fnExactFilterFitsSpec : ChangeSpec := { name := "fnExactFilterFits", fn := fun _ => fun
  | [d1, d2] => { results := [.lit (.bool true)], args := [d1, d2] }
  | _ => none }
def fnExactFilterFitsRow : OpenClaim := { program := "ytgedlpdjnnbolaa", sum := "5be7e25d14d70f791cd3bbf002169b27165ae42c5da12326883bb57d7425e01d", func := "loop.example/chronicler/laws.FnExactFilterFits", spec := "fnExactFilterFits", apart := false }
def FnExactFilterFitsSaid : Prop := fnExactFilterFitsRow.holds Try.pinned (OpenSpec.ofChange fnExactFilterFitsSpec)

/-- ITS FALSE NEIGHBOUR: 'it returns false'. Refute it at one input. -/
def fnExactFilterFitsWrong : ChangeSpec := { name := "fnExactFilterFits", fn := fun _ => fun
  | [d1, d2] => { results := [.lit (.bool false)], args := [d1, d2] }
  | _ => none }
def FnExactFilterFitsWrongFalsely : Prop := fnExactFilterFitsRow.holds Try.pinned (OpenSpec.ofChange fnExactFilterFitsWrong)

/-- 'laws.FnExactFilterText': WHATEVER THE INPUT: true; the input reads as it did. -/
def fnExactFilterTextSpec : ChangeSpec := { name := "fnExactFilterText", fn := fun _ => fun
  | [d] => { results := [.lit (.bool true)], args := [d] }
  | _ => none }
def fnExactFilterTextRow : OpenClaim := { program := "ytgedlpdjnnbolaa", sum := "5be7e25d14d70f791cd3bbf002169b27165ae42c5da12326883bb57d7425e01d", func := "loop.example/chronicler/laws.FnExactFilterText", spec := "fnExactFilterText", inPlace := ["internal/abi.NoEscape", "internal/bytealg.MakeNoZero"], apart := false }
def FnExactFilterTextSaid : Prop := fnExactFilterTextRow.holds Try.pinned (OpenSpec.ofChange fnExactFilterTextSpec)

/-- ITS FALSE NEIGHBOUR: 'it returns false'. Refute it at one input. -/
def fnExactFilterTextWrong : ChangeSpec := { name := "fnExactFilterText", fn := fun _ => fun
  | [d] => { results := [.lit (.bool false)], args := [d] }
  | _ => none }
def FnExactFilterTextWrongFalsely : Prop := fnExactFilterTextRow.holds Try.pinned (OpenSpec.ofChange fnExactFilterTextWrong)

/- THE SECOND FORM. 'bulk': how many values and letters a reading holds, each counted each time it is reached (what is shared counts as often as it is met; a slice's spare places count too). A statement '..UptoSaid' is the law's where the arguments, and the package variables that the reading takes, are together of bulk at most 1048576: NARROWER than '..Said'. Prove '..Said' where nothing that the law and all that it calls make is longer than what came in: it says more and counts as full. Else prove '..UptoSaid'. A law counts once. -/
mutual
def uptoBulk {H : Type} : DataW H → Nat
  | .lit (.string bytes) => bytes.length + 1
  | .lit _ => 1
  | .nil => 1
  | .ptr d => uptoBulk d + 1
  | .slice elems spare => uptoBulkAll elems + uptoBulkAll spare + 1
  | .agg parts => uptoBulkAll parts + 1
  | .iface _ d => uptoBulk d + 1
  | .map entries => uptoBulkEntries entries + 1
  | .held _ => 1
def uptoBulkAll {H : Type} : List (DataW H) → Nat
  | [] => 0
  | d :: r => uptoBulk d + uptoBulkAll r
def uptoBulkEntries {H : Type} : List (Lit × DataW H) → Nat
  | [] => 0
  | x :: r => uptoBulkEntry x + uptoBulkEntries r
def uptoBulkEntry {H : Type} : Lit × DataW H → Nat
  | (.string bytes, d) => bytes.length + uptoBulk d + 1
  | (_, d) => uptoBulk d + 1
 end
def uptoSmall : (H : Type) → List (DataW H) → Bool := fun _ ds => decide (uptoBulkAll ds ≤ 1048576)
def OpenSpec.upto (s : _root_.Go.ChangeSpec) : _root_.Go.OpenSpec := { _root_.Go.OpenSpec.ofChange s with cond := some uptoSmall }

/-- 'laws.FnFilterMany', WHERE WHAT IT READS IS OF BULK AT MOST 1048576: true; the input reads as it did. -/
def fnFilterManyUptoRow : OpenClaim := { program := "ytgedlpdjnnbolaa", sum := "5be7e25d14d70f791cd3bbf002169b27165ae42c5da12326883bb57d7425e01d", func := "loop.example/chronicler/laws.FnFilterMany", spec := "fnFilterMany", apart := false, narrowed := true }
def FnFilterManyUptoSaid : Prop := fnFilterManyUptoRow.holds Try.pinned (OpenSpec.upto fnFilterManySpec)

/-- 'laws.FnNameForm', WHERE WHAT IT READS IS OF BULK AT MOST 1048576: true; the input reads as it did. -/
def fnNameFormUptoRow : OpenClaim := { program := "ytgedlpdjnnbolaa", sum := "5be7e25d14d70f791cd3bbf002169b27165ae42c5da12326883bb57d7425e01d", func := "loop.example/chronicler/laws.FnNameForm", spec := "fnNameForm", apart := false, narrowed := true }
def FnNameFormUptoSaid : Prop := fnNameFormUptoRow.holds Try.pinned (OpenSpec.upto fnNameFormSpec)

/-- 'laws.FnExactNameOk', WHERE WHAT IT READS IS OF BULK AT MOST 1048576: true; the input reads as it did. -/
def fnExactNameOkUptoRow : OpenClaim := { program := "ytgedlpdjnnbolaa", sum := "5be7e25d14d70f791cd3bbf002169b27165ae42c5da12326883bb57d7425e01d", func := "loop.example/chronicler/laws.FnExactNameOk", spec := "fnExactNameOk", apart := false, narrowed := true }
def FnExactNameOkUptoSaid : Prop := fnExactNameOkUptoRow.holds Try.pinned (OpenSpec.upto fnExactNameOkSpec)

/-- 'laws.FnExactFilterOk', WHERE WHAT IT READS IS OF BULK AT MOST 1048576: true; the input reads as it did. -/
def fnExactFilterOkUptoRow : OpenClaim := { program := "ytgedlpdjnnbolaa", sum := "5be7e25d14d70f791cd3bbf002169b27165ae42c5da12326883bb57d7425e01d", func := "loop.example/chronicler/laws.FnExactFilterOk", spec := "fnExactFilterOk", apart := false, narrowed := true }
def FnExactFilterOkUptoSaid : Prop := fnExactFilterOkUptoRow.holds Try.pinned (OpenSpec.upto fnExactFilterOkSpec)

/-- 'laws.FnFitsMore', WHERE WHAT IT READS IS OF BULK AT MOST 1048576: true; the input reads as it did. -/
def fnFitsMoreUptoRow : OpenClaim := { program := "ytgedlpdjnnbolaa", sum := "5be7e25d14d70f791cd3bbf002169b27165ae42c5da12326883bb57d7425e01d", func := "loop.example/chronicler/laws.FnFitsMore", spec := "fnFitsMore", apart := false, narrowed := true }
def FnFitsMoreUptoSaid : Prop := fnFitsMoreUptoRow.holds Try.pinned (OpenSpec.upto fnFitsMoreSpec)

/-- 'laws.FnFitsOrder', WHERE WHAT IT READS IS OF BULK AT MOST 1048576: true; the input reads as it did. -/
def fnFitsOrderUptoRow : OpenClaim := { program := "ytgedlpdjnnbolaa", sum := "5be7e25d14d70f791cd3bbf002169b27165ae42c5da12326883bb57d7425e01d", func := "loop.example/chronicler/laws.FnFitsOrder", spec := "fnFitsOrder", apart := false, narrowed := true }
def FnFitsOrderUptoSaid : Prop := fnFitsOrderUptoRow.holds Try.pinned (OpenSpec.upto fnFitsOrderSpec)

/-- 'laws.FnFits', WHERE WHAT IT READS IS OF BULK AT MOST 1048576: true; the input reads as it did. -/
def fnFitsUptoRow : OpenClaim := { program := "ytgedlpdjnnbolaa", sum := "5be7e25d14d70f791cd3bbf002169b27165ae42c5da12326883bb57d7425e01d", func := "loop.example/chronicler/laws.FnFits", spec := "fnFits", apart := false, narrowed := true }
def FnFitsUptoSaid : Prop := fnFitsUptoRow.holds Try.pinned (OpenSpec.upto fnFitsSpec)

/-- 'laws.FnExactNameText', WHERE WHAT IT READS IS OF BULK AT MOST 1048576: true; the input reads as it did. -/
def fnExactNameTextUptoRow : OpenClaim := { program := "ytgedlpdjnnbolaa", sum := "5be7e25d14d70f791cd3bbf002169b27165ae42c5da12326883bb57d7425e01d", func := "loop.example/chronicler/laws.FnExactNameText", spec := "fnExactNameText", inPlace := ["internal/abi.NoEscape", "internal/bytealg.MakeNoZero"], apart := false, narrowed := true }
def FnExactNameTextUptoSaid : Prop := fnExactNameTextUptoRow.holds Try.pinned (OpenSpec.upto fnExactNameTextSpec)

/-- 'laws.FnExactFilterFits', WHERE WHAT IT READS IS OF BULK AT MOST 1048576: true; the input reads as it did. -/
def fnExactFilterFitsUptoRow : OpenClaim := { program := "ytgedlpdjnnbolaa", sum := "5be7e25d14d70f791cd3bbf002169b27165ae42c5da12326883bb57d7425e01d", func := "loop.example/chronicler/laws.FnExactFilterFits", spec := "fnExactFilterFits", apart := false, narrowed := true }
def FnExactFilterFitsUptoSaid : Prop := fnExactFilterFitsUptoRow.holds Try.pinned (OpenSpec.upto fnExactFilterFitsSpec)

/-- 'laws.FnExactFilterText', WHERE WHAT IT READS IS OF BULK AT MOST 1048576: true; the input reads as it did. -/
def fnExactFilterTextUptoRow : OpenClaim := { program := "ytgedlpdjnnbolaa", sum := "5be7e25d14d70f791cd3bbf002169b27165ae42c5da12326883bb57d7425e01d", func := "loop.example/chronicler/laws.FnExactFilterText", spec := "fnExactFilterText", inPlace := ["internal/abi.NoEscape", "internal/bytealg.MakeNoZero"], apart := false, narrowed := true }
def FnExactFilterTextUptoSaid : Prop := fnExactFilterTextUptoRow.holds Try.pinned (OpenSpec.upto fnExactFilterTextSpec)

end Rows
end Go.Proofs.Ytgedlpdjnnbolaa
