/-
  No cell of these rows narrows 'for every input' (looked for: loops, veiled, ifaces, maps, wideKeys, modest, calm, conditions, laid).
  DERIVED. THE GIVEN ROWS OF THIS SEAT. 13 by the template 'for every input the law returns true; each argument reads behind the call as it read before'; 0 by the template 'total and deterministic' (their statements: YthmmcnabfmegfaaTotals.lean).
  GIVEN WITH THE SEED: the statements are not yours to turn. If you find one false, say at which input.
  Laid BY PROGRAM, IN A SANDBOX (cutbox-rows.mjs): the forced cells as the released guide's own fill.sh prints them over the translation e4e589876f797f0c… (all of the seat's roots in one cut). By AI agents, Wed Nov 11 2026. No macro, syntax, notation, axiom, sorry.
-/
import Derived.Test.YthmmcnabfmegfaaChecked
import GoSem.Claim
import GoSem.ClaimJoined
import GoSem.ClaimMapViews
import Derived.JoinedTies
import Derived.KernelRfl
namespace Go.Proofs.Ythmmcnabfmegfaa
/- THE CELL 'sum', in the pinned program and in every row, IS THE sha256 OF THE DUMP (.gsa) THAT YthmmcnabfmegfaaProg.lean LOADS. Nothing in Lean hashes anything: it is a label: what it is worth is what the hold of that sum in a sandbox is worth. -/
noncomputable def Try.pinned : Pinned := { name := "ythmmcnabfmegfaa", sum := "e4e589876f797f0ce5a321ed2f1152e31eb255618338962fbd00cfeb13e0f503", checked := Try.checked }
namespace Rows
def none {H : Type} : Left H := { results := [], args := [] }

/-- 'laws.FnExactConstants': WHATEVER THE INPUT: true; the input reads as it did. -/
def fnExactConstantsSpec : ChangeSpec := { name := "fnExactConstants", fn := fun _ => fun
  | [] => { results := [.lit (.bool true)], args := [] }
  | _ => none }
def fnExactConstantsRow : OpenClaim := { program := "ythmmcnabfmegfaa", sum := "e4e589876f797f0ce5a321ed2f1152e31eb255618338962fbd00cfeb13e0f503", func := "loop.example/chronicler/laws.FnExactConstants", spec := "fnExactConstants", apart := false }
def FnExactConstantsSaid : Prop := fnExactConstantsRow.holds Try.pinned (OpenSpec.ofChange fnExactConstantsSpec)

/-- ITS FALSE NEIGHBOUR: 'it returns false'. Refute it at one input. -/
def fnExactConstantsWrong : ChangeSpec := { name := "fnExactConstants", fn := fun _ => fun
  | [] => { results := [.lit (.bool false)], args := [] }
  | _ => none }
def FnExactConstantsWrongFalsely : Prop := fnExactConstantsRow.holds Try.pinned (OpenSpec.ofChange fnExactConstantsWrong)

/-- 'laws.FnExactNumZag': WHATEVER THE INPUT: true; the input reads as it did. -/
def fnExactNumZagSpec : ChangeSpec := { name := "fnExactNumZag", fn := fun _ => fun
  | [d] => { results := [.lit (.bool true)], args := [d] }
  | _ => none }
def fnExactNumZagRow : OpenClaim := { program := "ythmmcnabfmegfaa", sum := "e4e589876f797f0ce5a321ed2f1152e31eb255618338962fbd00cfeb13e0f503", func := "loop.example/chronicler/laws.FnExactNumZag", spec := "fnExactNumZag", apart := false }
def FnExactNumZagSaid : Prop := fnExactNumZagRow.holds Try.pinned (OpenSpec.ofChange fnExactNumZagSpec)

/-- ITS FALSE NEIGHBOUR: 'it returns false'. Refute it at one input. -/
def fnExactNumZagWrong : ChangeSpec := { name := "fnExactNumZag", fn := fun _ => fun
  | [d] => { results := [.lit (.bool false)], args := [d] }
  | _ => none }
def FnExactNumZagWrongFalsely : Prop := fnExactNumZagRow.holds Try.pinned (OpenSpec.ofChange fnExactNumZagWrong)

/-- 'laws.FnExactNumZig': WHATEVER THE INPUT: true; the input reads as it did. -/
def fnExactNumZigSpec : ChangeSpec := { name := "fnExactNumZig", fn := fun _ => fun
  | [d] => { results := [.lit (.bool true)], args := [d] }
  | _ => none }
def fnExactNumZigRow : OpenClaim := { program := "ythmmcnabfmegfaa", sum := "e4e589876f797f0ce5a321ed2f1152e31eb255618338962fbd00cfeb13e0f503", func := "loop.example/chronicler/laws.FnExactNumZig", spec := "fnExactNumZig", apart := false }
def FnExactNumZigSaid : Prop := fnExactNumZigRow.holds Try.pinned (OpenSpec.ofChange fnExactNumZigSpec)

/-- ITS FALSE NEIGHBOUR: 'it returns false'. Refute it at one input. -/
def fnExactNumZigWrong : ChangeSpec := { name := "fnExactNumZig", fn := fun _ => fun
  | [d] => { results := [.lit (.bool false)], args := [d] }
  | _ => none }
def FnExactNumZigWrongFalsely : Prop := fnExactNumZigRow.holds Try.pinned (OpenSpec.ofChange fnExactNumZigWrong)

/-- 'laws.FnZigOrder': WHATEVER THE INPUT: true; the input reads as it did. -/
def fnZigOrderSpec : ChangeSpec := { name := "fnZigOrder", fn := fun _ => fun
  | [d1, d2] => { results := [.lit (.bool true)], args := [d1, d2] }
  | _ => none }
def fnZigOrderRow : OpenClaim := { program := "ythmmcnabfmegfaa", sum := "e4e589876f797f0ce5a321ed2f1152e31eb255618338962fbd00cfeb13e0f503", func := "loop.example/chronicler/laws.FnZigOrder", spec := "fnZigOrder", apart := false }
def FnZigOrderSaid : Prop := fnZigOrderRow.holds Try.pinned (OpenSpec.ofChange fnZigOrderSpec)

/-- ITS FALSE NEIGHBOUR: 'it returns false'. Refute it at one input. -/
def fnZigOrderWrong : ChangeSpec := { name := "fnZigOrder", fn := fun _ => fun
  | [d1, d2] => { results := [.lit (.bool false)], args := [d1, d2] }
  | _ => none }
def FnZigOrderWrongFalsely : Prop := fnZigOrderRow.holds Try.pinned (OpenSpec.ofChange fnZigOrderWrong)

/-- 'laws.FnZagZig': WHATEVER THE INPUT: true; the input reads as it did. -/
def fnZagZigSpec : ChangeSpec := { name := "fnZagZig", fn := fun _ => fun
  | [d] => { results := [.lit (.bool true)], args := [d] }
  | _ => none }
def fnZagZigRow : OpenClaim := { program := "ythmmcnabfmegfaa", sum := "e4e589876f797f0ce5a321ed2f1152e31eb255618338962fbd00cfeb13e0f503", func := "loop.example/chronicler/laws.FnZagZig", spec := "fnZagZig", apart := false }
def FnZagZigSaid : Prop := fnZagZigRow.holds Try.pinned (OpenSpec.ofChange fnZagZigSpec)

/-- ITS FALSE NEIGHBOUR: 'it returns false'. Refute it at one input. -/
def fnZagZigWrong : ChangeSpec := { name := "fnZagZig", fn := fun _ => fun
  | [d] => { results := [.lit (.bool false)], args := [d] }
  | _ => none }
def FnZagZigWrongFalsely : Prop := fnZagZigRow.holds Try.pinned (OpenSpec.ofChange fnZagZigWrong)

/-- 'laws.FnZigZag': WHATEVER THE INPUT: true; the input reads as it did. -/
def fnZigZagSpec : ChangeSpec := { name := "fnZigZag", fn := fun _ => fun
  | [d] => { results := [.lit (.bool true)], args := [d] }
  | _ => none }
def fnZigZagRow : OpenClaim := { program := "ythmmcnabfmegfaa", sum := "e4e589876f797f0ce5a321ed2f1152e31eb255618338962fbd00cfeb13e0f503", func := "loop.example/chronicler/laws.FnZigZag", spec := "fnZigZag", apart := false }
def FnZigZagSaid : Prop := fnZigZagRow.holds Try.pinned (OpenSpec.ofChange fnZigZagSpec)

/-- ITS FALSE NEIGHBOUR: 'it returns false'. Refute it at one input. -/
def fnZigZagWrong : ChangeSpec := { name := "fnZigZag", fn := fun _ => fun
  | [d] => { results := [.lit (.bool false)], args := [d] }
  | _ => none }
def FnZigZagWrongFalsely : Prop := fnZigZagRow.holds Try.pinned (OpenSpec.ofChange fnZigZagWrong)

/-- 'laws.FnExactNumsPack': WHATEVER THE INPUT: true; the input reads as it did. -/
def fnExactNumsPackSpec : ChangeSpec := { name := "fnExactNumsPack", fn := fun _ => fun
  | [d] => { results := [.lit (.bool true)], args := [d] }
  | _ => none }
def fnExactNumsPackRow : OpenClaim := { program := "ythmmcnabfmegfaa", sum := "e4e589876f797f0ce5a321ed2f1152e31eb255618338962fbd00cfeb13e0f503", func := "loop.example/chronicler/laws.FnExactNumsPack", spec := "fnExactNumsPack", apart := false }
def FnExactNumsPackSaid : Prop := fnExactNumsPackRow.holds Try.pinned (OpenSpec.ofChange fnExactNumsPackSpec)

/-- ITS FALSE NEIGHBOUR: 'it returns false'. Refute it at one input. -/
def fnExactNumsPackWrong : ChangeSpec := { name := "fnExactNumsPack", fn := fun _ => fun
  | [d] => { results := [.lit (.bool false)], args := [d] }
  | _ => none }
def FnExactNumsPackWrongFalsely : Prop := fnExactNumsPackRow.holds Try.pinned (OpenSpec.ofChange fnExactNumsPackWrong)

/-- 'laws.FnNumsEven': WHATEVER THE INPUT: true; the input reads as it did. -/
def fnNumsEvenSpec : ChangeSpec := { name := "fnNumsEven", fn := fun _ => fun
  | [d1, d2] => { results := [.lit (.bool true)], args := [d1, d2] }
  | _ => none }
def fnNumsEvenRow : OpenClaim := { program := "ythmmcnabfmegfaa", sum := "e4e589876f797f0ce5a321ed2f1152e31eb255618338962fbd00cfeb13e0f503", func := "loop.example/chronicler/laws.FnNumsEven", spec := "fnNumsEven", apart := false }
def FnNumsEvenSaid : Prop := fnNumsEvenRow.holds Try.pinned (OpenSpec.ofChange fnNumsEvenSpec)

/-- ITS FALSE NEIGHBOUR: 'it returns false'. Refute it at one input. -/
def fnNumsEvenWrong : ChangeSpec := { name := "fnNumsEven", fn := fun _ => fun
  | [d1, d2] => { results := [.lit (.bool false)], args := [d1, d2] }
  | _ => none }
def FnNumsEvenWrongFalsely : Prop := fnNumsEvenRow.holds Try.pinned (OpenSpec.ofChange fnNumsEvenWrong)

/-- 'laws.FnNumsTwo': WHATEVER THE INPUT: true; the input reads as it did. -/
def fnNumsTwoSpec : ChangeSpec := { name := "fnNumsTwo", fn := fun _ => fun
  | [d1, d2] => { results := [.lit (.bool true)], args := [d1, d2] }
  | _ => none }
def fnNumsTwoRow : OpenClaim := { program := "ythmmcnabfmegfaa", sum := "e4e589876f797f0ce5a321ed2f1152e31eb255618338962fbd00cfeb13e0f503", func := "loop.example/chronicler/laws.FnNumsTwo", spec := "fnNumsTwo", apart := false }
def FnNumsTwoSaid : Prop := fnNumsTwoRow.holds Try.pinned (OpenSpec.ofChange fnNumsTwoSpec)

/-- ITS FALSE NEIGHBOUR: 'it returns false'. Refute it at one input. -/
def fnNumsTwoWrong : ChangeSpec := { name := "fnNumsTwo", fn := fun _ => fun
  | [d1, d2] => { results := [.lit (.bool false)], args := [d1, d2] }
  | _ => none }
def FnNumsTwoWrongFalsely : Prop := fnNumsTwoRow.holds Try.pinned (OpenSpec.ofChange fnNumsTwoWrong)

/-- 'laws.FnExactNumsUnpack': WHATEVER THE INPUT: true; the input reads as it did. -/
def fnExactNumsUnpackSpec : ChangeSpec := { name := "fnExactNumsUnpack", fn := fun _ => fun
  | [d] => { results := [.lit (.bool true)], args := [d] }
  | _ => none }
def fnExactNumsUnpackRow : OpenClaim := { program := "ythmmcnabfmegfaa", sum := "e4e589876f797f0ce5a321ed2f1152e31eb255618338962fbd00cfeb13e0f503", func := "loop.example/chronicler/laws.FnExactNumsUnpack", spec := "fnExactNumsUnpack", apart := false }
def FnExactNumsUnpackSaid : Prop := fnExactNumsUnpackRow.holds Try.pinned (OpenSpec.ofChange fnExactNumsUnpackSpec)

/-- ITS FALSE NEIGHBOUR: 'it returns false'. Refute it at one input. -/
def fnExactNumsUnpackWrong : ChangeSpec := { name := "fnExactNumsUnpack", fn := fun _ => fun
  | [d] => { results := [.lit (.bool false)], args := [d] }
  | _ => none }
def FnExactNumsUnpackWrongFalsely : Prop := fnExactNumsUnpackRow.holds Try.pinned (OpenSpec.ofChange fnExactNumsUnpackWrong)

/-- 'laws.FnNumsBack': WHATEVER THE INPUT: true; the input reads as it did. -/
def fnNumsBackSpec : ChangeSpec := { name := "fnNumsBack", fn := fun _ => fun
  | [d] => { results := [.lit (.bool true)], args := [d] }
  | _ => none }
def fnNumsBackRow : OpenClaim := { program := "ythmmcnabfmegfaa", sum := "e4e589876f797f0ce5a321ed2f1152e31eb255618338962fbd00cfeb13e0f503", func := "loop.example/chronicler/laws.FnNumsBack", spec := "fnNumsBack", apart := false }
def FnNumsBackSaid : Prop := fnNumsBackRow.holds Try.pinned (OpenSpec.ofChange fnNumsBackSpec)

/-- ITS FALSE NEIGHBOUR: 'it returns false'. Refute it at one input. -/
def fnNumsBackWrong : ChangeSpec := { name := "fnNumsBack", fn := fun _ => fun
  | [d] => { results := [.lit (.bool false)], args := [d] }
  | _ => none }
def FnNumsBackWrongFalsely : Prop := fnNumsBackRow.holds Try.pinned (OpenSpec.ofChange fnNumsBackWrong)

/-- 'laws.FnNumsCut': WHATEVER THE INPUT: true; the input reads as it did. -/
def fnNumsCutSpec : ChangeSpec := { name := "fnNumsCut", fn := fun _ => fun
  | [d1, d2] => { results := [.lit (.bool true)], args := [d1, d2] }
  | _ => none }
def fnNumsCutRow : OpenClaim := { program := "ythmmcnabfmegfaa", sum := "e4e589876f797f0ce5a321ed2f1152e31eb255618338962fbd00cfeb13e0f503", func := "loop.example/chronicler/laws.FnNumsCut", spec := "fnNumsCut", apart := false }
def FnNumsCutSaid : Prop := fnNumsCutRow.holds Try.pinned (OpenSpec.ofChange fnNumsCutSpec)

/-- ITS FALSE NEIGHBOUR: 'it returns false'. Refute it at one input. -/
def fnNumsCutWrong : ChangeSpec := { name := "fnNumsCut", fn := fun _ => fun
  | [d1, d2] => { results := [.lit (.bool false)], args := [d1, d2] }
  | _ => none }
def FnNumsCutWrongFalsely : Prop := fnNumsCutRow.holds Try.pinned (OpenSpec.ofChange fnNumsCutWrong)

/-- 'laws.FnNumsStrict': WHATEVER THE INPUT: true; the input reads as it did. -/
def fnNumsStrictSpec : ChangeSpec := { name := "fnNumsStrict", fn := fun _ => fun
  | [d] => { results := [.lit (.bool true)], args := [d] }
  | _ => none }
def fnNumsStrictRow : OpenClaim := { program := "ythmmcnabfmegfaa", sum := "e4e589876f797f0ce5a321ed2f1152e31eb255618338962fbd00cfeb13e0f503", func := "loop.example/chronicler/laws.FnNumsStrict", spec := "fnNumsStrict", apart := false }
def FnNumsStrictSaid : Prop := fnNumsStrictRow.holds Try.pinned (OpenSpec.ofChange fnNumsStrictSpec)

/-- ITS FALSE NEIGHBOUR: 'it returns false'. Refute it at one input. -/
def fnNumsStrictWrong : ChangeSpec := { name := "fnNumsStrict", fn := fun _ => fun
  | [d] => { results := [.lit (.bool false)], args := [d] }
  | _ => none }
def FnNumsStrictWrongFalsely : Prop := fnNumsStrictRow.holds Try.pinned (OpenSpec.ofChange fnNumsStrictWrong)

/- THE SECOND FORM. 'bulk': how many values and letters a reading holds, each counted each time it is reached (what is shared counts as often as it is met; a slice's spare places count too). A statement '..UptoSaid' is the law's where the arguments, and the package variables that the reading takes, are together of bulk at most 1048576: NARROWER than '..Said'. Prove '..Said' where nothing that the law and all that it calls make is longer than what came in: it says more and counts as full. Else prove '..UptoSaid'. A law counts once. -/
mutual
def uptoBulk {H : Type} : DataW H → Nat
  | .lit (.string bytes) => bytes.length + 1
  | .lit _ => 1
  | .nil => 1
  | .ptr d => uptoBulk d + 1
  | .slice elems spare => uptoBulkAll elems + uptoBulkAll spare + 1
  | .agg parts => uptoBulkAll parts + 1
  | .iface _ d => uptoBulk d + 1
  | .map entries => uptoBulkEntries entries + 1
  | .held _ => 1
def uptoBulkAll {H : Type} : List (DataW H) → Nat
  | [] => 0
  | d :: r => uptoBulk d + uptoBulkAll r
def uptoBulkEntries {H : Type} : List (Lit × DataW H) → Nat
  | [] => 0
  | x :: r => uptoBulkEntry x + uptoBulkEntries r
def uptoBulkEntry {H : Type} : Lit × DataW H → Nat
  | (.string bytes, d) => bytes.length + uptoBulk d + 1
  | (_, d) => uptoBulk d + 1
 end
def uptoSmall : (H : Type) → List (DataW H) → Bool := fun _ ds => decide (uptoBulkAll ds ≤ 1048576)
def OpenSpec.upto (s : _root_.Go.ChangeSpec) : _root_.Go.OpenSpec := { _root_.Go.OpenSpec.ofChange s with cond := some uptoSmall }

/-- 'laws.FnExactConstants', WHERE WHAT IT READS IS OF BULK AT MOST 1048576: true; the input reads as it did. -/
def fnExactConstantsUptoRow : OpenClaim := { program := "ythmmcnabfmegfaa", sum := "e4e589876f797f0ce5a321ed2f1152e31eb255618338962fbd00cfeb13e0f503", func := "loop.example/chronicler/laws.FnExactConstants", spec := "fnExactConstants", apart := false, narrowed := true }
def FnExactConstantsUptoSaid : Prop := fnExactConstantsUptoRow.holds Try.pinned (OpenSpec.upto fnExactConstantsSpec)

/-- 'laws.FnExactNumZag', WHERE WHAT IT READS IS OF BULK AT MOST 1048576: true; the input reads as it did. -/
def fnExactNumZagUptoRow : OpenClaim := { program := "ythmmcnabfmegfaa", sum := "e4e589876f797f0ce5a321ed2f1152e31eb255618338962fbd00cfeb13e0f503", func := "loop.example/chronicler/laws.FnExactNumZag", spec := "fnExactNumZag", apart := false, narrowed := true }
def FnExactNumZagUptoSaid : Prop := fnExactNumZagUptoRow.holds Try.pinned (OpenSpec.upto fnExactNumZagSpec)

/-- 'laws.FnExactNumZig', WHERE WHAT IT READS IS OF BULK AT MOST 1048576: true; the input reads as it did. -/
def fnExactNumZigUptoRow : OpenClaim := { program := "ythmmcnabfmegfaa", sum := "e4e589876f797f0ce5a321ed2f1152e31eb255618338962fbd00cfeb13e0f503", func := "loop.example/chronicler/laws.FnExactNumZig", spec := "fnExactNumZig", apart := false, narrowed := true }
def FnExactNumZigUptoSaid : Prop := fnExactNumZigUptoRow.holds Try.pinned (OpenSpec.upto fnExactNumZigSpec)

/-- 'laws.FnZigOrder', WHERE WHAT IT READS IS OF BULK AT MOST 1048576: true; the input reads as it did. -/
def fnZigOrderUptoRow : OpenClaim := { program := "ythmmcnabfmegfaa", sum := "e4e589876f797f0ce5a321ed2f1152e31eb255618338962fbd00cfeb13e0f503", func := "loop.example/chronicler/laws.FnZigOrder", spec := "fnZigOrder", apart := false, narrowed := true }
def FnZigOrderUptoSaid : Prop := fnZigOrderUptoRow.holds Try.pinned (OpenSpec.upto fnZigOrderSpec)

/-- 'laws.FnZagZig', WHERE WHAT IT READS IS OF BULK AT MOST 1048576: true; the input reads as it did. -/
def fnZagZigUptoRow : OpenClaim := { program := "ythmmcnabfmegfaa", sum := "e4e589876f797f0ce5a321ed2f1152e31eb255618338962fbd00cfeb13e0f503", func := "loop.example/chronicler/laws.FnZagZig", spec := "fnZagZig", apart := false, narrowed := true }
def FnZagZigUptoSaid : Prop := fnZagZigUptoRow.holds Try.pinned (OpenSpec.upto fnZagZigSpec)

/-- 'laws.FnZigZag', WHERE WHAT IT READS IS OF BULK AT MOST 1048576: true; the input reads as it did. -/
def fnZigZagUptoRow : OpenClaim := { program := "ythmmcnabfmegfaa", sum := "e4e589876f797f0ce5a321ed2f1152e31eb255618338962fbd00cfeb13e0f503", func := "loop.example/chronicler/laws.FnZigZag", spec := "fnZigZag", apart := false, narrowed := true }
def FnZigZagUptoSaid : Prop := fnZigZagUptoRow.holds Try.pinned (OpenSpec.upto fnZigZagSpec)

/-- 'laws.FnExactNumsPack', WHERE WHAT IT READS IS OF BULK AT MOST 1048576: true; the input reads as it did. -/
def fnExactNumsPackUptoRow : OpenClaim := { program := "ythmmcnabfmegfaa", sum := "e4e589876f797f0ce5a321ed2f1152e31eb255618338962fbd00cfeb13e0f503", func := "loop.example/chronicler/laws.FnExactNumsPack", spec := "fnExactNumsPack", apart := false, narrowed := true }
def FnExactNumsPackUptoSaid : Prop := fnExactNumsPackUptoRow.holds Try.pinned (OpenSpec.upto fnExactNumsPackSpec)

/-- 'laws.FnNumsEven', WHERE WHAT IT READS IS OF BULK AT MOST 1048576: true; the input reads as it did. -/
def fnNumsEvenUptoRow : OpenClaim := { program := "ythmmcnabfmegfaa", sum := "e4e589876f797f0ce5a321ed2f1152e31eb255618338962fbd00cfeb13e0f503", func := "loop.example/chronicler/laws.FnNumsEven", spec := "fnNumsEven", apart := false, narrowed := true }
def FnNumsEvenUptoSaid : Prop := fnNumsEvenUptoRow.holds Try.pinned (OpenSpec.upto fnNumsEvenSpec)

/-- 'laws.FnNumsTwo', WHERE WHAT IT READS IS OF BULK AT MOST 1048576: true; the input reads as it did. -/
def fnNumsTwoUptoRow : OpenClaim := { program := "ythmmcnabfmegfaa", sum := "e4e589876f797f0ce5a321ed2f1152e31eb255618338962fbd00cfeb13e0f503", func := "loop.example/chronicler/laws.FnNumsTwo", spec := "fnNumsTwo", apart := false, narrowed := true }
def FnNumsTwoUptoSaid : Prop := fnNumsTwoUptoRow.holds Try.pinned (OpenSpec.upto fnNumsTwoSpec)

/-- 'laws.FnExactNumsUnpack', WHERE WHAT IT READS IS OF BULK AT MOST 1048576: true; the input reads as it did. -/
def fnExactNumsUnpackUptoRow : OpenClaim := { program := "ythmmcnabfmegfaa", sum := "e4e589876f797f0ce5a321ed2f1152e31eb255618338962fbd00cfeb13e0f503", func := "loop.example/chronicler/laws.FnExactNumsUnpack", spec := "fnExactNumsUnpack", apart := false, narrowed := true }
def FnExactNumsUnpackUptoSaid : Prop := fnExactNumsUnpackUptoRow.holds Try.pinned (OpenSpec.upto fnExactNumsUnpackSpec)

/-- 'laws.FnNumsBack', WHERE WHAT IT READS IS OF BULK AT MOST 1048576: true; the input reads as it did. -/
def fnNumsBackUptoRow : OpenClaim := { program := "ythmmcnabfmegfaa", sum := "e4e589876f797f0ce5a321ed2f1152e31eb255618338962fbd00cfeb13e0f503", func := "loop.example/chronicler/laws.FnNumsBack", spec := "fnNumsBack", apart := false, narrowed := true }
def FnNumsBackUptoSaid : Prop := fnNumsBackUptoRow.holds Try.pinned (OpenSpec.upto fnNumsBackSpec)

/-- 'laws.FnNumsCut', WHERE WHAT IT READS IS OF BULK AT MOST 1048576: true; the input reads as it did. -/
def fnNumsCutUptoRow : OpenClaim := { program := "ythmmcnabfmegfaa", sum := "e4e589876f797f0ce5a321ed2f1152e31eb255618338962fbd00cfeb13e0f503", func := "loop.example/chronicler/laws.FnNumsCut", spec := "fnNumsCut", apart := false, narrowed := true }
def FnNumsCutUptoSaid : Prop := fnNumsCutUptoRow.holds Try.pinned (OpenSpec.upto fnNumsCutSpec)

/-- 'laws.FnNumsStrict', WHERE WHAT IT READS IS OF BULK AT MOST 1048576: true; the input reads as it did. -/
def fnNumsStrictUptoRow : OpenClaim := { program := "ythmmcnabfmegfaa", sum := "e4e589876f797f0ce5a321ed2f1152e31eb255618338962fbd00cfeb13e0f503", func := "loop.example/chronicler/laws.FnNumsStrict", spec := "fnNumsStrict", apart := false, narrowed := true }
def FnNumsStrictUptoSaid : Prop := fnNumsStrictUptoRow.holds Try.pinned (OpenSpec.upto fnNumsStrictSpec)

end Rows
end Go.Proofs.Ythmmcnabfmegfaa
