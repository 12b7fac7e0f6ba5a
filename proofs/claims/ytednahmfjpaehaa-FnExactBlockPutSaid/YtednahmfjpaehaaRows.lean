/-
  No cell of these rows narrows 'for every input' (looked for: loops, veiled, ifaces, maps, wideKeys, modest, calm, conditions, laid).
  DERIVED. THE GIVEN ROWS OF THIS SEAT. 9 by the template 'for every input the law returns true; each argument reads behind the call as it read before'; 0 by the template 'total and deterministic' (their statements: YtednahmfjpaehaaTotals.lean).
  GIVEN WITH THE SEED: the statements are not yours to turn. If you find one false, say at which input.
  Laid BY PROGRAM, IN A SANDBOX (cutbox-rows.mjs): the forced cells as the released guide's own fill.sh prints them over the translation cd88238482ee3249… (all of the seat's roots in one cut). By AI agents, Wed Nov 11 2026. No macro, syntax, notation, axiom, sorry.
-/
import Derived.Test.YtednahmfjpaehaaChecked
import GoSem.Claim
import GoSem.ClaimJoined
import GoSem.ClaimMapViews
import Derived.JoinedTies
import Derived.KernelRfl
namespace Go.Proofs.Ytednahmfjpaehaa
/- THE CELL 'sum', in the pinned program and in every row, IS THE sha256 OF THE DUMP (.gsa) THAT YtednahmfjpaehaaProg.lean LOADS. Nothing in Lean hashes anything: it is a label: what it is worth is what the hold of that sum in a sandbox is worth. -/
noncomputable def Try.pinned : Pinned := { name := "ytednahmfjpaehaa", sum := "cd88238482ee3249e60488fcdb294794cba8fbae3d858d99a18cc9d8809d3311", checked := Try.checked }
namespace Rows
def none {H : Type} : Left H := { results := [], args := [] }

/-- 'laws.FnExactBlockPut': WHATEVER THE INPUT: true; the input reads as it did. -/
def fnExactBlockPutSpec : ChangeSpec := { name := "fnExactBlockPut", fn := fun _ => fun
  | [d1, d2] => { results := [.lit (.bool true)], args := [d1, d2] }
  | _ => none }
def fnExactBlockPutRow : OpenClaim := { program := "ytednahmfjpaehaa", sum := "cd88238482ee3249e60488fcdb294794cba8fbae3d858d99a18cc9d8809d3311", func := "loop.example/chronicler/laws.FnExactBlockPut", spec := "fnExactBlockPut", inPlace := ["slices.overlaps[loop.example/chronicler/impl.Row]"], apart := false }
def FnExactBlockPutSaid : Prop := fnExactBlockPutRow.holds Try.pinned (OpenSpec.ofChange fnExactBlockPutSpec)

/-- ITS FALSE NEIGHBOUR: 'it returns false'. Refute it at one input. -/
def fnExactBlockPutWrong : ChangeSpec := { name := "fnExactBlockPut", fn := fun _ => fun
  | [d1, d2] => { results := [.lit (.bool false)], args := [d1, d2] }
  | _ => none }
def FnExactBlockPutWrongFalsely : Prop := fnExactBlockPutRow.holds Try.pinned (OpenSpec.ofChange fnExactBlockPutWrong)

/-- 'laws.FnMergeThree': WHATEVER THE INPUT: true; the input reads as it did. -/
def fnMergeThreeSpec : ChangeSpec := { name := "fnMergeThree", fn := fun _ => fun
  | [d1, d2] => { results := [.lit (.bool true)], args := [d1, d2] }
  | _ => none }
def fnMergeThreeRow : OpenClaim := { program := "ytednahmfjpaehaa", sum := "cd88238482ee3249e60488fcdb294794cba8fbae3d858d99a18cc9d8809d3311", func := "loop.example/chronicler/laws.FnMergeThree", spec := "fnMergeThree", inPlace := ["slices.overlaps[loop.example/chronicler/impl.Row]"], apart := false }
def FnMergeThreeSaid : Prop := fnMergeThreeRow.holds Try.pinned (OpenSpec.ofChange fnMergeThreeSpec)

/-- ITS FALSE NEIGHBOUR: 'it returns false'. Refute it at one input. -/
def fnMergeThreeWrong : ChangeSpec := { name := "fnMergeThree", fn := fun _ => fun
  | [d1, d2] => { results := [.lit (.bool false)], args := [d1, d2] }
  | _ => none }
def FnMergeThreeWrongFalsely : Prop := fnMergeThreeRow.holds Try.pinned (OpenSpec.ofChange fnMergeThreeWrong)

/-- 'laws.FnExactBlockMerge': WHATEVER THE INPUT: true; the input reads as it did. -/
def fnExactBlockMergeSpec : ChangeSpec := { name := "fnExactBlockMerge", fn := fun _ => fun
  | [d1, d2] => { results := [.lit (.bool true)], args := [d1, d2] }
  | _ => none }
def fnExactBlockMergeRow : OpenClaim := { program := "ytednahmfjpaehaa", sum := "cd88238482ee3249e60488fcdb294794cba8fbae3d858d99a18cc9d8809d3311", func := "loop.example/chronicler/laws.FnExactBlockMerge", spec := "fnExactBlockMerge", inPlace := ["slices.overlaps[loop.example/chronicler/impl.Row]"], apart := false }
def FnExactBlockMergeSaid : Prop := fnExactBlockMergeRow.holds Try.pinned (OpenSpec.ofChange fnExactBlockMergeSpec)

/-- ITS FALSE NEIGHBOUR: 'it returns false'. Refute it at one input. -/
def fnExactBlockMergeWrong : ChangeSpec := { name := "fnExactBlockMerge", fn := fun _ => fun
  | [d1, d2] => { results := [.lit (.bool false)], args := [d1, d2] }
  | _ => none }
def FnExactBlockMergeWrongFalsely : Prop := fnExactBlockMergeRow.holds Try.pinned (OpenSpec.ofChange fnExactBlockMergeWrong)

/-- 'laws.FnPutAt': WHATEVER THE INPUT: true; the input reads as it did. -/
def fnPutAtSpec : ChangeSpec := { name := "fnPutAt", fn := fun _ => fun
  | [d] => { results := [.lit (.bool true)], args := [d] }
  | _ => none }
def fnPutAtRow : OpenClaim := { program := "ytednahmfjpaehaa", sum := "cd88238482ee3249e60488fcdb294794cba8fbae3d858d99a18cc9d8809d3311", func := "loop.example/chronicler/laws.FnPutAt", spec := "fnPutAt", inPlace := ["slices.overlaps[loop.example/chronicler/impl.Row]"], apart := false }
def FnPutAtSaid : Prop := fnPutAtRow.holds Try.pinned (OpenSpec.ofChange fnPutAtSpec)

/-- ITS FALSE NEIGHBOUR: 'it returns false'. Refute it at one input. -/
def fnPutAtWrong : ChangeSpec := { name := "fnPutAt", fn := fun _ => fun
  | [d] => { results := [.lit (.bool false)], args := [d] }
  | _ => none }
def FnPutAtWrongFalsely : Prop := fnPutAtRow.holds Try.pinned (OpenSpec.ofChange fnPutAtWrong)

/-- 'laws.FnPutTwo': WHATEVER THE INPUT: true; the input reads as it did. -/
def fnPutTwoSpec : ChangeSpec := { name := "fnPutTwo", fn := fun _ => fun
  | [d1, d2] => { results := [.lit (.bool true)], args := [d1, d2] }
  | _ => none }
def fnPutTwoRow : OpenClaim := { program := "ytednahmfjpaehaa", sum := "cd88238482ee3249e60488fcdb294794cba8fbae3d858d99a18cc9d8809d3311", func := "loop.example/chronicler/laws.FnPutTwo", spec := "fnPutTwo", inPlace := ["slices.overlaps[loop.example/chronicler/impl.Row]"], apart := false }
def FnPutTwoSaid : Prop := fnPutTwoRow.holds Try.pinned (OpenSpec.ofChange fnPutTwoSpec)

/-- ITS FALSE NEIGHBOUR: 'it returns false'. Refute it at one input. -/
def fnPutTwoWrong : ChangeSpec := { name := "fnPutTwo", fn := fun _ => fun
  | [d1, d2] => { results := [.lit (.bool false)], args := [d1, d2] }
  | _ => none }
def FnPutTwoWrongFalsely : Prop := fnPutTwoRow.holds Try.pinned (OpenSpec.ofChange fnPutTwoWrong)

/-- 'laws.FnMergeAt': WHATEVER THE INPUT: true; the input reads as it did. -/
def fnMergeAtSpec : ChangeSpec := { name := "fnMergeAt", fn := fun _ => fun
  | [d] => { results := [.lit (.bool true)], args := [d] }
  | _ => none }
def fnMergeAtRow : OpenClaim := { program := "ytednahmfjpaehaa", sum := "cd88238482ee3249e60488fcdb294794cba8fbae3d858d99a18cc9d8809d3311", func := "loop.example/chronicler/laws.FnMergeAt", spec := "fnMergeAt", inPlace := ["slices.overlaps[loop.example/chronicler/impl.Row]"], apart := false }
def FnMergeAtSaid : Prop := fnMergeAtRow.holds Try.pinned (OpenSpec.ofChange fnMergeAtSpec)

/-- ITS FALSE NEIGHBOUR: 'it returns false'. Refute it at one input. -/
def fnMergeAtWrong : ChangeSpec := { name := "fnMergeAt", fn := fun _ => fun
  | [d] => { results := [.lit (.bool false)], args := [d] }
  | _ => none }
def FnMergeAtWrongFalsely : Prop := fnMergeAtRow.holds Try.pinned (OpenSpec.ofChange fnMergeAtWrong)

/-- 'laws.FnMergeMany': WHATEVER THE INPUT: true; the input reads as it did. -/
def fnMergeManySpec : ChangeSpec := { name := "fnMergeMany", fn := fun _ => fun
  | [d] => { results := [.lit (.bool true)], args := [d] }
  | _ => none }
def fnMergeManyRow : OpenClaim := { program := "ytednahmfjpaehaa", sum := "cd88238482ee3249e60488fcdb294794cba8fbae3d858d99a18cc9d8809d3311", func := "loop.example/chronicler/laws.FnMergeMany", spec := "fnMergeMany", inPlace := ["slices.overlaps[loop.example/chronicler/impl.Row]"], apart := false }
def FnMergeManySaid : Prop := fnMergeManyRow.holds Try.pinned (OpenSpec.ofChange fnMergeManySpec)

/-- ITS FALSE NEIGHBOUR: 'it returns false'. Refute it at one input. -/
def fnMergeManyWrong : ChangeSpec := { name := "fnMergeMany", fn := fun _ => fun
  | [d] => { results := [.lit (.bool false)], args := [d] }
  | _ => none }
def FnMergeManyWrongFalsely : Prop := fnMergeManyRow.holds Try.pinned (OpenSpec.ofChange fnMergeManyWrong)

/-- 'laws.FnMergePut': WHATEVER THE INPUT: true; the input reads as it did. -/
def fnMergePutSpec : ChangeSpec := { name := "fnMergePut", fn := fun _ => fun
  | [d] => { results := [.lit (.bool true)], args := [d] }
  | _ => none }
def fnMergePutRow : OpenClaim := { program := "ytednahmfjpaehaa", sum := "cd88238482ee3249e60488fcdb294794cba8fbae3d858d99a18cc9d8809d3311", func := "loop.example/chronicler/laws.FnMergePut", spec := "fnMergePut", inPlace := ["slices.overlaps[loop.example/chronicler/impl.Row]"], apart := false }
def FnMergePutSaid : Prop := fnMergePutRow.holds Try.pinned (OpenSpec.ofChange fnMergePutSpec)

/-- ITS FALSE NEIGHBOUR: 'it returns false'. Refute it at one input. -/
def fnMergePutWrong : ChangeSpec := { name := "fnMergePut", fn := fun _ => fun
  | [d] => { results := [.lit (.bool false)], args := [d] }
  | _ => none }
def FnMergePutWrongFalsely : Prop := fnMergePutRow.holds Try.pinned (OpenSpec.ofChange fnMergePutWrong)

/-- 'laws.FnCutMerge': WHATEVER THE INPUT: true; the input reads as it did. -/
def fnCutMergeSpec : ChangeSpec := { name := "fnCutMerge", fn := fun _ => fun
  | [d1, d2] => { results := [.lit (.bool true)], args := [d1, d2] }
  | _ => none }
def fnCutMergeRow : OpenClaim := { program := "ytednahmfjpaehaa", sum := "cd88238482ee3249e60488fcdb294794cba8fbae3d858d99a18cc9d8809d3311", func := "loop.example/chronicler/laws.FnCutMerge", spec := "fnCutMerge", inPlace := ["slices.overlaps[loop.example/chronicler/impl.Row]"], apart := false }
def FnCutMergeSaid : Prop := fnCutMergeRow.holds Try.pinned (OpenSpec.ofChange fnCutMergeSpec)

/-- ITS FALSE NEIGHBOUR: 'it returns false'. Refute it at one input. -/
def fnCutMergeWrong : ChangeSpec := { name := "fnCutMerge", fn := fun _ => fun
  | [d1, d2] => { results := [.lit (.bool false)], args := [d1, d2] }
  | _ => none }
def FnCutMergeWrongFalsely : Prop := fnCutMergeRow.holds Try.pinned (OpenSpec.ofChange fnCutMergeWrong)

/- THE SECOND FORM. 'bulk': how many values and letters a reading holds, each counted each time it is reached (what is shared counts as often as it is met; a slice's spare places count too). A statement '..UptoSaid' is the law's where the arguments, and the package variables that the reading takes, are together of bulk at most 1048576: NARROWER than '..Said'. Prove '..Said' where nothing that the law and all that it calls make is longer than what came in: it says more and counts as full. Else prove '..UptoSaid'. A law counts once. -/
mutual
def uptoBulk {H : Type} : DataW H → Nat
  | .lit (.string bytes) => bytes.length + 1
  | .lit _ => 1
  | .nil => 1
  | .ptr d => uptoBulk d + 1
  | .slice elems spare => uptoBulkAll elems + uptoBulkAll spare + 1
  | .agg parts => uptoBulkAll parts + 1
  | .iface _ d => uptoBulk d + 1
  | .map entries => uptoBulkEntries entries + 1
  | .held _ => 1
def uptoBulkAll {H : Type} : List (DataW H) → Nat
  | [] => 0
  | d :: r => uptoBulk d + uptoBulkAll r
def uptoBulkEntries {H : Type} : List (Lit × DataW H) → Nat
  | [] => 0
  | x :: r => uptoBulkEntry x + uptoBulkEntries r
def uptoBulkEntry {H : Type} : Lit × DataW H → Nat
  | (.string bytes, d) => bytes.length + uptoBulk d + 1
  | (_, d) => uptoBulk d + 1
 end
def uptoSmall : (H : Type) → List (DataW H) → Bool := fun _ ds => decide (uptoBulkAll ds ≤ 1048576)
def OpenSpec.upto (s : _root_.Go.ChangeSpec) : _root_.Go.OpenSpec := { _root_.Go.OpenSpec.ofChange s with cond := some uptoSmall }

/-- 'laws.FnExactBlockPut', WHERE WHAT IT READS IS OF BULK AT MOST 1048576: true; the input reads as it did. -/
def fnExactBlockPutUptoRow : OpenClaim := { program := "ytednahmfjpaehaa", sum := "cd88238482ee3249e60488fcdb294794cba8fbae3d858d99a18cc9d8809d3311", func := "loop.example/chronicler/laws.FnExactBlockPut", spec := "fnExactBlockPut", inPlace := ["slices.overlaps[loop.example/chronicler/impl.Row]"], apart := false, narrowed := true }
def FnExactBlockPutUptoSaid : Prop := fnExactBlockPutUptoRow.holds Try.pinned (OpenSpec.upto fnExactBlockPutSpec)

/-- 'laws.FnMergeThree', WHERE WHAT IT READS IS OF BULK AT MOST 1048576: true; the input reads as it did. -/
def fnMergeThreeUptoRow : OpenClaim := { program := "ytednahmfjpaehaa", sum := "cd88238482ee3249e60488fcdb294794cba8fbae3d858d99a18cc9d8809d3311", func := "loop.example/chronicler/laws.FnMergeThree", spec := "fnMergeThree", inPlace := ["slices.overlaps[loop.example/chronicler/impl.Row]"], apart := false, narrowed := true }
def FnMergeThreeUptoSaid : Prop := fnMergeThreeUptoRow.holds Try.pinned (OpenSpec.upto fnMergeThreeSpec)

/-- 'laws.FnExactBlockMerge', WHERE WHAT IT READS IS OF BULK AT MOST 1048576: true; the input reads as it did. -/
def fnExactBlockMergeUptoRow : OpenClaim := { program := "ytednahmfjpaehaa", sum := "cd88238482ee3249e60488fcdb294794cba8fbae3d858d99a18cc9d8809d3311", func := "loop.example/chronicler/laws.FnExactBlockMerge", spec := "fnExactBlockMerge", inPlace := ["slices.overlaps[loop.example/chronicler/impl.Row]"], apart := false, narrowed := true }
def FnExactBlockMergeUptoSaid : Prop := fnExactBlockMergeUptoRow.holds Try.pinned (OpenSpec.upto fnExactBlockMergeSpec)

/-- 'laws.FnPutAt', WHERE WHAT IT READS IS OF BULK AT MOST 1048576: true; the input reads as it did. -/
def fnPutAtUptoRow : OpenClaim := { program := "ytednahmfjpaehaa", sum := "cd88238482ee3249e60488fcdb294794cba8fbae3d858d99a18cc9d8809d3311", func := "loop.example/chronicler/laws.FnPutAt", spec := "fnPutAt", inPlace := ["slices.overlaps[loop.example/chronicler/impl.Row]"], apart := false, narrowed := true }
def FnPutAtUptoSaid : Prop := fnPutAtUptoRow.holds Try.pinned (OpenSpec.upto fnPutAtSpec)

/-- 'laws.FnPutTwo', WHERE WHAT IT READS IS OF BULK AT MOST 1048576: true; the input reads as it did. -/
def fnPutTwoUptoRow : OpenClaim := { program := "ytednahmfjpaehaa", sum := "cd88238482ee3249e60488fcdb294794cba8fbae3d858d99a18cc9d8809d3311", func := "loop.example/chronicler/laws.FnPutTwo", spec := "fnPutTwo", inPlace := ["slices.overlaps[loop.example/chronicler/impl.Row]"], apart := false, narrowed := true }
def FnPutTwoUptoSaid : Prop := fnPutTwoUptoRow.holds Try.pinned (OpenSpec.upto fnPutTwoSpec)

/-- 'laws.FnMergeAt', WHERE WHAT IT READS IS OF BULK AT MOST 1048576: true; the input reads as it did. -/
def fnMergeAtUptoRow : OpenClaim := { program := "ytednahmfjpaehaa", sum := "cd88238482ee3249e60488fcdb294794cba8fbae3d858d99a18cc9d8809d3311", func := "loop.example/chronicler/laws.FnMergeAt", spec := "fnMergeAt", inPlace := ["slices.overlaps[loop.example/chronicler/impl.Row]"], apart := false, narrowed := true }
def FnMergeAtUptoSaid : Prop := fnMergeAtUptoRow.holds Try.pinned (OpenSpec.upto fnMergeAtSpec)

/-- 'laws.FnMergeMany', WHERE WHAT IT READS IS OF BULK AT MOST 1048576: true; the input reads as it did. -/
def fnMergeManyUptoRow : OpenClaim := { program := "ytednahmfjpaehaa", sum := "cd88238482ee3249e60488fcdb294794cba8fbae3d858d99a18cc9d8809d3311", func := "loop.example/chronicler/laws.FnMergeMany", spec := "fnMergeMany", inPlace := ["slices.overlaps[loop.example/chronicler/impl.Row]"], apart := false, narrowed := true }
def FnMergeManyUptoSaid : Prop := fnMergeManyUptoRow.holds Try.pinned (OpenSpec.upto fnMergeManySpec)

/-- 'laws.FnMergePut', WHERE WHAT IT READS IS OF BULK AT MOST 1048576: true; the input reads as it did. -/
def fnMergePutUptoRow : OpenClaim := { program := "ytednahmfjpaehaa", sum := "cd88238482ee3249e60488fcdb294794cba8fbae3d858d99a18cc9d8809d3311", func := "loop.example/chronicler/laws.FnMergePut", spec := "fnMergePut", inPlace := ["slices.overlaps[loop.example/chronicler/impl.Row]"], apart := false, narrowed := true }
def FnMergePutUptoSaid : Prop := fnMergePutUptoRow.holds Try.pinned (OpenSpec.upto fnMergePutSpec)

/-- 'laws.FnCutMerge', WHERE WHAT IT READS IS OF BULK AT MOST 1048576: true; the input reads as it did. -/
def fnCutMergeUptoRow : OpenClaim := { program := "ytednahmfjpaehaa", sum := "cd88238482ee3249e60488fcdb294794cba8fbae3d858d99a18cc9d8809d3311", func := "loop.example/chronicler/laws.FnCutMerge", spec := "fnCutMerge", inPlace := ["slices.overlaps[loop.example/chronicler/impl.Row]"], apart := false, narrowed := true }
def FnCutMergeUptoSaid : Prop := fnCutMergeUptoRow.holds Try.pinned (OpenSpec.upto fnCutMergeSpec)

end Rows
end Go.Proofs.Ytednahmfjpaehaa
