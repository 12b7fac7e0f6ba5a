/-
  No cell of these rows narrows 'for every input' (looked for: loops, veiled, ifaces, maps, wideKeys, modest, calm, conditions, laid).
  DERIVED. THE GIVEN ROWS OF THIS SEAT. 6 by the template 'for every input the law returns true; each argument reads behind the call as it read before'; 0 by the template 'total and deterministic' (their statements: YthhaekeiepphbaaTotals.lean).
  GIVEN WITH THE SEED: the statements are not yours to turn. If you find one false, say at which input.
  Laid BY PROGRAM, IN A SANDBOX (cutbox-rows.mjs): the forced cells as the released guide's own fill.sh prints them over the translation 3684dc08d6982485… (all of the seat's roots in one cut). By AI agents, Wed Nov 11 2026. No macro, syntax, notation, axiom, sorry.
-/
import Derived.Test.YthhaekeiepphbaaChecked
import GoSem.Claim
import GoSem.ClaimJoined
import GoSem.ClaimMapViews
import Derived.JoinedTies
import Derived.KernelRfl
namespace Go.Proofs.Ythhaekeiepphbaa
/- THE CELL 'sum', in the pinned program and in every row, IS THE sha256 OF THE DUMP (.gsa) THAT YthhaekeiepphbaaProg.lean LOADS. Nothing in Lean hashes anything: it is a label: what it is worth is what the hold of that sum in a sandbox is worth. -/
noncomputable def Try.pinned : Pinned := { name := "ythhaekeiepphbaa", sum := "3684dc08d6982485bcf92267855f8f532edff8e4485d84e5f7ff987bfbd89844", checked := Try.checked }
namespace Rows
def none {H : Type} : Left H := { results := [], args := [] }

/-- 'laws.FnExactBlockOk': WHATEVER THE INPUT: true; the input reads as it did. -/
def fnExactBlockOkSpec : ChangeSpec := { name := "fnExactBlockOk", fn := fun _ => fun
  | [d] => { results := [.lit (.bool true)], args := [d] }
  | _ => none }
def fnExactBlockOkRow : OpenClaim := { program := "ythhaekeiepphbaa", sum := "3684dc08d6982485bcf92267855f8f532edff8e4485d84e5f7ff987bfbd89844", func := "loop.example/chronicler/laws.FnExactBlockOk", spec := "fnExactBlockOk", apart := false }
def FnExactBlockOkSaid : Prop := fnExactBlockOkRow.holds Try.pinned (OpenSpec.ofChange fnExactBlockOkSpec)

/-- ITS FALSE NEIGHBOUR: 'it returns false'. Refute it at one input. -/
def fnExactBlockOkWrong : ChangeSpec := { name := "fnExactBlockOk", fn := fun _ => fun
  | [d] => { results := [.lit (.bool false)], args := [d] }
  | _ => none }
def FnExactBlockOkWrongFalsely : Prop := fnExactBlockOkRow.holds Try.pinned (OpenSpec.ofChange fnExactBlockOkWrong)

/-- 'laws.FnBlockBounds': WHATEVER THE INPUT: true; the input reads as it did. -/
def fnBlockBoundsSpec : ChangeSpec := { name := "fnBlockBounds", fn := fun _ => fun
  | [d] => { results := [.lit (.bool true)], args := [d] }
  | _ => none }
def fnBlockBoundsRow : OpenClaim := { program := "ythhaekeiepphbaa", sum := "3684dc08d6982485bcf92267855f8f532edff8e4485d84e5f7ff987bfbd89844", func := "loop.example/chronicler/laws.FnBlockBounds", spec := "fnBlockBounds", apart := false }
def FnBlockBoundsSaid : Prop := fnBlockBoundsRow.holds Try.pinned (OpenSpec.ofChange fnBlockBoundsSpec)

/-- ITS FALSE NEIGHBOUR: 'it returns false'. Refute it at one input. -/
def fnBlockBoundsWrong : ChangeSpec := { name := "fnBlockBounds", fn := fun _ => fun
  | [d] => { results := [.lit (.bool false)], args := [d] }
  | _ => none }
def FnBlockBoundsWrongFalsely : Prop := fnBlockBoundsRow.holds Try.pinned (OpenSpec.ofChange fnBlockBoundsWrong)

/-- 'laws.FnBlockForm': WHATEVER THE INPUT: true; the input reads as it did. -/
def fnBlockFormSpec : ChangeSpec := { name := "fnBlockForm", fn := fun _ => fun
  | [d1, d2] => { results := [.lit (.bool true)], args := [d1, d2] }
  | _ => none }
def fnBlockFormRow : OpenClaim := { program := "ythhaekeiepphbaa", sum := "3684dc08d6982485bcf92267855f8f532edff8e4485d84e5f7ff987bfbd89844", func := "loop.example/chronicler/laws.FnBlockForm", spec := "fnBlockForm", apart := false }
def FnBlockFormSaid : Prop := fnBlockFormRow.holds Try.pinned (OpenSpec.ofChange fnBlockFormSpec)

/-- ITS FALSE NEIGHBOUR: 'it returns false'. Refute it at one input. -/
def fnBlockFormWrong : ChangeSpec := { name := "fnBlockForm", fn := fun _ => fun
  | [d1, d2] => { results := [.lit (.bool false)], args := [d1, d2] }
  | _ => none }
def FnBlockFormWrongFalsely : Prop := fnBlockFormRow.holds Try.pinned (OpenSpec.ofChange fnBlockFormWrong)

/-- 'laws.FnExactBlockCut': WHATEVER THE INPUT: true; the input reads as it did. -/
def fnExactBlockCutSpec : ChangeSpec := { name := "fnExactBlockCut", fn := fun _ => fun
  | [d1, d2, d3] => { results := [.lit (.bool true)], args := [d1, d2, d3] }
  | _ => none }
def fnExactBlockCutRow : OpenClaim := { program := "ythhaekeiepphbaa", sum := "3684dc08d6982485bcf92267855f8f532edff8e4485d84e5f7ff987bfbd89844", func := "loop.example/chronicler/laws.FnExactBlockCut", spec := "fnExactBlockCut", apart := false }
def FnExactBlockCutSaid : Prop := fnExactBlockCutRow.holds Try.pinned (OpenSpec.ofChange fnExactBlockCutSpec)

/-- ITS FALSE NEIGHBOUR: 'it returns false'. Refute it at one input. -/
def fnExactBlockCutWrong : ChangeSpec := { name := "fnExactBlockCut", fn := fun _ => fun
  | [d1, d2, d3] => { results := [.lit (.bool false)], args := [d1, d2, d3] }
  | _ => none }
def FnExactBlockCutWrongFalsely : Prop := fnExactBlockCutRow.holds Try.pinned (OpenSpec.ofChange fnExactBlockCutWrong)

/-- 'laws.FnCutTwice': WHATEVER THE INPUT: true; the input reads as it did. -/
def fnCutTwiceSpec : ChangeSpec := { name := "fnCutTwice", fn := fun _ => fun
  | [d] => { results := [.lit (.bool true)], args := [d] }
  | _ => none }
def fnCutTwiceRow : OpenClaim := { program := "ythhaekeiepphbaa", sum := "3684dc08d6982485bcf92267855f8f532edff8e4485d84e5f7ff987bfbd89844", func := "loop.example/chronicler/laws.FnCutTwice", spec := "fnCutTwice", apart := false }
def FnCutTwiceSaid : Prop := fnCutTwiceRow.holds Try.pinned (OpenSpec.ofChange fnCutTwiceSpec)

/-- ITS FALSE NEIGHBOUR: 'it returns false'. Refute it at one input. -/
def fnCutTwiceWrong : ChangeSpec := { name := "fnCutTwice", fn := fun _ => fun
  | [d] => { results := [.lit (.bool false)], args := [d] }
  | _ => none }
def FnCutTwiceWrongFalsely : Prop := fnCutTwiceRow.holds Try.pinned (OpenSpec.ofChange fnCutTwiceWrong)

/-- 'laws.FnCutAt': WHATEVER THE INPUT: true; the input reads as it did. -/
def fnCutAtSpec : ChangeSpec := { name := "fnCutAt", fn := fun _ => fun
  | [d1, d2] => { results := [.lit (.bool true)], args := [d1, d2] }
  | _ => none }
def fnCutAtRow : OpenClaim := { program := "ythhaekeiepphbaa", sum := "3684dc08d6982485bcf92267855f8f532edff8e4485d84e5f7ff987bfbd89844", func := "loop.example/chronicler/laws.FnCutAt", spec := "fnCutAt", apart := false }
def FnCutAtSaid : Prop := fnCutAtRow.holds Try.pinned (OpenSpec.ofChange fnCutAtSpec)

/-- ITS FALSE NEIGHBOUR: 'it returns false'. Refute it at one input. -/
def fnCutAtWrong : ChangeSpec := { name := "fnCutAt", fn := fun _ => fun
  | [d1, d2] => { results := [.lit (.bool false)], args := [d1, d2] }
  | _ => none }
def FnCutAtWrongFalsely : Prop := fnCutAtRow.holds Try.pinned (OpenSpec.ofChange fnCutAtWrong)

/- THE SECOND FORM. 'bulk': how many values and letters a reading holds, each counted each time it is reached (what is shared counts as often as it is met; a slice's spare places count too). A statement '..UptoSaid' is the law's where the arguments, and the package variables that the reading takes, are together of bulk at most 1048576: NARROWER than '..Said'. Prove '..Said' where nothing that the law and all that it calls make is longer than what came in: it says more and counts as full. Else prove '..UptoSaid'. A law counts once. -/
mutual
def uptoBulk {H : Type} : DataW H → Nat
  | .lit (.string bytes) => bytes.length + 1
  | .lit _ => 1
  | .nil => 1
  | .ptr d => uptoBulk d + 1
  | .slice elems spare => uptoBulkAll elems + uptoBulkAll spare + 1
  | .agg parts => uptoBulkAll parts + 1
  | .iface _ d => uptoBulk d + 1
  | .map entries => uptoBulkEntries entries + 1
  | .held _ => 1
def uptoBulkAll {H : Type} : List (DataW H) → Nat
  | [] => 0
  | d :: r => uptoBulk d + uptoBulkAll r
def uptoBulkEntries {H : Type} : List (Lit × DataW H) → Nat
  | [] => 0
  | x :: r => uptoBulkEntry x + uptoBulkEntries r
def uptoBulkEntry {H : Type} : Lit × DataW H → Nat
  | (.string bytes, d) => bytes.length + uptoBulk d + 1
  | (_, d) => uptoBulk d + 1
 end
def uptoSmall : (H : Type) → List (DataW H) → Bool := fun _ ds => decide (uptoBulkAll ds ≤ 1048576)
def OpenSpec.upto (s : _root_.Go.ChangeSpec) : _root_.Go.OpenSpec := { _root_.Go.OpenSpec.ofChange s with cond := some uptoSmall }

/-- 'laws.FnExactBlockOk', WHERE WHAT IT READS IS OF BULK AT MOST 1048576: true; the input reads as it did. -/
def fnExactBlockOkUptoRow : OpenClaim := { program := "ythhaekeiepphbaa", sum := "3684dc08d6982485bcf92267855f8f532edff8e4485d84e5f7ff987bfbd89844", func := "loop.example/chronicler/laws.FnExactBlockOk", spec := "fnExactBlockOk", apart := false, narrowed := true }
def FnExactBlockOkUptoSaid : Prop := fnExactBlockOkUptoRow.holds Try.pinned (OpenSpec.upto fnExactBlockOkSpec)

/-- 'laws.FnBlockBounds', WHERE WHAT IT READS IS OF BULK AT MOST 1048576: true; the input reads as it did. -/
def fnBlockBoundsUptoRow : OpenClaim := { program := "ythhaekeiepphbaa", sum := "3684dc08d6982485bcf92267855f8f532edff8e4485d84e5f7ff987bfbd89844", func := "loop.example/chronicler/laws.FnBlockBounds", spec := "fnBlockBounds", apart := false, narrowed := true }
def FnBlockBoundsUptoSaid : Prop := fnBlockBoundsUptoRow.holds Try.pinned (OpenSpec.upto fnBlockBoundsSpec)

/-- 'laws.FnBlockForm', WHERE WHAT IT READS IS OF BULK AT MOST 1048576: true; the input reads as it did. -/
def fnBlockFormUptoRow : OpenClaim := { program := "ythhaekeiepphbaa", sum := "3684dc08d6982485bcf92267855f8f532edff8e4485d84e5f7ff987bfbd89844", func := "loop.example/chronicler/laws.FnBlockForm", spec := "fnBlockForm", apart := false, narrowed := true }
def FnBlockFormUptoSaid : Prop := fnBlockFormUptoRow.holds Try.pinned (OpenSpec.upto fnBlockFormSpec)

/-- 'laws.FnExactBlockCut', WHERE WHAT IT READS IS OF BULK AT MOST 1048576: true; the input reads as it did. -/
def fnExactBlockCutUptoRow : OpenClaim := { program := "ythhaekeiepphbaa", sum := "3684dc08d6982485bcf92267855f8f532edff8e4485d84e5f7ff987bfbd89844", func := "loop.example/chronicler/laws.FnExactBlockCut", spec := "fnExactBlockCut", apart := false, narrowed := true }
def FnExactBlockCutUptoSaid : Prop := fnExactBlockCutUptoRow.holds Try.pinned (OpenSpec.upto fnExactBlockCutSpec)

/-- 'laws.FnCutTwice', WHERE WHAT IT READS IS OF BULK AT MOST 1048576: true; the input reads as it did. -/
def fnCutTwiceUptoRow : OpenClaim := { program := "ythhaekeiepphbaa", sum := "3684dc08d6982485bcf92267855f8f532edff8e4485d84e5f7ff987bfbd89844", func := "loop.example/chronicler/laws.FnCutTwice", spec := "fnCutTwice", apart := false, narrowed := true }
def FnCutTwiceUptoSaid : Prop := fnCutTwiceUptoRow.holds Try.pinned (OpenSpec.upto fnCutTwiceSpec)

/-- 'laws.FnCutAt', WHERE WHAT IT READS IS OF BULK AT MOST 1048576: true; the input reads as it did. -/
def fnCutAtUptoRow : OpenClaim := { program := "ythhaekeiepphbaa", sum := "3684dc08d6982485bcf92267855f8f532edff8e4485d84e5f7ff987bfbd89844", func := "loop.example/chronicler/laws.FnCutAt", spec := "fnCutAt", apart := false, narrowed := true }
def FnCutAtUptoSaid : Prop := fnCutAtUptoRow.holds Try.pinned (OpenSpec.upto fnCutAtSpec)

end Rows
end Go.Proofs.Ythhaekeiepphbaa
