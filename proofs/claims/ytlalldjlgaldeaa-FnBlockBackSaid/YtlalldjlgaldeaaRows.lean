/-
  No cell of these rows narrows 'for every input' (looked for: loops, veiled, ifaces, maps, wideKeys, modest, calm, conditions, laid).
  DERIVED. THE GIVEN ROWS OF THIS SEAT. 5 by the template 'for every input the law returns true; each argument reads behind the call as it read before'; 0 by the template 'total and deterministic' (their statements: YtlalldjlgaldeaaTotals.lean).
  GIVEN WITH THE SEED: the statements are not yours to turn. If you find one false, say at which input.
  Laid BY PROGRAM, IN A SANDBOX (cutbox-rows.mjs): the forced cells as the released guide's own fill.sh prints them over the translation a744a82bafe83cda… (all of the seat's roots in one cut). By AI agents, Wed Nov 11 2026. No macro, syntax, notation, axiom, sorry.
-/
import Derived.Test.YtlalldjlgaldeaaChecked
import GoSem.Claim
import GoSem.ClaimJoined
import GoSem.ClaimMapViews
import Derived.JoinedTies
import Derived.KernelRfl
namespace Go.Proofs.Ytlalldjlgaldeaa
/- THE CELL 'sum', in the pinned program and in every row, IS THE sha256 OF THE DUMP (.gsa) THAT YtlalldjlgaldeaaProg.lean LOADS. Nothing in Lean hashes anything: it is a label: what it is worth is what the hold of that sum in a sandbox is worth. -/
noncomputable def Try.pinned : Pinned := { name := "ytlalldjlgaldeaa", sum := "a744a82bafe83cda0b431169df35210cc432b18554e5478853c417bef3514f9b", checked := Try.checked }
namespace Rows
def none {H : Type} : Left H := { results := [], args := [] }

/-- 'laws.FnExactBlockPack': WHATEVER THE INPUT: true; the input reads as it did. -/
def fnExactBlockPackSpec : ChangeSpec := { name := "fnExactBlockPack", fn := fun _ => fun
  | [d] => { results := [.lit (.bool true)], args := [d] }
  | _ => none }
def fnExactBlockPackRow : OpenClaim := { program := "ytlalldjlgaldeaa", sum := "a744a82bafe83cda0b431169df35210cc432b18554e5478853c417bef3514f9b", func := "loop.example/chronicler/laws.FnExactBlockPack", spec := "fnExactBlockPack", apart := false }
def FnExactBlockPackSaid : Prop := fnExactBlockPackRow.holds Try.pinned (OpenSpec.ofChange fnExactBlockPackSpec)

/-- ITS FALSE NEIGHBOUR: 'it returns false'. Refute it at one input. -/
def fnExactBlockPackWrong : ChangeSpec := { name := "fnExactBlockPack", fn := fun _ => fun
  | [d] => { results := [.lit (.bool false)], args := [d] }
  | _ => none }
def FnExactBlockPackWrongFalsely : Prop := fnExactBlockPackRow.holds Try.pinned (OpenSpec.ofChange fnExactBlockPackWrong)

/-- 'laws.FnPackShort': WHATEVER THE INPUT: true; the input reads as it did. -/
def fnPackShortSpec : ChangeSpec := { name := "fnPackShort", fn := fun _ => fun
  | [d1, d2] => { results := [.lit (.bool true)], args := [d1, d2] }
  | _ => none }
def fnPackShortRow : OpenClaim := { program := "ytlalldjlgaldeaa", sum := "a744a82bafe83cda0b431169df35210cc432b18554e5478853c417bef3514f9b", func := "loop.example/chronicler/laws.FnPackShort", spec := "fnPackShort", apart := false }
def FnPackShortSaid : Prop := fnPackShortRow.holds Try.pinned (OpenSpec.ofChange fnPackShortSpec)

/-- ITS FALSE NEIGHBOUR: 'it returns false'. Refute it at one input. -/
def fnPackShortWrong : ChangeSpec := { name := "fnPackShort", fn := fun _ => fun
  | [d1, d2] => { results := [.lit (.bool false)], args := [d1, d2] }
  | _ => none }
def FnPackShortWrongFalsely : Prop := fnPackShortRow.holds Try.pinned (OpenSpec.ofChange fnPackShortWrong)

/-- 'laws.FnExactBlockUnpack': WHATEVER THE INPUT: true; the input reads as it did. -/
def fnExactBlockUnpackSpec : ChangeSpec := { name := "fnExactBlockUnpack", fn := fun _ => fun
  | [d] => { results := [.lit (.bool true)], args := [d] }
  | _ => none }
def fnExactBlockUnpackRow : OpenClaim := { program := "ytlalldjlgaldeaa", sum := "a744a82bafe83cda0b431169df35210cc432b18554e5478853c417bef3514f9b", func := "loop.example/chronicler/laws.FnExactBlockUnpack", spec := "fnExactBlockUnpack", apart := false }
def FnExactBlockUnpackSaid : Prop := fnExactBlockUnpackRow.holds Try.pinned (OpenSpec.ofChange fnExactBlockUnpackSpec)

/-- ITS FALSE NEIGHBOUR: 'it returns false'. Refute it at one input. -/
def fnExactBlockUnpackWrong : ChangeSpec := { name := "fnExactBlockUnpack", fn := fun _ => fun
  | [d] => { results := [.lit (.bool false)], args := [d] }
  | _ => none }
def FnExactBlockUnpackWrongFalsely : Prop := fnExactBlockUnpackRow.holds Try.pinned (OpenSpec.ofChange fnExactBlockUnpackWrong)

/-- 'laws.FnBlockBack': WHATEVER THE INPUT: true; the input reads as it did. -/
def fnBlockBackSpec : ChangeSpec := { name := "fnBlockBack", fn := fun _ => fun
  | [d] => { results := [.lit (.bool true)], args := [d] }
  | _ => none }
def fnBlockBackRow : OpenClaim := { program := "ytlalldjlgaldeaa", sum := "a744a82bafe83cda0b431169df35210cc432b18554e5478853c417bef3514f9b", func := "loop.example/chronicler/laws.FnBlockBack", spec := "fnBlockBack", apart := false }
def FnBlockBackSaid : Prop := fnBlockBackRow.holds Try.pinned (OpenSpec.ofChange fnBlockBackSpec)

/-- ITS FALSE NEIGHBOUR: 'it returns false'. Refute it at one input. -/
def fnBlockBackWrong : ChangeSpec := { name := "fnBlockBack", fn := fun _ => fun
  | [d] => { results := [.lit (.bool false)], args := [d] }
  | _ => none }
def FnBlockBackWrongFalsely : Prop := fnBlockBackRow.holds Try.pinned (OpenSpec.ofChange fnBlockBackWrong)

/-- 'laws.FnBlockStrict': WHATEVER THE INPUT: true; the input reads as it did. -/
def fnBlockStrictSpec : ChangeSpec := { name := "fnBlockStrict", fn := fun _ => fun
  | [d] => { results := [.lit (.bool true)], args := [d] }
  | _ => none }
def fnBlockStrictRow : OpenClaim := { program := "ytlalldjlgaldeaa", sum := "a744a82bafe83cda0b431169df35210cc432b18554e5478853c417bef3514f9b", func := "loop.example/chronicler/laws.FnBlockStrict", spec := "fnBlockStrict", apart := false }
def FnBlockStrictSaid : Prop := fnBlockStrictRow.holds Try.pinned (OpenSpec.ofChange fnBlockStrictSpec)

/-- ITS FALSE NEIGHBOUR: 'it returns false'. Refute it at one input. -/
def fnBlockStrictWrong : ChangeSpec := { name := "fnBlockStrict", fn := fun _ => fun
  | [d] => { results := [.lit (.bool false)], args := [d] }
  | _ => none }
def FnBlockStrictWrongFalsely : Prop := fnBlockStrictRow.holds Try.pinned (OpenSpec.ofChange fnBlockStrictWrong)

/- THE SECOND FORM. 'bulk': how many values and letters a reading holds, each counted each time it is reached (what is shared counts as often as it is met; a slice's spare places count too). A statement '..UptoSaid' is the law's where the arguments, and the package variables that the reading takes, are together of bulk at most 1048576: NARROWER than '..Said'. Prove '..Said' where nothing that the law and all that it calls make is longer than what came in: it says more and counts as full. Else prove '..UptoSaid'. A law counts once. -/
mutual
def uptoBulk {H : Type} : DataW H → Nat
  | .lit (.string bytes) => bytes.length + 1
  | .lit _ => 1
  | .nil => 1
  | .ptr d => uptoBulk d + 1
  | .slice elems spare => uptoBulkAll elems + uptoBulkAll spare + 1
  | .agg parts => uptoBulkAll parts + 1
  | .iface _ d => uptoBulk d + 1
  | .map entries => uptoBulkEntries entries + 1
  | .held _ => 1
def uptoBulkAll {H : Type} : List (DataW H) → Nat
  | [] => 0
  | d :: r => uptoBulk d + uptoBulkAll r
def uptoBulkEntries {H : Type} : List (Lit × DataW H) → Nat
  | [] => 0
  | x :: r => uptoBulkEntry x + uptoBulkEntries r
def uptoBulkEntry {H : Type} : Lit × DataW H → Nat
  | (.string bytes, d) => bytes.length + uptoBulk d + 1
  | (_, d) => uptoBulk d + 1
 end
def uptoSmall : (H : Type) → List (DataW H) → Bool := fun _ ds => decide (uptoBulkAll ds ≤ 1048576)
def OpenSpec.upto (s : _root_.Go.ChangeSpec) : _root_.Go.OpenSpec := { _root_.Go.OpenSpec.ofChange s with cond := some uptoSmall }

/-- 'laws.FnExactBlockPack', WHERE WHAT IT READS IS OF BULK AT MOST 1048576: true; the input reads as it did. -/
def fnExactBlockPackUptoRow : OpenClaim := { program := "ytlalldjlgaldeaa", sum := "a744a82bafe83cda0b431169df35210cc432b18554e5478853c417bef3514f9b", func := "loop.example/chronicler/laws.FnExactBlockPack", spec := "fnExactBlockPack", apart := false, narrowed := true }
def FnExactBlockPackUptoSaid : Prop := fnExactBlockPackUptoRow.holds Try.pinned (OpenSpec.upto fnExactBlockPackSpec)

/-- 'laws.FnPackShort', WHERE WHAT IT READS IS OF BULK AT MOST 1048576: true; the input reads as it did. -/
def fnPackShortUptoRow : OpenClaim := { program := "ytlalldjlgaldeaa", sum := "a744a82bafe83cda0b431169df35210cc432b18554e5478853c417bef3514f9b", func := "loop.example/chronicler/laws.FnPackShort", spec := "fnPackShort", apart := false, narrowed := true }
def FnPackShortUptoSaid : Prop := fnPackShortUptoRow.holds Try.pinned (OpenSpec.upto fnPackShortSpec)

/-- 'laws.FnExactBlockUnpack', WHERE WHAT IT READS IS OF BULK AT MOST 1048576: true; the input reads as it did. -/
def fnExactBlockUnpackUptoRow : OpenClaim := { program := "ytlalldjlgaldeaa", sum := "a744a82bafe83cda0b431169df35210cc432b18554e5478853c417bef3514f9b", func := "loop.example/chronicler/laws.FnExactBlockUnpack", spec := "fnExactBlockUnpack", apart := false, narrowed := true }
def FnExactBlockUnpackUptoSaid : Prop := fnExactBlockUnpackUptoRow.holds Try.pinned (OpenSpec.upto fnExactBlockUnpackSpec)

/-- 'laws.FnBlockBack', WHERE WHAT IT READS IS OF BULK AT MOST 1048576: true; the input reads as it did. -/
def fnBlockBackUptoRow : OpenClaim := { program := "ytlalldjlgaldeaa", sum := "a744a82bafe83cda0b431169df35210cc432b18554e5478853c417bef3514f9b", func := "loop.example/chronicler/laws.FnBlockBack", spec := "fnBlockBack", apart := false, narrowed := true }
def FnBlockBackUptoSaid : Prop := fnBlockBackUptoRow.holds Try.pinned (OpenSpec.upto fnBlockBackSpec)

/-- 'laws.FnBlockStrict', WHERE WHAT IT READS IS OF BULK AT MOST 1048576: true; the input reads as it did. -/
def fnBlockStrictUptoRow : OpenClaim := { program := "ytlalldjlgaldeaa", sum := "a744a82bafe83cda0b431169df35210cc432b18554e5478853c417bef3514f9b", func := "loop.example/chronicler/laws.FnBlockStrict", spec := "fnBlockStrict", apart := false, narrowed := true }
def FnBlockStrictUptoSaid : Prop := fnBlockStrictUptoRow.holds Try.pinned (OpenSpec.upto fnBlockStrictSpec)

end Rows
end Go.Proofs.Ytlalldjlgaldeaa
