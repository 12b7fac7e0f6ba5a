/-
  WALKS: lists of tags: copied (toTagS), told apart (eqTagS), measured (szTagS).
-/
import Derived.Test.YtgedlpdjnnbolaaDoorNames1
import Derived.Outline
namespace Go.Proofs.YtgedlpdjnnbolaaDoor
set_option linter.unusedVariables false
open Go.RowKit

theorem info_tag : (Tryd.prog.info? 42).map (fun i => (i.zero, i.size, i.bytes)) = some (some (.agg #[.string ⟨#[]⟩, .string ⟨#[]⟩]), 2, 32) := by kernel_rfl


end Go.Proofs.YtgedlpdjnnbolaaDoor
