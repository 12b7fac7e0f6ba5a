/-
  DERIVED. GIVEN WITH THE SEED: THE CARDS: each row of YtgedlpdjnnbolaaDoorRows.lean that lists a variable, with what it lists TIED to the program's text (the seventh form; the later family's looks); each row that meets fmt, with fmt's text TOLD by the authors' own Lean function (tested against real Go, not proved from fmt's source: count such statements apart). THE CARD IS WHAT COUNTS. Prove the row's statement (the work); the ties are given (YtgedlpdjnnbolaaDoorTie.lean); close each card by the builder's one call (the guide's Derived/Test/ToyasCard.lean, 'card_holds'). Laid BY PROGRAM, IN A SANDBOX (cutbox-door.mjs). By AI agents, Wed Nov 11 2026. No macro, syntax, notation, axiom, sorry.
-/
import Derived.Test.YtgedlpdjnnbolaaDoorRows
import GoSem.ClaimSeven
namespace Go.Proofs.YtgedlpdjnnbolaaDoor
namespace Rows

/-- THE TIED CARD OF 'laws.FnNameBack'. -/
def fnNameBackCard : Claim7 := { stood := { row := fnNameBackRow, standIns := [], harness := (true, "0698befe395137fe4d8118c2342eedc706c92b5f0861e1d3389ea38c5efe336a"), looks := false }, kinds := [], alts := [], laidByText := true, laidKinds := [.data, .pinned], laidTests := true, laidLooks := .later }
def FnNameBackCardSaid : Prop := Claim7.holds Tryd.pinned (.plain (OpenSpec.ofChange fnNameBackSpec)) fnNameBackCard

/-- THE TIED CARD OF 'laws.FnNameCut'. -/
def fnNameCutCard : Claim7 := { stood := { row := fnNameCutRow, standIns := [], harness := (true, "0698befe395137fe4d8118c2342eedc706c92b5f0861e1d3389ea38c5efe336a"), looks := false }, kinds := [], alts := [], laidByText := true, laidKinds := [.data, .pinned], laidTests := true, laidLooks := .later }
def FnNameCutCardSaid : Prop := Claim7.holds Tryd.pinned (.plain (OpenSpec.ofChange fnNameCutSpec)) fnNameCutCard

/-- THE TIED CARD OF 'laws.FnFilterBack'. -/
def fnFilterBackCard : Claim7 := { stood := { row := fnFilterBackRow, standIns := [], harness := (true, "0698befe395137fe4d8118c2342eedc706c92b5f0861e1d3389ea38c5efe336a"), looks := false }, kinds := [], alts := [], laidByText := true, laidKinds := [.data, .pinned], laidTests := true, laidLooks := .later }
def FnFilterBackCardSaid : Prop := Claim7.holds Tryd.pinned (.plain (OpenSpec.ofChange fnFilterBackSpec)) fnFilterBackCard

/-- THE SECOND FORM's CARD OF 'laws.FnNameBack'. -/
def fnNameBackUptoCard : Claim7 := { stood := { row := fnNameBackUptoRow, standIns := [], harness := (true, "0698befe395137fe4d8118c2342eedc706c92b5f0861e1d3389ea38c5efe336a"), looks := false }, kinds := [], alts := [], laidByText := true, laidKinds := [.data, .pinned], laidTests := true, laidLooks := .later }
def FnNameBackUptoCardSaid : Prop := Claim7.holds Tryd.pinned (.plain (OpenSpec.upto fnNameBackSpec)) fnNameBackUptoCard

/-- THE SECOND FORM's CARD OF 'laws.FnNameCut'. -/
def fnNameCutUptoCard : Claim7 := { stood := { row := fnNameCutUptoRow, standIns := [], harness := (true, "0698befe395137fe4d8118c2342eedc706c92b5f0861e1d3389ea38c5efe336a"), looks := false }, kinds := [], alts := [], laidByText := true, laidKinds := [.data, .pinned], laidTests := true, laidLooks := .later }
def FnNameCutUptoCardSaid : Prop := Claim7.holds Tryd.pinned (.plain (OpenSpec.upto fnNameCutSpec)) fnNameCutUptoCard

/-- THE SECOND FORM's CARD OF 'laws.FnFilterBack'. -/
def fnFilterBackUptoCard : Claim7 := { stood := { row := fnFilterBackUptoRow, standIns := [], harness := (true, "0698befe395137fe4d8118c2342eedc706c92b5f0861e1d3389ea38c5efe336a"), looks := false }, kinds := [], alts := [], laidByText := true, laidKinds := [.data, .pinned], laidTests := true, laidLooks := .later }
def FnFilterBackUptoCardSaid : Prop := Claim7.holds Tryd.pinned (.plain (OpenSpec.upto fnFilterBackSpec)) fnFilterBackUptoCard
end Rows
end Go.Proofs.YtgedlpdjnnbolaaDoor
