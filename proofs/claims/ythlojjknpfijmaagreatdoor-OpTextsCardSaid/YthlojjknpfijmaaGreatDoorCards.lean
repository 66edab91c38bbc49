/-
  DERIVED. GIVEN WITH THE SEED: THE CARDS: each row of YthlojjknpfijmaaGreatDoorRows.lean that lists a variable, with what it lists TIED to the program's text (the seventh form; the later family's looks); each row that meets fmt, with fmt's text TOLD by the authors' own Lean function (tested against real Go, not proved from fmt's source: count such statements apart). THE CARD IS WHAT COUNTS. Prove the row's statement (the work); the ties are given (YthlojjknpfijmaaGreatDoorTie.lean); close each card by the builder's one call (the guide's Derived/Test/ToyasCard.lean, 'card_holds'). Laid BY PROGRAM, IN A SANDBOX (cutbox-door.mjs). By AI agents, Wed Nov 11 2026. No macro, syntax, notation, axiom, sorry.
-/
import Derived.Test.YthlojjknpfijmaaGreatDoorRows
import GoSem.ClaimSeven
namespace Go.Proofs.YthlojjknpfijmaaGreatDoor
namespace Rows

/-- THE TIED CARD OF 'concordatlaw1.VectorPairs'. -/
def vectorPairsCard : Claim7 := { stood := { row := vectorPairsRow, standIns := [], harness := (true, "96bb26661d51917d87fb32ba5c7ee165767bff61da03d16a347de79700d0a643"), looks := true }, kinds := [], alts := [], laidByText := true, laidKinds := [.data, .data, .data, .data, .handle, .sentinel, .sentinel, .sentinel, .sentinel, .sentinel, .sentinel, .sentinel, .sentinel, .sentinel, .sentinel, .sentinel, .sentinel, .sentinel, .sentinel, .pinned], laidTests := true, laidLooks := .later }
def VectorPairsCardSaid : Prop := Claim7.holds Tryz.pinned (.plain (OpenSpec.ofChange vectorPairsSpec)) vectorPairsCard

/-- THE TIED CARD OF 'concordatlaw1.OpTexts'. -/
def opTextsCard : Claim7 := { stood := { row := opTextsRow, standIns := [], harness := (true, "96bb26661d51917d87fb32ba5c7ee165767bff61da03d16a347de79700d0a643"), looks := true }, kinds := [], alts := [], laidByText := true, laidKinds := [.data, .data, .data, .data, .handle, .sentinel, .sentinel, .sentinel, .sentinel, .sentinel, .sentinel, .sentinel, .sentinel, .sentinel, .sentinel, .sentinel, .sentinel, .sentinel, .sentinel, .pinned], laidTests := true, laidLooks := .later }
def OpTextsCardSaid : Prop := Claim7.holds Tryz.pinned (.plain (OpenSpec.ofChange opTextsSpec)) opTextsCard

/-- THE SECOND FORM's CARD OF 'concordatlaw1.VectorPairs'. -/
def vectorPairsUptoCard : Claim7 := { stood := { row := vectorPairsUptoRow, standIns := [], harness := (true, "96bb26661d51917d87fb32ba5c7ee165767bff61da03d16a347de79700d0a643"), looks := true }, kinds := [], alts := [], laidByText := true, laidKinds := [.data, .data, .data, .data, .handle, .sentinel, .sentinel, .sentinel, .sentinel, .sentinel, .sentinel, .sentinel, .sentinel, .sentinel, .sentinel, .sentinel, .sentinel, .sentinel, .sentinel, .pinned], laidTests := true, laidLooks := .later }
def VectorPairsUptoCardSaid : Prop := Claim7.holds Tryz.pinned (.plain (OpenSpec.upto vectorPairsSpec)) vectorPairsUptoCard

/-- THE SECOND FORM's CARD OF 'concordatlaw1.OpTexts'. -/
def opTextsUptoCard : Claim7 := { stood := { row := opTextsUptoRow, standIns := [], harness := (true, "96bb26661d51917d87fb32ba5c7ee165767bff61da03d16a347de79700d0a643"), looks := true }, kinds := [], alts := [], laidByText := true, laidKinds := [.data, .data, .data, .data, .handle, .sentinel, .sentinel, .sentinel, .sentinel, .sentinel, .sentinel, .sentinel, .sentinel, .sentinel, .sentinel, .sentinel, .sentinel, .sentinel, .sentinel, .pinned], laidTests := true, laidLooks := .later }
def OpTextsUptoCardSaid : Prop := Claim7.holds Tryz.pinned (.plain (OpenSpec.upto opTextsSpec)) opTextsUptoCard
end Rows
end Go.Proofs.YthlojjknpfijmaaGreatDoor
