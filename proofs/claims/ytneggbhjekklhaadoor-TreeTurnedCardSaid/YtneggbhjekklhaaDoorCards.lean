/-
  DERIVED. GIVEN WITH THE SEED: THE CARDS: each row of YtneggbhjekklhaaDoorRows.lean that lists a variable, with what it lists TIED to the program's text (the seventh form; the later family's looks); each row that meets fmt, with fmt's text TOLD by the authors' own Lean function (tested against real Go, not proved from fmt's source: count such statements apart). THE CARD IS WHAT COUNTS. Prove the row's statement (the work); the ties are given (YtneggbhjekklhaaDoorTie.lean); close each card by the builder's one call (the guide's Derived/Test/ToyasCard.lean, 'card_holds'). Laid BY PROGRAM, IN A SANDBOX (cutbox-door.mjs). By AI agents, Wed Nov 11 2026. No macro, syntax, notation, axiom, sorry.
-/
import Derived.Test.YtneggbhjekklhaaDoorRows
import GoSem.ClaimSeven
namespace Go.Proofs.YtneggbhjekklhaaDoor
namespace Rows

/-- THE TIED CARD OF 'concordatlaw1.CellsJoins'. -/
def cellsJoinsCard : Claim7 := { stood := { row := cellsJoinsRow, standIns := [], harness := (true, "6e29d95bac3fdacb118784485abf5e4fadd2bc2676959162460873488ce902f2"), looks := true }, kinds := [], alts := [], laidByText := true, laidKinds := [.sentinel, .sentinel, .sentinel, .sentinel], laidTests := true, laidLooks := .later }
def CellsJoinsCardSaid : Prop := Claim7.holds Tryd.pinned (.plain (OpenSpec.ofChange cellsJoinsSpec)) cellsJoinsCard

/-- THE TIED CARD OF 'concordatlaw1.OpSorts'. -/
def opSortsCard : Claim7 := { stood := { row := opSortsRow, standIns := [], harness := (true, "6e29d95bac3fdacb118784485abf5e4fadd2bc2676959162460873488ce902f2"), looks := true }, kinds := [], alts := [], laidByText := true, laidKinds := [.data, .data, .data, .sentinel, .sentinel, .sentinel, .sentinel], laidTests := true, laidLooks := .later }
def OpSortsCardSaid : Prop := Claim7.holds Tryd.pinned (.plain (OpenSpec.ofChange opSortsSpec)) opSortsCard

/-- THE TIED CARD OF 'concordatlaw1.TreeTurned'. -/
def treeTurnedCard : Claim7 := { stood := { row := treeTurnedRow, standIns := [], harness := (true, "6e29d95bac3fdacb118784485abf5e4fadd2bc2676959162460873488ce902f2"), looks := true }, kinds := [], alts := [], laidByText := true, laidKinds := [.sentinel, .sentinel, .sentinel, .sentinel, .sentinel], laidTests := true, laidLooks := .later }
def TreeTurnedCardSaid : Prop := Claim7.holds Tryd.pinned (.plain (OpenSpec.ofChange treeTurnedSpec)) treeTurnedCard

/-- THE TIED CARD OF 'concordatlaw1.CellsSets'. -/
def cellsSetsCard : Claim7 := { stood := { row := cellsSetsRow, standIns := [], harness := (true, "6e29d95bac3fdacb118784485abf5e4fadd2bc2676959162460873488ce902f2"), looks := true }, kinds := [], alts := [], laidByText := true, laidKinds := [.handle, .sentinel, .sentinel, .sentinel, .sentinel, .sentinel, .sentinel, .sentinel, .sentinel, .sentinel, .sentinel, .sentinel, .sentinel], laidTests := true, laidLooks := .later }
def CellsSetsCardSaid : Prop := Claim7.holds Tryd.pinned (.plain (OpenSpec.ofChange cellsSetsSpec)) cellsSetsCard

/-- THE TIED CARD OF 'concordatlaw1.TreeMoves'. -/
def treeMovesCard : Claim7 := { stood := { row := treeMovesRow, standIns := [], harness := (true, "6e29d95bac3fdacb118784485abf5e4fadd2bc2676959162460873488ce902f2"), looks := true }, kinds := [], alts := [], laidByText := true, laidKinds := [.handle, .sentinel, .sentinel, .sentinel, .sentinel, .sentinel, .sentinel, .sentinel, .sentinel, .sentinel, .sentinel, .sentinel, .sentinel], laidTests := true, laidLooks := .later }
def TreeMovesCardSaid : Prop := Claim7.holds Tryd.pinned (.plain (OpenSpec.ofChange treeMovesSpec)) treeMovesCard

/-- THE TIED CARD OF 'concordatlaw1.OpApart'. -/
def opApartCard : Claim7 := { stood := { row := opApartRow, standIns := [], harness := (true, "6e29d95bac3fdacb118784485abf5e4fadd2bc2676959162460873488ce902f2"), looks := true }, kinds := [], alts := [], laidByText := true, laidKinds := [.data, .data, .data, .data, .sentinel, .sentinel, .sentinel, .sentinel, .sentinel, .sentinel, .sentinel, .pinned], laidTests := true, laidLooks := .later }
def OpApartCardSaid : Prop := Claim7.holds Tryd.pinned (.plain (OpenSpec.ofChange opApartSpec)) opApartCard

/-- THE SECOND FORM's CARD OF 'concordatlaw1.CellsJoins'. -/
def cellsJoinsUptoCard : Claim7 := { stood := { row := cellsJoinsUptoRow, standIns := [], harness := (true, "6e29d95bac3fdacb118784485abf5e4fadd2bc2676959162460873488ce902f2"), looks := true }, kinds := [], alts := [], laidByText := true, laidKinds := [.sentinel, .sentinel, .sentinel, .sentinel], laidTests := true, laidLooks := .later }
def CellsJoinsUptoCardSaid : Prop := Claim7.holds Tryd.pinned (.plain (OpenSpec.upto cellsJoinsSpec)) cellsJoinsUptoCard

/-- THE SECOND FORM's CARD OF 'concordatlaw1.OpSorts'. -/
def opSortsUptoCard : Claim7 := { stood := { row := opSortsUptoRow, standIns := [], harness := (true, "6e29d95bac3fdacb118784485abf5e4fadd2bc2676959162460873488ce902f2"), looks := true }, kinds := [], alts := [], laidByText := true, laidKinds := [.data, .data, .data, .sentinel, .sentinel, .sentinel, .sentinel], laidTests := true, laidLooks := .later }
def OpSortsUptoCardSaid : Prop := Claim7.holds Tryd.pinned (.plain (OpenSpec.upto opSortsSpec)) opSortsUptoCard

/-- THE SECOND FORM's CARD OF 'concordatlaw1.TreeTurned'. -/
def treeTurnedUptoCard : Claim7 := { stood := { row := treeTurnedUptoRow, standIns := [], harness := (true, "6e29d95bac3fdacb118784485abf5e4fadd2bc2676959162460873488ce902f2"), looks := true }, kinds := [], alts := [], laidByText := true, laidKinds := [.sentinel, .sentinel, .sentinel, .sentinel, .sentinel], laidTests := true, laidLooks := .later }
def TreeTurnedUptoCardSaid : Prop := Claim7.holds Tryd.pinned (.plain (OpenSpec.upto treeTurnedSpec)) treeTurnedUptoCard

/-- THE SECOND FORM's CARD OF 'concordatlaw1.CellsSets'. -/
def cellsSetsUptoCard : Claim7 := { stood := { row := cellsSetsUptoRow, standIns := [], harness := (true, "6e29d95bac3fdacb118784485abf5e4fadd2bc2676959162460873488ce902f2"), looks := true }, kinds := [], alts := [], laidByText := true, laidKinds := [.handle, .sentinel, .sentinel, .sentinel, .sentinel, .sentinel, .sentinel, .sentinel, .sentinel, .sentinel, .sentinel, .sentinel, .sentinel], laidTests := true, laidLooks := .later }
def CellsSetsUptoCardSaid : Prop := Claim7.holds Tryd.pinned (.plain (OpenSpec.upto cellsSetsSpec)) cellsSetsUptoCard

/-- THE SECOND FORM's CARD OF 'concordatlaw1.TreeMoves'. -/
def treeMovesUptoCard : Claim7 := { stood := { row := treeMovesUptoRow, standIns := [], harness := (true, "6e29d95bac3fdacb118784485abf5e4fadd2bc2676959162460873488ce902f2"), looks := true }, kinds := [], alts := [], laidByText := true, laidKinds := [.handle, .sentinel, .sentinel, .sentinel, .sentinel, .sentinel, .sentinel, .sentinel, .sentinel, .sentinel, .sentinel, .sentinel, .sentinel], laidTests := true, laidLooks := .later }
def TreeMovesUptoCardSaid : Prop := Claim7.holds Tryd.pinned (.plain (OpenSpec.upto treeMovesSpec)) treeMovesUptoCard

/-- THE SECOND FORM's CARD OF 'concordatlaw1.OpApart'. -/
def opApartUptoCard : Claim7 := { stood := { row := opApartUptoRow, standIns := [], harness := (true, "6e29d95bac3fdacb118784485abf5e4fadd2bc2676959162460873488ce902f2"), looks := true }, kinds := [], alts := [], laidByText := true, laidKinds := [.data, .data, .data, .data, .sentinel, .sentinel, .sentinel, .sentinel, .sentinel, .sentinel, .sentinel, .pinned], laidTests := true, laidLooks := .later }
def OpApartUptoCardSaid : Prop := Claim7.holds Tryd.pinned (.plain (OpenSpec.upto opApartSpec)) opApartUptoCard
end Rows
end Go.Proofs.YtneggbhjekklhaaDoor
