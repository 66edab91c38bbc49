/-
  DERIVED. GIVEN WITH THE SEED: THE CARDS: each row of YthlojjknpfijmaaDoorRows.lean that lists a variable, with what it lists TIED to the program's text (the seventh form; the later family's looks); each row that meets fmt, with fmt's text TOLD by the authors' own Lean function (tested against real Go, not proved from fmt's source: count such statements apart). THE CARD IS WHAT COUNTS. Prove the row's statement (the work); the ties are given (YthlojjknpfijmaaDoorTie.lean); close each card by the builder's one call (the guide's Derived/Test/ToyasCard.lean, 'card_holds'). Laid BY PROGRAM, IN A SANDBOX (cutbox-door.mjs). By AI agents, Wed Nov 11 2026. No macro, syntax, notation, axiom, sorry.
-/
import Derived.Test.YthlojjknpfijmaaDoorRows
import GoSem.ClaimSeven
namespace Go.Proofs.YthlojjknpfijmaaDoor
namespace Rows

/-- THE TIED CARD OF 'concordatlaw1.LineTurned'. -/
def lineTurnedCard : Claim7 := { stood := { row := lineTurnedRow, standIns := [], harness := (true, "4ae663b476507af3ef033722090c846615a606ae40dfa5cebd389e6a59b563c1"), looks := true }, kinds := [], alts := [], laidByText := true, laidKinds := [.sentinel, .sentinel, .sentinel], laidTests := true, laidLooks := .later }
def LineTurnedCardSaid : Prop := Claim7.holds Tryd.pinned (.plain (OpenSpec.ofChange lineTurnedSpec)) lineTurnedCard

/-- THE TIED CARD OF 'concordatlaw1.LineKeeps'. -/
def lineKeepsCard : Claim7 := { stood := { row := lineKeepsRow, standIns := [], harness := (true, "4ae663b476507af3ef033722090c846615a606ae40dfa5cebd389e6a59b563c1"), looks := true }, kinds := [], alts := [], laidByText := true, laidKinds := [.sentinel, .sentinel, .sentinel], laidTests := true, laidLooks := .later }
def LineKeepsCardSaid : Prop := Claim7.holds Tryd.pinned (.plain (OpenSpec.ofChange lineKeepsSpec)) lineKeepsCard

/-- THE TIED CARD OF 'concordatlaw1.VectorJoins'. -/
def vectorJoinsCard : Claim7 := { stood := { row := vectorJoinsRow, standIns := [], harness := (true, "4ae663b476507af3ef033722090c846615a606ae40dfa5cebd389e6a59b563c1"), looks := true }, kinds := [], alts := [], laidByText := true, laidKinds := [.data, .data, .data, .sentinel], laidTests := true, laidLooks := .later }
def VectorJoinsCardSaid : Prop := Claim7.holds Tryd.pinned (.plain (OpenSpec.ofChange vectorJoinsSpec)) vectorJoinsCard

/-- THE TIED CARD OF 'concordatlaw1.LineActs'. -/
def lineActsCard : Claim7 := { stood := { row := lineActsRow, standIns := [], harness := (true, "4ae663b476507af3ef033722090c846615a606ae40dfa5cebd389e6a59b563c1"), looks := true }, kinds := [], alts := [], laidByText := true, laidKinds := [.handle, .sentinel, .sentinel, .sentinel, .sentinel, .sentinel, .sentinel, .sentinel, .sentinel, .sentinel, .sentinel, .sentinel, .sentinel], laidTests := true, laidLooks := .later }
def LineActsCardSaid : Prop := Claim7.holds Tryd.pinned (.plain (OpenSpec.ofChange lineActsSpec)) lineActsCard

/-- THE TIED CARD OF 'concordatlaw1.CellsJoins'. -/
def cellsJoinsCard : Claim7 := { stood := { row := cellsJoinsRow, standIns := [], harness := (true, "4ae663b476507af3ef033722090c846615a606ae40dfa5cebd389e6a59b563c1"), looks := true }, kinds := [], alts := [], laidByText := true, laidKinds := [.sentinel, .sentinel, .sentinel, .sentinel], laidTests := true, laidLooks := .later }
def CellsJoinsCardSaid : Prop := Claim7.holds Tryd.pinned (.plain (OpenSpec.ofChange cellsJoinsSpec)) cellsJoinsCard

/-- THE TIED CARD OF 'concordatlaw1.OpSorts'. -/
def opSortsCard : Claim7 := { stood := { row := opSortsRow, standIns := [], harness := (true, "4ae663b476507af3ef033722090c846615a606ae40dfa5cebd389e6a59b563c1"), looks := true }, kinds := [], alts := [], laidByText := true, laidKinds := [.data, .data, .data, .sentinel, .sentinel, .sentinel, .sentinel], laidTests := true, laidLooks := .later }
def OpSortsCardSaid : Prop := Claim7.holds Tryd.pinned (.plain (OpenSpec.ofChange opSortsSpec)) opSortsCard

/-- THE TIED CARD OF 'concordatlaw1.TreeTurned'. -/
def treeTurnedCard : Claim7 := { stood := { row := treeTurnedRow, standIns := [], harness := (true, "4ae663b476507af3ef033722090c846615a606ae40dfa5cebd389e6a59b563c1"), looks := true }, kinds := [], alts := [], laidByText := true, laidKinds := [.sentinel, .sentinel, .sentinel, .sentinel, .sentinel], laidTests := true, laidLooks := .later }
def TreeTurnedCardSaid : Prop := Claim7.holds Tryd.pinned (.plain (OpenSpec.ofChange treeTurnedSpec)) treeTurnedCard

/-- THE TIED CARD OF 'concordatlaw1.CellsSets'. -/
def cellsSetsCard : Claim7 := { stood := { row := cellsSetsRow, standIns := [], harness := (true, "4ae663b476507af3ef033722090c846615a606ae40dfa5cebd389e6a59b563c1"), looks := true }, kinds := [], alts := [], laidByText := true, laidKinds := [.handle, .sentinel, .sentinel, .sentinel, .sentinel, .sentinel, .sentinel, .sentinel, .sentinel, .sentinel, .sentinel, .sentinel, .sentinel], laidTests := true, laidLooks := .later }
def CellsSetsCardSaid : Prop := Claim7.holds Tryd.pinned (.plain (OpenSpec.ofChange cellsSetsSpec)) cellsSetsCard

/-- THE TIED CARD OF 'concordatlaw1.TreeMoves'. -/
def treeMovesCard : Claim7 := { stood := { row := treeMovesRow, standIns := [], harness := (true, "4ae663b476507af3ef033722090c846615a606ae40dfa5cebd389e6a59b563c1"), looks := true }, kinds := [], alts := [], laidByText := true, laidKinds := [.handle, .sentinel, .sentinel, .sentinel, .sentinel, .sentinel, .sentinel, .sentinel, .sentinel, .sentinel, .sentinel, .sentinel, .sentinel], laidTests := true, laidLooks := .later }
def TreeMovesCardSaid : Prop := Claim7.holds Tryd.pinned (.plain (OpenSpec.ofChange treeMovesSpec)) treeMovesCard

/-- THE TIED CARD OF 'concordatlaw1.OpApart'. -/
def opApartCard : Claim7 := { stood := { row := opApartRow, standIns := [], harness := (true, "4ae663b476507af3ef033722090c846615a606ae40dfa5cebd389e6a59b563c1"), looks := true }, kinds := [], alts := [], laidByText := true, laidKinds := [.data, .data, .data, .data, .sentinel, .sentinel, .sentinel, .sentinel, .sentinel, .sentinel, .sentinel, .pinned], laidTests := true, laidLooks := .later }
def OpApartCardSaid : Prop := Claim7.holds Tryd.pinned (.plain (OpenSpec.ofChange opApartSpec)) opApartCard

/-- THE SECOND FORM's CARD OF 'concordatlaw1.LineTurned'. -/
def lineTurnedUptoCard : Claim7 := { stood := { row := lineTurnedUptoRow, standIns := [], harness := (true, "4ae663b476507af3ef033722090c846615a606ae40dfa5cebd389e6a59b563c1"), looks := true }, kinds := [], alts := [], laidByText := true, laidKinds := [.sentinel, .sentinel, .sentinel], laidTests := true, laidLooks := .later }
def LineTurnedUptoCardSaid : Prop := Claim7.holds Tryd.pinned (.plain (OpenSpec.upto lineTurnedSpec)) lineTurnedUptoCard

/-- THE SECOND FORM's CARD OF 'concordatlaw1.LineKeeps'. -/
def lineKeepsUptoCard : Claim7 := { stood := { row := lineKeepsUptoRow, standIns := [], harness := (true, "4ae663b476507af3ef033722090c846615a606ae40dfa5cebd389e6a59b563c1"), looks := true }, kinds := [], alts := [], laidByText := true, laidKinds := [.sentinel, .sentinel, .sentinel], laidTests := true, laidLooks := .later }
def LineKeepsUptoCardSaid : Prop := Claim7.holds Tryd.pinned (.plain (OpenSpec.upto lineKeepsSpec)) lineKeepsUptoCard

/-- THE SECOND FORM's CARD OF 'concordatlaw1.VectorJoins'. -/
def vectorJoinsUptoCard : Claim7 := { stood := { row := vectorJoinsUptoRow, standIns := [], harness := (true, "4ae663b476507af3ef033722090c846615a606ae40dfa5cebd389e6a59b563c1"), looks := true }, kinds := [], alts := [], laidByText := true, laidKinds := [.data, .data, .data, .sentinel], laidTests := true, laidLooks := .later }
def VectorJoinsUptoCardSaid : Prop := Claim7.holds Tryd.pinned (.plain (OpenSpec.upto vectorJoinsSpec)) vectorJoinsUptoCard

/-- THE SECOND FORM's CARD OF 'concordatlaw1.LineActs'. -/
def lineActsUptoCard : Claim7 := { stood := { row := lineActsUptoRow, standIns := [], harness := (true, "4ae663b476507af3ef033722090c846615a606ae40dfa5cebd389e6a59b563c1"), looks := true }, kinds := [], alts := [], laidByText := true, laidKinds := [.handle, .sentinel, .sentinel, .sentinel, .sentinel, .sentinel, .sentinel, .sentinel, .sentinel, .sentinel, .sentinel, .sentinel, .sentinel], laidTests := true, laidLooks := .later }
def LineActsUptoCardSaid : Prop := Claim7.holds Tryd.pinned (.plain (OpenSpec.upto lineActsSpec)) lineActsUptoCard

/-- THE SECOND FORM's CARD OF 'concordatlaw1.CellsJoins'. -/
def cellsJoinsUptoCard : Claim7 := { stood := { row := cellsJoinsUptoRow, standIns := [], harness := (true, "4ae663b476507af3ef033722090c846615a606ae40dfa5cebd389e6a59b563c1"), looks := true }, kinds := [], alts := [], laidByText := true, laidKinds := [.sentinel, .sentinel, .sentinel, .sentinel], laidTests := true, laidLooks := .later }
def CellsJoinsUptoCardSaid : Prop := Claim7.holds Tryd.pinned (.plain (OpenSpec.upto cellsJoinsSpec)) cellsJoinsUptoCard

/-- THE SECOND FORM's CARD OF 'concordatlaw1.OpSorts'. -/
def opSortsUptoCard : Claim7 := { stood := { row := opSortsUptoRow, standIns := [], harness := (true, "4ae663b476507af3ef033722090c846615a606ae40dfa5cebd389e6a59b563c1"), looks := true }, kinds := [], alts := [], laidByText := true, laidKinds := [.data, .data, .data, .sentinel, .sentinel, .sentinel, .sentinel], laidTests := true, laidLooks := .later }
def OpSortsUptoCardSaid : Prop := Claim7.holds Tryd.pinned (.plain (OpenSpec.upto opSortsSpec)) opSortsUptoCard

/-- THE SECOND FORM's CARD OF 'concordatlaw1.TreeTurned'. -/
def treeTurnedUptoCard : Claim7 := { stood := { row := treeTurnedUptoRow, standIns := [], harness := (true, "4ae663b476507af3ef033722090c846615a606ae40dfa5cebd389e6a59b563c1"), looks := true }, kinds := [], alts := [], laidByText := true, laidKinds := [.sentinel, .sentinel, .sentinel, .sentinel, .sentinel], laidTests := true, laidLooks := .later }
def TreeTurnedUptoCardSaid : Prop := Claim7.holds Tryd.pinned (.plain (OpenSpec.upto treeTurnedSpec)) treeTurnedUptoCard

/-- THE SECOND FORM's CARD OF 'concordatlaw1.CellsSets'. -/
def cellsSetsUptoCard : Claim7 := { stood := { row := cellsSetsUptoRow, standIns := [], harness := (true, "4ae663b476507af3ef033722090c846615a606ae40dfa5cebd389e6a59b563c1"), looks := true }, kinds := [], alts := [], laidByText := true, laidKinds := [.handle, .sentinel, .sentinel, .sentinel, .sentinel, .sentinel, .sentinel, .sentinel, .sentinel, .sentinel, .sentinel, .sentinel, .sentinel], laidTests := true, laidLooks := .later }
def CellsSetsUptoCardSaid : Prop := Claim7.holds Tryd.pinned (.plain (OpenSpec.upto cellsSetsSpec)) cellsSetsUptoCard

/-- THE SECOND FORM's CARD OF 'concordatlaw1.TreeMoves'. -/
def treeMovesUptoCard : Claim7 := { stood := { row := treeMovesUptoRow, standIns := [], harness := (true, "4ae663b476507af3ef033722090c846615a606ae40dfa5cebd389e6a59b563c1"), looks := true }, kinds := [], alts := [], laidByText := true, laidKinds := [.handle, .sentinel, .sentinel, .sentinel, .sentinel, .sentinel, .sentinel, .sentinel, .sentinel, .sentinel, .sentinel, .sentinel, .sentinel], laidTests := true, laidLooks := .later }
def TreeMovesUptoCardSaid : Prop := Claim7.holds Tryd.pinned (.plain (OpenSpec.upto treeMovesSpec)) treeMovesUptoCard

/-- THE SECOND FORM's CARD OF 'concordatlaw1.OpApart'. -/
def opApartUptoCard : Claim7 := { stood := { row := opApartUptoRow, standIns := [], harness := (true, "4ae663b476507af3ef033722090c846615a606ae40dfa5cebd389e6a59b563c1"), looks := true }, kinds := [], alts := [], laidByText := true, laidKinds := [.data, .data, .data, .data, .sentinel, .sentinel, .sentinel, .sentinel, .sentinel, .sentinel, .sentinel, .pinned], laidTests := true, laidLooks := .later }
def OpApartUptoCardSaid : Prop := Claim7.holds Tryd.pinned (.plain (OpenSpec.upto opApartSpec)) opApartUptoCard
end Rows
end Go.Proofs.YthlojjknpfijmaaDoor
