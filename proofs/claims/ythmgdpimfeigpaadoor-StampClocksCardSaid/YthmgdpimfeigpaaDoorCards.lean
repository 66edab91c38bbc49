/-
  DERIVED. GIVEN WITH THE SEED: THE CARDS: each row of YthmgdpimfeigpaaDoorRows.lean that lists a variable, with what it lists TIED to the program's text (the seventh form; the later family's looks); each row that meets fmt, with fmt's text TOLD by the authors' own Lean function (tested against real Go, not proved from fmt's source: count such statements apart). THE CARD IS WHAT COUNTS. Prove the row's statement (the work); the ties are given (YthmgdpimfeigpaaDoorTie.lean); close each card by the builder's one call (the guide's Derived/Test/ToyasCard.lean, 'card_holds'). Laid BY PROGRAM, IN A SANDBOX (cutbox-door.mjs). By AI agents, Wed Nov 11 2026. No macro, syntax, notation, axiom, sorry.
-/
import Derived.Test.YthmgdpimfeigpaaDoorRows
import GoSem.ClaimSeven
namespace Go.Proofs.YthmgdpimfeigpaaDoor
namespace Rows

/-- THE TIED CARD OF 'concordatlaw1.StampIDs'. -/
def stampIDsCard : Claim7 := { stood := { row := stampIDsRow, standIns := [], harness := (true, "67896bb86205701bc9614230e2c2ffb27938cfd1fbf180d4a7e0c6d1a7edfdc0"), looks := true }, kinds := [], alts := [], laidByText := true, laidKinds := [.sentinel], laidTests := true, laidLooks := .later }
def StampIDsCardSaid : Prop := Claim7.holds Tryd.pinned (.plain (OpenSpec.ofChange stampIDsSpec)) stampIDsCard

/-- THE TIED CARD OF 'concordatlaw1.LineTurned'. -/
def lineTurnedCard : Claim7 := { stood := { row := lineTurnedRow, standIns := [], harness := (true, "67896bb86205701bc9614230e2c2ffb27938cfd1fbf180d4a7e0c6d1a7edfdc0"), looks := true }, kinds := [], alts := [], laidByText := true, laidKinds := [.sentinel, .sentinel, .sentinel], laidTests := true, laidLooks := .later }
def LineTurnedCardSaid : Prop := Claim7.holds Tryd.pinned (.plain (OpenSpec.ofChange lineTurnedSpec)) lineTurnedCard

/-- THE TIED CARD OF 'concordatlaw1.LineKeeps'. -/
def lineKeepsCard : Claim7 := { stood := { row := lineKeepsRow, standIns := [], harness := (true, "67896bb86205701bc9614230e2c2ffb27938cfd1fbf180d4a7e0c6d1a7edfdc0"), looks := true }, kinds := [], alts := [], laidByText := true, laidKinds := [.sentinel, .sentinel, .sentinel], laidTests := true, laidLooks := .later }
def LineKeepsCardSaid : Prop := Claim7.holds Tryd.pinned (.plain (OpenSpec.ofChange lineKeepsSpec)) lineKeepsCard

/-- THE TIED CARD OF 'concordatlaw1.Names'. -/
def namesCard : Claim7 := { stood := { row := namesRow, standIns := [], harness := (true, "67896bb86205701bc9614230e2c2ffb27938cfd1fbf180d4a7e0c6d1a7edfdc0"), looks := true }, kinds := [], alts := [], laidByText := true, laidKinds := [.handle, .sentinel, .sentinel, .sentinel, .sentinel, .sentinel, .sentinel, .sentinel, .sentinel, .sentinel, .sentinel, .sentinel, .sentinel], laidTests := true, laidLooks := .later }
def NamesCardSaid : Prop := Claim7.holds Tryd.pinned (.plain (OpenSpec.ofChange namesSpec)) namesCard

/-- THE TIED CARD OF 'concordatlaw1.StampOrders'. -/
def stampOrdersCard : Claim7 := { stood := { row := stampOrdersRow, standIns := [], harness := (true, "67896bb86205701bc9614230e2c2ffb27938cfd1fbf180d4a7e0c6d1a7edfdc0"), looks := true }, kinds := [], alts := [], laidByText := true, laidKinds := [.handle, .sentinel, .sentinel, .sentinel, .sentinel, .sentinel, .sentinel, .sentinel, .sentinel, .sentinel, .sentinel, .sentinel, .sentinel], laidTests := true, laidLooks := .later }
def StampOrdersCardSaid : Prop := Claim7.holds Tryd.pinned (.plain (OpenSpec.ofChange stampOrdersSpec)) stampOrdersCard

/-- THE TIED CARD OF 'concordatlaw1.StampClocks'. -/
def stampClocksCard : Claim7 := { stood := { row := stampClocksRow, standIns := [], harness := (true, "67896bb86205701bc9614230e2c2ffb27938cfd1fbf180d4a7e0c6d1a7edfdc0"), looks := true }, kinds := [], alts := [], laidByText := true, laidKinds := [.handle, .sentinel, .sentinel, .sentinel, .sentinel, .sentinel, .sentinel, .sentinel, .sentinel, .sentinel, .sentinel, .sentinel, .sentinel], laidTests := true, laidLooks := .later }
def StampClocksCardSaid : Prop := Claim7.holds Tryd.pinned (.plain (OpenSpec.ofChange stampClocksSpec)) stampClocksCard

/-- THE TIED CARD OF 'concordatlaw1.VectorJoins'. -/
def vectorJoinsCard : Claim7 := { stood := { row := vectorJoinsRow, standIns := [], harness := (true, "67896bb86205701bc9614230e2c2ffb27938cfd1fbf180d4a7e0c6d1a7edfdc0"), looks := true }, kinds := [], alts := [], laidByText := true, laidKinds := [.data, .data, .data, .sentinel], laidTests := true, laidLooks := .later }
def VectorJoinsCardSaid : Prop := Claim7.holds Tryd.pinned (.plain (OpenSpec.ofChange vectorJoinsSpec)) vectorJoinsCard

/-- THE TIED CARD OF 'concordatlaw1.LineActs'. -/
def lineActsCard : Claim7 := { stood := { row := lineActsRow, standIns := [], harness := (true, "67896bb86205701bc9614230e2c2ffb27938cfd1fbf180d4a7e0c6d1a7edfdc0"), looks := true }, kinds := [], alts := [], laidByText := true, laidKinds := [.handle, .sentinel, .sentinel, .sentinel, .sentinel, .sentinel, .sentinel, .sentinel, .sentinel, .sentinel, .sentinel, .sentinel, .sentinel], laidTests := true, laidLooks := .later }
def LineActsCardSaid : Prop := Claim7.holds Tryd.pinned (.plain (OpenSpec.ofChange lineActsSpec)) lineActsCard

/-- THE TIED CARD OF 'concordatlaw1.CellsJoins'. -/
def cellsJoinsCard : Claim7 := { stood := { row := cellsJoinsRow, standIns := [], harness := (true, "67896bb86205701bc9614230e2c2ffb27938cfd1fbf180d4a7e0c6d1a7edfdc0"), looks := true }, kinds := [], alts := [], laidByText := true, laidKinds := [.sentinel, .sentinel, .sentinel, .sentinel], laidTests := true, laidLooks := .later }
def CellsJoinsCardSaid : Prop := Claim7.holds Tryd.pinned (.plain (OpenSpec.ofChange cellsJoinsSpec)) cellsJoinsCard

/-- THE TIED CARD OF 'concordatlaw1.OpSorts'. -/
def opSortsCard : Claim7 := { stood := { row := opSortsRow, standIns := [], harness := (true, "67896bb86205701bc9614230e2c2ffb27938cfd1fbf180d4a7e0c6d1a7edfdc0"), looks := true }, kinds := [], alts := [], laidByText := true, laidKinds := [.data, .data, .data, .sentinel, .sentinel, .sentinel, .sentinel], laidTests := true, laidLooks := .later }
def OpSortsCardSaid : Prop := Claim7.holds Tryd.pinned (.plain (OpenSpec.ofChange opSortsSpec)) opSortsCard

/-- THE TIED CARD OF 'concordatlaw1.TreeTurned'. -/
def treeTurnedCard : Claim7 := { stood := { row := treeTurnedRow, standIns := [], harness := (true, "67896bb86205701bc9614230e2c2ffb27938cfd1fbf180d4a7e0c6d1a7edfdc0"), looks := true }, kinds := [], alts := [], laidByText := true, laidKinds := [.sentinel, .sentinel, .sentinel, .sentinel, .sentinel], laidTests := true, laidLooks := .later }
def TreeTurnedCardSaid : Prop := Claim7.holds Tryd.pinned (.plain (OpenSpec.ofChange treeTurnedSpec)) treeTurnedCard

/-- THE SECOND FORM's CARD OF 'concordatlaw1.StampIDs'. -/
def stampIDsUptoCard : Claim7 := { stood := { row := stampIDsUptoRow, standIns := [], harness := (true, "67896bb86205701bc9614230e2c2ffb27938cfd1fbf180d4a7e0c6d1a7edfdc0"), looks := true }, kinds := [], alts := [], laidByText := true, laidKinds := [.sentinel], laidTests := true, laidLooks := .later }
def StampIDsUptoCardSaid : Prop := Claim7.holds Tryd.pinned (.plain (OpenSpec.upto stampIDsSpec)) stampIDsUptoCard

/-- THE SECOND FORM's CARD OF 'concordatlaw1.LineTurned'. -/
def lineTurnedUptoCard : Claim7 := { stood := { row := lineTurnedUptoRow, standIns := [], harness := (true, "67896bb86205701bc9614230e2c2ffb27938cfd1fbf180d4a7e0c6d1a7edfdc0"), looks := true }, kinds := [], alts := [], laidByText := true, laidKinds := [.sentinel, .sentinel, .sentinel], laidTests := true, laidLooks := .later }
def LineTurnedUptoCardSaid : Prop := Claim7.holds Tryd.pinned (.plain (OpenSpec.upto lineTurnedSpec)) lineTurnedUptoCard

/-- THE SECOND FORM's CARD OF 'concordatlaw1.LineKeeps'. -/
def lineKeepsUptoCard : Claim7 := { stood := { row := lineKeepsUptoRow, standIns := [], harness := (true, "67896bb86205701bc9614230e2c2ffb27938cfd1fbf180d4a7e0c6d1a7edfdc0"), looks := true }, kinds := [], alts := [], laidByText := true, laidKinds := [.sentinel, .sentinel, .sentinel], laidTests := true, laidLooks := .later }
def LineKeepsUptoCardSaid : Prop := Claim7.holds Tryd.pinned (.plain (OpenSpec.upto lineKeepsSpec)) lineKeepsUptoCard

/-- THE SECOND FORM's CARD OF 'concordatlaw1.Names'. -/
def namesUptoCard : Claim7 := { stood := { row := namesUptoRow, standIns := [], harness := (true, "67896bb86205701bc9614230e2c2ffb27938cfd1fbf180d4a7e0c6d1a7edfdc0"), looks := true }, kinds := [], alts := [], laidByText := true, laidKinds := [.handle, .sentinel, .sentinel, .sentinel, .sentinel, .sentinel, .sentinel, .sentinel, .sentinel, .sentinel, .sentinel, .sentinel, .sentinel], laidTests := true, laidLooks := .later }
def NamesUptoCardSaid : Prop := Claim7.holds Tryd.pinned (.plain (OpenSpec.upto namesSpec)) namesUptoCard

/-- THE SECOND FORM's CARD OF 'concordatlaw1.StampOrders'. -/
def stampOrdersUptoCard : Claim7 := { stood := { row := stampOrdersUptoRow, standIns := [], harness := (true, "67896bb86205701bc9614230e2c2ffb27938cfd1fbf180d4a7e0c6d1a7edfdc0"), looks := true }, kinds := [], alts := [], laidByText := true, laidKinds := [.handle, .sentinel, .sentinel, .sentinel, .sentinel, .sentinel, .sentinel, .sentinel, .sentinel, .sentinel, .sentinel, .sentinel, .sentinel], laidTests := true, laidLooks := .later }
def StampOrdersUptoCardSaid : Prop := Claim7.holds Tryd.pinned (.plain (OpenSpec.upto stampOrdersSpec)) stampOrdersUptoCard

/-- THE SECOND FORM's CARD OF 'concordatlaw1.StampClocks'. -/
def stampClocksUptoCard : Claim7 := { stood := { row := stampClocksUptoRow, standIns := [], harness := (true, "67896bb86205701bc9614230e2c2ffb27938cfd1fbf180d4a7e0c6d1a7edfdc0"), looks := true }, kinds := [], alts := [], laidByText := true, laidKinds := [.handle, .sentinel, .sentinel, .sentinel, .sentinel, .sentinel, .sentinel, .sentinel, .sentinel, .sentinel, .sentinel, .sentinel, .sentinel], laidTests := true, laidLooks := .later }
def StampClocksUptoCardSaid : Prop := Claim7.holds Tryd.pinned (.plain (OpenSpec.upto stampClocksSpec)) stampClocksUptoCard

/-- THE SECOND FORM's CARD OF 'concordatlaw1.VectorJoins'. -/
def vectorJoinsUptoCard : Claim7 := { stood := { row := vectorJoinsUptoRow, standIns := [], harness := (true, "67896bb86205701bc9614230e2c2ffb27938cfd1fbf180d4a7e0c6d1a7edfdc0"), looks := true }, kinds := [], alts := [], laidByText := true, laidKinds := [.data, .data, .data, .sentinel], laidTests := true, laidLooks := .later }
def VectorJoinsUptoCardSaid : Prop := Claim7.holds Tryd.pinned (.plain (OpenSpec.upto vectorJoinsSpec)) vectorJoinsUptoCard

/-- THE SECOND FORM's CARD OF 'concordatlaw1.LineActs'. -/
def lineActsUptoCard : Claim7 := { stood := { row := lineActsUptoRow, standIns := [], harness := (true, "67896bb86205701bc9614230e2c2ffb27938cfd1fbf180d4a7e0c6d1a7edfdc0"), looks := true }, kinds := [], alts := [], laidByText := true, laidKinds := [.handle, .sentinel, .sentinel, .sentinel, .sentinel, .sentinel, .sentinel, .sentinel, .sentinel, .sentinel, .sentinel, .sentinel, .sentinel], laidTests := true, laidLooks := .later }
def LineActsUptoCardSaid : Prop := Claim7.holds Tryd.pinned (.plain (OpenSpec.upto lineActsSpec)) lineActsUptoCard

/-- THE SECOND FORM's CARD OF 'concordatlaw1.CellsJoins'. -/
def cellsJoinsUptoCard : Claim7 := { stood := { row := cellsJoinsUptoRow, standIns := [], harness := (true, "67896bb86205701bc9614230e2c2ffb27938cfd1fbf180d4a7e0c6d1a7edfdc0"), looks := true }, kinds := [], alts := [], laidByText := true, laidKinds := [.sentinel, .sentinel, .sentinel, .sentinel], laidTests := true, laidLooks := .later }
def CellsJoinsUptoCardSaid : Prop := Claim7.holds Tryd.pinned (.plain (OpenSpec.upto cellsJoinsSpec)) cellsJoinsUptoCard

/-- THE SECOND FORM's CARD OF 'concordatlaw1.OpSorts'. -/
def opSortsUptoCard : Claim7 := { stood := { row := opSortsUptoRow, standIns := [], harness := (true, "67896bb86205701bc9614230e2c2ffb27938cfd1fbf180d4a7e0c6d1a7edfdc0"), looks := true }, kinds := [], alts := [], laidByText := true, laidKinds := [.data, .data, .data, .sentinel, .sentinel, .sentinel, .sentinel], laidTests := true, laidLooks := .later }
def OpSortsUptoCardSaid : Prop := Claim7.holds Tryd.pinned (.plain (OpenSpec.upto opSortsSpec)) opSortsUptoCard

/-- THE SECOND FORM's CARD OF 'concordatlaw1.TreeTurned'. -/
def treeTurnedUptoCard : Claim7 := { stood := { row := treeTurnedUptoRow, standIns := [], harness := (true, "67896bb86205701bc9614230e2c2ffb27938cfd1fbf180d4a7e0c6d1a7edfdc0"), looks := true }, kinds := [], alts := [], laidByText := true, laidKinds := [.sentinel, .sentinel, .sentinel, .sentinel, .sentinel], laidTests := true, laidLooks := .later }
def TreeTurnedUptoCardSaid : Prop := Claim7.holds Tryd.pinned (.plain (OpenSpec.upto treeTurnedSpec)) treeTurnedUptoCard
end Rows
end Go.Proofs.YthmgdpimfeigpaaDoor
