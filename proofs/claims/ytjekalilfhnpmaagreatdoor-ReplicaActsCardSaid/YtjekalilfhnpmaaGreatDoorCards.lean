/-
  DERIVED. GIVEN WITH THE SEED: THE CARDS: each row of YtjekalilfhnpmaaGreatDoorRows.lean that lists a variable, with what it lists TIED to the program's text (the seventh form; the later family's looks); each row that meets fmt, with fmt's text TOLD by the authors' own Lean function (tested against real Go, not proved from fmt's source: count such statements apart). THE CARD IS WHAT COUNTS. Prove the row's statement (the work); the ties are given (YtjekalilfhnpmaaGreatDoorTie.lean); close each card by the builder's one call (the guide's Derived/Test/ToyasCard.lean, 'card_holds'). Laid BY PROGRAM, IN A SANDBOX (cutbox-door.mjs). By AI agents, Wed Nov 11 2026. No macro, syntax, notation, axiom, sorry.
-/
import Derived.Test.YtjekalilfhnpmaaGreatDoorRows
import GoSem.ClaimSeven
namespace Go.Proofs.YtjekalilfhnpmaaGreatDoor
namespace Rows

/-- THE TIED CARD OF 'concordatlaw2.ReplicaWrites'. -/
def replicaWritesCard : Claim7 := { stood := { row := replicaWritesRow, standIns := [], harness := (true, "964e02bd5ebde6dc6e9677a6a730712edd48cffd1292e3e2a4ee69e5f62cce34"), looks := true }, kinds := [], alts := [], laidByText := true, laidKinds := [.data, .data, .data, .sentinel, .sentinel, .sentinel, .sentinel, .sentinel, .sentinel, .sentinel, .sentinel], laidTests := true, laidLooks := .later }
def ReplicaWritesCardSaid : Prop := Claim7.holds Tryz.pinned (.plain (OpenSpec.ofChange replicaWritesSpec)) replicaWritesCard

/-- THE TIED CARD OF 'concordatlaw2.ReplicaMeets'. -/
def replicaMeetsCard : Claim7 := { stood := { row := replicaMeetsRow, standIns := [], harness := (true, "964e02bd5ebde6dc6e9677a6a730712edd48cffd1292e3e2a4ee69e5f62cce34"), looks := true }, kinds := [], alts := [], laidByText := true, laidKinds := [.data, .data, .data, .sentinel, .sentinel, .sentinel, .sentinel, .sentinel, .sentinel, .sentinel, .sentinel, .sentinel], laidTests := true, laidLooks := .later }
def ReplicaMeetsCardSaid : Prop := Claim7.holds Tryz.pinned (.plain (OpenSpec.ofChange replicaMeetsSpec)) replicaMeetsCard

/-- THE TIED CARD OF 'concordatlaw2.ViewShows'. -/
def viewShowsCard : Claim7 := { stood := { row := viewShowsRow, standIns := [], harness := (true, "964e02bd5ebde6dc6e9677a6a730712edd48cffd1292e3e2a4ee69e5f62cce34"), looks := true }, kinds := [], alts := [], laidByText := true, laidKinds := [.data, .data, .data, .data, .sentinel, .sentinel, .sentinel, .sentinel, .sentinel, .sentinel, .sentinel, .sentinel, .sentinel, .pinned], laidTests := true, laidLooks := .later }
def ViewShowsCardSaid : Prop := Claim7.holds Tryz.pinned (.plain (OpenSpec.ofChange viewShowsSpec)) viewShowsCard

/-- THE TIED CARD OF 'concordatlaw2.ViewPaths'. -/
def viewPathsCard : Claim7 := { stood := { row := viewPathsRow, standIns := [], harness := (true, "964e02bd5ebde6dc6e9677a6a730712edd48cffd1292e3e2a4ee69e5f62cce34"), looks := true }, kinds := [], alts := [], laidByText := true, laidKinds := [.data, .data, .data, .data, .sentinel, .sentinel, .sentinel, .sentinel, .sentinel, .sentinel, .sentinel, .sentinel, .sentinel, .pinned], laidTests := true, laidLooks := .later }
def ViewPathsCardSaid : Prop := Claim7.holds Tryz.pinned (.plain (OpenSpec.ofChange viewPathsSpec)) viewPathsCard

/-- THE TIED CARD OF 'concordatlaw2.ReplicaParts'. -/
def replicaPartsCard : Claim7 := { stood := { row := replicaPartsRow, standIns := [], harness := (true, "964e02bd5ebde6dc6e9677a6a730712edd48cffd1292e3e2a4ee69e5f62cce34"), looks := true }, kinds := [], alts := [], laidByText := true, laidKinds := [.data, .data, .data, .handle, .sentinel, .sentinel, .sentinel, .sentinel, .sentinel, .sentinel, .sentinel, .sentinel, .sentinel, .sentinel, .sentinel, .sentinel], laidTests := true, laidLooks := .later }
def ReplicaPartsCardSaid : Prop := Claim7.holds Tryz.pinned (.plain (OpenSpec.ofChange replicaPartsSpec)) replicaPartsCard

/-- THE TIED CARD OF 'concordatlaw2.ReplicaActs'. -/
def replicaActsCard : Claim7 := { stood := { row := replicaActsRow, standIns := [], harness := (true, "964e02bd5ebde6dc6e9677a6a730712edd48cffd1292e3e2a4ee69e5f62cce34"), looks := true }, kinds := [], alts := [], laidByText := true, laidKinds := [.data, .data, .data, .handle, .sentinel, .sentinel, .sentinel, .sentinel, .sentinel, .sentinel, .sentinel, .sentinel, .sentinel, .sentinel, .sentinel, .sentinel], laidTests := true, laidLooks := .later }
def ReplicaActsCardSaid : Prop := Claim7.holds Tryz.pinned (.plain (OpenSpec.ofChange replicaActsSpec)) replicaActsCard

/-- THE SECOND FORM's CARD OF 'concordatlaw2.ReplicaWrites'. -/
def replicaWritesUptoCard : Claim7 := { stood := { row := replicaWritesUptoRow, standIns := [], harness := (true, "964e02bd5ebde6dc6e9677a6a730712edd48cffd1292e3e2a4ee69e5f62cce34"), looks := true }, kinds := [], alts := [], laidByText := true, laidKinds := [.data, .data, .data, .sentinel, .sentinel, .sentinel, .sentinel, .sentinel, .sentinel, .sentinel, .sentinel], laidTests := true, laidLooks := .later }
def ReplicaWritesUptoCardSaid : Prop := Claim7.holds Tryz.pinned (.plain (OpenSpec.upto replicaWritesSpec)) replicaWritesUptoCard

/-- THE SECOND FORM's CARD OF 'concordatlaw2.ReplicaMeets'. -/
def replicaMeetsUptoCard : Claim7 := { stood := { row := replicaMeetsUptoRow, standIns := [], harness := (true, "964e02bd5ebde6dc6e9677a6a730712edd48cffd1292e3e2a4ee69e5f62cce34"), looks := true }, kinds := [], alts := [], laidByText := true, laidKinds := [.data, .data, .data, .sentinel, .sentinel, .sentinel, .sentinel, .sentinel, .sentinel, .sentinel, .sentinel, .sentinel], laidTests := true, laidLooks := .later }
def ReplicaMeetsUptoCardSaid : Prop := Claim7.holds Tryz.pinned (.plain (OpenSpec.upto replicaMeetsSpec)) replicaMeetsUptoCard

/-- THE SECOND FORM's CARD OF 'concordatlaw2.ViewShows'. -/
def viewShowsUptoCard : Claim7 := { stood := { row := viewShowsUptoRow, standIns := [], harness := (true, "964e02bd5ebde6dc6e9677a6a730712edd48cffd1292e3e2a4ee69e5f62cce34"), looks := true }, kinds := [], alts := [], laidByText := true, laidKinds := [.data, .data, .data, .data, .sentinel, .sentinel, .sentinel, .sentinel, .sentinel, .sentinel, .sentinel, .sentinel, .sentinel, .pinned], laidTests := true, laidLooks := .later }
def ViewShowsUptoCardSaid : Prop := Claim7.holds Tryz.pinned (.plain (OpenSpec.upto viewShowsSpec)) viewShowsUptoCard

/-- THE SECOND FORM's CARD OF 'concordatlaw2.ViewPaths'. -/
def viewPathsUptoCard : Claim7 := { stood := { row := viewPathsUptoRow, standIns := [], harness := (true, "964e02bd5ebde6dc6e9677a6a730712edd48cffd1292e3e2a4ee69e5f62cce34"), looks := true }, kinds := [], alts := [], laidByText := true, laidKinds := [.data, .data, .data, .data, .sentinel, .sentinel, .sentinel, .sentinel, .sentinel, .sentinel, .sentinel, .sentinel, .sentinel, .pinned], laidTests := true, laidLooks := .later }
def ViewPathsUptoCardSaid : Prop := Claim7.holds Tryz.pinned (.plain (OpenSpec.upto viewPathsSpec)) viewPathsUptoCard

/-- THE SECOND FORM's CARD OF 'concordatlaw2.ReplicaParts'. -/
def replicaPartsUptoCard : Claim7 := { stood := { row := replicaPartsUptoRow, standIns := [], harness := (true, "964e02bd5ebde6dc6e9677a6a730712edd48cffd1292e3e2a4ee69e5f62cce34"), looks := true }, kinds := [], alts := [], laidByText := true, laidKinds := [.data, .data, .data, .handle, .sentinel, .sentinel, .sentinel, .sentinel, .sentinel, .sentinel, .sentinel, .sentinel, .sentinel, .sentinel, .sentinel, .sentinel], laidTests := true, laidLooks := .later }
def ReplicaPartsUptoCardSaid : Prop := Claim7.holds Tryz.pinned (.plain (OpenSpec.upto replicaPartsSpec)) replicaPartsUptoCard

/-- THE SECOND FORM's CARD OF 'concordatlaw2.ReplicaActs'. -/
def replicaActsUptoCard : Claim7 := { stood := { row := replicaActsUptoRow, standIns := [], harness := (true, "964e02bd5ebde6dc6e9677a6a730712edd48cffd1292e3e2a4ee69e5f62cce34"), looks := true }, kinds := [], alts := [], laidByText := true, laidKinds := [.data, .data, .data, .handle, .sentinel, .sentinel, .sentinel, .sentinel, .sentinel, .sentinel, .sentinel, .sentinel, .sentinel, .sentinel, .sentinel, .sentinel], laidTests := true, laidLooks := .later }
def ReplicaActsUptoCardSaid : Prop := Claim7.holds Tryz.pinned (.plain (OpenSpec.upto replicaActsSpec)) replicaActsUptoCard
end Rows
end Go.Proofs.YtjekalilfhnpmaaGreatDoor
