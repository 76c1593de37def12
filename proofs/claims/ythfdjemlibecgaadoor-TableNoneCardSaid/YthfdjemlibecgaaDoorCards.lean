/-
  DERIVED. GIVEN WITH THE SEED: THE CARDS: each row of YthfdjemlibecgaaDoorRows.lean that lists a variable, with what it lists TIED to the program's text (the seventh form; the later family's looks); each row that meets fmt, with fmt's text TOLD by the authors' own Lean function (tested against real Go, not proved from fmt's source: count such statements apart). THE CARD IS WHAT COUNTS. Prove the row's statement (the work); the ties are given (YthfdjemlibecgaaDoorTie.lean); close each card by the builder's one call (the guide's Derived/Test/ToyasCard.lean, 'card_holds'). Laid BY PROGRAM, IN A SANDBOX (cutbox-door.mjs). By AI agents, Wed Nov 11 2026. No macro, syntax, notation, axiom, sorry.
-/
import Derived.Test.YthfdjemlibecgaaDoorRows
import GoSem.ClaimSeven
namespace Go.Proofs.YthfdjemlibecgaaDoor
namespace Rows

/-- THE TIED CARD OF 'exchequerlaw28.FetchNone'. -/
def fetchNoneCard : Claim7 := { stood := { row := fetchNoneRow, standIns := [], harness := (true, "0545eb1a887eb1d2c1c3f39fa4314ef24f6489e3989e05bf67b18df1f5995a3d"), looks := false }, kinds := [], alts := [], laidByText := true, laidKinds := [.data], laidTests := true, laidLooks := .later }
def FetchNoneCardSaid : Prop := Claim7.holds Tryd.pinned (.plain (OpenSpec.ofChange fetchNoneSpec)) fetchNoneCard

/-- THE TIED CARD OF 'exchequerlaw11.GridKnown'. -/
def gridKnownCard : Claim7 := { stood := { row := gridKnownRow, standIns := [], harness := (true, "0545eb1a887eb1d2c1c3f39fa4314ef24f6489e3989e05bf67b18df1f5995a3d"), looks := false }, kinds := [], alts := [], laidByText := true, laidKinds := [.data], laidTests := true, laidLooks := .later }
def GridKnownCardSaid : Prop := Claim7.holds Tryd.pinned (.plain (OpenSpec.ofChange gridKnownSpec)) gridKnownCard

/-- THE TIED CARD OF 'exchequerlaw11.GridReaches'. -/
def gridReachesCard : Claim7 := { stood := { row := gridReachesRow, standIns := [], harness := (true, "0545eb1a887eb1d2c1c3f39fa4314ef24f6489e3989e05bf67b18df1f5995a3d"), looks := false }, kinds := [], alts := [], laidByText := true, laidKinds := [.data], laidTests := true, laidLooks := .later }
def GridReachesCardSaid : Prop := Claim7.holds Tryd.pinned (.plain (OpenSpec.ofChange gridReachesSpec)) gridReachesCard

/-- THE TIED CARD OF 'exchequerlaw28.FetchWhole'. -/
def fetchWholeCard : Claim7 := { stood := { row := fetchWholeRow, standIns := [], harness := (true, "0545eb1a887eb1d2c1c3f39fa4314ef24f6489e3989e05bf67b18df1f5995a3d"), looks := false }, kinds := [], alts := [], laidByText := true, laidKinds := [.data], laidTests := true, laidLooks := .later }
def FetchWholeCardSaid : Prop := Claim7.holds Tryd.pinned (.plain (OpenSpec.ofChange fetchWholeSpec)) fetchWholeCard

/-- THE TIED CARD OF 'exchequerlaw28.FetchKnown'. -/
def fetchKnownCard : Claim7 := { stood := { row := fetchKnownRow, standIns := [], harness := (true, "0545eb1a887eb1d2c1c3f39fa4314ef24f6489e3989e05bf67b18df1f5995a3d"), looks := false }, kinds := [], alts := [], laidByText := true, laidKinds := [.data], laidTests := true, laidLooks := .later }
def FetchKnownCardSaid : Prop := Claim7.holds Tryd.pinned (.plain (OpenSpec.ofChange fetchKnownSpec)) fetchKnownCard

/-- THE TIED CARD OF 'exchequerlaw13.TablePacks'. -/
def tablePacksCard : Claim7 := { stood := { row := tablePacksRow, standIns := [], harness := (true, "0545eb1a887eb1d2c1c3f39fa4314ef24f6489e3989e05bf67b18df1f5995a3d"), looks := false }, kinds := [], alts := [], laidByText := true, laidKinds := [.data], laidTests := true, laidLooks := .later }
def TablePacksCardSaid : Prop := Claim7.holds Tryd.pinned (.plain (OpenSpec.ofChange tablePacksSpec)) tablePacksCard

/-- THE TIED CARD OF 'exchequerlaw11.GridNone'. -/
def gridNoneCard : Claim7 := { stood := { row := gridNoneRow, standIns := [], harness := (true, "0545eb1a887eb1d2c1c3f39fa4314ef24f6489e3989e05bf67b18df1f5995a3d"), looks := false }, kinds := [], alts := [], laidByText := true, laidKinds := [.data], laidTests := true, laidLooks := .later }
def GridNoneCardSaid : Prop := Claim7.holds Tryd.pinned (.plain (OpenSpec.ofChange gridNoneSpec)) gridNoneCard

/-- THE TIED CARD OF 'exchequerlaw13.TableNone'. -/
def tableNoneCard : Claim7 := { stood := { row := tableNoneRow, standIns := [], harness := (true, "0545eb1a887eb1d2c1c3f39fa4314ef24f6489e3989e05bf67b18df1f5995a3d"), looks := false }, kinds := [], alts := [], laidByText := true, laidKinds := [.data], laidTests := true, laidLooks := .later }
def TableNoneCardSaid : Prop := Claim7.holds Tryd.pinned (.plain (OpenSpec.ofChange tableNoneSpec)) tableNoneCard

/-- THE TIED CARD OF 'exchequerlaw13.TableKnown'. -/
def tableKnownCard : Claim7 := { stood := { row := tableKnownRow, standIns := [], harness := (true, "0545eb1a887eb1d2c1c3f39fa4314ef24f6489e3989e05bf67b18df1f5995a3d"), looks := false }, kinds := [], alts := [], laidByText := true, laidKinds := [.data], laidTests := true, laidLooks := .later }
def TableKnownCardSaid : Prop := Claim7.holds Tryd.pinned (.plain (OpenSpec.ofChange tableKnownSpec)) tableKnownCard

/-- THE TIED CARD OF 'exchequerlaw13.TableTurned'. -/
def tableTurnedCard : Claim7 := { stood := { row := tableTurnedRow, standIns := [], harness := (true, "0545eb1a887eb1d2c1c3f39fa4314ef24f6489e3989e05bf67b18df1f5995a3d"), looks := false }, kinds := [], alts := [], laidByText := true, laidKinds := [.data], laidTests := true, laidLooks := .later }
def TableTurnedCardSaid : Prop := Claim7.holds Tryd.pinned (.plain (OpenSpec.ofChange tableTurnedSpec)) tableTurnedCard

/-- THE TIED CARD OF 'exchequerlaw13.TableMap'. -/
def tableMapCard : Claim7 := { stood := { row := tableMapRow, standIns := [], harness := (true, "0545eb1a887eb1d2c1c3f39fa4314ef24f6489e3989e05bf67b18df1f5995a3d"), looks := false }, kinds := [], alts := [], laidByText := true, laidKinds := [.data], laidTests := true, laidLooks := .later }
def TableMapCardSaid : Prop := Claim7.holds Tryd.pinned (.plain (OpenSpec.ofChange tableMapSpec)) tableMapCard

/-- THE SECOND FORM's CARD OF 'exchequerlaw28.FetchNone'. -/
def fetchNoneUptoCard : Claim7 := { stood := { row := fetchNoneUptoRow, standIns := [], harness := (true, "0545eb1a887eb1d2c1c3f39fa4314ef24f6489e3989e05bf67b18df1f5995a3d"), looks := false }, kinds := [], alts := [], laidByText := true, laidKinds := [.data], laidTests := true, laidLooks := .later }
def FetchNoneUptoCardSaid : Prop := Claim7.holds Tryd.pinned (.plain (OpenSpec.upto fetchNoneSpec)) fetchNoneUptoCard

/-- THE SECOND FORM's CARD OF 'exchequerlaw11.GridKnown'. -/
def gridKnownUptoCard : Claim7 := { stood := { row := gridKnownUptoRow, standIns := [], harness := (true, "0545eb1a887eb1d2c1c3f39fa4314ef24f6489e3989e05bf67b18df1f5995a3d"), looks := false }, kinds := [], alts := [], laidByText := true, laidKinds := [.data], laidTests := true, laidLooks := .later }
def GridKnownUptoCardSaid : Prop := Claim7.holds Tryd.pinned (.plain (OpenSpec.upto gridKnownSpec)) gridKnownUptoCard

/-- THE SECOND FORM's CARD OF 'exchequerlaw11.GridReaches'. -/
def gridReachesUptoCard : Claim7 := { stood := { row := gridReachesUptoRow, standIns := [], harness := (true, "0545eb1a887eb1d2c1c3f39fa4314ef24f6489e3989e05bf67b18df1f5995a3d"), looks := false }, kinds := [], alts := [], laidByText := true, laidKinds := [.data], laidTests := true, laidLooks := .later }
def GridReachesUptoCardSaid : Prop := Claim7.holds Tryd.pinned (.plain (OpenSpec.upto gridReachesSpec)) gridReachesUptoCard

/-- THE SECOND FORM's CARD OF 'exchequerlaw28.FetchWhole'. -/
def fetchWholeUptoCard : Claim7 := { stood := { row := fetchWholeUptoRow, standIns := [], harness := (true, "0545eb1a887eb1d2c1c3f39fa4314ef24f6489e3989e05bf67b18df1f5995a3d"), looks := false }, kinds := [], alts := [], laidByText := true, laidKinds := [.data], laidTests := true, laidLooks := .later }
def FetchWholeUptoCardSaid : Prop := Claim7.holds Tryd.pinned (.plain (OpenSpec.upto fetchWholeSpec)) fetchWholeUptoCard

/-- THE SECOND FORM's CARD OF 'exchequerlaw28.FetchKnown'. -/
def fetchKnownUptoCard : Claim7 := { stood := { row := fetchKnownUptoRow, standIns := [], harness := (true, "0545eb1a887eb1d2c1c3f39fa4314ef24f6489e3989e05bf67b18df1f5995a3d"), looks := false }, kinds := [], alts := [], laidByText := true, laidKinds := [.data], laidTests := true, laidLooks := .later }
def FetchKnownUptoCardSaid : Prop := Claim7.holds Tryd.pinned (.plain (OpenSpec.upto fetchKnownSpec)) fetchKnownUptoCard

/-- THE SECOND FORM's CARD OF 'exchequerlaw13.TablePacks'. -/
def tablePacksUptoCard : Claim7 := { stood := { row := tablePacksUptoRow, standIns := [], harness := (true, "0545eb1a887eb1d2c1c3f39fa4314ef24f6489e3989e05bf67b18df1f5995a3d"), looks := false }, kinds := [], alts := [], laidByText := true, laidKinds := [.data], laidTests := true, laidLooks := .later }
def TablePacksUptoCardSaid : Prop := Claim7.holds Tryd.pinned (.plain (OpenSpec.upto tablePacksSpec)) tablePacksUptoCard

/-- THE SECOND FORM's CARD OF 'exchequerlaw11.GridNone'. -/
def gridNoneUptoCard : Claim7 := { stood := { row := gridNoneUptoRow, standIns := [], harness := (true, "0545eb1a887eb1d2c1c3f39fa4314ef24f6489e3989e05bf67b18df1f5995a3d"), looks := false }, kinds := [], alts := [], laidByText := true, laidKinds := [.data], laidTests := true, laidLooks := .later }
def GridNoneUptoCardSaid : Prop := Claim7.holds Tryd.pinned (.plain (OpenSpec.upto gridNoneSpec)) gridNoneUptoCard

/-- THE SECOND FORM's CARD OF 'exchequerlaw13.TableNone'. -/
def tableNoneUptoCard : Claim7 := { stood := { row := tableNoneUptoRow, standIns := [], harness := (true, "0545eb1a887eb1d2c1c3f39fa4314ef24f6489e3989e05bf67b18df1f5995a3d"), looks := false }, kinds := [], alts := [], laidByText := true, laidKinds := [.data], laidTests := true, laidLooks := .later }
def TableNoneUptoCardSaid : Prop := Claim7.holds Tryd.pinned (.plain (OpenSpec.upto tableNoneSpec)) tableNoneUptoCard

/-- THE SECOND FORM's CARD OF 'exchequerlaw13.TableKnown'. -/
def tableKnownUptoCard : Claim7 := { stood := { row := tableKnownUptoRow, standIns := [], harness := (true, "0545eb1a887eb1d2c1c3f39fa4314ef24f6489e3989e05bf67b18df1f5995a3d"), looks := false }, kinds := [], alts := [], laidByText := true, laidKinds := [.data], laidTests := true, laidLooks := .later }
def TableKnownUptoCardSaid : Prop := Claim7.holds Tryd.pinned (.plain (OpenSpec.upto tableKnownSpec)) tableKnownUptoCard

/-- THE SECOND FORM's CARD OF 'exchequerlaw13.TableTurned'. -/
def tableTurnedUptoCard : Claim7 := { stood := { row := tableTurnedUptoRow, standIns := [], harness := (true, "0545eb1a887eb1d2c1c3f39fa4314ef24f6489e3989e05bf67b18df1f5995a3d"), looks := false }, kinds := [], alts := [], laidByText := true, laidKinds := [.data], laidTests := true, laidLooks := .later }
def TableTurnedUptoCardSaid : Prop := Claim7.holds Tryd.pinned (.plain (OpenSpec.upto tableTurnedSpec)) tableTurnedUptoCard

/-- THE SECOND FORM's CARD OF 'exchequerlaw13.TableMap'. -/
def tableMapUptoCard : Claim7 := { stood := { row := tableMapUptoRow, standIns := [], harness := (true, "0545eb1a887eb1d2c1c3f39fa4314ef24f6489e3989e05bf67b18df1f5995a3d"), looks := false }, kinds := [], alts := [], laidByText := true, laidKinds := [.data], laidTests := true, laidLooks := .later }
def TableMapUptoCardSaid : Prop := Claim7.holds Tryd.pinned (.plain (OpenSpec.upto tableMapSpec)) tableMapUptoCard
end Rows
end Go.Proofs.YthfdjemlibecgaaDoor
