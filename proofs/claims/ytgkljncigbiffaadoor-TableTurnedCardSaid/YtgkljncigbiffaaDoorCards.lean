/-
  DERIVED. GIVEN WITH THE SEED: THE CARDS: each row of YtgkljncigbiffaaDoorRows.lean that lists a variable, with what it lists TIED to the program's text (the seventh form; the later family's looks); each row that meets fmt, with fmt's text TOLD by the authors' own Lean function (tested against real Go, not proved from fmt's source: count such statements apart). THE CARD IS WHAT COUNTS. Prove the row's statement (the work); the ties are given (YtgkljncigbiffaaDoorTie.lean); close each card by the builder's one call (the guide's Derived/Test/ToyasCard.lean, 'card_holds'). Laid BY PROGRAM, IN A SANDBOX (cutbox-door.mjs). By AI agents, Wed Nov 11 2026. No macro, syntax, notation, axiom, sorry.
-/
import Derived.Test.YtgkljncigbiffaaDoorRows
import GoSem.ClaimSeven
namespace Go.Proofs.YtgkljncigbiffaaDoor
namespace Rows

/-- THE TIED CARD OF 'exchequerlaw13.TableNone'. -/
def tableNoneCard : Claim7 := { stood := { row := tableNoneRow, standIns := [], harness := (true, "3c78366d1830ce0d2c642578b8c9fcc1c6ba286db7f46090dc44ed2b95905cbc"), looks := false }, kinds := [], alts := [], laidByText := true, laidKinds := [.data], laidTests := true, laidLooks := .later }
def TableNoneCardSaid : Prop := Claim7.holds Tryd.pinned (.plain (OpenSpec.ofChange tableNoneSpec)) tableNoneCard

/-- THE TIED CARD OF 'exchequerlaw08.JournalKnown'. -/
def journalKnownCard : Claim7 := { stood := { row := journalKnownRow, standIns := [], harness := (true, "3c78366d1830ce0d2c642578b8c9fcc1c6ba286db7f46090dc44ed2b95905cbc"), looks := false }, kinds := [], alts := [], laidByText := true, laidKinds := [.data, .pinned], laidTests := true, laidLooks := .later }
def JournalKnownCardSaid : Prop := Claim7.holds Tryd.pinned (.plain (OpenSpec.ofChange journalKnownSpec)) journalKnownCard

/-- THE TIED CARD OF 'exchequerlaw13.TableKnown'. -/
def tableKnownCard : Claim7 := { stood := { row := tableKnownRow, standIns := [], harness := (true, "3c78366d1830ce0d2c642578b8c9fcc1c6ba286db7f46090dc44ed2b95905cbc"), looks := false }, kinds := [], alts := [], laidByText := true, laidKinds := [.data], laidTests := true, laidLooks := .later }
def TableKnownCardSaid : Prop := Claim7.holds Tryd.pinned (.plain (OpenSpec.ofChange tableKnownSpec)) tableKnownCard

/-- THE TIED CARD OF 'exchequerlaw13.TableTurned'. -/
def tableTurnedCard : Claim7 := { stood := { row := tableTurnedRow, standIns := [], harness := (true, "3c78366d1830ce0d2c642578b8c9fcc1c6ba286db7f46090dc44ed2b95905cbc"), looks := false }, kinds := [], alts := [], laidByText := true, laidKinds := [.data], laidTests := true, laidLooks := .later }
def TableTurnedCardSaid : Prop := Claim7.holds Tryd.pinned (.plain (OpenSpec.ofChange tableTurnedSpec)) tableTurnedCard

/-- THE TIED CARD OF 'exchequerlaw08.JournalNone'. -/
def journalNoneCard : Claim7 := { stood := { row := journalNoneRow, standIns := [], harness := (true, "3c78366d1830ce0d2c642578b8c9fcc1c6ba286db7f46090dc44ed2b95905cbc"), looks := false }, kinds := [], alts := [], laidByText := true, laidKinds := [.data, .pinned], laidTests := true, laidLooks := .later }
def JournalNoneCardSaid : Prop := Claim7.holds Tryd.pinned (.plain (OpenSpec.ofChange journalNoneSpec)) journalNoneCard

/-- THE TIED CARD OF 'exchequerlaw13.TableMap'. -/
def tableMapCard : Claim7 := { stood := { row := tableMapRow, standIns := [], harness := (true, "3c78366d1830ce0d2c642578b8c9fcc1c6ba286db7f46090dc44ed2b95905cbc"), looks := false }, kinds := [], alts := [], laidByText := true, laidKinds := [.data], laidTests := true, laidLooks := .later }
def TableMapCardSaid : Prop := Claim7.holds Tryd.pinned (.plain (OpenSpec.ofChange tableMapSpec)) tableMapCard

/-- THE SECOND FORM's CARD OF 'exchequerlaw13.TableNone'. -/
def tableNoneUptoCard : Claim7 := { stood := { row := tableNoneUptoRow, standIns := [], harness := (true, "3c78366d1830ce0d2c642578b8c9fcc1c6ba286db7f46090dc44ed2b95905cbc"), looks := false }, kinds := [], alts := [], laidByText := true, laidKinds := [.data], laidTests := true, laidLooks := .later }
def TableNoneUptoCardSaid : Prop := Claim7.holds Tryd.pinned (.plain (OpenSpec.upto tableNoneSpec)) tableNoneUptoCard

/-- THE SECOND FORM's CARD OF 'exchequerlaw08.JournalKnown'. -/
def journalKnownUptoCard : Claim7 := { stood := { row := journalKnownUptoRow, standIns := [], harness := (true, "3c78366d1830ce0d2c642578b8c9fcc1c6ba286db7f46090dc44ed2b95905cbc"), looks := false }, kinds := [], alts := [], laidByText := true, laidKinds := [.data, .pinned], laidTests := true, laidLooks := .later }
def JournalKnownUptoCardSaid : Prop := Claim7.holds Tryd.pinned (.plain (OpenSpec.upto journalKnownSpec)) journalKnownUptoCard

/-- THE SECOND FORM's CARD OF 'exchequerlaw13.TableKnown'. -/
def tableKnownUptoCard : Claim7 := { stood := { row := tableKnownUptoRow, standIns := [], harness := (true, "3c78366d1830ce0d2c642578b8c9fcc1c6ba286db7f46090dc44ed2b95905cbc"), looks := false }, kinds := [], alts := [], laidByText := true, laidKinds := [.data], laidTests := true, laidLooks := .later }
def TableKnownUptoCardSaid : Prop := Claim7.holds Tryd.pinned (.plain (OpenSpec.upto tableKnownSpec)) tableKnownUptoCard

/-- THE SECOND FORM's CARD OF 'exchequerlaw13.TableTurned'. -/
def tableTurnedUptoCard : Claim7 := { stood := { row := tableTurnedUptoRow, standIns := [], harness := (true, "3c78366d1830ce0d2c642578b8c9fcc1c6ba286db7f46090dc44ed2b95905cbc"), looks := false }, kinds := [], alts := [], laidByText := true, laidKinds := [.data], laidTests := true, laidLooks := .later }
def TableTurnedUptoCardSaid : Prop := Claim7.holds Tryd.pinned (.plain (OpenSpec.upto tableTurnedSpec)) tableTurnedUptoCard

/-- THE SECOND FORM's CARD OF 'exchequerlaw08.JournalNone'. -/
def journalNoneUptoCard : Claim7 := { stood := { row := journalNoneUptoRow, standIns := [], harness := (true, "3c78366d1830ce0d2c642578b8c9fcc1c6ba286db7f46090dc44ed2b95905cbc"), looks := false }, kinds := [], alts := [], laidByText := true, laidKinds := [.data, .pinned], laidTests := true, laidLooks := .later }
def JournalNoneUptoCardSaid : Prop := Claim7.holds Tryd.pinned (.plain (OpenSpec.upto journalNoneSpec)) journalNoneUptoCard

/-- THE SECOND FORM's CARD OF 'exchequerlaw13.TableMap'. -/
def tableMapUptoCard : Claim7 := { stood := { row := tableMapUptoRow, standIns := [], harness := (true, "3c78366d1830ce0d2c642578b8c9fcc1c6ba286db7f46090dc44ed2b95905cbc"), looks := false }, kinds := [], alts := [], laidByText := true, laidKinds := [.data], laidTests := true, laidLooks := .later }
def TableMapUptoCardSaid : Prop := Claim7.holds Tryd.pinned (.plain (OpenSpec.upto tableMapSpec)) tableMapUptoCard
end Rows
end Go.Proofs.YtgkljncigbiffaaDoor
