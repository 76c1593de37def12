/-
  DERIVED. GIVEN WITH THE SEED: THE CARDS: each row of YtekdcjaljjlemaaDoorRows.lean that lists a variable, with what it lists TIED to the program's text (the seventh form; the later family's looks); each row that meets fmt, with fmt's text TOLD by the authors' own Lean function (tested against real Go, not proved from fmt's source: count such statements apart). THE CARD IS WHAT COUNTS. Prove the row's statement (the work); the ties are given (YtekdcjaljjlemaaDoorTie.lean); close each card by the builder's one call (the guide's Derived/Test/ToyasCard.lean, 'card_holds'). Laid BY PROGRAM, IN A SANDBOX (cutbox-door.mjs). By AI agents, Wed Nov 11 2026. No macro, syntax, notation, axiom, sorry.
-/
import Derived.Test.YtekdcjaljjlemaaDoorRows
import GoSem.ClaimSeven
namespace Go.Proofs.YtekdcjaljjlemaaDoor
namespace Rows

/-- THE TIED CARD OF 'exchequerlaw07.SlotWrites'. -/
def slotWritesCard : Claim7 := { stood := { row := slotWritesRow, standIns := [], harness := (true, "d8e8a33a8cf766a67c24f641562a9c2ccfcfa8c0d0937d33398bd26f7259e1c8"), looks := false }, kinds := [], alts := [], laidByText := true, laidKinds := [.data, .pinned], laidTests := true, laidLooks := .later }
def SlotWritesCardSaid : Prop := Claim7.holds Tryd.pinned (.plain (OpenSpec.ofChange slotWritesSpec)) slotWritesCard

/-- THE TIED CARD OF 'exchequerlaw07.SlotKnown'. -/
def slotKnownCard : Claim7 := { stood := { row := slotKnownRow, standIns := [], harness := (true, "d8e8a33a8cf766a67c24f641562a9c2ccfcfa8c0d0937d33398bd26f7259e1c8"), looks := false }, kinds := [], alts := [], laidByText := true, laidKinds := [.data, .pinned], laidTests := true, laidLooks := .later }
def SlotKnownCardSaid : Prop := Claim7.holds Tryd.pinned (.plain (OpenSpec.ofChange slotKnownSpec)) slotKnownCard

/-- THE TIED CARD OF 'exchequerlaw07.SlotCrash'. -/
def slotCrashCard : Claim7 := { stood := { row := slotCrashRow, standIns := [], harness := (true, "d8e8a33a8cf766a67c24f641562a9c2ccfcfa8c0d0937d33398bd26f7259e1c8"), looks := false }, kinds := [], alts := [], laidByText := true, laidKinds := [.data, .pinned], laidTests := true, laidLooks := .later }
def SlotCrashCardSaid : Prop := Claim7.holds Tryd.pinned (.plain (OpenSpec.ofChange slotCrashSpec)) slotCrashCard

/-- THE TIED CARD OF 'exchequerlaw07.SlotTurned'. -/
def slotTurnedCard : Claim7 := { stood := { row := slotTurnedRow, standIns := [], harness := (true, "d8e8a33a8cf766a67c24f641562a9c2ccfcfa8c0d0937d33398bd26f7259e1c8"), looks := false }, kinds := [], alts := [], laidByText := true, laidKinds := [.data, .pinned], laidTests := true, laidLooks := .later }
def SlotTurnedCardSaid : Prop := Claim7.holds Tryd.pinned (.plain (OpenSpec.ofChange slotTurnedSpec)) slotTurnedCard

/-- THE SECOND FORM's CARD OF 'exchequerlaw07.SlotWrites'. -/
def slotWritesUptoCard : Claim7 := { stood := { row := slotWritesUptoRow, standIns := [], harness := (true, "d8e8a33a8cf766a67c24f641562a9c2ccfcfa8c0d0937d33398bd26f7259e1c8"), looks := false }, kinds := [], alts := [], laidByText := true, laidKinds := [.data, .pinned], laidTests := true, laidLooks := .later }
def SlotWritesUptoCardSaid : Prop := Claim7.holds Tryd.pinned (.plain (OpenSpec.upto slotWritesSpec)) slotWritesUptoCard

/-- THE SECOND FORM's CARD OF 'exchequerlaw07.SlotKnown'. -/
def slotKnownUptoCard : Claim7 := { stood := { row := slotKnownUptoRow, standIns := [], harness := (true, "d8e8a33a8cf766a67c24f641562a9c2ccfcfa8c0d0937d33398bd26f7259e1c8"), looks := false }, kinds := [], alts := [], laidByText := true, laidKinds := [.data, .pinned], laidTests := true, laidLooks := .later }
def SlotKnownUptoCardSaid : Prop := Claim7.holds Tryd.pinned (.plain (OpenSpec.upto slotKnownSpec)) slotKnownUptoCard

/-- THE SECOND FORM's CARD OF 'exchequerlaw07.SlotCrash'. -/
def slotCrashUptoCard : Claim7 := { stood := { row := slotCrashUptoRow, standIns := [], harness := (true, "d8e8a33a8cf766a67c24f641562a9c2ccfcfa8c0d0937d33398bd26f7259e1c8"), looks := false }, kinds := [], alts := [], laidByText := true, laidKinds := [.data, .pinned], laidTests := true, laidLooks := .later }
def SlotCrashUptoCardSaid : Prop := Claim7.holds Tryd.pinned (.plain (OpenSpec.upto slotCrashSpec)) slotCrashUptoCard

/-- THE SECOND FORM's CARD OF 'exchequerlaw07.SlotTurned'. -/
def slotTurnedUptoCard : Claim7 := { stood := { row := slotTurnedUptoRow, standIns := [], harness := (true, "d8e8a33a8cf766a67c24f641562a9c2ccfcfa8c0d0937d33398bd26f7259e1c8"), looks := false }, kinds := [], alts := [], laidByText := true, laidKinds := [.data, .pinned], laidTests := true, laidLooks := .later }
def SlotTurnedUptoCardSaid : Prop := Claim7.holds Tryd.pinned (.plain (OpenSpec.upto slotTurnedSpec)) slotTurnedUptoCard
end Rows
end Go.Proofs.YtekdcjaljjlemaaDoor
