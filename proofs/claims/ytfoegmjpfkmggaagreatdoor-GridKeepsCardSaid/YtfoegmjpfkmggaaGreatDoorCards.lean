/-
  DERIVED. GIVEN WITH THE SEED: THE CARDS: each row of YtfoegmjpfkmggaaGreatDoorRows.lean that lists a variable, with what it lists TIED to the program's text (the seventh form; the later family's looks); each row that meets fmt, with fmt's text TOLD by the authors' own Lean function (tested against real Go, not proved from fmt's source: count such statements apart). THE CARD IS WHAT COUNTS. Prove the row's statement (the work); the ties are given (YtfoegmjpfkmggaaGreatDoorTie.lean); close each card by the builder's one call (the guide's Derived/Test/ToyasCard.lean, 'card_holds'). Laid BY PROGRAM, IN A SANDBOX (cutbox-door.mjs). By AI agents, Wed Nov 11 2026. No macro, syntax, notation, axiom, sorry.
-/
import Derived.Test.YtfoegmjpfkmggaaGreatDoorRows
import GoSem.ClaimSeven
namespace Go.Proofs.YtfoegmjpfkmggaaGreatDoor
namespace Rows

/-- THE TIED CARD OF 'exchequerlaw08.JournalTurned'. -/
def journalTurnedCard : Claim7 := { stood := { row := journalTurnedRow, standIns := [], harness := (true, "0a1d29d67c7ba47d00d55cbb771cca281f4f4fcbf36f260cc35202708d273813"), looks := false }, kinds := [], alts := [], laidByText := true, laidKinds := [.data, .pinned], laidTests := true, laidLooks := .later }
def JournalTurnedCardSaid : Prop := Claim7.holds Tryz.pinned (.plain (OpenSpec.ofChange journalTurnedSpec)) journalTurnedCard

/-- THE TIED CARD OF 'exchequerlaw11.GridKeeps'. -/
def gridKeepsCard : Claim7 := { stood := { row := gridKeepsRow, standIns := [], harness := (true, "0a1d29d67c7ba47d00d55cbb771cca281f4f4fcbf36f260cc35202708d273813"), looks := false }, kinds := [], alts := [], laidByText := true, laidKinds := [.data], laidTests := true, laidLooks := .later }
def GridKeepsCardSaid : Prop := Claim7.holds Tryz.pinned (.plain (OpenSpec.ofChange gridKeepsSpec)) gridKeepsCard

/-- THE SECOND FORM's CARD OF 'exchequerlaw08.JournalTurned'. -/
def journalTurnedUptoCard : Claim7 := { stood := { row := journalTurnedUptoRow, standIns := [], harness := (true, "0a1d29d67c7ba47d00d55cbb771cca281f4f4fcbf36f260cc35202708d273813"), looks := false }, kinds := [], alts := [], laidByText := true, laidKinds := [.data, .pinned], laidTests := true, laidLooks := .later }
def JournalTurnedUptoCardSaid : Prop := Claim7.holds Tryz.pinned (.plain (OpenSpec.upto journalTurnedSpec)) journalTurnedUptoCard

/-- THE SECOND FORM's CARD OF 'exchequerlaw11.GridKeeps'. -/
def gridKeepsUptoCard : Claim7 := { stood := { row := gridKeepsUptoRow, standIns := [], harness := (true, "0a1d29d67c7ba47d00d55cbb771cca281f4f4fcbf36f260cc35202708d273813"), looks := false }, kinds := [], alts := [], laidByText := true, laidKinds := [.data], laidTests := true, laidLooks := .later }
def GridKeepsUptoCardSaid : Prop := Claim7.holds Tryz.pinned (.plain (OpenSpec.upto gridKeepsSpec)) gridKeepsUptoCard
end Rows
end Go.Proofs.YtfoegmjpfkmggaaGreatDoor
