/-
  DERIVED. GIVEN WITH THE SEED: THE CARDS: each row of YtkjcidbhepminaaDoorRows.lean that lists a variable, with what it lists TIED to the program's text (the seventh form; the later family's looks); each row that meets fmt, with fmt's text TOLD by the authors' own Lean function (tested against real Go, not proved from fmt's source: count such statements apart). THE CARD IS WHAT COUNTS. Prove the row's statement (the work); the ties are given (YtkjcidbhepminaaDoorTie.lean); close each card by the builder's one call (the guide's Derived/Test/ToyasCard.lean, 'card_holds'). Laid BY PROGRAM, IN A SANDBOX (cutbox-door.mjs). By AI agents, Wed Nov 11 2026. No macro, syntax, notation, axiom, sorry.
-/
import Derived.Test.YtkjcidbhepminaaDoorRows
import GoSem.ClaimSeven
namespace Go.Proofs.YtkjcidbhepminaaDoor
namespace Rows

/-- THE TIED CARD OF 'exchequerlaw09.FreesetNone'. -/
def freesetNoneCard : Claim7 := { stood := { row := freesetNoneRow, standIns := [], harness := (true, "cf50b56d553f006778aa30c28de1590ba53debe1321003c7b3ebd8a71fb23828"), looks := false }, kinds := [], alts := [], laidByText := true, laidKinds := [.data], laidTests := true, laidLooks := .later }
def FreesetNoneCardSaid : Prop := Claim7.holds Tryd.pinned (.plain (OpenSpec.ofChange freesetNoneSpec)) freesetNoneCard

/-- THE TIED CARD OF 'exchequerlaw09.FreesetReads'. -/
def freesetReadsCard : Claim7 := { stood := { row := freesetReadsRow, standIns := [], harness := (true, "cf50b56d553f006778aa30c28de1590ba53debe1321003c7b3ebd8a71fb23828"), looks := false }, kinds := [], alts := [], laidByText := true, laidKinds := [.data], laidTests := true, laidLooks := .later }
def FreesetReadsCardSaid : Prop := Claim7.holds Tryd.pinned (.plain (OpenSpec.ofChange freesetReadsSpec)) freesetReadsCard

/-- THE TIED CARD OF 'exchequerlaw09.FreesetKnown'. -/
def freesetKnownCard : Claim7 := { stood := { row := freesetKnownRow, standIns := [], harness := (true, "cf50b56d553f006778aa30c28de1590ba53debe1321003c7b3ebd8a71fb23828"), looks := false }, kinds := [], alts := [], laidByText := true, laidKinds := [.data], laidTests := true, laidLooks := .later }
def FreesetKnownCardSaid : Prop := Claim7.holds Tryd.pinned (.plain (OpenSpec.ofChange freesetKnownSpec)) freesetKnownCard

/-- THE TIED CARD OF 'exchequerlaw09.FreesetOnce'. -/
def freesetOnceCard : Claim7 := { stood := { row := freesetOnceRow, standIns := [], harness := (true, "cf50b56d553f006778aa30c28de1590ba53debe1321003c7b3ebd8a71fb23828"), looks := false }, kinds := [], alts := [], laidByText := true, laidKinds := [.data], laidTests := true, laidLooks := .later }
def FreesetOnceCardSaid : Prop := Claim7.holds Tryd.pinned (.plain (OpenSpec.ofChange freesetOnceSpec)) freesetOnceCard

/-- THE TIED CARD OF 'exchequerlaw09.FreesetBack'. -/
def freesetBackCard : Claim7 := { stood := { row := freesetBackRow, standIns := [], harness := (true, "cf50b56d553f006778aa30c28de1590ba53debe1321003c7b3ebd8a71fb23828"), looks := false }, kinds := [], alts := [], laidByText := true, laidKinds := [.data], laidTests := true, laidLooks := .later }
def FreesetBackCardSaid : Prop := Claim7.holds Tryd.pinned (.plain (OpenSpec.ofChange freesetBackSpec)) freesetBackCard

/-- THE TIED CARD OF 'exchequerlaw09.FreesetScript'. -/
def freesetScriptCard : Claim7 := { stood := { row := freesetScriptRow, standIns := [], harness := (true, "cf50b56d553f006778aa30c28de1590ba53debe1321003c7b3ebd8a71fb23828"), looks := false }, kinds := [], alts := [], laidByText := true, laidKinds := [.data], laidTests := true, laidLooks := .later }
def FreesetScriptCardSaid : Prop := Claim7.holds Tryd.pinned (.plain (OpenSpec.ofChange freesetScriptSpec)) freesetScriptCard

/-- THE SECOND FORM's CARD OF 'exchequerlaw09.FreesetNone'. -/
def freesetNoneUptoCard : Claim7 := { stood := { row := freesetNoneUptoRow, standIns := [], harness := (true, "cf50b56d553f006778aa30c28de1590ba53debe1321003c7b3ebd8a71fb23828"), looks := false }, kinds := [], alts := [], laidByText := true, laidKinds := [.data], laidTests := true, laidLooks := .later }
def FreesetNoneUptoCardSaid : Prop := Claim7.holds Tryd.pinned (.plain (OpenSpec.upto freesetNoneSpec)) freesetNoneUptoCard

/-- THE SECOND FORM's CARD OF 'exchequerlaw09.FreesetReads'. -/
def freesetReadsUptoCard : Claim7 := { stood := { row := freesetReadsUptoRow, standIns := [], harness := (true, "cf50b56d553f006778aa30c28de1590ba53debe1321003c7b3ebd8a71fb23828"), looks := false }, kinds := [], alts := [], laidByText := true, laidKinds := [.data], laidTests := true, laidLooks := .later }
def FreesetReadsUptoCardSaid : Prop := Claim7.holds Tryd.pinned (.plain (OpenSpec.upto freesetReadsSpec)) freesetReadsUptoCard

/-- THE SECOND FORM's CARD OF 'exchequerlaw09.FreesetKnown'. -/
def freesetKnownUptoCard : Claim7 := { stood := { row := freesetKnownUptoRow, standIns := [], harness := (true, "cf50b56d553f006778aa30c28de1590ba53debe1321003c7b3ebd8a71fb23828"), looks := false }, kinds := [], alts := [], laidByText := true, laidKinds := [.data], laidTests := true, laidLooks := .later }
def FreesetKnownUptoCardSaid : Prop := Claim7.holds Tryd.pinned (.plain (OpenSpec.upto freesetKnownSpec)) freesetKnownUptoCard

/-- THE SECOND FORM's CARD OF 'exchequerlaw09.FreesetOnce'. -/
def freesetOnceUptoCard : Claim7 := { stood := { row := freesetOnceUptoRow, standIns := [], harness := (true, "cf50b56d553f006778aa30c28de1590ba53debe1321003c7b3ebd8a71fb23828"), looks := false }, kinds := [], alts := [], laidByText := true, laidKinds := [.data], laidTests := true, laidLooks := .later }
def FreesetOnceUptoCardSaid : Prop := Claim7.holds Tryd.pinned (.plain (OpenSpec.upto freesetOnceSpec)) freesetOnceUptoCard

/-- THE SECOND FORM's CARD OF 'exchequerlaw09.FreesetBack'. -/
def freesetBackUptoCard : Claim7 := { stood := { row := freesetBackUptoRow, standIns := [], harness := (true, "cf50b56d553f006778aa30c28de1590ba53debe1321003c7b3ebd8a71fb23828"), looks := false }, kinds := [], alts := [], laidByText := true, laidKinds := [.data], laidTests := true, laidLooks := .later }
def FreesetBackUptoCardSaid : Prop := Claim7.holds Tryd.pinned (.plain (OpenSpec.upto freesetBackSpec)) freesetBackUptoCard

/-- THE SECOND FORM's CARD OF 'exchequerlaw09.FreesetScript'. -/
def freesetScriptUptoCard : Claim7 := { stood := { row := freesetScriptUptoRow, standIns := [], harness := (true, "cf50b56d553f006778aa30c28de1590ba53debe1321003c7b3ebd8a71fb23828"), looks := false }, kinds := [], alts := [], laidByText := true, laidKinds := [.data], laidTests := true, laidLooks := .later }
def FreesetScriptUptoCardSaid : Prop := Claim7.holds Tryd.pinned (.plain (OpenSpec.upto freesetScriptSpec)) freesetScriptUptoCard
end Rows
end Go.Proofs.YtkjcidbhepminaaDoor
