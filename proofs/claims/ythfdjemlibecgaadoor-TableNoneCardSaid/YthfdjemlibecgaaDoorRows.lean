/-
  NARROWER THAN 'FOR EVERY INPUT', by the rows' own cells (each row's printed sentence says how): FetchNone: laid · GridKnown: laid · GridReaches: laid · FetchWhole: laid · FetchKnown: laid · TablePacks: laid · GridNone: laid · TableNone: laid · TableKnown: laid · TableTurned: laid · TableMap: laid.
  DERIVED. THE GIVEN ROWS OF THIS SEAT. 11 by the template 'for every input the law returns true; each argument reads behind the call as it read before'; 0 by the template 'total and deterministic' (their statements: YthfdjemlibecgaaDoorTotals.lean).
  GIVEN WITH THE SEED: the statements are not yours to turn. If you find one false, say at which input.
  Laid BY PROGRAM, IN A SANDBOX (cutbox-rows.mjs): the forced cells as the released guide's own fill.sh prints them over the translation 9b9640a29aba68fd… (all of the seat's roots in one cut). By AI agents, Wed Nov 11 2026. No macro, syntax, notation, axiom, sorry.
-/
import Derived.Test.YthfdjemlibecgaaDoorChecked
import GoSem.Claim
import GoSem.ClaimJoined
import GoSem.ClaimMapViews
import Derived.JoinedTies
import Derived.KernelRfl
namespace Go.Proofs.YthfdjemlibecgaaDoor
/- THE CELL 'sum', in the pinned program and in every row, IS THE sha256 OF THE DUMP (.gsa) THAT YthfdjemlibecgaaDoorProg.lean LOADS. Nothing in Lean hashes anything: it is a label: what it is worth is what the hold of that sum in a sandbox is worth. -/
noncomputable def Tryd.pinned : Pinned := { name := "ythfdjemlibecgaadoor", sum := "9b9640a29aba68fd449a9ad5f4db3ca553e1dde242e3d2f98cb575264e4f0d24", checked := Tryd.checked }
namespace Rows
def none {H : Type} : Left H := { results := [], args := [] }

/- WHAT THE LISTED PACKAGE-LEVEL VARIABLES READ AS WHEN THE CALL BEGINS. Each datum BY PROGRAM (the guide's laid-datum.mjs) off the statement by which the dump's own 'gosem.cut.vars' lays the variable. In a bare row this is a premise. The card (YthfdjemlibecgaaDoorCards.lean) ties it to the program's text. -/
def laid_math_bits_deBruijn64tab {H : Type} : DataW H := .agg [.lit (.int .u8 0), .lit (.int .u8 1), .lit (.int .u8 56), .lit (.int .u8 2), .lit (.int .u8 57), .lit (.int .u8 49), .lit (.int .u8 28), .lit (.int .u8 3), .lit (.int .u8 61), .lit (.int .u8 58), .lit (.int .u8 42), .lit (.int .u8 50), .lit (.int .u8 38), .lit (.int .u8 29), .lit (.int .u8 17), .lit (.int .u8 4), .lit (.int .u8 62), .lit (.int .u8 47), .lit (.int .u8 59), .lit (.int .u8 36), .lit (.int .u8 45), .lit (.int .u8 43), .lit (.int .u8 51), .lit (.int .u8 22), .lit (.int .u8 53), .lit (.int .u8 39), .lit (.int .u8 33), .lit (.int .u8 30), .lit (.int .u8 24), .lit (.int .u8 18), .lit (.int .u8 12), .lit (.int .u8 5), .lit (.int .u8 63), .lit (.int .u8 55), .lit (.int .u8 48), .lit (.int .u8 27), .lit (.int .u8 60), .lit (.int .u8 41), .lit (.int .u8 37), .lit (.int .u8 16), .lit (.int .u8 46), .lit (.int .u8 35), .lit (.int .u8 44), .lit (.int .u8 21), .lit (.int .u8 52), .lit (.int .u8 32), .lit (.int .u8 23), .lit (.int .u8 11), .lit (.int .u8 54), .lit (.int .u8 26), .lit (.int .u8 40), .lit (.int .u8 15), .lit (.int .u8 34), .lit (.int .u8 20), .lit (.int .u8 31), .lit (.int .u8 10), .lit (.int .u8 25), .lit (.int .u8 14), .lit (.int .u8 19), .lit (.int .u8 9), .lit (.int .u8 13), .lit (.int .u8 8), .lit (.int .u8 7), .lit (.int .u8 6)]

/-- 'exchequerlaw28.FetchNone': WHATEVER THE INPUT: true; the input reads as it did. -/
def fetchNoneSpec : ChangeSpec := { name := "fetchNone", fn := fun _ => fun
  | [d] => { results := [.lit (.bool true)], args := [d] }
  | _ => none }
def fetchNoneRow : OpenClaim := { program := "ythfdjemlibecgaadoor", sum := "9b9640a29aba68fd449a9ad5f4db3ca553e1dde242e3d2f98cb575264e4f0d24", func := "exchequer/exchequerlaw28.FetchNone", spec := "fetchNone", unfollowed := true, recurses := true, named := ["math/bits.deBruijn64tab"], plainKeys := false, apart := false, laid := [("math/bits.deBruijn64tab", laid_math_bits_deBruijn64tab)] }
def FetchNoneSaid : Prop := fetchNoneRow.holds Tryd.pinned (OpenSpec.ofChange fetchNoneSpec)

/-- ITS FALSE NEIGHBOUR: 'it returns false'. Refute it at one input. -/
def fetchNoneWrong : ChangeSpec := { name := "fetchNone", fn := fun _ => fun
  | [d] => { results := [.lit (.bool false)], args := [d] }
  | _ => none }
def FetchNoneWrongFalsely : Prop := fetchNoneRow.holds Tryd.pinned (OpenSpec.ofChange fetchNoneWrong)

/-- 'exchequerlaw11.GridKnown': WHATEVER THE INPUT: true; the input reads as it did. -/
def gridKnownSpec : ChangeSpec := { name := "gridKnown", fn := fun _ => fun
  | [] => { results := [.lit (.bool true)], args := [] }
  | _ => none }
def gridKnownRow : OpenClaim := { program := "ythfdjemlibecgaadoor", sum := "9b9640a29aba68fd449a9ad5f4db3ca553e1dde242e3d2f98cb575264e4f0d24", func := "exchequer/exchequerlaw11.GridKnown", spec := "gridKnown", unfollowed := true, recurses := true, named := ["math/bits.deBruijn64tab"], plainKeys := false, apart := false, laid := [("math/bits.deBruijn64tab", laid_math_bits_deBruijn64tab)] }
def GridKnownSaid : Prop := gridKnownRow.holds Tryd.pinned (OpenSpec.ofChange gridKnownSpec)

/-- ITS FALSE NEIGHBOUR: 'it returns false'. Refute it at one input. -/
def gridKnownWrong : ChangeSpec := { name := "gridKnown", fn := fun _ => fun
  | [] => { results := [.lit (.bool false)], args := [] }
  | _ => none }
def GridKnownWrongFalsely : Prop := gridKnownRow.holds Tryd.pinned (OpenSpec.ofChange gridKnownWrong)

/-- 'exchequerlaw11.GridReaches': WHATEVER THE INPUT: true; the input reads as it did. -/
def gridReachesSpec : ChangeSpec := { name := "gridReaches", fn := fun _ => fun
  | [d1, d2] => { results := [.lit (.bool true)], args := [d1, d2] }
  | _ => none }
def gridReachesRow : OpenClaim := { program := "ythfdjemlibecgaadoor", sum := "9b9640a29aba68fd449a9ad5f4db3ca553e1dde242e3d2f98cb575264e4f0d24", func := "exchequer/exchequerlaw11.GridReaches", spec := "gridReaches", unfollowed := true, recurses := true, named := ["math/bits.deBruijn64tab"], plainKeys := false, apart := false, laid := [("math/bits.deBruijn64tab", laid_math_bits_deBruijn64tab)] }
def GridReachesSaid : Prop := gridReachesRow.holds Tryd.pinned (OpenSpec.ofChange gridReachesSpec)

/-- ITS FALSE NEIGHBOUR: 'it returns false'. Refute it at one input. -/
def gridReachesWrong : ChangeSpec := { name := "gridReaches", fn := fun _ => fun
  | [d1, d2] => { results := [.lit (.bool false)], args := [d1, d2] }
  | _ => none }
def GridReachesWrongFalsely : Prop := gridReachesRow.holds Tryd.pinned (OpenSpec.ofChange gridReachesWrong)

/-- 'exchequerlaw28.FetchWhole': WHATEVER THE INPUT: true; the input reads as it did. -/
def fetchWholeSpec : ChangeSpec := { name := "fetchWhole", fn := fun _ => fun
  | [d1, d2] => { results := [.lit (.bool true)], args := [d1, d2] }
  | _ => none }
def fetchWholeRow : OpenClaim := { program := "ythfdjemlibecgaadoor", sum := "9b9640a29aba68fd449a9ad5f4db3ca553e1dde242e3d2f98cb575264e4f0d24", func := "exchequer/exchequerlaw28.FetchWhole", spec := "fetchWhole", unfollowed := true, recurses := true, named := ["math/bits.deBruijn64tab"], plainKeys := false, apart := false, laid := [("math/bits.deBruijn64tab", laid_math_bits_deBruijn64tab)] }
def FetchWholeSaid : Prop := fetchWholeRow.holds Tryd.pinned (OpenSpec.ofChange fetchWholeSpec)

/-- ITS FALSE NEIGHBOUR: 'it returns false'. Refute it at one input. -/
def fetchWholeWrong : ChangeSpec := { name := "fetchWhole", fn := fun _ => fun
  | [d1, d2] => { results := [.lit (.bool false)], args := [d1, d2] }
  | _ => none }
def FetchWholeWrongFalsely : Prop := fetchWholeRow.holds Tryd.pinned (OpenSpec.ofChange fetchWholeWrong)

/-- 'exchequerlaw28.FetchKnown': WHATEVER THE INPUT: true; the input reads as it did. -/
def fetchKnownSpec : ChangeSpec := { name := "fetchKnown", fn := fun _ => fun
  | [] => { results := [.lit (.bool true)], args := [] }
  | _ => none }
def fetchKnownRow : OpenClaim := { program := "ythfdjemlibecgaadoor", sum := "9b9640a29aba68fd449a9ad5f4db3ca553e1dde242e3d2f98cb575264e4f0d24", func := "exchequer/exchequerlaw28.FetchKnown", spec := "fetchKnown", unfollowed := true, recurses := true, named := ["math/bits.deBruijn64tab"], plainKeys := false, apart := false, laid := [("math/bits.deBruijn64tab", laid_math_bits_deBruijn64tab)] }
def FetchKnownSaid : Prop := fetchKnownRow.holds Tryd.pinned (OpenSpec.ofChange fetchKnownSpec)

/-- ITS FALSE NEIGHBOUR: 'it returns false'. Refute it at one input. -/
def fetchKnownWrong : ChangeSpec := { name := "fetchKnown", fn := fun _ => fun
  | [] => { results := [.lit (.bool false)], args := [] }
  | _ => none }
def FetchKnownWrongFalsely : Prop := fetchKnownRow.holds Tryd.pinned (OpenSpec.ofChange fetchKnownWrong)

/-- 'exchequerlaw13.TablePacks': WHATEVER THE INPUT: true; the input reads as it did. -/
def tablePacksSpec : ChangeSpec := { name := "tablePacks", fn := fun _ => fun
  | [d1, d2] => { results := [.lit (.bool true)], args := [d1, d2] }
  | _ => none }
def tablePacksRow : OpenClaim := { program := "ythfdjemlibecgaadoor", sum := "9b9640a29aba68fd449a9ad5f4db3ca553e1dde242e3d2f98cb575264e4f0d24", func := "exchequer/exchequerlaw13.TablePacks", spec := "tablePacks", inPlace := ["internal/bytealg.Compare"], unfollowed := true, recurses := true, named := ["math/bits.deBruijn64tab"], plainKeys := false, apart := false, laid := [("math/bits.deBruijn64tab", laid_math_bits_deBruijn64tab)] }
def TablePacksSaid : Prop := tablePacksRow.holds Tryd.pinned (OpenSpec.ofChange tablePacksSpec)

/-- ITS FALSE NEIGHBOUR: 'it returns false'. Refute it at one input. -/
def tablePacksWrong : ChangeSpec := { name := "tablePacks", fn := fun _ => fun
  | [d1, d2] => { results := [.lit (.bool false)], args := [d1, d2] }
  | _ => none }
def TablePacksWrongFalsely : Prop := tablePacksRow.holds Tryd.pinned (OpenSpec.ofChange tablePacksWrong)

/-- 'exchequerlaw11.GridNone': WHATEVER THE INPUT: true; the input reads as it did. -/
def gridNoneSpec : ChangeSpec := { name := "gridNone", fn := fun _ => fun
  | [d1, d2] => { results := [.lit (.bool true)], args := [d1, d2] }
  | _ => none }
def gridNoneRow : OpenClaim := { program := "ythfdjemlibecgaadoor", sum := "9b9640a29aba68fd449a9ad5f4db3ca553e1dde242e3d2f98cb575264e4f0d24", func := "exchequer/exchequerlaw11.GridNone", spec := "gridNone", unfollowed := true, recurses := true, named := ["math/bits.deBruijn64tab"], plainKeys := false, apart := false, laid := [("math/bits.deBruijn64tab", laid_math_bits_deBruijn64tab)] }
def GridNoneSaid : Prop := gridNoneRow.holds Tryd.pinned (OpenSpec.ofChange gridNoneSpec)

/-- ITS FALSE NEIGHBOUR: 'it returns false'. Refute it at one input. -/
def gridNoneWrong : ChangeSpec := { name := "gridNone", fn := fun _ => fun
  | [d1, d2] => { results := [.lit (.bool false)], args := [d1, d2] }
  | _ => none }
def GridNoneWrongFalsely : Prop := gridNoneRow.holds Tryd.pinned (OpenSpec.ofChange gridNoneWrong)

/-- 'exchequerlaw13.TableNone': WHATEVER THE INPUT: true; the input reads as it did. -/
def tableNoneSpec : ChangeSpec := { name := "tableNone", fn := fun _ => fun
  | [d] => { results := [.lit (.bool true)], args := [d] }
  | _ => none }
def tableNoneRow : OpenClaim := { program := "ythfdjemlibecgaadoor", sum := "9b9640a29aba68fd449a9ad5f4db3ca553e1dde242e3d2f98cb575264e4f0d24", func := "exchequer/exchequerlaw13.TableNone", spec := "tableNone", inPlace := ["internal/bytealg.Compare"], unfollowed := true, recurses := true, named := ["math/bits.deBruijn64tab"], plainKeys := false, apart := false, laid := [("math/bits.deBruijn64tab", laid_math_bits_deBruijn64tab)] }
def TableNoneSaid : Prop := tableNoneRow.holds Tryd.pinned (OpenSpec.ofChange tableNoneSpec)

/-- ITS FALSE NEIGHBOUR: 'it returns false'. Refute it at one input. -/
def tableNoneWrong : ChangeSpec := { name := "tableNone", fn := fun _ => fun
  | [d] => { results := [.lit (.bool false)], args := [d] }
  | _ => none }
def TableNoneWrongFalsely : Prop := tableNoneRow.holds Tryd.pinned (OpenSpec.ofChange tableNoneWrong)

/-- 'exchequerlaw13.TableKnown': WHATEVER THE INPUT: true; the input reads as it did. -/
def tableKnownSpec : ChangeSpec := { name := "tableKnown", fn := fun _ => fun
  | [] => { results := [.lit (.bool true)], args := [] }
  | _ => none }
def tableKnownRow : OpenClaim := { program := "ythfdjemlibecgaadoor", sum := "9b9640a29aba68fd449a9ad5f4db3ca553e1dde242e3d2f98cb575264e4f0d24", func := "exchequer/exchequerlaw13.TableKnown", spec := "tableKnown", inPlace := ["internal/bytealg.Compare"], unfollowed := true, recurses := true, named := ["math/bits.deBruijn64tab"], plainKeys := false, apart := false, laid := [("math/bits.deBruijn64tab", laid_math_bits_deBruijn64tab)] }
def TableKnownSaid : Prop := tableKnownRow.holds Tryd.pinned (OpenSpec.ofChange tableKnownSpec)

/-- ITS FALSE NEIGHBOUR: 'it returns false'. Refute it at one input. -/
def tableKnownWrong : ChangeSpec := { name := "tableKnown", fn := fun _ => fun
  | [] => { results := [.lit (.bool false)], args := [] }
  | _ => none }
def TableKnownWrongFalsely : Prop := tableKnownRow.holds Tryd.pinned (OpenSpec.ofChange tableKnownWrong)

/-- 'exchequerlaw13.TableTurned': WHATEVER THE INPUT: true; the input reads as it did. -/
def tableTurnedSpec : ChangeSpec := { name := "tableTurned", fn := fun _ => fun
  | [d1, d2, d3] => { results := [.lit (.bool true)], args := [d1, d2, d3] }
  | _ => none }
def tableTurnedRow : OpenClaim := { program := "ythfdjemlibecgaadoor", sum := "9b9640a29aba68fd449a9ad5f4db3ca553e1dde242e3d2f98cb575264e4f0d24", func := "exchequer/exchequerlaw13.TableTurned", spec := "tableTurned", inPlace := ["internal/bytealg.Compare"], unfollowed := true, recurses := true, named := ["math/bits.deBruijn64tab"], plainKeys := false, apart := false, laid := [("math/bits.deBruijn64tab", laid_math_bits_deBruijn64tab)] }
def TableTurnedSaid : Prop := tableTurnedRow.holds Tryd.pinned (OpenSpec.ofChange tableTurnedSpec)

/-- ITS FALSE NEIGHBOUR: 'it returns false'. Refute it at one input. -/
def tableTurnedWrong : ChangeSpec := { name := "tableTurned", fn := fun _ => fun
  | [d1, d2, d3] => { results := [.lit (.bool false)], args := [d1, d2, d3] }
  | _ => none }
def TableTurnedWrongFalsely : Prop := tableTurnedRow.holds Tryd.pinned (OpenSpec.ofChange tableTurnedWrong)

/-- 'exchequerlaw13.TableMap': WHATEVER THE INPUT: true; the input reads as it did. -/
def tableMapSpec : ChangeSpec := { name := "tableMap", fn := fun _ => fun
  | [d1, d2, d3, d4] => { results := [.lit (.bool true)], args := [d1, d2, d3, d4] }
  | _ => none }
def tableMapRow : OpenClaim := { program := "ythfdjemlibecgaadoor", sum := "9b9640a29aba68fd449a9ad5f4db3ca553e1dde242e3d2f98cb575264e4f0d24", func := "exchequer/exchequerlaw13.TableMap", spec := "tableMap", inPlace := ["internal/bytealg.Compare"], unfollowed := true, recurses := true, named := ["math/bits.deBruijn64tab"], plainKeys := false, apart := false, laid := [("math/bits.deBruijn64tab", laid_math_bits_deBruijn64tab)] }
def TableMapSaid : Prop := tableMapRow.holds Tryd.pinned (OpenSpec.ofChange tableMapSpec)

/-- ITS FALSE NEIGHBOUR: 'it returns false'. Refute it at one input. -/
def tableMapWrong : ChangeSpec := { name := "tableMap", fn := fun _ => fun
  | [d1, d2, d3, d4] => { results := [.lit (.bool false)], args := [d1, d2, d3, d4] }
  | _ => none }
def TableMapWrongFalsely : Prop := tableMapRow.holds Tryd.pinned (OpenSpec.ofChange tableMapWrong)

/- THE SECOND FORM. 'bulk': how many values and letters a reading holds, each counted each time it is reached (what is shared counts as often as it is met; a slice's spare places count too). A statement '..UptoSaid' is the law's where the arguments, and the package variables that the reading takes, are together of bulk at most 1048576: NARROWER than '..Said'. Prove '..Said' where nothing that the law and all that it calls make is longer than what came in: it says more and counts as full. Else prove '..UptoSaid'. A law counts once. -/
mutual
def uptoBulk {H : Type} : DataW H → Nat
  | .lit (.string bytes) => bytes.length + 1
  | .lit _ => 1
  | .nil => 1
  | .ptr d => uptoBulk d + 1
  | .slice elems spare => uptoBulkAll elems + uptoBulkAll spare + 1
  | .agg parts => uptoBulkAll parts + 1
  | .iface _ d => uptoBulk d + 1
  | .map entries => uptoBulkEntries entries + 1
  | .held _ => 1
def uptoBulkAll {H : Type} : List (DataW H) → Nat
  | [] => 0
  | d :: r => uptoBulk d + uptoBulkAll r
def uptoBulkEntries {H : Type} : List (Lit × DataW H) → Nat
  | [] => 0
  | x :: r => uptoBulkEntry x + uptoBulkEntries r
def uptoBulkEntry {H : Type} : Lit × DataW H → Nat
  | (.string bytes, d) => bytes.length + uptoBulk d + 1
  | (_, d) => uptoBulk d + 1
 end
def uptoSmall : (H : Type) → List (DataW H) → Bool := fun _ ds => decide (uptoBulkAll ds ≤ 1048576)
def OpenSpec.upto (s : _root_.Go.ChangeSpec) : _root_.Go.OpenSpec := { _root_.Go.OpenSpec.ofChange s with cond := some uptoSmall }

/-- 'exchequerlaw28.FetchNone', WHERE WHAT IT READS IS OF BULK AT MOST 1048576: true; the input reads as it did. -/
def fetchNoneUptoRow : OpenClaim := { program := "ythfdjemlibecgaadoor", sum := "9b9640a29aba68fd449a9ad5f4db3ca553e1dde242e3d2f98cb575264e4f0d24", func := "exchequer/exchequerlaw28.FetchNone", spec := "fetchNone", unfollowed := true, recurses := true, named := ["math/bits.deBruijn64tab"], plainKeys := false, apart := false, laid := [("math/bits.deBruijn64tab", laid_math_bits_deBruijn64tab)], narrowed := true }
def FetchNoneUptoSaid : Prop := fetchNoneUptoRow.holds Tryd.pinned (OpenSpec.upto fetchNoneSpec)

/-- 'exchequerlaw11.GridKnown', WHERE WHAT IT READS IS OF BULK AT MOST 1048576: true; the input reads as it did. -/
def gridKnownUptoRow : OpenClaim := { program := "ythfdjemlibecgaadoor", sum := "9b9640a29aba68fd449a9ad5f4db3ca553e1dde242e3d2f98cb575264e4f0d24", func := "exchequer/exchequerlaw11.GridKnown", spec := "gridKnown", unfollowed := true, recurses := true, named := ["math/bits.deBruijn64tab"], plainKeys := false, apart := false, laid := [("math/bits.deBruijn64tab", laid_math_bits_deBruijn64tab)], narrowed := true }
def GridKnownUptoSaid : Prop := gridKnownUptoRow.holds Tryd.pinned (OpenSpec.upto gridKnownSpec)

/-- 'exchequerlaw11.GridReaches', WHERE WHAT IT READS IS OF BULK AT MOST 1048576: true; the input reads as it did. -/
def gridReachesUptoRow : OpenClaim := { program := "ythfdjemlibecgaadoor", sum := "9b9640a29aba68fd449a9ad5f4db3ca553e1dde242e3d2f98cb575264e4f0d24", func := "exchequer/exchequerlaw11.GridReaches", spec := "gridReaches", unfollowed := true, recurses := true, named := ["math/bits.deBruijn64tab"], plainKeys := false, apart := false, laid := [("math/bits.deBruijn64tab", laid_math_bits_deBruijn64tab)], narrowed := true }
def GridReachesUptoSaid : Prop := gridReachesUptoRow.holds Tryd.pinned (OpenSpec.upto gridReachesSpec)

/-- 'exchequerlaw28.FetchWhole', WHERE WHAT IT READS IS OF BULK AT MOST 1048576: true; the input reads as it did. -/
def fetchWholeUptoRow : OpenClaim := { program := "ythfdjemlibecgaadoor", sum := "9b9640a29aba68fd449a9ad5f4db3ca553e1dde242e3d2f98cb575264e4f0d24", func := "exchequer/exchequerlaw28.FetchWhole", spec := "fetchWhole", unfollowed := true, recurses := true, named := ["math/bits.deBruijn64tab"], plainKeys := false, apart := false, laid := [("math/bits.deBruijn64tab", laid_math_bits_deBruijn64tab)], narrowed := true }
def FetchWholeUptoSaid : Prop := fetchWholeUptoRow.holds Tryd.pinned (OpenSpec.upto fetchWholeSpec)

/-- 'exchequerlaw28.FetchKnown', WHERE WHAT IT READS IS OF BULK AT MOST 1048576: true; the input reads as it did. -/
def fetchKnownUptoRow : OpenClaim := { program := "ythfdjemlibecgaadoor", sum := "9b9640a29aba68fd449a9ad5f4db3ca553e1dde242e3d2f98cb575264e4f0d24", func := "exchequer/exchequerlaw28.FetchKnown", spec := "fetchKnown", unfollowed := true, recurses := true, named := ["math/bits.deBruijn64tab"], plainKeys := false, apart := false, laid := [("math/bits.deBruijn64tab", laid_math_bits_deBruijn64tab)], narrowed := true }
def FetchKnownUptoSaid : Prop := fetchKnownUptoRow.holds Tryd.pinned (OpenSpec.upto fetchKnownSpec)

/-- 'exchequerlaw13.TablePacks', WHERE WHAT IT READS IS OF BULK AT MOST 1048576: true; the input reads as it did. -/
def tablePacksUptoRow : OpenClaim := { program := "ythfdjemlibecgaadoor", sum := "9b9640a29aba68fd449a9ad5f4db3ca553e1dde242e3d2f98cb575264e4f0d24", func := "exchequer/exchequerlaw13.TablePacks", spec := "tablePacks", inPlace := ["internal/bytealg.Compare"], unfollowed := true, recurses := true, named := ["math/bits.deBruijn64tab"], plainKeys := false, apart := false, laid := [("math/bits.deBruijn64tab", laid_math_bits_deBruijn64tab)], narrowed := true }
def TablePacksUptoSaid : Prop := tablePacksUptoRow.holds Tryd.pinned (OpenSpec.upto tablePacksSpec)

/-- 'exchequerlaw11.GridNone', WHERE WHAT IT READS IS OF BULK AT MOST 1048576: true; the input reads as it did. -/
def gridNoneUptoRow : OpenClaim := { program := "ythfdjemlibecgaadoor", sum := "9b9640a29aba68fd449a9ad5f4db3ca553e1dde242e3d2f98cb575264e4f0d24", func := "exchequer/exchequerlaw11.GridNone", spec := "gridNone", unfollowed := true, recurses := true, named := ["math/bits.deBruijn64tab"], plainKeys := false, apart := false, laid := [("math/bits.deBruijn64tab", laid_math_bits_deBruijn64tab)], narrowed := true }
def GridNoneUptoSaid : Prop := gridNoneUptoRow.holds Tryd.pinned (OpenSpec.upto gridNoneSpec)

/-- 'exchequerlaw13.TableNone', WHERE WHAT IT READS IS OF BULK AT MOST 1048576: true; the input reads as it did. -/
def tableNoneUptoRow : OpenClaim := { program := "ythfdjemlibecgaadoor", sum := "9b9640a29aba68fd449a9ad5f4db3ca553e1dde242e3d2f98cb575264e4f0d24", func := "exchequer/exchequerlaw13.TableNone", spec := "tableNone", inPlace := ["internal/bytealg.Compare"], unfollowed := true, recurses := true, named := ["math/bits.deBruijn64tab"], plainKeys := false, apart := false, laid := [("math/bits.deBruijn64tab", laid_math_bits_deBruijn64tab)], narrowed := true }
def TableNoneUptoSaid : Prop := tableNoneUptoRow.holds Tryd.pinned (OpenSpec.upto tableNoneSpec)

/-- 'exchequerlaw13.TableKnown', WHERE WHAT IT READS IS OF BULK AT MOST 1048576: true; the input reads as it did. -/
def tableKnownUptoRow : OpenClaim := { program := "ythfdjemlibecgaadoor", sum := "9b9640a29aba68fd449a9ad5f4db3ca553e1dde242e3d2f98cb575264e4f0d24", func := "exchequer/exchequerlaw13.TableKnown", spec := "tableKnown", inPlace := ["internal/bytealg.Compare"], unfollowed := true, recurses := true, named := ["math/bits.deBruijn64tab"], plainKeys := false, apart := false, laid := [("math/bits.deBruijn64tab", laid_math_bits_deBruijn64tab)], narrowed := true }
def TableKnownUptoSaid : Prop := tableKnownUptoRow.holds Tryd.pinned (OpenSpec.upto tableKnownSpec)

/-- 'exchequerlaw13.TableTurned', WHERE WHAT IT READS IS OF BULK AT MOST 1048576: true; the input reads as it did. -/
def tableTurnedUptoRow : OpenClaim := { program := "ythfdjemlibecgaadoor", sum := "9b9640a29aba68fd449a9ad5f4db3ca553e1dde242e3d2f98cb575264e4f0d24", func := "exchequer/exchequerlaw13.TableTurned", spec := "tableTurned", inPlace := ["internal/bytealg.Compare"], unfollowed := true, recurses := true, named := ["math/bits.deBruijn64tab"], plainKeys := false, apart := false, laid := [("math/bits.deBruijn64tab", laid_math_bits_deBruijn64tab)], narrowed := true }
def TableTurnedUptoSaid : Prop := tableTurnedUptoRow.holds Tryd.pinned (OpenSpec.upto tableTurnedSpec)

/-- 'exchequerlaw13.TableMap', WHERE WHAT IT READS IS OF BULK AT MOST 1048576: true; the input reads as it did. -/
def tableMapUptoRow : OpenClaim := { program := "ythfdjemlibecgaadoor", sum := "9b9640a29aba68fd449a9ad5f4db3ca553e1dde242e3d2f98cb575264e4f0d24", func := "exchequer/exchequerlaw13.TableMap", spec := "tableMap", inPlace := ["internal/bytealg.Compare"], unfollowed := true, recurses := true, named := ["math/bits.deBruijn64tab"], plainKeys := false, apart := false, laid := [("math/bits.deBruijn64tab", laid_math_bits_deBruijn64tab)], narrowed := true }
def TableMapUptoSaid : Prop := tableMapUptoRow.holds Tryd.pinned (OpenSpec.upto tableMapSpec)

end Rows
end Go.Proofs.YthfdjemlibecgaaDoor
