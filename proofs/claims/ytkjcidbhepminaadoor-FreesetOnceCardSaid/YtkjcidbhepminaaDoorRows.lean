/-
  NARROWER THAN 'FOR EVERY INPUT', by the rows' own cells (each row's printed sentence says how): FreesetNone: laid · FreesetReads: laid · FreesetKnown: laid · FreesetOnce: laid · FreesetBack: laid · FreesetScript: laid.
  DERIVED. THE GIVEN ROWS OF THIS SEAT. 6 by the template 'for every input the law returns true; each argument reads behind the call as it read before'; 0 by the template 'total and deterministic' (their statements: YtkjcidbhepminaaDoorTotals.lean).
  GIVEN WITH THE SEED: the statements are not yours to turn. If you find one false, say at which input.
  Laid BY PROGRAM, IN A SANDBOX (cutbox-rows.mjs): the forced cells as the released guide's own fill.sh prints them over the translation 1da415a5df7118f1… (all of the seat's roots in one cut). By AI agents, Wed Nov 11 2026. No macro, syntax, notation, axiom, sorry.
-/
import Derived.Test.YtkjcidbhepminaaDoorChecked
import GoSem.Claim
import GoSem.ClaimJoined
import GoSem.ClaimMapViews
import Derived.JoinedTies
import Derived.KernelRfl
namespace Go.Proofs.YtkjcidbhepminaaDoor
/- THE CELL 'sum', in the pinned program and in every row, IS THE sha256 OF THE DUMP (.gsa) THAT YtkjcidbhepminaaDoorProg.lean LOADS. Nothing in Lean hashes anything: it is a label: what it is worth is what the hold of that sum in a sandbox is worth. -/
noncomputable def Tryd.pinned : Pinned := { name := "ytkjcidbhepminaadoor", sum := "1da415a5df7118f190ad0d441939730b44ffc7b3c8ad253433884c313e37b0e8", checked := Tryd.checked }
namespace Rows
def none {H : Type} : Left H := { results := [], args := [] }

/- WHAT THE LISTED PACKAGE-LEVEL VARIABLES READ AS WHEN THE CALL BEGINS. Each datum BY PROGRAM (the guide's laid-datum.mjs) off the statement by which the dump's own 'gosem.cut.vars' lays the variable. In a bare row this is a premise. The card (YtkjcidbhepminaaDoorCards.lean) ties it to the program's text. -/
def laid_math_bits_deBruijn64tab {H : Type} : DataW H := .agg [.lit (.int .u8 0), .lit (.int .u8 1), .lit (.int .u8 56), .lit (.int .u8 2), .lit (.int .u8 57), .lit (.int .u8 49), .lit (.int .u8 28), .lit (.int .u8 3), .lit (.int .u8 61), .lit (.int .u8 58), .lit (.int .u8 42), .lit (.int .u8 50), .lit (.int .u8 38), .lit (.int .u8 29), .lit (.int .u8 17), .lit (.int .u8 4), .lit (.int .u8 62), .lit (.int .u8 47), .lit (.int .u8 59), .lit (.int .u8 36), .lit (.int .u8 45), .lit (.int .u8 43), .lit (.int .u8 51), .lit (.int .u8 22), .lit (.int .u8 53), .lit (.int .u8 39), .lit (.int .u8 33), .lit (.int .u8 30), .lit (.int .u8 24), .lit (.int .u8 18), .lit (.int .u8 12), .lit (.int .u8 5), .lit (.int .u8 63), .lit (.int .u8 55), .lit (.int .u8 48), .lit (.int .u8 27), .lit (.int .u8 60), .lit (.int .u8 41), .lit (.int .u8 37), .lit (.int .u8 16), .lit (.int .u8 46), .lit (.int .u8 35), .lit (.int .u8 44), .lit (.int .u8 21), .lit (.int .u8 52), .lit (.int .u8 32), .lit (.int .u8 23), .lit (.int .u8 11), .lit (.int .u8 54), .lit (.int .u8 26), .lit (.int .u8 40), .lit (.int .u8 15), .lit (.int .u8 34), .lit (.int .u8 20), .lit (.int .u8 31), .lit (.int .u8 10), .lit (.int .u8 25), .lit (.int .u8 14), .lit (.int .u8 19), .lit (.int .u8 9), .lit (.int .u8 13), .lit (.int .u8 8), .lit (.int .u8 7), .lit (.int .u8 6)]

/-- 'exchequerlaw09.FreesetNone': WHATEVER THE INPUT: true; the input reads as it did. -/
def freesetNoneSpec : ChangeSpec := { name := "freesetNone", fn := fun _ => fun
  | [d] => { results := [.lit (.bool true)], args := [d] }
  | _ => none }
def freesetNoneRow : OpenClaim := { program := "ytkjcidbhepminaadoor", sum := "1da415a5df7118f190ad0d441939730b44ffc7b3c8ad253433884c313e37b0e8", func := "exchequer/exchequerlaw09.FreesetNone", spec := "freesetNone", unfollowed := true, recurses := true, named := ["math/bits.deBruijn64tab"], apart := false, laid := [("math/bits.deBruijn64tab", laid_math_bits_deBruijn64tab)] }
def FreesetNoneSaid : Prop := freesetNoneRow.holds Tryd.pinned (OpenSpec.ofChange freesetNoneSpec)

/-- ITS FALSE NEIGHBOUR: 'it returns false'. Refute it at one input. -/
def freesetNoneWrong : ChangeSpec := { name := "freesetNone", fn := fun _ => fun
  | [d] => { results := [.lit (.bool false)], args := [d] }
  | _ => none }
def FreesetNoneWrongFalsely : Prop := freesetNoneRow.holds Tryd.pinned (OpenSpec.ofChange freesetNoneWrong)

/-- 'exchequerlaw09.FreesetReads': WHATEVER THE INPUT: true; the input reads as it did. -/
def freesetReadsSpec : ChangeSpec := { name := "freesetReads", fn := fun _ => fun
  | [d] => { results := [.lit (.bool true)], args := [d] }
  | _ => none }
def freesetReadsRow : OpenClaim := { program := "ytkjcidbhepminaadoor", sum := "1da415a5df7118f190ad0d441939730b44ffc7b3c8ad253433884c313e37b0e8", func := "exchequer/exchequerlaw09.FreesetReads", spec := "freesetReads", unfollowed := true, recurses := true, named := ["math/bits.deBruijn64tab"], apart := false, laid := [("math/bits.deBruijn64tab", laid_math_bits_deBruijn64tab)] }
def FreesetReadsSaid : Prop := freesetReadsRow.holds Tryd.pinned (OpenSpec.ofChange freesetReadsSpec)

/-- ITS FALSE NEIGHBOUR: 'it returns false'. Refute it at one input. -/
def freesetReadsWrong : ChangeSpec := { name := "freesetReads", fn := fun _ => fun
  | [d] => { results := [.lit (.bool false)], args := [d] }
  | _ => none }
def FreesetReadsWrongFalsely : Prop := freesetReadsRow.holds Tryd.pinned (OpenSpec.ofChange freesetReadsWrong)

/-- 'exchequerlaw09.FreesetKnown': WHATEVER THE INPUT: true; the input reads as it did. -/
def freesetKnownSpec : ChangeSpec := { name := "freesetKnown", fn := fun _ => fun
  | [] => { results := [.lit (.bool true)], args := [] }
  | _ => none }
def freesetKnownRow : OpenClaim := { program := "ytkjcidbhepminaadoor", sum := "1da415a5df7118f190ad0d441939730b44ffc7b3c8ad253433884c313e37b0e8", func := "exchequer/exchequerlaw09.FreesetKnown", spec := "freesetKnown", unfollowed := true, recurses := true, named := ["math/bits.deBruijn64tab"], apart := false, laid := [("math/bits.deBruijn64tab", laid_math_bits_deBruijn64tab)] }
def FreesetKnownSaid : Prop := freesetKnownRow.holds Tryd.pinned (OpenSpec.ofChange freesetKnownSpec)

/-- ITS FALSE NEIGHBOUR: 'it returns false'. Refute it at one input. -/
def freesetKnownWrong : ChangeSpec := { name := "freesetKnown", fn := fun _ => fun
  | [] => { results := [.lit (.bool false)], args := [] }
  | _ => none }
def FreesetKnownWrongFalsely : Prop := freesetKnownRow.holds Tryd.pinned (OpenSpec.ofChange freesetKnownWrong)

/-- 'exchequerlaw09.FreesetOnce': WHATEVER THE INPUT: true; the input reads as it did. -/
def freesetOnceSpec : ChangeSpec := { name := "freesetOnce", fn := fun _ => fun
  | [d1, d2] => { results := [.lit (.bool true)], args := [d1, d2] }
  | _ => none }
def freesetOnceRow : OpenClaim := { program := "ytkjcidbhepminaadoor", sum := "1da415a5df7118f190ad0d441939730b44ffc7b3c8ad253433884c313e37b0e8", func := "exchequer/exchequerlaw09.FreesetOnce", spec := "freesetOnce", unfollowed := true, recurses := true, named := ["math/bits.deBruijn64tab"], apart := false, laid := [("math/bits.deBruijn64tab", laid_math_bits_deBruijn64tab)] }
def FreesetOnceSaid : Prop := freesetOnceRow.holds Tryd.pinned (OpenSpec.ofChange freesetOnceSpec)

/-- ITS FALSE NEIGHBOUR: 'it returns false'. Refute it at one input. -/
def freesetOnceWrong : ChangeSpec := { name := "freesetOnce", fn := fun _ => fun
  | [d1, d2] => { results := [.lit (.bool false)], args := [d1, d2] }
  | _ => none }
def FreesetOnceWrongFalsely : Prop := freesetOnceRow.holds Tryd.pinned (OpenSpec.ofChange freesetOnceWrong)

/-- 'exchequerlaw09.FreesetBack': WHATEVER THE INPUT: true; the input reads as it did. -/
def freesetBackSpec : ChangeSpec := { name := "freesetBack", fn := fun _ => fun
  | [d1, d2, d3] => { results := [.lit (.bool true)], args := [d1, d2, d3] }
  | _ => none }
def freesetBackRow : OpenClaim := { program := "ytkjcidbhepminaadoor", sum := "1da415a5df7118f190ad0d441939730b44ffc7b3c8ad253433884c313e37b0e8", func := "exchequer/exchequerlaw09.FreesetBack", spec := "freesetBack", unfollowed := true, recurses := true, named := ["math/bits.deBruijn64tab"], apart := false, laid := [("math/bits.deBruijn64tab", laid_math_bits_deBruijn64tab)] }
def FreesetBackSaid : Prop := freesetBackRow.holds Tryd.pinned (OpenSpec.ofChange freesetBackSpec)

/-- ITS FALSE NEIGHBOUR: 'it returns false'. Refute it at one input. -/
def freesetBackWrong : ChangeSpec := { name := "freesetBack", fn := fun _ => fun
  | [d1, d2, d3] => { results := [.lit (.bool false)], args := [d1, d2, d3] }
  | _ => none }
def FreesetBackWrongFalsely : Prop := freesetBackRow.holds Tryd.pinned (OpenSpec.ofChange freesetBackWrong)

/-- 'exchequerlaw09.FreesetScript': WHATEVER THE INPUT: true; the input reads as it did. -/
def freesetScriptSpec : ChangeSpec := { name := "freesetScript", fn := fun _ => fun
  | [d1, d2] => { results := [.lit (.bool true)], args := [d1, d2] }
  | _ => none }
def freesetScriptRow : OpenClaim := { program := "ytkjcidbhepminaadoor", sum := "1da415a5df7118f190ad0d441939730b44ffc7b3c8ad253433884c313e37b0e8", func := "exchequer/exchequerlaw09.FreesetScript", spec := "freesetScript", unfollowed := true, recurses := true, named := ["math/bits.deBruijn64tab"], apart := false, laid := [("math/bits.deBruijn64tab", laid_math_bits_deBruijn64tab)] }
def FreesetScriptSaid : Prop := freesetScriptRow.holds Tryd.pinned (OpenSpec.ofChange freesetScriptSpec)

/-- ITS FALSE NEIGHBOUR: 'it returns false'. Refute it at one input. -/
def freesetScriptWrong : ChangeSpec := { name := "freesetScript", fn := fun _ => fun
  | [d1, d2] => { results := [.lit (.bool false)], args := [d1, d2] }
  | _ => none }
def FreesetScriptWrongFalsely : Prop := freesetScriptRow.holds Tryd.pinned (OpenSpec.ofChange freesetScriptWrong)

/- THE SECOND FORM. 'bulk': how many values and letters a reading holds, each counted each time it is reached (what is shared counts as often as it is met; a slice's spare places count too). A statement '..UptoSaid' is the law's where the arguments, and the package variables that the reading takes, are together of bulk at most 1048576: NARROWER than '..Said'. Prove '..Said' where nothing that the law and all that it calls make is longer than what came in: it says more and counts as full. Else prove '..UptoSaid'. A law counts once. -/
mutual
def uptoBulk {H : Type} : DataW H → Nat
  | .lit (.string bytes) => bytes.length + 1
  | .lit _ => 1
  | .nil => 1
  | .ptr d => uptoBulk d + 1
  | .slice elems spare => uptoBulkAll elems + uptoBulkAll spare + 1
  | .agg parts => uptoBulkAll parts + 1
  | .iface _ d => uptoBulk d + 1
  | .map entries => uptoBulkEntries entries + 1
  | .held _ => 1
def uptoBulkAll {H : Type} : List (DataW H) → Nat
  | [] => 0
  | d :: r => uptoBulk d + uptoBulkAll r
def uptoBulkEntries {H : Type} : List (Lit × DataW H) → Nat
  | [] => 0
  | x :: r => uptoBulkEntry x + uptoBulkEntries r
def uptoBulkEntry {H : Type} : Lit × DataW H → Nat
  | (.string bytes, d) => bytes.length + uptoBulk d + 1
  | (_, d) => uptoBulk d + 1
 end
def uptoSmall : (H : Type) → List (DataW H) → Bool := fun _ ds => decide (uptoBulkAll ds ≤ 1048576)
def OpenSpec.upto (s : _root_.Go.ChangeSpec) : _root_.Go.OpenSpec := { _root_.Go.OpenSpec.ofChange s with cond := some uptoSmall }

/-- 'exchequerlaw09.FreesetNone', WHERE WHAT IT READS IS OF BULK AT MOST 1048576: true; the input reads as it did. -/
def freesetNoneUptoRow : OpenClaim := { program := "ytkjcidbhepminaadoor", sum := "1da415a5df7118f190ad0d441939730b44ffc7b3c8ad253433884c313e37b0e8", func := "exchequer/exchequerlaw09.FreesetNone", spec := "freesetNone", unfollowed := true, recurses := true, named := ["math/bits.deBruijn64tab"], apart := false, laid := [("math/bits.deBruijn64tab", laid_math_bits_deBruijn64tab)], narrowed := true }
def FreesetNoneUptoSaid : Prop := freesetNoneUptoRow.holds Tryd.pinned (OpenSpec.upto freesetNoneSpec)

/-- 'exchequerlaw09.FreesetReads', WHERE WHAT IT READS IS OF BULK AT MOST 1048576: true; the input reads as it did. -/
def freesetReadsUptoRow : OpenClaim := { program := "ytkjcidbhepminaadoor", sum := "1da415a5df7118f190ad0d441939730b44ffc7b3c8ad253433884c313e37b0e8", func := "exchequer/exchequerlaw09.FreesetReads", spec := "freesetReads", unfollowed := true, recurses := true, named := ["math/bits.deBruijn64tab"], apart := false, laid := [("math/bits.deBruijn64tab", laid_math_bits_deBruijn64tab)], narrowed := true }
def FreesetReadsUptoSaid : Prop := freesetReadsUptoRow.holds Tryd.pinned (OpenSpec.upto freesetReadsSpec)

/-- 'exchequerlaw09.FreesetKnown', WHERE WHAT IT READS IS OF BULK AT MOST 1048576: true; the input reads as it did. -/
def freesetKnownUptoRow : OpenClaim := { program := "ytkjcidbhepminaadoor", sum := "1da415a5df7118f190ad0d441939730b44ffc7b3c8ad253433884c313e37b0e8", func := "exchequer/exchequerlaw09.FreesetKnown", spec := "freesetKnown", unfollowed := true, recurses := true, named := ["math/bits.deBruijn64tab"], apart := false, laid := [("math/bits.deBruijn64tab", laid_math_bits_deBruijn64tab)], narrowed := true }
def FreesetKnownUptoSaid : Prop := freesetKnownUptoRow.holds Tryd.pinned (OpenSpec.upto freesetKnownSpec)

/-- 'exchequerlaw09.FreesetOnce', WHERE WHAT IT READS IS OF BULK AT MOST 1048576: true; the input reads as it did. -/
def freesetOnceUptoRow : OpenClaim := { program := "ytkjcidbhepminaadoor", sum := "1da415a5df7118f190ad0d441939730b44ffc7b3c8ad253433884c313e37b0e8", func := "exchequer/exchequerlaw09.FreesetOnce", spec := "freesetOnce", unfollowed := true, recurses := true, named := ["math/bits.deBruijn64tab"], apart := false, laid := [("math/bits.deBruijn64tab", laid_math_bits_deBruijn64tab)], narrowed := true }
def FreesetOnceUptoSaid : Prop := freesetOnceUptoRow.holds Tryd.pinned (OpenSpec.upto freesetOnceSpec)

/-- 'exchequerlaw09.FreesetBack', WHERE WHAT IT READS IS OF BULK AT MOST 1048576: true; the input reads as it did. -/
def freesetBackUptoRow : OpenClaim := { program := "ytkjcidbhepminaadoor", sum := "1da415a5df7118f190ad0d441939730b44ffc7b3c8ad253433884c313e37b0e8", func := "exchequer/exchequerlaw09.FreesetBack", spec := "freesetBack", unfollowed := true, recurses := true, named := ["math/bits.deBruijn64tab"], apart := false, laid := [("math/bits.deBruijn64tab", laid_math_bits_deBruijn64tab)], narrowed := true }
def FreesetBackUptoSaid : Prop := freesetBackUptoRow.holds Tryd.pinned (OpenSpec.upto freesetBackSpec)

/-- 'exchequerlaw09.FreesetScript', WHERE WHAT IT READS IS OF BULK AT MOST 1048576: true; the input reads as it did. -/
def freesetScriptUptoRow : OpenClaim := { program := "ytkjcidbhepminaadoor", sum := "1da415a5df7118f190ad0d441939730b44ffc7b3c8ad253433884c313e37b0e8", func := "exchequer/exchequerlaw09.FreesetScript", spec := "freesetScript", unfollowed := true, recurses := true, named := ["math/bits.deBruijn64tab"], apart := false, laid := [("math/bits.deBruijn64tab", laid_math_bits_deBruijn64tab)], narrowed := true }
def FreesetScriptUptoSaid : Prop := freesetScriptUptoRow.holds Tryd.pinned (OpenSpec.upto freesetScriptSpec)

end Rows
end Go.Proofs.YtkjcidbhepminaaDoor
