/-
  No cell of these rows narrows 'for every input' (looked for: loops, veiled, ifaces, maps, wideKeys, modest, calm, conditions, laid).
  DERIVED. THE GIVEN ROWS OF THIS SEAT. 10 by the template 'for every input the law returns true; each argument reads behind the call as it read before'; 0 by the template 'total and deterministic' (their statements: YtmhfehhpfkjloaaTotals.lean).
  GIVEN WITH THE SEED: the statements are not yours to turn. If you find one false, say at which input.
  Laid BY PROGRAM, IN A SANDBOX (cutbox-rows.mjs): the forced cells as the released guide's own fill.sh prints them over the translation 24b698a37e4f5b46… (all of the seat's roots in one cut). By AI agents, Wed Nov 11 2026. No macro, syntax, notation, axiom, sorry.
-/
import Derived.Test.YtmhfehhpfkjloaaChecked
import GoSem.Claim
import GoSem.ClaimJoined
import GoSem.ClaimMapViews
import Derived.JoinedTies
import Derived.KernelRfl
namespace Go.Proofs.Ytmhfehhpfkjloaa
/- THE CELL 'sum', in the pinned program and in every row, IS THE sha256 OF THE DUMP (.gsa) THAT YtmhfehhpfkjloaaProg.lean LOADS. Nothing in Lean hashes anything: it is a label: what it is worth is what the hold of that sum in a sandbox is worth. -/
noncomputable def Try.pinned : Pinned := { name := "ytmhfehhpfkjloaa", sum := "24b698a37e4f5b46c47d0c17ca16831b8f081420f363aa8101b9336edfe6b0b5", checked := Try.checked }
namespace Rows
def none {H : Type} : Left H := { results := [], args := [] }

/-- 'exchequerlaw06.SuperblockNone': WHATEVER THE INPUT: true; the input reads as it did. -/
def superblockNoneSpec : ChangeSpec := { name := "superblockNone", fn := fun _ => fun
  | [d] => { results := [.lit (.bool true)], args := [d] }
  | _ => none }
def superblockNoneRow : OpenClaim := { program := "ytmhfehhpfkjloaa", sum := "24b698a37e4f5b46c47d0c17ca16831b8f081420f363aa8101b9336edfe6b0b5", func := "exchequer/exchequerlaw06.SuperblockNone", spec := "superblockNone", unfollowed := true, recurses := true, plainKeys := false, apart := false }
def SuperblockNoneSaid : Prop := superblockNoneRow.holds Try.pinned (OpenSpec.ofChange superblockNoneSpec)

/-- ITS FALSE NEIGHBOUR: 'it returns false'. Refute it at one input. -/
def superblockNoneWrong : ChangeSpec := { name := "superblockNone", fn := fun _ => fun
  | [d] => { results := [.lit (.bool false)], args := [d] }
  | _ => none }
def SuperblockNoneWrongFalsely : Prop := superblockNoneRow.holds Try.pinned (OpenSpec.ofChange superblockNoneWrong)

/-- 'exchequerlaw06.SuperblockBytes': WHATEVER THE INPUT: true; the input reads as it did. -/
def superblockBytesSpec : ChangeSpec := { name := "superblockBytes", fn := fun _ => fun
  | [d1, d2] => { results := [.lit (.bool true)], args := [d1, d2] }
  | _ => none }
def superblockBytesRow : OpenClaim := { program := "ytmhfehhpfkjloaa", sum := "24b698a37e4f5b46c47d0c17ca16831b8f081420f363aa8101b9336edfe6b0b5", func := "exchequer/exchequerlaw06.SuperblockBytes", spec := "superblockBytes", unfollowed := true, recurses := true, plainKeys := false, apart := false }
def SuperblockBytesSaid : Prop := superblockBytesRow.holds Try.pinned (OpenSpec.ofChange superblockBytesSpec)

/-- ITS FALSE NEIGHBOUR: 'it returns false'. Refute it at one input. -/
def superblockBytesWrong : ChangeSpec := { name := "superblockBytes", fn := fun _ => fun
  | [d1, d2] => { results := [.lit (.bool false)], args := [d1, d2] }
  | _ => none }
def SuperblockBytesWrongFalsely : Prop := superblockBytesRow.holds Try.pinned (OpenSpec.ofChange superblockBytesWrong)

/-- 'exchequerlaw06.SuperblockKnown': WHATEVER THE INPUT: true; the input reads as it did. -/
def superblockKnownSpec : ChangeSpec := { name := "superblockKnown", fn := fun _ => fun
  | [] => { results := [.lit (.bool true)], args := [] }
  | _ => none }
def superblockKnownRow : OpenClaim := { program := "ytmhfehhpfkjloaa", sum := "24b698a37e4f5b46c47d0c17ca16831b8f081420f363aa8101b9336edfe6b0b5", func := "exchequer/exchequerlaw06.SuperblockKnown", spec := "superblockKnown", unfollowed := true, recurses := true, plainKeys := false, apart := false }
def SuperblockKnownSaid : Prop := superblockKnownRow.holds Try.pinned (OpenSpec.ofChange superblockKnownSpec)

/-- ITS FALSE NEIGHBOUR: 'it returns false'. Refute it at one input. -/
def superblockKnownWrong : ChangeSpec := { name := "superblockKnown", fn := fun _ => fun
  | [] => { results := [.lit (.bool false)], args := [] }
  | _ => none }
def SuperblockKnownWrongFalsely : Prop := superblockKnownRow.holds Try.pinned (OpenSpec.ofChange superblockKnownWrong)

/-- 'exchequerlaw06.SuperblockBack': WHATEVER THE INPUT: true; the input reads as it did. -/
def superblockBackSpec : ChangeSpec := { name := "superblockBack", fn := fun _ => fun
  | [d1, d2] => { results := [.lit (.bool true)], args := [d1, d2] }
  | _ => none }
def superblockBackRow : OpenClaim := { program := "ytmhfehhpfkjloaa", sum := "24b698a37e4f5b46c47d0c17ca16831b8f081420f363aa8101b9336edfe6b0b5", func := "exchequer/exchequerlaw06.SuperblockBack", spec := "superblockBack", unfollowed := true, recurses := true, plainKeys := false, apart := false }
def SuperblockBackSaid : Prop := superblockBackRow.holds Try.pinned (OpenSpec.ofChange superblockBackSpec)

/-- ITS FALSE NEIGHBOUR: 'it returns false'. Refute it at one input. -/
def superblockBackWrong : ChangeSpec := { name := "superblockBack", fn := fun _ => fun
  | [d1, d2] => { results := [.lit (.bool false)], args := [d1, d2] }
  | _ => none }
def SuperblockBackWrongFalsely : Prop := superblockBackRow.holds Try.pinned (OpenSpec.ofChange superblockBackWrong)

/-- 'exchequerlaw06.SuperblockTurned': WHATEVER THE INPUT: true; the input reads as it did. -/
def superblockTurnedSpec : ChangeSpec := { name := "superblockTurned", fn := fun _ => fun
  | [d1, d2, d3, d4] => { results := [.lit (.bool true)], args := [d1, d2, d3, d4] }
  | _ => none }
def superblockTurnedRow : OpenClaim := { program := "ytmhfehhpfkjloaa", sum := "24b698a37e4f5b46c47d0c17ca16831b8f081420f363aa8101b9336edfe6b0b5", func := "exchequer/exchequerlaw06.SuperblockTurned", spec := "superblockTurned", unfollowed := true, recurses := true, plainKeys := false, apart := false }
def SuperblockTurnedSaid : Prop := superblockTurnedRow.holds Try.pinned (OpenSpec.ofChange superblockTurnedSpec)

/-- ITS FALSE NEIGHBOUR: 'it returns false'. Refute it at one input. -/
def superblockTurnedWrong : ChangeSpec := { name := "superblockTurned", fn := fun _ => fun
  | [d1, d2, d3, d4] => { results := [.lit (.bool false)], args := [d1, d2, d3, d4] }
  | _ => none }
def SuperblockTurnedWrongFalsely : Prop := superblockTurnedRow.holds Try.pinned (OpenSpec.ofChange superblockTurnedWrong)

/-- 'exchequerlaw05.DiskKnown': WHATEVER THE INPUT: true; the input reads as it did. -/
def diskKnownSpec : ChangeSpec := { name := "diskKnown", fn := fun _ => fun
  | [] => { results := [.lit (.bool true)], args := [] }
  | _ => none }
def diskKnownRow : OpenClaim := { program := "ytmhfehhpfkjloaa", sum := "24b698a37e4f5b46c47d0c17ca16831b8f081420f363aa8101b9336edfe6b0b5", func := "exchequer/exchequerlaw05.DiskKnown", spec := "diskKnown", unfollowed := true, recurses := true, plainKeys := false, apart := false }
def DiskKnownSaid : Prop := diskKnownRow.holds Try.pinned (OpenSpec.ofChange diskKnownSpec)

/-- ITS FALSE NEIGHBOUR: 'it returns false'. Refute it at one input. -/
def diskKnownWrong : ChangeSpec := { name := "diskKnown", fn := fun _ => fun
  | [] => { results := [.lit (.bool false)], args := [] }
  | _ => none }
def DiskKnownWrongFalsely : Prop := diskKnownRow.holds Try.pinned (OpenSpec.ofChange diskKnownWrong)

/-- 'exchequerlaw05.DiskKeeps': WHATEVER THE INPUT: true; the input reads as it did. -/
def diskKeepsSpec : ChangeSpec := { name := "diskKeeps", fn := fun _ => fun
  | [d1, d2, d3, d4, d5] => { results := [.lit (.bool true)], args := [d1, d2, d3, d4, d5] }
  | _ => none }
def diskKeepsRow : OpenClaim := { program := "ytmhfehhpfkjloaa", sum := "24b698a37e4f5b46c47d0c17ca16831b8f081420f363aa8101b9336edfe6b0b5", func := "exchequer/exchequerlaw05.DiskKeeps", spec := "diskKeeps", unfollowed := true, recurses := true, plainKeys := false, apart := false }
def DiskKeepsSaid : Prop := diskKeepsRow.holds Try.pinned (OpenSpec.ofChange diskKeepsSpec)

/-- ITS FALSE NEIGHBOUR: 'it returns false'. Refute it at one input. -/
def diskKeepsWrong : ChangeSpec := { name := "diskKeeps", fn := fun _ => fun
  | [d1, d2, d3, d4, d5] => { results := [.lit (.bool false)], args := [d1, d2, d3, d4, d5] }
  | _ => none }
def DiskKeepsWrongFalsely : Prop := diskKeepsRow.holds Try.pinned (OpenSpec.ofChange diskKeepsWrong)

/-- 'exchequerlaw05.DiskFuse': WHATEVER THE INPUT: true; the input reads as it did. -/
def diskFuseSpec : ChangeSpec := { name := "diskFuse", fn := fun _ => fun
  | [d1, d2, d3] => { results := [.lit (.bool true)], args := [d1, d2, d3] }
  | _ => none }
def diskFuseRow : OpenClaim := { program := "ytmhfehhpfkjloaa", sum := "24b698a37e4f5b46c47d0c17ca16831b8f081420f363aa8101b9336edfe6b0b5", func := "exchequer/exchequerlaw05.DiskFuse", spec := "diskFuse", unfollowed := true, recurses := true, plainKeys := false, apart := false }
def DiskFuseSaid : Prop := diskFuseRow.holds Try.pinned (OpenSpec.ofChange diskFuseSpec)

/-- ITS FALSE NEIGHBOUR: 'it returns false'. Refute it at one input. -/
def diskFuseWrong : ChangeSpec := { name := "diskFuse", fn := fun _ => fun
  | [d1, d2, d3] => { results := [.lit (.bool false)], args := [d1, d2, d3] }
  | _ => none }
def DiskFuseWrongFalsely : Prop := diskFuseRow.holds Try.pinned (OpenSpec.ofChange diskFuseWrong)

/-- 'exchequerlaw05.DiskScript': WHATEVER THE INPUT: true; the input reads as it did. -/
def diskScriptSpec : ChangeSpec := { name := "diskScript", fn := fun _ => fun
  | [d1, d2] => { results := [.lit (.bool true)], args := [d1, d2] }
  | _ => none }
def diskScriptRow : OpenClaim := { program := "ytmhfehhpfkjloaa", sum := "24b698a37e4f5b46c47d0c17ca16831b8f081420f363aa8101b9336edfe6b0b5", func := "exchequer/exchequerlaw05.DiskScript", spec := "diskScript", inPlace := ["maps.clone"], unfollowed := true, recurses := true, plainKeys := false, apart := false }
def DiskScriptSaid : Prop := diskScriptRow.holds Try.pinned (OpenSpec.ofChange diskScriptSpec)

/-- ITS FALSE NEIGHBOUR: 'it returns false'. Refute it at one input. -/
def diskScriptWrong : ChangeSpec := { name := "diskScript", fn := fun _ => fun
  | [d1, d2] => { results := [.lit (.bool false)], args := [d1, d2] }
  | _ => none }
def DiskScriptWrongFalsely : Prop := diskScriptRow.holds Try.pinned (OpenSpec.ofChange diskScriptWrong)

/-- 'exchequerlaw05.DiskNone': WHATEVER THE INPUT: true; the input reads as it did. -/
def diskNoneSpec : ChangeSpec := { name := "diskNone", fn := fun _ => fun
  | [d1, d2] => { results := [.lit (.bool true)], args := [d1, d2] }
  | _ => none }
def diskNoneRow : OpenClaim := { program := "ytmhfehhpfkjloaa", sum := "24b698a37e4f5b46c47d0c17ca16831b8f081420f363aa8101b9336edfe6b0b5", func := "exchequer/exchequerlaw05.DiskNone", spec := "diskNone", inPlace := ["maps.clone"], unfollowed := true, recurses := true, plainKeys := false, apart := false }
def DiskNoneSaid : Prop := diskNoneRow.holds Try.pinned (OpenSpec.ofChange diskNoneSpec)

/-- ITS FALSE NEIGHBOUR: 'it returns false'. Refute it at one input. -/
def diskNoneWrong : ChangeSpec := { name := "diskNone", fn := fun _ => fun
  | [d1, d2] => { results := [.lit (.bool false)], args := [d1, d2] }
  | _ => none }
def DiskNoneWrongFalsely : Prop := diskNoneRow.holds Try.pinned (OpenSpec.ofChange diskNoneWrong)

/- THE SECOND FORM. 'bulk': how many values and letters a reading holds, each counted each time it is reached (what is shared counts as often as it is met; a slice's spare places count too). A statement '..UptoSaid' is the law's where the arguments, and the package variables that the reading takes, are together of bulk at most 1048576: NARROWER than '..Said'. Prove '..Said' where nothing that the law and all that it calls make is longer than what came in: it says more and counts as full. Else prove '..UptoSaid'. A law counts once. -/
mutual
def uptoBulk {H : Type} : DataW H → Nat
  | .lit (.string bytes) => bytes.length + 1
  | .lit _ => 1
  | .nil => 1
  | .ptr d => uptoBulk d + 1
  | .slice elems spare => uptoBulkAll elems + uptoBulkAll spare + 1
  | .agg parts => uptoBulkAll parts + 1
  | .iface _ d => uptoBulk d + 1
  | .map entries => uptoBulkEntries entries + 1
  | .held _ => 1
def uptoBulkAll {H : Type} : List (DataW H) → Nat
  | [] => 0
  | d :: r => uptoBulk d + uptoBulkAll r
def uptoBulkEntries {H : Type} : List (Lit × DataW H) → Nat
  | [] => 0
  | x :: r => uptoBulkEntry x + uptoBulkEntries r
def uptoBulkEntry {H : Type} : Lit × DataW H → Nat
  | (.string bytes, d) => bytes.length + uptoBulk d + 1
  | (_, d) => uptoBulk d + 1
 end
def uptoSmall : (H : Type) → List (DataW H) → Bool := fun _ ds => decide (uptoBulkAll ds ≤ 1048576)
def OpenSpec.upto (s : _root_.Go.ChangeSpec) : _root_.Go.OpenSpec := { _root_.Go.OpenSpec.ofChange s with cond := some uptoSmall }

/-- 'exchequerlaw06.SuperblockNone', WHERE WHAT IT READS IS OF BULK AT MOST 1048576: true; the input reads as it did. -/
def superblockNoneUptoRow : OpenClaim := { program := "ytmhfehhpfkjloaa", sum := "24b698a37e4f5b46c47d0c17ca16831b8f081420f363aa8101b9336edfe6b0b5", func := "exchequer/exchequerlaw06.SuperblockNone", spec := "superblockNone", unfollowed := true, recurses := true, plainKeys := false, apart := false, narrowed := true }
def SuperblockNoneUptoSaid : Prop := superblockNoneUptoRow.holds Try.pinned (OpenSpec.upto superblockNoneSpec)

/-- 'exchequerlaw06.SuperblockBytes', WHERE WHAT IT READS IS OF BULK AT MOST 1048576: true; the input reads as it did. -/
def superblockBytesUptoRow : OpenClaim := { program := "ytmhfehhpfkjloaa", sum := "24b698a37e4f5b46c47d0c17ca16831b8f081420f363aa8101b9336edfe6b0b5", func := "exchequer/exchequerlaw06.SuperblockBytes", spec := "superblockBytes", unfollowed := true, recurses := true, plainKeys := false, apart := false, narrowed := true }
def SuperblockBytesUptoSaid : Prop := superblockBytesUptoRow.holds Try.pinned (OpenSpec.upto superblockBytesSpec)

/-- 'exchequerlaw06.SuperblockKnown', WHERE WHAT IT READS IS OF BULK AT MOST 1048576: true; the input reads as it did. -/
def superblockKnownUptoRow : OpenClaim := { program := "ytmhfehhpfkjloaa", sum := "24b698a37e4f5b46c47d0c17ca16831b8f081420f363aa8101b9336edfe6b0b5", func := "exchequer/exchequerlaw06.SuperblockKnown", spec := "superblockKnown", unfollowed := true, recurses := true, plainKeys := false, apart := false, narrowed := true }
def SuperblockKnownUptoSaid : Prop := superblockKnownUptoRow.holds Try.pinned (OpenSpec.upto superblockKnownSpec)

/-- 'exchequerlaw06.SuperblockBack', WHERE WHAT IT READS IS OF BULK AT MOST 1048576: true; the input reads as it did. -/
def superblockBackUptoRow : OpenClaim := { program := "ytmhfehhpfkjloaa", sum := "24b698a37e4f5b46c47d0c17ca16831b8f081420f363aa8101b9336edfe6b0b5", func := "exchequer/exchequerlaw06.SuperblockBack", spec := "superblockBack", unfollowed := true, recurses := true, plainKeys := false, apart := false, narrowed := true }
def SuperblockBackUptoSaid : Prop := superblockBackUptoRow.holds Try.pinned (OpenSpec.upto superblockBackSpec)

/-- 'exchequerlaw06.SuperblockTurned', WHERE WHAT IT READS IS OF BULK AT MOST 1048576: true; the input reads as it did. -/
def superblockTurnedUptoRow : OpenClaim := { program := "ytmhfehhpfkjloaa", sum := "24b698a37e4f5b46c47d0c17ca16831b8f081420f363aa8101b9336edfe6b0b5", func := "exchequer/exchequerlaw06.SuperblockTurned", spec := "superblockTurned", unfollowed := true, recurses := true, plainKeys := false, apart := false, narrowed := true }
def SuperblockTurnedUptoSaid : Prop := superblockTurnedUptoRow.holds Try.pinned (OpenSpec.upto superblockTurnedSpec)

/-- 'exchequerlaw05.DiskKnown', WHERE WHAT IT READS IS OF BULK AT MOST 1048576: true; the input reads as it did. -/
def diskKnownUptoRow : OpenClaim := { program := "ytmhfehhpfkjloaa", sum := "24b698a37e4f5b46c47d0c17ca16831b8f081420f363aa8101b9336edfe6b0b5", func := "exchequer/exchequerlaw05.DiskKnown", spec := "diskKnown", unfollowed := true, recurses := true, plainKeys := false, apart := false, narrowed := true }
def DiskKnownUptoSaid : Prop := diskKnownUptoRow.holds Try.pinned (OpenSpec.upto diskKnownSpec)

/-- 'exchequerlaw05.DiskKeeps', WHERE WHAT IT READS IS OF BULK AT MOST 1048576: true; the input reads as it did. -/
def diskKeepsUptoRow : OpenClaim := { program := "ytmhfehhpfkjloaa", sum := "24b698a37e4f5b46c47d0c17ca16831b8f081420f363aa8101b9336edfe6b0b5", func := "exchequer/exchequerlaw05.DiskKeeps", spec := "diskKeeps", unfollowed := true, recurses := true, plainKeys := false, apart := false, narrowed := true }
def DiskKeepsUptoSaid : Prop := diskKeepsUptoRow.holds Try.pinned (OpenSpec.upto diskKeepsSpec)

/-- 'exchequerlaw05.DiskFuse', WHERE WHAT IT READS IS OF BULK AT MOST 1048576: true; the input reads as it did. -/
def diskFuseUptoRow : OpenClaim := { program := "ytmhfehhpfkjloaa", sum := "24b698a37e4f5b46c47d0c17ca16831b8f081420f363aa8101b9336edfe6b0b5", func := "exchequer/exchequerlaw05.DiskFuse", spec := "diskFuse", unfollowed := true, recurses := true, plainKeys := false, apart := false, narrowed := true }
def DiskFuseUptoSaid : Prop := diskFuseUptoRow.holds Try.pinned (OpenSpec.upto diskFuseSpec)

/-- 'exchequerlaw05.DiskScript', WHERE WHAT IT READS IS OF BULK AT MOST 1048576: true; the input reads as it did. -/
def diskScriptUptoRow : OpenClaim := { program := "ytmhfehhpfkjloaa", sum := "24b698a37e4f5b46c47d0c17ca16831b8f081420f363aa8101b9336edfe6b0b5", func := "exchequer/exchequerlaw05.DiskScript", spec := "diskScript", inPlace := ["maps.clone"], unfollowed := true, recurses := true, plainKeys := false, apart := false, narrowed := true }
def DiskScriptUptoSaid : Prop := diskScriptUptoRow.holds Try.pinned (OpenSpec.upto diskScriptSpec)

/-- 'exchequerlaw05.DiskNone', WHERE WHAT IT READS IS OF BULK AT MOST 1048576: true; the input reads as it did. -/
def diskNoneUptoRow : OpenClaim := { program := "ytmhfehhpfkjloaa", sum := "24b698a37e4f5b46c47d0c17ca16831b8f081420f363aa8101b9336edfe6b0b5", func := "exchequer/exchequerlaw05.DiskNone", spec := "diskNone", inPlace := ["maps.clone"], unfollowed := true, recurses := true, plainKeys := false, apart := false, narrowed := true }
def DiskNoneUptoSaid : Prop := diskNoneUptoRow.holds Try.pinned (OpenSpec.upto diskNoneSpec)

end Rows
end Go.Proofs.Ytmhfehhpfkjloaa
