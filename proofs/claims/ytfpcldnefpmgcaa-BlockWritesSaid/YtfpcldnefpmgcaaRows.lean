/-
  No cell of these rows narrows 'for every input' (looked for: loops, veiled, ifaces, maps, wideKeys, modest, calm, conditions, laid).
  DERIVED. THE GIVEN ROWS OF THIS SEAT. 10 by the template 'for every input the law returns true; each argument reads behind the call as it read before'; 0 by the template 'total and deterministic' (their statements: YtfpcldnefpmgcaaTotals.lean).
  GIVEN WITH THE SEED: the statements are not yours to turn. If you find one false, say at which input.
  Laid BY PROGRAM, IN A SANDBOX (cutbox-rows.mjs): the forced cells as the released guide's own fill.sh prints them over the translation 56fa151b36175cbe… (all of the seat's roots in one cut). By AI agents, Wed Nov 11 2026. No macro, syntax, notation, axiom, sorry.
-/
import Derived.Test.YtfpcldnefpmgcaaChecked
import GoSem.Claim
import GoSem.ClaimJoined
import GoSem.ClaimMapViews
import Derived.JoinedTies
import Derived.KernelRfl
namespace Go.Proofs.Ytfpcldnefpmgcaa
/- THE CELL 'sum', in the pinned program and in every row, IS THE sha256 OF THE DUMP (.gsa) THAT YtfpcldnefpmgcaaProg.lean LOADS. Nothing in Lean hashes anything: it is a label: what it is worth is what the hold of that sum in a sandbox is worth. -/
noncomputable def Try.pinned : Pinned := { name := "ytfpcldnefpmgcaa", sum := "56fa151b36175cbe72ec01bb976e1a06aff23cbcc5621f57271170ae0253b5f0", checked := Try.checked }
namespace Rows
def none {H : Type} : Left H := { results := [], args := [] }

/-- 'exchequerlaw03.ChecksumSums': WHATEVER THE INPUT: true; the input reads as it did. -/
def checksumSumsSpec : ChangeSpec := { name := "checksumSums", fn := fun _ => fun
  | [d1, d2] => { results := [.lit (.bool true)], args := [d1, d2] }
  | _ => none }
def checksumSumsRow : OpenClaim := { program := "ytfpcldnefpmgcaa", sum := "56fa151b36175cbe72ec01bb976e1a06aff23cbcc5621f57271170ae0253b5f0", func := "exchequer/exchequerlaw03.ChecksumSums", spec := "checksumSums", apart := false }
def ChecksumSumsSaid : Prop := checksumSumsRow.holds Try.pinned (OpenSpec.ofChange checksumSumsSpec)

/-- ITS FALSE NEIGHBOUR: 'it returns false'. Refute it at one input. -/
def checksumSumsWrong : ChangeSpec := { name := "checksumSums", fn := fun _ => fun
  | [d1, d2] => { results := [.lit (.bool false)], args := [d1, d2] }
  | _ => none }
def ChecksumSumsWrongFalsely : Prop := checksumSumsRow.holds Try.pinned (OpenSpec.ofChange checksumSumsWrong)

/-- 'exchequerlaw03.ChecksumOpens': WHATEVER THE INPUT: true; the input reads as it did. -/
def checksumOpensSpec : ChangeSpec := { name := "checksumOpens", fn := fun _ => fun
  | [d] => { results := [.lit (.bool true)], args := [d] }
  | _ => none }
def checksumOpensRow : OpenClaim := { program := "ytfpcldnefpmgcaa", sum := "56fa151b36175cbe72ec01bb976e1a06aff23cbcc5621f57271170ae0253b5f0", func := "exchequer/exchequerlaw03.ChecksumOpens", spec := "checksumOpens", apart := false }
def ChecksumOpensSaid : Prop := checksumOpensRow.holds Try.pinned (OpenSpec.ofChange checksumOpensSpec)

/-- ITS FALSE NEIGHBOUR: 'it returns false'. Refute it at one input. -/
def checksumOpensWrong : ChangeSpec := { name := "checksumOpens", fn := fun _ => fun
  | [d] => { results := [.lit (.bool false)], args := [d] }
  | _ => none }
def ChecksumOpensWrongFalsely : Prop := checksumOpensRow.holds Try.pinned (OpenSpec.ofChange checksumOpensWrong)

/-- 'exchequerlaw03.ChecksumKnown': WHATEVER THE INPUT: true; the input reads as it did. -/
def checksumKnownSpec : ChangeSpec := { name := "checksumKnown", fn := fun _ => fun
  | [] => { results := [.lit (.bool true)], args := [] }
  | _ => none }
def checksumKnownRow : OpenClaim := { program := "ytfpcldnefpmgcaa", sum := "56fa151b36175cbe72ec01bb976e1a06aff23cbcc5621f57271170ae0253b5f0", func := "exchequer/exchequerlaw03.ChecksumKnown", spec := "checksumKnown", apart := false }
def ChecksumKnownSaid : Prop := checksumKnownRow.holds Try.pinned (OpenSpec.ofChange checksumKnownSpec)

/-- ITS FALSE NEIGHBOUR: 'it returns false'. Refute it at one input. -/
def checksumKnownWrong : ChangeSpec := { name := "checksumKnown", fn := fun _ => fun
  | [] => { results := [.lit (.bool false)], args := [] }
  | _ => none }
def ChecksumKnownWrongFalsely : Prop := checksumKnownRow.holds Try.pinned (OpenSpec.ofChange checksumKnownWrong)

/-- 'exchequerlaw03.ChecksumBack': WHATEVER THE INPUT: true; the input reads as it did. -/
def checksumBackSpec : ChangeSpec := { name := "checksumBack", fn := fun _ => fun
  | [d1, d2] => { results := [.lit (.bool true)], args := [d1, d2] }
  | _ => none }
def checksumBackRow : OpenClaim := { program := "ytfpcldnefpmgcaa", sum := "56fa151b36175cbe72ec01bb976e1a06aff23cbcc5621f57271170ae0253b5f0", func := "exchequer/exchequerlaw03.ChecksumBack", spec := "checksumBack", apart := false }
def ChecksumBackSaid : Prop := checksumBackRow.holds Try.pinned (OpenSpec.ofChange checksumBackSpec)

/-- ITS FALSE NEIGHBOUR: 'it returns false'. Refute it at one input. -/
def checksumBackWrong : ChangeSpec := { name := "checksumBack", fn := fun _ => fun
  | [d1, d2] => { results := [.lit (.bool false)], args := [d1, d2] }
  | _ => none }
def ChecksumBackWrongFalsely : Prop := checksumBackRow.holds Try.pinned (OpenSpec.ofChange checksumBackWrong)

/-- 'exchequerlaw03.ChecksumTurned': WHATEVER THE INPUT: true; the input reads as it did. -/
def checksumTurnedSpec : ChangeSpec := { name := "checksumTurned", fn := fun _ => fun
  | [d1, d2] => { results := [.lit (.bool true)], args := [d1, d2] }
  | _ => none }
def checksumTurnedRow : OpenClaim := { program := "ytfpcldnefpmgcaa", sum := "56fa151b36175cbe72ec01bb976e1a06aff23cbcc5621f57271170ae0253b5f0", func := "exchequer/exchequerlaw03.ChecksumTurned", spec := "checksumTurned", apart := false }
def ChecksumTurnedSaid : Prop := checksumTurnedRow.holds Try.pinned (OpenSpec.ofChange checksumTurnedSpec)

/-- ITS FALSE NEIGHBOUR: 'it returns false'. Refute it at one input. -/
def checksumTurnedWrong : ChangeSpec := { name := "checksumTurned", fn := fun _ => fun
  | [d1, d2] => { results := [.lit (.bool false)], args := [d1, d2] }
  | _ => none }
def ChecksumTurnedWrongFalsely : Prop := checksumTurnedRow.holds Try.pinned (OpenSpec.ofChange checksumTurnedWrong)

/-- 'exchequerlaw10.BlockWrites': WHATEVER THE INPUT: true; the input reads as it did. -/
def blockWritesSpec : ChangeSpec := { name := "blockWrites", fn := fun _ => fun
  | [d] => { results := [.lit (.bool true)], args := [d] }
  | _ => none }
def blockWritesRow : OpenClaim := { program := "ytfpcldnefpmgcaa", sum := "56fa151b36175cbe72ec01bb976e1a06aff23cbcc5621f57271170ae0253b5f0", func := "exchequer/exchequerlaw10.BlockWrites", spec := "blockWrites", apart := false }
def BlockWritesSaid : Prop := blockWritesRow.holds Try.pinned (OpenSpec.ofChange blockWritesSpec)

/-- ITS FALSE NEIGHBOUR: 'it returns false'. Refute it at one input. -/
def blockWritesWrong : ChangeSpec := { name := "blockWrites", fn := fun _ => fun
  | [d] => { results := [.lit (.bool false)], args := [d] }
  | _ => none }
def BlockWritesWrongFalsely : Prop := blockWritesRow.holds Try.pinned (OpenSpec.ofChange blockWritesWrong)

/-- 'exchequerlaw10.BlockReads': WHATEVER THE INPUT: true; the input reads as it did. -/
def blockReadsSpec : ChangeSpec := { name := "blockReads", fn := fun _ => fun
  | [d] => { results := [.lit (.bool true)], args := [d] }
  | _ => none }
def blockReadsRow : OpenClaim := { program := "ytfpcldnefpmgcaa", sum := "56fa151b36175cbe72ec01bb976e1a06aff23cbcc5621f57271170ae0253b5f0", func := "exchequer/exchequerlaw10.BlockReads", spec := "blockReads", apart := false }
def BlockReadsSaid : Prop := blockReadsRow.holds Try.pinned (OpenSpec.ofChange blockReadsSpec)

/-- ITS FALSE NEIGHBOUR: 'it returns false'. Refute it at one input. -/
def blockReadsWrong : ChangeSpec := { name := "blockReads", fn := fun _ => fun
  | [d] => { results := [.lit (.bool false)], args := [d] }
  | _ => none }
def BlockReadsWrongFalsely : Prop := blockReadsRow.holds Try.pinned (OpenSpec.ofChange blockReadsWrong)

/-- 'exchequerlaw10.BlockKnown': WHATEVER THE INPUT: true; the input reads as it did. -/
def blockKnownSpec : ChangeSpec := { name := "blockKnown", fn := fun _ => fun
  | [] => { results := [.lit (.bool true)], args := [] }
  | _ => none }
def blockKnownRow : OpenClaim := { program := "ytfpcldnefpmgcaa", sum := "56fa151b36175cbe72ec01bb976e1a06aff23cbcc5621f57271170ae0253b5f0", func := "exchequer/exchequerlaw10.BlockKnown", spec := "blockKnown", apart := false }
def BlockKnownSaid : Prop := blockKnownRow.holds Try.pinned (OpenSpec.ofChange blockKnownSpec)

/-- ITS FALSE NEIGHBOUR: 'it returns false'. Refute it at one input. -/
def blockKnownWrong : ChangeSpec := { name := "blockKnown", fn := fun _ => fun
  | [] => { results := [.lit (.bool false)], args := [] }
  | _ => none }
def BlockKnownWrongFalsely : Prop := blockKnownRow.holds Try.pinned (OpenSpec.ofChange blockKnownWrong)

/-- 'exchequerlaw10.BlockBack': WHATEVER THE INPUT: true; the input reads as it did. -/
def blockBackSpec : ChangeSpec := { name := "blockBack", fn := fun _ => fun
  | [d1, d2] => { results := [.lit (.bool true)], args := [d1, d2] }
  | _ => none }
def blockBackRow : OpenClaim := { program := "ytfpcldnefpmgcaa", sum := "56fa151b36175cbe72ec01bb976e1a06aff23cbcc5621f57271170ae0253b5f0", func := "exchequer/exchequerlaw10.BlockBack", spec := "blockBack", apart := false }
def BlockBackSaid : Prop := blockBackRow.holds Try.pinned (OpenSpec.ofChange blockBackSpec)

/-- ITS FALSE NEIGHBOUR: 'it returns false'. Refute it at one input. -/
def blockBackWrong : ChangeSpec := { name := "blockBack", fn := fun _ => fun
  | [d1, d2] => { results := [.lit (.bool false)], args := [d1, d2] }
  | _ => none }
def BlockBackWrongFalsely : Prop := blockBackRow.holds Try.pinned (OpenSpec.ofChange blockBackWrong)

/-- 'exchequerlaw10.BlockTurned': WHATEVER THE INPUT: true; the input reads as it did. -/
def blockTurnedSpec : ChangeSpec := { name := "blockTurned", fn := fun _ => fun
  | [d1, d2] => { results := [.lit (.bool true)], args := [d1, d2] }
  | _ => none }
def blockTurnedRow : OpenClaim := { program := "ytfpcldnefpmgcaa", sum := "56fa151b36175cbe72ec01bb976e1a06aff23cbcc5621f57271170ae0253b5f0", func := "exchequer/exchequerlaw10.BlockTurned", spec := "blockTurned", apart := false }
def BlockTurnedSaid : Prop := blockTurnedRow.holds Try.pinned (OpenSpec.ofChange blockTurnedSpec)

/-- ITS FALSE NEIGHBOUR: 'it returns false'. Refute it at one input. -/
def blockTurnedWrong : ChangeSpec := { name := "blockTurned", fn := fun _ => fun
  | [d1, d2] => { results := [.lit (.bool false)], args := [d1, d2] }
  | _ => none }
def BlockTurnedWrongFalsely : Prop := blockTurnedRow.holds Try.pinned (OpenSpec.ofChange blockTurnedWrong)

/- THE SECOND FORM. 'bulk': how many values and letters a reading holds, each counted each time it is reached (what is shared counts as often as it is met; a slice's spare places count too). A statement '..UptoSaid' is the law's where the arguments, and the package variables that the reading takes, are together of bulk at most 1048576: NARROWER than '..Said'. Prove '..Said' where nothing that the law and all that it calls make is longer than what came in: it says more and counts as full. Else prove '..UptoSaid'. A law counts once. -/
mutual
def uptoBulk {H : Type} : DataW H → Nat
  | .lit (.string bytes) => bytes.length + 1
  | .lit _ => 1
  | .nil => 1
  | .ptr d => uptoBulk d + 1
  | .slice elems spare => uptoBulkAll elems + uptoBulkAll spare + 1
  | .agg parts => uptoBulkAll parts + 1
  | .iface _ d => uptoBulk d + 1
  | .map entries => uptoBulkEntries entries + 1
  | .held _ => 1
def uptoBulkAll {H : Type} : List (DataW H) → Nat
  | [] => 0
  | d :: r => uptoBulk d + uptoBulkAll r
def uptoBulkEntries {H : Type} : List (Lit × DataW H) → Nat
  | [] => 0
  | x :: r => uptoBulkEntry x + uptoBulkEntries r
def uptoBulkEntry {H : Type} : Lit × DataW H → Nat
  | (.string bytes, d) => bytes.length + uptoBulk d + 1
  | (_, d) => uptoBulk d + 1
 end
def uptoSmall : (H : Type) → List (DataW H) → Bool := fun _ ds => decide (uptoBulkAll ds ≤ 1048576)
def OpenSpec.upto (s : _root_.Go.ChangeSpec) : _root_.Go.OpenSpec := { _root_.Go.OpenSpec.ofChange s with cond := some uptoSmall }

/-- 'exchequerlaw03.ChecksumSums', WHERE WHAT IT READS IS OF BULK AT MOST 1048576: true; the input reads as it did. -/
def checksumSumsUptoRow : OpenClaim := { program := "ytfpcldnefpmgcaa", sum := "56fa151b36175cbe72ec01bb976e1a06aff23cbcc5621f57271170ae0253b5f0", func := "exchequer/exchequerlaw03.ChecksumSums", spec := "checksumSums", apart := false, narrowed := true }
def ChecksumSumsUptoSaid : Prop := checksumSumsUptoRow.holds Try.pinned (OpenSpec.upto checksumSumsSpec)

/-- 'exchequerlaw03.ChecksumOpens', WHERE WHAT IT READS IS OF BULK AT MOST 1048576: true; the input reads as it did. -/
def checksumOpensUptoRow : OpenClaim := { program := "ytfpcldnefpmgcaa", sum := "56fa151b36175cbe72ec01bb976e1a06aff23cbcc5621f57271170ae0253b5f0", func := "exchequer/exchequerlaw03.ChecksumOpens", spec := "checksumOpens", apart := false, narrowed := true }
def ChecksumOpensUptoSaid : Prop := checksumOpensUptoRow.holds Try.pinned (OpenSpec.upto checksumOpensSpec)

/-- 'exchequerlaw03.ChecksumKnown', WHERE WHAT IT READS IS OF BULK AT MOST 1048576: true; the input reads as it did. -/
def checksumKnownUptoRow : OpenClaim := { program := "ytfpcldnefpmgcaa", sum := "56fa151b36175cbe72ec01bb976e1a06aff23cbcc5621f57271170ae0253b5f0", func := "exchequer/exchequerlaw03.ChecksumKnown", spec := "checksumKnown", apart := false, narrowed := true }
def ChecksumKnownUptoSaid : Prop := checksumKnownUptoRow.holds Try.pinned (OpenSpec.upto checksumKnownSpec)

/-- 'exchequerlaw03.ChecksumBack', WHERE WHAT IT READS IS OF BULK AT MOST 1048576: true; the input reads as it did. -/
def checksumBackUptoRow : OpenClaim := { program := "ytfpcldnefpmgcaa", sum := "56fa151b36175cbe72ec01bb976e1a06aff23cbcc5621f57271170ae0253b5f0", func := "exchequer/exchequerlaw03.ChecksumBack", spec := "checksumBack", apart := false, narrowed := true }
def ChecksumBackUptoSaid : Prop := checksumBackUptoRow.holds Try.pinned (OpenSpec.upto checksumBackSpec)

/-- 'exchequerlaw03.ChecksumTurned', WHERE WHAT IT READS IS OF BULK AT MOST 1048576: true; the input reads as it did. -/
def checksumTurnedUptoRow : OpenClaim := { program := "ytfpcldnefpmgcaa", sum := "56fa151b36175cbe72ec01bb976e1a06aff23cbcc5621f57271170ae0253b5f0", func := "exchequer/exchequerlaw03.ChecksumTurned", spec := "checksumTurned", apart := false, narrowed := true }
def ChecksumTurnedUptoSaid : Prop := checksumTurnedUptoRow.holds Try.pinned (OpenSpec.upto checksumTurnedSpec)

/-- 'exchequerlaw10.BlockWrites', WHERE WHAT IT READS IS OF BULK AT MOST 1048576: true; the input reads as it did. -/
def blockWritesUptoRow : OpenClaim := { program := "ytfpcldnefpmgcaa", sum := "56fa151b36175cbe72ec01bb976e1a06aff23cbcc5621f57271170ae0253b5f0", func := "exchequer/exchequerlaw10.BlockWrites", spec := "blockWrites", apart := false, narrowed := true }
def BlockWritesUptoSaid : Prop := blockWritesUptoRow.holds Try.pinned (OpenSpec.upto blockWritesSpec)

/-- 'exchequerlaw10.BlockReads', WHERE WHAT IT READS IS OF BULK AT MOST 1048576: true; the input reads as it did. -/
def blockReadsUptoRow : OpenClaim := { program := "ytfpcldnefpmgcaa", sum := "56fa151b36175cbe72ec01bb976e1a06aff23cbcc5621f57271170ae0253b5f0", func := "exchequer/exchequerlaw10.BlockReads", spec := "blockReads", apart := false, narrowed := true }
def BlockReadsUptoSaid : Prop := blockReadsUptoRow.holds Try.pinned (OpenSpec.upto blockReadsSpec)

/-- 'exchequerlaw10.BlockKnown', WHERE WHAT IT READS IS OF BULK AT MOST 1048576: true; the input reads as it did. -/
def blockKnownUptoRow : OpenClaim := { program := "ytfpcldnefpmgcaa", sum := "56fa151b36175cbe72ec01bb976e1a06aff23cbcc5621f57271170ae0253b5f0", func := "exchequer/exchequerlaw10.BlockKnown", spec := "blockKnown", apart := false, narrowed := true }
def BlockKnownUptoSaid : Prop := blockKnownUptoRow.holds Try.pinned (OpenSpec.upto blockKnownSpec)

/-- 'exchequerlaw10.BlockBack', WHERE WHAT IT READS IS OF BULK AT MOST 1048576: true; the input reads as it did. -/
def blockBackUptoRow : OpenClaim := { program := "ytfpcldnefpmgcaa", sum := "56fa151b36175cbe72ec01bb976e1a06aff23cbcc5621f57271170ae0253b5f0", func := "exchequer/exchequerlaw10.BlockBack", spec := "blockBack", apart := false, narrowed := true }
def BlockBackUptoSaid : Prop := blockBackUptoRow.holds Try.pinned (OpenSpec.upto blockBackSpec)

/-- 'exchequerlaw10.BlockTurned', WHERE WHAT IT READS IS OF BULK AT MOST 1048576: true; the input reads as it did. -/
def blockTurnedUptoRow : OpenClaim := { program := "ytfpcldnefpmgcaa", sum := "56fa151b36175cbe72ec01bb976e1a06aff23cbcc5621f57271170ae0253b5f0", func := "exchequer/exchequerlaw10.BlockTurned", spec := "blockTurned", apart := false, narrowed := true }
def BlockTurnedUptoSaid : Prop := blockTurnedUptoRow.holds Try.pinned (OpenSpec.upto blockTurnedSpec)

end Rows
end Go.Proofs.Ytfpcldnefpmgcaa
