/- A variable of 1,024 bytes: its noughts. No condition. -/
import Derived.Test.YtfpcldnefpmgcaaGridA
namespace Go.Proofs.Ytfpcldnefpmgcaa
open Go.RowKit
def zero1024 : Array Value := arr 1024 fun _ => .int .u8 0
theorem size1024 : (Try.prog.info? 72).map (·.size) = some 1024 := by kernel_rfl
theorem alloc1024 (w : World) : (zeroValue 72).run Try.prog w = .ok (.agg zero1024) w := by
  have h : (Try.prog.info? 72).map (fun i => (i.zero, i.size)) = some (some (.agg zero1024), 1024) := by kernel_rfl
  exact (zero_of_info h).1 w
theorem idx5 (x0 x1 x2 x3 x4 : Value) (w : World) : (Instr.index 78 (.agg #[x0, x1, x2, x3, x4]) (.int .i64 0)).run Try.prog w = .ok x0 w ∧ (Instr.index 78 (.agg #[x0, x1, x2, x3, x4]) (.int .i64 1)).run Try.prog w = .ok x1 w ∧ (Instr.index 78 (.agg #[x0, x1, x2, x3, x4]) (.int .i64 2)).run Try.prog w = .ok x2 w ∧ (Instr.index 78 (.agg #[x0, x1, x2, x3, x4]) (.int .i64 3)).run Try.prog w = .ok x3 w ∧ (Instr.index 78 (.agg #[x0, x1, x2, x3, x4]) (.int .i64 4)).run Try.prog w = .ok x4 w :=
  ⟨by kernel_rfl, by kernel_rfl, by kernel_rfl, by kernel_rfl, by kernel_rfl⟩
end Go.Proofs.Ytfpcldnefpmgcaa
