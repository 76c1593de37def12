/- Bytes in memory: two plain facts. No condition. -/
import Derived.Test.YtkjcidbhepminaaDoorRows
import Derived.Test.YtkjcidbhepminaaDoorOwn
namespace Go.Proofs.YtkjcidbhepminaaDoor
open Go.RowKit
theorem u8info : (Tryd.prog.info? 5).map (fun i => (i.zero, i.size, i.bytes)) = some (some (.int .u8 0), 1, 1) := by kernel_rfl
theorem u8_all (l : List UInt8) : (l.map u8v).toArray.all (·.oneCell') = true := by
  rw [List.all_toArray]
  simp [u8v, Value.oneCell']
end Go.Proofs.YtkjcidbhepminaaDoor
