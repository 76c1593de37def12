/- What every statement's row asks of the program's tables, and how arguments of bytes come in. Plain facts of this program. No condition. -/
import Derived.Test.YtkjcidbhepminaaDoorRows
import Derived.Test.YtkjcidbhepminaaDoorOpen
import Derived.Test.YtkjcidbhepminaaDoorShape
import Derived.ProofKit
namespace Go.Proofs.YtkjcidbhepminaaDoor
open Go.ChangeShapes Go.WideShapes Go.ChangeAt Go.RowKit
theorem Tryd.own : ownKnob Tryd.prog.godebug = none := by kernel_rfl
theorem Tryd.laidOut : laidOutB Tryd.prog = true := by kernel_rfl
theorem cells_u8 : Tryd.prog.cellsOf 5 = 1 := by kernel_rfl
end Go.Proofs.YtkjcidbhepminaaDoor
namespace Go
open Go.ChangeShapes Go.WideShapes Go.ChangeAt Go.RowKit
section
variable {P : Program} {W : World} {t : TypeId} {base : Nat} {v : Value}
theorem arg_slice {u : TypeId} {e : Sh} {l : List e.T} (ht : P.underlying t = some (.slice u)) (hval : Value.okWide P W .any base t v) (h : (Sh.slice e).Is W l v.cells.toList) :
    ∃ A c rows, v = .slice A l.length c ∧ l.length ≤ c ∧ c ≤ 9223372036854775807 ∧ Both (fun d r => r.length = e.size ∧ Sh.Is W e d r) l rows ∧ Reads W A rows.flatten := by
  obtain ⟨a, len, cap, rfl⟩ := okWide_slice ht hval
  obtain ⟨A, c, rows, h1, h2, h3, h4, h5⟩ := h
  exact ⟨A, c, rows, by simpa [Value.cells] using h1, h2, by simpa [maxLen] using h3, h4, h5⟩
theorem arg_bytes {u : TypeId} {l : List UInt8} (ht : P.underlying t = some (.slice u)) (hval : Value.okWide P W .any base t v) (h : (Sh.slice .byte).Is W l v.cells.toList) :
    ∃ A c, v = .slice A l.length c ∧ l.length ≤ c ∧ c ≤ 9223372036854775807 ∧ Bytes W A l := by
  obtain ⟨a, len, cap, rfl⟩ := okWide_slice ht hval
  obtain ⟨A, c, h1, h2⟩ := Sh.Is.bytes h
  exact ⟨A, c, by simpa [Value.cells] using h1, h2⟩
theorem arg_agg {s : Sh} {x : s.T} {d : TypeDesc} (ht : P.underlying t = some d) (hd : (match d with | .struct _ | .array _ _ => true | _ => false) = true) (hval : Value.okWide P W .any base t v) (h : s.Is W x v.cells.toList) :
    ∃ cs : List Value, v = .agg cs.toArray ∧ s.Is W x cs := by
  have hv : ∃ cs : Array Value, v = .agg cs := by
    unfold Value.okWide at hval
    rw [ht] at hval
    cases d <;> first | (simp at hd; done) | (obtain ⟨cs, h1, _⟩ := hval; exact ⟨cs, h1⟩)
  obtain ⟨cs, rfl⟩ := hv
  exact ⟨cs.toList, by simp, h⟩
theorem arg_int {k : IntKind} {x : Int} (ht : P.underlying t = some (.int k)) (hval : Value.okWide P W .any base t v) (h : (Sh.int k).Is W x v.cells.toList) : v = .int k x ∧ k.min ≤ x ∧ x ≤ k.max := by
  obtain ⟨n, rfl⟩ := okWide_int ht hval
  refine ⟨by simpa [Value.cells] using h.1, h.2⟩
theorem arg_bool {x : Bool} (ht : P.underlying t = some .bool) (hval : Value.okWide P W .any base t v) (h : Sh.bool.Is W x v.cells.toList) : v = .bool x := by
  obtain ⟨n, rfl⟩ := okWide_bool ht hval
  have h' : (Value.bool n).cells.toList = [.bool x] := h
  simpa [Value.cells] using h'
end
end Go
