/- The chapter's examples of blocks, as the law's helpers tell them. No condition. -/
import Derived.Test.YtfpcldnefpmgcaaGridS
import Derived.Test.YtfpcldnefpmgcaaGridK
namespace Go
open Go.RowKit
/-- The run-time's mark behind a constant's bytes, at a block whose number is spelt otherwise. -/
theorem const_bytes {P : Program} (w : World) (t e : TypeId) (C : Array Value) (n c g : Nat) (hg : g = w.heap.size) (ht : P.underlying t = some (.slice e)) (he : P.underlying e = some (.int .u8)) :
    (Sem.run P (convert t t (.slice (some ⟨g, 0, none⟩) n c)) (w.alloc (.cells C e))) = .ok (.slice (some ⟨g, 0, none⟩) n c) (w.alloc (.cells C e (C.size, C.size + 1))) := by
  rw [hg]; exact Lib.run_convert_bytes_const w t e C n c ht he
theorem heap_alloc_last' (w : World) (o : Obj) (n : Nat) (h : n = w.heap.size) : (w.alloc o).heap[n]? = some o := by subst h; exact heap_alloc_last w o
namespace Proofs.Ytfpcldnefpmgcaa
/-- What is told of the chapter's block. -/
def FivePost (w : World) (e : Ending) (w' : World) : Prop :=
  ∃ gA gB, e = .returned (.agg #[.int .i64 1, .int .i64 5, .int .i64 7, .slice (some ⟨gA, 0, none⟩) 1 1, .slice (some ⟨gB, 0, none⟩) 2 2]) ∧ Refs w' (some ⟨gA, 0, none⟩) [(2, 3, ())] ∧ Bytes w' (some ⟨gB, 0, none⟩) [97, 98] ∧
    w.heap.size ≤ gA ∧ w.heap.size ≤ gB ∧ Below w.heap.size w w'
set_option maxHeartbeats 400000 in
theorem five_any (w : World) : Calls Try.prog 39 #[] w (FivePost w) := by
  have hg0 := Blk.new w 45 zeroGB
  have hB0 : Below w.heap.size w (w.alloc (.cells zeroGB 45)) := (Below.refl _ _).alloc (Nat.le_refl _) _
  go_enter Try.func39, Try.ntmps39
  have kc := const_bytes (P := Try.prog) ((w.alloc (.cells #[.int .i64 0, .int .i64 0, .int .i64 0, .slice none 0 0, .slice none 0 0] 45)).alloc (.cells #[.int .i64 2, .int .i64 3] 42)) 22 5 #[.int .u8 97, .int .u8 98] 2 2 (w.heap.size + 1 + 1) (by simp) Try.underlying22 Try.underlying5
  go_wp2
  refine bodyPost_ret (results_cell_row (by rfl) _ _ w.heap.size _ _ _ _ (by rfl) (((Blk.new w _ _).alloc _).alloc _) Try.underlying45 (by rfl) sizeGB) rfl ⟨w.heap.size + 1, w.heap.size + 1 + 1, rfl, ?_, ?_, by omega, by omega, ?_⟩
  · intro _
    have hb := (Blk.new' ((w.alloc (.cells #[.int .i64 1, .int .i64 5, .int .i64 7, .slice (some ⟨w.heap.size + 1, 0, none⟩) 1 1, .slice (some ⟨w.heap.size + 1 + 1, 0, none⟩) 2 2] 45))) 42 #[.int .i64 2, .int .i64 3] (n := w.heap.size + 1) (by simp)).alloc (Obj.cells #[.int .u8 97, .int .u8 98] 5 (2, 3))
    refine ⟨w.heap.size + 1, 0, rfl, hb.lt, fun i hi => ?_⟩
    obtain rfl : i = 0 := by simp at hi; omega
    exact ⟨hb.at_ 0 rfl, hb.at_ 1 rfl⟩
  · refine fun _ => ⟨w.heap.size + 1 + 1, 0, rfl, fun j v hv => ?_⟩
    have hh := heap_alloc_last' ((w.alloc (.cells #[.int .i64 1, .int .i64 5, .int .i64 7, .slice (some ⟨w.heap.size + 1, 0, none⟩) 1 1, .slice (some ⟨w.heap.size + 1 + 1, 0, none⟩) 2 2] 45)).alloc (Obj.cells #[.int .i64 2, .int .i64 3] 42)) (Obj.cells #[.int .u8 97, .int .u8 98] 5 (2, 3)) (w.heap.size + 1 + 1) (by simp)
    rw [Nat.zero_add, cell_of_row _ _ _ _ _ _ hh]
    simpa [u8v, show iu8 97 = 97 from rfl, show iu8 98 = 98 from rfl] using hv
  · exact (((Below.refl _ _).alloc (Nat.le_refl _) _).alloc (by simp) _).alloc (by simp; omega) _
end Proofs.Ytfpcldnefpmgcaa
end Go
