/- The document's answer for a block's bytes, as a call. Conditions: the block may be, its lists can be read. -/
import Derived.Test.YtfpcldnefpmgcaaGridR
import Derived.Test.YtfpcldnefpmgcaaZero
namespace Go
open Go.RowKit
theorem grown_alloc {w w' : World} {o : Obj} {row : Option Nat} (h : (w.alloc o).grownBy w' row) : w.grownBy w' row := by
  have h0 := World.grownBy_alloc w o row
  exact ⟨h.1.trans h0.1, h.2.trans h0.2, h.3.trans h0.3, Nat.le_trans h0.4 h.4, fun k hk hr => (h.5 k (Nat.lt_of_lt_of_le hk h0.4) hr).trans (h0.5 k hk hr)⟩
end Go
namespace Go.Proofs.Ytfpcldnefpmgcaa
open Go.RowKit
theorem le4_cells (n : Nat) (hn : n < 4294967296) : #[Value.int IntKind.u8 ((n : Int) % 256), Value.int IntKind.u8 ((n : Int) / 256 % 256), Value.int IntKind.u8 ((n : Int) / 65536 % 256), Value.int IntKind.u8 ((n : Int) / 16777216)] = ((le4 n).map u8v).toArray := by
  rw [le4_v0, le4_v1, le4_v2, le4_v3 n hn]; rfl
set_option maxHeartbeats 400000 in
theorem rput_any (base : Nat) (v : Value) (l sp : List UInt8) (n : Nat) (hn : n < 4294967296) (hl : l.length ≤ 100000) (w : World) (hbase : base ≤ w.heap.size) (ho : OwnB 5 w base v l sp) :
    Calls Try.prog 56 #[v, .int .i64 (n : Int)] w fun e w' => ∃ v' sp', e = .returned v' ∧ OwnB 5 w' base v' (l ++ le4 n) sp' ∧ w.grownBy w' v.ownBlock ∧ (v'.ownBlock = v.ownBlock ∨ ∃ k, v'.ownBlock = some k ∧ w.heap.size ≤ k) := by
  go_enter Try.func56, Try.ntmps56
  go_wp2_with (first
    | (show wpList _ _ _ ((⟨some 18, _, _, _, _, _⟩ : Oper) :: _) _ _; rw [le4_cells n hn];
        refine wpList_append_bytes (o := ⟨some 18, _, _, _, _, _⟩) (by rfl) _ _ _ (by rfl) base _ Try.underlying22 u8info v l sp (by rfl) (ho.alloc _) (some ⟨w.heap.size, 0, none⟩) 4 (le4 n) (by rfl) (bytes_lit w _ (le4 n)) (by rw [le4_length]; omega) (by simp; omega) ?_; intro v1 w1 sp1 ho1 hg1 hw1 _)
    | fail)
  go_ret
  exact ⟨_, _, rfl, ho1, grown_alloc hg1, hw1.imp id fun h => ⟨_, h, by simp⟩⟩
end Go.Proofs.Ytfpcldnefpmgcaa
