/- A set that nobody made, as the statement asks: it answers true and writes nothing that was there. Condition: the table of Go's library lies as it was laid. -/
import Derived.Test.YtkjcidbhepminaaDoorWake09
namespace Go.Proofs.YtkjcidbhepminaaDoor
open Go.RowKit
theorem setCells_nil : setCells [] = #[.int .i64 0, .int .u64 0, .int .u64 0, .int .u64 0, .int .u64 0, .int .u64 0, .int .u64 0, .int .u64 0, .int .u64 0, .int .u64 0, .int .u64 0, .int .u64 0, .int .u64 0, .int .u64 0, .int .u64 0, .int .u64 0, .int .u64 0] := setCells_new 0
def NoneRel (w : World) (v : Value) (wr : World) : Prop :=
  ∃ k : Nat, k ≤ 2 ∧ v = .int .i64 (k : Int) ∧ Blk wr w.heap.size 26 (setCells []) ∧ Blk wr (w.heap.size + 1) 22 #[.pointer none, .pointer (some ⟨w.heap.size, 0, none⟩)] ∧ Tab wr ∧ Below w.heap.size w wr
set_option maxRecDepth 100000 in
set_option maxHeartbeats 2000000 in
theorem none_law (n : Int) (hb1 : -9223372036854775808 ≤ n) (hb2 : n ≤ 9223372036854775807) (w : World) (hT : Tab w) :
    Calls Tryd.prog 3 #[.int .i64 n] w fun e w' => e = .returned (.bool true) ∧ Below w.heap.size w w' := by
  go_enter Tryd.func3, Tryd.ntmps3
  go_wp2_with fail
  go_loopw [4] (fun v wr => NoneRel w v wr) (fun v _ => 2 - (intOf v).toNat)
  case atStart =>
    refine ⟨0, by omega, rfl, ?_, ?_, ?_, ?_⟩
    · rw [setCells_nil]; exact (Blk.new w _ _).alloc _
    · exact Blk.new' _ _ _ (by simp)
    · exact hT.below (((Below.refl _ _).alloc (Nat.le_refl _) _).alloc (by simp) _)
    · exact ((Below.refl _ _).alloc (Nat.le_refl _) _).alloc (by simp) _
  case round =>
    obtain ⟨k, hk, rfl, hs, hx, hT2, hB⟩ := hrel
    by_cases k0 : k = 0
    · subst k0
      have d0 : wr.cell? ⟨w.heap.size + 1, 0, none⟩ = some (.pointer none) := hx.at_ 0 rfl
      have H := Lib.hid (And.intro hs (And.intro hx (And.intro hT2 hB)))
      clear hs hx hT2 hB
      go_wp2_with (first
        | (go_at_call 9; with_reducible refine (acquire_nil _).mono ?_; rintro e w' ⟨rfl, rfl⟩)
        | (go_at_call 10; with_reducible refine (counts_nil _).mono ?_; rintro e w' ⟨rfl, rfl⟩)
        | (go_at_call 11; with_reducible refine (take_nil _ _).mono ?_; rintro e w' ⟨rfl, rfl⟩)
        | (go_at_call 12; with_reducible refine (release_nil _ _).mono ?_; rintro e w' ⟨rfl, rfl⟩)
        | (go_at_call 13; with_reducible refine (settle_nil _).mono ?_; rintro e w' ⟨rfl, rfl⟩)
        | (go_at_call 14; with_reducible refine (is_nil _ _).mono ?_; rintro e w' ⟨rfl, rfl⟩)
        | (go_at_call 15; with_reducible refine (bytes_nil _).mono ?_; rintro e w' ⟨rfl, rfl⟩)
        | (go_at_call 16; with_reducible refine (clone_nil _).mono ?_; rintro e w' ⟨rfl, rfl⟩)
        | fail)
      go_roundw
      case rel => exact ⟨1, by omega, rfl, H.out.1, H.out.2.1, H.out.2.2.1, H.out.2.2.2⟩
      case measure => simp [intOf]
    · by_cases k1 : k = 1
      · subst k1
        have d0 : wr.cell? ⟨w.heap.size + 1, 1, none⟩ = some (.pointer (some ⟨w.heap.size, 0, none⟩)) := hx.at_ 1 rfl
        have H := Lib.hid (And.intro hs (And.intro hx (And.intro hT2 hB)))
        clear hx hT2 hB k0
        have ca := acquire_empty w.heap.size wr hs
        have cc := counts_empty w.heap.size wr hs
        have ct := take_empty n w.heap.size wr hs
        have cr := release_empty n w.heap.size wr hs
        have cs := settle_empty w.heap.size wr hs
        have ci := is_empty n w.heap.size wr hs
        have cb := bytes_empty w.heap.size wr hs
        have cl := clone_empty w.heap.size wr hs
        clear hs
        go_wp2_with (first
          | (go_at_call 9; with_reducible refine ca.mono ?_; rintro e w' ⟨rfl, rfl⟩)
          | (go_at_call 10; with_reducible refine cc.mono ?_; rintro e w' ⟨rfl, rfl⟩)
          | (go_at_call 11; with_reducible refine ct.mono ?_; rintro e w' ⟨rfl, rfl⟩)
          | (go_at_call 12; with_reducible refine cr.mono ?_; rintro e w' ⟨rfl, rfl⟩)
          | (go_at_call 13; with_reducible refine cs.mono ?_; rintro e w' ⟨rfl, rfl⟩)
          | (go_at_call 14; with_reducible refine ci.mono ?_; rintro e w' ⟨rfl, rfl⟩)
          | (go_at_call 15; with_reducible refine cb.mono ?_; rintro e w' ⟨rfl, rfl⟩)
          | (go_at_call 16; with_reducible refine cl.mono ?_; rintro e w' ⟨rfl, rfl⟩)
          | fail)
        go_roundw
        case rel => exact ⟨2, by omega, rfl, H.out.1, H.out.2.1, H.out.2.2.1, H.out.2.2.2⟩
        case measure => simp [intOf]
      · obtain rfl : k = 2 := by omega
        have H := Lib.hid (And.intro hT2 hB)
        clear hx hs k0 k1 hT2 hB
        go_wp2_with fail
        refine (awake09_any wr H.out.1).mono ?_
        rintro e w2 ⟨rfl, hB2⟩
        go_wp2
        go_ret
        exact ⟨rfl, H.out.2.trans (hB2.mono H.out.2.size)⟩
end Go.Proofs.YtkjcidbhepminaaDoor
