/- The program's set of blocks: the iterator over its blocks. Conditions: the set's block is known; the loop's body keeps it, and the iterator's own box. -/
import Derived.RangeFuncNested
import Derived.RangeFuncBound
import Derived.RangeFuncCalls
import Derived.RangeFuncLeaves
import Derived.Shelf.Abstract
import Derived.Shelf.RegionOpen
import Derived.WalkKit
import Derived.OwnWalkIn
import Derived.TacticsInMore
import Derived.LoopNIn
import Derived.LoopIn
import Derived.Test.YtkjcidbhepminaaDoorSet6
namespace Go.Proofs.YtkjcidbhepminaaDoor
open Go.RowKit Go.Shelf
attribute [local go_sem] Oper.semAt_some
/-- A block's number (from 1 on), and how it is. -/
abbrev It (n : Nat) := { p : Nat × Nat // 1 ≤ p.1 ∧ p.1 ≤ n ∧ p.2 ≤ 2 }
def itm (L : List Nat) (hok : SetOk L) (h0 : 0 < L.length) (k : Nat) : It L.length :=
  if h : k < L.length then ⟨(k + 1, L.getD k 0), by simp, by show k + 1 ≤ L.length; omega, hok.le k⟩ else ⟨(1, 0), by simp, by show 1 ≤ L.length; omega, by simp⟩
theorem itm_val (L : List Nat) (hok : SetOk L) (h0 : 0 < L.length) {k : Nat} (h : k < L.length) : (itm L hok h0 k).1 = (k + 1, L.getD k 0) := by unfold itm; rw [dif_pos h]
def upto {α : Type} (f : Nat → α) (k : Nat) : List α := (List.range k).map f
theorem upto_succ {α : Type} (f : Nat → α) (k : Nat) : upto f (k + 1) = upto f k ++ [f k] := by simp [upto, List.range_succ]
theorem upto_length {α : Type} (f : Nat → α) (k : Nat) : (upto f k).length = k := by simp [upto]
/-- What a round keeps: the set's block and the iterator's box. -/
def Kp (g bx : Nat) (W W' : World) : Prop := W.heap.size ≤ W'.heap.size ∧ W'.heap[g]? = W.heap[g]? ∧ W'.heap[bx]? = W.heap[bx]?
theorem Kp.trans {g bx : Nat} {A B C : World} (h : Kp g bx A B) (k : Kp g bx B C) : Kp g bx A C := ⟨Nat.le_trans h.1 k.1, k.2.1.trans h.2.1, k.2.2.trans h.2.2⟩
def encs {n : Nat} (x : It n) : Array Value := #[.int .i64 (x.1.1 : Int), .int .i64 (x.1.2 : Int)]
theorem all_any (g : Nat) (w : World) : Calls Tryd.prog 33 #[.pointer (some ⟨g, 0, none⟩)] w fun e w' => e = .returned (.func (.func 43) #[] #[.pointer (some ⟨w.heap.size, 0, none⟩)]) ∧ w' = w.alloc (.cells #[.pointer (some ⟨g, 0, none⟩)] 22) := by
  go_enter Tryd.func33, Tryd.ntmps33
  go_wp2
  go_ret
  exact ⟨rfl, rfl⟩
theorem drewN_grown (w : World) (n : Nat) (row : Option Nat) : w.grownBy (w.drewN n) row := ⟨rfl, rfl, rfl, Nat.le_refl _, fun _ _ _ => rfl⟩
set_option maxRecDepth 100000 in
set_option maxHeartbeats 2000000 in
theorem all1_in (n : Nat) (hn : 1 ≤ n) (L : List Nat) (hok : SetOk L) (h0 : 0 < L.length) (g bx l : Nat) (J Jx : List (It L.length) → World → Prop)
    (hJ : ∀ s W m, J s W → J s (W.drewN m))
    (hY : ∀ pre x W, J pre W → pre.length < L.length → YieldAt Fence.wide (n - 1) Tryd.prog l (encs x) W fun e W' =>
      (e = .returned (.bool true) ∧ J (pre ++ [x]) W' ∧ Kp g bx W W') ∨ (e = .returned (.bool false) ∧ Jx (pre ++ [x]) W'))
    (W : World) (hg : Blk W g 26 (setCells L)) (hb : Blk W bx 22 #[.pointer (some ⟨g, 0, none⟩)]) (hJ0 : J [] W) :
    CallsIn Fence.wide n Tryd.prog 43 #[.func (.yield l) #[] #[], .pointer (some ⟨bx, 0, none⟩)] W fun e W' => (∃ v, e = .returned v) ∧
      ((∃ ys, ys = upto (itm L hok h0) L.length ∧ J ys W') ∨ (∃ pre, (∃ k, k ≤ L.length ∧ pre = upto (itm L hok h0) k) ∧ Jx pre W')) := by
  have hl := hok.len
  refine callsIn_of_wp Tryd.func43 rfl trivial ?_ rfl
  simp only [Tryd.ntmps43, List.size_toArray, List.length_cons, List.length_nil, Nat.reduceAdd, Nat.reduceSub, Array.replicate_succ, Array.replicate_zero, List.push_toArray, List.append_toArray, List.nil_append, List.cons_append]
  gi_wp2
  gi_loopw [3] (fun i wr => ∃ k : Nat, k ≤ L.length ∧ i = .int .i64 ((k : Int) + 1) ∧ J (upto (itm L hok h0) k) wr ∧ Blk wr g 26 (setCells L) ∧ Blk wr bx 22 #[.pointer (some ⟨g, 0, none⟩)])
    (fun i _ => L.length + 1 - (intOf i).toNat)
  case atStart => exact ⟨0, Nat.zero_le _, rfl, hJ0, hg, hb⟩
  case round =>
    clear hg hb
    obtain ⟨k, hk, rfl, hJs, hg, hb⟩ := hrel
    have c0 : wr.cell? ⟨bx, 0, none⟩ = some (.pointer (some ⟨g, 0, none⟩)) := hb.at_ 0 rfl
    have c1 : wr.cell? ⟨g, 0, none⟩ = some (.int .i64 (L.length : Nat)) := hg.at_ 0 (by rw [setCells, arr_at _ (by omega), setv_0])
    by_cases hlt : k < L.length
    · have his := callsIn_wide (n := n - 1).2 (is_any L hok h0 g ((k : Int) + 1) (by omega) (by omega) wr hg)
      have hia : isAt L ((k : Int) + 1) = (L.getD k 0 : Nat) := by
        unfold isAt; rw [if_pos (by omega), show ((k : Int) + 1 - 1).toNat = k by omega]
      have hY1 := fun m => hY _ (itm L hok h0 k) (wr.drewN m) (hJ _ _ m hJs) (by rw [upto_length]; exact hlt)
      rw [hia] at his
      have ek : ((k + 1 : Nat) : Int) = (k : Int) + 1 := by omega
      simp only [encs, itm_val L hok h0 hlt, ek] at hY1
      have hle := hok.le k
      generalize L.getD k 0 = x at his hY1 hle
      have hG := Lib.hid hg
      have hB := Lib.hid hb
      clear hg hb hia ek
      gi_wp2_with fail
      refine ⟨trivial, ?_⟩
      refine his.mono ?_
      rintro e w' ⟨rfl, m, rfl⟩
      obtain ⟨fn, tmps, assign, body, hy, hR⟩ := hY1 m
      clear hY1 hY his
      gi_wp2
      refine hR.mono ?_
      rintro e W3 (⟨rfl, hJ3, hk3⟩ | ⟨rfl, hJx3⟩)
      · have hg3 : Blk W3 g 26 (setCells L) := hk3.2.1.trans hG.out
        have hb3 : Blk W3 bx 22 #[.pointer (some ⟨g, 0, none⟩)] := hk3.2.2.trans hB.out
        have hG3 := Lib.hid hg3
        have hB3 := Lib.hid hb3
        clear hg3 hb3 hk3 hG hB c0 c1
        gi_wp2
        go_roundw
        case rel => exact ⟨k + 1, by omega, by go_num, by rw [upto_succ]; exact hJ3, hG3.out, hB3.out⟩
        case measure => simp [intOf]; omega
      · gi_wp2
        refine bodyPost_ret (results_none rfl _ _ _) rfl ?_
        exact ⟨⟨_, rfl⟩, .inr ⟨_, ⟨k + 1, by omega, (upto_succ _ _).symm⟩, hJx3⟩⟩
    · obtain rfl : k = L.length := by omega
      gi_wp2
      go_end0
      exact ⟨⟨_, rfl⟩, .inl ⟨_, rfl, hJs⟩⟩
theorem all1_stops (n : Nat) (hn : 1 ≤ n) (L : List Nat) (hok : SetOk L) (h0 : 0 < L.length) (g bx : Nat) (w : World) (hg : Blk w g 26 (setCells L)) (hb : Blk w bx 22 #[.pointer (some ⟨g, 0, none⟩)]) :
    SeqStopsK Fence.wide n Tryd.prog 43 #[.pointer (some ⟨bx, 0, none⟩)] (encs (n := L.length)) (Kp g bx) (fun ys => ys = upto (itm L hok h0) L.length) (fun pre => ∃ k, k ≤ L.length ∧ pre = upto (itm L hok h0) k) L.length w := fun l J Jx W hW hJ _ hY hJ0 =>
  all1_in n hn L hok h0 g bx l J Jx (fun s W m hs => hJ s W _ none hs (drewN_grown W m none) (fun r e => by cases e)) hY W (hg.below hW hg.lt) (hb.below hW hb.lt) hJ0
end Go.Proofs.YtkjcidbhepminaaDoor
