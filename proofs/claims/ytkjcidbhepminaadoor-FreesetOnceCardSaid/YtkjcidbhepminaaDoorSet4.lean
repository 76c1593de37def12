/- The program's set of blocks: a block is taken, let go. Conditions: the set's block is known. -/
import Derived.Test.YtkjcidbhepminaaDoorSet3
namespace Go.Proofs.YtkjcidbhepminaaDoor
open Go.RowKit
/-- What a turn of block b from was answers; what the set is then. -/
def turnCode (L : List Nat) (b : Int) (was : Nat) : Int := if 1 ≤ b ∧ b ≤ L.length then (if L.getD (b - 1).toNat 0 = was then 0 else 9) else 5
def turnL (L : List Nat) (b : Int) (was is : Nat) : List Nat := if 1 ≤ b ∧ b ≤ L.length ∧ L.getD (b - 1).toNat 0 = was then L.set (b - 1).toNat is else L
theorem SetOk.turn {L : List Nat} (h : SetOk L) (b : Int) (was is : Nat) (hi : is ≤ 2) : SetOk (turnL L b was is) := by
  unfold turnL
  split
  · exact h.set_ _ _ (by omega) hi
  · exact h
theorem turnL_length (L : List Nat) (b : Int) (was is : Nat) : (turnL L b was is).length = L.length := by
  unfold turnL; split <;> simp
theorem Upd.drewN {g : Nat} {a b : World} (h : Upd g a b) (n : Nat) : Upd g a (b.drewN n) := ⟨h.os, h.tape, h.output, h.size, h.block⟩
theorem turn_nil (b x y : Int) (w : World) : Calls Tryd.prog 34 #[.pointer none, .int .i64 b, .int .i64 x, .int .i64 y] w fun e w' => e = .returned (.int .i64 1) ∧ w = w' := by
  go_enter Tryd.func34, Tryd.ntmps34
  go_wp2_with (go_at_call 30; refine (none_nil _).mono ?_; rintro e w' ⟨rfl, rfl⟩)
  go_ret
  exact ⟨rfl, rfl⟩
theorem turn_empty (b x y : Int) (g : Nat) (w : World) (h : Blk w g 26 (setCells [])) : Calls Tryd.prog 34 #[.pointer (some ⟨g, 0, none⟩), .int .i64 b, .int .i64 x, .int .i64 y] w fun e w' => e = .returned (.int .i64 1) ∧ w = w' := by
  have hn := none_any [] g w h
  rw [decide_eq_true (by rfl)] at hn
  go_enter Tryd.func34, Tryd.ntmps34
  go_wp2_with (go_at_call 30; refine hn.mono ?_; rintro e w' ⟨rfl, rfl⟩)
  go_ret
  exact ⟨rfl, rfl⟩
set_option maxHeartbeats 1000000 in
theorem turn_any (L : List Nat) (hok : SetOk L) (h0 : 0 < L.length) (g : Nat) (b : Int) (was is : Nat) (h1 : was ≤ 2) (h2 : is ≤ 2) (hb1 : -9223372036854775808 ≤ b) (hb2 : b ≤ 9223372036854775807) (w : World) (h : Blk w g 26 (setCells L)) :
    Calls Tryd.prog 34 #[.pointer (some ⟨g, 0, none⟩), .int .i64 b, .int .i64 (was : Int), .int .i64 (is : Int)] w fun e w' => e = .returned (.int .i64 (turnCode L b was)) ∧ Blk w' g 26 (setCells (turnL L b was is)) ∧ Upd g w w' := by
  have hn := none_any L g w h
  rw [decide_eq_false (by omega)] at hn
  have hi : ∀ n, Calls Tryd.prog 14 #[.pointer (some ⟨g, 0, none⟩), .int .i64 b] (w.drewN n) fun e w' => e = .returned (.int .i64 (isAt L b)) ∧ ∃ n, w' = w.drewN n := fun n =>
    (is_any L hok h0 g b hb1 hb2 (w.drewN n) (h.drewN n)).mono fun e w' ⟨he, m, hm⟩ => ⟨he, n + m, by rw [hm, World.drewN_drewN]⟩
  by_cases c : 1 ≤ b ∧ b ≤ L.length
  · have ei : isAt L b = ((L.getD (b - 1).toNat 0 : Nat) : Int) := by unfold isAt; rw [if_pos c]
    have hle := hok.le (b - 1).toNat
    rw [ei] at hi
    by_cases c2 : L.getD (b - 1).toNat 0 = was
    · have e1 : turnCode L b was = 0 := by unfold turnCode; rw [if_pos c, if_pos c2]
      have e2 : turnL L b was is = L.set (b - 1).toNat is := by unfold turnL; rw [if_pos ⟨c.1, c.2, c2⟩]
      rw [e1, e2]
      rw [c2] at hi hle
      obtain ⟨k, hk⟩ : ∃ k : Nat, k = (b - 1).toNat := ⟨_, rfl⟩
      rw [← hk]
      obtain rfl : b = (k : Int) + 1 := by omega
      have hkl : k < L.length := by omega
      have hll := hok.len
      clear e1 e2 c2 c hk ei hb1 hb2
      have hne : ((was : Int) != was) = false := by simp
      go_enter Tryd.func34, Tryd.ntmps34
      go_wp2_with (go_at_call 30; refine hn.mono ?_; rintro e w' ⟨rfl, rfl⟩)
      refine (hi 0).mono ?_
      rintro e w1 ⟨rfl, n1, rfl⟩
      go_wp2_with fail
      refine (hi n1).mono ?_
      rintro e w1 ⟨rfl, n2, rfl⟩
      go_wp2_with fail
      refine (set_any L g k is h2 hkl hll (w.drewN n2) (h.drewN n2)).mono ?_
      rintro e w1 ⟨rfl, h3, hu⟩
      go_wp2
      go_ret
      exact ⟨rfl, h3, (Upd.drewN (Upd.refl g w) n2).trans hu⟩
    · have e1 : turnCode L b was = 9 := by unfold turnCode; rw [if_pos c, if_neg c2]
      have e2 : turnL L b was is = L := by unfold turnL; rw [if_neg (fun h => c2 h.2.2)]
      rw [e1, e2]
      generalize L.getD (b - 1).toNat 0 = x at hi hle c2
      have hne : ((x : Int) != was) = true := by simp; omega
      clear e1 e2 c c2
      go_enter Tryd.func34, Tryd.ntmps34
      go_wp2_with (go_at_call 30; refine hn.mono ?_; rintro e w' ⟨rfl, rfl⟩)
      refine (hi 0).mono ?_
      rintro e w1 ⟨rfl, n1, rfl⟩
      go_wp2_with fail
      refine (hi n1).mono ?_
      rintro e w1 ⟨rfl, n2, rfl⟩
      go_wp2
      go_ret
      exact ⟨rfl, h.drewN n2, Upd.drewN (Upd.refl g w) n2⟩
  · have ei : isAt L b = -1 := by unfold isAt; rw [if_neg c]
    rw [ei] at hi
    have e1 : turnCode L b was = 5 := by unfold turnCode; rw [if_neg c]
    have e2 : turnL L b was is = L := by unfold turnL; rw [if_neg (fun h => c ⟨h.1, h.2.1⟩)]
    rw [e1, e2]
    clear e1 e2 c
    go_enter Tryd.func34, Tryd.ntmps34
    go_wp2_with (go_at_call 30; refine hn.mono ?_; rintro e w' ⟨rfl, rfl⟩)
    refine (hi 0).mono ?_
    rintro e w1 ⟨rfl, n1, rfl⟩
    go_wp2
    go_ret
    exact ⟨rfl, h.drewN n1, Upd.drewN (Upd.refl g w) n1⟩
theorem take_any (L : List Nat) (hok : SetOk L) (h0 : 0 < L.length) (g : Nat) (b : Int) (hb1 : -9223372036854775808 ≤ b) (hb2 : b ≤ 9223372036854775807) (w : World) (h : Blk w g 26 (setCells L)) :
    Calls Tryd.prog 11 #[.pointer (some ⟨g, 0, none⟩), .int .i64 b] w fun e w' => e = .returned (.int .i64 (turnCode L b 0)) ∧ Blk w' g 26 (setCells (turnL L b 0 1)) ∧ Upd g w w' := by
  have ht := turn_any L hok h0 g b 0 1 (by omega) (by omega) hb1 hb2 w h
  go_enter Tryd.func11, Tryd.ntmps11
  go_wp2_with fail
  refine ht.mono ?_
  rintro e w1 ⟨rfl, h3, hu⟩
  go_wp2
  go_ret
  exact ⟨rfl, h3, hu⟩
theorem take_nil (b : Int) (w : World) : Calls Tryd.prog 11 #[.pointer none, .int .i64 b] w fun e w' => e = .returned (.int .i64 1) ∧ w = w' := by
  have ht := turn_nil b 0 1 w
  go_enter Tryd.func11, Tryd.ntmps11
  go_wp2_with fail
  refine ht.mono ?_
  rintro e w1 ⟨rfl, rfl⟩
  go_wp2
  go_ret
  exact ⟨rfl, rfl⟩
theorem take_empty (b : Int) (g : Nat) (w : World) (h : Blk w g 26 (setCells [])) : Calls Tryd.prog 11 #[.pointer (some ⟨g, 0, none⟩), .int .i64 b] w fun e w' => e = .returned (.int .i64 1) ∧ w = w' := by
  have ht := turn_empty b 0 1 g w h
  go_enter Tryd.func11, Tryd.ntmps11
  go_wp2_with fail
  refine ht.mono ?_
  rintro e w1 ⟨rfl, rfl⟩
  go_wp2
  go_ret
  exact ⟨rfl, rfl⟩
theorem release_any (L : List Nat) (hok : SetOk L) (h0 : 0 < L.length) (g : Nat) (b : Int) (hb1 : -9223372036854775808 ≤ b) (hb2 : b ≤ 9223372036854775807) (w : World) (h : Blk w g 26 (setCells L)) :
    Calls Tryd.prog 12 #[.pointer (some ⟨g, 0, none⟩), .int .i64 b] w fun e w' => e = .returned (.int .i64 (turnCode L b 1)) ∧ Blk w' g 26 (setCells (turnL L b 1 2)) ∧ Upd g w w' := by
  have ht := turn_any L hok h0 g b 1 2 (by omega) (by omega) hb1 hb2 w h
  go_enter Tryd.func12, Tryd.ntmps12
  go_wp2_with fail
  refine ht.mono ?_
  rintro e w1 ⟨rfl, h3, hu⟩
  go_wp2
  go_ret
  exact ⟨rfl, h3, hu⟩
theorem release_nil (b : Int) (w : World) : Calls Tryd.prog 12 #[.pointer none, .int .i64 b] w fun e w' => e = .returned (.int .i64 1) ∧ w = w' := by
  have ht := turn_nil b 1 2 w
  go_enter Tryd.func12, Tryd.ntmps12
  go_wp2_with fail
  refine ht.mono ?_
  rintro e w1 ⟨rfl, rfl⟩
  go_wp2
  go_ret
  exact ⟨rfl, rfl⟩
theorem release_empty (b : Int) (g : Nat) (w : World) (h : Blk w g 26 (setCells [])) : Calls Tryd.prog 12 #[.pointer (some ⟨g, 0, none⟩), .int .i64 b] w fun e w' => e = .returned (.int .i64 1) ∧ w = w' := by
  have ht := turn_empty b 1 2 g w h
  go_enter Tryd.func12, Tryd.ntmps12
  go_wp2_with fail
  refine ht.mono ?_
  rintro e w1 ⟨rfl, rfl⟩
  go_wp2
  go_ret
  exact ⟨rfl, rfl⟩
end Go.Proofs.YtkjcidbhepminaaDoor
