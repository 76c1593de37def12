/- The program's set of blocks: whether it is none, how a block is. Conditions: the set's block is known. -/
import Derived.Test.YtkjcidbhepminaaDoorSet1
namespace Go.Proofs.YtkjcidbhepminaaDoor
open Go.RowKit
def isAt (L : List Nat) (b : Int) : Int := if 1 ≤ b ∧ b ≤ L.length then (L.getD (b - 1).toNat 0 : Nat) else -1
theorem none_nil (w : World) : Calls Tryd.prog 30 #[.pointer none] w fun e w' => e = .returned (.bool true) ∧ w = w' := by
  go_enter Tryd.func30, Tryd.ntmps30
  go_wp2
  go_ret
  exact ⟨rfl, rfl⟩
theorem none_any (L : List Nat) (g : Nat) (w : World) (h : Blk w g 26 (setCells L)) :
    Calls Tryd.prog 30 #[.pointer (some ⟨g, 0, none⟩)] w fun e w' => e = .returned (.bool (decide (L.length = 0))) ∧ w = w' := by
  have d0 : w.cell? ⟨g, 0, none⟩ = some (.int .i64 (L.length : Nat)) := h.at_ 0 (by rw [setCells, arr_at _ (by omega), setv_0])
  have hE : (((L.length : Nat) : Int) == 0) = decide (L.length = 0) := by rw [Bool.eq_iff_iff]; simp
  go_enter Tryd.func30, Tryd.ntmps30
  go_wp2
  go_ret
  exact ⟨by simp, rfl⟩
theorem bit_one (T r : Nat) (hT : T < 18446744073709551616) : bits .and .u64 ((T : Int) / 2 ^ r) 1 = ((T / 2 ^ r % 2 : Nat) : Int) := by
  have e : ((T : Int) / 2 ^ r) = ((T / 2 ^ r : Nat) : Int) := by simp
  have := u64_and_nat (T / 2 ^ r) 1 (Nat.lt_of_le_of_lt (Nat.div_le_self _ _) hT) (by omega)
  rw [e]
  rw [nat_mask1] at this
  exact this
set_option maxRecDepth 100000 in
set_option maxHeartbeats 1000000 in
theorem is_any (L : List Nat) (hok : SetOk L) (h0 : 0 < L.length) (g : Nat) (b : Int) (hb1 : -9223372036854775808 ≤ b) (hb2 : b ≤ 9223372036854775807) (w : World) (h : Blk w g 26 (setCells L)) :
    Calls Tryd.prog 14 #[.pointer (some ⟨g, 0, none⟩), .int .i64 b] w fun e w' => e = .returned (.int .i64 (isAt L b)) ∧ ∃ n, w' = w.drewN n := by
  have hl := hok.len
  have d0 : w.cell? ⟨g, 0, none⟩ = some (.int .i64 (L.length : Nat)) := h.at_ 0 (by rw [setCells, arr_at _ (by omega), setv_0])
  have hn := none_any L g w h
  rw [decide_eq_false (by omega)] at hn
  by_cases c1 : b < 1
  · have e : isAt L b = -1 := by unfold isAt; rw [if_neg (by omega)]
    rw [e]
    go_enter Tryd.func14, Tryd.ntmps14
    go_wp2_with (go_at_call 30; refine hn.mono ?_; rintro e w' ⟨rfl, rfl⟩)
    go_ret
    exact ⟨rfl, 0, rfl⟩
  by_cases c2 : (L.length : Int) < b
  · have e : isAt L b = -1 := by unfold isAt; rw [if_neg (by omega)]
    rw [e]
    go_enter Tryd.func14, Tryd.ntmps14
    go_wp2_with (go_at_call 30; refine hn.mono ?_; rintro e w' ⟨rfl, rfl⟩)
    go_ret
    exact ⟨rfl, 0, rfl⟩
  obtain ⟨q, r, hr, rfl⟩ : ∃ q r : Nat, r < 64 ∧ b = (64 * (q : Int) + r) + 1 := ⟨(b - 1).toNat / 64, (b - 1).toNat % 64, Nat.mod_lt _ (by omega), by omega⟩
  have hq : q < 8 := by omega
  have e : isAt L ((64 * (q : Int) + r) + 1) = ((tw L q / 2 ^ r % 2 : Nat) : Int) + ((gw L q / 2 ^ r % 2 : Nat) : Int) := by
    unfold isAt; rw [if_pos (by omega)]
    have e1 : ((64 * (q : Int) + r) + 1 - 1).toNat = 64 * q + r := by omega
    rw [e1, ← is_eq L hok q r hr]; omega
  rw [e]
  have d1 : w.cell? ⟨g, 1 + q, none⟩ = some (.int .u64 (tw L q : Nat)) := h.at_ (1 + q) (by rw [setCells, arr_at _ (by omega), setv_t _ _ hq])
  have d2 : w.cell? ⟨g, 9 + q, none⟩ = some (.int .u64 (gw L q : Nat)) := h.at_ (9 + q) (by rw [setCells, arr_at _ (by omega), setv_g])
  have hT := tw_lt L q
  have hG := gw_lt L q
  generalize tw L q = T at hT d1 ⊢
  generalize gw L q = G at hG d2 ⊢
  have eq1 : (64 * (q : Int) + r) / 64 = q := by omega
  have eq2 : (64 * (q : Int) + r) % 64 = r := by omega
  have B1 := bit_one T r hT
  have B2 := bit_one G r hG
  have hB1 := Lib.hid B1
  have hB2 := Lib.hid B2
  clear hT hG e hb1 hb2 B1 B2
  go_enter Tryd.func14, Tryd.ntmps14
  go_wp2_with (go_at_call 30; refine hn.mono ?_; rintro e w' ⟨rfl, rfl⟩)
  clear c1 c2 hn h hok hl h0
  go_quiet (fail)
  go_wp2
  go_ret
  refine ⟨ret_int ?_, _, rfl⟩
  rw [hB1.out, hB2.out]
  have h1 := Nat.mod_lt (T / 2 ^ r) (show 0 < 2 by omega)
  have h2 := Nat.mod_lt (G / 2 ^ r) (show 0 < 2 by omega)
  generalize T / 2 ^ r % 2 = x at h1 ⊢
  generalize G / 2 ^ r % 2 = y at h2 ⊢
  rw [IntWalk.wrap64_in (x : Int) ⟨by omega, by omega⟩, IntWalk.wrap64_in (y : Int) ⟨by omega, by omega⟩, IntWalk.wrap64_in _ ⟨by omega, by omega⟩]
end Go.Proofs.YtkjcidbhepminaaDoor
