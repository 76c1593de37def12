/- The program's set of blocks: what its smallest functions do. Conditions: the set's block is known. -/
import Derived.Test.YtkjcidbhepminaaDoorFree
import Derived.Test.YtkjcidbhepminaaDoorKit
import Derived.RegionTactic
import Derived.BigRegion
namespace Go.Proofs.YtkjcidbhepminaaDoor
open Go.RowKit
theorem Upd.drew {g : Nat} {a b : World} (h : Upd g a b) : Upd g a b.drew := ⟨h.os, h.tape, h.output, h.size, h.block⟩
theorem arr_set_at (cs : Array Value) (i j : Nat) (v : Value) (h : i ≠ j) : (cs.setIfInBounds i v)[j]? = cs[j]? := by rw [Array.getElem?_setIfInBounds_ne h]
theorem arr_set_self (cs : Array Value) (i : Nat) (v : Value) (h : i < cs.size) : (cs.setIfInBounds i v)[i]? = some v := Array.getElem?_setIfInBounds_self_of_lt h
theorem cells4 (L : List Nat) (q r v : Nat) (hk : 64 * q + r < L.length) (hr : r < 64) (hq : q < 8) :
    (v = 0 → ((setCells L).setIfInBounds (1 + q) (.int .u64 (wf (at_ (fun b => decide (0 < L.getD (64 * q + b) 0)) r false) 64 : Nat))).setIfInBounds (9 + q) (.int .u64 (wf (at_ (fun b => decide (1 < L.getD (64 * q + b) 0)) r false) 64 : Nat)) = setCells (L.set (64 * q + r) v)) ∧
    (v = 1 → (((setCells L).setIfInBounds (1 + q) (.int .u64 (wf (at_ (fun b => decide (0 < L.getD (64 * q + b) 0)) r false) 64 : Nat))).setIfInBounds (9 + q) (.int .u64 (wf (at_ (fun b => decide (1 < L.getD (64 * q + b) 0)) r false) 64 : Nat))).setIfInBounds (1 + q) (.int .u64 (wf (at_ (fun b => decide (0 < L.getD (64 * q + b) 0)) r true) 64 : Nat)) = setCells (L.set (64 * q + r) v)) ∧
    (v = 2 → ((((setCells L).setIfInBounds (1 + q) (.int .u64 (wf (at_ (fun b => decide (0 < L.getD (64 * q + b) 0)) r false) 64 : Nat))).setIfInBounds (9 + q) (.int .u64 (wf (at_ (fun b => decide (1 < L.getD (64 * q + b) 0)) r false) 64 : Nat))).setIfInBounds (1 + q) (.int .u64 (wf (at_ (fun b => decide (0 < L.getD (64 * q + b) 0)) r true) 64 : Nat))).setIfInBounds (9 + q) (.int .u64 (wf (at_ (fun b => decide (1 < L.getD (64 * q + b) 0)) r true) 64 : Nat)) = setCells (L.set (64 * q + r) v)) := by
  refine ⟨fun h0 => ?_, fun h0 => ?_, fun h0 => ?_⟩
  all_goals
    subst h0
    rw [show setCells L = arr 17 (setv L) from rfl]
    simp only [arr_set]
    refine setCells_set L q r _ hk hr hq _ ?_ ?_ ?_
  all_goals first
    | (intro i e1 e2; simp [e1, e2]; done)
    | (simp; done)
    | (simp; omega)
set_option maxHeartbeats 1000000 in
theorem set_any (L : List Nat) (g k v : Nat) (hv : v ≤ 2) (hk : k < L.length) (hl : L.length ≤ 512) (w : World) (h : Blk w g 26 (setCells L)) :
    Calls Tryd.prog 32 #[.pointer (some ⟨g, 0, none⟩), .int .i64 ((k : Int) + 1), .int .i64 (v : Int)] w fun e w' => e = .returned (.tuple #[]) ∧ Blk w' g 26 (setCells (L.set k v)) ∧ Upd g w w' := by
  obtain ⟨q, r, hr, rfl⟩ : ∃ q r, r < 64 ∧ k = 64 * q + r := ⟨k / 64, k % 64, Nat.mod_lt _ (by omega), by omega⟩
  have hq : q < 8 := by omega
  have hT := tw_lt L q
  have hG := gw_lt L q
  have c1 := u64_clear (tw L q) r hT hr
  have c2 := u64_clear (gw L q) r hG hr
  have c3 := u64_set (tw L q &&& (18446744073709551615 - 2 ^ r)) r (Nat.lt_of_le_of_lt Nat.and_le_left hT) hr
  have c4 := u64_set (gw L q &&& (18446744073709551615 - 2 ^ r)) r (Nat.lt_of_le_of_lt Nat.and_le_left hG) hr
  have n1 : tw L q &&& (18446744073709551615 - 2 ^ r) = wf (at_ (fun b => decide (0 < L.getD (64 * q + b) 0)) r false) 64 := wf_clear _ hr
  have n2 : gw L q &&& (18446744073709551615 - 2 ^ r) = wf (at_ (fun b => decide (1 < L.getD (64 * q + b) 0)) r false) 64 := wf_clear _ hr
  have n3 : (tw L q &&& (18446744073709551615 - 2 ^ r)) ||| 2 ^ r = wf (at_ (fun b => decide (0 < L.getD (64 * q + b) 0)) r true) 64 := by rw [n1, wf_set _ hr, at_at]
  have n4 : (gw L q &&& (18446744073709551615 - 2 ^ r)) ||| 2 ^ r = wf (at_ (fun b => decide (1 < L.getD (64 * q + b) 0)) r true) 64 := by rw [n2, wf_set _ hr, at_at]
  have hg0 : (setCells L)[9 + q]? = some (.int .u64 (gw L q : Nat)) := by rw [setCells, arr_at _ (by omega), setv_g]
  have d1 : w.cell? ⟨g, 1 + q, none⟩ = some (.int .u64 (tw L q : Nat)) := h.at_ (1 + q) (by rw [setCells, arr_at _ (by omega), setv_t _ _ hq])
  have d2 : w.cell? ⟨g, 9 + q, none⟩ = some (.int .u64 (gw L q : Nat)) := h.at_ (9 + q) (by rw [setCells, arr_at _ (by omega), setv_g])
  have e1 : (64 * (q : Int) + r) / 64 = q := by omega
  have e2 : IntKind.u64.wrap (2 ^ (r % 64)) = ((2 ^ r : Nat) : Int) := by
    have : 2 ^ r < 2 ^ 64 := Nat.pow_lt_pow_right (by omega) hr
    rw [IntKind.wrap_u64, Nat.mod_eq_of_lt hr]
    have e : ((2 ^ r : Nat) : Int) = 2 ^ r := by simp
    rw [← e]
    generalize (2 ^ r : Nat) = P at this ⊢
    omega
  rw [n1] at c1 c3
  rw [n2] at c2 c4
  rw [n1] at n3
  rw [n2] at n4
  rw [n3] at c3
  rw [n4] at c4
  clear n1 n2 n3 n4
  have hcs := cells4 L q r v hk hr hq
  generalize (2 ^ r : Nat) = P at c1 c2 c3 c4 e2
  generalize tw L q = T at hT c1 d1
  generalize gw L q = G at hG c2 d2 hg0
  generalize wf (at_ (fun b => decide (0 < L.getD (64 * q + b) 0)) r false) 64 = T0 at c1 c3 hcs
  generalize wf (at_ (fun b => decide (1 < L.getD (64 * q + b) 0)) r false) 64 = G0 at c2 c4 hcs
  generalize wf (at_ (fun b => decide (0 < L.getD (64 * q + b) 0)) r true) 64 = T1 at c3 hcs
  generalize wf (at_ (fun b => decide (1 < L.getD (64 * q + b) 0)) r true) 64 = G1 at c4 hcs
  have HC := Lib.hid hcs
  clear hcs
  have f1 := h.frozen (1 + q)
  have f2 := h.frozen (9 + q)
  go_enter Tryd.func32, Tryd.ntmps32
  go_wp2
  clear d2 f2
  go_region
  go_wp2
  have h1 := (h.set_ (1 + q) (.int .u64 (T0 : Int))).drew
  have hU1 := Lib.hid (Upd.drew ((Upd.refl g w).set (1 + q) (.int .u64 (T0 : Int))))
  generalize (World.setCell w _ _).drew = w1 at h1 hU1 ⊢
  clear d1 f1 h
  have d2 : w1.cell? ⟨g, 9 + q, none⟩ = some (.int .u64 (G : Int)) := h1.at_ (9 + q) (by rw [arr_set_at _ _ _ _ (by omega)]; exact hg0)
  have f2 := h1.frozen (9 + q)
  go_region
  have h2 := (h1.set_ (9 + q) (.int .u64 (G0 : Int))).drew
  have hU2 := Lib.hid (hU1.out.trans (Upd.drew ((Upd.refl g w1).set (9 + q) (.int .u64 (G0 : Int)))))
  generalize (World.setCell w1 _ _).drew = w2 at h2 hU2 ⊢
  clear d2 f2 h1 hU1
  by_cases v0 : v = 0
  · subst v0
    go_wp2
    refine bodyPost_end (v := .tuple #[]) (by simp [results]) rfl ⟨rfl, h2.sub (HC.out.1 (by trivial)), hU2.out⟩
  have d1 : w2.cell? ⟨g, 1 + q, none⟩ = some (.int .u64 (T0 : Int)) := h2.at_ (1 + q) (by rw [arr_set_at _ _ _ _ (by omega)]; exact arr_set_self _ _ _ (by simp [setCells, arr_size]; omega))
  have f1 := h2.frozen (1 + q)
  have hv1 : 0 < v := by omega
  go_wp2
  go_region
  have h3 := (h2.set_ (1 + q) (.int .u64 (T1 : Int))).drew
  have hU3 := Lib.hid (hU2.out.trans (Upd.drew ((Upd.refl g w2).set (1 + q) (.int .u64 (T1 : Int)))))
  generalize (World.setCell w2 _ _).drew = w3 at h3 hU3 ⊢
  clear d1 f1 h2 hU2
  by_cases v1 : v = 1
  · subst v1
    go_wp2
    refine bodyPost_end (v := .tuple #[]) (by simp [results]) rfl ⟨rfl, h3.sub (HC.out.2.1 (by trivial)), hU3.out⟩
  obtain rfl : v = 2 := by omega
  have d2 : w3.cell? ⟨g, 9 + q, none⟩ = some (.int .u64 (G0 : Int)) := h3.at_ (9 + q) (by rw [arr_set_at _ _ _ _ (by omega)]; exact arr_set_self _ _ _ (by simp [setCells, arr_size]; omega))
  have f2 := h3.frozen (9 + q)
  go_wp2
  go_region
  have h4 := (h3.set_ (9 + q) (.int .u64 (G1 : Int))).drew
  have hU4 := Lib.hid (hU3.out.trans (Upd.drew ((Upd.refl g w3).set (9 + q) (.int .u64 (G1 : Int)))))
  generalize (World.setCell w3 _ _).drew = w4 at h4 hU4 ⊢
  go_wp2
  refine bodyPost_end (v := .tuple #[]) (by simp [results]) rfl ⟨rfl, h4.sub (HC.out.2.2 (by trivial)), hU4.out⟩
end Go.Proofs.YtkjcidbhepminaaDoor
