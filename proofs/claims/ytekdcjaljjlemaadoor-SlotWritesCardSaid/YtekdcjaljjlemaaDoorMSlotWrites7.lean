/- A number of 128 bits read from bytes. Conditions: the bytes can be read. -/
import Derived.Test.YtekdcjaljjlemaaDoorMSlotWrites6
namespace Go.Proofs.YtekdcjaljjlemaaDoor
open Go.RowKit
/-- The number of the first k bytes from p on, the lowest first. -/
def lpart (l : List UInt8) (p : Nat) : Nat → Nat
  | 0 => 0
  | k + 1 => lpart l p k + (l.getD (p + k) 0).toNat * 256 ^ k
theorem lpart_lt (l : List UInt8) (p k : Nat) : lpart l p k < 256 ^ k := by
  induction k with
  | zero => simp [lpart]
  | succ k ih =>
    have h := (l.getD (p + k) 0).toNat_lt
    have : (l.getD (p + k) 0).toNat * 256 ^ k ≤ 255 * 256 ^ k := Nat.mul_le_mul_right _ (by omega)
    unfold lpart
    rw [Nat.pow_succ]; omega
theorem lpart_8 (l : List UInt8) (p : Nat) : lpart l p 8 = at8 l p := by
  unfold at8 at4 un4
  simp only [lpart, Nat.add_assoc, Nat.reduceAdd, Nat.reducePow, Nat.add_zero]
  omega
theorem lpart_or (l : List UInt8) (p k : Nat) : lpart l p k ||| ((l.getD (p + k) 0).toNat * 256 ^ k) = lpart l p (k + 1) := by
  rw [or_sum _ _ (8 * k) (256 ^ k) (by rw [Nat.pow_mul]) (lpart_lt l p k)]; rfl
theorem u64_or_nat (a b : Nat) (ha : a < 18446744073709551616) (hb : b < 18446744073709551616) : bits .or .u64 (a : Int) (b : Int) = ((a ||| b : Nat) : Int) := by
  have h2 : a ||| b < 2 ^ 64 := Nat.or_lt_two_pow (by omega) (by omega)
  show IntKind.u64.wrap ((BitVec.ofInt 64 (a : Int) ||| BitVec.ofInt 64 (b : Int)).toNat : Int) = _
  rw [BitVec.toNat_or, ofInt_u64 a (by omega), ofInt_u64 b (by omega)]
  exact IntWalk.u64_in _ ⟨by omega, by omega⟩
theorem orU (lo k P : Nat) (x : UInt8) (hP : P = 256 ^ k) (hk : k < 8) (hlo : lo < 256 ^ k) : bits .or .u64 (lo : Int) (IntKind.u64.wrap (IntKind.u64.wrap (iu8 x) * (P : Int))) = ((lo ||| x.toNat * 256 ^ k : Nat) : Int) := by
  subst hP
  have hx := x.toNat_lt
  have h1 : (256 : Nat) ^ k ≤ 256 ^ 7 := Nat.pow_le_pow_right (by omega) (by omega)
  have h2 : x.toNat * 256 ^ k ≤ 255 * 256 ^ 7 := Nat.mul_le_mul (by omega) h1
  have e1 : IntKind.u64.wrap (iu8 x) = (x.toNat : Int) := IntWalk.u64_in _ (by unfold iu8; omega)
  rw [e1]
  have e2 : (x.toNat : Int) * ((256 ^ k : Nat) : Int) = ((x.toNat * 256 ^ k : Nat) : Int) := by simp
  rw [e2, IntWalk.u64_in _ (by omega)]
  exact u64_or_nat _ _ (by omega) (by omega)
def u128c (hi lo : Nat) : Array Value := #[.int .u64 (hi : Nat), .int .u64 (lo : Nat)]
theorem sizeU : (Tryd.prog.info? 24).map (·.size) = some 2 := by kernel_rfl
theorem u128c_set (hi lo hi' lo' : Nat) : ((u128c hi lo).setIfInBounds 1 (.int .u64 (lo' : Nat))).setIfInBounds 0 (.int .u64 (hi' : Nat)) = u128c hi' lo' := rfl
theorem u128c_0 (hi lo : Nat) : (u128c hi lo)[0]? = some (.int .u64 (hi : Nat)) := rfl
theorem u128c_1 (hi lo : Nat) : (u128c hi lo)[1]? = some (.int .u64 (lo : Nat)) := rfl
def URel (w : World) (g : Nat) (l : List UInt8) (v : Value) (wr : World) : Prop := ∃ j : Nat, j ≤ 8 ∧ v = .int .i64 (j : Int) ∧ Blk wr g 24 (u128c (lpart l 8 j) (lpart l 0 j)) ∧ Upd g w wr
set_option maxRecDepth 100000 in
set_option maxHeartbeats 2000000 in
theorem uread_any (A : Option Addr) (c : Nat) (l : List UInt8) (h16 : l.length = 16) (w : World) (hb : Bytes w A l) :
    Calls Tryd.prog 39 #[.slice A l.length c] w fun e w' => e = .returned (.tuple #[.agg (u128c (at8 l 8) (at8 l 0)), .int .i64 0]) ∧ Below w.heap.size w w' := by
  obtain ⟨bb, off, rfl, hbl, hc⟩ := hb.at_ (by omega)
  clear hb
  go_enter Tryd.func39, Tryd.ntmps39
  go_wp2_with fail
  generalize hw3 : (w.alloc _).alloc _ = w3
  have h1 : Blk w3 w.heap.size 24 (u128c 0 0) := by rw [← hw3]; exact (Blk.new w _ _).alloc _
  have h2 : Blk w3 (w.heap.size + 1) 24 (u128c 0 0) := by rw [← hw3]; exact Blk.new' _ _ _ (by simp)
  have hB := Lib.hid (show Below w.heap.size w w3 by rw [← hw3]; exact ((Below.refl _ _).alloc (Nat.le_refl _) _).alloc (by simp) _)
  have hc3 : ∀ j, j < 16 → w3.cell? ⟨bb, off + j, none⟩ = some (.int .u8 (iu8 (l.getD j 0))) := fun j hj => (hB.out.cell (p := ⟨bb, off + j, none⟩) hbl).trans (hc j (by omega))
  clear hw3 hc
  obtain ⟨s0, hs0⟩ : ∃ s0, s0 = w.heap.size := ⟨_, rfl⟩
  have hge : w.heap.size ≤ s0 + 1 := by omega
  have hge0 : w.heap.size ≤ s0 := by omega
  rw [← hs0] at h1 h2 hbl ⊢
  clear hs0
  go_loopw [10] (fun v wr => URel w3 (s0 + 1) l v wr) (fun v _ => 8 - (intOf v).toNat)
  case atStart => exact ⟨0, by omega, rfl, h2, Upd.refl _ _⟩
  case round =>
    obtain ⟨j, hj, rfl, hg, hu⟩ := hrel
    have hcr : ∀ j, j < 16 → wr.cell? ⟨bb, off + j, none⟩ = some (.int .u8 (iu8 (l.getD j 0))) := fun j hj => (World.cell?_of_block (hu.block bb (by omega))).trans (hc3 j hj)
    by_cases hlt : j < 8
    · have o1 := lpart_or l 0 j
      have o2 := lpart_or l 8 j
      have q1 := lpart_lt l 0 j
      have q2 := lpart_lt l 8 j
      have d1 := hcr j (by omega)
      have d2 := hcr (8 + j) (by omega)
      rw [Nat.zero_add] at o1
      have dlo : wr.cell? ⟨s0 + 1, 1, none⟩ = some (.int .u64 (lpart l 0 j : Nat)) := hg.at_ 1 (u128c_1 _ _)
      have dhi : wr.cell? ⟨s0 + 1, 0, none⟩ = some (.int .u64 (lpart l 8 j : Nat)) := hg.at_ 0 (u128c_0 _ _)
      have HR : Hid (∀ w'', Blk w'' (s0 + 1) 24 (u128c (lpart l 8 (j + 1)) (lpart l 0 (j + 1))) → Upd (s0 + 1) w3 w'' → URel w3 (s0 + 1) l (.int .i64 ((j + 1 : Nat) : Int)) w'') := Lib.hid (fun w'' h1 h2 => ⟨j + 1, by omega, rfl, h1, h2⟩)
      have f0 := hg.frozen 0
      have f1 := hg.frozen 1
      generalize l.getD j 0 = x at d1 o1
      generalize l.getD (8 + j) 0 = y at d2 o2
      generalize lpart l 0 j = lo at dlo o1 q1 hg
      generalize lpart l 8 j = hi at dhi o2 q2 hg
      generalize lpart l 0 (j + 1) = lo' at o1 HR
      generalize lpart l 8 (j + 1) = hi' at o2 HR
      have f0' : ((wr.setCell ⟨s0 + 1, 1, none⟩ (.int .u64 (lo' : Nat))).drew).frozen? ⟨s0 + 1, 0, none⟩ = false := (hg.set_ 1 _).drew.frozen 0
      have dhi' : ((wr.setCell ⟨s0 + 1, 1, none⟩ (.int .u64 (lo' : Nat))).drew).cell? ⟨s0 + 1, 0, none⟩ = some (.int .u64 (hi : Nat)) := ((hg.set_ 1 _).drew.cell 0).trans ((hg.cell 0).symm.trans dhi)
      have d2' : ((wr.setCell ⟨s0 + 1, 1, none⟩ (.int .u64 (lo' : Nat))).drew).cell? ⟨bb, off + (8 + j), none⟩ = some (.int .u8 (iu8 y)) := (World.cell?_of_block (((Upd.refl (s0 + 1) wr).set 1 _).block bb (by omega))).trans d2
      have HN : Hid (URel w3 (s0 + 1) l (.int .i64 ((j + 1 : Nat) : Int)) (((wr.setCell ⟨s0 + 1, 1, none⟩ (.int .u64 (lo' : Nat))).drew.setCell ⟨s0 + 1, 0, none⟩ (.int .u64 (hi' : Nat))).drew)) :=
        Lib.hid (HR.out _ (((hg.set_ 1 (.int .u64 (lo' : Nat))).drew.set_ 0 (.int .u64 (hi' : Nat))).sub (u128c_set hi lo hi' lo')).drew ((hu.set 1 (.int .u64 (lo' : Nat))).drewH.set 0 (.int .u64 (hi' : Nat))).drewH)
      have hcase : j = 0 ∨ j = 1 ∨ j = 2 ∨ j = 3 ∨ j = 4 ∨ j = 5 ∨ j = 6 ∨ j = 7 := by omega
      have HO := Lib.hid (And.intro o1 (And.intro o2 (And.intro q1 q2)))
      clear hg hu o1 o2 q1 q2 hcr HR
      rcases hcase with rfl | rfl | rfl | rfl | rfl | rfl | rfl | rfl
      · have e1 : bits .or .u64 (lo : Int) (IntKind.u64.wrap (IntKind.u64.wrap (iu8 x))) = ((lo' : Nat) : Int) := by rw [← HO.out.1, ← Int.mul_one (IntKind.u64.wrap (iu8 x))]; exact orU lo 0 1 x (by decide) (by omega) HO.out.2.2.1
        have e2 : bits .or .u64 (hi : Int) (IntKind.u64.wrap (IntKind.u64.wrap (iu8 y))) = ((hi' : Nat) : Int) := by rw [← HO.out.2.1, ← Int.mul_one (IntKind.u64.wrap (iu8 y))]; exact orU hi 0 1 y (by decide) (by omega) HO.out.2.2.2
        go_wp2_with fail
        refine wp_region_planT (fun w' => w'.cell? ⟨s0 + 1, 1, none⟩ = some (.int .u64 (lo : Nat)) ∧ w'.cell? ⟨bb, off + 0, none⟩ = some (.int .u8 (iu8 x))) [12] [(true, 0), (true, 2), (true, 3), (true, 4), (true, 7), (true, 8), (true, 1), (true, 5), (true, 6), (true, 9), (true, 10), (true, 11), (false, 12)] (by kernel_rfl) (by kernel_rfl) (⟨dlo, d1⟩) ?_
        refine wpPlan_pure [0, 2, 3, 4, 7, 8] [(true, 1), (true, 5), (true, 6), (true, 9), (true, 10), (true, 11), (false, 12)] _ (by rfl) (by rfl) ?_
        dsimp only [List.filterMap, List.getElem?_cons_zero, List.getElem?_cons_succ]
        repeat (go_big_quiet_step (fail))
        refine wpQuiet_nil ?_
        refine wpPlan_takeL [1, 5] [(true, 6), (true, 9), (true, 10), (true, 11), (false, 12)] _ (by rfl) (by rfl) (⟨dlo, d1⟩) ?_
        dsimp only [List.filterMap, List.getElem?_cons_zero, List.getElem?_cons_succ]
        (refine wpQuiet_load_cell (fun w' hw' => hw'.1) (by rfl) _ _ (by rfl) (by rfl) _ Tryd.underlying22 (by rfl) ?_; simp only [Act.put, List.setIfInBounds_toArray, List.set_cons_zero, List.set_cons_succ])
        (refine wpQuiet_load_cell (fun w' hw' => hw'.2) (by rfl) _ _ (by rfl) (by rfl) _ Tryd.underlying5 (by rfl) ?_; simp only [Act.put, List.setIfInBounds_toArray, List.set_cons_zero, List.set_cons_succ])
        refine wpQuiet_nil ?_
        refine wpPlan_pure [6, 9, 10, 11] [(false, 12)] _ (by rfl) (by rfl) ?_
        dsimp only [List.filterMap, List.getElem?_cons_zero, List.getElem?_cons_succ]
        repeat (go_big_quiet_step (fail))
        refine wpQuiet_nil ?_
        refine wpPlan_forceL _ rfl ?_
        go_wp2_with fail
        refine PlanQ.out (by rfl) ?_
        refine wpPlan_tidy ?_
        go_wp2_with fail
        refine wp_region_planT (fun w' => w'.cell? ⟨s0 + 1, 0, none⟩ = some (.int .u64 (hi : Nat)) ∧ w'.cell? ⟨bb, off + 8, none⟩ = some (.int .u8 (iu8 y))) [13] [(true, 0), (true, 2), (true, 3), (true, 4), (true, 5), (true, 8), (true, 9), (true, 1), (true, 6), (true, 7), (true, 10), (true, 11), (true, 12), (false, 13)] (by kernel_rfl) (by kernel_rfl) (⟨dhi', d2'⟩) ?_
        refine wpPlan_pure [0, 2, 3, 4, 5, 8, 9] [(true, 1), (true, 6), (true, 7), (true, 10), (true, 11), (true, 12), (false, 13)] _ (by rfl) (by rfl) ?_
        dsimp only [List.filterMap, List.getElem?_cons_zero, List.getElem?_cons_succ]
        repeat (go_big_quiet_step (fail))
        refine wpQuiet_nil ?_
        refine wpPlan_takeL [1, 6] [(true, 7), (true, 10), (true, 11), (true, 12), (false, 13)] _ (by rfl) (by rfl) (⟨dhi', d2'⟩) ?_
        dsimp only [List.filterMap, List.getElem?_cons_zero, List.getElem?_cons_succ]
        (refine wpQuiet_load_cell (fun w' hw' => hw'.1) (by rfl) _ _ (by rfl) (by rfl) _ Tryd.underlying22 (by rfl) ?_; simp only [Act.put, List.setIfInBounds_toArray, List.set_cons_zero, List.set_cons_succ])
        (refine wpQuiet_load_cell (fun w' hw' => hw'.2) (by rfl) _ _ (by rfl) (by rfl) _ Tryd.underlying5 (by rfl) ?_; simp only [Act.put, List.setIfInBounds_toArray, List.set_cons_zero, List.set_cons_succ])
        refine wpQuiet_nil ?_
        refine wpPlan_pure [7, 10, 11, 12] [(false, 13)] _ (by rfl) (by rfl) ?_
        dsimp only [List.filterMap, List.getElem?_cons_zero, List.getElem?_cons_succ]
        repeat (go_big_quiet_step (fail))
        refine wpQuiet_nil ?_
        refine wpPlan_forceL _ rfl ?_
        go_wp2_with fail
        refine PlanQ.out (by rfl) ?_
        refine wpPlan_tidy ?_
        go_wp2
        exact ⟨HN.out, by simp [intOf]⟩
      · have e1 : bits .or .u64 (lo : Int) (IntKind.u64.wrap (IntKind.u64.wrap (iu8 x) * 256)) = ((lo' : Nat) : Int) := by rw [← HO.out.1]; exact orU lo 1 256 x (by decide) (by omega) HO.out.2.2.1
        have e2 : bits .or .u64 (hi : Int) (IntKind.u64.wrap (IntKind.u64.wrap (iu8 y) * 256)) = ((hi' : Nat) : Int) := by rw [← HO.out.2.1]; exact orU hi 1 256 y (by decide) (by omega) HO.out.2.2.2
        go_wp2_with fail
        refine wp_region_planT (fun w' => w'.cell? ⟨s0 + 1, 1, none⟩ = some (.int .u64 (lo : Nat)) ∧ w'.cell? ⟨bb, off + 1, none⟩ = some (.int .u8 (iu8 x))) [12] [(true, 0), (true, 2), (true, 3), (true, 4), (true, 7), (true, 8), (true, 1), (true, 5), (true, 6), (true, 9), (true, 10), (true, 11), (false, 12)] (by kernel_rfl) (by kernel_rfl) (⟨dlo, d1⟩) ?_
        refine wpPlan_pure [0, 2, 3, 4, 7, 8] [(true, 1), (true, 5), (true, 6), (true, 9), (true, 10), (true, 11), (false, 12)] _ (by rfl) (by rfl) ?_
        dsimp only [List.filterMap, List.getElem?_cons_zero, List.getElem?_cons_succ]
        repeat (go_big_quiet_step (fail))
        refine wpQuiet_nil ?_
        refine wpPlan_takeL [1, 5] [(true, 6), (true, 9), (true, 10), (true, 11), (false, 12)] _ (by rfl) (by rfl) (⟨dlo, d1⟩) ?_
        dsimp only [List.filterMap, List.getElem?_cons_zero, List.getElem?_cons_succ]
        (refine wpQuiet_load_cell (fun w' hw' => hw'.1) (by rfl) _ _ (by rfl) (by rfl) _ Tryd.underlying22 (by rfl) ?_; simp only [Act.put, List.setIfInBounds_toArray, List.set_cons_zero, List.set_cons_succ])
        (refine wpQuiet_load_cell (fun w' hw' => hw'.2) (by rfl) _ _ (by rfl) (by rfl) _ Tryd.underlying5 (by rfl) ?_; simp only [Act.put, List.setIfInBounds_toArray, List.set_cons_zero, List.set_cons_succ])
        refine wpQuiet_nil ?_
        refine wpPlan_pure [6, 9, 10, 11] [(false, 12)] _ (by rfl) (by rfl) ?_
        dsimp only [List.filterMap, List.getElem?_cons_zero, List.getElem?_cons_succ]
        repeat (go_big_quiet_step (fail))
        refine wpQuiet_nil ?_
        refine wpPlan_forceL _ rfl ?_
        go_wp2_with fail
        refine PlanQ.out (by rfl) ?_
        refine wpPlan_tidy ?_
        go_wp2_with fail
        refine wp_region_planT (fun w' => w'.cell? ⟨s0 + 1, 0, none⟩ = some (.int .u64 (hi : Nat)) ∧ w'.cell? ⟨bb, off + 9, none⟩ = some (.int .u8 (iu8 y))) [13] [(true, 0), (true, 2), (true, 3), (true, 4), (true, 5), (true, 8), (true, 9), (true, 1), (true, 6), (true, 7), (true, 10), (true, 11), (true, 12), (false, 13)] (by kernel_rfl) (by kernel_rfl) (⟨dhi', d2'⟩) ?_
        refine wpPlan_pure [0, 2, 3, 4, 5, 8, 9] [(true, 1), (true, 6), (true, 7), (true, 10), (true, 11), (true, 12), (false, 13)] _ (by rfl) (by rfl) ?_
        dsimp only [List.filterMap, List.getElem?_cons_zero, List.getElem?_cons_succ]
        repeat (go_big_quiet_step (fail))
        refine wpQuiet_nil ?_
        refine wpPlan_takeL [1, 6] [(true, 7), (true, 10), (true, 11), (true, 12), (false, 13)] _ (by rfl) (by rfl) (⟨dhi', d2'⟩) ?_
        dsimp only [List.filterMap, List.getElem?_cons_zero, List.getElem?_cons_succ]
        (refine wpQuiet_load_cell (fun w' hw' => hw'.1) (by rfl) _ _ (by rfl) (by rfl) _ Tryd.underlying22 (by rfl) ?_; simp only [Act.put, List.setIfInBounds_toArray, List.set_cons_zero, List.set_cons_succ])
        (refine wpQuiet_load_cell (fun w' hw' => hw'.2) (by rfl) _ _ (by rfl) (by rfl) _ Tryd.underlying5 (by rfl) ?_; simp only [Act.put, List.setIfInBounds_toArray, List.set_cons_zero, List.set_cons_succ])
        refine wpQuiet_nil ?_
        refine wpPlan_pure [7, 10, 11, 12] [(false, 13)] _ (by rfl) (by rfl) ?_
        dsimp only [List.filterMap, List.getElem?_cons_zero, List.getElem?_cons_succ]
        repeat (go_big_quiet_step (fail))
        refine wpQuiet_nil ?_
        refine wpPlan_forceL _ rfl ?_
        go_wp2_with fail
        refine PlanQ.out (by rfl) ?_
        refine wpPlan_tidy ?_
        go_wp2
        exact ⟨HN.out, by simp [intOf]⟩
      · have e1 : bits .or .u64 (lo : Int) (IntKind.u64.wrap (IntKind.u64.wrap (iu8 x) * 65536)) = ((lo' : Nat) : Int) := by rw [← HO.out.1]; exact orU lo 2 65536 x (by decide) (by omega) HO.out.2.2.1
        have e2 : bits .or .u64 (hi : Int) (IntKind.u64.wrap (IntKind.u64.wrap (iu8 y) * 65536)) = ((hi' : Nat) : Int) := by rw [← HO.out.2.1]; exact orU hi 2 65536 y (by decide) (by omega) HO.out.2.2.2
        go_wp2_with fail
        refine wp_region_planT (fun w' => w'.cell? ⟨s0 + 1, 1, none⟩ = some (.int .u64 (lo : Nat)) ∧ w'.cell? ⟨bb, off + 2, none⟩ = some (.int .u8 (iu8 x))) [12] [(true, 0), (true, 2), (true, 3), (true, 4), (true, 7), (true, 8), (true, 1), (true, 5), (true, 6), (true, 9), (true, 10), (true, 11), (false, 12)] (by kernel_rfl) (by kernel_rfl) (⟨dlo, d1⟩) ?_
        refine wpPlan_pure [0, 2, 3, 4, 7, 8] [(true, 1), (true, 5), (true, 6), (true, 9), (true, 10), (true, 11), (false, 12)] _ (by rfl) (by rfl) ?_
        dsimp only [List.filterMap, List.getElem?_cons_zero, List.getElem?_cons_succ]
        repeat (go_big_quiet_step (fail))
        refine wpQuiet_nil ?_
        refine wpPlan_takeL [1, 5] [(true, 6), (true, 9), (true, 10), (true, 11), (false, 12)] _ (by rfl) (by rfl) (⟨dlo, d1⟩) ?_
        dsimp only [List.filterMap, List.getElem?_cons_zero, List.getElem?_cons_succ]
        (refine wpQuiet_load_cell (fun w' hw' => hw'.1) (by rfl) _ _ (by rfl) (by rfl) _ Tryd.underlying22 (by rfl) ?_; simp only [Act.put, List.setIfInBounds_toArray, List.set_cons_zero, List.set_cons_succ])
        (refine wpQuiet_load_cell (fun w' hw' => hw'.2) (by rfl) _ _ (by rfl) (by rfl) _ Tryd.underlying5 (by rfl) ?_; simp only [Act.put, List.setIfInBounds_toArray, List.set_cons_zero, List.set_cons_succ])
        refine wpQuiet_nil ?_
        refine wpPlan_pure [6, 9, 10, 11] [(false, 12)] _ (by rfl) (by rfl) ?_
        dsimp only [List.filterMap, List.getElem?_cons_zero, List.getElem?_cons_succ]
        repeat (go_big_quiet_step (fail))
        refine wpQuiet_nil ?_
        refine wpPlan_forceL _ rfl ?_
        go_wp2_with fail
        refine PlanQ.out (by rfl) ?_
        refine wpPlan_tidy ?_
        go_wp2_with fail
        refine wp_region_planT (fun w' => w'.cell? ⟨s0 + 1, 0, none⟩ = some (.int .u64 (hi : Nat)) ∧ w'.cell? ⟨bb, off + 10, none⟩ = some (.int .u8 (iu8 y))) [13] [(true, 0), (true, 2), (true, 3), (true, 4), (true, 5), (true, 8), (true, 9), (true, 1), (true, 6), (true, 7), (true, 10), (true, 11), (true, 12), (false, 13)] (by kernel_rfl) (by kernel_rfl) (⟨dhi', d2'⟩) ?_
        refine wpPlan_pure [0, 2, 3, 4, 5, 8, 9] [(true, 1), (true, 6), (true, 7), (true, 10), (true, 11), (true, 12), (false, 13)] _ (by rfl) (by rfl) ?_
        dsimp only [List.filterMap, List.getElem?_cons_zero, List.getElem?_cons_succ]
        repeat (go_big_quiet_step (fail))
        refine wpQuiet_nil ?_
        refine wpPlan_takeL [1, 6] [(true, 7), (true, 10), (true, 11), (true, 12), (false, 13)] _ (by rfl) (by rfl) (⟨dhi', d2'⟩) ?_
        dsimp only [List.filterMap, List.getElem?_cons_zero, List.getElem?_cons_succ]
        (refine wpQuiet_load_cell (fun w' hw' => hw'.1) (by rfl) _ _ (by rfl) (by rfl) _ Tryd.underlying22 (by rfl) ?_; simp only [Act.put, List.setIfInBounds_toArray, List.set_cons_zero, List.set_cons_succ])
        (refine wpQuiet_load_cell (fun w' hw' => hw'.2) (by rfl) _ _ (by rfl) (by rfl) _ Tryd.underlying5 (by rfl) ?_; simp only [Act.put, List.setIfInBounds_toArray, List.set_cons_zero, List.set_cons_succ])
        refine wpQuiet_nil ?_
        refine wpPlan_pure [7, 10, 11, 12] [(false, 13)] _ (by rfl) (by rfl) ?_
        dsimp only [List.filterMap, List.getElem?_cons_zero, List.getElem?_cons_succ]
        repeat (go_big_quiet_step (fail))
        refine wpQuiet_nil ?_
        refine wpPlan_forceL _ rfl ?_
        go_wp2_with fail
        refine PlanQ.out (by rfl) ?_
        refine wpPlan_tidy ?_
        go_wp2
        exact ⟨HN.out, by simp [intOf]⟩
      · have e1 : bits .or .u64 (lo : Int) (IntKind.u64.wrap (IntKind.u64.wrap (iu8 x) * 16777216)) = ((lo' : Nat) : Int) := by rw [← HO.out.1]; exact orU lo 3 16777216 x (by decide) (by omega) HO.out.2.2.1
        have e2 : bits .or .u64 (hi : Int) (IntKind.u64.wrap (IntKind.u64.wrap (iu8 y) * 16777216)) = ((hi' : Nat) : Int) := by rw [← HO.out.2.1]; exact orU hi 3 16777216 y (by decide) (by omega) HO.out.2.2.2
        go_wp2_with fail
        refine wp_region_planT (fun w' => w'.cell? ⟨s0 + 1, 1, none⟩ = some (.int .u64 (lo : Nat)) ∧ w'.cell? ⟨bb, off + 3, none⟩ = some (.int .u8 (iu8 x))) [12] [(true, 0), (true, 2), (true, 3), (true, 4), (true, 7), (true, 8), (true, 1), (true, 5), (true, 6), (true, 9), (true, 10), (true, 11), (false, 12)] (by kernel_rfl) (by kernel_rfl) (⟨dlo, d1⟩) ?_
        refine wpPlan_pure [0, 2, 3, 4, 7, 8] [(true, 1), (true, 5), (true, 6), (true, 9), (true, 10), (true, 11), (false, 12)] _ (by rfl) (by rfl) ?_
        dsimp only [List.filterMap, List.getElem?_cons_zero, List.getElem?_cons_succ]
        repeat (go_big_quiet_step (fail))
        refine wpQuiet_nil ?_
        refine wpPlan_takeL [1, 5] [(true, 6), (true, 9), (true, 10), (true, 11), (false, 12)] _ (by rfl) (by rfl) (⟨dlo, d1⟩) ?_
        dsimp only [List.filterMap, List.getElem?_cons_zero, List.getElem?_cons_succ]
        (refine wpQuiet_load_cell (fun w' hw' => hw'.1) (by rfl) _ _ (by rfl) (by rfl) _ Tryd.underlying22 (by rfl) ?_; simp only [Act.put, List.setIfInBounds_toArray, List.set_cons_zero, List.set_cons_succ])
        (refine wpQuiet_load_cell (fun w' hw' => hw'.2) (by rfl) _ _ (by rfl) (by rfl) _ Tryd.underlying5 (by rfl) ?_; simp only [Act.put, List.setIfInBounds_toArray, List.set_cons_zero, List.set_cons_succ])
        refine wpQuiet_nil ?_
        refine wpPlan_pure [6, 9, 10, 11] [(false, 12)] _ (by rfl) (by rfl) ?_
        dsimp only [List.filterMap, List.getElem?_cons_zero, List.getElem?_cons_succ]
        repeat (go_big_quiet_step (fail))
        refine wpQuiet_nil ?_
        refine wpPlan_forceL _ rfl ?_
        go_wp2_with fail
        refine PlanQ.out (by rfl) ?_
        refine wpPlan_tidy ?_
        go_wp2_with fail
        refine wp_region_planT (fun w' => w'.cell? ⟨s0 + 1, 0, none⟩ = some (.int .u64 (hi : Nat)) ∧ w'.cell? ⟨bb, off + 11, none⟩ = some (.int .u8 (iu8 y))) [13] [(true, 0), (true, 2), (true, 3), (true, 4), (true, 5), (true, 8), (true, 9), (true, 1), (true, 6), (true, 7), (true, 10), (true, 11), (true, 12), (false, 13)] (by kernel_rfl) (by kernel_rfl) (⟨dhi', d2'⟩) ?_
        refine wpPlan_pure [0, 2, 3, 4, 5, 8, 9] [(true, 1), (true, 6), (true, 7), (true, 10), (true, 11), (true, 12), (false, 13)] _ (by rfl) (by rfl) ?_
        dsimp only [List.filterMap, List.getElem?_cons_zero, List.getElem?_cons_succ]
        repeat (go_big_quiet_step (fail))
        refine wpQuiet_nil ?_
        refine wpPlan_takeL [1, 6] [(true, 7), (true, 10), (true, 11), (true, 12), (false, 13)] _ (by rfl) (by rfl) (⟨dhi', d2'⟩) ?_
        dsimp only [List.filterMap, List.getElem?_cons_zero, List.getElem?_cons_succ]
        (refine wpQuiet_load_cell (fun w' hw' => hw'.1) (by rfl) _ _ (by rfl) (by rfl) _ Tryd.underlying22 (by rfl) ?_; simp only [Act.put, List.setIfInBounds_toArray, List.set_cons_zero, List.set_cons_succ])
        (refine wpQuiet_load_cell (fun w' hw' => hw'.2) (by rfl) _ _ (by rfl) (by rfl) _ Tryd.underlying5 (by rfl) ?_; simp only [Act.put, List.setIfInBounds_toArray, List.set_cons_zero, List.set_cons_succ])
        refine wpQuiet_nil ?_
        refine wpPlan_pure [7, 10, 11, 12] [(false, 13)] _ (by rfl) (by rfl) ?_
        dsimp only [List.filterMap, List.getElem?_cons_zero, List.getElem?_cons_succ]
        repeat (go_big_quiet_step (fail))
        refine wpQuiet_nil ?_
        refine wpPlan_forceL _ rfl ?_
        go_wp2_with fail
        refine PlanQ.out (by rfl) ?_
        refine wpPlan_tidy ?_
        go_wp2
        exact ⟨HN.out, by simp [intOf]⟩
      · have e1 : bits .or .u64 (lo : Int) (IntKind.u64.wrap (IntKind.u64.wrap (iu8 x) * 4294967296)) = ((lo' : Nat) : Int) := by rw [← HO.out.1]; exact orU lo 4 4294967296 x (by decide) (by omega) HO.out.2.2.1
        have e2 : bits .or .u64 (hi : Int) (IntKind.u64.wrap (IntKind.u64.wrap (iu8 y) * 4294967296)) = ((hi' : Nat) : Int) := by rw [← HO.out.2.1]; exact orU hi 4 4294967296 y (by decide) (by omega) HO.out.2.2.2
        go_wp2_with fail
        refine wp_region_planT (fun w' => w'.cell? ⟨s0 + 1, 1, none⟩ = some (.int .u64 (lo : Nat)) ∧ w'.cell? ⟨bb, off + 4, none⟩ = some (.int .u8 (iu8 x))) [12] [(true, 0), (true, 2), (true, 3), (true, 4), (true, 7), (true, 8), (true, 1), (true, 5), (true, 6), (true, 9), (true, 10), (true, 11), (false, 12)] (by kernel_rfl) (by kernel_rfl) (⟨dlo, d1⟩) ?_
        refine wpPlan_pure [0, 2, 3, 4, 7, 8] [(true, 1), (true, 5), (true, 6), (true, 9), (true, 10), (true, 11), (false, 12)] _ (by rfl) (by rfl) ?_
        dsimp only [List.filterMap, List.getElem?_cons_zero, List.getElem?_cons_succ]
        repeat (go_big_quiet_step (fail))
        refine wpQuiet_nil ?_
        refine wpPlan_takeL [1, 5] [(true, 6), (true, 9), (true, 10), (true, 11), (false, 12)] _ (by rfl) (by rfl) (⟨dlo, d1⟩) ?_
        dsimp only [List.filterMap, List.getElem?_cons_zero, List.getElem?_cons_succ]
        (refine wpQuiet_load_cell (fun w' hw' => hw'.1) (by rfl) _ _ (by rfl) (by rfl) _ Tryd.underlying22 (by rfl) ?_; simp only [Act.put, List.setIfInBounds_toArray, List.set_cons_zero, List.set_cons_succ])
        (refine wpQuiet_load_cell (fun w' hw' => hw'.2) (by rfl) _ _ (by rfl) (by rfl) _ Tryd.underlying5 (by rfl) ?_; simp only [Act.put, List.setIfInBounds_toArray, List.set_cons_zero, List.set_cons_succ])
        refine wpQuiet_nil ?_
        refine wpPlan_pure [6, 9, 10, 11] [(false, 12)] _ (by rfl) (by rfl) ?_
        dsimp only [List.filterMap, List.getElem?_cons_zero, List.getElem?_cons_succ]
        repeat (go_big_quiet_step (fail))
        refine wpQuiet_nil ?_
        refine wpPlan_forceL _ rfl ?_
        go_wp2_with fail
        refine PlanQ.out (by rfl) ?_
        refine wpPlan_tidy ?_
        go_wp2_with fail
        refine wp_region_planT (fun w' => w'.cell? ⟨s0 + 1, 0, none⟩ = some (.int .u64 (hi : Nat)) ∧ w'.cell? ⟨bb, off + 12, none⟩ = some (.int .u8 (iu8 y))) [13] [(true, 0), (true, 2), (true, 3), (true, 4), (true, 5), (true, 8), (true, 9), (true, 1), (true, 6), (true, 7), (true, 10), (true, 11), (true, 12), (false, 13)] (by kernel_rfl) (by kernel_rfl) (⟨dhi', d2'⟩) ?_
        refine wpPlan_pure [0, 2, 3, 4, 5, 8, 9] [(true, 1), (true, 6), (true, 7), (true, 10), (true, 11), (true, 12), (false, 13)] _ (by rfl) (by rfl) ?_
        dsimp only [List.filterMap, List.getElem?_cons_zero, List.getElem?_cons_succ]
        repeat (go_big_quiet_step (fail))
        refine wpQuiet_nil ?_
        refine wpPlan_takeL [1, 6] [(true, 7), (true, 10), (true, 11), (true, 12), (false, 13)] _ (by rfl) (by rfl) (⟨dhi', d2'⟩) ?_
        dsimp only [List.filterMap, List.getElem?_cons_zero, List.getElem?_cons_succ]
        (refine wpQuiet_load_cell (fun w' hw' => hw'.1) (by rfl) _ _ (by rfl) (by rfl) _ Tryd.underlying22 (by rfl) ?_; simp only [Act.put, List.setIfInBounds_toArray, List.set_cons_zero, List.set_cons_succ])
        (refine wpQuiet_load_cell (fun w' hw' => hw'.2) (by rfl) _ _ (by rfl) (by rfl) _ Tryd.underlying5 (by rfl) ?_; simp only [Act.put, List.setIfInBounds_toArray, List.set_cons_zero, List.set_cons_succ])
        refine wpQuiet_nil ?_
        refine wpPlan_pure [7, 10, 11, 12] [(false, 13)] _ (by rfl) (by rfl) ?_
        dsimp only [List.filterMap, List.getElem?_cons_zero, List.getElem?_cons_succ]
        repeat (go_big_quiet_step (fail))
        refine wpQuiet_nil ?_
        refine wpPlan_forceL _ rfl ?_
        go_wp2_with fail
        refine PlanQ.out (by rfl) ?_
        refine wpPlan_tidy ?_
        go_wp2
        exact ⟨HN.out, by simp [intOf]⟩
      · have e1 : bits .or .u64 (lo : Int) (IntKind.u64.wrap (IntKind.u64.wrap (iu8 x) * 1099511627776)) = ((lo' : Nat) : Int) := by rw [← HO.out.1]; exact orU lo 5 1099511627776 x (by decide) (by omega) HO.out.2.2.1
        have e2 : bits .or .u64 (hi : Int) (IntKind.u64.wrap (IntKind.u64.wrap (iu8 y) * 1099511627776)) = ((hi' : Nat) : Int) := by rw [← HO.out.2.1]; exact orU hi 5 1099511627776 y (by decide) (by omega) HO.out.2.2.2
        go_wp2_with fail
        refine wp_region_planT (fun w' => w'.cell? ⟨s0 + 1, 1, none⟩ = some (.int .u64 (lo : Nat)) ∧ w'.cell? ⟨bb, off + 5, none⟩ = some (.int .u8 (iu8 x))) [12] [(true, 0), (true, 2), (true, 3), (true, 4), (true, 7), (true, 8), (true, 1), (true, 5), (true, 6), (true, 9), (true, 10), (true, 11), (false, 12)] (by kernel_rfl) (by kernel_rfl) (⟨dlo, d1⟩) ?_
        refine wpPlan_pure [0, 2, 3, 4, 7, 8] [(true, 1), (true, 5), (true, 6), (true, 9), (true, 10), (true, 11), (false, 12)] _ (by rfl) (by rfl) ?_
        dsimp only [List.filterMap, List.getElem?_cons_zero, List.getElem?_cons_succ]
        repeat (go_big_quiet_step (fail))
        refine wpQuiet_nil ?_
        refine wpPlan_takeL [1, 5] [(true, 6), (true, 9), (true, 10), (true, 11), (false, 12)] _ (by rfl) (by rfl) (⟨dlo, d1⟩) ?_
        dsimp only [List.filterMap, List.getElem?_cons_zero, List.getElem?_cons_succ]
        (refine wpQuiet_load_cell (fun w' hw' => hw'.1) (by rfl) _ _ (by rfl) (by rfl) _ Tryd.underlying22 (by rfl) ?_; simp only [Act.put, List.setIfInBounds_toArray, List.set_cons_zero, List.set_cons_succ])
        (refine wpQuiet_load_cell (fun w' hw' => hw'.2) (by rfl) _ _ (by rfl) (by rfl) _ Tryd.underlying5 (by rfl) ?_; simp only [Act.put, List.setIfInBounds_toArray, List.set_cons_zero, List.set_cons_succ])
        refine wpQuiet_nil ?_
        refine wpPlan_pure [6, 9, 10, 11] [(false, 12)] _ (by rfl) (by rfl) ?_
        dsimp only [List.filterMap, List.getElem?_cons_zero, List.getElem?_cons_succ]
        repeat (go_big_quiet_step (fail))
        refine wpQuiet_nil ?_
        refine wpPlan_forceL _ rfl ?_
        go_wp2_with fail
        refine PlanQ.out (by rfl) ?_
        refine wpPlan_tidy ?_
        go_wp2_with fail
        refine wp_region_planT (fun w' => w'.cell? ⟨s0 + 1, 0, none⟩ = some (.int .u64 (hi : Nat)) ∧ w'.cell? ⟨bb, off + 13, none⟩ = some (.int .u8 (iu8 y))) [13] [(true, 0), (true, 2), (true, 3), (true, 4), (true, 5), (true, 8), (true, 9), (true, 1), (true, 6), (true, 7), (true, 10), (true, 11), (true, 12), (false, 13)] (by kernel_rfl) (by kernel_rfl) (⟨dhi', d2'⟩) ?_
        refine wpPlan_pure [0, 2, 3, 4, 5, 8, 9] [(true, 1), (true, 6), (true, 7), (true, 10), (true, 11), (true, 12), (false, 13)] _ (by rfl) (by rfl) ?_
        dsimp only [List.filterMap, List.getElem?_cons_zero, List.getElem?_cons_succ]
        repeat (go_big_quiet_step (fail))
        refine wpQuiet_nil ?_
        refine wpPlan_takeL [1, 6] [(true, 7), (true, 10), (true, 11), (true, 12), (false, 13)] _ (by rfl) (by rfl) (⟨dhi', d2'⟩) ?_
        dsimp only [List.filterMap, List.getElem?_cons_zero, List.getElem?_cons_succ]
        (refine wpQuiet_load_cell (fun w' hw' => hw'.1) (by rfl) _ _ (by rfl) (by rfl) _ Tryd.underlying22 (by rfl) ?_; simp only [Act.put, List.setIfInBounds_toArray, List.set_cons_zero, List.set_cons_succ])
        (refine wpQuiet_load_cell (fun w' hw' => hw'.2) (by rfl) _ _ (by rfl) (by rfl) _ Tryd.underlying5 (by rfl) ?_; simp only [Act.put, List.setIfInBounds_toArray, List.set_cons_zero, List.set_cons_succ])
        refine wpQuiet_nil ?_
        refine wpPlan_pure [7, 10, 11, 12] [(false, 13)] _ (by rfl) (by rfl) ?_
        dsimp only [List.filterMap, List.getElem?_cons_zero, List.getElem?_cons_succ]
        repeat (go_big_quiet_step (fail))
        refine wpQuiet_nil ?_
        refine wpPlan_forceL _ rfl ?_
        go_wp2_with fail
        refine PlanQ.out (by rfl) ?_
        refine wpPlan_tidy ?_
        go_wp2
        exact ⟨HN.out, by simp [intOf]⟩
      · have e1 : bits .or .u64 (lo : Int) (IntKind.u64.wrap (IntKind.u64.wrap (iu8 x) * 281474976710656)) = ((lo' : Nat) : Int) := by rw [← HO.out.1]; exact orU lo 6 281474976710656 x (by decide) (by omega) HO.out.2.2.1
        have e2 : bits .or .u64 (hi : Int) (IntKind.u64.wrap (IntKind.u64.wrap (iu8 y) * 281474976710656)) = ((hi' : Nat) : Int) := by rw [← HO.out.2.1]; exact orU hi 6 281474976710656 y (by decide) (by omega) HO.out.2.2.2
        go_wp2_with fail
        refine wp_region_planT (fun w' => w'.cell? ⟨s0 + 1, 1, none⟩ = some (.int .u64 (lo : Nat)) ∧ w'.cell? ⟨bb, off + 6, none⟩ = some (.int .u8 (iu8 x))) [12] [(true, 0), (true, 2), (true, 3), (true, 4), (true, 7), (true, 8), (true, 1), (true, 5), (true, 6), (true, 9), (true, 10), (true, 11), (false, 12)] (by kernel_rfl) (by kernel_rfl) (⟨dlo, d1⟩) ?_
        refine wpPlan_pure [0, 2, 3, 4, 7, 8] [(true, 1), (true, 5), (true, 6), (true, 9), (true, 10), (true, 11), (false, 12)] _ (by rfl) (by rfl) ?_
        dsimp only [List.filterMap, List.getElem?_cons_zero, List.getElem?_cons_succ]
        repeat (go_big_quiet_step (fail))
        refine wpQuiet_nil ?_
        refine wpPlan_takeL [1, 5] [(true, 6), (true, 9), (true, 10), (true, 11), (false, 12)] _ (by rfl) (by rfl) (⟨dlo, d1⟩) ?_
        dsimp only [List.filterMap, List.getElem?_cons_zero, List.getElem?_cons_succ]
        (refine wpQuiet_load_cell (fun w' hw' => hw'.1) (by rfl) _ _ (by rfl) (by rfl) _ Tryd.underlying22 (by rfl) ?_; simp only [Act.put, List.setIfInBounds_toArray, List.set_cons_zero, List.set_cons_succ])
        (refine wpQuiet_load_cell (fun w' hw' => hw'.2) (by rfl) _ _ (by rfl) (by rfl) _ Tryd.underlying5 (by rfl) ?_; simp only [Act.put, List.setIfInBounds_toArray, List.set_cons_zero, List.set_cons_succ])
        refine wpQuiet_nil ?_
        refine wpPlan_pure [6, 9, 10, 11] [(false, 12)] _ (by rfl) (by rfl) ?_
        dsimp only [List.filterMap, List.getElem?_cons_zero, List.getElem?_cons_succ]
        repeat (go_big_quiet_step (fail))
        refine wpQuiet_nil ?_
        refine wpPlan_forceL _ rfl ?_
        go_wp2_with fail
        refine PlanQ.out (by rfl) ?_
        refine wpPlan_tidy ?_
        go_wp2_with fail
        refine wp_region_planT (fun w' => w'.cell? ⟨s0 + 1, 0, none⟩ = some (.int .u64 (hi : Nat)) ∧ w'.cell? ⟨bb, off + 14, none⟩ = some (.int .u8 (iu8 y))) [13] [(true, 0), (true, 2), (true, 3), (true, 4), (true, 5), (true, 8), (true, 9), (true, 1), (true, 6), (true, 7), (true, 10), (true, 11), (true, 12), (false, 13)] (by kernel_rfl) (by kernel_rfl) (⟨dhi', d2'⟩) ?_
        refine wpPlan_pure [0, 2, 3, 4, 5, 8, 9] [(true, 1), (true, 6), (true, 7), (true, 10), (true, 11), (true, 12), (false, 13)] _ (by rfl) (by rfl) ?_
        dsimp only [List.filterMap, List.getElem?_cons_zero, List.getElem?_cons_succ]
        repeat (go_big_quiet_step (fail))
        refine wpQuiet_nil ?_
        refine wpPlan_takeL [1, 6] [(true, 7), (true, 10), (true, 11), (true, 12), (false, 13)] _ (by rfl) (by rfl) (⟨dhi', d2'⟩) ?_
        dsimp only [List.filterMap, List.getElem?_cons_zero, List.getElem?_cons_succ]
        (refine wpQuiet_load_cell (fun w' hw' => hw'.1) (by rfl) _ _ (by rfl) (by rfl) _ Tryd.underlying22 (by rfl) ?_; simp only [Act.put, List.setIfInBounds_toArray, List.set_cons_zero, List.set_cons_succ])
        (refine wpQuiet_load_cell (fun w' hw' => hw'.2) (by rfl) _ _ (by rfl) (by rfl) _ Tryd.underlying5 (by rfl) ?_; simp only [Act.put, List.setIfInBounds_toArray, List.set_cons_zero, List.set_cons_succ])
        refine wpQuiet_nil ?_
        refine wpPlan_pure [7, 10, 11, 12] [(false, 13)] _ (by rfl) (by rfl) ?_
        dsimp only [List.filterMap, List.getElem?_cons_zero, List.getElem?_cons_succ]
        repeat (go_big_quiet_step (fail))
        refine wpQuiet_nil ?_
        refine wpPlan_forceL _ rfl ?_
        go_wp2_with fail
        refine PlanQ.out (by rfl) ?_
        refine wpPlan_tidy ?_
        go_wp2
        exact ⟨HN.out, by simp [intOf]⟩
      · have e1 : bits .or .u64 (lo : Int) (IntKind.u64.wrap (IntKind.u64.wrap (iu8 x) * 72057594037927936)) = ((lo' : Nat) : Int) := by rw [← HO.out.1]; exact orU lo 7 72057594037927936 x (by decide) (by omega) HO.out.2.2.1
        have e2 : bits .or .u64 (hi : Int) (IntKind.u64.wrap (IntKind.u64.wrap (iu8 y) * 72057594037927936)) = ((hi' : Nat) : Int) := by rw [← HO.out.2.1]; exact orU hi 7 72057594037927936 y (by decide) (by omega) HO.out.2.2.2
        go_wp2_with fail
        refine wp_region_planT (fun w' => w'.cell? ⟨s0 + 1, 1, none⟩ = some (.int .u64 (lo : Nat)) ∧ w'.cell? ⟨bb, off + 7, none⟩ = some (.int .u8 (iu8 x))) [12] [(true, 0), (true, 2), (true, 3), (true, 4), (true, 7), (true, 8), (true, 1), (true, 5), (true, 6), (true, 9), (true, 10), (true, 11), (false, 12)] (by kernel_rfl) (by kernel_rfl) (⟨dlo, d1⟩) ?_
        refine wpPlan_pure [0, 2, 3, 4, 7, 8] [(true, 1), (true, 5), (true, 6), (true, 9), (true, 10), (true, 11), (false, 12)] _ (by rfl) (by rfl) ?_
        dsimp only [List.filterMap, List.getElem?_cons_zero, List.getElem?_cons_succ]
        repeat (go_big_quiet_step (fail))
        refine wpQuiet_nil ?_
        refine wpPlan_takeL [1, 5] [(true, 6), (true, 9), (true, 10), (true, 11), (false, 12)] _ (by rfl) (by rfl) (⟨dlo, d1⟩) ?_
        dsimp only [List.filterMap, List.getElem?_cons_zero, List.getElem?_cons_succ]
        (refine wpQuiet_load_cell (fun w' hw' => hw'.1) (by rfl) _ _ (by rfl) (by rfl) _ Tryd.underlying22 (by rfl) ?_; simp only [Act.put, List.setIfInBounds_toArray, List.set_cons_zero, List.set_cons_succ])
        (refine wpQuiet_load_cell (fun w' hw' => hw'.2) (by rfl) _ _ (by rfl) (by rfl) _ Tryd.underlying5 (by rfl) ?_; simp only [Act.put, List.setIfInBounds_toArray, List.set_cons_zero, List.set_cons_succ])
        refine wpQuiet_nil ?_
        refine wpPlan_pure [6, 9, 10, 11] [(false, 12)] _ (by rfl) (by rfl) ?_
        dsimp only [List.filterMap, List.getElem?_cons_zero, List.getElem?_cons_succ]
        repeat (go_big_quiet_step (fail))
        refine wpQuiet_nil ?_
        refine wpPlan_forceL _ rfl ?_
        go_wp2_with fail
        refine PlanQ.out (by rfl) ?_
        refine wpPlan_tidy ?_
        go_wp2_with fail
        refine wp_region_planT (fun w' => w'.cell? ⟨s0 + 1, 0, none⟩ = some (.int .u64 (hi : Nat)) ∧ w'.cell? ⟨bb, off + 15, none⟩ = some (.int .u8 (iu8 y))) [13] [(true, 0), (true, 2), (true, 3), (true, 4), (true, 5), (true, 8), (true, 9), (true, 1), (true, 6), (true, 7), (true, 10), (true, 11), (true, 12), (false, 13)] (by kernel_rfl) (by kernel_rfl) (⟨dhi', d2'⟩) ?_
        refine wpPlan_pure [0, 2, 3, 4, 5, 8, 9] [(true, 1), (true, 6), (true, 7), (true, 10), (true, 11), (true, 12), (false, 13)] _ (by rfl) (by rfl) ?_
        dsimp only [List.filterMap, List.getElem?_cons_zero, List.getElem?_cons_succ]
        repeat (go_big_quiet_step (fail))
        refine wpQuiet_nil ?_
        refine wpPlan_takeL [1, 6] [(true, 7), (true, 10), (true, 11), (true, 12), (false, 13)] _ (by rfl) (by rfl) (⟨dhi', d2'⟩) ?_
        dsimp only [List.filterMap, List.getElem?_cons_zero, List.getElem?_cons_succ]
        (refine wpQuiet_load_cell (fun w' hw' => hw'.1) (by rfl) _ _ (by rfl) (by rfl) _ Tryd.underlying22 (by rfl) ?_; simp only [Act.put, List.setIfInBounds_toArray, List.set_cons_zero, List.set_cons_succ])
        (refine wpQuiet_load_cell (fun w' hw' => hw'.2) (by rfl) _ _ (by rfl) (by rfl) _ Tryd.underlying5 (by rfl) ?_; simp only [Act.put, List.setIfInBounds_toArray, List.set_cons_zero, List.set_cons_succ])
        refine wpQuiet_nil ?_
        refine wpPlan_pure [7, 10, 11, 12] [(false, 13)] _ (by rfl) (by rfl) ?_
        dsimp only [List.filterMap, List.getElem?_cons_zero, List.getElem?_cons_succ]
        repeat (go_big_quiet_step (fail))
        refine wpQuiet_nil ?_
        refine wpPlan_forceL _ rfl ?_
        go_wp2_with fail
        refine PlanQ.out (by rfl) ?_
        refine wpPlan_tidy ?_
        go_wp2
        exact ⟨HN.out, by simp [intOf]⟩
    · obtain rfl : j = 8 := by omega
      rw [lpart_8, lpart_8] at hg
      have HB := Lib.hid (hB.out.upd hu hge)
      have hz := h1.upd hu (show s0 ≠ s0 + 1 by omega)
      clear hu hc3 hcr h1 h2 hj hlt
      rw [show ((8 : Nat) : Int) = 8 from rfl]
      obtain ⟨hi, hhi⟩ : ∃ n, n = at8 l 8 := ⟨_, rfl⟩
      obtain ⟨lo, hlo⟩ : ∃ n, n = at8 l 0 := ⟨_, rfl⟩
      rw [← hhi, ← hlo] at hg
      have HE := Lib.hid (And.intro hhi hlo)
      clear hhi hlo
      go_wp2_with (first
        | (show wpList _ _ _ ((⟨some 39, _, _, _, _, _⟩ : Oper) :: _) _ _; refine wpList_load_blk (o := ⟨some 39, _, _, _, _, _⟩) (hg) (by rfl) _ _ (by rfl) (by rfl) _ Tryd.underlying24 (by rfl) (sizeU) (by rfl) ?_)
        | (show wpList _ _ _ ((⟨none, _, _, _, _, _⟩ : Oper) :: _) _ _; refine wpList_store_blk (o := ⟨none, _, _, _, _, _⟩) (hz) (by rfl) _ _ _ (by rfl) (by rfl) (u128c hi lo) (by rfl) (sizeU) (by rfl) (by rfl) (by simp [u128c, Value.oneCell']) ?_; intro w5 h5 hu5; have HB5 := Lib.hid (HB.out.upd hu5 (by omega)))
        | fail)
      refine bodyPost_ret (results_row_tmp (by rfl) _ _ s0 _ _ _ (by rfl) h5 Tryd.underlying24 (by rfl) sizeU) rfl ⟨by rw [HE.out.1, HE.out.2]; rfl, HB5.out⟩
end Go.Proofs.YtekdcjaljjlemaaDoor

/- Fields laid as bytes, four each. Conditions: the list of bytes lies in a block of its own with room for all; the numbers are from 0 on and below 2^32. -/
namespace Go.Proofs.YtekdcjaljjlemaaDoor
open Go.RowKit
theorem put4_app (Q R : List UInt8) (n : Nat) : put4 (Q ++ R) Q.length n = Q ++ (le4 n ++ R.drop 4) := by
  unfold put4; rw [List.take_left, List.drop_append]
  rw [List.drop_eq_nil_of_le (by omega), List.nil_append, Nat.add_sub_cancel_left]
theorem four_snoc (f : HdF) (l : List Nat) (i : Nat) : four_ f (l ++ [i]) = four_ f l ++ le4 (f i).toNat := by unfold four_; rw [List.flatMap_append]; simp
def midF (f : HdF) (P R : List UInt8) (idx : List Nat) (j : Nat) : List UInt8 := P ++ (four_ f (idx.take j) ++ R.drop (4 * j))
theorem midF_length (f : HdF) (P R : List UInt8) (idx : List Nat) (j : Nat) (hj : j ≤ idx.length) (hR : 4 * idx.length ≤ R.length) : (midF f P R idx j).length = P.length + R.length := by
  unfold midF; rw [List.length_append, List.length_append, four_length, List.length_take, List.length_drop]; omega
theorem midF_succ (f : HdF) (P R : List UInt8) (idx : List Nat) (j : Nat) (hj : j < idx.length) : put4 (midF f P R idx j) (P.length + 4 * j) (f (idx.getD j 0)).toNat = midF f P R idx (j + 1) := by
  have e : midF f P R idx j = (P ++ four_ f (idx.take j)) ++ R.drop (4 * j) := by unfold midF; rw [List.append_assoc]
  have hl : (P ++ four_ f (idx.take j)).length = P.length + 4 * j := by rw [List.length_append, four_length, List.length_take]; omega
  rw [e, ← hl, put4_app, List.drop_drop]
  unfold midF
  have hg : idx.getD j 0 = idx[j] := by rw [List.getD_eq_getElem?_getD, List.getElem?_eq_getElem hj]; rfl
  rw [List.take_succ_eq_append_getElem hj, ← hg, four_snoc, show 4 * j + 4 = 4 * (j + 1) by omega]
  simp only [List.append_assoc]
def FourO (w : World) (g : Nat) (t : TypeId) (f : HdF) (P R : List UInt8) (idx : List Nat) (v : Value) (wr : World) : Prop :=
  ∃ j : Nat, j ≤ idx.length ∧ v = .int .i64 (j : Int) ∧ Blk wr g t ((midF f P R idx j).map u8v).toArray ∧ Upd g w wr
def FourI (w : World) (g : Nat) (t : TypeId) (L : List UInt8) (off n : Nat) (v : Value) (wr : World) : Prop :=
  ∃ k : Nat, k ≤ 4 ∧ v = .int .i64 (k : Int) ∧ Blk wr g t ((put4r L off n k).map u8v).toArray ∧ Upd g w wr
set_option maxHeartbeats 1000000 in
theorem hfour_any (g len cap hb : Nat) (t : TypeId) (f : HdF) (P R : List UInt8) (idx : List Nat) (pb po pc : Nat) (h4 : 4 * idx.length ≤ len) (hR : 4 * idx.length ≤ R.length) (hlen : len ≤ 1000000) (w : World)
    (hg : Blk w g t ((P ++ R).map u8v).toArray) (hp : ∀ j, j < idx.length → w.cell? ⟨pb, po + j, none⟩ = some (.pointer (some ⟨hb, idx.getD j 0, none⟩)))
    (hf : ∀ j, j < idx.length → w.cell? ⟨hb, idx.getD j 0, none⟩ = some (.int .i64 (f (idx.getD j 0))) ∧ 0 ≤ f (idx.getD j 0) ∧ f (idx.getD j 0) < 4294967296) (hne : pb ≠ g ∧ hb ≠ g) :
    Calls Tryd.prog 55 #[.slice (some ⟨g, P.length, none⟩) len cap, .slice (some ⟨pb, po, none⟩) idx.length pc] w fun e w' =>
      e = .returned (.tuple #[]) ∧ Blk w' g t ((P ++ (four_ f idx ++ R.drop (4 * idx.length))).map u8v).toArray ∧ Upd g w w' := by
  go_enter Tryd.func55, Tryd.ntmps55
  go_wp2
  go_loopw [9] (fun v wr => FourO w g t f P R idx v wr) (fun v _ => idx.length - (intOf v).toNat)
  case atStart => exact ⟨0, by omega, rfl, by simpa [midF, four_] using hg, Upd.refl _ _⟩
  case round =>
    obtain ⟨j, hj, rfl, hgj, hu⟩ := hrel
    clear hg
    by_cases hjl : j < idx.length
    · have dp := (World.cell?_of_block (hu.block pb hne.1)).trans (hp j hjl)
      obtain ⟨hf1, hf2, hf3⟩ := hf j hjl
      have df := (World.cell?_of_block (hu.block hb hne.2)).trans hf1
      have hL := midF_length f P R idx j hj hR
      have hnx := midF_succ f P R idx j hjl
      obtain ⟨L, hLL⟩ : ∃ L, L = midF f P R idx j := ⟨_, rfl⟩
      rw [← hLL] at hgj hL hnx
      have HN := Lib.hid hnx
      obtain ⟨off, hoff⟩ : ∃ off, off = P.length := ⟨_, rfl⟩
      rw [← hoff] at HN ⊢
      have hroom : off + 4 * j + 4 ≤ L.length := by rw [hL, hoff]; omega
      generalize idx.getD j 0 = i at dp df hf1 hf2 hf3 HN
      obtain ⟨n, hn⟩ : ∃ n : Nat, f i = (n : Int) := ⟨(f i).toNat, by omega⟩
      have hn2 : n < 4294967296 := by omega
      rw [hn] at df HN
      rw [Int.toNat_natCast] at HN
      have HU := Lib.hid hu
      have HF := Lib.hid (And.intro hp hf)
      clear hL hLL hnx hoff hn hf1 hf2 hf3 hu hp hf
      generalize wr = w7 at hgj dp df HU ⊢
      go_wp2_with fail
      go_loopw [14] (fun v wr => FourI w7 g t L (off + 4 * j) n v wr) (fun v _ => 4 - (intOf v).toNat)
      case atStart => exact ⟨0, by omega, rfl, by rw [put4r_zero]; exact hgj, Upd.refl _ _⟩
      case round =>
        clear hgj dp
        obtain ⟨k, hk, rfl, hgk, hu2⟩ := hrel
        have dx := (World.cell?_of_block (hu2.block hb hne.2)).trans df
        by_cases hlt : k < 4
        · have fz := hgk.frozen (off + (4 * j + k))
          have hjl2 : off + 4 * j + k < (put4r L (off + 4 * j) n k).length := by rw [put4r_length L _ n k hroom (by omega)]; omega
          have dz : ∃ v, wr.cell? ⟨g, off + (4 * j + k), none⟩ = some v := ⟨_, (hgk.cell (off + (4 * j + k))).trans (by rw [← Nat.add_assoc, List.getElem?_toArray, List.getElem?_map, List.getElem?_eq_getElem hjl2]; rfl)⟩
          obtain ⟨v, dz⟩ := dz
          have hs := put4r_set L (off + 4 * j) n k hroom hlt _ rfl
          have ho := hgk.set_ (off + 4 * j + k) (.int .u8 (iu8 ((le4 n).getD k 0)))
          rw [hs] at ho
          have hu' := hu2.set (off + 4 * j + k) (.int .u8 (iu8 ((le4 n).getD k 0)))
          rw [Nat.add_assoc] at ho hu'
          have HO := Lib.hid (And.intro ho hu')
          clear hs ho hu' hjl2 hgk hu2 hroom
          have hcase : k = 0 ∨ k = 1 ∨ k = 2 ∨ k = 3 := by omega
          rcases hcase with rfl | rfl | rfl | rfl
          · rw [Nat.add_zero] at fz dz
            go_wp2
            rw [le4_v0]
            exact ⟨⟨1, by omega, rfl, HO.out⟩, by simp [intOf]⟩
          · go_wp2
            rw [le4_v1]
            exact ⟨⟨2, by omega, rfl, HO.out⟩, by simp [intOf]⟩
          · go_wp2
            rw [le4_v2]
            exact ⟨⟨3, by omega, rfl, HO.out⟩, by simp [intOf]⟩
          · go_wp2
            rw [le4_v3 n hn2]
            exact ⟨⟨4, by omega, rfl, HO.out⟩, by simp [intOf]⟩
        · obtain rfl : k = 4 := by omega
          rw [put4r_four, HN.out] at hgk
          have HE := Lib.hid (And.intro hgk (HU.out.trans hu2))
          clear hgk hu2 hroom
          go_wp2
          go_roundw
          case rel => exact ⟨j + 1, by omega, by go_num, HE.out⟩
          case measure => simp [intOf]; omega
    · obtain rfl : j = idx.length := by omega
      have e : midF f P R idx idx.length = P ++ (four_ f idx ++ R.drop (4 * idx.length)) := by unfold midF; rw [List.take_length]
      rw [e] at hgj
      have HG := Lib.hid (And.intro hgj hu)
      clear hgj hu hp hf e
      go_wp2
      refine bodyPost_end (v := .tuple #[]) (by simp [results]) rfl ⟨rfl, HG.out.1, HG.out.2⟩
end Go.Proofs.YtekdcjaljjlemaaDoor

/- copy(d, s), d in an own block of bytes from a place on. Plain facts over any program. No condition. -/
namespace Go
open Go.RowKit
/-- copy(d, s), d in an own block of bytes from a place on. -/
theorem wpList_copy_at {P : Program} {w : World} {ops : Array Oper} {rest : List Oper} {o : Oper} {a : Act} {Q : Exit → Act → World → Prop} (hgd : o.guard = none) (d s : Operand) (dT sT : TypeId)
    (ho : o.op = .call { callee := .builtin .copy, args := #[d, s], argTypes := #[dT, sT] }) (elem : TypeId) (hu : P.underlying dT = some (.slice elem)) (hsz : (P.info? elem).map (·.size) = some 1)
    (g off dLen dCap : Nat) (A : Option Addr) (sLen sCap : Nat) (hd : a.eval d = .slice (some ⟨g, off, none⟩) dLen dCap) (hs : a.eval s = .slice A sLen sCap)
    (cur l : List UInt8) (t : TypeId) (hg : Blk w g t (cur.map u8v).toArray) (hn : l.length = sLen) (hb : Bytes w A l) (hfit : off + l.length ≤ cur.length) (hfit2 : l.length ≤ dLen)
    (h : ∀ w', Blk w' g t ((cur.take off ++ (l ++ cur.drop (off + l.length))).map u8v).toArray → Upd g w w' → wpList P ops Q rest (a.put o.dst (goInt l.length)) w') : wpList P ops Q (o :: rest) a w := by
  by_cases h0 : l.length = 0
  · obtain rfl : l = [] := List.eq_nil_of_length_eq_zero h0
    simp at hn
    subst hn
    refine wpList_copy_nothing hgd d s dT sT ho elem hu hsz _ A dLen dCap 0 sCap hd hs (by simp) ?_
    exact h w (by simpa using hg) ⟨rfl, rfl, rfl, rfl, fun _ _ => rfl⟩
  · obtain ⟨b, soff, rfl, _, hc⟩ := hb.at_ (by omega)
    have := wpList_copy_own (Q := Q) (rest := rest) (ops := ops) (w := w) hgd d s dT sT ho elem hu hsz g off dLen dCap ⟨b, soff, none⟩ sLen sCap hd hs (cur.map u8v).toArray t hg (l.map u8v) (by rw [List.length_map, hn]; exact (Nat.min_eq_left (by omega)).symm)
      (fun j v hv => by
        have hj : j < l.length := by
          rcases Nat.lt_or_ge j l.length with h1 | h1
          · exact h1
          · simp [List.getElem?_eq_none h1] at hv
        have h2 := hc j hj
        simp [hj] at hv
        rw [Addr.add_lit, h2, ← hv]; simp [u8v, hj]) (by simpa using hfit) (u8v_one l)
    refine this ?_
    have e1 : ((((cur.map u8v).toArray.toList.take off) ++ (l.map u8v ++ (cur.map u8v).toArray.toList.drop (off + (l.map u8v).length))).toArray) = ((cur.take off ++ (l ++ cur.drop (off + l.length))).map u8v).toArray := by simp
    rw [e1]
    have e2 : ((l.map u8v).length : Int) = (l.length : Int) := by simp
    rw [e2]
    exact h _ (hg.setRow _) (Upd.setRow _ _ _)
end Go
