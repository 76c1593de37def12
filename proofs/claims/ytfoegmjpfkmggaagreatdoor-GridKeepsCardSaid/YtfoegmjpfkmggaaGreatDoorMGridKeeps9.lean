/- The program's set of blocks: whether it is none, how a block is. Conditions: the set's block is known. -/
import Derived.Test.YtfoegmjpfkmggaaGreatDoorMGridKeeps8
namespace Go.Proofs.YtfoegmjpfkmggaaGreatDoor
open Go.RowKit
def isAt (L : List Nat) (b : Int) : Int := if 1 ≤ b ∧ b ≤ L.length then (L.getD (b - 1).toNat 0 : Nat) else -1
theorem none_any (L : List Nat) (g : Nat) (w : World) (h : Blk w g 220 (setCells L)) :
    Calls Tryz.prog 149 #[.pointer (some ⟨g, 0, none⟩)] w fun e w' => e = .returned (.bool (decide (L.length = 0))) ∧ w = w' := by
  have d0 : w.cell? ⟨g, 0, none⟩ = some (.int .i64 (L.length : Nat)) := h.at_ 0 (by rw [setCells, arr_at _ (by omega), setv_0])
  have hE : (((L.length : Nat) : Int) == 0) = decide (L.length = 0) := by rw [Bool.eq_iff_iff]; simp
  go_enter Tryz.func149, Tryz.ntmps149
  go_wp2
  go_ret
  exact ⟨by simp, rfl⟩
theorem bit_one (T r : Nat) (hT : T < 18446744073709551616) : bits .and .u64 ((T : Int) / 2 ^ r) 1 = ((T / 2 ^ r % 2 : Nat) : Int) := by
  have e : ((T : Int) / 2 ^ r) = ((T / 2 ^ r : Nat) : Int) := by simp
  have := u64_and_nat (T / 2 ^ r) 1 (Nat.lt_of_le_of_lt (Nat.div_le_self _ _) hT) (by omega)
  rw [e]
  rw [nat_mask1] at this
  exact this
set_option maxRecDepth 100000 in
set_option maxHeartbeats 1000000 in
theorem is_any (L : List Nat) (hok : SetOk L) (h0 : 0 < L.length) (g : Nat) (b : Int) (hb1 : -9223372036854775808 ≤ b) (hb2 : b ≤ 9223372036854775807) (w : World) (h : Blk w g 220 (setCells L)) :
    Calls Tryz.prog 171 #[.pointer (some ⟨g, 0, none⟩), .int .i64 b] w fun e w' => e = .returned (.int .i64 (isAt L b)) ∧ ∃ n, w' = w.drewN n := by
  have hl := hok.len
  have d0 : w.cell? ⟨g, 0, none⟩ = some (.int .i64 (L.length : Nat)) := h.at_ 0 (by rw [setCells, arr_at _ (by omega), setv_0])
  have hn := none_any L g w h
  rw [decide_eq_false (by omega)] at hn
  by_cases c1 : b < 1
  · have e : isAt L b = -1 := by unfold isAt; rw [if_neg (by omega)]
    rw [e]
    go_enter Tryz.func171, Tryz.ntmps171
    go_wp2_with (go_at_call 149; refine hn.mono ?_; rintro e w' ⟨rfl, rfl⟩)
    go_ret
    exact ⟨rfl, 0, rfl⟩
  by_cases c2 : (L.length : Int) < b
  · have e : isAt L b = -1 := by unfold isAt; rw [if_neg (by omega)]
    rw [e]
    go_enter Tryz.func171, Tryz.ntmps171
    go_wp2_with (go_at_call 149; refine hn.mono ?_; rintro e w' ⟨rfl, rfl⟩)
    go_ret
    exact ⟨rfl, 0, rfl⟩
  obtain ⟨q, r, hr, rfl⟩ : ∃ q r : Nat, r < 64 ∧ b = (64 * (q : Int) + r) + 1 := ⟨(b - 1).toNat / 64, (b - 1).toNat % 64, Nat.mod_lt _ (by omega), by omega⟩
  have hq : q < 8 := by omega
  have e : isAt L ((64 * (q : Int) + r) + 1) = ((tw L q / 2 ^ r % 2 : Nat) : Int) + ((gw L q / 2 ^ r % 2 : Nat) : Int) := by
    unfold isAt; rw [if_pos (by omega)]
    have e1 : ((64 * (q : Int) + r) + 1 - 1).toNat = 64 * q + r := by omega
    rw [e1, ← is_eq L hok q r hr]; omega
  rw [e]
  have d1 : w.cell? ⟨g, 1 + q, none⟩ = some (.int .u64 (tw L q : Nat)) := h.at_ (1 + q) (by rw [setCells, arr_at _ (by omega), setv_t _ _ hq])
  have d2 : w.cell? ⟨g, 9 + q, none⟩ = some (.int .u64 (gw L q : Nat)) := h.at_ (9 + q) (by rw [setCells, arr_at _ (by omega), setv_g])
  have hT := tw_lt L q
  have hG := gw_lt L q
  generalize tw L q = T at hT d1 ⊢
  generalize gw L q = G at hG d2 ⊢
  have eq1 : (64 * (q : Int) + r) / 64 = q := by omega
  have eq2 : (64 * (q : Int) + r) % 64 = r := by omega
  have B1 := bit_one T r hT
  have B2 := bit_one G r hG
  have hB1 := Lib.hid B1
  have hB2 := Lib.hid B2
  clear hT hG e hb1 hb2 B1 B2
  go_enter Tryz.func171, Tryz.ntmps171
  go_wp2_with (go_at_call 149; refine hn.mono ?_; rintro e w' ⟨rfl, rfl⟩)
  clear c1 c2 hn h hok hl h0
  go_quiet (fail)
  go_wp2
  go_ret
  refine ⟨ret_int ?_, _, rfl⟩
  rw [hB1.out, hB2.out]
  have h1 := Nat.mod_lt (T / 2 ^ r) (show 0 < 2 by omega)
  have h2 := Nat.mod_lt (G / 2 ^ r) (show 0 < 2 by omega)
  generalize T / 2 ^ r % 2 = x at h1 ⊢
  generalize G / 2 ^ r % 2 = y at h2 ⊢
  rw [IntWalk.wrap64_in (x : Int) ⟨by omega, by omega⟩, IntWalk.wrap64_in (y : Int) ⟨by omega, by omega⟩, IntWalk.wrap64_in _ ⟨by omega, by omega⟩]
end Go.Proofs.YtfoegmjpfkmggaaGreatDoor

/- The program's set of blocks: made, turned, taken, let go. Conditions: the set's block is known. -/
namespace Go.Proofs.YtfoegmjpfkmggaaGreatDoor
open Go.RowKit
theorem setCells_new (n : Nat) : setCells (List.replicate n 0) = #[.int .i64 (n : Int), .int .u64 0, .int .u64 0, .int .u64 0, .int .u64 0, .int .u64 0, .int .u64 0, .int .u64 0, .int .u64 0, .int .u64 0, .int .u64 0, .int .u64 0, .int .u64 0, .int .u64 0, .int .u64 0, .int .u64 0, .int .u64 0] := by
  have e : ∀ i, (List.replicate n 0).getD i 0 = 0 := fun i => by
    rw [List.getD_eq_getElem?_getD, List.getElem?_replicate]; split <;> rfl
  have t : ∀ w, tw (List.replicate n 0) w = 0 := fun w => wf_none (fun i _ => by rw [e]; rfl)
  have g : ∀ w, gw (List.replicate n 0) w = 0 := fun w => wf_none (fun i _ => by rw [e]; rfl)
  unfold setCells
  have : arr 17 (setv (List.replicate n 0)) = arr 17 (fun i => if i = 0 then .int .i64 (n : Int) else .int .u64 0) := arr_congr fun i _ => by
    unfold setv
    split
    · simp
    · split
      · rw [t]; rfl
      · rw [g]; rfl
  rw [this]
  apply Array.ext'
  simp [arr, List.ofFn_succ]
theorem setOk_new (n : Nat) (h : n ≤ 512) : SetOk (List.replicate n 0) :=
  ⟨by simpa using h, fun i => by rw [List.getD_eq_getElem?_getD, List.getElem?_replicate]; split <;> simp⟩
theorem new_bad (n : Int) (h : n < 1 ∨ 512 < n) (w : World) :
    Calls Tryz.prog 111 #[.int .i64 n] w fun e w' => e = .returned (.tuple #[.pointer none, .int .i64 5]) ∧ w = w' := by
  rcases h with h | h
  · go_enter Tryz.func111, Tryz.ntmps111
    go_wp2
    go_ret2
    exact ⟨rfl, rfl⟩
  · have h1 : 1 ≤ n := by omega
    go_enter Tryz.func111, Tryz.ntmps111
    go_wp2
    go_ret2
    exact ⟨rfl, rfl⟩
theorem setNew_any (n : Nat) (h0 : 0 < n) (h1 : n ≤ 512) (w : World) :
    Calls Tryz.prog 111 #[.int .i64 (n : Int)] w fun e w' => e = .returned (.tuple #[.pointer (some ⟨w.heap.size, 0, none⟩), .int .i64 0]) ∧ Blk w' w.heap.size 220 (setCells (List.replicate n 0)) ∧ Below w.heap.size w w' := by
  rw [setCells_new]
  go_enter Tryz.func111, Tryz.ntmps111
  go_wp2
  go_ret2
  exact ⟨rfl, Blk.new _ _ _, (Below.refl _ _).alloc (Nat.le_refl _) _⟩
theorem sizeSet : (Tryz.prog.info? 220).map (·.size) = some 17 := by kernel_rfl
def zeroSet : Array Value := #[.int .i64 0, .int .u64 0, .int .u64 0, .int .u64 0, .int .u64 0, .int .u64 0, .int .u64 0, .int .u64 0, .int .u64 0, .int .u64 0, .int .u64 0, .int .u64 0, .int .u64 0, .int .u64 0, .int .u64 0, .int .u64 0, .int .u64 0]
theorem setv_one (L : List Nat) (i : Nat) : (setv L i).oneCell' = true := by
  unfold setv
  split
  · rfl
  · split <;> rfl
theorem all_one {cs : Array Value} (h : ∀ (i : Nat) (v : Value), cs[i]? = some v → v.oneCell' = true) : cs.all (·.oneCell') = true := by
  rw [Array.all_eq_true]; intro i hi; exact h i _ (Array.getElem?_eq_getElem hi)
theorem setCells_get {L : List Nat} {i : Nat} {v : Value} (h : (setCells L)[i]? = some v) : v = setv L i := by
  rw [setCells, arr_get] at h
  split at h
  · injection h with h; exact h.symm
  · cases h
theorem setCells_one (L : List Nat) : (setCells L).all (·.oneCell') = true := all_one fun i v h => by rw [setCells_get h]; exact setv_one L i
theorem setCells_size (L : List Nat) : (setCells L).size = 17 := arr_size _ _
set_option maxHeartbeats 1000000 in
theorem clone_any (L : List Nat) (hL : 0 < L.length) (g : Nat) (w : World) (h : Blk w g 220 (setCells L)) :
    Calls Tryz.prog 146 #[.pointer (some ⟨g, 0, none⟩)] w fun e w' => e = .returned (.pointer (some ⟨w.heap.size, 0, none⟩)) ∧ Blk w' w.heap.size 220 (setCells L) ∧ Below w.heap.size w w' := by
  have hn := none_any L g w h
  rw [decide_eq_false (by omega)] at hn
  have hz := setCells_size L
  have ho := setCells_one L
  generalize setCells L = C at h hz ho ⊢
  have HZ := Lib.hid hz
  have HO := Lib.hid ho
  clear hz ho
  have hB := (Below.refl w.heap.size w).alloc (Nat.le_refl _) (.cells zeroSet 220)
  go_enter Tryz.func146, Tryz.ntmps146
  go_wp2_with (first
    | (go_at_call 149; refine hn.mono ?_; rintro e w' ⟨rfl, rfl⟩)
    | ((with_reducible show wpList _ _ _ ((⟨some 8, _, _, _, _, _⟩ : Oper) :: _) _ _); refine wpList_load_blk (o := ⟨some 8, _, _, _, _, _⟩) (h) (by rfl) _ _ (by rfl) (by rfl) _ Tryz.underlying220 (by rfl) (sizeSet) (HZ.out) ?_)
    | ((with_reducible show wpList _ _ _ ((⟨none, _, _, _, _, _⟩ : Oper) :: _) _ _); refine wpList_store_blk (o := ⟨none, _, _, _, _, _⟩) (Blk.new w 220 zeroSet) (by rfl) _ _ _ (by rfl) (by rfl) (C) (by rfl) (sizeSet) (by rfl) (HZ.out) (HO.out) ?_; intro w2 hy hu; have hC := hB.upd hu (Nat.le_refl _); clear hB hu)
    | fail)
  go_ret
  exact ⟨rfl, hy, hC⟩
end Go.Proofs.YtfoegmjpfkmggaaGreatDoor

/- The program's set of blocks: a block is taken, let go. Conditions: the set's block is known. -/
namespace Go.Proofs.YtfoegmjpfkmggaaGreatDoor
open Go.RowKit
/-- What a turn of block b from was answers; what the set is then. -/
def turnCode (L : List Nat) (b : Int) (was : Nat) : Int := if 1 ≤ b ∧ b ≤ L.length then (if L.getD (b - 1).toNat 0 = was then 0 else 9) else 5
def turnL (L : List Nat) (b : Int) (was is : Nat) : List Nat := if 1 ≤ b ∧ b ≤ L.length ∧ L.getD (b - 1).toNat 0 = was then L.set (b - 1).toNat is else L
theorem SetOk.turn {L : List Nat} (h : SetOk L) (b : Int) (was is : Nat) (hi : is ≤ 2) : SetOk (turnL L b was is) := by
  unfold turnL
  split
  · exact h.set_ _ _ (by omega) hi
  · exact h
theorem turnL_length (L : List Nat) (b : Int) (was is : Nat) : (turnL L b was is).length = L.length := by
  unfold turnL; split <;> simp
theorem Upd.drewN {g : Nat} {a b : World} (h : Upd g a b) (n : Nat) : Upd g a (b.drewN n) := ⟨h.os, h.tape, h.output, h.size, h.block⟩
set_option maxHeartbeats 1000000 in
theorem setTurn_any (L : List Nat) (hok : SetOk L) (h0 : 0 < L.length) (g : Nat) (b : Int) (was is : Nat) (_h1 : was ≤ 2) (h2 : is ≤ 2) (hb1 : -9223372036854775808 ≤ b) (hb2 : b ≤ 9223372036854775807) (w : World) (h : Blk w g 220 (setCells L)) :
    Calls Tryz.prog 145 #[.pointer (some ⟨g, 0, none⟩), .int .i64 b, .int .i64 (was : Int), .int .i64 (is : Int)] w fun e w' => e = .returned (.int .i64 (turnCode L b was)) ∧ Blk w' g 220 (setCells (turnL L b was is)) ∧ Upd g w w' := by
  have hn := none_any L g w h
  rw [decide_eq_false (by omega)] at hn
  have hi : ∀ n, Calls Tryz.prog 171 #[.pointer (some ⟨g, 0, none⟩), .int .i64 b] (w.drewN n) fun e w' => e = .returned (.int .i64 (isAt L b)) ∧ ∃ n, w' = w.drewN n := fun n =>
    (is_any L hok h0 g b hb1 hb2 (w.drewN n) (h.drewN n)).mono fun e w' ⟨he, m, hm⟩ => ⟨he, n + m, by rw [hm, World.drewN_drewN]⟩
  by_cases c : 1 ≤ b ∧ b ≤ L.length
  · have ei : isAt L b = ((L.getD (b - 1).toNat 0 : Nat) : Int) := by unfold isAt; rw [if_pos c]
    have hle := hok.le (b - 1).toNat
    rw [ei] at hi
    by_cases c2 : L.getD (b - 1).toNat 0 = was
    · have e1 : turnCode L b was = 0 := by unfold turnCode; rw [if_pos c, if_pos c2]
      have e2 : turnL L b was is = L.set (b - 1).toNat is := by unfold turnL; rw [if_pos ⟨c.1, c.2, c2⟩]
      rw [e1, e2]
      rw [c2] at hi hle
      obtain ⟨k, hk⟩ : ∃ k : Nat, k = (b - 1).toNat := ⟨_, rfl⟩
      rw [← hk]
      obtain rfl : b = (k : Int) + 1 := by omega
      have hkl : k < L.length := by omega
      have hll := hok.len
      clear e1 e2 c2 c hk ei hb1 hb2
      have hne : ((was : Int) != was) = false := by simp
      go_enter Tryz.func145, Tryz.ntmps145
      go_wp2_with (go_at_call 149; refine hn.mono ?_; rintro e w' ⟨rfl, rfl⟩)
      refine (hi 0).mono ?_
      rintro e w1 ⟨rfl, n1, rfl⟩
      go_wp2_with fail
      refine (hi n1).mono ?_
      rintro e w1 ⟨rfl, n2, rfl⟩
      go_wp2_with fail
      refine (set_any L g k is h2 hkl hll (w.drewN n2) (h.drewN n2)).mono ?_
      rintro e w1 ⟨rfl, h3, hu⟩
      go_wp2
      go_ret
      exact ⟨rfl, h3, (Upd.drewN (Upd.refl g w) n2).trans hu⟩
    · have e1 : turnCode L b was = 9 := by unfold turnCode; rw [if_pos c, if_neg c2]
      have e2 : turnL L b was is = L := by unfold turnL; rw [if_neg (fun h => c2 h.2.2)]
      rw [e1, e2]
      generalize L.getD (b - 1).toNat 0 = x at hi hle c2
      have hne : ((x : Int) != was) = true := by simp; omega
      clear e1 e2 c c2
      go_enter Tryz.func145, Tryz.ntmps145
      go_wp2_with (go_at_call 149; refine hn.mono ?_; rintro e w' ⟨rfl, rfl⟩)
      refine (hi 0).mono ?_
      rintro e w1 ⟨rfl, n1, rfl⟩
      go_wp2_with fail
      refine (hi n1).mono ?_
      rintro e w1 ⟨rfl, n2, rfl⟩
      go_wp2
      go_ret
      exact ⟨rfl, h.drewN n2, Upd.drewN (Upd.refl g w) n2⟩
  · have ei : isAt L b = -1 := by unfold isAt; rw [if_neg c]
    rw [ei] at hi
    have e1 : turnCode L b was = 5 := by unfold turnCode; rw [if_neg c]
    have e2 : turnL L b was is = L := by unfold turnL; rw [if_neg (fun h => c ⟨h.1, h.2.1⟩)]
    rw [e1, e2]
    clear e1 e2 c
    go_enter Tryz.func145, Tryz.ntmps145
    go_wp2_with (go_at_call 149; refine hn.mono ?_; rintro e w' ⟨rfl, rfl⟩)
    refine (hi 0).mono ?_
    rintro e w1 ⟨rfl, n1, rfl⟩
    go_wp2
    go_ret
    exact ⟨rfl, h.drewN n1, Upd.drewN (Upd.refl g w) n1⟩
theorem release_any (L : List Nat) (hok : SetOk L) (h0 : 0 < L.length) (g : Nat) (b : Int) (hb1 : -9223372036854775808 ≤ b) (hb2 : b ≤ 9223372036854775807) (w : World) (h : Blk w g 220 (setCells L)) :
    Calls Tryz.prog 108 #[.pointer (some ⟨g, 0, none⟩), .int .i64 b] w fun e w' => e = .returned (.int .i64 (turnCode L b 1)) ∧ Blk w' g 220 (setCells (turnL L b 1 2)) ∧ Upd g w w' := by
  have ht := setTurn_any L hok h0 g b 1 2 (by omega) (by omega) hb1 hb2 w h
  go_enter Tryz.func108, Tryz.ntmps108
  go_wp2_with fail
  refine ht.mono ?_
  rintro e w1 ⟨rfl, h3, hu⟩
  go_wp2
  go_ret
  exact ⟨rfl, h3, hu⟩
end Go.Proofs.YtfoegmjpfkmggaaGreatDoor

/- The program's set of blocks: the lowest free block is acquired; what was let go is settled. Conditions: the set's block is known; the table of Go's library lies as it was laid. -/
namespace Go.Proofs.YtfoegmjpfkmggaaGreatDoor
open Go.RowKit
/-- The first free block. -/
def fr (L : List Nat) : Nat := L.findIdx (fun x => decide (x = 0))
theorem getD_lt {L : List Nat} {k : Nat} (hk : k < L.length) : L.getD k 0 = L[k] := by rw [List.getD_eq_getElem?_getD, List.getElem?_eq_getElem hk]; rfl
theorem fr_is {L : List Nat} {k : Nat} (hk : k < L.length) (h : L.getD k 0 = 0) (hl : ∀ i, i < k → L.getD i 0 ≠ 0) : fr L = k := by
  unfold fr
  rw [List.findIdx_eq hk]
  rw [getD_lt hk] at h
  refine ⟨by simp [h], fun j hj => ?_⟩
  have := hl j hj
  rw [getD_lt (by omega)] at this
  simpa using this
theorem fr_full {L : List Nat} (hl : ∀ i, i < L.length → L.getD i 0 ≠ 0) : fr L = L.length := by
  unfold fr
  rw [List.findIdx_eq_length]
  intro x hx
  obtain ⟨i, hi, rfl⟩ := List.getElem_of_mem hx
  have := hl i hi
  rw [getD_lt hi] at this
  simpa using this
def acqN (L : List Nat) : Int := if fr L < L.length then (fr L : Int) + 1 else 0
def acqE (L : List Nat) : Int := if fr L < L.length then 0 else 8
def acqL (L : List Nat) : List Nat := if fr L < L.length then L.set (fr L) 1 else L
theorem SetOk.acq {L : List Nat} (h : SetOk L) : SetOk (acqL L) := by
  unfold acqL
  split
  · exact h.set_ _ _ (by omega) (by omega)
  · exact h
theorem acqL_length (L : List Nat) : (acqL L).length = L.length := by unfold acqL; split <;> simp
/-- The eight words. -/
def w8 (f : Nat → Nat) : List Value := [.int .u64 (f 0 : Nat), .int .u64 (f 1 : Nat), .int .u64 (f 2 : Nat), .int .u64 (f 3 : Nat), .int .u64 (f 4 : Nat), .int .u64 (f 5 : Nat), .int .u64 (f 6 : Nat), .int .u64 (f 7 : Nat)]
theorem idx8 (f : Nat → Nat) (k : Nat) (hk : k < 8) (w : World) : (Instr.index 218 (.agg (w8 f).toArray) (.int .i64 (k : Int))).run Tryz.prog w = .ok (.int .u64 (f k : Nat)) w := by
  have h0 : (Instr.index 218 (.agg (w8 f).toArray) (.int .i64 0)).run Tryz.prog w = .ok (.int .u64 (f 0 : Nat)) w := by kernel_rfl
  have h1 : (Instr.index 218 (.agg (w8 f).toArray) (.int .i64 1)).run Tryz.prog w = .ok (.int .u64 (f 1 : Nat)) w := by kernel_rfl
  have h2 : (Instr.index 218 (.agg (w8 f).toArray) (.int .i64 2)).run Tryz.prog w = .ok (.int .u64 (f 2 : Nat)) w := by kernel_rfl
  have h3 : (Instr.index 218 (.agg (w8 f).toArray) (.int .i64 3)).run Tryz.prog w = .ok (.int .u64 (f 3 : Nat)) w := by kernel_rfl
  have h4 : (Instr.index 218 (.agg (w8 f).toArray) (.int .i64 4)).run Tryz.prog w = .ok (.int .u64 (f 4 : Nat)) w := by kernel_rfl
  have h5 : (Instr.index 218 (.agg (w8 f).toArray) (.int .i64 5)).run Tryz.prog w = .ok (.int .u64 (f 5 : Nat)) w := by kernel_rfl
  have h6 : (Instr.index 218 (.agg (w8 f).toArray) (.int .i64 6)).run Tryz.prog w = .ok (.int .u64 (f 6 : Nat)) w := by kernel_rfl
  have h7 : (Instr.index 218 (.agg (w8 f).toArray) (.int .i64 7)).run Tryz.prog w = .ok (.int .u64 (f 7 : Nat)) w := by kernel_rfl
  have hk' : k = 0 ∨ k = 1 ∨ k = 2 ∨ k = 3 ∨ k = 4 ∨ k = 5 ∨ k = 6 ∨ k = 7 := by omega
  rcases hk' with rfl | rfl | rfl | rfl | rfl | rfl | rfl | rfl
  · exact h0
  · exact h1
  · exact h2
  · exact h3
  · exact h4
  · exact h5
  · exact h6
  · exact h7
theorem setSize8 : (Tryz.prog.info? 218).map (·.size) = some 8 := by kernel_rfl
theorem w8_at {f : Nat → Nat} {j : Nat} {v : Value} (h : (w8 f)[j]? = some v) : j < 8 ∧ v = .int .u64 (f j : Nat) := by
  have hj : j < 8 := by have := (List.getElem?_eq_some_iff.1 h).1; simpa [w8] using this
  refine ⟨hj, ?_⟩
  have hk' : j = 0 ∨ j = 1 ∨ j = 2 ∨ j = 3 ∨ j = 4 ∨ j = 5 ∨ j = 6 ∨ j = 7 := by omega
  rcases hk' with rfl | rfl | rfl | rfl | rfl | rfl | rfl | rfl <;> (simp [w8] at h; exact h.symm)
theorem range8 {w : World} {g : Nat} {t : TypeId} {L : List Nat} (h : Blk w g t (setCells L)) : w.rangeAt g 1 (w8 (tw L)) :=
  Blk.range h 1 _ fun j v hv => by
    obtain ⟨hj, rfl⟩ := w8_at hv
    rw [setCells, arr_at _ (by omega), setv_t _ _ hj]
theorem range8g {w : World} {g : Nat} {t : TypeId} {L : List Nat} (h : Blk w g t (setCells L)) : w.rangeAt g 9 (w8 (gw L)) :=
  Blk.range h 9 _ fun j v hv => by
    obtain ⟨hj, rfl⟩ := w8_at hv
    rw [setCells, arr_at _ (by omega), setv_g]
theorem u64_not (x : Nat) (hx : x < 18446744073709551616) : bits BinOp.xor IntKind.u64 IntKind.u64.max (x : Int) = ((18446744073709551615 - x : Nat) : Int) := by
  have h := u64_xor_nat 18446744073709551615 x (by omega) hx
  have e : IntKind.u64.max = ((18446744073709551615 : Nat) : Int) := rfl
  rw [e, h]
  congr 1
  apply Nat.eq_of_testBit_eq
  intro i
  have e1 : 18446744073709551615 - x = 2 ^ 64 - (x + 1) := by omega
  have e2 : (18446744073709551615 : Nat) = 2 ^ 64 - 1 := by decide
  rw [e1, Nat.testBit_two_pow_sub_succ (by omega), Nat.testBit_xor, e2, Nat.testBit_two_pow_sub_one]
  by_cases hi : i < 64
  · simp [hi]
  · have : x.testBit i = false := Nat.testBit_lt_two_pow (Nat.lt_of_lt_of_le hx (Nat.pow_le_pow_right (n := 2) (i := 64) (by omega) (by omega)))
    simp [hi, this]
theorem least (p : Nat → Prop) [DecidablePred p] : ∀ n, (∀ i, i < n → ¬ p i) ∨ ∃ b, b < n ∧ p b ∧ ∀ i, i < b → ¬ p i
  | 0 => .inl fun i hi => by omega
  | n + 1 => by
    rcases least p n with h | ⟨b, hb, hp, hl⟩
    · by_cases hn : p n
      · exact .inr ⟨n, by omega, hn, h⟩
      · exact .inl fun i hi => by
          by_cases e : i = n
          · subst e; exact hn
          · exact h i (by omega)
    · exact .inr ⟨b, by omega, hp, hl⟩
/-- Ahead of each word: no block of the words behind is free. -/
def AcqRel (L : List Nat) (v : Value) : Prop := ∃ k : Nat, k ≤ 8 ∧ v = .int .i64 (k : Int) ∧ ∀ i, i < 64 * k → i < L.length → L.getD i 0 ≠ 0
set_option maxHeartbeats 1000000 in
set_option maxRecDepth 100000 in
theorem acquire_any (L : List Nat) (hok : SetOk L) (h0 : 0 < L.length) (g : Nat) (w : World) (h : Blk w g 220 (setCells L)) (hT : Tab w) :
    Calls Tryz.prog 147 #[.pointer (some ⟨g, 0, none⟩)] w fun e w' => e = .returned (.tuple #[.int .i64 (acqN L), .int .i64 (acqE L)]) ∧ Blk w' g 220 (setCells (acqL L)) ∧ Upd g w w' := by
  have hn := none_any L g w h
  rw [decide_eq_false (by omega)] at hn
  have hr := range8 h
  have d0 : w.cell? ⟨g, 0, none⟩ = some (.int .i64 (L.length : Nat)) := h.at_ 0 (by rw [setCells, arr_at _ (by omega), setv_0])
  have HX := Lib.hid (idx8 (tw L))
  go_enter Tryz.func147, Tryz.ntmps147
  go_wp2_with (first
    | (go_at_call 149; refine hn.mono ?_; rintro e w' ⟨rfl, rfl⟩)
    | (show wpList _ _ _ ((⟨some 12, _, _, _, _, _⟩ : Oper) :: _) _ _; refine wpList_load_mid (o := ⟨some 12, _, _, _, _, _⟩) hr (by rfl) _ _ (by rfl) (by rfl) _ Tryz.underlying218 (by rfl) setSize8 (by rfl) ?_)
    | fail)
  go_loop [13] (fun v => AcqRel L v) (fun v => 8 - (intOf v).toNat)
  case atStart => exact ⟨0, by omega, rfl, fun i hi => by omega⟩
  case round =>
    obtain ⟨k, hk, rfl, hfull⟩ := hrel
    by_cases hk8 : k < 8
    · have hidx := HX.out k hk8 w
      have htw := tw_lt L k
      have X1 := u64_not (tw L k) htw
      have Y1 : 18446744073709551615 - tw L k = wf (fun i => !decide (0 < L.getD (64 * k + i) 0)) 64 := wf_not _
      obtain ⟨y, hy⟩ : ∃ y, y = 18446744073709551615 - tw L k := ⟨_, rfl⟩
      rw [← hy] at X1 Y1
      have hylt : y < 18446744073709551616 := by omega
      clear hy
      generalize tw L k = x at hidx X1
      clear htw
      rcases least (fun i => L.getD (64 * k + i) 0 = 0) 64 with hall | ⟨b, hb, hz, hbl⟩
      · have hy0 : y = 0 := by
          rw [Y1]; exact wf_none (f := fun i => !decide (0 < L.getD (64 * k + i) 0)) fun i hi => by
            have h1 : ¬ L.getD (64 * k + i) 0 = 0 := hall i hi
            have h2 : 0 < L.getD (64 * k + i) 0 := by omega
            simp only [h2, decide_true, Bool.not_true]
        have htz := tz_any y hylt w hT
        rw [show Lib.ctz 64 y = 64 by rw [hy0]; rfl] at htz
        have hyb : ((y : Int) != 0) = false := by simp; omega
        clear Y1 hylt hy0
        have hf2 : ∀ i, i < 64 * (k + 1) → i < L.length → L.getD i 0 ≠ 0 := fun i hi hl => by
          by_cases hlt : i < 64 * k
          · exact hfull i hlt hl
          · have := hall (i - 64 * k) (by omega)
            rwa [show 64 * k + (i - 64 * k) = i by omega] at this
        have HF := Lib.hid hf2
        clear hf2 hfull hall
        go_wp2_with fail
        refine htz.mono ?_
        rintro e w' ⟨rfl, rfl⟩
        go_wp2
        go_round
        case rel => exact ⟨k + 1, by omega, by go_num, HF.out⟩
        case measure => simp [intOf]; omega
      · have hne0 : y ≠ 0 ∧ Lib.ctz 64 y = b := by
          rw [Y1]; exact wf_ctz (f := fun i => !decide (0 < L.getD (64 * k + i) 0)) hb (by
            have h1 : L.getD (64 * k + b) 0 = 0 := hz
            simp only [h1]; rfl) (fun i hi => by
            have h1 : ¬ L.getD (64 * k + i) 0 = 0 := hbl i hi
            have h2 : 0 < L.getD (64 * k + i) 0 := by omega
            simp only [h2, decide_true, Bool.not_true])
        have htz := tz_any y hylt w hT
        rw [hne0.2] at htz
        have hyb : ((y : Int) != 0) = true := by have := hne0.1; simp; omega
        clear Y1 hylt hne0
        by_cases hin : 64 * k + b < L.length
        · have hfr : fr L = 64 * k + b := fr_is hin hz (fun i hi => by
            by_cases hlt : i < 64 * k
            · exact hfull i hlt (by omega)
            · have := hbl (i - 64 * k) (by omega)
              rwa [show 64 * k + (i - 64 * k) = i by omega] at this)
          have e1 : acqN L = ((64 * k + b : Nat) : Int) + 1 := by unfold acqN; rw [hfr, if_pos hin]
          have e2 : acqE L = 0 := by unfold acqE; rw [hfr, if_pos hin]
          have e3 : acqL L = L.set (64 * k + b) 1 := by unfold acqL; rw [hfr, if_pos hin]
          have E := Lib.hid (And.intro e1 (And.intro e2 e3))
          clear e1 e2 e3 hfr hfull hbl hz
          have hset := set_any L g (64 * k + b) 1 (by omega) hin hok.len w h
          have eN : (((64 * k + b : Nat) : Int) + 1) = 64 * (k : Int) + b + 1 := by omega
          rw [eN] at hset E
          have hll := hok.len
          have hle : 64 * (k : Int) + b + 1 ≤ L.length := by omega
          clear eN
          go_wp2_with fail
          refine htz.mono ?_
          rintro e w' ⟨rfl, rfl⟩
          go_wp2_with fail
          refine hset.mono ?_
          rintro e w1 ⟨rfl, h3, hu⟩
          go_wp2
          go_ret2
          exact ⟨by rw [E.out.1, E.out.2.1]; rfl, h3.sub (by rw [E.out.2.2]), hu⟩
        · have hf2 : ∀ i, i < 64 * (k + 1) → i < L.length → L.getD i 0 ≠ 0 := fun i hi hl => by
            by_cases hlt : i < 64 * k
            · exact hfull i hlt hl
            · have := hbl (i - 64 * k) (by omega)
              rwa [show 64 * k + (i - 64 * k) = i by omega] at this
          have HF := Lib.hid hf2
          have hgt : (L.length : Int) < 64 * (k : Int) + b + 1 := by omega
          clear hf2 hfull hbl hz hin
          go_wp2_with fail
          refine htz.mono ?_
          rintro e w' ⟨rfl, rfl⟩
          go_wp2
          go_round
          case rel => exact ⟨k + 1, by omega, by go_num, HF.out⟩
          case measure => simp [intOf]; omega
    · obtain rfl : k = 8 := by omega
      have hfr : fr L = L.length := fr_full (fun i hi => hfull i (by have := hok.len; omega) hi)
      have e1 : acqN L = 0 := by unfold acqN; rw [hfr, if_neg (by omega)]
      have e2 : acqE L = 8 := by unfold acqE; rw [hfr, if_neg (by omega)]
      have e3 : acqL L = L := by unfold acqL; rw [hfr, if_neg (by omega)]
      have E := Lib.hid (And.intro e1 (And.intro e2 e3))
      clear e1 e2 e3 hfr hfull
      go_wp2
      go_ret2
      exact ⟨by rw [E.out.1, E.out.2.1]; rfl, h.sub (by rw [E.out.2.2]), Upd.refl _ _⟩
end Go.Proofs.YtfoegmjpfkmggaaGreatDoor

/- A grid of blocks as plain data, and where it lies. Plain facts of this program. No condition. -/
namespace Go.Proofs.YtfoegmjpfkmggaaGreatDoor
open Go.RowKit
/-- A grid: how many blocks, how each is, what is wanted. -/
structure Grd where
  n : Nat
  L : List Nat
  W : List RefT
/-- Where a block stands; its bytes on a disk; what a ref names there. -/
def gplace (a : Int) : Int := 104 + 4 * (a - 1)
def gblk (d : Dsk) (a : Int) : List UInt8 := (d.L.drop (256 * (gplace a).toNat)).take 1024
def gthere (d : Dsk) (r : RefT) : Option GBT := if (GB.read (gblk d r.1)).1 = 0 ∧ (GB.read (gblk d r.1)).2.2.1 = r then some (GB.read (gblk d r.1)).2 else none
def Grd.of (g : Grd) (r : RefT) : Bool := decide (1 ≤ r.1) && (decide (r.1 ≤ (g.n : Int)) && (decide (0 ≤ r.2.1) && decide (r.2.1 ≤ 1073741824)))
theorem Grd.of_spec {g : Grd} {r : RefT} (h : g.of r = true) : 1 ≤ r.1 ∧ r.1 ≤ (g.n : Int) ∧ 0 ≤ r.2.1 ∧ r.2.1 ≤ 1073741824 := by
  unfold Grd.of at h
  simpa only [Bool.and_eq_true, decide_eq_true_eq] using h
structure Grd.Ok (g : Grd) (d : Dsk) : Prop where
  h1 : 1 ≤ g.n
  h512 : g.n ≤ 512
  len : g.L.length = g.n
  set : SetOk g.L
  room : 104 + 4 * g.n ≤ d.N
  nd : g.W.Nodup
/-- Another ref is wanted. -/
def Grd.want (g : Grd) (r : RefT) : Grd := if r ∈ g.W then g else { g with W := g.W ++ [r] }
/-- Where a grid's blocks are. -/
structure GPl where
  gg : Nat
  gs : Nat
  gi : Nat
  gw : Option Nat
  p : Pl
  gf : Option Nat
def GPl.all (q : GPl) : List Nat := [q.gg, q.gs, q.gi] ++ (q.gw.toList ++ q.p.all q.gf)
def gridc (q : GPl) (n : Nat) (wv : Value) : Array Value := #[.pointer (some ⟨q.p.gd, 0, none⟩), .int .i64 (n : Int), .pointer (some ⟨q.gs, 0, none⟩), .map (some q.gi), wv]
structure GridR (w : World) (q : GPl) (g : Grd) (d : Dsk) (f : Option Fus) : Prop where
  dk : DkOk w q.p q.gf d f
  st : Blk w q.gs 220 (setCells g.L)
  mp : MapK w q.gi (fun _ : RefT => True) encRef (wantM g.W)
  wn : ∃ wv sp, wv.ownBlock = q.gw ∧ Blk w q.gg 166 (gridc q g.n wv) ∧ OwnsC 113 2 w 0 wv g.W.length (refCells g.W) sp
  ok : g.Ok d
  ne : q.gi ≠ q.p.gm
theorem GPl.mem {q : GPl} {x : Nat} : x ∈ q.all ↔ x = q.gg ∨ x = q.gs ∨ x = q.gi ∨ q.gw = some x ∨ x ∈ q.p.all q.gf := by
  unfold GPl.all
  simp only [List.cons_append, List.nil_append, List.mem_cons, List.mem_append, Option.mem_toList]
theorem OwnsC.nearO {e : TypeId} {size base n : Nat} {w w' : World} {v : Value} {xs sp : List Value} {X : List Nat} (h : OwnsC e size w base v n xs sp) (k : Near X w w') (hX : ∀ g, v.ownBlock = some g → g ∉ X) : OwnsC e size w' base v n xs sp := by
  rcases h with h | ⟨g, cap, rfl, hb, hgg, rest⟩
  · exact .inl h
  · exact .inr ⟨g, cap, rfl, hb, hgg.near k (hX g rfl), rest⟩
theorem DkOk.nearX {w w' : World} {p : Pl} {gf : Option Nat} {d : Dsk} {f : Option Fus} {X : List Nat} (h : DkOk w p gf d f) (k : Near X w w') (hX : ∀ x ∈ p.all gf, x ∉ X) : DkOk w' p gf d f := by
  have h1 : p.gd ∉ X ∧ p.gl ∉ X ∧ p.gm ∉ X := ⟨hX _ (by simp [Pl.all]), hX _ (by simp [Pl.all]), hX _ (by simp [Pl.all])⟩
  exact ⟨h.dr.near k h1, h.fr.near k (fun g hg => hX g (by simp [Pl.all, hg])), h.ok⟩
section
variable {w w' : World} {q : GPl} {g : Grd} {d : Dsk} {f : Option Fus}
theorem GridR.near {X : List Nat} (h : GridR w q g d f) (k : Near X w w') (hX : ∀ x ∈ q.all, x ∉ X) : GridR w' q g d f := by
  obtain ⟨wv, sp, h1, h2, h3⟩ := h.wn
  exact ⟨DkOk.nearX h.dk k (fun x hx => hX x (GPl.mem.2 (.inr (.inr (.inr (.inr hx)))))), h.st.near k (hX _ (GPl.mem.2 (.inr (.inl rfl)))), h.mp.near k (hX _ (GPl.mem.2 (.inr (.inr (.inl rfl))))),
    ⟨wv, sp, h1, h2.near k (hX _ (GPl.mem.2 (.inl rfl))), OwnsC.nearO h3 k (fun x hx => hX x (GPl.mem.2 (.inr (.inr (.inr (.inl (h1 ▸ hx)))))))⟩, h.ok, h.ne⟩
theorem GridR.below (h : GridR w q g d f) (k : Below w.heap.size w w') : GridR w' q g d f := h.near (X := []) (Near.below k) (by simp)
theorem GridR.lt (h : GridR w q g d f) : ∀ x ∈ q.all, x < w.heap.size := fun x hx => by
  obtain ⟨wv, sp, h1, h2, h3⟩ := h.wn
  rcases GPl.mem.1 hx with rfl | rfl | rfl | hx | hx
  · exact h2.lt
  · exact h.st.lt
  · exact h.mp.lt
  · exact (OwnsC.lt h3 x (h1.trans hx)).2
  · exact h.dk.lt x hx
end
theorem DkOk.off {w : World} {p : Pl} {gf : Option Nat} {d : Dsk} {f : Option Fus} {x : Nat} {t : TypeId} {cs : Array Value} (h : DkOk w p gf d f) (hb : Blk w x t cs) (h1 : t ≠ 100) (h2 : t ≠ 102) (h3 : t ≠ 179) : x ∉ p.all gf := by
  obtain ⟨es, c, ⟨k1, k2, k3⟩, -⟩ := h.dr
  intro hx
  unfold Pl.all at hx
  simp only [List.cons_append, List.nil_append, List.mem_cons, Option.mem_toList] at hx
  rcases hx with rfl | rfl | rfl | hx
  · exact hb.apart k1 h1 rfl
  · exact hb.apart k2 h2 rfl
  · exact hb.offMap k3 rfl
  · subst hx
    obtain ⟨y, rfl, hy⟩ := h.fr.has
    exact hb.apart (hy : Blk w _ _ _) h3 rfl
theorem DkOk.offMap {w : World} {p : Pl} {gf : Option Nat} {d : Dsk} {f : Option Fus} {x : Nat} {es : Array MapEntry} {c : Nat} (h : DkOk w p gf d f) (hb : MapB w x es c) (hne : x ≠ p.gm) : x ∉ p.all gf := by
  obtain ⟨es', c', ⟨k1, k2, k3⟩, -⟩ := h.dr
  intro hx
  unfold Pl.all at hx
  simp only [List.cons_append, List.nil_append, List.mem_cons, Option.mem_toList] at hx
  rcases hx with rfl | rfl | rfl | hx
  · exact k1.offMap hb rfl
  · exact k2.offMap hb rfl
  · exact hne rfl
  · subst hx
    obtain ⟨y, rfl, hy⟩ := h.fr.has
    exact (hy : Blk w _ _ _).offMap hb rfl
theorem ownBlk {e : TypeId} {size base n : Nat} {w : World} {v : Value} {xs sp : List Value} {x : Nat} (h : OwnsC e size w base v n xs sp) (hx : v.ownBlock = some x) : ∃ cs, Blk w x e cs := by
  rcases h with ⟨rfl, _⟩ | ⟨g, cap, rfl, hb, hgg, rest⟩
  · cases hx
  · injection hx with hx
    subst hx
    exact ⟨_, hgg⟩
/-- A grid's own blocks are no blocks of its disk, and are apart. -/
structure GApart (q : GPl) : Prop where
  g : q.gg ∉ q.p.all q.gf
  s : q.gs ∉ q.p.all q.gf
  i : q.gi ∉ q.p.all q.gf
  w : ∀ x, q.gw = some x → x ∉ q.p.all q.gf
  gs : q.gg ≠ q.gs
  gi : q.gg ≠ q.gi
  si : q.gs ≠ q.gi
  wo : ∀ x, q.gw = some x → x ≠ q.gg ∧ x ≠ q.gs ∧ x ≠ q.gi
theorem GridR.apart {w : World} {q : GPl} {g : Grd} {d : Dsk} {f : Option Fus} (h : GridR w q g d f) : GApart q := by
  obtain ⟨wv, sp, h1, h2, h3⟩ := h.wn
  obtain ⟨es, c, hm, -⟩ := h.mp
  refine ⟨h.dk.off h2 (by decide) (by decide) (by decide), h.dk.off h.st (by decide) (by decide) (by decide), h.dk.offMap hm h.ne, fun x hx => ?_, h2.apart h.st (by decide), h2.offMap hm, h.st.offMap hm, fun x hx => ?_⟩
  · obtain ⟨cs, hb⟩ := ownBlk h3 (h1.trans hx)
    exact h.dk.off hb (by decide) (by decide) (by decide)
  · obtain ⟨cs, hb⟩ := ownBlk h3 (h1.trans hx)
    exact ⟨hb.apart h2 (by decide), hb.apart h.st (by decide), hb.offMap hm⟩
instance {w w' : World} {q : GPl} {g : Grd} {d : Dsk} {f : Option Fus} : KeepsTo w w' (GridR w q g d f) (GridR w' q g d f) := ⟨fun hb h => h.below hb⟩
/-- What a call leaves that may change a grid. -/
def GPost (w : World) (q : GPl) (g : Grd) (d : Dsk) (f : Option Fus) (w' : World) : Prop := ∃ q' : GPl, q'.gg = q.gg ∧ q'.p = q.p ∧ q'.gf = q.gf ∧ GridR w' q' g d f ∧ Near q.all w w' ∧ ∀ x ∈ q'.all, x ∈ q.all ∨ w.heap.size ≤ x
theorem GPost.same {w w' : World} {q : GPl} {g : Grd} {d : Dsk} {f : Option Fus} (h : GridR w q g d f) (k : Below w.heap.size w w') : GPost w q g d f w' := ⟨q, rfl, rfl, rfl, h.below k, Near.below k, fun _ hx => .inl hx⟩
end Go.Proofs.YtfoegmjpfkmggaaGreatDoor

/- A grid's small calls: none, ready, of, place. Conditions: the grid is known, or nobody made it. -/
namespace Go.Proofs.YtfoegmjpfkmggaaGreatDoor
open Go.RowKit
def noGrid : Array Value := #[.pointer none, .int .i64 0, .pointer none, .map none, .slice none 0 0]
def NoGrid (G : Option Addr) (w : World) : Prop := G = none ∨ ∃ g, G = some ⟨g, 0, none⟩ ∧ Blk w g 166 noGrid
theorem NoGrid.near {G : Option Addr} {w w' : World} (h : NoGrid G w) (k : Near [] w w') : NoGrid G w' := by
  rcases h with rfl | ⟨g, rfl, h⟩
  · exact .inl rfl
  · exact .inr ⟨g, rfl, h.near k (fun x => by cases x)⟩
theorem NoGrid.below {G : Option Addr} {w w' : World} (h : NoGrid G w) (k : Below w.heap.size w w') : NoGrid G w' := h.near (Near.below k)
instance {G : Option Addr} {w w' : World} : KeepsTo w w' (NoGrid G w) (NoGrid G w') := ⟨fun hb h => h.below hb⟩
section
variable {w : World} {q : GPl} {g : Grd} {d : Dsk} {f : Option Fus}
theorem GridR.blk (h : GridR w q g d f) : ∃ wv, Blk w q.gg 166 (gridc q g.n wv) := by
  obtain ⟨wv, sp, h1, h2, h3⟩ := h.wn
  exact ⟨wv, h2⟩
set_option maxRecDepth 100000 in
theorem gnone_any (h : GridR w q g d f) : Calls Tryz.prog 106 #[.pointer (some ⟨q.gg, 0, none⟩)] w fun e w' => e = .returned (.bool false) ∧ w' = w := by
  obtain ⟨wv, hb⟩ := h.blk
  have d0 := hb.at_ 0 (v := .pointer (some ⟨q.p.gd, 0, none⟩)) rfl
  clear h hb
  go_enter Tryz.func106, Tryz.ntmps106
  go_wp2
  go_ret
  exact ⟨rfl, rfl⟩
set_option maxRecDepth 100000 in
theorem gready_any (h : GridR w q g d f) : Calls Tryz.prog 100 #[.pointer (some ⟨q.gg, 0, none⟩)] w fun e w' => e = .returned (.int .i64 (if d.isOut f = true then 11 else 0)) ∧ w' = w := by
  obtain ⟨wv, hb⟩ := h.blk
  have d0 := hb.at_ 0 (v := .pointer (some ⟨q.p.gd, 0, none⟩)) rfl
  have hn := gnone_any h
  have hu := up_all h.dk.dr h.dk.fr
  generalize d.isOut f = o at hu ⊢
  clear h hb
  go_enter Tryz.func100, Tryz.ntmps100
  go_wp2_with fail
  refine hn.mono ?_
  rintro e w1 ⟨rfl, hw⟩
  obtain rfl := hw.symm
  clear hw hn
  go_wp2_with fail
  refine hu.mono ?_
  rintro e w1 ⟨rfl, hw⟩
  obtain rfl := hw.symm
  clear hw hu
  cases o
  all_goals
    go_wp2
    go_ret
    exact ⟨rfl, rfl⟩
set_option maxRecDepth 100000 in
theorem gof_any (h : GridR w q g d f) (r : RefT) : Calls Tryz.prog 101 #[.pointer (some ⟨q.gg, 0, none⟩), .agg #[.int .i64 r.1, .int .i64 r.2.1]] w fun e w' => e = .returned (.bool (g.of r)) ∧ Below w.heap.size w w' := by
  obtain ⟨wv, hb⟩ := h.blk
  obtain ⟨a, s, u⟩ := r
  have hB := (Below.refl w.heap.size w).alloc (Nat.le_refl _) (.cells #[.int .i64 a, .int .i64 s] 113)
  have d1 := (hb.below hB hb.lt).at_ 1 (v := .int .i64 (g.n : Int)) rfl
  have hr := Blk.new w 113 #[.int .i64 a, .int .i64 s]
  have r0 := hr.at_ 0 (v := .int .i64 a) rfl
  have r1 := hr.at_ 1 (v := .int .i64 s) rfl
  have HB := Lib.hid hB
  unfold Grd.of
  generalize (g.n : Int) = n at d1 ⊢
  clear h hb hB hr
  have hC0 : Below (w.alloc (.cells #[.int .i64 a, .int .i64 s] 113)).heap.size (w.alloc (.cells #[.int .i64 a, .int .i64 s] 113)) (w.alloc (.cells #[.int .i64 a, .int .i64 s] 113)).drew := (Below.refl _ _).drew
  have HC : Hid (∀ w', Below (w.alloc (.cells #[.int .i64 a, .int .i64 s] 113)).heap.size (w.alloc (.cells #[.int .i64 a, .int .i64 s] 113)) w' → w'.cell? ⟨w.heap.size, 0, none⟩ = some (.int .i64 a) ∧ w'.cell? ⟨w.heap.size, 1, none⟩ = some (.int .i64 s) ∧ w'.cell? ⟨q.gg, 1, none⟩ = some (.int .i64 n)) := Lib.hid fun w' hw' =>
    ⟨(hw'.cell (World.block_lt_of_cell? _ _ r0)).trans r0, (hw'.cell (World.block_lt_of_cell? _ _ r1)).trans r1, (hw'.cell (World.block_lt_of_cell? _ _ d1)).trans d1⟩
  clear r0 r1 d1
  by_cases h1 : 1 ≤ a
  · by_cases h2 : a ≤ n
    · by_cases h3 : 0 ≤ s
      · by_cases h4 : s ≤ 1073741824
        · go_enter Tryz.func101, Tryz.ntmps101
          go_wp2_with fail
          refine wp_region_tree (Below (w.alloc (.cells #[.int .i64 a, .int .i64 s] 113)).heap.size (w.alloc (.cells #[.int .i64 a, .int .i64 s] 113))) [] (PlanT.takes [0] (PlanT.takes [1] (PlanT.takes [2, 3, 4, 6, 7, 8] (PlanT.takes [5, 9] (PlanT.takes [10, 11, 12, 13] (PlanT.takes [14] (PlanT.takes [15, 16, 17, 18] (PlanT.takes [19] (PlanT.takes [20, 21, 22] .done))))))))) (by kernel_rfl) (by kernel_rfl) (hC0) ?_
          refine wpTree_pure _ _ _ (by rfl) (by rfl) ?_
          dsimp only [List.filterMap, List.getElem?_cons_zero, List.getElem?_cons_succ]
          repeat (go_big_quiet_step (fail))
          refine wpQuiet_nil ?_
          refine wpTree_takeL _ _ _ (by rfl) (by rfl) (hC0) ?_
          dsimp only [List.filterMap, List.getElem?_cons_zero, List.getElem?_cons_succ]
          (refine wpQuiet_load_cell (fun w' hw' => (HC.out w' hw').1) (by rfl) _ _ (by rfl) (by rfl) _ Tryz.underlying3 (by rfl) ?_; simp only [Act.put, List.setIfInBounds_toArray, List.set_cons_zero, List.set_cons_succ])
          refine wpQuiet_nil ?_
          refine wpTree_pure _ _ _ (by rfl) (by rfl) ?_
          dsimp only [List.filterMap, List.getElem?_cons_zero, List.getElem?_cons_succ]
          repeat (go_big_quiet_step (fail))
          refine wpQuiet_nil ?_
          refine wpTree_takeL _ _ _ (by rfl) (by rfl) (hC0) ?_
          dsimp only [List.filterMap, List.getElem?_cons_zero, List.getElem?_cons_succ]
          (refine wpQuiet_want' (by rfl) ?_; refine wpQuiet_load_cell (fun w' hw' => (HC.out w' hw').1) (by rfl) _ _ (by rfl) (by rfl) _ Tryz.underlying3 (by rfl) ?_; simp only [Act.put, List.setIfInBounds_toArray, List.set_cons_zero, List.set_cons_succ])
          (refine wpQuiet_want' (by rfl) ?_; refine wpQuiet_load_cell (fun w' hw' => (HC.out w' hw').2.2) (by rfl) _ _ (by rfl) (by rfl) _ Tryz.underlying3 (by rfl) ?_; simp only [Act.put, List.setIfInBounds_toArray, List.set_cons_zero, List.set_cons_succ])
          refine wpQuiet_nil ?_
          refine wpTree_pure _ _ _ (by rfl) (by rfl) ?_
          dsimp only [List.filterMap, List.getElem?_cons_zero, List.getElem?_cons_succ]
          repeat (go_big_quiet_step (fail))
          refine wpQuiet_nil ?_
          refine wpTree_takeL _ _ _ (by rfl) (by rfl) (hC0) ?_
          dsimp only [List.filterMap, List.getElem?_cons_zero, List.getElem?_cons_succ]
          (refine wpQuiet_want' (by rfl) ?_; refine wpQuiet_load_cell (fun w' hw' => (HC.out w' hw').2.1) (by rfl) _ _ (by rfl) (by rfl) _ Tryz.underlying3 (by rfl) ?_; simp only [Act.put, List.setIfInBounds_toArray, List.set_cons_zero, List.set_cons_succ])
          refine wpQuiet_nil ?_
          refine wpTree_pure _ _ _ (by rfl) (by rfl) ?_
          dsimp only [List.filterMap, List.getElem?_cons_zero, List.getElem?_cons_succ]
          repeat (go_big_quiet_step (fail))
          refine wpQuiet_nil ?_
          refine wpTree_takeL _ _ _ (by rfl) (by rfl) (hC0) ?_
          dsimp only [List.filterMap, List.getElem?_cons_zero, List.getElem?_cons_succ]
          (refine wpQuiet_want' (by rfl) ?_; refine wpQuiet_load_cell (fun w' hw' => (HC.out w' hw').2.1) (by rfl) _ _ (by rfl) (by rfl) _ Tryz.underlying3 (by rfl) ?_; simp only [Act.put, List.setIfInBounds_toArray, List.set_cons_zero, List.set_cons_succ])
          refine wpQuiet_nil ?_
          refine wpTree_pure _ _ _ (by rfl) (by rfl) ?_
          dsimp only [List.filterMap, List.getElem?_cons_zero, List.getElem?_cons_succ]
          repeat (go_big_quiet_step (fail))
          refine wpQuiet_nil ?_
          refine wpTree_done ?_
          go_wp2
          go_ret
          exact ⟨by simp <;> (intros; omega), HB.out.drew⟩
        · have kn := decide_eq_false h4
          go_enter Tryz.func101, Tryz.ntmps101
          go_wp2_with fail
          refine wp_region_tree (Below (w.alloc (.cells #[.int .i64 a, .int .i64 s] 113)).heap.size (w.alloc (.cells #[.int .i64 a, .int .i64 s] 113))) [] (PlanT.takes [0] (PlanT.takes [1] (PlanT.takes [2, 3, 4, 6, 7, 8] (PlanT.takes [5, 9] (PlanT.takes [10, 11, 12, 13] (PlanT.takes [14] (PlanT.takes [15, 16, 17, 18] (PlanT.takes [19] (PlanT.takes [20, 21, 22] .done))))))))) (by kernel_rfl) (by kernel_rfl) (hC0) ?_
          refine wpTree_pure _ _ _ (by rfl) (by rfl) ?_
          dsimp only [List.filterMap, List.getElem?_cons_zero, List.getElem?_cons_succ]
          repeat (go_big_quiet_step (fail))
          refine wpQuiet_nil ?_
          refine wpTree_takeL _ _ _ (by rfl) (by rfl) (hC0) ?_
          dsimp only [List.filterMap, List.getElem?_cons_zero, List.getElem?_cons_succ]
          (refine wpQuiet_load_cell (fun w' hw' => (HC.out w' hw').1) (by rfl) _ _ (by rfl) (by rfl) _ Tryz.underlying3 (by rfl) ?_; simp only [Act.put, List.setIfInBounds_toArray, List.set_cons_zero, List.set_cons_succ])
          refine wpQuiet_nil ?_
          refine wpTree_pure _ _ _ (by rfl) (by rfl) ?_
          dsimp only [List.filterMap, List.getElem?_cons_zero, List.getElem?_cons_succ]
          repeat (go_big_quiet_step (fail))
          refine wpQuiet_nil ?_
          refine wpTree_takeL _ _ _ (by rfl) (by rfl) (hC0) ?_
          dsimp only [List.filterMap, List.getElem?_cons_zero, List.getElem?_cons_succ]
          (refine wpQuiet_want' (by rfl) ?_; refine wpQuiet_load_cell (fun w' hw' => (HC.out w' hw').1) (by rfl) _ _ (by rfl) (by rfl) _ Tryz.underlying3 (by rfl) ?_; simp only [Act.put, List.setIfInBounds_toArray, List.set_cons_zero, List.set_cons_succ])
          (refine wpQuiet_want' (by rfl) ?_; refine wpQuiet_load_cell (fun w' hw' => (HC.out w' hw').2.2) (by rfl) _ _ (by rfl) (by rfl) _ Tryz.underlying3 (by rfl) ?_; simp only [Act.put, List.setIfInBounds_toArray, List.set_cons_zero, List.set_cons_succ])
          refine wpQuiet_nil ?_
          refine wpTree_pure _ _ _ (by rfl) (by rfl) ?_
          dsimp only [List.filterMap, List.getElem?_cons_zero, List.getElem?_cons_succ]
          repeat (go_big_quiet_step (fail))
          refine wpQuiet_nil ?_
          refine wpTree_takeL _ _ _ (by rfl) (by rfl) (hC0) ?_
          dsimp only [List.filterMap, List.getElem?_cons_zero, List.getElem?_cons_succ]
          (refine wpQuiet_want' (by rfl) ?_; refine wpQuiet_load_cell (fun w' hw' => (HC.out w' hw').2.1) (by rfl) _ _ (by rfl) (by rfl) _ Tryz.underlying3 (by rfl) ?_; simp only [Act.put, List.setIfInBounds_toArray, List.set_cons_zero, List.set_cons_succ])
          refine wpQuiet_nil ?_
          refine wpTree_pure _ _ _ (by rfl) (by rfl) ?_
          dsimp only [List.filterMap, List.getElem?_cons_zero, List.getElem?_cons_succ]
          repeat (go_big_quiet_step (fail))
          refine wpQuiet_nil ?_
          refine wpTree_takeL _ _ _ (by rfl) (by rfl) (hC0) ?_
          dsimp only [List.filterMap, List.getElem?_cons_zero, List.getElem?_cons_succ]
          (refine wpQuiet_want' (by rfl) ?_; refine wpQuiet_load_cell (fun w' hw' => (HC.out w' hw').2.1) (by rfl) _ _ (by rfl) (by rfl) _ Tryz.underlying3 (by rfl) ?_; simp only [Act.put, List.setIfInBounds_toArray, List.set_cons_zero, List.set_cons_succ])
          refine wpQuiet_nil ?_
          refine wpTree_pure _ _ _ (by rfl) (by rfl) ?_
          dsimp only [List.filterMap, List.getElem?_cons_zero, List.getElem?_cons_succ]
          repeat (go_big_quiet_step (fail))
          refine wpQuiet_nil ?_
          refine wpTree_done ?_
          go_wp2
          go_ret
          exact ⟨by simp <;> (intros; omega), HB.out.drew⟩
      · have kn := decide_eq_false h3
        go_enter Tryz.func101, Tryz.ntmps101
        go_wp2_with fail
        refine wp_region_tree (Below (w.alloc (.cells #[.int .i64 a, .int .i64 s] 113)).heap.size (w.alloc (.cells #[.int .i64 a, .int .i64 s] 113))) [] (PlanT.takes [0] (PlanT.takes [1] (PlanT.takes [2, 3, 4, 6, 7, 8] (PlanT.takes [5, 9] (PlanT.takes [10, 11, 12, 13] (PlanT.takes [14] (PlanT.takes [15, 16, 17, 18] (PlanT.takes [19] (PlanT.takes [20, 21, 22] .done))))))))) (by kernel_rfl) (by kernel_rfl) (hC0) ?_
        refine wpTree_pure _ _ _ (by rfl) (by rfl) ?_
        dsimp only [List.filterMap, List.getElem?_cons_zero, List.getElem?_cons_succ]
        repeat (go_big_quiet_step (fail))
        refine wpQuiet_nil ?_
        refine wpTree_takeL _ _ _ (by rfl) (by rfl) (hC0) ?_
        dsimp only [List.filterMap, List.getElem?_cons_zero, List.getElem?_cons_succ]
        (refine wpQuiet_load_cell (fun w' hw' => (HC.out w' hw').1) (by rfl) _ _ (by rfl) (by rfl) _ Tryz.underlying3 (by rfl) ?_; simp only [Act.put, List.setIfInBounds_toArray, List.set_cons_zero, List.set_cons_succ])
        refine wpQuiet_nil ?_
        refine wpTree_pure _ _ _ (by rfl) (by rfl) ?_
        dsimp only [List.filterMap, List.getElem?_cons_zero, List.getElem?_cons_succ]
        repeat (go_big_quiet_step (fail))
        refine wpQuiet_nil ?_
        refine wpTree_takeL _ _ _ (by rfl) (by rfl) (hC0) ?_
        dsimp only [List.filterMap, List.getElem?_cons_zero, List.getElem?_cons_succ]
        (refine wpQuiet_want' (by rfl) ?_; refine wpQuiet_load_cell (fun w' hw' => (HC.out w' hw').1) (by rfl) _ _ (by rfl) (by rfl) _ Tryz.underlying3 (by rfl) ?_; simp only [Act.put, List.setIfInBounds_toArray, List.set_cons_zero, List.set_cons_succ])
        (refine wpQuiet_want' (by rfl) ?_; refine wpQuiet_load_cell (fun w' hw' => (HC.out w' hw').2.2) (by rfl) _ _ (by rfl) (by rfl) _ Tryz.underlying3 (by rfl) ?_; simp only [Act.put, List.setIfInBounds_toArray, List.set_cons_zero, List.set_cons_succ])
        refine wpQuiet_nil ?_
        refine wpTree_pure _ _ _ (by rfl) (by rfl) ?_
        dsimp only [List.filterMap, List.getElem?_cons_zero, List.getElem?_cons_succ]
        repeat (go_big_quiet_step (fail))
        refine wpQuiet_nil ?_
        refine wpTree_takeL _ _ _ (by rfl) (by rfl) (hC0) ?_
        dsimp only [List.filterMap, List.getElem?_cons_zero, List.getElem?_cons_succ]
        (refine wpQuiet_want' (by rfl) ?_; refine wpQuiet_load_cell (fun w' hw' => (HC.out w' hw').2.1) (by rfl) _ _ (by rfl) (by rfl) _ Tryz.underlying3 (by rfl) ?_; simp only [Act.put, List.setIfInBounds_toArray, List.set_cons_zero, List.set_cons_succ])
        refine wpQuiet_nil ?_
        refine wpTree_pure _ _ _ (by rfl) (by rfl) ?_
        dsimp only [List.filterMap, List.getElem?_cons_zero, List.getElem?_cons_succ]
        repeat (go_big_quiet_step (fail))
        refine wpQuiet_nil ?_
        refine wpTree_takeL _ _ _ (by rfl) (by rfl) (hC0) ?_
        dsimp only [List.filterMap, List.getElem?_cons_zero, List.getElem?_cons_succ]
        go_big_quiet_step (fail)
        refine wpQuiet_nil ?_
        refine wpTree_pure _ _ _ (by rfl) (by rfl) ?_
        dsimp only [List.filterMap, List.getElem?_cons_zero, List.getElem?_cons_succ]
        repeat (go_big_quiet_step (fail))
        refine wpQuiet_nil ?_
        refine wpTree_done ?_
        go_wp2
        go_ret
        exact ⟨by simp <;> (intros; omega), HB.out.drew⟩
    · have kn := decide_eq_false h2
      go_enter Tryz.func101, Tryz.ntmps101
      go_wp2_with fail
      refine wp_region_tree (Below (w.alloc (.cells #[.int .i64 a, .int .i64 s] 113)).heap.size (w.alloc (.cells #[.int .i64 a, .int .i64 s] 113))) [] (PlanT.takes [0] (PlanT.takes [1] (PlanT.takes [2, 3, 4, 6, 7, 8] (PlanT.takes [5, 9] (PlanT.takes [10, 11, 12, 13] (PlanT.takes [14] (PlanT.takes [15, 16, 17, 18] (PlanT.takes [19] (PlanT.takes [20, 21, 22] .done))))))))) (by kernel_rfl) (by kernel_rfl) (hC0) ?_
      refine wpTree_pure _ _ _ (by rfl) (by rfl) ?_
      dsimp only [List.filterMap, List.getElem?_cons_zero, List.getElem?_cons_succ]
      repeat (go_big_quiet_step (fail))
      refine wpQuiet_nil ?_
      refine wpTree_takeL _ _ _ (by rfl) (by rfl) (hC0) ?_
      dsimp only [List.filterMap, List.getElem?_cons_zero, List.getElem?_cons_succ]
      (refine wpQuiet_load_cell (fun w' hw' => (HC.out w' hw').1) (by rfl) _ _ (by rfl) (by rfl) _ Tryz.underlying3 (by rfl) ?_; simp only [Act.put, List.setIfInBounds_toArray, List.set_cons_zero, List.set_cons_succ])
      refine wpQuiet_nil ?_
      refine wpTree_pure _ _ _ (by rfl) (by rfl) ?_
      dsimp only [List.filterMap, List.getElem?_cons_zero, List.getElem?_cons_succ]
      repeat (go_big_quiet_step (fail))
      refine wpQuiet_nil ?_
      refine wpTree_takeL _ _ _ (by rfl) (by rfl) (hC0) ?_
      dsimp only [List.filterMap, List.getElem?_cons_zero, List.getElem?_cons_succ]
      (refine wpQuiet_want' (by rfl) ?_; refine wpQuiet_load_cell (fun w' hw' => (HC.out w' hw').1) (by rfl) _ _ (by rfl) (by rfl) _ Tryz.underlying3 (by rfl) ?_; simp only [Act.put, List.setIfInBounds_toArray, List.set_cons_zero, List.set_cons_succ])
      (refine wpQuiet_want' (by rfl) ?_; refine wpQuiet_load_cell (fun w' hw' => (HC.out w' hw').2.2) (by rfl) _ _ (by rfl) (by rfl) _ Tryz.underlying3 (by rfl) ?_; simp only [Act.put, List.setIfInBounds_toArray, List.set_cons_zero, List.set_cons_succ])
      refine wpQuiet_nil ?_
      refine wpTree_pure _ _ _ (by rfl) (by rfl) ?_
      dsimp only [List.filterMap, List.getElem?_cons_zero, List.getElem?_cons_succ]
      repeat (go_big_quiet_step (fail))
      refine wpQuiet_nil ?_
      refine wpTree_takeL _ _ _ (by rfl) (by rfl) (hC0) ?_
      dsimp only [List.filterMap, List.getElem?_cons_zero, List.getElem?_cons_succ]
      go_big_quiet_step (fail)
      refine wpQuiet_nil ?_
      refine wpTree_pure _ _ _ (by rfl) (by rfl) ?_
      dsimp only [List.filterMap, List.getElem?_cons_zero, List.getElem?_cons_succ]
      repeat (go_big_quiet_step (fail))
      refine wpQuiet_nil ?_
      refine wpTree_takeL _ _ _ (by rfl) (by rfl) (hC0) ?_
      dsimp only [List.filterMap, List.getElem?_cons_zero, List.getElem?_cons_succ]
      go_big_quiet_step (fail)
      refine wpQuiet_nil ?_
      refine wpTree_pure _ _ _ (by rfl) (by rfl) ?_
      dsimp only [List.filterMap, List.getElem?_cons_zero, List.getElem?_cons_succ]
      repeat (go_big_quiet_step (fail))
      refine wpQuiet_nil ?_
      refine wpTree_done ?_
      go_wp2
      go_ret
      exact ⟨by simp <;> (intros; omega), HB.out.drew⟩
  · have kn := decide_eq_false h1
    go_enter Tryz.func101, Tryz.ntmps101
    go_wp2_with fail
    refine wp_region_tree (Below (w.alloc (.cells #[.int .i64 a, .int .i64 s] 113)).heap.size (w.alloc (.cells #[.int .i64 a, .int .i64 s] 113))) [] (PlanT.takes [0] (PlanT.takes [1] (PlanT.takes [2, 3, 4, 6, 7, 8] (PlanT.takes [5, 9] (PlanT.takes [10, 11, 12, 13] (PlanT.takes [14] (PlanT.takes [15, 16, 17, 18] (PlanT.takes [19] (PlanT.takes [20, 21, 22] .done))))))))) (by kernel_rfl) (by kernel_rfl) (hC0) ?_
    refine wpTree_pure _ _ _ (by rfl) (by rfl) ?_
    dsimp only [List.filterMap, List.getElem?_cons_zero, List.getElem?_cons_succ]
    repeat (go_big_quiet_step (fail))
    refine wpQuiet_nil ?_
    refine wpTree_takeL _ _ _ (by rfl) (by rfl) (hC0) ?_
    dsimp only [List.filterMap, List.getElem?_cons_zero, List.getElem?_cons_succ]
    (refine wpQuiet_load_cell (fun w' hw' => (HC.out w' hw').1) (by rfl) _ _ (by rfl) (by rfl) _ Tryz.underlying3 (by rfl) ?_; simp only [Act.put, List.setIfInBounds_toArray, List.set_cons_zero, List.set_cons_succ])
    refine wpQuiet_nil ?_
    refine wpTree_pure _ _ _ (by rfl) (by rfl) ?_
    dsimp only [List.filterMap, List.getElem?_cons_zero, List.getElem?_cons_succ]
    repeat (go_big_quiet_step (fail))
    refine wpQuiet_nil ?_
    refine wpTree_takeL _ _ _ (by rfl) (by rfl) (hC0) ?_
    dsimp only [List.filterMap, List.getElem?_cons_zero, List.getElem?_cons_succ]
    go_big_quiet_step (fail)
    go_big_quiet_step (fail)
    refine wpQuiet_nil ?_
    refine wpTree_pure _ _ _ (by rfl) (by rfl) ?_
    dsimp only [List.filterMap, List.getElem?_cons_zero, List.getElem?_cons_succ]
    repeat (go_big_quiet_step (fail))
    refine wpQuiet_nil ?_
    refine wpTree_takeL _ _ _ (by rfl) (by rfl) (hC0) ?_
    dsimp only [List.filterMap, List.getElem?_cons_zero, List.getElem?_cons_succ]
    go_big_quiet_step (fail)
    refine wpQuiet_nil ?_
    refine wpTree_pure _ _ _ (by rfl) (by rfl) ?_
    dsimp only [List.filterMap, List.getElem?_cons_zero, List.getElem?_cons_succ]
    repeat (go_big_quiet_step (fail))
    refine wpQuiet_nil ?_
    refine wpTree_takeL _ _ _ (by rfl) (by rfl) (hC0) ?_
    dsimp only [List.filterMap, List.getElem?_cons_zero, List.getElem?_cons_succ]
    go_big_quiet_step (fail)
    refine wpQuiet_nil ?_
    refine wpTree_pure _ _ _ (by rfl) (by rfl) ?_
    dsimp only [List.filterMap, List.getElem?_cons_zero, List.getElem?_cons_succ]
    repeat (go_big_quiet_step (fail))
    refine wpQuiet_nil ?_
    refine wpTree_done ?_
    go_wp2
    go_ret
    exact ⟨by simp <;> (intros; omega), HB.out.drew⟩
end
theorem gplace_any (a : Int) (h1 : 1 ≤ a) (h2 : a ≤ 1000) (w : World) : Calls Tryz.prog 103 #[.int .i64 a] w fun e w' => e = .returned (.int .i64 (gplace a)) ∧ w' = w := by
  go_enter Tryz.func103, Tryz.ntmps103
  go_wp2
  go_ret
  exact ⟨rfl, rfl⟩
end Go.Proofs.YtfoegmjpfkmggaaGreatDoor

/- Append of values of any size; worlds behind it. Plain facts over any program. No condition. -/
namespace Go
open Go.RowKit
theorem Near.grown {w w' : World} {row : Option Nat} {X : List Nat} (h : w.grownBy w' row) (hX : ∀ k, row = some k → k ∈ X) : Near X w w' := ⟨h.os, h.tape, h.output, h.size, fun k hk hn => h.block k hk fun e => hn (hX k e.symm)⟩
theorem reads_new (w : World) (t : TypeId) (vs : List Value) : Reads (w.alloc (.cells vs.toArray t)) (some ⟨w.heap.size, 0, none⟩) vs := fun _ => ⟨w.heap.size, 0, rfl, fun j v hv => by rw [Nat.zero_add]; exact Blk.at_ (Blk.new w t vs.toArray) j (by rw [← Array.getElem?_toList]; exact hv)⟩
section
variable {P : Program} {w : World}
theorem wpList_append_vals {ops : Array Oper} {rest : List Oper} {o : Oper} {a : Act} {Q : Exit → Act → World → Prop} (hgd : o.guard = none) (s x : Operand) (t : TypeId)
    (ho : o.op = .call { callee := .builtin .append, args := #[s, x], argTypes := #[t, t] })
    (base : Nat) (e : TypeId) (z : Value) (size bytes : Nat) (ht : P.underlying t = some (.slice e)) (hi : (P.info? e).map (fun i => (i.zero, i.size, i.bytes)) = some (some z, size, bytes)) (hzs : z.cells.size = size) (hsz : 0 < size)
    (v : Value) (n : Nat) (xs sp : List Value) (hs : a.eval s = v) (hown : OwnsC e size w base v n xs sp)
    (A : Option Addr) (m c : Nat) (news : List Value) (hx : a.eval x = .slice A m c) (hl : news.length = m * size) (hr : Reads w A news) (h1 : ∀ u ∈ news, u.oneCell' = true)
    (h63 : n + m ≤ maxLen) (hbytes : (n + m) * bytes ≤ 140737488355328) (hbase : base ≤ w.heap.size)
    (h : ∀ v' w' sp', OwnsC e size w' base v' (n + m) (xs ++ news) sp' → w.grownBy w' v.ownBlock → (v'.ownBlock = v.ownBlock ∨ v'.ownBlock = some w.heap.size) → (v' = .slice none 0 0 ↔ v = .slice none 0 0 ∧ m = 0) → wpList P ops Q rest (a.put o.dst v') w') : wpList P ops Q (o :: rest) a w :=
  wpList_plain hgd fun _ hK => wp_append_all s x t ho base e z size bytes ht hi hzs hsz v n xs sp hs hown A m c news hx hl hr h1 h63 hbytes hbase fun v' w' sp' h1 h2 h3 _ h5 => hK _ _ (h v' w' sp' h1 h2 h3 h5)
end
end Go
