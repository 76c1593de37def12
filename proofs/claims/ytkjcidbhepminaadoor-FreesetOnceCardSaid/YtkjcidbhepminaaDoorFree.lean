/- Sets of blocks as plain lists: 0 free, 1 taken, 2 let go; the words that hold one. Plain facts. Conditions: at most 512 blocks, each 0, 1 or 2, where a theorem says so. -/
import Derived.Test.YtkjcidbhepminaaDoorWord
import Derived.Test.YtkjcidbhepminaaDoorKeep
namespace Go.Proofs.YtkjcidbhepminaaDoor
open Go.RowKit
def tw (L : List Nat) (w : Nat) : Nat := wf (fun b => decide (0 < L.getD (64 * w + b) 0)) 64
def gw (L : List Nat) (w : Nat) : Nat := wf (fun b => decide (1 < L.getD (64 * w + b) 0)) 64
def setv (L : List Nat) (i : Nat) : Value := if i = 0 then .int .i64 (L.length : Nat) else if i < 9 then .int .u64 (tw L (i - 1) : Nat) else .int .u64 (gw L (i - 9) : Nat)
def setCells (L : List Nat) : Array Value := arr 17 (setv L)
structure SetOk (L : List Nat) : Prop where
  len : L.length ≤ 512
  le : ∀ i, L.getD i 0 ≤ 2
theorem tw_lt (L : List Nat) (w : Nat) : tw L w < 18446744073709551616 := wf_lt _ 64
theorem gw_lt (L : List Nat) (w : Nat) : gw L w < 18446744073709551616 := wf_lt _ 64
theorem getD_set (L : List Nat) (k v i : Nat) (hk : k < L.length) : (L.set k v).getD i 0 = if i = k then v else L.getD i 0 := by
  simp only [List.getD_eq_getElem?_getD, List.getElem?_set]
  by_cases h : k = i
  · subst h; simp [hk]
  · rw [if_neg h, if_neg (fun e => h e.symm)]
theorem SetOk.set_ {L : List Nat} (h : SetOk L) (k v : Nat) (hk : k < L.length) (hv : v ≤ 2) : SetOk (L.set k v) :=
  ⟨by rw [List.length_set]; exact h.len, fun i => by rw [getD_set _ _ _ _ hk]; split; · exact hv
                                                     · exact h.le i⟩
theorem tw_set (L : List Nat) (q r v : Nat) (hk : 64 * q + r < L.length) (hr : r < 64) (w : Nat) :
    tw (L.set (64 * q + r) v) w = if w = q then wf (at_ (fun b => decide (0 < L.getD (64 * q + b) 0)) r (decide (0 < v))) 64 else tw L w := by
  split
  · rename_i h; subst h
    refine wf_congr fun i hi => ?_
    rw [getD_set _ _ _ _ hk]
    unfold at_
    by_cases h : i = r
    · subst h; simp
    · rw [if_neg (by omega), if_neg h]
  · refine wf_congr fun i hi => ?_
    rw [getD_set _ _ _ _ hk, if_neg (by omega)]
theorem gw_set (L : List Nat) (q r v : Nat) (hk : 64 * q + r < L.length) (hr : r < 64) (w : Nat) :
    gw (L.set (64 * q + r) v) w = if w = q then wf (at_ (fun b => decide (1 < L.getD (64 * q + b) 0)) r (decide (1 < v))) 64 else gw L w := by
  split
  · rename_i h; subst h
    refine wf_congr fun i hi => ?_
    rw [getD_set _ _ _ _ hk]
    unfold at_
    by_cases h : i = r
    · subst h; simp
    · rw [if_neg (by omega), if_neg h]
  · refine wf_congr fun i hi => ?_
    rw [getD_set _ _ _ _ hk, if_neg (by omega)]
theorem at_at (f : Nat → Bool) (r : Nat) (a b : Bool) : at_ (at_ f r a) r b = at_ f r b := by funext i; unfold at_; split <;> rfl
/-- The cells behind a change of one block. -/
theorem setCells_set (L : List Nat) (q r v : Nat) (hk : 64 * q + r < L.length) (hr : r < 64) (hq : q < 8) (f : Nat → Value)
    (h1 : f (1 + q) = .int .u64 (wf (at_ (fun b => decide (0 < L.getD (64 * q + b) 0)) r (decide (0 < v))) 64 : Nat))
    (h2 : f (9 + q) = .int .u64 (wf (at_ (fun b => decide (1 < L.getD (64 * q + b) 0)) r (decide (1 < v))) 64 : Nat))
    (h3 : ∀ i, i ≠ 1 + q → i ≠ 9 + q → f i = setv L i) : arr 17 f = setCells (L.set (64 * q + r) v) := by
  unfold setCells
  refine arr_congr fun i hi => ?_
  unfold setv
  rw [List.length_set, tw_set _ _ _ _ hk hr, gw_set _ _ _ _ hk hr]
  by_cases e1 : i = 1 + q
  · subst e1
    rw [h1, if_neg (by omega), if_pos (by omega), if_pos (by omega)]
  · by_cases e2 : i = 9 + q
    · subst e2
      rw [h2, if_neg (by omega), if_neg (by omega), if_pos (by omega)]
    · rw [h3 i e1 e2]
      unfold setv
      by_cases c0 : i = 0
      · rw [if_pos c0, if_pos c0]
      · rw [if_neg c0, if_neg c0]
        by_cases c1 : i < 9
        · rw [if_pos c1, if_pos c1, if_neg (by omega)]
        · rw [if_neg c1, if_neg c1, if_neg (by omega)]
theorem setv_0 (L : List Nat) : setv L 0 = .int .i64 (L.length : Nat) := rfl
theorem setv_t (L : List Nat) (q : Nat) (hq : q < 8) : setv L (1 + q) = .int .u64 (tw L q : Nat) := by
  unfold setv; rw [if_neg (by omega), if_pos (by omega), Nat.add_sub_cancel_left]
theorem setv_g (L : List Nat) (q : Nat) : setv L (9 + q) = .int .u64 (gw L q : Nat) := by
  unfold setv; rw [if_neg (by omega), if_neg (by omega), Nat.add_sub_cancel_left]
theorem is_eq (L : List Nat) (h : SetOk L) (q r : Nat) (hr : r < 64) : tw L q / 2 ^ r % 2 + gw L q / 2 ^ r % 2 = L.getD (64 * q + r) 0 := by
  unfold tw gw
  rw [wf_get _ hr, wf_get _ hr]
  have := h.le (64 * q + r)
  generalize L.getD (64 * q + r) 0 = x at this ⊢
  have : x = 0 ∨ x = 1 ∨ x = 2 := by omega
  rcases this with rfl | rfl | rfl <;> rfl
theorem u64_clear (x : Nat) (r : Nat) (hx : x < 18446744073709551616) (hr : r < 64) : bits .andNot .u64 (x : Int) (2 ^ r : Nat) = ((x &&& (18446744073709551615 - 2 ^ r) : Nat) : Int) :=
  u64_andNot_nat x (2 ^ r) hx (Nat.pow_lt_pow_right (by omega) hr)
theorem u64_set (x : Nat) (r : Nat) (hx : x < 18446744073709551616) (hr : r < 64) : bits .or .u64 (x : Int) (2 ^ r : Nat) = ((x ||| 2 ^ r : Nat) : Int) :=
  u64_or_nat x (2 ^ r) hx (Nat.pow_lt_pow_right (by omega) hr)
end Go.Proofs.YtkjcidbhepminaaDoor
