/- Which bytes are a set's, plainly. No condition. -/
import Derived.Test.YtkjcidbhepminaaDoorFreeB
namespace Go.Proofs.YtkjcidbhepminaaDoor
open Go.RowKit
/-- How the bytes say block i (from nought on) is. -/
def crumb (b : List UInt8) (i : Nat) : Nat := (b.getD (2 + i / 4) 0).toNat / 4 ^ (i % 4) % 4
def rdn (b : List UInt8) : Nat := (b.getD 0 0).toNat + 256 * (b.getD 1 0).toNat
def rdF (n : Nat) (f : Nat → Nat) : List Nat := (List.range n).map f
def rd (b : List UInt8) : List Nat := rdF (rdn b) (crumb b)
theorem rdF_length (n : Nat) (f : Nat → Nat) : (rdF n f).length = n := by simp [rdF]
theorem rdF_getD (n : Nat) (f : Nat → Nat) (i : Nat) : (rdF n f).getD i 0 = if i < n then f i else 0 := by
  unfold rdF
  rw [List.getD_eq_getElem?_getD, List.getElem?_map]
  by_cases h : i < n
  · rw [List.getElem?_range h, if_pos h]; rfl
  · rw [if_neg h, List.getElem?_eq_none (by simp; omega)]; rfl
theorem rdF_set (n : Nat) (f : Nat → Nat) (k : Nat) (hk : k < n) : (rdF n (cutAt f k)).set k (f k) = rdF n (cutAt f (k + 1)) := by
  apply List.ext_getElem?
  intro i
  rw [List.getElem?_set]
  unfold rdF
  by_cases hi : i < n
  · rw [List.getElem?_map, List.getElem?_map, List.getElem?_range hi]
    by_cases e : k = i
    · subst e; rw [if_pos rfl, if_pos (by simpa using hk)]; simp [cutAt]
    · rw [if_neg e]
      simp only [Option.map_some, cutAt]
      by_cases h2 : i < k
      · rw [if_pos h2, if_pos (by omega)]
      · rw [if_neg h2, if_neg (by omega)]
  · rw [if_neg (by omega), List.getElem?_eq_none (by simp; omega), List.getElem?_eq_none (by simp; omega)]
theorem rdF_zero (n : Nat) (f : Nat → Nat) : rdF n (cutAt f 0) = List.replicate n 0 := by
  unfold rdF
  apply List.ext_getElem
  · simp
  · intro i h1 h2; simp [cutAt]
theorem rdF_all (n : Nat) (f : Nat → Nat) : rdF n (cutAt f n) = rdF n f := by
  unfold rdF
  refine List.map_congr_left fun i hi => ?_
  have := List.mem_range.1 hi
  unfold cutAt; rw [if_pos this]
/-- Whether the bytes are a set's, but for the last look. -/
def rdPre (b : List UInt8) : Bool := decide (2 ≤ b.length) && decide (1 ≤ rdn b) && decide (rdn b ≤ 512) && decide (b.length = 2 + (rdn b + 3) / 4)
def rdBig (b : List UInt8) : Bool := (List.range (rdn b)).all fun i => decide (crumb b i ≤ 2)
def rdOk (b : List UInt8) : Bool := rdPre b && rdBig b && decide (enc (rd b) = b)
theorem rdPre_iff (b : List UInt8) : rdPre b = true ↔ 2 ≤ b.length ∧ 1 ≤ rdn b ∧ rdn b ≤ 512 ∧ b.length = 2 + (rdn b + 3) / 4 := by
  unfold rdPre; simp only [Bool.and_eq_true, decide_eq_true_eq]; exact ⟨fun ⟨⟨⟨a, b⟩, c⟩, d⟩ => ⟨a, b, c, d⟩, fun ⟨a, b, c, d⟩ => ⟨⟨⟨a, b⟩, c⟩, d⟩⟩
theorem rdBig_iff (b : List UInt8) : rdBig b = true ↔ ∀ i, i < rdn b → crumb b i ≤ 2 := by
  unfold rdBig; rw [List.all_eq_true]; exact ⟨fun h i hi => by simpa using h i (List.mem_range.2 hi), fun h i hi => by simpa using h i (List.mem_range.1 hi)⟩
theorem rdOk_iff (b : List UInt8) : rdOk b = true ↔ rdPre b = true ∧ rdBig b = true ∧ enc (rd b) = b := by
  unfold rdOk; simp only [Bool.and_eq_true, decide_eq_true_eq]; exact ⟨fun ⟨⟨a, b⟩, c⟩ => ⟨a, b, c⟩, fun ⟨a, b, c⟩ => ⟨⟨a, b⟩, c⟩⟩
theorem rd_ok {b : List UInt8} (h1 : rdPre b = true) (h2 : rdBig b = true) : SetOk (rd b) :=
  ⟨by unfold rd; rw [rdF_length]; exact ((rdPre_iff b).1 h1).2.2.1, fun i => by
    unfold rd; rw [rdF_getD]
    split
    · rename_i h; exact (rdBig_iff b).1 h2 i h
    · exact Nat.zero_le _⟩
theorem rd_length (b : List UInt8) : (rd b).length = rdn b := rdF_length _ _
end Go.Proofs.YtkjcidbhepminaaDoor
