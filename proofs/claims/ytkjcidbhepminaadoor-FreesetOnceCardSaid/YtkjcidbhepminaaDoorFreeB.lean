/- The bytes of a set of blocks, plainly. Conditions: at most 512 blocks, each 0, 1 or 2. -/
import Derived.Test.YtkjcidbhepminaaDoorFree
namespace Go.Proofs.YtkjcidbhepminaaDoor
open Go.RowKit
/-- Four blocks in a byte. -/
def q4 (f : Nat → Nat) (j : Nat) : Nat := f (4 * j) + 4 * f (4 * j + 1) + 16 * f (4 * j + 2) + 64 * f (4 * j + 3)
def encH (n : Nat) : List UInt8 := [UInt8.ofNat (n % 256), UInt8.ofNat (n / 256)]
def encF (n : Nat) (f : Nat → Nat) : List UInt8 := encH n ++ (List.range ((n + 3) / 4)).map fun j => UInt8.ofNat (q4 f j)
def enc (L : List Nat) : List UInt8 := encF L.length fun i => L.getD i 0
theorem encF_length (n : Nat) (f : Nat → Nat) : (encF n f).length = 2 + (n + 3) / 4 := by simp [encF, encH]; omega
theorem enc_length (L : List Nat) : (enc L).length = 2 + (L.length + 3) / 4 := encF_length _ _
theorem encF_congr {n : Nat} {f g : Nat → Nat} (h : ∀ i, f i = g i) : encF n f = encF n g := by
  have : f = g := funext h
  rw [this]
theorem encF_at (n : Nat) (f : Nat → Nat) (j : Nat) (h : j < (n + 3) / 4) : (encF n f)[2 + j]? = some (UInt8.ofNat (q4 f j)) := by
  unfold encF
  rw [List.getElem?_append_right (by simp [encH])]
  simp [encH, h]
/-- f below k, nought from there on. -/
def cutAt (f : Nat → Nat) (k i : Nat) : Nat := if i < k then f i else 0
theorem cutAt_le {f : Nat → Nat} (h : ∀ i, f i ≤ 2) (k i : Nat) : cutAt f k i ≤ 2 := by
  unfold cutAt
  split
  · exact h i
  · exact Nat.zero_le _
theorem q4_lt {f : Nat → Nat} (h : ∀ i, f i ≤ 2) (j : Nat) : q4 f j ≤ 170 := by
  unfold q4; have := h (4 * j); have := h (4 * j + 1); have := h (4 * j + 2); have := h (4 * j + 3); omega
theorem q4_step (f : Nat → Nat) (k j : Nat) : q4 (cutAt f (k + 1)) j = if j = k / 4 then q4 (cutAt f k) j + f k * 4 ^ (k % 4) else q4 (cutAt f k) j := by
  have e : ∀ i, cutAt f (k + 1) i = if i = k then f k else cutAt f k i := fun i => by
    unfold cutAt
    by_cases h : i = k
    · subst h; simp
    · rw [if_neg h]
      by_cases h2 : i < k
      · rw [if_pos h2, if_pos (by omega)]
      · rw [if_neg h2, if_neg (by omega)]
  have z : cutAt f k k = 0 := by unfold cutAt; rw [if_neg (by omega)]
  have h4 : k % 4 = 0 ∨ k % 4 = 1 ∨ k % 4 = 2 ∨ k % 4 = 3 := by omega
  split
  · rename_i hj
    unfold q4
    rw [e, e, e, e]
    rcases h4 with h | h | h | h
    · have : k = 4 * j := by omega
      subst this
      rw [if_pos rfl, if_neg (by omega), if_neg (by omega), if_neg (by omega), z, h]; omega
    · have : k = 4 * j + 1 := by omega
      subst this
      rw [if_neg (by omega), if_pos rfl, if_neg (by omega), if_neg (by omega), z, h]; omega
    · have : k = 4 * j + 2 := by omega
      subst this
      rw [if_neg (by omega), if_neg (by omega), if_pos rfl, if_neg (by omega), z, h]; omega
    · have : k = 4 * j + 3 := by omega
      subst this
      rw [if_neg (by omega), if_neg (by omega), if_neg (by omega), if_pos rfl, z, h]; omega
  · rename_i hj
    unfold q4
    rw [e, e, e, e, if_neg (by omega), if_neg (by omega), if_neg (by omega), if_neg (by omega)]
theorem q4_low (f : Nat → Nat) (hf : ∀ i, f i ≤ 2) (k : Nat) : q4 (cutAt f k) (k / 4) < 4 ^ (k % 4) := by
  have z : ∀ i, k ≤ i → cutAt f k i = 0 := fun i h => by unfold cutAt; rw [if_neg (by omega)]
  have c := cutAt_le hf k
  have h4 : k % 4 = 0 ∨ k % 4 = 1 ∨ k % 4 = 2 ∨ k % 4 = 3 := by omega
  unfold q4
  have c0 := c (4 * (k / 4)); have c1 := c (4 * (k / 4) + 1); have c2 := c (4 * (k / 4) + 2)
  rcases h4 with h | h | h | h
  · rw [z _ (by omega), z _ (by omega), z _ (by omega), z _ (by omega), h]; omega
  · rw [z (4 * (k / 4) + 1) (by omega), z (4 * (k / 4) + 2) (by omega), z (4 * (k / 4) + 3) (by omega), h]; omega
  · rw [z (4 * (k / 4) + 2) (by omega), z (4 * (k / 4) + 3) (by omega), h]; omega
  · rw [z (4 * (k / 4) + 3) (by omega), h]; omega
/-- One block more, as the program writes it. -/
def stepB (bs : List UInt8) (p : Nat × Nat) : List UInt8 := bs.set (2 + (p.1 - 1) / 4) (bs.getD (2 + (p.1 - 1) / 4) 0 ||| UInt8.ofNat (p.2 * 4 ^ ((p.1 - 1) % 4)))
theorem stepB_length (bs : List UInt8) (p : Nat × Nat) : (stepB bs p).length = bs.length := by simp [stepB]
theorem or_add (x y : Nat) (i : Nat) (hy : y < 2 ^ i) (hx : x % 2 ^ i = 0) (h : x + y < 256) : UInt8.ofNat y ||| UInt8.ofNat x = UInt8.ofNat (x + y) := by
  have e := nat_join i x y hx hy
  apply UInt8.toNat_inj.1
  rw [UInt8.toNat_or, UInt8.toNat_ofNat_of_lt' (by show y < 256; omega), UInt8.toNat_ofNat_of_lt' (by show x < 256; omega), UInt8.toNat_ofNat_of_lt' (by show x + y < 256; omega), Nat.or_comm, e]
theorem encF_set (n : Nat) (f g : Nat → Nat) (j : Nat) (h : j < (n + 3) / 4) (hg : ∀ i, i ≠ j → q4 g i = q4 f i) : (encF n f).set (2 + j) (UInt8.ofNat (q4 g j)) = encF n g := by
  apply List.ext_getElem?
  intro i
  rw [List.getElem?_set]
  by_cases hi : i < 2
  · rw [if_neg (by omega)]
    unfold encF
    rw [List.getElem?_append_left (by simp [encH]; omega), List.getElem?_append_left (by simp [encH]; omega)]
  · obtain ⟨t, rfl⟩ : ∃ t, i = 2 + t := ⟨i - 2, by omega⟩
    by_cases hb : t < (n + 3) / 4
    · rw [encF_at n g t hb, encF_at n f t hb]
      by_cases e : t = j
      · subst e; rw [if_pos rfl, if_pos (by rw [encF_length]; omega)]
      · rw [if_neg (by omega), hg t e]
    · rw [if_neg (by omega), List.getElem?_eq_none (by rw [encF_length]; omega), List.getElem?_eq_none (by rw [encF_length]; omega)]
theorem stepB_enc (n : Nat) (f : Nat → Nat) (hf : ∀ i, f i ≤ 2) (k : Nat) (hk : k < n) : stepB (encF n (cutAt f k)) (k + 1, f k) = encF n (cutAt f (k + 1)) := by
  have hj : k / 4 < (n + 3) / 4 := by omega
  unfold stepB
  simp only [Nat.add_sub_cancel]
  rw [List.getD_eq_getElem?_getD, encF_at n _ _ hj, Option.getD_some]
  have hs := q4_step f k
  have hlow := q4_low f hf k
  have h170 := q4_lt (cutAt_le hf (k + 1)) (k / 4)
  have e1 := hs (k / 4)
  rw [if_pos rfl] at e1
  have h4 : (4 : Nat) ^ (k % 4) = 2 ^ (2 * (k % 4)) := by rw [Nat.pow_mul]
  rw [or_add (f k * 4 ^ (k % 4)) _ (2 * (k % 4)) (by rw [← h4]; exact hlow) (by rw [h4]; exact Nat.mul_mod_left _ _) (by omega), Nat.add_comm (f k * 4 ^ (k % 4)), ← e1]
  exact encF_set n _ _ _ hj (fun i hi => by rw [hs i, if_neg hi])
/-- All blocks, one by one, as the program writes them. -/
theorem stepB_all (L : List Nat) (hf : ∀ i, L.getD i 0 ≤ 2) : ∀ k, k ≤ L.length → ((List.range k).map fun i => (i + 1, L.getD i 0)).foldl stepB (encF L.length fun _ => 0) = encF L.length (cutAt (fun i => L.getD i 0) k)
  | 0, _ => encF_congr fun i => by unfold cutAt; simp
  | k + 1, h => by
    rw [List.range_succ, List.map_append, List.foldl_append, stepB_all L hf k (by omega)]
    exact stepB_enc L.length (fun i => L.getD i 0) hf k (by omega)
theorem stepB_enc_all (L : List Nat) (hf : ∀ i, L.getD i 0 ≤ 2) : ((List.range L.length).map fun i => (i + 1, L.getD i 0)).foldl stepB (encF L.length fun _ => 0) = enc L := by
  rw [stepB_all L hf L.length (Nat.le_refl _)]
  refine encF_congr fun i => ?_
  unfold cutAt
  split
  · rfl
  · rw [List.getD_eq_getElem?_getD, List.getElem?_eq_none (by omega)]; rfl
theorem encF_zero (n : Nat) : (encF n fun _ => 0) = encH n ++ List.replicate ((n + 3) / 4) 0 := by
  unfold encF
  congr 1
  apply List.ext_getElem
  · simp
  · intro i h1 h2; simp [q4]
end Go.Proofs.YtkjcidbhepminaaDoor
