/- Go's library on words of 64 bits: what the counts answer. Conditions: the word is below 2^64; the table lies as it was laid. -/
import Derived.Test.YtkjcidbhepminaaDoorWord
import Derived.Test.YtkjcidbhepminaaDoorKit
import Derived.Shelf.Spec.TrailingZeros
namespace Go.Proofs.YtkjcidbhepminaaDoor
open Go.RowKit
theorem ofInt_i64 (a : Nat) (ha : a < 9223372036854775808) : (BitVec.ofInt 64 (a : Int)).toNat = a := by
  rw [BitVec.ofInt_natCast, BitVec.toNat_ofNat]; exact Nat.mod_eq_of_lt (by omega)
theorem i64_and_nat (a b : Nat) (ha : a < 9223372036854775808) (hb : b < 9223372036854775808) : bits .and .i64 (a : Int) (b : Int) = ((a &&& b : Nat) : Int) := by
  have hx : a &&& b < 2 ^ 63 := Nat.and_lt_two_pow _ (by omega)
  show IntKind.i64.wrap ((BitVec.ofInt 64 (a : Int) &&& BitVec.ofInt 64 (b : Int)).toNat : Int) = _
  rw [BitVec.toNat_and, ofInt_i64 a ha, ofInt_i64 b hb, IntKind.wrap_i64]
  omega
theorem i64_or_nat (a b : Nat) (ha : a < 9223372036854775808) (hb : b < 9223372036854775808) : bits .or .i64 (a : Int) (b : Int) = ((a ||| b : Nat) : Int) := by
  have hx : a ||| b < 2 ^ 63 := Nat.or_lt_two_pow (by omega) (by omega)
  show IntKind.i64.wrap ((BitVec.ofInt 64 (a : Int) ||| BitVec.ofInt 64 (b : Int)).toNat : Int) = _
  rw [BitVec.toNat_or, ofInt_i64 a ha, ofInt_i64 b hb, IntKind.wrap_i64]
  omega
theorem ones_any (x : Nat) (hx : x < 18446744073709551616) (w : World) :
    Calls Tryd.prog 35 #[.int .u64 (x : Int)] w fun e w' => e = .returned (.int .i64 (pop 64 x : Nat)) ∧ w = w' := by
  obtain ⟨y, hy⟩ : ∃ y : Nat, y = (x / 2 &&& 6148914691236517205) + (x &&& 6148914691236517205) := ⟨_, rfl⟩
  obtain ⟨z, hz⟩ : ∃ z : Nat, z = (y / 4 &&& 3689348814741910323) + (y &&& 3689348814741910323) := ⟨_, rfl⟩
  obtain ⟨a, ha⟩ : ∃ a : Nat, a = (z / 16 + z) &&& 1085102592571150095 := ⟨_, rfl⟩
  obtain ⟨b, hb⟩ : ∃ b : Nat, b = a + a / 256 := ⟨_, rfl⟩
  obtain ⟨c, hc⟩ : ∃ c : Nat, c = b + b / 65536 := ⟨_, rfl⟩
  obtain ⟨d, hd⟩ : ∃ d : Nat, d = c + c / 4294967296 := ⟨_, rfl⟩
  obtain ⟨e0, l1, l2, l3, l4⟩ := pop_fold x a b c d (ha.trans (pop_steps x y z hx hy hz)) hb hc hd
  have hy' : y < 18446744073709551616 := by
    have h1 : x / 2 &&& 6148914691236517205 ≤ 6148914691236517205 := Nat.and_le_right
    have h2 : x &&& 6148914691236517205 ≤ 6148914691236517205 := Nat.and_le_right
    omega
  have hz' : z ≤ 7378697629483820646 := by
    have h1 : y / 4 &&& 3689348814741910323 ≤ 3689348814741910323 := Nat.and_le_right
    have h2 : y &&& 3689348814741910323 ≤ 3689348814741910323 := Nat.and_le_right
    omega
  have s1 : IntKind.u64.wrap (bits .and .u64 ((x : Int) / 2) 6148914691236517205 + bits .and .u64 (x : Int) 6148914691236517205) = (y : Int) := by
    have h1 := u64_and_nat (x / 2) 6148914691236517205 (by omega) (by omega)
    have h2 := u64_and_nat x 6148914691236517205 (by omega) (by omega)
    have q : ((x : Int) / 2) = ((x / 2 : Nat) : Int) := by omega
    rw [q]
    rw [show (6148914691236517205 : Int) = ((6148914691236517205 : Nat) : Int) from rfl, h1, h2, IntKind.wrap_u64]
    omega
  have s2 : IntKind.u64.wrap (bits .and .u64 ((y : Int) / 4) 3689348814741910323 + bits .and .u64 (y : Int) 3689348814741910323) = (z : Int) := by
    have h1 := u64_and_nat (y / 4) 3689348814741910323 (by omega) (by omega)
    have h2 := u64_and_nat y 3689348814741910323 (by omega) (by omega)
    have q : ((y : Int) / 4) = ((y / 4 : Nat) : Int) := by omega
    rw [q]
    rw [show (3689348814741910323 : Int) = ((3689348814741910323 : Nat) : Int) from rfl, h1, h2, IntKind.wrap_u64]
    omega
  have s3 : bits .and .u64 ((z : Int) / 16 + (z : Int)) 1085102592571150095 = (a : Int) := by
    have h1 := u64_and_nat (z / 16 + z) 1085102592571150095 (by omega) (by omega)
    have q : ((z : Int) / 16 + (z : Int)) = ((z / 16 + z : Nat) : Int) := by omega
    rw [q, ha]
    exact h1
  have s4 : (a : Int) + (a : Int) / 256 = (b : Int) := by omega
  have s5 : (b : Int) + (b : Int) / 65536 = (c : Int) := by omega
  have s6 : (c : Int) + (c : Int) / 4294967296 = (d : Int) := by omega
  have s7 : bits .and .i64 (d : Int) 127 = ((pop 64 x : Nat) : Int) := by
    have h1 := i64_and_nat d 127 (by omega) (by omega)
    rw [nat_mask7, e0] at h1
    exact h1
  clear hy hz ha hb hc hd e0
  go_enter Tryd.func35, Tryd.ntmps35
  go_wp2
  go_ret
  exact ⟨rfl, rfl⟩
theorem tz_zero (w : World) : Calls Tryd.prog 31 #[.int .u64 0] w fun e w' => e = .returned (.int .i64 64) ∧ w = w' := by
  go_enter Tryd.func31, Tryd.ntmps31
  go_wp2
  go_ret
  exact ⟨rfl, rfl⟩
theorem tz_core (x k idx : Nat) (w : World) (hx0 : ((x : Int) == 0) = false)
    (key : IntKind.u64.wrap (bits BinOp.and IntKind.u64 (x : Int) (IntKind.u64.wrap (-(x : Int))) * 285870213051353865) / 288230376151711744 = (idx : Int))
    (hi : idx < 64) (hk : k < 64) (hcell : w.cell? ⟨0, idx, none⟩ = some (.int .u8 k)) :
    Calls Tryd.prog 31 #[.int .u64 x] w fun e w' => e = .returned (.int .i64 k) ∧ w = w' := by
  go_enter Tryd.func31, Tryd.ntmps31
  go_wp2_with (simp only [key])
  go_ret
  exact ⟨rfl, rfl⟩
/-- The table of Go's library lies as it was laid. -/
def Tab (w : World) : Prop := 0 < w.heap.size ∧ TabAt 0 Lib.deBruijn64tab w
theorem tz_any (x : Nat) (hx : x < 18446744073709551616) (w : World) (hT : Tab w) :
    Calls Tryd.prog 31 #[.int .u64 x] w fun e w' => e = .returned (.int .i64 (Lib.ctz 64 x : Nat)) ∧ w = w' := by
  by_cases hx0 : x = 0
  · subst hx0
    exact tz_zero w
  · obtain ⟨hlow, hk⟩ := Lib.lowest_bit 64 x hx0 hx
    obtain ⟨hi, htab⟩ := Lib.deBruijn64_at _ hk
    have hcell := hT.2 _ hi
    rw [htab] at hcell
    exact tz_core x _ _ w (by simp; omega) (tz64_key x _ hx hx0 hlow) hi hk hcell
end Go.Proofs.YtkjcidbhepminaaDoor
