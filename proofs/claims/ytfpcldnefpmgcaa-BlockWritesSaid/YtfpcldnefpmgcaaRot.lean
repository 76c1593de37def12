/- The functions that turn a word right, and the tables of constants, answer what the plain functions say. Condition: the count is from 1 to 31. -/
import Derived.Test.YtfpcldnefpmgcaaRows
import Derived.Test.YtfpcldnefpmgcaaCore
import Derived.Test.YtfpcldnefpmgcaaSha
import Derived.Test.YtfpcldnefpmgcaaOwn
import Derived.Test.YtfpcldnefpmgcaaTail
namespace Go.Proofs.Ytfpcldnefpmgcaa
open Go.RowKit
theorem u64_and31 (n : Nat) (h1 : 1 ≤ n) (h2 : n ≤ 31) : bits .and .u64 (IntKind.u64.wrap (-(n : Int))) 31 = ((32 - n : Nat) : Int) := by
  have e : IntKind.u64.wrap (-(n : Int)) = ((18446744073709551616 - n : Nat) : Int) := by
    have : IntKind.u64.wrap (-(n : Int)) = (-(n : Int)) % 18446744073709551616 := by simp [IntKind.wrap, IntKind.bits, IntKind.signed]
    rw [this]; omega
  rw [e]
  have := u64_and_nat (18446744073709551616 - n) 31 (by omega) (by omega)
  have e2 : (18446744073709551616 - n) &&& 31 = 32 - n := by
    have := Nat.and_two_pow_sub_one_eq_mod (18446744073709551616 - n) 5
    simp only [Nat.reducePow, Nat.reduceSub] at this
    rw [this]; omega
  rw [e2] at this
  exact this
set_option maxHeartbeats 400000 in
theorem right_any (x: UInt32) (n : Int) (h1 : 1 ≤ n) (h2 : n ≤ 31) (w : World) :
    Calls Try.prog 53 #[.int .u32 (iu32 x), .int .i64 n] w fun e w' => e = .returned (.int .u32 (iu32 (Sha.rotr x n.toNat))) ∧ ∃ k, w' = w.drewN k := by
  obtain ⟨n, rfl⟩ := Int.eq_ofNat_of_zero_le (show 0 ≤ n by omega)
  have e1 := u32_shr_w x n (by omega)
  have e2 := u32_shl_w x (32 - n) (by omega)
  have e3 : (32 - (n : Int)).toNat = 32 - n := by omega
  go_enter Try.func53, Try.ntmps53
  go_wp2
  go_quiet (fail)
  go_wp2
  go_ret
  exact ⟨rfl, _, rfl⟩
set_option maxHeartbeats 400000 in
theorem rot_any (x: UInt32) (n : Int) (h1 : 1 ≤ n) (h2 : n ≤ 31) (w : World) :
    Calls Try.prog 57 #[.int .u32 (iu32 x), .int .i64 (-n)] w fun e w' => e = .returned (.int .u32 (iu32 (Sha.rotr x n.toNat))) ∧ w = w' := by
  obtain ⟨n, rfl⟩ := Int.eq_ofNat_of_zero_le (show 0 ≤ n by omega)
  have e1 := u32_shr_w x n (by omega)
  have e2 := u32_shl_w x (32 - n) (by omega)
  have e3 : (32 - (n : Int)).toNat = 32 - n := by omega
  have e5 : 32 - (32 - n) = n := by omega
  have e6 : (32 : Int) - ((32 - n : Nat) : Int) = (n : Int) := by omega
  have e4 := u64_and31 n (by omega) (by omega)
  go_enter Try.func57, Try.ntmps57
  go_wp2
  go_ret
  exact ⟨ret_int (by rw [UInt32.or_comm]; rfl), rfl⟩
set_option maxHeartbeats 400000 in
theorem turned_any (x: UInt32) (n : Int) (h1 : 1 ≤ n) (h2 : n ≤ 31) (w : World) :
    Calls Try.prog 54 #[.int .u32 (iu32 x), .int .i64 n] w fun e w' => e = .returned (.int .u32 (iu32 (Sha.rotr x n.toNat))) ∧ w = w' := by
  go_enter Try.func54, Try.ntmps54
  go_wp2_with fail
  refine (rot_any x n h1 h2 _).mono ?_
  rintro e w' ⟨rfl, rfl⟩
  go_wp2
  go_ret
  exact ⟨rfl, rfl⟩
end Go.Proofs.Ytfpcldnefpmgcaa
