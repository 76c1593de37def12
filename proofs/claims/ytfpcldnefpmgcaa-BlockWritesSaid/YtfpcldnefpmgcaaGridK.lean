/- The chapter's block: its bytes, told by reckoning. No condition. -/
import Derived.Test.YtfpcldnefpmgcaaGrid
import Derived.Test.YtfpcldnefpmgcaaShaN
namespace Go.Proofs.Ytfpcldnefpmgcaa
def fiveB : GBT := (1, (5, 7, ()), [(2, 3, ())], [97, 98], ())
theorem five_ok : GB.ok fiveB = true := by decide +kernel
def fiveRest : List UInt8 := GB.rest fiveB
def fiveSum : List UInt8 := [99, 21, 50, 251, 215, 196, 252, 110, 94, 133, 92, 64, 123, 16, 118, 124]
def fiveBad : List UInt8 := [31, 65, 68, 234, 138, 21, 82, 208, 170, 202, 39, 109, 189, 43, 128, 84]
theorem fiveRest_length : fiveRest.length = 1008 := by decide +kernel
theorem fiveSum_eq : Sha.sum fiveRest = fiveSum := by
  refine ShaN.toNat_inj ?_
  rw [ShaN.sumN_eq fiveRest 16 (by decide +kernel), fiveRest_length]
  decide +kernel
theorem fiveBad_eq : Sha.sum (fiveRest.set 884 1) = fiveBad := by
  refine ShaN.toNat_inj ?_
  have hl : (fiveRest.set 884 1).length = 1008 := by rw [List.length_set, fiveRest_length]
  rw [ShaN.sumN_eq (fiveRest.set 884 1) 16 (by rw [hl]; decide +kernel), hl]
  decide +kernel
def fiveBytes : List UInt8 := GB.bytes fiveB
theorem fiveBytes_eq : fiveBytes = fiveSum ++ fiveRest := by unfold fiveBytes GB.bytes; rw [show GB.rest fiveB = fiveRest from rfl, fiveSum_eq]
theorem fiveBytes_length : fiveBytes.length = 1024 := by rw [fiveBytes_eq, List.length_append, fiveRest_length]; rfl
theorem five_read : GB.read fiveBytes = (0, fiveB) := GB.read_bytes fiveB five_ok
theorem five_short : GB.read (fiveBytes.take 1023) = (4, GB.none_) := by
  unfold GB.read; rw [if_pos (by rw [List.length_take, fiveBytes_length]; decide)]
theorem five_at : fiveBytes[16]? = some 1 ∧ fiveBytes[20]? = some 5 ∧ fiveBytes[24]? = some 7 ∧ fiveBytes[28]? = some 1 ∧ fiveBytes[32]? = some 2 ∧ fiveBytes[36]? = some 2 ∧ fiveBytes[164]? = some 97 ∧ fiveBytes[900]? = some 0 := by
  rw [fiveBytes_eq]; decide +kernel
theorem five_turned : GB.read (fiveBytes.set 900 1) = (12, GB.none_) := by
  have e : fiveBytes.set 900 1 = fiveSum ++ fiveRest.set 884 1 := by rw [fiveBytes_eq, List.set_append_right _ _ (by decide)]; rfl
  have h1 : (fiveSum ++ fiveRest.set 884 1).drop 16 = fiveRest.set 884 1 := rfl
  have h2 : (fiveSum ++ fiveRest.set 884 1).take 16 = fiveSum := rfl
  unfold GB.read
  rw [if_neg (by rw [List.length_set, fiveBytes_length]; simp), e, h1, h2, fiveBad_eq, if_pos (by decide)]
end Go.Proofs.Ytfpcldnefpmgcaa
