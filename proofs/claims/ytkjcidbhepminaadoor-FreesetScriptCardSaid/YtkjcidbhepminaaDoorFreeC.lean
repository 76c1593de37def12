/- What is written as bytes is read as it was, plainly. Conditions: 1 to 512 blocks, each 0, 1 or 2. -/
import Derived.Test.YtkjcidbhepminaaDoorFreeR
namespace Go.Proofs.YtkjcidbhepminaaDoor
open Go.RowKit
theorem q4_digit (f : Nat → Nat) (hf : ∀ i, f i ≤ 2) (j t : Nat) (ht : t < 4) : q4 f j / 4 ^ t % 4 = f (4 * j + t) := by
  have h0 := hf (4 * j); have h1 := hf (4 * j + 1); have h2 := hf (4 * j + 2); have h3 := hf (4 * j + 3)
  have : t = 0 ∨ t = 1 ∨ t = 2 ∨ t = 3 := by omega
  unfold q4
  rcases this with rfl | rfl | rfl | rfl
  · show _ = f (4 * j)
    rw [Nat.pow_zero, Nat.div_one]; omega
  · rw [Nat.pow_one]; omega
  · rw [show (4 : Nat) ^ 2 = 16 from rfl]; omega
  · rw [show (4 : Nat) ^ 3 = 64 from rfl]; omega
theorem enc_rdn (L : List Nat) (h : L.length ≤ 512) : rdn (enc L) = L.length := by
  unfold rdn
  have e0 : (enc L).getD 0 0 = UInt8.ofNat (L.length % 256) := rfl
  have e1 : (enc L).getD 1 0 = UInt8.ofNat (L.length / 256) := rfl
  rw [e0, e1, UInt8.toNat_ofNat_of_lt' (by show L.length % 256 < 256; omega), UInt8.toNat_ofNat_of_lt' (by show L.length / 256 < 256; omega)]
  omega
theorem enc_crumb (L : List Nat) (hf : ∀ i, L.getD i 0 ≤ 2) (i : Nat) (h : i < L.length) : crumb (enc L) i = L.getD i 0 := by
  unfold crumb
  have e : (enc L).getD (2 + i / 4) 0 = UInt8.ofNat (q4 (fun i => L.getD i 0) (i / 4)) := by
    unfold enc
    rw [List.getD_eq_getElem?_getD, encF_at _ _ _ (by omega)]; rfl
  have hq := q4_lt hf (i / 4)
  rw [e, UInt8.toNat_ofNat_of_lt' (by show q4 _ _ < 256; omega), q4_digit _ hf _ _ (by omega)]
  have : 4 * (i / 4) + i % 4 = i := by omega
  rw [this]
theorem rd_enc (L : List Nat) (h : SetOk L) (h0 : 0 < L.length) : rdOk (enc L) = true ∧ rd (enc L) = L := by
  have hr : rd (enc L) = L := by
    unfold rd
    rw [enc_rdn L h.len]
    apply List.ext_getElem
    · rw [rdF_length]
    · intro i h1 h2
      simp only [rdF, List.getElem_map, List.getElem_range]
      rw [enc_crumb L h.le i h2, List.getD_eq_getElem?_getD, List.getElem?_eq_getElem h2]; rfl
  refine ⟨(rdOk_iff _).2 ⟨(rdPre_iff _).2 ?_, (rdBig_iff _).2 ?_, by rw [hr]⟩, hr⟩
  · rw [enc_rdn L h.len, enc_length]
    exact ⟨by omega, h0, h.len, rfl⟩
  · intro i hi
    rw [enc_rdn L h.len] at hi
    rw [enc_crumb L h.le i hi]
    exact h.le i
end Go.Proofs.YtkjcidbhepminaaDoor
