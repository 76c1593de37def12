/- How arguments of bytes come in: a slice of bytes, an array of 16 bytes. Plain facts. No condition. -/
import Derived.Test.YtkjcidbhepminaaDoorOwn
import Derived.ProofKit
import Derived.OpenShut
namespace Go
open Go.ChangeShapes Go.WideShapes Go.ChangeAt Go.RowKit
theorem wf_u8 {z : Int} (h : (Lit.int .u8 z).wf = true) : Value.int .u8 z = u8v (UInt8.ofNat z.toNat) := by
  simp [Lit.wf, IntKind.min, IntKind.max, IntKind.signed, IntKind.bits] at h
  unfold u8v
  rw [iu8_ofNat _ (by omega)]
  congr 1
  omega
section
variable {H : Type} {enc : TypeId × Value → H} {P : Program} {W : World}
theorem open_u8s {t e : TypeId} (ht : P.underlying t = some (.slice e)) (he : P.underlying e = some (.int .u8)) (hc : P.cellsOf e = 1) {base : Nat} {v : Value} {d : DataW H} {p : List MemPlace}
    (hval : Value.okWide P W .any base t v) (h : DataW.Trod enc P W 0 (fun _ => true) true t v d p) : ∃ A c l, v = .slice A l.length c ∧ l.length ≤ c ∧ c ≤ 9223372036854775807 ∧ Bytes W A l := by
  obtain ⟨a1, len, cap, rfl⟩ := okWide_slice ht hval
  obtain ⟨fuel, hf⟩ := h
  rcases open_ints ht he hc hf with ⟨hcs, hx⟩ | ⟨a, len', cap', zs, hcs, _, hl, hm, hz, hx, hcell, hwz⟩
  · simp [Value.cells] at hcs
    obtain ⟨rfl, rfl, rfl⟩ := hcs
    exact ⟨none, 0, [], rfl, Nat.le_refl _, by omega, Reads.nil _ _⟩
  · simp [Value.cells] at hcs
    obtain ⟨rfl, rfl, rfl⟩ := hcs
    simp only [if_true] at hz
    have hlen : ((zs.take len).map fun n => UInt8.ofNat n.toNat).length = len := by simp; omega
    refine ⟨some a, cap, (zs.take len).map fun n => UInt8.ofNat n.toNat, by rw [hlen], by rw [hlen]; exact hl, by simpa [maxLen] using hm, fun hn => ?_⟩
    have hpos : 0 < len := by
      rcases Nat.eq_zero_or_pos len with h0 | h0
      · subst h0; simp at hn
      · exact h0
    obtain ⟨ab, ao, spot⟩ := a
    have hspot : spot = none := by simpa [Addr.add] using World.cell?_spot (hcell 0 (by omega))
    subst hspot
    refine ⟨ab, ao, rfl, fun j u hu => ?_⟩
    have hj : j < len := by
      rcases Nat.lt_or_ge j len with h1 | h1
      · exact h1
      · rw [List.getElem?_eq_none (by simp; omega)] at hu; cases hu
    have hcj := hcell j (by omega)
    rw [Addr.add_lit] at hcj
    rw [hcj]
    have hjz : j < zs.length := by omega
    simp [hj, hjz] at hu
    rw [← hu, ← wf_u8 (hwz zs[j] (List.getElem_mem hjz))]
    simp [hjz]
theorem open_u8arr {t e : TypeId} {n : Nat} (ht : P.underlying t = some (.array n e)) (he : P.underlying e = some (.int .u8)) (hc : P.cellsOf e = 1) (hn : P.cellsOf t = n) {base : Nat} {v : Value} {d : DataW H} {p : List MemPlace}
    (hval : Value.okWide P W .any base t v) (h : DataW.Trod enc P W 0 (fun _ => true) true t v d p) : ∃ s : List UInt8, v = .agg (s.map u8v).toArray ∧ s.length = n := by
  have hv : ∃ xs : Array Value, v = .agg xs := by
    simp only [Value.okWide, ht] at hval
    obtain ⟨cs, h1, _⟩ := hval
    exact ⟨cs, h1⟩
  obtain ⟨xs, rfl⟩ := hv
  obtain ⟨fuel, hf⟩ := h
  obtain ⟨ys, m, rfl, hx, hlen, hyl, hel⟩ := DataW.trod_array ht hf
  simp only [Value.cells] at hlen hel
  rw [hn] at hlen
  have key : ∀ i, i < n → ∃ b : UInt8, xs[i]? = some (u8v b) := by
    intro i hi
    have h1 := hel i hi
    rw [hc, Nat.mul_one] at h1
    have hy : i < ys.length := by omega
    rw [List.getElem?_eq_getElem hy] at h1
    obtain ⟨z, hz, _, wz⟩ := DataW.trod_int he h1
    have hi2 : i < xs.toList.length := by omega
    have e1 : (xs.toList.drop i).take 1 = [xs.toList[i]] := by
      rw [List.drop_eq_getElem_cons hi2]; simp
    rw [e1] at hz
    refine ⟨UInt8.ofNat z.toNat, ?_⟩
    rw [← wf_u8 wz]
    simp only [List.cons.injEq, and_true] at hz
    rw [← hz]
    simp at hi2
    simp [hi2]
  have : ∀ u ∈ xs.toList, ∃ b, u = u8v b := fun u hu => by
    obtain ⟨i, hi, rfl⟩ := List.mem_iff_getElem.1 hu
    obtain ⟨b, hb⟩ := key i (by omega)
    refine ⟨b, ?_⟩
    have hi2 : i < xs.size := by simpa using hi
    rw [Array.getElem?_eq_getElem hi2] at hb
    simpa using hb
  obtain ⟨s, hs⟩ := u8_list this
  refine ⟨s, ?_, ?_⟩
  · rw [← hs]
  · have : (s.map u8v).length = n := by rw [← hs]; exact hlen
    simpa using this
end
end Go
