/- A number laid at a cursor's front. Conditions: the cursor lies in a block of bytes, with room for four. -/
import Derived.Test.YtfpcldnefpmgcaaGridA
namespace Go.Proofs.Ytfpcldnefpmgcaa
open Go.RowKit
def put4 (L : List UInt8) (off n : Nat) : List UInt8 := L.take off ++ (le4 n ++ L.drop (off + 4))
def put4r (L : List UInt8) (off n j : Nat) : List UInt8 := L.take off ++ ((le4 n).take j ++ L.drop (off + j))
theorem put4r_zero (L : List UInt8) (off n : Nat) : put4r L off n 0 = L := by unfold put4r; simp
theorem put4r_four (L : List UInt8) (off n : Nat) : put4r L off n 4 = put4 L off n := rfl
theorem put4r_length (L : List UInt8) (off n j : Nat) (h : off + 4 ≤ L.length) (hj : j ≤ 4) : (put4r L off n j).length = L.length := by
  unfold put4r; rw [List.length_append, List.length_append, List.length_take, List.length_take, List.length_drop, le4_length]; omega
theorem put4_length (L : List UInt8) (off n : Nat) (h : off + 4 ≤ L.length) : (put4 L off n).length = L.length := put4r_length L off n 4 h (Nat.le_refl _)
theorem put4r_set (L : List UInt8) (off n j : Nat) (h : off + 4 ≤ L.length) (hj : j < 4) (b : UInt8) (hb : b = (le4 n).getD j 0) :
    ((put4r L off n j).map u8v).toArray.setIfInBounds (off + j) (.int .u8 (iu8 b)) = ((put4r L off n (j + 1)).map u8v).toArray := by
  apply Array.ext'
  simp only [List.setIfInBounds_toArray]
  have e : Value.int .u8 (iu8 b) = u8v b := rfl
  rw [e, ← List.map_set]
  congr 1
  subst hb
  unfold put4r
  have h1 : (L.take off).length = off := by rw [List.length_take]; omega
  rw [List.set_append_right _ _ (by omega), h1, Nat.add_sub_cancel_left]
  congr 1
  have h2 : ((le4 n).take j).length = j := by rw [List.length_take, le4_length]; omega
  rw [List.set_append_right _ _ (by omega), h2, Nat.sub_self]
  have hd : L.drop (off + j) = L[off + j]'(by omega) :: L.drop (off + (j + 1)) := by
    rw [List.drop_eq_getElem_cons (by omega)]; rfl
  rw [hd, List.set_cons_zero]
  have ht : (le4 n).take (j + 1) = (le4 n).take j ++ [(le4 n).getD j 0] := by
    rw [List.take_succ_eq_append_getElem (by rw [le4_length]; omega)]
    congr 2
    simp [List.getD, show j < (le4 n).length by rw [le4_length]; omega]
  rw [ht]; simp
theorem le4_v0 (n : Nat) : (n : Int) % 256 = iu8 ((le4 n).getD 0 0) := by show _ = iu8 (UInt8.ofNat (n % 256)); rw [iu8_ofNat_mod]
theorem le4_v1 (n : Nat) : (n : Int) / 256 % 256 = iu8 ((le4 n).getD 1 0) := by show _ = iu8 (UInt8.ofNat (n / 256 % 256)); rw [iu8_ofNat_mod]; omega
theorem le4_v2 (n : Nat) : (n : Int) / 65536 % 256 = iu8 ((le4 n).getD 2 0) := by show _ = iu8 (UInt8.ofNat (n / 65536 % 256)); rw [iu8_ofNat_mod]; omega
theorem le4_v3 (n : Nat) (h : n < 4294967296) : (n : Int) / 16777216 = iu8 ((le4 n).getD 3 0) := by show _ = iu8 (UInt8.ofNat (n / 16777216 % 256)); rw [iu8_ofNat_mod]; omega
theorem u8_lit (n : Nat) (h : n < 256) : (n : Int) = iu8 (UInt8.ofNat n) := (iu8_ofNat n h).symm
/-- Ahead of each byte. -/
def FourRel (w : World) (g off n : Nat) (t : TypeId) (L : List UInt8) (v : Value) (wr : World) : Prop :=
  ∃ j : Nat, j ≤ 4 ∧ v = .int .i64 (j : Int) ∧ Blk wr g t ((put4r L off n j).map u8v).toArray ∧ Upd g w wr
set_option maxHeartbeats 1000000 in
theorem four_any (g off len cap n : Nat) (t : TypeId) (L : List UInt8) (h4 : 4 ≤ len) (hL : off + 4 ≤ L.length) (hn : n < 4294967296) (w : World) (hb : Blk w g t (L.map u8v).toArray) :
    Calls Try.prog 55 #[.slice (some ⟨g, off, none⟩) len cap, .int .i64 n] w fun e w' =>
      e = .returned (.slice (some ⟨g, (if cap = 4 then off else off + 4), none⟩) (len - 4) (cap - 4)) ∧ Blk w' g t ((put4 L off n).map u8v).toArray ∧ Upd g w w' := by
  go_enter Try.func55, Try.ntmps55
  go_wp2
  go_loopw [6] (fun v wr => FourRel w g off n t L v wr) (fun v _ => 4 - (intOf v).toNat)
  case atStart => exact ⟨0, by omega, rfl, by rw [put4r_zero]; exact hb, Upd.refl _ _⟩
  case round =>
    obtain ⟨j, hj, rfl, hg, hu⟩ := hrel
    clear hb
    by_cases hlt : j < 4
    · have fz := hg.frozen (off + j)
      have hjl : off + j < (put4r L off n j).length := by rw [put4r_length L off n j hL (by omega)]; omega
      have dz : ∃ v, wr.cell? ⟨g, off + j, none⟩ = some v := ⟨_, (hg.cell (off + j)).trans (by rw [List.getElem?_toArray, List.getElem?_map, List.getElem?_eq_getElem hjl]; rfl)⟩
      obtain ⟨v, dz⟩ := dz
      have hs := put4r_set L off n j hL hlt _ rfl
      have ho := hg.set_ (off + j) (.int .u8 (iu8 ((le4 n).getD j 0)))
      rw [hs] at ho
      have HO := Lib.hid ho
      have hu' := Lib.hid (hu.set (off + j) (.int .u8 (iu8 ((le4 n).getD j 0))))
      clear hs ho hjl hg
      have hcase : j = 0 ∨ j = 1 ∨ j = 2 ∨ j = 3 := by omega
      rcases hcase with rfl | rfl | rfl | rfl
      · rw [Nat.add_zero] at fz dz
        go_wp2
        rw [le4_v0]
        exact ⟨⟨1, by omega, rfl, HO.out, hu'.out⟩, by simp [intOf]⟩
      · go_wp2
        rw [le4_v1]
        exact ⟨⟨2, by omega, rfl, HO.out, hu'.out⟩, by simp [intOf]⟩
      · go_wp2
        rw [le4_v2]
        exact ⟨⟨3, by omega, rfl, HO.out, hu'.out⟩, by simp [intOf]⟩
      · go_wp2
        rw [le4_v3 n hn]
        exact ⟨⟨4, by omega, rfl, HO.out, hu'.out⟩, by simp [intOf]⟩
    · obtain rfl : j = 4 := by omega
      have HG := Lib.hid hg
      clear hg
      go_wp2
      all_goals
        go_ret
        first
          | exact ⟨by rw [if_pos ‹_›]; rfl, HG.out, hu⟩
          | exact ⟨rfl, HG.out, hu⟩
end Go.Proofs.Ytfpcldnefpmgcaa
