/- What the kit writes over: every byte of a list, with what stands behind it. No condition but that the list is an own one, or none. -/
import Derived.Test.YtkjcidbhepminaaDoorKeep
import Derived.Test.YtkjcidbhepminaaDoorU8
namespace Go.Proofs.YtkjcidbhepminaaDoor
open Go.RowKit
def over (l : List UInt8) : List UInt8 := l.map (· ^^^ 90)
theorem over_length (l : List UInt8) : (over l).length = l.length := by simp [over]
theorem over_over (l : List UInt8) : over (over l) = l := by
  unfold over; rw [List.map_map]
  have : ((fun x : UInt8 => x ^^^ 90) ∘ fun x => x ^^^ 90) = id := by funext x; simp [Function.comp, UInt8.xor_assoc]
  rw [this, List.map_id]
def overTo (l : List UInt8) (i : Nat) : List UInt8 := over (l.take i) ++ l.drop i
theorem overTo_length (l : List UInt8) (i : Nat) : (overTo l i).length = l.length := by unfold overTo; rw [List.length_append, over_length, ← List.length_append, List.take_append_drop]
theorem overTo_at (l : List UInt8) (i : Nat) (h : i < l.length) : (overTo l i)[i]? = some l[i] := by
  unfold overTo
  have h1 : (over (l.take i)).length = i := by rw [over_length, List.length_take]; omega
  rw [List.getElem?_append_right (by omega), h1, Nat.sub_self, List.getElem?_drop, Nat.add_zero, List.getElem?_eq_getElem h]
theorem overTo_set (l : List UInt8) (i : Nat) (h : i < l.length) : (overTo l i).set i (l[i] ^^^ 90) = overTo l (i + 1) := by
  unfold overTo
  have h1 : (over (l.take i)).length = i := by rw [over_length, List.length_take]; omega
  rw [List.set_append_right _ _ (by omega), h1, Nat.sub_self, List.drop_eq_getElem_cons h, List.set_cons_zero, List.take_succ_eq_append_getElem h]
  unfold over; rw [List.map_append]; simp
/-- Ahead of each byte. -/
def OverRel (w : World) (g : Nat) (t : TypeId) (l : List UInt8) (v : Value) (wr : World) : Prop :=
  ∃ i : Nat, i ≤ l.length ∧ v = .int .i64 (i : Int) ∧ Blk wr g t ((overTo l i).map u8v).toArray ∧ Upd g w wr
set_option maxHeartbeats 400000 in
theorem over_any (g n c : Nat) (l : List UInt8) (hn : n ≤ c) (hl : c = l.length) (hc : c ≤ 140737488351300) (w : World) (t : TypeId) (hg : Blk w g t (l.map u8v).toArray) :
    Calls Tryd.prog 22 #[.slice (some ⟨g, 0, none⟩) n c] w fun e w' => e = .returned (.tuple #[]) ∧ Blk w' g t ((over l).map u8v).toArray ∧ Upd g w w' := by
  subst hl
  go_enter Tryd.func22, Tryd.ntmps22
  go_wp2
  go_loopw [3] (fun v wr => OverRel w g t l v wr) (fun v _ => l.length - (intOf v).toNat)
  case atStart => exact ⟨0, by omega, rfl, by simpa [overTo, over] using hg, Upd.refl _ _⟩
  case round =>
    clear hg
    obtain ⟨i, hi, rfl, hw, hu⟩ := hrel
    by_cases h3 : i < l.length
    · have d0 : wr.cell? ⟨g, i, none⟩ = some (.int .u8 (iu8 l[i])) := by rw [hw.cell, List.getElem?_toArray, List.getElem?_map, overTo_at l i h3]; rfl
      have f0 := hw.frozen i
      have hx : bits BinOp.xor .u8 (iu8 l[i]) 90 = iu8 (l[i] ^^^ 90) := u8_xor_w _ 90
      have ho := hw.set_ i (.int .u8 (iu8 (l[i] ^^^ 90)))
      replace ho := ho.sub (show _ = ((overTo l (i + 1)).map u8v).toArray by
        rw [← overTo_set l i h3]
        apply Array.ext'
        simp only [List.setIfInBounds_toArray]
        rw [List.map_set]; rfl)
      have HO := Lib.hid ho
      have HU := Lib.hid (hu.set i (.int .u8 (iu8 (l[i] ^^^ 90))))
      clear ho hu hw
      go_wp2
      go_roundw
      case rel => exact ⟨i + 1, by omega, by go_num, HO.out, HU.out⟩
      case measure => simp [intOf]; omega
    · obtain rfl : i = l.length := by omega
      go_wp2
      refine bodyPost_end (v := .tuple #[]) (by simp [results]) rfl ⟨rfl, hw.sub (by simp [overTo]), hu⟩
theorem over_nil (w : World) : Calls Tryd.prog 22 #[.slice none 0 0] w fun e w' => e = .returned (.tuple #[]) ∧ w' = w := by
  go_enter Tryd.func22, Tryd.ntmps22
  go_wp2
  go_loopw [3] (fun v wr => v = .int .i64 0 ∧ wr = w) (fun _ _ => 0)
  case atStart => exact ⟨rfl, rfl⟩
  case round =>
    obtain ⟨rfl, rfl⟩ := hrel
    go_wp2
    refine bodyPost_end (v := .tuple #[]) (by simp [results]) rfl ⟨rfl, rfl⟩
end Go.Proofs.YtkjcidbhepminaaDoor
