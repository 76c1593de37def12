/- The chapter's examples as every statement of the layer runs them: they answer true, and write nothing that was there. Condition: the table of Go's library lies as it was laid. -/
import Derived.Test.YtkjcidbhepminaaDoorRefS4
namespace Go.Proofs.YtkjcidbhepminaaDoor
open Go.RowKit
theorem Tab.below {w w' : World} (h : Tab w) (hb : Below w.heap.size w w') : Tab w' :=
  ⟨Nat.lt_of_lt_of_le h.1 hb.size, fun j hj => (hb.cell (p := ⟨0, j, none⟩) h.1).trans (h.2 j hj)⟩
theorem Tab.upd {w w' : World} {g : Nat} (h : Tab w) (u : Upd g w w') (hg : 0 < g) : Tab w' := by
  have hh := u.block 0 (by omega)
  refine ⟨by rw [u.size]; exact h.1, fun j hj => ?_⟩
  have e := h.2 j hj
  exact (World.cell?_of_block hh).trans e
theorem Tab.drew {w : World} (h : Tab w) : Tab w.drew := h
theorem Tab.drewN {w : World} (h : Tab w) (n : Nat) : Tab (w.drewN n) := h
theorem gets_yes (L : List Nat) (hok : SetOk L) (h0 : 0 < L.length) (g : Nat) (want e : Int) (hN : acqN L = want) (hE : acqE L = e) (w : World) (h : Blk w g 26 (setCells L)) (hT : Tab w) :
    Calls Tryd.prog 36 #[.pointer (some ⟨g, 0, none⟩), .int .i64 want, .int .i64 e] w fun r w' => r = .returned (.bool true) ∧ Blk w' g 26 (setCells (acqL L)) ∧ Upd g w w' := by
  have ha := acquire_any L hok h0 g w h hT
  rw [hN, hE] at ha
  have b1 : (want == want) = true := by simp
  have b2 : (e == e) = true := by simp
  clear hN hE
  go_enter Tryd.func36, Tryd.ntmps36
  go_wp2_with fail
  refine ha.mono ?_
  rintro r w1 ⟨rfl, h1, hu⟩
  go_wp2
  go_ret
  exact ⟨rfl, h1, hu⟩
def awakeBytes : List UInt8 := [3, 0, 21]
set_option maxHeartbeats 1000000 in
theorem awake09_any (w : World) (hT : Tab w) : Calls Tryd.prog 17 #[] w fun e w' => e = .returned (.bool true) ∧ Below w.heap.size w w' := by
  have o0 : SetOk [0, 0, 0] := setOk_new 3 (by omega)
  have o1 : SetOk [1, 0, 0] := o0.set_ 0 1 (by decide) (by decide)
  have o2 : SetOk [1, 1, 0] := o1.set_ 1 1 (by decide) (by decide)
  have o3 : SetOk [2, 1, 0] := o2.set_ 0 2 (by decide) (by decide)
  have o4 : SetOk [2, 1, 1] := o3.set_ 2 1 (by decide) (by decide)
  have o5 : SetOk [0, 1, 1] := o4.set_ 0 0 (by decide) (by decide)
  have o6 : SetOk [1, 1, 1] := o5.set_ 0 1 (by decide) (by decide)
  have hT0 : 0 < w.heap.size := hT.1
  go_enter Tryd.func17, Tryd.ntmps17
  go_wp2_with fail
  refine (new_any 3 (by omega) (by omega) w).mono ?_
  rintro e w1 ⟨rfl, h1, hB1⟩
  have hT1 := hT.below hB1
  replace h1 : Blk w1 w.heap.size 26 (setCells [0, 0, 0]) := h1
  go_wp2_with fail
  refine (gets_yes [0, 0, 0] o0 (by decide) w.heap.size 1 0 (by decide) (by decide) w1 h1 hT1).mono ?_
  rintro e w2 ⟨rfl, h2, hu2⟩
  replace h2 : Blk w2 w.heap.size 26 (setCells [1, 0, 0]) := h2
  have hT2 := hT1.upd hu2 hT0
  have hB2 := hB1.upd hu2 (Nat.le_refl _)
  clear h1 hT1 hB1 hu2
  go_wp2_with fail
  refine (gets_yes [1, 0, 0] o1 (by decide) w.heap.size 2 0 (by decide) (by decide) w2 h2 hT2).mono ?_
  rintro e w3 ⟨rfl, h3, hu3⟩
  replace h3 : Blk w3 w.heap.size 26 (setCells [1, 1, 0]) := h3
  have hT3 := hT2.upd hu3 hT0
  have hB3 := hB2.upd hu3 (Nat.le_refl _)
  clear h2 hT2 hB2 hu3
  go_wp2_with fail
  refine (release_any [1, 1, 0] o2 (by decide) w.heap.size 1 (by decide) (by decide) w3 h3).mono ?_
  rintro e w4 ⟨rfl, h4, hu4⟩
  replace h4 : Blk w4 w.heap.size 26 (setCells [2, 1, 0]) := h4
  have hT4 := hT3.upd hu4 hT0
  have hB4 := hB3.upd hu4 (Nat.le_refl _)
  rw [show turnCode [1, 1, 0] 1 1 = 0 by decide]
  clear h3 hT3 hB3 hu4
  go_wp2_with fail
  refine (gets_yes [2, 1, 0] o3 (by decide) w.heap.size 3 0 (by decide) (by decide) w4 h4 hT4).mono ?_
  rintro e w5 ⟨rfl, h5, hu5⟩
  replace h5 : Blk w5 w.heap.size 26 (setCells [2, 1, 1]) := h5
  have hT5 := hT4.upd hu5 hT0
  have hB5 := hB4.upd hu5 (Nat.le_refl _)
  clear h4 hT4 hB4 hu5
  go_wp2_with fail
  refine (gets_yes [2, 1, 1] o4 (by decide) w.heap.size 0 8 (by decide) (by decide) w5 h5 hT5).mono ?_
  rintro e w6 ⟨rfl, h6, hu6⟩
  replace h6 : Blk w6 w.heap.size 26 (setCells [2, 1, 1]) := h6
  have hT6 := hT5.upd hu6 hT0
  have hB6 := hB5.upd hu6 (Nat.le_refl _)
  clear h5 hT5 hB5 hu6
  go_wp2_with fail
  refine (settle_any [2, 1, 1] o4 (by decide) w.heap.size w6 h6).mono ?_
  rintro e w7 ⟨rfl, h7, hu7⟩
  replace h7 : Blk w7 w.heap.size 26 (setCells [0, 1, 1]) := h7
  have hT7 := hT6.upd hu7 hT0
  have hB7 := hB6.upd hu7 (Nat.le_refl _)
  rw [show cnt [2, 1, 1] [2, 1, 1].length = 1 by decide]
  clear h6 hT6 hB6 hu7
  go_wp2_with fail
  refine (gets_yes [0, 1, 1] o5 (by decide) w.heap.size 1 0 (by decide) (by decide) w7 h7 hT7).mono ?_
  rintro e w8 ⟨rfl, h8, hu8⟩
  replace h8 : Blk w8 w.heap.size 26 (setCells [1, 1, 1]) := h8
  have hT8 := hT7.upd hu8 hT0
  have hB8 := hB7.upd hu8 (Nat.le_refl _)
  clear h7 hT7 hB7 hu8
  go_wp2_with fail
  refine (bytes_any [1, 1, 1] o6 (by decide) w.heap.size w8 h8).mono ?_
  rintro e w9 ⟨rfl, h9, hB9⟩
  have hB9' := hB8.trans (hB9.mono hB8.size)
  rw [show enc [1, 1, 1] = awakeBytes by decide] at h9
  have hO := h9.bytes
  have hO2 := Bytes.below hO ((Below.refl w9.heap.size w9).alloc (Nat.le_refl _) (.cells (awakeBytes.map u8v).toArray 5))
  have hlit := bytes_lit w9 5 awakeBytes
  have hB10 := hB9'.alloc hB9'.size (.cells (awakeBytes.map u8v).toArray 5)
  clear h8 hT8 hB8 hB9 h9 hO hB9'
  go_wp2_with fail
  refine (sameBytes_any _ _ _ _ _ _ awakeBytes awakeBytes (by decide) (by decide) _ hO2 hlit).mono ?_
  rintro e w11 ⟨rfl, rfl⟩
  rw [decide_eq_true rfl]
  go_wp2
  go_ret
  exact ⟨rfl, hB10⟩
end Go.Proofs.YtkjcidbhepminaaDoor
