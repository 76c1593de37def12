/- The chapter's examples, as the closed statement asks: it answers true and writes nothing that was there. Condition: the table of Go's library lies as it was laid. -/
import Derived.Test.YtkjcidbhepminaaDoorWake09
namespace Go.Proofs.YtkjcidbhepminaaDoor
open Go.RowKit
theorem rdOk_known : rdOk [3, 0, 21] = true ∧ rdOk [3, 0, 64] = false ∧ rdOk [3, 0, 3] = false ∧ rd [3, 0, 21] = [1, 1, 1] := by decide +kernel
theorem read_yes (A : Option Addr) (c : Nat) (b : List UInt8) (h : rdOk b = true) (w : World) (hb : Bytes w A b) (hl : b.length ≤ 9223372036854775807) :
    Calls Tryd.prog 19 #[.slice A b.length c] w fun e w' => ∃ g, w.heap.size ≤ g ∧ e = .returned (.tuple #[.pointer (some ⟨g, 0, none⟩), .int .i64 0]) ∧ Blk w' g 26 (setCells (rd b)) ∧ Below w.heap.size w w' := by
  refine (read_any A c b w hb hl).mono fun e w' hr => ?_
  unfold ReadSet at hr
  rwa [if_pos h] at hr
theorem read_no (A : Option Addr) (c : Nat) (b : List UInt8) (h : rdOk b = false) (w : World) (hb : Bytes w A b) (hl : b.length ≤ 9223372036854775807) :
    Calls Tryd.prog 19 #[.slice A b.length c] w fun e w' => e = .returned (.tuple #[.pointer none, .int .i64 4]) ∧ Below w.heap.size w w' := by
  refine (read_any A c b w hb hl).mono fun e w' hr => ?_
  unfold ReadSet at hr
  rwa [if_neg (by rw [h]; simp)] at hr
set_option maxRecDepth 100000 in
set_option maxHeartbeats 2000000 in
theorem known09_any (w : World) (hT : Tab w) : Calls Tryd.prog 5 #[] w fun e w' => e = .returned (.bool true) ∧ Below w.heap.size w w' := by
  obtain ⟨k1, k2, k3, k4⟩ := rdOk_known
  have o1 : SetOk [1, 1, 1] := ⟨by decide, fun i => by
    rcases i with _ | _ | _ | i <;> simp⟩
  have o2 : SetOk [2, 1, 1] := o1.set_ 0 2 (by decide) (by decide)
  have hT0 : 0 < w.heap.size := hT.1
  have HK := Lib.hid (And.intro k1 (And.intro k2 (And.intro k3 k4)))
  clear k1 k2 k3 k4
  have hl1 := bytes_lit w 5 [3, 0, 21]
  have hB1 := (Below.refl w.heap.size w).alloc (Nat.le_refl _) (.cells (([3, 0, 21] : List UInt8).map u8v).toArray 5)
  go_enter Tryd.func5, Tryd.ntmps5
  go_wp2_with fail
  refine (read_yes _ 3 [3, 0, 21] HK.out.1 _ hl1 (by simp)).mono ?_
  rintro e w2 ⟨g, hg, rfl, hs2, hb2⟩
  rw [HK.out.2.2.2] at hs2
  have hB2 := hB1.trans (hb2.mono hB1.size)
  have hge : w.heap.size ≤ g := Nat.le_trans hB1.size hg
  have hT2 := hT.below hB2
  clear hl1 hB1 hb2 hg
  go_wp2_with fail
  refine (awake09_any w2 hT2).mono ?_
  rintro e w3 ⟨rfl, hb3⟩
  have hs3 := hs2.below hb3 hs2.lt
  have hB3 := hB2.trans (hb3.mono hB2.size)
  clear hs2 hB2 hT2 hb3
  go_wp2_with fail
  refine (release_any [1, 1, 1] o1 (by decide) g 4 (by decide) (by decide) w3 hs3).mono ?_
  rintro e w4 ⟨rfl, hs4, hu4⟩
  rw [show turnCode [1, 1, 1] 4 1 = 5 by decide]
  replace hs4 : Blk w4 g 26 (setCells [1, 1, 1]) := hs4
  have hB4 := hB3.upd hu4 hge
  clear hs3 hB3 hu4
  go_wp2_with fail
  refine (release_any [1, 1, 1] o1 (by decide) g 1 (by decide) (by decide) w4 hs4).mono ?_
  rintro e w5 ⟨rfl, hs5, hu5⟩
  rw [show turnCode [1, 1, 1] 1 1 = 0 by decide]
  replace hs5 : Blk w5 g 26 (setCells [2, 1, 1]) := hs5
  have hB5 := hB4.upd hu5 hge
  clear hs4 hB4 hu5
  go_wp2_with fail
  refine (release_any [2, 1, 1] o2 (by decide) g 1 (by decide) (by decide) w5 hs5).mono ?_
  rintro e w6 ⟨rfl, hs6, hu6⟩
  rw [show turnCode [2, 1, 1] 1 1 = 9 by decide]
  replace hs6 : Blk w6 g 26 (setCells [2, 1, 1]) := hs6
  have hB6 := hB5.upd hu6 hge
  clear hs5 hB5 hu6
  go_wp2_with fail
  refine (is_any [2, 1, 1] o2 (by decide) g 1 (by decide) (by decide) w6 hs6).mono ?_
  rintro e w7 ⟨rfl, n7, rfl⟩
  rw [show isAt [2, 1, 1] 1 = 2 by decide]
  have hs7 := hs6.drewN n7
  have hB7 := below_drewN hB6 n7
  generalize w6.drewN n7 = w7 at hs7 hB7 ⊢
  clear hs6 hB6
  go_wp2_with fail
  refine (is_any [2, 1, 1] o2 (by decide) g 0 (by decide) (by decide) w7 hs7).mono ?_
  rintro e w8 ⟨rfl, n8, rfl⟩
  rw [show isAt [2, 1, 1] 0 = -1 by decide]
  have hs8 := hs7.drewN n8
  have hB8 := below_drewN hB7 n8
  generalize w7.drewN n8 = w8 at hs8 hB8 ⊢
  clear hs7 hB7
  go_wp2_with fail
  refine (counts_any [2, 1, 1] o2 (by decide) g w8 hs8).mono ?_
  rintro e w9 ⟨rfl, hb9⟩
  rw [show cnts [2, 1, 1] 0 = 0 by decide, show cnts [2, 1, 1] 1 = 2 by decide, show cnts [2, 1, 1] 2 = 1 by decide]
  have hB9 := hB8.trans (hb9.mono hB8.size)
  have hl9 := bytes_lit w9 5 [3, 0, 64]
  have hB9' := hB9.alloc hB9.size (.cells (([3, 0, 64] : List UInt8).map u8v).toArray 5)
  clear hs8 hB8 hb9 hB9
  go_wp2_with fail
  refine (read_no _ 3 [3, 0, 64] HK.out.2.1 _ hl9 (by simp)).mono ?_
  rintro e w10 ⟨rfl, hb10⟩
  have hB10 := hB9'.trans (hb10.mono hB9'.size)
  have hl10 := bytes_lit w10 5 [3, 0, 3]
  have hB10' := hB10.alloc hB10.size (.cells (([3, 0, 3] : List UInt8).map u8v).toArray 5)
  clear hl9 hB9' hb10 hB10
  go_wp2_with fail
  refine (read_no _ 3 [3, 0, 3] HK.out.2.2.1 _ hl10 (by simp)).mono ?_
  rintro e w11 ⟨rfl, hb11⟩
  have hB11 := hB10'.trans (hb11.mono hB10'.size)
  clear hl10 hB10' hb11
  go_wp2_with fail
  refine (new_bad 513 (by omega) w11).mono ?_
  rintro e w12 ⟨rfl, rfl⟩
  go_wp2
  go_ret
  exact ⟨rfl, hB11⟩
end Go.Proofs.YtkjcidbhepminaaDoor
