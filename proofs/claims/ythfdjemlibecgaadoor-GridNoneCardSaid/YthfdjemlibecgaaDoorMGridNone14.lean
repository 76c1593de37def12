/- GridNone: a grid that nobody made, or on a disk that nobody made. Condition: the library's table is there. -/
import Derived.Test.YthfdjemlibecgaaDoorMGridNone13
import Derived.Test.YthfdjemlibecgaaDoorTie
import Derived.Test.YthfdjemlibecgaaDoorCards
import Derived.SevenTiedAt
namespace Go.Proofs.YthfdjemlibecgaaDoor
open Go.RowKit
/-- What stands ahead of each round. -/
structure NoneAt (w wr : World) (r : RefT) : Prop where
  ref : Blk wr w.heap.size 23 #[.int .i64 r.1, .int .i64 r.2.1]
  grid : Blk wr (w.heap.size + 1) 95 noGrid
  grids : Blk wr (w.heap.size + 1 + 1) 25 #[.pointer none, .pointer (some ⟨w.heap.size + 1, 0, none⟩)]
  disk : Blk wr (w.heap.size + 1 + 1 + 1) 101 noDisk
  disks : Blk wr (w.heap.size + 1 + 1 + 1 + 1) 41 #[.pointer none, .pointer (some ⟨w.heap.size + 1 + 1 + 1, 0, none⟩)]
theorem NoneAt.below {w wr w' : World} {r : RefT} (h : NoneAt w wr r) (k : Below wr.heap.size wr w') : NoneAt w w' r :=
  ⟨h.ref.below k h.ref.lt, h.grid.below k h.grid.lt, h.grids.below k h.grids.lt, h.disk.below k h.disk.lt, h.disks.below k h.disks.lt⟩
def GNoneRel (w : World) (r : RefT) (v : Value) (wr : World) : Prop := ∃ k : Nat, k ≤ 2 ∧ v = .int .i64 (k : Int) ∧ NoneAt w wr r ∧ Below w.heap.size w wr
set_option maxRecDepth 100000 in
set_option maxHeartbeats 8000000 in
theorem gridNone_law (r : RefT) (A : Option Addr) (m cap : Nat) (w : World) (hT : Tab w) (hm : m ≤ 9223372036854775807) :
    Calls Tryd.prog 9 #[.agg #[.int .i64 r.1, .int .i64 r.2.1], .slice A m cap] w fun e w' => e = .returned (.bool true) ∧ Below w.heap.size w w' := by
  have HT := Lib.hid hT
  clear hT
  by_cases hlen : m ≤ 1100
  case neg =>
    have kn : decide ((m : Int) > 1100) = true := decide_eq_true (by omega)
    have hB := (Below.refl w.heap.size w).alloc (Nat.le_refl _) (.cells #[.int .i64 r.1, .int .i64 r.2.1] 23)
    have HB := Lib.hid hB
    clear hB
    go_enter Tryd.func9, Tryd.ntmps9
    go_wp2_with fail
    refine (lawake_any _ (HT.out.below HB.out)).mono ?_
    rintro e w2 ⟨rfl, hbx⟩
    have HB2 := Lib.hid (HB.out.trans (hbx.mono HB.out.size))
    clear hbx
    go_wp2
    go_ret
    exact ⟨rfl, HB2.out⟩
  have kn : decide ((m : Int) > 1100) = false := decide_eq_false (by omega)
  clear hlen
  go_enter Tryd.func9, Tryd.ntmps9
  go_wp2_with fail
  go_loopw [7] (fun v wr => GNoneRel w r v wr) (fun v _ => 2 - (intOf v).toNat)
  case atStart =>
    refine ⟨0, by omega, rfl, ⟨?_, ?_, ?_, ?_, ?_⟩, ?_⟩
    · exact ((((Blk.new w _ _).alloc _).alloc _).alloc _).alloc _
    · exact (((Blk.new' _ _ _ (by simp)).alloc _).alloc _).alloc _
    · exact ((Blk.new' _ _ _ (by simp)).alloc _).alloc _
    · exact (Blk.new' _ _ _ (by simp)).alloc _
    · exact Blk.new' _ _ _ (by simp)
    · exact (((((Below.refl _ _).alloc (Nat.le_refl _) _).alloc (by simp) _).alloc (by simp; omega) _).alloc (by simp; omega) _).alloc (by simp; omega) _
  case round =>
    obtain ⟨k, hk, rfl, hN, hB⟩ := hrel
    by_cases k2 : k = 2
    · subst k2
      have H := Lib.hid (And.intro hN hB)
      clear hN hB kn
      go_wp2_with fail
      refine (lawake_any wr (HT.out.below H.out.2)).mono ?_
      rintro e w2 ⟨rfl, hB2⟩
      go_wp2
      go_ret
      exact ⟨rfl, H.out.2.trans (hB2.mono H.out.2.size)⟩
    by_cases k0 : k = 0
    · subst k0
      have d0 : wr.cell? ⟨w.heap.size + 1 + 1, 0, none⟩ = some (.pointer none) := hN.grids.at_ 0 rfl
      have hk1 : ∀ w', Below wr.heap.size wr w' → NoneAt w w' r ∧ NoGrid none w' ∧ NoDisk none w' ∧ w'.cell? ⟨w.heap.size + 1 + 1 + 1 + 1, 0, none⟩ = some (.pointer none) := fun w' hw' => ⟨hN.below hw', .inl rfl, .inl rfl, (hN.below hw').disks.at_ 0 rfl⟩
      have HK := Lib.hid hk1
      have HH := Lib.hid (And.intro hN hB)
      clear hN hB hk1 k2 kn hk
      go_wp2_with fail
      refine (gwrite_no none wr (HK.out wr (Below.refl _ _)).2.1 1 0 none A 0 0 m cap).mono ?_
      rintro e w1 ⟨rfl, hb1⟩
      have hr2 := (HK.out w1 hb1).1.ref
      go_wp2_with (first
        | ((with_reducible show wpList _ _ _ ((⟨none, _, _, _, _, _⟩ : Oper) :: _) _ _); refine wpList_store_blk (o := ⟨none, _, _, _, _, _⟩) ((Blk.new w1 23 #[.int .i64 0, .int .i64 0])) (by rfl) _ _ _ (by rfl) (by rfl) (#[.int .i64 0, .int .i64 0]) (by rfl) (size_ref) (by rfl) (by rfl) (by simp [Value.oneCell']) ?_; intro w2 h2 hu2; have hbx := ((Below.refl w1.heap.size w1).alloc (Nat.le_refl _) (.cells #[.int .i64 0, .int .i64 0] 23)).upd hu2 (Nat.le_refl _); have hb2 := Lib.hid (hb1.trans (hbx.mono hb1.size)); replace hr2 := (HK.out w2 hb2.out).1.ref; clear hu2 hbx h2)
        | ((with_reducible show wpList _ _ _ ((⟨some 48, _, _, _, _, _⟩ : Oper) :: _) _ _); refine wpList_load_blk (o := ⟨some 48, _, _, _, _, _⟩) (hr2) (by rfl) _ _ (by rfl) (by rfl) _ Tryd.underlying23 (by rfl) (size_ref) (by rfl) ?_)
        | fail)
      refine (gread_no none w2 (HK.out w2 hb2.out).2.1 r).mono ?_
      rintro e w3 ⟨rfl, hbx⟩
      have hb3 := hb2.out.trans (hbx.mono hb2.out.size)
      have hr3 := (HK.out w3 hb3).1.ref
      clear hbx hr2 d0 hb1
      go_wp2_with (first
        | ((with_reducible show wpList _ _ _ ((⟨none, _, _, _, _, _⟩ : Oper) :: _) _ _); refine wpList_store_blk (o := ⟨none, _, _, _, _, _⟩) ((Blk.new w3 46 #[.int .i64 0, .int .i64 0, .int .i64 0, .slice none 0 0, .slice none 0 0])) (by rfl) _ _ _ (by rfl) (by rfl) (#[.int .i64 0, .int .i64 0, .int .i64 0, .slice none 0 0, .slice none 0 0]) (by rfl) (sizeGB) (by rfl) (by rfl) (by exact zeroGB_one) ?_; intro w4 h4 hu4; have hbx := ((Below.refl w3.heap.size w3).alloc (Nat.le_refl _) (.cells #[.int .i64 0, .int .i64 0, .int .i64 0, .slice none 0 0, .slice none 0 0] 46)).upd hu4 (Nat.le_refl _); have hb4 := Lib.hid (hb3.trans (hbx.mono hb3.size)); replace hr3 := (HK.out w4 hb4.out).1.ref; clear hu4 hbx h4)
        | ((with_reducible show wpList _ _ _ ((⟨some 54, _, _, _, _, _⟩ : Oper) :: _) _ _); refine wpList_load_blk (o := ⟨some 54, _, _, _, _, _⟩) (hr3) (by rfl) _ _ (by rfl) (by rfl) _ Tryd.underlying23 (by rfl) (size_ref) (by rfl) ?_)
        | fail)
      refine (graw_no none w4 (HK.out w4 hb4.out).2.1 r).mono ?_
      rintro e w5 ⟨rfl, hbx⟩
      have hb5 := Lib.hid (hb4.out.trans (hbx.mono hb4.out.size))
      have hr5 := (HK.out w5 hb5.out).1.ref
      clear hbx hr3 hb3
      go_wp2_with (first
        | ((with_reducible show wpList _ _ _ ((⟨some 60, _, _, _, _, _⟩ : Oper) :: _) _ _); refine wpList_load_blk (o := ⟨some 60, _, _, _, _, _⟩) (hr5) (by rfl) _ _ (by rfl) (by rfl) _ Tryd.underlying23 (by rfl) (size_ref) (by rfl) ?_)
        | fail)
      refine (greach_no none w5 (HK.out w5 hb5.out).2.1 r).mono ?_
      rintro e w6 ⟨rfl, hbx⟩
      have hb6 := Lib.hid (hb5.out.trans (hbx.mono hb5.out.size))
      have hr6 := (HK.out w6 hb6.out).1.ref
      clear hbx hr5
      go_wp2_with (first
        | ((with_reducible show wpList _ _ _ ((⟨some 80, _, _, _, _, _⟩ : Oper) :: _) _ _); refine wpList_want (by rfl) ?_; refine wpList_load_blk (o := ⟨some 80, _, _, _, _, _⟩) (hr6) (by rfl) _ _ (by rfl) (by rfl) _ Tryd.underlying23 (by rfl) (size_ref) (by rfl) ?_)
        | fail)
      refine (ginstall_no none w6 (HK.out w6 hb6.out).2.1 r _).mono ?_
      rintro e w7 ⟨rfl, hbx⟩
      have hb7 := Lib.hid (hb6.out.trans (hbx.mono hb6.out.size))
      have hr7 := (HK.out w7 hb7.out).1.ref
      clear hbx hr6
      go_wp2_with fail
      refine (gflush_no none w7 (HK.out w7 hb7.out).2.1).mono ?_
      rintro e w7' ⟨rfl, hw⟩
      obtain rfl := hw.symm
      clear hw
      go_wp2_with (first
        | ((with_reducible show wpList _ _ _ ((⟨some 92, _, _, _, _, _⟩ : Oper) :: _) _ _); refine wpList_want (by rfl) ?_; refine wpList_load_blk (o := ⟨some 92, _, _, _, _, _⟩) (hr7) (by rfl) _ _ (by rfl) (by rfl) _ Tryd.underlying23 (by rfl) (size_ref) (by rfl) ?_)
        | fail)
      refine (grelease_no none w7 (HK.out w7 hb7.out).2.1 r).mono ?_
      rintro e w8 ⟨rfl, hbx⟩
      have hb8 := Lib.hid (hb7.out.trans (hbx.mono hb7.out.size))
      clear hbx hr7
      have hng := (HK.out w8 hb8.out).2.1
      have d8 := (HK.out w8 hb8.out).2.2.2
      go_wp2_with fail
      refine (greset_no none w8 hng _).mono ?_
      rintro e w8' ⟨rfl, hw⟩
      obtain rfl := hw.symm
      clear hw
      go_wp2_with fail
      refine (gcounts_no none w8 hng).mono ?_
      rintro e w8' ⟨rfl, hw⟩
      obtain rfl := hw.symm
      clear hw
      go_wp2_with fail
      refine (gsettle_no none w8 hng).mono ?_
      rintro e w8' ⟨rfl, hw⟩
      obtain rfl := hw.symm
      clear hw
      go_wp2_with fail
      refine (gfree_no none w8 hng).mono ?_
      rintro e w8' ⟨rfl, hw⟩
      obtain rfl := hw.symm
      clear hw
      go_wp2_with fail
      refine (gwanted_no none w8 hng).mono ?_
      rintro e w8' ⟨rfl, hw⟩
      obtain rfl := hw.symm
      clear hw
      go_wp2_with fail
      refine (gnew_no none 1 w8 (HK.out w8 hb8.out).2.2.1).mono ?_
      rintro e w8' ⟨rfl, hw⟩
      obtain rfl := hw.symm
      clear hw
      go_wp2_with fail
      refine (gopen_no none 1 _ w8 (HK.out w8 hb8.out).2.2.1).mono ?_
      rintro e w8' ⟨rfl, hw⟩
      obtain rfl := hw.symm
      clear hw hng
      go_wp2_with fail
      exact ⟨⟨1, by omega, rfl, (HK.out w8 hb8.out).1, HH.out.2.trans (hb8.out.mono HH.out.2.size)⟩, by simp [intOf]⟩
    · obtain rfl : k = 1 := by omega
      have d0 : wr.cell? ⟨w.heap.size + 1 + 1, 1, none⟩ = some (.pointer (some ⟨w.heap.size + 1, 0, none⟩)) := hN.grids.at_ 1 rfl
      have hk1 : ∀ w', Below wr.heap.size wr w' → NoneAt w w' r ∧ NoGrid (some ⟨w.heap.size + 1, 0, none⟩) w' ∧ NoDisk (some ⟨w.heap.size + 1 + 1 + 1, 0, none⟩) w' ∧ w'.cell? ⟨w.heap.size + 1 + 1 + 1 + 1, 1, none⟩ = some (.pointer (some ⟨w.heap.size + 1 + 1 + 1, 0, none⟩)) := fun w' hw' => ⟨hN.below hw', .inr ⟨_, rfl, (hN.below hw').grid⟩, .inr ⟨_, rfl, (hN.below hw').disk⟩, (hN.below hw').disks.at_ 1 rfl⟩
      have HK := Lib.hid hk1
      have HH := Lib.hid (And.intro hN hB)
      clear hN hB hk1 k2 kn hk
      go_wp2_with fail
      refine (gwrite_no (some ⟨w.heap.size + 1, 0, none⟩) wr (HK.out wr (Below.refl _ _)).2.1 1 0 none A 0 0 m cap).mono ?_
      rintro e w1 ⟨rfl, hb1⟩
      have hr2 := (HK.out w1 hb1).1.ref
      go_wp2_with (first
        | ((with_reducible show wpList _ _ _ ((⟨none, _, _, _, _, _⟩ : Oper) :: _) _ _); refine wpList_store_blk (o := ⟨none, _, _, _, _, _⟩) ((Blk.new w1 23 #[.int .i64 0, .int .i64 0])) (by rfl) _ _ _ (by rfl) (by rfl) (#[.int .i64 0, .int .i64 0]) (by rfl) (size_ref) (by rfl) (by rfl) (by simp [Value.oneCell']) ?_; intro w2 h2 hu2; have hbx := ((Below.refl w1.heap.size w1).alloc (Nat.le_refl _) (.cells #[.int .i64 0, .int .i64 0] 23)).upd hu2 (Nat.le_refl _); have hb2 := Lib.hid (hb1.trans (hbx.mono hb1.size)); replace hr2 := (HK.out w2 hb2.out).1.ref; clear hu2 hbx h2)
        | ((with_reducible show wpList _ _ _ ((⟨some 48, _, _, _, _, _⟩ : Oper) :: _) _ _); refine wpList_load_blk (o := ⟨some 48, _, _, _, _, _⟩) (hr2) (by rfl) _ _ (by rfl) (by rfl) _ Tryd.underlying23 (by rfl) (size_ref) (by rfl) ?_)
        | fail)
      refine (gread_no (some ⟨w.heap.size + 1, 0, none⟩) w2 (HK.out w2 hb2.out).2.1 r).mono ?_
      rintro e w3 ⟨rfl, hbx⟩
      have hb3 := hb2.out.trans (hbx.mono hb2.out.size)
      have hr3 := (HK.out w3 hb3).1.ref
      clear hbx hr2 d0 hb1
      go_wp2_with (first
        | ((with_reducible show wpList _ _ _ ((⟨none, _, _, _, _, _⟩ : Oper) :: _) _ _); refine wpList_store_blk (o := ⟨none, _, _, _, _, _⟩) ((Blk.new w3 46 #[.int .i64 0, .int .i64 0, .int .i64 0, .slice none 0 0, .slice none 0 0])) (by rfl) _ _ _ (by rfl) (by rfl) (#[.int .i64 0, .int .i64 0, .int .i64 0, .slice none 0 0, .slice none 0 0]) (by rfl) (sizeGB) (by rfl) (by rfl) (by exact zeroGB_one) ?_; intro w4 h4 hu4; have hbx := ((Below.refl w3.heap.size w3).alloc (Nat.le_refl _) (.cells #[.int .i64 0, .int .i64 0, .int .i64 0, .slice none 0 0, .slice none 0 0] 46)).upd hu4 (Nat.le_refl _); have hb4 := Lib.hid (hb3.trans (hbx.mono hb3.size)); replace hr3 := (HK.out w4 hb4.out).1.ref; clear hu4 hbx h4)
        | ((with_reducible show wpList _ _ _ ((⟨some 54, _, _, _, _, _⟩ : Oper) :: _) _ _); refine wpList_load_blk (o := ⟨some 54, _, _, _, _, _⟩) (hr3) (by rfl) _ _ (by rfl) (by rfl) _ Tryd.underlying23 (by rfl) (size_ref) (by rfl) ?_)
        | fail)
      refine (graw_no (some ⟨w.heap.size + 1, 0, none⟩) w4 (HK.out w4 hb4.out).2.1 r).mono ?_
      rintro e w5 ⟨rfl, hbx⟩
      have hb5 := Lib.hid (hb4.out.trans (hbx.mono hb4.out.size))
      have hr5 := (HK.out w5 hb5.out).1.ref
      clear hbx hr3 hb3
      go_wp2_with (first
        | ((with_reducible show wpList _ _ _ ((⟨some 60, _, _, _, _, _⟩ : Oper) :: _) _ _); refine wpList_load_blk (o := ⟨some 60, _, _, _, _, _⟩) (hr5) (by rfl) _ _ (by rfl) (by rfl) _ Tryd.underlying23 (by rfl) (size_ref) (by rfl) ?_)
        | fail)
      refine (greach_no (some ⟨w.heap.size + 1, 0, none⟩) w5 (HK.out w5 hb5.out).2.1 r).mono ?_
      rintro e w6 ⟨rfl, hbx⟩
      have hb6 := Lib.hid (hb5.out.trans (hbx.mono hb5.out.size))
      have hr6 := (HK.out w6 hb6.out).1.ref
      clear hbx hr5
      go_wp2_with (first
        | ((with_reducible show wpList _ _ _ ((⟨some 80, _, _, _, _, _⟩ : Oper) :: _) _ _); refine wpList_want (by rfl) ?_; refine wpList_load_blk (o := ⟨some 80, _, _, _, _, _⟩) (hr6) (by rfl) _ _ (by rfl) (by rfl) _ Tryd.underlying23 (by rfl) (size_ref) (by rfl) ?_)
        | fail)
      refine (ginstall_no (some ⟨w.heap.size + 1, 0, none⟩) w6 (HK.out w6 hb6.out).2.1 r _).mono ?_
      rintro e w7 ⟨rfl, hbx⟩
      have hb7 := Lib.hid (hb6.out.trans (hbx.mono hb6.out.size))
      have hr7 := (HK.out w7 hb7.out).1.ref
      clear hbx hr6
      go_wp2_with fail
      refine (gflush_no (some ⟨w.heap.size + 1, 0, none⟩) w7 (HK.out w7 hb7.out).2.1).mono ?_
      rintro e w7' ⟨rfl, hw⟩
      obtain rfl := hw.symm
      clear hw
      go_wp2_with (first
        | ((with_reducible show wpList _ _ _ ((⟨some 92, _, _, _, _, _⟩ : Oper) :: _) _ _); refine wpList_want (by rfl) ?_; refine wpList_load_blk (o := ⟨some 92, _, _, _, _, _⟩) (hr7) (by rfl) _ _ (by rfl) (by rfl) _ Tryd.underlying23 (by rfl) (size_ref) (by rfl) ?_)
        | fail)
      refine (grelease_no (some ⟨w.heap.size + 1, 0, none⟩) w7 (HK.out w7 hb7.out).2.1 r).mono ?_
      rintro e w8 ⟨rfl, hbx⟩
      have hb8 := Lib.hid (hb7.out.trans (hbx.mono hb7.out.size))
      clear hbx hr7
      have hng := (HK.out w8 hb8.out).2.1
      have d8 := (HK.out w8 hb8.out).2.2.2
      go_wp2_with fail
      refine (greset_no (some ⟨w.heap.size + 1, 0, none⟩) w8 hng _).mono ?_
      rintro e w8' ⟨rfl, hw⟩
      obtain rfl := hw.symm
      clear hw
      go_wp2_with fail
      refine (gcounts_no (some ⟨w.heap.size + 1, 0, none⟩) w8 hng).mono ?_
      rintro e w8' ⟨rfl, hw⟩
      obtain rfl := hw.symm
      clear hw
      go_wp2_with fail
      refine (gsettle_no (some ⟨w.heap.size + 1, 0, none⟩) w8 hng).mono ?_
      rintro e w8' ⟨rfl, hw⟩
      obtain rfl := hw.symm
      clear hw
      go_wp2_with fail
      refine (gfree_no (some ⟨w.heap.size + 1, 0, none⟩) w8 hng).mono ?_
      rintro e w8' ⟨rfl, hw⟩
      obtain rfl := hw.symm
      clear hw
      go_wp2_with fail
      refine (gwanted_no (some ⟨w.heap.size + 1, 0, none⟩) w8 hng).mono ?_
      rintro e w8' ⟨rfl, hw⟩
      obtain rfl := hw.symm
      clear hw
      go_wp2_with fail
      refine (gnew_no (some ⟨w.heap.size + 1 + 1 + 1, 0, none⟩) 1 w8 (HK.out w8 hb8.out).2.2.1).mono ?_
      rintro e w8' ⟨rfl, hw⟩
      obtain rfl := hw.symm
      clear hw
      go_wp2_with fail
      refine (gopen_no (some ⟨w.heap.size + 1 + 1 + 1, 0, none⟩) 1 _ w8 (HK.out w8 hb8.out).2.2.1).mono ?_
      rintro e w8' ⟨rfl, hw⟩
      obtain rfl := hw.symm
      clear hw hng
      go_wp2_with fail
      exact ⟨⟨2, by omega, rfl, (HK.out w8 hb8.out).1, HH.out.2.trans (hb8.out.mono HH.out.2.size)⟩, by simp [intOf]⟩
end Go.Proofs.YthfdjemlibecgaaDoor

/- GridNone: for every input the law returns true and the arguments read as they did. Condition: the table of Go's library is as its initialiser lays it (tied to the program's text by the card). -/
namespace Go.Proofs.YthfdjemlibecgaaDoor
open Go.ChangeShapes Go.WideShapes Go.ChangeAt Go.RowKit
theorem gridNone_args (x : refSh.T) (cs : List Value) (A : Option Addr) (c : Nat) (l : List UInt8) (W : World) (hi : Sh.Is W refSh x cs) (hl : l.length ≤ c) (hc : c ≤ 9223372036854775807) (hT : Tab W) :
    Calls Tryd.prog 9 #[.agg cs.toArray, .slice A l.length c] W fun e w' => e = .returned (.bool true) ∧ Below W.heap.size W w' := by
  obtain rfl := refSh_is hi
  exact gridNone_law x A l.length c W hT (Nat.le_trans hl hc)
set_option maxRecDepth 100000 in
theorem gridNone_lifted (os : Os) (started : os.Started) (H : Type) (enc : TypeId × Value → H) :
    ReturnsInHanded {} Tryd.checked os 9 .any (fun w args => (Rows.gridNoneSpec.pre enc Tryd.prog Tryd.f9 [] false w args ∧ laidMetH Tryd.prog laid1 w) ∧ sizedMet enc Tryd.prog Tryd.f9 (OpenSpec.ofChange Rows.gridNoneSpec) false w args) (Rows.gridNoneSpec.post enc Tryd.prog Tryd.f9 false true false false) := by
  refine returnsInHanded_of_change_and (C := Tryd.checked) (X := fun w _ => laidMetH Tryd.prog laid1 w) (fun _ _ _ hh h => h.of_heap hh) Tryd.own started (by kernel_rfl) Tryd.func9
    (ChangeSpec.witness_shaped (enc := enc) (C := Tryd.checked) (os := os) (X := fun w _ => laidMetH Tryd.prog laid1 w) false (World.doorLaid Tryd.prog 400 os) #[.agg #[.int .i64 0, .int .i64 0], .slice none 0 0] 8 rfl (World.shaped_of_RefB (by kernel_rfl) (by kernel_rfl)) (by kernel_rfl) (by kernel_rfl) (by kernel_rfl) (door_met os _)) ?_
  intro W base args ds gs before hval0 hW _ _ hL _
  have hT : Tab W := of_laid hL
  have hval : ∀ (j : Nat) t v, Tryd.f9.params[j]? = some t → args[j]? = some v → Value.okWide Tryd.prog W .any base t v := hval0
  have hW' := hW
  obtain ⟨p, q, hA0, hV, rfl, hfz, hnd⟩ := hW
  have hA : DataW.TrodAll enc Tryd.prog W 0 (fun _ => true) true Tryd.f9.params.toList args.toList ds p := hA0
  rw [Tryd.params9] at hA hval
  obtain ⟨v0, v1, d0, d1, p0, p1, rfl, rfl, rfl, h0, h1⟩ := trodAll_two hA
  obtain ⟨rfl, rfl⟩ := trodVars_none hV
  have h0k := h0
  have h1k := h1
  obtain ⟨x, hx0⟩ := Sh.open_ (P := Tryd.prog) refSh (by kernel_rfl) h0
  obtain ⟨cs, rfl, hi⟩ := arg_agg Tryd.underlying23 rfl (hval 0 23 v0 rfl rfl) hx0
  obtain ⟨l, hx1⟩ := Sh.open_ (P := Tryd.prog) (.slice .byte) (by kernel_rfl) h1
  obtain ⟨A, c, rfl, hlc, hcm, hb⟩ := arg_bytes Tryd.underlying44 (hval 1 44 v1 rfl rfl) hx1
  clear hA0 hval0
  simp only [List.append_nil] at hW'
  have hlt : ∀ x ∈ p0 ++ p1, x.block < W.heap.size := fun x hx => by simpa using hW'.lt x hx
  refine (gridNone_args x cs A c l W hi hlc hcm hT).mono fun e W' ⟨he, hw⟩ => ?_
  subst he
  refine ⟨_, rfl, _, _, _, [], p0 ++ p1, [], hW', ?_, ?_, rfl, hw.frame _, fun h => by cases h⟩
  · exact trodAll_mk1 (shut_bool Tryd.underlying4 true)
  · exact trodAll_mk2 (Below.trod Tryd.laidOut (by kernel_rfl) (of_decide_eq_true (by kernel_rfl)) h0k hw (fun x hx => hlt x (by simp [hx]))) (Below.trod Tryd.laidOut (by kernel_rfl) (of_decide_eq_true (by kernel_rfl)) h1k hw (fun x hx => hlt x (by simp [hx])))
theorem gridNone_holds : Rows.GridNoneSaid :=
  OpenClaim.holds_of_wide 9 Tryd.f9 rfl rfl rfl rfl rfl rfl rfl ⟨rfl, rfl, rfl, rfl, rfl⟩ rfl rfl rfl rfl rfl (by kernel_rfl) Tryd.func9 (by kernel_rfl)
    (of_decide_eq_true (by kernel_rfl)) (by unfold Func.isWrapper; rw [if_neg (by decide +kernel)]; exact ⟨rfl, rfl⟩)
    (fun os started H enc _ => gridNone_lifted os started H enc)
theorem gridNone_card : Rows.GridNoneCardSaid :=
  Claim7.holds_tied_plain_at .later [] [.data] true Rows.gridNoneCard.stood.harness false
    gridNone_holds (fun _ h => by cases h) (by kernel_rfl) (fun _ h => by cases h) gridNone_row_tie rfl ⟨rfl, rfl⟩ (by kernel_rfl) rfl
    (fun f fn hf hfn => by
      obtain rfl : f = 9 := Option.some.inj ((show Tryd.prog.funcNamed Rows.gridNoneRow.func = some 9 by kernel_rfl).symm.trans hf) |>.symm
      obtain rfl : fn = Tryd.f9 := (Option.some.inj (Tryd.func9.symm.trans hfn)).symm
      exact ⟨by kernel_rfl, fun j t ht => by
        rw [Tryd.params9] at ht
        have hm : t ∈ [23, 44] := by simpa using Array.mem_of_getElem? ht
        have hall : ([23, 44].all fun u => !Tryd.prog.wantsStandIn u) = true := by kernel_rfl
        exact (show Tryd.prog.wantsStandIn t = false by simpa using List.all_eq_true.1 hall t hm)⟩)
    (by kernel_rfl)
end Go.Proofs.YthfdjemlibecgaaDoor
