/- The chapter's examples as the statements name them: awake. Condition: the library's table is there. -/
import Derived.Test.YthfdjemlibecgaaDoorMFetchWhole17
namespace Go.Proofs.YthfdjemlibecgaaDoor
open Go.RowKit
def g43 : Grd := ⟨4, [1, 1, 0, 0], [(1, 8, ())]⟩
theorem look_one {d : Dsk} (h : Two d) {W : List RefT} : glook ⟨4, [1, 1, 0, 0], W⟩ d none (1, 7, ()) = (0, some gb1, ⟨4, [1, 1, 0, 0], W⟩) := by
  have ht : gthere d (1, 7, ()) = some gb1 := gthere_some (b := gb1) (by decide) h.one
  unfold glook
  rw [if_neg (by unfold Dsk.isOut; rw [h.rm.out]; simp), if_neg (by show ¬ (Grd.of ⟨4, [], []⟩ (1, 7, ()) = false); decide), ht]
theorem look_other {d : Dsk} (h : Two d) : glook g42 d none (1, 8, ()) = (13, none, g43) := by
  have ht : gthere d (1, 8, ()) = none := gthere_other (b := gb1) (by decide) h.one (by decide)
  unfold glook
  rw [if_neg (by unfold Dsk.isOut; rw [h.rm.out]; simp), if_neg (by decide), ht]
  rfl
set_option maxRecDepth 100000 in
set_option maxHeartbeats 4000000 in
theorem lawake_any (w : World) (hT : Tab w) : Calls Tryd.prog 22 #[] w fun e w' => e = .returned (.bool true) ∧ Below w.heap.size w w' := by
  have hz := zeroGBrun
  have H0 := Lib.hid hT
  clear hT
  go_enter Tryd.func22, Tryd.ntmps22
  go_wp2_with fail
  refine (ltwo_any w H0.out).mono ?_
  rintro e w1 ⟨gp, dp, d, rfl, ⟨q, rfl, rfl, hf, hG, hq⟩, hTwo, hB⟩
  have HTwo := Lib.hid hTwo
  have HQ := Lib.hid (And.intro hf (And.intro hq hG.lt))
  have H1 := Lib.hid (And.intro hG hB)
  clear hG hB hTwo hf hq
  go_wp2_with fail
  refine (lref_any 1 7 w1).mono ?_
  rintro e w2 ⟨rfl, hbx⟩
  have H2 := Lib.hid (And.intro (H1.out.1.below hbx) (And.intro (H1.out.2.trans (hbx.mono H1.out.2.size)) hbx.size))
  clear hbx H1
  go_wp2_with fail
  have hrd := gread_any H2.out.1 (by decide) (1, 7, ())
  rw [show glook g42 d none (1, 7, ()) = (0, some gb1, g42) from look_one HTwo.out] at hrd
  refine hrd.mono ?_
  rintro e w3 ⟨v1, rfl, ⟨v2, hTo⟩, hP⟩
  obtain ⟨A, c, BB, e1, C, rfl, -, hr3, hb3, -, -, -, -, hA, hBB⟩ := hTo
  have hbx := hP.2 rfl
  have H3 := Lib.hid (And.intro (H2.out.1.below hbx) (And.intro (H2.out.2.1.trans (hbx.mono H2.out.2.1.size)) (And.intro hr3 (And.intro hb3 (Nat.le_trans H2.out.2.2 hbx.size)))))
  have HAB := Lib.hid (And.intro (fun ad e => Nat.le_trans H2.out.2.2 (hA ad e)) (fun ad e => Nat.le_trans H2.out.2.2 (hBB ad e)))
  clear hrd hP hbx hr3 hb3 hA hBB H2
  go_wp2_with (first
    | ((with_reducible show wpList _ _ _ ((⟨none, _, _, _, _, _⟩ : Oper) :: _) _ _); refine wpList_store_blk (o := ⟨none, _, _, _, _, _⟩) ((Blk.new w3 46 #[.int .i64 0, .int .i64 0, .int .i64 0, .slice none 0 0, .slice none 0 0])) (by rfl) _ _ _ (by rfl) (by rfl) (gbc gb1 A c BB e1) (by rfl) (sizeGB) (by rfl) (by rfl) (gbc_one _ _ _ _ _) ?_; intro w4 h4 hu4; have hbx := ((Below.refl w3.heap.size w3).alloc (Nat.le_refl _) (.cells #[.int .i64 0, .int .i64 0, .int .i64 0, .slice none 0 0, .slice none 0 0] 46)).upd hu4 (Nat.le_refl _); have H4 := Lib.hid (And.intro h4 (And.intro (H3.out.1.below hbx) (And.intro (H3.out.2.1.trans (hbx.mono H3.out.2.1.size)) (And.intro (H3.out.2.2.1.below hbx) (Bytes.below H3.out.2.2.2.1 hbx))))); clear hu4 hbx h4)
    | fail)
  refine (lref_any 1 8 w4).mono ?_
  rintro e w5 ⟨rfl, hbx⟩
  have H5 := Lib.hid (And.intro (H4.out.1.below hbx H4.out.1.lt) (And.intro (H4.out.2.1.below hbx) (And.intro (H4.out.2.2.1.trans (hbx.mono H4.out.2.2.1.size)) (And.intro (H4.out.2.2.2.1.below hbx) (Bytes.below H4.out.2.2.2.2 hbx)))))
  clear hbx H4
  go_wp2_with fail
  have hrd := gread_any H5.out.2.1 (by decide) (1, 8, ())
  rw [show glook g42 d none (1, 8, ()) = (13, none, g43) from look_other HTwo.out] at hrd
  refine hrd.mono ?_
  rintro e w6 ⟨v1, rfl, ⟨v2, hTo⟩, hP⟩
  obtain ⟨A', c', BB', e1', C', rfl, -, -⟩ := hTo
  obtain ⟨q', hq1, -, -, hG6, hN6, -⟩ := hP.1
  have hoff : ∀ x, w1.heap.size ≤ x → x ∉ q.all := fun x hx hm => by have := HQ.out.2.2 x hm; omega
  have H6 := Lib.hid (And.intro (H5.out.1.near hN6 (hoff _ H3.out.2.2.2.2)) (And.intro hG6 (And.intro (H5.out.2.2.1.trans (hN6.toBelow HQ.out.2.1 H5.out.2.2.1.size)) (And.intro (Refs.near H5.out.2.2.2.1 hN6 (fun ad e => hoff _ (HAB.out.1 ad e))) (Near.bytes H5.out.2.2.2.2 hN6 (fun ad e => hoff _ (HAB.out.2 ad e)))))))
  clear hrd hP hG6 hN6 hoff H5 H3
  go_wp2_with (first
    | ((with_reducible show wpList _ _ _ ((⟨none, _, _, _, _, _⟩ : Oper) :: _) _ _); refine wpList_store_blk (o := ⟨none, _, _, _, _, _⟩) ((Blk.new w6 46 #[.int .i64 0, .int .i64 0, .int .i64 0, .slice none 0 0, .slice none 0 0])) (by rfl) _ _ _ (by rfl) (by rfl) (gbc ((none : Option GBT).getD GB.none_) A' c' BB' e1') (by rfl) (sizeGB) (by rfl) (by rfl) (gbc_one _ _ _ _ _) ?_; intro w7 h7 hu7; have hbx := ((Below.refl w6.heap.size w6).alloc (Nat.le_refl _) (.cells #[.int .i64 0, .int .i64 0, .int .i64 0, .slice none 0 0, .slice none 0 0] 46)).upd hu7 (Nat.le_refl _); have H7 := Lib.hid (And.intro (H6.out.1.below hbx H6.out.1.lt) (And.intro (H6.out.2.1.below hbx) (And.intro (H6.out.2.2.1.trans (hbx.mono H6.out.2.2.1.size)) (And.intro (H6.out.2.2.2.1.below hbx) (Bytes.below H6.out.2.2.2.2 hbx))))); clear hu7 hbx h7)
    | fail)
  clear H6
  have hC0 : Below w7.heap.size w7 w7.drew := (Below.refl _ _).drew
  refine wp_region_tree (Below w7.heap.size w7) [] (PlanT.takes [0, 1, 2] (PlanT.takes [3] (.opt 4 (.opt 5 (.opt 6 (PlanT.takes [7] (.opt 8 (PlanT.takes [9, 10, 11, 12, 13, 14, 15] (.opt 16 (.opt 17 (.opt 18 (.opt 19 (PlanT.takes [20, 21] .done) .no) .no) .no) .no)) .no)) .no) .no) (.opt 5 (.opt 4 (.opt 6 (PlanT.takes [7] (.opt 8 (PlanT.takes [9, 10, 11, 12, 13, 14, 15] (.opt 16 (.opt 17 (.opt 18 (.opt 19 (PlanT.takes [20, 21] .done) .no) .no) .no) .no)) .no)) .no) (.opt 6 (.opt 4 (PlanT.takes [7] (.opt 8 (PlanT.takes [9, 10, 11, 12, 13, 14, 15] (.opt 16 (.opt 17 (.opt 18 (.opt 19 (PlanT.takes [20, 21] .done) .no) .no) .no) .no)) .no)) .no) .no)) .no)))) (by kernel_rfl) (by kernel_rfl) (hC0) ?_
  refine wpTree_pure _ _ _ (by rfl) (by rfl) ?_
  dsimp only [List.filterMap, List.getElem?_cons_zero, List.getElem?_cons_succ]
  repeat (go_big_quiet_step (fail))
  refine wpQuiet_nil ?_
  refine wpTree_takeL _ _ _ (by rfl) (by rfl) (hC0) ?_
  dsimp only [List.filterMap, List.getElem?_cons_zero, List.getElem?_cons_succ]
  (refine wpQuiet_want' (by rfl) ?_; refine wpQuiet_load_blk (fun w' hw' => H7.out.1.below hw' H7.out.1.lt) (by rfl) _ _ (by rfl) (by rfl) _ Tryd.underlying46 (by rfl) (sizeGB) (by rfl) ?_; simp only [Act.put, List.setIfInBounds_toArray, List.set_cons_zero, List.set_cons_succ])
  refine wpQuiet_nil ?_
  refine wpTree_opt _ rfl ?_ (wpTree_opt _ rfl ?_ trivial)
  · go_wp2_with fail
    refine (lref_any 1 7 _).mono ?_
    rintro e x1 ⟨rfl, hbx⟩
    have hC_x1 : Below w7.heap.size w7 x1 := hC0.trans (hbx.mono hC0.size)
    clear hbx
    go_wp2_with fail
    refine TreeQ.in_ hC_x1 ?_
    refine wpTree_one _ rfl ?_
    go_wp2_with fail
    have hbk_x2 := Blk.new x1 5 #[.int .u8 97]
    have hC_x2 := hC_x1.alloc hC_x1.size (.cells #[.int .u8 97] 5)
    have hgC : w7.heap.size ≤ x1.heap.size := hC_x1.size
    generalize x1.alloc (.cells #[.int .u8 97] 5) = x2 at hbk_x2 hC_x2 ⊢
    generalize x1.heap.size = gC at hbk_x2 hgC ⊢
    refine TreeQ.in_ hC_x2 ?_
    refine wpTree_one _ rfl ?_
    go_wp2_with (first
      | ((with_reducible show wpList _ _ _ ((⟨some 33, _, _, _, _, _⟩ : Oper) :: _) _ _); refine wpList_want (by rfl) ?_; refine wpList_bytes_mark (o := ⟨some 33, _, _, _, _, _⟩) (by rfl) 44 5 _ (by rfl) Tryd.underlying44 Tryd.underlying5 [97] 1 gC hbk_x2 (by rfl) ?_; intro x3 hby_x3 hu6)
      | fail)
    have hC_x3 : Below w7.heap.size w7 x3 := hC_x2.upd hu6 hgC
    clear hu6
    refine TreeQ.in_ hC_x3 ?_
    refine wpTree_pure _ _ _ (by rfl) (by rfl) ?_
    dsimp only [List.filterMap, List.getElem?_cons_zero, List.getElem?_cons_succ]
    repeat (go_big_quiet_step (fail))
    refine wpQuiet_nil ?_
    refine wpTree_one _ rfl ?_
    go_wp2_with fail
    refine (sameBlock_any 1 1 1 1 7 7 [] [] [97] [97] A none BB (some ⟨gC, 0, none⟩) c 0 e1 1 x3 ⟨H7.out.2.2.2.1.below (hC_x3), Bytes.below H7.out.2.2.2.2 hC_x3, by simp, by simp⟩ ⟨fun h => absurd h (by simp), hby_x3, by simp, by simp⟩).mono ?_
    rintro e wa ⟨he, hbx⟩
    obtain rfl : e = .returned (.bool true) := by simpa using he
    have hC_wa := hC_x3.trans (hbx.mono hC_x3.size)
    clear hbx he
    go_wp2_with fail
    refine TreeQ.in_ hC_wa ?_
    refine wpTree_pure _ _ _ (by rfl) (by rfl) ?_
    dsimp only [List.filterMap, List.getElem?_cons_zero, List.getElem?_cons_succ]
    repeat (go_big_quiet_step (fail))
    refine wpQuiet_nil ?_
    refine wpTree_one _ rfl ?_
    go_wp2_with fail
    have hwt := gwanted_any (H7.out.2.1.below hC_wa) (by decide)
    rw [hq1] at hwt
    refine hwt.mono ?_
    rintro e wb ⟨A3, c3, rfl, hr3, -, hbx⟩
    have hC_wb := hC_wa.trans (hbx.mono hC_wa.size)
    clear hwt hbx
    go_wp2_with fail
    refine TreeQ.in_ hC_wb ?_
    refine wpTree_one _ rfl ?_
    go_wp2_with fail
    refine (lref_any 1 8 _).mono ?_
    rintro e wc ⟨rfl, hbx⟩
    have hC_wc := hC_wb.trans (hbx.mono hC_wb.size)
    have hr4 := hr3.below hbx
    clear hbx
    go_wp2_with fail
    refine TreeQ.in_ hC_wc ?_
    refine wpTree_one _ rfl ?_
    go_wp2_with fail
    have hb5 := (Below.refl wc.heap.size wc).alloc (Nat.le_refl _) (.cells #[.int .i64 1, .int .i64 8] 23)
    have hr5 : Refs (wc.alloc (.cells #[.int .i64 1, .int .i64 8] 23)) (some ⟨wc.heap.size, 0, none⟩) [(1, 8, ())] := Refs.of (reads_new wc 23 [.int .i64 1, .int .i64 8])
    have hC_wd := hC_wc.trans (hb5.mono hC_wc.size)
    have hr6 := hr4.below hb5
    clear hb5
    generalize wc.alloc (.cells #[.int .i64 1, .int .i64 8] 23) = wd at hr5 hC_wd hr6 ⊢
    refine TreeQ.in_ hC_wd ?_
    refine wpTree_one _ rfl ?_
    go_wp2_with fail
    refine (sameRefs_any A3 (some ⟨wc.heap.size, 0, none⟩) 1 1 c3 1 [(1, 8, ())] [(1, 8, ())] rfl rfl (by simp) wd hr6 hr5).mono ?_
    rintro e we ⟨he, hbx⟩
    obtain rfl : e = .returned (.bool true) := by simpa using he
    have hC_we := hC_wd.trans (hbx.mono hC_wd.size)
    have hB_we := H7.out.2.2.1.trans (hC_we.mono H7.out.2.2.1.size)
    clear hbx he
    go_wp2_with fail
    refine TreeQ.in_ hC_we ?_
    refine wpTree_pure _ _ _ (by rfl) (by rfl) ?_
    dsimp only [List.filterMap, List.getElem?_cons_zero, List.getElem?_cons_succ]
    repeat (go_big_quiet_step (fail))
    refine wpQuiet_nil ?_
    refine wpTree_done ?_
    go_wp2_with fail
    go_ret
    exact ⟨rfl, hB_we⟩
  · go_wp2_with fail
    have hbk_y1 : Blk (w7.alloc (.cells #[.int .u8 97] 5)).drew w7.heap.size 5 #[.int .u8 97] := Blk.new w7 5 #[.int .u8 97]
    have hC_y1 : Below w7.heap.size w7 (w7.alloc (.cells #[.int .u8 97] 5)).drew := ((Below.refl w7.heap.size w7).alloc (Nat.le_refl _) (.cells #[.int .u8 97] 5)).drew
    have hgC : w7.heap.size ≤ w7.heap.size := Nat.le_refl _
    generalize (w7.alloc (.cells #[.int .u8 97] 5)).drew = y1 at hbk_y1 hC_y1 ⊢
    refine TreeQ.in_ hC_y1 ?_
    refine wpTree_opt _ rfl ?_ (wpTree_opt _ rfl ?_ trivial)
    · go_wp2_with fail
      refine (lref_any 1 7 _).mono ?_
      rintro e y2 ⟨rfl, hbx⟩
      have hC_y2 : Below w7.heap.size w7 y2 := hC_y1.trans (hbx.mono hC_y1.size)
      have hbk_y2 := hbk_y1.below hbx hbk_y1.lt
      clear hbx
      go_wp2_with fail
      refine TreeQ.in_ hC_y2 ?_
      refine wpTree_one _ rfl ?_
      go_wp2_with (first
        | ((with_reducible show wpList _ _ _ ((⟨some 33, _, _, _, _, _⟩ : Oper) :: _) _ _); refine wpList_want (by rfl) ?_; refine wpList_bytes_mark (o := ⟨some 33, _, _, _, _, _⟩) (by rfl) 44 5 _ (by rfl) Tryd.underlying44 Tryd.underlying5 [97] 1 w7.heap.size hbk_y2 (by rfl) ?_; intro y3 hby_y3 hu6)
        | fail)
      have hC_y3 : Below w7.heap.size w7 y3 := hC_y2.upd hu6 hgC
      clear hu6
      refine TreeQ.in_ hC_y3 ?_
      refine wpTree_pure _ _ _ (by rfl) (by rfl) ?_
      dsimp only [List.filterMap, List.getElem?_cons_zero, List.getElem?_cons_succ]
      repeat (go_big_quiet_step (fail))
      refine wpQuiet_nil ?_
      refine wpTree_one _ rfl ?_
      go_wp2_with fail
      refine (sameBlock_any 1 1 1 1 7 7 [] [] [97] [97] A none BB (some ⟨w7.heap.size, 0, none⟩) c 0 e1 1 y3 ⟨H7.out.2.2.2.1.below (hC_y3), Bytes.below H7.out.2.2.2.2 hC_y3, by simp, by simp⟩ ⟨fun h => absurd h (by simp), hby_y3, by simp, by simp⟩).mono ?_
      rintro e wa ⟨he, hbx⟩
      obtain rfl : e = .returned (.bool true) := by simpa using he
      have hC_wa := hC_y3.trans (hbx.mono hC_y3.size)
      clear hbx he
      go_wp2_with fail
      refine TreeQ.in_ hC_wa ?_
      refine wpTree_pure _ _ _ (by rfl) (by rfl) ?_
      dsimp only [List.filterMap, List.getElem?_cons_zero, List.getElem?_cons_succ]
      repeat (go_big_quiet_step (fail))
      refine wpQuiet_nil ?_
      refine wpTree_one _ rfl ?_
      go_wp2_with fail
      have hwt := gwanted_any (H7.out.2.1.below hC_wa) (by decide)
      rw [hq1] at hwt
      refine hwt.mono ?_
      rintro e wb ⟨A3, c3, rfl, hr3, -, hbx⟩
      have hC_wb := hC_wa.trans (hbx.mono hC_wa.size)
      clear hwt hbx
      go_wp2_with fail
      refine TreeQ.in_ hC_wb ?_
      refine wpTree_one _ rfl ?_
      go_wp2_with fail
      refine (lref_any 1 8 _).mono ?_
      rintro e wc ⟨rfl, hbx⟩
      have hC_wc := hC_wb.trans (hbx.mono hC_wb.size)
      have hr4 := hr3.below hbx
      clear hbx
      go_wp2_with fail
      refine TreeQ.in_ hC_wc ?_
      refine wpTree_one _ rfl ?_
      go_wp2_with fail
      have hb5 := (Below.refl wc.heap.size wc).alloc (Nat.le_refl _) (.cells #[.int .i64 1, .int .i64 8] 23)
      have hr5 : Refs (wc.alloc (.cells #[.int .i64 1, .int .i64 8] 23)) (some ⟨wc.heap.size, 0, none⟩) [(1, 8, ())] := Refs.of (reads_new wc 23 [.int .i64 1, .int .i64 8])
      have hC_wd := hC_wc.trans (hb5.mono hC_wc.size)
      have hr6 := hr4.below hb5
      clear hb5
      generalize wc.alloc (.cells #[.int .i64 1, .int .i64 8] 23) = wd at hr5 hC_wd hr6 ⊢
      refine TreeQ.in_ hC_wd ?_
      refine wpTree_one _ rfl ?_
      go_wp2_with fail
      refine (sameRefs_any A3 (some ⟨wc.heap.size, 0, none⟩) 1 1 c3 1 [(1, 8, ())] [(1, 8, ())] rfl rfl (by simp) wd hr6 hr5).mono ?_
      rintro e we ⟨he, hbx⟩
      obtain rfl : e = .returned (.bool true) := by simpa using he
      have hC_we := hC_wd.trans (hbx.mono hC_wd.size)
      have hB_we := H7.out.2.2.1.trans (hC_we.mono H7.out.2.2.1.size)
      clear hbx he
      go_wp2_with fail
      refine TreeQ.in_ hC_we ?_
      refine wpTree_pure _ _ _ (by rfl) (by rfl) ?_
      dsimp only [List.filterMap, List.getElem?_cons_zero, List.getElem?_cons_succ]
      repeat (go_big_quiet_step (fail))
      refine wpQuiet_nil ?_
      refine wpTree_done ?_
      go_wp2_with fail
      go_ret
      exact ⟨rfl, hB_we⟩
    · go_wp2_with (first
        | ((with_reducible show wpList _ _ _ ((⟨some 33, _, _, _, _, _⟩ : Oper) :: _) _ _); refine wpList_want (by rfl) ?_; refine wpList_bytes_mark (o := ⟨some 33, _, _, _, _, _⟩) (by rfl) 44 5 _ (by rfl) Tryd.underlying44 Tryd.underlying5 [97] 1 w7.heap.size hbk_y1 (by rfl) ?_; intro z2 hby_z2 hu6)
        | fail)
      have hC_z2 : Below w7.heap.size w7 z2 := hC_y1.upd hu6 hgC
      clear hu6
      refine TreeQ.in_ hC_z2 ?_
      refine wpTree_one _ rfl ?_
      go_wp2_with fail
      refine (lref_any 1 7 _).mono ?_
      rintro e z3 ⟨rfl, hbx⟩
      have hC_z3 : Below w7.heap.size w7 z3 := hC_z2.trans (hbx.mono hC_z2.size)
      have hby_z3 := Bytes.below hby_z2 hbx
      clear hbx
      go_wp2_with fail
      refine TreeQ.in_ hC_z3 ?_
      refine wpTree_pure _ _ _ (by rfl) (by rfl) ?_
      dsimp only [List.filterMap, List.getElem?_cons_zero, List.getElem?_cons_succ]
      repeat (go_big_quiet_step (fail))
      refine wpQuiet_nil ?_
      refine wpTree_one _ rfl ?_
      go_wp2_with fail
      refine (sameBlock_any 1 1 1 1 7 7 [] [] [97] [97] A none BB (some ⟨w7.heap.size, 0, none⟩) c 0 e1 1 z3 ⟨H7.out.2.2.2.1.below (hC_z3), Bytes.below H7.out.2.2.2.2 hC_z3, by simp, by simp⟩ ⟨fun h => absurd h (by simp), hby_z3, by simp, by simp⟩).mono ?_
      rintro e wa ⟨he, hbx⟩
      obtain rfl : e = .returned (.bool true) := by simpa using he
      have hC_wa := hC_z3.trans (hbx.mono hC_z3.size)
      clear hbx he
      go_wp2_with fail
      refine TreeQ.in_ hC_wa ?_
      refine wpTree_pure _ _ _ (by rfl) (by rfl) ?_
      dsimp only [List.filterMap, List.getElem?_cons_zero, List.getElem?_cons_succ]
      repeat (go_big_quiet_step (fail))
      refine wpQuiet_nil ?_
      refine wpTree_one _ rfl ?_
      go_wp2_with fail
      have hwt := gwanted_any (H7.out.2.1.below hC_wa) (by decide)
      rw [hq1] at hwt
      refine hwt.mono ?_
      rintro e wb ⟨A3, c3, rfl, hr3, -, hbx⟩
      have hC_wb := hC_wa.trans (hbx.mono hC_wa.size)
      clear hwt hbx
      go_wp2_with fail
      refine TreeQ.in_ hC_wb ?_
      refine wpTree_one _ rfl ?_
      go_wp2_with fail
      refine (lref_any 1 8 _).mono ?_
      rintro e wc ⟨rfl, hbx⟩
      have hC_wc := hC_wb.trans (hbx.mono hC_wb.size)
      have hr4 := hr3.below hbx
      clear hbx
      go_wp2_with fail
      refine TreeQ.in_ hC_wc ?_
      refine wpTree_one _ rfl ?_
      go_wp2_with fail
      have hb5 := (Below.refl wc.heap.size wc).alloc (Nat.le_refl _) (.cells #[.int .i64 1, .int .i64 8] 23)
      have hr5 : Refs (wc.alloc (.cells #[.int .i64 1, .int .i64 8] 23)) (some ⟨wc.heap.size, 0, none⟩) [(1, 8, ())] := Refs.of (reads_new wc 23 [.int .i64 1, .int .i64 8])
      have hC_wd := hC_wc.trans (hb5.mono hC_wc.size)
      have hr6 := hr4.below hb5
      clear hb5
      generalize wc.alloc (.cells #[.int .i64 1, .int .i64 8] 23) = wd at hr5 hC_wd hr6 ⊢
      refine TreeQ.in_ hC_wd ?_
      refine wpTree_one _ rfl ?_
      go_wp2_with fail
      refine (sameRefs_any A3 (some ⟨wc.heap.size, 0, none⟩) 1 1 c3 1 [(1, 8, ())] [(1, 8, ())] rfl rfl (by simp) wd hr6 hr5).mono ?_
      rintro e we ⟨he, hbx⟩
      obtain rfl : e = .returned (.bool true) := by simpa using he
      have hC_we := hC_wd.trans (hbx.mono hC_wd.size)
      have hB_we := H7.out.2.2.1.trans (hC_we.mono H7.out.2.2.1.size)
      clear hbx he
      go_wp2_with fail
      refine TreeQ.in_ hC_we ?_
      refine wpTree_pure _ _ _ (by rfl) (by rfl) ?_
      dsimp only [List.filterMap, List.getElem?_cons_zero, List.getElem?_cons_succ]
      repeat (go_big_quiet_step (fail))
      refine wpQuiet_nil ?_
      refine wpTree_done ?_
      go_wp2_with fail
      go_ret
      exact ⟨rfl, hB_we⟩
end Go.Proofs.YthfdjemlibecgaaDoor

/- The plain seal, reckoned with natural numbers, so that the kernel can reckon it of long bytes. Plain facts. No condition. -/
namespace Go
namespace ShaN
/-- A number reckoned ahead of what uses it. -/
def force {α : Type} (n : Nat) (f : Nat → α) : α := match n with
  | 0 => f 0
  | k + 1 => f (k + 1)
theorem force_eq {α : Type} (n : Nat) (f : Nat → α) : force n f = f n := by cases n <;> rfl
def rot (x n : Nat) : Nat := Nat.lor (Nat.shiftRight x n) (Nat.mod (Nat.shiftLeft x (32 - n)) 4294967296)
def sg0 (x : Nat) : Nat := Nat.xor (Nat.xor (rot x 7) (rot x 18)) (Nat.shiftRight x 3)
def sg1 (x : Nat) : Nat := Nat.xor (Nat.xor (rot x 17) (rot x 19)) (Nat.shiftRight x 10)
def tt1 (k w e f g h : Nat) : Nat := Nat.mod (h + Nat.xor (Nat.xor (rot e 6) (rot e 11)) (rot e 25) + Nat.xor (Nat.land e f) (Nat.land (4294967295 - e) g) + k + w) 4294967296
def tt2 (a b c : Nat) : Nat := Nat.xor (Nat.xor (rot a 2) (rot a 13)) (rot a 22) + Nat.xor (Nat.xor (Nat.land a b) (Nat.land a c)) (Nat.land b c)
def nextN (w0 w1 w9 w14 : Nat) : Nat := Nat.mod (sg1 w14 + w9 + sg0 w1 + w0) 4294967296
/-- Some rounds; 16 words ahead are known. -/
def go : List Nat → List Nat → Nat → Nat → Nat → Nat → Nat → Nat → Nat → Nat → List Nat
  | [], _, a, b, c, d, e, f, g, h => [a, b, c, d, e, f, g, h]
  | k :: ks, ws, a, b, c, d, e, f, g, h =>
    force (ws.getD 0 0) fun w0 =>
    force (tt1 k w0 e f g h) fun t1 =>
    force (Nat.mod (t1 + tt2 a b c) 4294967296) fun a' =>
    force (Nat.mod (d + t1) 4294967296) fun e' =>
    force (nextN w0 (ws.getD 1 0) (ws.getD 9 0) (ws.getD 14 0)) fun wn =>
    go ks (ws.drop 1 ++ [wn]) a' a b c e' e f g
def toL (s : Sha.St) : List Nat := [s.a.toNat, s.b.toNat, s.c.toNat, s.d.toNat, s.e.toNat, s.f.toNat, s.g.toNat, s.h.toNat]
theorem rot_eq (x : UInt32) (n : Nat) (h0 : 0 < n) (h : n < 32) : rot x.toNat n = (Sha.rotr x n).toNat := by
  unfold rot Sha.rotr
  rw [UInt32.toNat_or, u32_shr_nat x n h, u32_shl_nat x (32 - n) (by omega)]
  show Nat.lor (x.toNat >>> n) ((x.toNat <<< (32 - n)) % 4294967296) = _
  rw [Nat.shiftRight_eq_div_pow, Nat.shiftLeft_eq]; rfl
theorem sg0_eq (x : UInt32) : sg0 x.toNat = (Sha.s0 x).toNat := by
  unfold sg0 Sha.s0
  rw [UInt32.toNat_xor, UInt32.toNat_xor, rot_eq x 7 (by omega) (by omega), rot_eq x 18 (by omega) (by omega)]
  have := u32_shr_nat x 3 (by omega)
  rw [show (x >>> (3 : UInt32)) = x >>> UInt32.ofNat 3 from rfl, this]
  show Nat.xor _ (x.toNat >>> 3) = _
  rw [Nat.shiftRight_eq_div_pow]; rfl
theorem sg1_eq (x : UInt32) : sg1 x.toNat = (Sha.s1 x).toNat := by
  unfold sg1 Sha.s1
  rw [UInt32.toNat_xor, UInt32.toNat_xor, rot_eq x 17 (by omega) (by omega), rot_eq x 19 (by omega) (by omega)]
  have := u32_shr_nat x 10 (by omega)
  rw [show (x >>> (10 : UInt32)) = x >>> UInt32.ofNat 10 from rfl, this]
  show Nat.xor _ (x.toNat >>> 10) = _
  rw [Nat.shiftRight_eq_div_pow]; rfl
theorem not_eq (x : UInt32) : 4294967295 - x.toNat = (~~~x).toNat := by
  rw [UInt32.toNat_not]; simp [UInt32.size]
theorem tt1_eq (k w : UInt32) (s : Sha.St) : tt1 k.toNat w.toNat s.e.toNat s.f.toNat s.g.toNat s.h.toNat = (Sha.t1 k w s).toNat := by
  unfold tt1 Sha.t1
  rw [not_eq, rot_eq s.e 6 (by omega) (by omega), rot_eq s.e 11 (by omega) (by omega), rot_eq s.e 25 (by omega) (by omega)]
  simp only [UInt32.toNat_add, UInt32.toNat_xor, UInt32.toNat_and]
  show (_ + (_ ^^^ _ ^^^ _) + ((_ &&& _) ^^^ (_ &&& _)) + _ + _) % 4294967296 = _
  omega
theorem tt2_eq (s : Sha.St) : tt2 s.a.toNat s.b.toNat s.c.toNat % 4294967296 = (Sha.t2 s).toNat := by
  unfold tt2 Sha.t2
  rw [rot_eq s.a 2 (by omega) (by omega), rot_eq s.a 13 (by omega) (by omega), rot_eq s.a 22 (by omega) (by omega)]
  simp only [UInt32.toNat_add, UInt32.toNat_xor, UInt32.toNat_and]
  rfl
theorem next_eq (w0 w1 w9 w14 : UInt32) : nextN w0.toNat w1.toNat w9.toNat w14.toNat = (Sha.s1 w14 + w9 + Sha.s0 w1 + w0).toNat := by
  unfold nextN
  rw [sg1_eq, sg0_eq]
  simp only [UInt32.toNat_add]
  show (_ + _ + _ + _) % 4294967296 = _
  omega
/-- Rounds from t on. -/
theorem go_eq (m : Nat → UInt32) (s : Sha.St) : ∀ (n t : Nat), t + n = 64 →
    go ((Sha.kl.drop t).map (·.toNat)) ((List.range 16).map fun i => (Sha.wd m (t + i)).toNat) (Sha.rounds m s t).a.toNat (Sha.rounds m s t).b.toNat (Sha.rounds m s t).c.toNat (Sha.rounds m s t).d.toNat (Sha.rounds m s t).e.toNat (Sha.rounds m s t).f.toNat (Sha.rounds m s t).g.toNat (Sha.rounds m s t).h.toNat
      = toL (Sha.rounds m s 64)
  | 0, t, h => by
    obtain rfl : t = 64 := by omega
    have : Sha.kl.drop 64 = [] := rfl
    rw [this]; rfl
  | n + 1, t, h => by
    have hk : Sha.kl.drop t = Sha.kt t :: Sha.kl.drop (t + 1) := by
      have hl : t < Sha.kl.length := by show t < 64; omega
      rw [List.drop_eq_getElem_cons hl]
      congr 1
      unfold Sha.kt
      simp [List.getD, hl]
    rw [hk, List.map_cons]
    unfold go
    simp only [force_eq]
    have e0 : ((List.range 16).map fun i => (Sha.wd m (t + i)).toNat).getD 0 0 = (Sha.wd m t).toNat := rfl
    have e1 : ((List.range 16).map fun i => (Sha.wd m (t + i)).toNat).getD 1 0 = (Sha.wd m (t + 1)).toNat := rfl
    have e9 : ((List.range 16).map fun i => (Sha.wd m (t + i)).toNat).getD 9 0 = (Sha.wd m (t + 9)).toNat := rfl
    have e14 : ((List.range 16).map fun i => (Sha.wd m (t + i)).toNat).getD 14 0 = (Sha.wd m (t + 14)).toNat := rfl
    rw [e0, e1, e9, e14, tt1_eq, next_eq]
    have hw : (Sha.s1 (Sha.wd m (t + 14)) + Sha.wd m (t + 9) + Sha.s0 (Sha.wd m (t + 1)) + Sha.wd m t) = Sha.wd m (t + 16) := by
      rw [Sha.wd_hi m (show 16 ≤ t + 16 by omega)]
      rw [show t + 16 - 2 = t + 14 by omega, show t + 16 - 7 = t + 9 by omega, show t + 16 - 15 = t + 1 by omega, show t + 16 - 16 = t by omega]
    rw [hw]
    have hwin : ((List.range 16).map fun i => (Sha.wd m (t + i)).toNat).drop 1 ++ [(Sha.wd m (t + 16)).toNat] = (List.range 16).map fun i => (Sha.wd m (t + 1 + i)).toNat := by
      have : ∀ i, Sha.wd m (t + 1 + i) = Sha.wd m (t + (1 + i)) := fun i => by rw [Nat.add_assoc]
      simp only [this]
      rfl
    rw [hwin]
    have hr : Sha.rounds m s (t + 1) = Sha.round (Sha.kt t) (Sha.wd m t) (Sha.rounds m s t) := rfl
    have ha : ((Sha.t1 (Sha.kt t) (Sha.wd m t) (Sha.rounds m s t)).toNat + tt2 (Sha.rounds m s t).a.toNat (Sha.rounds m s t).b.toNat (Sha.rounds m s t).c.toNat).mod 4294967296 = (Sha.rounds m s (t + 1)).a.toNat := by
      rw [hr]
      show (_ + _) % 4294967296 = (Sha.t1 _ _ _ + Sha.t2 _).toNat
      rw [UInt32.toNat_add, ← tt2_eq]
      omega
    have he : ((Sha.rounds m s t).d.toNat + (Sha.t1 (Sha.kt t) (Sha.wd m t) (Sha.rounds m s t)).toNat).mod 4294967296 = (Sha.rounds m s (t + 1)).e.toNat := by
      rw [hr]
      show (_ + _) % 4294967296 = ((Sha.rounds m s t).d + Sha.t1 _ _ _).toNat
      rw [UInt32.toNat_add]
    rw [ha, he]
    have := go_eq m s n (t + 1) (by omega)
    rw [← this]
    rfl
def beN (a b c d : Nat) : Nat := Nat.lor (Nat.lor (Nat.lor (Nat.mod (Nat.shiftLeft a 24) 4294967296) (Nat.mod (Nat.shiftLeft b 16) 4294967296)) (Nat.mod (Nat.shiftLeft c 8) 4294967296)) d
theorem beN_eq (a b c d : UInt8) : beN a.toNat b.toNat c.toNat d.toNat = (Sha.be a b c d).toNat := by
  unfold beN Sha.be
  have e : ∀ (x : UInt8) (n : Nat), n < 32 → (Nat.shiftLeft x.toNat n).mod 4294967296 = (x.toUInt32 <<< UInt32.ofNat n).toNat := fun x n h => by
    rw [u32_shl_nat _ n h, UInt8.toNat_toUInt32]
    show (x.toNat <<< n) % _ = _
    rw [Nat.shiftLeft_eq]
  rw [UInt32.toNat_or, UInt32.toNat_or, UInt32.toNat_or, UInt8.toNat_toUInt32, e a 24 (by omega), e b 16 (by omega), e c 8 (by omega)]
  rfl
def w4 : List Nat → List Nat
  | a :: b :: c :: d :: r => force (beN a b c d) fun w => w :: w4 r
  | _ => []
theorem w4_eq (l : List UInt8) : ∀ (n at_ : Nat), at_ + 4 * n ≤ l.length → w4 (((l.drop at_).take (4 * n)).map (·.toNat)) = (List.range n).map fun t => (Sha.word l at_ t).toNat
  | 0, at_, _ => by simp [w4]
  | n + 1, at_, h => by
    have e4 : (l.drop at_).take (4 * (n + 1)) = l.getD at_ 0 :: l.getD (at_ + 1) 0 :: l.getD (at_ + 2) 0 :: l.getD (at_ + 3) 0 :: (l.drop (at_ + 4)).take (4 * n) := by
      have hg : ∀ i, i < l.length → l.drop i = l.getD i 0 :: l.drop (i + 1) := fun i hi => by
        rw [List.drop_eq_getElem_cons hi]; congr 1; simp [List.getD, hi]
      rw [hg at_ (by omega), hg (at_ + 1) (by omega), hg (at_ + 1 + 1) (by omega), hg (at_ + 1 + 1 + 1) (by omega)]
      rw [show 4 * (n + 1) = 4 * n + 1 + 1 + 1 + 1 by omega]
      simp only [List.take_succ_cons]
    rw [e4]
    simp only [List.map_cons, w4, force_eq]
    rw [w4_eq l n (at_ + 4) (by omega), beN_eq, List.range_succ_eq_map, List.map_cons, List.map_map]
    have hw0 : Sha.word l at_ 0 = Sha.be (l.getD at_ 0) (l.getD (at_ + 1) 0) (l.getD (at_ + 2) 0) (l.getD (at_ + 3) 0) := rfl
    rw [hw0]
    refine congrArg (List.cons _) ?_
    apply List.map_congr_left
    intro t _
    simp only [Function.comp, Sha.word]
    rw [show at_ + 4 + 4 * t = at_ + 4 * (t + 1) by omega]
def kN : List Nat := [
  0x428a2f98, 0x71374491, 0xb5c0fbcf, 0xe9b5dba5, 0x3956c25b, 0x59f111f1, 0x923f82a4, 0xab1c5ed5,
  0xd807aa98, 0x12835b01, 0x243185be, 0x550c7dc3, 0x72be5d74, 0x80deb1fe, 0x9bdc06a7, 0xc19bf174,
  0xe49b69c1, 0xefbe4786, 0x0fc19dc6, 0x240ca1cc, 0x2de92c6f, 0x4a7484aa, 0x5cb0a9dc, 0x76f988da,
  0x983e5152, 0xa831c66d, 0xb00327c8, 0xbf597fc7, 0xc6e00bf3, 0xd5a79147, 0x06ca6351, 0x14292967,
  0x27b70a85, 0x2e1b2138, 0x4d2c6dfc, 0x53380d13, 0x650a7354, 0x766a0abb, 0x81c2c92e, 0x92722c85,
  0xa2bfe8a1, 0xa81a664b, 0xc24b8b70, 0xc76c51a3, 0xd192e819, 0xd6990624, 0xf40e3585, 0x106aa070,
  0x19a4c116, 0x1e376c08, 0x2748774c, 0x34b0bcb5, 0x391c0cb3, 0x4ed8aa4a, 0x5b9cca4f, 0x682e6ff3,
  0x748f82ee, 0x78a5636f, 0x84c87814, 0x8cc70208, 0x90befffa, 0xa4506ceb, 0xbef9a3f7, 0xc67178f2]
theorem kN_eq : Sha.kl.map (·.toNat) = kN := by decide +kernel
/-- Numbers reckoned ahead of what uses them. -/
def forceL {α : Type} : List Nat → (List Nat → α) → α
  | [], f => f []
  | n :: l, f => force n fun m => forceL l fun r => f (m :: r)
theorem forceL_eq {α : Type} : ∀ (l : List Nat) (f : List Nat → α), forceL l f = f l
  | [], _ => rfl
  | n :: l, f => by simp only [forceL, force_eq, forceL_eq l]
def addL : List Nat → List Nat → List Nat
  | a :: l, b :: m => Nat.mod (a + b) 4294967296 :: addL l m
  | _, _ => []
def blkN (s : List Nat) (bytes : List Nat) : List Nat := match s with
  | [a, b, c, d, e, f, g, h] => addL s (go kN (w4 bytes) a b c d e f g h)
  | _ => []
theorem blkN_eq (s : Sha.St) (l : List UInt8) (at_ : Nat) (h : at_ + 64 ≤ l.length) : blkN (toL s) (((l.drop at_).take 64).map (·.toNat)) = toL (Sha.blk s l at_) := by
  have hw := w4_eq l 16 at_ h
  unfold blkN toL
  simp only []
  rw [show (64 : Nat) = 4 * 16 from rfl, hw]
  have hwd : ((List.range 16).map fun t => (Sha.word l at_ t).toNat) = (List.range 16).map fun i => (Sha.wd (Sha.word l at_) (0 + i)).toNat := by
    apply List.map_congr_left
    intro t ht
    rw [Nat.zero_add, Sha.wd_lo _ (List.mem_range.1 ht)]
  have := go_eq (Sha.word l at_) s 64 0 rfl
  rw [← hwd, List.drop_zero, kN_eq] at this
  have e0 : Sha.rounds (Sha.word l at_) s 0 = s := rfl
  rw [e0] at this
  rw [this]
  unfold Sha.blk Sha.add toL
  simp only [addL, UInt32.toNat_add]
  rfl
def blksN : Nat → List Nat → List Nat → List Nat
  | 0, _, s => s
  | n + 1, l, s => forceL (blkN s (l.take 64)) fun s' => blksN n (l.drop 64) s'
theorem blksN_eq (l : List UInt8) (s : Sha.St) : ∀ (n k : Nat), 64 * (k + n) ≤ l.length → blksN n ((l.drop (64 * k)).map (·.toNat)) (toL (Sha.blks l s k)) = toL (Sha.blks l s (k + n))
  | 0, k, _ => rfl
  | n + 1, k, h => by
    simp only [blksN, forceL_eq]
    rw [← List.map_take, blkN_eq _ _ _ (by omega), ← List.map_drop, List.drop_drop]
    have : toL (Sha.blk (Sha.blks l s k) l (64 * k)) = toL (Sha.blks l s (k + 1)) := rfl
    rw [this, show 64 * k + 64 = 64 * (k + 1) by omega, blksN_eq l s n (k + 1) (by omega)]
    congr 2; omega
def outN (s : List Nat) : List Nat := (List.range 16).map fun k => Nat.mod (Nat.div (s.getD (k / 4) 0) (2 ^ (24 - 8 * (k % 4)))) 256
def initN : List Nat := [0x6a09e667, 0xbb67ae85, 0x3c6ef372, 0xa54ff53a, 0x510e527f, 0x9b05688c, 0x1f83d9ab, 0x5be0cd19]
/-- The seal of bytes. -/
def sumN (l : List Nat) (tl : List Nat) (n : Nat) : List Nat := outN (blksN n (l ++ tl) initN)
theorem sumN_eq (l : List UInt8) (n : Nat) (hn : n = (l.length + Sha.zeros l.length + 9) / 64) : (Sha.sum l).map (·.toNat) = sumN (l.map (·.toNat)) ((Sha.tail l.length).map (·.toNat)) n := by
  unfold sumN Sha.sum
  have hlen : (Sha.pad l).length / 64 = n := by rw [Sha.pad_length, hn]
  rw [hlen]
  have h1 := blksN_eq (Sha.pad l) Sha.init n 0 (by rw [Sha.pad_length]; have := Sha.pad_mod l; rw [Sha.pad_length] at this; omega)
  rw [Nat.mul_zero, List.drop_zero, Nat.zero_add] at h1
  have h0 : toL (Sha.blks (Sha.pad l) Sha.init 0) = initN := by
    show toL Sha.init = initN
    decide +kernel
  rw [h0] at h1
  have hp : (Sha.pad l).map (·.toNat) = l.map (·.toNat) ++ (Sha.tail l.length).map (·.toNat) := by unfold Sha.pad; rw [List.map_append]
  rw [← hp, h1]
  unfold Sha.out outN
  rw [List.map_map]
  apply List.map_congr_left
  intro k hk
  have hk16 := List.mem_range.1 hk
  simp only [Function.comp, Sha.outAt, Sha.byte]
  have hg : (toL (Sha.blks (Sha.pad l) Sha.init n)).getD (k / 4) 0 = (Sha.get (Sha.blks (Sha.pad l) Sha.init n) (k / 4)).toNat := by
    have : k / 4 = 0 ∨ k / 4 = 1 ∨ k / 4 = 2 ∨ k / 4 = 3 := by omega
    rcases this with h | h | h | h <;> rw [h] <;> rfl
  rw [hg]
  exact UInt8.toNat_ofNat_of_lt' (by have := Nat.mod_lt ((Sha.get (Sha.blks (Sha.pad l) Sha.init n) (k / 4)).toNat / 2 ^ (24 - 8 * (k % 4))) (show 0 < 256 by omega); simpa [UInt8.size] using this)
theorem toNat_inj : ∀ {l m : List UInt8}, l.map (·.toNat) = m.map (·.toNat) → l = m
  | [], [], _ => rfl
  | [], _ :: _, h => by cases h
  | _ :: _, [], h => by cases h
  | a :: l, b :: m, h => by
    simp only [List.map_cons, List.cons.injEq] at h
    rw [UInt8.toNat_inj.1 h.1, toNat_inj h.2]
end ShaN
end Go

/- The chapter's block: its bytes, told by reckoning. No condition. -/
namespace Go.Proofs.YthfdjemlibecgaaDoor
def fiveB : GBT := (1, (5, 7, ()), [(2, 3, ())], [97, 98], ())
theorem five_ok : GB.ok fiveB = true := by decide +kernel
def fiveRest : List UInt8 := GB.rest fiveB
def fiveSum : List UInt8 := [99, 21, 50, 251, 215, 196, 252, 110, 94, 133, 92, 64, 123, 16, 118, 124]
def fiveBad : List UInt8 := [31, 65, 68, 234, 138, 21, 82, 208, 170, 202, 39, 109, 189, 43, 128, 84]
theorem fiveRest_length : fiveRest.length = 1008 := by decide +kernel
theorem fiveSum_eq : Sha.sum fiveRest = fiveSum := by
  refine ShaN.toNat_inj ?_
  rw [ShaN.sumN_eq fiveRest 16 (by decide +kernel), fiveRest_length]
  decide +kernel
theorem fiveBad_eq : Sha.sum (fiveRest.set 884 1) = fiveBad := by
  refine ShaN.toNat_inj ?_
  have hl : (fiveRest.set 884 1).length = 1008 := by rw [List.length_set, fiveRest_length]
  rw [ShaN.sumN_eq (fiveRest.set 884 1) 16 (by rw [hl]; decide +kernel), hl]
  decide +kernel
def fiveBytes : List UInt8 := GB.bytes fiveB
theorem fiveBytes_eq : fiveBytes = fiveSum ++ fiveRest := by unfold fiveBytes GB.bytes; rw [show GB.rest fiveB = fiveRest from rfl, fiveSum_eq]
theorem fiveBytes_length : fiveBytes.length = 1024 := by rw [fiveBytes_eq, List.length_append, fiveRest_length]; rfl
theorem five_read : GB.read fiveBytes = (0, fiveB) := GB.read_bytes fiveB five_ok
theorem five_short : GB.read (fiveBytes.take 1023) = (4, GB.none_) := by
  unfold GB.read; rw [if_pos (by rw [List.length_take, fiveBytes_length]; decide)]
theorem five_at : fiveBytes[16]? = some 1 ∧ fiveBytes[20]? = some 5 ∧ fiveBytes[24]? = some 7 ∧ fiveBytes[28]? = some 1 ∧ fiveBytes[32]? = some 2 ∧ fiveBytes[36]? = some 2 ∧ fiveBytes[164]? = some 97 ∧ fiveBytes[900]? = some 0 := by
  rw [fiveBytes_eq]; decide +kernel
theorem five_turned : GB.read (fiveBytes.set 900 1) = (12, GB.none_) := by
  have e : fiveBytes.set 900 1 = fiveSum ++ fiveRest.set 884 1 := by rw [fiveBytes_eq, List.set_append_right _ _ (by decide)]; rfl
  have h1 : (fiveSum ++ fiveRest.set 884 1).drop 16 = fiveRest.set 884 1 := rfl
  have h2 : (fiveSum ++ fiveRest.set 884 1).take 16 = fiveSum := rfl
  unfold GB.read
  rw [if_neg (by rw [List.length_set, fiveBytes_length]; simp), e, h1, h2, fiveBad_eq, if_pos (by decide)]
end Go.Proofs.YthfdjemlibecgaaDoor

/- The chapter's grid with a byte of a block turned: what is answered then. Plain facts. No condition. -/
namespace Go.Proofs.YthfdjemlibecgaaDoor
open Go.RowKit
def gb1Rest : List UInt8 := GB.rest gb1
def gb1Sum : List UInt8 := [147, 66, 73, 135, 13, 230, 99, 145, 241, 150, 89, 157, 144, 241, 97, 235]
def gb1Bad : List UInt8 := [38, 63, 236, 137, 192, 229, 37, 116, 55, 79, 25, 113, 220, 204, 142, 76]
theorem gb1Rest_length : gb1Rest.length = 1008 := by decide +kernel
theorem gb1Sum_eq : Sha.sum gb1Rest = gb1Sum := by
  refine ShaN.toNat_inj ?_
  rw [ShaN.sumN_eq gb1Rest 16 (by decide +kernel), gb1Rest_length]
  decide +kernel
theorem gb1Bad_eq : Sha.sum (gb1Rest.set 24 1) = gb1Bad := by
  refine ShaN.toNat_inj ?_
  have hl : (gb1Rest.set 24 1).length = 1008 := by rw [List.length_set, gb1Rest_length]
  rw [ShaN.sumN_eq (gb1Rest.set 24 1) 16 (by rw [hl]; decide +kernel), hl]
  decide +kernel
theorem gb1_turned : (GB.read (flip (GB.bytes gb1) 40 1)).1 ≠ 0 := by
  have hb : GB.bytes gb1 = gb1Sum ++ gb1Rest := by unfold GB.bytes; rw [show GB.rest gb1 = gb1Rest from rfl, gb1Sum_eq]
  have hz : (gb1Sum ++ gb1Rest).getD 40 0 = 0 := by decide +kernel
  have e : flip (GB.bytes gb1) 40 1 = gb1Sum ++ gb1Rest.set 24 1 := by
    unfold flip
    rw [hb, hz, List.set_append_right _ _ (by decide)]; rfl
  have h1 : (gb1Sum ++ gb1Rest.set 24 1).drop 16 = gb1Rest.set 24 1 := rfl
  have h2 : (gb1Sum ++ gb1Rest.set 24 1).take 16 = gb1Sum := rfl
  have hl : (gb1Sum ++ gb1Rest.set 24 1).length = 1024 := by rw [List.length_append, List.length_set, gb1Rest_length]; rfl
  unfold GB.read
  rw [e, if_neg (by rw [hl]; simp), h1, h2, gb1Bad_eq, if_pos (by decide)]
  decide
theorem look_two {d : Dsk} (h : Two d) {W : List RefT} : glook ⟨4, [1, 1, 0, 0], W⟩ d none (2, 7, ()) = (0, some gb2, ⟨4, [1, 1, 0, 0], W⟩) := by
  have ht : gthere d (2, 7, ()) = some gb2 := gthere_some (b := gb2) (by decide) h.two
  unfold glook
  rw [if_neg (by unfold Dsk.isOut; rw [h.rm.out]; simp), if_neg (by show ¬ (Grd.of ⟨4, [], []⟩ (2, 7, ()) = false); decide), ht]
/-- The disk with the byte turned. -/
structure Two' (d : Dsk) : Prop where
  rm : Rm d 4
  one : (GB.read (gblk d 1)).1 ≠ 0
  two : gblk d 2 = GB.bytes gb2
  n120 : d.N = 120
theorem two_turn {d : Dsk} (h : Two d) : ∃ d', d.turn 104 40 1 = (0, d') ∧ d'.N = d.N ∧ Two' d' := by
  obtain ⟨d', e1, e2, e3, e4, e5⟩ := gturn h.rm (a := 1) (by omega) (by omega) (i := 40) (by omega) 1
  exact ⟨d', e1, e3, e2, by rw [e4, h.one]; exact gb1_turned, (e5 2 (by omega) (by omega) (by omega)).trans h.two, e3.trans h.n120⟩
def g44 : Grd := ⟨4, [1, 1, 0, 0], [(1, 8, ()), (1, 7, ())]⟩
theorem reach_one {d : Dsk} (h : Two' d) : greach g43 d none (2, 7, ()) = (0, [(1, 7, ())], g44) := by
  have t2 : gthere d (2, 7, ()) = some gb2 := gthere_some (b := gb2) (by decide) h.two
  have t1 : gthere d (1, 7, ()) = none := gthere_bad h.one
  have k2 : gkids g43 d (2, 7, ()) = [(1, 7, ())] := by unfold gkids; rw [if_pos (by decide), t2]; rfl
  have k1 : gkids g43 d (1, 7, ()) = [] := by unfold gkids; rw [if_pos (by decide), t1]
  have o2 : gok g43 d (2, 7, ()) = true := by unfold gok; rw [t2]; decide
  have o1 : gok g43 d (1, 7, ()) = false := by unfold gok; rw [t1]; decide
  have hw : gwalk g43 d (2, 7, ()) = [(2, 7, ()), (1, 7, ())] := by
    unfold gwalk gnum
    rw [show 16 * g43.n + 2 = 64 + 1 + 1 from rfl, dfs_new (by simp), k2, dfss_cons, dfss_nil, dfs_new (by decide), k1, dfss_nil]
    rfl
  have hm : gmiss g43 d (2, 7, ()) = [(1, 7, ())] := by
    unfold gmiss
    rw [hw]
    simp [o1, o2]
  unfold greach
  rw [if_neg (by unfold Dsk.isOut; rw [h.rm.out]; simp), if_neg (by decide), hm]
  rfl
theorem inst_one {d : Dsk} (h : Two' d) : ∃ d', ginst g44 d none (1, 7, ()) (GB.bytes gb1) = (0, g43, d', none) ∧ Two d' := by
  obtain ⟨d', e1, e2, e3, e4, e5⟩ := gwrite h.rm (a := 1) (by omega) (by omega) (b := GB.bytes gb1) (GB.bytes_length gb1 (by decide) (by decide))
  refine ⟨d', ?_, e2, e4, (e5 2 (by omega) (by omega) (by omega)).trans h.two, e3.trans h.n120⟩
  unfold ginst
  rw [if_neg (by unfold Dsk.isOut; rw [h.rm.out]; simp), if_neg (by decide), GB.read_bytes gb1 (by decide), if_neg (by simp), if_neg (by decide), e1]
  rw [if_neg (by simp)]
  rfl
theorem reach_all {d : Dsk} (h : Two d) : greach g43 d none (2, 7, ()) = (0, [], g43) := by
  have t2 : gthere d (2, 7, ()) = some gb2 := gthere_some (b := gb2) (by decide) h.two
  have t1 : gthere d (1, 7, ()) = some gb1 := gthere_some (b := gb1) (by decide) h.one
  have k2 : gkids g43 d (2, 7, ()) = [(1, 7, ())] := by unfold gkids; rw [if_pos (by decide), t2]; rfl
  have k1 : gkids g43 d (1, 7, ()) = [] := by unfold gkids; rw [if_pos (by decide), t1]; rfl
  have o2 : gok g43 d (2, 7, ()) = true := by unfold gok; rw [t2]; decide
  have o1 : gok g43 d (1, 7, ()) = true := by unfold gok; rw [t1]; decide
  have hw : gwalk g43 d (2, 7, ()) = [(2, 7, ()), (1, 7, ())] := by
    unfold gwalk gnum
    rw [show 16 * g43.n + 2 = 64 + 1 + 1 from rfl, dfs_new (by simp), k2, dfss_cons, dfss_nil, dfs_new (by decide), k1, dfss_nil]
    rfl
  have hm : gmiss g43 d (2, 7, ()) = [] := by
    unfold gmiss
    rw [hw]
    simp [o1, o2]
  unfold greach
  rw [if_neg (by unfold Dsk.isOut; rw [h.rm.out]; simp), if_neg (by decide), hm]
  rfl
theorem inst_other {d : Dsk} (h : Two d) : ginst g43 d none (1, 7, ()) (GB.bytes gb2) = (2, g43, d, none) := by
  unfold ginst
  rw [if_neg (by unfold Dsk.isOut; rw [h.rm.out]; simp), if_neg (by decide), GB.read_bytes gb2 (by decide), if_neg (by simp), if_pos (by decide)]
theorem inst_short {d : Dsk} (h : Two d) : ginst g43 d none (1, 7, ()) [1, 2, 3] = (4, g43, d, none) := by
  have hr : GB.read [1, 2, 3] = (4, GB.none_) := by unfold GB.read; rw [if_pos (by decide)]
  unfold ginst
  rw [if_neg (by unfold Dsk.isOut; rw [h.rm.out]; simp), if_neg (by decide), hr, if_pos (by simp)]
end Go.Proofs.YthfdjemlibecgaaDoor

/- A chain of blocks, each of which names the one ahead of it; which of them are turned. Plain facts. No condition. -/
namespace Go.Proofs.YthfdjemlibecgaaDoor
open Go.RowKit
def ck (i : Nat) : RefT := ((i : Int) + 1, (i : Int), ())
def cnames (i : Nat) : List RefT := if i = 0 then [] else [ck (i - 1)]
def cb (i : Nat) : GBT := (1, ck i, cnames i, [UInt8.ofNat i], ())
theorem cb_ok {i : Nat} (h : i < 10) : GB.ok (cb i) = true := by
  have key : ∀ j : Fin 10, GB.ok (cb j.1) = true := by decide
  exact key ⟨i, h⟩
theorem cb_ok1 {i : Nat} (h : i < 10) : GB.ok (1, (1, (i : Int), ()), cnames i, [UInt8.ofNat i], ()) = true := by
  have key : ∀ j : Fin 10, GB.ok (1, (1, ((j.1 : Nat) : Int), ()), cnames j.1, [UInt8.ofNat j.1], ()) = true := by decide
  exact key ⟨i, h⟩
theorem cb_length {i : Nat} (h : i < 10) : (GB.bytes (cb i)).length = 1024 := GB.bytes_length (cb i) (GB.ok_spec (cb_ok h)).2.2.1 (GB.ok_spec (cb_ok h)).2.2.2.1
def cL (n i : Nat) : List Nat := List.replicate i 1 ++ List.replicate (n - i) 0
theorem cL_acq {n i : Nat} (h : i < n) (hn : n ≤ 10) : acqN (cL n i) = (i : Int) + 1 ∧ acqE (cL n i) = 0 ∧ acqL (cL n i) = cL n (i + 1) := by
  have key : ∀ m : Fin 11, ∀ j : Fin 11, j.1 < m.1 → acqN (cL m.1 j.1) = ((j.1 : Nat) : Int) + 1 ∧ acqE (cL m.1 j.1) = 0 ∧ acqL (cL m.1 j.1) = cL m.1 (j.1 + 1) := by decide
  exact key ⟨n, by omega⟩ ⟨i, by omega⟩ h
theorem cL_ok {n i : Nat} (h : i ≤ n) (hn : n ≤ 10) : SetOk (cL n i) ∧ (cL n i).length = n := by
  have hl : (cL n i).length = n := by unfold cL; simp; omega
  refine ⟨⟨by omega, fun k => ?_⟩, hl⟩
  unfold cL
  rw [List.getD_eq_getElem?_getD, List.getElem?_append]
  split
  · rw [List.getElem?_replicate]; split <;> simp
  · rw [List.getElem?_replicate]; split <;> simp
/-- Some blocks have been written; some of them are turned. -/
structure Chain (n m : Nat) (bad : Nat → Bool) (d : Dsk) : Prop where
  rm : Rm d n
  blk : ∀ j, j < m → gblk d ((j : Int) + 1) = if bad j = true then flip (GB.bytes (cb j)) 3 1 else GB.bytes (cb j)
theorem chain_new {n : Nat} (h1 : 1 ≤ n) (h2 : n ≤ 10) : Chain n 0 (fun _ => false) (Dsk.new (104 + 4 * n)) := ⟨⟨Dsk.Ok.new (by omega), rfl, Nat.le_refl _⟩, fun j hj => by omega⟩
theorem chain_write {n i : Nat} {d : Dsk} (h : Chain n i (fun _ => false) d) (hi : i < n) (hn : n ≤ 10) : ∃ d', gput ⟨n, cL n i, []⟩ d none 1 (cnames i) [UInt8.ofNat i] (i : Int) = ((0, ck i), ⟨n, cL n (i + 1), []⟩, d', none) ∧ Chain n (i + 1) (fun _ => false) d' ∧ d'.N = d.N := by
  obtain ⟨k1, k2, k3⟩ := cL_acq hi hn
  obtain ⟨k4, k5⟩ := cL_ok (Nat.le_of_lt hi) hn
  obtain ⟨d', e1, e2, e3, e4, e5⟩ := gput_ok (g := ⟨n, cL n i, []⟩) (k := 1) (s := (i : Int)) (l := cnames i) (m := [UInt8.ofNat i]) h.rm k5 k4 (cb_ok1 (by omega)) k2
  simp only [k1, k3] at e1 e4 e5
  refine ⟨d', e1, ⟨e2, fun j hj => ?_⟩, e3⟩
  rw [if_neg (by simp)]
  by_cases hji : j = i
  · subst hji; exact e4
  · have := h.blk j (by omega)
    rw [if_neg (by simp)] at this
    rw [e5 ((j : Int) + 1) (by omega) (by show (j : Int) + 1 ≤ (n : Int); omega) (by omega)]
    exact this
theorem cturned {i : Nat} (h : i < 10) : (GB.read (flip (GB.bytes (cb i)) 3 1)).1 ≠ 0 := by
  have hb : GB.bytes (cb i) = Sha.sum (GB.rest (cb i)) ++ GB.rest (cb i) := rfl
  have hs : (Sha.sum (GB.rest (cb i))).length = 16 := Sha.sum_length _
  have hl := cb_length h
  have e1 : (flip (GB.bytes (cb i)) 3 1).drop 16 = GB.rest (cb i) := by
    unfold flip
    rw [hb, List.set_append_left _ _ (by rw [hs]; decide), List.drop_left' (by rw [List.length_set, hs])]
  have e2 : (flip (GB.bytes (cb i)) 3 1).take 16 = flip (Sha.sum (GB.rest (cb i))) 3 1 := by
    unfold flip
    rw [hb, List.set_append_left _ _ (by rw [hs]; decide), List.take_left' (by rw [List.length_set, hs])]
    congr 2
  unfold GB.read
  rw [if_neg (by rw [flip_length, hl]; simp), e1, e2, if_pos (fun e => flip_ne (b := Sha.sum (GB.rest (cb i))) (i := 3) (by rw [hs]; decide) e.symm)]
  decide
theorem chain_there {n : Nat} {bad : Nat → Bool} {d : Dsk} (h : Chain n n bad d) (hn : n ≤ 10) {j : Nat} (hj : j < n) : gthere d (ck j) = if bad j = true then none else some (cb j) := by
  have hb := h.blk j hj
  split
  · rename_i hbad
    rw [if_pos hbad] at hb
    exact gthere_bad (by rw [show (ck j).1 = (j : Int) + 1 from rfl, hb]; exact cturned (by omega))
  · rename_i hbad
    rw [if_neg hbad] at hb
    exact gthere_some (b := cb j) (cb_ok (by omega)) hb
theorem ck_of {n j : Nat} (hj : j < n) (hn : n ≤ 10) (L : List Nat) (W : List RefT) : Grd.of ⟨n, L, W⟩ (ck j) = true := by
  unfold Grd.of ck
  simp only [Bool.and_eq_true, decide_eq_true_eq]
  omega
/-- The first one from a block on that is not there. -/
def fb (bad : Nat → Bool) : Nat → List RefT
  | 0 => if bad 0 = true then [ck 0] else []
  | j + 1 => if bad (j + 1) = true then [ck (j + 1)] else fb bad j
theorem fb_none {bad : Nat → Bool} : ∀ j, (∀ k, k ≤ j → bad k = false) → fb bad j = []
  | 0, h => by unfold fb; rw [if_neg (by rw [h 0 (Nat.le_refl _)]; simp)]
  | j + 1, h => by unfold fb; rw [if_neg (by rw [h (j + 1) (Nat.le_refl _)]; simp)]; exact fb_none j fun k hk => h k (by omega)
theorem fb_top {bad : Nat → Bool} {i : Nat} (hb : bad i = true) : ∀ j, i ≤ j → (∀ k, i < k → k ≤ j → bad k = false) → fb bad j = [ck i]
  | 0, hi, _ => by obtain rfl : i = 0 := by omega
                   unfold fb; rw [if_pos hb]
  | j + 1, hi, h => by
    by_cases e : i = j + 1
    · subst e; unfold fb; rw [if_pos hb]
    · unfold fb; rw [if_neg (by rw [h (j + 1) (by omega) (Nat.le_refl _)]; simp)]
      exact fb_top hb j (by omega) fun k h1 h2 => h k h1 (by omega)
theorem chain_walk {n : Nat} {bad : Nat → Bool} {d : Dsk} (h : Chain n n bad d) (hn : n ≤ 10) (L : List Nat) (W : List RefT) : ∀ (j m : Nat) (S : List RefT), j < m → j < n → (∀ x ∈ S, (j : Int) + 1 < x.1) →
    (dfs (gkids ⟨n, L, W⟩ d) m S (ck j)).1.filter (fun r => !gok ⟨n, L, W⟩ d r) = fb bad j := by
  intro j
  induction j with
  | zero =>
    intro m S hm hj hS
    obtain ⟨m, rfl⟩ : ∃ m', m = m' + 1 := ⟨m - 1, by omega⟩
    have hth := chain_there h hn hj
    have hof := ck_of hj hn L W
    rw [dfs_new (fun hx => by have := hS _ hx; unfold ck at this; simp at this)]
    have hk : gkids ⟨n, L, W⟩ d (ck 0) = [] := by
      unfold gkids; rw [if_pos hof, hth]
      cases bad 0 <;> rfl
    have ho : gok ⟨n, L, W⟩ d (ck 0) = !bad 0 := by
      unfold gok; rw [hof, hth]
      cases bad 0 <;> rfl
    rw [hk, dfss_nil]
    unfold fb
    simp only [List.filter_cons, ho, List.filter_nil]
    cases bad 0 <;> rfl
  | succ j ih =>
    intro m S hm hj hS
    obtain ⟨m, rfl⟩ : ∃ m', m = m' + 1 := ⟨m - 1, by omega⟩
    have hth := chain_there h hn hj
    have hof := ck_of hj hn L W
    rw [dfs_new (fun hx => by have := hS _ hx; unfold ck at this; simp at this)]
    have ho : gok ⟨n, L, W⟩ d (ck (j + 1)) = !bad (j + 1) := by
      unfold gok; rw [hof, hth]
      cases bad (j + 1) <;> rfl
    cases hb : bad (j + 1) with
    | true =>
      have hk : gkids ⟨n, L, W⟩ d (ck (j + 1)) = [] := by unfold gkids; rw [if_pos hof, hth, hb]; rfl
      rw [hk, dfss_nil]
      unfold fb
      simp only [List.filter_cons, ho, hb, List.filter_nil]
      rfl
    | false =>
      have hk : gkids ⟨n, L, W⟩ d (ck (j + 1)) = [ck j] := by unfold gkids; rw [if_pos hof, hth, hb]; rfl
      rw [hk, dfss_cons, dfss_nil]
      have h2 := ih m (S ++ [ck (j + 1)]) (by omega) (by omega) (fun x hx => by
        rcases List.mem_append.1 hx with hx | hx
        · have := hS x hx; omega
        · rw [List.mem_singleton.1 hx]; unfold ck; simp only; omega)
      unfold fb
      rw [if_neg (by rw [hb]; simp)]
      simp only [List.filter_append, List.filter_cons, ho, hb, List.filter_nil]
      rw [h2]
      rfl
theorem chain_reach {n : Nat} {bad : Nat → Bool} {d : Dsk} (h : Chain n n bad d) (h1 : 1 ≤ n) (hn : n ≤ 10) (L : List Nat) : greach ⟨n, L, []⟩ d none (ck (n - 1)) = (0, fb bad (n - 1), Grd.wants ⟨n, L, []⟩ (fb bad (n - 1))) := by
  have hm : gmiss ⟨n, L, []⟩ d (ck (n - 1)) = fb bad (n - 1) := chain_walk h hn L [] (n - 1) (gnum ⟨n, L, []⟩) [] (by unfold gnum; simp only; omega) (by omega) (fun x hx => absurd hx List.not_mem_nil)
  unfold greach
  rw [if_neg (by unfold Dsk.isOut; rw [h.rm.out]; simp), if_neg (by rw [ck_of (by omega) hn]; simp), hm]
theorem chain_want {n i : Nat} (hi : i < n) (hn : n ≤ 10) (L : List Nat) : Grd.wants ⟨n, L, []⟩ [ck i] = ⟨n, L, [ck i]⟩ := by
  unfold Grd.wants
  rw [List.foldl_cons, List.foldl_nil, if_pos (ck_of hi hn L [])]
  rfl
theorem chain_turn {n k : Nat} {bad : Nat → Bool} {d : Dsk} (h : Chain n n bad d) (hk : k < n) (hb : bad k = false) : ∃ d', d.turn (104 + 4 * (((k : Int) + 1) - 1)) 3 1 = (0, d') ∧ d'.N = d.N ∧ Chain n n (fun j => bad j || decide (j = k)) d' := by
  obtain ⟨d', e1, e2, e3, e4, e5⟩ := gturn h.rm (a := (k : Int) + 1) (by omega) (by omega) (i := 3) (by omega) 1
  refine ⟨d', ?_, e3, e2, fun j hj => ?_⟩
  · have : gplace ((k : Int) + 1) + ((3 / 256 : Nat) : Int) = 104 + 4 * (((k : Int) + 1) - 1) := by unfold gplace; simp
    rw [this] at e1; exact e1
  · by_cases hjk : j = k
    · subst hjk
      have := h.blk j hj
      rw [if_neg (by rw [hb]; simp)] at this
      rw [e4, this, if_pos (by simp)]
    · rw [e5 ((j : Int) + 1) (by omega) (by omega) (by omega), h.blk j hj]
      simp [hjk]
theorem chain_install {n i : Nat} {bad : Nat → Bool} {d : Dsk} (h : Chain n n bad d) (hi : i < n) (hn : n ≤ 10) (L : List Nat) : ∃ d', ginst ⟨n, L, [ck i]⟩ d none (ck i) (GB.bytes (cb i)) = (0, ⟨n, L, []⟩, d', none) ∧ Chain n n (fun j => bad j && decide (j ≠ i)) d' := by
  obtain ⟨d', e1, e2, e3, e4, e5⟩ := gwrite h.rm (a := (i : Int) + 1) (by omega) (by omega) (b := GB.bytes (cb i)) (cb_length (by omega))
  refine ⟨d', ?_, e2, fun j hj => ?_⟩
  · unfold ginst
    rw [if_neg (by unfold Dsk.isOut; rw [h.rm.out]; simp), if_neg (by rw [ck_of hi hn]; simp), GB.read_bytes (cb i) (cb_ok (by omega)), if_neg (by simp), if_neg (by simp [cb])]
    rw [show (ck i).1 = (i : Int) + 1 from rfl, e1, if_neg (by simp)]
    simp
  · by_cases hji : j = i
    · subst hji; rw [e4]; simp
    · rw [e5 ((j : Int) + 1) (by omega) (by omega) (by omega), h.blk j hj]
      simp [hji]
end Go.Proofs.YthfdjemlibecgaaDoor

/- The law asks which refs are not there. Conditions: the grid was made; the answer is known. -/
namespace Go.Proofs.YthfdjemlibecgaaDoor
open Go.RowKit
section
variable {B gp dp : Nat} {Y : List Nat} {w : World} {g g2 : Grd} {d : Dsk}
set_option maxRecDepth 100000 in
set_option maxHeartbeats 4000000 in
theorem lreaches_any (h : GX B Y w gp dp g d) (hl : g.W.length ≤ 1000000000) (root : RefT) {L : List RefT} (hL : L.length ≤ 5000) (hg : greach g d none root = (0, L, g2)) (A : Option Addr) (n c : Nat) (want : List RefT) (hn : n = want.length) (hr : Refs w A want) (hA : ∀ ad, A = some ad → ad.block ∈ Y) :
    Calls Tryd.prog 27 #[.pointer (some ⟨gp, 0, none⟩), .agg #[.int .i64 root.1, .int .i64 root.2.1], .slice A n c] w fun e w' => e = .returned (.bool (decide (L = want))) ∧ GX B Y w' gp dp g2 d ∧ GStep B Y w w' := by
  have hB := (Below.refl w.heap.size w).alloc (Nat.le_refl _) (.cells #[.int .i64 root.1, .int .i64 root.2.1] 23)
  have hbr := Blk.new w 23 #[.int .i64 root.1, .int .i64 root.2.1]
  have H1 := Lib.hid (h.below hB)
  have HA := Lib.hid (And.intro hl (And.intro hL (And.intro hg (And.intro hn (And.intro hr hA)))))
  clear h hB hl hL hg hn hr hA
  go_enter Tryd.func27, Tryd.ntmps27
  go_wp2_with (first
    | ((with_reducible show wpList _ _ _ ((⟨some 11, _, _, _, _, _⟩ : Oper) :: _) _ _); refine wpList_load_blk (o := ⟨some 11, _, _, _, _, _⟩) (hbr) (by rfl) _ _ (by rfl) (by rfl) _ Tryd.underlying23 (by rfl) (size_ref) (by rfl) ?_)
    | fail)
  generalize w.alloc (.cells #[.int .i64 root.1, .int .i64 root.2.1] 23) = w1 at H1 hbr ⊢
  clear hbr
  refine (xreach H1.out.1 HA.out.1 root HA.out.2.2.1).mono ?_
  rintro e w2 ⟨A2, c2, rfl, hR, -, -, -, hG, hS⟩
  have H2 := Lib.hid (And.intro hG (And.intro (H1.out.2.trans hS) (And.intro hR ((H1.out.2.trans hS).same.refs HA.out.2.2.2.2.1 HA.out.2.2.2.2.2))))
  clear hG hS hR H1
  go_wp2_with fail
  refine (sameRefs_any A2 A L.length n c2 c L want rfl HA.out.2.2.2.1 HA.out.2.1 w2 H2.out.2.2.1 H2.out.2.2.2).mono ?_
  rintro e w3 ⟨rfl, hbx⟩
  have H3 := Lib.hid (And.intro (H2.out.1.below hbx).1 (H2.out.2.1.trans (H2.out.1.below hbx).2))
  clear hbx H2
  go_wp2
  go_ret
  exact ⟨rfl, H3.out⟩
end
end Go.Proofs.YthfdjemlibecgaaDoor

/- A law's lists beside a grid: refs, and bytes of blocks. Conditions: as each says. -/
namespace Go.Proofs.YthfdjemlibecgaaDoor
open Go.RowKit
section
variable {B gp dp : Nat} {Y Y' : List Nat} {w w' : World} {g g2 : Grd} {d d2 : Dsk}
theorem Same.owns {e : TypeId} {size base n : Nat} {v : Value} {xs sp : List Value} (h : Same Y w w') (ho : OwnsC e size w base v n xs sp) (hv : ∀ x, v.ownBlock = some x → x ∈ Y) : OwnsC e size w' base v n xs sp := by
  rcases ho with ho | ⟨g, cap, rfl, hb, hgg, rest⟩
  · exact .inl ho
  · exact .inr ⟨g, cap, rfl, hb, h.blk hgg (hv g rfl), rest⟩
/-- A list of the statement's own has grown. -/
theorem GX.append (h : GX B Y w gp dp g d) {v v' : Value} (hg : w.grownBy w' v.ownBlock) (ho : ∀ x, v.ownBlock = some x → x ∈ Y) (hv : v'.ownBlock = v.ownBlock ∨ v'.ownBlock = some w.heap.size) (hlt : ∀ x, v'.ownBlock = some x → x < w'.heap.size) (hbo : ∀ x, v.ownBlock = some x → B ≤ x) :
    GX B (v'.ownBlock.toList ++ Y) w' gp dp g d ∧ Below B w w' ∧ ∀ y ∈ Y, v.ownBlock ≠ some y → w'.heap[y]? = w.heap[y]? := by
  have hB : ∀ x ∈ v.ownBlock.toList, B ≤ x := fun x hx => hbo x (Option.mem_toList.1 hx)
  have k : Near v.ownBlock.toList w w' := Near.grown hg (fun x hx => Option.mem_toList.2 hx)
  have h1 := h.wrote k (fun x hx => ho x (Option.mem_toList.1 hx))
  refine ⟨?_, k.toBelow hB h.size, fun y hy hne => k.block y (h.own y hy) (fun hm => hne (Option.mem_toList.1 hm))⟩
  obtain ⟨q, k1, k2, k3, k4, k5, k6, k7⟩ := h1
  obtain ⟨q0, j1, j2, j3, j4, j5, j6, j7⟩ := h
  refine ⟨q0, j1, j2, j3, j4.near k (fun x hx hm => (j5 x hx).2 (ho x (Option.mem_toList.1 hm))), fun x hx => ⟨(j5 x hx).1, fun hm => ?_⟩, fun y hy => ?_, k7⟩
  · rcases List.mem_append.1 hm with hm | hm
    · rcases hv with e | e
      · rw [e] at hm; exact (j5 x hx).2 (ho x (Option.mem_toList.1 hm))
      · rw [e, Option.mem_toList] at hm; injection hm with hm; have := j4.lt x hx; omega
    · exact (j5 x hx).2 hm
  · rcases List.mem_append.1 hy with hy | hy
    · exact hlt y (Option.mem_toList.1 hy)
    · exact k6 y hy
/-- A block is written. -/
theorem xwrite (h : GX B Y w gp dp g d) (hT : Tab w) (k s : Int) (A A2 : Option Addr) (n c m e1 : Nat) (l : List RefT) (body : List UInt8) (hn : n = l.length) (hm : m = body.length) (hl : l.length ≤ 1000) (hbl : body.length ≤ 5000) (hr : Refs w A l) (hb : Bytes w A2 body) {c0 : Int} {r : RefT} (hg : gput g d none k l body s = ((c0, r), g2, d2, none)) :
    Calls Tryd.prog 36 #[.pointer (some ⟨gp, 0, none⟩), .int .i64 k, .slice A n c, .slice A2 m e1, .int .i64 s] w fun e w' => e = .returned (.tuple #[.agg #[.int .i64 r.1, .int .i64 r.2.1], .int .i64 c0]) ∧ GX B Y w' gp dp g2 d2 ∧ GStep B Y w w' := by
  obtain ⟨q, h1, h2, h3, h4, h5, h6, h7⟩ := h
  have hw := gwrite_any h4 k s A A2 n c m e1 l body hn hm hl hbl hr hb hT
  rw [hg, h1] at hw
  refine hw.mono ?_
  rintro e w' ⟨rfl, hP⟩
  exact ⟨rfl, GX.of_post h1 h2 h3 h5 h6 h7 hP⟩
end
def rawv (y : Nat) : Value := .slice (some ⟨y, 0, none⟩) 1024 1024
/-- The refs and the bytes of the blocks that the law wrote. -/
structure ChAt (B : Nat) (Y : List Nat) (i j : Nat) (v9 v10 : Value) (w : World) : Prop where
  refs : ∃ sp, OwnsC 23 2 w B v9 i (refCells ((List.range i).map ck)) sp
  raws : ∃ (ys : List Nat) (sp : List Value), OwnsC 44 1 w B v10 j (ys.map rawv) sp ∧ ys.length = j ∧ ∀ (k y : Nat), ys[k]? = some y → Blk w y 5 ((GB.bytes (cb k)).map u8v).toArray ∧ y ∈ Y
  o9 : ∀ x, v9.ownBlock = some x → x ∈ Y
  o10 : ∀ x, v10.ownBlock = some x → x ∈ Y
section
variable {B i j : Nat} {Y Y' : List Nat} {v9 v10 v' : Value} {w w' : World}
theorem ChAt.step (h : ChAt B Y i j v9 v10 w) (k : Same Y w w') : ChAt B Y i j v9 v10 w' := by
  obtain ⟨⟨sp, h1⟩, ⟨ys, sp2, h2, h3, h4⟩, h5, h6⟩ := h
  exact ⟨⟨sp, k.owns h1 h5⟩, ⟨ys, sp2, k.owns h2 h6, h3, fun j y hy => ⟨k.blk (h4 j y hy).1 (h4 j y hy).2, (h4 j y hy).2⟩⟩, h5, h6⟩
theorem ChAt.more (h : ChAt B Y i j v9 v10 w) (hs : ∀ y ∈ Y, y ∈ Y') : ChAt B Y' i j v9 v10 w := by
  obtain ⟨h1, ⟨ys, sp2, h2, h3, h4⟩, h5, h6⟩ := h
  exact ⟨h1, ⟨ys, sp2, h2, h3, fun j y hy => ⟨(h4 j y hy).1, hs y (h4 j y hy).2⟩⟩, fun x hx => hs x (h5 x hx), fun x hx => hs x (h6 x hx)⟩
theorem ChAt.nil (B : Nat) (w : World) : ChAt B [] 0 0 (.slice none 0 0) (.slice none 0 0) w :=
  ⟨⟨[], OwnsC.nil _ _ _ _⟩, ⟨[], [], OwnsC.nil _ _ _ _, rfl, fun j y h => (by cases h)⟩, fun x h => (by cases h), fun x h => (by cases h)⟩
/-- A ref is appended. -/
theorem ChAt.ref (h : ChAt B Y i j v9 v10 w) {sp' : List Value} (ho : OwnsC 23 2 w' B v' (i + 1) (refCells ((List.range i).map ck) ++ [.int .i64 (ck i).1, .int .i64 (ck i).2.1]) sp') (hg : w.grownBy w' v9.ownBlock) : ChAt B (v'.ownBlock.toList ++ Y) (i + 1) j v' v10 w' := by
  obtain ⟨⟨sp, h1⟩, ⟨ys, sp2, h2, h3, h4⟩, h5, h6⟩ := h
  have k : Near v9.ownBlock.toList w w' := Near.grown hg (fun x hx => Option.mem_toList.2 hx)
  have ap : ∀ (z : Nat) (t : TypeId) (cs : Array Value), Blk w z t cs → t ≠ 23 → z ∉ v9.ownBlock.toList := fun z t cs hz ht hm => by
    obtain ⟨cs', hb⟩ := ownBlk h1 (Option.mem_toList.1 hm)
    exact hz.apart hb ht rfl
  refine ⟨⟨sp', by rw [List.range_succ, List.map_append, show refCells ((List.range i).map ck ++ [i].map ck) = refCells ((List.range i).map ck) ++ [.int .i64 (ck i).1, .int .i64 (ck i).2.1] from refCells_snoc _ _ _]; exact ho⟩, ⟨ys, sp2, ?_, h3, fun k' y hy => ⟨(h4 k' y hy).1.near k (ap y _ _ (h4 k' y hy).1 (by decide)), List.mem_append_right _ (h4 k' y hy).2⟩⟩, fun x hx => List.mem_append_left _ (Option.mem_toList.2 hx), fun x hx => List.mem_append_right _ (h6 x hx)⟩
  refine OwnsC.nearO h2 k (fun x hx => ?_)
  obtain ⟨cs, hb⟩ := ownBlk h2 hx
  exact ap x _ _ hb (by decide)
/-- A block's bytes are appended. -/
theorem ChAt.raw (h : ChAt B Y i j v9 v10 w) {ys : List Nat} {sp sp' : List Value} (h2 : OwnsC 44 1 w B v10 j (ys.map rawv) sp) (h3 : ys.length = j) (h4 : ∀ (k y : Nat), ys[k]? = some y → Blk w y 5 ((GB.bytes (cb k)).map u8v).toArray ∧ y ∈ Y) {y : Nat} (hy : Blk w y 5 ((GB.bytes (cb j)).map u8v).toArray) (hyY : y ∈ Y)
    (ho : OwnsC 44 1 w' B v' (j + 1) (ys.map rawv ++ [rawv y]) sp') (hg : w.grownBy w' v10.ownBlock) : ChAt B (v'.ownBlock.toList ++ Y) i (j + 1) v9 v' w' := by
  obtain ⟨⟨spr, h1⟩, -, h5, h6⟩ := h
  have k : Near v10.ownBlock.toList w w' := Near.grown hg (fun x hx => Option.mem_toList.2 hx)
  have ap : ∀ (z : Nat) (t : TypeId) (cs : Array Value), Blk w z t cs → t ≠ 44 → z ∉ v10.ownBlock.toList := fun z t cs hz ht hm => by
    obtain ⟨cs', hb⟩ := ownBlk h2 (Option.mem_toList.1 hm)
    exact hz.apart hb ht rfl
  refine ⟨⟨spr, OwnsC.nearO h1 k (fun x hx => ?_)⟩, ⟨ys ++ [y], sp', by rw [List.map_append]; exact ho, by rw [List.length_append, h3]; rfl, fun k' z hz => ?_⟩, fun x hx => List.mem_append_right _ (h5 x hx), fun x hx => List.mem_append_left _ (Option.mem_toList.2 hx)⟩
  · obtain ⟨cs, hb⟩ := ownBlk h1 hx
    exact ap x _ _ hb (by decide)
  · rw [List.getElem?_append] at hz
    split at hz
    · exact ⟨(h4 k' z hz).1.near k (ap z _ _ (h4 k' z hz).1 (by decide)), List.mem_append_right _ (h4 k' z hz).2⟩
    · rename_i hk
      have hk0 : k' = j := by
        have := (List.getElem?_eq_some_iff.1 hz).1
        simp only [List.length_singleton] at this
        omega
      subst hk0
      rw [h3, Nat.sub_self] at hz
      injection hz with hz
      subst hz
      exact ⟨hy.near k (ap _ _ _ hy (by decide)), List.mem_append_right _ hyY⟩
end
theorem chain_look {n m : Nat} {d : Dsk} (h : Chain n m (fun _ => false) d) (hn : n ≤ 10) {i : Nat} (hi : i < m) (hm : m ≤ n) (L : List Nat) : glook ⟨n, L, []⟩ d none (ck i) = (0, some (cb i), ⟨n, L, []⟩) ∧ gblk d (ck i).1 = GB.bytes (cb i) := by
  have hb : gblk d (ck i).1 = GB.bytes (cb i) := (h.blk i hi).trans (if_neg (by simp))
  refine ⟨?_, hb⟩
  unfold glook
  have ht : gthere d (ck i) = some (cb i) := gthere_some (b := cb i) (cb_ok (by omega)) hb
  rw [if_neg (by unfold Dsk.isOut; rw [h.rm.out]; simp), if_neg (by rw [ck_of (by omega) hn]; simp), ht]
theorem meas_up {m i : Nat} {a b : Value} (ha : intOf a = ((i + 1 : Nat) : Int)) (hb : intOf b = (i : Int)) (h : i < m) : m - (intOf a).toNat < m - (intOf b).toNat := by rw [ha, hb]; omega
theorem meas_dn {j : Nat} {a b : Value} (ha : intOf a = (j : Int) - 1) (hb : intOf b = (j : Int)) : (intOf a + 1).toNat < (intOf b + 1).toNat := by rw [ha, hb]; omega
theorem u8_of {n : Nat} (h : n < 256) : u8v (UInt8.ofNat n) = .int .u8 (n : Int) := by unfold u8v; rw [iu8_ofNat n h]
theorem infoSlice : (Tryd.prog.info? 44).map (fun i => (i.zero, i.size, i.bytes)) = some (some (.slice none 0 0), 1, 24) := by kernel_rfl
end Go.Proofs.YthfdjemlibecgaaDoor
