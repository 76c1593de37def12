/- TableKnown: the chapter's examples. Condition: the library's table is there. -/
import Derived.Test.YtgkljncigbiffaaDoorMTableMap20
import Derived.Deep.Cut
namespace Go.Proofs.YtgkljncigbiffaaDoor
open Go.RowKit
set_option maxRecDepth 100000 in
set_option maxHeartbeats 16000000 in
theorem tableKnown_law (w : World) (hT : Tab w) :
    Calls Tryd.prog 5 #[] w fun e w' => e = .returned (.bool true) ∧ Below w.heap.size w w' := by
  have hz := zeroPairrun
  have H0 := Lib.hid hT
  clear hT
  go_enter Tryd.func5, Tryd.ntmps5
  go_wp2_with fail
  refine (tmade_any 8 (by omega) (by omega) w).mono ?_
  rintro e w1 ⟨gp, dp, rfl, hG, hB⟩
  have H1 := Lib.hid (And.intro (GX.of_GL (show GL w.heap.size w1 gp dp (tG 8 0) (abD 5 0) from hG) hB.size) hB)
  clear hG hB
  go_wp2_with fail
  refine (tawake_any w1 (H0.out.below H1.out.2)).mono ?_
  rintro e w2 ⟨rfl, hbx⟩
  have H2 := Lib.hid (And.intro (H1.out.1.below hbx).1 (H1.out.2.trans (H1.out.1.below hbx).2.bel))
  clear hbx H1
  go_wp2_with fail
  -- the table is built
  refine (abc_any w2).mono ?_
  rintro e w3 hA
  obtain ⟨b3, rfl, hP3, hX3, hb3, -⟩ := abc_at hA
  have hbu := xtbuild (G := tG 8) (D := abD 5) (R := tk 5) (root := (2, 5, ())) (s := 5) H2.out.1 hb3 (H0.out.below (H2.out.2.trans (hb3.mono H2.out.2.size))) H0.out.1 (some ⟨b3, 0, none⟩) 3 abcL (by decide) hP3 (fun X hX => hX3 X (fun x hx => (hX x hx).2.2)) (by rw [abc_pack]) (by decide) (by decide) (by rw [abc_cnt, abc_pack]; decide) abc_puts.1
  rw [show (ppack abcL).2.length = 1 by rw [abc_pack]; rfl] at hbu
  rw [show ((abcL.length : Nat) : Int) = 3 from rfl] at hbu
  have HB3 := Lib.hid (H2.out.2.trans (hb3.mono H2.out.2.size))
  clear hA hP3 hX3 hb3 H2
  unfold runv at hbu
  go_wp2_with fail
  refine hbu.mono ?_
  rintro e w4 ⟨F, L, nf, cf, nl, cl, rfl, hG, hS⟩
  have H4 := Lib.hid (And.intro hG (HB3.out.trans hS.bel))
  clear hbu hG hS HB3
  unfold runv at *
  have hb5 := (Below.refl w4.heap.size w4).alloc (Nat.le_refl _) (.cells #[.int .i64 2, .int .i64 5, .int .i64 3, .slice F nf cf, .slice L nl cl] 35)
  have hr5 := Blk.new w4 35 #[.int .i64 2, .int .i64 5, .int .i64 3, .slice F nf cf, .slice L nl cl]
  have H5 := Lib.hid (And.intro (H4.out.1.belowT hb5).1 (And.intro (H4.out.2.trans (H4.out.1.belowT hb5).2.bel) hr5))
  clear hb5 H4
  go_wp2_with (first
    | ((with_reducible show wpList _ _ _ ((⟨some 39, _, _, _, _, _⟩ : Oper) :: _) _ _); refine wpList_load_blk (o := ⟨some 39, _, _, _, _, _⟩) (hr5) (by rfl) _ _ (by rfl) (by rfl) _ Tryd.underlying35 (by rfl) (sizeRun) (by rfl) ?_)
    | fail)
  -- all pairs
  replace H5 := Lib.hid (And.intro (show GX w.heap.size [] _ gp dp (tG 8 2) (abD 5 2) from H5.out.1) H5.out.2)
  generalize w4.alloc (.cells #[.int .i64 2, .int .i64 5, .int .i64 3, .slice F nf cf, .slice L nl cl] 35) = w5 at H5 ⊢
  generalize w4.heap.size = rb at H5 ⊢
  have hal := xtall H5.out.1 (by decide) (2, 5, ()) 3 F L nf cf nl cl abcL abc_stands.zero _ abc_stands.data (abc_stands.items.trans (by rfl)) (by decide)
  unfold runv at hal
  refine hal.mono ?_
  rintro e w6 ⟨va, ra, sa, rfl, hPa, hG, hS⟩
  have H6 := Lib.hid (And.intro hG (And.intro (H5.out.2.1.trans hS.bel) (And.intro (hS.so.blk H5.out.2.2 (by unfold NG; decide)) hPa)))
  have hr6 := H6.out.2.2.1
  clear hal hPa hG hS H5
  go_wp2_with (first
    | ((with_reducible show wpList _ _ _ ((⟨some 45, _, _, _, _, _⟩ : Oper) :: _) _ _); refine wpList_load_blk (o := ⟨some 45, _, _, _, _, _⟩) (hr6) (by rfl) _ _ (by rfl) (by rfl) _ Tryd.underlying35 (by rfl) (sizeRun) (by rfl) ?_)
    | ((with_reducible show wpList _ _ _ ((⟨some 47, _, _, _, _, _⟩ : Oper) :: _) _ _); refine wpList_bytes_const (o := ⟨some 47, _, _, _, _, _⟩) (by rfl) _ _ _ (by rfl) Tryd.underlying22 Tryd.underlying5 [98] _ (by rfl) 1 (by rfl) ?_; intro w7 hb7 hk7 hsz; clear hsz)
    | ((with_reducible show wpList _ _ _ ((⟨some 49, _, _, _, _, _⟩ : Oper) :: _) _ _); refine wpList_bytes_const (o := ⟨some 49, _, _, _, _, _⟩) (by rfl) _ _ _ (by rfl) Tryd.underlying22 Tryd.underlying5 [99] _ (by rfl) 1 (by rfl) ?_; intro w8 hb8 hk8 hsz; clear hsz)
    | fail)
  -- the pairs between two keys
  have hk68 := hk7.trans (hk8.mono hk7.size)
  have hbt := xtbetween (H6.out.1.belowT hk68).1 (by decide) (2, 5, ()) 3 F L nf cf nl cl [98] [99] (some ⟨w6.heap.size, 0, none⟩) (some ⟨w7.heap.size, 0, none⟩) 1 1 (Bytes.below hb7 hk8) hb8 (by decide) (by decide) [([98], [], true, ())] abc_stands.zero _ (fun i hi _ => abc_stands.data i hi) ((abc_stands.some_ [98] [99]).trans kn_some) (Nat.le_trans (abc_stands.few _) (by decide))
  unfold runv at hbt
  have H8 := Lib.hid (And.intro (H6.out.2.1.trans (H6.out.1.belowT hk68).2.bel) (And.intro (H6.out.2.2.1.below hk68 H6.out.2.2.1.lt) (H6.out.2.2.2.below hk68)))
  clear hb7 hk7 hb8 hk8 hk68 hr6 H6
  refine hbt.mono ?_
  rintro e w9 ⟨vs, rs, ss, rfl, hPs, hG, hS⟩
  have H9 := Lib.hid (And.intro hG (And.intro (H8.out.1.trans hS.bel) (And.intro (hS.so.blk H8.out.2.1 (by unfold NG; decide)) (And.intro (hS.so.pairsU H8.out.2.2) hPs))))
  have hr9 := H9.out.2.2.1
  clear hbt hPs hG hS H8
  go_wp2_with (first
    | ((with_reducible show wpList _ _ _ ((⟨some 55, _, _, _, _, _⟩ : Oper) :: _) _ _); refine wpList_load_blk (o := ⟨some 55, _, _, _, _, _⟩) (hr9) (by rfl) _ _ (by rfl) (by rfl) _ Tryd.underlying35 (by rfl) (sizeRun) (by rfl) ?_)
    | fail)
  -- its blocks
  have hbk := xtblocks H9.out.1 (by decide) (2, 5, ()) 3 F L nf cf nl cl abc_stands.blocks
  unfold runv at hbk
  refine hbk.mono ?_
  rintro e w10 ⟨Al, cl2, rfl, hRl, -, -, hG, -, hS⟩
  obtain ⟨bl, offl, rfl, -⟩ := hRl (by decide)
  have hd : Below w10.heap.size w10 w10.drew := (Below.refl _ _).drew
  have H10 := Lib.hid (And.intro ((hG _ rfl).belowT hd).1 (And.intro (H9.out.2.1.trans (hS.bel.trans (hd.mono (hG _ rfl).size))) (And.intro (((hS.so.pairsU H9.out.2.2.2.1)).below hd) (And.intro ((hS.so.pairsU H9.out.2.2.2.2).below hd) (hRl.below hd)))))
  have hc := (hS.so.blk H9.out.2.2.1 (by unfold NG; decide)).drew
  clear hbk hRl hG hS hd hr9 H9
  go_upto_region 8 with fail
  refine wp_region_tree (fun w' => Blk w' rb 35 #[.int .i64 2, .int .i64 5, .int .i64 3, .slice F nf cf, .slice L nl cl]) [] (PlanT.takes [0, 1, 2, 3, 4, 5, 6, 7, 8, 9, 10, 11, 12, 13, 14, 15] (PlanT.takes [16] (.opt 17 (PlanT.takes [18] (.opt 19 (.opt 20 (PlanT.takes [21, 22, 23] (.opt 24 (.opt 25 (PlanT.takes [26, 27, 28] (.opt 29 (PlanT.takes [30] (.opt 31 (PlanT.takes [32, 33] .done) .no)) .no)) .no) .no)) .no) .no)) .no))) (by kernel_rfl) (by kernel_rfl) (hc) ?_
  refine wpTree_pure _ _ _ (by rfl) (by rfl) ?_
  dsimp only [List.filterMap, List.getElem?_cons_zero, List.getElem?_cons_succ]
  repeat (go_big_quiet_step (fail))
  refine wpQuiet_nil ?_
  refine wpTree_takeL _ _ _ (by rfl) (by rfl) (hc) ?_
  dsimp only [List.filterMap, List.getElem?_cons_zero, List.getElem?_cons_succ]
  (refine wpQuiet_want' (by rfl) ?_; refine wpQuiet_load_blk (fun w' hw' => hw') (by rfl) _ _ (by rfl) (by rfl) _ Tryd.underlying35 (by rfl) (sizeRun) (by rfl) ?_; simp only [Act.put, List.setIfInBounds_toArray, List.set_cons_zero, List.set_cons_succ])
  refine wpQuiet_nil ?_
  generalize w10.drew = w11 at H10 hc ⊢
  refine wpTree_one _ rfl ?_
  go_wp2_with fail
  refine (abc_any w11).mono ?_
  rintro e w12 hA
  obtain ⟨b12, rfl, -, -, hbx, hone⟩ := abc_at hA
  obtain ⟨a1, c1, A2, c2, hr12, hp12, ha1, ha2, -⟩ := hone 1 (by decide)
  have hc12 := hc.below hbx hc.lt
  have H12 := Lib.hid (And.intro (H10.out.1.add hbx ha1 ha2) (And.intro (H10.out.2.1.trans (H10.out.1.belowT hbx).2.bel) (And.intro (H10.out.2.2.1.below hbx) (And.intro (H10.out.2.2.2.1.below hbx) (And.intro (H10.out.2.2.2.2.below hbx) hp12)))))
  clear hA hbx hone hp12 hc H10 ha1 ha2
  go_wp2_with fail
  refine TreeQ.in_ hc12 ?_
  refine wpTree_pure _ _ _ (by rfl) (by rfl) ?_
  dsimp only [List.filterMap, List.getElem?_cons_zero, List.getElem?_cons_succ]
  repeat (go_big_quiet_step (fail))
  refine wpQuiet_nil ?_
  refine wpTree_one _ rfl ?_
  have hr13 : w12.rangeAt b12 3 [.slice (some a1) 1 c1, .slice A2 0 c2, .bool true] := hr12
  clear hr12
  go_wp2_with (first
    | ((with_reducible show wpList _ _ _ ((⟨some 78, _, _, _, _, _⟩ : Oper) :: _) _ _); refine wpList_want (by rfl) ?_; refine wpList_load_mid (o := ⟨some 78, _, _, _, _, _⟩) hr13 (by rfl) _ _ (by rfl) (by rfl) _ Tryd.underlying40 (by rfl) sizePair (by rfl) ?_)
    | fail)
  refine TreeQ.in_ hc12 ?_
  refine wpTree_one _ rfl ?_
  go_wp2_with fail
  have hg1 := xtgets H12.out.1 (by decide) (2, 5, ()) 3 F L nf cf nl cl [98] (by decide) ([98], [], true, ()) (some a1) A2 c1 c2 H12.out.2.2.2.2.2 (fun ad e => by injection e with e; subst e; simp) (fun h => absurd rfl h) kn_get (abc_stands.mono [98])
  unfold runv pairc at hg1
  refine hg1.mono ?_
  rintro e w13 ⟨rfl, hG, hS⟩
  have hc13 := hS.so.blk hc12 (by unfold NG; decide)
  have H13 := Lib.hid (And.intro hG (And.intro (H12.out.2.1.trans hS.bel) (And.intro (hS.so.pairsU H12.out.2.2.1) (And.intro (hS.so.pairsU H12.out.2.2.2.1) (hS.st.same.refs H12.out.2.2.2.2.1 (fun ad e => by injection e with e; subst e; simp))))))
  clear hg1 hG hS hc12 hr13 H12
  go_wp2_with fail
  refine TreeQ.in_ hc13 ?_
  refine wpTree_pure _ _ _ (by rfl) (by rfl) ?_
  dsimp only [List.filterMap, List.getElem?_cons_zero, List.getElem?_cons_succ]
  repeat (go_big_quiet_step (fail))
  refine wpQuiet_nil ?_
  refine wpTree_one _ rfl ?_
  go_wp2_with fail
  refine (abc_any w13).mono ?_
  rintro e w14 hA
  obtain ⟨b14, rfl, hp14, -, hbx, -⟩ := abc_at hA
  have hc14 := hc13.below hbx hc13.lt
  have H14 := Lib.hid (And.intro (H13.out.1.belowT hbx).1 (And.intro (H13.out.2.1.trans (H13.out.1.belowT hbx).2.bel) (And.intro (H13.out.2.2.1.below hbx) (And.intro (H13.out.2.2.2.1.below hbx) (And.intro (H13.out.2.2.2.2.below hbx) hp14)))))
  clear hA hbx hp14 hc13 H13
  go_wp2_with fail
  refine TreeQ.in_ hc14 ?_
  refine wpTree_one _ rfl ?_
  go_wp2_with fail
  obtain ⟨Aa, ca, hva, -, -, hPa, -⟩ := H14.out.2.2.1.pairs
  obtain ⟨As, cs, hvs, -, -, hPs, -⟩ := H14.out.2.2.2.1.pairs
  subst hva hvs
  refine (samePairs_any Aa (some ⟨b14, 0, none⟩) ca 3 abcL abcL (by decide) w14 hPa H14.out.2.2.2.2.2).mono ?_
  rintro e w15 ⟨rfl, hbx⟩
  rw [decide_eq_true rfl]
  have hc15 := hc14.below hbx hc14.lt
  have H15 := Lib.hid (And.intro (H14.out.1.belowT hbx).1 (And.intro (H14.out.2.1.trans (H14.out.1.belowT hbx).2.bel) (And.intro (hPs.below hbx) (H14.out.2.2.2.2.1.below hbx))))
  clear hbx hc14 hPa hPs H14
  go_wp2_with fail
  refine TreeQ.in_ hc15 ?_
  refine wpTree_pure _ _ _ (by rfl) (by rfl) ?_
  dsimp only [List.filterMap, List.getElem?_cons_zero, List.getElem?_cons_succ]
  repeat (go_big_quiet_step (fail))
  refine wpQuiet_nil ?_
  refine wpTree_one _ rfl ?_
  go_wp2_with fail
  refine (abc_any w15).mono ?_
  rintro e w16 hA
  obtain ⟨b16, rfl, hp16, -, hbx, -⟩ := abc_at hA
  have hc16 := hc15.below hbx hc15.lt
  have hp1 : Pairs w16 (some ⟨b16, 3, none⟩) [([98], [], true, ())] := fun _ => by
    obtain ⟨b, off, e, hlt, hcc⟩ := hp16 (by decide)
    injection e with e
    injection e with e1 e2
    subst e1 e2
    refine ⟨b16, 3, rfl, hlt, fun i hi => ?_⟩
    have h0 : i = 0 := by simp only [List.length_singleton] at hi; omega
    subst h0
    exact hcc 1 (by decide)
  have H16 := Lib.hid (And.intro (H15.out.1.belowT hbx).1 (And.intro (H15.out.2.1.trans (H15.out.1.belowT hbx).2.bel) (And.intro (H15.out.2.2.1.below hbx) (And.intro (H15.out.2.2.2.below hbx) hp1))))
  clear hA hbx hp16 hp1 hc15 H15
  go_wp2_with fail
  refine TreeQ.in_ hc16 ?_
  refine wpTree_pure _ _ _ (by rfl) (by rfl) ?_
  dsimp only [List.filterMap, List.getElem?_cons_zero, List.getElem?_cons_succ]
  repeat (go_big_quiet_step (fail))
  refine wpQuiet_nil ?_
  refine wpTree_one _ rfl ?_
  go_wp2_with fail
  refine (samePairs_any As (some ⟨b16, 3, none⟩) cs 2 [([98], [], true, ())] [([98], [], true, ())] (by decide) w16 H16.out.2.2.1 H16.out.2.2.2.2).mono ?_
  rintro e w17 ⟨rfl, hbx⟩
  rw [decide_eq_true rfl]
  have hc17 := hc16.below hbx hc16.lt
  have H17 := Lib.hid (And.intro (H16.out.1.belowT hbx).1 (And.intro (H16.out.2.1.trans (H16.out.1.belowT hbx).2.bel) (H16.out.2.2.2.1.below hbx)))
  clear hbx hc16 H16
  go_wp2_with fail
  refine TreeQ.in_ hc17 ?_
  refine wpTree_pure _ _ _ (by rfl) (by rfl) ?_
  dsimp only [List.filterMap, List.getElem?_cons_zero, List.getElem?_cons_succ]
  repeat (go_big_quiet_step (fail))
  refine wpQuiet_nil ?_
  refine wpTree_done ?_
  -- the drop
  go_wp2_with fail
  have hbl := (Below.refl w17.heap.size w17).alloc (Nat.le_refl _) (.cells #[.int .i64 2, .int .i64 5, .int .i64 1, .int .i64 5] 33)
  have hr18 : Refs (w17.alloc (.cells #[.int .i64 2, .int .i64 5, .int .i64 1, .int .i64 5] 33)) (some ⟨w17.heap.size, 0, none⟩) [(2, 5, ()), (1, 5, ())] := Refs.of (reads_new w17 33 [.int .i64 2, .int .i64 5, .int .i64 1, .int .i64 5])
  have hc18 := hc17.below hbl hc17.lt
  have H18 := Lib.hid (And.intro (H17.out.1.belowT hbl).1 (And.intro (H17.out.2.1.trans (H17.out.1.belowT hbl).2.bel) (And.intro (H17.out.2.2.below hbl) hr18)))
  clear hbl hr18 hc17 H17
  generalize w17.alloc (.cells #[.int .i64 2, .int .i64 5, .int .i64 1, .int .i64 5] 33) = w18 at H18 hc18 ⊢
  refine (sameRefs_any (some ⟨bl, offl, none⟩) (some ⟨w17.heap.size, 0, none⟩) 2 2 cl2 2 [(2, 5, ()), (1, 5, ())] [(2, 5, ()), (1, 5, ())] rfl rfl (by simp) w18 H18.out.2.2.1 H18.out.2.2.2).mono ?_
  rintro e w19 ⟨he, hbx⟩
  obtain rfl : e = .returned (.bool true) := by simpa using he
  have hc19 := hc18.below hbx hc18.lt
  have H19 := Lib.hid (And.intro ((H18.out.1.belowT hbx).1.sub (Y' := []) (by simp)) (H18.out.2.1.trans (H18.out.1.belowT hbx).2.bel))
  clear he hbx hc18 H18
  go_wp2_with (first
    | ((with_reducible show wpList _ _ _ ((⟨some 99, _, _, _, _, _⟩ : Oper) :: _) _ _); refine wpList_want (by rfl) ?_; refine wpList_load_blk (o := ⟨some 99, _, _, _, _, _⟩) (hc19) (by rfl) _ _ (by rfl) (by rfl) _ Tryd.underlying35 (by rfl) (sizeRun) (by rfl) ?_)
    | fail)
  have hdr := xtdrop H19.out.1 (by decide) (2, 5, ()) (by decide) 3 F L nf cf nl cl kn_drop
  unfold runv at hdr
  refine hdr.mono ?_
  rintro e w20 ⟨rfl, hG, hS⟩
  have hc20 := hS.so.blk hc19 (by unfold NG; decide)
  have H20 := Lib.hid (And.intro hG (H19.out.2.trans hS.bel))
  clear hdr hG hS hc19 H19
  go_wp2_with (first
    | ((with_reducible show wpList _ _ _ ((⟨some 105, _, _, _, _, _⟩ : Oper) :: _) _ _); refine wpList_want (by rfl) ?_; refine wpList_load_blk (o := ⟨some 105, _, _, _, _, _⟩) (hc20) (by rfl) _ _ (by rfl) (by rfl) _ Tryd.underlying35 (by rfl) (sizeRun) (by rfl) ?_)
    | fail)
  have hdr := xtdrop H20.out.1 (by decide) (2, 5, ()) (by decide) 3 F L nf cf nl cl kn_drop2
  unfold runv at hdr
  refine hdr.mono ?_
  rintro e w21 ⟨rfl, hG, hS⟩
  have hc21 := hS.so.blk hc20 (by unfold NG; decide)
  have H21 := Lib.hid (And.intro hG (H20.out.2.trans hS.bel))
  clear hdr hG hS hc20 H20
  go_wp2_with fail
  -- a byte is turned
  obtain ⟨d', hd1, hd2, hd3, hd4⟩ := kn_turn
  have HD := Lib.hid (And.intro hd3 hd4)
  have htn := xtturn H21.out.1 104 60 1 hd1 hd2
  rw [show iu8 1 = 1 from rfl] at htn
  clear hd1 hd2 hd3 hd4
  refine htn.mono ?_
  rintro e w22 ⟨rfl, hG, hS⟩
  have hc22 := hS.so.blk hc21 (by unfold NG; decide)
  have H22 := Lib.hid (And.intro hG (H21.out.2.trans hS.bel))
  clear htn hG hS hc21 H21
  go_wp2_with fail
  -- no pairs
  refine (xtbuild_bad H22.out.1 none 0 [] (by decide) (Pairs.nil _ _) 0 pack_nil).mono ?_
  rintro e w23 ⟨rfl, hG, hS⟩
  have hc23 := hS.so.blk hc22 (by unfold NG; decide)
  have H23 := Lib.hid (And.intro hG (H22.out.2.trans hS.bel))
  clear hG hS hc22 H22
  go_upto_region 12 with fail
  -- the pairs in the wrong order
  have hbz := (Below.refl w23.heap.size w23).alloc (Nat.le_refl _) (.cells #[.int .i64 0, .int .i64 0, .int .i64 0, .slice none 0 0, .slice none 0 0] 35)
  have hzr := zeroRunrun
  have H24 := Lib.hid (And.intro (H23.out.1.belowT hbz).1 (And.intro (H23.out.2.trans (H23.out.1.belowT hbz).2.bel) (hc23.below hbz hc23.lt)))
  generalize w23.alloc (.cells #[.int .i64 0, .int .i64 0, .int .i64 0, .slice none 0 0, .slice none 0 0] 35) = w24 at H24 ⊢
  generalize w23.heap.size = b14
  clear hbz hc23 H23 hr5 hz
  go_cut [17] from 20 (fun s17 wv => s17 = .int .i64 2 ∧ GX w.heap.size [] wv gp dp kn2 d' ∧ Below w.heap.size w wv ∧ Blk wv rb 35 #[.int .i64 2, .int .i64 5, .int .i64 3, .slice F nf cf, .slice L nl cl])
  case first =>
    have hd24 : Below w24.heap.size w24 w24.drew := (Below.refl _ _).drew
    refine wp_region_treeN (fun _ => True) (PlanT.takes [0] (.opt 1 (PlanT.takes [2] (PlanT.takes [3] (.opt 4 (PlanT.takes [5] (PlanT.takes [6] (.opt 7 (.opt 8 (PlanT.takes [9, 10, 11] (.opt 12 (.opt 13 (PlanT.takes [14] .done) .no) .no)) (.opt 12 (.opt 8 (PlanT.takes [9, 10, 11] (.opt 13 (PlanT.takes [14] .done) .no)) .no) .no)) (.opt 12 (.opt 7 (.opt 8 (PlanT.takes [9, 10, 11] (.opt 13 (PlanT.takes [14] .done) .no)) .no) .no) .no)))) (.opt 12 (.opt 4 (PlanT.takes [5] (PlanT.takes [6] (.opt 7 (.opt 8 (PlanT.takes [9, 10, 11] (.opt 13 (PlanT.takes [14] .done) .no)) .no) .no))) .no) .no)))) (.opt 12 (.opt 1 (PlanT.takes [2] (PlanT.takes [3] (.opt 4 (PlanT.takes [5] (PlanT.takes [6] (.opt 7 (.opt 8 (PlanT.takes [9, 10, 11] (.opt 13 (PlanT.takes [14] .done) .no)) .no) .no))) .no))) .no) .no))) (by kernel_rfl) (by kernel_rfl) (trivial) ?_
    refine wpTreeN_pure _ _ _ (by rfl) (by rfl) ?_
    dsimp only [List.filterMap, List.getElem?_cons_zero, List.getElem?_cons_succ]
    repeat (go_big_quiet_step (fail))
    refine wpQuiet_nil ?_
    generalize w24.drew = v0 at hd24 ⊢
    refine wpTreeN_opt _ rfl ?_ ?_
    · skip
      go_wp2_with fail
      refine (abc_any v0).mono ?_
      rintro e v1 hA
      obtain ⟨b1, rfl, -, -, hbx1, hone⟩ := abc_at hA
      obtain ⟨a1, c1, A1, e1, hr1, hp1, -, -, hge1⟩ := hone 1 (by decide)
      have hB1 := hd24.trans (hbx1.mono hd24.size)
      have hs1 : v1.rangeAt b1 3 [.slice (some a1) 1 c1, .slice A1 0 e1, .bool true] := hr1
      clear hA hone hr1 hge1 hbx1
      go_wp2_with fail
      refine TreeNQ.nar (fun u => u.rangeAt b1 3 [.slice (some a1) 1 c1, .slice A1 0 e1, .bool true]) (fun _ h => trivial) hs1 ?_
      refine wpTreeN_pure _ _ _ (by rfl) (by rfl) ?_
      dsimp only [List.filterMap, List.getElem?_cons_zero, List.getElem?_cons_succ]
      repeat (go_big_quiet_step (fail))
      refine wpQuiet_nil ?_
      refine wpTreeN_takeL _ _ _ (by rfl) (by rfl) (hs1) ?_
      dsimp only [List.filterMap, List.getElem?_cons_zero, List.getElem?_cons_succ]
      (refine wpQuiet_load_mid (fun w' hw' => hw') (by rfl) _ _ (by rfl) (by rfl) _ Tryd.underlying40 (by rfl) (sizePair) (by rfl) ?_; simp only [Act.put, List.setIfInBounds_toArray, List.set_cons_zero, List.set_cons_succ])
      refine wpQuiet_nil ?_
      refine wpTreeN_opt _ rfl ?_ ?_
      · skip
        go_wp2_with fail
        refine (abc_any v1).mono ?_
        rintro e v2 hA
        obtain ⟨b2, rfl, -, -, hbx2, hone⟩ := abc_at hA
        obtain ⟨a2, c2, A2, e2, hr2, hp2, -, -, hge2⟩ := hone 0 (by decide)
        have hB2 := hB1.trans (hbx2.mono hB1.size)
        have r12 := rangeAt_below hs1 hbx2
        have f12 := hp1.below hbx2
        have hs2 : v2.rangeAt b2 0 [.slice (some a2) 1 c2, .slice A2 1 e2, .bool false] := hr2
        clear hA hone hr2 hge2 hbx2
        go_wp2_with fail
        refine TreeNQ.nar (fun u => u.rangeAt b1 3 [.slice (some a1) 1 c1, .slice A1 0 e1, .bool true] ∧ u.rangeAt b2 0 [.slice (some a2) 1 c2, .slice A2 1 e2, .bool false]) (fun _ h => h.1) ⟨r12, hs2⟩ ?_
        refine wpTreeN_pure _ _ _ (by rfl) (by rfl) ?_
        dsimp only [List.filterMap, List.getElem?_cons_zero, List.getElem?_cons_succ]
        repeat (go_big_quiet_step (fail))
        refine wpQuiet_nil ?_
        refine wpTreeN_takeL _ _ _ (by rfl) (by rfl) (⟨r12, hs2⟩) ?_
        dsimp only [List.filterMap, List.getElem?_cons_zero, List.getElem?_cons_succ]
        (refine wpQuiet_load_mid (fun w' hw' => hw'.2) (by rfl) _ _ (by rfl) (by rfl) _ Tryd.underlying40 (by rfl) (sizePair) (by rfl) ?_; simp only [Act.put, List.setIfInBounds_toArray, List.set_cons_zero, List.set_cons_succ])
        refine wpQuiet_nil ?_
        refine wpTreeN_opt _ rfl ?_ ?_
        · skip
          go_wp2_with fail
          have hbx3 := (Below.refl v2.heap.size v2).alloc (Nat.le_refl _) (.cells #[.slice (some a1) 1 c1, .slice A1 0 e1, .bool true, .slice (some a2) 1 c2, .slice A2 1 e2, .bool false] 40)
          have hB3 := hB2.trans (hbx3.mono hB2.size)
          have hg3 := Blk.new v2 40 #[.slice (some a1) 1 c1, .slice A1 0 e1, .bool true, .slice (some a2) 1 c2, .slice A2 1 e2, .bool false]
          have r13 := rangeAt_below r12 hbx3
          have r03 := rangeAt_below hs2 hbx3
          have f13 := f12.below hbx3
          have f03 := hp2.below hbx3
          have hl3 : Pairs (v2.alloc (.cells #[.slice (some a1) 1 c1, .slice A1 0 e1, .bool true, .slice (some a2) 1 c2, .slice A2 1 e2, .bool false] 40)) (some ⟨v2.heap.size, 0, none⟩) [([98], [], true, ()), ([97], [49], false, ())] := pairs_two hg3 f13 f03
          clear hbx3 hg3
          generalize v2.alloc (.cells #[.slice (some a1) 1 c1, .slice A1 0 e1, .bool true, .slice (some a2) 1 c2, .slice A2 1 e2, .bool false] 40) = v3 at hB3 r13 r03 f13 f03 hl3 ⊢
          generalize v2.heap.size = g3 at hl3 ⊢
          refine TreeNQ.in_ ⟨r13, r03⟩ ?_
          refine wpTreeN_opt _ rfl ?_ ?_
          · skip
            go_wp2_with fail
            refine (xtbuild_badB (H24.out.1.belowT hB3).1 (some ⟨g3, 0, none⟩) 2 [([98], [], true, ()), ([97], [49], false, ())] (by decide) hl3 0 pack_ba).mono ?_
            rintro e v4 ⟨rfl, hbx4⟩
            have hB4 := hB3.trans (hbx4.mono hB3.size)
            have r14 := rangeAt_below r13 hbx4
            have r04 := rangeAt_below r03 hbx4
            have f14 := f13.below hbx4
            have f04 := f03.below hbx4
            clear hbx4
            go_wp2_with fail
            refine TreeNQ.in_ ⟨r14, r04⟩ ?_
            refine wpTreeN_pure _ _ _ (by rfl) (by rfl) ?_
            dsimp only [List.filterMap, List.getElem?_cons_zero, List.getElem?_cons_succ]
            repeat (go_big_quiet_step (fail))
            refine wpQuiet_nil ?_
            refine wpTreeN_one _ rfl ?_
            have hn51 : b1 ≠ v4.heap.size := Nat.ne_of_lt (rangeAt_lt r14)
            have hn50 : b2 ≠ v4.heap.size := Nat.ne_of_lt (rangeAt_lt r04)
            go_wp2_with fail
            have hbx5 := (Below.refl v4.heap.size v4).alloc (Nat.le_refl _) (.cells #[.int .i64 0, .int .i64 0, .int .i64 0, .slice none 0 0, .slice none 0 0] 35)
            have hB5 := hB4.trans (hbx5.mono hB4.size)
            have hz5 := Blk.new v4 35 #[.int .i64 0, .int .i64 0, .int .i64 0, .slice none 0 0, .slice none 0 0]
            have hy5 : w24.heap.size ≤ v4.heap.size := hB4.size
            have r15 := rangeAt_below r14 hbx5
            have r05 := rangeAt_below r04 hbx5
            have f15 := f14.below hbx5
            have f05 := f04.below hbx5
            clear hbx5
            generalize v4.alloc (.cells #[.int .i64 0, .int .i64 0, .int .i64 0, .slice none 0 0, .slice none 0 0] 35) = v5 at hB5 hz5 r15 r05 f15 f05 ⊢
            generalize v4.heap.size = g5 at hz5 hy5 hn51 hn50 ⊢
            refine TreeNQ.in_ ⟨r15, r05⟩ ?_
            refine wpTreeN_one _ rfl ?_
            go_wp2_with (first
              | ((with_reducible show wpList _ _ _ ((⟨none, _, _, _, _, _⟩ : Oper) :: _) _ _); refine wpList_store_blk (o := ⟨none, _, _, _, _, _⟩) (hz5) (by rfl) _ _ _ (by rfl) (by rfl) (#[.int .i64 0, .int .i64 0, .int .i64 0, .slice none 0 0, .slice none 0 0]) (by rfl) (sizeRun) (by rfl) (by rfl) (by simp [Value.oneCell']) ?_; intro v6 h6 hu6)
              | fail)
            have hB6 := hB5.upd hu6 hy5
            refine TreeNQ.in_ ⟨rangeAt_upd r15 hu6 hn51, rangeAt_upd r05 hu6 hn50⟩ ?_
            refine wpTreeN_pure _ _ _ (by rfl) (by rfl) ?_
            dsimp only [List.filterMap, List.getElem?_cons_zero, List.getElem?_cons_succ]
            repeat (go_big_quiet_step (fail))
            refine wpQuiet_nil ?_
            refine wpTreeN_done ?_
            have HF := Lib.hid (show GX w.heap.size [] v6 gp dp kn2 d' ∧ Below w.heap.size w v6 ∧ Blk v6 rb 35 #[.int .i64 2, .int .i64 5, .int .i64 3, .slice F nf cf, .slice L nl cl] from ⟨(H24.out.1.belowT hB6).1, H24.out.2.1.trans (hB6.mono H24.out.2.1.size), H24.out.2.2.below hB6 H24.out.2.2.lt⟩)
            go_wp2_with fail
            go_meet
            case rel => exact ⟨rfl, HF.out⟩
          refine wpTreeN_one _ rfl ?_
          have hn71 : b1 ≠ v3.heap.size := Nat.ne_of_lt (rangeAt_lt r13)
          have hn70 : b2 ≠ v3.heap.size := Nat.ne_of_lt (rangeAt_lt r03)
          go_wp2_with fail
          have hbx7 := (Below.refl v3.heap.size v3).alloc (Nat.le_refl _) (.cells #[.int .i64 0, .int .i64 0, .int .i64 0, .slice none 0 0, .slice none 0 0] 35)
          have hB7 := hB3.trans (hbx7.mono hB3.size)
          have hz7 := Blk.new v3 35 #[.int .i64 0, .int .i64 0, .int .i64 0, .slice none 0 0, .slice none 0 0]
          have hy7 : w24.heap.size ≤ v3.heap.size := hB3.size
          have r17 := rangeAt_below r13 hbx7
          have r07 := rangeAt_below r03 hbx7
          have f17 := f13.below hbx7
          have f07 := f03.below hbx7
          have lst7 := hl3.below hbx7
          clear hbx7
          generalize v3.alloc (.cells #[.int .i64 0, .int .i64 0, .int .i64 0, .slice none 0 0, .slice none 0 0] 35) = v7 at hB7 hz7 r17 r07 f17 f07 lst7 ⊢
          generalize v3.heap.size = g7 at hz7 hy7 hn71 hn70 ⊢
          refine TreeNQ.in_ ⟨r17, r07⟩ ?_
          refine wpTreeN_one _ rfl ?_
          go_wp2_with fail
          refine (xtbuild_badB (H24.out.1.belowT hB7).1 (some ⟨g3, 0, none⟩) 2 [([98], [], true, ()), ([97], [49], false, ())] (by decide) lst7 0 pack_ba).mono ?_
          rintro e v8 ⟨rfl, hbx8⟩
          have hB8 := hB7.trans (hbx8.mono hB7.size)
          have r18 := rangeAt_below r17 hbx8
          have r08 := rangeAt_below r07 hbx8
          have f18 := f17.below hbx8
          have f08 := f07.below hbx8
          have hx8 := hz7.below hbx8 hz7.lt
          clear hbx8
          go_wp2_with fail
          refine TreeNQ.in_ ⟨r18, r08⟩ ?_
          refine wpTreeN_pure _ _ _ (by rfl) (by rfl) ?_
          dsimp only [List.filterMap, List.getElem?_cons_zero, List.getElem?_cons_succ]
          repeat (go_big_quiet_step (fail))
          refine wpQuiet_nil ?_
          refine wpTreeN_one _ rfl ?_
          go_wp2_with (first
            | ((with_reducible show wpList _ _ _ ((⟨none, _, _, _, _, _⟩ : Oper) :: _) _ _); refine wpList_store_blk (o := ⟨none, _, _, _, _, _⟩) (hx8) (by rfl) _ _ _ (by rfl) (by rfl) (#[.int .i64 0, .int .i64 0, .int .i64 0, .slice none 0 0, .slice none 0 0]) (by rfl) (sizeRun) (by rfl) (by rfl) (by simp [Value.oneCell']) ?_; intro v9 h9 hu9)
            | fail)
          have hB9 := hB8.upd hu9 hy7
          refine TreeNQ.in_ ⟨rangeAt_upd r18 hu9 hn71, rangeAt_upd r08 hu9 hn70⟩ ?_
          refine wpTreeN_pure _ _ _ (by rfl) (by rfl) ?_
          dsimp only [List.filterMap, List.getElem?_cons_zero, List.getElem?_cons_succ]
          repeat (go_big_quiet_step (fail))
          refine wpQuiet_nil ?_
          refine wpTreeN_done ?_
          have HF := Lib.hid (show GX w.heap.size [] v9 gp dp kn2 d' ∧ Below w.heap.size w v9 ∧ Blk v9 rb 35 #[.int .i64 2, .int .i64 5, .int .i64 3, .slice F nf cf, .slice L nl cl] from ⟨(H24.out.1.belowT hB9).1, H24.out.2.1.trans (hB9.mono H24.out.2.1.size), H24.out.2.2.below hB9 H24.out.2.2.lt⟩)
          go_wp2_with fail
          go_meet
          case rel => exact ⟨rfl, HF.out⟩
        refine wpTreeN_one _ rfl ?_
        have hn101 : b1 ≠ v2.heap.size := Nat.ne_of_lt (rangeAt_lt r12)
        have hn100 : b2 ≠ v2.heap.size := Nat.ne_of_lt (rangeAt_lt hs2)
        go_wp2_with fail
        have hbx10 := (Below.refl v2.heap.size v2).alloc (Nat.le_refl _) (.cells #[.int .i64 0, .int .i64 0, .int .i64 0, .slice none 0 0, .slice none 0 0] 35)
        have hB10 := hB2.trans (hbx10.mono hB2.size)
        have hz10 := Blk.new v2 35 #[.int .i64 0, .int .i64 0, .int .i64 0, .slice none 0 0, .slice none 0 0]
        have hy10 : w24.heap.size ≤ v2.heap.size := hB2.size
        have r110 := rangeAt_below r12 hbx10
        have r010 := rangeAt_below hs2 hbx10
        have f110 := f12.below hbx10
        have f010 := hp2.below hbx10
        clear hbx10
        generalize v2.alloc (.cells #[.int .i64 0, .int .i64 0, .int .i64 0, .slice none 0 0, .slice none 0 0] 35) = v10 at hB10 hz10 r110 r010 f110 f010 ⊢
        generalize v2.heap.size = g10 at hz10 hy10 hn101 hn100 ⊢
        refine TreeNQ.in_ ⟨r110, r010⟩ ?_
        refine wpTreeN_one _ rfl ?_
        go_wp2_with fail
        have hbx11 := (Below.refl v10.heap.size v10).alloc (Nat.le_refl _) (.cells #[.slice (some a1) 1 c1, .slice A1 0 e1, .bool true, .slice (some a2) 1 c2, .slice A2 1 e2, .bool false] 40)
        have hB11 := hB10.trans (hbx11.mono hB10.size)
        have hg11 := Blk.new v10 40 #[.slice (some a1) 1 c1, .slice A1 0 e1, .bool true, .slice (some a2) 1 c2, .slice A2 1 e2, .bool false]
        have r111 := rangeAt_below r110 hbx11
        have r011 := rangeAt_below r010 hbx11
        have f111 := f110.below hbx11
        have f011 := f010.below hbx11
        have hx11 := hz10.below hbx11 hz10.lt
        have hl11 : Pairs (v10.alloc (.cells #[.slice (some a1) 1 c1, .slice A1 0 e1, .bool true, .slice (some a2) 1 c2, .slice A2 1 e2, .bool false] 40)) (some ⟨v10.heap.size, 0, none⟩) [([98], [], true, ()), ([97], [49], false, ())] := pairs_two hg11 f111 f011
        clear hbx11 hg11
        generalize v10.alloc (.cells #[.slice (some a1) 1 c1, .slice A1 0 e1, .bool true, .slice (some a2) 1 c2, .slice A2 1 e2, .bool false] 40) = v11 at hB11 r111 r011 f111 f011 hx11 hl11 ⊢
        generalize v10.heap.size = g11 at hl11 ⊢
        refine TreeNQ.in_ ⟨r111, r011⟩ ?_
        refine wpTreeN_one _ rfl ?_
        go_wp2_with fail
        refine (xtbuild_badB (H24.out.1.belowT hB11).1 (some ⟨g11, 0, none⟩) 2 [([98], [], true, ()), ([97], [49], false, ())] (by decide) hl11 0 pack_ba).mono ?_
        rintro e v12 ⟨rfl, hbx12⟩
        have hB12 := hB11.trans (hbx12.mono hB11.size)
        have r112 := rangeAt_below r111 hbx12
        have r012 := rangeAt_below r011 hbx12
        have f112 := f111.below hbx12
        have f012 := f011.below hbx12
        have hx12 := hx11.below hbx12 hx11.lt
        clear hbx12
        go_wp2_with fail
        refine TreeNQ.in_ ⟨r112, r012⟩ ?_
        refine wpTreeN_pure _ _ _ (by rfl) (by rfl) ?_
        dsimp only [List.filterMap, List.getElem?_cons_zero, List.getElem?_cons_succ]
        repeat (go_big_quiet_step (fail))
        refine wpQuiet_nil ?_
        refine wpTreeN_one _ rfl ?_
        go_wp2_with (first
          | ((with_reducible show wpList _ _ _ ((⟨none, _, _, _, _, _⟩ : Oper) :: _) _ _); refine wpList_store_blk (o := ⟨none, _, _, _, _, _⟩) (hx12) (by rfl) _ _ _ (by rfl) (by rfl) (#[.int .i64 0, .int .i64 0, .int .i64 0, .slice none 0 0, .slice none 0 0]) (by rfl) (sizeRun) (by rfl) (by rfl) (by simp [Value.oneCell']) ?_; intro v13 h13 hu13)
          | fail)
        have hB13 := hB12.upd hu13 hy10
        refine TreeNQ.in_ ⟨rangeAt_upd r112 hu13 hn101, rangeAt_upd r012 hu13 hn100⟩ ?_
        refine wpTreeN_pure _ _ _ (by rfl) (by rfl) ?_
        dsimp only [List.filterMap, List.getElem?_cons_zero, List.getElem?_cons_succ]
        repeat (go_big_quiet_step (fail))
        refine wpQuiet_nil ?_
        refine wpTreeN_done ?_
        have HF := Lib.hid (show GX w.heap.size [] v13 gp dp kn2 d' ∧ Below w.heap.size w v13 ∧ Blk v13 rb 35 #[.int .i64 2, .int .i64 5, .int .i64 3, .slice F nf cf, .slice L nl cl] from ⟨(H24.out.1.belowT hB13).1, H24.out.2.1.trans (hB13.mono H24.out.2.1.size), H24.out.2.2.below hB13 H24.out.2.2.lt⟩)
        go_wp2_with fail
        go_meet
        case rel => exact ⟨rfl, HF.out⟩
      refine wpTreeN_one _ rfl ?_
      have hn141 : b1 ≠ v1.heap.size := Nat.ne_of_lt (rangeAt_lt hs1)
      go_wp2_with fail
      have hbx14 := (Below.refl v1.heap.size v1).alloc (Nat.le_refl _) (.cells #[.int .i64 0, .int .i64 0, .int .i64 0, .slice none 0 0, .slice none 0 0] 35)
      have hB14 := hB1.trans (hbx14.mono hB1.size)
      have hz14 := Blk.new v1 35 #[.int .i64 0, .int .i64 0, .int .i64 0, .slice none 0 0, .slice none 0 0]
      have hy14 : w24.heap.size ≤ v1.heap.size := hB1.size
      have r114 := rangeAt_below hs1 hbx14
      have f114 := hp1.below hbx14
      clear hbx14
      generalize v1.alloc (.cells #[.int .i64 0, .int .i64 0, .int .i64 0, .slice none 0 0, .slice none 0 0] 35) = v14 at hB14 hz14 r114 f114 ⊢
      generalize v1.heap.size = g14 at hz14 hy14 hn141 ⊢
      refine TreeNQ.in_ r114 ?_
      refine wpTreeN_one _ rfl ?_
      go_wp2_with fail
      refine (abc_any v14).mono ?_
      rintro e v15 hA
      obtain ⟨b15, rfl, -, -, hbx15, hone⟩ := abc_at hA
      obtain ⟨a15, c15, A15, e15, hr15, hp15, -, -, hge15⟩ := hone 0 (by decide)
      have hB15 := hB14.trans (hbx15.mono hB14.size)
      have hn15 : b15 ≠ g14 := Nat.ne_of_gt (Nat.lt_of_lt_of_le hz14.lt hge15)
      have r115 := rangeAt_below r114 hbx15
      have f115 := f114.below hbx15
      have hx15 := hz14.below hbx15 hz14.lt
      have hs15 : v15.rangeAt b15 0 [.slice (some a15) 1 c15, .slice A15 1 e15, .bool false] := hr15
      clear hA hone hr15 hge15 hbx15
      go_wp2_with fail
      refine TreeNQ.nar (fun u => u.rangeAt b1 3 [.slice (some a1) 1 c1, .slice A1 0 e1, .bool true] ∧ u.rangeAt b15 0 [.slice (some a15) 1 c15, .slice A15 1 e15, .bool false]) (fun _ h => h.1) ⟨r115, hs15⟩ ?_
      refine wpTreeN_pure _ _ _ (by rfl) (by rfl) ?_
      dsimp only [List.filterMap, List.getElem?_cons_zero, List.getElem?_cons_succ]
      repeat (go_big_quiet_step (fail))
      refine wpQuiet_nil ?_
      refine wpTreeN_takeL _ _ _ (by rfl) (by rfl) (⟨r115, hs15⟩) ?_
      dsimp only [List.filterMap, List.getElem?_cons_zero, List.getElem?_cons_succ]
      (refine wpQuiet_load_mid (fun w' hw' => hw'.2) (by rfl) _ _ (by rfl) (by rfl) _ Tryd.underlying40 (by rfl) (sizePair) (by rfl) ?_; simp only [Act.put, List.setIfInBounds_toArray, List.set_cons_zero, List.set_cons_succ])
      refine wpQuiet_nil ?_
      refine wpTreeN_one _ rfl ?_
      go_wp2_with fail
      have hbx16 := (Below.refl v15.heap.size v15).alloc (Nat.le_refl _) (.cells #[.slice (some a1) 1 c1, .slice A1 0 e1, .bool true, .slice (some a15) 1 c15, .slice A15 1 e15, .bool false] 40)
      have hB16 := hB15.trans (hbx16.mono hB15.size)
      have hg16 := Blk.new v15 40 #[.slice (some a1) 1 c1, .slice A1 0 e1, .bool true, .slice (some a15) 1 c15, .slice A15 1 e15, .bool false]
      have r116 := rangeAt_below r115 hbx16
      have r016 := rangeAt_below hs15 hbx16
      have f116 := f115.below hbx16
      have f016 := hp15.below hbx16
      have hx16 := hx15.below hbx16 hx15.lt
      have hl16 : Pairs (v15.alloc (.cells #[.slice (some a1) 1 c1, .slice A1 0 e1, .bool true, .slice (some a15) 1 c15, .slice A15 1 e15, .bool false] 40)) (some ⟨v15.heap.size, 0, none⟩) [([98], [], true, ()), ([97], [49], false, ())] := pairs_two hg16 f116 f016
      clear hbx16 hg16
      generalize v15.alloc (.cells #[.slice (some a1) 1 c1, .slice A1 0 e1, .bool true, .slice (some a15) 1 c15, .slice A15 1 e15, .bool false] 40) = v16 at hB16 r116 r016 f116 f016 hx16 hl16 ⊢
      generalize v15.heap.size = g16 at hl16 ⊢
      refine TreeNQ.in_ ⟨r116, r016⟩ ?_
      refine wpTreeN_one _ rfl ?_
      go_wp2_with fail
      refine (xtbuild_badB (H24.out.1.belowT hB16).1 (some ⟨g16, 0, none⟩) 2 [([98], [], true, ()), ([97], [49], false, ())] (by decide) hl16 0 pack_ba).mono ?_
      rintro e v17 ⟨rfl, hbx17⟩
      have hB17 := hB16.trans (hbx17.mono hB16.size)
      have r117 := rangeAt_below r116 hbx17
      have r017 := rangeAt_below r016 hbx17
      have f117 := f116.below hbx17
      have f017 := f016.below hbx17
      have hx17 := hx16.below hbx17 hx16.lt
      clear hbx17
      go_wp2_with fail
      refine TreeNQ.in_ ⟨r117, r017⟩ ?_
      refine wpTreeN_pure _ _ _ (by rfl) (by rfl) ?_
      dsimp only [List.filterMap, List.getElem?_cons_zero, List.getElem?_cons_succ]
      repeat (go_big_quiet_step (fail))
      refine wpQuiet_nil ?_
      refine wpTreeN_one _ rfl ?_
      go_wp2_with (first
        | ((with_reducible show wpList _ _ _ ((⟨none, _, _, _, _, _⟩ : Oper) :: _) _ _); refine wpList_store_blk (o := ⟨none, _, _, _, _, _⟩) (hx17) (by rfl) _ _ _ (by rfl) (by rfl) (#[.int .i64 0, .int .i64 0, .int .i64 0, .slice none 0 0, .slice none 0 0]) (by rfl) (sizeRun) (by rfl) (by rfl) (by simp [Value.oneCell']) ?_; intro v18 h18 hu18)
        | fail)
      have hB18 := hB17.upd hu18 hy14
      refine TreeNQ.in_ ⟨rangeAt_upd r117 hu18 hn141, rangeAt_upd r017 hu18 hn15⟩ ?_
      refine wpTreeN_pure _ _ _ (by rfl) (by rfl) ?_
      dsimp only [List.filterMap, List.getElem?_cons_zero, List.getElem?_cons_succ]
      repeat (go_big_quiet_step (fail))
      refine wpQuiet_nil ?_
      refine wpTreeN_done ?_
      have HF := Lib.hid (show GX w.heap.size [] v18 gp dp kn2 d' ∧ Below w.heap.size w v18 ∧ Blk v18 rb 35 #[.int .i64 2, .int .i64 5, .int .i64 3, .slice F nf cf, .slice L nl cl] from ⟨(H24.out.1.belowT hB18).1, H24.out.2.1.trans (hB18.mono H24.out.2.1.size), H24.out.2.2.below hB18 H24.out.2.2.lt⟩)
      go_wp2_with fail
      go_meet
      case rel => exact ⟨rfl, HF.out⟩
    refine wpTreeN_one _ rfl ?_
    go_wp2_with fail
    have hbx19 := (Below.refl v0.heap.size v0).alloc (Nat.le_refl _) (.cells #[.int .i64 0, .int .i64 0, .int .i64 0, .slice none 0 0, .slice none 0 0] 35)
    have hB19 := hd24.trans (hbx19.mono hd24.size)
    have hz19 := Blk.new v0 35 #[.int .i64 0, .int .i64 0, .int .i64 0, .slice none 0 0, .slice none 0 0]
    have hy19 : w24.heap.size ≤ v0.heap.size := hd24.size
    clear hbx19
    generalize v0.alloc (.cells #[.int .i64 0, .int .i64 0, .int .i64 0, .slice none 0 0, .slice none 0 0] 35) = v19 at hB19 hz19 ⊢
    generalize v0.heap.size = g19 at hz19 hy19 ⊢
    refine TreeNQ.in_ trivial ?_
    refine wpTreeN_one _ rfl ?_
    go_wp2_with fail
    refine (abc_any v19).mono ?_
    rintro e v20 hA
    obtain ⟨b20, rfl, -, -, hbx20, hone⟩ := abc_at hA
    obtain ⟨a20, c20, A20, e20, hr20, hp20, -, -, hge20⟩ := hone 1 (by decide)
    have hB20 := hB19.trans (hbx20.mono hB19.size)
    have hn20 : b20 ≠ g19 := Nat.ne_of_gt (Nat.lt_of_lt_of_le hz19.lt hge20)
    have hx20 := hz19.below hbx20 hz19.lt
    have hs20 : v20.rangeAt b20 3 [.slice (some a20) 1 c20, .slice A20 0 e20, .bool true] := hr20
    clear hA hone hr20 hge20 hbx20
    go_wp2_with fail
    refine TreeNQ.nar (fun u => u.rangeAt b20 3 [.slice (some a20) 1 c20, .slice A20 0 e20, .bool true]) (fun _ h => trivial) hs20 ?_
    refine wpTreeN_pure _ _ _ (by rfl) (by rfl) ?_
    dsimp only [List.filterMap, List.getElem?_cons_zero, List.getElem?_cons_succ]
    repeat (go_big_quiet_step (fail))
    refine wpQuiet_nil ?_
    refine wpTreeN_takeL _ _ _ (by rfl) (by rfl) (hs20) ?_
    dsimp only [List.filterMap, List.getElem?_cons_zero, List.getElem?_cons_succ]
    (refine wpQuiet_load_mid (fun w' hw' => hw') (by rfl) _ _ (by rfl) (by rfl) _ Tryd.underlying40 (by rfl) (sizePair) (by rfl) ?_; simp only [Act.put, List.setIfInBounds_toArray, List.set_cons_zero, List.set_cons_succ])
    refine wpQuiet_nil ?_
    refine wpTreeN_one _ rfl ?_
    go_wp2_with fail
    refine (abc_any v20).mono ?_
    rintro e v21 hA
    obtain ⟨b21, rfl, -, -, hbx21, hone⟩ := abc_at hA
    obtain ⟨a21, c21, A21, e21, hr21, hp21, -, -, hge21⟩ := hone 0 (by decide)
    have hB21 := hB20.trans (hbx21.mono hB20.size)
    have hn21 : b21 ≠ g19 := Nat.ne_of_gt (Nat.lt_of_lt_of_le hx20.lt hge21)
    have r121 := rangeAt_below hs20 hbx21
    have f121 := hp20.below hbx21
    have hx21 := hx20.below hbx21 hx20.lt
    have hs21 : v21.rangeAt b21 0 [.slice (some a21) 1 c21, .slice A21 1 e21, .bool false] := hr21
    clear hA hone hr21 hge21 hbx21
    go_wp2_with fail
    refine TreeNQ.nar (fun u => u.rangeAt b20 3 [.slice (some a20) 1 c20, .slice A20 0 e20, .bool true] ∧ u.rangeAt b21 0 [.slice (some a21) 1 c21, .slice A21 1 e21, .bool false]) (fun _ h => h.1) ⟨r121, hs21⟩ ?_
    refine wpTreeN_pure _ _ _ (by rfl) (by rfl) ?_
    dsimp only [List.filterMap, List.getElem?_cons_zero, List.getElem?_cons_succ]
    repeat (go_big_quiet_step (fail))
    refine wpQuiet_nil ?_
    refine wpTreeN_takeL _ _ _ (by rfl) (by rfl) (⟨r121, hs21⟩) ?_
    dsimp only [List.filterMap, List.getElem?_cons_zero, List.getElem?_cons_succ]
    (refine wpQuiet_load_mid (fun w' hw' => hw'.2) (by rfl) _ _ (by rfl) (by rfl) _ Tryd.underlying40 (by rfl) (sizePair) (by rfl) ?_; simp only [Act.put, List.setIfInBounds_toArray, List.set_cons_zero, List.set_cons_succ])
    refine wpQuiet_nil ?_
    refine wpTreeN_one _ rfl ?_
    go_wp2_with fail
    have hbx22 := (Below.refl v21.heap.size v21).alloc (Nat.le_refl _) (.cells #[.slice (some a20) 1 c20, .slice A20 0 e20, .bool true, .slice (some a21) 1 c21, .slice A21 1 e21, .bool false] 40)
    have hB22 := hB21.trans (hbx22.mono hB21.size)
    have hg22 := Blk.new v21 40 #[.slice (some a20) 1 c20, .slice A20 0 e20, .bool true, .slice (some a21) 1 c21, .slice A21 1 e21, .bool false]
    have r122 := rangeAt_below r121 hbx22
    have r022 := rangeAt_below hs21 hbx22
    have f122 := f121.below hbx22
    have f022 := hp21.below hbx22
    have hx22 := hx21.below hbx22 hx21.lt
    have hl22 : Pairs (v21.alloc (.cells #[.slice (some a20) 1 c20, .slice A20 0 e20, .bool true, .slice (some a21) 1 c21, .slice A21 1 e21, .bool false] 40)) (some ⟨v21.heap.size, 0, none⟩) [([98], [], true, ()), ([97], [49], false, ())] := pairs_two hg22 f122 f022
    clear hbx22 hg22
    generalize v21.alloc (.cells #[.slice (some a20) 1 c20, .slice A20 0 e20, .bool true, .slice (some a21) 1 c21, .slice A21 1 e21, .bool false] 40) = v22 at hB22 r122 r022 f122 f022 hx22 hl22 ⊢
    generalize v21.heap.size = g22 at hl22 ⊢
    refine TreeNQ.in_ ⟨r122, r022⟩ ?_
    refine wpTreeN_one _ rfl ?_
    go_wp2_with fail
    refine (xtbuild_badB (H24.out.1.belowT hB22).1 (some ⟨g22, 0, none⟩) 2 [([98], [], true, ()), ([97], [49], false, ())] (by decide) hl22 0 pack_ba).mono ?_
    rintro e v23 ⟨rfl, hbx23⟩
    have hB23 := hB22.trans (hbx23.mono hB22.size)
    have r123 := rangeAt_below r122 hbx23
    have r023 := rangeAt_below r022 hbx23
    have f123 := f122.below hbx23
    have f023 := f022.below hbx23
    have hx23 := hx22.below hbx23 hx22.lt
    clear hbx23
    go_wp2_with fail
    refine TreeNQ.in_ ⟨r123, r023⟩ ?_
    refine wpTreeN_pure _ _ _ (by rfl) (by rfl) ?_
    dsimp only [List.filterMap, List.getElem?_cons_zero, List.getElem?_cons_succ]
    repeat (go_big_quiet_step (fail))
    refine wpQuiet_nil ?_
    refine wpTreeN_one _ rfl ?_
    go_wp2_with (first
      | ((with_reducible show wpList _ _ _ ((⟨none, _, _, _, _, _⟩ : Oper) :: _) _ _); refine wpList_store_blk (o := ⟨none, _, _, _, _, _⟩) (hx23) (by rfl) _ _ _ (by rfl) (by rfl) (#[.int .i64 0, .int .i64 0, .int .i64 0, .slice none 0 0, .slice none 0 0]) (by rfl) (sizeRun) (by rfl) (by rfl) (by simp [Value.oneCell']) ?_; intro v24 h24 hu24)
      | fail)
    have hB24 := hB23.upd hu24 hy19
    refine TreeNQ.in_ ⟨rangeAt_upd r123 hu24 hn20, rangeAt_upd r023 hu24 hn21⟩ ?_
    refine wpTreeN_pure _ _ _ (by rfl) (by rfl) ?_
    dsimp only [List.filterMap, List.getElem?_cons_zero, List.getElem?_cons_succ]
    repeat (go_big_quiet_step (fail))
    refine wpQuiet_nil ?_
    refine wpTreeN_done ?_
    have HF := Lib.hid (show GX w.heap.size [] v24 gp dp kn2 d' ∧ Below w.heap.size w v24 ∧ Blk v24 rb 35 #[.int .i64 2, .int .i64 5, .int .i64 3, .slice F nf cf, .slice L nl cl] from ⟨(H24.out.1.belowT hB24).1, H24.out.2.1.trans (hB24.mono H24.out.2.1.size), H24.out.2.2.below hB24 H24.out.2.2.lt⟩)
    go_wp2_with fail
    go_meet
    case rel => exact ⟨rfl, HF.out⟩
  case rest =>
    obtain ⟨rfl, hG, hB, hcr⟩ := hcut
    have H25 := Lib.hid (And.intro hG (And.intro hB hcr))
    have hz := zeroPairrun
    clear hG hB hcr hzr H24
    go_wp2_with fail
    refine (big_any wc).mono ?_
    rintro e w26 ⟨A, c, rfl, hP, hbx⟩
    have hbf := xtbuild_full (H25.out.1.belowT hbx).1 A c (bigL 64) (by rw [bigL_length]; decide) hP 0 big_pack.1 (by decide) (by decide) kn_full
    rw [bigL_length] at hbf
    have H26 := Lib.hid (And.intro (H25.out.2.1.trans (H25.out.1.belowT hbx).2.bel) (H25.out.2.2.below hbx H25.out.2.2.lt))
    clear hP hbx H25
    go_wp2_with fail
    refine hbf.mono ?_
    rintro e w27 ⟨rfl, hG, hS⟩
    have hbx := (Below.refl w27.heap.size w27).alloc (Nat.le_refl _) (.cells #[.int .i64 0, .int .i64 0, .int .i64 0, .slice none 0 0, .slice none 0 0] 35)
    have hc27 := (hS.so.blk H26.out.2 (by unfold NG; decide)).below hbx (hS.so.blk H26.out.2 (by unfold NG; decide)).lt
    have H27 := Lib.hid (And.intro (hG.belowT hbx).1 ((H26.out.1.trans hS.bel).trans (hG.belowT hbx).2.bel))
    clear hbf hG hS hbx H26
    go_wp2_with (first
      | ((with_reducible show wpList _ _ _ ((⟨some 140, _, _, _, _, _⟩ : Oper) :: _) _ _); refine wpList_want (by rfl) ?_; refine wpList_load_blk (o := ⟨some 140, _, _, _, _, _⟩) (hc27) (by rfl) _ _ (by rfl) (by rfl) _ Tryd.underlying35 (by rfl) (sizeRun) (by rfl) ?_)
      | fail)
    generalize w27.alloc (.cells #[.int .i64 0, .int .i64 0, .int .i64 0, .slice none 0 0, .slice none 0 0] 35) = w28 at H27 hc27 ⊢
    have hg1 := xtgets H27.out.1 (by decide) (2, 5, ()) 3 F L nf cf nl cl [97] (by decide) pnone none none 0 0 ⟨by decide, by decide, by decide, by decide, Reads.nil _ _, Reads.nil _ _⟩ (fun ad e => by cases e) (fun h => absurd rfl h) HD.out.2 (kn_mono HD.out.1 [97])
    unfold runv pairc at hg1
    refine hg1.mono ?_
    rintro e w29 ⟨rfl, hG, hS⟩
    have H29 := Lib.hid (H27.out.2.trans hS.bel)
    clear hg1 hG hS hc27 H27
    go_wp2_with fail
    go_ret
    exact ⟨rfl, H29.out⟩
end Go.Proofs.YtgkljncigbiffaaDoor

/- A table of at most 15 data blocks in a grid of 20: it is dropped and settled. Plain facts. No condition. -/
namespace Go.Proofs.YtgkljncigbiffaaDoor
open Go.RowKit
theorem rel20 : ∀ m : Fin 16, (trel (tG 20 (m.1 + 1)) (tk 3 m.1 :: (List.range m.1).map (tk 3))).1 = 0 ∧ (trel (tG 20 (m.1 + 1)) (tk 3 m.1 :: (List.range m.1).map (tk 3))).2.L = List.replicate (m.1 + 1) 2 ++ List.replicate (19 - m.1) 0 ∧ (trel (tG 20 (m.1 + 1)) (tk 3 m.1 :: (List.range m.1).map (tk 3))).2.n = 20 ∧ (trel (tG 20 (m.1 + 1)) (tk 3 m.1 :: (List.range m.1).map (tk 3))).2.W = [] := by decide +kernel
theorem set20 : ∀ m : Fin 16, setl (List.replicate (m.1 + 1) 2 ++ List.replicate (19 - m.1) 0) = List.replicate 20 0 := by decide +kernel
theorem cnt20 : cnts (List.replicate 20 0) 0 = 20 ∧ cnts (List.replicate 20 0) 1 = 0 ∧ cnts (List.replicate 20 0) 2 = 0 := by decide +kernel
theorem taken20 : ∀ m : Fin 16, cnts (tG 20 (m.1 + 1)).L 1 = m.1 + 1 := by decide +kernel
theorem map_drop {d : Dsk} {G : List (List PairT)} {m : Nat} (hm : m ≤ 15) (h : TOpen (tG 20 (m + 1)) d (tk 3 m) G ((List.range m).map (tk 3))) : tdrop (tG 20 (m + 1)) d (tk 3 m) = (0, ⟨20, List.replicate (m + 1) 2 ++ List.replicate (19 - m) 0, []⟩) := by
  unfold tdrop
  rw [h.blocks, if_neg (by simp)]
  obtain ⟨h1, h2, h3, h4⟩ := rel20 ⟨m, by omega⟩
  generalize trel (tG 20 (m + 1)) (tk 3 m :: (List.range m).map (tk 3)) = x at h1 h2 h3 h4
  obtain ⟨a, ⟨n, L, W⟩⟩ := x
  simp only at h1 h2 h3 h4
  subst h1 h2 h3 h4
  rfl
/-- Inside, as the statement asks it. -/
theorem inside_str (fr to : List UInt8) (p : PairT) : inside fr to p = (!decide (p.1 < fr) && (decide (to.length = 0) || decide (p.1 < to))) := by
  unfold inside pbelow
  congr 2
  exact decide_eq_decide.2 List.length_eq_zero_iff.symm
theorem filter_step {l : List PairT} {P : PairT → Bool} {k : Nat} (hk : k < l.length) : (l.take (k + 1)).filter P = (l.take k).filter P ++ (if P l[k] = true then [l[k]] else []) := by
  rw [List.take_succ_eq_append_getElem hk, List.filter_append]
  congr 1
  by_cases h : P l[k] = true
  · rw [if_pos h]; simp [h]
  · rw [if_neg h]; simp [h]
/-- The pair that was met last. -/
def pmet (l : List PairT) (key : List UInt8) : PairT := (pfind l key).getD pnone
theorem pmet_step {l : List PairT} (hs : l.Pairwise (fun a b => a.1 < b.1)) (key : List UInt8) {k : Nat} (hk : k < l.length) : pmet (l.take (k + 1)) key = if l[k].1 = key then l[k] else pmet (l.take k) key := by
  have hs' : (l.take (k + 1)).Pairwise (fun a b => a.1 < b.1) := List.Pairwise.sublist (List.take_sublist _ _) hs
  unfold pmet
  split
  · rename_i h
    rw [pfind_some hs' (p := l[k]) (by rw [List.take_succ_eq_append_getElem hk]; exact List.mem_append_right _ (List.mem_singleton_self _)) h]
    rfl
  · rename_i h
    unfold pfind
    rw [List.take_succ_eq_append_getElem hk, List.find?_append]
    cases (l.take k).find? (fun p => decide (p.1 = key)) with
    | some x => rfl
    | none => simp [h]
theorem pfind_mem {l : List PairT} {key : List UInt8} {p : PairT} (h : pfind l key = some p) : p ∈ l ∧ p.1 = key := by
  unfold pfind at h
  have h1 := List.find?_some h
  exact ⟨List.mem_of_find?_eq_some h, by simpa using h1⟩
/-- What Get answers. -/
def pcode (o : Option PairT) : Int := match o with | none => 6 | some _ => 0
theorem TOpen.getc {g : Grd} {d : Dsk} {r : RefT} {G : List (List PairT)} {refs : List RefT} (h : TOpen g d r G refs) (key : List UInt8) : tget g d none r key = (pcode (pfind G.flatten key), (pfind G.flatten key).getD pnone, g) := by
  rw [h.get]
  cases pfind G.flatten key <;> rfl
/-- A pair that is told has a key. -/
theorem pmet_code {l : List PairT} (hp : l.all pok = true) (key : List UInt8) : decide (pcode (pfind l key) = 0) = decide (0 < (pmet l key).1.length) := by
  unfold pmet
  cases h : pfind l key with
  | none => rfl
  | some p =>
    have := (pok_spec (List.all_eq_true.1 hp p (pfind_mem h).1)).1
    simp only [Option.getD_some]
    rw [decide_eq_true (show 0 < p.1.length by omega)]
    rfl
end Go.Proofs.YtgkljncigbiffaaDoor

/- A statement that goes through pairs: what stands ahead of each. Plain facts of this program. No condition. -/
namespace Go.Proofs.YtgkljncigbiffaaDoor
open Go.RowKit
theorem pairsX_of {w : World} {A : Option Addr} {l : List PairT} (h : Pairs w A l) (X : List Nat) (hX : ∀ x ∈ X, w.heap.size ≤ x) : PairsX X w A l := fun i hi hne => by
  obtain ⟨b, off, rfl, hlt, hc⟩ := h (by omega)
  obtain ⟨A1, c1, A2, c2, k1, k2, k3, k4⟩ := hc i hi
  have hnn : l[i].1.map u8v ≠ [] := fun e => by
    have := congrArg List.length e
    rw [List.length_map, List.length_nil] at this
    omega
  obtain ⟨b3, off3, e3, hc3⟩ := k4.k hnn
  have hb3 : b3 < w.heap.size := World.block_lt_of_cell? w _ (hc3 0 _ (List.getElem?_eq_getElem (by rw [List.length_map]; omega)))
  subst e3
  refine ⟨b, off, ⟨b3, off3, none⟩, c1, rfl, fun hm => ?_, k1, k4.kc, k4.km, k4.k, fun hm => ?_⟩
  · have := hX _ hm; omega
  · have : w.heap.size ≤ b3 := hX _ hm
    omega
/-- Pairs that were there already, in a list of one's own. -/
structure PairsV (w0 w : World) (base : Nat) (v : Value) (l : List PairT) (rows sp : List Value) : Prop where
  own : OwnsC 40 3 w base v l.length rows sp
  each : ∀ (i : Nat) (p : PairT), l[i]? = some p → ∃ (A : Option Addr) (c : Nat) (A2 : Option Addr) (c2 : Nat), rows[i * 3]? = some (.slice A p.1.length c) ∧ rows[i * 3 + 1]? = some (.slice A2 p.2.1.length c2) ∧ rows[i * 3 + 2]? = some (.bool p.2.2.1) ∧ PairAt w0 p A c A2 c2
section
variable {w0 w w' : World} {base : Nat} {v v' : Value} {l : List PairT} {rows sp : List Value} {X : List Nat}
theorem PairsV.nil (w0 w : World) (base : Nat) : PairsV w0 w base (.slice none 0 0) [] [] [] := ⟨OwnsC.nil _ _ _ _, fun i p h => (by simp at h)⟩
theorem PairsV.near (h : PairsV w0 w base v l rows sp) (k : Near X w w') (h1 : ∀ x, v.ownBlock = some x → x ∉ X) : PairsV w0 w' base v l rows sp := ⟨OwnsC.nearO h.own k h1, h.each⟩
theorem PairsV.below (h : PairsV w0 w base v l rows sp) (k : Below w.heap.size w w') : PairsV w0 w' base v l rows sp := h.near (X := []) (Near.below k) (by simp)
theorem PairsV.soft (h : PairsV w0 w base v l rows sp) (k : Soft w w') : PairsV w0 w' base v l rows sp := by
  obtain ⟨X, hN, hX⟩ := k
  refine h.near hN (fun x hx hm => ?_)
  obtain ⟨cs, hb⟩ := ownBlk h.own hx
  exact hX x hm _ _ hb (by unfold NG; decide)
theorem PairsV.add (h : PairsV w0 w base v l rows sp) {p : PairT} {A A2 : Option Addr} {c c2 : Nat} {sp' : List Value} (hp : PairAt w0 p A c A2 c2) (ho : OwnsC 40 3 w' base v' (l.length + 1) (rows ++ [.slice A p.1.length c, .slice A2 p.2.1.length c2, .bool p.2.2.1]) sp') : PairsV w0 w' base v' (l ++ [p]) (rows ++ [.slice A p.1.length c, .slice A2 p.2.1.length c2, .bool p.2.2.1]) sp' := by
  have hr := OwnsC.length h.own
  refine ⟨by rw [List.length_append, List.length_singleton]; exact ho, fun i q hq => ?_⟩
  by_cases hi : i < l.length
  · rw [List.getElem?_append_left hi] at hq
    obtain ⟨A1, c1, A3, c3, e1, e2, e3, e4⟩ := h.each i q hq
    exact ⟨A1, c1, A3, c3, by rw [List.getElem?_append_left (by rw [hr]; omega)]; exact e1, by rw [List.getElem?_append_left (by rw [hr]; omega)]; exact e2, by rw [List.getElem?_append_left (by rw [hr]; omega)]; exact e3, e4⟩
  · have hil : i = l.length := by
      have := (List.getElem?_eq_some_iff.1 hq).1
      rw [List.length_append, List.length_singleton] at this
      omega
    subst hil
    rw [List.getElem?_append_right (Nat.le_refl _), Nat.sub_self] at hq
    injection hq with hq
    subst hq
    exact ⟨A, c, A2, c2, by rw [List.getElem?_append_right (by rw [hr]; omega), hr]; simp, by rw [List.getElem?_append_right (by rw [hr]; omega), hr, show l.length * 3 + 1 - l.length * 3 = 1 by omega]; rfl, by rw [List.getElem?_append_right (by rw [hr]; omega), hr, show l.length * 3 + 2 - l.length * 3 = 2 by omega]; rfl, hp⟩
theorem PairsV.pairs (h : PairsV w0 w base v l rows sp) (k : Below w0.heap.size w0 w) : ∃ A c, v = .slice A l.length c ∧ Pairs w A l := by
  obtain ⟨A, c, rfl, hc, hm, hrd, -⟩ := OwnsC.reads h.own
  refine ⟨A, c, rfl, fun hp => ?_⟩
  obtain ⟨A0, c0, A3, c3, e0, -⟩ := h.each 0 l[0] (List.getElem?_eq_getElem hp)
  obtain ⟨b, off, rfl, hcell⟩ := hrd (by intro e; rw [e] at e0; simp at e0)
  refine ⟨b, off, rfl, World.block_lt_of_cell? w _ (hcell _ _ e0), fun i hi => ?_⟩
  obtain ⟨A1, c1, A2, c2, e1, e2, e3, e4⟩ := h.each i l[i] (List.getElem?_eq_getElem hi)
  exact ⟨A1, c1, A2, c2, hcell _ _ e1, by rw [Nat.add_assoc]; exact hcell _ _ e2, by rw [Nat.add_assoc]; exact hcell _ _ e3, e4.below k⟩
end
section
variable {B gp dp : Nat} {Y : List Nat} {w w' : World} {g : Grd} {d : Dsk}
/-- Blocks are written that are none of a grid's. -/
theorem GX.nearT {X : List Nat} (h : GX B Y w gp dp g d) (k : Near X w w') (hX : ∀ x ∈ X, ∃ t cs, Blk w x t cs ∧ NG t) : GX B Y w' gp dp g d := by
  obtain ⟨q, h1, h2, h3, h4, h5, h6, h7⟩ := h
  refine ⟨q, h1, h2, h3, h4.near k (fun x hx hm => ?_), h5, fun y hy => Nat.lt_of_lt_of_le (h6 y hy) k.size, Nat.le_trans h7 k.size⟩
  obtain ⟨t, cs, hb, ht⟩ := hX x hm
  exact h4.offT hb ht hx
theorem xtcounts (h : GX B Y w gp dp g d) : Calls Tryd.prog 45 #[.pointer (some ⟨gp, 0, none⟩)] w fun e w' => e = .returned (.tuple #[.int .i64 (cnts g.L 0 : Nat), .int .i64 (cnts g.L 1 : Nat), .int .i64 (cnts g.L 2 : Nat)]) ∧ Below w.heap.size w w' := by
  obtain ⟨q, h1, h2, h3, h4, h5, h6, h7⟩ := h
  have hr := gcounts_any h4
  rw [h1] at hr
  exact hr
end
/-- The table of some pairs in a grid of 20. -/
theorem map_plain {l : List PairT} (hp : (ppack l).1 = 0) : ∃ D : Nat → Dsk, D 0 = Dsk.new (104 + 4 * 20) ∧ Puts 3 ((ppack l).2.map gbody) (kbytes ((ppack l).2.map gkey)) (tk 3 (ppack l).2.length) (tG 20) D (tk 3) ∧ TOpen (tG 20 ((ppack l).2.length + 1)) (D ((ppack l).2.length + 1)) (tk 3 (ppack l).2.length) (ppack l).2 ((List.range (ppack l).2.length).map (tk 3)) ∧
    (ppack l).2.flatten = l ∧ (ppack l).2.length ≤ 15 ∧ cnts (tG 20 0).L 0 = 20 ∧ l.length ≤ 64 ∧ l.Pairwise (fun a b => a.1 < b.1) ∧ l.all pok = true ∧ psorted l = true ∧ l ≠ [] ∧ TWr 20 3 ((ppack l).2.map gbody) (kbytes ((ppack l).2.map gkey)) (Dsk.new (104 + 4 * 20)).N ((ppack l).2.length + 1) (D ((ppack l).2.length + 1)) := by
  obtain ⟨p1, p2, p3, p4, p5⟩ := ppack_ok hp
  have hm : (ppack l).2.length ≤ 15 := by rw [p5]; exact pgroups_few p4 p2
  have hkl := kbytes_le ((ppack l).2.map gkey) (fun k hk => (gkey_ok hp hk).2)
  rw [List.length_map] at hkl
  have h := puts_new (n := 20) (s := 3) (bs := (ppack l).2.map gbody) (ix := kbytes ((ppack l).2.map gkey)) (d := Dsk.new (104 + 4 * 20)) (by decide) (by decide) (by rw [List.length_map]; omega) (fun b hb => gbody_ok hp hb) (by omega) (by omega) (by rw [List.length_map]; omega) ⟨Dsk.Ok.new (by omega), rfl, Nat.le_refl _⟩
  rw [List.length_map] at h
  obtain ⟨hs, hf⟩ := table_stands (n := 20) (s := 3) (l := l) (g := tG 20 ((ppack l).2.length + 1)) hp h.2 (by decide) (by decide) (by omega) (by omega) rfl
  exact ⟨tD 20 3 ((ppack l).2.map gbody) (kbytes ((ppack l).2.map gkey)) (Dsk.new (104 + 4 * 20)), rfl, h.1, hs, hf, hm, by decide +kernel, p2, psorted_pair p3, p4, p3, p1, h.2⟩
theorem ppack_two (l : List PairT) : (ppack l).1 = 0 ∨ (ppack l).1 = 2 := by
  unfold ppack
  split
  · exact .inr rfl
  · exact .inl rfl
/-- What stays while a statement goes through pairs. -/
structure MpSt (w : World) (B gp dp : Nat) (g : Grd) (d : Dsk) (rb : Nat) (RC : Array Value) (va vs : Value) (l lf : List PairT) (ra sa rs ss : List Value) (W : World) : Prop where
  grid : GX B [] W gp dp g d
  bel : Below w.heap.size w W
  run : Blk W rb 35 RC
  all : PairsU W 0 va l ra sa
  som : PairsU W 0 vs lf rs ss
section
variable {w W W' : World} {B gp dp : Nat} {g : Grd} {d : Dsk} {rb : Nat} {RC : Array Value} {va vs : Value} {l lf : List PairT} {ra sa rs ss : List Value}
theorem MpSt.ts (h : MpSt w B gp dp g d rb RC va vs l lf ra sa rs ss W) (hG : GX B [] W' gp dp g d) (hS : TS B [] W W') (hB : w.heap.size ≤ B) : MpSt w B gp dp g d rb RC va vs l lf ra sa rs ss W' :=
  ⟨hG, h.bel.trans (hS.bel.mono hB), hS.so.blk h.run (by unfold NG; decide), hS.so.pairsU h.all, hS.so.pairsU h.som⟩
theorem MpSt.below (h : MpSt w B gp dp g d rb RC va vs l lf ra sa rs ss W) (k : Below W.heap.size W W') (hB : w.heap.size ≤ B) : MpSt w B gp dp g d rb RC va vs l lf ra sa rs ss W' := h.ts (h.grid.belowT k).1 (h.grid.belowT k).2 hB
/-- Pairs of the statement's own are written. -/
theorem MpSt.own {X : List Nat} (h : MpSt w B gp dp g d rb RC va vs l lf ra sa rs ss W) (k : Near X W W') (hX : ∀ x ∈ X, ∃ cs, Blk W x 40 cs) (hlow : ∀ x ∈ X, w.heap.size ≤ x) (hva : ∀ x, va.ownBlock = some x → x ∉ X) (hvs : ∀ x, vs.ownBlock = some x → x ∉ X) : MpSt w B gp dp g d rb RC va vs l lf ra sa rs ss W' := by
  have hu : ∀ x cs, Blk W x 5 cs → x ∉ X := fun x cs hb hm => by
    obtain ⟨cs', hb'⟩ := hX x hm
    exact hb.apart hb' (by decide) rfl
  refine ⟨h.grid.nearT k (fun x hx => ?_), h.bel.trans (k.toBelow hlow h.bel.size), h.run.near k (fun hm => ?_), h.all.near k hva hu, h.som.near k hvs hu⟩
  · obtain ⟨cs, hb⟩ := hX x hx
    exact ⟨_, cs, hb, by unfold NG; decide⟩
  · obtain ⟨cs, hb⟩ := hX rb hm
    exact h.run.apart hb (by decide) rfl
end
/-- Ahead of each pair: what is wanted of those ahead of it, and the one met last. -/
def MpRel (w : World) (B gp dp : Nat) (g : Grd) (d : Dsk) (rb : Nat) (RC : Array Value) (va vs : Value) (l lf : List PairT) (ra sa rs ss : List Value) (mb : Nat) (P : PairT → Bool) (key : List UInt8) (v26 v28 : Value) (W : World) : Prop :=
  ∃ (k : Nat) (rows sp : List Value) (A1 : Option Addr) (c1 : Nat) (A2 : Option Addr) (c2 : Nat), k ≤ l.length ∧ v28 = .int .i64 (k : Int) ∧ MpSt w B gp dp g d rb RC va vs l lf ra sa rs ss W ∧ PairsV w W (mb + 1) v26 ((l.take k).filter P) rows sp ∧ Blk W mb 40 (pairc (pmet (l.take k) key) A1 c1 A2 c2) ∧ PairAt w (pmet (l.take k) key) A1 c1 A2 c2
/-- Behind the Get of a pair. -/
def MpGot (w : World) (B gp dp : Nat) (g : Grd) (d : Dsk) (rb : Nat) (RC : Array Value) (va vs : Value) (l lf : List PairT) (ra sa rs ss : List Value) (mb : Nat) (v26 : Value) (lw : List PairT) (rows sp : List Value) (mc : Array Value) (p : PairT) (s29 s30 : Value) (W : World) : Prop :=
  ∃ (gb : Nat) (A1 : Option Addr) (c1 : Nat) (A2 : Option Addr) (c2 : Nat), s29 = .pointer (some ⟨gb, 0, none⟩) ∧ s30 = .int .i64 0 ∧ MpSt w B gp dp g d rb RC va vs l lf ra sa rs ss W ∧ PairsV w W (mb + 1) v26 lw rows sp ∧ Blk W mb 40 mc ∧ Blk W gb 40 (pairc p A1 c1 A2 c2) ∧ PairAt W p A1 c1 A2 c2
/-- Behind the question whether a pair lies between the keys. -/
def MpWant (w : World) (B gp dp : Nat) (g : Grd) (d : Dsk) (rb : Nat) (RC : Array Value) (va vs : Value) (l lf : List PairT) (ra sa rs ss : List Value) (mb : Nat) (lw : List PairT) (mc : Array Value) (s26 : Value) (W : World) : Prop :=
  ∃ (rows sp : List Value), MpSt w B gp dp g d rb RC va vs l lf ra sa rs ss W ∧ PairsV w W (mb + 1) s26 lw rows sp ∧ Blk W mb 40 mc
end Go.Proofs.YtgkljncigbiffaaDoor
