/- A message's bytes, as the program lays them. Conditions: the body can be read; the header may be. -/
import Derived.Test.YtekdcjaljjlemaaDoorMSlotWrites8
namespace Go.Proofs.YtekdcjaljjlemaaDoor
open Go.RowKit
theorem Hd.ok_all {f : HdF} (h : Hd.ok f = true) : Hd.nat f := Hd.ok_nat h
theorem setF_in (f : HdF) (v : Int) (h : Hd.in_ f) : Hd.in_ (setF f 2 v) := by
  unfold Hd.in_ setF at *
  simp only [show ¬ (9 = 2) by omega, show ¬ (10 = 2) by omega, show ¬ (13 = 2) by omega, if_false]
  exact h
set_option maxRecDepth 100000 in
set_option maxHeartbeats 4000000 in
theorem hseal_ok (f : HdF) (A : Option Addr) (c : Nat) (body : List UInt8) (w : World) (hby : Bytes w A body) (hc : body.length ≤ c ∧ c ≤ 9223372036854775807) (hlong : body.length ≤ 1024) (hok : Hd.ok (setF f 2 body.length) = true) (hin : Hd.in_ f) :
    Calls Tryd.prog 28 #[.agg (msgc f (.slice A body.length c))] w fun e w' => ∃ g, e = .returned (.tuple #[.slice (some ⟨g, 0, none⟩) (256 + body.length) (256 + body.length), .int .i64 0]) ∧ w.heap.size ≤ g ∧
      Blk w' g 5 ((Hd.bytes (setF f 2 body.length) body).map u8v).toArray ∧ Below w.heap.size w w' := by
  have hg := Blk.new w 29 (msgc f (.slice A body.length c))
  have hB := Lib.hid ((Below.refl w.heap.size w).alloc (Nat.le_refl _) (.cells (msgc f (.slice A body.length c)) 29))
  have d16 := hg.at_ 16 (msgc_16 f _)
  have HR := Lib.hid (hd_range hg)
  have HG := Lib.hid hg
  have HOK := Lib.hid (And.intro hok (setF_in f body.length hin))
  have HC := Lib.hid hc
  clear hg hok hin hc
  go_enter Tryd.func28, Tryd.ntmps28
  go_wp2_with (first
    | (show wpList _ _ _ ((⟨some 14, _, _, _, _, _⟩ : Oper) :: _) _ _; refine wpList_load_mid (o := ⟨some 14, _, _, _, _, _⟩) HR.out (by rfl) _ _ (by rfl) (by rfl) _ Tryd.underlying26 (by rfl) sizeHd (by rw [Array.length_toList, hdc_size]) ?_; rw [Array.toArray_toList]; clear HR d16; generalize World.alloc w _ = w1 at HG hB ⊢; have hlt := HG.out.lt)
    | (show wpList _ _ _ ((⟨none, _, _, _, _, _⟩ : Oper) :: _) _ _; refine wpList_store_blk (o := ⟨none, _, _, _, _, _⟩) ((Blk.new w1 26 #[.int .i64 0, .int .i64 0, .int .i64 0, .int .i64 0, .int .i64 0, .int .i64 0, .int .i64 0, .int .i64 0, .int .i64 0, .int .u64 0, .int .u64 0, .int .i64 0, .int .i64 0, .int .u64 0, .int .i64 0, .int .i64 0]).sub zeroHd_cells.symm) (by rfl) _ _ _ (by rfl) (by rfl) (hdc f) (by rfl) (sizeHd) (hdc_size _) (hdc_size _) (hdc_one _) ?_; intro w2 h2 hu2; have hbx := ((Below.refl w1.heap.size w1).alloc (Nat.le_refl _) (.cells #[.int .i64 0, .int .i64 0, .int .i64 0, .int .i64 0, .int .i64 0, .int .i64 0, .int .i64 0, .int .i64 0, .int .i64 0, .int .u64 0, .int .u64 0, .int .i64 0, .int .i64 0, .int .u64 0, .int .i64 0, .int .i64 0] 26)).upd hu2 (Nat.le_refl _); have HG2 := Lib.hid (HG.out.below hbx hlt); have HB2 := Lib.hid (hB.out.trans (hbx.mono hB.out.size)); have d16 := HG2.out.at_ 16 (msgc_16 f _); have fz := h2.frozen 2; have dz := h2.at_ 2 (hdc_at f 2 (by omega) (by omega) (by omega) (by omega)); have HS := Lib.hid (And.intro ((h2.set_ 2 (.int .i64 (body.length : Nat))).sub (hdc_set f 2 _ (by omega) (by omega) (by omega))) (And.intro (HG2.out.off (c := w1.heap.size) (i := 2) (by omega) (.int .i64 (body.length : Nat))) (HB2.out.set_ (c := w1.heap.size) (i := 2) (by omega) (.int .i64 (body.length : Nat))))); clear hu2 hbx HG hB HG2 HB2 h2)
    | (show wpList _ _ _ ((⟨some 19, _, _, _, _, _⟩ : Oper) :: _) _ _; clear fz dz d16; generalize World.setCell w2 _ _ = w3 at HS ⊢; generalize w1.heap.size = hb at HS hlt ⊢; obtain ⟨hh, hG, hB⟩ := HS.out; clear HS; (show wpList _ _ _ ((⟨some 19, _, _, _, _, _⟩ : Oper) :: _) _ _; refine wpList_load_blk (o := ⟨some 19, _, _, _, _, _⟩) (hh) (by rfl) _ _ (by rfl) (by rfl) _ Tryd.underlying26 (by rfl) (sizeHd) (hdc_size _) ?_))
    | fail)
  have HBY := Lib.hid hby
  replace hby := Bytes.below hby hB
  refine (hcheck_any _ w3).mono ?_
  rintro e w4 ⟨rfl, hbx⟩
  (replace hby := keep hbx hby; replace hh := keep hbx hh; replace hG := keep hbx hG; replace hB := hB.trans (hbx.mono hB.size); clear hbx)
  rw [show Hd.code (setF f 2 body.length) = 0 by unfold Hd.code; rw [HOK.out.1]; rfl]
  have hs16 := Sha.sum_length body
  obtain ⟨fx, hfx⟩ : ∃ fx, fx = setF f 2 body.length := ⟨_, rfl⟩
  rw [← hfx] at hh HOK ⊢
  have HFX := Lib.hid hfx
  have HSS := Lib.hid hs16
  clear hfx hs16
  obtain ⟨L, hL⟩ : ∃ L, L = List.replicate 16 (0 : UInt8) ++ Hd.rest fx (Sha.sum body) := ⟨_, rfl⟩
  have HL := Lib.hid hL
  clear hL
  have hcSum : ∀ w', Below w4.heap.size w4 w' → Calls Tryd.prog 42 #[.slice A body.length c] w' fun e w'' => e = .returned (.agg ((Sha.sum body).map u8v).toArray) ∧ Below w'.heap.size w' w'' := fun w' hw' =>
    sum_any A c body HC.out.1 ⟨by omega, HC.out.2⟩ w' (Bytes.below hby hw')
  have hcLaid : ∀ w', Calls Tryd.prog 40 #[.agg (hdc fx), .agg ((Sha.sum body).map u8v).toArray] w' fun e w'' => e = .returned (.agg (L.map u8v).toArray) ∧ Below w'.heap.size w' w'' := fun w' => by
    rw [HL.out]
    exact hlaid_any fx (Sha.sum body) HSS.out (Hd.ok_all HOK.out.1) HOK.out.2 w'
  have HLL : Hid (L.length = 256) := Lib.hid (by rw [HL.out, List.length_append, Hd.rest_length fx _ HSS.out, List.length_replicate])
  have a256 := alloc256
  go_wp2_with fail
  refine wp_region_tree (Below w4.heap.size w4) [] (PlanT.takes [1] (PlanT.takes [0, 2] (.opt 3 (.opt 4 (.opt 5 (.opt 6 .done .no) .no) (.opt 5 (.opt 4 (.opt 6 .done .no) .no) .no)) (.opt 5 (.opt 3 (.opt 4 (.opt 6 .done .no) .no) .no) .no)))) (by kernel_rfl) (by kernel_rfl) ((Below.refl _ _).drew) ?_
  refine wpTree_pure _ _ _ (by rfl) (by rfl) ?_
  dsimp only [List.filterMap, List.getElem?_cons_zero, List.getElem?_cons_succ]
  repeat (go_big_quiet_step (fail))
  refine wpQuiet_nil ?_
  refine wpTree_takeL _ _ _ (by rfl) (by rfl) ((Below.refl _ _).drew) ?_
  dsimp only [List.filterMap, List.getElem?_cons_zero, List.getElem?_cons_succ]
  (refine wpQuiet_load_blk (fun w' hw' => hh.below hw' hh.lt) (by rfl) _ _ (by rfl) (by rfl) _ Tryd.underlying26 (by rfl) (sizeHd) (hdc_size _) ?_; simp only [Act.put, List.setIfInBounds_toArray, List.set_cons_zero, List.set_cons_succ])
  (refine wpQuiet_load_cell (fun w' hw' => (hG.below hw' hG.lt).at_ 16 (msgc_16 f _)) (by rfl) _ _ (by rfl) (by rfl) _ Tryd.underlying27 (by rfl) ?_; simp only [Act.put, List.setIfInBounds_toArray, List.set_cons_zero, List.set_cons_succ])
  refine wpQuiet_nil ?_
  apply share (α := Nat) (F := fun gb wZ => Blk wZ gb 81 (L.map u8v).toArray ∧ Below w4.heap.size w4 wZ ∧ w4.heap.size ≤ gb)
  · intro KK
    refine wpTree_opt _ rfl ?_ (wpTree_one _ rfl ?_)
    · go_wp2_with fail
      refine (hcSum _ (Below.refl _ _).drew).mono ?_
      rintro e w5 ⟨rfl, hb5⟩
      have hc5 : Below w4.heap.size w4 w5 := (Below.refl _ _).drew.trans (hb5.mono (Nat.le_refl _))
      go_wp2_with fail
      refine TreeQ.in_ hc5 ?_
      refine wpTree_opt _ rfl ?_ (wpTree_one _ rfl ?_)
      · go_wp2_with fail
        refine (hcLaid w5).mono ?_
        rintro e w6 ⟨rfl, hb6⟩
        have hc6 := hc5.trans (hb6.mono hc5.size)
        go_wp2_with fail
        refine TreeQ.in_ hc6 ?_
        refine wpTree_one _ rfl ?_
        go_wp2_with fail
        refine TreeQ.in_ (hc6.alloc hc6.size _) ?_
        refine wpTree_one _ rfl ?_
        go_wp2_with (first
          | (show wpList _ _ _ ((⟨none, _, _, _, _, _⟩ : Oper) :: _) _ _; refine wpList_store_blk (o := ⟨none, _, _, _, _, _⟩) (Blk.new w6 81 zero256) (by rfl) _ _ _ (by rfl) (by rfl) ((L.map u8v).toArray) (by rfl) (size256) (arr_size _ _) (by simpa using HLL.out) (u8_all _) ?_; intro w7 h7 hu7)
          | fail)
        have hc7 := (hc6.alloc hc6.size _).upd hu7 hc6.size
        refine TreeQ.in_ hc7 ?_
        refine wpTree_done ?_
        have hge := hc6.size
        generalize w6.heap.size = gb at *
        exact KK gb w7 ⟨h7, hc7, hge⟩
      · go_wp2_with fail
        have hc6 := hc5.alloc hc5.size (.cells zero256 81)
        have h6 := Blk.new w5 81 zero256
        have hge := hc5.size
        generalize hwx : w5.alloc (.cells zero256 81) = wx at hc6 h6 ⊢
        clear hwx
        generalize w5.heap.size = gb at *
        refine TreeQ.in_ hc6 ?_
        refine wpTree_one _ rfl ?_
        go_wp2_with fail
        refine (hcLaid wx).mono ?_
        rintro e w6 ⟨rfl, hb6⟩
        have h7 := keep hb6 h6
        have hc7 := hc6.trans (hb6.mono hc6.size)
        go_wp2_with fail
        refine TreeQ.in_ hc7 ?_
        refine wpTree_one _ rfl ?_
        go_wp2_with (first
          | (show wpList _ _ _ ((⟨none, _, _, _, _, _⟩ : Oper) :: _) _ _; refine wpList_store_blk (o := ⟨none, _, _, _, _, _⟩) (h7) (by rfl) _ _ _ (by rfl) (by rfl) ((L.map u8v).toArray) (by rfl) (size256) (arr_size _ _) (by simpa using HLL.out) (u8_all _) ?_; intro w8 h8 hu8)
          | fail)
        have hc8 := hc7.upd hu8 hge
        refine TreeQ.in_ hc8 ?_
        refine wpTree_done ?_
        exact KK gb w8 ⟨h8, hc8, hge⟩
    · go_wp2_with fail
      have hc6 : Below w4.heap.size w4 (w4.alloc (.cells zero256 81)).drew := ((Below.refl _ _).alloc (Nat.le_refl _) _).drew
      have h6 : Blk (w4.alloc (.cells zero256 81)).drew w4.heap.size 81 zero256 := (Blk.new w4 _ _).drew
      have hge : w4.heap.size ≤ w4.heap.size := Nat.le_refl _
      generalize hwx : (w4.alloc (.cells zero256 81)).drew = wx at hc6 h6 ⊢
      clear hwx
      refine TreeQ.in_ hc6 ?_
      refine wpTree_one _ rfl ?_
      go_wp2_with fail
      refine (hcSum _ hc6).mono ?_
      rintro e w5 ⟨rfl, hb5⟩
      replace h6 := keep hb5 h6
      have hc5 := hc6.trans (hb5.mono hc6.size)
      go_wp2_with fail
      refine TreeQ.in_ hc5 ?_
      refine wpTree_one _ rfl ?_
      go_wp2_with fail
      refine (hcLaid w5).mono ?_
      rintro e w6 ⟨rfl, hb6⟩
      have h7 := keep hb6 h6
      have hc7 := hc5.trans (hb6.mono hc5.size)
      go_wp2_with fail
      refine TreeQ.in_ hc7 ?_
      refine wpTree_one _ rfl ?_
      go_wp2_with (first
        | (show wpList _ _ _ ((⟨none, _, _, _, _, _⟩ : Oper) :: _) _ _; refine wpList_store_blk (o := ⟨none, _, _, _, _, _⟩) (h7) (by rfl) _ _ _ (by rfl) (by rfl) ((L.map u8v).toArray) (by rfl) (size256) (arr_size _ _) (by simpa using HLL.out) (u8_all _) ?_; intro w8 h8 hu8)
        | fail)
      have hc8 := hc7.upd hu8 hge
      refine TreeQ.in_ hc8 ?_
      refine wpTree_done ?_
      exact KK w4.heap.size w8 ⟨h8, hc8, hge⟩
  · clear hcSum hcLaid a256
    rintro gb wZ ⟨hgb, hbx, hge⟩
    have hBZ := hB.trans (hbx.mono hB.size)
    have hmb := hG.lt
    have hsz := hB.size
    (replace hG := keep hbx hG)
    clear hbx hh hB hby
    have hR : Bytes wZ (some ⟨gb, 16, none⟩) (Hd.rest fx (Sha.sum body)) := by
      have h := hgb.bytes.drop (k := 16) (cap := 256) (.inl (by omega))
      rw [if_neg (by omega)] at h
      rw [HL.out, show (List.replicate 16 (0 : UInt8) ++ Hd.rest fx (Sha.sum body)).drop 16 = Hd.rest fx (Sha.sum body) from List.drop_left (l₁ := List.replicate 16 (0 : UInt8))] at h
      simpa [Addr.add_lit] using h
    obtain ⟨R, hRR⟩ : ∃ R, R = Hd.rest fx (Sha.sum body) := ⟨_, rfl⟩
    have hRl : R.length = 240 := by rw [hRR, Hd.rest_length fx _ HSS.out]
    have HRL := Lib.hid hRl
    have HLR : Hid (L = List.replicate 16 0 ++ R) := Lib.hid (by rw [HL.out, hRR])
    have HRR := Lib.hid hRR
    rw [← hRR] at hR
    have hcs := sum_any (some ⟨gb, 16, none⟩) 240 R (by omega) ⟨by omega, by omega⟩ wZ hR
    rw [hRl] at hcs
    clear hRR hRl hR
    go_wp2_with fail
    refine hcs.mono ?_
    clear hcs
    rintro e w5 ⟨rfl, hb5⟩
    (replace hG := keep hb5 hG; replace hgb := keep hb5 hgb; replace hBZ := hBZ.trans (hb5.mono hBZ.size); clear hb5)
    have hs16 := Sha.sum_length R
    obtain ⟨S, hS⟩ : ∃ S, S = Sha.sum R := ⟨_, rfl⟩
    rw [← hS] at hs16 ⊢
    have HS := Lib.hid hS
    clear hS
    have a16 := alloc16
    go_wp2_with (first
      | (show wpList _ _ _ ((⟨none, _, _, _, _, _⟩ : Oper) :: _) _ _; refine wpList_store_blk (o := ⟨none, _, _, _, _, _⟩) (Blk.new w5 70 zero16) (by rfl) _ _ _ (by rfl) (by rfl) (S.map u8v).toArray (by rfl) size16 (arr_size _ _) (by simp [hs16]) (u8_all _) ?_; intro w6 h6 hux; have hbx := ((Below.refl _ _).alloc (Nat.le_refl _) (.cells zero16 70)).upd hux (Nat.le_refl w5.heap.size); replace hG := keep hbx hG; replace hgb := keep hbx hgb; replace hBZ := hBZ.trans (hbx.mono hBZ.size); clear hux hbx)
      | fail)
    simp only [Act.put]
    clear a16
    refine wp_region_planT (fun _ => True) [2] [(true, 0), (true, 1), (false, 2)] (by kernel_rfl) (by kernel_rfl) (trivial) ?_
    refine wpPlan_pure [0, 1] [(false, 2)] _ (by rfl) (by rfl) ?_
    dsimp only [List.filterMap, List.getElem?_cons_zero, List.getElem?_cons_succ]
    repeat (go_big_quiet_step (fail))
    refine wpQuiet_nil ?_
    refine wpPlan_forceL _ rfl ?_
    refine wpList_copy_at (by rfl) _ _ _ _ (by rfl) 5 Tryd.underlying27 size1 gb 0 256 256 (some ⟨w5.heap.size, 0, none⟩) 16 16 (by rfl) (by rfl) _ S _ hgb.drew hs16 h6.drew.bytes (by rw [HLL.out, hs16]; omega) (by omega) ?_
    intro w7 hg7 hu7
    have hX : Hid (L.take 0 ++ (S ++ L.drop (0 + S.length)) = Hd.head fx (Sha.sum body)) := Lib.hid (by
      rw [List.take_zero, List.nil_append, Nat.zero_add, hs16, HLR.out, HS.out, HRR.out]
      unfold Hd.head
      congr 1)
    rw [hX.out] at hg7
    have hHl : Hid ((Hd.head fx (Sha.sum body)).length = 256) := Lib.hid (Hd.head_length fx _ HSS.out)
    obtain ⟨D, hD⟩ : ∃ D, D = Hd.head fx (Sha.sum body) := ⟨_, rfl⟩
    rw [← hD] at hg7 hHl
    have HD := Lib.hid hD
    have hne : w.heap.size ≠ gb := by omega
    have hBw : w.heap.size ≤ gb := by omega
    replace hBZ := hBZ.drew.upd hu7 hBw
    replace hG := hG.drew.upd hu7 hne
    have hby := Bytes.below HBY.out hBZ
    have d16 := hG.at_ 16 (msgc_16 f _)
    clear hD hne hBw hu7 h6 hgb hX
    refine wpList_nil ?_
    refine PlanQ.out (by rfl) ?_
    refine wpPlan_tidy ?_
    simp only [Act.put, List.setIfInBounds_toArray, List.set_cons_zero, List.set_cons_succ]
    go_wp2_with (first
      | (show wpList _ _ _ ((⟨some 38, _, _, _, _, _⟩ : Oper) :: _) _ _; refine wpList_make_bytes (o := ⟨some 38, _, _, _, _, _⟩) _ (by rfl) _ _ _ (by rfl) _ Tryd.underlying27 u8info .i64 .i64 _ _ (0) (256 + body.length) (by rfl) (by rfl) (by first | rfl | omega) (by first | rfl | omega) (by omega) (by omega) ?_; intro w8 h8 hb8 hs8)
      | fail)
    replace hg7 := keep hb8 hg7
    replace hG := keep hb8 hG
    replace hBZ := hBZ.trans (hb8.mono hBZ.size)
    have hgo : w.heap.size ≤ w7.heap.size := by have := hmb; have := h8.lt; have := hG.lt; omega
    have hmo : w.heap.size ≠ w7.heap.size := by have := hmb; intro e; have h1 := hG; rw [e] at h1; have h2 := h1.symm.trans h8; simp at h2
    have hgo2 : gb ≠ w7.heap.size := by intro e; have h1 := hg7; rw [e] at h1; have h2 := h1.symm.trans h8; simp at h2
    generalize w7.heap.size = go at *
    have d16 := hG.at_ 16 (msgc_16 f _)
    have hby := Bytes.below HBY.out hBZ
    clear hb8 hs8 HRL HLR HRR HS hs16 HLL HL hge hsz hlt
    refine wp_region_planT (fun w' => w'.cell? ⟨w.heap.size, 16, none⟩ = some (.slice A body.length c)) [] [(true, 0), (true, 1), (true, 3), (true, 4), (false, 2), (false, 5), (true, 6), (true, 7)] (by kernel_rfl) (by kernel_rfl) (d16) ?_
    refine wpPlan_pure [0, 1, 3] [(true, 4), (false, 2), (false, 5), (true, 6), (true, 7)] _ (by rfl) (by rfl) ?_
    dsimp only [List.filterMap, List.getElem?_cons_zero, List.getElem?_cons_succ]
    repeat (go_big_quiet_step (fail))
    refine wpQuiet_nil ?_
    refine wpPlan_takeL [4] [(false, 2), (false, 5), (true, 6), (true, 7)] _ (by rfl) (by rfl) (d16) ?_
    dsimp only [List.filterMap, List.getElem?_cons_zero, List.getElem?_cons_succ]
    (refine wpQuiet_load_cell (fun w' hw' => hw') (by rfl) _ _ (by rfl) (by rfl) _ Tryd.underlying27 (by rfl) ?_; simp only [Act.put, List.setIfInBounds_toArray, List.set_cons_zero, List.set_cons_succ])
    refine wpQuiet_nil ?_
    refine wpPlan_forceL _ rfl ?_
    refine wpList_append_room (by rfl) _ _ _ (by rfl) _ Tryd.underlying27 u8info go 0 (256 + body.length) [] (List.replicate (256 + body.length) 0) rfl (by rfl) h8.drew (by rw [List.length_replicate, Nat.zero_add]) (some ⟨gb, 0, none⟩) 256 256 D hHl.out (by rfl) hg7.drew.bytes (by rw [List.length_replicate]; omega) ?_
    intro w9 h9 hu9
    have hG9 := hG.drew.upd hu9 hmo
    have hB9 := hBZ.drew.upd hu9 hgo
    have e9 : Hid (([] : List UInt8) ++ (D ++ (List.replicate (256 + body.length) (0 : UInt8)).drop 256) = D ++ List.replicate body.length 0) := Lib.hid (by rw [List.nil_append, List.drop_replicate, Nat.add_sub_cancel_left])
    rw [e9.out] at h9
    have hby9 := Bytes.below HBY.out hB9
    have d16 := hG9.at_ 16 (msgc_16 f _)
    clear e9 hu9 h8 hG hBZ hg7
    refine wpList_nil ?_
    refine PlanQ.in_ d16 ?_
    simp only [Act.put, List.setIfInBounds_toArray, List.set_cons_zero, List.set_cons_succ]
    refine wpPlan_forceL _ rfl ?_
    refine wpList_append_room (by rfl) _ _ _ (by rfl) _ Tryd.underlying27 u8info go (0 + 256) (256 + body.length) D (List.replicate body.length 0) (by rw [hHl.out]) (by rfl) h9 (by rw [List.length_replicate, Nat.zero_add]) A body.length c body rfl (by rfl) hby9 (by rw [List.length_replicate]; omega) ?_
    intro w10 h10 hu10
    have hG10 := hG9.upd hu10 hmo
    have hB10 := hB9.upd hu10 hgo
    rw [show body ++ (List.replicate body.length (0 : UInt8)).drop body.length = body by rw [List.drop_replicate, Nat.sub_self]; simp] at h10
    have d16 := hG10.at_ 16 (msgc_16 f _)
    clear hu10 h9 hG9 hB9 hby9
    refine wpList_nil ?_
    refine PlanQ.in_ d16 ?_
    simp only [Act.put, List.setIfInBounds_toArray, List.set_cons_zero, List.set_cons_succ]
    refine wpPlan_pure [6, 7] [] _ (by rfl) (by rfl) ?_
    dsimp only [List.filterMap, List.getElem?_cons_zero, List.getElem?_cons_succ]
    repeat (go_big_quiet_step (fail))
    refine wpQuiet_nil ?_
    refine wpPlan_tidy ?_
    have HX := Lib.hid (And.intro h10 hB10)
    clear h10 hB10 hG10 d16 hby
    go_wp2
    go_ret2
    refine ⟨go, ?_, hgo, ?_, HX.out.2⟩
    · simp
    · refine HX.out.1.sub ?_
      rw [HD.out, HFX.out]; rfl
end Go.Proofs.YtekdcjaljjlemaaDoor

/- May a header be: the document's answer. No condition. -/
namespace Go.Proofs.YtekdcjaljjlemaaDoor
open Go.RowKit
theorem within_any (n a b : Int) (w : World) : Calls Tryd.prog 59 #[.int .i64 n, .int .i64 a, .int .i64 b] w fun e w' => e = .returned (.bool (decide (a ≤ n) && decide (n ≤ b))) ∧ w = w' := by
  by_cases h1 : a ≤ n
  · rw [decide_eq_true h1, Bool.true_and]
    go_enter Tryd.func59, Tryd.ntmps59
    go_wp2
    go_ret
    exact ⟨rfl, rfl⟩
  · rw [decide_eq_false h1, Bool.false_and]
    have h2 : n < a := by omega
    clear h1
    go_enter Tryd.func59, Tryd.ntmps59
    go_wp2
    go_ret
    exact ⟨rfl, rfl⟩
def okK (f : HdF) (b : Bool) (k : Nat) : Bool := b && (tenI.take k).all fun i => numOk (f i)
theorem okK_succ (f : HdF) (b : Bool) (k : Nat) (hk : k < 10) : okK f b (k + 1) = (okK f b k && numOk (f (tenI.getD k 0))) := by
  unfold okK
  have hl : tenI.length = 10 := rfl
  rw [List.take_succ_eq_append_getElem (by omega), List.all_append]
  simp only [List.all_cons, List.all_nil, Bool.and_true]
  rw [Bool.and_assoc, List.getD_eq_getElem?_getD, List.getElem?_eq_getElem (by omega)]; rfl
def RChkRel (f : HdF) (u v : Value) : Prop := ∃ (b : Bool) (k : Nat), (Hd.code f = if okK f b 10 then 0 else 2) ∧ k ≤ 10 ∧ v = .int .i64 (k : Int) ∧ u = .bool (okK f b k)
set_option maxHeartbeats 1000000 in
theorem rhcheck_any (f : HdF) (w : World) :
    Calls Tryd.prog 43 #[.agg (hdc f)] w fun e w' => e = .returned (.int .i64 (Hd.code f)) ∧ Below w.heap.size w w' := by
  have hg := Blk.new w 26 (hdc f)
  have hB0 := (Below.refl w.heap.size w).alloc (Nat.le_refl _) (.cells (hdc f) 26)
  have hfc : ∀ i, i < 16 → i ≠ 9 → i ≠ 10 → i ≠ 13 → (w.alloc (.cells (hdc f) 26)).cell? ⟨w.heap.size, i, none⟩ = some (.int .i64 (f i)) := fun i h1 h2 h3 h4 => hg.at_ i (hdc_at f i h1 h2 h3 h4)
  have c0 := hfc 0 (by omega) (by omega) (by omega) (by omega)
  have c1 := hfc 1 (by omega) (by omega) (by omega) (by omega)
  have c2 := hfc 2 (by omega) (by omega) (by omega) (by omega)
  have c3 := hfc 3 (by omega) (by omega) (by omega) (by omega)
  have c4 := hfc 4 (by omega) (by omega) (by omega) (by omega)
  have c5 := hfc 5 (by omega) (by omega) (by omega) (by omega)
  have c6 := hfc 6 (by omega) (by omega) (by omega) (by omega)
  have c7 := hfc 7 (by omega) (by omega) (by omega) (by omega)
  have c8 := hfc 8 (by omega) (by omega) (by omega) (by omega)
  have c11 := hfc 11 (by omega) (by omega) (by omega) (by omega)
  have c12 := hfc 12 (by omega) (by omega) (by omega) (by omega)
  have c14 := hfc 14 (by omega) (by omega) (by omega) (by omega)
  have c15 := hfc 15 (by omega) (by omega) (by omega) (by omega)
  have q0 := fun w' => within_any (f 0) 1 31 w'
  have q1 := fun w' => within_any (f 1) 0 6 w'
  have q2 := fun w' => within_any (f 2) 0 1024 w'
  have hcode : ∀ b0 b1 b2 : Bool, (decide (1 ≤ f 0) && decide (f 0 ≤ 31)) = b0 → (decide (0 ≤ f 1) && decide (f 1 ≤ 6)) = b1 → (decide (0 ≤ f 2) && decide (f 2 ≤ 1024)) = b2 → Hd.code f = if okK f (b0 && b1 && b2) 10 then 0 else 2 := by
    rintro b0 b1 b2 rfl rfl rfl
    unfold Hd.code Hd.ok okK
    rw [show tenI.take 10 = tenI from rfl]
    simp only [Bool.and_assoc]
  generalize hb0 : (decide (1 ≤ f 0) && decide (f 0 ≤ 31)) = b0 at q0
  generalize hb1 : (decide (0 ≤ f 1) && decide (f 1 ≤ 6)) = b1 at q1
  generalize hb2 : (decide (0 ≤ f 2) && decide (f 2 ≤ 1024)) = b2 at q2
  have HC := Lib.hid (hcode b0 b1 b2 hb0 hb1 hb2)
  have HB := Lib.hid hB0
  clear hcode hb0 hb1 hb2 hfc hB0 hg
  go_enter Tryd.func43, Tryd.ntmps43
  go_wp2_with fail
  refine (q0 _).mono ?_
  rintro e w1 ⟨rfl, rfl⟩
  cases b0
  case' true =>
    go_wp2_with fail
    refine (q1 _).mono ?_
    rintro e w1 ⟨rfl, rfl⟩
    cases b1
    case' true =>
      go_wp2_with fail
      refine (q2 _).mono ?_
      rintro e w1 ⟨rfl, rfl⟩
      cases b2
  all_goals
    clear q0 q1 q2
    go_wp2_with fail
    generalize hw2 : (w.alloc (.cells (hdc f) 26)).alloc _ = w2
    have hl : Blk w2 (w.heap.size + 1) 3 (tenI.map fun i => Value.int .i64 (f i)).toArray := by
      rw [← hw2]; exact Blk.new' _ _ _ (by simp)
    have HB2 := Lib.hid (show Below w.heap.size w w2 by rw [← hw2]; exact HB.out.alloc (by simp) _)
    have hpc : ∀ k, k < 10 → w2.cell? ⟨w.heap.size + 1, k, none⟩ = some (.int .i64 (f (tenI.getD k 0))) := fun k hk => hl.at_ k (by
      have : k = 0 ∨ k = 1 ∨ k = 2 ∨ k = 3 ∨ k = 4 ∨ k = 5 ∨ k = 6 ∨ k = 7 ∨ k = 8 ∨ k = 9 := by omega
      rcases this with rfl | rfl | rfl | rfl | rfl | rfl | rfl | rfl | rfl | rfl <;> rfl)
    clear hw2 HB hl c0 c1 c2 c3 c4 c5 c6 c7 c8 c11 c12 c14 c15
    go_loop [3, 5] (fun u v => RChkRel f u v) (fun _ v => 10 - (intOf v).toNat)
    case atStart => exact ⟨_, 0, HC.out, by omega, rfl, rfl⟩
    case round =>
      obtain ⟨B, k, hc, hk, rfl, rfl⟩ := hrel
      have HC1 := Lib.hid hc
      clear HC hc
      by_cases hk10 : k < 10
      · have d0 := hpc k hk10
        have hs := okK_succ f B k hk10
        have qk := within_any (f (tenI.getD k 0)) 0 1073741824 w2
        rw [show (decide (0 ≤ f (tenI.getD k 0)) && decide (f (tenI.getD k 0) ≤ 1073741824)) = numOk (f (tenI.getD k 0)) from rfl] at qk
        generalize f (tenI.getD k 0) = x at d0 qk hs
        generalize numOk x = y at qk hs
        generalize okK f B k = z at hs
        have HS := Lib.hid hs
        clear hs hpc
        cases z
        · go_wp2_with fail
          go_round
          case rel =>
            have hch : RChkRel f (.bool false) (.int .i64 ((k : Int) + 1)) := ⟨B, k + 1, HC1.out, by omega, by go_num, by rw [HS.out]; rfl⟩
            first | exact hch | exact ⟨_, hch, rfl, rfl⟩
          case measure => simp [intOf]; omega
        · go_wp2_with fail
          refine qk.mono ?_
          rintro e w3 ⟨rfl, rfl⟩
          clear qk
          go_wp2
          go_round
          case rel =>
            have hch : RChkRel f (.bool y) (.int .i64 ((k : Int) + 1)) := ⟨B, k + 1, HC1.out, by omega, by go_num, by rw [HS.out]; rfl⟩
            first | exact hch | exact ⟨_, hch, rfl, rfl⟩
          case measure => simp [intOf]; omega
      · obtain rfl : k = 10 := by omega
        clear hpc
        generalize okK f B 10 = z at HC1
        cases z
        · go_wp2
          go_ret
          exact ⟨ret_int HC1.out.symm, HB2.out⟩
        · go_wp2
          go_ret
          exact ⟨ret_int HC1.out.symm, HB2.out⟩
end Go.Proofs.YtekdcjaljjlemaaDoor

/- What the document's function answers that seals bytes. Conditions: the bytes can be read; they are at most 2^47 - 5000. -/
namespace Go
open Go.RowKit
namespace Proofs.YtekdcjaljjlemaaDoor
set_option maxHeartbeats 400000 in
theorem rseal_any (A : Option Addr) (n c : Nat) (l : List UInt8) (hn : n = l.length) (hc : l.length ≤ c) (hc2 : l.length ≤ 140737488351232 ∧ c ≤ 9223372036854775807) (w : World) (hb : Bytes w A l) :
    Calls Tryd.prog 44 #[.slice A n c] w fun e w' => ∃ v sp, e = .returned v ∧ OwnB 5 w' w.heap.size v (Sha.seal_ l) sp ∧ Below w.heap.size w w' := by
  subst hn
  go_enter Tryd.func44, Tryd.ntmps44
  go_wp2_with fail
  refine (rsum_any A c l hc hc2 w hb).mono ?_
  rintro e w1 ⟨rfl, hb1⟩
  have hs16 := Sha.sum_length l
  obtain ⟨S, hS⟩ : ∃ S, S = Sha.sum l := ⟨_, rfl⟩
  rw [← hS] at hs16 ⊢
  have HS := Lib.hid hS
  clear hS
  have a16 := alloc16
  have hz := Blk.new w1 70 zero16
  have hbz := hb1.alloc hb1.size (.cells zero16 70)
  go_wp2_with (first
    | (show wpList _ _ _ ((⟨none, _, _, _, _, _⟩ : Oper) :: _) _ _; refine wpList_store_blk (o := ⟨none, _, _, _, _, _⟩) hz (by rfl) _ _ _ (by rfl) (by rfl) (S.map u8v).toArray (by rfl) size16 (arr_size _ _) (by simp [hs16]) (u8_all _) ?_; intro w2 h2 hu2; have hb2 := hbz.upd hu2 hb1.size; have hbl2 := Bytes.below hb hb2; have hb3 := hb2.alloc hb2.size (.cells #[] 5); have ho3 := OwnB.lit0 (e := 5) w2 hb2.size; have hS3 := (h2.alloc (.cells #[] 5)).bytes; have hsz3 := hb3.size; clear hu2 hbz hz h2 hbl2 hb2)
    | (show wpList _ _ _ ((⟨some 8, _, _, _, _, _⟩ : Oper) :: _) _ _; refine wpList_append_bytes (o := ⟨some 8, _, _, _, _, _⟩) (by rfl) _ _ _ (by rfl) w.heap.size _ Tryd.underlying27 u8info (.slice (some ⟨w2.heap.size, 0, none⟩) 0 0) [] _ (by rfl) ho3 (some ⟨w1.heap.size, 0, none⟩) 16 S (by rw [hs16]; rfl) hS3 (by simp; omega) hsz3 ?_; intro v4 w4 sp4 ho4 hg4 _ _; have hb4 := hb3.grown hg4 hsz3 (fun k hk => (OwnsC.lt ho3 k hk).1); have hl4 := Bytes.below hb hb4; have hsz4 := hb4.size; clear ho3 hS3 hb3 hg4)
    | (show wpList _ _ _ ((⟨some 10, _, _, _, _, _⟩ : Oper) :: _) _ _; refine wpList_append_bytes (o := ⟨some 10, _, _, _, _, _⟩) (by rfl) _ _ _ (by rfl) w.heap.size _ Tryd.underlying27 u8info v4 ([] ++ S) sp4 (by rfl) ho4 A c l (by rfl) hl4 (by simp; omega) hsz4 ?_; intro v5 w5 sp5 ho5 hg5 _ _; have hb5 := hb4.grown hg5 hsz4 (fun k hk => (OwnsC.lt ho4 k hk).1); clear ho4 hl4 hb4 hg5)
    | fail)
  go_ret
  exact ⟨v5, sp5, rfl, by rw [List.nil_append, HS.out] at ho5; exact ho5, hb5⟩
end Proofs.YtekdcjaljjlemaaDoor
end Go

/- A message's bytes, the document's. Conditions: the body can be read; the numbers are what Go's types hold. -/
namespace Go.Proofs.YtekdcjaljjlemaaDoor
open Go.RowKit
theorem rhseal_long (f : HdF) (A : Option Addr) (c : Nat) (body : List UInt8) (w : World) (hlong : 1024 < body.length) :
    Calls Tryd.prog 30 #[.agg (msgc f (.slice A body.length c))] w fun e w' => e = .returned (.tuple #[.slice none 0 0, .int .i64 3]) ∧ Below w.heap.size w w' := by
  have hg := Blk.new w 29 (msgc f (.slice A body.length c))
  have hB := Lib.hid ((Below.refl w.heap.size w).alloc (Nat.le_refl _) (.cells (msgc f (.slice A body.length c)) 29))
  have d16 := hg.at_ 16 (msgc_16 f _)
  clear hg
  go_enter Tryd.func30, Tryd.ntmps30
  go_wp2
  go_ret2
  exact ⟨rfl, hB.out⟩
set_option maxHeartbeats 1000000 in
theorem rhseal_no (f : HdF) (A : Option Addr) (c : Nat) (body : List UInt8) (w : World) (hlong : body.length ≤ 1024) (hno : Hd.ok (setF f 2 body.length) = false) :
    Calls Tryd.prog 30 #[.agg (msgc f (.slice A body.length c))] w fun e w' => e = .returned (.tuple #[.slice none 0 0, .int .i64 2]) ∧ Below w.heap.size w w' := by
  have hg := Blk.new w 29 (msgc f (.slice A body.length c))
  have hB := Lib.hid ((Below.refl w.heap.size w).alloc (Nat.le_refl _) (.cells (msgc f (.slice A body.length c)) 29))
  have d16 := hg.at_ 16 (msgc_16 f _)
  have HR := Lib.hid (hd_range hg)
  have HG := Lib.hid hg
  have HNO := Lib.hid hno
  clear hg hno
  go_enter Tryd.func30, Tryd.ntmps30
  go_wp2_with (first
    | (show wpList _ _ _ ((⟨some 10, _, _, _, _, _⟩ : Oper) :: _) _ _; refine wpList_load_mid (o := ⟨some 10, _, _, _, _, _⟩) HR.out (by rfl) _ _ (by rfl) (by rfl) _ Tryd.underlying26 (by rfl) sizeHd (by rw [Array.length_toList, hdc_size]) ?_; rw [Array.toArray_toList]; clear HR d16; generalize World.alloc w _ = w1 at HG hB ⊢; have hlt := HG.out.lt)
    | (show wpList _ _ _ ((⟨none, _, _, _, _, _⟩ : Oper) :: _) _ _; refine wpList_store_blk (o := ⟨none, _, _, _, _, _⟩) ((Blk.new w1 26 #[.int .i64 0, .int .i64 0, .int .i64 0, .int .i64 0, .int .i64 0, .int .i64 0, .int .i64 0, .int .i64 0, .int .i64 0, .int .u64 0, .int .u64 0, .int .i64 0, .int .i64 0, .int .u64 0, .int .i64 0, .int .i64 0]).sub zeroHd_cells.symm) (by rfl) _ _ _ (by rfl) (by rfl) (hdc f) (by rfl) (sizeHd) (hdc_size _) (hdc_size _) (hdc_one _) ?_; intro w2 h2 hu2; have hbx := ((Below.refl w1.heap.size w1).alloc (Nat.le_refl _) (.cells #[.int .i64 0, .int .i64 0, .int .i64 0, .int .i64 0, .int .i64 0, .int .i64 0, .int .i64 0, .int .i64 0, .int .i64 0, .int .u64 0, .int .u64 0, .int .i64 0, .int .i64 0, .int .u64 0, .int .i64 0, .int .i64 0] 26)).upd hu2 (Nat.le_refl _); have HG2 := Lib.hid (HG.out.below hbx hlt); have HB2 := Lib.hid (hB.out.trans (hbx.mono hB.out.size)); have d16 := HG2.out.at_ 16 (msgc_16 f _); have fz := h2.frozen 2; have dz := h2.at_ 2 (hdc_at f 2 (by omega) (by omega) (by omega) (by omega)); have HS := Lib.hid (And.intro ((h2.set_ 2 (.int .i64 (body.length : Nat))).sub (hdc_set f 2 _ (by omega) (by omega) (by omega))) (And.intro (HG2.out.off (c := w1.heap.size) (i := 2) (by omega) (.int .i64 (body.length : Nat))) (HB2.out.set_ (c := w1.heap.size) (i := 2) (by omega) (.int .i64 (body.length : Nat))))); clear hu2 hbx HG hB HG2 HB2 h2)
    | (show wpList _ _ _ ((⟨some 15, _, _, _, _, _⟩ : Oper) :: _) _ _; clear fz dz d16; generalize World.setCell w2 _ _ = w3 at HS ⊢; generalize w1.heap.size = hb at HS hlt ⊢; obtain ⟨hh, hG, hB⟩ := HS.out; clear HS; (show wpList _ _ _ ((⟨some 15, _, _, _, _, _⟩ : Oper) :: _) _ _; refine wpList_load_blk (o := ⟨some 15, _, _, _, _, _⟩) (hh) (by rfl) _ _ (by rfl) (by rfl) _ Tryd.underlying26 (by rfl) (sizeHd) (hdc_size _) ?_))
    | fail)
  refine (rhcheck_any _ w3).mono ?_
  rintro e w4 ⟨rfl, hbx⟩
  (replace hB := hB.trans (hbx.mono hB.size); clear hbx hG hh)
  rw [show Hd.code (setF f 2 body.length) = 2 by unfold Hd.code; rw [HNO.out]; rfl]
  go_wp2
  go_ret2
  exact ⟨rfl, hB⟩
set_option maxRecDepth 100000 in
set_option maxHeartbeats 4000000 in
theorem rhseal_ok (f : HdF) (A : Option Addr) (c : Nat) (body : List UInt8) (w : World) (hby : Bytes w A body) (hc : body.length ≤ c ∧ c ≤ 9223372036854775807) (hlong : body.length ≤ 1024) (hok : Hd.ok (setF f 2 body.length) = true) (hin : Hd.in_ f) :
    Calls Tryd.prog 30 #[.agg (msgc f (.slice A body.length c))] w fun e w' => ∃ v sp, e = .returned (.tuple #[v, .int .i64 0]) ∧
      OwnB 5 w' w.heap.size v (Hd.bytes (setF f 2 body.length) body) sp ∧ Below w.heap.size w w' := by
  have hg := Blk.new w 29 (msgc f (.slice A body.length c))
  have hB := Lib.hid ((Below.refl w.heap.size w).alloc (Nat.le_refl _) (.cells (msgc f (.slice A body.length c)) 29))
  have d16 := hg.at_ 16 (msgc_16 f _)
  have HR := Lib.hid (hd_range hg)
  have HG := Lib.hid hg
  have HOK := Lib.hid (And.intro hok (setF_in f body.length hin))
  have HC := Lib.hid hc
  clear hg hok hin hc
  go_enter Tryd.func30, Tryd.ntmps30
  go_wp2_with (first
    | (show wpList _ _ _ ((⟨some 10, _, _, _, _, _⟩ : Oper) :: _) _ _; refine wpList_load_mid (o := ⟨some 10, _, _, _, _, _⟩) HR.out (by rfl) _ _ (by rfl) (by rfl) _ Tryd.underlying26 (by rfl) sizeHd (by rw [Array.length_toList, hdc_size]) ?_; rw [Array.toArray_toList]; clear HR d16; generalize World.alloc w _ = w1 at HG hB ⊢; have hlt := HG.out.lt)
    | (show wpList _ _ _ ((⟨none, _, _, _, _, _⟩ : Oper) :: _) _ _; refine wpList_store_blk (o := ⟨none, _, _, _, _, _⟩) ((Blk.new w1 26 #[.int .i64 0, .int .i64 0, .int .i64 0, .int .i64 0, .int .i64 0, .int .i64 0, .int .i64 0, .int .i64 0, .int .i64 0, .int .u64 0, .int .u64 0, .int .i64 0, .int .i64 0, .int .u64 0, .int .i64 0, .int .i64 0]).sub zeroHd_cells.symm) (by rfl) _ _ _ (by rfl) (by rfl) (hdc f) (by rfl) (sizeHd) (hdc_size _) (hdc_size _) (hdc_one _) ?_; intro w2 h2 hu2; have hbx := ((Below.refl w1.heap.size w1).alloc (Nat.le_refl _) (.cells #[.int .i64 0, .int .i64 0, .int .i64 0, .int .i64 0, .int .i64 0, .int .i64 0, .int .i64 0, .int .i64 0, .int .i64 0, .int .u64 0, .int .u64 0, .int .i64 0, .int .i64 0, .int .u64 0, .int .i64 0, .int .i64 0] 26)).upd hu2 (Nat.le_refl _); have HG2 := Lib.hid (HG.out.below hbx hlt); have HB2 := Lib.hid (hB.out.trans (hbx.mono hB.out.size)); have d16 := HG2.out.at_ 16 (msgc_16 f _); have fz := h2.frozen 2; have dz := h2.at_ 2 (hdc_at f 2 (by omega) (by omega) (by omega) (by omega)); have HS := Lib.hid (And.intro ((h2.set_ 2 (.int .i64 (body.length : Nat))).sub (hdc_set f 2 _ (by omega) (by omega) (by omega))) (And.intro (HG2.out.off (c := w1.heap.size) (i := 2) (by omega) (.int .i64 (body.length : Nat))) (HB2.out.set_ (c := w1.heap.size) (i := 2) (by omega) (.int .i64 (body.length : Nat))))); clear hu2 hbx HG hB HG2 HB2 h2)
    | (show wpList _ _ _ ((⟨some 15, _, _, _, _, _⟩ : Oper) :: _) _ _; clear fz dz d16; generalize World.setCell w2 _ _ = w3 at HS ⊢; generalize w1.heap.size = hb at HS hlt ⊢; obtain ⟨hh, hG, hB⟩ := HS.out; clear HS; (show wpList _ _ _ ((⟨some 15, _, _, _, _, _⟩ : Oper) :: _) _ _; refine wpList_load_blk (o := ⟨some 15, _, _, _, _, _⟩) (hh) (by rfl) _ _ (by rfl) (by rfl) _ Tryd.underlying26 (by rfl) (sizeHd) (hdc_size _) ?_))
    | fail)
  have HBY := Lib.hid hby
  replace hby := Bytes.below hby hB
  refine (rhcheck_any _ w3).mono ?_
  rintro e w4 ⟨rfl, hbx⟩
  (replace hby := keep hbx hby; replace hh := keep hbx hh; replace hG := keep hbx hG; replace hB := hB.trans (hbx.mono hB.size); clear hbx)
  rw [show Hd.code (setF f 2 body.length) = 0 by unfold Hd.code; rw [HOK.out.1]; rfl]
  have hs16 := Sha.sum_length body
  obtain ⟨fx, hfx⟩ : ∃ fx, fx = setF f 2 body.length := ⟨_, rfl⟩
  rw [← hfx] at hh HOK ⊢
  have HSS := Lib.hid hs16
  have HFX := Lib.hid hfx
  clear hfx hs16
  go_wp2_with fail
  refine wp_region_tree (Below w4.heap.size w4) [] (PlanT.takes [1, 6] (PlanT.takes [0, 2, 7] (.opt 3 (.opt 4 (.opt 5 (.opt 8 (PlanT.takes [9, 10] .done) .no) .no) .no) .no))) (by kernel_rfl) (by kernel_rfl) ((Below.refl _ _).drew) ?_
  refine wpTree_pure _ _ _ (by rfl) (by rfl) ?_
  dsimp only [List.filterMap, List.getElem?_cons_zero, List.getElem?_cons_succ]
  repeat (go_big_quiet_step (fail))
  refine wpQuiet_nil ?_
  refine wpTree_takeL _ _ _ (by rfl) (by rfl) ((Below.refl _ _).drew) ?_
  dsimp only [List.filterMap, List.getElem?_cons_zero, List.getElem?_cons_succ]
  (refine wpQuiet_want' (by rfl) ?_; refine wpQuiet_load_blk (fun w' hw' => hh.below hw' hh.lt) (by rfl) _ _ (by rfl) (by rfl) _ Tryd.underlying26 (by rfl) (sizeHd) (hdc_size _) ?_; simp only [Act.put, List.setIfInBounds_toArray, List.set_cons_zero, List.set_cons_succ])
  (refine wpQuiet_want' (by rfl) ?_; refine wpQuiet_load_cell (fun w' hw' => (hG.below hw' hG.lt).at_ 16 (msgc_16 f _)) (by rfl) _ _ (by rfl) (by rfl) _ Tryd.underlying27 (by rfl) ?_; simp only [Act.put, List.setIfInBounds_toArray, List.set_cons_zero, List.set_cons_succ])
  (refine wpQuiet_want' (by rfl) ?_; refine wpQuiet_load_cell (fun w' hw' => (hG.below hw' hG.lt).at_ 16 (msgc_16 f _)) (by rfl) _ _ (by rfl) (by rfl) _ Tryd.underlying27 (by rfl) ?_; simp only [Act.put, List.setIfInBounds_toArray, List.set_cons_zero, List.set_cons_succ])
  refine wpQuiet_nil ?_
  refine wpTree_one _ rfl ?_
  go_wp2_with fail
  refine (rsum_any A c body HC.out.1 ⟨by omega, HC.out.2⟩ w4.drew hby).mono ?_
  rintro e w5 ⟨rfl, hb5⟩
  have hc5 : Below w4.heap.size w4 w5 := (Below.refl _ _).drew.trans (hb5.mono (Nat.le_refl _))
  clear hb5
  go_wp2_with fail
  refine TreeQ.in_ hc5 ?_
  refine wpTree_one _ rfl ?_
  go_wp2_with fail
  refine (rhbehind_any fx (Sha.sum body) HSS.out (Hd.ok_all HOK.out.1) HOK.out.2 w5).mono ?_
  rintro e w6 ⟨v6, sp6, rfl, ho6, hb6⟩
  have hc6 := hc5.trans (hb6.mono hc5.size)
  have hR : (Hd.rest fx (Sha.sum body)).length = 240 := Hd.rest_length fx _ HSS.out
  obtain ⟨A6, c6, rfl, hl6, hx6, hby6⟩ := OwnB.open_ ho6
  rw [hR] at hl6 ⊢
  clear hc5 hb6 ho6
  go_wp2_with fail
  refine TreeQ.in_ hc6 ?_
  refine wpTree_one _ rfl ?_
  go_wp2_with fail
  refine (rseal_any A6 240 c6 (Hd.rest fx (Sha.sum body)) hR.symm (by omega) ⟨by omega, hx6⟩ w6 hby6).mono ?_
  rintro e w7 ⟨v7, sp7, rfl, ho7, hb7⟩
  have hc7 := hc6.trans (hb7.mono hc6.size)
  have hby7 := Bytes.below hby hc7
  have hz6 := hc6.size
  have HHD : Hid (Sha.seal_ (Hd.rest fx (Sha.sum body)) = Hd.head fx (Sha.sum body)) := Lib.hid rfl
  rw [HHD.out] at ho7
  have hHl : (Hd.head fx (Sha.sum body)).length = 256 := Hd.head_length fx _ HSS.out
  have hz67 := hb7.size
  clear hc6 hb7 hby6 hR
  go_wp2_with fail
  refine TreeQ.in_ hc7 ?_
  refine wpTree_one _ rfl ?_
  obtain ⟨D, hD⟩ : ∃ D, D = Hd.head fx (Sha.sum body) := ⟨_, rfl⟩
  rw [← hD] at ho7 hHl
  have HD := Lib.hid hD
  have hz7 : w4.heap.size ≤ w7.heap.size := hc7.size
  clear hD
  go_wp2_with (first
    | (show wpList _ _ _ ((⟨some 26, _, _, _, _, _⟩ : Oper) :: _) _ _; refine wpList_append_bytes (o := ⟨some 26, _, _, _, _, _⟩) (by rfl) _ _ _ (by rfl) (w6.heap.size) _ Tryd.underlying27 u8info (_) (D) (sp7) (by rfl) (ho7) (A) (c) (body) (by first | rfl | simp) (hby7) (by first | omega | (simp; omega)) (hz67) ?_; intro v8 w8 sp8 ho8 hg8 _ _)
    | fail)
  have hc8 := hc7.grown hg8 hz7 (fun k hk => Nat.le_trans hz6 (OwnsC.lt ho7 k hk).1)
  refine TreeQ.in_ hc8 ?_
  refine wpTree_pure _ _ _ (by rfl) (by rfl) ?_
  dsimp only [List.filterMap, List.getElem?_cons_zero, List.getElem?_cons_succ]
  repeat (go_big_quiet_step (fail))
  refine wpQuiet_nil ?_
  refine wpTree_done ?_
  have HX := Lib.hid (And.intro ho8 (hB.trans (hc8.mono hB.size)))
  have hzB := hB.size
  clear ho8 hc8 hc7 hg8 ho7 hby7 hby hG hh hB
  go_wp2
  go_ret2
  refine ⟨_, sp8, rfl, ?_, HX.out.2⟩
  have h := OwnsC.base_ HX.out.1 (show w.heap.size ≤ w6.heap.size by omega)
  rw [HD.out, HFX.out] at h
  exact h
end Go.Proofs.YtekdcjaljjlemaaDoor

/- The plain seal, reckoned with natural numbers, so that the kernel can reckon it of long bytes. Plain facts. No condition. -/
namespace Go
namespace ShaN
/-- A number reckoned ahead of what uses it. -/
def force {α : Type} (n : Nat) (f : Nat → α) : α := match n with
  | 0 => f 0
  | k + 1 => f (k + 1)
theorem force_eq {α : Type} (n : Nat) (f : Nat → α) : force n f = f n := by cases n <;> rfl
def rot (x n : Nat) : Nat := Nat.lor (Nat.shiftRight x n) (Nat.mod (Nat.shiftLeft x (32 - n)) 4294967296)
def sg0 (x : Nat) : Nat := Nat.xor (Nat.xor (rot x 7) (rot x 18)) (Nat.shiftRight x 3)
def sg1 (x : Nat) : Nat := Nat.xor (Nat.xor (rot x 17) (rot x 19)) (Nat.shiftRight x 10)
def tt1 (k w e f g h : Nat) : Nat := Nat.mod (h + Nat.xor (Nat.xor (rot e 6) (rot e 11)) (rot e 25) + Nat.xor (Nat.land e f) (Nat.land (4294967295 - e) g) + k + w) 4294967296
def tt2 (a b c : Nat) : Nat := Nat.xor (Nat.xor (rot a 2) (rot a 13)) (rot a 22) + Nat.xor (Nat.xor (Nat.land a b) (Nat.land a c)) (Nat.land b c)
def nextN (w0 w1 w9 w14 : Nat) : Nat := Nat.mod (sg1 w14 + w9 + sg0 w1 + w0) 4294967296
/-- Some rounds; 16 words ahead are known. -/
def go : List Nat → List Nat → Nat → Nat → Nat → Nat → Nat → Nat → Nat → Nat → List Nat
  | [], _, a, b, c, d, e, f, g, h => [a, b, c, d, e, f, g, h]
  | k :: ks, ws, a, b, c, d, e, f, g, h =>
    force (ws.getD 0 0) fun w0 =>
    force (tt1 k w0 e f g h) fun t1 =>
    force (Nat.mod (t1 + tt2 a b c) 4294967296) fun a' =>
    force (Nat.mod (d + t1) 4294967296) fun e' =>
    force (nextN w0 (ws.getD 1 0) (ws.getD 9 0) (ws.getD 14 0)) fun wn =>
    go ks (ws.drop 1 ++ [wn]) a' a b c e' e f g
def toL (s : Sha.St) : List Nat := [s.a.toNat, s.b.toNat, s.c.toNat, s.d.toNat, s.e.toNat, s.f.toNat, s.g.toNat, s.h.toNat]
theorem rot_eq (x : UInt32) (n : Nat) (h0 : 0 < n) (h : n < 32) : rot x.toNat n = (Sha.rotr x n).toNat := by
  unfold rot Sha.rotr
  rw [UInt32.toNat_or, u32_shr_nat x n h, u32_shl_nat x (32 - n) (by omega)]
  show Nat.lor (x.toNat >>> n) ((x.toNat <<< (32 - n)) % 4294967296) = _
  rw [Nat.shiftRight_eq_div_pow, Nat.shiftLeft_eq]; rfl
theorem sg0_eq (x : UInt32) : sg0 x.toNat = (Sha.s0 x).toNat := by
  unfold sg0 Sha.s0
  rw [UInt32.toNat_xor, UInt32.toNat_xor, rot_eq x 7 (by omega) (by omega), rot_eq x 18 (by omega) (by omega)]
  have := u32_shr_nat x 3 (by omega)
  rw [show (x >>> (3 : UInt32)) = x >>> UInt32.ofNat 3 from rfl, this]
  show Nat.xor _ (x.toNat >>> 3) = _
  rw [Nat.shiftRight_eq_div_pow]; rfl
theorem sg1_eq (x : UInt32) : sg1 x.toNat = (Sha.s1 x).toNat := by
  unfold sg1 Sha.s1
  rw [UInt32.toNat_xor, UInt32.toNat_xor, rot_eq x 17 (by omega) (by omega), rot_eq x 19 (by omega) (by omega)]
  have := u32_shr_nat x 10 (by omega)
  rw [show (x >>> (10 : UInt32)) = x >>> UInt32.ofNat 10 from rfl, this]
  show Nat.xor _ (x.toNat >>> 10) = _
  rw [Nat.shiftRight_eq_div_pow]; rfl
theorem not_eq (x : UInt32) : 4294967295 - x.toNat = (~~~x).toNat := by
  rw [UInt32.toNat_not]; simp [UInt32.size]
theorem tt1_eq (k w : UInt32) (s : Sha.St) : tt1 k.toNat w.toNat s.e.toNat s.f.toNat s.g.toNat s.h.toNat = (Sha.t1 k w s).toNat := by
  unfold tt1 Sha.t1
  rw [not_eq, rot_eq s.e 6 (by omega) (by omega), rot_eq s.e 11 (by omega) (by omega), rot_eq s.e 25 (by omega) (by omega)]
  simp only [UInt32.toNat_add, UInt32.toNat_xor, UInt32.toNat_and]
  show (_ + (_ ^^^ _ ^^^ _) + ((_ &&& _) ^^^ (_ &&& _)) + _ + _) % 4294967296 = _
  omega
theorem tt2_eq (s : Sha.St) : tt2 s.a.toNat s.b.toNat s.c.toNat % 4294967296 = (Sha.t2 s).toNat := by
  unfold tt2 Sha.t2
  rw [rot_eq s.a 2 (by omega) (by omega), rot_eq s.a 13 (by omega) (by omega), rot_eq s.a 22 (by omega) (by omega)]
  simp only [UInt32.toNat_add, UInt32.toNat_xor, UInt32.toNat_and]
  rfl
theorem next_eq (w0 w1 w9 w14 : UInt32) : nextN w0.toNat w1.toNat w9.toNat w14.toNat = (Sha.s1 w14 + w9 + Sha.s0 w1 + w0).toNat := by
  unfold nextN
  rw [sg1_eq, sg0_eq]
  simp only [UInt32.toNat_add]
  show (_ + _ + _ + _) % 4294967296 = _
  omega
/-- Rounds from t on. -/
theorem go_eq (m : Nat → UInt32) (s : Sha.St) : ∀ (n t : Nat), t + n = 64 →
    go ((Sha.kl.drop t).map (·.toNat)) ((List.range 16).map fun i => (Sha.wd m (t + i)).toNat) (Sha.rounds m s t).a.toNat (Sha.rounds m s t).b.toNat (Sha.rounds m s t).c.toNat (Sha.rounds m s t).d.toNat (Sha.rounds m s t).e.toNat (Sha.rounds m s t).f.toNat (Sha.rounds m s t).g.toNat (Sha.rounds m s t).h.toNat
      = toL (Sha.rounds m s 64)
  | 0, t, h => by
    obtain rfl : t = 64 := by omega
    have : Sha.kl.drop 64 = [] := rfl
    rw [this]; rfl
  | n + 1, t, h => by
    have hk : Sha.kl.drop t = Sha.kt t :: Sha.kl.drop (t + 1) := by
      have hl : t < Sha.kl.length := by show t < 64; omega
      rw [List.drop_eq_getElem_cons hl]
      congr 1
      unfold Sha.kt
      simp [List.getD, hl]
    rw [hk, List.map_cons]
    unfold go
    simp only [force_eq]
    have e0 : ((List.range 16).map fun i => (Sha.wd m (t + i)).toNat).getD 0 0 = (Sha.wd m t).toNat := rfl
    have e1 : ((List.range 16).map fun i => (Sha.wd m (t + i)).toNat).getD 1 0 = (Sha.wd m (t + 1)).toNat := rfl
    have e9 : ((List.range 16).map fun i => (Sha.wd m (t + i)).toNat).getD 9 0 = (Sha.wd m (t + 9)).toNat := rfl
    have e14 : ((List.range 16).map fun i => (Sha.wd m (t + i)).toNat).getD 14 0 = (Sha.wd m (t + 14)).toNat := rfl
    rw [e0, e1, e9, e14, tt1_eq, next_eq]
    have hw : (Sha.s1 (Sha.wd m (t + 14)) + Sha.wd m (t + 9) + Sha.s0 (Sha.wd m (t + 1)) + Sha.wd m t) = Sha.wd m (t + 16) := by
      rw [Sha.wd_hi m (show 16 ≤ t + 16 by omega)]
      rw [show t + 16 - 2 = t + 14 by omega, show t + 16 - 7 = t + 9 by omega, show t + 16 - 15 = t + 1 by omega, show t + 16 - 16 = t by omega]
    rw [hw]
    have hwin : ((List.range 16).map fun i => (Sha.wd m (t + i)).toNat).drop 1 ++ [(Sha.wd m (t + 16)).toNat] = (List.range 16).map fun i => (Sha.wd m (t + 1 + i)).toNat := by
      have : ∀ i, Sha.wd m (t + 1 + i) = Sha.wd m (t + (1 + i)) := fun i => by rw [Nat.add_assoc]
      simp only [this]
      rfl
    rw [hwin]
    have hr : Sha.rounds m s (t + 1) = Sha.round (Sha.kt t) (Sha.wd m t) (Sha.rounds m s t) := rfl
    have ha : ((Sha.t1 (Sha.kt t) (Sha.wd m t) (Sha.rounds m s t)).toNat + tt2 (Sha.rounds m s t).a.toNat (Sha.rounds m s t).b.toNat (Sha.rounds m s t).c.toNat).mod 4294967296 = (Sha.rounds m s (t + 1)).a.toNat := by
      rw [hr]
      show (_ + _) % 4294967296 = (Sha.t1 _ _ _ + Sha.t2 _).toNat
      rw [UInt32.toNat_add, ← tt2_eq]
      omega
    have he : ((Sha.rounds m s t).d.toNat + (Sha.t1 (Sha.kt t) (Sha.wd m t) (Sha.rounds m s t)).toNat).mod 4294967296 = (Sha.rounds m s (t + 1)).e.toNat := by
      rw [hr]
      show (_ + _) % 4294967296 = ((Sha.rounds m s t).d + Sha.t1 _ _ _).toNat
      rw [UInt32.toNat_add]
    rw [ha, he]
    have := go_eq m s n (t + 1) (by omega)
    rw [← this]
    rfl
def beN (a b c d : Nat) : Nat := Nat.lor (Nat.lor (Nat.lor (Nat.mod (Nat.shiftLeft a 24) 4294967296) (Nat.mod (Nat.shiftLeft b 16) 4294967296)) (Nat.mod (Nat.shiftLeft c 8) 4294967296)) d
theorem beN_eq (a b c d : UInt8) : beN a.toNat b.toNat c.toNat d.toNat = (Sha.be a b c d).toNat := by
  unfold beN Sha.be
  have e : ∀ (x : UInt8) (n : Nat), n < 32 → (Nat.shiftLeft x.toNat n).mod 4294967296 = (x.toUInt32 <<< UInt32.ofNat n).toNat := fun x n h => by
    rw [u32_shl_nat _ n h, UInt8.toNat_toUInt32]
    show (x.toNat <<< n) % _ = _
    rw [Nat.shiftLeft_eq]
  rw [UInt32.toNat_or, UInt32.toNat_or, UInt32.toNat_or, UInt8.toNat_toUInt32, e a 24 (by omega), e b 16 (by omega), e c 8 (by omega)]
  rfl
def w4 : List Nat → List Nat
  | a :: b :: c :: d :: r => force (beN a b c d) fun w => w :: w4 r
  | _ => []
theorem w4_eq (l : List UInt8) : ∀ (n at_ : Nat), at_ + 4 * n ≤ l.length → w4 (((l.drop at_).take (4 * n)).map (·.toNat)) = (List.range n).map fun t => (Sha.word l at_ t).toNat
  | 0, at_, _ => by simp [w4]
  | n + 1, at_, h => by
    have e4 : (l.drop at_).take (4 * (n + 1)) = l.getD at_ 0 :: l.getD (at_ + 1) 0 :: l.getD (at_ + 2) 0 :: l.getD (at_ + 3) 0 :: (l.drop (at_ + 4)).take (4 * n) := by
      have hg : ∀ i, i < l.length → l.drop i = l.getD i 0 :: l.drop (i + 1) := fun i hi => by
        rw [List.drop_eq_getElem_cons hi]; congr 1; simp [List.getD, hi]
      rw [hg at_ (by omega), hg (at_ + 1) (by omega), hg (at_ + 1 + 1) (by omega), hg (at_ + 1 + 1 + 1) (by omega)]
      rw [show 4 * (n + 1) = 4 * n + 1 + 1 + 1 + 1 by omega]
      simp only [List.take_succ_cons]
    rw [e4]
    simp only [List.map_cons, w4, force_eq]
    rw [w4_eq l n (at_ + 4) (by omega), beN_eq, List.range_succ_eq_map, List.map_cons, List.map_map]
    have hw0 : Sha.word l at_ 0 = Sha.be (l.getD at_ 0) (l.getD (at_ + 1) 0) (l.getD (at_ + 2) 0) (l.getD (at_ + 3) 0) := rfl
    rw [hw0]
    refine congrArg (List.cons _) ?_
    apply List.map_congr_left
    intro t _
    simp only [Function.comp, Sha.word]
    rw [show at_ + 4 + 4 * t = at_ + 4 * (t + 1) by omega]
def kN : List Nat := [
  0x428a2f98, 0x71374491, 0xb5c0fbcf, 0xe9b5dba5, 0x3956c25b, 0x59f111f1, 0x923f82a4, 0xab1c5ed5,
  0xd807aa98, 0x12835b01, 0x243185be, 0x550c7dc3, 0x72be5d74, 0x80deb1fe, 0x9bdc06a7, 0xc19bf174,
  0xe49b69c1, 0xefbe4786, 0x0fc19dc6, 0x240ca1cc, 0x2de92c6f, 0x4a7484aa, 0x5cb0a9dc, 0x76f988da,
  0x983e5152, 0xa831c66d, 0xb00327c8, 0xbf597fc7, 0xc6e00bf3, 0xd5a79147, 0x06ca6351, 0x14292967,
  0x27b70a85, 0x2e1b2138, 0x4d2c6dfc, 0x53380d13, 0x650a7354, 0x766a0abb, 0x81c2c92e, 0x92722c85,
  0xa2bfe8a1, 0xa81a664b, 0xc24b8b70, 0xc76c51a3, 0xd192e819, 0xd6990624, 0xf40e3585, 0x106aa070,
  0x19a4c116, 0x1e376c08, 0x2748774c, 0x34b0bcb5, 0x391c0cb3, 0x4ed8aa4a, 0x5b9cca4f, 0x682e6ff3,
  0x748f82ee, 0x78a5636f, 0x84c87814, 0x8cc70208, 0x90befffa, 0xa4506ceb, 0xbef9a3f7, 0xc67178f2]
theorem kN_eq : Sha.kl.map (·.toNat) = kN := by decide +kernel
/-- Numbers reckoned ahead of what uses them. -/
def forceL {α : Type} : List Nat → (List Nat → α) → α
  | [], f => f []
  | n :: l, f => force n fun m => forceL l fun r => f (m :: r)
theorem forceL_eq {α : Type} : ∀ (l : List Nat) (f : List Nat → α), forceL l f = f l
  | [], _ => rfl
  | n :: l, f => by simp only [forceL, force_eq, forceL_eq l]
def addL : List Nat → List Nat → List Nat
  | a :: l, b :: m => Nat.mod (a + b) 4294967296 :: addL l m
  | _, _ => []
def blkN (s : List Nat) (bytes : List Nat) : List Nat := match s with
  | [a, b, c, d, e, f, g, h] => addL s (go kN (w4 bytes) a b c d e f g h)
  | _ => []
theorem blkN_eq (s : Sha.St) (l : List UInt8) (at_ : Nat) (h : at_ + 64 ≤ l.length) : blkN (toL s) (((l.drop at_).take 64).map (·.toNat)) = toL (Sha.blk s l at_) := by
  have hw := w4_eq l 16 at_ h
  unfold blkN toL
  simp only []
  rw [show (64 : Nat) = 4 * 16 from rfl, hw]
  have hwd : ((List.range 16).map fun t => (Sha.word l at_ t).toNat) = (List.range 16).map fun i => (Sha.wd (Sha.word l at_) (0 + i)).toNat := by
    apply List.map_congr_left
    intro t ht
    rw [Nat.zero_add, Sha.wd_lo _ (List.mem_range.1 ht)]
  have := go_eq (Sha.word l at_) s 64 0 rfl
  rw [← hwd, List.drop_zero, kN_eq] at this
  have e0 : Sha.rounds (Sha.word l at_) s 0 = s := rfl
  rw [e0] at this
  rw [this]
  unfold Sha.blk Sha.add toL
  simp only [addL, UInt32.toNat_add]
  rfl
def blksN : Nat → List Nat → List Nat → List Nat
  | 0, _, s => s
  | n + 1, l, s => forceL (blkN s (l.take 64)) fun s' => blksN n (l.drop 64) s'
theorem blksN_eq (l : List UInt8) (s : Sha.St) : ∀ (n k : Nat), 64 * (k + n) ≤ l.length → blksN n ((l.drop (64 * k)).map (·.toNat)) (toL (Sha.blks l s k)) = toL (Sha.blks l s (k + n))
  | 0, k, _ => rfl
  | n + 1, k, h => by
    simp only [blksN, forceL_eq]
    rw [← List.map_take, blkN_eq _ _ _ (by omega), ← List.map_drop, List.drop_drop]
    have : toL (Sha.blk (Sha.blks l s k) l (64 * k)) = toL (Sha.blks l s (k + 1)) := rfl
    rw [this, show 64 * k + 64 = 64 * (k + 1) by omega, blksN_eq l s n (k + 1) (by omega)]
    congr 2; omega
def outN (s : List Nat) : List Nat := (List.range 16).map fun k => Nat.mod (Nat.div (s.getD (k / 4) 0) (2 ^ (24 - 8 * (k % 4)))) 256
def initN : List Nat := [0x6a09e667, 0xbb67ae85, 0x3c6ef372, 0xa54ff53a, 0x510e527f, 0x9b05688c, 0x1f83d9ab, 0x5be0cd19]
/-- The seal of bytes. -/
def sumN (l : List Nat) (tl : List Nat) (n : Nat) : List Nat := outN (blksN n (l ++ tl) initN)
theorem sumN_eq (l : List UInt8) (n : Nat) (hn : n = (l.length + Sha.zeros l.length + 9) / 64) : (Sha.sum l).map (·.toNat) = sumN (l.map (·.toNat)) ((Sha.tail l.length).map (·.toNat)) n := by
  unfold sumN Sha.sum
  have hlen : (Sha.pad l).length / 64 = n := by rw [Sha.pad_length, hn]
  rw [hlen]
  have h1 := blksN_eq (Sha.pad l) Sha.init n 0 (by rw [Sha.pad_length]; have := Sha.pad_mod l; rw [Sha.pad_length] at this; omega)
  rw [Nat.mul_zero, List.drop_zero, Nat.zero_add] at h1
  have h0 : toL (Sha.blks (Sha.pad l) Sha.init 0) = initN := by
    show toL Sha.init = initN
    decide +kernel
  rw [h0] at h1
  have hp : (Sha.pad l).map (·.toNat) = l.map (·.toNat) ++ (Sha.tail l.length).map (·.toNat) := by unfold Sha.pad; rw [List.map_append]
  rw [← hp, h1]
  unfold Sha.out outN
  rw [List.map_map]
  apply List.map_congr_left
  intro k hk
  have hk16 := List.mem_range.1 hk
  simp only [Function.comp, Sha.outAt, Sha.byte]
  have hg : (toL (Sha.blks (Sha.pad l) Sha.init n)).getD (k / 4) 0 = (Sha.get (Sha.blks (Sha.pad l) Sha.init n) (k / 4)).toNat := by
    have : k / 4 = 0 ∨ k / 4 = 1 ∨ k / 4 = 2 ∨ k / 4 = 3 := by omega
    rcases this with h | h | h | h <;> rw [h] <;> rfl
  rw [hg]
  exact UInt8.toNat_ofNat_of_lt' (by have := Nat.mod_lt ((Sha.get (Sha.blks (Sha.pad l) Sha.init n) (k / 4)).toNat / 2 ^ (24 - 8 * (k % 4))) (show 0 < 256 by omega); simpa [UInt8.size] using this)
theorem toNat_inj : ∀ {l m : List UInt8}, l.map (·.toNat) = m.map (·.toNat) → l = m
  | [], [], _ => rfl
  | [], _ :: _, h => by cases h
  | _ :: _, [], h => by cases h
  | a :: l, b :: m, h => by
    simp only [List.map_cons, List.cons.injEq] at h
    rw [UInt8.toNat_inj.1 h.1, toNat_inj h.2]
end ShaN
end Go

/- The chapter's message: its bytes, told by reckoning; what is written is read. No condition. -/
namespace Go.Proofs.YtekdcjaljjlemaaDoor
theorem Msg.read_bytes (f : HdF) (body : List UInt8) (hok : Hd.ok f = true) (hin : Hd.in_ f) (h2 : f 2 = (body.length : Int)) :
    Hd.same (Hd.parse ((Hd.bytes f body).take 256)) f ∧ Msg.read (Hd.bytes f body) = (0, Hd.parse ((Hd.bytes f body).take 256), body) := by
  have hs : (Sha.sum body).length = 16 := Sha.sum_len body
  have hl := Hd.head_length f _ hs
  have e1 : (Hd.bytes f body).take 256 = Hd.head f (Sha.sum body) := by unfold Hd.bytes; rw [← hl, List.take_left]
  have e2 : (Hd.bytes f body).drop 256 = body := by unfold Hd.bytes; rw [← hl, List.drop_left]
  obtain ⟨h0, hsame⟩ := Hd.read_head f _ hs hok hin
  have hp : (Hd.read (Hd.head f (Sha.sum body))).2 = Hd.parse (Hd.head f (Sha.sum body)) := by
    rcases Hd.read_cases (Hd.head f (Sha.sum body)) with (h | h) | ⟨h, -⟩
    · rw [h] at h0; simp at h0
    · rw [h] at h0; simp at h0
    · rw [h]
  rw [hp] at hsame
  have e3 : ((Hd.bytes f body).drop 16).take 16 = Sha.sum body := by
    unfold Hd.bytes Hd.head Hd.rest
    simp only [List.append_assoc]
    rw [← Sha.sum_len (Hd.rest f (Sha.sum body)), show Sha.sum (Hd.rest f (Sha.sum body)) = Sha.sum (Sha.sum body ++ (Hd.mid f ++ List.replicate 148 0)) from rfl, List.drop_left, Sha.sum_len, ← hs, List.take_left]
  have hlen : (Hd.bytes f body).length = 256 + body.length := by unfold Hd.bytes; rw [List.length_append, hl]
  rw [e1]
  refine ⟨hsame, ?_⟩
  unfold Msg.read
  rw [if_neg (by omega), e1, if_neg (by rw [h0]; simp), if_neg (by rw [hsame 2 (by omega), h2, hlen, Nat.add_sub_cancel_left]; simp), e2, e3, if_neg (by simp)]
/-- What is opened is a message that is sealed as the same bytes. -/
theorem Msg.read_ok (r : List UInt8) (h : (Msg.read r).1 = 0) : 256 ≤ r.length ∧ Msg.read r = (0, Hd.parse (r.take 256), r.drop 256) ∧ Hd.ok (Hd.parse (r.take 256)) = true ∧ Hd.parse (r.take 256) 2 = ((r.drop 256).length : Int) ∧
    Hd.bytes (Hd.parse (r.take 256)) (r.drop 256) = r ∧ Sha.sum (r.drop 256) = (r.drop 16).take 16 ∧ Sha.sum ((r.take 256).drop 16) = r.take 16 := by
  unfold Msg.read at h ⊢
  by_cases h1 : r.length < 256
  · rw [if_pos h1] at h; simp at h
  rw [if_neg h1] at h ⊢
  by_cases h2 : (Hd.read (r.take 256)).1 ≠ 0
  · rw [if_pos h2] at h; exact absurd h h2
  rw [if_neg h2] at h ⊢
  by_cases h3 : ((r.length - 256 : Nat) : Int) ≠ Hd.parse (r.take 256) 2
  · rw [if_pos h3] at h; simp at h
  rw [if_neg h3] at h ⊢
  by_cases h4 : Sha.sum (r.drop 256) ≠ (r.drop 16).take 16
  · rw [if_pos h4] at h; simp at h
  rw [if_neg h4]
  have h4' : Sha.sum (r.drop 256) = (r.drop 16).take 16 := by simpa using h4
  have h3' : ((r.length - 256 : Nat) : Int) = Hd.parse (r.take 256) 2 := by simpa using h3
  rcases Hd.read_cases (r.take 256) with (hx | hx) | ⟨hx, hl, hok, hh⟩
  · rw [hx] at h2; simp at h2
  · rw [hx] at h2; simp at h2
  have e : ((r.take 256).drop 16).take 16 = (r.drop 16).take 16 := by rw [List.drop_take, List.take_take]; simp
  rw [e, ← h4'] at hh
  refine ⟨by omega, rfl, hok, by rw [← h3', List.length_drop], ?_, h4', ?_⟩
  · unfold Hd.bytes; rw [hh, List.take_append_drop]
  · have hx2 : Sha.sum ((r.take 256).drop 16) = (r.take 256).take 16 := by
      by_cases hc : Sha.sum ((r.take 256).drop 16) = (r.take 256).take 16
      · exact hc
      · exfalso
        unfold Hd.read at hx
        rw [if_neg (by rw [hl]; simp), if_pos hc] at hx
        simp at hx
    rw [hx2, List.take_take]; simp
theorem Hd.bytes_length (f : HdF) (body : List UInt8) : (Hd.bytes f body).length = 256 + body.length := by
  unfold Hd.bytes; rw [List.length_append, Hd.head_length f _ (Sha.sum_len body)]
/-! ### The chapter's message -/
def f12 : HdF := fun i => if i = 0 then 1 else if i = 2 then 2 else 0
theorem f12_ok : Hd.ok f12 = true := by decide +kernel
theorem f12_in : Hd.in_ f12 := by unfold Hd.in_ f12; simp
def abBody : List UInt8 := [251, 142, 32, 252, 46, 76, 63, 36, 140, 96, 195, 155, 214, 82, 243, 193]
def abBad : List UInt8 := [244, 93, 229, 28, 222, 243, 9, 145, 85, 30, 65, 232, 130, 221, 123, 84]
def abSum : List UInt8 := [239, 72, 228, 67, 220, 117, 142, 217, 251, 195, 137, 43, 36, 39, 208, 157]
def abSumBad : List UInt8 := [159, 131, 193, 119, 245, 195, 59, 57, 198, 254, 1, 123, 239, 203, 54, 175]
def abRest : List UInt8 := Hd.rest f12 abBody
theorem abBody_eq : Sha.sum [97, 98] = abBody := by
  refine ShaN.toNat_inj ?_
  rw [ShaN.sumN_eq [97, 98] 1 (by decide +kernel)]
  decide +kernel
theorem abBad_eq : Sha.sum [97, 99] = abBad := by
  refine ShaN.toNat_inj ?_
  rw [ShaN.sumN_eq [97, 99] 1 (by decide +kernel)]
  decide +kernel
theorem abRest_length : abRest.length = 240 := by decide +kernel
theorem abSum_eq : Sha.sum abRest = abSum := by
  refine ShaN.toNat_inj ?_
  rw [ShaN.sumN_eq abRest 4 (by decide +kernel), abRest_length]
  decide +kernel
theorem abSumBad_eq : Sha.sum (abRest.set 34 1) = abSumBad := by
  refine ShaN.toNat_inj ?_
  have hl : (abRest.set 34 1).length = 240 := by rw [List.length_set, abRest_length]
  rw [ShaN.sumN_eq (abRest.set 34 1) 4 (by rw [hl]; decide +kernel), hl]
  decide +kernel
def abBytes : List UInt8 := Hd.bytes f12 [97, 98]
theorem abBytes_eq : abBytes = (abSum ++ abRest) ++ [97, 98] := by
  unfold abBytes Hd.bytes Hd.head
  rw [abBody_eq, show Hd.rest f12 abBody = abRest from rfl, abSum_eq]
theorem abBytes_length : abBytes.length = 258 := Hd.bytes_length _ _
theorem ab_at : abBytes[32]? = some 1 ∧ abBytes[40]? = some 2 ∧ abBytes[50]? = some 0 ∧ abBytes[257]? = some 98 := by rw [abBytes_eq]; decide +kernel
theorem ab_read : Hd.same (Hd.parse (abBytes.take 256)) f12 ∧ Msg.read abBytes = (0, Hd.parse (abBytes.take 256), [97, 98]) := Msg.read_bytes f12 [97, 98] f12_ok f12_in rfl
theorem ab_head : Hd.read (abBytes.take 256) = (0, Hd.parse (abBytes.take 256)) := by
  have h := ab_read.2
  unfold Msg.read at h
  rw [if_neg (by rw [abBytes_length]; omega)] at h
  rcases Hd.read_cases (abBytes.take 256) with (hx | hx) | ⟨hx, -⟩
  · rw [if_pos (by rw [hx]; simp), hx] at h; simp at h
  · rw [if_pos (by rw [hx]; simp), hx] at h; simp at h
  · exact hx
theorem ab_255 : Hd.read (abBytes.take 255) = (4, Hd.none_) := by
  unfold Hd.read; rw [if_pos (by rw [List.length_take, abBytes_length]; decide)]
theorem ab_257 : Msg.read (abBytes.take 257) = (4, Hd.none_, []) := by
  have hl : (abBytes.take 257).length = 257 := by rw [List.length_take, abBytes_length]; rfl
  have ht : (abBytes.take 257).take 256 = abBytes.take 256 := by rw [List.take_take]; simp
  unfold Msg.read
  rw [if_neg (by omega), ht, if_neg (by rw [ab_head]; simp), if_pos (by rw [hl, ab_read.1 2 (by omega)]; decide)]
theorem ab_turned257 : Msg.read (abBytes.set 257 99) = (12, Hd.none_, []) := by
  have hl : (abBytes.set 257 99).length = 258 := by rw [List.length_set, abBytes_length]
  have ht : (abBytes.set 257 99).take 256 = abBytes.take 256 := by rw [List.take_set_of_le (by omega)]
  have hd : (abBytes.set 257 99).drop 256 = [97, 99] := by rw [abBytes_eq]; decide +kernel
  have h16 : ((abBytes.set 257 99).drop 16).take 16 = abBody := by rw [abBytes_eq]; decide +kernel
  unfold Msg.read
  rw [if_neg (by omega), ht, if_neg (by rw [ab_head]; simp), if_neg (by rw [hl, ab_read.1 2 (by omega)]; decide), hd, h16, abBad_eq, if_pos (by decide)]
theorem ab_turned50 : Msg.read (abBytes.set 50 1) = (12, Hd.none_, []) := by
  have hl : (abBytes.set 50 1).length = 258 := by rw [List.length_set, abBytes_length]
  have ht : (abBytes.set 50 1).take 256 = abSum ++ abRest.set 34 1 := by rw [abBytes_eq]; decide +kernel
  have hh : Hd.read (abSum ++ abRest.set 34 1) = (12, Hd.none_) := by
    have h1 : (abSum ++ abRest.set 34 1).drop 16 = abRest.set 34 1 := rfl
    have h2 : (abSum ++ abRest.set 34 1).take 16 = abSum := rfl
    unfold Hd.read
    rw [if_neg (by rw [List.length_append, List.length_set, abRest_length]; decide), h1, h2, abSumBad_eq, if_pos (by decide)]
  unfold Msg.read
  rw [if_neg (by omega), ht, hh, if_pos (by decide)]
end Go.Proofs.YtekdcjaljjlemaaDoor

/- A message as an argument: what its cells are; what the two functions that seal messages answer, whatever the message. Condition: the body can be read. -/
namespace Go.Proofs.YtekdcjaljjlemaaDoor
open Go.RowKit
def i64Sh : Sh := .int .i64
def u64Sh : Sh := .int .u64
def uSh : Sh := .cons u64Sh (.cons u64Sh .nil)
def hdSh : Sh := .cons i64Sh (.cons i64Sh (.cons i64Sh (.cons i64Sh (.cons i64Sh (.cons i64Sh (.cons i64Sh (.cons i64Sh (.cons i64Sh (.cons uSh (.cons i64Sh (.cons i64Sh (.cons u64Sh (.cons i64Sh (.cons i64Sh .nil))))))))))))))
def msgSh : Sh := .cons hdSh (.cons (.slice .byte) .nil)
def listF (l : List Int) : HdF := fun i => l.getD i 0
theorem hdin (f : HdF) (a b c : Int) (e9 : f 9 = a) (e10 : f 10 = b) (e13 : f 13 = c) (h9 : IntKind.min .u64 ≤ a ∧ a ≤ IntKind.max .u64) (h10 : IntKind.min .u64 ≤ b ∧ b ≤ IntKind.max .u64) (h13 : IntKind.min .u64 ≤ c ∧ c ≤ IntKind.max .u64) : Hd.in_ f := by
  have e1 : IntKind.min .u64 = 0 := by decide
  have e2 : IntKind.max .u64 = 18446744073709551615 := by decide
  rw [e1, e2] at h9 h10 h13
  unfold Hd.in_
  rw [e9, e10, e13]
  omega
theorem hdSh_is {w : World} {x : hdSh.T} {cs : List Value} (h : Sh.Is w hdSh x cs) : ∃ f : HdF, cs = (hdc f).toList ∧ Hd.in_ f := by
  obtain ⟨c0, _, rfl, _, ⟨rfl, _⟩, c1, _, rfl, _, ⟨rfl, _⟩, c2, _, rfl, _, ⟨rfl, _⟩, c3, _, rfl, _, ⟨rfl, _⟩, c4, _, rfl, _, ⟨rfl, _⟩, c5, _, rfl, _, ⟨rfl, _⟩, c6, _, rfl, _, ⟨rfl, _⟩, c7, _, rfl, _, ⟨rfl, _⟩, c8, _, rfl, _, ⟨rfl, _⟩,
    c9, _, rfl, _, ⟨c90, _, rfl, _, ⟨rfl, h9, h9'⟩, c91, c92, rfl, _, ⟨rfl, h10, h10'⟩, e9⟩, c11, _, rfl, _, ⟨rfl, _⟩, c12, _, rfl, _, ⟨rfl, _⟩, c13, _, rfl, _, ⟨rfl, h13, h13'⟩, c14, _, rfl, _, ⟨rfl, _⟩, c15, c16, rfl, _, ⟨rfl, _⟩, e16⟩ := h
  have e9 : c92 = [] := e9
  have e16 : c16 = [] := e16
  subst e9 e16
  obtain ⟨x0, x1, x2, x3, x4, x5, x6, x7, x8, ⟨x9, x10, _⟩, x11, x12, x13, x14, x15, _⟩ := x
  refine ⟨listF [x0, x1, x2, x3, x4, x5, x6, x7, x8, x9, x10, x11, x12, x13, x14, x15], rfl, ?_⟩
  exact hdin _ x9 x10 x13 rfl rfl rfl ⟨h9, h9'⟩ ⟨h10, h10'⟩ ⟨h13, h13'⟩
theorem msgc_list (f : HdF) (v : Value) : (msgc f v).toList = (hdc f).toList ++ [v] := by rfl
theorem msgSh_is {w : World} {x : msgSh.T} {cs : List Value} (h : Sh.Is w msgSh x cs) : ∃ f A c, cs.toArray = msgc f (.slice A x.2.1.length c) ∧ Hd.in_ f ∧ x.2.1.length ≤ c ∧ c ≤ 9223372036854775807 ∧ Bytes w A x.2.1 := by
  obtain ⟨c1, _, rfl, _, h1, c2, c3, rfl, _, h2, h3⟩ := h
  obtain ⟨f, rfl, hin⟩ := hdSh_is h1
  obtain ⟨A, c, rfl, h4, h5, h6⟩ := Sh.Is.bytes h2
  have h3 : c3 = [] := h3
  subst h3
  refine ⟨f, A, c, ?_, hin, h4, by simpa [maxLen] using h5, h6⟩
  rw [List.append_nil, ← msgc_list, Array.toArray_toList]
  rfl
/-- What a message is sealed as: the error's number, the bytes. -/
def Msg.seal_ (f : HdF) (body : List UInt8) : Int × List UInt8 :=
  if 1024 < body.length then (3, []) else if Hd.ok (setF f 2 body.length) = true then (0, Hd.bytes (setF f 2 body.length) body) else (2, [])
theorem hseal_any (f : HdF) (A : Option Addr) (n c : Nat) (body : List UInt8) (w : World) (hn : n = body.length) (hby : Bytes w A body) (hc : n ≤ c ∧ c ≤ 9223372036854775807) (hin : Hd.in_ f) :
    Calls Tryd.prog 28 #[.agg (msgc f (.slice A n c))] w fun e w' => ∃ E : Ent, e = .returned (.tuple #[E.val, .int .i64 (Msg.seal_ f body).1]) ∧ E.Is w' ∧ (∀ g, E.blk = some g → w.heap.size ≤ g) ∧ E.n = E.l.length ∧
      E.l = (Msg.seal_ f body).2 ∧ Below w.heap.size w w' := by
  subst hn
  by_cases h1 : 1024 < body.length
  · rw [show Msg.seal_ f body = (3, []) by unfold Msg.seal_; rw [if_pos h1]]
    refine (hseal_long f A c body w h1).mono ?_
    rintro e w' ⟨rfl, hB⟩
    exact ⟨⟨none, 0, []⟩, rfl, ⟨Nat.le_refl _, by simp, .inl ⟨rfl, rfl⟩⟩, fun g h => (by cases h), rfl, rfl, hB⟩
  · cases h2 : Hd.ok (setF f 2 body.length)
    · rw [show Msg.seal_ f body = (2, []) by unfold Msg.seal_; rw [if_neg h1, if_neg (by rw [h2]; simp)]]
      refine (hseal_no f A c body w (by omega) h2).mono ?_
      rintro e w' ⟨rfl, hB⟩
      exact ⟨⟨none, 0, []⟩, rfl, ⟨Nat.le_refl _, by simp, .inl ⟨rfl, rfl⟩⟩, fun g h => (by cases h), rfl, rfl, hB⟩
    · rw [show Msg.seal_ f body = (0, Hd.bytes (setF f 2 body.length) body) by unfold Msg.seal_; rw [if_neg h1, if_pos h2]]
      refine (hseal_ok f A c body w hby hc (by omega) h2 hin).mono ?_
      rintro e w' ⟨g, rfl, hg, hb, hB⟩
      have hl := Hd.bytes_length (setF f 2 body.length) body
      refine ⟨⟨some ⟨g, 0, none⟩, 256 + body.length, Hd.bytes (setF f 2 body.length) body⟩, ?_, ⟨by simp only; omega, by simp only; omega, .inr ⟨g, _, rfl, hb⟩⟩, fun g' h => ?_, hl.symm, rfl, hB⟩
      · unfold Ent.val; simp only; rw [hl]
      · unfold Ent.blk at h; simp at h; omega
theorem rhseal_any (f : HdF) (A : Option Addr) (n c : Nat) (body : List UInt8) (w : World) (hn : n = body.length) (hby : Bytes w A body) (hc : n ≤ c ∧ c ≤ 9223372036854775807) (hin : Hd.in_ f) :
    Calls Tryd.prog 30 #[.agg (msgc f (.slice A n c))] w fun e w' => ∃ v sp, e = .returned (.tuple #[v, .int .i64 (Msg.seal_ f body).1]) ∧ OwnB 5 w' w.heap.size v (Msg.seal_ f body).2 sp ∧ Below w.heap.size w w' := by
  subst hn
  by_cases h1 : 1024 < body.length
  · rw [show Msg.seal_ f body = (3, []) by unfold Msg.seal_; rw [if_pos h1]]
    refine (rhseal_long f A c body w h1).mono ?_
    rintro e w' ⟨rfl, hB⟩
    exact ⟨_, [], rfl, OwnsC.nil _ _ _ _, hB⟩
  · cases h2 : Hd.ok (setF f 2 body.length)
    · rw [show Msg.seal_ f body = (2, []) by unfold Msg.seal_; rw [if_neg h1, if_neg (by rw [h2]; simp)]]
      refine (rhseal_no f A c body w (by omega) h2).mono ?_
      rintro e w' ⟨rfl, hB⟩
      exact ⟨_, [], rfl, OwnsC.nil _ _ _ _, hB⟩
    · rw [show Msg.seal_ f body = (0, Hd.bytes (setF f 2 body.length) body) by unfold Msg.seal_; rw [if_neg h1, if_pos h2]]
      refine (rhseal_ok f A c body w hby hc (by omega) h2 hin).mono ?_
      rintro e w' ⟨v, sp, rfl, ho, hB⟩
      exact ⟨v, sp, rfl, ho, hB⟩
end Go.Proofs.YtekdcjaljjlemaaDoor
