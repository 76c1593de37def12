/- A message's bytes, as the program lays them. Conditions: the body can be read; the header may be. -/
import Derived.Test.YtekdcjaljjlemaaMHeaderTurned6
import Derived.Deep.MidRow
import Derived.Stop.BytesEq
namespace Go.Proofs.Ytekdcjaljjlemaa
open Go.RowKit
theorem Hd.ok_all {f : HdF} (h : Hd.ok f = true) : Hd.nat f := Hd.ok_nat h
theorem setF_in (f : HdF) (v : Int) (h : Hd.in_ f) : Hd.in_ (setF f 2 v) := by
  unfold Hd.in_ setF at *
  simp only [show ¬ (9 = 2) by omega, show ¬ (10 = 2) by omega, show ¬ (13 = 2) by omega, if_false]
  exact h
set_option maxRecDepth 100000 in
set_option maxHeartbeats 4000000 in
theorem hseal_ok (f : HdF) (A : Option Addr) (c : Nat) (body : List UInt8) (w : World) (hby : Bytes w A body) (hc : body.length ≤ c ∧ c ≤ 9223372036854775807) (hlong : body.length ≤ 1024) (hok : Hd.ok (setF f 2 body.length) = true) (hin : Hd.in_ f) :
    Calls Try.prog 8 #[.agg (msgc f (.slice A body.length c))] w fun e w' => ∃ g, e = .returned (.tuple #[.slice (some ⟨g, 0, none⟩) (256 + body.length) (256 + body.length), .int .i64 0]) ∧ w.heap.size ≤ g ∧
      Blk w' g 5 ((Hd.bytes (setF f 2 body.length) body).map u8v).toArray ∧ Below w.heap.size w w' := by
  have hg := Blk.new w 29 (msgc f (.slice A body.length c))
  have hB := Lib.hid ((Below.refl w.heap.size w).alloc (Nat.le_refl _) (.cells (msgc f (.slice A body.length c)) 29))
  have d16 := hg.at_ 16 (msgc_16 f _)
  have HR := Lib.hid (hd_range hg)
  have HG := Lib.hid hg
  have HOK := Lib.hid (And.intro hok (setF_in f body.length hin))
  have HC := Lib.hid hc
  clear hg hok hin hc
  go_enter Try.func8, Try.ntmps8
  go_wp2_with (first
    | (show wpList _ _ _ ((⟨some 14, _, _, _, _, _⟩ : Oper) :: _) _ _; refine wpList_load_mid (o := ⟨some 14, _, _, _, _, _⟩) HR.out (by rfl) _ _ (by rfl) (by rfl) _ Try.underlying26 (by rfl) sizeHd (by rw [Array.length_toList, hdc_size]) ?_; rw [Array.toArray_toList]; clear HR d16; generalize World.alloc w _ = w1 at HG hB ⊢; have hlt := HG.out.lt)
    | (show wpList _ _ _ ((⟨none, _, _, _, _, _⟩ : Oper) :: _) _ _; refine wpList_store_blk (o := ⟨none, _, _, _, _, _⟩) ((Blk.new w1 26 #[.int .i64 0, .int .i64 0, .int .i64 0, .int .i64 0, .int .i64 0, .int .i64 0, .int .i64 0, .int .i64 0, .int .i64 0, .int .u64 0, .int .u64 0, .int .i64 0, .int .i64 0, .int .u64 0, .int .i64 0, .int .i64 0]).sub zeroHd_cells.symm) (by rfl) _ _ _ (by rfl) (by rfl) (hdc f) (by rfl) (sizeHd) (hdc_size _) (hdc_size _) (hdc_one _) ?_; intro w2 h2 hu2; have hbx := ((Below.refl w1.heap.size w1).alloc (Nat.le_refl _) (.cells #[.int .i64 0, .int .i64 0, .int .i64 0, .int .i64 0, .int .i64 0, .int .i64 0, .int .i64 0, .int .i64 0, .int .i64 0, .int .u64 0, .int .u64 0, .int .i64 0, .int .i64 0, .int .u64 0, .int .i64 0, .int .i64 0] 26)).upd hu2 (Nat.le_refl _); have HG2 := Lib.hid (HG.out.below hbx hlt); have HB2 := Lib.hid (hB.out.trans (hbx.mono hB.out.size)); have d16 := HG2.out.at_ 16 (msgc_16 f _); have fz := h2.frozen 2; have dz := h2.at_ 2 (hdc_at f 2 (by omega) (by omega) (by omega) (by omega)); have HS := Lib.hid (And.intro ((h2.set_ 2 (.int .i64 (body.length : Nat))).sub (hdc_set f 2 _ (by omega) (by omega) (by omega))) (And.intro (HG2.out.off (c := w1.heap.size) (i := 2) (by omega) (.int .i64 (body.length : Nat))) (HB2.out.set_ (c := w1.heap.size) (i := 2) (by omega) (.int .i64 (body.length : Nat))))); clear hu2 hbx HG hB HG2 HB2 h2)
    | (show wpList _ _ _ ((⟨some 19, _, _, _, _, _⟩ : Oper) :: _) _ _; clear fz dz d16; generalize World.setCell w2 _ _ = w3 at HS ⊢; generalize w1.heap.size = hb at HS hlt ⊢; obtain ⟨hh, hG, hB⟩ := HS.out; clear HS; (show wpList _ _ _ ((⟨some 19, _, _, _, _, _⟩ : Oper) :: _) _ _; refine wpList_load_blk (o := ⟨some 19, _, _, _, _, _⟩) (hh) (by rfl) _ _ (by rfl) (by rfl) _ Try.underlying26 (by rfl) (sizeHd) (hdc_size _) ?_))
    | fail)
  have HBY := Lib.hid hby
  replace hby := Bytes.below hby hB
  refine (hcheck_any _ w3).mono ?_
  rintro e w4 ⟨rfl, hbx⟩
  (replace hby := keep hbx hby; replace hh := keep hbx hh; replace hG := keep hbx hG; replace hB := hB.trans (hbx.mono hB.size); clear hbx)
  rw [show Hd.code (setF f 2 body.length) = 0 by unfold Hd.code; rw [HOK.out.1]; rfl]
  have hs16 := Sha.sum_length body
  obtain ⟨fx, hfx⟩ : ∃ fx, fx = setF f 2 body.length := ⟨_, rfl⟩
  rw [← hfx] at hh HOK ⊢
  have HFX := Lib.hid hfx
  have HSS := Lib.hid hs16
  clear hfx hs16
  obtain ⟨L, hL⟩ : ∃ L, L = List.replicate 16 (0 : UInt8) ++ Hd.rest fx (Sha.sum body) := ⟨_, rfl⟩
  have HL := Lib.hid hL
  clear hL
  have hcSum : ∀ w', Below w4.heap.size w4 w' → Calls Try.prog 25 #[.slice A body.length c] w' fun e w'' => e = .returned (.agg ((Sha.sum body).map u8v).toArray) ∧ Below w'.heap.size w' w'' := fun w' hw' =>
    sum_any A c body HC.out.1 ⟨by omega, HC.out.2⟩ w' (Bytes.below hby hw')
  have hcLaid : ∀ w', Calls Try.prog 24 #[.agg (hdc fx), .agg ((Sha.sum body).map u8v).toArray] w' fun e w'' => e = .returned (.agg (L.map u8v).toArray) ∧ Below w'.heap.size w' w'' := fun w' => by
    rw [HL.out]
    exact hlaid_any fx (Sha.sum body) HSS.out (Hd.ok_all HOK.out.1) HOK.out.2 w'
  have HLL : Hid (L.length = 256) := Lib.hid (by rw [HL.out, List.length_append, Hd.rest_length fx _ HSS.out, List.length_replicate])
  have a256 := alloc256
  go_wp2_with fail
  refine wp_region_tree (Below w4.heap.size w4) [] (PlanT.takes [1] (PlanT.takes [0, 2] (.opt 3 (.opt 4 (.opt 5 (.opt 6 .done .no) .no) (.opt 5 (.opt 4 (.opt 6 .done .no) .no) .no)) (.opt 5 (.opt 3 (.opt 4 (.opt 6 .done .no) .no) .no) .no)))) (by kernel_rfl) (by kernel_rfl) ((Below.refl _ _).drew) ?_
  refine wpTree_pure _ _ _ (by rfl) (by rfl) ?_
  dsimp only [List.filterMap, List.getElem?_cons_zero, List.getElem?_cons_succ]
  repeat (go_big_quiet_step (fail))
  refine wpQuiet_nil ?_
  refine wpTree_takeL _ _ _ (by rfl) (by rfl) ((Below.refl _ _).drew) ?_
  dsimp only [List.filterMap, List.getElem?_cons_zero, List.getElem?_cons_succ]
  (refine wpQuiet_load_blk (fun w' hw' => hh.below hw' hh.lt) (by rfl) _ _ (by rfl) (by rfl) _ Try.underlying26 (by rfl) (sizeHd) (hdc_size _) ?_; simp only [Act.put, List.setIfInBounds_toArray, List.set_cons_zero, List.set_cons_succ])
  (refine wpQuiet_load_cell (fun w' hw' => (hG.below hw' hG.lt).at_ 16 (msgc_16 f _)) (by rfl) _ _ (by rfl) (by rfl) _ Try.underlying27 (by rfl) ?_; simp only [Act.put, List.setIfInBounds_toArray, List.set_cons_zero, List.set_cons_succ])
  refine wpQuiet_nil ?_
  apply share (α := Nat) (F := fun gb wZ => Blk wZ gb 55 (L.map u8v).toArray ∧ Below w4.heap.size w4 wZ ∧ w4.heap.size ≤ gb)
  · intro KK
    refine wpTree_opt _ rfl ?_ (wpTree_one _ rfl ?_)
    · go_wp2_with fail
      refine (hcSum _ (Below.refl _ _).drew).mono ?_
      rintro e w5 ⟨rfl, hb5⟩
      have hc5 : Below w4.heap.size w4 w5 := (Below.refl _ _).drew.trans (hb5.mono (Nat.le_refl _))
      go_wp2_with fail
      refine TreeQ.in_ hc5 ?_
      refine wpTree_opt _ rfl ?_ (wpTree_one _ rfl ?_)
      · go_wp2_with fail
        refine (hcLaid w5).mono ?_
        rintro e w6 ⟨rfl, hb6⟩
        have hc6 := hc5.trans (hb6.mono hc5.size)
        go_wp2_with fail
        refine TreeQ.in_ hc6 ?_
        refine wpTree_one _ rfl ?_
        go_wp2_with fail
        refine TreeQ.in_ (hc6.alloc hc6.size _) ?_
        refine wpTree_one _ rfl ?_
        go_wp2_with (first
          | (show wpList _ _ _ ((⟨none, _, _, _, _, _⟩ : Oper) :: _) _ _; refine wpList_store_blk (o := ⟨none, _, _, _, _, _⟩) (Blk.new w6 55 zero256) (by rfl) _ _ _ (by rfl) (by rfl) ((L.map u8v).toArray) (by rfl) (size256) (arr_size _ _) (by simpa using HLL.out) (u8_all _) ?_; intro w7 h7 hu7)
          | fail)
        have hc7 := (hc6.alloc hc6.size _).upd hu7 hc6.size
        refine TreeQ.in_ hc7 ?_
        refine wpTree_done ?_
        have hge := hc6.size
        generalize w6.heap.size = gb at *
        exact KK gb w7 ⟨h7, hc7, hge⟩
      · go_wp2_with fail
        have hc6 := hc5.alloc hc5.size (.cells zero256 55)
        have h6 := Blk.new w5 55 zero256
        have hge := hc5.size
        generalize hwx : w5.alloc (.cells zero256 55) = wx at hc6 h6 ⊢
        clear hwx
        generalize w5.heap.size = gb at *
        refine TreeQ.in_ hc6 ?_
        refine wpTree_one _ rfl ?_
        go_wp2_with fail
        refine (hcLaid wx).mono ?_
        rintro e w6 ⟨rfl, hb6⟩
        have h7 := keep hb6 h6
        have hc7 := hc6.trans (hb6.mono hc6.size)
        go_wp2_with fail
        refine TreeQ.in_ hc7 ?_
        refine wpTree_one _ rfl ?_
        go_wp2_with (first
          | (show wpList _ _ _ ((⟨none, _, _, _, _, _⟩ : Oper) :: _) _ _; refine wpList_store_blk (o := ⟨none, _, _, _, _, _⟩) (h7) (by rfl) _ _ _ (by rfl) (by rfl) ((L.map u8v).toArray) (by rfl) (size256) (arr_size _ _) (by simpa using HLL.out) (u8_all _) ?_; intro w8 h8 hu8)
          | fail)
        have hc8 := hc7.upd hu8 hge
        refine TreeQ.in_ hc8 ?_
        refine wpTree_done ?_
        exact KK gb w8 ⟨h8, hc8, hge⟩
    · go_wp2_with fail
      have hc6 : Below w4.heap.size w4 (w4.alloc (.cells zero256 55)).drew := ((Below.refl _ _).alloc (Nat.le_refl _) _).drew
      have h6 : Blk (w4.alloc (.cells zero256 55)).drew w4.heap.size 55 zero256 := (Blk.new w4 _ _).drew
      have hge : w4.heap.size ≤ w4.heap.size := Nat.le_refl _
      generalize hwx : (w4.alloc (.cells zero256 55)).drew = wx at hc6 h6 ⊢
      clear hwx
      refine TreeQ.in_ hc6 ?_
      refine wpTree_one _ rfl ?_
      go_wp2_with fail
      refine (hcSum _ hc6).mono ?_
      rintro e w5 ⟨rfl, hb5⟩
      replace h6 := keep hb5 h6
      have hc5 := hc6.trans (hb5.mono hc6.size)
      go_wp2_with fail
      refine TreeQ.in_ hc5 ?_
      refine wpTree_one _ rfl ?_
      go_wp2_with fail
      refine (hcLaid w5).mono ?_
      rintro e w6 ⟨rfl, hb6⟩
      have h7 := keep hb6 h6
      have hc7 := hc5.trans (hb6.mono hc5.size)
      go_wp2_with fail
      refine TreeQ.in_ hc7 ?_
      refine wpTree_one _ rfl ?_
      go_wp2_with (first
        | (show wpList _ _ _ ((⟨none, _, _, _, _, _⟩ : Oper) :: _) _ _; refine wpList_store_blk (o := ⟨none, _, _, _, _, _⟩) (h7) (by rfl) _ _ _ (by rfl) (by rfl) ((L.map u8v).toArray) (by rfl) (size256) (arr_size _ _) (by simpa using HLL.out) (u8_all _) ?_; intro w8 h8 hu8)
        | fail)
      have hc8 := hc7.upd hu8 hge
      refine TreeQ.in_ hc8 ?_
      refine wpTree_done ?_
      exact KK w4.heap.size w8 ⟨h8, hc8, hge⟩
  · clear hcSum hcLaid a256
    rintro gb wZ ⟨hgb, hbx, hge⟩
    have hBZ := hB.trans (hbx.mono hB.size)
    have hmb := hG.lt
    have hsz := hB.size
    (replace hG := keep hbx hG)
    clear hbx hh hB hby
    have hR : Bytes wZ (some ⟨gb, 16, none⟩) (Hd.rest fx (Sha.sum body)) := by
      have h := hgb.bytes.drop (k := 16) (cap := 256) (.inl (by omega))
      rw [if_neg (by omega)] at h
      rw [HL.out, show (List.replicate 16 (0 : UInt8) ++ Hd.rest fx (Sha.sum body)).drop 16 = Hd.rest fx (Sha.sum body) from List.drop_left (l₁ := List.replicate 16 (0 : UInt8))] at h
      simpa [Addr.add_lit] using h
    obtain ⟨R, hRR⟩ : ∃ R, R = Hd.rest fx (Sha.sum body) := ⟨_, rfl⟩
    have hRl : R.length = 240 := by rw [hRR, Hd.rest_length fx _ HSS.out]
    have HRL := Lib.hid hRl
    have HLR : Hid (L = List.replicate 16 0 ++ R) := Lib.hid (by rw [HL.out, hRR])
    have HRR := Lib.hid hRR
    rw [← hRR] at hR
    have hcs := sum_any (some ⟨gb, 16, none⟩) 240 R (by omega) ⟨by omega, by omega⟩ wZ hR
    rw [hRl] at hcs
    clear hRR hRl hR
    go_wp2_with fail
    refine hcs.mono ?_
    clear hcs
    rintro e w5 ⟨rfl, hb5⟩
    (replace hG := keep hb5 hG; replace hgb := keep hb5 hgb; replace hBZ := hBZ.trans (hb5.mono hBZ.size); clear hb5)
    have hs16 := Sha.sum_length R
    obtain ⟨S, hS⟩ : ∃ S, S = Sha.sum R := ⟨_, rfl⟩
    rw [← hS] at hs16 ⊢
    have HS := Lib.hid hS
    clear hS
    have a16 := alloc16
    go_wp2_with (first
      | (show wpList _ _ _ ((⟨none, _, _, _, _, _⟩ : Oper) :: _) _ _; refine wpList_store_blk (o := ⟨none, _, _, _, _, _⟩) (Blk.new w5 57 zero16) (by rfl) _ _ _ (by rfl) (by rfl) (S.map u8v).toArray (by rfl) size16 (arr_size _ _) (by simp [hs16]) (u8_all _) ?_; intro w6 h6 hux; have hbx := ((Below.refl _ _).alloc (Nat.le_refl _) (.cells zero16 57)).upd hux (Nat.le_refl w5.heap.size); replace hG := keep hbx hG; replace hgb := keep hbx hgb; replace hBZ := hBZ.trans (hbx.mono hBZ.size); clear hux hbx)
      | fail)
    simp only [Act.put]
    clear a16
    refine wp_region_planT (fun _ => True) [2] [(true, 0), (true, 1), (false, 2)] (by kernel_rfl) (by kernel_rfl) (trivial) ?_
    refine wpPlan_pure [0, 1] [(false, 2)] _ (by rfl) (by rfl) ?_
    dsimp only [List.filterMap, List.getElem?_cons_zero, List.getElem?_cons_succ]
    repeat (go_big_quiet_step (fail))
    refine wpQuiet_nil ?_
    refine wpPlan_forceL _ rfl ?_
    refine wpList_copy_at (by rfl) _ _ _ _ (by rfl) 5 Try.underlying27 size1 gb 0 256 256 (some ⟨w5.heap.size, 0, none⟩) 16 16 (by rfl) (by rfl) _ S _ hgb.drew hs16 h6.drew.bytes (by rw [HLL.out, hs16]; omega) (by omega) ?_
    intro w7 hg7 hu7
    have hX : Hid (L.take 0 ++ (S ++ L.drop (0 + S.length)) = Hd.head fx (Sha.sum body)) := Lib.hid (by
      rw [List.take_zero, List.nil_append, Nat.zero_add, hs16, HLR.out, HS.out, HRR.out]
      unfold Hd.head
      congr 1)
    rw [hX.out] at hg7
    have hHl : Hid ((Hd.head fx (Sha.sum body)).length = 256) := Lib.hid (Hd.head_length fx _ HSS.out)
    obtain ⟨D, hD⟩ : ∃ D, D = Hd.head fx (Sha.sum body) := ⟨_, rfl⟩
    rw [← hD] at hg7 hHl
    have HD := Lib.hid hD
    have hne : w.heap.size ≠ gb := by omega
    have hBw : w.heap.size ≤ gb := by omega
    replace hBZ := hBZ.drew.upd hu7 hBw
    replace hG := hG.drew.upd hu7 hne
    have hby := Bytes.below HBY.out hBZ
    have d16 := hG.at_ 16 (msgc_16 f _)
    clear hD hne hBw hu7 h6 hgb hX
    refine wpList_nil ?_
    refine PlanQ.out (by rfl) ?_
    refine wpPlan_tidy ?_
    simp only [Act.put, List.setIfInBounds_toArray, List.set_cons_zero, List.set_cons_succ]
    go_wp2_with (first
      | (show wpList _ _ _ ((⟨some 38, _, _, _, _, _⟩ : Oper) :: _) _ _; refine wpList_make_bytes (o := ⟨some 38, _, _, _, _, _⟩) _ (by rfl) _ _ _ (by rfl) _ Try.underlying27 u8info .i64 .i64 _ _ (0) (256 + body.length) (by rfl) (by rfl) (by first | rfl | omega) (by first | rfl | omega) (by omega) (by omega) ?_; intro w8 h8 hb8 hs8)
      | fail)
    replace hg7 := keep hb8 hg7
    replace hG := keep hb8 hG
    replace hBZ := hBZ.trans (hb8.mono hBZ.size)
    have hgo : w.heap.size ≤ w7.heap.size := by have := hmb; have := h8.lt; have := hG.lt; omega
    have hmo : w.heap.size ≠ w7.heap.size := by have := hmb; intro e; have h1 := hG; rw [e] at h1; have h2 := h1.symm.trans h8; simp at h2
    have hgo2 : gb ≠ w7.heap.size := by intro e; have h1 := hg7; rw [e] at h1; have h2 := h1.symm.trans h8; simp at h2
    generalize w7.heap.size = go at *
    have d16 := hG.at_ 16 (msgc_16 f _)
    have hby := Bytes.below HBY.out hBZ
    clear hb8 hs8 HRL HLR HRR HS hs16 HLL HL hge hsz hlt
    refine wp_region_planT (fun w' => w'.cell? ⟨w.heap.size, 16, none⟩ = some (.slice A body.length c)) [] [(true, 0), (true, 1), (true, 3), (true, 4), (false, 2), (false, 5), (true, 6), (true, 7)] (by kernel_rfl) (by kernel_rfl) (d16) ?_
    refine wpPlan_pure [0, 1, 3] [(true, 4), (false, 2), (false, 5), (true, 6), (true, 7)] _ (by rfl) (by rfl) ?_
    dsimp only [List.filterMap, List.getElem?_cons_zero, List.getElem?_cons_succ]
    repeat (go_big_quiet_step (fail))
    refine wpQuiet_nil ?_
    refine wpPlan_takeL [4] [(false, 2), (false, 5), (true, 6), (true, 7)] _ (by rfl) (by rfl) (d16) ?_
    dsimp only [List.filterMap, List.getElem?_cons_zero, List.getElem?_cons_succ]
    (refine wpQuiet_load_cell (fun w' hw' => hw') (by rfl) _ _ (by rfl) (by rfl) _ Try.underlying27 (by rfl) ?_; simp only [Act.put, List.setIfInBounds_toArray, List.set_cons_zero, List.set_cons_succ])
    refine wpQuiet_nil ?_
    refine wpPlan_forceL _ rfl ?_
    refine wpList_append_room (by rfl) _ _ _ (by rfl) _ Try.underlying27 u8info go 0 (256 + body.length) [] (List.replicate (256 + body.length) 0) rfl (by rfl) h8.drew (by rw [List.length_replicate, Nat.zero_add]) (some ⟨gb, 0, none⟩) 256 256 D hHl.out (by rfl) hg7.drew.bytes (by rw [List.length_replicate]; omega) ?_
    intro w9 h9 hu9
    have hG9 := hG.drew.upd hu9 hmo
    have hB9 := hBZ.drew.upd hu9 hgo
    have e9 : Hid (([] : List UInt8) ++ (D ++ (List.replicate (256 + body.length) (0 : UInt8)).drop 256) = D ++ List.replicate body.length 0) := Lib.hid (by rw [List.nil_append, List.drop_replicate, Nat.add_sub_cancel_left])
    rw [e9.out] at h9
    have hby9 := Bytes.below HBY.out hB9
    have d16 := hG9.at_ 16 (msgc_16 f _)
    clear e9 hu9 h8 hG hBZ hg7
    refine wpList_nil ?_
    refine PlanQ.in_ d16 ?_
    simp only [Act.put, List.setIfInBounds_toArray, List.set_cons_zero, List.set_cons_succ]
    refine wpPlan_forceL _ rfl ?_
    refine wpList_append_room (by rfl) _ _ _ (by rfl) _ Try.underlying27 u8info go (0 + 256) (256 + body.length) D (List.replicate body.length 0) (by rw [hHl.out]) (by rfl) h9 (by rw [List.length_replicate, Nat.zero_add]) A body.length c body rfl (by rfl) hby9 (by rw [List.length_replicate]; omega) ?_
    intro w10 h10 hu10
    have hG10 := hG9.upd hu10 hmo
    have hB10 := hB9.upd hu10 hgo
    rw [show body ++ (List.replicate body.length (0 : UInt8)).drop body.length = body by rw [List.drop_replicate, Nat.sub_self]; simp] at h10
    have d16 := hG10.at_ 16 (msgc_16 f _)
    clear hu10 h9 hG9 hB9 hby9
    refine wpList_nil ?_
    refine PlanQ.in_ d16 ?_
    simp only [Act.put, List.setIfInBounds_toArray, List.set_cons_zero, List.set_cons_succ]
    refine wpPlan_pure [6, 7] [] _ (by rfl) (by rfl) ?_
    dsimp only [List.filterMap, List.getElem?_cons_zero, List.getElem?_cons_succ]
    repeat (go_big_quiet_step (fail))
    refine wpQuiet_nil ?_
    refine wpPlan_tidy ?_
    have HX := Lib.hid (And.intro h10 hB10)
    clear h10 hB10 hG10 d16 hby
    go_wp2
    go_ret2
    refine ⟨go, ?_, hgo, ?_, HX.out.2⟩
    · simp
    · refine HX.out.1.sub ?_
      rw [HD.out, HFX.out]; rfl
end Go.Proofs.Ytekdcjaljjlemaa

/- The fields that a header's bytes say, as the program reads them one run behind the other. Plain facts. No condition. -/
namespace Go.Proofs.Ytekdcjaljjlemaa
open Go.RowKit
theorem getD_drop (l : List UInt8) (k p : Nat) : (l.drop k).getD p 0 = l.getD (k + p) 0 := by
  simp [List.getD_eq_getElem?_getD, List.getElem?_drop]
theorem getD_take (l : List UInt8) (k p : Nat) (h : p < k) : (l.take k).getD p 0 = l.getD p 0 := by
  simp [List.getD_eq_getElem?_getD, List.getElem?_take, h]
theorem at4_drop (l : List UInt8) (k p : Nat) : at4 (l.drop k) p = at4 l (k + p) := by
  unfold at4; rw [getD_drop, getD_drop, getD_drop, getD_drop]; simp only [Nat.add_assoc]
theorem at8_drop (l : List UInt8) (k p : Nat) : at8 (l.drop k) p = at8 l (k + p) := by
  unfold at8; rw [at4_drop, at4_drop]; simp only [Nat.add_assoc]
theorem at4_take (l : List UInt8) (k p : Nat) (h : p + 3 < k) : at4 (l.take k) p = at4 l p := by
  unfold at4; rw [getD_take _ _ _ (by omega), getD_take _ _ _ (by omega), getD_take _ _ _ (by omega), getD_take _ _ _ (by omega)]
theorem at8_take (l : List UInt8) (k p : Nat) (h : p + 7 < k) : at8 (l.take k) p = at8 l p := by
  unfold at8; rw [at4_take _ _ _ (by omega), at4_take _ _ _ (by omega)]
theorem hdc_setU (f : HdF) (i : Nat) (v : Int) (h : i = 9 ∨ i = 10 ∨ i = 13) : (hdc f).setIfInBounds i (.int .u64 v) = hdc (setF f i v) := by
  unfold hdc
  rw [arr_set]
  refine arr_congr fun j _ => ?_
  unfold hdv setF
  by_cases e : j = i
  · subst e; rw [if_pos rfl, if_pos h, if_pos rfl]
  · rw [if_neg e, if_neg e]
theorem hdc_congr {f g : HdF} (h : ∀ i, i < 16 → f i = g i) : hdc f = hdc g := arr_congr fun i hi => by unfold hdv; rw [h i hi]
def Hd.f1 (raw : List UInt8) : HdF := stepsF zeroHd (raw.drop 32) [0, 1, 2, 3, 4, 5, 6, 7, 8] 9
def Hd.f2 (raw : List UInt8) : HdF := setF (setF (Hd.f1 raw) 9 (at8 raw 76)) 10 (at8 raw 68)
def Hd.f3 (raw : List UInt8) : HdF := stepsF (Hd.f2 raw) (raw.drop 84) [11, 12] 2
def Hd.f4 (raw : List UInt8) : HdF := setF (Hd.f3 raw) 13 (at8 raw 92)
def Hd.f5 (raw : List UInt8) : HdF := stepsF (Hd.f4 raw) (raw.drop 100) [14, 15] 2
theorem Hd.f5_parse (raw : List UInt8) : hdc (Hd.f5 raw) = hdc (Hd.parse raw) := hdc_congr fun i hi => by
  have : i = 0 ∨ i = 1 ∨ i = 2 ∨ i = 3 ∨ i = 4 ∨ i = 5 ∨ i = 6 ∨ i = 7 ∨ i = 8 ∨ i = 9 ∨ i = 10 ∨ i = 11 ∨ i = 12 ∨ i = 13 ∨ i = 14 ∨ i = 15 := by omega
  rcases this with rfl | rfl | rfl | rfl | rfl | rfl | rfl | rfl | rfl | rfl | rfl | rfl | rfl | rfl | rfl | rfl <;>
    simp [Hd.f5, Hd.f4, Hd.f3, Hd.f2, Hd.f1, stepsF, setF, Hd.parse, at4_drop]
theorem Hd.f3_13 (raw : List UInt8) : Hd.f3 raw 13 = 0 := by simp [Hd.f3, Hd.f2, Hd.f1, stepsF, setF, zeroHd]
theorem Hd.parse_nat (raw : List UInt8) : Hd.nat (Hd.parse raw) := by
  intro i hi
  have h : ∀ p, (0 : Int) ≤ (at4 raw p : Int) ∧ (at4 raw p : Int) < 4294967296 := fun p => by have := at4_lt raw p; omega
  simp only [thirteen, List.mem_cons, List.not_mem_nil, or_false] at hi
  rcases hi with rfl | rfl | rfl | rfl | rfl | rfl | rfl | rfl | rfl | rfl | rfl | rfl | rfl <;> (simp only [Hd.parse]; exact h _)
/-- A run of fields read. -/
theorem hfours_at (b bo cap hb n pb m o : Nat) (f : HdF) (raw : List UInt8) (idx : List Nat) (hr : raw.length = n + o) (hm : idx.length = m) (h4 : 4 * m ≤ n) (hlen : n ≤ 1000000) (w : World)
    (hraw : Bytes w (some ⟨b, bo, none⟩) (raw.drop o)) (hg : Blk w hb 26 (hdc f)) (hp : ∃ t, Blk w pb t (pts hb idx)) (hi : ∀ i ∈ idx, i ∈ thirteen) (hne : pb ≠ hb ∧ b ≠ hb) (hm0 : 0 < m) :
    Calls Try.prog 33 #[.slice (some ⟨b, bo, none⟩) n cap, .slice (some ⟨pb, 0, none⟩) m m] w fun e w' =>
      e = .returned (.tuple #[]) ∧ Blk w' hb 26 (hdc (stepsF f (raw.drop o) idx m)) ∧ Upd hb w w' := by
  obtain ⟨t, hp⟩ := hp
  have hl : (raw.drop o).length = n := by rw [List.length_drop]; omega
  subst hl hm
  obtain ⟨b2, bo2, e, hlt, hc⟩ := hraw.at_ (by omega)
  simp only [Option.some.injEq, Addr.mk.injEq, and_true] at e
  obtain ⟨rfl, rfl⟩ := e
  have h13 : ∀ i ∈ thirteen, i < 16 ∧ i ≠ 9 ∧ i ≠ 10 ∧ i ≠ 13 := by decide
  refine hfours_any b bo cap hb f (raw.drop o) idx pb 0 idx.length h4 hlen w hc hg (fun j hj => ?_) (fun j hj => ?_) hne
  · refine hp.at_ (0 + j) ?_
    rw [Nat.zero_add]; unfold pts
    rw [List.getElem?_toArray, List.getElem?_map, List.getElem?_eq_getElem hj, List.getD_eq_getElem?_getD, List.getElem?_eq_getElem hj]; rfl
  · have : idx.getD j 0 ∈ idx := by rw [List.getD_eq_getElem?_getD, List.getElem?_eq_getElem hj]; exact List.getElem_mem hj
    exact h13 _ (hi _ this)
end Go.Proofs.Ytekdcjaljjlemaa

/- A store of a whole struct or array into the middle of an own block. Plain facts over any program. Condition: the block is long enough. -/
namespace Go
open Go.RowKit
def setAll (cs : Array Value) : Nat → List Value → Array Value
  | _, [] => cs
  | o, v :: r => setAll (cs.setIfInBounds o v) (o + 1) r
theorem Blk.setCells {g : Nat} {t : TypeId} : ∀ (vs : List Value) (o : Nat) (w : World) (cs : Array Value), Blk w g t cs → Blk (w.setCells g o vs) g t (setAll cs o vs)
  | [], _, _, _, h => h
  | v :: r, o, _, _, h => Blk.setCells r (o + 1) _ _ (h.set_ o v)
theorem Upd.setCells {g : Nat} {w0 : World} : ∀ (vs : List Value) (o : Nat) (w : World), Upd g w0 w → Upd g w0 (w.setCells g o vs)
  | [], _, _, h => h
  | v :: r, o, _, h => Upd.setCells r (o + 1) _ (h.set o v)
theorem wpList_store_in {P : Program} {w : World} {Q : Exit → Act → World → Prop} {ops : Array Oper} {rest : List Oper} {o : Oper} {a : Act} {g : Nat} {t : TypeId} {cs : Array Value} (hb : Blk w g t cs) (hgd : o.guard = none) (ty : TypeId) (x y : Operand) (ho : o.op = .store ty x y)
    (k : Nat) (hx : a.eval x = .pointer (some ⟨g, k, none⟩)) (vs : Array Value) (hy : a.eval y = .agg vs) {n : Nat} (hi : (P.info? ty).map (·.size) = some n) (hs : vs.size = n) (hk : k + n ≤ cs.size) (h1 : vs.all (·.oneCell') = true)
    (h : ∀ w', Blk w' g t (setAll cs k vs.toList) → Upd g w w' → wpList P ops Q rest (a.put o.dst undef) w') : wpList P ops Q (o :: rest) a w :=
  wpList_store_mid hgd ty x y ho g k vs hx hy (fun j hj => ⟨by rw [hb.cell, Array.getElem?_eq_getElem (by omega)]; rfl, hb.frozen _⟩) (by rw [hs]; exact hi) h1
    (h _ (Blk.setCells vs.toList k w cs hb) (Upd.setCells vs.toList k w (Upd.refl g w)))
end Go

/- The document's mixing in of a block answers what the plain function says. Condition: there are 64 bytes from the place on. -/
namespace Go.Proofs.Ytekdcjaljjlemaa
open Go.RowKit
theorem size8r : (Try.prog.info? 76).map (·.size) = some 8 := by kernel_rfl
set_option maxHeartbeats 1000000 in
set_option maxRecDepth 100000 in
theorem rblock_any (hs : Sha.St) (b off n c : Nat) (bs : List UInt8) (at_ : Nat) (hn : n = bs.length) (h64 : at_ + 64 ≤ n) (_hn2 : n ≤ 140737488400000)
   (w : World) (hbl : b < w.heap.size) (hb : ∀ j, j < n → w.cell? ⟨b, off + j, none⟩ = some (.int .u8 (iu8 (bs.getD j 0)))) :
    Calls Try.prog 44 #[.agg (st8 hs), .agg karr, .slice (some ⟨b, off, none⟩) n c, .int .i64 at_] w fun e w' => e = .returned (.agg (st8 (Sha.blk hs bs at_))) ∧ Below w.heap.size w w' := by
  have a64 := alloc64
  have HN := Lib.hid hn; clear hn
  have HB := Lib.hid hb; clear hb
  go_enter Try.func44, Try.ntmps44
  go_wp2
  go_loopw [10] (fun i wr => ∃ t : Nat, t ≤ 64 ∧ i = .int .i64 t ∧ BInv 76 w wr hs (Sha.word bs at_) t) (fun i _ => 64 - (intOf i).toNat)
  case atStart => exact ⟨0, by omega, rfl, BInv.new _ w hs _⟩
  case round =>
    obtain ⟨t, ht, rfl, hI⟩ := hrel
    by_cases hlt : t < 16
    · have hlt64 : t < 64 := by omega
      go_wp2
      go_loopw [11] (fun i wr => ∃ k : Nat, k ≤ 4 ∧ i = .int .i64 k ∧ PInv 76 w wr hs (Sha.word bs at_) t (Sha.part bs at_ t k)) (fun i _ => 4 - (intOf i).toNat)
      case atStart => exact ⟨0, by omega, rfl, hI.part⟩
      case round =>
        clear hI
        obtain ⟨k, hk, rfl, hI⟩ := hrel
        by_cases hk4 : k < 4
        · obtain ⟨x0, h0⟩ : ∃ x, x = bs.getD (at_ + 4 * t + k) 0 := ⟨_, rfl⟩
          obtain ⟨y, hy⟩ : ∃ x, x = Sha.part bs at_ t k := ⟨_, rfl⟩
          have c0 := (hI.bel.cell (p := ⟨b, off + (at_ + 4 * t + k), none⟩) hbl).trans (HB.out (at_ + 4 * t + k) (by omega))
          rw [← h0] at c0
          rw [← hy] at hI
          have HW := Lib.hid (show Sha.part bs at_ t (k + 1) = (y <<< 8) ||| x0.toUInt32 by rw [hy, h0]; rfl)
          clear h0 hy
          have c4 := hI.get (by omega)
          have c5 := hI.ww.frozen t
          go_wp2
          refine wp_region_tail 17 (by kernel_rfl) (by kernel_rfl) ?_
          simp only [List.take_succ_cons, List.take_zero, List.drop_succ_cons, List.drop_zero]
          repeat (go_big_quiet_step (fail))
          refine wpQuiet_nil ?_
          go_wp2
          go_roundw
          case rel => exact ⟨k + 1, by omega, by go_num, by rw [HW.out]; exact hI.store _⟩
          case measure => simp [intOf]; omega
        · obtain rfl : k = 4 := by omega
          go_wp2
          go_roundw
          case rel => exact ⟨t + 1, by omega, by go_num, hI.whole (by rw [Sha.part_four]; exact (Sha.wd_lo _ hlt).symm)⟩
          case measure => simp [intOf]; omega
    · have ht1 : 16 ≤ t := by omega
      by_cases hlt : t < 64
      · go_wp2
        obtain ⟨y2, h2⟩ : ∃ y : UInt32, y = Sha.wd (Sha.word bs at_) (t - 2) := ⟨_, rfl⟩
        obtain ⟨y7, h7⟩ : ∃ y : UInt32, y = Sha.wd (Sha.word bs at_) (t - 7) := ⟨_, rfl⟩
        obtain ⟨y15, h15⟩ : ∃ y : UInt32, y = Sha.wd (Sha.word bs at_) (t - 15) := ⟨_, rfl⟩
        obtain ⟨y16, h16⟩ : ∃ y : UInt32, y = Sha.wd (Sha.word bs at_) (t - 16) := ⟨_, rfl⟩
        have HW := Lib.hid (show Sha.wd (Sha.word bs at_) t = Sha.s1 y2 + y7 + Sha.s0 y15 + y16 by rw [h2, h7, h15, h16]; exact Sha.wd_hi _ ht1)
        have c15 := hI.get (i := t - 15) (by omega) (by omega)
        rw [← h15] at c15
        have H2 := Lib.hid h2; have H7 := Lib.hid h7; have H15 := Lib.hid h15; have H16 := Lib.hid h16
        clear h2 h7 h15 h16
        go_quiet ((go_at_call 46; exact Calls.quiet_of (right_any _ _ (by omega) (by omega) _)))
        go_wp2
        have hI1 := hI.drewN nq
        clear hI c15
        generalize wr.drewN nq = w1 at hI1 ⊢
        have c2 := hI1.get (i := t - 2) (by omega) (by omega)
        rw [← H2.out] at c2
        go_quiet ((go_at_call 46; exact Calls.quiet_of (right_any _ _ (by omega) (by omega) _)))
        go_wp2
        have hI2 := hI1.drewN nq
        clear hI1 c2
        generalize w1.drewN nq = w2 at hI2 ⊢
        have c7 := hI2.get (i := t - 7) (by omega) (by omega)
        have c16 := hI2.get (i := t - 16) (by omega) (by omega)
        rw [← H7.out] at c7
        rw [← H16.out] at c16
        have c0 := hI2.get' hlt
        have cf := hI2.ww.frozen t
        refine wp_region_tail 15 (by kernel_rfl) (by kernel_rfl) ?_
        simp only [List.take_succ_cons, List.take_zero, List.drop_succ_cons, List.drop_zero]
        repeat (go_big_quiet_step (fail))
        refine wpQuiet_nil ?_
        go_wp2
        go_roundw
        case rel => exact ⟨t + 1, by omega, by go_num, hI2.store _ (HW.out)⟩
        case measure => simp [intOf]; omega
      · obtain rfl : t = 64 := by omega
        clear ht ht1 hlt
        have hX := hI.ww.lt
        have hz8 := zero8_new 76 wr
        go_wp2_with (first
          | (refine wpList_load_blk (o := ⟨some 95, _, _, _, _, _⟩) hI.hh (by rfl) _ _ (by rfl) (by rfl) _ Try.underlying76 (by rfl) size8r (st8_size _) ?_)
          | (show wpList _ _ _ ((⟨none, _, _, _, _, _⟩ : Oper) :: _) _ _; (refine wpList_store_blk (o := ⟨none, _, _, _, _, _⟩) hz8 (by rfl) _ _ _ (by rfl) (by rfl) (st8 hs) (by rfl) size8r zero8_size (st8_size _) (st8_one _) ?_; intro w3 hx3 hu3; have hI3 := (hI.alloc _).upd hu3 (by omega); clear hI hu3 hz8)))
        generalize wr.heap.size = X at hX hx3 ⊢
        go_loopw [15] (fun i wr => ∃ t : Nat, t ≤ 64 ∧ i = .int .i64 t ∧ BInv 76 w wr hs (Sha.word bs at_) 64 ∧ Blk wr X 76 (st8 (Sha.rounds (Sha.word bs at_) hs t))) (fun i _ => 64 - (intOf i).toNat)
        case atStart => exact ⟨0, by omega, rfl, hI3, hx3⟩
        case round =>
          clear hI3 hx3
          obtain ⟨t, ht, rfl, hI, hx⟩ := hrel
          by_cases hlt : t < 64
          · obtain ⟨s, hs'⟩ : ∃ s, s = Sha.rounds (Sha.word bs at_) hs t := ⟨_, rfl⟩
            rw [← hs'] at hx
            obtain ⟨k, hk'⟩ : ∃ k, k = Sha.kt t := ⟨_, rfl⟩
            obtain ⟨y, hy'⟩ : ∃ k, k = Sha.wd (Sha.word bs at_) t := ⟨_, rfl⟩
            have HS := Lib.hid (show Sha.rounds (Sha.word bs at_) hs (t + 1) = Sha.round k y s by rw [hs', hk', hy']; rfl)
            have HK := Lib.hid hk'
            have HY := Lib.hid hy'
            clear hs' hk' hy'
            go_wp2
            have r0 : wr.cell? ⟨X, 0, none⟩ = some (.int .u32 (iu32 s.a)) := hx.cell 0
            have r1 : wr.cell? ⟨X, 1, none⟩ = some (.int .u32 (iu32 s.b)) := hx.cell 1
            have r2 : wr.cell? ⟨X, 2, none⟩ = some (.int .u32 (iu32 s.c)) := hx.cell 2
            have r3 : wr.cell? ⟨X, 3, none⟩ = some (.int .u32 (iu32 s.d)) := hx.cell 3
            have r4 : wr.cell? ⟨X, 4, none⟩ = some (.int .u32 (iu32 s.e)) := hx.cell 4
            have r5 : wr.cell? ⟨X, 5, none⟩ = some (.int .u32 (iu32 s.f)) := hx.cell 5
            have r6 : wr.cell? ⟨X, 6, none⟩ = some (.int .u32 (iu32 s.g)) := hx.cell 6
            have r7 : wr.cell? ⟨X, 7, none⟩ = some (.int .u32 (iu32 s.h)) := hx.cell 7
            have rw := hI.get (i := t) hlt hlt
            have rk : wr.cell? ⟨w.heap.size + 1, t, none⟩ = some (.int .u32 (iu32 (Sha.kt t))) := by rw [hI.kk.cell t]; exact arr_at _ hlt
            rw [← HY.out] at rw
            rw [← HK.out] at rk
            go_quiet ((go_at_call 46; exact Calls.quiet_of (right_any _ _ (by omega) (by omega) _)))
            clear rw rk
            go_wp2
            replace hI := hI.drewN nq
            replace hx := hx.drewN nq
            clear r0 r1 r2 r3 r4 r5 r6 r7
            generalize wr.drewN nq = w1 at hI hx ⊢
            have r0 : w1.cell? ⟨X, 0, none⟩ = some (.int .u32 (iu32 s.a)) := hx.cell 0
            have r1 : w1.cell? ⟨X, 1, none⟩ = some (.int .u32 (iu32 s.b)) := hx.cell 1
            have r2 : w1.cell? ⟨X, 2, none⟩ = some (.int .u32 (iu32 s.c)) := hx.cell 2
            have r3 : w1.cell? ⟨X, 3, none⟩ = some (.int .u32 (iu32 s.d)) := hx.cell 3
            have r4 : w1.cell? ⟨X, 4, none⟩ = some (.int .u32 (iu32 s.e)) := hx.cell 4
            have r5 : w1.cell? ⟨X, 5, none⟩ = some (.int .u32 (iu32 s.f)) := hx.cell 5
            have r6 : w1.cell? ⟨X, 6, none⟩ = some (.int .u32 (iu32 s.g)) := hx.cell 6
            have r7 : w1.cell? ⟨X, 7, none⟩ = some (.int .u32 (iu32 s.h)) := hx.cell 7
            go_quiet ((go_at_call 46; exact Calls.quiet_of (right_any _ _ (by omega) (by omega) _)))
            replace hI := hI.drewN nq
            replace hx := hx.drewN nq
            clear r0 r1 r2 r3 r4 r5 r6 r7
            generalize w1.drewN nq = w3 at hI hx ⊢
            have r0 : w3.cell? ⟨X, 0, none⟩ = some (.int .u32 (iu32 s.a)) := hx.cell 0
            have r1 : w3.cell? ⟨X, 1, none⟩ = some (.int .u32 (iu32 s.b)) := hx.cell 1
            have r2 : w3.cell? ⟨X, 2, none⟩ = some (.int .u32 (iu32 s.c)) := hx.cell 2
            have r3 : w3.cell? ⟨X, 3, none⟩ = some (.int .u32 (iu32 s.d)) := hx.cell 3
            have r4 : w3.cell? ⟨X, 4, none⟩ = some (.int .u32 (iu32 s.e)) := hx.cell 4
            have r5 : w3.cell? ⟨X, 5, none⟩ = some (.int .u32 (iu32 s.f)) := hx.cell 5
            have r6 : w3.cell? ⟨X, 6, none⟩ = some (.int .u32 (iu32 s.g)) := hx.cell 6
            have r7 : w3.cell? ⟨X, 7, none⟩ = some (.int .u32 (iu32 s.h)) := hx.cell 7
            go_wp2_with (show wpList _ _ _ ((⟨none, _, _, _, _, _⟩ : Oper) :: _) _ _; ((refine wpList_store_blk (o := ⟨none, _, _, _, _, _⟩) hx (by rfl) _ _ _ (by rfl) (by rfl) (st8 (Sha.round k y s)) (by first | rfl | refine Eq.trans (b := Value.agg #[.int .u32 ((iu32 _ + iu32 _) % 4294967296), _, _, _, .int .u32 ((iu32 _ + iu32 _) % 4294967296), _, _, _]) rfl ?_; simp only [u32_add_w]; rfl) size8r (st8_size _) (st8_size _) (st8_one _) ?_; intro w4 hx4 hu4; have hI4 := hI.upd hu4 (by omega); clear hI hx hu4 r0 r1 r2 r3 r4 r5 r6 r7)))
            go_roundw
            case rel => exact ⟨t + 1, by omega, by go_num, hI4, by rw [HS.out]; exact hx4⟩
            case measure => simp [intOf]; omega
          · obtain rfl : t = 64 := by omega
            obtain ⟨xs, hxs⟩ : ∃ s, s = Sha.rounds (Sha.word bs at_) hs 64 := ⟨_, rfl⟩
            rw [← hxs] at hx
            have HX := Lib.hid (show Sha.blk hs bs at_ = Sha.add hs xs by rw [hxs]; rfl)
            clear hxs ht hlt
            have hh0 := hI.hh.sub (sum8_zero hs xs)
            go_wp2
            go_loopw [18] (fun i wr => ∃ t : Nat, t ≤ 8 ∧ i = .int .i64 t ∧ Blk wr w.heap.size 76 (sum8 hs xs t) ∧ Blk wr (w.heap.size + 1 + 1) 76 zero8 ∧ Blk wr X 76 (st8 xs) ∧ Below w.heap.size w wr) (fun i _ => 8 - (intOf i).toNat)
            case atStart => exact ⟨0, by omega, rfl, hh0, hI.zz, hx, hI.bel⟩
            case round =>
              clear hI hx hh0
              obtain ⟨t, ht, rfl, hh, hz, hx, hbel⟩ := hrel
              by_cases hlt : t < 8
              · have c0 := (hh.cell t).trans (sum8_get hs xs t hlt)
                have c1 := (hx.cell t).trans (st8_get xs t hlt)
                have cf := hh.frozen t
                go_wp2
                refine wp_region_tail 9 (by kernel_rfl) (by kernel_rfl) ?_
                simp only [List.take_succ_cons, List.take_zero, List.drop_succ_cons, List.drop_zero]
                repeat (go_big_quiet_step (fail))
                refine wpQuiet_nil ?_
                go_wp2
                go_roundw
                case rel =>
                  refine ⟨t + 1, by omega, by go_num, ?_, hz.off (by omega) _, hx.off (by omega) _, (hbel.set_ (by omega) _).drew⟩
                  have := hh.set_ t (.int .u32 (iu32 (Sha.get hs t + Sha.get xs t)))
                  rw [sum8_set] at this
                  first | exact this | (rw [← u32_add_w] at this; exact this)
                case measure => simp [intOf]; omega
              · obtain rfl : t = 8 := by omega
                rw [sum8_all] at hh
                go_wp2_with (first
                  | (show wpList _ _ _ ((⟨some 197, _, _, _, _, _⟩ : Oper) :: _) _ _; (refine wpList_load_blk (o := ⟨some 197, _, _, _, _, _⟩) hh (by rfl) _ _ (by rfl) (by rfl) _ Try.underlying76 (by rfl) size8r (st8_size _) ?_))
                  | (show wpList _ _ _ ((⟨none, _, _, _, _, _⟩ : Oper) :: _) _ _; (refine wpList_store_blk (o := ⟨none, _, _, _, _, _⟩) hz (by rfl) _ _ _ (by rfl) (by rfl) (st8 (Sha.add hs xs)) (by rfl) size8r zero8_size (st8_size _) (st8_one _) ?_; intro w5 hz5 hu5; have hbel5 := hbel.upd hu5 (by omega); clear hbel hh hz hx hu5)))
                refine bodyPost_ret (results_cell_row (by rfl) _ _ _ _ _ _ _ (by rfl) hz5 Try.underlying76 (by rfl) size8r) rfl ⟨?_, hbel5⟩
                rw [HX.out]
end Go.Proofs.Ytekdcjaljjlemaa

/- The document's seal of bytes answers what the plain function says. Condition: the bytes can be read and their room is at most 2^47 - 4096. -/
namespace Go.Proofs.Ytekdcjaljjlemaa
open Go.RowKit
theorem u64_div_byte (n k : Nat) : (n : Int) / 2 ^ (56 - 8 * k) % 256 = iu8 (UInt8.ofNat (n / 2 ^ (56 - 8 * k) % 256)) := by
  rw [iu8_ofNat_mod]; simp
/-- What the eight bytes are so far. -/
def EightRel (n : Nat) (base : Nat) (w : World) (v i : Value) (wr : World) : Prop :=
  ∃ (k : Nat) (sp : List UInt8), k ≤ 8 ∧ i = .int .i64 k ∧ OwnB 5 wr base v ((Sha.eight n).take k) sp ∧ Below base w wr
set_option maxHeartbeats 400000 in
theorem eight_any (n : Nat) (hn : n < 18446744073709551616) (w : World) :
    Calls Try.prog 41 #[.int .u64 n] w fun e w' => ∃ v sp, e = .returned v ∧ OwnB 5 w' w.heap.size v (Sha.eight n) sp ∧ Below w.heap.size w w' := by
  have HN := Lib.hid hn
  clear hn
  go_enter Try.func41, Try.ntmps41
  go_wp2
  go_loopw [3, 4] (fun v i wr => EightRel n w.heap.size w v i wr) (fun _ i _ => 8 - (intOf i).toNat)
  case atStart => exact ⟨0, [], by omega, rfl, OwnsC.nil _ _ _ _, Below.refl _ _⟩
  case round =>
    obtain ⟨k, sp, hk, rfl, ho, hbel⟩ := hrel
    obtain ⟨M, hM⟩ : ∃ M, M = (Sha.eight n).take k := ⟨_, rfl⟩
    have hMl : M.length ≤ 8 := by rw [hM, List.length_take, Sha.eight_length]; omega
    by_cases hk8 : k < 8
    · obtain ⟨x, hx⟩ : ∃ x, x = UInt8.ofNat (n / 2 ^ (56 - 8 * k) % 256) := ⟨_, rfl⟩
      have eb : ((n : Int) / 2 ^ (56 - 8 * k) % 256) = iu8 x := by rw [hx]; exact u64_div_byte n k
      have HX := Lib.hid hx
      rw [← hM] at ho
      have HM := Lib.hid hM
      obtain ⟨A3, c3, rfl, _, _, _, _⟩ := OwnsC.reads ho
      have hsz := hbel.size
      have hlit : Bytes (wr.alloc (.cells #[.int .u8 (iu8 x)] 5)) (some ⟨wr.heap.size, 0, none⟩) [x] := bytes_lit wr _ [x]
      replace ho := OwnB.alloc ho (.cells #[.int .u8 (iu8 x)] 5)
      clear hx hM
      go_wp2_with (show wpList _ _ _ ((⟨some 17, _, _, _, _, _⟩ : Oper) :: _) _ _; refine wpList_append_bytes (o := ⟨some 17, _, _, _, _, _⟩) (by rfl) _ _ _ (by rfl) w.heap.size _ Try.underlying27 u8info (.slice A3 M.length c3) M sp (by rfl) ho (some ⟨wr.heap.size, 0, none⟩) 1 [x] (by rfl) hlit (by simp; omega) (by simp; omega) ?_; intro v3 w9 sp3 ho3 hg3 _ _; have hb3 := (hbel.alloc hsz (.cells #[.int .u8 (iu8 x)] 5)).grown hg3 (by simp; omega) (fun k hk => (OwnsC.lt ho k hk).1); clear hlit ho hg3 hbel)
      go_roundw
      case rel => exact ⟨k + 1, sp3, by omega, by go_num, by rw [HM.out, HX.out, ← Sha.eight_take _ _ hk8] at ho3; exact ho3, hb3⟩
      case measure => simp [intOf]; omega
    · obtain rfl : k = 8 := by omega
      rw [List.take_of_length_le (by rw [Sha.eight_length]; omega)] at ho
      clear hM hMl
      go_wp2
      go_ret
      exact ⟨_, sp, rfl, ho, hbel⟩
theorem size8m : (Try.prog.info? 76).map (·.size) = some 8 := by kernel_rfl
set_option maxHeartbeats 400000 in
set_option maxRecDepth 100000 in
theorem table_any (w : World) : Calls Try.prog 43 #[] w fun e w' => e = .returned (.agg karr) ∧ Below w.heap.size w w' := by
  have a64 := alloc64
  have hz := Blk.new w 78 zero64
  go_enter Try.func43, Try.ntmps43
  go_wp2_with (first | (show wpList _ _ _ ((⟨some 1, .build _ _, _, _, _, _⟩ : Oper) :: _) _ _; (refine wpList_run (o := ⟨some 1, .build _ _, _, _, _, _⟩) (.agg karr) (by rfl) (by kernel_rfl) ?_)) | (show wpList _ _ _ ((⟨none, _, _, _, _, _⟩ : Oper) :: _) _ _; (refine wpList_store_blk (o := ⟨none, _, _, _, _, _⟩) hz (by rfl) _ _ _ (by rfl) (by rfl) karr (by kernel_rfl) size64 zero64_size karr_size karr_one ?_; intro w1 h1 hu1)))
  refine bodyPost_ret (results_cell_row (by rfl) _ _ _ _ _ _ _ (by rfl) h1 Try.underlying78 (by rfl) size64) rfl ⟨rfl, ((Below.refl _ _).alloc (Nat.le_refl _) _).upd hu1 (Nat.le_refl _)⟩
set_option maxHeartbeats 400000 in
theorem begin_any (w : World) : Calls Try.prog 42 #[] w fun e w' => e = .returned (.agg (st8 Sha.init)) ∧ Below w.heap.size w w' := by
  have hz := zero8_new 76 w
  go_enter Try.func42, Try.ntmps42
  go_wp2_with (first | (show wpList _ _ _ ((⟨some 1, .build _ _, _, _, _, _⟩ : Oper) :: _) _ _; (refine wpList_run (o := ⟨some 1, .build _ _, _, _, _, _⟩) (.agg (st8 Sha.init)) (by rfl) (by kernel_rfl) ?_)) | (show wpList _ _ _ ((⟨none, _, _, _, _, _⟩ : Oper) :: _) _ _; (refine wpList_store_blk (o := ⟨none, _, _, _, _, _⟩) hz (by rfl) _ _ _ (by rfl) (by rfl) (st8 Sha.init) (by rfl) size8m zero8_size (st8_size _) (st8_one _) ?_; intro w1 h1 hu1)))
  refine bodyPost_ret (results_cell_row (by rfl) _ _ _ _ _ _ _ (by rfl) h1 Try.underlying76 (by rfl) size8m) rfl ⟨rfl, ((Below.refl _ _).alloc (Nat.le_refl _) _).upd hu1 (Nat.le_refl _)⟩

theorem OwnB.grown_ {e : TypeId} {w w' : World} {base : Nat} {v : Value} {l sp : List UInt8} (h : OwnB e w base v l sp) (hb : Below w.heap.size w w') : OwnB e w' base v l sp := OwnsC.ownBelow h hb
/-- Ahead of each nought that is put behind. -/
def ZeroRel (w : World) (l : List UInt8) (v : Value) (wr : World) : Prop :=
  ∃ (i : Nat) (sp : List UInt8), i ≤ Sha.zeros l.length ∧ OwnB 5 wr (w.heap.size + 1) v (l ++ 128 :: List.replicate i 0) sp ∧ Blk wr w.heap.size 57 zero16 ∧ Below w.heap.size w wr
/-- Ahead of each block of the padded bytes. -/
def LoopRel (w : World) (H K : Nat) (l : List UInt8) (A : Option Addr) (v : Value) (wr : World) : Prop :=
  ∃ (j : Nat), 64 * j ≤ (Sha.pad l).length ∧ v = .int .i64 (64 * (j : Int)) ∧ Bytes wr A (Sha.pad l) ∧ SInv 76 w wr H K (Sha.blks (Sha.pad l) Sha.init j)
/-- The 16 bytes, of which the first i have been laid. -/
def rarr (x : Sha.St) (i : Nat) : Array Value := arr 16 fun k => if k < i then u8v (Sha.outAt x k) else .int .u8 0
theorem rarr_zero (x : Sha.St) : zero16 = rarr x 0 := arr_congr fun i _ => by simp
theorem rarr_all (x : Sha.St) : rarr x 16 = ((Sha.out x).map u8v).toArray := by
  unfold Sha.out
  rw [List.map_map, arr_list]
  exact arr_congr fun i h => by simp [h]
theorem rarr_set (x : Sha.St) (i : Nat) : (rarr x i).setIfInBounds i (.int .u8 (iu8 (Sha.outAt x i))) = rarr x (i + 1) := by
  unfold rarr
  rw [arr_set]
  refine arr_congr fun k _ => ?_
  by_cases h : k = i
  · subst h; simp [u8v]
  · rw [if_neg h]
    by_cases hk : k < i
    · rw [if_pos hk, if_pos (by omega)]
    · rw [if_neg hk, if_neg (by omega)]
/-- Ahead of each byte of the seal. -/
def OutRel (w : World) (H K D : Nat) (x : Sha.St) (v : Value) (wr : World) : Prop :=
  ∃ i : Nat, i ≤ 16 ∧ v = .int .i64 (i : Int) ∧ SInv 76 w wr H K x ∧ Blk wr D 57 (rarr x i)
set_option maxHeartbeats 1000000 in
set_option maxRecDepth 100000 in
theorem rsum_any (A : Option Addr) (c : Nat) (l : List UInt8) (hc : l.length ≤ c) (hc2 : l.length ≤ 140737488351232 ∧ c ≤ 9223372036854775807) (w : World) (hb : Bytes w A l) :
    Calls Try.prog 28 #[.slice A l.length c] w fun e w' => e = .returned (.agg ((Sha.sum l).map u8v).toArray) ∧ Below w.heap.size w w' := by
  have a16 := alloc16
  have HZ := Lib.hid (Sha.zeros_lt l.length)
  have hz16 : Blk ((w.alloc (.cells zero16 57)).alloc (.cells #[] 5)) w.heap.size 57 zero16 := (Blk.new _ _ _).alloc _
  have hbz : Below w.heap.size w ((w.alloc (.cells zero16 57)).alloc (.cells #[] 5)) := ((Below.refl _ _).alloc (Nat.le_refl _) _).alloc (by simp) _
  have hb1 : Bytes ((w.alloc (.cells zero16 57)).alloc (.cells #[] 5)) A l := hb.below hbz
  have ho0 : OwnB 5 ((w.alloc (.cells zero16 57)).alloc (.cells #[] 5)) (w.heap.size + 1) (.slice (some ⟨w.heap.size + 1, 0, none⟩) 0 0) [] [] := by
    have := OwnsC.lit (e := 5) (size := 1) (base := w.heap.size + 1) (w.alloc (.cells zero16 57)) #[] 0 (by simp) (by simp) (by simp)
    unfold OwnB; simpa using this
  go_enter Try.func28, Try.ntmps28
  go_wp2_with (first
    | (show wpList _ _ _ ((⟨some 11, _, _, _, _, _⟩ : Oper) :: _) _ _; (refine wpList_append_bytes (o := ⟨some 11, _, _, _, _, _⟩) (by rfl) _ _ _ (by rfl) (w.heap.size + 1) _ Try.underlying27 u8info (.slice (some ⟨w.heap.size + 1, 0, none⟩) 0 0) [] [] (by rfl) ho0 A c l (by rfl) hb1 (by simp; omega) (by simp) ?_; intro v1 w1 sp1 ho1 hg1 _ _; replace hbz := hbz.grown hg1 (by simp; omega) (fun k hk => by have := (OwnsC.lt ho0 k hk).1; omega); replace hz16 := (hg1.block _ hz16.lt (fun e => by have := (OwnsC.lt ho0 _ e.symm).1; omega)).trans hz16; clear hb1 ho0 hg1; replace ho1 := OwnB.alloc ho1 (.cells #[.int .u8 128] 5); have hsz1 := hbz.size; have hlit : Bytes (w1.alloc (.cells #[.int .u8 128] 5)) (some ⟨w1.heap.size, 0, none⟩) [128] := bytes_lit w1 _ [128]))
    | (show wpList _ _ _ ((⟨some 14, _, _, _, _, _⟩ : Oper) :: _) _ _; (refine wpList_append_bytes (o := ⟨some 14, _, _, _, _, _⟩) (by rfl) _ _ _ (by rfl) (w.heap.size + 1) _ Try.underlying27 u8info v1 ([] ++ l) sp1 (by rfl) ho1 (some ⟨w1.heap.size, 0, none⟩) 1 [128] (by rfl) hlit (by simp; omega) (by have := Blk.lt hz16; simp; omega) ?_; intro v2 w2 sp2 ho2 hg2 _ _; have hbz2 := (hbz.alloc hsz1 (.cells #[.int .u8 128] 5)).grown hg2 (by simp; omega) (fun k hk => by have := (OwnsC.lt ho1 k hk).1; omega); have hz2 := (hg2.block _ (Blk.alloc hz16 _).lt (fun e => by have := (OwnsC.lt ho1 _ e.symm).1; omega)).trans (Blk.alloc hz16 (.cells #[.int .u8 128] 5)); clear hbz hz16 hlit ho1 hg2 hsz1)))
  have ho3 : OwnB 5 w2 (w.heap.size + 1) v2 (l ++ 128 :: List.replicate 0 0) sp2 := by simpa using ho2
  clear ho2
  go_loopw [3] (fun v wr => ZeroRel w l v wr) (fun v _ => l.length + 100 - lenOf v)
  case atStart => exact ⟨0, _, by omega, ho3, hz2, hbz2⟩
  case round =>
    clear ho3 hz2 hbz2
    obtain ⟨i, sp, hi, ho, hrr, hbel⟩ := hrel
    obtain ⟨A2, c2, hv, _, _, _, _⟩ := OwnsC.reads ho
    subst hv
    obtain ⟨L, hL⟩ : ∃ L, L = l ++ 128 :: List.replicate i 0 := ⟨_, rfl⟩
    rw [← hL] at ho ⊢
    have hLl : L.length = l.length + 1 + i := by rw [hL]; simp; omega
    have HL := Lib.hid hL
    have HLl := Lib.hid hLl
    have hsz := hbel.size
    have hzl := HZ.out
    by_cases hlt : i < Sha.zeros l.length
    · have ht1 : (((L.length : Nat) : Int) % 64 != 56) = true := by rw [bne_iff_ne]; have := Sha.zeros_not' hlt; rw [← hLl] at this; omega
      have hLle : L.length ≤ 140737488351400 := by omega
      have hLlt : L.length < l.length + 100 := by omega
      have hlit : Bytes (wr.alloc (.cells #[.int .u8 0] 5)) (some ⟨wr.heap.size, 0, none⟩) [0] := bytes_lit wr _ [0]
      replace ho := OwnB.alloc ho (.cells #[.int .u8 0] 5)
      have hrlt := hrr.lt
      clear hL hLl hzl
      go_wp2_with (show wpList _ _ _ ((⟨some 21, _, _, _, _, _⟩ : Oper) :: _) _ _; refine wpList_append_bytes (o := ⟨some 21, _, _, _, _, _⟩) (by rfl) _ _ _ (by rfl) (w.heap.size + 1) _ Try.underlying27 u8info (.slice A2 L.length c2) L sp (by rfl) ho (some ⟨wr.heap.size, 0, none⟩) 1 [0] (by rfl) hlit (by simp; omega) (by simp; omega) ?_; intro v3 w9 sp3 ho3 hg3 _ _; have hb3 := (hbel.alloc hsz (.cells #[.int .u8 0] 5)).grown hg3 (by simp; omega) (fun k hk => by have := (OwnsC.lt ho k hk).1; omega); have hz3 := (hg3.block _ (Blk.alloc hrr _).lt (fun e => by have := (OwnsC.lt ho _ e.symm).1; omega)).trans (Blk.alloc hrr (.cells #[.int .u8 0] 5)); clear hlit ho hg3 hbel hrr)
      obtain ⟨A3, c3, hv3, _⟩ := OwnsC.reads ho3
      subst hv3
      go_roundw
      case rel => exact ⟨i + 1, sp3, by omega, by have e : L ++ [0] = l ++ 128 :: List.replicate (i + 1) 0 := by { rw [HL.out]; simp [List.replicate_succ'] }; rw [← e]; exact ho3, hz3, hb3⟩
      case measure => simp [lenOf]; omega
    · have e : i = Sha.zeros l.length := by omega
      subst e
      have ht1 : (((L.length : Nat) : Int) % 64 != 56) = false := by
        have := Sha.zeros_is' l.length
        rw [← hLl] at this
        have h2 : ((L.length : Nat) : Int) % 64 = 56 := by omega
        rw [h2]; rfl
      have hLle : L.length ≤ 140737488351400 := by omega
      clear hL hLl hzl
      go_wp2_with fail
      refine (eight_any (8 * l.length) (by omega) _).mono ?_
      rintro e w3 ⟨v8, sp8, rfl, ho8, hb8⟩
      obtain ⟨m, hm⟩ : ∃ m, m = Sha.eight (8 * l.length) := ⟨_, rfl⟩
      rw [← hm] at ho8
      have hml : m.length ≤ 8 := by rw [hm, Sha.eight_length]; omega
      obtain ⟨A8, c8, hv8, _, _, hr8, _⟩ := OwnsC.reads ho8
      subst hv8
      have hr8b : Bytes w3 A8 m := hr8
      replace ho := OwnB.grown_ ho hb8
      replace hrr := hrr.below hb8 hrr.lt
      replace hbel := hbel.trans (hb8.mono hsz)
      have hP : L ++ m = Sha.pad l := by rw [HL.out, hm, Sha.pad, Sha.tail, Nat.mul_comm]; simp
      have hsz3 := hbel.size
      have hrlt := hrr.lt
      have HP := Lib.hid hP
      clear hm hr8 ho8 hP hb8 hsz
      go_wp2_with (first
        | (show wpList _ _ _ ((⟨some 28, _, _, _, _, _⟩ : Oper) :: _) _ _; refine wpList_append_bytes (o := ⟨some 28, _, _, _, _, _⟩) (by rfl) _ _ _ (by rfl) (w.heap.size + 1) _ Try.underlying27 u8info (.slice A2 L.length c2) L sp (by rfl) ho A8 c8 m (by rfl) hr8b (by omega) (by omega) ?_; intro v4 w4 sp4 ho4 hg4 _ _; have hb4 := hbel.grown hg4 hsz3 (fun k hk => by have := (OwnsC.lt ho k hk).1; omega); have hz4 : Blk w4 w.heap.size 57 zero16 := (hg4.block _ hrlt (fun e => by have := (OwnsC.lt ho _ e.symm).1; omega)).trans hrr; clear ho hg4 hbel hrr hr8b hsz3 hrlt)
        | fail)
      refine (begin_any _).mono ?_
      rintro e w5 ⟨rfl, hb5⟩
      have ho5 := OwnB.grown_ ho4 hb5
      have hz5 := hz4.below hb5 hz4.lt
      have hbel5 := hb4.trans (hb5.mono hb4.size)
      have hH8 := zero8_new 76 w5
      have hz5' := hz5.alloc (.cells #[.int .u32 0, .int .u32 0, .int .u32 0, .int .u32 0, .int .u32 0, .int .u32 0, .int .u32 0, .int .u32 0] 76)
      have hlt5 := hz5.lt
      rw [HP.out] at ho5
      clear ho4 hz4 hb4 hb5 hz5
      have hge : ∀ k, v4.ownBlock = some k → k < w5.heap.size := fun k hk => (OwnsC.lt ho5 k hk).2
      have HG := Lib.hid hge
      have HO5 := Lib.hid ho5
      clear hge ho5
      go_wp2_with (first
        | (show wpList _ _ _ ((⟨none, .store _ (.tmp 4) (.tmp 29), _, _, _, _⟩ : Oper) :: _) _ _; (refine wpList_store_blk (o := ⟨none, _, _, _, _, _⟩) hH8 (by rfl) _ _ _ (by rfl) (by rfl) (st8 Sha.init) (by rfl) size8m zero8_size (st8_size _) (st8_one _) ?_; intro w6 h6 hu6; have hz6 := hz5'.upd hu6 (by omega); have hbel6 := (hbel5.alloc (by omega) (.cells #[.int .u32 0, .int .u32 0, .int .u32 0, .int .u32 0, .int .u32 0, .int .u32 0, .int .u32 0, .int .u32 0] 76)).upd hu6 (by omega); have ho6 := (OwnB.alloc HO5.out (.cells #[.int .u32 0, .int .u32 0, .int .u32 0, .int .u32 0, .int .u32 0, .int .u32 0, .int .u32 0, .int .u32 0] 76)).upd hu6 (fun hk => by have := HG.out _ hk; omega); have hs6 := hu6.size; clear hu6 hH8 hz5' hbel5))
        | fail)
      refine (table_any _).mono ?_
      rintro e w7 ⟨rfl, hb7⟩
      have hH7 := (h6.below hb7 h6.lt).alloc (.cells zero64 78)
      have hz7 := (hz6.below hb7 hz6.lt).alloc (.cells zero64 78)
      have hbel7 := (hbel6.trans (hb7.mono hbel6.size)).alloc (by have := hbel6.size; have := hb7.size; omega) (.cells zero64 78)
      have ho7 := OwnB.alloc (OwnB.grown_ ho6 hb7) (.cells zero64 78)
      have HO7 := Lib.hid ho7
      have hK7 := Blk.new w7 78 zero64
      have hlt7 := (h6.below hb7 h6.lt).lt
      clear h6 hz6 hbel6 ho6 hb7 ho7 hs6
      generalize w5.heap.size = H at hlt5 hH7 hlt7 HG ⊢
      go_wp2_with (first
        | (show wpList _ _ _ ((⟨none, .store _ (.tmp 5) (.tmp 30), _, _, _, _⟩ : Oper) :: _) _ _; (refine wpList_store_blk (o := ⟨none, _, _, _, _, _⟩) hK7 (by rfl) _ _ _ (by rfl) (by rfl) karr (by rfl) size64 zero64_size karr_size karr_one ?_; intro w8 h8 hu8; have hI : SInv 76 w w8 H w7.heap.size Sha.init := ⟨hH7.upd hu8 (by omega), h8, hz7.upd hu8 (by omega), hlt5, hlt7, hbel7.upd hu8 (by omega)⟩; have ho8 := HO7.out.upd hu8 (fun hk => by have := HG.out _ hk; omega); clear hu8 hK7 hH7 hz7 hbel7))
        | fail)
      generalize w7.heap.size = K at hI hlt7 ⊢
      obtain ⟨A4, c4, hv4, _, _, hr4, _⟩ := OwnsC.reads ho8
      subst hv4
      have hne : ∀ ad, A4 = some ad → ad.block ≠ H := fun ad hd => by have := HG.out ad.block (by rw [hd]; rfl); omega
      have hr : Bytes w8 A4 (Sha.pad l) := hr4
      have hplen : (Sha.pad l).length ≤ 140737488351400 := by have := HZ.out; rw [Sha.pad_length]; omega
      have hpm := Sha.pad_mod l
      have HPM := Lib.hid hpm
      clear hr4 ho8 hpm
      go_loopw [6] (fun v wr => LoopRel w H K l A4 v wr) (fun v _ => (Sha.pad l).length - (intOf v).toNat)
      case atStart => exact ⟨0, by omega, rfl, hr, hI⟩
      case round =>
        clear hI hr
        obtain ⟨j, hj, rfl, hr, hI⟩ := hrel
        by_cases hlt : 64 * j < (Sha.pad l).length
        · have hpm := HPM.out
          have hge : 64 * j + 64 ≤ (Sha.pad l).length := by omega
          clear hpm
          obtain ⟨b, off, hA, hbl, hcell⟩ := hr.at_ (by omega)
          subst hA
          have HC := Lib.hid hcell
          have HR := Lib.hid hr
          have HP2 := Lib.hid hge
          clear hcell hr hge
          go_wp2_with (first
            | (show wpList _ _ _ ((⟨some 37, _, _, _, _, _⟩ : Oper) :: _) _ _; refine wpList_load_blk (o := ⟨some 37, _, _, _, _, _⟩) hI.hh (by rfl) _ _ (by rfl) (by rfl) _ Try.underlying76 (by rfl) size8m (st8_size _) ?_)
            | (show wpList _ _ _ ((⟨some 38, _, _, _, _, _⟩ : Oper) :: _) _ _; refine wpList_load_blk (o := ⟨some 38, _, _, _, _, _⟩) hI.kk (by rfl) _ _ (by rfl) (by rfl) _ Try.underlying78 (by rfl) size64 karr_size ?_)
            | fail)
          refine (rblock_any (Sha.blks (Sha.pad l) Sha.init j) b off _ c4 (Sha.pad l) (64 * j) rfl HP2.out (by omega) _ hbl HC.out).mono ?_
          rintro e w9 ⟨rfl, hb9⟩
          replace hI := hI.below hb9
          have hr9 := Bytes.below HR.out hb9
          have HR9 := Lib.hid hr9
          clear hr9 hb9
          go_wp2_with (show wpList _ _ _ ((⟨none, .store _ (.tmp 4) (.tmp 41), _, _, _, _⟩ : Oper) :: _) _ _; refine wpList_store_blk (o := ⟨none, _, _, _, _, _⟩) hI.hh (by rfl) _ _ _ (by rfl) (by rfl) (st8 (Sha.blk (Sha.blks (Sha.pad l) Sha.init j) (Sha.pad l) (64 * j))) (by rfl) size8m (st8_size _) (st8_size _) (st8_one _) ?_; intro w6 h6 hu6; have hI6 := hI.stored h6 hu6; have hr6 := HR9.out.upd hu6 hne; have HR6 := Lib.hid hr6; clear hr6 hu6 hI h6)
          go_roundw
          case rel => exact ⟨j + 1, by have := HP2.out; omega, by go_num, HR6.out, hI6⟩
          case measure => have := HP2.out; simp [intOf]; omega
        · have hpm := HPM.out
          have HS := Lib.hid (show j = (Sha.pad l).length / 64 by omega)
          have hjl : 64 * j = (Sha.pad l).length := by omega
          have HJ := Lib.hid hjl
          have ht : decide (64 * (j : Int) < ((Sha.pad l).length : Int)) = false := by simp; omega
          clear hpm hlt hr hjl
          obtain ⟨x, hx⟩ : ∃ x, x = Sha.blks (Sha.pad l) Sha.init j := ⟨_, rfl⟩
          rw [← hx] at hI
          have HX := Lib.hid (show Sha.sum l = Sha.out x by rw [hx, HS.out]; rfl)
          clear hx
          have hD : Blk (wr.alloc (.cells zero16 57)) wr.heap.size 57 (rarr x 0) := (Blk.new _ _ _).sub (rarr_zero x)
          have hKD := hI.kk.lt
          have hI2 := hI.alloc (.cells zero16 57)
          go_wp2
          generalize wr.heap.size = D at hD hKD ⊢
          go_loopw [8] (fun v wr => OutRel w H K D x v wr) (fun v _ => 16 - (intOf v).toNat)
          case atStart => exact ⟨0, by omega, rfl, hI2, hD⟩
          case round =>
            clear hI hI2 hD
            obtain ⟨i, hi, rfl, hI, hD⟩ := hrel
            by_cases hi4 : i < 16
            · obtain ⟨q, hq⟩ : ∃ q, q = i / 4 := ⟨_, rfl⟩
              obtain ⟨r, hr⟩ : ∃ r, r = i % 4 := ⟨_, rfl⟩
              have hq4 : q < 8 := by omega
              have hr4 : r < 4 := by omega
              have eq1 : (i : Int) / 4 = (q : Int) := by omega
              have er1 : (i : Int) % 4 = (r : Int) := by omega
              obtain ⟨y, hy⟩ : ∃ y, y = Sha.get x q := ⟨_, rfl⟩
              have cy := (hI.hh.cell q).trans (st8_get x q (by omega))
              rw [← hy] at cy
              have hb0 : iu32 y / 2 ^ (24 - 8 * r) % 256 = iu8 (Sha.byte y r) := byte_eq y r
              have ho : Sha.outAt x i = Sha.byte y r := by rw [hy, hq, hr]; rfl
              have HO := Lib.hid ho
              have d0 := (hD.cell i).trans (arr_at _ hi4)
              have f0 := hD.frozen i
              clear hy hq hr ho
              go_wp2
              go_roundw
              case rel =>
                have h1 := hD.set_ i (.int .u8 (iu8 (Sha.byte y r)))
                rw [← HO.out, rarr_set x i] at h1
                exact ⟨i + 1, by omega, by go_num, hI.off hKD _, by rw [← HO.out]; exact h1⟩
              case measure => simp [intOf]; omega
            · obtain rfl : i = 16 := by omega
              rw [rarr_all] at hD
              go_wp2_with (first
                | (show wpList _ _ _ ((⟨some 58, _, _, _, _, _⟩ : Oper) :: _) _ _; refine wpList_load_blk (o := ⟨some 58, _, _, _, _, _⟩) hD (by rfl) _ _ (by rfl) (by rfl) _ Try.underlying57 (by rfl) size16 (by simp [Sha.out]) ?_)
                | (show wpList _ _ _ ((⟨none, .store _ (.tmp 2) (.tmp 58), _, _, _, _⟩ : Oper) :: _) _ _; refine wpList_store_blk (o := ⟨none, _, _, _, _, _⟩) hI.rr (by rfl) _ _ _ (by rfl) (by rfl) ((Sha.out x).map u8v).toArray (by rfl) size16 (arr_size _ _) (by simp [Sha.out]) (u8_all _) ?_; intro w6 h6 hu6; have hbel := hI.bel.upd hu6 (Nat.le_refl _); clear hu6 hI hD))
              refine bodyPost_ret (results_cell_row (by rfl) _ _ _ _ _ _ _ (by rfl) h6 Try.underlying57 (by rfl) (size16.trans (by simp [Sha.out]))) rfl ⟨?_, hbel⟩
              rw [HX.out]
end Go.Proofs.Ytekdcjaljjlemaa

/- What the functions of the layer of seals answer: the seal compared, bytes sealed, bytes opened; the program's and the document's. Conditions: the bytes can be read; they are at most 2^47 - 5000. -/
namespace Go
open Go.RowKit
theorem u8v_cell : Extern.Stop.cell = u8v := funext fun _ => rfl
theorem wpList_eql_bytes {P : Program} {w : World} {Q : Exit → Act → World → Prop} {ops : Array Oper} {rest : List Oper} {o : Oper} {a : Act} (hgd : o.guard = none) (t e r : TypeId) (x y : Operand) (ho : o.op = .binOp .eql t x y r) (n : Nat)
    (ht : P.underlying t = some (.array n e)) (he : P.underlying e = some (.int .u8)) (hsz : (P.info? e).map (·.size) = some 1) (hm : P.eqGuardType P.depth t = false)
    (l l' : List UInt8) (hx : a.eval x = .agg (l.map u8v).toArray) (hy : a.eval y = .agg (l'.map u8v).toArray) (hl : l.length = n) (hl' : l'.length = n)
    (h : wpList P ops Q rest (a.put o.dst (.bool (decide (l = l')))) w) : wpList P ops Q (o :: rest) a w := by
  refine wpList_run (.bool (decide (l = l'))) hgd ?_ h
  obtain ⟨i, hi, hs⟩ := Option.map_eq_some_iff.1 hsz
  have hsz' : ∀ w, (sizeOf e).run P w = .ok 1 w := fun w => by simp [sizeOf, typeInfo, hi, hs]
  have h1 := run_eql_bytes (P := P) w t e n ht he hsz' l l' hl hl'
  rw [u8v_cell] at h1
  have h2 : (l == l') = decide (l = l') := by by_cases h : l = l' <;> simp [h]
  rw [h2] at h1
  unfold execOp
  simp only [ho, hx, hy, Sem.run_bind, run_eqGuard_agg w .eql t x y _ _ hm, h1, Result.andThen_ok, Sem.run_pure]
/-- A load of a whole array out of the middle of a block. -/
theorem wpQuiet_load_mid {P : Program} {ops : Array Oper} {C : World → Prop} {Q : Act → Prop} {rest : List Oper} {o : Oper} {a : Act} {b off : Nat} {cs : List Value} (hb : ∀ w, C w → w.rangeAt b off cs) (hgd : o.guard = none) (ty : TypeId) (x : Operand) (ho : o.op = .load ty x)
    (hx : a.eval x = .pointer (some ⟨b, off, none⟩)) (d : TypeDesc) (hu : P.underlying ty = some d) (hd : d.isRow = true) {n : Nat} (hi : (P.info? ty).map (·.size) = some n) (hn : cs.length = n)
    (h : wpQuiet P ops C Q rest (a.put o.dst (.agg cs.toArray))) : wpQuiet P ops C Q (o :: rest) a := by
  refine wpQuiet_step fun K hK => ?_
  rw [if_pos (by simp [Region.wanted, hgd])]
  refine ⟨_, fun w hw => ?_, hK _ h⟩
  unfold Oper.quietAt execOp
  simp only [ho, hx, Instr.loadAt, Instr.sureAddr, Sem.run_bind, Sem.run_pure, Result.andThen_ok, run_loadVar_mid w b off ty cs d (hb w hw) hu hd (hn ▸ hi)]
  exact ⟨rfl, rfl⟩
theorem run_cut {P : Program} (w : World) (t e : TypeId) (ht : P.underlying t = some (.slice e)) (hsz : (P.info? e).map (·.size) = some 1) (A : Option Addr) (n c : Nat) (k : IntKind) (K : Nat) (hK : K ≤ n) :
    (Instr.sliceAt t (.slice A n c) (some (.int k (K : Int))) none none).run P w = .ok (.slice (if c = K then A else A.map (·.add K)) (n - K) (c - K)) w := by
  obtain ⟨i, hi, hs⟩ := Option.map_eq_some_iff.1 hsz
  have hsz' : (sizeOf e).run P w = .ok 1 w := by simp [sizeOf, typeInfo, hi, hs]
  have hb : (Instr.sliceBound (.int k (K : Int)) n .sliceB).run P w = .ok K w := by
    have := run_sliceBound (P := P) w k (K : Int) n .sliceB (by omega) (by omega)
    simpa using this
  simp [Instr.sliceAt, Instr.slice, run_underlying ht, Instr.sliceBounds, hb, hsz']
/-- s[k:] of bytes. -/
theorem wpList_cut_bytes {P : Program} {w : World} {Q : Exit → Act → World → Prop} {ops : Array Oper} {rest : List Oper} {o : Oper} {a : Act} (hgd : o.guard = none) (t : TypeId) (x lo : Operand) (ho : o.op = .slice t x (some lo) none none) (e : TypeId)
    (ht : P.underlying t = some (.slice e)) (hsz : (P.info? e).map (·.size) = some 1) (A : Option Addr) (n c : Nat) (k : IntKind) (K : Nat) (hx : a.eval x = .slice A n c) (hlo : a.eval lo = .int k (K : Int)) (l : List UInt8) (hn : n = l.length) (hK : K ≤ n) (hc : n ≤ c) (hb : Bytes w A l)
    (h : ∀ A', Bytes w A' (l.drop K) → (∀ ad, A' = some ad → ∃ ad0, A = some ad0 ∧ ad0.block = ad.block) → wpList P ops Q rest (a.put o.dst (.slice A' (l.drop K).length (c - K))) w) : wpList P ops Q (o :: rest) a w := by
  refine wpList_run (.slice (if c = K then A else A.map (·.add K)) (n - K) (c - K)) hgd (by unfold execOp; simp only [ho, hx, hlo, Option.map_some, Option.map_none, run_cut w t e ht hsz A n c k K hK, Sem.run_bind, Result.andThen_ok, Sem.run_pure]) ?_
  have hlen : n - K = (l.drop K).length := by rw [List.length_drop, hn]
  rw [hlen]
  refine h _ (hb.drop (by omega)) fun ad had => ?_
  split at had
  · exact ⟨ad, had, rfl⟩
  · cases A with
    | none => cases had
    | some ad0 => simp only [Option.map_some, Option.some.injEq] at had; exact ⟨ad0, rfl, by rw [← had]; unfold Addr.add; split <;> rfl⟩
/-- A slice as a pointer to an array. -/
theorem wpQuiet_array {P : Program} {ops : Array Oper} {C : World → Prop} {Q : Act → Prop} {rest : List Oper} {o : Oper} {a : Act} (hgd : o.guard = none) (t : TypeId) (x : Operand) (ho : o.op = .sliceToArrayPointer t x)
    (m : Nat) (e : TypeId) (hu : P.underlying t = some (.array m e)) (A : Option Addr) (n c : Nat) (hx : a.eval x = .slice A n c) (hmn : m ≤ n)
    (h : wpQuiet P ops C Q rest (a.put o.dst (.pointer A))) : wpQuiet P ops C Q (o :: rest) a := by
  refine wpQuiet_step fun K hK => ?_
  rw [if_pos (by simp [Region.wanted, hgd])]
  refine ⟨_, fun w hw => ?_, hK _ h⟩
  unfold Oper.quietAt execOp
  have hn : ¬ n < m := by omega
  simp only [ho, hx, Instr.arrayAt, Sem.run_bind, run_underlying hu, hn, if_false, Sem.run_pure, Result.andThen_ok]
  exact ⟨rfl, rfl⟩
theorem OwnB.made {e : TypeId} {w : World} {base g m : Nat} (h : Blk w g e ((List.replicate m 0).map u8v).toArray) (hb : base ≤ g) (hm : m ≤ 140737488400000 ∧ m ≤ maxLen) : OwnB e w base (.slice (some ⟨g, 0, none⟩) 0 m) [] (List.replicate m 0) :=
  .inr ⟨g, m, rfl, hb, by simpa using h, Nat.zero_le _, hm.2, rfl, by simp⟩
theorem OwnB.lit0 {e : TypeId} (w : World) {base : Nat} (hb : base ≤ w.heap.size) : OwnB e (w.alloc (.cells #[] e)) base (.slice (some ⟨w.heap.size, 0, none⟩) 0 0) [] [] := by
  have := OwnsC.lit (e := e) (size := 1) (base := base) w #[] 0 hb (by simp) (by simp)
  unfold OwnB; simpa using this
namespace Proofs.Ytekdcjaljjlemaa
theorem nosel : Try.prog.eqGuardType Try.prog.depth 57 = false := by kernel_rfl
theorem Sha.sum_length (l : List UInt8) : (Sha.sum l).length = 16 := by simp [Sha.sum, Sha.out]
set_option maxHeartbeats 400000 in
theorem right_seal_any (A : Option Addr) (n c : Nat) (l s : List UInt8) (hn : n = l.length) (hc : l.length ≤ c) (hc2 : l.length ≤ 140737488351232 ∧ c ≤ 9223372036854775807) (hs : s.length = 16) (w : World) (hb : Bytes w A l) :
    Calls Try.prog 32 #[.slice A n c, .agg (s.map u8v).toArray] w fun e w' => e = .returned (.bool (decide (Sha.sum l = s))) ∧ Below w.heap.size w w' := by
  subst hn
  have hg : Blk (w.alloc (.cells (s.map u8v).toArray 57)) w.heap.size 57 (s.map u8v).toArray := Blk.new _ _ _
  have h0 : Below w.heap.size w (w.alloc (.cells (s.map u8v).toArray 57)) := (Below.refl _ _).alloc (Nat.le_refl _) _
  go_enter Try.func32, Try.ntmps32
  go_wp2_with fail
  generalize hw1 : w.alloc (.cells (s.map u8v).toArray 57) = w1 at hg h0 ⊢
  have hsz : w1.heap.size = w.heap.size + 1 := by rw [← hw1]; simp
  clear hw1
  have hs16 := Sha.sum_length l
  have hst : ∀ w', Below w1.heap.size w1 w' → Calls Try.prog 25 #[.slice A l.length c] w' fun e w'' => e = .returned (.agg ((Sha.sum l).map u8v).toArray) ∧ Below w1.heap.size w1 w'' := fun w' hw' =>
    (sum_any A c l hc hc2 w' (Bytes.below (Bytes.below hb h0) hw')).mono fun e w'' h => ⟨h.1, hw'.trans (h.2.mono hw'.size)⟩
  generalize hS : Sha.sum l = S at hst hs16
  refine wp_region_mix (Below w1.heap.size w1) [0] [1, 2] 3 [4] (by kernel_rfl) (by kernel_rfl) (fun c a a' w h q => ⟨h ▸ q.1, q.2⟩) (Below.refl _ _).drew ?_
  dsimp only [List.filterMap, List.getElem?_cons_zero, List.getElem?_cons_succ]
  repeat (go_big_quiet_step (fail))
  refine wpQuiet_nil ?_
  refine wpQuiet_call Try.call25 (by rfl) _ _ (by rfl) _ (by rfl) _ hst ?_
  simp only [Act.put, List.setIfInBounds_toArray, List.set_cons_zero, List.set_cons_succ]
  refine wpQuiet_load_blk (fun w' hw' => hg.below hw' hg.lt) (by rfl) _ _ (by rfl) (by rfl) _ Try.underlying57 (by rfl) size16 (by simp [hs]) ?_
  simp only [Act.put, List.setIfInBounds_toArray, List.set_cons_zero, List.set_cons_succ]
  refine wpQuiet_nil ?_
  intro w5 hw5
  go_wp2_with (show wpList _ _ _ ((⟨some 8, _, _, _, _, _⟩ : Oper) :: _) _ _; refine wpList_eql_bytes (o := ⟨some 8, _, _, _, _, _⟩) (by rfl) _ _ _ _ _ (by rfl) 16 Try.underlying57 Try.underlying5 size1 nosel S s (by rfl) (by rfl) hs16 hs ?_)
  go_ret
  exact ⟨by rw [hS]; rfl, h0.trans (hw5.mono (by omega))⟩
/-- The bytes, sealed. -/
def Sha.seal_ (l : List UInt8) : List UInt8 := Sha.sum l ++ l
/-- What the bytes are when they are opened: the error's number, and what is told. -/
def Sha.opened (l : List UInt8) : Int × List UInt8 := if l.length < 16 then (4, []) else if Sha.sum (l.drop 16) = l.take 16 then (0, l.drop 16) else (12, [])
end Proofs.Ytekdcjaljjlemaa
end Go
