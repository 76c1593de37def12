/- How a slot is by its bytes: what the program tells. Conditions: the bytes can be read; the slot is one. -/
import Derived.Test.YtfoegmjpfkmggaaGreatDoorMJournalTurned13
namespace Go.Proofs.YtfoegmjpfkmggaaGreatDoor
open Go.RowKit
def stv (x : Int × Int × Int × Bool) : Value := .agg #[.int .i64 x.1, .int .i64 x.2.1, .int .i64 x.2.2.1, .bool x.2.2.2]
theorem sizeSt : (Tryz.prog.info? 44).map (·.size) = some 4 := by kernel_rfl
theorem st_one (a b c : Int) (d : Bool) : (#[Value.int .i64 a, .int .i64 b, .int .i64 c, .bool d] : Array Value).all (·.oneCell') = true := by simp [Value.oneCell']
theorem Slot.kind_cases (b : List UInt8) (k : Int) : (Slot.kind b k).1 = 0 ∨ (Slot.kind b k).1 = 1 ∨ (Slot.kind b k).1 = 2 := by
  unfold Slot.kind
  by_cases h1 : (Hd.read b).1 ≠ 0
  · rw [if_pos h1]; exact .inl rfl
  rw [if_neg h1]
  by_cases h2 : b = Hd.bytes (Slot.fU k) []
  · rw [if_pos h2]; exact .inr (.inl rfl)
  rw [if_neg h2]
  by_cases h3 : Slot.is (Hd.parse b) k = true
  · rw [if_pos h3]; exact .inr (.inr rfl)
  · rw [if_neg h3]; exact .inl rfl
set_option maxRecDepth 100000 in
set_option maxHeartbeats 4000000 in
theorem judge_any (A B : Option Addr) (n c m d : Nat) (h p : List UInt8) (k : Int) (hk : 0 ≤ k ∧ k < 16) (hn : n = h.length ∧ n ≤ c ∧ c ≤ 9223372036854775807) (hm : m = p.length ∧ m ≤ d ∧ m ≤ 140737488351232 ∧ d ≤ 9223372036854775807) (w : World) (hbh : Bytes w A h) (hbp : Bytes w B p) :
    Calls Tryz.prog 47 #[.slice A n c, .slice B m d, .int .i64 k] w fun e w' => e = .returned (stv (Slot.judge h p k)) ∧ Below w.heap.size w w' := by
  have hg0 := Blk.new w 44 #[.int .i64 0, .int .i64 0, .int .i64 0, .bool false]
  have hB0 := (Below.refl w.heap.size w).alloc (Nat.le_refl _) (.cells #[.int .i64 0, .int .i64 0, .int .i64 0, .bool false] 44)
  have HN := Lib.hid hn
  have HM := Lib.hid hm
  have HK := Lib.hid hk
  have hk1 : decide (k < 0) = false := by rw [decide_eq_false_iff_not]; omega
  have hk2 : decide (k ≥ 16) = false := by rw [decide_eq_false_iff_not]; omega
  clear hn hm hk
  go_enter Tryz.func47, Tryz.ntmps47
  go_wp2_with fail
  generalize w.alloc (.cells #[.int .i64 0, .int .i64 0, .int .i64 0, .bool false] 44) = w1 at hg0 hB0 ⊢
  obtain ⟨g0, hgn⟩ : ∃ g0, g0 = w.heap.size := ⟨_, rfl⟩
  have HGE : Hid (w.heap.size ≤ g0) := Lib.hid (by omega)
  rw [← hgn] at hg0 ⊢
  clear hgn hk1 hk2
  refine (sprep_any B m d p k HM.out.1 HM.out.2.1 HM.out.2.2 w1 (Bytes.below hbp hB0)).mono ?_
  have hlt1 := hg0.lt
  rintro e w2 ⟨V, rfl, ⟨sp2, ho2⟩, hbx⟩
  (replace hg0 := keep hbx hg0)
  have HB2 := Lib.hid (hB0.trans (hbx.mono hB0.size))
  clear hB0 hbx
  obtain ⟨q, hq⟩ : ∃ x, x = (Slot.prep p k).1 := ⟨_, rfl⟩
  obtain ⟨F, hF⟩ : ∃ x, x = (Slot.prep p k).2.1 := ⟨_, rfl⟩
  obtain ⟨D, hD⟩ : ∃ x, x = (Slot.prep p k).2.2 := ⟨_, rfl⟩
  rw [← hD] at ho2
  rw [← hq, ← hF]
  have HPR := Lib.hid (And.intro hq (And.intro hF hD))
  clear hq hF hD
  obtain ⟨V2, vn, vc, rfl⟩ := OwnB.slice ho2
  clear ho2
  have hgl := hg0.lt
  go_wp2_with (first
    | ((with_reducible show wpList _ _ _ ((⟨none, _, _, _, _, _⟩ : Oper) :: _) _ _); refine wpList_store_blk (o := ⟨none, _, _, _, _, _⟩) ((Blk.new w2 41 #[.int .i64 0, .int .i64 0, .int .i64 0, .int .i64 0, .int .i64 0, .int .i64 0, .int .i64 0, .int .i64 0, .int .i64 0, .int .u64 0, .int .u64 0, .int .i64 0, .int .i64 0, .int .u64 0, .int .i64 0, .int .i64 0, .slice none 0 0])) (by rfl) _ _ _ (by rfl) (by rfl) (msgc F (.slice V2 vn vc)) (by rfl) (sizeMsg) (by rfl) (msgc_size _ _) (msgc_one _ _ rfl) ?_; intro w3 h7 hu3; have hbx := ((Below.refl w2.heap.size w2).alloc (Nat.le_refl _) (.cells #[.int .i64 0, .int .i64 0, .int .i64 0, .int .i64 0, .int .i64 0, .int .i64 0, .int .i64 0, .int .i64 0, .int .i64 0, .int .u64 0, .int .u64 0, .int .i64 0, .int .i64 0, .int .u64 0, .int .i64 0, .int .i64 0, .slice none 0 0] 41)).upd hu3 (Nat.le_refl _); (replace hg0 := keep hbx hg0); have HB3 := Lib.hid (HB2.out.trans (hbx.mono HB2.out.size)); clear hbx hu3 HB2)
    | fail)
  have hbh3 := Bytes.below hbh HB3.out
  have hgl := hg0.lt
  have hgl7 := h7.lt
  refine (shead_any A n c h k HK.out HN.out.1 HN.out.2.1 HN.out.2.2 w3 hbh3).mono ?_
  rintro e w4 ⟨rfl, hbx⟩
  (replace hg0 := keep hbx hg0; replace h7 := keep hbx h7)
  have HB4 := Lib.hid (HB3.out.trans (hbx.mono HB3.out.size))
  clear hbx HB3 hbh3
  obtain ⟨kd, hkd⟩ : ∃ x, x = (Slot.kind h k).1 := ⟨_, rfl⟩
  obtain ⟨G, hG⟩ : ∃ x, x = (Slot.kind h k).2 := ⟨_, rfl⟩
  rw [← hkd, ← hG]
  have hkc := Slot.kind_cases h k
  rw [← hkd] at hkc
  have HKD := Lib.hid (And.intro hkd hG)
  clear hkd hG
  have hgl := hg0.lt
  have hgl7 := h7.lt
  have hJ0 := Lib.hid (show Slot.judge h p k = Slot.put (q, F, D) (kd, G) (decide (h = p.take 256)) (p.all (· == 0)) by
    rw [Slot.judge_in h p k HK.out, HPR.out.1, HPR.out.2.1, HPR.out.2.2, HKD.out.1, HKD.out.2])
  go_wp2_with (first
    | ((with_reducible show wpList _ _ _ ((⟨none, _, _, _, _, _⟩ : Oper) :: _) _ _); refine wpList_store_blk (o := ⟨none, _, _, _, _, _⟩) (((Blk.new w4 38 #[.int .i64 0, .int .i64 0, .int .i64 0, .int .i64 0, .int .i64 0, .int .i64 0, .int .i64 0, .int .i64 0, .int .i64 0, .int .u64 0, .int .u64 0, .int .i64 0, .int .i64 0, .int .u64 0, .int .i64 0, .int .i64 0]).sub zeroHd_cells.symm)) (by rfl) _ _ _ (by rfl) (by rfl) (hdc G) (by rfl) (sizeHd) (hdc_size _) (hdc_size _) (hdc_one _) ?_; intro w6 h9x hu6; have hbx := ((Below.refl w4.heap.size w4).alloc (Nat.le_refl _) (.cells #[.int .i64 0, .int .i64 0, .int .i64 0, .int .i64 0, .int .i64 0, .int .i64 0, .int .i64 0, .int .i64 0, .int .i64 0, .int .u64 0, .int .u64 0, .int .i64 0, .int .i64 0, .int .u64 0, .int .i64 0, .int .i64 0] 38)).upd hu6 (Nat.le_refl _); (replace hg0 := keep hbx hg0; replace h7 := keep hbx h7); have HB6 := Lib.hid (HB4.out.trans (hbx.mono HB4.out.size)); clear hbx hu6 HB4)
    | fail)
  generalize w2.heap.size = g7 at h7 hgl7 ⊢
  generalize w4.heap.size = g9 at h9x ⊢
  have hgl7 := h7.lt
  have hgl9 := h9x.lt
  have hgl := hg0.lt
  have hH5 := Bytes.below hbh HB6.out
  have hP5 := (Bytes.below hbp HB6.out).take 256
  rcases hkc with rfl | rfl | rfl
  · cases q
    · have hJ := Lib.hid (show Slot.judge h p k = (3, 0, 0, false) by rw [hJ0.out]; simp [Slot.put])
      refine wp_region_tree (Below w6.heap.size w6) [] (PlanT.takes [0, 1, 2, 3, 4, 5, 6, 8, 9] (PlanT.takes [7, 10] (PlanT.takes [11, 12, 13] .done))) (by kernel_rfl) (by kernel_rfl) ((Below.refl _ _).drew) ?_
      refine wpTree_pure _ _ _ (by rfl) (by rfl) ?_
      dsimp only [List.filterMap, List.getElem?_cons_zero, List.getElem?_cons_succ]
      repeat (go_big_quiet_step (fail))
      refine wpQuiet_nil ?_
      refine wpTree_takeL _ _ _ (by rfl) (by rfl) ((Below.refl _ _).drew) ?_
      dsimp only [List.filterMap, List.getElem?_cons_zero, List.getElem?_cons_succ]
      go_big_quiet_step (fail)
      go_big_quiet_step (fail)
      refine wpQuiet_nil ?_
      refine wpTree_pure _ _ _ (by rfl) (by rfl) ?_
      dsimp only [List.filterMap, List.getElem?_cons_zero, List.getElem?_cons_succ]
      repeat (go_big_quiet_step (fail))
      refine wpQuiet_nil ?_
      refine wpTree_done ?_
      have hC := (Below.refl w6.heap.size w6).drew
      have HB := Lib.hid (HB6.out.trans (hC.mono HB6.out.size))
      (replace hg0 := keep hC hg0; replace h7 := keep hC h7; replace h9x := keep hC h9x)
      clear HB6 hC
      clear h7 h9x hH5 hP5
      go_wp2_with (first
        | ((with_reducible show wpList _ _ _ ((⟨none, _, _, _, _, _⟩ : Oper) :: _) _ _); refine wpList_store_blk (o := ⟨none, _, _, _, _, _⟩) (hg0) (by rfl) _ _ _ (by rfl) (by rfl) (#[.int .i64 3, .int .i64 0, .int .i64 0, .bool false]) (by rfl) (sizeSt) (by rfl) (by rfl) (st_one _ _ _ _) ?_; intro w9 h9 hu9)
        | fail)
      refine bodyPost_ret (results_cell_row (by rfl) _ _ _ _ _ _ _ (by rfl) h9 Tryz.underlying44 (by rfl) sizeSt) rfl ⟨by rw [hJ.out]; rfl, HB.out.upd hu9 HGE.out⟩
    · have hJ := Lib.hid (show Slot.judge h p k = (1, F 5, F 3, true) by rw [hJ0.out]; simp [Slot.put])
      refine wp_region_tree (Below w6.heap.size w6) [] (PlanT.takes [0, 1, 2, 3, 4, 5, 6, 8, 9] (PlanT.takes [7, 10] (PlanT.takes [11, 12, 13] .done))) (by kernel_rfl) (by kernel_rfl) ((Below.refl _ _).drew) ?_
      refine wpTree_pure _ _ _ (by rfl) (by rfl) ?_
      dsimp only [List.filterMap, List.getElem?_cons_zero, List.getElem?_cons_succ]
      repeat (go_big_quiet_step (fail))
      refine wpQuiet_nil ?_
      refine wpTree_takeL _ _ _ (by rfl) (by rfl) ((Below.refl _ _).drew) ?_
      dsimp only [List.filterMap, List.getElem?_cons_zero, List.getElem?_cons_succ]
      go_big_quiet_step (fail)
      go_big_quiet_step (fail)
      refine wpQuiet_nil ?_
      refine wpTree_pure _ _ _ (by rfl) (by rfl) ?_
      dsimp only [List.filterMap, List.getElem?_cons_zero, List.getElem?_cons_succ]
      repeat (go_big_quiet_step (fail))
      refine wpQuiet_nil ?_
      refine wpTree_done ?_
      have hC := (Below.refl w6.heap.size w6).drew
      have HB := Lib.hid (HB6.out.trans (hC.mono HB6.out.size))
      (replace hg0 := keep hC hg0; replace h7 := keep hC h7; replace h9x := keep hC h9x)
      clear HB6 hC
      have d3 := h7.at_ 5 (msgc_at F _ 5 (by omega))
      have d4 := h7.at_ 3 (msgc_at F _ 3 (by omega))
      clear h7 h9x hH5 hP5
      go_wp2_with (first
        | ((with_reducible show wpList _ _ _ ((⟨none, _, _, _, _, _⟩ : Oper) :: _) _ _); refine wpList_store_blk (o := ⟨none, _, _, _, _, _⟩) (hg0) (by rfl) _ _ _ (by rfl) (by rfl) (#[.int .i64 1, .int .i64 (F 5), .int .i64 (F 3), .bool true]) (by rfl) (sizeSt) (by rfl) (by rfl) (st_one _ _ _ _) ?_; intro w9 h9 hu9)
        | fail)
      refine bodyPost_ret (results_cell_row (by rfl) _ _ _ _ _ _ _ (by rfl) h9 Tryz.underlying44 (by rfl) sizeSt) rfl ⟨by rw [hJ.out]; rfl, HB.out.upd hu9 HGE.out⟩
  · cases q
    · have hJ := Lib.hid (show Slot.judge h p k = if p.all (· == 0) = true then (4, 0, 0, false) else (2, 0, 0, false) by rw [hJ0.out]; simp [Slot.put])
      refine wp_region_tree (Below w6.heap.size w6) [] (PlanT.takes [0, 1, 2, 3, 4, 5, 6, 8, 9] (PlanT.takes [7, 10] (PlanT.takes [11, 12, 13] .done))) (by kernel_rfl) (by kernel_rfl) ((Below.refl _ _).drew) ?_
      refine wpTree_pure _ _ _ (by rfl) (by rfl) ?_
      dsimp only [List.filterMap, List.getElem?_cons_zero, List.getElem?_cons_succ]
      repeat (go_big_quiet_step (fail))
      refine wpQuiet_nil ?_
      refine wpTree_takeL _ _ _ (by rfl) (by rfl) ((Below.refl _ _).drew) ?_
      dsimp only [List.filterMap, List.getElem?_cons_zero, List.getElem?_cons_succ]
      go_big_quiet_step (fail)
      go_big_quiet_step (fail)
      refine wpQuiet_nil ?_
      refine wpTree_pure _ _ _ (by rfl) (by rfl) ?_
      dsimp only [List.filterMap, List.getElem?_cons_zero, List.getElem?_cons_succ]
      repeat (go_big_quiet_step (fail))
      refine wpQuiet_nil ?_
      refine wpTree_done ?_
      have hC := (Below.refl w6.heap.size w6).drew
      have HB := Lib.hid (HB6.out.trans (hC.mono HB6.out.size))
      (replace hg0 := keep hC hg0; replace h7 := keep hC h7; replace h9x := keep hC h9x)
      clear HB6 hC
      clear h7 h9x hH5 hP5
      go_wp2_with fail
      have hpw := Bytes.below hbp HB.out
      refine (trim_any B m d p HM.out.1 ⟨by have := HM.out; omega, by have := HM.out; omega⟩ _ hpw).mono ?_
      rintro e w7 ⟨T, tn, tc, rfl, ht, hbx⟩
      have hsz := HB.out.size
      (replace hg0 := keep hbx hg0)
      have HB7 := Lib.hid (HB.out.trans (hbx.mono hsz))
      have HT := Lib.hid ht
      clear hbx HB ht hpw
      have HB := HB7
      by_cases h0 : tn = 0
      · have hJ := Lib.hid (show Slot.judge h p k = (4, 0, 0, false) by rw [hJ.out, if_pos (HT.out.1 h0)])
        subst h0
        go_wp2_with (first
          | ((with_reducible show wpList _ _ _ ((⟨none, _, _, _, _, _⟩ : Oper) :: _) _ _); refine wpList_store_blk (o := ⟨none, _, _, _, _, _⟩) (hg0) (by rfl) _ _ _ (by rfl) (by rfl) (#[.int .i64 4, .int .i64 0, .int .i64 0, .bool false]) (by rfl) (sizeSt) (by rfl) (by rfl) (st_one _ _ _ _) ?_; intro w9 h9 hu9)
          | fail)
        refine bodyPost_ret (results_cell_row (by rfl) _ _ _ _ _ _ _ (by rfl) h9 Tryz.underlying44 (by rfl) sizeSt) rfl ⟨by rw [hJ.out]; rfl, HB.out.upd hu9 HGE.out⟩
      · have hJ := Lib.hid (show Slot.judge h p k = (2, 0, 0, false) by rw [hJ.out, if_neg (fun e => h0 (HT.out.2 e))])
        have hz : ((tn : Int) == 0) = false := by rw [beq_eq_false_iff_ne]; omega
        clear h0
        go_wp2_with (first
          | ((with_reducible show wpList _ _ _ ((⟨none, _, _, _, _, _⟩ : Oper) :: _) _ _); refine wpList_store_blk (o := ⟨none, _, _, _, _, _⟩) (hg0) (by rfl) _ _ _ (by rfl) (by rfl) (#[.int .i64 2, .int .i64 0, .int .i64 0, .bool false]) (by rfl) (sizeSt) (by rfl) (by rfl) (st_one _ _ _ _) ?_; intro w9 h9 hu9)
          | fail)
        refine bodyPost_ret (results_cell_row (by rfl) _ _ _ _ _ _ _ (by rfl) h9 Tryz.underlying44 (by rfl) sizeSt) rfl ⟨by rw [hJ.out]; rfl, HB.out.upd hu9 HGE.out⟩
    · have hJ := Lib.hid (show Slot.judge h p k = (1, F 5, F 3, true) by rw [hJ0.out]; simp [Slot.put])
      refine wp_region_tree (Below w6.heap.size w6) [] (PlanT.takes [0, 1, 2, 3, 4, 5, 6, 8, 9] (PlanT.takes [7, 10] (PlanT.takes [11, 12, 13] .done))) (by kernel_rfl) (by kernel_rfl) ((Below.refl _ _).drew) ?_
      refine wpTree_pure _ _ _ (by rfl) (by rfl) ?_
      dsimp only [List.filterMap, List.getElem?_cons_zero, List.getElem?_cons_succ]
      repeat (go_big_quiet_step (fail))
      refine wpQuiet_nil ?_
      refine wpTree_takeL _ _ _ (by rfl) (by rfl) ((Below.refl _ _).drew) ?_
      dsimp only [List.filterMap, List.getElem?_cons_zero, List.getElem?_cons_succ]
      go_big_quiet_step (fail)
      go_big_quiet_step (fail)
      refine wpQuiet_nil ?_
      refine wpTree_pure _ _ _ (by rfl) (by rfl) ?_
      dsimp only [List.filterMap, List.getElem?_cons_zero, List.getElem?_cons_succ]
      repeat (go_big_quiet_step (fail))
      refine wpQuiet_nil ?_
      refine wpTree_done ?_
      have hC := (Below.refl w6.heap.size w6).drew
      have HB := Lib.hid (HB6.out.trans (hC.mono HB6.out.size))
      (replace hg0 := keep hC hg0; replace h7 := keep hC h7; replace h9x := keep hC h9x)
      clear HB6 hC
      have d3 := h7.at_ 5 (msgc_at F _ 5 (by omega))
      have d4 := h7.at_ 3 (msgc_at F _ 3 (by omega))
      clear h7 h9x hH5 hP5
      go_wp2_with (first
        | ((with_reducible show wpList _ _ _ ((⟨none, _, _, _, _, _⟩ : Oper) :: _) _ _); refine wpList_store_blk (o := ⟨none, _, _, _, _, _⟩) (hg0) (by rfl) _ _ _ (by rfl) (by rfl) (#[.int .i64 1, .int .i64 (F 5), .int .i64 (F 3), .bool true]) (by rfl) (sizeSt) (by rfl) (by rfl) (st_one _ _ _ _) ?_; intro w9 h9 hu9)
        | fail)
      refine bodyPost_ret (results_cell_row (by rfl) _ _ _ _ _ _ _ (by rfl) h9 Tryz.underlying44 (by rfl) sizeSt) rfl ⟨by rw [hJ.out]; rfl, HB.out.upd hu9 HGE.out⟩
  · cases q
    · have hJ := Lib.hid (show Slot.judge h p k = (3, G 5, G 3, false) by rw [hJ0.out]; simp [Slot.put])
      refine wp_region_tree (Below w6.heap.size w6) [] (PlanT.takes [0, 1, 2, 3, 4, 5, 6, 8, 9] (PlanT.takes [7, 10] (PlanT.takes [11, 12, 13] .done))) (by kernel_rfl) (by kernel_rfl) ((Below.refl _ _).drew) ?_
      refine wpTree_pure _ _ _ (by rfl) (by rfl) ?_
      dsimp only [List.filterMap, List.getElem?_cons_zero, List.getElem?_cons_succ]
      repeat (go_big_quiet_step (fail))
      refine wpQuiet_nil ?_
      refine wpTree_takeL _ _ _ (by rfl) (by rfl) ((Below.refl _ _).drew) ?_
      dsimp only [List.filterMap, List.getElem?_cons_zero, List.getElem?_cons_succ]
      go_big_quiet_step (fail)
      go_big_quiet_step (fail)
      refine wpQuiet_nil ?_
      refine wpTree_pure _ _ _ (by rfl) (by rfl) ?_
      dsimp only [List.filterMap, List.getElem?_cons_zero, List.getElem?_cons_succ]
      repeat (go_big_quiet_step (fail))
      refine wpQuiet_nil ?_
      refine wpTree_done ?_
      have hC := (Below.refl w6.heap.size w6).drew
      have HB := Lib.hid (HB6.out.trans (hC.mono HB6.out.size))
      (replace hg0 := keep hC hg0; replace h7 := keep hC h7; replace h9x := keep hC h9x)
      clear HB6 hC
      have d3 := h9x.at_ 5 (hdc_at9 G 5 (by omega))
      have d4 := h9x.at_ 3 (hdc_at9 G 3 (by omega))
      clear h7 h9x hH5 hP5
      go_wp2_with (first
        | ((with_reducible show wpList _ _ _ ((⟨none, _, _, _, _, _⟩ : Oper) :: _) _ _); refine wpList_store_blk (o := ⟨none, _, _, _, _, _⟩) (hg0) (by rfl) _ _ _ (by rfl) (by rfl) (#[.int .i64 3, .int .i64 (G 5), .int .i64 (G 3), .bool false]) (by rfl) (sizeSt) (by rfl) (by rfl) (st_one _ _ _ _) ?_; intro w9 h9 hu9)
        | fail)
      refine bodyPost_ret (results_cell_row (by rfl) _ _ _ _ _ _ _ (by rfl) h9 Tryz.underlying44 (by rfl) sizeSt) rfl ⟨by rw [hJ.out]; rfl, HB.out.upd hu9 HGE.out⟩
    · have HPL := Lib.hid (show 256 = (p.take 256).length by
        obtain ⟨s, hs, _⟩ := Slot.prep_ok p k HPR.out.1.symm
        rw [List.length_take]; omega)
      have hd256 : 256 ≤ m ∧ 256 ≤ d := by
        obtain ⟨s, hs, _⟩ := Slot.prep_ok p k HPR.out.1.symm
        have := HM.out; omega
      obtain ⟨hd1, hd2⟩ := hd256
      by_cases hs : h = p.take 256
      · have hJ := Lib.hid (show Slot.judge h p k = (1, F 5, F 3, false) by rw [hJ0.out]; simp [Slot.put, hs])
        have hSb := str_beq h (p.take 256)
        rw [decide_eq_true hs] at hSb
        clear hs
        refine wp_region_tree (Below w6.heap.size w6) [] (PlanT.takes [0, 1, 2, 3, 4, 5, 6, 8, 9] (PlanT.takes [7, 10] (PlanT.takes [11, 12, 13] .done))) (by kernel_rfl) (by kernel_rfl) ((Below.refl _ _).drew) ?_
        refine wpTree_pure _ _ _ (by rfl) (by rfl) ?_
        dsimp only [List.filterMap, List.getElem?_cons_zero, List.getElem?_cons_succ]
        repeat (go_big_quiet_step (fail))
        refine wpQuiet_nil ?_
        refine wpTree_takeL _ _ _ (by rfl) (by rfl) ((Below.refl _ _).drew) ?_
        dsimp only [List.filterMap, List.getElem?_cons_zero, List.getElem?_cons_succ]
        (refine wpQuiet_want' (by rfl) ?_; refine wpQuiet_convert_str (by rfl) 39 9 5 _ (by rfl) Tryz.underlying39 Tryz.underlying5 Tryz.underlying9 (A) (n) (c) (h) (by rfl) (HN.out.1) (fun w' hw' => Bytes.below hH5 hw') ?_; simp only [Act.put, List.setIfInBounds_toArray, List.set_cons_zero, List.set_cons_succ])
        (refine wpQuiet_want' (by rfl) ?_; refine wpQuiet_convert_str (by rfl) 39 9 5 _ (by rfl) Tryz.underlying39 Tryz.underlying5 Tryz.underlying9 (B) (256) (d) (p.take 256) (by rfl) (HPL.out) (fun w' hw' => Bytes.below hP5 hw') ?_; simp only [Act.put, List.setIfInBounds_toArray, List.set_cons_zero, List.set_cons_succ])
        refine wpQuiet_nil ?_
        refine wpTree_pure _ _ _ (by rfl) (by rfl) ?_
        dsimp only [List.filterMap, List.getElem?_cons_zero, List.getElem?_cons_succ]
        repeat (go_big_quiet_step (fail))
        refine wpQuiet_nil ?_
        refine wpTree_done ?_
        have hC := (Below.refl w6.heap.size w6).drew
        have HB := Lib.hid (HB6.out.trans (hC.mono HB6.out.size))
        (replace hg0 := keep hC hg0; replace h7 := keep hC h7; replace h9x := keep hC h9x)
        clear HB6 hC
        have d3 := h7.at_ 5 (msgc_at F _ 5 (by omega))
        have d4 := h7.at_ 3 (msgc_at F _ 3 (by omega))
        clear h7 h9x hH5 hP5
        go_wp2_with (first
          | ((with_reducible show wpList _ _ _ ((⟨none, _, _, _, _, _⟩ : Oper) :: _) _ _); refine wpList_store_blk (o := ⟨none, _, _, _, _, _⟩) (hg0) (by rfl) _ _ _ (by rfl) (by rfl) (#[.int .i64 1, .int .i64 (F 5), .int .i64 (F 3), .bool false]) (by rfl) (sizeSt) (by rfl) (by rfl) (st_one _ _ _ _) ?_; intro w9 h9 hu9)
          | fail)
        refine bodyPost_ret (results_cell_row (by rfl) _ _ _ _ _ _ _ (by rfl) h9 Tryz.underlying44 (by rfl) sizeSt) rfl ⟨by rw [hJ.out]; rfl, HB.out.upd hu9 HGE.out⟩
      · have hJ1 := Lib.hid (show Slot.judge h p k = if (decide (G 5 < F 5) || (G 5 == F 5 && decide (G 3 < F 3))) = true then (1, F 5, F 3, true) else (3, G 5, G 3, false) by rw [hJ0.out]; simp [Slot.put, hs])
        have hSb := str_beq h (p.take 256)
        rw [decide_eq_false hs] at hSb
        clear hs
        refine wp_region_tree (Below w6.heap.size w6) [] (PlanT.takes [0, 1, 2, 3, 4, 5, 6, 8, 9] (PlanT.takes [7, 10] (PlanT.takes [11, 12, 13] .done))) (by kernel_rfl) (by kernel_rfl) ((Below.refl _ _).drew) ?_
        refine wpTree_pure _ _ _ (by rfl) (by rfl) ?_
        dsimp only [List.filterMap, List.getElem?_cons_zero, List.getElem?_cons_succ]
        repeat (go_big_quiet_step (fail))
        refine wpQuiet_nil ?_
        refine wpTree_takeL _ _ _ (by rfl) (by rfl) ((Below.refl _ _).drew) ?_
        dsimp only [List.filterMap, List.getElem?_cons_zero, List.getElem?_cons_succ]
        (refine wpQuiet_want' (by rfl) ?_; refine wpQuiet_convert_str (by rfl) 39 9 5 _ (by rfl) Tryz.underlying39 Tryz.underlying5 Tryz.underlying9 (A) (n) (c) (h) (by rfl) (HN.out.1) (fun w' hw' => Bytes.below hH5 hw') ?_; simp only [Act.put, List.setIfInBounds_toArray, List.set_cons_zero, List.set_cons_succ])
        (refine wpQuiet_want' (by rfl) ?_; refine wpQuiet_convert_str (by rfl) 39 9 5 _ (by rfl) Tryz.underlying39 Tryz.underlying5 Tryz.underlying9 (B) (256) (d) (p.take 256) (by rfl) (HPL.out) (fun w' hw' => Bytes.below hP5 hw') ?_; simp only [Act.put, List.setIfInBounds_toArray, List.set_cons_zero, List.set_cons_succ])
        refine wpQuiet_nil ?_
        refine wpTree_pure _ _ _ (by rfl) (by rfl) ?_
        dsimp only [List.filterMap, List.getElem?_cons_zero, List.getElem?_cons_succ]
        repeat (go_big_quiet_step (fail))
        refine wpQuiet_nil ?_
        refine wpTree_done ?_
        have hC := (Below.refl w6.heap.size w6).drew
        have HB := Lib.hid (HB6.out.trans (hC.mono HB6.out.size))
        (replace hg0 := keep hC hg0; replace h7 := keep hC h7; replace h9x := keep hC h9x)
        clear HB6 hC
        have d1 := h9x.at_ 5 (hdc_at9 G 5 (by omega))
        have d2 := h9x.at_ 3 (hdc_at9 G 3 (by omega))
        have d3 := h7.at_ 5 (msgc_at F _ 5 (by omega))
        have d4 := h7.at_ 3 (msgc_at F _ 3 (by omega))
        clear h7 h9x hH5 hP5 hSb hd1 hd2
        cases h1 : decide (G 5 < F 5)
        · cases h2 : (G 5 == F 5)
          · have hJ := Lib.hid (show Slot.judge h p k = (3, G 5, G 3, false) by rw [hJ1.out, h1, h2]; rfl)
            go_wp2_with (first
              | ((with_reducible show wpList _ _ _ ((⟨none, _, _, _, _, _⟩ : Oper) :: _) _ _); refine wpList_store_blk (o := ⟨none, _, _, _, _, _⟩) (hg0) (by rfl) _ _ _ (by rfl) (by rfl) (#[.int .i64 3, .int .i64 (G 5), .int .i64 (G 3), .bool false]) (by rfl) (sizeSt) (by rfl) (by rfl) (st_one _ _ _ _) ?_; intro w9 h9 hu9)
              | fail)
            refine bodyPost_ret (results_cell_row (by rfl) _ _ _ _ _ _ _ (by rfl) h9 Tryz.underlying44 (by rfl) sizeSt) rfl ⟨by rw [hJ.out]; rfl, HB.out.upd hu9 HGE.out⟩
          · cases h3 : decide (G 3 < F 3)
            · have hJ := Lib.hid (show Slot.judge h p k = (3, G 5, G 3, false) by rw [hJ1.out, h1, h2, h3]; rfl)
              go_wp2_with (first
                | ((with_reducible show wpList _ _ _ ((⟨none, _, _, _, _, _⟩ : Oper) :: _) _ _); refine wpList_store_blk (o := ⟨none, _, _, _, _, _⟩) (hg0) (by rfl) _ _ _ (by rfl) (by rfl) (#[.int .i64 3, .int .i64 (G 5), .int .i64 (G 3), .bool false]) (by rfl) (sizeSt) (by rfl) (by rfl) (st_one _ _ _ _) ?_; intro w9 h9 hu9)
                | fail)
              refine bodyPost_ret (results_cell_row (by rfl) _ _ _ _ _ _ _ (by rfl) h9 Tryz.underlying44 (by rfl) sizeSt) rfl ⟨by rw [hJ.out]; rfl, HB.out.upd hu9 HGE.out⟩
            · have hJ := Lib.hid (show Slot.judge h p k = (1, F 5, F 3, true) by rw [hJ1.out, h1, h2, h3]; rfl)
              go_wp2_with (first
                | ((with_reducible show wpList _ _ _ ((⟨none, _, _, _, _, _⟩ : Oper) :: _) _ _); refine wpList_store_blk (o := ⟨none, _, _, _, _, _⟩) (hg0) (by rfl) _ _ _ (by rfl) (by rfl) (#[.int .i64 1, .int .i64 (F 5), .int .i64 (F 3), .bool true]) (by rfl) (sizeSt) (by rfl) (by rfl) (st_one _ _ _ _) ?_; intro w9 h9 hu9)
                | fail)
              refine bodyPost_ret (results_cell_row (by rfl) _ _ _ _ _ _ _ (by rfl) h9 Tryz.underlying44 (by rfl) sizeSt) rfl ⟨by rw [hJ.out]; rfl, HB.out.upd hu9 HGE.out⟩
        · have hJ := Lib.hid (show Slot.judge h p k = (1, F 5, F 3, true) by rw [hJ1.out, h1]; rfl)
          go_wp2_with (first
            | ((with_reducible show wpList _ _ _ ((⟨none, _, _, _, _, _⟩ : Oper) :: _) _ _); refine wpList_store_blk (o := ⟨none, _, _, _, _, _⟩) (hg0) (by rfl) _ _ _ (by rfl) (by rfl) (#[.int .i64 1, .int .i64 (F 5), .int .i64 (F 3), .bool true]) (by rfl) (sizeSt) (by rfl) (by rfl) (st_one _ _ _ _) ?_; intro w9 h9 hu9)
            | fail)
          refine bodyPost_ret (results_cell_row (by rfl) _ _ _ _ _ _ _ (by rfl) h9 Tryz.underlying44 (by rfl) sizeSt) rfl ⟨by rw [hJ.out]; rfl, HB.out.upd hu9 HGE.out⟩
end Go.Proofs.YtfoegmjpfkmggaaGreatDoor

/- A journal's block: its disk, how its slots are. Plain facts; none, up, Slots of a journal that was made. Conditions: the journal is known. -/
namespace Go.Proofs.YtfoegmjpfkmggaaGreatDoor
open Go.RowKit
abbrev SlT := Int × Int × Int × Bool
def slc (s : SlT) : List Value := [.int .i64 s.1, .int .i64 s.2.1, .int .i64 s.2.2.1, .bool s.2.2.2]
def slcs (l : List SlT) : List Value := l.flatMap slc
theorem slcs_cons (s : SlT) (l : List SlT) : slcs (s :: l) = slc s ++ slcs l := rfl
theorem slcs_length (l : List SlT) : (slcs l).length = 4 * l.length := by
  induction l with
  | nil => rfl
  | cons s l ih => rw [slcs_cons, List.length_append, ih]; simp [slc]; omega
theorem slcs_one (l : List SlT) : (slcs l).all (·.oneCell') = true := by
  induction l with
  | nil => rfl
  | cons s l ih => rw [slcs_cons, List.all_append, ih]; simp [slc, Value.oneCell']
theorem slcs_at : ∀ (l : List SlT) (i k : Nat) (_ : k < 4) (h : i < l.length), (slcs l)[4 * i + k]? = (slc l[i])[k]?
  | [], i, k, _, h => by simp at h
  | s :: l, 0, k, hk, h => by
    rw [slcs_cons, List.getElem?_append_left (by simp [slc]; omega)]
    simp
  | s :: l, i + 1, k, hk, h => by
    have hl : (slc s).length = 4 := rfl
    rw [slcs_cons, List.getElem?_append_right (by omega), hl, show 4 * (i + 1) + k - 4 = 4 * i + k by omega, slcs_at l i k hk (by simpa using h)]
    simp
theorem slcs_set : ∀ (l : List SlT) (i : Nat) (x : SlT) (_ : i < l.length) (k : Nat) (_ : k < 4 * l.length), (slcs (l.set i x))[k]? = if 4 * i ≤ k ∧ k < 4 * i + 4 then (slc x)[k - 4 * i]? else (slcs l)[k]?
  | l, i, x, hi, k, hk => by
    have e : k = 4 * (k / 4) + k % 4 := by omega
    have hq : k / 4 < l.length := by omega
    have h1 := slcs_at (l.set i x) (k / 4) (k % 4) (by omega) (by rw [List.length_set]; exact hq)
    have h2 := slcs_at l (k / 4) (k % 4) (by omega) hq
    rw [← e] at h1 h2
    rw [h1, h2, List.getElem_set]
    by_cases hik : i = k / 4
    · rw [if_pos hik, if_pos (by omega), show k - 4 * i = k % 4 by omega]
    · rw [if_neg hik, if_neg (by omega)]
/-- A journal's cells. -/
def jc (gd : Nat) (l : List SlT) : Array Value := (Value.pointer (some ⟨gd, 0, none⟩) :: slcs l).toArray
theorem jc_size (gd : Nat) (l : List SlT) : (jc gd l).size = 4 * l.length + 1 := by unfold jc; simp [slcs_length]
theorem jc_0 (gd : Nat) (l : List SlT) : (jc gd l)[0]? = some (.pointer (some ⟨gd, 0, none⟩)) := by unfold jc; simp
theorem jc_at (gd : Nat) (l : List SlT) (i k : Nat) (hk : k < 4) (h : i < l.length) : (jc gd l)[1 + 4 * i + k]? = (slc l[i])[k]? := by
  unfold jc
  rw [List.getElem?_toArray, show 1 + 4 * i + k = (4 * i + k) + 1 by omega, List.getElem?_cons_succ, slcs_at l i k hk h]
theorem jc_set (gd : Nat) (l : List SlT) (i : Nat) (x : SlT) (h : i < l.length) : setAll (jc gd l) (1 + 4 * i) (slc x) = jc gd (l.set i x) := by
  obtain ⟨a, b, c, d⟩ := x
  apply Array.ext_getElem?
  intro k
  have hs := jc_size gd l
  have hs2 := jc_size gd (l.set i (a, b, c, d))
  rw [List.length_set] at hs2
  have e : setAll (jc gd l) (1 + 4 * i) (slc (a, b, c, d)) = ((((jc gd l).setIfInBounds (1 + 4 * i) (.int .i64 a)).setIfInBounds (1 + 4 * i + 1) (.int .i64 b)).setIfInBounds (1 + 4 * i + 1 + 1) (.int .i64 c)).setIfInBounds (1 + 4 * i + 1 + 1 + 1) (.bool d) := rfl
  rw [e]
  by_cases hk : k < 4 * l.length + 1
  · rcases k with _ | k
    · rw [jc_0, Array.getElem?_setIfInBounds_ne (by omega), Array.getElem?_setIfInBounds_ne (by omega), Array.getElem?_setIfInBounds_ne (by omega), Array.getElem?_setIfInBounds_ne (by omega), jc_0]
    · have hr : (jc gd (l.set i (a, b, c, d)))[k + 1]? = (slcs (l.set i (a, b, c, d)))[k]? := by unfold jc; rw [List.getElem?_toArray, List.getElem?_cons_succ]
      have hl : (jc gd l)[k + 1]? = (slcs l)[k]? := by unfold jc; rw [List.getElem?_toArray, List.getElem?_cons_succ]
      rw [hr, slcs_set l i _ h k (by omega)]
      by_cases c0 : 4 * i ≤ k ∧ k < 4 * i + 4
      · rw [if_pos c0]
        obtain ⟨m, hm⟩ : ∃ m, m = k - 4 * i := ⟨_, rfl⟩
        have hm4 : m < 4 := by omega
        rw [← hm, show k + 1 = 1 + 4 * i + m by omega]
        have h3 : 1 + 4 * i + 1 + 1 + 1 < 4 * l.length + 1 := by omega
        rcases (by omega : m = 0 ∨ m = 1 ∨ m = 2 ∨ m = 3) with rfl | rfl | rfl | rfl
        · rw [show 1 + 4 * i + 0 = 1 + 4 * i from rfl, Array.getElem?_setIfInBounds_ne (by omega), Array.getElem?_setIfInBounds_ne (by omega), Array.getElem?_setIfInBounds_ne (by omega), Array.getElem?_setIfInBounds_self_of_lt (by rw [hs]; omega)]; rfl
        · rw [Array.getElem?_setIfInBounds_ne (by omega), Array.getElem?_setIfInBounds_ne (by omega), Array.getElem?_setIfInBounds_self_of_lt (by simp only [Array.size_setIfInBounds, hs]; omega)]; rfl
        · rw [show 1 + 4 * i + 2 = 1 + 4 * i + 1 + 1 by omega, Array.getElem?_setIfInBounds_ne (by omega), Array.getElem?_setIfInBounds_self_of_lt (by simp only [Array.size_setIfInBounds, hs]; omega)]; rfl
        · rw [show 1 + 4 * i + 3 = 1 + 4 * i + 1 + 1 + 1 by omega, Array.getElem?_setIfInBounds_self_of_lt (by simp only [Array.size_setIfInBounds, hs]; omega)]; rfl
      · rw [if_neg c0, Array.getElem?_setIfInBounds_ne (by omega), Array.getElem?_setIfInBounds_ne (by omega), Array.getElem?_setIfInBounds_ne (by omega), Array.getElem?_setIfInBounds_ne (by omega), hl]
  · rw [Array.getElem?_eq_none (by simp only [Array.size_setIfInBounds, hs]; omega), Array.getElem?_eq_none (by rw [hs2]; omega)]
/-- A journal that was made, on a disk that is up. -/
structure JR (w : World) (gj : Nat) (p : Pl) (L : List UInt8) (l : List SlT) : Prop where
  jd : JD w p L
  jb : Blk w gj 91 (jc p.gd l)
  n16 : l.length = 16
section
variable {w w' : World} {gj : Nat} {p : Pl} {L : List UInt8} {l : List SlT}
theorem JR.near (h : JR w gj p L l) (k : Near [] w w') : JR w' gj p L l := ⟨h.jd.near k, h.jb.near k (by simp), h.n16⟩
theorem JR.below (h : JR w gj p L l) (k : Below w.heap.size w w') : JR w' gj p L l := h.near (Near.below k)
theorem JR.off (h : JR w gj p L l) : gj ∉ p.all none := by
  obtain ⟨⟨d, ⟨⟨es, c, ⟨h1, h2, h3⟩, _⟩, _, _⟩, _⟩, hb, _⟩ := h
  have e1 := hb.apart h1 (by decide)
  have e2 := hb.apart h2 (by decide)
  have e3 := hb.offMap h3
  unfold Pl.all
  simp [e1, e2, e3]
theorem JR.lt (h : JR w gj p L l) : gj < w.heap.size := h.jb.lt
set_option maxRecDepth 100000 in
theorem jnone_any (h : JR w gj p L l) : Calls Tryz.prog 29 #[.pointer (some ⟨gj, 0, none⟩)] w fun e w' => e = .returned (.bool false) ∧ w' = w := by
  have d0 := h.jb.at_ 0 (jc_0 _ _)
  clear h
  go_enter Tryz.func29, Tryz.ntmps29
  go_wp2
  go_ret
  exact ⟨rfl, rfl⟩
set_option maxRecDepth 100000 in
theorem jup_any (h : JR w gj p L l) : Calls Tryz.prog 48 #[.pointer (some ⟨gj, 0, none⟩)] w fun e w' => e = .returned (.int .i64 0) ∧ w' = w := by
  have d0 := h.jb.at_ 0 (jc_0 _ _)
  have hn := jnone_any h
  obtain ⟨d, hd, _, ho, _⟩ := h.jd
  have hu := up_all hd.dr hd.fr
  rw [show d.isOut none = false by simp [Dsk.isOut, ho]] at hu
  clear h hd ho
  go_enter Tryz.func48, Tryz.ntmps48
  go_wp2_with fail
  refine hn.mono ?_
  rintro e w1 ⟨rfl, hw⟩
  obtain rfl := hw.symm
  clear hw hn
  go_wp2_with fail
  refine hu.mono ?_
  rintro e w1 ⟨rfl, hw⟩
  obtain rfl := hw.symm
  clear hw hu
  go_wp2
  go_ret
  exact ⟨rfl, rfl⟩
end
end Go.Proofs.YtfoegmjpfkmggaaGreatDoor

/- The journal's all: functions done one behind the other. Conditions: each one answers that all went well. -/
namespace Go.Proofs.YtfoegmjpfkmggaaGreatDoor
open Go.RowKit
def JAllRel (P : Nat → World → Prop) (n : Nat) (v : Value) (wr : World) : Prop := ∃ i : Nat, i ≤ n ∧ v = .int .i64 (i : Int) ∧ P i wr
set_option maxRecDepth 100000 in
set_option maxHeartbeats 1000000 in
theorem jall_any (fs : List (Nat × Array Value × Array Value)) (g n c : Nat) (P : Nat → World → Prop) (w : World) (hn : n = fs.length) (hm : n ≤ 1000)
    (hcell : ∀ i w' (h : i < fs.length), P i w' → w'.cell? ⟨g, i, none⟩ = some (.func (.func fs[i].1) fs[i].2.1 fs[i].2.2))
    (hcall : ∀ i (h : i < fs.length) (args : Array Value) (w : World), (callFunc fs[i].1 args).run Tryz.prog w = .ok (.enter fs[i].1 args) w)
    (hstep : ∀ i w' (h : i < fs.length), P i w' → Calls Tryz.prog fs[i].1 (fs[i].2.1 ++ fs[i].2.2) w' fun e w'' => e = .returned (.int .i64 0) ∧ P (i + 1) w'')
    (h0 : P 0 w) :
    Calls Tryz.prog 32 #[.slice (some ⟨g, 0, none⟩) n c] w fun e w' => e = .returned (.int .i64 0) ∧ P n w' := by
  have HN := Lib.hid (And.intro hn hm)
  have H0 := Lib.hid h0
  have HC := Lib.hid (And.intro hcell (And.intro hcall hstep))
  clear hn hm h0 hcell hcall hstep
  go_enter Tryz.func32, Tryz.ntmps32
  go_wp2_with fail
  go_loopw [8] (fun v wr => JAllRel P n v wr) (fun v _ => n - (intOf v).toNat)
  case atStart => exact ⟨0, Nat.zero_le _, rfl, H0.out⟩
  case round =>
    obtain ⟨i, hi, rfl, hP⟩ := hrel
    have hm := HN.out.2
    by_cases hlt : i < n
    · have hil : i < fs.length := by rw [← HN.out.1]; exact hlt
      have d0 := HC.out.1 i wr hil hP
      have hcl := HC.out.2.1 i hil
      have hS := Lib.hid (HC.out.2.2 i wr hil hP)
      generalize fs[i] = f at d0 hcl hS
      obtain ⟨k, b, cp⟩ := f
      dsimp only at d0 hcl hS
      clear hP hil
      go_wp2_with fail
      refine hS.out.mono ?_
      rintro e w1 ⟨rfl, hP⟩
      have HP := Lib.hid hP
      clear hP hS hcl d0
      go_wp2
      exact ⟨⟨i + 1, by omega, by go_num, HP.out⟩, by simp [intOf]; omega⟩
    · obtain rfl : i = n := by omega
      have HP := Lib.hid hP
      clear hP
      go_wp2
      go_ret
      exact ⟨rfl, HP.out⟩
end Go.Proofs.YtfoegmjpfkmggaaGreatDoor

/- The rings' bytes: a slot's header, a slot's prepare, behind what is written. Plain facts. No condition. -/
namespace Go
def jhd (L : List UInt8) (n : Nat) : List UInt8 := (L.drop (256 * (8 + n))).take 256
def jpr (L : List UInt8) (n : Nat) : List UInt8 := (L.drop (256 * (24 + 5 * n))).take 1280
theorem jhd_length {L : List UInt8} {n : Nat} (h : 26624 ≤ L.length) (hn : n < 16) : (jhd L n).length = 256 := by unfold jhd; rw [List.length_take, List.length_drop]; omega
theorem jpr_length {L : List UInt8} {n : Nat} (h : 26624 ≤ L.length) (hn : n < 16) : (jpr L n).length = 1280 := by unfold jpr; rw [List.length_take, List.length_drop]; omega
theorem jhd_wr_hd {L b : List UInt8} {m n : Nat} (h : 26624 ≤ L.length) (hb : b.length = 256) (hm : m < 16) (hn : n < 16) : jhd (wr L (256 * (8 + m)) b) n = if n = m then b else jhd L n := by
  unfold jhd
  by_cases e : n = m
  · subst e
    rw [if_pos rfl, wr_in (by omega) (Nat.le_refl _) (by omega), Nat.sub_self, List.drop_zero, ← hb, List.take_length]
  · rw [if_neg e, wr_off (by omega) (by omega)]
theorem jpr_wr_hd {L b : List UInt8} {m n : Nat} (h : 26624 ≤ L.length) (hb : b.length = 256) (hm : m < 16) : jpr (wr L (256 * (8 + m)) b) n = jpr L n := by
  unfold jpr
  rw [wr_off (by omega) (by omega)]
theorem jhd_wr_pr {L b : List UInt8} {m n : Nat} (h : 26624 ≤ L.length) (hb : b.length = 1280) (hm : m < 16) (hn : n < 16) : jhd (wr L (256 * (24 + 5 * m)) b) n = jhd L n := by
  unfold jhd
  rw [wr_off (by omega) (by omega)]
theorem jpr_wr_pr {L b : List UInt8} {m n : Nat} (h : 26624 ≤ L.length) (hb : b.length = 1280) (hm : m < 16) (_hn : n < 16) : jpr (wr L (256 * (24 + 5 * m)) b) n = if n = m then b else jpr L n := by
  unfold jpr
  by_cases e : n = m
  · subst e
    rw [if_pos rfl, wr_in (by omega) (Nat.le_refl _) (by omega), Nat.sub_self, List.drop_zero, ← hb, List.take_length]
  · rw [if_neg e, wr_off (by omega) (by omega)]
/-- The rings behind a Format. -/
def jfmt (L Z H : List UInt8) : List UInt8 := wr (wr L (256 * 24) Z) (256 * 8) H
theorem jfmt_length {L Z H : List UInt8} (h : 26624 ≤ L.length) (hZ : Z.length = 20480) (hH : H.length = 4096) : (jfmt L Z H).length = L.length := by
  have h1 : (wr L (256 * 24) Z).length = L.length := wr_length (by omega)
  unfold jfmt
  rw [wr_length (by omega), h1]
theorem jhd_fmt {L Z H : List UInt8} {n : Nat} (h : 26624 ≤ L.length) (hZ : Z.length = 20480) (hH : H.length = 4096) (hn : n < 16) : jhd (jfmt L Z H) n = (H.drop (256 * n)).take 256 := by
  have h1 : (wr L (256 * 24) Z).length = L.length := wr_length (by omega)
  unfold jhd jfmt
  rw [wr_in (by omega) (by omega) (by omega), show 256 * (8 + n) - 256 * 8 = 256 * n by omega]
theorem jpr_fmt {L Z H : List UInt8} {n : Nat} (h : 26624 ≤ L.length) (hZ : Z.length = 20480) (hH : H.length = 4096) (hn : n < 16) : jpr (jfmt L Z H) n = (Z.drop (1280 * n)).take 1280 := by
  have h1 : (wr L (256 * 24) Z).length = L.length := wr_length (by omega)
  unfold jpr jfmt
  rw [wr_off (by omega) (by omega), wr_in (by omega) (by omega) (by omega), show 256 * (24 + 5 * n) - 256 * 24 = 1280 * n by omega]
end Go

/- What a Put's closures write. Conditions: the journal, the slot's number, the bytes lie in known blocks apart from the disk's. -/
namespace Go.Proofs.YtfoegmjpfkmggaaGreatDoor
open Go.RowKit
/-- What a Put's closures know: the journal, the slot, its bytes. -/
structure PutK (w : World) (jb nb bb gj sg : Nat) (p : Pl) (k : Nat) (X : List UInt8) : Prop where
  j : Blk w jb 26 #[.pointer (some ⟨gj, 0, none⟩)]
  n : Blk w nb 3 #[.int .i64 (k : Int)]
  b : Blk w bb 39 #[.slice (some ⟨sg, 0, none⟩) 1280 1280]
  d : w.cell? ⟨gj, 0, none⟩ = some (.pointer (some ⟨p.gd, 0, none⟩))
  e : Bytes w (some ⟨sg, 0, none⟩) X
  len : X.length = 1280
  k16 : k < 16
  off : jb ∉ p.all none ∧ nb ∉ p.all none ∧ bb ∉ p.all none ∧ gj ∉ p.all none ∧ sg ∉ p.all none
theorem _root_.Go.Near.cell_ {X : List Nat} {w w' : World} (k : Near X w w') {g o : Nat} (hg : g ∉ X) {v : Value} (h : w.cell? ⟨g, o, none⟩ = some v) : w'.cell? ⟨g, o, none⟩ = some v := by
  rw [k.cell (World.block_lt_of_cell? _ _ h) hg]; exact h
theorem PutK.near {w w' : World} {jb nb bb gj sg k : Nat} {p : Pl} {X : List UInt8} (h : PutK w jb nb bb gj sg p k X) (hn : Near (p.all none) w w') : PutK w' jb nb bb gj sg p k X :=
  ⟨h.j.near hn h.off.1, h.n.near hn h.off.2.1, h.b.near hn h.off.2.2.1, hn.cell_ h.off.2.2.2.1 h.d, Bytes.near h.e hn (fun ad e => by injection e with e; rw [← e]; exact h.off.2.2.2.2), h.len, h.k16, h.off⟩
section
variable {w : World} {jb nb bb gj sg : Nat} {p : Pl} {k : Nat} {X : List UInt8} {L : List UInt8}
set_option maxRecDepth 100000 in
set_option maxHeartbeats 1000000 in
theorem jput1_any (h : PutK w jb nb bb gj sg p k X) (hd : JD w p L) : Calls Tryz.prog 33 #[.pointer (some ⟨jb, 0, none⟩), .pointer (some ⟨nb, 0, none⟩), .pointer (some ⟨bb, 0, none⟩)] w fun e w' => e = .returned (.int .i64 0) ∧ JD w' p (wr L (256 * (24 + 5 * k)) X) ∧ Near (p.all none) w w' := by
  have hC0 : Near (p.all none) w w.drew := (Near.refl _ _).drew
  have HK := Lib.hid (And.intro h hd)
  have hk := h.k16
  clear h hd
  go_enter Tryz.func33, Tryz.ntmps33
  go_wp2_with fail
  refine wp_region_tree (Near (p.all none) w) [] (PlanT.takes [0, 4, 6] (PlanT.takes [1, 2] (PlanT.takes [3] (.opt 5 (.opt 7 (PlanT.takes [8] .done) .no) .no)))) (by kernel_rfl) (by kernel_rfl) (hC0) ?_
  refine wpTree_takeL _ _ _ (by rfl) (by rfl) (hC0) ?_
  dsimp only [List.filterMap, List.getElem?_cons_zero, List.getElem?_cons_succ]
  (refine wpQuiet_load_cell (fun w' hw' => (Blk.near HK.out.1.j hw' HK.out.1.off.1).at_ 0 (v := .pointer (some ⟨gj, 0, none⟩)) rfl) (by rfl) _ _ (by rfl) (by rfl) _ Tryz.underlying26 (by rfl) ?_; simp only [Act.put, List.setIfInBounds_toArray, List.set_cons_zero, List.set_cons_succ])
  (refine wpQuiet_load_cell (fun w' hw' => (Blk.near HK.out.1.n hw' HK.out.1.off.2.1).at_ 0 (v := .int .i64 (k : Int)) rfl) (by rfl) _ _ (by rfl) (by rfl) _ Tryz.underlying3 (by rfl) ?_; simp only [Act.put, List.setIfInBounds_toArray, List.set_cons_zero, List.set_cons_succ])
  (refine wpQuiet_load_cell (fun w' hw' => (Blk.near HK.out.1.b hw' HK.out.1.off.2.2.1).at_ 0 (v := .slice (some ⟨sg, 0, none⟩) 1280 1280) rfl) (by rfl) _ _ (by rfl) (by rfl) _ Tryz.underlying39 (by rfl) ?_; simp only [Act.put, List.setIfInBounds_toArray, List.set_cons_zero, List.set_cons_succ])
  refine wpQuiet_nil ?_
  refine wpTree_pure _ _ _ (by rfl) (by rfl) ?_
  dsimp only [List.filterMap, List.getElem?_cons_zero, List.getElem?_cons_succ]
  repeat (go_big_quiet_step (fail))
  refine wpQuiet_nil ?_
  refine wpTree_takeL _ _ _ (by rfl) (by rfl) (hC0) ?_
  dsimp only [List.filterMap, List.getElem?_cons_zero, List.getElem?_cons_succ]
  (refine wpQuiet_load_cell (fun w' hw' => Near.cell_ hw' HK.out.1.off.2.2.2.1 HK.out.1.d) (by rfl) _ _ (by rfl) (by rfl) _ Tryz.underlying25 (by rfl) ?_; simp only [Act.put, List.setIfInBounds_toArray, List.set_cons_zero, List.set_cons_succ])
  refine wpQuiet_nil ?_
  refine wpTree_one _ rfl ?_
  go_wp2_with fail
  refine (jplace_any (k : Int) (by omega) _).mono ?_
  rintro e w1 ⟨rfl, hw⟩
  obtain rfl := hw.symm
  clear hw
  go_wp2_with fail
  refine TreeQ.in_ hC0 ?_
  refine wpTree_one _ rfl ?_
  go_wp2_with fail
  rw [show (24 : Int) + 5 * (k : Int) = ((24 + 5 * k : Nat) : Int) by omega]
  refine (jdwrite (24 + 5 * k) 1280 1280 (some ⟨sg, 0, none⟩) X HK.out.1.len.symm (Bytes.near HK.out.1.e hC0 (fun ad e => by injection e with e; rw [← e]; exact HK.out.1.off.2.2.2.2)) (fun ad e => by injection e with e; rw [← e]; exact HK.out.1.off.2.2.2.2) (by rw [HK.out.1.len]; omega) (by have := HK.out.1.len; omega) (HK.out.2.near (Near.refl _ _).drew)).mono ?_
  rintro e w2 ⟨rfl, hd2, hn2⟩
  have hC2 := hC0.trans hn2
  have HR := Lib.hid (And.intro hd2 hC2)
  clear hd2 hn2 HK
  go_wp2_with fail
  refine TreeQ.in_ hC2 ?_
  refine wpTree_pure _ _ _ (by rfl) (by rfl) ?_
  dsimp only [List.filterMap, List.getElem?_cons_zero, List.getElem?_cons_succ]
  repeat (go_big_quiet_step (fail))
  refine wpQuiet_nil ?_
  refine wpTree_done ?_
  clear hC2
  go_wp2
  go_ret
  exact ⟨rfl, HR.out⟩
set_option maxRecDepth 100000 in
set_option maxHeartbeats 1000000 in
theorem jput2_any (h : PutK w jb nb bb gj sg p k X) (hd : JD w p L) : Calls Tryz.prog 37 #[.pointer (some ⟨jb, 0, none⟩), .pointer (some ⟨nb, 0, none⟩), .pointer (some ⟨bb, 0, none⟩)] w fun e w' => e = .returned (.int .i64 0) ∧ JD w' p (wr L (256 * (8 + k)) (X.take 256)) ∧ Near (p.all none) w w' := by
  have hC0 : Near (p.all none) w w.drew := (Near.refl _ _).drew
  have HK := Lib.hid (And.intro h hd)
  have hk := h.k16
  have k1 : wrap64 (8 + (k : Int)) = ((8 + k : Nat) : Int) := by unfold wrap64; omega
  clear h hd
  go_enter Tryz.func37, Tryz.ntmps37
  go_wp2_with fail
  refine wp_region_tree (Near (p.all none) w) [] (PlanT.takes [0, 4, 6] (PlanT.takes [1, 2, 5, 7] (PlanT.takes [3] (.opt 8 (PlanT.takes [9] .done) .no)))) (by kernel_rfl) (by kernel_rfl) (hC0) ?_
  refine wpTree_takeL _ _ _ (by rfl) (by rfl) (hC0) ?_
  dsimp only [List.filterMap, List.getElem?_cons_zero, List.getElem?_cons_succ]
  (refine wpQuiet_load_cell (fun w' hw' => (Blk.near HK.out.1.j hw' HK.out.1.off.1).at_ 0 (v := .pointer (some ⟨gj, 0, none⟩)) rfl) (by rfl) _ _ (by rfl) (by rfl) _ Tryz.underlying26 (by rfl) ?_; simp only [Act.put, List.setIfInBounds_toArray, List.set_cons_zero, List.set_cons_succ])
  (refine wpQuiet_load_cell (fun w' hw' => (Blk.near HK.out.1.n hw' HK.out.1.off.2.1).at_ 0 (v := .int .i64 (k : Int)) rfl) (by rfl) _ _ (by rfl) (by rfl) _ Tryz.underlying3 (by rfl) ?_; simp only [Act.put, List.setIfInBounds_toArray, List.set_cons_zero, List.set_cons_succ])
  (refine wpQuiet_load_cell (fun w' hw' => (Blk.near HK.out.1.b hw' HK.out.1.off.2.2.1).at_ 0 (v := .slice (some ⟨sg, 0, none⟩) 1280 1280) rfl) (by rfl) _ _ (by rfl) (by rfl) _ Tryz.underlying39 (by rfl) ?_; simp only [Act.put, List.setIfInBounds_toArray, List.set_cons_zero, List.set_cons_succ])
  refine wpQuiet_nil ?_
  refine wpTree_pure _ _ _ (by rfl) (by rfl) ?_
  dsimp only [List.filterMap, List.getElem?_cons_zero, List.getElem?_cons_succ]
  repeat (go_big_quiet_step (fail))
  refine wpQuiet_nil ?_
  refine wpTree_takeL _ _ _ (by rfl) (by rfl) (hC0) ?_
  dsimp only [List.filterMap, List.getElem?_cons_zero, List.getElem?_cons_succ]
  (refine wpQuiet_load_cell (fun w' hw' => Near.cell_ hw' HK.out.1.off.2.2.2.1 HK.out.1.d) (by rfl) _ _ (by rfl) (by rfl) _ Tryz.underlying25 (by rfl) ?_; simp only [Act.put, List.setIfInBounds_toArray, List.set_cons_zero, List.set_cons_succ])
  refine wpQuiet_nil ?_
  refine wpTree_one _ rfl ?_
  go_wp2_with fail
  refine (jdwrite (8 + k) 256 1280 (some ⟨sg, 0, none⟩) (X.take 256) (by rw [List.length_take, HK.out.1.len]; rfl) ((Bytes.near HK.out.1.e hC0 (fun ad e => by injection e with e; rw [← e]; exact HK.out.1.off.2.2.2.2)).take 256) (fun ad e => by injection e with e; rw [← e]; exact HK.out.1.off.2.2.2.2) (by rw [List.length_take, HK.out.1.len]; omega) (by rw [List.length_take, HK.out.1.len]; omega) (HK.out.2.near (Near.refl _ _).drew)).mono ?_
  rintro e w2 ⟨rfl, hd2, hn2⟩
  have hC2 := hC0.trans hn2
  have HR := Lib.hid (And.intro hd2 hC2)
  clear hd2 hn2 HK
  go_wp2_with fail
  refine TreeQ.in_ hC2 ?_
  refine wpTree_pure _ _ _ (by rfl) (by rfl) ?_
  dsimp only [List.filterMap, List.getElem?_cons_zero, List.getElem?_cons_succ]
  repeat (go_big_quiet_step (fail))
  refine wpQuiet_nil ?_
  refine wpTree_done ?_
  clear hC2
  go_wp2
  go_ret
  exact ⟨rfl, HR.out⟩
end
end Go.Proofs.YtfoegmjpfkmggaaGreatDoor

/- What Format's closures write. Conditions: the disk is up; the headers lie in a known block apart from the disk's. -/
namespace Go.Proofs.YtfoegmjpfkmggaaGreatDoor
open Go.RowKit
section
variable {w : World} {db nb : Nat} {p : Pl} {L : List UInt8}
set_option maxRecDepth 100000 in
set_option maxHeartbeats 1000000 in
theorem jfmt2_any (A : Option Addr) (c : Nat) (H : List UInt8) (hH : H.length = 4096) (hc : 4096 ≤ c) (hd0 : Blk w db 25 #[.pointer (some ⟨p.gd, 0, none⟩)]) (hn : Blk w nb 39 #[.slice A 4096 c]) (hby : Bytes w A H) (hA : ∀ ad, A = some ad → ad.block ∉ p.all none) (hd : JD w p L) :
    Calls Tryz.prog 76 #[.pointer (some ⟨db, 0, none⟩), .pointer (some ⟨nb, 0, none⟩)] w fun e w' => e = .returned (.int .i64 0) ∧ JD w' p (wr L (256 * 8) H) ∧ Near (p.all none) w w' := by
  have c0 := hd0.at_ 0 (v := .pointer (some ⟨p.gd, 0, none⟩)) rfl
  have c1 := hn.at_ 0 (v := .slice A 4096 c) rfl
  have HW := Lib.hid (jdwrite 8 4096 c A H hH.symm hby hA (by omega) (by omega) hd)
  clear hd0 hn hby hA hd
  go_enter Tryz.func76, Tryz.ntmps76
  go_wp2_with fail
  refine HW.out.mono ?_
  rintro e w2 ⟨rfl, hd2, hn2⟩
  have HR := Lib.hid (And.intro hd2 hn2)
  clear hd2 hn2 HW c0 c1
  go_wp2
  go_ret
  exact ⟨rfl, HR.out⟩
set_option maxRecDepth 100000 in
set_option maxHeartbeats 1000000 in
theorem jfmt1_any (hd0 : Blk w db 25 #[.pointer (some ⟨p.gd, 0, none⟩)]) (hoff : db ∉ p.all none) (hd : JD w p L) :
    Calls Tryz.prog 75 #[.pointer (some ⟨db, 0, none⟩)] w fun e w' => e = .returned (.int .i64 0) ∧ (∃ Z : List UInt8, Z = List.replicate 20480 0 ∧ JD w' p (wr L (256 * 24) Z)) ∧ Near (p.all none) w w' := by
  have c0 := hd0.at_ 0 (v := .pointer (some ⟨p.gd, 0, none⟩)) rfl
  have HD := Lib.hid (And.intro hd hd.lt)
  have hC0 : Near (p.all none) w w.drew := (Near.refl _ _).drew
  clear hd0 hd
  go_enter Tryz.func75, Tryz.ntmps75
  go_wp2_with fail
  refine wp_region_tree (Near (p.all none) w) [] (PlanT.takes [0] (.opt 1 (.opt 2 (PlanT.takes [3] .done) .no) .no)) (by kernel_rfl) (by kernel_rfl) (hC0) ?_
  refine wpTree_takeL _ _ _ (by rfl) (by rfl) (hC0) ?_
  dsimp only [List.filterMap, List.getElem?_cons_zero, List.getElem?_cons_succ]
  (refine wpQuiet_load_cell (fun w' hw' => Near.cell_ hw' hoff c0) (by rfl) _ _ (by rfl) (by rfl) _ Tryz.underlying25 (by rfl) ?_; simp only [Act.put, List.setIfInBounds_toArray, List.set_cons_zero, List.set_cons_succ])
  refine wpQuiet_nil ?_
  refine wpTree_one _ rfl ?_
  go_wp2_with (first
    | ((with_reducible show wpList _ _ _ ((⟨some 3, _, _, _, _, _⟩ : Oper) :: _) _ _); refine wpList_make_bytes (o := ⟨some 3, _, _, _, _, _⟩) _ (by rfl) _ _ _ (by rfl) 5 Tryz.underlying39 u8info .i64 .i64 20480 20480 20480 20480 (by rfl) (by rfl) (by rfl) (by rfl) (by omega) (by omega) ?_; intro w3 hb3 hB3 hz3; obtain ⟨Z, hZ⟩ : ∃ Z : List UInt8, Z = List.replicate 20480 0 := ⟨_, rfl⟩; rw [← hZ] at hb3; have H3 := Lib.hid (And.intro hb3 (And.intro hB3 hZ)); clear hb3 hB3 hz3 hZ)
    | fail)
  have hn3 : Near [] w w3 := (Near.refl _ _).drew.trans (Near.below H3.out.2.1)
  have hn3p : Near (p.all none) w w3 := hn3.wider (fun x hx => by cases hx)
  have hZl : Z.length = 20480 := by rw [H3.out.2.2]; exact List.length_replicate ..
  have hsz : w.drew.heap.size ∉ p.all none := fun hx => by have := HD.out.2 _ hx; rw [World.size_drew] at this; omega
  have HW := Lib.hid (jdwrite 24 20480 20480 (some ⟨w.drew.heap.size, 0, none⟩) Z hZl.symm (Blk.bytes H3.out.1) (fun ad e => by injection e with e; rw [← e]; exact hsz) (by omega) (by omega) (HD.out.1.near hn3))
  refine TreeQ.in_ hn3p ?_
  refine wpTree_one _ rfl ?_
  clear hsz hn3
  go_wp2_with fail
  refine HW.out.mono ?_
  rintro e w4 ⟨rfl, hd4, hn4⟩
  have hn4p : Near (p.all none) w w4 := hn3p.trans hn4
  have HE := Lib.hid (And.intro hd4 (And.intro hn4p H3.out.2.2))
  clear hd4 hn4 hn3p HW
  go_wp2_with fail
  refine TreeQ.in_ hn4p ?_
  refine wpTree_pure _ _ _ (by rfl) (by rfl) ?_
  dsimp only [List.filterMap, List.getElem?_cons_zero, List.getElem?_cons_succ]
  repeat (go_big_quiet_step (fail))
  refine wpQuiet_nil ?_
  refine wpTree_done ?_
  clear hn4p hC0
  go_wp2
  go_ret
  exact ⟨rfl, ⟨Z, HE.out.2.2, HE.out.1⟩, HE.out.2.1⟩
end
end Go.Proofs.YtfoegmjpfkmggaaGreatDoor

/- What Format's three functions do, one behind the other. Conditions: the disk is up; the headers lie in a known block apart from the disk's. -/
namespace Go.Proofs.YtfoegmjpfkmggaaGreatDoor
open Go.RowKit
theorem callFmt1 (args : Array Value) (w : World) : (callFunc 75 args).run Tryz.prog w = .ok (.enter 75 args) w := Tryz.call75 args w
theorem callFmt2 (args : Array Value) (w : World) : (callFunc 76 args).run Tryz.prog w = .ok (.enter 76 args) w := Tryz.call76 args w
theorem callFlushJ (args : Array Value) (w : World) : (callFunc 36 args).run Tryz.prog w = .ok (.enter 36 args) w := Tryz.call36 args w
section
variable {w : World} {db nb g4 : Nat} {p : Pl} {L : List UInt8}
theorem jfmtall (A : Option Addr) (c : Nat) (H : List UInt8) (hH : H.length = 4096) (hc : 4096 ≤ c) (hd0 : Blk w db 25 #[.pointer (some ⟨p.gd, 0, none⟩)]) (hn : Blk w nb 39 #[.slice A 4096 c]) (hby : Bytes w A H) (hA : ∀ ad, A = some ad → ad.block ∉ p.all none) (hoff : db ∉ p.all none ∧ nb ∉ p.all none ∧ g4 ∉ p.all none)
    (hb : Blk w g4 93 #[.func (.func 75) #[] #[.pointer (some ⟨db, 0, none⟩)], .func (.func 76) #[] #[.pointer (some ⟨db, 0, none⟩), .pointer (some ⟨nb, 0, none⟩)], .func (.func 36) #[.pointer (some ⟨p.gd, 0, none⟩)] #[]]) (hd : JD w p L) :
    Calls Tryz.prog 32 #[.slice (some ⟨g4, 0, none⟩) 3 3] w fun e w' => e = .returned (.int .i64 0) ∧ (∃ Z : List UInt8, Z = List.replicate 20480 0 ∧ JD w' p (jfmt L Z H)) ∧ Near (p.all none) w w' := by
  refine (jall_any [(75, #[], #[.pointer (some ⟨db, 0, none⟩)]), (76, #[], #[.pointer (some ⟨db, 0, none⟩), .pointer (some ⟨nb, 0, none⟩)]), (36, #[.pointer (some ⟨p.gd, 0, none⟩)], #[])] g4 3 3
    (fun i w' => (∃ Z : List UInt8, Z = List.replicate 20480 0 ∧ JD w' p (if i = 0 then L else if i = 1 then wr L (256 * 24) Z else jfmt L Z H)) ∧ Near (p.all none) w w') w rfl (by omega) ?_ ?_ ?_ ⟨⟨_, rfl, hd⟩, Near.refl _ _⟩).mono ?_
  · rintro i w' hi ⟨_, hk⟩
    have hb' := hb.near hk hoff.2.2
    have hi4 : i < 3 := hi
    rcases (by omega : i = 0 ∨ i = 1 ∨ i = 2) with rfl | rfl | rfl <;> exact hb'.at_ _ rfl
  · intro i hi args w'
    have hi4 : i < 3 := hi
    rcases (by omega : i = 0 ∨ i = 1 ∨ i = 2) with rfl | rfl | rfl
    · exact callFmt1 args w'
    · exact callFmt2 args w'
    · exact callFlushJ args w'
  · rintro i w' hi ⟨⟨Z, hZ, hd'⟩, hk⟩
    have hi4 : i < 3 := hi
    rcases (by omega : i = 0 ∨ i = 1 ∨ i = 2) with rfl | rfl | rfl
    · refine (jfmt1_any (hd0.near hk hoff.1) hoff.1 hd').mono ?_
      rintro e w2 ⟨rfl, h1, h2⟩
      exact ⟨rfl, h1, hk.trans h2⟩
    · refine (jfmt2_any A c H hH hc (hd0.near hk hoff.1) (hn.near hk hoff.2.1) (Bytes.near hby hk hA) hA hd').mono ?_
      rintro e w2 ⟨rfl, h1, h2⟩
      exact ⟨rfl, ⟨Z, hZ, h1⟩, hk.trans h2⟩
    · refine (jdflush hd').mono ?_
      rintro e w2 ⟨rfl, h1, h2⟩
      exact ⟨rfl, ⟨Z, hZ, h1⟩, hk.trans h2⟩
  · rintro e w' ⟨rfl, ⟨Z, hZ, h1⟩, h2⟩
    exact ⟨rfl, ⟨Z, hZ, h1⟩, h2⟩
end
end Go.Proofs.YtfoegmjpfkmggaaGreatDoor

/- The headers of slots that are unwritten, one behind the other; a slot of which nothing is known but that it is empty. Plain facts. No condition. -/
namespace Go.Proofs.YtfoegmjpfkmggaaGreatDoor
open Go.RowKit
def jheads (k : Nat) : List UInt8 := (List.range k).flatMap fun (n : Nat) => Hd.bytes (Slot.fU (n : Int)) []
theorem jheads_succ (k : Nat) : jheads (k + 1) = jheads k ++ Hd.bytes (Slot.fU k) [] := by unfold jheads; rw [List.range_succ, List.flatMap_append]; simp
theorem jheads_length (k : Nat) : (jheads k).length = 256 * k := by
  induction k with
  | zero => rfl
  | succ k ih => rw [jheads_succ, List.length_append, ih, Hd.bytes_length]; simp; omega
theorem jheads_at (n : Nat) : ∀ k, n < k → ((jheads k).drop (256 * n)).take 256 = Hd.bytes (Slot.fU n) []
  | 0, h => by omega
  | k + 1, h => by
    have hl := jheads_length k
    have hb : (Hd.bytes (Slot.fU k) []).length = 256 := by rw [Hd.bytes_length]; rfl
    rw [jheads_succ]
    by_cases e : n = k
    · subst e
      rw [List.drop_append_of_le_length (by omega), List.drop_eq_nil_of_le (by omega), List.nil_append, ← hb, List.take_length]
    · rw [List.drop_append_of_le_length (by omega), List.take_append_of_le_length (by rw [List.length_drop]; omega)]
      exact jheads_at n k (by omega)
end Go.Proofs.YtfoegmjpfkmggaaGreatDoor

/- Format, whole. Condition: the disk is up, has no fuse and at least 104 sectors. -/
namespace Go.Proofs.YtfoegmjpfkmggaaGreatDoor
open Go.RowKit
def JFmRel (w : World) (p : Pl) (v : Value) (wr : World) : Prop :=
  ∃ (k : Nat) (s : Value) (sp : List UInt8), k ≤ 16 ∧ v = .int .i64 (k : Int) ∧ Blk wr w.heap.size 25 #[.pointer (some ⟨p.gd, 0, none⟩)] ∧ Blk wr (w.heap.size + 1) 39 #[s] ∧ OwnB 5 wr (w.heap.size + 2) s (jheads k) sp ∧ Below w.heap.size w wr
section
variable {w : World} {p : Pl} {L : List UInt8}
set_option maxRecDepth 100000 in
set_option maxHeartbeats 2000000 in
theorem jformat_any (h : JD w p L) : Calls Tryz.prog 28 #[.pointer (some ⟨p.gd, 0, none⟩)] w fun e w' => e = .returned (.int .i64 0) ∧ (∃ Z : List UInt8, Z = List.replicate 20480 0 ∧ JD w' p (jfmt L Z (jheads 16))) ∧ Near (p.all none) w w' := by
  have hB1 := (Below.refl w.heap.size w).alloc (Nat.le_refl _) (.cells #[.pointer (some ⟨p.gd, 0, none⟩)] 25)
  have hB2 := hB1.alloc (by simp) (.cells #[.slice none 0 0] 39)
  have hr := jready_jd (h.near (Near.below hB1))
  have hd2 := (Blk.new w 25 #[.pointer (some ⟨p.gd, 0, none⟩)]).alloc (.cells #[.slice none 0 0] 39)
  have hn2 := Blk.new' (w.alloc (.cells #[.pointer (some ⟨p.gd, 0, none⟩)] 25)) 39 #[.slice none 0 0] (n := w.heap.size + 1) (by simp)
  have H0 := Lib.hid (And.intro hd2 (And.intro hn2 hB2))
  have HD := Lib.hid h
  clear h hB1 hB2 hd2 hn2
  go_enter Tryz.func28, Tryz.ntmps28
  go_wp2_with fail
  refine hr.mono ?_
  rintro e w1 ⟨rfl, hw⟩
  obtain rfl := hw.symm
  clear hw hr
  go_wp2_with fail
  generalize (w.alloc (.cells #[.pointer (some ⟨p.gd, 0, none⟩)] 25)).alloc (.cells #[.slice none 0 0] 39) = w2 at H0 ⊢
  go_loopw [13] (fun v wr => JFmRel w p v wr) (fun v _ => 16 - (intOf v).toNat)
  case atStart => exact ⟨0, _, [], Nat.zero_le _, rfl, H0.out.1, H0.out.2.1, OwnsC.nil _ _ _ _, H0.out.2.2⟩
  case round =>
    obtain ⟨k, s, sp, hk, rfl, hd0, hnb, ho, hB⟩ := hrel
    obtain ⟨A, c, rfl, hc, hc2, hby⟩ := OwnB.open_ ho
    rw [jheads_length k] at hc ho hnb
    have HR := Lib.hid (And.intro hd0 (And.intro hnb (And.intro ho hB)))
    have HB := Lib.hid (And.intro hby (And.intro hc hc2))
    clear H0 hd0 hnb ho hB hby hc hc2
    by_cases hlt : k < 16
    · go_wp2_with fail
      refine (sunw_any (k : Int) wr).mono ?_
      rintro e w3 ⟨E, rfl, hE, -, hEn, hEl, hbx⟩
      rw [show Slot.unw (k : Int) = (0, Hd.bytes (Slot.fU (k : Int)) []) by unfold Slot.unw; rw [if_neg (by omega)]] at hEl ⊢
      have hl256 : (Hd.bytes (Slot.fU (k : Int)) []).length = 256 := by rw [Hd.bytes_length]; rfl
      have hjs := Lib.hid (jheads_succ k)
      obtain ⟨EA, En, El⟩ := E
      dsimp only at hEl hEn
      rw [← hEl] at hl256 hjs
      clear hEl
      rw [hl256] at hEn
      subst hEn
      have hE3 : Bytes w3 EA El := hE.bytes
      have hn3 := HR.out.2.1.below hbx HR.out.2.1.lt
      have hd3 := HR.out.1.below hbx HR.out.1.lt
      have ho3 := OwnsC.below HR.out.2.2.1 hbx (fun j hj => (OwnsC.lt HR.out.2.2.1 j hj).2)
      have hB3 := HR.out.2.2.2.trans (hbx.mono HR.out.2.2.2.size)
      have hs3 : w.heap.size + 2 ≤ w3.heap.size := by have := hn3.lt; omega
      have c1 := hn3.at_ 0 (v := .slice A (256 * k) c) rfl
      have H3 := Lib.hid (And.intro hE3 (And.intro hn3 (And.intro hd3 (And.intro ho3 (And.intro hB3 (And.intro hs3 hl256))))))
      clear hE hE3 hn3 hd3 ho3 hB3 hs3 hbx hl256
      unfold Ent.val
      dsimp only
      rw [H3.out.2.2.2.2.2.2]
      go_wp2_with (first
        | (((with_reducible show wpList _ _ _ ((⟨some 23, _, _, _, _, _⟩ : Oper) :: _) _ _); skip); refine wpList_append_bytes (o := ⟨some 23, _, _, _, _, _⟩) (by rfl) _ _ _ (by rfl) (w.heap.size + 2) _ Tryz.underlying39 u8info (.slice A (256 * k) c) (jheads k) sp (by rfl) H3.out.2.2.2.1 EA 256 El (by rw [H3.out.2.2.2.2.2.2]; rfl) H3.out.1 (by rw [jheads_length, H3.out.2.2.2.2.2.2]; omega) H3.out.2.2.2.2.2.1 ?_; intro v5 w5 sp5 ho5 hg5 _ _; obtain ⟨A5, c5, rfl, -, -, -⟩ := OwnB.open_ ho5; have hb5 := (Below.refl (w.heap.size + 2) w3).grown hg5 H3.out.2.2.2.2.2.1 (fun j hj => (OwnsC.lt H3.out.2.2.2.1 j hj).1); have hn5 := H3.out.2.1.below hb5 (Nat.lt_succ_self _); have hd5 := H3.out.2.2.1.below hb5 (by omega); have hB5 := H3.out.2.2.2.2.1.trans (hb5.mono (by omega)); have f5 := hn5.frozen 0; have q5 := hn5.at_ 0 (v := .slice A (256 * k) c) rfl; have HX := Lib.hid (And.intro ho5 (And.intro hn5 (And.intro hd5 hB5))); clear ho5 hg5 hb5 hd5 hB5)
        | fail)
      rw [← List.length_append]
      have hu := (Upd.refl (w.heap.size + 1) w5).set 0 (.slice A5 (jheads k ++ El).length c5)
      refine ⟨⟨k + 1, .slice A5 (jheads k ++ El).length c5, sp5, by omega, by go_num, HX.out.2.2.1.upd hu (by omega), (HX.out.2.1.set_ 0 (.slice A5 (jheads k ++ El).length c5)).sub rfl, ?_, HX.out.2.2.2.upd hu (by omega)⟩, by simp [intOf]; omega⟩
      rw [hjs.out]
      exact OwnsC.off HX.out.1 (fun e => by have := (OwnsC.lt HX.out.1 _ e).1; omega) _
    · obtain rfl : k = 16 := by omega
      have c0 := HR.out.1.at_ 0 (v := .pointer (some ⟨p.gd, 0, none⟩)) rfl
      have hP := HD.out.lt
      have hoff : ∀ x, w.heap.size ≤ x → x ∉ p.all none := fun x hx hm => by have := hP x hm; omega
      have hA : ∀ ad, A = some ad → ad.block ∉ p.all none := fun ad e => hoff _ (by have := (OwnsC.lt HR.out.2.2.1 ad.block (by rw [e]; rfl)).1; omega)
      have HO := Lib.hid (And.intro hoff hA)
      clear hoff hA hlt hk hP
      go_wp2_with fail
      have ha := (Below.refl wr.heap.size wr).alloc (Nat.le_refl _) (.cells #[.func (.func 75) #[] #[.pointer (some ⟨w.heap.size, 0, none⟩)], .func (.func 76) #[] #[.pointer (some ⟨w.heap.size, 0, none⟩), .pointer (some ⟨w.heap.size + 1, 0, none⟩)], .func (.func 36) #[.pointer (some ⟨p.gd, 0, none⟩)] #[]] 93)
      have hw := HR.out.2.2.2.trans (ha.mono HR.out.2.2.2.size)
      refine (jfmtall A c (jheads 16) (jheads_length 16) HB.out.2.1 (HR.out.1.below ha HR.out.1.lt) (HR.out.2.1.below ha HR.out.2.1.lt) (Bytes.below HB.out.1 ha) HO.out.2 ⟨HO.out.1 _ (Nat.le_refl _), HO.out.1 _ (Nat.le_succ _), HO.out.1 _ HR.out.2.2.2.size⟩ (Blk.new wr _ _) (HD.out.near (Near.below hw))).mono ?_
      rintro e w6 ⟨rfl, hz, hn⟩
      have HE := Lib.hid (And.intro hz ((Near.below (X := p.all none) hw).trans hn))
      clear hz hn ha hw c0
      go_wp2
      go_ret
      exact ⟨rfl, HE.out⟩
end
end Go.Proofs.YtfoegmjpfkmggaaGreatDoor
