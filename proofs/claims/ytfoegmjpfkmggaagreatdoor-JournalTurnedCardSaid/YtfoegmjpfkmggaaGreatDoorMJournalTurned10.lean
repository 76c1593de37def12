/- A header's bytes read, by the program. Condition: the bytes can be read. -/
import Derived.Test.YtfoegmjpfkmggaaGreatDoorMJournalTurned9
namespace Go.Proofs.YtfoegmjpfkmggaaGreatDoor
open Go.RowKit
def HTRel (w : World) (hb g1 : Nat) (raw : List UInt8) (v : Value) (wr : World) : Prop :=
  ∃ j : Nat, j ≤ 8 ∧ v = .int .i64 (j : Int) ∧ Blk wr hb 38 (hdc (setF (Hd.f3 raw) 13 (lpart raw 92 j))) ∧ Blk wr (g1 + 1 + 1) 196 (pts hb [14, 15]) ∧ Upd hb w wr
set_option maxRecDepth 100000 in
set_option maxHeartbeats 4000000 in
theorem hhead_any (A : Option Addr) (n c : Nat) (raw : List UInt8) (hn : n = raw.length) (hc : n ≤ c) (hc2 : c ≤ 9223372036854775807) (w : World) (hby : Bytes w A raw) :
    Calls Tryz.prog 96 #[.slice A n c] w fun e w' => e = .returned (.tuple #[.agg (hdc (Hd.read raw).2), .int .i64 (Hd.read raw).1]) ∧ Below w.heap.size w w' := by
  by_cases h1 : n = 256
  case neg =>
    have hrd : Hid (Hd.read raw = (4, Hd.none_)) := Lib.hid (by unfold Hd.read; rw [if_pos (by omega)])
    rw [hrd.out]
    clear hn hby
    have H1 : ((n : Int) != 256) = true := by rw [bne_iff_ne]; omega
    go_enter Tryz.func96, Tryz.ntmps96
    go_wp2_with (first
      | ((with_reducible show wpList _ _ _ ((⟨none, _, _, _, _, _⟩ : Oper) :: _) _ _); refine wpList_store_blk (o := ⟨none, _, _, _, _, _⟩) ((Blk.new w 38 #[.int .i64 0, .int .i64 0, .int .i64 0, .int .i64 0, .int .i64 0, .int .i64 0, .int .i64 0, .int .i64 0, .int .i64 0, .int .u64 0, .int .u64 0, .int .i64 0, .int .i64 0, .int .u64 0, .int .i64 0, .int .i64 0]).sub zeroHd_cells.symm) (by rfl) _ _ _ (by rfl) (by rfl) (hdc zeroHd) (by rfl) (sizeHd) (hdc_size _) (hdc_size _) (hdc_one _) ?_; intro w2 h2 hu2; have hB2 := Lib.hid (((Below.refl w.heap.size w).alloc (Nat.le_refl _) (.cells #[.int .i64 0, .int .i64 0, .int .i64 0, .int .i64 0, .int .i64 0, .int .i64 0, .int .i64 0, .int .i64 0, .int .i64 0, .int .u64 0, .int .u64 0, .int .i64 0, .int .i64 0, .int .u64 0, .int .i64 0, .int .i64 0] 38)).upd hu2 (Nat.le_refl _)))
      | fail)
    refine bodyPost_ret (results_row_tmp (by rfl) _ _ w.heap.size _ _ _ (by rfl) h2 Tryz.underlying38 (by rfl) (by rw [hdc_size]; exact sizeHd)) rfl ⟨rfl, hB2.out⟩
  subst h1
  obtain ⟨b, off, rfl, hbl, hcell⟩ := hby.at_ (by omega)
  have HN : Hid (raw.length = 256) := Lib.hid hn.symm
  clear hn hcell
  have hg0 := (Blk.new w 38 #[.int .i64 0, .int .i64 0, .int .i64 0, .int .i64 0, .int .i64 0, .int .i64 0, .int .i64 0, .int .i64 0, .int .i64 0, .int .u64 0, .int .u64 0, .int .i64 0, .int .i64 0, .int .u64 0, .int .i64 0, .int .i64 0]).sub zeroHd_cells.symm
  have hB0 : Below w.heap.size w (w.alloc (.cells #[.int .i64 0, .int .i64 0, .int .i64 0, .int .i64 0, .int .i64 0, .int .i64 0, .int .i64 0, .int .i64 0, .int .i64 0, .int .u64 0, .int .u64 0, .int .i64 0, .int .i64 0, .int .u64 0, .int .i64 0, .int .i64 0] 38)) := (Below.refl _ _).alloc (Nat.le_refl _) _
  have hc16 : ¬ c = 16 := by omega
  have hc32 : ¬ c = 32 := by omega
  have hb1 := Bytes.below hby hB0
  go_enter Tryz.func96, Tryz.ntmps96
  go_wp2_with fail
  generalize hw1 : w.alloc (.cells #[.int .i64 0, .int .i64 0, .int .i64 0, .int .i64 0, .int .i64 0, .int .i64 0, .int .i64 0, .int .i64 0, .int .i64 0, .int .u64 0, .int .u64 0, .int .i64 0, .int .i64 0, .int .u64 0, .int .i64 0, .int .i64 0] 38) = w1 at hg0 hB0 hb1 ⊢
  clear hw1
  obtain ⟨g0, hgn⟩ : ∃ g0, g0 = w.heap.size := ⟨_, rfl⟩
  rw [← hgn] at hg0 hbl ⊢
  have HGN := Lib.hid hgn
  clear hgn hby
  obtain ⟨T, hT⟩ : ∃ T, T = raw.take 16 := ⟨_, rfl⟩
  obtain ⟨D, hD⟩ : ∃ D, D = raw.drop 16 := ⟨_, rfl⟩
  have hTl : T.length = 16 := by rw [hT, List.length_take, HN.out]; rfl
  have hDl : D.length = 240 := by rw [hD, List.length_drop, HN.out]
  have hbD : Bytes w1 (some ⟨b, off + 16, none⟩) D := by
    have h := hb1.drop (k := 16) (cap := c) (by omega)
    rw [if_neg hc16, ← hD] at h
    simpa [Addr.add_lit] using h
  have hbT : Bytes w1 (some ⟨b, off, none⟩) T := by rw [hT]; exact hb1.take 16
  have HT := Lib.hid hT
  have HD := Lib.hid hD
  have HTl := Lib.hid hTl
  have HDl := Lib.hid hDl
  clear hT hD hTl hDl
  refine wp_region_planT (Below w1.heap.size w1) [] [(true, 0), (true, 1), (true, 2), (true, 3), (true, 4), (true, 5), (false, 6), (true, 7)] (by kernel_rfl) (by kernel_rfl) ((Below.refl _ _).drew) ?_
  refine wpPlan_pure [0, 1, 2, 3, 4] [(true, 5), (false, 6), (true, 7)] _ (by rfl) (by rfl) ?_
  dsimp only [List.filterMap, List.getElem?_cons_zero, List.getElem?_cons_succ]
  repeat (go_big_quiet_step (fail))
  refine wpQuiet_array (by rfl) _ _ (by rfl) 16 _ Tryz.underlying150 (some ⟨b, off, none⟩) 16 c (by rfl) (Nat.le_refl _) ?_
  simp only [Act.put, List.setIfInBounds_toArray, List.set_cons_zero, List.set_cons_succ]
  refine wpQuiet_nil ?_
  refine wpPlan_takeL [5] [(false, 6), (true, 7)] _ (by rfl) (by rfl) (Below.refl _ _).drew ?_
  dsimp only [List.filterMap, List.getElem?_cons_zero, List.getElem?_cons_succ]
  refine wpQuiet_load_mid (fun w' hw' => (Bytes.below hbT hw').range) (by rfl) _ _ (by rfl) (by rfl) _ Tryz.underlying150 (by rfl) size16 (by rw [List.length_map]; exact HTl.out) ?_
  simp only [Act.put, List.setIfInBounds_toArray, List.set_cons_zero, List.set_cons_succ]
  refine wpQuiet_nil ?_
  refine wpPlan_forceL _ rfl ?_
  go_wp2_with fail
  refine (right_seal_any (some ⟨b, off + 16, none⟩) 240 (c - 16) D T HDl.out.symm (by rw [HDl.out]; omega) ⟨by rw [HDl.out]; omega, by omega⟩ HTl.out w1.drew hbD).mono ?_
  rintro e w2 ⟨rfl, hbx⟩
  have hBx : Below w1.heap.size w1 w2 := (Below.refl _ _).drew.trans hbx
  have hb2 := Bytes.below hb1 hBx
  have hg2 := keep hBx hg0
  have hB2 := hB0.trans (hBx.mono hB0.size)
  clear hbx hbD hbT hb1 hg0 hB0
  have hHB := Lib.hid hB2
  by_cases hseal : Sha.sum D = T
  case neg =>
    have hrd : Hid (Hd.read raw = (12, Hd.none_)) := Lib.hid (by
      unfold Hd.read
      rw [if_neg (by rw [HN.out]; simp), if_pos (by rw [← HT.out, ← HD.out]; exact hseal)])
    rw [decide_eq_false hseal]
    go_wp2_with fail
    refine PlanQ.in_ hBx ?_
    refine wpPlan_pure [7] [] _ (by rfl) (by rfl) ?_
    dsimp only [List.filterMap, List.getElem?_cons_zero, List.getElem?_cons_succ]
    repeat (go_big_quiet_step (fail))
    refine wpQuiet_nil ?_
    refine wpPlan_tidy ?_
    clear hseal hBx hB2
    go_wp2_with (first
      | ((with_reducible show wpList _ _ _ ((⟨none, _, _, _, _, _⟩ : Oper) :: _) _ _); refine wpList_store_blk (o := ⟨none, _, _, _, _, _⟩) (hg2) (by rfl) _ _ _ (by rfl) (by rfl) (hdc zeroHd) (by rfl) (sizeHd) (hdc_size _) (hdc_size _) (hdc_one _) ?_; intro w3 h3 hu3)
      | fail)
    refine bodyPost_ret (results_row_tmp (by rfl) _ _ g0 _ _ _ (by rfl) h3 Tryz.underlying38 (by rfl) (by rw [hdc_size]; exact sizeHd)) rfl ⟨by rw [hrd.out]; rfl, hHB.out.upd hu3 (by rw [HGN.out]; exact Nat.le_refl _)⟩
  rw [decide_eq_true hseal]
  have HSEAL : Hid (Sha.sum (raw.drop 16) = raw.take 16) := Lib.hid (by rw [← HD.out, ← HT.out]; exact hseal)
  go_wp2_with fail
  refine PlanQ.in_ hBx ?_
  refine wpPlan_pure [7] [] _ (by rfl) (by rfl) ?_
  dsimp only [List.filterMap, List.getElem?_cons_zero, List.getElem?_cons_succ]
  repeat (go_big_quiet_step (fail))
  refine wpQuiet_nil ?_
  refine wpPlan_tidy ?_
  clear hseal hBx hB2
  have CUT : ∀ (k : Nat) (wx : World), k < 256 → Bytes wx (some ⟨b, off, none⟩) raw → Bytes wx (some ⟨b, off + k, none⟩) (raw.drop k) := fun k wx hk h => by
    have h := h.drop (k := k) (cap := c) (by omega)
    rw [if_neg (by omega)] at h
    simpa [Addr.add_lit] using h
  have HCUT := Lib.hid CUT
  have hh := (Blk.new w2 38 #[.int .i64 0, .int .i64 0, .int .i64 0, .int .i64 0, .int .i64 0, .int .i64 0, .int .i64 0, .int .i64 0, .int .i64 0, .int .u64 0, .int .u64 0, .int .i64 0, .int .i64 0, .int .u64 0, .int .i64 0, .int .i64 0]).sub zeroHd_cells.symm
  have hbx := Lib.hid ((Below.refl w2.heap.size w2).alloc (Nat.le_refl _) (.cells #[.int .i64 0, .int .i64 0, .int .i64 0, .int .i64 0, .int .i64 0, .int .i64 0, .int .i64 0, .int .i64 0, .int .i64 0, .int .u64 0, .int .u64 0, .int .i64 0, .int .i64 0, .int .u64 0, .int .i64 0, .int .i64 0] 38))
  have hgl := hg2.lt
  clear CUT
  go_wp2_with fail
  generalize hw3 : w2.alloc (.cells #[.int .i64 0, .int .i64 0, .int .i64 0, .int .i64 0, .int .i64 0, .int .i64 0, .int .i64 0, .int .i64 0, .int .i64 0, .int .u64 0, .int .u64 0, .int .i64 0, .int .i64 0, .int .u64 0, .int .i64 0, .int .i64 0] 38) = w3 at hh hbx ⊢
  clear hw3
  have hBx := hbx.out
  (replace hg2 := keep hBx hg2; replace hb2 := keep hBx hb2)
  replace hHB := Lib.hid (hHB.out.trans (hBx.mono hHB.out.size))
  clear hBx hbx
  generalize w2.heap.size = hb at hh hgl ⊢
  refine (numbers_any hb w3).mono ?_
  rintro e w4 ⟨rfl, hbx⟩
  (replace hg2 := keep hbx hg2; replace hb2 := keep hbx hb2; replace hh := keep hbx hh)
  replace hHB := Lib.hid (hHB.out.trans (hbx.mono hHB.out.size))
  clear hbx
  have b1 := Blk.new w4 195 (pts hb [0, 1, 2, 3, 4, 5, 6, 7, 8])
  have b2 := Blk.new (w4.alloc (.cells (pts hb [0, 1, 2, 3, 4, 5, 6, 7, 8]) 195)) 196 (pts hb [11, 12])
  have b3 := Blk.new ((w4.alloc (.cells (pts hb [0, 1, 2, 3, 4, 5, 6, 7, 8]) 195)).alloc (.cells (pts hb [11, 12]) 196)) 196 (pts hb [14, 15])
  replace b1 := (b1.alloc (.cells (pts hb [11, 12]) 196)).alloc (.cells (pts hb [14, 15]) 196)
  replace b2 := b2.alloc (.cells (pts hb [14, 15]) 196)
  rw [show (w4.alloc (.cells (pts hb [0, 1, 2, 3, 4, 5, 6, 7, 8]) 195)).heap.size = w4.heap.size + 1 by simp] at b2
  rw [show ((w4.alloc (.cells (pts hb [0, 1, 2, 3, 4, 5, 6, 7, 8]) 195)).alloc (.cells (pts hb [11, 12]) 196)).heap.size = w4.heap.size + 1 + 1 by simp] at b3
  have hB2 := (((Below.refl w4.heap.size w4).alloc (Nat.le_refl _) (.cells (pts hb [0, 1, 2, 3, 4, 5, 6, 7, 8]) 195)).alloc (by simp) (.cells (pts hb [11, 12]) 196)).alloc (by simp; omega) (.cells (pts hb [14, 15]) 196)
  have hlt3 := hh.lt
  (replace hg2 := keep hB2 hg2; replace hb2 := keep hB2 hb2; replace hh := keep hB2 hh)
  have H2 := Lib.hid (And.intro b1 (And.intro b2 (And.intro b3 (And.intro hg2 (And.intro hb2 (And.intro hh (And.intro hlt3 (hHB.out.trans (hB2.mono hHB.out.size)))))))))
  clear b1 b2 b3 hg2 hb2 hh hB2 hlt3 hHB
  simp only [pts, pt, List.map_cons, List.map_nil] at H2 ⊢
  go_wp2_with fail
  obtain ⟨b1, b2, b3, hg2, hb2, hh, hlt3, hB⟩ := H2.out
  clear H2
  generalize ((w4.alloc _).alloc _).alloc _ = w5 at b1 b2 b3 hg2 hb2 hh hB ⊢
  generalize w4.heap.size = g1 at b1 b2 b3 hlt3 ⊢
  have hHB := Lib.hid hB
  clear hB
  refine wp_region_planT (fun _ => True) [] [(true, 0), (true, 1), (true, 2), (false, 3)] (by kernel_rfl) (by kernel_rfl) (trivial) ?_
  refine wpPlan_pure [0, 1, 2] [(false, 3)] _ (by rfl) (by rfl) ?_
  dsimp only [List.filterMap, List.getElem?_cons_zero, List.getElem?_cons_succ]
  repeat (go_big_quiet_step (fail))
  refine wpQuiet_nil ?_
  refine wpPlan_forceL _ rfl ?_
  go_wp2_with fail
  refine (hfours_at b (off + 32) (c - 32) hb 224 g1 9 32 zeroHd raw [0, 1, 2, 3, 4, 5, 6, 7, 8] HN.out rfl (by omega) (by omega) w5.drew (HCUT.out 32 w5.drew (by omega) hb2) hh.drew ⟨_, b1.drew⟩ (by decide) (by omega) (by omega)).mono ?_
  rintro e w6 ⟨rfl, hh6, hu6⟩
  replace hg2 := hg2.drew.upd hu6 (by omega)
  replace b2 := b2.drew.upd hu6 (by omega)
  replace b3 := b3.drew.upd hu6 (by omega)
  have hgb : g0 ≤ hb := by omega
  replace hHB := Lib.hid (hHB.out.drew.upd hu6 (by rw [← HGN.out]; exact hgb))
  have hby : Bytes w6 (some ⟨b, off, none⟩) raw := Bytes.upd (w := w5.drew) hb2 hu6 (by intro ad e; cases e; show b ≠ hb; omega)
  clear b1 hu6 hb2 hh
  rw [show stepsF zeroHd (raw.drop 32) [0, 1, 2, 3, 4, 5, 6, 7, 8] 9 = Hd.f1 raw from rfl] at hh6
  go_wp2_with fail
  refine PlanQ.in_ trivial ?_
  refine wpPlan_tidy ?_
  have h16 : ((raw.drop 68).take 16).length = 16 := by rw [List.length_take, List.length_drop, HN.out]; rfl
  have hrd := uread_any (some ⟨b, off + 68, none⟩) (c - 68) ((raw.drop 68).take 16) h16 w6 ((HCUT.out 68 w6 (by omega) hby).take 16)
  rw [h16] at hrd
  have hlo : at8 ((raw.drop 68).take 16) 0 = at8 raw 68 := by rw [at8_take _ _ _ (by omega), at8_drop]
  have hhi : at8 ((raw.drop 68).take 16) 8 = at8 raw 76 := by rw [at8_take _ _ _ (by omega), at8_drop]
  rw [hlo, hhi] at hrd
  have HRD := Lib.hid hrd
  clear hrd h16 hlo hhi
  have hc68 : ¬ c = 68 := by omega
  go_wp2_with fail
  refine HRD.out.mono ?_
  clear HRD
  rintro e w7 ⟨rfl, hbx⟩
  have hz9 := hh6.lt
  (replace hg2 := keep hbx hg2; replace b2 := keep hbx b2; replace b3 := keep hbx b3; replace hby := keep hbx hby; replace hh6 := keep hbx hh6)
  replace hHB := Lib.hid (hHB.out.trans (hbx.mono hHB.out.size))
  clear hbx
  go_wp2_with (first
    | (show wpList _ _ _ ((⟨none, _, _, _, _, _⟩ : Oper) :: _) _ _; refine wpList_store_in (o := ⟨none, _, _, _, _, _⟩) hh6 (by rfl) _ _ _ (by rfl) 9 (by rfl) (u128c (at8 raw 76) (at8 raw 68)) (by rfl) sizeU (by rfl) (by rw [hdc_size]; omega) (by simp [u128c, Value.oneCell']) ?_; intro w8 hh8 hu8)
    | fail)
  replace hh8 := hh8.sub (show setAll (hdc (Hd.f1 raw)) 9 (u128c (at8 raw 76) (at8 raw 68)).toList = hdc (Hd.f2 raw) by
    show ((hdc (Hd.f1 raw)).setIfInBounds 9 _).setIfInBounds 10 _ = _
    rw [hdc_setU _ 9 _ (by omega), hdc_setU _ 10 _ (by omega)]; rfl)
  replace hg2 := hg2.upd hu8 (by omega)
  replace b2 := b2.upd hu8 (by omega)
  replace b3 := b3.upd hu8 (by omega)
  replace hHB := Lib.hid (hHB.out.upd hu8 (by rw [← HGN.out]; exact hgb))
  replace hby : Bytes w8 (some ⟨b, off, none⟩) raw := Bytes.upd hby hu8 (by intro ad e; cases e; show b ≠ hb; omega)
  clear hu8 hh6
  simp only [Act.put]
  go_wp2_with fail
  refine wp_region_planT (fun _ => True) [] [(true, 0), (true, 1), (true, 2), (false, 3)] (by kernel_rfl) (by kernel_rfl) (trivial) ?_
  refine wpPlan_pure [0, 1, 2] [(false, 3)] _ (by rfl) (by rfl) ?_
  dsimp only [List.filterMap, List.getElem?_cons_zero, List.getElem?_cons_succ]
  repeat (go_big_quiet_step (fail))
  refine wpQuiet_nil ?_
  refine wpPlan_forceL _ rfl ?_
  go_wp2_with fail
  refine (hfours_at b (off + 84) (c - 84) hb 172 (g1 + 1) 2 84 (Hd.f2 raw) raw [11, 12] HN.out rfl (by omega) (by omega) w8.drew (HCUT.out 84 w8.drew (by omega) hby) hh8.drew ⟨_, b2.drew⟩ (by decide) (by omega) (by omega)).mono ?_
  rintro e w9 ⟨rfl, hh9, hu9⟩
  replace hg2 := hg2.drew.upd hu9 (by omega)
  replace b3 := b3.drew.upd hu9 (by omega)
  replace hHB := Lib.hid (hHB.out.drew.upd hu9 (by rw [← HGN.out]; exact hgb))
  replace hby : Bytes w9 (some ⟨b, off, none⟩) raw := Bytes.upd (w := w8.drew) hby hu9 (by intro ad e; cases e; show b ≠ hb; omega)
  clear b2 hu9 hh8
  rw [show stepsF (Hd.f2 raw) (raw.drop 84) [11, 12] 2 = Hd.f3 raw from rfl] at hh9
  go_wp2_with fail
  refine PlanQ.in_ trivial ?_
  refine wpPlan_tidy ?_
  have hh9' := hh9.sub (show hdc (Hd.f3 raw) = hdc (setF (Hd.f3 raw) 13 (lpart raw 92 0)) from hdc_congr fun i _ => by
    unfold setF; by_cases e : i = 13
    · rw [if_pos e, e, Hd.f3_13]; rfl
    · rw [if_neg e])
  clear hh9
  have HX9 := Lib.hid (And.intro hg2 (And.intro hby hHB.out))
  clear hg2 hHB
  have hcb : ∀ j, j < 256 → w9.cell? ⟨b, off + j, none⟩ = some (.int .u8 (iu8 (raw.getD j 0))) := fun j hj => by
    obtain ⟨b', off', e, _, hc'⟩ := hby.at_ (by rw [HN.out]; omega)
    cases e
    exact hc' j (by rw [HN.out]; omega)
  clear hby
  go_wp2_with fail
  go_loopw [43] (fun v wr => HTRel w9 hb g1 raw v wr) (fun v _ => 8 - (intOf v).toNat)
  case atStart => exact ⟨0, by omega, rfl, hh9', b3, Upd.refl _ _⟩
  case round =>
    obtain ⟨j, hj, rfl, hg, hbj, hu⟩ := hrel
    clear hh9' b3
    by_cases hlt : j < 8
    · have o1 := lpart_or raw 92 j
      have q1 := lpart_lt raw 92 j
      have d1 : wr.cell? ⟨b, off + (92 + j), none⟩ = some (.int .u8 (iu8 (raw.getD (92 + j) 0))) := (World.cell?_of_block (hu.block b (by omega))).trans (hcb (92 + j) (by omega))
      have dlo : wr.cell? ⟨hb, 13, none⟩ = some (.int .u64 (lpart raw 92 j : Nat)) := (hg.at_ 13 (hdc_u _ 13 (by omega))).trans (by simp [setF])
      have f0 := hg.frozen 13
      have hset : setF (setF (Hd.f3 raw) 13 (lpart raw 92 j : Nat)) 13 (lpart raw 92 (j + 1) : Nat) = setF (Hd.f3 raw) 13 (lpart raw 92 (j + 1) : Nat) := by
        funext i; unfold setF; split <;> rfl
      have HR0 : Hid (HTRel w9 hb g1 raw (.int .i64 ((j + 1 : Nat) : Int)) ((wr.setCell ⟨hb, 13, none⟩ (.int .u64 (lpart raw 92 (j + 1) : Nat))).drew)) := Lib.hid
        ⟨j + 1, by omega, rfl, ((hg.set_ 13 _).sub (by rw [hdc_setU _ 13 _ (by omega), hset])).drew, (hbj.off (by omega) _).drew, (hu.set 13 _).drewH⟩
      generalize raw.getD (92 + j) 0 = x at d1 o1
      generalize lpart raw 92 j = lo at dlo o1 q1 hg hset
      generalize lpart raw 92 (j + 1) = lo' at o1 HR0
      have HR := HR0
      clear hset HR0
      have hcase : j = 0 ∨ j = 1 ∨ j = 2 ∨ j = 3 ∨ j = 4 ∨ j = 5 ∨ j = 6 ∨ j = 7 := by omega
      have HO := Lib.hid (And.intro o1 q1)
      clear hg hu hbj o1 q1 hcb
      rcases hcase with rfl | rfl | rfl | rfl | rfl | rfl | rfl | rfl
      · have e1 : bits .or .u64 (lo : Int) (IntKind.u64.wrap (IntKind.u64.wrap (iu8 x))) = ((lo' : Nat) : Int) := by rw [← HO.out.1, ← Int.mul_one (IntKind.u64.wrap (iu8 x))]; exact orU lo 0 1 x (by decide) (by omega) HO.out.2
        go_wp2_with fail
        refine wp_region_planT (fun w' => w'.cell? ⟨hb, 13, none⟩ = some (.int .u64 (lo : Nat)) ∧ w'.cell? ⟨b, off + 92, none⟩ = some (.int .u8 (iu8 x))) [13] [(true, 0), (true, 2), (true, 3), (true, 4), (true, 5), (true, 8), (true, 9), (true, 1), (true, 6), (true, 7), (true, 10), (true, 11), (true, 12), (false, 13)] (by kernel_rfl) (by kernel_rfl) (⟨dlo, d1⟩) ?_
        refine wpPlan_pure [0, 2, 3, 4, 5, 8, 9] [(true, 1), (true, 6), (true, 7), (true, 10), (true, 11), (true, 12), (false, 13)] _ (by rfl) (by rfl) ?_
        dsimp only [List.filterMap, List.getElem?_cons_zero, List.getElem?_cons_succ]
        repeat (go_big_quiet_step (fail))
        refine wpQuiet_nil ?_
        refine wpPlan_takeL [1, 6] [(true, 7), (true, 10), (true, 11), (true, 12), (false, 13)] _ (by rfl) (by rfl) (⟨dlo, d1⟩) ?_
        dsimp only [List.filterMap, List.getElem?_cons_zero, List.getElem?_cons_succ]
        (refine wpQuiet_load_cell (fun w' hw' => hw'.1) (by rfl) _ _ (by rfl) (by rfl) _ Tryz.underlying34 (by rfl) ?_; simp only [Act.put, List.setIfInBounds_toArray, List.set_cons_zero, List.set_cons_succ])
        (refine wpQuiet_load_cell (fun w' hw' => hw'.2) (by rfl) _ _ (by rfl) (by rfl) _ Tryz.underlying5 (by rfl) ?_; simp only [Act.put, List.setIfInBounds_toArray, List.set_cons_zero, List.set_cons_succ])
        refine wpQuiet_nil ?_
        refine wpPlan_pure [7, 10, 11, 12] [(false, 13)] _ (by rfl) (by rfl) ?_
        dsimp only [List.filterMap, List.getElem?_cons_zero, List.getElem?_cons_succ]
        repeat (go_big_quiet_step (fail))
        refine wpQuiet_nil ?_
        refine wpPlan_forceL _ rfl ?_
        go_wp2_with fail
        refine PlanQ.out (by rfl) ?_
        refine wpPlan_tidy ?_
        go_wp2
        go_roundw
        case rel => exact HR.out
        case measure => simp [intOf]
      · have e1 : bits .or .u64 (lo : Int) (IntKind.u64.wrap (IntKind.u64.wrap (iu8 x) * 256)) = ((lo' : Nat) : Int) := by rw [← HO.out.1]; exact orU lo 1 256 x (by decide) (by omega) HO.out.2
        go_wp2_with fail
        refine wp_region_planT (fun w' => w'.cell? ⟨hb, 13, none⟩ = some (.int .u64 (lo : Nat)) ∧ w'.cell? ⟨b, off + 93, none⟩ = some (.int .u8 (iu8 x))) [13] [(true, 0), (true, 2), (true, 3), (true, 4), (true, 5), (true, 8), (true, 9), (true, 1), (true, 6), (true, 7), (true, 10), (true, 11), (true, 12), (false, 13)] (by kernel_rfl) (by kernel_rfl) (⟨dlo, d1⟩) ?_
        refine wpPlan_pure [0, 2, 3, 4, 5, 8, 9] [(true, 1), (true, 6), (true, 7), (true, 10), (true, 11), (true, 12), (false, 13)] _ (by rfl) (by rfl) ?_
        dsimp only [List.filterMap, List.getElem?_cons_zero, List.getElem?_cons_succ]
        repeat (go_big_quiet_step (fail))
        refine wpQuiet_nil ?_
        refine wpPlan_takeL [1, 6] [(true, 7), (true, 10), (true, 11), (true, 12), (false, 13)] _ (by rfl) (by rfl) (⟨dlo, d1⟩) ?_
        dsimp only [List.filterMap, List.getElem?_cons_zero, List.getElem?_cons_succ]
        (refine wpQuiet_load_cell (fun w' hw' => hw'.1) (by rfl) _ _ (by rfl) (by rfl) _ Tryz.underlying34 (by rfl) ?_; simp only [Act.put, List.setIfInBounds_toArray, List.set_cons_zero, List.set_cons_succ])
        (refine wpQuiet_load_cell (fun w' hw' => hw'.2) (by rfl) _ _ (by rfl) (by rfl) _ Tryz.underlying5 (by rfl) ?_; simp only [Act.put, List.setIfInBounds_toArray, List.set_cons_zero, List.set_cons_succ])
        refine wpQuiet_nil ?_
        refine wpPlan_pure [7, 10, 11, 12] [(false, 13)] _ (by rfl) (by rfl) ?_
        dsimp only [List.filterMap, List.getElem?_cons_zero, List.getElem?_cons_succ]
        repeat (go_big_quiet_step (fail))
        refine wpQuiet_nil ?_
        refine wpPlan_forceL _ rfl ?_
        go_wp2_with fail
        refine PlanQ.out (by rfl) ?_
        refine wpPlan_tidy ?_
        go_wp2
        go_roundw
        case rel => exact HR.out
        case measure => simp [intOf]
      · have e1 : bits .or .u64 (lo : Int) (IntKind.u64.wrap (IntKind.u64.wrap (iu8 x) * 65536)) = ((lo' : Nat) : Int) := by rw [← HO.out.1]; exact orU lo 2 65536 x (by decide) (by omega) HO.out.2
        go_wp2_with fail
        refine wp_region_planT (fun w' => w'.cell? ⟨hb, 13, none⟩ = some (.int .u64 (lo : Nat)) ∧ w'.cell? ⟨b, off + 94, none⟩ = some (.int .u8 (iu8 x))) [13] [(true, 0), (true, 2), (true, 3), (true, 4), (true, 5), (true, 8), (true, 9), (true, 1), (true, 6), (true, 7), (true, 10), (true, 11), (true, 12), (false, 13)] (by kernel_rfl) (by kernel_rfl) (⟨dlo, d1⟩) ?_
        refine wpPlan_pure [0, 2, 3, 4, 5, 8, 9] [(true, 1), (true, 6), (true, 7), (true, 10), (true, 11), (true, 12), (false, 13)] _ (by rfl) (by rfl) ?_
        dsimp only [List.filterMap, List.getElem?_cons_zero, List.getElem?_cons_succ]
        repeat (go_big_quiet_step (fail))
        refine wpQuiet_nil ?_
        refine wpPlan_takeL [1, 6] [(true, 7), (true, 10), (true, 11), (true, 12), (false, 13)] _ (by rfl) (by rfl) (⟨dlo, d1⟩) ?_
        dsimp only [List.filterMap, List.getElem?_cons_zero, List.getElem?_cons_succ]
        (refine wpQuiet_load_cell (fun w' hw' => hw'.1) (by rfl) _ _ (by rfl) (by rfl) _ Tryz.underlying34 (by rfl) ?_; simp only [Act.put, List.setIfInBounds_toArray, List.set_cons_zero, List.set_cons_succ])
        (refine wpQuiet_load_cell (fun w' hw' => hw'.2) (by rfl) _ _ (by rfl) (by rfl) _ Tryz.underlying5 (by rfl) ?_; simp only [Act.put, List.setIfInBounds_toArray, List.set_cons_zero, List.set_cons_succ])
        refine wpQuiet_nil ?_
        refine wpPlan_pure [7, 10, 11, 12] [(false, 13)] _ (by rfl) (by rfl) ?_
        dsimp only [List.filterMap, List.getElem?_cons_zero, List.getElem?_cons_succ]
        repeat (go_big_quiet_step (fail))
        refine wpQuiet_nil ?_
        refine wpPlan_forceL _ rfl ?_
        go_wp2_with fail
        refine PlanQ.out (by rfl) ?_
        refine wpPlan_tidy ?_
        go_wp2
        go_roundw
        case rel => exact HR.out
        case measure => simp [intOf]
      · have e1 : bits .or .u64 (lo : Int) (IntKind.u64.wrap (IntKind.u64.wrap (iu8 x) * 16777216)) = ((lo' : Nat) : Int) := by rw [← HO.out.1]; exact orU lo 3 16777216 x (by decide) (by omega) HO.out.2
        go_wp2_with fail
        refine wp_region_planT (fun w' => w'.cell? ⟨hb, 13, none⟩ = some (.int .u64 (lo : Nat)) ∧ w'.cell? ⟨b, off + 95, none⟩ = some (.int .u8 (iu8 x))) [13] [(true, 0), (true, 2), (true, 3), (true, 4), (true, 5), (true, 8), (true, 9), (true, 1), (true, 6), (true, 7), (true, 10), (true, 11), (true, 12), (false, 13)] (by kernel_rfl) (by kernel_rfl) (⟨dlo, d1⟩) ?_
        refine wpPlan_pure [0, 2, 3, 4, 5, 8, 9] [(true, 1), (true, 6), (true, 7), (true, 10), (true, 11), (true, 12), (false, 13)] _ (by rfl) (by rfl) ?_
        dsimp only [List.filterMap, List.getElem?_cons_zero, List.getElem?_cons_succ]
        repeat (go_big_quiet_step (fail))
        refine wpQuiet_nil ?_
        refine wpPlan_takeL [1, 6] [(true, 7), (true, 10), (true, 11), (true, 12), (false, 13)] _ (by rfl) (by rfl) (⟨dlo, d1⟩) ?_
        dsimp only [List.filterMap, List.getElem?_cons_zero, List.getElem?_cons_succ]
        (refine wpQuiet_load_cell (fun w' hw' => hw'.1) (by rfl) _ _ (by rfl) (by rfl) _ Tryz.underlying34 (by rfl) ?_; simp only [Act.put, List.setIfInBounds_toArray, List.set_cons_zero, List.set_cons_succ])
        (refine wpQuiet_load_cell (fun w' hw' => hw'.2) (by rfl) _ _ (by rfl) (by rfl) _ Tryz.underlying5 (by rfl) ?_; simp only [Act.put, List.setIfInBounds_toArray, List.set_cons_zero, List.set_cons_succ])
        refine wpQuiet_nil ?_
        refine wpPlan_pure [7, 10, 11, 12] [(false, 13)] _ (by rfl) (by rfl) ?_
        dsimp only [List.filterMap, List.getElem?_cons_zero, List.getElem?_cons_succ]
        repeat (go_big_quiet_step (fail))
        refine wpQuiet_nil ?_
        refine wpPlan_forceL _ rfl ?_
        go_wp2_with fail
        refine PlanQ.out (by rfl) ?_
        refine wpPlan_tidy ?_
        go_wp2
        go_roundw
        case rel => exact HR.out
        case measure => simp [intOf]
      · have e1 : bits .or .u64 (lo : Int) (IntKind.u64.wrap (IntKind.u64.wrap (iu8 x) * 4294967296)) = ((lo' : Nat) : Int) := by rw [← HO.out.1]; exact orU lo 4 4294967296 x (by decide) (by omega) HO.out.2
        go_wp2_with fail
        refine wp_region_planT (fun w' => w'.cell? ⟨hb, 13, none⟩ = some (.int .u64 (lo : Nat)) ∧ w'.cell? ⟨b, off + 96, none⟩ = some (.int .u8 (iu8 x))) [13] [(true, 0), (true, 2), (true, 3), (true, 4), (true, 5), (true, 8), (true, 9), (true, 1), (true, 6), (true, 7), (true, 10), (true, 11), (true, 12), (false, 13)] (by kernel_rfl) (by kernel_rfl) (⟨dlo, d1⟩) ?_
        refine wpPlan_pure [0, 2, 3, 4, 5, 8, 9] [(true, 1), (true, 6), (true, 7), (true, 10), (true, 11), (true, 12), (false, 13)] _ (by rfl) (by rfl) ?_
        dsimp only [List.filterMap, List.getElem?_cons_zero, List.getElem?_cons_succ]
        repeat (go_big_quiet_step (fail))
        refine wpQuiet_nil ?_
        refine wpPlan_takeL [1, 6] [(true, 7), (true, 10), (true, 11), (true, 12), (false, 13)] _ (by rfl) (by rfl) (⟨dlo, d1⟩) ?_
        dsimp only [List.filterMap, List.getElem?_cons_zero, List.getElem?_cons_succ]
        (refine wpQuiet_load_cell (fun w' hw' => hw'.1) (by rfl) _ _ (by rfl) (by rfl) _ Tryz.underlying34 (by rfl) ?_; simp only [Act.put, List.setIfInBounds_toArray, List.set_cons_zero, List.set_cons_succ])
        (refine wpQuiet_load_cell (fun w' hw' => hw'.2) (by rfl) _ _ (by rfl) (by rfl) _ Tryz.underlying5 (by rfl) ?_; simp only [Act.put, List.setIfInBounds_toArray, List.set_cons_zero, List.set_cons_succ])
        refine wpQuiet_nil ?_
        refine wpPlan_pure [7, 10, 11, 12] [(false, 13)] _ (by rfl) (by rfl) ?_
        dsimp only [List.filterMap, List.getElem?_cons_zero, List.getElem?_cons_succ]
        repeat (go_big_quiet_step (fail))
        refine wpQuiet_nil ?_
        refine wpPlan_forceL _ rfl ?_
        go_wp2_with fail
        refine PlanQ.out (by rfl) ?_
        refine wpPlan_tidy ?_
        go_wp2
        go_roundw
        case rel => exact HR.out
        case measure => simp [intOf]
      · have e1 : bits .or .u64 (lo : Int) (IntKind.u64.wrap (IntKind.u64.wrap (iu8 x) * 1099511627776)) = ((lo' : Nat) : Int) := by rw [← HO.out.1]; exact orU lo 5 1099511627776 x (by decide) (by omega) HO.out.2
        go_wp2_with fail
        refine wp_region_planT (fun w' => w'.cell? ⟨hb, 13, none⟩ = some (.int .u64 (lo : Nat)) ∧ w'.cell? ⟨b, off + 97, none⟩ = some (.int .u8 (iu8 x))) [13] [(true, 0), (true, 2), (true, 3), (true, 4), (true, 5), (true, 8), (true, 9), (true, 1), (true, 6), (true, 7), (true, 10), (true, 11), (true, 12), (false, 13)] (by kernel_rfl) (by kernel_rfl) (⟨dlo, d1⟩) ?_
        refine wpPlan_pure [0, 2, 3, 4, 5, 8, 9] [(true, 1), (true, 6), (true, 7), (true, 10), (true, 11), (true, 12), (false, 13)] _ (by rfl) (by rfl) ?_
        dsimp only [List.filterMap, List.getElem?_cons_zero, List.getElem?_cons_succ]
        repeat (go_big_quiet_step (fail))
        refine wpQuiet_nil ?_
        refine wpPlan_takeL [1, 6] [(true, 7), (true, 10), (true, 11), (true, 12), (false, 13)] _ (by rfl) (by rfl) (⟨dlo, d1⟩) ?_
        dsimp only [List.filterMap, List.getElem?_cons_zero, List.getElem?_cons_succ]
        (refine wpQuiet_load_cell (fun w' hw' => hw'.1) (by rfl) _ _ (by rfl) (by rfl) _ Tryz.underlying34 (by rfl) ?_; simp only [Act.put, List.setIfInBounds_toArray, List.set_cons_zero, List.set_cons_succ])
        (refine wpQuiet_load_cell (fun w' hw' => hw'.2) (by rfl) _ _ (by rfl) (by rfl) _ Tryz.underlying5 (by rfl) ?_; simp only [Act.put, List.setIfInBounds_toArray, List.set_cons_zero, List.set_cons_succ])
        refine wpQuiet_nil ?_
        refine wpPlan_pure [7, 10, 11, 12] [(false, 13)] _ (by rfl) (by rfl) ?_
        dsimp only [List.filterMap, List.getElem?_cons_zero, List.getElem?_cons_succ]
        repeat (go_big_quiet_step (fail))
        refine wpQuiet_nil ?_
        refine wpPlan_forceL _ rfl ?_
        go_wp2_with fail
        refine PlanQ.out (by rfl) ?_
        refine wpPlan_tidy ?_
        go_wp2
        go_roundw
        case rel => exact HR.out
        case measure => simp [intOf]
      · have e1 : bits .or .u64 (lo : Int) (IntKind.u64.wrap (IntKind.u64.wrap (iu8 x) * 281474976710656)) = ((lo' : Nat) : Int) := by rw [← HO.out.1]; exact orU lo 6 281474976710656 x (by decide) (by omega) HO.out.2
        go_wp2_with fail
        refine wp_region_planT (fun w' => w'.cell? ⟨hb, 13, none⟩ = some (.int .u64 (lo : Nat)) ∧ w'.cell? ⟨b, off + 98, none⟩ = some (.int .u8 (iu8 x))) [13] [(true, 0), (true, 2), (true, 3), (true, 4), (true, 5), (true, 8), (true, 9), (true, 1), (true, 6), (true, 7), (true, 10), (true, 11), (true, 12), (false, 13)] (by kernel_rfl) (by kernel_rfl) (⟨dlo, d1⟩) ?_
        refine wpPlan_pure [0, 2, 3, 4, 5, 8, 9] [(true, 1), (true, 6), (true, 7), (true, 10), (true, 11), (true, 12), (false, 13)] _ (by rfl) (by rfl) ?_
        dsimp only [List.filterMap, List.getElem?_cons_zero, List.getElem?_cons_succ]
        repeat (go_big_quiet_step (fail))
        refine wpQuiet_nil ?_
        refine wpPlan_takeL [1, 6] [(true, 7), (true, 10), (true, 11), (true, 12), (false, 13)] _ (by rfl) (by rfl) (⟨dlo, d1⟩) ?_
        dsimp only [List.filterMap, List.getElem?_cons_zero, List.getElem?_cons_succ]
        (refine wpQuiet_load_cell (fun w' hw' => hw'.1) (by rfl) _ _ (by rfl) (by rfl) _ Tryz.underlying34 (by rfl) ?_; simp only [Act.put, List.setIfInBounds_toArray, List.set_cons_zero, List.set_cons_succ])
        (refine wpQuiet_load_cell (fun w' hw' => hw'.2) (by rfl) _ _ (by rfl) (by rfl) _ Tryz.underlying5 (by rfl) ?_; simp only [Act.put, List.setIfInBounds_toArray, List.set_cons_zero, List.set_cons_succ])
        refine wpQuiet_nil ?_
        refine wpPlan_pure [7, 10, 11, 12] [(false, 13)] _ (by rfl) (by rfl) ?_
        dsimp only [List.filterMap, List.getElem?_cons_zero, List.getElem?_cons_succ]
        repeat (go_big_quiet_step (fail))
        refine wpQuiet_nil ?_
        refine wpPlan_forceL _ rfl ?_
        go_wp2_with fail
        refine PlanQ.out (by rfl) ?_
        refine wpPlan_tidy ?_
        go_wp2
        go_roundw
        case rel => exact HR.out
        case measure => simp [intOf]
      · have e1 : bits .or .u64 (lo : Int) (IntKind.u64.wrap (IntKind.u64.wrap (iu8 x) * 72057594037927936)) = ((lo' : Nat) : Int) := by rw [← HO.out.1]; exact orU lo 7 72057594037927936 x (by decide) (by omega) HO.out.2
        go_wp2_with fail
        refine wp_region_planT (fun w' => w'.cell? ⟨hb, 13, none⟩ = some (.int .u64 (lo : Nat)) ∧ w'.cell? ⟨b, off + 99, none⟩ = some (.int .u8 (iu8 x))) [13] [(true, 0), (true, 2), (true, 3), (true, 4), (true, 5), (true, 8), (true, 9), (true, 1), (true, 6), (true, 7), (true, 10), (true, 11), (true, 12), (false, 13)] (by kernel_rfl) (by kernel_rfl) (⟨dlo, d1⟩) ?_
        refine wpPlan_pure [0, 2, 3, 4, 5, 8, 9] [(true, 1), (true, 6), (true, 7), (true, 10), (true, 11), (true, 12), (false, 13)] _ (by rfl) (by rfl) ?_
        dsimp only [List.filterMap, List.getElem?_cons_zero, List.getElem?_cons_succ]
        repeat (go_big_quiet_step (fail))
        refine wpQuiet_nil ?_
        refine wpPlan_takeL [1, 6] [(true, 7), (true, 10), (true, 11), (true, 12), (false, 13)] _ (by rfl) (by rfl) (⟨dlo, d1⟩) ?_
        dsimp only [List.filterMap, List.getElem?_cons_zero, List.getElem?_cons_succ]
        (refine wpQuiet_load_cell (fun w' hw' => hw'.1) (by rfl) _ _ (by rfl) (by rfl) _ Tryz.underlying34 (by rfl) ?_; simp only [Act.put, List.setIfInBounds_toArray, List.set_cons_zero, List.set_cons_succ])
        (refine wpQuiet_load_cell (fun w' hw' => hw'.2) (by rfl) _ _ (by rfl) (by rfl) _ Tryz.underlying5 (by rfl) ?_; simp only [Act.put, List.setIfInBounds_toArray, List.set_cons_zero, List.set_cons_succ])
        refine wpQuiet_nil ?_
        refine wpPlan_pure [7, 10, 11, 12] [(false, 13)] _ (by rfl) (by rfl) ?_
        dsimp only [List.filterMap, List.getElem?_cons_zero, List.getElem?_cons_succ]
        repeat (go_big_quiet_step (fail))
        refine wpQuiet_nil ?_
        refine wpPlan_forceL _ rfl ?_
        go_wp2_with fail
        refine PlanQ.out (by rfl) ?_
        refine wpPlan_tidy ?_
        go_wp2
        go_roundw
        case rel => exact HR.out
        case measure => simp [intOf]
    · obtain rfl : j = 8 := by omega
      rw [lpart_8] at hg
      rw [show setF (Hd.f3 raw) 13 (at8 raw 92 : Nat) = Hd.f4 raw from rfl] at hg
      obtain ⟨hg2, hby, hHB0⟩ := HX9.out
      replace hg2 := hg2.upd hu (by omega)
      replace hby := Bytes.upd hby hu (by intro ad e; cases e; show b ≠ hb; omega)
      have hHB := Lib.hid (hHB0.upd hu (by rw [← HGN.out]; exact hgb))
      clear HX9 hHB0 hu hj hlt hcb
      rw [show ((8 : Nat) : Int) = 8 from rfl]
      go_wp2_with fail
      refine wp_region_planT (fun _ => True) [] [(true, 0), (true, 1), (true, 2), (false, 3)] (by kernel_rfl) (by kernel_rfl) (trivial) ?_
      refine wpPlan_pure [0, 1, 2] [(false, 3)] _ (by rfl) (by rfl) ?_
      dsimp only [List.filterMap, List.getElem?_cons_zero, List.getElem?_cons_succ]
      repeat (go_big_quiet_step (fail))
      refine wpQuiet_nil ?_
      refine wpPlan_forceL _ rfl ?_
      go_wp2_with fail
      refine (hfours_at b (off + 100) (c - 100) hb 156 (g1 + 1 + 1) 2 100 (Hd.f4 raw) raw [14, 15] HN.out rfl (by omega) (by omega) wr.drew (HCUT.out 100 wr.drew (by omega) hby) hg.drew ⟨_, hbj.drew⟩ (by decide) (by omega) (by omega)).mono ?_
      rintro e w10 ⟨rfl, hh, hu⟩
      replace hg2 := hg2.drew.upd hu (by omega)
      replace hHB := Lib.hid (hHB.out.drew.upd hu (by rw [← HGN.out]; exact hgb))
      replace hby : Bytes w10 (some ⟨b, off, none⟩) raw := Bytes.upd (w := wr.drew) hby hu (by intro ad e; cases e; show b ≠ hb; omega)
      clear hbj hu hg
      replace hh := hh.sub (show hdc (stepsF (Hd.f4 raw) (raw.drop 100) [14, 15] 2) = hdc (Hd.parse raw) from Hd.f5_parse raw)
      obtain ⟨f, hf⟩ : ∃ f, f = Hd.parse raw := ⟨_, rfl⟩
      rw [← hf] at hh
      have HF := Lib.hid hf
      obtain ⟨S, hS⟩ : ∃ S, S = (raw.drop 16).take 16 := ⟨_, rfl⟩
      have hSl : S.length = 16 := by rw [hS, List.length_take, List.length_drop, HN.out]; rfl
      have hbS : Bytes w10 (some ⟨b, off + 16, none⟩) S := by rw [hS]; exact (HCUT.out 16 w10 (by omega) hby).take 16
      have HS := Lib.hid hS
      clear hS hf
      obtain ⟨L, hL⟩ : ∃ L, L = List.replicate 16 (0 : UInt8) ++ Hd.rest f S := ⟨_, rfl⟩
      have hcLaid : ∀ w', Calls Tryz.prog 117 #[.agg (hdc f), .agg (S.map u8v).toArray] w' fun e w'' => e = .returned (.agg (L.map u8v).toArray) ∧ Below w'.heap.size w' w'' := fun w' => by
        rw [hL]
        exact hlaid_any f S hSl (by rw [HF.out]; exact Hd.parse_nat raw) (by rw [HF.out]; exact Hd.parse_in raw) w'
      have HLL : Hid (L.length = 256) := Lib.hid (by rw [hL, List.length_append, Hd.rest_length f _ hSl, List.length_replicate])
      have HL := Lib.hid hL
      have HSL := Lib.hid hSl
      clear hL hSl
      have a256 := alloc256
      go_wp2_with fail
      refine PlanQ.in_ trivial ?_
      refine wpPlan_tidy ?_
      go_wp2_with fail
      refine wp_region_tree (Below w10.heap.size w10) [] (PlanT.takes [1, 2, 3] (PlanT.takes [0, 4] (.opt 5 (.opt 6 (.opt 7 .done .no) .no) (.opt 6 (.opt 5 (.opt 7 .done .no) .no) .no)))) (by kernel_rfl) (by kernel_rfl) ((Below.refl _ _).drew) ?_
      refine wpTree_pure _ _ _ (by rfl) (by rfl) ?_
      dsimp only [List.filterMap, List.getElem?_cons_zero, List.getElem?_cons_succ]
      repeat (go_big_quiet_step (fail))
      refine wpQuiet_array (by rfl) _ _ (by rfl) 16 _ Tryz.underlying150 (some ⟨b, off + 16, none⟩) 16 (c - 16) (by rfl) (Nat.le_refl _) ?_
      simp only [Act.put, List.setIfInBounds_toArray, List.set_cons_zero, List.set_cons_succ]
      refine wpQuiet_nil ?_
      refine wpTree_takeL _ _ _ (by rfl) (by rfl) ((Below.refl _ _).drew) ?_
      dsimp only [List.filterMap, List.getElem?_cons_zero, List.getElem?_cons_succ]
      (refine wpQuiet_load_blk (fun w' hw' => hh.below hw' hh.lt) (by rfl) _ _ (by rfl) (by rfl) _ Tryz.underlying38 (by rfl) (sizeHd) (hdc_size _) ?_; simp only [Act.put, List.setIfInBounds_toArray, List.set_cons_zero, List.set_cons_succ])
      (refine wpQuiet_load_mid (fun w' hw' => (Bytes.below hbS hw').range) (by rfl) _ _ (by rfl) (by rfl) _ Tryz.underlying150 (by rfl) (size16) (by rw [List.length_map]; exact HSL.out) ?_; simp only [Act.put, List.setIfInBounds_toArray, List.set_cons_zero, List.set_cons_succ])
      refine wpQuiet_nil ?_
      apply share (α := Nat) (F := fun ga wZ => Blk wZ ga 101 (L.map u8v).toArray ∧ Below w10.heap.size w10 wZ ∧ w10.heap.size ≤ ga)
      · intro KK
        refine wpTree_opt _ rfl ?_ (wpTree_one _ rfl ?_)
        · go_wp2_with fail
          refine (hcLaid _).mono ?_
          rintro e w6 ⟨rfl, hb6⟩
          have hc6 : Below w10.heap.size w10 w6 := (Below.refl _ _).drew.trans (hb6.mono (Nat.le_refl _))
          go_wp2_with fail
          refine TreeQ.in_ hc6 ?_
          refine wpTree_one _ rfl ?_
          go_wp2_with fail
          refine TreeQ.in_ (hc6.alloc hc6.size _) ?_
          refine wpTree_one _ rfl ?_
          go_wp2_with (first
            | ((with_reducible show wpList _ _ _ ((⟨none, _, _, _, _, _⟩ : Oper) :: _) _ _); refine wpList_store_blk (o := ⟨none, _, _, _, _, _⟩) (Blk.new w6 101 zero256) (by rfl) _ _ _ (by rfl) (by rfl) ((L.map u8v).toArray) (by rfl) (size256) (arr_size _ _) (by simpa using HLL.out) (u8_all _) ?_; intro w7 h7 hu7)
            | fail)
          have hc7 := (hc6.alloc hc6.size _).upd hu7 hc6.size
          refine TreeQ.in_ hc7 ?_
          refine wpTree_done ?_
          have hge := hc6.size
          generalize w6.heap.size = ga at *
          exact KK ga w7 ⟨h7, hc7, hge⟩
        · go_wp2_with fail
          have hc6 : Below w10.heap.size w10 (w10.alloc (.cells zero256 101)).drew := ((Below.refl _ _).alloc (Nat.le_refl _) _).drew
          have h6 : Blk (w10.alloc (.cells zero256 101)).drew w10.heap.size 101 zero256 := (Blk.new w10 _ _).drew
          have hge : w10.heap.size ≤ w10.heap.size := Nat.le_refl _
          generalize hwx : (w10.alloc (.cells zero256 101)).drew = wx at hc6 h6 ⊢
          clear hwx
          refine TreeQ.in_ hc6 ?_
          refine wpTree_one _ rfl ?_
          go_wp2_with fail
          refine (hcLaid wx).mono ?_
          rintro e w6 ⟨rfl, hb6⟩
          have h7 := keep hb6 h6
          have hc7 := hc6.trans (hb6.mono hc6.size)
          go_wp2_with fail
          refine TreeQ.in_ hc7 ?_
          refine wpTree_one _ rfl ?_
          go_wp2_with (first
            | ((with_reducible show wpList _ _ _ ((⟨none, _, _, _, _, _⟩ : Oper) :: _) _ _); refine wpList_store_blk (o := ⟨none, _, _, _, _, _⟩) (h7) (by rfl) _ _ _ (by rfl) (by rfl) ((L.map u8v).toArray) (by rfl) (size256) (arr_size _ _) (by simpa using HLL.out) (u8_all _) ?_; intro w8 h8 hu8)
            | fail)
          have hc8 := hc7.upd hu8 hge
          refine TreeQ.in_ hc8 ?_
          refine wpTree_done ?_
          exact KK w10.heap.size w8 ⟨h8, hc8, hge⟩
      · clear hcLaid a256
        rintro ga wZ ⟨hga, hbx, hge⟩
        have hgah := hh.lt
        (replace hg2 := keep hbx hg2; replace hby := keep hbx hby; replace hh := keep hbx hh)
        replace hHB := Lib.hid (hHB.out.trans (hbx.mono hHB.out.size))
        clear hbx hbS
        go_wp2_with fail
        refine wp_region_tree (Below wZ.heap.size wZ) [] (PlanT.takes [0] (.opt 1 (PlanT.takes [2, 3, 4, 6, 7] (PlanT.takes [5, 8] (PlanT.takes [9, 10] .done))) .no)) (by kernel_rfl) (by kernel_rfl) ((Below.refl _ _).drew) ?_
        refine wpTree_takeL _ _ _ (by rfl) (by rfl) ((Below.refl _ _).drew) ?_
        dsimp only [List.filterMap, List.getElem?_cons_zero, List.getElem?_cons_succ]
        (refine wpQuiet_load_blk (fun w' hw' => hh.below hw' hh.lt) (by rfl) _ _ (by rfl) (by rfl) _ Tryz.underlying38 (by rfl) (sizeHd) (hdc_size _) ?_; simp only [Act.put, List.setIfInBounds_toArray, List.set_cons_zero, List.set_cons_succ])
        refine wpQuiet_nil ?_
        refine wpTree_one _ rfl ?_
        go_wp2_with fail
        refine (hcheck_any f _).mono ?_
        rintro e w11 ⟨rfl, hbx⟩
        have hBx : Below wZ.heap.size wZ w11 := (Below.refl _ _).drew.trans hbx
        have hRl := Hd.rest_length f S HSL.out
        have hbR : Bytes wZ (some ⟨ga, 16, none⟩) (Hd.rest f S) := by
          have h := hga.bytes.drop (k := 16) (cap := 256) (.inl (by omega))
          rw [if_neg (by omega)] at h
          rw [HL.out, show (List.replicate 16 (0 : UInt8) ++ Hd.rest f S).drop 16 = Hd.rest f S from List.drop_left (l₁ := List.replicate 16 (0 : UInt8))] at h
          simpa [Addr.add_lit] using h
        have hbD := HCUT.out 16 wZ (by omega) hby
        have hDl : (raw.drop 16).length = 240 := by rw [List.length_drop, HN.out]
        have HRD := Lib.hid (And.intro hRl hDl)
        have HRB := Lib.hid (And.intro hbR hbD)
        clear hRl hDl hbR hbD
        (replace hg2 := keep hBx hg2; replace hby := keep hBx hby; replace hh := keep hBx hh; replace hga := keep hBx hga)
        replace hHB := Lib.hid (hHB.out.trans (hBx.mono hHB.out.size))
        clear hbx
        by_cases hok : Hd.ok f = true
        · rw [show Hd.code f = 0 by unfold Hd.code; rw [hok]; rfl]
          have HOK := Lib.hid hok
          clear hok
          go_wp2_with fail
          refine TreeQ.in_ hBx ?_
          refine wpTree_pure _ _ _ (by rfl) (by rfl) ?_
          dsimp only [List.filterMap, List.getElem?_cons_zero, List.getElem?_cons_succ]
          repeat (go_big_quiet_step (fail))
          refine wpQuiet_nil ?_
          refine wpTree_takeL _ _ _ (by rfl) (by rfl) (hBx) ?_
          dsimp only [List.filterMap, List.getElem?_cons_zero, List.getElem?_cons_succ]
          (refine wpQuiet_want' (by rfl) ?_; refine wpQuiet_convert_str (by rfl) 39 9 5 _ (by rfl) Tryz.underlying39 Tryz.underlying5 Tryz.underlying9 (some ⟨ga, 16, none⟩) (240) (240) (Hd.rest f S) (by rfl) (HRD.out.1.symm) (fun w' hw' => Bytes.below HRB.out.1 hw') ?_; simp only [Act.put, List.setIfInBounds_toArray, List.set_cons_zero, List.set_cons_succ])
          (refine wpQuiet_want' (by rfl) ?_; refine wpQuiet_convert_str (by rfl) 39 9 5 _ (by rfl) Tryz.underlying39 Tryz.underlying5 Tryz.underlying9 (some ⟨b, off + 16, none⟩) (240) (c - 16) (raw.drop 16) (by rfl) (HRD.out.2.symm) (fun w' hw' => Bytes.below HRB.out.2 hw') ?_; simp only [Act.put, List.setIfInBounds_toArray, List.set_cons_zero, List.set_cons_succ])
          refine wpQuiet_nil ?_
          refine wpTree_pure _ _ _ (by rfl) (by rfl) ?_
          dsimp only [List.filterMap, List.getElem?_cons_zero, List.getElem?_cons_succ]
          repeat (go_big_quiet_step (fail))
          refine wpQuiet_nil ?_
          refine wpTree_done ?_
          rw [str_beq]
          by_cases heq : Hd.rest f S = raw.drop 16
          · rw [decide_eq_true heq]
            have hrd : Hid (Hd.read raw = (0, f)) := Lib.hid (by
              unfold Hd.read
              rw [if_neg (by rw [HN.out]; simp), if_neg (by rw [HSEAL.out]; simp), ← HF.out, ← HS.out, if_pos ⟨HOK.out, heq⟩])
            clear heq hBx HRB HRD HCUT hge hgah hgl hlt3 hgb hbl hz9
            go_wp2_with (first
              | ((with_reducible show wpList _ _ _ ((⟨some 82, _, _, _, _, _⟩ : Oper) :: _) _ _); refine wpList_load_blk (o := ⟨some 82, _, _, _, _, _⟩) (hh) (by rfl) _ _ (by rfl) (by rfl) _ Tryz.underlying38 (by rfl) (sizeHd) (hdc_size _) ?_)
              | ((with_reducible show wpList _ _ _ ((⟨none, _, _, _, _, _⟩ : Oper) :: _) _ _); refine wpList_store_blk (o := ⟨none, _, _, _, _, _⟩) (hg2) (by rfl) _ _ _ (by rfl) (by rfl) (hdc f) (by rfl) (sizeHd) (hdc_size _) (hdc_size _) (hdc_one _) ?_; intro w3 h3 hu3)
              | fail)
            refine bodyPost_ret (results_row_tmp (by rfl) _ _ g0 _ _ _ (by rfl) h3 Tryz.underlying38 (by rfl) (by rw [hdc_size]; exact sizeHd)) rfl ⟨by rw [hrd.out]; rfl, hHB.out.upd hu3 (by rw [HGN.out]; exact Nat.le_refl _)⟩
          · rw [decide_eq_false heq]
            have hrd : Hid (Hd.read raw = (4, Hd.none_)) := Lib.hid (by
              unfold Hd.read
              rw [if_neg (by rw [HN.out]; simp), if_neg (by rw [HSEAL.out]; simp), ← HF.out, ← HS.out, if_neg (fun h => heq h.2)])
            clear heq hBx HRB HRD HCUT hge hgah hgl hlt3 hgb hbl hz9
            go_wp2_with (first
              | ((with_reducible show wpList _ _ _ ((⟨none, _, _, _, _, _⟩ : Oper) :: _) _ _); refine wpList_store_blk (o := ⟨none, _, _, _, _, _⟩) (hg2) (by rfl) _ _ _ (by rfl) (by rfl) (hdc zeroHd) (by rfl) (sizeHd) (hdc_size _) (hdc_size _) (hdc_one _) ?_; intro w3 h3 hu3)
              | fail)
            refine bodyPost_ret (results_row_tmp (by rfl) _ _ g0 _ _ _ (by rfl) h3 Tryz.underlying38 (by rfl) (by rw [hdc_size]; exact sizeHd)) rfl ⟨by rw [hrd.out]; rfl, hHB.out.upd hu3 (by rw [HGN.out]; exact Nat.le_refl _)⟩
        · have hrd : Hid (Hd.read raw = (4, Hd.none_)) := Lib.hid (by
            unfold Hd.read
            rw [if_neg (by rw [HN.out]; simp), if_neg (by rw [HSEAL.out]; simp), ← HF.out, ← HS.out, if_neg (fun h => hok h.1)])
          rw [show Hd.code f = 2 by unfold Hd.code; rw [if_neg hok]]
          clear hok
          go_wp2_with fail
          refine TreeQ.in_ hBx ?_
          refine wpTree_pure _ _ _ (by rfl) (by rfl) ?_
          dsimp only [List.filterMap, List.getElem?_cons_zero, List.getElem?_cons_succ]
          repeat (go_big_quiet_step (fail))
          refine wpQuiet_nil ?_
          refine wpTree_takeL _ _ _ (by rfl) (by rfl) (hBx) ?_
          dsimp only [List.filterMap, List.getElem?_cons_zero, List.getElem?_cons_succ]
          repeat (go_big_quiet_step (fail))
          refine wpQuiet_nil ?_
          refine wpTree_pure _ _ _ (by rfl) (by rfl) ?_
          dsimp only [List.filterMap, List.getElem?_cons_zero, List.getElem?_cons_succ]
          repeat (go_big_quiet_step (fail))
          refine wpQuiet_nil ?_
          refine wpTree_done ?_
          clear hBx HRB HRD HCUT hge hgah hgl hlt3 hgb hbl hz9
          go_wp2_with (first
            | ((with_reducible show wpList _ _ _ ((⟨none, _, _, _, _, _⟩ : Oper) :: _) _ _); refine wpList_store_blk (o := ⟨none, _, _, _, _, _⟩) (hg2) (by rfl) _ _ _ (by rfl) (by rfl) (hdc zeroHd) (by rfl) (sizeHd) (hdc_size _) (hdc_size _) (hdc_one _) ?_; intro w3 h3 hu3)
            | fail)
          refine bodyPost_ret (results_row_tmp (by rfl) _ _ g0 _ _ _ (by rfl) h3 Tryz.underlying38 (by rfl) (by rw [hdc_size]; exact sizeHd)) rfl ⟨by rw [hrd.out]; rfl, hHB.out.upd hu3 (by rw [HGN.out]; exact Nat.le_refl _)⟩
end Go.Proofs.YtfoegmjpfkmggaaGreatDoor

/- A message's bytes read, by the program. Conditions: the bytes can be read; they are at most 2^47 - 5000. -/
namespace Go.Proofs.YtfoegmjpfkmggaaGreatDoor
open Go.RowKit
theorem zeroMsg_cells : msgc zeroHd (.slice none 0 0) = #[.int .i64 0, .int .i64 0, .int .i64 0, .int .i64 0, .int .i64 0, .int .i64 0, .int .i64 0, .int .i64 0, .int .i64 0, .int .u64 0, .int .u64 0, .int .i64 0, .int .i64 0, .int .u64 0, .int .i64 0, .int .i64 0, .slice none 0 0] := by rfl
theorem msgc_size (f : HdF) (v : Value) : (msgc f v).size = 17 := arr_size _ _
theorem msgc_one (f : HdF) (v : Value) (h : v.oneCell' = true) : (msgc f v).all (·.oneCell') = true := by
  rw [Array.all_eq_true]
  intro i hi
  have hs := msgc_size f v
  have : (msgc f v)[i]? = some (if i < 16 then hdv f i else v) := arr_at _ (by omega)
  rw [Array.getElem?_eq_getElem hi] at this
  rw [Option.some.inj this]
  split
  · unfold hdv; split <;> rfl
  · exact h
theorem run_build_msg (f : HdF) (A : Option Addr) (n c : Nat) (w : World) : (Instr.build 41 #[(0, .agg (hdc f)), (1, .slice A n c)]).run Tryz.prog w = .ok (.agg (msgc f (.slice A n c))) w := by kernel_rfl
theorem wpQuiet_build_msg {ops : Array Oper} {C : World → Prop} {Q : Act → Prop} {rest : List Oper} {o : Oper} {a : Act} (hgd : o.guard = none) (x y : Operand) (ho : o.op = .build 41 #[(0, x), (1, y)])
    (f : HdF) (A : Option Addr) (n c : Nat) (hx : a.eval x = .agg (hdc f)) (hy : a.eval y = .slice A n c) (h : wpQuiet Tryz.prog ops C Q rest (a.put o.dst (.agg (msgc f (.slice A n c))))) : wpQuiet Tryz.prog ops C Q (o :: rest) a := by
  refine wpQuiet_step fun K' hK' => ?_
  rw [if_pos (by simp [Region.wanted, hgd])]
  refine ⟨_, fun w hw => ?_, hK' _ h⟩
  unfold Oper.quietAt execOp
  simp only [ho, List.map_toArray, List.map_cons, List.map_nil, hx, hy, run_build_msg, Sem.run_bind, Sem.run_pure, Result.andThen_ok]
  exact ⟨rfl, rfl⟩
theorem OwnB.slice {e : TypeId} {w : World} {base : Nat} {v : Value} {l sp : List UInt8} (h : OwnB e w base v l sp) : ∃ A n c, v = .slice A n c := by
  rcases h with ⟨h, -⟩ | ⟨g, m, h, -⟩ <;> exact ⟨_, _, _, h⟩
set_option maxRecDepth 100000 in
set_option maxHeartbeats 4000000 in
theorem hopen_any (A : Option Addr) (n c : Nat) (raw : List UInt8) (hn : n = raw.length) (hc : n ≤ c) (hc2 : n ≤ 140737488351232 ∧ c ≤ 9223372036854775807) (w : World) (hby : Bytes w A raw) :
    Calls Tryz.prog 97 #[.slice A n c] w fun e w' => ∃ v, e = .returned (.tuple #[.agg (msgc (Msg.read raw).2.1 v), .int .i64 (Msg.read raw).1]) ∧ (∃ sp, OwnB 5 w' w.heap.size v (Msg.read raw).2.2 sp) ∧ Below w.heap.size w w' := by
  have hg0 := (Blk.new w 41 #[.int .i64 0, .int .i64 0, .int .i64 0, .int .i64 0, .int .i64 0, .int .i64 0, .int .i64 0, .int .i64 0, .int .i64 0, .int .u64 0, .int .u64 0, .int .i64 0, .int .i64 0, .int .u64 0, .int .i64 0, .int .i64 0, .slice none 0 0]).sub zeroMsg_cells.symm
  have hB0 := Lib.hid ((Below.refl w.heap.size w).alloc (Nat.le_refl _) (.cells #[.int .i64 0, .int .i64 0, .int .i64 0, .int .i64 0, .int .i64 0, .int .i64 0, .int .i64 0, .int .i64 0, .int .i64 0, .int .u64 0, .int .u64 0, .int .i64 0, .int .i64 0, .int .u64 0, .int .i64 0, .int .i64 0, .slice none 0 0] 41))
  by_cases h1 : n < 256
  · have hrd : Hid (Msg.read raw = (4, Hd.none_, [])) := Lib.hid (by unfold Msg.read; rw [if_pos (by omega)])
    rw [hrd.out]
    clear hn hby hc2
    have H1 : decide ((n : Int) < 256) = true := by rw [decide_eq_true_eq]; omega
    go_enter Tryz.func97, Tryz.ntmps97
    go_wp2_with (first
      | ((with_reducible show wpList _ _ _ ((⟨none, _, _, _, _, _⟩ : Oper) :: _) _ _); refine wpList_store_blk (o := ⟨none, _, _, _, _, _⟩) (hg0) (by rfl) _ _ _ (by rfl) (by rfl) (msgc zeroHd (.slice none 0 0)) (by rfl) (sizeMsg) (msgc_size _ _) (msgc_size _ _) (msgc_one _ _ rfl) ?_; intro w2 h2 hu2)
      | fail)
    refine bodyPost_ret (results_row_tmp (by rfl) _ _ w.heap.size _ _ _ (by rfl) h2 Tryz.underlying41 (by rfl) (by rw [msgc_size]; exact sizeMsg)) rfl ⟨_, rfl, ⟨[], OwnsC.nil _ _ _ _⟩, hB0.out.upd hu2 (Nat.le_refl _)⟩
  have H1 : decide ((n : Int) < 256) = false := by rw [decide_eq_false_iff_not]; omega
  have hT := hby.take 256
  have hTl : (raw.take 256).length = 256 := by rw [List.length_take]; omega
  have hge256 : 256 ≤ n := by omega
  have HNN := Lib.hid (And.intro hn (And.intro hc hc2))
  obtain ⟨T, hTT⟩ : ∃ T, T = raw.take 256 := ⟨_, rfl⟩
  rw [← hTT] at hT hTl
  have HT := Lib.hid hTT
  clear hTT
  go_enter Tryz.func97, Tryz.ntmps97
  go_wp2_with fail
  generalize hw1 : w.alloc (.cells #[.int .i64 0, .int .i64 0, .int .i64 0, .int .i64 0, .int .i64 0, .int .i64 0, .int .i64 0, .int .i64 0, .int .i64 0, .int .u64 0, .int .u64 0, .int .i64 0, .int .i64 0, .int .u64 0, .int .i64 0, .int .i64 0, .slice none 0 0] 41) = w1 at hg0 hB0 ⊢
  clear hw1
  obtain ⟨g0, hgn⟩ : ∃ g0, g0 = w.heap.size := ⟨_, rfl⟩
  have HGE : Hid (w.heap.size ≤ g0) := Lib.hid (by omega)
  rw [← hgn] at hg0 ⊢
  have HGN := Lib.hid hgn
  clear hgn
  have hTb := Bytes.below hT hB0.out
  refine (hhead_any A 256 c T hTl.symm (by omega) (by omega) w1 hTb).mono ?_
  rintro e w2 ⟨rfl, hbx⟩
  (replace hg0 := keep hbx hg0)
  have hB2 := Lib.hid (hB0.out.trans (hbx.mono hB0.out.size))
  clear hB0 hbx hTb H1
  have h2 := (Blk.new w2 38 #[.int .i64 0, .int .i64 0, .int .i64 0, .int .i64 0, .int .i64 0, .int .i64 0, .int .i64 0, .int .i64 0, .int .i64 0, .int .u64 0, .int .u64 0, .int .i64 0, .int .i64 0, .int .u64 0, .int .i64 0, .int .i64 0]).sub zeroHd_cells.symm
  have hbx := Lib.hid ((Below.refl w2.heap.size w2).alloc (Nat.le_refl _) (.cells #[.int .i64 0, .int .i64 0, .int .i64 0, .int .i64 0, .int .i64 0, .int .i64 0, .int .i64 0, .int .i64 0, .int .i64 0, .int .u64 0, .int .u64 0, .int .i64 0, .int .i64 0, .int .u64 0, .int .i64 0, .int .i64 0] 38))
  obtain ⟨hcells, hH⟩ : ∃ f, f = (Hd.read T).2 := ⟨_, rfl⟩
  obtain ⟨er, hE⟩ : ∃ f, f = (Hd.read T).1 := ⟨_, rfl⟩
  rw [← hH, ← hE]
  have HH := Lib.hid hH
  have HE := Lib.hid hE
  clear hH hE
  have hb2 := hB2.out.size
  have hgl := hg0.lt
  rcases Hd.read_cases T with hx | ⟨hx, -, hok, hhead⟩
  · have hrd : Hid (Msg.read raw = (er, Hd.none_, [])) := Lib.hid (by
      unfold Msg.read
      rw [if_neg (by have := HNN.out.1; omega), ← HT.out, if_pos (by rcases hx with e | e <;> rw [e] <;> simp), ← HE.out])
    have her : er = 4 ∨ er = 12 := by rw [HE.out]; rcases hx with e | e <;> rw [e] <;> simp
    clear hx HH HE
    rcases her with rfl | rfl
    all_goals
      go_wp2_with (first
        | ((with_reducible show wpList _ _ _ ((⟨none, _, _, _, _, _⟩ : Oper) :: _) _ _); refine wpList_store_blk (o := ⟨none, _, _, _, _, _⟩) (h2) (by rfl) _ _ _ (by rfl) (by rfl) (hdc hcells) (by rfl) (sizeHd) (hdc_size _) (hdc_size _) (hdc_one _) ?_; intro w3 h3 hu3; have hx3 := hbx.out.upd hu3 (Nat.le_refl _); (replace hg0 := keep hx3 hg0); clear h2 hu3; have hB3 := Lib.hid (hB2.out.trans (hx3.mono hB2.out.size)); clear hx3 hbx hB2; have d2 := h3.at_ 2 (hdc_at _ 2 (by omega) (by omega) (by omega) (by omega)))
        | (have HBZ := hB3; ((with_reducible show wpList _ _ _ ((⟨none, _, _, _, _, _⟩ : Oper) :: _) _ _); refine wpList_store_blk (o := ⟨none, _, _, _, _, _⟩) (hg0) (by rfl) _ _ _ (by rfl) (by rfl) (msgc zeroHd (.slice none 0 0)) (by rfl) (sizeMsg) (msgc_size _ _) (msgc_size _ _) (msgc_one _ _ rfl) ?_; intro w9 h9 hu9))
        | fail)
      refine bodyPost_ret (results_row_tmp (by rfl) _ _ g0 _ _ _ (by rfl) h9 Tryz.underlying41 (by rfl) (by rw [msgc_size]; exact sizeMsg)) rfl ⟨_, by rw [hrd.out]; rfl, ⟨[], by rw [hrd.out]; exact OwnsC.nil _ _ _ _⟩, HBZ.out.upd hu9 HGE.out⟩
  · have hE0 : er = 0 := by rw [HE.out, hx]
    have hHp : Hid (hcells = Hd.parse T) := Lib.hid (by rw [HH.out, hx])
    have hr0 : Hid ((Hd.read T).1 = 0) := Lib.hid (by rw [hx])
    subst hE0
    clear hx HH HE hok hhead
    have hnn : ((n : Int) - 256) = ((raw.length - 256 : Nat) : Int) := by have := HNN.out.1; omega
    by_cases hsz : ((raw.length - 256 : Nat) : Int) = hcells 2
    · have hsz' : Hid (((raw.length - 256 : Nat) : Int) = Hd.parse T 2) := Lib.hid (by rw [hsz, hHp.out])
      have hcm : ((n : Int) - 256 != hcells 2) = false := by rw [bne_eq_false_iff_eq, hnn]; exact hsz
      clear hnn hsz
      go_wp2_with (first
        | ((with_reducible show wpList _ _ _ ((⟨none, _, _, _, _, _⟩ : Oper) :: _) _ _); refine wpList_store_blk (o := ⟨none, _, _, _, _, _⟩) (h2) (by rfl) _ _ _ (by rfl) (by rfl) (hdc hcells) (by rfl) (sizeHd) (hdc_size _) (hdc_size _) (hdc_one _) ?_; intro w3 h3 hu3; have hx3 := hbx.out.upd hu3 (Nat.le_refl _); (replace hg0 := keep hx3 hg0); clear h2 hu3; have hB3 := Lib.hid (hB2.out.trans (hx3.mono hB2.out.size)); clear hx3 hbx hB2; have d2 := h3.at_ 2 (hdc_at _ 2 (by omega) (by omega) (by omega) (by omega)))
        | fail)
      clear hcm d2
      obtain ⟨b, off, rfl, hbl, hcell⟩ := hby.at_ (by omega)
      clear hcell
      obtain ⟨D, hD⟩ : ∃ D, D = raw.drop 256 := ⟨_, rfl⟩
      obtain ⟨S, hS⟩ : ∃ S, S = (raw.drop 16).take 16 := ⟨_, rfl⟩
      have hDl : D.length = n - 256 := by rw [hD, List.length_drop, HNN.out.1]
      have hSl : S.length = 16 := by rw [hS, List.length_take, List.length_drop]; omega
      have hc16 : ¬ c = 16 := by omega
      have hc32 : ¬ c < 32 := by omega
      have hc32' : 32 ≤ c := by omega
      have hc256' : 256 ≤ c := by omega
      have hb3 := Bytes.below hby hB3.out
      have hbD : Bytes w3 (if c = 256 then some ⟨b, off, none⟩ else some ⟨b, off + 256, none⟩) D := by
        rw [hD]; exact hb3.drop (k := 256) (cap := c) (by omega)
      have hbS : Bytes w3 (some ⟨b, off + 16, none⟩) S := by
        have h := hb3.drop (k := 16) (cap := c) (by omega)
        rw [if_neg hc16] at h
        rw [hS]
        exact Bytes.take (by simpa [Addr.add_lit] using h) 16
      have HD := Lib.hid hD
      have HS := Lib.hid hS
      have HDl := Lib.hid hDl
      have HSl := Lib.hid hSl
      clear hD hS hDl hSl hb2 hgl
      subst hn
      refine wp_region_tree (Below w3.heap.size w3) [] (PlanT.takes [0, 1, 2, 3, 4] (PlanT.takes [5] (.opt 6 (PlanT.takes [7, 8] .done) .no))) (by kernel_rfl) (by kernel_rfl) ((Below.refl _ _).drew) ?_
      refine wpTree_pure _ _ _ (by rfl) (by rfl) ?_
      dsimp only [List.filterMap, List.getElem?_cons_zero, List.getElem?_cons_succ]
      repeat (go_big_quiet_step (fail))
      refine wpQuiet_array (by rfl) _ _ (by rfl) 16 _ Tryz.underlying150 (some ⟨b, off + 16, none⟩) 16 (c - 16) (by rfl) (Nat.le_refl _) ?_
      simp only [Act.put, List.setIfInBounds_toArray, List.set_cons_zero, List.set_cons_succ]
      refine wpQuiet_nil ?_
      generalize (if c = 256 then some (⟨b, off, none⟩ : Addr) else some ⟨b, off + 256, none⟩) = A2 at hbD ⊢
      refine wpTree_takeL _ _ _ (by rfl) (by rfl) ((Below.refl _ _).drew) ?_
      dsimp only [List.filterMap, List.getElem?_cons_zero, List.getElem?_cons_succ]
      refine wpQuiet_load_mid (fun w' hw' => (Bytes.below hbS hw').range) (by rfl) _ _ (by rfl) (by rfl) _ Tryz.underlying150 (by rfl) size16 (by rw [List.length_map]; exact HSl.out) ?_
      simp only [Act.put, List.setIfInBounds_toArray, List.set_cons_zero, List.set_cons_succ]
      refine wpQuiet_nil ?_
      refine wpTree_one _ rfl ?_
      go_wp2_with fail
      refine (right_seal_any A2 (raw.length - 256) (c - 256) D S HDl.out.symm (by rw [HDl.out]; omega) ⟨by rw [HDl.out]; omega, by omega⟩ HSl.out w3.drew hbD).mono ?_
      rintro e w4 ⟨rfl, hbx⟩
      have hBx : Below w3.heap.size w3 w4 := (Below.refl _ _).drew.trans hbx
      have hB4 := Lib.hid (hB3.out.trans (hBx.mono hB3.out.size))
      have hb4 := Bytes.below hb3 hBx
      (replace hg0 := keep hBx hg0; replace h3 := keep hBx h3)
      clear hbx hbS hbD hb3
      by_cases hseal : Sha.sum D = S
      · rw [decide_eq_true hseal]
        have hrd : Hid (Msg.read raw = (0, Hd.parse T, D)) := Lib.hid (by
          unfold Msg.read
          rw [if_neg (by omega), ← HT.out, if_neg (by rw [hr0.out]; simp), if_neg (by rw [hsz'.out]; simp), if_neg (by rw [← HD.out, ← HS.out, hseal]; simp), HD.out])
        clear hseal
        go_wp2_with fail
        refine TreeQ.in_ hBx ?_
        refine wpTree_pure _ _ _ (by rfl) (by rfl) ?_
        dsimp only [List.filterMap, List.getElem?_cons_zero, List.getElem?_cons_succ]
        repeat (go_big_quiet_step (fail))
        refine wpQuiet_nil ?_
        refine wpTree_done ?_
        clear hBx hB3
        go_wp2_with fail
        have hbD : Bytes w4 (if c = 256 then some ⟨b, off, none⟩ else some ⟨b, off + 256, none⟩) D := by
          rw [HD.out]; exact hb4.drop (k := 256) (cap := c) (by omega)
        refine wp_region_tree (Below w4.heap.size w4) [5, 6] (PlanT.takes [1, 2] (PlanT.takes [0] (.opt 3 (PlanT.takes [4] (.opt 5 (.opt 6 .done .no) .no)) .no))) (by kernel_rfl) (by kernel_rfl) ((Below.refl _ _).drew) ?_
        refine wpTree_pure _ _ _ (by rfl) (by rfl) ?_
        dsimp only [List.filterMap, List.getElem?_cons_zero, List.getElem?_cons_succ]
        repeat (go_big_quiet_step (fail))
        refine wpQuiet_nil ?_
        generalize (if c = 256 then some (⟨b, off, none⟩ : Addr) else some ⟨b, off + 256, none⟩) = A2 at hbD ⊢
        refine wpTree_takeL _ _ _ (by rfl) (by rfl) ((Below.refl _ _).drew) ?_
        dsimp only [List.filterMap, List.getElem?_cons_zero, List.getElem?_cons_succ]
        (refine wpQuiet_want' (by rfl) ?_; refine wpQuiet_load_blk (fun w' hw' => h3.below hw' h3.lt) (by rfl) _ _ (by rfl) (by rfl) _ Tryz.underlying38 (by rfl) (sizeHd) (hdc_size _) ?_; simp only [Act.put, List.setIfInBounds_toArray, List.set_cons_zero, List.set_cons_succ])
        refine wpQuiet_nil ?_
        refine wpTree_one _ rfl ?_
        rw [← HDl.out]
        have hdb : D.length ≤ 140737488351232 := by rw [HDl.out]; omega
        go_wp2_with (first
          | ((with_reducible show wpList _ _ _ ((⟨some 42, _, _, _, _, _⟩ : Oper) :: _) _ _); refine wpList_append_bytes (o := ⟨some 42, _, _, _, _, _⟩) (by rfl) _ _ _ (by rfl) (w4.heap.size) _ Tryz.underlying39 u8info (.slice none 0 0) ([]) ([]) (by rfl) (OwnsC.nil _ _ _ _) (A2) (c - 256) (D) (by first | rfl | simp) (hbD) (by first | omega | (simp; omega)) (Nat.le_refl _) ?_; intro v5 w5 sp5 ho5 hg5 _ _)
          | fail)
        have hgl := hg0.lt
        have HB4 := hB4
        have hc5 : Below w4.heap.size w4 w5 := (Below.refl _ _).drew.grown hg5 (Nat.le_refl _) (fun k hk => by cases hk)
        (replace hg0 := keep hc5 hg0)
        have HB5 := Lib.hid (hB4.out.trans (hc5.mono hB4.out.size))
        have HO5 := Lib.hid ho5
        obtain ⟨A5, n5, c5, rfl⟩ := OwnB.slice ho5
        clear hg5 ho5 hbD hb4 hB4
        refine TreeQ.in_ hc5 ?_
        refine wpTree_pure _ _ _ (by rfl) (by rfl) ?_
        dsimp only [List.filterMap, List.getElem?_cons_zero, List.getElem?_cons_succ]
        refine wpQuiet_build_msg (by rfl) _ _ (by rfl) hcells A5 n5 c5 (by rfl) (by rfl) ?_
        simp only [Act.put, List.setIfInBounds_toArray, List.set_cons_zero, List.set_cons_succ]
        refine wpQuiet_nil ?_
        refine wpTree_one _ rfl ?_
        go_wp2_with (first
          | ((with_reducible show wpList _ _ _ ((⟨none, _, _, _, _, _⟩ : Oper) :: _) _ _); refine wpList_store_blk (o := ⟨none, _, _, _, _, _⟩) (hg0) (by rfl) _ _ _ (by rfl) (by rfl) (msgc hcells (.slice A5 n5 c5)) (by rfl) (sizeMsg) (msgc_size _ _) (msgc_size _ _) (msgc_one _ _ rfl) ?_; intro w9 h9 hu9)
          | fail)
        refine TreeQ.out (by rfl) ?_
        refine wpTree_one _ rfl ?_
        go_wp2_with fail
        refine TreeQ.out (by rfl) ?_
        refine wpTree_done ?_
        have HX := Lib.hid (And.intro h9 (And.intro hu9 hc5))
        clear h9 hu9 hc5 hg0 h3
        go_wp2_with fail
        refine bodyPost_ret (results_row_tmp (by rfl) _ _ g0 _ _ _ (by rfl) HX.out.1 Tryz.underlying41 (by rfl) (by rw [msgc_size]; exact sizeMsg)) rfl ⟨_, by rw [hrd.out, hHp.out]; rfl, ⟨sp5, ?_⟩, HB5.out.upd HX.out.2.1 HGE.out⟩
        rw [hrd.out]
        have ho := OwnB.upd HO5.out HX.out.2.1 (fun e => by have := (OwnsC.lt HO5.out _ e).1; have := hgl; omega)
        rw [List.nil_append] at ho
        exact OwnsC.base_ ho HB4.out.size
      · rw [decide_eq_false hseal]
        have hrd : Hid (Msg.read raw = (12, Hd.none_, [])) := Lib.hid (by
          unfold Msg.read
          rw [if_neg (by omega), ← HT.out, if_neg (by rw [hr0.out]; simp), if_neg (by rw [hsz'.out]; simp), if_pos (by rw [← HD.out, ← HS.out]; exact hseal)])
        clear hseal
        go_wp2_with fail
        refine TreeQ.in_ hBx ?_
        refine wpTree_pure _ _ _ (by rfl) (by rfl) ?_
        dsimp only [List.filterMap, List.getElem?_cons_zero, List.getElem?_cons_succ]
        repeat (go_big_quiet_step (fail))
        refine wpQuiet_nil ?_
        refine wpTree_done ?_
        clear hBx hB3
        go_wp2_with (first
          | (have HBZ := hB4; ((with_reducible show wpList _ _ _ ((⟨none, _, _, _, _, _⟩ : Oper) :: _) _ _); refine wpList_store_blk (o := ⟨none, _, _, _, _, _⟩) (hg0) (by rfl) _ _ _ (by rfl) (by rfl) (msgc zeroHd (.slice none 0 0)) (by rfl) (sizeMsg) (msgc_size _ _) (msgc_size _ _) (msgc_one _ _ rfl) ?_; intro w9 h9 hu9))
          | fail)
        refine bodyPost_ret (results_row_tmp (by rfl) _ _ g0 _ _ _ (by rfl) h9 Tryz.underlying41 (by rfl) (by rw [msgc_size]; exact sizeMsg)) rfl ⟨_, by rw [hrd.out]; rfl, ⟨[], by rw [hrd.out]; exact OwnsC.nil _ _ _ _⟩, HBZ.out.upd hu9 HGE.out⟩
    · have hcm : ((n : Int) - 256 != hcells 2) = true := by rw [bne_iff_ne, hnn]; exact hsz
      have hrd : Hid (Msg.read raw = (4, Hd.none_, [])) := Lib.hid (by
        unfold Msg.read
        rw [if_neg (by have := HNN.out.1; omega), ← HT.out, if_neg (by rw [hr0.out]; simp), if_pos (by rw [← hHp.out]; exact hsz)])
      clear hnn hsz
      go_wp2_with (first
        | ((with_reducible show wpList _ _ _ ((⟨none, _, _, _, _, _⟩ : Oper) :: _) _ _); refine wpList_store_blk (o := ⟨none, _, _, _, _, _⟩) (h2) (by rfl) _ _ _ (by rfl) (by rfl) (hdc hcells) (by rfl) (sizeHd) (hdc_size _) (hdc_size _) (hdc_one _) ?_; intro w3 h3 hu3; have hx3 := hbx.out.upd hu3 (Nat.le_refl _); (replace hg0 := keep hx3 hg0); clear h2 hu3; have hB3 := Lib.hid (hB2.out.trans (hx3.mono hB2.out.size)); clear hx3 hbx hB2; have d2 := h3.at_ 2 (hdc_at _ 2 (by omega) (by omega) (by omega) (by omega)))
        | (have HBZ := hB3; ((with_reducible show wpList _ _ _ ((⟨none, _, _, _, _, _⟩ : Oper) :: _) _ _); refine wpList_store_blk (o := ⟨none, _, _, _, _, _⟩) (hg0) (by rfl) _ _ _ (by rfl) (by rfl) (msgc zeroHd (.slice none 0 0)) (by rfl) (sizeMsg) (msgc_size _ _) (msgc_size _ _) (msgc_one _ _ rfl) ?_; intro w9 h9 hu9))
        | fail)
      refine bodyPost_ret (results_row_tmp (by rfl) _ _ g0 _ _ _ (by rfl) h9 Tryz.underlying41 (by rfl) (by rw [msgc_size]; exact sizeMsg)) rfl ⟨_, by rw [hrd.out]; rfl, ⟨[], by rw [hrd.out]; exact OwnsC.nil _ _ _ _⟩, HBZ.out.upd hu9 HGE.out⟩
end Go.Proofs.YtfoegmjpfkmggaaGreatDoor
