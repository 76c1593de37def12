/- A number of 128 bits as bytes: what the program's function answers. Condition: its halves are from 0 on. -/
import Derived.Test.YtfoegmjpfkmggaaGreatDoorMJournalTurned7
namespace Go.Proofs.YtfoegmjpfkmggaaGreatDoor
open Go.RowKit
set_option maxRecDepth 100000 in
set_option maxHeartbeats 2000000 in
theorem id_any (hi lo : Nat) (w : World) :
    Calls Tryz.prog 156 #[.agg #[.int .u64 (hi : Nat), .int .u64 (lo : Nat)]] w fun e w' => e = .returned (.agg (arr 16 (idv lo hi 8))) ∧ Below w.heap.size w w' := by
  go_enter Tryz.func156, Tryz.ntmps156
  go_wp2_with fail
  generalize hw3 : ((w.alloc (.cells #[.int .u64 (hi : Nat), .int .u64 (lo : Nat)] 36)).alloc _).alloc _ = w3
  have h0 : Blk w3 w.heap.size 36 #[.int .u64 (hi : Nat), .int .u64 (lo : Nat)] := by rw [← hw3]; exact ((Blk.new w _ _).alloc _).alloc _
  have h1 : Blk w3 (w.heap.size + 1) 150 (arr 16 (idv 0 0 0)) := by rw [← hw3]; exact (Blk.new' (w.alloc _) _ _ (by simp)).alloc _
  have h2 : Blk w3 (w.heap.size + 1 + 1) 150 (arr 16 (idv lo hi 0)) := by rw [← hw3]; exact Blk.new' _ _ _ (by simp)
  have hB := Lib.hid (show Below w.heap.size w w3 by rw [← hw3]; exact (((Below.refl _ _).alloc (Nat.le_refl _) _).alloc (by simp) _).alloc (by simp; omega) _)
  have dhi : w3.cell? ⟨w.heap.size, 0, none⟩ = some (.int .u64 (hi : Nat)) := h0.at_ 0 rfl
  have dlo : w3.cell? ⟨w.heap.size, 1, none⟩ = some (.int .u64 (lo : Nat)) := h0.at_ 1 rfl
  clear hw3 h0
  obtain ⟨s0, hs0⟩ : ∃ s0, s0 = w.heap.size := ⟨_, rfl⟩
  have hge : w.heap.size ≤ s0 + 1 + 1 := by omega
  have hge2 : w.heap.size ≤ s0 + 1 := by omega
  rw [← hs0] at dhi dlo h1 h2 ⊢
  clear hs0
  go_loopw [5] (fun v wr => IdRel w3 (s0 + 1 + 1) lo hi v wr) (fun v _ => 8 - (intOf v).toNat)
  case atStart => exact ⟨0, by omega, rfl, h2, Upd.refl _ _⟩
  case round =>
    obtain ⟨j, hj, rfl, hg, hu⟩ := hrel
    have ehi := (World.cell?_of_block (hu.block s0 (by omega))).trans dhi
    have elo := (World.cell?_of_block (hu.block s0 (by omega))).trans dlo
    have H1 := Lib.hid (And.intro h1 (And.intro dhi dlo))
    clear dhi dlo h1 h2
    have KL : ∀ i v, (wr.setCell ⟨s0 + 1 + 1, i, none⟩ v).cell? ⟨s0, 1, none⟩ = some (.int .u64 (lo : Nat)) := fun i v => (World.cell?_of_block (((Upd.refl (s0 + 1 + 1) wr).set i v).block s0 (by omega))).trans elo
    have KH : ∀ i v, (wr.setCell ⟨s0 + 1 + 1, i, none⟩ v).cell? ⟨s0, 0, none⟩ = some (.int .u64 (hi : Nat)) := fun i v => (World.cell?_of_block (((Upd.refl (s0 + 1 + 1) wr).set i v).block s0 (by omega))).trans ehi
    by_cases hlt : j < 8
    · have f1 := hg.frozen j
      have f2 := hg.frozen (8 + j)
      have c1 : wr.cell? ⟨s0 + 1 + 1, j, none⟩ = some (u8v (idb lo hi j j)) := hg.at_ j (arr_at _ (by omega))
      have c2 : wr.cell? ⟨s0 + 1 + 1, 8 + j, none⟩ = some (u8v (idb lo hi j (8 + j))) := hg.at_ (8 + j) (arr_at _ (by omega))
      generalize u8v (idb lo hi j j) = y1 at c1
      generalize u8v (idb lo hi j (8 + j)) = y2 at c2
      have hs := ((hg.set_ j (.int .u8 (iu8 (b8 lo j)))).set_ (8 + j) (.int .u8 (iu8 (b8 hi j)))).sub (idv_succ lo hi j hlt)
      have HN := Lib.hid (And.intro hs ((hu.set j (.int .u8 (iu8 (b8 lo j)))).set (8 + j) (.int .u8 (iu8 (b8 hi j)))))
      clear hs hg hu
      have hcase : j = 0 ∨ j = 1 ∨ j = 2 ∨ j = 3 ∨ j = 4 ∨ j = 5 ∨ j = 6 ∨ j = 7 := by omega
      rcases hcase with rfl | rfl | rfl | rfl | rfl | rfl | rfl | rfl
      · go_wp2_with fail
        refine wp_region_planT (fun w' => w'.cell? ⟨s0, 1, none⟩ = some (.int .u64 (lo : Nat)) ∧ w'.cell? ⟨s0, 0, none⟩ = some (.int .u64 (hi : Nat))) [18] [(true, 0), (true, 1), (true, 2), (true, 3), (true, 5), (true, 6), (true, 9), (true, 11), (true, 12), (true, 4), (true, 10), (true, 7), (true, 8), (true, 13), (true, 14), (true, 15), (false, 16), (true, 17), (false, 18)] (by kernel_rfl) (by kernel_rfl) (⟨elo, ehi⟩) ?_
        refine wpPlan_pure [0, 1, 2, 3, 5, 6, 9, 11, 12] [(true, 4), (true, 10), (true, 7), (true, 8), (true, 13), (true, 14), (true, 15), (false, 16), (true, 17), (false, 18)] _ (by rfl) (by rfl) ?_
        dsimp only [List.filterMap, List.getElem?_cons_zero, List.getElem?_cons_succ]
        repeat (go_big_quiet_step (fail))
        refine wpQuiet_nil ?_
        refine wpPlan_takeL [4, 10] [(true, 7), (true, 8), (true, 13), (true, 14), (true, 15), (false, 16), (true, 17), (false, 18)] _ (by rfl) (by rfl) (⟨elo, ehi⟩) ?_
        dsimp only [List.filterMap, List.getElem?_cons_zero, List.getElem?_cons_succ]
        (refine wpQuiet_load_cell (fun w' hw' => hw'.1) (by rfl) _ _ (by rfl) (by rfl) _ Tryz.underlying34 (by rfl) ?_; simp only [Act.put, List.setIfInBounds_toArray, List.set_cons_zero, List.set_cons_succ])
        (refine wpQuiet_load_cell (fun w' hw' => hw'.2) (by rfl) _ _ (by rfl) (by rfl) _ Tryz.underlying34 (by rfl) ?_; simp only [Act.put, List.setIfInBounds_toArray, List.set_cons_zero, List.set_cons_succ])
        refine wpQuiet_nil ?_
        refine wpPlan_pure [7, 8, 13, 14, 15] [(false, 16), (true, 17), (false, 18)] _ (by rfl) (by rfl) ?_
        dsimp only [List.filterMap, List.getElem?_cons_zero, List.getElem?_cons_succ]
        repeat (go_big_quiet_step (fail))
        refine wpQuiet_nil ?_
        refine wpPlan_forceL _ rfl ?_
        go_wp2_with fail
        refine PlanQ.in_ ⟨KL _ _, KH _ _⟩ ?_
        refine wpPlan_pure [17] [(false, 18)] _ (by rfl) (by rfl) ?_
        dsimp only [List.filterMap, List.getElem?_cons_zero, List.getElem?_cons_succ]
        repeat (go_big_quiet_step (fail))
        refine wpQuiet_nil ?_
        refine wpPlan_forceL _ rfl ?_
        go_wp2_with fail
        refine PlanQ.out (by rfl) ?_
        refine wpPlan_tidy ?_
        go_wp2
        rw [b8_0, b8_0]
        exact ⟨⟨1, by omega, rfl, HN.out.1.drew, HN.out.2.drewH⟩, by simp [intOf]⟩
      · go_wp2_with fail
        refine wp_region_planT (fun w' => w'.cell? ⟨s0, 1, none⟩ = some (.int .u64 (lo : Nat)) ∧ w'.cell? ⟨s0, 0, none⟩ = some (.int .u64 (hi : Nat))) [18] [(true, 0), (true, 1), (true, 2), (true, 3), (true, 5), (true, 6), (true, 9), (true, 11), (true, 12), (true, 4), (true, 10), (true, 7), (true, 8), (true, 13), (true, 14), (true, 15), (false, 16), (true, 17), (false, 18)] (by kernel_rfl) (by kernel_rfl) (⟨elo, ehi⟩) ?_
        refine wpPlan_pure [0, 1, 2, 3, 5, 6, 9, 11, 12] [(true, 4), (true, 10), (true, 7), (true, 8), (true, 13), (true, 14), (true, 15), (false, 16), (true, 17), (false, 18)] _ (by rfl) (by rfl) ?_
        dsimp only [List.filterMap, List.getElem?_cons_zero, List.getElem?_cons_succ]
        repeat (go_big_quiet_step (fail))
        refine wpQuiet_nil ?_
        refine wpPlan_takeL [4, 10] [(true, 7), (true, 8), (true, 13), (true, 14), (true, 15), (false, 16), (true, 17), (false, 18)] _ (by rfl) (by rfl) (⟨elo, ehi⟩) ?_
        dsimp only [List.filterMap, List.getElem?_cons_zero, List.getElem?_cons_succ]
        (refine wpQuiet_load_cell (fun w' hw' => hw'.1) (by rfl) _ _ (by rfl) (by rfl) _ Tryz.underlying34 (by rfl) ?_; simp only [Act.put, List.setIfInBounds_toArray, List.set_cons_zero, List.set_cons_succ])
        (refine wpQuiet_load_cell (fun w' hw' => hw'.2) (by rfl) _ _ (by rfl) (by rfl) _ Tryz.underlying34 (by rfl) ?_; simp only [Act.put, List.setIfInBounds_toArray, List.set_cons_zero, List.set_cons_succ])
        refine wpQuiet_nil ?_
        refine wpPlan_pure [7, 8, 13, 14, 15] [(false, 16), (true, 17), (false, 18)] _ (by rfl) (by rfl) ?_
        dsimp only [List.filterMap, List.getElem?_cons_zero, List.getElem?_cons_succ]
        repeat (go_big_quiet_step (fail))
        refine wpQuiet_nil ?_
        refine wpPlan_forceL _ rfl ?_
        go_wp2_with fail
        refine PlanQ.in_ ⟨KL _ _, KH _ _⟩ ?_
        refine wpPlan_pure [17] [(false, 18)] _ (by rfl) (by rfl) ?_
        dsimp only [List.filterMap, List.getElem?_cons_zero, List.getElem?_cons_succ]
        repeat (go_big_quiet_step (fail))
        refine wpQuiet_nil ?_
        refine wpPlan_forceL _ rfl ?_
        go_wp2_with fail
        refine PlanQ.out (by rfl) ?_
        refine wpPlan_tidy ?_
        go_wp2
        rw [b8_1, b8_1]
        exact ⟨⟨2, by omega, rfl, HN.out.1.drew, HN.out.2.drewH⟩, by simp [intOf]⟩
      · go_wp2_with fail
        refine wp_region_planT (fun w' => w'.cell? ⟨s0, 1, none⟩ = some (.int .u64 (lo : Nat)) ∧ w'.cell? ⟨s0, 0, none⟩ = some (.int .u64 (hi : Nat))) [18] [(true, 0), (true, 1), (true, 2), (true, 3), (true, 5), (true, 6), (true, 9), (true, 11), (true, 12), (true, 4), (true, 10), (true, 7), (true, 8), (true, 13), (true, 14), (true, 15), (false, 16), (true, 17), (false, 18)] (by kernel_rfl) (by kernel_rfl) (⟨elo, ehi⟩) ?_
        refine wpPlan_pure [0, 1, 2, 3, 5, 6, 9, 11, 12] [(true, 4), (true, 10), (true, 7), (true, 8), (true, 13), (true, 14), (true, 15), (false, 16), (true, 17), (false, 18)] _ (by rfl) (by rfl) ?_
        dsimp only [List.filterMap, List.getElem?_cons_zero, List.getElem?_cons_succ]
        repeat (go_big_quiet_step (fail))
        refine wpQuiet_nil ?_
        refine wpPlan_takeL [4, 10] [(true, 7), (true, 8), (true, 13), (true, 14), (true, 15), (false, 16), (true, 17), (false, 18)] _ (by rfl) (by rfl) (⟨elo, ehi⟩) ?_
        dsimp only [List.filterMap, List.getElem?_cons_zero, List.getElem?_cons_succ]
        (refine wpQuiet_load_cell (fun w' hw' => hw'.1) (by rfl) _ _ (by rfl) (by rfl) _ Tryz.underlying34 (by rfl) ?_; simp only [Act.put, List.setIfInBounds_toArray, List.set_cons_zero, List.set_cons_succ])
        (refine wpQuiet_load_cell (fun w' hw' => hw'.2) (by rfl) _ _ (by rfl) (by rfl) _ Tryz.underlying34 (by rfl) ?_; simp only [Act.put, List.setIfInBounds_toArray, List.set_cons_zero, List.set_cons_succ])
        refine wpQuiet_nil ?_
        refine wpPlan_pure [7, 8, 13, 14, 15] [(false, 16), (true, 17), (false, 18)] _ (by rfl) (by rfl) ?_
        dsimp only [List.filterMap, List.getElem?_cons_zero, List.getElem?_cons_succ]
        repeat (go_big_quiet_step (fail))
        refine wpQuiet_nil ?_
        refine wpPlan_forceL _ rfl ?_
        go_wp2_with fail
        refine PlanQ.in_ ⟨KL _ _, KH _ _⟩ ?_
        refine wpPlan_pure [17] [(false, 18)] _ (by rfl) (by rfl) ?_
        dsimp only [List.filterMap, List.getElem?_cons_zero, List.getElem?_cons_succ]
        repeat (go_big_quiet_step (fail))
        refine wpQuiet_nil ?_
        refine wpPlan_forceL _ rfl ?_
        go_wp2_with fail
        refine PlanQ.out (by rfl) ?_
        refine wpPlan_tidy ?_
        go_wp2
        rw [b8_2, b8_2]
        exact ⟨⟨3, by omega, rfl, HN.out.1.drew, HN.out.2.drewH⟩, by simp [intOf]⟩
      · go_wp2_with fail
        refine wp_region_planT (fun w' => w'.cell? ⟨s0, 1, none⟩ = some (.int .u64 (lo : Nat)) ∧ w'.cell? ⟨s0, 0, none⟩ = some (.int .u64 (hi : Nat))) [18] [(true, 0), (true, 1), (true, 2), (true, 3), (true, 5), (true, 6), (true, 9), (true, 11), (true, 12), (true, 4), (true, 10), (true, 7), (true, 8), (true, 13), (true, 14), (true, 15), (false, 16), (true, 17), (false, 18)] (by kernel_rfl) (by kernel_rfl) (⟨elo, ehi⟩) ?_
        refine wpPlan_pure [0, 1, 2, 3, 5, 6, 9, 11, 12] [(true, 4), (true, 10), (true, 7), (true, 8), (true, 13), (true, 14), (true, 15), (false, 16), (true, 17), (false, 18)] _ (by rfl) (by rfl) ?_
        dsimp only [List.filterMap, List.getElem?_cons_zero, List.getElem?_cons_succ]
        repeat (go_big_quiet_step (fail))
        refine wpQuiet_nil ?_
        refine wpPlan_takeL [4, 10] [(true, 7), (true, 8), (true, 13), (true, 14), (true, 15), (false, 16), (true, 17), (false, 18)] _ (by rfl) (by rfl) (⟨elo, ehi⟩) ?_
        dsimp only [List.filterMap, List.getElem?_cons_zero, List.getElem?_cons_succ]
        (refine wpQuiet_load_cell (fun w' hw' => hw'.1) (by rfl) _ _ (by rfl) (by rfl) _ Tryz.underlying34 (by rfl) ?_; simp only [Act.put, List.setIfInBounds_toArray, List.set_cons_zero, List.set_cons_succ])
        (refine wpQuiet_load_cell (fun w' hw' => hw'.2) (by rfl) _ _ (by rfl) (by rfl) _ Tryz.underlying34 (by rfl) ?_; simp only [Act.put, List.setIfInBounds_toArray, List.set_cons_zero, List.set_cons_succ])
        refine wpQuiet_nil ?_
        refine wpPlan_pure [7, 8, 13, 14, 15] [(false, 16), (true, 17), (false, 18)] _ (by rfl) (by rfl) ?_
        dsimp only [List.filterMap, List.getElem?_cons_zero, List.getElem?_cons_succ]
        repeat (go_big_quiet_step (fail))
        refine wpQuiet_nil ?_
        refine wpPlan_forceL _ rfl ?_
        go_wp2_with fail
        refine PlanQ.in_ ⟨KL _ _, KH _ _⟩ ?_
        refine wpPlan_pure [17] [(false, 18)] _ (by rfl) (by rfl) ?_
        dsimp only [List.filterMap, List.getElem?_cons_zero, List.getElem?_cons_succ]
        repeat (go_big_quiet_step (fail))
        refine wpQuiet_nil ?_
        refine wpPlan_forceL _ rfl ?_
        go_wp2_with fail
        refine PlanQ.out (by rfl) ?_
        refine wpPlan_tidy ?_
        go_wp2
        rw [b8_3, b8_3]
        exact ⟨⟨4, by omega, rfl, HN.out.1.drew, HN.out.2.drewH⟩, by simp [intOf]⟩
      · go_wp2_with fail
        refine wp_region_planT (fun w' => w'.cell? ⟨s0, 1, none⟩ = some (.int .u64 (lo : Nat)) ∧ w'.cell? ⟨s0, 0, none⟩ = some (.int .u64 (hi : Nat))) [18] [(true, 0), (true, 1), (true, 2), (true, 3), (true, 5), (true, 6), (true, 9), (true, 11), (true, 12), (true, 4), (true, 10), (true, 7), (true, 8), (true, 13), (true, 14), (true, 15), (false, 16), (true, 17), (false, 18)] (by kernel_rfl) (by kernel_rfl) (⟨elo, ehi⟩) ?_
        refine wpPlan_pure [0, 1, 2, 3, 5, 6, 9, 11, 12] [(true, 4), (true, 10), (true, 7), (true, 8), (true, 13), (true, 14), (true, 15), (false, 16), (true, 17), (false, 18)] _ (by rfl) (by rfl) ?_
        dsimp only [List.filterMap, List.getElem?_cons_zero, List.getElem?_cons_succ]
        repeat (go_big_quiet_step (fail))
        refine wpQuiet_nil ?_
        refine wpPlan_takeL [4, 10] [(true, 7), (true, 8), (true, 13), (true, 14), (true, 15), (false, 16), (true, 17), (false, 18)] _ (by rfl) (by rfl) (⟨elo, ehi⟩) ?_
        dsimp only [List.filterMap, List.getElem?_cons_zero, List.getElem?_cons_succ]
        (refine wpQuiet_load_cell (fun w' hw' => hw'.1) (by rfl) _ _ (by rfl) (by rfl) _ Tryz.underlying34 (by rfl) ?_; simp only [Act.put, List.setIfInBounds_toArray, List.set_cons_zero, List.set_cons_succ])
        (refine wpQuiet_load_cell (fun w' hw' => hw'.2) (by rfl) _ _ (by rfl) (by rfl) _ Tryz.underlying34 (by rfl) ?_; simp only [Act.put, List.setIfInBounds_toArray, List.set_cons_zero, List.set_cons_succ])
        refine wpQuiet_nil ?_
        refine wpPlan_pure [7, 8, 13, 14, 15] [(false, 16), (true, 17), (false, 18)] _ (by rfl) (by rfl) ?_
        dsimp only [List.filterMap, List.getElem?_cons_zero, List.getElem?_cons_succ]
        repeat (go_big_quiet_step (fail))
        refine wpQuiet_nil ?_
        refine wpPlan_forceL _ rfl ?_
        go_wp2_with fail
        refine PlanQ.in_ ⟨KL _ _, KH _ _⟩ ?_
        refine wpPlan_pure [17] [(false, 18)] _ (by rfl) (by rfl) ?_
        dsimp only [List.filterMap, List.getElem?_cons_zero, List.getElem?_cons_succ]
        repeat (go_big_quiet_step (fail))
        refine wpQuiet_nil ?_
        refine wpPlan_forceL _ rfl ?_
        go_wp2_with fail
        refine PlanQ.out (by rfl) ?_
        refine wpPlan_tidy ?_
        go_wp2
        rw [b8_4, b8_4]
        exact ⟨⟨5, by omega, rfl, HN.out.1.drew, HN.out.2.drewH⟩, by simp [intOf]⟩
      · go_wp2_with fail
        refine wp_region_planT (fun w' => w'.cell? ⟨s0, 1, none⟩ = some (.int .u64 (lo : Nat)) ∧ w'.cell? ⟨s0, 0, none⟩ = some (.int .u64 (hi : Nat))) [18] [(true, 0), (true, 1), (true, 2), (true, 3), (true, 5), (true, 6), (true, 9), (true, 11), (true, 12), (true, 4), (true, 10), (true, 7), (true, 8), (true, 13), (true, 14), (true, 15), (false, 16), (true, 17), (false, 18)] (by kernel_rfl) (by kernel_rfl) (⟨elo, ehi⟩) ?_
        refine wpPlan_pure [0, 1, 2, 3, 5, 6, 9, 11, 12] [(true, 4), (true, 10), (true, 7), (true, 8), (true, 13), (true, 14), (true, 15), (false, 16), (true, 17), (false, 18)] _ (by rfl) (by rfl) ?_
        dsimp only [List.filterMap, List.getElem?_cons_zero, List.getElem?_cons_succ]
        repeat (go_big_quiet_step (fail))
        refine wpQuiet_nil ?_
        refine wpPlan_takeL [4, 10] [(true, 7), (true, 8), (true, 13), (true, 14), (true, 15), (false, 16), (true, 17), (false, 18)] _ (by rfl) (by rfl) (⟨elo, ehi⟩) ?_
        dsimp only [List.filterMap, List.getElem?_cons_zero, List.getElem?_cons_succ]
        (refine wpQuiet_load_cell (fun w' hw' => hw'.1) (by rfl) _ _ (by rfl) (by rfl) _ Tryz.underlying34 (by rfl) ?_; simp only [Act.put, List.setIfInBounds_toArray, List.set_cons_zero, List.set_cons_succ])
        (refine wpQuiet_load_cell (fun w' hw' => hw'.2) (by rfl) _ _ (by rfl) (by rfl) _ Tryz.underlying34 (by rfl) ?_; simp only [Act.put, List.setIfInBounds_toArray, List.set_cons_zero, List.set_cons_succ])
        refine wpQuiet_nil ?_
        refine wpPlan_pure [7, 8, 13, 14, 15] [(false, 16), (true, 17), (false, 18)] _ (by rfl) (by rfl) ?_
        dsimp only [List.filterMap, List.getElem?_cons_zero, List.getElem?_cons_succ]
        repeat (go_big_quiet_step (fail))
        refine wpQuiet_nil ?_
        refine wpPlan_forceL _ rfl ?_
        go_wp2_with fail
        refine PlanQ.in_ ⟨KL _ _, KH _ _⟩ ?_
        refine wpPlan_pure [17] [(false, 18)] _ (by rfl) (by rfl) ?_
        dsimp only [List.filterMap, List.getElem?_cons_zero, List.getElem?_cons_succ]
        repeat (go_big_quiet_step (fail))
        refine wpQuiet_nil ?_
        refine wpPlan_forceL _ rfl ?_
        go_wp2_with fail
        refine PlanQ.out (by rfl) ?_
        refine wpPlan_tidy ?_
        go_wp2
        rw [b8_5, b8_5]
        exact ⟨⟨6, by omega, rfl, HN.out.1.drew, HN.out.2.drewH⟩, by simp [intOf]⟩
      · go_wp2_with fail
        refine wp_region_planT (fun w' => w'.cell? ⟨s0, 1, none⟩ = some (.int .u64 (lo : Nat)) ∧ w'.cell? ⟨s0, 0, none⟩ = some (.int .u64 (hi : Nat))) [18] [(true, 0), (true, 1), (true, 2), (true, 3), (true, 5), (true, 6), (true, 9), (true, 11), (true, 12), (true, 4), (true, 10), (true, 7), (true, 8), (true, 13), (true, 14), (true, 15), (false, 16), (true, 17), (false, 18)] (by kernel_rfl) (by kernel_rfl) (⟨elo, ehi⟩) ?_
        refine wpPlan_pure [0, 1, 2, 3, 5, 6, 9, 11, 12] [(true, 4), (true, 10), (true, 7), (true, 8), (true, 13), (true, 14), (true, 15), (false, 16), (true, 17), (false, 18)] _ (by rfl) (by rfl) ?_
        dsimp only [List.filterMap, List.getElem?_cons_zero, List.getElem?_cons_succ]
        repeat (go_big_quiet_step (fail))
        refine wpQuiet_nil ?_
        refine wpPlan_takeL [4, 10] [(true, 7), (true, 8), (true, 13), (true, 14), (true, 15), (false, 16), (true, 17), (false, 18)] _ (by rfl) (by rfl) (⟨elo, ehi⟩) ?_
        dsimp only [List.filterMap, List.getElem?_cons_zero, List.getElem?_cons_succ]
        (refine wpQuiet_load_cell (fun w' hw' => hw'.1) (by rfl) _ _ (by rfl) (by rfl) _ Tryz.underlying34 (by rfl) ?_; simp only [Act.put, List.setIfInBounds_toArray, List.set_cons_zero, List.set_cons_succ])
        (refine wpQuiet_load_cell (fun w' hw' => hw'.2) (by rfl) _ _ (by rfl) (by rfl) _ Tryz.underlying34 (by rfl) ?_; simp only [Act.put, List.setIfInBounds_toArray, List.set_cons_zero, List.set_cons_succ])
        refine wpQuiet_nil ?_
        refine wpPlan_pure [7, 8, 13, 14, 15] [(false, 16), (true, 17), (false, 18)] _ (by rfl) (by rfl) ?_
        dsimp only [List.filterMap, List.getElem?_cons_zero, List.getElem?_cons_succ]
        repeat (go_big_quiet_step (fail))
        refine wpQuiet_nil ?_
        refine wpPlan_forceL _ rfl ?_
        go_wp2_with fail
        refine PlanQ.in_ ⟨KL _ _, KH _ _⟩ ?_
        refine wpPlan_pure [17] [(false, 18)] _ (by rfl) (by rfl) ?_
        dsimp only [List.filterMap, List.getElem?_cons_zero, List.getElem?_cons_succ]
        repeat (go_big_quiet_step (fail))
        refine wpQuiet_nil ?_
        refine wpPlan_forceL _ rfl ?_
        go_wp2_with fail
        refine PlanQ.out (by rfl) ?_
        refine wpPlan_tidy ?_
        go_wp2
        rw [b8_6, b8_6]
        exact ⟨⟨7, by omega, rfl, HN.out.1.drew, HN.out.2.drewH⟩, by simp [intOf]⟩
      · go_wp2_with fail
        refine wp_region_planT (fun w' => w'.cell? ⟨s0, 1, none⟩ = some (.int .u64 (lo : Nat)) ∧ w'.cell? ⟨s0, 0, none⟩ = some (.int .u64 (hi : Nat))) [18] [(true, 0), (true, 1), (true, 2), (true, 3), (true, 5), (true, 6), (true, 9), (true, 11), (true, 12), (true, 4), (true, 10), (true, 7), (true, 8), (true, 13), (true, 14), (true, 15), (false, 16), (true, 17), (false, 18)] (by kernel_rfl) (by kernel_rfl) (⟨elo, ehi⟩) ?_
        refine wpPlan_pure [0, 1, 2, 3, 5, 6, 9, 11, 12] [(true, 4), (true, 10), (true, 7), (true, 8), (true, 13), (true, 14), (true, 15), (false, 16), (true, 17), (false, 18)] _ (by rfl) (by rfl) ?_
        dsimp only [List.filterMap, List.getElem?_cons_zero, List.getElem?_cons_succ]
        repeat (go_big_quiet_step (fail))
        refine wpQuiet_nil ?_
        refine wpPlan_takeL [4, 10] [(true, 7), (true, 8), (true, 13), (true, 14), (true, 15), (false, 16), (true, 17), (false, 18)] _ (by rfl) (by rfl) (⟨elo, ehi⟩) ?_
        dsimp only [List.filterMap, List.getElem?_cons_zero, List.getElem?_cons_succ]
        (refine wpQuiet_load_cell (fun w' hw' => hw'.1) (by rfl) _ _ (by rfl) (by rfl) _ Tryz.underlying34 (by rfl) ?_; simp only [Act.put, List.setIfInBounds_toArray, List.set_cons_zero, List.set_cons_succ])
        (refine wpQuiet_load_cell (fun w' hw' => hw'.2) (by rfl) _ _ (by rfl) (by rfl) _ Tryz.underlying34 (by rfl) ?_; simp only [Act.put, List.setIfInBounds_toArray, List.set_cons_zero, List.set_cons_succ])
        refine wpQuiet_nil ?_
        refine wpPlan_pure [7, 8, 13, 14, 15] [(false, 16), (true, 17), (false, 18)] _ (by rfl) (by rfl) ?_
        dsimp only [List.filterMap, List.getElem?_cons_zero, List.getElem?_cons_succ]
        repeat (go_big_quiet_step (fail))
        refine wpQuiet_nil ?_
        refine wpPlan_forceL _ rfl ?_
        go_wp2_with fail
        refine PlanQ.in_ ⟨KL _ _, KH _ _⟩ ?_
        refine wpPlan_pure [17] [(false, 18)] _ (by rfl) (by rfl) ?_
        dsimp only [List.filterMap, List.getElem?_cons_zero, List.getElem?_cons_succ]
        repeat (go_big_quiet_step (fail))
        refine wpQuiet_nil ?_
        refine wpPlan_forceL _ rfl ?_
        go_wp2_with fail
        refine PlanQ.out (by rfl) ?_
        refine wpPlan_tidy ?_
        go_wp2
        rw [b8_7, b8_7]
        exact ⟨⟨8, by omega, rfl, HN.out.1.drew, HN.out.2.drewH⟩, by simp [intOf]⟩
    · obtain rfl : j = 8 := by omega
      have hz := H1.out.1.upd hu (show s0 + 1 ≠ s0 + 1 + 1 by omega)
      have hB2 := hB.out
      rw [idv_all] at hg
      have h16 : (le8 lo ++ le8 hi).length = 16 := rfl
      obtain ⟨l, hl⟩ : ∃ l, l = le8 lo ++ le8 hi := ⟨_, rfl⟩
      rw [← hl] at hg h16
      have HL := Lib.hid hl
      have HU := Lib.hid hu
      clear hu hj hlt H1 hl
      go_wp2_with (first
        | ((with_reducible show wpList _ _ _ ((⟨some 26, _, _, _, _, _⟩ : Oper) :: _) _ _); refine wpList_load_blk (o := ⟨some 26, _, _, _, _, _⟩) (hg) (by rfl) _ _ (by rfl) (by rfl) _ Tryz.underlying150 (by rfl) (size16') (by simp [h16]) ?_)
        | ((with_reducible show wpList _ _ _ ((⟨none, _, _, _, _, _⟩ : Oper) :: _) _ _); refine wpList_store_blk (o := ⟨none, _, _, _, _, _⟩) (hz) (by rfl) _ _ _ (by rfl) (by rfl) ((l.map u8v).toArray) (by rfl) (size16') (arr_size _ _) (by simp [h16]) (u8_all _) ?_; intro w5 h5 hu5; have HB5 := Lib.hid ((hB.out.upd HU.out hge).upd hu5 hge2))
        | fail)
      refine bodyPost_ret (results_cell_row (by rfl) _ _ _ _ _ _ _ (by rfl) h5 Tryz.underlying150 (by rfl) (size16'.trans (by simp [h16]))) rfl ⟨by rw [idv_all, HL.out], HB5.out⟩
end Go.Proofs.YtfoegmjpfkmggaaGreatDoor

/- A number of 128 bits read from bytes. Conditions: the bytes can be read. -/
namespace Go.Proofs.YtfoegmjpfkmggaaGreatDoor
open Go.RowKit
/-- The number of the first k bytes from p on, the lowest first. -/
def lpart (l : List UInt8) (p : Nat) : Nat → Nat
  | 0 => 0
  | k + 1 => lpart l p k + (l.getD (p + k) 0).toNat * 256 ^ k
theorem lpart_lt (l : List UInt8) (p k : Nat) : lpart l p k < 256 ^ k := by
  induction k with
  | zero => simp [lpart]
  | succ k ih =>
    have h := (l.getD (p + k) 0).toNat_lt
    have : (l.getD (p + k) 0).toNat * 256 ^ k ≤ 255 * 256 ^ k := Nat.mul_le_mul_right _ (by omega)
    unfold lpart
    rw [Nat.pow_succ]; omega
theorem lpart_8 (l : List UInt8) (p : Nat) : lpart l p 8 = at8 l p := by
  unfold at8 at4 un4
  simp only [lpart, Nat.add_assoc, Nat.reduceAdd, Nat.reducePow, Nat.add_zero]
  omega
theorem lpart_or (l : List UInt8) (p k : Nat) : lpart l p k ||| ((l.getD (p + k) 0).toNat * 256 ^ k) = lpart l p (k + 1) := by
  rw [or_sum _ _ (8 * k) (256 ^ k) (by rw [Nat.pow_mul]) (lpart_lt l p k)]; rfl
theorem u64_or_nat (a b : Nat) (ha : a < 18446744073709551616) (hb : b < 18446744073709551616) : bits .or .u64 (a : Int) (b : Int) = ((a ||| b : Nat) : Int) := by
  have h2 : a ||| b < 2 ^ 64 := Nat.or_lt_two_pow (by omega) (by omega)
  show IntKind.u64.wrap ((BitVec.ofInt 64 (a : Int) ||| BitVec.ofInt 64 (b : Int)).toNat : Int) = _
  rw [BitVec.toNat_or, ofInt_u64 a (by omega), ofInt_u64 b (by omega)]
  exact IntWalk.u64_in _ ⟨by omega, by omega⟩
theorem orU (lo k P : Nat) (x : UInt8) (hP : P = 256 ^ k) (hk : k < 8) (hlo : lo < 256 ^ k) : bits .or .u64 (lo : Int) (IntKind.u64.wrap (IntKind.u64.wrap (iu8 x) * (P : Int))) = ((lo ||| x.toNat * 256 ^ k : Nat) : Int) := by
  subst hP
  have hx := x.toNat_lt
  have h1 : (256 : Nat) ^ k ≤ 256 ^ 7 := Nat.pow_le_pow_right (by omega) (by omega)
  have h2 : x.toNat * 256 ^ k ≤ 255 * 256 ^ 7 := Nat.mul_le_mul (by omega) h1
  have e1 : IntKind.u64.wrap (iu8 x) = (x.toNat : Int) := IntWalk.u64_in _ (by unfold iu8; omega)
  rw [e1]
  have e2 : (x.toNat : Int) * ((256 ^ k : Nat) : Int) = ((x.toNat * 256 ^ k : Nat) : Int) := by simp
  rw [e2, IntWalk.u64_in _ (by omega)]
  exact u64_or_nat _ _ (by omega) (by omega)
def u128c (hi lo : Nat) : Array Value := #[.int .u64 (hi : Nat), .int .u64 (lo : Nat)]
theorem sizeU : (Tryz.prog.info? 36).map (·.size) = some 2 := by kernel_rfl
theorem u128c_set (hi lo hi' lo' : Nat) : ((u128c hi lo).setIfInBounds 1 (.int .u64 (lo' : Nat))).setIfInBounds 0 (.int .u64 (hi' : Nat)) = u128c hi' lo' := rfl
theorem u128c_0 (hi lo : Nat) : (u128c hi lo)[0]? = some (.int .u64 (hi : Nat)) := rfl
theorem u128c_1 (hi lo : Nat) : (u128c hi lo)[1]? = some (.int .u64 (lo : Nat)) := rfl
def URel (w : World) (g : Nat) (l : List UInt8) (v : Value) (wr : World) : Prop := ∃ j : Nat, j ≤ 8 ∧ v = .int .i64 (j : Int) ∧ Blk wr g 36 (u128c (lpart l 8 j) (lpart l 0 j)) ∧ Upd g w wr
set_option maxRecDepth 100000 in
set_option maxHeartbeats 2000000 in
theorem uread_any (A : Option Addr) (c : Nat) (l : List UInt8) (h16 : l.length = 16) (w : World) (hb : Bytes w A l) :
    Calls Tryz.prog 137 #[.slice A l.length c] w fun e w' => e = .returned (.tuple #[.agg (u128c (at8 l 8) (at8 l 0)), .int .i64 0]) ∧ Below w.heap.size w w' := by
  obtain ⟨bb, off, rfl, hbl, hc⟩ := hb.at_ (by omega)
  clear hb
  go_enter Tryz.func137, Tryz.ntmps137
  go_wp2_with fail
  generalize hw3 : (w.alloc _).alloc _ = w3
  have h1 : Blk w3 w.heap.size 36 (u128c 0 0) := by rw [← hw3]; exact (Blk.new w _ _).alloc _
  have h2 : Blk w3 (w.heap.size + 1) 36 (u128c 0 0) := by rw [← hw3]; exact Blk.new' _ _ _ (by simp)
  have hB := Lib.hid (show Below w.heap.size w w3 by rw [← hw3]; exact ((Below.refl _ _).alloc (Nat.le_refl _) _).alloc (by simp) _)
  have hc3 : ∀ j, j < 16 → w3.cell? ⟨bb, off + j, none⟩ = some (.int .u8 (iu8 (l.getD j 0))) := fun j hj => (hB.out.cell (p := ⟨bb, off + j, none⟩) hbl).trans (hc j (by omega))
  clear hw3 hc
  obtain ⟨s0, hs0⟩ : ∃ s0, s0 = w.heap.size := ⟨_, rfl⟩
  have hge : w.heap.size ≤ s0 + 1 := by omega
  have hge0 : w.heap.size ≤ s0 := by omega
  rw [← hs0] at h1 h2 hbl ⊢
  clear hs0
  go_loopw [10] (fun v wr => URel w3 (s0 + 1) l v wr) (fun v _ => 8 - (intOf v).toNat)
  case atStart => exact ⟨0, by omega, rfl, h2, Upd.refl _ _⟩
  case round =>
    obtain ⟨j, hj, rfl, hg, hu⟩ := hrel
    have hcr : ∀ j, j < 16 → wr.cell? ⟨bb, off + j, none⟩ = some (.int .u8 (iu8 (l.getD j 0))) := fun j hj => (World.cell?_of_block (hu.block bb (by omega))).trans (hc3 j hj)
    by_cases hlt : j < 8
    · have o1 := lpart_or l 0 j
      have o2 := lpart_or l 8 j
      have q1 := lpart_lt l 0 j
      have q2 := lpart_lt l 8 j
      have d1 := hcr j (by omega)
      have d2 := hcr (8 + j) (by omega)
      rw [Nat.zero_add] at o1
      have dlo : wr.cell? ⟨s0 + 1, 1, none⟩ = some (.int .u64 (lpart l 0 j : Nat)) := hg.at_ 1 (u128c_1 _ _)
      have dhi : wr.cell? ⟨s0 + 1, 0, none⟩ = some (.int .u64 (lpart l 8 j : Nat)) := hg.at_ 0 (u128c_0 _ _)
      have HR : Hid (∀ w'', Blk w'' (s0 + 1) 36 (u128c (lpart l 8 (j + 1)) (lpart l 0 (j + 1))) → Upd (s0 + 1) w3 w'' → URel w3 (s0 + 1) l (.int .i64 ((j + 1 : Nat) : Int)) w'') := Lib.hid (fun w'' h1 h2 => ⟨j + 1, by omega, rfl, h1, h2⟩)
      have f0 := hg.frozen 0
      have f1 := hg.frozen 1
      generalize l.getD j 0 = x at d1 o1
      generalize l.getD (8 + j) 0 = y at d2 o2
      generalize lpart l 0 j = lo at dlo o1 q1 hg
      generalize lpart l 8 j = hi at dhi o2 q2 hg
      generalize lpart l 0 (j + 1) = lo' at o1 HR
      generalize lpart l 8 (j + 1) = hi' at o2 HR
      have f0' : ((wr.setCell ⟨s0 + 1, 1, none⟩ (.int .u64 (lo' : Nat))).drew).frozen? ⟨s0 + 1, 0, none⟩ = false := (hg.set_ 1 _).drew.frozen 0
      have dhi' : ((wr.setCell ⟨s0 + 1, 1, none⟩ (.int .u64 (lo' : Nat))).drew).cell? ⟨s0 + 1, 0, none⟩ = some (.int .u64 (hi : Nat)) := ((hg.set_ 1 _).drew.cell 0).trans ((hg.cell 0).symm.trans dhi)
      have d2' : ((wr.setCell ⟨s0 + 1, 1, none⟩ (.int .u64 (lo' : Nat))).drew).cell? ⟨bb, off + (8 + j), none⟩ = some (.int .u8 (iu8 y)) := (World.cell?_of_block (((Upd.refl (s0 + 1) wr).set 1 _).block bb (by omega))).trans d2
      have HN : Hid (URel w3 (s0 + 1) l (.int .i64 ((j + 1 : Nat) : Int)) (((wr.setCell ⟨s0 + 1, 1, none⟩ (.int .u64 (lo' : Nat))).drew.setCell ⟨s0 + 1, 0, none⟩ (.int .u64 (hi' : Nat))).drew)) :=
        Lib.hid (HR.out _ (((hg.set_ 1 (.int .u64 (lo' : Nat))).drew.set_ 0 (.int .u64 (hi' : Nat))).sub (u128c_set hi lo hi' lo')).drew ((hu.set 1 (.int .u64 (lo' : Nat))).drewH.set 0 (.int .u64 (hi' : Nat))).drewH)
      have hcase : j = 0 ∨ j = 1 ∨ j = 2 ∨ j = 3 ∨ j = 4 ∨ j = 5 ∨ j = 6 ∨ j = 7 := by omega
      have HO := Lib.hid (And.intro o1 (And.intro o2 (And.intro q1 q2)))
      clear hg hu o1 o2 q1 q2 hcr HR
      rcases hcase with rfl | rfl | rfl | rfl | rfl | rfl | rfl | rfl
      · have e1 : bits .or .u64 (lo : Int) (IntKind.u64.wrap (IntKind.u64.wrap (iu8 x))) = ((lo' : Nat) : Int) := by rw [← HO.out.1, ← Int.mul_one (IntKind.u64.wrap (iu8 x))]; exact orU lo 0 1 x (by decide) (by omega) HO.out.2.2.1
        have e2 : bits .or .u64 (hi : Int) (IntKind.u64.wrap (IntKind.u64.wrap (iu8 y))) = ((hi' : Nat) : Int) := by rw [← HO.out.2.1, ← Int.mul_one (IntKind.u64.wrap (iu8 y))]; exact orU hi 0 1 y (by decide) (by omega) HO.out.2.2.2
        go_wp2_with fail
        refine wp_region_planT (fun w' => w'.cell? ⟨s0 + 1, 1, none⟩ = some (.int .u64 (lo : Nat)) ∧ w'.cell? ⟨bb, off + 0, none⟩ = some (.int .u8 (iu8 x))) [12] [(true, 0), (true, 2), (true, 3), (true, 4), (true, 7), (true, 8), (true, 1), (true, 5), (true, 6), (true, 9), (true, 10), (true, 11), (false, 12)] (by kernel_rfl) (by kernel_rfl) (⟨dlo, d1⟩) ?_
        refine wpPlan_pure [0, 2, 3, 4, 7, 8] [(true, 1), (true, 5), (true, 6), (true, 9), (true, 10), (true, 11), (false, 12)] _ (by rfl) (by rfl) ?_
        dsimp only [List.filterMap, List.getElem?_cons_zero, List.getElem?_cons_succ]
        repeat (go_big_quiet_step (fail))
        refine wpQuiet_nil ?_
        refine wpPlan_takeL [1, 5] [(true, 6), (true, 9), (true, 10), (true, 11), (false, 12)] _ (by rfl) (by rfl) (⟨dlo, d1⟩) ?_
        dsimp only [List.filterMap, List.getElem?_cons_zero, List.getElem?_cons_succ]
        (refine wpQuiet_load_cell (fun w' hw' => hw'.1) (by rfl) _ _ (by rfl) (by rfl) _ Tryz.underlying34 (by rfl) ?_; simp only [Act.put, List.setIfInBounds_toArray, List.set_cons_zero, List.set_cons_succ])
        (refine wpQuiet_load_cell (fun w' hw' => hw'.2) (by rfl) _ _ (by rfl) (by rfl) _ Tryz.underlying5 (by rfl) ?_; simp only [Act.put, List.setIfInBounds_toArray, List.set_cons_zero, List.set_cons_succ])
        refine wpQuiet_nil ?_
        refine wpPlan_pure [6, 9, 10, 11] [(false, 12)] _ (by rfl) (by rfl) ?_
        dsimp only [List.filterMap, List.getElem?_cons_zero, List.getElem?_cons_succ]
        repeat (go_big_quiet_step (fail))
        refine wpQuiet_nil ?_
        refine wpPlan_forceL _ rfl ?_
        go_wp2_with fail
        refine PlanQ.out (by rfl) ?_
        refine wpPlan_tidy ?_
        go_wp2_with fail
        refine wp_region_planT (fun w' => w'.cell? ⟨s0 + 1, 0, none⟩ = some (.int .u64 (hi : Nat)) ∧ w'.cell? ⟨bb, off + 8, none⟩ = some (.int .u8 (iu8 y))) [13] [(true, 0), (true, 2), (true, 3), (true, 4), (true, 5), (true, 8), (true, 9), (true, 1), (true, 6), (true, 7), (true, 10), (true, 11), (true, 12), (false, 13)] (by kernel_rfl) (by kernel_rfl) (⟨dhi', d2'⟩) ?_
        refine wpPlan_pure [0, 2, 3, 4, 5, 8, 9] [(true, 1), (true, 6), (true, 7), (true, 10), (true, 11), (true, 12), (false, 13)] _ (by rfl) (by rfl) ?_
        dsimp only [List.filterMap, List.getElem?_cons_zero, List.getElem?_cons_succ]
        repeat (go_big_quiet_step (fail))
        refine wpQuiet_nil ?_
        refine wpPlan_takeL [1, 6] [(true, 7), (true, 10), (true, 11), (true, 12), (false, 13)] _ (by rfl) (by rfl) (⟨dhi', d2'⟩) ?_
        dsimp only [List.filterMap, List.getElem?_cons_zero, List.getElem?_cons_succ]
        (refine wpQuiet_load_cell (fun w' hw' => hw'.1) (by rfl) _ _ (by rfl) (by rfl) _ Tryz.underlying34 (by rfl) ?_; simp only [Act.put, List.setIfInBounds_toArray, List.set_cons_zero, List.set_cons_succ])
        (refine wpQuiet_load_cell (fun w' hw' => hw'.2) (by rfl) _ _ (by rfl) (by rfl) _ Tryz.underlying5 (by rfl) ?_; simp only [Act.put, List.setIfInBounds_toArray, List.set_cons_zero, List.set_cons_succ])
        refine wpQuiet_nil ?_
        refine wpPlan_pure [7, 10, 11, 12] [(false, 13)] _ (by rfl) (by rfl) ?_
        dsimp only [List.filterMap, List.getElem?_cons_zero, List.getElem?_cons_succ]
        repeat (go_big_quiet_step (fail))
        refine wpQuiet_nil ?_
        refine wpPlan_forceL _ rfl ?_
        go_wp2_with fail
        refine PlanQ.out (by rfl) ?_
        refine wpPlan_tidy ?_
        go_wp2
        exact ⟨HN.out, by simp [intOf]⟩
      · have e1 : bits .or .u64 (lo : Int) (IntKind.u64.wrap (IntKind.u64.wrap (iu8 x) * 256)) = ((lo' : Nat) : Int) := by rw [← HO.out.1]; exact orU lo 1 256 x (by decide) (by omega) HO.out.2.2.1
        have e2 : bits .or .u64 (hi : Int) (IntKind.u64.wrap (IntKind.u64.wrap (iu8 y) * 256)) = ((hi' : Nat) : Int) := by rw [← HO.out.2.1]; exact orU hi 1 256 y (by decide) (by omega) HO.out.2.2.2
        go_wp2_with fail
        refine wp_region_planT (fun w' => w'.cell? ⟨s0 + 1, 1, none⟩ = some (.int .u64 (lo : Nat)) ∧ w'.cell? ⟨bb, off + 1, none⟩ = some (.int .u8 (iu8 x))) [12] [(true, 0), (true, 2), (true, 3), (true, 4), (true, 7), (true, 8), (true, 1), (true, 5), (true, 6), (true, 9), (true, 10), (true, 11), (false, 12)] (by kernel_rfl) (by kernel_rfl) (⟨dlo, d1⟩) ?_
        refine wpPlan_pure [0, 2, 3, 4, 7, 8] [(true, 1), (true, 5), (true, 6), (true, 9), (true, 10), (true, 11), (false, 12)] _ (by rfl) (by rfl) ?_
        dsimp only [List.filterMap, List.getElem?_cons_zero, List.getElem?_cons_succ]
        repeat (go_big_quiet_step (fail))
        refine wpQuiet_nil ?_
        refine wpPlan_takeL [1, 5] [(true, 6), (true, 9), (true, 10), (true, 11), (false, 12)] _ (by rfl) (by rfl) (⟨dlo, d1⟩) ?_
        dsimp only [List.filterMap, List.getElem?_cons_zero, List.getElem?_cons_succ]
        (refine wpQuiet_load_cell (fun w' hw' => hw'.1) (by rfl) _ _ (by rfl) (by rfl) _ Tryz.underlying34 (by rfl) ?_; simp only [Act.put, List.setIfInBounds_toArray, List.set_cons_zero, List.set_cons_succ])
        (refine wpQuiet_load_cell (fun w' hw' => hw'.2) (by rfl) _ _ (by rfl) (by rfl) _ Tryz.underlying5 (by rfl) ?_; simp only [Act.put, List.setIfInBounds_toArray, List.set_cons_zero, List.set_cons_succ])
        refine wpQuiet_nil ?_
        refine wpPlan_pure [6, 9, 10, 11] [(false, 12)] _ (by rfl) (by rfl) ?_
        dsimp only [List.filterMap, List.getElem?_cons_zero, List.getElem?_cons_succ]
        repeat (go_big_quiet_step (fail))
        refine wpQuiet_nil ?_
        refine wpPlan_forceL _ rfl ?_
        go_wp2_with fail
        refine PlanQ.out (by rfl) ?_
        refine wpPlan_tidy ?_
        go_wp2_with fail
        refine wp_region_planT (fun w' => w'.cell? ⟨s0 + 1, 0, none⟩ = some (.int .u64 (hi : Nat)) ∧ w'.cell? ⟨bb, off + 9, none⟩ = some (.int .u8 (iu8 y))) [13] [(true, 0), (true, 2), (true, 3), (true, 4), (true, 5), (true, 8), (true, 9), (true, 1), (true, 6), (true, 7), (true, 10), (true, 11), (true, 12), (false, 13)] (by kernel_rfl) (by kernel_rfl) (⟨dhi', d2'⟩) ?_
        refine wpPlan_pure [0, 2, 3, 4, 5, 8, 9] [(true, 1), (true, 6), (true, 7), (true, 10), (true, 11), (true, 12), (false, 13)] _ (by rfl) (by rfl) ?_
        dsimp only [List.filterMap, List.getElem?_cons_zero, List.getElem?_cons_succ]
        repeat (go_big_quiet_step (fail))
        refine wpQuiet_nil ?_
        refine wpPlan_takeL [1, 6] [(true, 7), (true, 10), (true, 11), (true, 12), (false, 13)] _ (by rfl) (by rfl) (⟨dhi', d2'⟩) ?_
        dsimp only [List.filterMap, List.getElem?_cons_zero, List.getElem?_cons_succ]
        (refine wpQuiet_load_cell (fun w' hw' => hw'.1) (by rfl) _ _ (by rfl) (by rfl) _ Tryz.underlying34 (by rfl) ?_; simp only [Act.put, List.setIfInBounds_toArray, List.set_cons_zero, List.set_cons_succ])
        (refine wpQuiet_load_cell (fun w' hw' => hw'.2) (by rfl) _ _ (by rfl) (by rfl) _ Tryz.underlying5 (by rfl) ?_; simp only [Act.put, List.setIfInBounds_toArray, List.set_cons_zero, List.set_cons_succ])
        refine wpQuiet_nil ?_
        refine wpPlan_pure [7, 10, 11, 12] [(false, 13)] _ (by rfl) (by rfl) ?_
        dsimp only [List.filterMap, List.getElem?_cons_zero, List.getElem?_cons_succ]
        repeat (go_big_quiet_step (fail))
        refine wpQuiet_nil ?_
        refine wpPlan_forceL _ rfl ?_
        go_wp2_with fail
        refine PlanQ.out (by rfl) ?_
        refine wpPlan_tidy ?_
        go_wp2
        exact ⟨HN.out, by simp [intOf]⟩
      · have e1 : bits .or .u64 (lo : Int) (IntKind.u64.wrap (IntKind.u64.wrap (iu8 x) * 65536)) = ((lo' : Nat) : Int) := by rw [← HO.out.1]; exact orU lo 2 65536 x (by decide) (by omega) HO.out.2.2.1
        have e2 : bits .or .u64 (hi : Int) (IntKind.u64.wrap (IntKind.u64.wrap (iu8 y) * 65536)) = ((hi' : Nat) : Int) := by rw [← HO.out.2.1]; exact orU hi 2 65536 y (by decide) (by omega) HO.out.2.2.2
        go_wp2_with fail
        refine wp_region_planT (fun w' => w'.cell? ⟨s0 + 1, 1, none⟩ = some (.int .u64 (lo : Nat)) ∧ w'.cell? ⟨bb, off + 2, none⟩ = some (.int .u8 (iu8 x))) [12] [(true, 0), (true, 2), (true, 3), (true, 4), (true, 7), (true, 8), (true, 1), (true, 5), (true, 6), (true, 9), (true, 10), (true, 11), (false, 12)] (by kernel_rfl) (by kernel_rfl) (⟨dlo, d1⟩) ?_
        refine wpPlan_pure [0, 2, 3, 4, 7, 8] [(true, 1), (true, 5), (true, 6), (true, 9), (true, 10), (true, 11), (false, 12)] _ (by rfl) (by rfl) ?_
        dsimp only [List.filterMap, List.getElem?_cons_zero, List.getElem?_cons_succ]
        repeat (go_big_quiet_step (fail))
        refine wpQuiet_nil ?_
        refine wpPlan_takeL [1, 5] [(true, 6), (true, 9), (true, 10), (true, 11), (false, 12)] _ (by rfl) (by rfl) (⟨dlo, d1⟩) ?_
        dsimp only [List.filterMap, List.getElem?_cons_zero, List.getElem?_cons_succ]
        (refine wpQuiet_load_cell (fun w' hw' => hw'.1) (by rfl) _ _ (by rfl) (by rfl) _ Tryz.underlying34 (by rfl) ?_; simp only [Act.put, List.setIfInBounds_toArray, List.set_cons_zero, List.set_cons_succ])
        (refine wpQuiet_load_cell (fun w' hw' => hw'.2) (by rfl) _ _ (by rfl) (by rfl) _ Tryz.underlying5 (by rfl) ?_; simp only [Act.put, List.setIfInBounds_toArray, List.set_cons_zero, List.set_cons_succ])
        refine wpQuiet_nil ?_
        refine wpPlan_pure [6, 9, 10, 11] [(false, 12)] _ (by rfl) (by rfl) ?_
        dsimp only [List.filterMap, List.getElem?_cons_zero, List.getElem?_cons_succ]
        repeat (go_big_quiet_step (fail))
        refine wpQuiet_nil ?_
        refine wpPlan_forceL _ rfl ?_
        go_wp2_with fail
        refine PlanQ.out (by rfl) ?_
        refine wpPlan_tidy ?_
        go_wp2_with fail
        refine wp_region_planT (fun w' => w'.cell? ⟨s0 + 1, 0, none⟩ = some (.int .u64 (hi : Nat)) ∧ w'.cell? ⟨bb, off + 10, none⟩ = some (.int .u8 (iu8 y))) [13] [(true, 0), (true, 2), (true, 3), (true, 4), (true, 5), (true, 8), (true, 9), (true, 1), (true, 6), (true, 7), (true, 10), (true, 11), (true, 12), (false, 13)] (by kernel_rfl) (by kernel_rfl) (⟨dhi', d2'⟩) ?_
        refine wpPlan_pure [0, 2, 3, 4, 5, 8, 9] [(true, 1), (true, 6), (true, 7), (true, 10), (true, 11), (true, 12), (false, 13)] _ (by rfl) (by rfl) ?_
        dsimp only [List.filterMap, List.getElem?_cons_zero, List.getElem?_cons_succ]
        repeat (go_big_quiet_step (fail))
        refine wpQuiet_nil ?_
        refine wpPlan_takeL [1, 6] [(true, 7), (true, 10), (true, 11), (true, 12), (false, 13)] _ (by rfl) (by rfl) (⟨dhi', d2'⟩) ?_
        dsimp only [List.filterMap, List.getElem?_cons_zero, List.getElem?_cons_succ]
        (refine wpQuiet_load_cell (fun w' hw' => hw'.1) (by rfl) _ _ (by rfl) (by rfl) _ Tryz.underlying34 (by rfl) ?_; simp only [Act.put, List.setIfInBounds_toArray, List.set_cons_zero, List.set_cons_succ])
        (refine wpQuiet_load_cell (fun w' hw' => hw'.2) (by rfl) _ _ (by rfl) (by rfl) _ Tryz.underlying5 (by rfl) ?_; simp only [Act.put, List.setIfInBounds_toArray, List.set_cons_zero, List.set_cons_succ])
        refine wpQuiet_nil ?_
        refine wpPlan_pure [7, 10, 11, 12] [(false, 13)] _ (by rfl) (by rfl) ?_
        dsimp only [List.filterMap, List.getElem?_cons_zero, List.getElem?_cons_succ]
        repeat (go_big_quiet_step (fail))
        refine wpQuiet_nil ?_
        refine wpPlan_forceL _ rfl ?_
        go_wp2_with fail
        refine PlanQ.out (by rfl) ?_
        refine wpPlan_tidy ?_
        go_wp2
        exact ⟨HN.out, by simp [intOf]⟩
      · have e1 : bits .or .u64 (lo : Int) (IntKind.u64.wrap (IntKind.u64.wrap (iu8 x) * 16777216)) = ((lo' : Nat) : Int) := by rw [← HO.out.1]; exact orU lo 3 16777216 x (by decide) (by omega) HO.out.2.2.1
        have e2 : bits .or .u64 (hi : Int) (IntKind.u64.wrap (IntKind.u64.wrap (iu8 y) * 16777216)) = ((hi' : Nat) : Int) := by rw [← HO.out.2.1]; exact orU hi 3 16777216 y (by decide) (by omega) HO.out.2.2.2
        go_wp2_with fail
        refine wp_region_planT (fun w' => w'.cell? ⟨s0 + 1, 1, none⟩ = some (.int .u64 (lo : Nat)) ∧ w'.cell? ⟨bb, off + 3, none⟩ = some (.int .u8 (iu8 x))) [12] [(true, 0), (true, 2), (true, 3), (true, 4), (true, 7), (true, 8), (true, 1), (true, 5), (true, 6), (true, 9), (true, 10), (true, 11), (false, 12)] (by kernel_rfl) (by kernel_rfl) (⟨dlo, d1⟩) ?_
        refine wpPlan_pure [0, 2, 3, 4, 7, 8] [(true, 1), (true, 5), (true, 6), (true, 9), (true, 10), (true, 11), (false, 12)] _ (by rfl) (by rfl) ?_
        dsimp only [List.filterMap, List.getElem?_cons_zero, List.getElem?_cons_succ]
        repeat (go_big_quiet_step (fail))
        refine wpQuiet_nil ?_
        refine wpPlan_takeL [1, 5] [(true, 6), (true, 9), (true, 10), (true, 11), (false, 12)] _ (by rfl) (by rfl) (⟨dlo, d1⟩) ?_
        dsimp only [List.filterMap, List.getElem?_cons_zero, List.getElem?_cons_succ]
        (refine wpQuiet_load_cell (fun w' hw' => hw'.1) (by rfl) _ _ (by rfl) (by rfl) _ Tryz.underlying34 (by rfl) ?_; simp only [Act.put, List.setIfInBounds_toArray, List.set_cons_zero, List.set_cons_succ])
        (refine wpQuiet_load_cell (fun w' hw' => hw'.2) (by rfl) _ _ (by rfl) (by rfl) _ Tryz.underlying5 (by rfl) ?_; simp only [Act.put, List.setIfInBounds_toArray, List.set_cons_zero, List.set_cons_succ])
        refine wpQuiet_nil ?_
        refine wpPlan_pure [6, 9, 10, 11] [(false, 12)] _ (by rfl) (by rfl) ?_
        dsimp only [List.filterMap, List.getElem?_cons_zero, List.getElem?_cons_succ]
        repeat (go_big_quiet_step (fail))
        refine wpQuiet_nil ?_
        refine wpPlan_forceL _ rfl ?_
        go_wp2_with fail
        refine PlanQ.out (by rfl) ?_
        refine wpPlan_tidy ?_
        go_wp2_with fail
        refine wp_region_planT (fun w' => w'.cell? ⟨s0 + 1, 0, none⟩ = some (.int .u64 (hi : Nat)) ∧ w'.cell? ⟨bb, off + 11, none⟩ = some (.int .u8 (iu8 y))) [13] [(true, 0), (true, 2), (true, 3), (true, 4), (true, 5), (true, 8), (true, 9), (true, 1), (true, 6), (true, 7), (true, 10), (true, 11), (true, 12), (false, 13)] (by kernel_rfl) (by kernel_rfl) (⟨dhi', d2'⟩) ?_
        refine wpPlan_pure [0, 2, 3, 4, 5, 8, 9] [(true, 1), (true, 6), (true, 7), (true, 10), (true, 11), (true, 12), (false, 13)] _ (by rfl) (by rfl) ?_
        dsimp only [List.filterMap, List.getElem?_cons_zero, List.getElem?_cons_succ]
        repeat (go_big_quiet_step (fail))
        refine wpQuiet_nil ?_
        refine wpPlan_takeL [1, 6] [(true, 7), (true, 10), (true, 11), (true, 12), (false, 13)] _ (by rfl) (by rfl) (⟨dhi', d2'⟩) ?_
        dsimp only [List.filterMap, List.getElem?_cons_zero, List.getElem?_cons_succ]
        (refine wpQuiet_load_cell (fun w' hw' => hw'.1) (by rfl) _ _ (by rfl) (by rfl) _ Tryz.underlying34 (by rfl) ?_; simp only [Act.put, List.setIfInBounds_toArray, List.set_cons_zero, List.set_cons_succ])
        (refine wpQuiet_load_cell (fun w' hw' => hw'.2) (by rfl) _ _ (by rfl) (by rfl) _ Tryz.underlying5 (by rfl) ?_; simp only [Act.put, List.setIfInBounds_toArray, List.set_cons_zero, List.set_cons_succ])
        refine wpQuiet_nil ?_
        refine wpPlan_pure [7, 10, 11, 12] [(false, 13)] _ (by rfl) (by rfl) ?_
        dsimp only [List.filterMap, List.getElem?_cons_zero, List.getElem?_cons_succ]
        repeat (go_big_quiet_step (fail))
        refine wpQuiet_nil ?_
        refine wpPlan_forceL _ rfl ?_
        go_wp2_with fail
        refine PlanQ.out (by rfl) ?_
        refine wpPlan_tidy ?_
        go_wp2
        exact ⟨HN.out, by simp [intOf]⟩
      · have e1 : bits .or .u64 (lo : Int) (IntKind.u64.wrap (IntKind.u64.wrap (iu8 x) * 4294967296)) = ((lo' : Nat) : Int) := by rw [← HO.out.1]; exact orU lo 4 4294967296 x (by decide) (by omega) HO.out.2.2.1
        have e2 : bits .or .u64 (hi : Int) (IntKind.u64.wrap (IntKind.u64.wrap (iu8 y) * 4294967296)) = ((hi' : Nat) : Int) := by rw [← HO.out.2.1]; exact orU hi 4 4294967296 y (by decide) (by omega) HO.out.2.2.2
        go_wp2_with fail
        refine wp_region_planT (fun w' => w'.cell? ⟨s0 + 1, 1, none⟩ = some (.int .u64 (lo : Nat)) ∧ w'.cell? ⟨bb, off + 4, none⟩ = some (.int .u8 (iu8 x))) [12] [(true, 0), (true, 2), (true, 3), (true, 4), (true, 7), (true, 8), (true, 1), (true, 5), (true, 6), (true, 9), (true, 10), (true, 11), (false, 12)] (by kernel_rfl) (by kernel_rfl) (⟨dlo, d1⟩) ?_
        refine wpPlan_pure [0, 2, 3, 4, 7, 8] [(true, 1), (true, 5), (true, 6), (true, 9), (true, 10), (true, 11), (false, 12)] _ (by rfl) (by rfl) ?_
        dsimp only [List.filterMap, List.getElem?_cons_zero, List.getElem?_cons_succ]
        repeat (go_big_quiet_step (fail))
        refine wpQuiet_nil ?_
        refine wpPlan_takeL [1, 5] [(true, 6), (true, 9), (true, 10), (true, 11), (false, 12)] _ (by rfl) (by rfl) (⟨dlo, d1⟩) ?_
        dsimp only [List.filterMap, List.getElem?_cons_zero, List.getElem?_cons_succ]
        (refine wpQuiet_load_cell (fun w' hw' => hw'.1) (by rfl) _ _ (by rfl) (by rfl) _ Tryz.underlying34 (by rfl) ?_; simp only [Act.put, List.setIfInBounds_toArray, List.set_cons_zero, List.set_cons_succ])
        (refine wpQuiet_load_cell (fun w' hw' => hw'.2) (by rfl) _ _ (by rfl) (by rfl) _ Tryz.underlying5 (by rfl) ?_; simp only [Act.put, List.setIfInBounds_toArray, List.set_cons_zero, List.set_cons_succ])
        refine wpQuiet_nil ?_
        refine wpPlan_pure [6, 9, 10, 11] [(false, 12)] _ (by rfl) (by rfl) ?_
        dsimp only [List.filterMap, List.getElem?_cons_zero, List.getElem?_cons_succ]
        repeat (go_big_quiet_step (fail))
        refine wpQuiet_nil ?_
        refine wpPlan_forceL _ rfl ?_
        go_wp2_with fail
        refine PlanQ.out (by rfl) ?_
        refine wpPlan_tidy ?_
        go_wp2_with fail
        refine wp_region_planT (fun w' => w'.cell? ⟨s0 + 1, 0, none⟩ = some (.int .u64 (hi : Nat)) ∧ w'.cell? ⟨bb, off + 12, none⟩ = some (.int .u8 (iu8 y))) [13] [(true, 0), (true, 2), (true, 3), (true, 4), (true, 5), (true, 8), (true, 9), (true, 1), (true, 6), (true, 7), (true, 10), (true, 11), (true, 12), (false, 13)] (by kernel_rfl) (by kernel_rfl) (⟨dhi', d2'⟩) ?_
        refine wpPlan_pure [0, 2, 3, 4, 5, 8, 9] [(true, 1), (true, 6), (true, 7), (true, 10), (true, 11), (true, 12), (false, 13)] _ (by rfl) (by rfl) ?_
        dsimp only [List.filterMap, List.getElem?_cons_zero, List.getElem?_cons_succ]
        repeat (go_big_quiet_step (fail))
        refine wpQuiet_nil ?_
        refine wpPlan_takeL [1, 6] [(true, 7), (true, 10), (true, 11), (true, 12), (false, 13)] _ (by rfl) (by rfl) (⟨dhi', d2'⟩) ?_
        dsimp only [List.filterMap, List.getElem?_cons_zero, List.getElem?_cons_succ]
        (refine wpQuiet_load_cell (fun w' hw' => hw'.1) (by rfl) _ _ (by rfl) (by rfl) _ Tryz.underlying34 (by rfl) ?_; simp only [Act.put, List.setIfInBounds_toArray, List.set_cons_zero, List.set_cons_succ])
        (refine wpQuiet_load_cell (fun w' hw' => hw'.2) (by rfl) _ _ (by rfl) (by rfl) _ Tryz.underlying5 (by rfl) ?_; simp only [Act.put, List.setIfInBounds_toArray, List.set_cons_zero, List.set_cons_succ])
        refine wpQuiet_nil ?_
        refine wpPlan_pure [7, 10, 11, 12] [(false, 13)] _ (by rfl) (by rfl) ?_
        dsimp only [List.filterMap, List.getElem?_cons_zero, List.getElem?_cons_succ]
        repeat (go_big_quiet_step (fail))
        refine wpQuiet_nil ?_
        refine wpPlan_forceL _ rfl ?_
        go_wp2_with fail
        refine PlanQ.out (by rfl) ?_
        refine wpPlan_tidy ?_
        go_wp2
        exact ⟨HN.out, by simp [intOf]⟩
      · have e1 : bits .or .u64 (lo : Int) (IntKind.u64.wrap (IntKind.u64.wrap (iu8 x) * 1099511627776)) = ((lo' : Nat) : Int) := by rw [← HO.out.1]; exact orU lo 5 1099511627776 x (by decide) (by omega) HO.out.2.2.1
        have e2 : bits .or .u64 (hi : Int) (IntKind.u64.wrap (IntKind.u64.wrap (iu8 y) * 1099511627776)) = ((hi' : Nat) : Int) := by rw [← HO.out.2.1]; exact orU hi 5 1099511627776 y (by decide) (by omega) HO.out.2.2.2
        go_wp2_with fail
        refine wp_region_planT (fun w' => w'.cell? ⟨s0 + 1, 1, none⟩ = some (.int .u64 (lo : Nat)) ∧ w'.cell? ⟨bb, off + 5, none⟩ = some (.int .u8 (iu8 x))) [12] [(true, 0), (true, 2), (true, 3), (true, 4), (true, 7), (true, 8), (true, 1), (true, 5), (true, 6), (true, 9), (true, 10), (true, 11), (false, 12)] (by kernel_rfl) (by kernel_rfl) (⟨dlo, d1⟩) ?_
        refine wpPlan_pure [0, 2, 3, 4, 7, 8] [(true, 1), (true, 5), (true, 6), (true, 9), (true, 10), (true, 11), (false, 12)] _ (by rfl) (by rfl) ?_
        dsimp only [List.filterMap, List.getElem?_cons_zero, List.getElem?_cons_succ]
        repeat (go_big_quiet_step (fail))
        refine wpQuiet_nil ?_
        refine wpPlan_takeL [1, 5] [(true, 6), (true, 9), (true, 10), (true, 11), (false, 12)] _ (by rfl) (by rfl) (⟨dlo, d1⟩) ?_
        dsimp only [List.filterMap, List.getElem?_cons_zero, List.getElem?_cons_succ]
        (refine wpQuiet_load_cell (fun w' hw' => hw'.1) (by rfl) _ _ (by rfl) (by rfl) _ Tryz.underlying34 (by rfl) ?_; simp only [Act.put, List.setIfInBounds_toArray, List.set_cons_zero, List.set_cons_succ])
        (refine wpQuiet_load_cell (fun w' hw' => hw'.2) (by rfl) _ _ (by rfl) (by rfl) _ Tryz.underlying5 (by rfl) ?_; simp only [Act.put, List.setIfInBounds_toArray, List.set_cons_zero, List.set_cons_succ])
        refine wpQuiet_nil ?_
        refine wpPlan_pure [6, 9, 10, 11] [(false, 12)] _ (by rfl) (by rfl) ?_
        dsimp only [List.filterMap, List.getElem?_cons_zero, List.getElem?_cons_succ]
        repeat (go_big_quiet_step (fail))
        refine wpQuiet_nil ?_
        refine wpPlan_forceL _ rfl ?_
        go_wp2_with fail
        refine PlanQ.out (by rfl) ?_
        refine wpPlan_tidy ?_
        go_wp2_with fail
        refine wp_region_planT (fun w' => w'.cell? ⟨s0 + 1, 0, none⟩ = some (.int .u64 (hi : Nat)) ∧ w'.cell? ⟨bb, off + 13, none⟩ = some (.int .u8 (iu8 y))) [13] [(true, 0), (true, 2), (true, 3), (true, 4), (true, 5), (true, 8), (true, 9), (true, 1), (true, 6), (true, 7), (true, 10), (true, 11), (true, 12), (false, 13)] (by kernel_rfl) (by kernel_rfl) (⟨dhi', d2'⟩) ?_
        refine wpPlan_pure [0, 2, 3, 4, 5, 8, 9] [(true, 1), (true, 6), (true, 7), (true, 10), (true, 11), (true, 12), (false, 13)] _ (by rfl) (by rfl) ?_
        dsimp only [List.filterMap, List.getElem?_cons_zero, List.getElem?_cons_succ]
        repeat (go_big_quiet_step (fail))
        refine wpQuiet_nil ?_
        refine wpPlan_takeL [1, 6] [(true, 7), (true, 10), (true, 11), (true, 12), (false, 13)] _ (by rfl) (by rfl) (⟨dhi', d2'⟩) ?_
        dsimp only [List.filterMap, List.getElem?_cons_zero, List.getElem?_cons_succ]
        (refine wpQuiet_load_cell (fun w' hw' => hw'.1) (by rfl) _ _ (by rfl) (by rfl) _ Tryz.underlying34 (by rfl) ?_; simp only [Act.put, List.setIfInBounds_toArray, List.set_cons_zero, List.set_cons_succ])
        (refine wpQuiet_load_cell (fun w' hw' => hw'.2) (by rfl) _ _ (by rfl) (by rfl) _ Tryz.underlying5 (by rfl) ?_; simp only [Act.put, List.setIfInBounds_toArray, List.set_cons_zero, List.set_cons_succ])
        refine wpQuiet_nil ?_
        refine wpPlan_pure [7, 10, 11, 12] [(false, 13)] _ (by rfl) (by rfl) ?_
        dsimp only [List.filterMap, List.getElem?_cons_zero, List.getElem?_cons_succ]
        repeat (go_big_quiet_step (fail))
        refine wpQuiet_nil ?_
        refine wpPlan_forceL _ rfl ?_
        go_wp2_with fail
        refine PlanQ.out (by rfl) ?_
        refine wpPlan_tidy ?_
        go_wp2
        exact ⟨HN.out, by simp [intOf]⟩
      · have e1 : bits .or .u64 (lo : Int) (IntKind.u64.wrap (IntKind.u64.wrap (iu8 x) * 281474976710656)) = ((lo' : Nat) : Int) := by rw [← HO.out.1]; exact orU lo 6 281474976710656 x (by decide) (by omega) HO.out.2.2.1
        have e2 : bits .or .u64 (hi : Int) (IntKind.u64.wrap (IntKind.u64.wrap (iu8 y) * 281474976710656)) = ((hi' : Nat) : Int) := by rw [← HO.out.2.1]; exact orU hi 6 281474976710656 y (by decide) (by omega) HO.out.2.2.2
        go_wp2_with fail
        refine wp_region_planT (fun w' => w'.cell? ⟨s0 + 1, 1, none⟩ = some (.int .u64 (lo : Nat)) ∧ w'.cell? ⟨bb, off + 6, none⟩ = some (.int .u8 (iu8 x))) [12] [(true, 0), (true, 2), (true, 3), (true, 4), (true, 7), (true, 8), (true, 1), (true, 5), (true, 6), (true, 9), (true, 10), (true, 11), (false, 12)] (by kernel_rfl) (by kernel_rfl) (⟨dlo, d1⟩) ?_
        refine wpPlan_pure [0, 2, 3, 4, 7, 8] [(true, 1), (true, 5), (true, 6), (true, 9), (true, 10), (true, 11), (false, 12)] _ (by rfl) (by rfl) ?_
        dsimp only [List.filterMap, List.getElem?_cons_zero, List.getElem?_cons_succ]
        repeat (go_big_quiet_step (fail))
        refine wpQuiet_nil ?_
        refine wpPlan_takeL [1, 5] [(true, 6), (true, 9), (true, 10), (true, 11), (false, 12)] _ (by rfl) (by rfl) (⟨dlo, d1⟩) ?_
        dsimp only [List.filterMap, List.getElem?_cons_zero, List.getElem?_cons_succ]
        (refine wpQuiet_load_cell (fun w' hw' => hw'.1) (by rfl) _ _ (by rfl) (by rfl) _ Tryz.underlying34 (by rfl) ?_; simp only [Act.put, List.setIfInBounds_toArray, List.set_cons_zero, List.set_cons_succ])
        (refine wpQuiet_load_cell (fun w' hw' => hw'.2) (by rfl) _ _ (by rfl) (by rfl) _ Tryz.underlying5 (by rfl) ?_; simp only [Act.put, List.setIfInBounds_toArray, List.set_cons_zero, List.set_cons_succ])
        refine wpQuiet_nil ?_
        refine wpPlan_pure [6, 9, 10, 11] [(false, 12)] _ (by rfl) (by rfl) ?_
        dsimp only [List.filterMap, List.getElem?_cons_zero, List.getElem?_cons_succ]
        repeat (go_big_quiet_step (fail))
        refine wpQuiet_nil ?_
        refine wpPlan_forceL _ rfl ?_
        go_wp2_with fail
        refine PlanQ.out (by rfl) ?_
        refine wpPlan_tidy ?_
        go_wp2_with fail
        refine wp_region_planT (fun w' => w'.cell? ⟨s0 + 1, 0, none⟩ = some (.int .u64 (hi : Nat)) ∧ w'.cell? ⟨bb, off + 14, none⟩ = some (.int .u8 (iu8 y))) [13] [(true, 0), (true, 2), (true, 3), (true, 4), (true, 5), (true, 8), (true, 9), (true, 1), (true, 6), (true, 7), (true, 10), (true, 11), (true, 12), (false, 13)] (by kernel_rfl) (by kernel_rfl) (⟨dhi', d2'⟩) ?_
        refine wpPlan_pure [0, 2, 3, 4, 5, 8, 9] [(true, 1), (true, 6), (true, 7), (true, 10), (true, 11), (true, 12), (false, 13)] _ (by rfl) (by rfl) ?_
        dsimp only [List.filterMap, List.getElem?_cons_zero, List.getElem?_cons_succ]
        repeat (go_big_quiet_step (fail))
        refine wpQuiet_nil ?_
        refine wpPlan_takeL [1, 6] [(true, 7), (true, 10), (true, 11), (true, 12), (false, 13)] _ (by rfl) (by rfl) (⟨dhi', d2'⟩) ?_
        dsimp only [List.filterMap, List.getElem?_cons_zero, List.getElem?_cons_succ]
        (refine wpQuiet_load_cell (fun w' hw' => hw'.1) (by rfl) _ _ (by rfl) (by rfl) _ Tryz.underlying34 (by rfl) ?_; simp only [Act.put, List.setIfInBounds_toArray, List.set_cons_zero, List.set_cons_succ])
        (refine wpQuiet_load_cell (fun w' hw' => hw'.2) (by rfl) _ _ (by rfl) (by rfl) _ Tryz.underlying5 (by rfl) ?_; simp only [Act.put, List.setIfInBounds_toArray, List.set_cons_zero, List.set_cons_succ])
        refine wpQuiet_nil ?_
        refine wpPlan_pure [7, 10, 11, 12] [(false, 13)] _ (by rfl) (by rfl) ?_
        dsimp only [List.filterMap, List.getElem?_cons_zero, List.getElem?_cons_succ]
        repeat (go_big_quiet_step (fail))
        refine wpQuiet_nil ?_
        refine wpPlan_forceL _ rfl ?_
        go_wp2_with fail
        refine PlanQ.out (by rfl) ?_
        refine wpPlan_tidy ?_
        go_wp2
        exact ⟨HN.out, by simp [intOf]⟩
      · have e1 : bits .or .u64 (lo : Int) (IntKind.u64.wrap (IntKind.u64.wrap (iu8 x) * 72057594037927936)) = ((lo' : Nat) : Int) := by rw [← HO.out.1]; exact orU lo 7 72057594037927936 x (by decide) (by omega) HO.out.2.2.1
        have e2 : bits .or .u64 (hi : Int) (IntKind.u64.wrap (IntKind.u64.wrap (iu8 y) * 72057594037927936)) = ((hi' : Nat) : Int) := by rw [← HO.out.2.1]; exact orU hi 7 72057594037927936 y (by decide) (by omega) HO.out.2.2.2
        go_wp2_with fail
        refine wp_region_planT (fun w' => w'.cell? ⟨s0 + 1, 1, none⟩ = some (.int .u64 (lo : Nat)) ∧ w'.cell? ⟨bb, off + 7, none⟩ = some (.int .u8 (iu8 x))) [12] [(true, 0), (true, 2), (true, 3), (true, 4), (true, 7), (true, 8), (true, 1), (true, 5), (true, 6), (true, 9), (true, 10), (true, 11), (false, 12)] (by kernel_rfl) (by kernel_rfl) (⟨dlo, d1⟩) ?_
        refine wpPlan_pure [0, 2, 3, 4, 7, 8] [(true, 1), (true, 5), (true, 6), (true, 9), (true, 10), (true, 11), (false, 12)] _ (by rfl) (by rfl) ?_
        dsimp only [List.filterMap, List.getElem?_cons_zero, List.getElem?_cons_succ]
        repeat (go_big_quiet_step (fail))
        refine wpQuiet_nil ?_
        refine wpPlan_takeL [1, 5] [(true, 6), (true, 9), (true, 10), (true, 11), (false, 12)] _ (by rfl) (by rfl) (⟨dlo, d1⟩) ?_
        dsimp only [List.filterMap, List.getElem?_cons_zero, List.getElem?_cons_succ]
        (refine wpQuiet_load_cell (fun w' hw' => hw'.1) (by rfl) _ _ (by rfl) (by rfl) _ Tryz.underlying34 (by rfl) ?_; simp only [Act.put, List.setIfInBounds_toArray, List.set_cons_zero, List.set_cons_succ])
        (refine wpQuiet_load_cell (fun w' hw' => hw'.2) (by rfl) _ _ (by rfl) (by rfl) _ Tryz.underlying5 (by rfl) ?_; simp only [Act.put, List.setIfInBounds_toArray, List.set_cons_zero, List.set_cons_succ])
        refine wpQuiet_nil ?_
        refine wpPlan_pure [6, 9, 10, 11] [(false, 12)] _ (by rfl) (by rfl) ?_
        dsimp only [List.filterMap, List.getElem?_cons_zero, List.getElem?_cons_succ]
        repeat (go_big_quiet_step (fail))
        refine wpQuiet_nil ?_
        refine wpPlan_forceL _ rfl ?_
        go_wp2_with fail
        refine PlanQ.out (by rfl) ?_
        refine wpPlan_tidy ?_
        go_wp2_with fail
        refine wp_region_planT (fun w' => w'.cell? ⟨s0 + 1, 0, none⟩ = some (.int .u64 (hi : Nat)) ∧ w'.cell? ⟨bb, off + 15, none⟩ = some (.int .u8 (iu8 y))) [13] [(true, 0), (true, 2), (true, 3), (true, 4), (true, 5), (true, 8), (true, 9), (true, 1), (true, 6), (true, 7), (true, 10), (true, 11), (true, 12), (false, 13)] (by kernel_rfl) (by kernel_rfl) (⟨dhi', d2'⟩) ?_
        refine wpPlan_pure [0, 2, 3, 4, 5, 8, 9] [(true, 1), (true, 6), (true, 7), (true, 10), (true, 11), (true, 12), (false, 13)] _ (by rfl) (by rfl) ?_
        dsimp only [List.filterMap, List.getElem?_cons_zero, List.getElem?_cons_succ]
        repeat (go_big_quiet_step (fail))
        refine wpQuiet_nil ?_
        refine wpPlan_takeL [1, 6] [(true, 7), (true, 10), (true, 11), (true, 12), (false, 13)] _ (by rfl) (by rfl) (⟨dhi', d2'⟩) ?_
        dsimp only [List.filterMap, List.getElem?_cons_zero, List.getElem?_cons_succ]
        (refine wpQuiet_load_cell (fun w' hw' => hw'.1) (by rfl) _ _ (by rfl) (by rfl) _ Tryz.underlying34 (by rfl) ?_; simp only [Act.put, List.setIfInBounds_toArray, List.set_cons_zero, List.set_cons_succ])
        (refine wpQuiet_load_cell (fun w' hw' => hw'.2) (by rfl) _ _ (by rfl) (by rfl) _ Tryz.underlying5 (by rfl) ?_; simp only [Act.put, List.setIfInBounds_toArray, List.set_cons_zero, List.set_cons_succ])
        refine wpQuiet_nil ?_
        refine wpPlan_pure [7, 10, 11, 12] [(false, 13)] _ (by rfl) (by rfl) ?_
        dsimp only [List.filterMap, List.getElem?_cons_zero, List.getElem?_cons_succ]
        repeat (go_big_quiet_step (fail))
        refine wpQuiet_nil ?_
        refine wpPlan_forceL _ rfl ?_
        go_wp2_with fail
        refine PlanQ.out (by rfl) ?_
        refine wpPlan_tidy ?_
        go_wp2
        exact ⟨HN.out, by simp [intOf]⟩
    · obtain rfl : j = 8 := by omega
      rw [lpart_8, lpart_8] at hg
      have HB := Lib.hid (hB.out.upd hu hge)
      have hz := h1.upd hu (show s0 ≠ s0 + 1 by omega)
      clear hu hc3 hcr h1 h2 hj hlt
      rw [show ((8 : Nat) : Int) = 8 from rfl]
      obtain ⟨hi, hhi⟩ : ∃ n, n = at8 l 8 := ⟨_, rfl⟩
      obtain ⟨lo, hlo⟩ : ∃ n, n = at8 l 0 := ⟨_, rfl⟩
      rw [← hhi, ← hlo] at hg
      have HE := Lib.hid (And.intro hhi hlo)
      clear hhi hlo
      go_wp2_with (first
        | ((with_reducible show wpList _ _ _ ((⟨some 39, _, _, _, _, _⟩ : Oper) :: _) _ _); refine wpList_load_blk (o := ⟨some 39, _, _, _, _, _⟩) (hg) (by rfl) _ _ (by rfl) (by rfl) _ Tryz.underlying36 (by rfl) (sizeU) (by rfl) ?_)
        | ((with_reducible show wpList _ _ _ ((⟨none, _, _, _, _, _⟩ : Oper) :: _) _ _); refine wpList_store_blk (o := ⟨none, _, _, _, _, _⟩) (hz) (by rfl) _ _ _ (by rfl) (by rfl) (u128c hi lo) (by rfl) (sizeU) (by rfl) (by rfl) (by simp [u128c, Value.oneCell']) ?_; intro w5 h5 hu5; have HB5 := Lib.hid (HB.out.upd hu5 (by omega)))
        | fail)
      refine bodyPost_ret (results_row_tmp (by rfl) _ _ s0 _ _ _ (by rfl) h5 Tryz.underlying36 (by rfl) sizeU) rfl ⟨by rw [HE.out.1, HE.out.2]; rfl, HB5.out⟩
end Go.Proofs.YtfoegmjpfkmggaaGreatDoor
