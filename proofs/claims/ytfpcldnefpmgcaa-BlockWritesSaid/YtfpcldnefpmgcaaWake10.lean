/- The chapter's examples, as the statements name them: the block's bytes where they are told, and read again. No condition. -/
import Derived.Test.YtfpcldnefpmgcaaGridW
namespace Go.Proofs.Ytfpcldnefpmgcaa
open Go.RowKit
/-- What the chapter's block is read as. -/
def FiveRead (w : World) (e : Ending) (w' : World) : Prop :=
  ∃ A2 c2 B2 d2, e = .returned (.tuple #[.agg #[.int .i64 1, .int .i64 5, .int .i64 7, .slice A2 1 c2, .slice B2 2 d2], .int .i64 0]) ∧
    Refs w' A2 [(2, 3, ())] ∧ Bytes w' B2 [97, 98] ∧ Below w.heap.size w w'
theorem fiveRead_any (g : Nat) (w : World) (h : Blk w g 72 (fiveBytes.map u8v).toArray) : Calls Try.prog 36 #[.slice (some ⟨g, 0, none⟩) 1024 1024] w (FiveRead w) := by
  refine (read_any (some ⟨g, 0, none⟩) 1024 1024 fiveBytes (by rw [fiveBytes_length]) (by omega) (by omega) w h.bytes).mono ?_
  rw [five_read]
  rintro e w' ⟨A2, c2, B2, d2, he, hr, hb, _, _, _, hB⟩
  exact ⟨A2, c2, B2, d2, he, hr, hb, hB⟩
theorem fiveBytes_any (gA gB : Nat) (w : World) (hr : Refs w (some ⟨gA, 0, none⟩) [(2, 3, ())]) (hb : Bytes w (some ⟨gB, 0, none⟩) [97, 98]) :
    Calls Try.prog 30 #[.agg #[.int .i64 1, .int .i64 5, .int .i64 7, .slice (some ⟨gA, 0, none⟩) 1 1, .slice (some ⟨gB, 0, none⟩) 2 2]] w fun e w' => ∃ g, e = .returned (.tuple #[.slice (some ⟨g, 0, none⟩) 1024 1024, .int .i64 0]) ∧
      w.heap.size ≤ g ∧ Blk w' g 72 (fiveBytes.map u8v).toArray ∧ Below w.heap.size w w' :=
  bytes_ok 1 5 7 _ _ 1 2 [(2, 3, ())] [97, 98] five_ok w hr hb
theorem five_cell (i : Nat) (b : UInt8) (h : fiveBytes[i]? = some b) : ((fiveBytes.map u8v).toArray)[i]? = some (u8v b) := by simp [h]
theorem five_same (A B A' B' : Option Addr) (c d c' d' : Nat) (w : World) (hr : Refs w A [(2, 3, ())]) (hb : Bytes w B [97, 98]) (hr' : Refs w A' [(2, 3, ())]) (hb' : Bytes w B' [97, 98]) :
    Calls Try.prog 38 #[.agg #[.int .i64 1, .int .i64 5, .int .i64 7, .slice A 1 c, .slice B 2 d], .agg #[.int .i64 1, .int .i64 5, .int .i64 7, .slice A' 1 c', .slice B' 2 d']] w
      fun e w' => e = .returned (.bool true) ∧ Below w.heap.size w w' := by
  refine (sameBlock_any 1 1 5 5 7 7 [(2, 3, ())] [(2, 3, ())] [97, 98] [97, 98] A A' B B' c c' d d' w ⟨hr, hb, by simp, by simp⟩ ⟨hr', hb', by simp, by simp⟩).mono ?_
  rintro e w' ⟨he, hB⟩
  exact ⟨by simpa using he, hB⟩
set_option maxHeartbeats 1000000 in
theorem awake10_any (w : World) : Calls Try.prog 35 #[] w fun e w' => e = .returned (.bool true) ∧ Below w.heap.size w w' := by
  have hB := Below.refl w.heap.size w
  go_enter Try.func35, Try.ntmps35
  go_wp2_with fail
  refine (five_any _).mono ?_
  rintro e w1 ⟨gA, gB, rfl, hr1, hb1, hga, hgb, hbx⟩
  (replace hB := hB.trans (hbx.mono hB.size); clear hbx)
  go_wp2_with fail
  refine (fiveBytes_any gA gB _ hr1 hb1).mono ?_
  rintro e w2 ⟨g, rfl, hg2, hx, hbx⟩
  (replace hB := hB.trans (hbx.mono hB.size); clear hbx)
  clear hr1 hb1 hga hgb hg2
  go_wp2_with fail
  refine (fiveRead_any g _ hx).mono ?_
  rintro e w3 ⟨A2, c2, B2, d2, rfl, hr3, hb3, hbx⟩
  (replace hx := keep hbx hx; replace hB := hB.trans (hbx.mono hB.size); clear hbx)
  go_wp2_with (first | (show wpList _ _ _ ((⟨none, _, _, _, _, _⟩ : Oper) :: _) _ _; refine wpList_store_blk (o := ⟨none, _, _, _, _, _⟩) (Blk.new w3 45 zeroGB) (by rfl) _ _ _ (by rfl) (by rfl) (#[.int .i64 1, .int .i64 5, .int .i64 7, .slice A2 1 c2, .slice B2 2 d2]) (by rfl) (sizeGB) (by rfl) (by rfl) (by simp [Value.oneCell']) ?_; intro w4 hy hu) | fail)
  have hbx := ((Below.refl w3.heap.size w3).alloc (Nat.le_refl _) (.cells zeroGB 45)).upd hu (Nat.le_refl _)
  (replace hx := keep hbx hx; replace hr3 := keep hbx hr3; replace hb3 := keep hbx hb3; replace hB := hB.trans (hbx.mono hB.size); clear hbx hu)
  refine wp_region_plan (Below w4.heap.size w4) [] [(true, 0), (true, 1), (true, 2), (true, 3), (true, 4), (true, 5), (true, 6), (true, 7), (true, 8), (true, 9), (true, 10), (true, 11), (true, 12), (true, 13), (true, 14), (true, 15), (true, 16), (true, 17), (true, 18), (true, 19), (true, 20), (true, 21), (true, 22), (true, 23), (true, 24), (true, 25), (true, 26), (true, 27), (true, 28), (true, 29), (true, 30), (true, 31), (true, 32), (true, 33), (true, 34), (true, 35), (true, 36), (true, 37), (true, 38), (true, 39), (true, 40), (true, 41), (true, 42), (true, 43), (true, 44), (true, 45), (false, 46), (false, 47), (true, 48), (true, 49)] (by kernel_rfl) (by kernel_rfl) (fun c a a' w h q => ⟨h ▸ q.1, q.2⟩) (Below.refl _ _).drew ?_
  refine wpPlan_pure [0, 1] [(true, 2), (true, 3), (true, 4), (true, 5), (true, 6), (true, 7), (true, 8), (true, 9), (true, 10), (true, 11), (true, 12), (true, 13), (true, 14), (true, 15), (true, 16), (true, 17), (true, 18), (true, 19), (true, 20), (true, 21), (true, 22), (true, 23), (true, 24), (true, 25), (true, 26), (true, 27), (true, 28), (true, 29), (true, 30), (true, 31), (true, 32), (true, 33), (true, 34), (true, 35), (true, 36), (true, 37), (true, 38), (true, 39), (true, 40), (true, 41), (true, 42), (true, 43), (true, 44), (true, 45), (false, 46), (false, 47), (true, 48), (true, 49)] _ (by rfl) (by rfl) ?_
  dsimp only [List.filterMap, List.getElem?_cons_zero, List.getElem?_cons_succ]
  repeat (go_big_quiet_step (fail))
  refine wpQuiet_nil ?_
  refine wpPlan_takeL [2] [(true, 3), (true, 4), (true, 5), (true, 6), (true, 7), (true, 8), (true, 9), (true, 10), (true, 11), (true, 12), (true, 13), (true, 14), (true, 15), (true, 16), (true, 17), (true, 18), (true, 19), (true, 20), (true, 21), (true, 22), (true, 23), (true, 24), (true, 25), (true, 26), (true, 27), (true, 28), (true, 29), (true, 30), (true, 31), (true, 32), (true, 33), (true, 34), (true, 35), (true, 36), (true, 37), (true, 38), (true, 39), (true, 40), (true, 41), (true, 42), (true, 43), (true, 44), (true, 45), (false, 46), (false, 47), (true, 48), (true, 49)] _ (by rfl) (by rfl) (Below.refl _ _).drew ?_
  dsimp only [List.filterMap, List.getElem?_cons_zero, List.getElem?_cons_succ]
  (refine wpQuiet_load_cell (fun w' hw' => Blk.at_ (v := .int .u8 1) (hx.below hw' hx.lt) 16 (five_cell 16 1 five_at.1)) (by rfl) _ _ (by rfl) (by rfl) _ Try.underlying5 (by rfl) ?_; simp only [Act.put, List.setIfInBounds_toArray, List.set_cons_zero, List.set_cons_succ])
  refine wpQuiet_nil ?_
  refine wpPlan_pure [3, 4, 5, 6] [(true, 7), (true, 8), (true, 9), (true, 10), (true, 11), (true, 12), (true, 13), (true, 14), (true, 15), (true, 16), (true, 17), (true, 18), (true, 19), (true, 20), (true, 21), (true, 22), (true, 23), (true, 24), (true, 25), (true, 26), (true, 27), (true, 28), (true, 29), (true, 30), (true, 31), (true, 32), (true, 33), (true, 34), (true, 35), (true, 36), (true, 37), (true, 38), (true, 39), (true, 40), (true, 41), (true, 42), (true, 43), (true, 44), (true, 45), (false, 46), (false, 47), (true, 48), (true, 49)] _ (by rfl) (by rfl) ?_
  dsimp only [List.filterMap, List.getElem?_cons_zero, List.getElem?_cons_succ]
  repeat (go_big_quiet_step (fail))
  refine wpQuiet_nil ?_
  refine wpPlan_takeL [7] [(true, 8), (true, 9), (true, 10), (true, 11), (true, 12), (true, 13), (true, 14), (true, 15), (true, 16), (true, 17), (true, 18), (true, 19), (true, 20), (true, 21), (true, 22), (true, 23), (true, 24), (true, 25), (true, 26), (true, 27), (true, 28), (true, 29), (true, 30), (true, 31), (true, 32), (true, 33), (true, 34), (true, 35), (true, 36), (true, 37), (true, 38), (true, 39), (true, 40), (true, 41), (true, 42), (true, 43), (true, 44), (true, 45), (false, 46), (false, 47), (true, 48), (true, 49)] _ (by rfl) (by rfl) (Below.refl _ _).drew ?_
  dsimp only [List.filterMap, List.getElem?_cons_zero, List.getElem?_cons_succ]
  (refine wpQuiet_want' (by rfl) ?_; refine wpQuiet_load_cell (fun w' hw' => Blk.at_ (v := .int .u8 5) (hx.below hw' hx.lt) 20 (five_cell 20 5 five_at.2.1)) (by rfl) _ _ (by rfl) (by rfl) _ Try.underlying5 (by rfl) ?_; simp only [Act.put, List.setIfInBounds_toArray, List.set_cons_zero, List.set_cons_succ])
  refine wpQuiet_nil ?_
  refine wpPlan_pure [8, 9, 10, 11, 12] [(true, 13), (true, 14), (true, 15), (true, 16), (true, 17), (true, 18), (true, 19), (true, 20), (true, 21), (true, 22), (true, 23), (true, 24), (true, 25), (true, 26), (true, 27), (true, 28), (true, 29), (true, 30), (true, 31), (true, 32), (true, 33), (true, 34), (true, 35), (true, 36), (true, 37), (true, 38), (true, 39), (true, 40), (true, 41), (true, 42), (true, 43), (true, 44), (true, 45), (false, 46), (false, 47), (true, 48), (true, 49)] _ (by rfl) (by rfl) ?_
  dsimp only [List.filterMap, List.getElem?_cons_zero, List.getElem?_cons_succ]
  repeat (go_big_quiet_step (fail))
  refine wpQuiet_nil ?_
  refine wpPlan_takeL [13] [(true, 14), (true, 15), (true, 16), (true, 17), (true, 18), (true, 19), (true, 20), (true, 21), (true, 22), (true, 23), (true, 24), (true, 25), (true, 26), (true, 27), (true, 28), (true, 29), (true, 30), (true, 31), (true, 32), (true, 33), (true, 34), (true, 35), (true, 36), (true, 37), (true, 38), (true, 39), (true, 40), (true, 41), (true, 42), (true, 43), (true, 44), (true, 45), (false, 46), (false, 47), (true, 48), (true, 49)] _ (by rfl) (by rfl) (Below.refl _ _).drew ?_
  dsimp only [List.filterMap, List.getElem?_cons_zero, List.getElem?_cons_succ]
  (refine wpQuiet_want' (by rfl) ?_; refine wpQuiet_load_cell (fun w' hw' => Blk.at_ (v := .int .u8 7) (hx.below hw' hx.lt) 24 (five_cell 24 7 five_at.2.2.1)) (by rfl) _ _ (by rfl) (by rfl) _ Try.underlying5 (by rfl) ?_; simp only [Act.put, List.setIfInBounds_toArray, List.set_cons_zero, List.set_cons_succ])
  refine wpQuiet_nil ?_
  refine wpPlan_pure [14, 15, 16, 17, 18] [(true, 19), (true, 20), (true, 21), (true, 22), (true, 23), (true, 24), (true, 25), (true, 26), (true, 27), (true, 28), (true, 29), (true, 30), (true, 31), (true, 32), (true, 33), (true, 34), (true, 35), (true, 36), (true, 37), (true, 38), (true, 39), (true, 40), (true, 41), (true, 42), (true, 43), (true, 44), (true, 45), (false, 46), (false, 47), (true, 48), (true, 49)] _ (by rfl) (by rfl) ?_
  dsimp only [List.filterMap, List.getElem?_cons_zero, List.getElem?_cons_succ]
  repeat (go_big_quiet_step (fail))
  refine wpQuiet_nil ?_
  refine wpPlan_takeL [19] [(true, 20), (true, 21), (true, 22), (true, 23), (true, 24), (true, 25), (true, 26), (true, 27), (true, 28), (true, 29), (true, 30), (true, 31), (true, 32), (true, 33), (true, 34), (true, 35), (true, 36), (true, 37), (true, 38), (true, 39), (true, 40), (true, 41), (true, 42), (true, 43), (true, 44), (true, 45), (false, 46), (false, 47), (true, 48), (true, 49)] _ (by rfl) (by rfl) (Below.refl _ _).drew ?_
  dsimp only [List.filterMap, List.getElem?_cons_zero, List.getElem?_cons_succ]
  (refine wpQuiet_want' (by rfl) ?_; refine wpQuiet_load_cell (fun w' hw' => Blk.at_ (v := .int .u8 1) (hx.below hw' hx.lt) 28 (five_cell 28 1 five_at.2.2.2.1)) (by rfl) _ _ (by rfl) (by rfl) _ Try.underlying5 (by rfl) ?_; simp only [Act.put, List.setIfInBounds_toArray, List.set_cons_zero, List.set_cons_succ])
  refine wpQuiet_nil ?_
  refine wpPlan_pure [20, 21, 22, 23, 24] [(true, 25), (true, 26), (true, 27), (true, 28), (true, 29), (true, 30), (true, 31), (true, 32), (true, 33), (true, 34), (true, 35), (true, 36), (true, 37), (true, 38), (true, 39), (true, 40), (true, 41), (true, 42), (true, 43), (true, 44), (true, 45), (false, 46), (false, 47), (true, 48), (true, 49)] _ (by rfl) (by rfl) ?_
  dsimp only [List.filterMap, List.getElem?_cons_zero, List.getElem?_cons_succ]
  repeat (go_big_quiet_step (fail))
  refine wpQuiet_nil ?_
  refine wpPlan_takeL [25] [(true, 26), (true, 27), (true, 28), (true, 29), (true, 30), (true, 31), (true, 32), (true, 33), (true, 34), (true, 35), (true, 36), (true, 37), (true, 38), (true, 39), (true, 40), (true, 41), (true, 42), (true, 43), (true, 44), (true, 45), (false, 46), (false, 47), (true, 48), (true, 49)] _ (by rfl) (by rfl) (Below.refl _ _).drew ?_
  dsimp only [List.filterMap, List.getElem?_cons_zero, List.getElem?_cons_succ]
  (refine wpQuiet_want' (by rfl) ?_; refine wpQuiet_load_cell (fun w' hw' => Blk.at_ (v := .int .u8 2) (hx.below hw' hx.lt) 32 (five_cell 32 2 five_at.2.2.2.2.1)) (by rfl) _ _ (by rfl) (by rfl) _ Try.underlying5 (by rfl) ?_; simp only [Act.put, List.setIfInBounds_toArray, List.set_cons_zero, List.set_cons_succ])
  refine wpQuiet_nil ?_
  refine wpPlan_pure [26, 27, 28, 29, 30] [(true, 31), (true, 32), (true, 33), (true, 34), (true, 35), (true, 36), (true, 37), (true, 38), (true, 39), (true, 40), (true, 41), (true, 42), (true, 43), (true, 44), (true, 45), (false, 46), (false, 47), (true, 48), (true, 49)] _ (by rfl) (by rfl) ?_
  dsimp only [List.filterMap, List.getElem?_cons_zero, List.getElem?_cons_succ]
  repeat (go_big_quiet_step (fail))
  refine wpQuiet_nil ?_
  refine wpPlan_takeL [31] [(true, 32), (true, 33), (true, 34), (true, 35), (true, 36), (true, 37), (true, 38), (true, 39), (true, 40), (true, 41), (true, 42), (true, 43), (true, 44), (true, 45), (false, 46), (false, 47), (true, 48), (true, 49)] _ (by rfl) (by rfl) (Below.refl _ _).drew ?_
  dsimp only [List.filterMap, List.getElem?_cons_zero, List.getElem?_cons_succ]
  (refine wpQuiet_want' (by rfl) ?_; refine wpQuiet_load_cell (fun w' hw' => Blk.at_ (v := .int .u8 2) (hx.below hw' hx.lt) 36 (five_cell 36 2 five_at.2.2.2.2.2.1)) (by rfl) _ _ (by rfl) (by rfl) _ Try.underlying5 (by rfl) ?_; simp only [Act.put, List.setIfInBounds_toArray, List.set_cons_zero, List.set_cons_succ])
  refine wpQuiet_nil ?_
  refine wpPlan_pure [32, 33, 34, 35, 36] [(true, 37), (true, 38), (true, 39), (true, 40), (true, 41), (true, 42), (true, 43), (true, 44), (true, 45), (false, 46), (false, 47), (true, 48), (true, 49)] _ (by rfl) (by rfl) ?_
  dsimp only [List.filterMap, List.getElem?_cons_zero, List.getElem?_cons_succ]
  repeat (go_big_quiet_step (fail))
  refine wpQuiet_nil ?_
  refine wpPlan_takeL [37] [(true, 38), (true, 39), (true, 40), (true, 41), (true, 42), (true, 43), (true, 44), (true, 45), (false, 46), (false, 47), (true, 48), (true, 49)] _ (by rfl) (by rfl) (Below.refl _ _).drew ?_
  dsimp only [List.filterMap, List.getElem?_cons_zero, List.getElem?_cons_succ]
  (refine wpQuiet_want' (by rfl) ?_; refine wpQuiet_load_cell (fun w' hw' => Blk.at_ (v := .int .u8 97) (hx.below hw' hx.lt) 164 (five_cell 164 97 five_at.2.2.2.2.2.2.1)) (by rfl) _ _ (by rfl) (by rfl) _ Try.underlying5 (by rfl) ?_; simp only [Act.put, List.setIfInBounds_toArray, List.set_cons_zero, List.set_cons_succ])
  refine wpQuiet_nil ?_
  refine wpPlan_pure [38, 39, 40, 41, 42, 43, 44] [(true, 45), (false, 46), (false, 47), (true, 48), (true, 49)] _ (by rfl) (by rfl) ?_
  dsimp only [List.filterMap, List.getElem?_cons_zero, List.getElem?_cons_succ]
  repeat (go_big_quiet_step (fail))
  refine wpQuiet_nil ?_
  refine wpPlan_takeL [45] [(false, 46), (false, 47), (true, 48), (true, 49)] _ (by rfl) (by rfl) (Below.refl _ _).drew ?_
  dsimp only [List.filterMap, List.getElem?_cons_zero, List.getElem?_cons_succ]
  (refine wpQuiet_want' (by rfl) ?_; refine wpQuiet_load_blk (fun w' hw' => hy.below hw' hy.lt) (by rfl) _ _ (by rfl) (by rfl) _ Try.underlying45 (by rfl) sizeGB (by rfl) ?_; simp only [Act.put, List.setIfInBounds_toArray, List.set_cons_zero, List.set_cons_succ])
  refine wpQuiet_nil ?_
  refine wpPlan_forceL _ rfl ?_
  go_wp2_with fail
  refine (five_any _).mono ?_
  rintro e w5 ⟨gA, gB, rfl, hr5, hb5, hga, hgb, hbx⟩
  have hC5 : Below w4.heap.size w4 w5 := (Below.refl w4.heap.size w4).drew.trans (hbx.mono (Nat.le_refl _))
  (replace hr3 := keep hC5 hr3; replace hb3 := keep hC5 hb3; replace hB := hB.trans (hC5.mono hB.size); clear hbx hga hgb)
  go_wp2_with fail
  refine PlanQ.in_ hC5 ?_
  refine wpPlan_forceL _ rfl ?_
  go_wp2_with fail
  refine (five_same _ _ _ _ _ _ _ _ w5 hr3 hb3 hr5 hb5).mono ?_
  rintro e w6 ⟨rfl, hbx⟩
  have hC6 := hC5.trans (hbx.mono hC5.size)
  (replace hB := hB.trans (hbx.mono hB.size); clear hbx)
  go_wp2_with fail
  refine PlanQ.in_ hC6 ?_
  refine wpPlan_pure [48, 49] [] _ (by rfl) (by rfl) ?_
  dsimp only [List.filterMap, List.getElem?_cons_zero, List.getElem?_cons_succ]
  repeat (go_big_quiet_step (fail))
  refine wpQuiet_nil ?_
  refine wpPlan_nil ?_
  go_wp2_with fail
  go_ret
  exact ⟨rfl, hB⟩
end Go.Proofs.Ytfpcldnefpmgcaa
