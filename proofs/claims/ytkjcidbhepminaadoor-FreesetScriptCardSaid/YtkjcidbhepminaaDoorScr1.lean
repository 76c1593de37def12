/- A set and the document's, side by side: a call of either answers the same, and they stay alike. Conditions: both are laid out apart from each other and from what was there; the table of Go's library lies as it was laid. -/
import Derived.Test.YtkjcidbhepminaaDoorKnown09
import Derived.Test.YtkjcidbhepminaaDoorFreeC
namespace Go.Proofs.YtkjcidbhepminaaDoor
open Go.RowKit
def ptr (g : Nat) : Value := .pointer (some ⟨g, 0, none⟩)
structure Pair (W w : World) (p g r q : Nat) (L : List Nat) : Prop where
  pr : Blk w p 61 #[.pointer (some ⟨g, 0, none⟩), .pointer (some ⟨r, 0, none⟩)]
  st : Blk w g 26 (setCells L)
  rf : RefAt w r q L
  ok : SetOk L
  len : 0 < L.length
  ne : p ≠ g ∧ p ≠ r ∧ p ≠ q ∧ g ≠ r ∧ g ≠ q
  base : W.heap.size ≤ p ∧ W.heap.size ≤ g ∧ W.heap.size ≤ r ∧ W.heap.size ≤ q
  bel : Below W.heap.size W w
theorem Pair.below {W w w' : World} {p g r q : Nat} {L : List Nat} (h : Pair W w p g r q L) (hb : Below w.heap.size w w') : Pair W w' p g r q L :=
  ⟨h.pr.below hb h.pr.lt, h.st.below hb h.st.lt, h.rf.below hb, h.ok, h.len, h.ne, h.base, h.bel.trans (hb.mono h.bel.size)⟩
theorem Pair.drewN {W w : World} {p g r q : Nat} {L : List Nat} (h : Pair W w p g r q L) (n : Nat) : Pair W (w.drewN n) p g r q L :=
  ⟨h.pr.drewN n, h.st.drewN n, ⟨h.rf.hd.drewN n, h.rf.tl.drewN n, h.rf.ne⟩, h.ok, h.len, h.ne, h.base, below_drewN h.bel n⟩
/-- Both have turned alike. -/
theorem Pair.turned {W w w1 w2 : World} {p g r q : Nat} {L L' : List Nat} (h : Pair W w p g r q L) (hs : Blk w1 g 26 (setCells L')) (u1 : Upd g w w1) (hr : RefAt w2 r q L') (u2 : Upd q w1 w2) (hok : SetOk L') (hl : 0 < L'.length) :
    Pair W w2 p g r q L' :=
  ⟨(h.pr.upd u1 h.ne.1).upd u2 h.ne.2.2.1, hs.upd u2 h.ne.2.2.2.2, hr, hok, hl, h.ne, h.base, (h.bel.upd u1 h.base.2.1).upd u2 h.base.2.2.2⟩
theorem Pair.d0 {W w : World} {p g r q : Nat} {L : List Nat} (h : Pair W w p g r q L) : w.cell? ⟨p, 0, none⟩ = some (.pointer (some ⟨g, 0, none⟩)) := h.pr.at_ 0 rfl
theorem Pair.d1 {W w : World} {p g r q : Nat} {L : List Nat} (h : Pair W w p g r q L) : w.cell? ⟨p, 1, none⟩ = some (.pointer (some ⟨r, 0, none⟩)) := h.pr.at_ 1 rfl
/-- The set alone has turned: the document's is read as it was, and the two places of the pair are. -/
theorem Pair.half {W w w1 : World} {p g r q : Nat} {L : List Nat} (h : Pair W w p g r q L) (u1 : Upd g w w1) : RefAt w1 r q L ∧ w1.cell? ⟨p, 0, none⟩ = some (.pointer (some ⟨g, 0, none⟩)) ∧ w1.cell? ⟨p, 1, none⟩ = some (.pointer (some ⟨r, 0, none⟩)) :=
  ⟨h.rf.upd u1 h.ne.2.2.2.1 h.ne.2.2.2.2, (World.cell?_of_block (u1.block p h.ne.1)).trans h.d0, (World.cell?_of_block (u1.block p h.ne.1)).trans h.d1⟩
/-- What a call does, as the law asks it. -/
def Acted (W : World) (p r q : Nat) (e : Ending) (w' : World) : Prop := e = .returned (.bool true) ∧ ∃ g' L', Pair W w' p g' r q L'
theorem act_0 (L : List Nat) (n : Int) (W w : World) (p g r q : Nat) (h : Pair W w p g r q L) (hT : Tab W) :
    Calls Tryd.prog 28 #[.pointer (some ⟨p, 0, none⟩), .agg #[.int .i64 0, .int .i64 n]] w (Acted W p r q) := by
  have hB1 := (Below.refl w.heap.size w).alloc (Nat.le_refl _) (.cells #[.int .i64 0, .int .i64 n] 55)
  have h1 := h.below hB1
  have d0 := h1.d0
  go_enter Tryd.func28, Tryd.ntmps28
  go_wp2_with fail
  refine (acquire_any L h1.ok h1.len g _ h1.st (hT.below h1.bel)).mono ?_
  rintro e w2 ⟨rfl, hs2, u2⟩
  obtain ⟨hr2, d2, d3⟩ := h1.half u2
  go_wp2_with fail
  refine (racquire_any L h1.ok.len r q w2 hr2).mono ?_
  rintro e w3 ⟨rfl, hr3, u3⟩
  have h3 := h1.turned hs2 u2 hr3 u3 h1.ok.acq (by rw [acqL_length]; exact h1.len)
  have b1 : (acqN L == acqN L) = true := by simp
  have b2 : (acqE L == acqE L) = true := by simp
  go_wp2
  go_ret
  exact ⟨rfl, _, _, h3⟩
theorem act_3 (L : List Nat) (n : Int) (W w : World) (p g r q : Nat) (h : Pair W w p g r q L) :
    Calls Tryd.prog 28 #[.pointer (some ⟨p, 0, none⟩), .agg #[.int .i64 3, .int .i64 n]] w (Acted W p r q) := by
  have hB1 := (Below.refl w.heap.size w).alloc (Nat.le_refl _) (.cells #[.int .i64 3, .int .i64 n] 55)
  have h1 := h.below hB1
  go_enter Tryd.func28, Tryd.ntmps28
  go_wp2_with fail
  generalize w.alloc _ = w1 at h1 hB1 ⊢
  have d0 := h1.d0
  have d1 := h1.d1
  refine wp_region_planT (fun w' => w'.cell? ⟨p, 0, none⟩ = some (.pointer (some ⟨g, 0, none⟩)) ∧ w'.cell? ⟨p, 1, none⟩ = some (.pointer (some ⟨r, 0, none⟩))) [] [(true, 0), (true, 1), (true, 2), (true, 5), (true, 6), (true, 7), (true, 3), (true, 8), (false, 4), (false, 9), (true, 10), (true, 11)] (by kernel_rfl) (by kernel_rfl) (⟨d0, d1⟩) ?_
  refine wpPlan_pure [0, 1, 2, 5, 6, 7] [(true, 3), (true, 8), (false, 4), (false, 9), (true, 10), (true, 11)] _ (by rfl) (by rfl) ?_
  dsimp only [List.filterMap, List.getElem?_cons_zero, List.getElem?_cons_succ]
  repeat (go_big_quiet_step (fail))
  refine wpQuiet_nil ?_
  refine wpPlan_takeL [3, 8] [(false, 4), (false, 9), (true, 10), (true, 11)] _ (by rfl) (by rfl) (⟨d0, d1⟩) ?_
  dsimp only [List.filterMap, List.getElem?_cons_zero, List.getElem?_cons_succ]
  (refine wpQuiet_load_cell (fun w' hw' => hw'.1) (by rfl) _ _ (by rfl) (by rfl) _ Tryd.underlying22 (by rfl) ?_; simp only [Act.put, List.setIfInBounds_toArray, List.set_cons_zero, List.set_cons_succ])
  (refine wpQuiet_load_cell (fun w' hw' => hw'.2) (by rfl) _ _ (by rfl) (by rfl) _ Tryd.underlying44 (by rfl) ?_; simp only [Act.put, List.setIfInBounds_toArray, List.set_cons_zero, List.set_cons_succ])
  refine wpQuiet_nil ?_
  refine wpPlan_forceL _ rfl ?_
  go_wp2_with fail
  refine (settle_any L h1.ok h1.len g w1.drew (h1.drewN 1).st).mono ?_
  rintro e w2 ⟨rfl, hs2, u2⟩
  obtain ⟨hr2, d2, d3⟩ := (h1.drewN 1).half u2
  go_wp2_with fail
  refine PlanQ.in_ ⟨d2, d3⟩ ?_
  refine wpPlan_forceL _ rfl ?_
  go_wp2_with fail
  refine (rsettle_any L h1.ok r q w2 hr2).mono ?_
  rintro e w3 ⟨rfl, hr3, u3⟩
  have h3 := (h1.drewN 1).turned hs2 u2 hr3 u3 h1.ok.setl (by simp [setl]; exact h1.len)
  have b1 : ((cnt L L.length : Int) == cnt L L.length) = true := by simp
  go_wp2_with fail
  refine PlanQ.in_ ⟨h3.d0, h3.d1⟩ ?_
  refine wpPlan_pure [10, 11] [] _ (by rfl) (by rfl) ?_
  dsimp only [List.filterMap, List.getElem?_cons_zero, List.getElem?_cons_succ]
  repeat (go_big_quiet_step (fail))
  refine wpQuiet_nil ?_
  refine wpPlan_tidy ?_
  go_wp2
  go_ret
  exact ⟨rfl, _, _, h3⟩
theorem act_1 (L : List Nat) (n : Int) (hn1 : -9223372036854775808 ≤ n) (hn2 : n ≤ 9223372036854775807) (W w : World) (p g r q : Nat) (h : Pair W w p g r q L) :
    Calls Tryd.prog 28 #[.pointer (some ⟨p, 0, none⟩), .agg #[.int .i64 1, .int .i64 n]] w (Acted W p r q) := by
  have hB1 := (Below.refl w.heap.size w).alloc (Nat.le_refl _) (.cells #[.int .i64 1, .int .i64 n] 55)
  have h1 := h.below hB1
  have dn : (w.alloc (.cells #[.int .i64 1, .int .i64 n] 55)).cell? ⟨w.heap.size, 1, none⟩ = some (.int .i64 n) := (Blk.new w _ _).at_ 1 rfl
  have hpw : w.heap.size ≠ g ∧ w.heap.size ≠ q := ⟨by have := h.st.lt; omega, by have := h.rf.tl.lt; omega⟩
  have c1 := fun w' (hw : Pair W w' p g r q L) => take_any L hw.ok hw.len g n hn1 hn2 w' hw.st
  have c2 := fun w' (hw : RefAt w' r q L) => rtake_any L h.ok.len r q n hn1 hn2 w' hw
  clear hn1 hn2
  go_enter Tryd.func28, Tryd.ntmps28
  go_wp2_with fail
  generalize w.alloc _ = w1 at h1 hB1 dn ⊢
  have d0 := h1.d0
  have d1 := h1.d1
  refine wp_region_planT (fun w' => w'.cell? ⟨p, 0, none⟩ = some (.pointer (some ⟨g, 0, none⟩)) ∧ w'.cell? ⟨p, 1, none⟩ = some (.pointer (some ⟨r, 0, none⟩)) ∧ w'.cell? ⟨w.heap.size, 1, none⟩ = some (.int .i64 n)) [] [(true, 0), (true, 1), (true, 2), (true, 4), (true, 7), (true, 8), (true, 9), (true, 11), (true, 3), (true, 5), (true, 10), (true, 12), (false, 6), (false, 13), (true, 14), (true, 15)] (by kernel_rfl) (by kernel_rfl) (⟨d0, d1, dn⟩) ?_
  refine wpPlan_pure [0, 1, 2, 4, 7, 8, 9, 11] [(true, 3), (true, 5), (true, 10), (true, 12), (false, 6), (false, 13), (true, 14), (true, 15)] _ (by rfl) (by rfl) ?_
  dsimp only [List.filterMap, List.getElem?_cons_zero, List.getElem?_cons_succ]
  repeat (go_big_quiet_step (fail))
  refine wpQuiet_nil ?_
  refine wpPlan_takeL [3, 5, 10, 12] [(false, 6), (false, 13), (true, 14), (true, 15)] _ (by rfl) (by rfl) (⟨d0, d1, dn⟩) ?_
  dsimp only [List.filterMap, List.getElem?_cons_zero, List.getElem?_cons_succ]
  (refine wpQuiet_load_cell (fun w' hw' => hw'.1) (by rfl) _ _ (by rfl) (by rfl) _ Tryd.underlying22 (by rfl) ?_; simp only [Act.put, List.setIfInBounds_toArray, List.set_cons_zero, List.set_cons_succ])
  (refine wpQuiet_load_cell (fun w' hw' => hw'.2.2) (by rfl) _ _ (by rfl) (by rfl) _ Tryd.underlying3 (by rfl) ?_; simp only [Act.put, List.setIfInBounds_toArray, List.set_cons_zero, List.set_cons_succ])
  (refine wpQuiet_load_cell (fun w' hw' => hw'.2.1) (by rfl) _ _ (by rfl) (by rfl) _ Tryd.underlying44 (by rfl) ?_; simp only [Act.put, List.setIfInBounds_toArray, List.set_cons_zero, List.set_cons_succ])
  (refine wpQuiet_load_cell (fun w' hw' => hw'.2.2) (by rfl) _ _ (by rfl) (by rfl) _ Tryd.underlying3 (by rfl) ?_; simp only [Act.put, List.setIfInBounds_toArray, List.set_cons_zero, List.set_cons_succ])
  refine wpQuiet_nil ?_
  refine wpPlan_forceL _ rfl ?_
  go_wp2_with fail
  refine (c1 w1.drew (h1.drewN 1)).mono ?_
  rintro e w2 ⟨rfl, hs2, u2⟩
  obtain ⟨hr2, d2, d3⟩ := (h1.drewN 1).half u2
  have dn2 : w2.cell? ⟨w.heap.size, 1, none⟩ = some (.int .i64 n) := (World.cell?_of_block (u2.block w.heap.size hpw.1)).trans dn
  clear c1
  go_wp2_with fail
  refine PlanQ.in_ ⟨d2, d3, dn2⟩ ?_
  refine wpPlan_forceL _ rfl ?_
  go_wp2_with fail
  refine (c2 w2 hr2).mono ?_
  rintro e w3 ⟨rfl, hr3, u3⟩
  have h3 := (h1.drewN 1).turned hs2 u2 hr3 u3 (h.ok.turn n 0 1 (by omega)) (by rw [turnL_length]; exact h.len)
  have b1 : (turnCode L n 0 == turnCode L n 0) = true := by simp
  have dn3 : w3.cell? ⟨w.heap.size, 1, none⟩ = some (.int .i64 n) := (World.cell?_of_block (u3.block w.heap.size hpw.2)).trans dn2
  clear c2
  go_wp2_with fail
  refine PlanQ.in_ ⟨h3.d0, h3.d1, dn3⟩ ?_
  refine wpPlan_pure [14, 15] [] _ (by rfl) (by rfl) ?_
  dsimp only [List.filterMap, List.getElem?_cons_zero, List.getElem?_cons_succ]
  repeat (go_big_quiet_step (fail))
  refine wpQuiet_nil ?_
  refine wpPlan_tidy ?_
  go_wp2
  go_ret
  exact ⟨rfl, _, _, h3⟩
theorem act_2 (L : List Nat) (n : Int) (hn1 : -9223372036854775808 ≤ n) (hn2 : n ≤ 9223372036854775807) (W w : World) (p g r q : Nat) (h : Pair W w p g r q L) :
    Calls Tryd.prog 28 #[.pointer (some ⟨p, 0, none⟩), .agg #[.int .i64 2, .int .i64 n]] w (Acted W p r q) := by
  have hB1 := (Below.refl w.heap.size w).alloc (Nat.le_refl _) (.cells #[.int .i64 2, .int .i64 n] 55)
  have h1 := h.below hB1
  have dn : (w.alloc (.cells #[.int .i64 2, .int .i64 n] 55)).cell? ⟨w.heap.size, 1, none⟩ = some (.int .i64 n) := (Blk.new w _ _).at_ 1 rfl
  have hpw : w.heap.size ≠ g ∧ w.heap.size ≠ q := ⟨by have := h.st.lt; omega, by have := h.rf.tl.lt; omega⟩
  have c1 := fun w' (hw : Pair W w' p g r q L) => release_any L hw.ok hw.len g n hn1 hn2 w' hw.st
  have c2 := fun w' (hw : RefAt w' r q L) => rrelease_any L h.ok.len r q n hn1 hn2 w' hw
  clear hn1 hn2
  go_enter Tryd.func28, Tryd.ntmps28
  go_wp2_with fail
  generalize w.alloc _ = w1 at h1 hB1 dn ⊢
  have d0 := h1.d0
  have d1 := h1.d1
  refine wp_region_planT (fun w' => w'.cell? ⟨p, 0, none⟩ = some (.pointer (some ⟨g, 0, none⟩)) ∧ w'.cell? ⟨p, 1, none⟩ = some (.pointer (some ⟨r, 0, none⟩)) ∧ w'.cell? ⟨w.heap.size, 1, none⟩ = some (.int .i64 n)) [] [(true, 0), (true, 1), (true, 2), (true, 4), (true, 7), (true, 8), (true, 9), (true, 11), (true, 3), (true, 5), (true, 10), (true, 12), (false, 6), (false, 13), (true, 14), (true, 15)] (by kernel_rfl) (by kernel_rfl) (⟨d0, d1, dn⟩) ?_
  refine wpPlan_pure [0, 1, 2, 4, 7, 8, 9, 11] [(true, 3), (true, 5), (true, 10), (true, 12), (false, 6), (false, 13), (true, 14), (true, 15)] _ (by rfl) (by rfl) ?_
  dsimp only [List.filterMap, List.getElem?_cons_zero, List.getElem?_cons_succ]
  repeat (go_big_quiet_step (fail))
  refine wpQuiet_nil ?_
  refine wpPlan_takeL [3, 5, 10, 12] [(false, 6), (false, 13), (true, 14), (true, 15)] _ (by rfl) (by rfl) (⟨d0, d1, dn⟩) ?_
  dsimp only [List.filterMap, List.getElem?_cons_zero, List.getElem?_cons_succ]
  (refine wpQuiet_load_cell (fun w' hw' => hw'.1) (by rfl) _ _ (by rfl) (by rfl) _ Tryd.underlying22 (by rfl) ?_; simp only [Act.put, List.setIfInBounds_toArray, List.set_cons_zero, List.set_cons_succ])
  (refine wpQuiet_load_cell (fun w' hw' => hw'.2.2) (by rfl) _ _ (by rfl) (by rfl) _ Tryd.underlying3 (by rfl) ?_; simp only [Act.put, List.setIfInBounds_toArray, List.set_cons_zero, List.set_cons_succ])
  (refine wpQuiet_load_cell (fun w' hw' => hw'.2.1) (by rfl) _ _ (by rfl) (by rfl) _ Tryd.underlying44 (by rfl) ?_; simp only [Act.put, List.setIfInBounds_toArray, List.set_cons_zero, List.set_cons_succ])
  (refine wpQuiet_load_cell (fun w' hw' => hw'.2.2) (by rfl) _ _ (by rfl) (by rfl) _ Tryd.underlying3 (by rfl) ?_; simp only [Act.put, List.setIfInBounds_toArray, List.set_cons_zero, List.set_cons_succ])
  refine wpQuiet_nil ?_
  refine wpPlan_forceL _ rfl ?_
  go_wp2_with fail
  refine (c1 w1.drew (h1.drewN 1)).mono ?_
  rintro e w2 ⟨rfl, hs2, u2⟩
  obtain ⟨hr2, d2, d3⟩ := (h1.drewN 1).half u2
  have dn2 : w2.cell? ⟨w.heap.size, 1, none⟩ = some (.int .i64 n) := (World.cell?_of_block (u2.block w.heap.size hpw.1)).trans dn
  clear c1
  go_wp2_with fail
  refine PlanQ.in_ ⟨d2, d3, dn2⟩ ?_
  refine wpPlan_forceL _ rfl ?_
  go_wp2_with fail
  refine (c2 w2 hr2).mono ?_
  rintro e w3 ⟨rfl, hr3, u3⟩
  have h3 := (h1.drewN 1).turned hs2 u2 hr3 u3 (h.ok.turn n 1 2 (by omega)) (by rw [turnL_length]; exact h.len)
  have b1 : (turnCode L n 1 == turnCode L n 1) = true := by simp
  have dn3 : w3.cell? ⟨w.heap.size, 1, none⟩ = some (.int .i64 n) := (World.cell?_of_block (u3.block w.heap.size hpw.2)).trans dn2
  clear c2
  go_wp2_with fail
  refine PlanQ.in_ ⟨h3.d0, h3.d1, dn3⟩ ?_
  refine wpPlan_pure [14, 15] [] _ (by rfl) (by rfl) ?_
  dsimp only [List.filterMap, List.getElem?_cons_zero, List.getElem?_cons_succ]
  repeat (go_big_quiet_step (fail))
  refine wpQuiet_nil ?_
  refine wpPlan_tidy ?_
  go_wp2
  go_ret
  exact ⟨rfl, _, _, h3⟩
theorem act_is (L : List Nat) (k n : Int) (hk : k ≠ 0 ∧ k ≠ 1 ∧ k ≠ 2 ∧ k ≠ 3 ∧ k ≠ 4 ∧ k ≠ 5) (hn1 : -9223372036854775808 ≤ n) (hn2 : n ≤ 9223372036854775807) (W w : World) (p g r q : Nat) (h : Pair W w p g r q L) :
    Calls Tryd.prog 28 #[.pointer (some ⟨p, 0, none⟩), .agg #[.int .i64 k, .int .i64 n]] w (Acted W p r q) := by
  have k0 : (k == 0) = false := by simpa using hk.1
  have k1 : (k == 1) = false := by simpa using hk.2.1
  have k2 : (k == 2) = false := by simpa using hk.2.2.1
  have k3 : (k == 3) = false := by simpa using hk.2.2.2.1
  have k4 : (k == 4) = false := by simpa using hk.2.2.2.2.1
  have k5 : (k == 5) = false := by simpa using hk.2.2.2.2.2
  have hB1 := (Below.refl w.heap.size w).alloc (Nat.le_refl _) (.cells #[.int .i64 k, .int .i64 n] 55)
  have h1 := h.below hB1
  have dn : (w.alloc (.cells #[.int .i64 k, .int .i64 n] 55)).cell? ⟨w.heap.size, 1, none⟩ = some (.int .i64 n) := (Blk.new w _ _).at_ 1 rfl
  have c1 := fun w' (hw : Pair W w' p g r q L) => is_any L hw.ok hw.len g n hn1 hn2 w' hw.st
  have c2 := fun w' (hw : RefAt w' r q L) => ris_any L h.ok.len r q n hn1 hn2 w' hw
  clear hn1 hn2 hk
  go_enter Tryd.func28, Tryd.ntmps28
  go_wp2_with fail
  generalize w.alloc _ = w1 at h1 hB1 dn ⊢
  have d0 := h1.d0
  have d1 := h1.d1
  refine wp_region_planT (fun w' => w'.cell? ⟨p, 0, none⟩ = some (.pointer (some ⟨g, 0, none⟩)) ∧ w'.cell? ⟨p, 1, none⟩ = some (.pointer (some ⟨r, 0, none⟩)) ∧ w'.cell? ⟨w.heap.size, 1, none⟩ = some (.int .i64 n)) [] [(true, 0), (true, 1), (true, 2), (true, 4), (true, 7), (true, 8), (true, 9), (true, 11), (true, 3), (true, 5), (true, 10), (true, 12), (false, 6), (false, 13), (true, 14), (true, 15)] (by kernel_rfl) (by kernel_rfl) (⟨d0, d1, dn⟩) ?_
  refine wpPlan_pure [0, 1, 2, 4, 7, 8, 9, 11] [(true, 3), (true, 5), (true, 10), (true, 12), (false, 6), (false, 13), (true, 14), (true, 15)] _ (by rfl) (by rfl) ?_
  dsimp only [List.filterMap, List.getElem?_cons_zero, List.getElem?_cons_succ]
  repeat (go_big_quiet_step (fail))
  refine wpQuiet_nil ?_
  refine wpPlan_takeL [3, 5, 10, 12] [(false, 6), (false, 13), (true, 14), (true, 15)] _ (by rfl) (by rfl) (⟨d0, d1, dn⟩) ?_
  dsimp only [List.filterMap, List.getElem?_cons_zero, List.getElem?_cons_succ]
  (refine wpQuiet_load_cell (fun w' hw' => hw'.1) (by rfl) _ _ (by rfl) (by rfl) _ Tryd.underlying22 (by rfl) ?_; simp only [Act.put, List.setIfInBounds_toArray, List.set_cons_zero, List.set_cons_succ])
  (refine wpQuiet_load_cell (fun w' hw' => hw'.2.2) (by rfl) _ _ (by rfl) (by rfl) _ Tryd.underlying3 (by rfl) ?_; simp only [Act.put, List.setIfInBounds_toArray, List.set_cons_zero, List.set_cons_succ])
  (refine wpQuiet_load_cell (fun w' hw' => hw'.2.1) (by rfl) _ _ (by rfl) (by rfl) _ Tryd.underlying44 (by rfl) ?_; simp only [Act.put, List.setIfInBounds_toArray, List.set_cons_zero, List.set_cons_succ])
  (refine wpQuiet_load_cell (fun w' hw' => hw'.2.2) (by rfl) _ _ (by rfl) (by rfl) _ Tryd.underlying3 (by rfl) ?_; simp only [Act.put, List.setIfInBounds_toArray, List.set_cons_zero, List.set_cons_succ])
  refine wpQuiet_nil ?_
  refine wpPlan_forceL _ rfl ?_
  go_wp2_with fail
  refine (c1 w1.drew (h1.drewN 1)).mono ?_
  rintro e w2 ⟨rfl, j, rfl⟩
  have h2 : Pair W (w1.drew.drewN j) p g r q L := (h1.drewN 1).drewN j
  have dn2 : (w1.drew.drewN j).cell? ⟨w.heap.size, 1, none⟩ = some (.int .i64 n) := dn
  generalize w1.drew.drewN j = w2 at h2 dn2 ⊢
  clear c1
  go_wp2_with fail
  refine PlanQ.in_ ⟨h2.d0, h2.d1, dn2⟩ ?_
  refine wpPlan_forceL _ rfl ?_
  go_wp2_with fail
  refine (c2 w2 h2.rf).mono ?_
  rintro e w3 ⟨rfl, rfl⟩
  have b1 : (isAt L n == isAt L n) = true := by simp
  clear c2
  go_wp2_with fail
  refine PlanQ.in_ ⟨h2.d0, h2.d1, dn2⟩ ?_
  refine wpPlan_pure [14, 15] [] _ (by rfl) (by rfl) ?_
  dsimp only [List.filterMap, List.getElem?_cons_zero, List.getElem?_cons_succ]
  repeat (go_big_quiet_step (fail))
  refine wpQuiet_nil ?_
  refine wpPlan_tidy ?_
  go_wp2
  go_ret
  exact ⟨rfl, _, _, h2⟩
theorem act_4 (L : List Nat) (n : Int) (W w : World) (p g r q : Nat) (h : Pair W w p g r q L) (hT : Tab W) :
    Calls Tryd.prog 28 #[.pointer (some ⟨p, 0, none⟩), .agg #[.int .i64 4, .int .i64 n]] w (Acted W p r q) := by
  have hB1 := (Below.refl w.heap.size w).alloc (Nat.le_refl _) (.cells #[.int .i64 4, .int .i64 n] 55)
  have h1 := h.below hB1
  have d0 := h1.d0
  go_enter Tryd.func28, Tryd.ntmps28
  go_wp2_with fail
  refine (clone_any L h1.len g _ h1.st).mono ?_
  rintro e w2 ⟨rfl, hs2, hb2⟩
  have h2 := h1.below hb2
  have f2 := h2.pr.frozen 0
  have d2 := h2.d0
  have hgn : (w.alloc (.cells #[.int .i64 4, .int .i64 n] 55)).heap.size ≠ p ∧ (w.alloc (.cells #[.int .i64 4, .int .i64 n] 55)).heap.size ≠ g ∧ (w.alloc (.cells #[.int .i64 4, .int .i64 n] 55)).heap.size ≠ r ∧ (w.alloc (.cells #[.int .i64 4, .int .i64 n] 55)).heap.size ≠ q := ⟨by have := h1.pr.lt; omega, by have := h1.st.lt; omega, by have := h1.rf.hd.lt; omega, by have := h1.rf.tl.lt; omega⟩
  have hbn := h1.bel.size
  generalize (w.alloc (.cells #[.int .i64 4, .int .i64 n] 55)).heap.size = g' at hs2 hgn hbn ⊢
  have hp3 := (h2.pr.set_ 0 (.pointer (some ⟨g', 0, none⟩))).sub (show _ = #[.pointer (some ⟨g', 0, none⟩), .pointer (some ⟨r, 0, none⟩)] from rfl)
  have u3 := (Upd.refl p w2).set 0 (.pointer (some ⟨g', 0, none⟩))
  have hs3 := hs2.upd u3 (Ne.symm (Ne.symm hgn.1))
  have ho3 := h2.st.upd u3 (Ne.symm h2.ne.1)
  have hr3 := h2.rf.upd u3 h2.ne.2.1 h2.ne.2.2.1
  have hB3 := h2.bel.upd u3 h2.base.1
  have P3 := Lib.hid (show Pair W (w2.setCell ⟨p, 0, none⟩ (.pointer (some ⟨g', 0, none⟩))) p g' r q L from ⟨hp3, hs3, hr3, h2.ok, h2.len, ⟨Ne.symm hgn.1, h2.ne.2.1, h2.ne.2.2.1, hgn.2.2.1, hgn.2.2.2⟩, ⟨h2.base.1, hbn, h2.base.2.2.1, h2.base.2.2.2⟩, hB3⟩)
  have O3 := Lib.hid ho3
  have hgg := Lib.hid (show p ≠ g ∧ r ≠ g ∧ q ≠ g ∧ g' ≠ g ∧ W.heap.size ≤ g ∧ SetOk L ∧ 0 < L.length from ⟨h2.ne.1, Ne.symm h2.ne.2.2.2.1, Ne.symm h2.ne.2.2.2.2, hgn.2.1, h2.base.2.1, h2.ok, h2.len⟩)
  clear hp3 u3 hs3 ho3 hr3 hB3 hs2 hb2 h2 d0 hB1 h1 h hgn hbn
  go_wp2_with fail
  generalize w2.setCell _ _ = w3 at P3 O3 ⊢
  refine (acquire_any L hgg.out.2.2.2.2.2.1 hgg.out.2.2.2.2.2.2 g _ O3.out (hT.below P3.out.bel)).mono ?_
  rintro e w4 ⟨rfl, hs4, u4⟩
  go_wp2_with fail
  refine (settle_any (acqL L) hgg.out.2.2.2.2.2.1.acq (by rw [acqL_length]; exact hgg.out.2.2.2.2.2.2) g _ hs4).mono ?_
  rintro e w5 ⟨rfl, hs5, u5⟩
  have u45 := u4.trans u5
  obtain ⟨x1, x2, x3, x4, x5, _⟩ := hgg.out
  have P := P3.out
  have P5 : Pair W w5 p g' r q L := ⟨P.pr.upd u45 x1, P.st.upd u45 x4, P.rf.upd u45 (Ne.symm x2) (Ne.symm x3), P.ok, P.len, P.ne, P.base, P.bel.upd u45 x5⟩
  have d5 := P5.d0
  go_wp2
  go_ret
  exact ⟨rfl, _, _, P5⟩
theorem act_5 (L : List Nat) (n : Int) (W w : World) (p g r q : Nat) (h : Pair W w p g r q L) :
    Calls Tryd.prog 28 #[.pointer (some ⟨p, 0, none⟩), .agg #[.int .i64 5, .int .i64 n]] w (Acted W p r q) := by
  have hB1 := (Below.refl w.heap.size w).alloc (Nat.le_refl _) (.cells #[.int .i64 5, .int .i64 n] 55)
  have h1 := h.below hB1
  have d0 := h1.d0
  go_enter Tryd.func28, Tryd.ntmps28
  go_wp2_with fail
  refine (bytes_any L h1.ok h1.len g _ h1.st).mono ?_
  rintro e w2 ⟨rfl, hO, hb2⟩
  have h2 := h1.below hb2
  generalize (w.alloc (.cells #[.int .i64 5, .int .i64 n] 55)).heap.size = gb at hO ⊢
  have hel := enc_length L
  obtain ⟨r1, r2⟩ := rd_enc L h2.ok h2.len
  have hell : (enc L).length ≤ 300 := by have := h2.ok.len; omega
  rw [← hel]
  have hrd := read_yes (some ⟨gb, 0, none⟩) (enc L).length (enc L) r1 w2 hO.bytes (by omega)
  rw [r2] at hrd
  clear hel r1 r2 hell
  go_wp2_with fail
  refine hrd.mono ?_
  rintro e w3 ⟨g', hg', rfl, hs3, hb3⟩
  have h3 := h2.below hb3
  have f3 := h3.pr.frozen 0
  have d3 := h3.d0
  have hgn : g' ≠ p ∧ g' ≠ r ∧ g' ≠ q := ⟨by have := h2.pr.lt; omega, by have := h2.rf.hd.lt; omega, by have := h2.rf.tl.lt; omega⟩
  have hbn : W.heap.size ≤ g' := Nat.le_trans h2.bel.size hg'
  have hp3 := (h3.pr.set_ 0 (.pointer (some ⟨g', 0, none⟩))).sub (show _ = #[.pointer (some ⟨g', 0, none⟩), .pointer (some ⟨r, 0, none⟩)] from rfl)
  have u3 := (Upd.refl p w3).set 0 (.pointer (some ⟨g', 0, none⟩))
  have hs4 := hs3.upd u3 hgn.1
  have hr3 := h3.rf.upd u3 h3.ne.2.1 h3.ne.2.2.1
  have hB3 := h3.bel.upd u3 h3.base.1
  have P3 := Lib.hid (show Pair W (w3.setCell ⟨p, 0, none⟩ (.pointer (some ⟨g', 0, none⟩))) p g' r q L from ⟨hp3, hs4, hr3, h3.ok, h3.len, ⟨Ne.symm hgn.1, h3.ne.2.1, h3.ne.2.2.1, hgn.2.1, hgn.2.2⟩, ⟨h3.base.1, hbn, h3.base.2.2.1, h3.base.2.2.2⟩, hB3⟩)
  clear hp3 u3 hs4 hr3 hB3 hs3 hb3 h3 h2 hb2 hO hrd h1 hB1 h hgn hbn d0
  go_wp2
  go_ret
  exact ⟨rfl, _, _, P3.out⟩
theorem act_any (L : List Nat) (k n : Int) (hn1 : -9223372036854775808 ≤ n) (hn2 : n ≤ 9223372036854775807) (W w : World) (p g r q : Nat) (h : Pair W w p g r q L) (hT : Tab W) :
    Calls Tryd.prog 28 #[.pointer (some ⟨p, 0, none⟩), .agg #[.int .i64 k, .int .i64 n]] w (Acted W p r q) := by
  by_cases e0 : k = 0
  · subst e0; exact act_0 L n W w p g r q h hT
  by_cases e1 : k = 1
  · subst e1; exact act_1 L n hn1 hn2 W w p g r q h
  by_cases e2 : k = 2
  · subst e2; exact act_2 L n hn1 hn2 W w p g r q h
  by_cases e3 : k = 3
  · subst e3; exact act_3 L n W w p g r q h
  by_cases e4 : k = 4
  · subst e4; exact act_4 L n W w p g r q h hT
  by_cases e5 : k = 5
  · subst e5; exact act_5 L n W w p g r q h
  exact act_is L k n ⟨e0, e1, e2, e3, e4, e5⟩ hn1 hn2 W w p g r q h
end Go.Proofs.YtkjcidbhepminaaDoor
