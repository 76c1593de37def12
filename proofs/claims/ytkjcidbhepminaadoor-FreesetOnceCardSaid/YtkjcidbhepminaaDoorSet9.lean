/- The program's set of blocks: its counts. Conditions: the set's block is known. -/
import Derived.Test.YtkjcidbhepminaaDoorSet8
namespace Go.Proofs.YtkjcidbhepminaaDoor
open Go.RowKit Go.Shelf
attribute [local go_sem] Oper.semAt_some
def cnts (l : List Nat) (v : Nat) : Nat := (l.filter fun x => decide (x = v)).length
theorem cnts_snoc (l : List Nat) (x v : Nat) : cnts (l ++ [x]) v = cnts l v + if x = v then 1 else 0 := by
  unfold cnts
  rw [List.filter_append, List.length_append, List.filter_cons]
  by_cases h : x = v
  · simp [h]
  · simp [h]
theorem cnts_le (l : List Nat) (v : Nat) : cnts l v ≤ l.length := List.length_filter_le _ _
def c3 (l : List Nat) : Array Value := #[.int .i64 (cnts l 0 : Nat), .int .i64 (cnts l 1 : Nat), .int .i64 (cnts l 2 : Nat)]
theorem c3_at (l : List Nat) (v : Nat) (h : v ≤ 2) : (c3 l)[v]? = some (.int .i64 (cnts l v : Nat)) := by
  have : v = 0 ∨ v = 1 ∨ v = 2 := by omega
  rcases this with rfl | rfl | rfl <;> rfl
theorem c3_snoc (l : List Nat) (v : Nat) (h : v ≤ 2) : (c3 l).setIfInBounds v (.int .i64 ((cnts l v : Nat) + 1 : Int)) = c3 (l ++ [v]) := by
  have : v = 0 ∨ v = 1 ∨ v = 2 := by omega
  unfold c3
  rcases this with rfl | rfl | rfl <;> simp [cnts_snoc]
theorem counts_nil (w : World) : Calls Tryd.prog 10 #[.pointer none] w fun e w' => e = .returned (.tuple #[.int .i64 0, .int .i64 0, .int .i64 0]) ∧ w = w' := by
  go_enter Tryd.func10, Tryd.ntmps10
  go_wp2_with (go_at_call 30; refine (none_nil _).mono ?_; rintro e w' ⟨rfl, rfl⟩)
  go_ret3
  exact ⟨rfl, rfl⟩
theorem counts_empty (g : Nat) (w : World) (h : Blk w g 26 (setCells [])) : Calls Tryd.prog 10 #[.pointer (some ⟨g, 0, none⟩)] w fun e w' => e = .returned (.tuple #[.int .i64 0, .int .i64 0, .int .i64 0]) ∧ w = w' := by
  have hn := none_any [] g w h
  rw [decide_eq_true (by rfl)] at hn
  go_enter Tryd.func10, Tryd.ntmps10
  go_wp2_with (go_at_call 30; refine hn.mono ?_; rintro e w' ⟨rfl, rfl⟩)
  go_ret3
  exact ⟨rfl, rfl⟩
theorem bytes_nil (w : World) : Calls Tryd.prog 15 #[.pointer none] w fun e w' => e = .returned (.slice none 0 0) ∧ w = w' := by
  go_enter Tryd.func15, Tryd.ntmps15
  go_wp2_with (go_at_call 30; refine (none_nil _).mono ?_; rintro e w' ⟨rfl, rfl⟩)
  go_ret
  exact ⟨rfl, rfl⟩
theorem bytes_empty (g : Nat) (w : World) (h : Blk w g 26 (setCells [])) : Calls Tryd.prog 15 #[.pointer (some ⟨g, 0, none⟩)] w fun e w' => e = .returned (.slice none 0 0) ∧ w = w' := by
  have hn := none_any [] g w h
  rw [decide_eq_true (by rfl)] at hn
  go_enter Tryd.func15, Tryd.ntmps15
  go_wp2_with (go_at_call 30; refine hn.mono ?_; rintro e w' ⟨rfl, rfl⟩)
  go_ret
  exact ⟨rfl, rfl⟩
set_option maxRecDepth 100000 in
set_option maxHeartbeats 2000000 in
theorem counts_any (L : List Nat) (hok : SetOk L) (h0 : 0 < L.length) (g : Nat) (w : World) (h : Blk w g 26 (setCells L)) :
    Calls Tryd.prog 10 #[.pointer (some ⟨g, 0, none⟩)] w fun e w' => e = .returned (.tuple #[.int .i64 (cnts L 0 : Nat), .int .i64 (cnts L 1 : Nat), .int .i64 (cnts L 2 : Nat)]) ∧ Below w.heap.size w w' := by
  have hl := hok.len
  have hn := none_any L g w h
  rw [decide_eq_false (by omega)] at hn
  have hg := h.lt
  refine callsIn_wide (n := 3).1 ?_
  refine callsIn_of_wp_marks Tryd.func10 rfl trivial ?_ rfl
  simp only [Tryd.ntmps10, List.size_toArray, List.length_cons, List.length_nil, Nat.reduceAdd, Nat.reduceSub, Array.replicate_succ, Array.replicate_zero, List.push_toArray, List.append_toArray, List.nil_append, List.cons_append]
  refine wpIn_wide.2 ?_
  go_wp2_with (first
    | (go_at_call 30; refine hn.mono ?_; rintro e w' ⟨rfl, rfl⟩)
    | fail)
  refine (all_any g _).mono ?_
  rintro e w' ⟨rfl, rfl⟩
  go_wp2_with fail
  have hx5 : Blk ((w.alloc (.cells #[.int .i64 0, .int .i64 0, .int .i64 0] 65)).alloc (.cells #[.pointer (some ⟨g, 0, none⟩)] 22)) w.heap.size 65 (c3 []) := (Blk.new w _ _).alloc _
  have hb5 : Blk ((w.alloc (.cells #[.int .i64 0, .int .i64 0, .int .i64 0] 65)).alloc (.cells #[.pointer (some ⟨g, 0, none⟩)] 22)) (w.heap.size + 1) 22 #[.pointer (some ⟨g, 0, none⟩)] := Blk.new' _ _ _ (by simp)
  have hg5 := (h.alloc (.cells #[.int .i64 0, .int .i64 0, .int .i64 0] 65)).alloc (.cells #[.pointer (some ⟨g, 0, none⟩)] 22)
  have hB5 := ((Below.refl w.heap.size w).alloc (Nat.le_refl _) (.cells #[.int .i64 0, .int .i64 0, .int .i64 0] 65)).alloc (by simp) (.cells #[.pointer (some ⟨g, 0, none⟩)] 22)
  have hs5 : ((w.alloc (.cells #[.int .i64 0, .int .i64 0, .int .i64 0] 65)).alloc (.cells #[.pointer (some ⟨g, 0, none⟩)] 22)).heap.size = w.heap.size + 2 := by simp
  generalize (w.alloc _).alloc _ = w5 at hx5 hb5 hg5 hB5 hs5 ⊢
  clear h hn
  have hbl := hb5.lt
  refine wpIn_wide (n := 3).1 ?_
  refine wpIn_rangeFunc_ownF rfl (by omega) (gf := 43) (lb := #[.pointer (some ⟨w.heap.size + 1, 0, none⟩)]) rfl trivial (enters_of Tryd.func43 (by kernel_rfl) rfl)
    (all1_stops 2 (by omega) L hok h0 g (w.heap.size + 1) w5 hg5 hb5) (fun h k => h.trans k) (fun W l o o' hl hW ho _ => ⟨by simp, World.putObj_heap_other (by omega), World.putObj_heap_other (by omega)⟩) (Below.refl _ _) (fun _ => rfl)
    (fun pre W => (Blk W w.heap.size 65 (c3 (pre.map (·.1.2)))) ∧ Below w.heap.size w W)
    (fun _ _ _ => False)
    (OwnFrom.and (fun s A B row hs hg hr => blk_own hs hg hr) (ownFrom_below (Nat.le_refl _) (by omega)))
    (fun _ _ _ _ _ hs _ _ => hs)
    ⟨hx5, hB5⟩
    (fun x => { tmps := #[.pointer (some ⟨g, 0, none⟩), undef, .int .i64 0, .int .i64 0, .int .i64 0, .pointer (some ⟨w.heap.size, 0, none⟩), undef, .int .i64 (x.1.2 : Int), .pointer (some ⟨g, 0, none⟩), .bool false, .pointer (some ⟨g, 0, none⟩), .func (.func 43) #[] #[.pointer (some ⟨w.heap.size + 1, 0, none⟩)], .int .i64 (x.1.1 : Int), .int .i64 (x.1.2 : Int), undef, undef, undef, undef, undef, undef, undef, undef, undef, undef, undef], defers := [] }) ?assign ?body ?done ?stop
  case assign =>
    intro l x W K hK
    unfold encs
    gi_wp2
    exact hK
  case body =>
    rintro l pre ⟨⟨b, v⟩, hb1, hb2, hv⟩ W ⟨hX, hB⟩ hlen
    simp only at hb1 hb2 hv
    have hle := cnts_le (pre.map (·.1.2)) v
    rw [List.length_map] at hle
    have dX : W.cell? ⟨w.heap.size, v, none⟩ = some (.int .i64 (cnts (pre.map (·.1.2)) v : Nat)) := hX.at_ v (c3_at _ v hv)
    have fX := hX.frozen v
    have hX2 := (hX.set_ v (.int .i64 ((cnts (pre.map (·.1.2)) v : Nat) + 1 : Int))).sub (c3_snoc _ v hv)
    generalize cnts (pre.map (·.1.2)) v = c at dX hle hX2
    have HX2 := Lib.hid hX2
    clear hX hX2 hs5 hx5 hb5 hg5
    gi_wp2
    refine ⟨KeepsOthers.setCell _ _ _, ⟨by simp [World.setCell], Below.heap_setCell W ⟨w.heap.size, v, none⟩ _ g (by show g ≠ w.heap.size; omega), Below.heap_setCell W ⟨w.heap.size, v, none⟩ _ (w.heap.size + 1) (by show w.heap.size + 1 ≠ w.heap.size; omega)⟩, ?_, hB.set_ (c := w.heap.size) (i := v) (Nat.le_refl _) _⟩
    rw [List.map_append]
    exact HX2.out
  case done =>
    rintro D ys W hD rfl ⟨hX, hB⟩ hK
    have hys : (upto (itm L hok h0) L.length).map (·.1.2) = L := by
      unfold upto
      rw [List.map_map]
      apply List.ext_getElem
      · simp
      · intro i h1 h2
        simp only [List.getElem_map, List.getElem_range, Function.comp]
        rw [itm_val L hok h0 h2]
        simp [h2]
    rw [hys] at hX
    have d0 : W.cell? ⟨w.heap.size, 0, none⟩ = some (.int .i64 (cnts L 0 : Nat)) := hX.at_ 0 rfl
    have d1 : W.cell? ⟨w.heap.size, 1, none⟩ = some (.int .i64 (cnts L 1 : Nat)) := hX.at_ 1 rfl
    have d2 : W.cell? ⟨w.heap.size, 2, none⟩ = some (.int .i64 (cnts L 2 : Nat)) := hX.at_ 2 rfl
    clear hX hys hs5 hx5 hb5 hg5
    go_wp2
    refine wp_region_planT (fun w' => w' = World.drew W) [] [(true, 0), (true, 2), (true, 4), (true, 1), (true, 3), (true, 5), (true, 6), (true, 7), (true, 8)] (by kernel_rfl) (by kernel_rfl) rfl ?_
    refine wpPlan_takeL [0, 2, 4, 1, 3, 5, 6, 7, 8] [] _ (by rfl) (by rfl) (rfl) ?_
    dsimp only [List.filterMap, List.getElem?_cons_zero, List.getElem?_cons_succ]
    repeat (go_big_quiet_step (fail))
    refine wpQuiet_nil ?_
    refine wpPlan_tidy ?_
    have hK2 : W.drew.heap[D]? = some (.deferred (some [])) := hK
    go_wp2
    refine ⟨by simp, .inl ⟨_, _, rfl, run_takeDeferred hK2, ?_⟩⟩
    refine ⟨_, results_tmp3 rfl _ _ _, rfl, hB.drew.trans (belowK_b (w := w) (Nat.le_refl _) W.drew D _ _ (by omega) hK2 rfl rfl)⟩
  case stop =>
    rintro D c pre W _ _ h _
    exact h.elim
end Go.Proofs.YtkjcidbhepminaaDoor
