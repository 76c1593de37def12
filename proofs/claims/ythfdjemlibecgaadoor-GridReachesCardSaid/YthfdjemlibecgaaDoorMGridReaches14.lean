/- The program's set of blocks: its counts. Conditions: the set's block is known. -/
import Derived.Test.YthfdjemlibecgaaDoorMGridReaches13
import Derived.Lib.SliceRun
import Derived.Lib.ConvBytes
namespace Go.Proofs.YthfdjemlibecgaaDoor
open Go.RowKit Go.Shelf
attribute [local go_sem] Oper.semAt_some
def cnts (l : List Nat) (v : Nat) : Nat := (l.filter fun x => decide (x = v)).length
theorem cnts_snoc (l : List Nat) (x v : Nat) : cnts (l ++ [x]) v = cnts l v + if x = v then 1 else 0 := by
  unfold cnts
  rw [List.filter_append, List.length_append, List.filter_cons]
  by_cases h : x = v
  · simp [h]
  · simp [h]
theorem cnts_le (l : List Nat) (v : Nat) : cnts l v ≤ l.length := List.length_filter_le _ _
def c3 (l : List Nat) : Array Value := #[.int .i64 (cnts l 0 : Nat), .int .i64 (cnts l 1 : Nat), .int .i64 (cnts l 2 : Nat)]
theorem c3_at (l : List Nat) (v : Nat) (h : v ≤ 2) : (c3 l)[v]? = some (.int .i64 (cnts l v : Nat)) := by
  have : v = 0 ∨ v = 1 ∨ v = 2 := by omega
  rcases this with rfl | rfl | rfl <;> rfl
theorem c3_snoc (l : List Nat) (v : Nat) (h : v ≤ 2) : (c3 l).setIfInBounds v (.int .i64 ((cnts l v : Nat) + 1 : Int)) = c3 (l ++ [v]) := by
  have : v = 0 ∨ v = 1 ∨ v = 2 := by omega
  unfold c3
  rcases this with rfl | rfl | rfl <;> simp [cnts_snoc]
theorem counts_nil (w : World) : Calls Tryd.prog 113 #[.pointer none] w fun e w' => e = .returned (.tuple #[.int .i64 0, .int .i64 0, .int .i64 0]) ∧ w = w' := by
  go_enter Tryd.func113, Tryd.ntmps113
  go_wp2_with (go_at_call 138; refine (setNone_nil _).mono ?_; rintro e w' ⟨rfl, rfl⟩)
  go_ret3
  exact ⟨rfl, rfl⟩
theorem counts_empty (g : Nat) (w : World) (h : Blk w g 197 (setCells [])) : Calls Tryd.prog 113 #[.pointer (some ⟨g, 0, none⟩)] w fun e w' => e = .returned (.tuple #[.int .i64 0, .int .i64 0, .int .i64 0]) ∧ w = w' := by
  have hn := none_any [] g w h
  rw [decide_eq_true (by rfl)] at hn
  go_enter Tryd.func113, Tryd.ntmps113
  go_wp2_with (go_at_call 138; refine hn.mono ?_; rintro e w' ⟨rfl, rfl⟩)
  go_ret3
  exact ⟨rfl, rfl⟩
theorem bytes_nil (w : World) : Calls Tryd.prog 114 #[.pointer none] w fun e w' => e = .returned (.slice none 0 0) ∧ w = w' := by
  go_enter Tryd.func114, Tryd.ntmps114
  go_wp2_with (go_at_call 138; refine (setNone_nil _).mono ?_; rintro e w' ⟨rfl, rfl⟩)
  go_ret
  exact ⟨rfl, rfl⟩
theorem bytes_empty (g : Nat) (w : World) (h : Blk w g 197 (setCells [])) : Calls Tryd.prog 114 #[.pointer (some ⟨g, 0, none⟩)] w fun e w' => e = .returned (.slice none 0 0) ∧ w = w' := by
  have hn := none_any [] g w h
  rw [decide_eq_true (by rfl)] at hn
  go_enter Tryd.func114, Tryd.ntmps114
  go_wp2_with (go_at_call 138; refine hn.mono ?_; rintro e w' ⟨rfl, rfl⟩)
  go_ret
  exact ⟨rfl, rfl⟩
set_option maxRecDepth 100000 in
set_option maxHeartbeats 2000000 in
theorem counts_any (L : List Nat) (hok : SetOk L) (h0 : 0 < L.length) (g : Nat) (w : World) (h : Blk w g 197 (setCells L)) :
    Calls Tryd.prog 113 #[.pointer (some ⟨g, 0, none⟩)] w fun e w' => e = .returned (.tuple #[.int .i64 (cnts L 0 : Nat), .int .i64 (cnts L 1 : Nat), .int .i64 (cnts L 2 : Nat)]) ∧ Below w.heap.size w w' := by
  have hl := hok.len
  have hn := none_any L g w h
  rw [decide_eq_false (by omega)] at hn
  have hg := h.lt
  refine callsIn_wide (n := 3).1 ?_
  refine callsIn_of_wp_marks Tryd.func113 rfl trivial ?_ rfl
  simp only [Tryd.ntmps113, List.size_toArray, List.length_cons, List.length_nil, Nat.reduceAdd, Nat.reduceSub, Array.replicate_succ, Array.replicate_zero, List.push_toArray, List.append_toArray, List.nil_append, List.cons_append]
  refine wpIn_wide.2 ?_
  go_wp2_with (first
    | (go_at_call 138; refine hn.mono ?_; rintro e w' ⟨rfl, rfl⟩)
    | fail)
  refine (all_any g _).mono ?_
  rintro e w' ⟨rfl, rfl⟩
  go_wp2_with fail
  have hx5 : Blk ((w.alloc (.cells #[.int .i64 0, .int .i64 0, .int .i64 0] 203)).alloc (.cells #[.pointer (some ⟨g, 0, none⟩)] 92)) w.heap.size 203 (c3 []) := (Blk.new w _ _).alloc _
  have hb5 : Blk ((w.alloc (.cells #[.int .i64 0, .int .i64 0, .int .i64 0] 203)).alloc (.cells #[.pointer (some ⟨g, 0, none⟩)] 92)) (w.heap.size + 1) 92 #[.pointer (some ⟨g, 0, none⟩)] := Blk.new' _ _ _ (by simp)
  have hg5 := (h.alloc (.cells #[.int .i64 0, .int .i64 0, .int .i64 0] 203)).alloc (.cells #[.pointer (some ⟨g, 0, none⟩)] 92)
  have hB5 := ((Below.refl w.heap.size w).alloc (Nat.le_refl _) (.cells #[.int .i64 0, .int .i64 0, .int .i64 0] 203)).alloc (by simp) (.cells #[.pointer (some ⟨g, 0, none⟩)] 92)
  have hs5 : ((w.alloc (.cells #[.int .i64 0, .int .i64 0, .int .i64 0] 203)).alloc (.cells #[.pointer (some ⟨g, 0, none⟩)] 92)).heap.size = w.heap.size + 2 := by simp
  generalize (w.alloc _).alloc _ = w5 at hx5 hb5 hg5 hB5 hs5 ⊢
  clear h hn
  have hbl := hb5.lt
  refine wpIn_wide (n := 3).1 ?_
  refine wpIn_rangeFunc_ownF rfl (by omega) (gf := 156) (lb := #[.pointer (some ⟨w.heap.size + 1, 0, none⟩)]) rfl trivial (enters_of Tryd.func156 (by kernel_rfl) rfl)
    (all1_stops 2 (by omega) L hok h0 g (w.heap.size + 1) w5 hg5 hb5) (fun h k => h.trans k) (fun W l o o' hl hW ho _ => ⟨by simp, World.putObj_heap_other (by omega), World.putObj_heap_other (by omega)⟩) (Below.refl _ _) (fun _ => rfl)
    (fun pre W => (Blk W w.heap.size 203 (c3 (pre.map (·.1.2)))) ∧ Below w.heap.size w W)
    (fun _ _ _ => False)
    (OwnFrom.and (fun s A B row hs hg hr => blk_own hs hg hr) (ownFrom_below (Nat.le_refl _) (by omega)))
    (fun _ _ _ _ _ hs _ _ => hs)
    ⟨hx5, hB5⟩
    (fun x => { tmps := #[.pointer (some ⟨g, 0, none⟩), undef, .int .i64 0, .int .i64 0, .int .i64 0, .pointer (some ⟨w.heap.size, 0, none⟩), undef, .int .i64 (x.1.2 : Int), .pointer (some ⟨g, 0, none⟩), .bool false, .pointer (some ⟨g, 0, none⟩), .func (.func 156) #[] #[.pointer (some ⟨w.heap.size + 1, 0, none⟩)], .int .i64 (x.1.1 : Int), .int .i64 (x.1.2 : Int), undef, undef, undef, undef, undef, undef, undef, undef, undef, undef, undef], defers := [] }) ?assign ?body ?done ?stop
  case assign =>
    intro l x W K hK
    unfold encs
    gi_wp2
    exact hK
  case body =>
    rintro l pre ⟨⟨b, v⟩, hb1, hb2, hv⟩ W ⟨hX, hB⟩ hlen
    simp only at hb1 hb2 hv
    have hle := cnts_le (pre.map (·.1.2)) v
    rw [List.length_map] at hle
    have dX : W.cell? ⟨w.heap.size, v, none⟩ = some (.int .i64 (cnts (pre.map (·.1.2)) v : Nat)) := hX.at_ v (c3_at _ v hv)
    have fX := hX.frozen v
    have hX2 := (hX.set_ v (.int .i64 ((cnts (pre.map (·.1.2)) v : Nat) + 1 : Int))).sub (c3_snoc _ v hv)
    generalize cnts (pre.map (·.1.2)) v = c at dX hle hX2
    have HX2 := Lib.hid hX2
    clear hX hX2 hs5 hx5 hb5 hg5
    gi_wp2
    refine ⟨KeepsOthers.setCell _ _ _, ⟨by simp [World.setCell], Below.heap_setCell W ⟨w.heap.size, v, none⟩ _ g (by show g ≠ w.heap.size; omega), Below.heap_setCell W ⟨w.heap.size, v, none⟩ _ (w.heap.size + 1) (by show w.heap.size + 1 ≠ w.heap.size; omega)⟩, ?_, hB.set_ (c := w.heap.size) (i := v) (Nat.le_refl _) _⟩
    rw [List.map_append]
    exact HX2.out
  case done =>
    rintro D ys W hD rfl ⟨hX, hB⟩ hK
    have hys : (upto (itm L hok h0) L.length).map (·.1.2) = L := by
      unfold upto
      rw [List.map_map]
      apply List.ext_getElem
      · simp
      · intro i h1 h2
        simp only [List.getElem_map, List.getElem_range, Function.comp]
        rw [itm_val L hok h0 h2]
        simp [h2]
    rw [hys] at hX
    have d0 : W.cell? ⟨w.heap.size, 0, none⟩ = some (.int .i64 (cnts L 0 : Nat)) := hX.at_ 0 rfl
    have d1 : W.cell? ⟨w.heap.size, 1, none⟩ = some (.int .i64 (cnts L 1 : Nat)) := hX.at_ 1 rfl
    have d2 : W.cell? ⟨w.heap.size, 2, none⟩ = some (.int .i64 (cnts L 2 : Nat)) := hX.at_ 2 rfl
    clear hX hys hs5 hx5 hb5 hg5
    go_wp2
    refine wp_region_planT (fun w' => w' = World.drew W) [] [(true, 0), (true, 2), (true, 4), (true, 1), (true, 3), (true, 5), (true, 6), (true, 7), (true, 8)] (by kernel_rfl) (by kernel_rfl) rfl ?_
    refine wpPlan_takeL [0, 2, 4, 1, 3, 5, 6, 7, 8] [] _ (by rfl) (by rfl) (rfl) ?_
    dsimp only [List.filterMap, List.getElem?_cons_zero, List.getElem?_cons_succ]
    repeat (go_big_quiet_step (fail))
    refine wpQuiet_nil ?_
    refine wpPlan_tidy ?_
    have hK2 : W.drew.heap[D]? = some (.deferred (some [])) := hK
    go_wp2
    refine ⟨by simp, .inl ⟨_, _, rfl, run_takeDeferred hK2, ?_⟩⟩
    refine ⟨_, results_tmp3 rfl _ _ _, rfl, hB.drew.trans (belowK_b (w := w) (Nat.le_refl _) W.drew D _ _ (by omega) hK2 rfl rfl)⟩
  case stop =>
    rintro D c pre W _ _ h _
    exact h.elim
end Go.Proofs.YthfdjemlibecgaaDoor

/- What a grid that is nil, or that nobody made, answers. No condition. -/
namespace Go.Proofs.YthfdjemlibecgaaDoor
open Go.RowKit
section
variable (G : Option Addr) (w : World) (h : NoGrid G w)
include h
set_option maxRecDepth 100000 in
theorem gflush_no : Calls Tryd.prog 57 #[.pointer G] w fun e w' => e = .returned (.int .i64 1) ∧ w' = w := by
  go_enter Tryd.func57, Tryd.ntmps57
  go_wp2_with fail
  refine (gnone_no G w h).mono ?_
  rintro e w1 ⟨rfl, hw⟩
  obtain rfl := hw.symm
  clear h hw
  go_wp2
  go_ret
  exact ⟨rfl, rfl⟩
set_option maxRecDepth 100000 in
theorem greset_no (v : Value) : Calls Tryd.prog 58 #[.pointer G, v] w fun e w' => e = .returned (.int .i64 1) ∧ w' = w := by
  go_enter Tryd.func58, Tryd.ntmps58
  go_wp2_with fail
  refine (gnone_no G w h).mono ?_
  rintro e w1 ⟨rfl, hw⟩
  obtain rfl := hw.symm
  clear h hw
  go_wp2
  go_ret
  exact ⟨rfl, rfl⟩
set_option maxRecDepth 100000 in
theorem gsettle_no : Calls Tryd.prog 33 #[.pointer G] w fun e w' => e = .returned (.int .i64 0) ∧ w' = w := by
  go_enter Tryd.func33, Tryd.ntmps33
  go_wp2_with fail
  refine (gnone_no G w h).mono ?_
  rintro e w1 ⟨rfl, hw⟩
  obtain rfl := hw.symm
  clear h hw
  go_wp2
  go_ret
  exact ⟨rfl, rfl⟩
set_option maxRecDepth 100000 in
theorem gfree_no : Calls Tryd.prog 60 #[.pointer G] w fun e w' => e = .returned (.slice none 0 0) ∧ w' = w := by
  go_enter Tryd.func60, Tryd.ntmps60
  go_wp2_with fail
  refine (gnone_no G w h).mono ?_
  rintro e w1 ⟨rfl, hw⟩
  obtain rfl := hw.symm
  clear h hw
  go_wp2
  go_ret
  exact ⟨rfl, rfl⟩
set_option maxRecDepth 100000 in
theorem gwanted_no : Calls Tryd.prog 30 #[.pointer G] w fun e w' => e = .returned (.slice none 0 0) ∧ w' = w := by
  go_enter Tryd.func30, Tryd.ntmps30
  go_wp2_with fail
  refine (gnone_no G w h).mono ?_
  rintro e w1 ⟨rfl, hw⟩
  obtain rfl := hw.symm
  clear h hw
  go_wp2
  go_ret
  exact ⟨rfl, rfl⟩
set_option maxRecDepth 100000 in
theorem gcounts_no : Calls Tryd.prog 59 #[.pointer G] w fun e w' => e = .returned (.tuple #[.int .i64 0, .int .i64 0, .int .i64 0]) ∧ w' = w := by
  go_enter Tryd.func59, Tryd.ntmps59
  go_wp2_with fail
  refine (gnone_no G w h).mono ?_
  rintro e w1 ⟨rfl, hw⟩
  obtain rfl := hw.symm
  clear h hw
  go_wp2
  go_ret3
  exact ⟨rfl, rfl⟩
set_option maxRecDepth 100000 in
theorem grelease_no (r : RefT) : Calls Tryd.prog 31 #[.pointer G, .agg #[.int .i64 r.1, .int .i64 r.2.1]] w fun e w' => e = .returned (.int .i64 1) ∧ Below w.heap.size w w' := by
  have hB := (Below.refl w.heap.size w).alloc (Nat.le_refl _) (.cells #[.int .i64 r.1, .int .i64 r.2.1] 23)
  have h1 := h.below hB
  have HB := Lib.hid hB
  clear h hB
  go_enter Tryd.func31, Tryd.ntmps31
  go_wp2_with fail
  refine (gnone_no G _ h1).mono ?_
  rintro e w1 ⟨rfl, hw⟩
  obtain rfl := hw.symm
  clear h1 hw
  go_wp2
  go_ret
  exact ⟨rfl, HB.out⟩
set_option maxRecDepth 100000 in
theorem ginstall_no (r : RefT) (v : Value) : Calls Tryd.prog 28 #[.pointer G, .agg #[.int .i64 r.1, .int .i64 r.2.1], v] w fun e w' => e = .returned (.int .i64 1) ∧ Below w.heap.size w w' := by
  have hB := (Below.refl w.heap.size w).alloc (Nat.le_refl _) (.cells #[.int .i64 r.1, .int .i64 r.2.1] 23)
  have h1 := h.below hB
  have HB := Lib.hid hB
  clear h hB
  go_enter Tryd.func28, Tryd.ntmps28
  go_wp2_with fail
  refine (gready_no G _ h1).mono ?_
  rintro e w1 ⟨rfl, hw⟩
  obtain rfl := hw.symm
  clear h1 hw
  go_wp2
  go_ret
  exact ⟨rfl, HB.out⟩
set_option maxRecDepth 100000 in
theorem gwrite_no (k s : Int) (A B : Option Addr) (n c m e1 : Nat) : Calls Tryd.prog 36 #[.pointer G, .int .i64 k, .slice A n c, .slice B m e1, .int .i64 s] w fun e w' => e = .returned (.tuple #[.agg #[.int .i64 0, .int .i64 0], .int .i64 1]) ∧ Below w.heap.size w w' := by
  have hzr := zeroRefrun
  have hB := (Below.refl w.heap.size w).alloc (Nat.le_refl _) (.cells #[.int .i64 0, .int .i64 0] 23)
  have hbz := Blk.new w 23 #[.int .i64 0, .int .i64 0]
  have h1 := h.below hB
  have HB := Lib.hid hB
  clear h hB
  go_enter Tryd.func36, Tryd.ntmps36
  go_wp2_with fail
  refine (gready_no G _ h1).mono ?_
  rintro e w2 ⟨rfl, hw⟩
  obtain rfl := hw.symm
  clear h1 hw
  go_wp2_with (first
    | ((with_reducible show wpList _ _ _ ((⟨none, _, _, _, _, _⟩ : Oper) :: _) _ _); refine wpList_store_blk (o := ⟨none, _, _, _, _, _⟩) (hbz) (by rfl) _ _ _ (by rfl) (by rfl) (#[.int .i64 0, .int .i64 0]) (by rfl) (size_ref) (by rfl) (by rfl) (by simp [Value.oneCell']) ?_; intro w6 h6 hu6)
    | fail)
  refine bodyPost_ret (results_row_tmp (by rfl) _ _ w.heap.size _ _ _ (by rfl) h6 Tryd.underlying23 (by rfl) size_ref) rfl ?_
  exact ⟨rfl, HB.out.upd hu6 (Nat.le_refl _)⟩
set_option maxRecDepth 100000 in
theorem glook_no (r : RefT) : Calls Tryd.prog 80 #[.pointer G, .agg #[.int .i64 r.1, .int .i64 r.2.1]] w fun e w' => e = .returned (.tuple #[.agg #[.int .i64 0, .int .i64 0, .int .i64 0, .slice none 0 0, .slice none 0 0], .slice none 0 0, .int .i64 1]) ∧ Below w.heap.size w w' := by
  have hz := zeroGBrun
  have hB := ((Below.refl w.heap.size w).alloc (Nat.le_refl _) (.cells #[.int .i64 r.1, .int .i64 r.2.1] 23)).alloc (by simp) (.cells #[.int .i64 0, .int .i64 0, .int .i64 0, .slice none 0 0, .slice none 0 0] 46)
  have hbz := Blk.new' (w.alloc (.cells #[.int .i64 r.1, .int .i64 r.2.1] 23)) 46 #[.int .i64 0, .int .i64 0, .int .i64 0, .slice none 0 0, .slice none 0 0] (n := w.heap.size + 1) (by simp)
  have h1 := h.below hB
  have HB := Lib.hid hB
  clear h hB
  go_enter Tryd.func80, Tryd.ntmps80
  go_wp2_with fail
  refine (gready_no G _ h1).mono ?_
  rintro e w2 ⟨rfl, hw⟩
  obtain rfl := hw.symm
  clear h1 hw
  go_wp2_with (first
    | ((with_reducible show wpList _ _ _ ((⟨none, _, _, _, _, _⟩ : Oper) :: _) _ _); refine wpList_store_blk (o := ⟨none, _, _, _, _, _⟩) (hbz) (by rfl) _ _ _ (by rfl) (by rfl) (zeroGB) (by rfl) (sizeGB) (by rfl) (by rfl) (by exact zeroGB_one) ?_; intro w6 h6 hu6)
    | fail)
  refine bodyPost_ret (results_row_tmps (by rfl) _ _ (w.heap.size + 1) _ _ _ (by rfl) h6 Tryd.underlying46 (by rfl) sizeGB) rfl ?_
  exact ⟨rfl, HB.out.upd hu6 (Nat.le_succ _)⟩
set_option maxRecDepth 100000 in
theorem gread_no (r : RefT) : Calls Tryd.prog 23 #[.pointer G, .agg #[.int .i64 r.1, .int .i64 r.2.1]] w fun e w' => e = .returned (.tuple #[.agg #[.int .i64 0, .int .i64 0, .int .i64 0, .slice none 0 0, .slice none 0 0], .int .i64 1]) ∧ Below w.heap.size w w' := by
  have hz := zeroGBrun
  have hB := ((Below.refl w.heap.size w).alloc (Nat.le_refl _) (.cells #[.int .i64 r.1, .int .i64 r.2.1] 23)).alloc (by simp) (.cells #[.int .i64 0, .int .i64 0, .int .i64 0, .slice none 0 0, .slice none 0 0] 46)
  have hbr := (Blk.new w 23 #[.int .i64 r.1, .int .i64 r.2.1]).alloc (.cells #[.int .i64 0, .int .i64 0, .int .i64 0, .slice none 0 0, .slice none 0 0] 46)
  have hbz := Blk.new' (w.alloc (.cells #[.int .i64 r.1, .int .i64 r.2.1] 23)) 46 #[.int .i64 0, .int .i64 0, .int .i64 0, .slice none 0 0, .slice none 0 0] (n := w.heap.size + 1) (by simp)
  have h1 := h.below hB
  have HB := Lib.hid hB
  have HZ := Lib.hid hbz
  clear h hB
  go_enter Tryd.func23, Tryd.ntmps23
  go_wp2_with (first
    | ((with_reducible show wpList _ _ _ ((⟨some 11, _, _, _, _, _⟩ : Oper) :: _) _ _); refine wpList_load_blk (o := ⟨some 11, _, _, _, _, _⟩) (hbr) (by rfl) _ _ (by rfl) (by rfl) _ Tryd.underlying23 (by rfl) (size_ref) (by rfl) ?_)
    | fail)
  clear hbr hbz
  refine (glook_no G _ h1 r).mono ?_
  rintro e w2 ⟨rfl, hbx⟩
  have hbz := HZ.out.below hbx HZ.out.lt
  have HB2 := Lib.hid (HB.out.trans (hbx.mono HB.out.size))
  clear hbx h1 HB HZ
  go_wp2_with (first
    | ((with_reducible show wpList _ _ _ ((⟨none, _, _, _, _, _⟩ : Oper) :: _) _ _); refine wpList_store_blk (o := ⟨none, _, _, _, _, _⟩) ((Blk.new w2 46 #[.int .i64 0, .int .i64 0, .int .i64 0, .slice none 0 0, .slice none 0 0])) (by rfl) _ _ _ (by rfl) (by rfl) (#[.int .i64 0, .int .i64 0, .int .i64 0, .slice none 0 0, .slice none 0 0]) (by rfl) (sizeGB) (by rfl) (by rfl) (by exact zeroGB_one) ?_; intro w4 h4 hu4; have hbx := ((Below.refl w2.heap.size w2).alloc (Nat.le_refl _) (.cells #[.int .i64 0, .int .i64 0, .int .i64 0, .slice none 0 0, .slice none 0 0] 46)).upd hu4 (Nat.le_refl _); have hk3 := hbz.below hbx hbz.lt; have HB4 := Lib.hid (HB2.out.trans (hbx.mono HB2.out.size)); clear hu4 hbx)
    | ((with_reducible show wpList _ _ _ ((⟨some 16, _, _, _, _, _⟩ : Oper) :: _) _ _); refine wpList_load_blk (o := ⟨some 16, _, _, _, _, _⟩) (h4) (by rfl) _ _ (by rfl) (by rfl) _ Tryd.underlying46 (by rfl) (sizeGB) (by rfl) ?_)
    | ((with_reducible show wpList _ _ _ ((⟨none, _, _, _, _, _⟩ : Oper) :: _) _ _); refine wpList_store_blk (o := ⟨none, _, _, _, _, _⟩) (hk3) (by rfl) _ _ _ (by rfl) (by rfl) (#[.int .i64 0, .int .i64 0, .int .i64 0, .slice none 0 0, .slice none 0 0]) (by rfl) (sizeGB) (by rfl) (by rfl) (by exact zeroGB_one) ?_; intro w6 h6 hu6)
    | fail)
  refine bodyPost_ret (results_row_tmp (by rfl) _ _ (w.heap.size + 1) _ _ _ (by rfl) h6 Tryd.underlying46 (by rfl) sizeGB) rfl ?_
  exact ⟨rfl, HB4.out.upd hu6 (Nat.le_succ _)⟩
set_option maxRecDepth 100000 in
theorem graw_no (r : RefT) : Calls Tryd.prog 25 #[.pointer G, .agg #[.int .i64 r.1, .int .i64 r.2.1]] w fun e w' => e = .returned (.tuple #[.slice none 0 0, .int .i64 1]) ∧ Below w.heap.size w w' := by
  have hz := zeroGBrun
  have hB := (Below.refl w.heap.size w).alloc (Nat.le_refl _) (.cells #[.int .i64 r.1, .int .i64 r.2.1] 23)
  have hbr := Blk.new w 23 #[.int .i64 r.1, .int .i64 r.2.1]
  have h1 := h.below hB
  have HB := Lib.hid hB
  clear h hB
  go_enter Tryd.func25, Tryd.ntmps25
  go_wp2_with (first
    | ((with_reducible show wpList _ _ _ ((⟨some 11, _, _, _, _, _⟩ : Oper) :: _) _ _); refine wpList_load_blk (o := ⟨some 11, _, _, _, _, _⟩) (hbr) (by rfl) _ _ (by rfl) (by rfl) _ Tryd.underlying23 (by rfl) (size_ref) (by rfl) ?_)
    | fail)
  clear hbr
  refine (glook_no G _ h1 r).mono ?_
  rintro e w2 ⟨rfl, hbx⟩
  have HB2 := Lib.hid (HB.out.trans (hbx.mono HB.out.size))
  clear hbx h1 HB
  go_wp2_with (first
    | ((with_reducible show wpList _ _ _ ((⟨none, _, _, _, _, _⟩ : Oper) :: _) _ _); refine wpList_store_blk (o := ⟨none, _, _, _, _, _⟩) ((Blk.new w2 46 #[.int .i64 0, .int .i64 0, .int .i64 0, .slice none 0 0, .slice none 0 0])) (by rfl) _ _ _ (by rfl) (by rfl) (#[.int .i64 0, .int .i64 0, .int .i64 0, .slice none 0 0, .slice none 0 0]) (by rfl) (sizeGB) (by rfl) (by rfl) (by exact zeroGB_one) ?_; intro w4 h4 hu4; have hbx := ((Below.refl w2.heap.size w2).alloc (Nat.le_refl _) (.cells #[.int .i64 0, .int .i64 0, .int .i64 0, .slice none 0 0, .slice none 0 0] 46)).upd hu4 (Nat.le_refl _); have HB4 := Lib.hid (HB2.out.trans (hbx.mono HB2.out.size)); clear hu4 hbx)
    | fail)
  go_ret2
  exact ⟨rfl, HB4.out⟩
set_option maxRecDepth 100000 in
theorem greach_no (r : RefT) : Calls Tryd.prog 43 #[.pointer G, .agg #[.int .i64 r.1, .int .i64 r.2.1]] w fun e w' => e = .returned (.tuple #[.slice none 0 0, .int .i64 1]) ∧ Below w.heap.size w w' := by
  have hB := ((Below.refl w.heap.size w).alloc (Nat.le_refl _) (.cells #[.pointer G] 25)).alloc (by simp) (.cells #[.int .i64 r.1, .int .i64 r.2.1] 23)
  have hbg := (Blk.new w 25 #[.pointer G]).alloc (.cells #[.int .i64 r.1, .int .i64 r.2.1] 23)
  have d0 := hbg.at_ 0 (v := .pointer G) rfl
  have h1 := h.below hB
  have HB := Lib.hid hB
  clear h hB hbg
  go_enter Tryd.func43, Tryd.ntmps43
  go_wp2_with fail
  refine (gready_no G _ h1).mono ?_
  rintro e w2 ⟨rfl, hw⟩
  obtain rfl := hw.symm
  clear h1 hw
  go_wp2
  go_ret2
  exact ⟨rfl, HB.out⟩
end
end Go.Proofs.YthfdjemlibecgaaDoor

/- A grid is made. Conditions: the disk is known, or none. -/
namespace Go.Proofs.YthfdjemlibecgaaDoor
open Go.RowKit
theorem w64_in {n : Int} (h : -9223372036854775808 ≤ n ∧ n ≤ 9223372036854775807) : wrap64 n = n := by unfold wrap64; omega
theorem gnew_no (D : Option Addr) (n : Int) (w : World) (h : NoDisk D w) : Calls Tryd.prog 34 #[.pointer D, .int .i64 n] w fun e w' => e = .returned (.tuple #[.pointer none, .int .i64 1]) ∧ w' = w := by
  have hs := sectors_no D w h
  clear h
  go_enter Tryd.func34, Tryd.ntmps34
  go_wp2_with fail
  refine hs.mono ?_
  rintro e w1 ⟨rfl, hw⟩
  obtain rfl := hw.symm
  clear hs hw
  go_wp2
  go_ret2
  exact ⟨rfl, rfl⟩
theorem gopen_no (D : Option Addr) (n : Int) (v : Value) (w : World) (h : NoDisk D w) : Calls Tryd.prog 61 #[.pointer D, .int .i64 n, v] w fun e w' => e = .returned (.tuple #[.pointer none, .int .i64 1]) ∧ w' = w := by
  have hs := gnew_no D n w h
  clear h
  go_enter Tryd.func61, Tryd.ntmps61
  go_wp2_with fail
  refine hs.mono ?_
  rintro e w1 ⟨rfl, hw⟩
  obtain rfl := hw.symm
  clear hs hw
  go_wp2
  go_ret2
  exact ⟨rfl, rfl⟩
section
variable {w : World} {p : Pl} {gf : Option Nat} {d : Dsk} {f : Option Fus}
set_option maxRecDepth 100000 in
set_option maxHeartbeats 4000000 in
theorem gnew_any (h : DkOk w p gf d f) (ho : d.isOut f = false) (n : Nat) (h1 : 1 ≤ n) (h2 : n ≤ 512) (hr : 104 + 4 * n ≤ d.N) :
    Calls Tryd.prog 34 #[.pointer (some ⟨p.gd, 0, none⟩), .int .i64 (n : Int)] w fun e w' => ∃ q : GPl, q.p = p ∧ q.gf = gf ∧ e = .returned (.tuple #[.pointer (some ⟨q.gg, 0, none⟩), .int .i64 0]) ∧
      GridR w' q ⟨n, List.replicate n 0, []⟩ d f ∧ (w.heap.size ≤ q.gg ∧ w.heap.size ≤ q.gs ∧ w.heap.size ≤ q.gi ∧ q.gw = none) ∧ Below w.heap.size w w' := by
  have hs := sectors_all h.dr
  have hu := up_all h.dr h.fr
  rw [ho] at hu
  have hN1 := h.ok.n1
  have kz : ((d.N : Int) == 0) = false := beq_eq_false_iff_ne.2 (by omega)
  have kl : decide ((d.N : Int) < 104 + 4 * (n : Int)) = false := decide_eq_false (by omega)
  have H0 := Lib.hid (And.intro h (And.intro h1 (And.intro h2 (And.intro hr hN1))))
  have hsw := fun w' (hb : Below w.heap.size w w') => sectors_all (h.dr.near (X := []) (Near.below hb) ⟨by simp, by simp, by simp⟩)
  have hn := setNew_any n h1 h2 w
  clear h h1 h2 hr hN1
  go_enter Tryd.func34, Tryd.ntmps34
  go_wp2_with fail
  refine hs.mono ?_
  rintro e w1 ⟨rfl, hw⟩
  obtain rfl := hw.symm
  clear hs hw
  go_wp2_with fail
  refine hu.mono ?_
  rintro e w1 ⟨rfl, hw⟩
  obtain rfl := hw.symm
  clear hu hw
  go_wp2_with fail
  refine hn.mono ?_
  rintro e w2 ⟨rfl, hset, hbx⟩
  have hs2 := hsw w2 hbx
  have H2 := Lib.hid (And.intro hset hbx)
  clear hn hsw hset hbx
  go_wp2_with fail
  refine hs2.mono ?_
  rintro e w3 ⟨rfl, hw⟩
  obtain rfl := hw.symm
  clear hs2 hw kz
  have hw1 : wrap64 (4 * (n : Int)) = 4 * (n : Int) := w64_in (by have := H0.out.2.2.1; omega)
  have hw2 : wrap64 (104 + 4 * (n : Int)) = 104 + 4 * (n : Int) := w64_in (by have := H0.out.2.2.1; omega)
  go_wp2_with (first
    | ((with_reducible show wpList _ _ _ ((⟨some 34, _, _, _, _, _⟩ : Oper) :: _) _ _); refine wpList_make_map (o := ⟨some 34, _, _, _, _, _⟩) _ (by rfl) _ (by rfl) ?_; intro w4 hm4 hb4 hs4)
    | fail)
  have hgg := Blk.new' w4 95 #[.pointer (some ⟨p.gd, 0, none⟩), .int .i64 (n : Int), .pointer (some ⟨w.heap.size, 0, none⟩), .map (some w2.heap.size), .slice none 0 0] (n := w2.heap.size + 1) hs4.symm
  have hbx := (Below.refl w4.heap.size w4).alloc (Nat.le_refl _) (.cells #[.pointer (some ⟨p.gd, 0, none⟩), .int .i64 (n : Int), .pointer (some ⟨w.heap.size, 0, none⟩), .map (some w2.heap.size), .slice none 0 0] 95)
  have hB4 := H2.out.2.trans (hb4.mono H2.out.2.size)
  have hB5 := hB4.trans (hbx.mono hB4.size)
  have hst := (H2.out.1.below hb4 H2.out.1.lt).below hbx (Nat.lt_of_lt_of_le H2.out.1.lt hb4.size)
  have hm5 : MapK _ w2.heap.size (fun _ : RefT => True) encRef (wantM []) := (⟨#[], 0, hm4.below hbx hm4.lt, rfl, by simp, by simp, by simp⟩)
  go_ret2
  refine ⟨⟨w2.heap.size + 1, w.heap.size, w2.heap.size, none, p, gf⟩, rfl, rfl, rfl, ⟨H0.out.1.near (Near.below hB5), hst, hm5, ⟨.slice none 0 0, [], rfl, hgg, .inl ⟨rfl, rfl, rfl, rfl⟩⟩, ⟨H0.out.2.1, H0.out.2.2.1, by simp, setOk_new n H0.out.2.2.1, H0.out.2.2.2.1, List.nodup_nil⟩, fun e => ?_⟩, ⟨by have := H2.out.2.size; show w.heap.size ≤ w2.heap.size + 1; omega, Nat.le_refl _, H2.out.2.size, rfl⟩, hB5⟩
  have h1 := H0.out.1.lt p.gm (by simp [Pl.all])
  have h2 := H2.out.2.size
  have e : w2.heap.size = p.gm := e
  omega
set_option maxRecDepth 100000 in
/-- Where the disk is too small. -/
theorem gnew_small (h : DkOk w p gf d f) (ho : d.isOut f = false) (n : Nat) (h1 : 1 ≤ n) (h2 : n ≤ 512) (hr : d.N < 104 + 4 * n) :
    Calls Tryd.prog 34 #[.pointer (some ⟨p.gd, 0, none⟩), .int .i64 (n : Int)] w fun e w' => e = .returned (.tuple #[.pointer none, .int .i64 5]) ∧ Below w.heap.size w w' := by
  have hs := sectors_all h.dr
  have hu := up_all h.dr h.fr
  rw [ho] at hu
  have hN1 := h.ok.n1
  have kz : ((d.N : Int) == 0) = false := beq_eq_false_iff_ne.2 (by omega)
  have kl : decide ((d.N : Int) < 104 + 4 * (n : Int)) = true := decide_eq_true (by omega)
  have hsw := fun w' (hb : Below w.heap.size w w') => sectors_all (h.dr.near (X := []) (Near.below hb) ⟨by simp, by simp, by simp⟩)
  have hn := setNew_any n h1 h2 w
  have hw1 : wrap64 (4 * (n : Int)) = 4 * (n : Int) := w64_in (by omega)
  have hw2 : wrap64 (104 + 4 * (n : Int)) = 104 + 4 * (n : Int) := w64_in (by omega)
  clear h h1 h2 hr hN1
  go_enter Tryd.func34, Tryd.ntmps34
  go_wp2_with fail
  refine hs.mono ?_
  rintro e w1 ⟨rfl, hw⟩
  obtain rfl := hw.symm
  clear hs hw
  go_wp2_with fail
  refine hu.mono ?_
  rintro e w1 ⟨rfl, hw⟩
  obtain rfl := hw.symm
  clear hu hw
  go_wp2_with fail
  refine hn.mono ?_
  rintro e w2 ⟨rfl, hset, hbx⟩
  have hs2 := hsw w2 hbx
  have H2 := Lib.hid hbx
  clear hn hsw hset hbx
  go_wp2_with fail
  refine hs2.mono ?_
  rintro e w3 ⟨rfl, hw⟩
  obtain rfl := hw.symm
  clear hs2 hw kz
  go_wp2
  go_ret2
  exact ⟨rfl, H2.out⟩
end
end Go.Proofs.YthfdjemlibecgaaDoor

/- A list of refs is cloned; what a grid wants is told: its Wanted. Conditions: the list can be read; the grid is known. -/
namespace Go.Proofs.YthfdjemlibecgaaDoor
open Go.RowKit
def RefsTold (l : List RefT) (w : World) (e : Ending) (w' : World) : Prop := ∃ A c, e = .returned (.slice A l.length c) ∧ Refs w' A l ∧ (∀ ad, A = some ad → w.heap.size ≤ ad.block) ∧ Below w.heap.size w w'
set_option maxRecDepth 100000 in
set_option maxHeartbeats 2000000 in
theorem cloneRefs_any (A : Option Addr) (n c : Nat) (l : List RefT) (w : World) (hn : n = l.length) (hl : l.length ≤ 1099511627776) (hr : Refs w A l) :
    Calls Tryd.prog 89 #[.slice A n c] w (RefsTold l w) := by
  cases A with
  | none =>
    have hl0 : l = [] := by
      rcases Nat.eq_zero_or_pos l.length with h | h
      · exact List.eq_nil_of_length_eq_zero h
      · obtain ⟨b, off, e, -⟩ := hr h
        cases e
    subst hl0
    subst hn
    clear hr hl
    have he : ∀ w', (binOp .eql 29 (.slice none 0 c) (.slice none 0 0)).run Tryd.prog w' = .ok (.bool true) w' := fun w' => Lib.run_eql_slice_nil w' 29 23 none _ _ _ _ Tryd.underlying29
    go_enter Tryd.func89, Tryd.ntmps89
    go_wp2
    go_ret
    exact ⟨none, 0, rfl, (fun h => absurd h (by simp)), (fun _ e => by cases e), Below.refl _ _⟩
  | some ad =>
    subst hn
    have hB := (Below.refl w.heap.size w).alloc (Nat.le_refl _) (.cells #[] 23)
    have hr1 := (hr.below hB).reads
    have ho : OwnsC 23 2 (w.alloc (.cells #[] 23)) w.heap.size (.slice (some ⟨w.heap.size, 0, none⟩) 0 0) 0 [] [] := by
      have := OwnsC.lit (e := 23) (size := 2) (base := w.heap.size) w #[] 0 (by simp) (by simp) (by simp)
      simpa using this
    have hs1 : w.heap.size ≤ (w.alloc (.cells #[] 23)).heap.size := by simp
    have H0 := Lib.hid (And.intro hB (And.intro hr1 (And.intro ho hs1)))
    have HL := Lib.hid hl
    clear hB hr1 ho hs1 hr hl
    have he : ∀ w', (binOp .eql 29 (.slice (some ad) l.length c) (.slice none 0 0)).run Tryd.prog w' = .ok (.bool false) w' := fun w' => Lib.run_eql_slice_nil w' 29 23 (some ad) _ _ _ _ Tryd.underlying29
    go_enter Tryd.func89, Tryd.ntmps89
    go_wp2_with (first
      | ((with_reducible show wpList _ _ _ ((⟨some 7, _, _, _, _, _⟩ : Oper) :: _) _ _); generalize (w.alloc (.cells #[] 23)) = w1 at H0 ⊢; refine wpList_append_vals (o := ⟨some 7, _, _, _, _, _⟩) (by rfl) _ _ _ (by rfl) w.heap.size 23 (.agg #[.int .i64 0, .int .i64 0]) 2 16 Tryd.underlying29 infoRef (by rfl) (by omega) _ 0 [] [] (by rfl) H0.out.2.2.1 (some ad) l.length c (refCells l) (by rfl) (refCells_length l) H0.out.2.1 (refCells_one l) (by have := HL.out; unfold maxLen; omega) (by have := HL.out; omega) H0.out.2.2.2 ?_; intro v2 w2 sp2 ho2 hg2 hv2 hn2)
      | fail)
    go_ret
    rw [Nat.zero_add, List.nil_append] at ho2
    have hlt := OwnsC.lt ho2
    obtain ⟨A2, c2, rfl, -, -, hrd, -⟩ := OwnsC.reads ho2
    refine ⟨A2, c2, rfl, Refs.of hrd, (fun ad2 e => (hlt ad2.block (by rw [e]; rfl)).1), ?_⟩
    exact H0.out.1.grown hg2 H0.out.1.size (fun k hk => by simp [Value.ownBlock] at hk; omega)
section
variable {w : World} {q : GPl} {g : Grd} {d : Dsk} {f : Option Fus}
set_option maxRecDepth 100000 in
theorem gwanted_any (h : GridR w q g d f) (hl : g.W.length ≤ 1099511627776) : Calls Tryd.prog 30 #[.pointer (some ⟨q.gg, 0, none⟩)] w (RefsTold g.W w) := by
  obtain ⟨wv, sp, h1, h2, h3⟩ := h.wn
  obtain ⟨B, c, rfl, -, -, hrd, -⟩ := OwnsC.reads h3
  have d4 := h2.at_ 4 (v := .slice B g.W.length c) rfl
  have hn := gnone_any h
  have hc := cloneRefs_any B g.W.length c g.W w rfl hl (Refs.of hrd)
  clear h h1 h2 h3 hrd
  go_enter Tryd.func30, Tryd.ntmps30
  go_wp2_with fail
  refine hn.mono ?_
  rintro e w1 ⟨rfl, hw⟩
  obtain rfl := hw.symm
  clear hn hw
  go_wp2_with fail
  refine hc.mono ?_
  rintro e w2 ⟨A2, c2, rfl, h4⟩
  have H4 := Lib.hid h4
  clear h4 hc
  go_wp2
  go_ret
  exact ⟨A2, c2, rfl, H4.out⟩
end
end Go.Proofs.YthfdjemlibecgaaDoor

/- A block is written to a grid whose disk holds; a grid that a statement made. Plain facts of this program. No condition. -/
namespace Go.Proofs.YthfdjemlibecgaaDoor
open Go.RowKit
theorem gput_ok {g : Grd} {d : Dsk} {k s : Int} {l : List RefT} {m : List UInt8} (h : Rm d g.n) (hg : g.L.length = g.n) (hset : SetOk g.L) (hok : GB.ok (k, (1, s, ()), l, m, ()) = true) (he : acqE g.L = 0) :
    ∃ d', gput g d none k l m s = ((0, (acqN g.L, s, ())), { g with L := acqL g.L }, d', none) ∧ Rm d' g.n ∧ d'.N = d.N ∧ gblk d' (acqN g.L) = GB.bytes (k, (acqN g.L, s, ()), l, m, ()) ∧ ∀ c, 1 ≤ c → c ≤ (g.n : Int) → c ≠ acqN g.L → gblk d' c = gblk d c := by
  obtain ⟨h1, h2, h3⟩ := acq_range hset (show ¬ acqE g.L ≠ 0 by rw [he]; simp)
  have hok2 := GB.ok_at hok h1 h3
  obtain ⟨d', e1, e2, e3, e4, e5⟩ := gwrite h h1 (hg ▸ h2) (GB.bytes_length (k, (acqN g.L, s, ()), l, m, ()) (GB.ok_spec hok2).2.2.1 (GB.ok_spec hok2).2.2.2.1)
  refine ⟨d', ?_, e2, e3, e4, e5⟩
  unfold gput
  rw [if_neg (by unfold Dsk.isOut; rw [h.out]; simp), if_neg (by rw [hok]; simp), if_neg (by rw [he]; simp), e1, if_neg (by simp)]
/-- A grid that was made since, and its disk. -/
def GL (B : Nat) (w : World) (gp dp : Nat) (g : Grd) (d : Dsk) : Prop := ∃ q : GPl, q.gg = gp ∧ q.p.gd = dp ∧ q.gf = none ∧ GridR w q g d none ∧ ∀ x ∈ q.all, B ≤ x
section
variable {B gp dp : Nat} {w w' : World} {g : Grd} {d : Dsk}
theorem GL.below (h : GL B w gp dp g d) (k : Below w.heap.size w w') : GL B w' gp dp g d := by
  obtain ⟨q, h1, h2, h3, h4, h5⟩ := h
  exact ⟨q, h1, h2, h3, h4.below k, h5⟩
theorem GL.of_post {q : GPl} {g2 : Grd} {d2 : Dsk} {f : Option Fus} (e1 : q.gg = gp) (e2 : q.p.gd = dp) (e3 : q.gf = none) (e4 : ∀ x ∈ q.all, B ≤ x) (hs : B ≤ w.heap.size) (h : GPost w q g2 d2 f w') : GL B w' gp dp g2 d2 ∧ Below B w w' := by
  obtain ⟨q', k1, k2, k3, k4, k5, k6⟩ := h
  have hf : f = none := by
    have := k4.dk.fr
    rw [k3, e3] at this
    exact this.none_
  subst hf
  exact ⟨⟨q', k1.trans e1, (congrArg Pl.gd k2).trans e2, k3.trans e3, k4, fun x hx => (k6 x hx).elim (e4 x) (fun k => Nat.le_trans hs k)⟩, k5.toBelow e4 hs⟩
instance : KeepsTo w w' (GL B w gp dp g d) (GL B w' gp dp g d) := ⟨fun hb h => h.below hb⟩
end
end Go.Proofs.YthfdjemlibecgaaDoor

/- []byte(s) of a string that is no constant. Plain facts over any program. No condition. -/
namespace Go
open Go.RowKit
theorem bytesWorld_below (w : World) (e : TypeId) (s : ByteArray) : Below w.heap.size w (Lib.bytesWorld w e s) :=
  ⟨by simp [Lib.bytesWorld, World.freeze, World.alloc, World.drew, -World.alloc_eq, -World.drew_eq], by simp [Lib.bytesWorld, World.freeze, World.alloc, World.drew, -World.alloc_eq, -World.drew_eq], by simp [Lib.bytesWorld, World.freeze, World.alloc, World.drew, -World.alloc_eq, -World.drew_eq], by rw [Lib.bytesWorld_size]; omega, fun k hk => Lib.bytesWorld_at_old w e s k hk⟩
theorem bytesWorld_bytes (w : World) (e : TypeId) (l : List UInt8) : Bytes (Lib.bytesWorld w e (str l)) (some ⟨w.heap.size, 0, none⟩) l := fun _ => ⟨w.heap.size, 0, rfl, fun j v hv => by
  rw [List.getElem?_map] at hv
  have hj : j < l.length := by
    rcases Nat.lt_or_ge j l.length with h | h
    · exact h
    · rw [List.getElem?_eq_none h] at hv; cases hv
  rw [Nat.zero_add, Lib.bytesWorld_cell w e (str l) j (by simpa [str, ByteArray.size] using hj)]
  rw [List.getElem?_eq_getElem hj] at hv
  rw [← hv]
  simp [str, List.getD, List.getElem?_eq_getElem hj, u8v, iu8]⟩
theorem wpList_str_bytes {P : Program} {w : World} {Q : Exit → Act → World → Prop} {ops : Array Oper} {rest : List Oper} {o : Oper} {a : Act} (hgd : o.guard = none) (src dst e : TypeId) (x : Operand) (ho : o.op = .convert src dst x)
    (hs : P.underlying src = some .string) (hd : P.underlying dst = some (.slice e)) (he : P.underlying e = some (.int .u8)) (l : List UInt8) (hx : a.eval x = .string (str l))
    (h : ∀ w' c, Bytes w' (some ⟨w.heap.size, 0, none⟩) l → Below w.heap.size w w' → w'.heap.size = w.heap.size + 1 → wpList P ops Q rest (a.put o.dst (.slice (some ⟨w.heap.size, 0, none⟩) l.length c)) w') : wpList P ops Q (o :: rest) a w := by
  refine wpList_plain hgd fun K hK => ?_
  unfold Oper.wp execOp
  have hr := Lib.run_convert_string_bytes (P := P) w src dst e (str l) hs hd he
  simp only [ho, hx, Sem.run_bind, hr, Result.andThen_ok, Sem.run_pure]
  have hsz : (str l).size = l.length := by simp [str, ByteArray.size]
  rw [hsz]
  exact hK _ _ (h _ _ (bytesWorld_bytes w e l) (bytesWorld_below w e (str l)) (Lib.bytesWorld_size w e (str l)))
end Go

/- The law's small calls: a ref, a grid that is made, a block that is written. Conditions: as each says. -/
namespace Go.Proofs.YthfdjemlibecgaaDoor
open Go.RowKit
theorem lref_any (a s : Int) (w : World) : Calls Tryd.prog 24 #[.int .i64 a, .int .i64 s] w fun e w' => e = .returned (.agg #[.int .i64 a, .int .i64 s]) ∧ Below w.heap.size w w' := by
  have hzr := zeroRefrun
  have hB := Lib.hid ((Below.refl w.heap.size w).alloc (Nat.le_refl _) (.cells #[.int .i64 0, .int .i64 0] 23))
  have hbz := Blk.new w 23 #[.int .i64 0, .int .i64 0]
  go_enter Tryd.func24, Tryd.ntmps24
  go_wp2_with (first
    | ((with_reducible show wpList _ _ _ ((⟨none, _, _, _, _, _⟩ : Oper) :: _) _ _); refine wpList_store_blk (o := ⟨none, _, _, _, _, _⟩) (hbz) (by rfl) _ _ _ (by rfl) (by rfl) (#[.int .i64 a, .int .i64 s]) (by rfl) (size_ref) (by rfl) (by rfl) (by simp [Value.oneCell']) ?_; intro w6 h6 hu6)
    | fail)
  refine bodyPost_ret (results_cell_row (by rfl) _ _ w.heap.size _ _ _ _ (by rfl) h6 Tryd.underlying23 (by rfl) size_ref) rfl ?_
  exact ⟨rfl, hB.out.upd hu6 (Nat.le_refl _)⟩
set_option maxRecDepth 100000 in
set_option maxHeartbeats 2000000 in
theorem lmade_any (n : Nat) (h1 : 1 ≤ n) (h2 : n ≤ 512) (w : World) :
    Calls Tryd.prog 35 #[.int .i64 (n : Int)] w fun e w' => ∃ gp dp, e = .returned (.tuple #[.pointer (some ⟨dp, 0, none⟩), .pointer (some ⟨gp, 0, none⟩), .bool true]) ∧ GL w.heap.size w' gp dp ⟨n, List.replicate n 0, []⟩ (Dsk.new (104 + 4 * n)) ∧ Below w.heap.size w w' := by
  have hn := new_all (104 + 4 * n) (by omega) w
  have hw1 : wrap64 (4 * (n : Int)) = 4 * (n : Int) := w64_in (by omega)
  have hw2 : wrap64 (104 + 4 * (n : Int)) = 104 + 4 * (n : Int) := w64_in (by omega)
  rw [show ((104 + 4 * n : Nat) : Int) = 104 + 4 * (n : Int) by omega] at hn
  have H0 := Lib.hid (And.intro h1 h2)
  clear h1 h2
  go_enter Tryd.func35, Tryd.ntmps35
  go_wp2_with fail
  refine hn.mono ?_
  rintro e w2 ⟨p, rfl, hd, hge, hbx⟩
  have hdk : DkOk w2 p none (Dsk.new (104 + 4 * n)) none := ⟨hd, trivial, Dsk.Ok.new (by have := H0.out; omega)⟩
  have H2 := Lib.hid (And.intro hdk (And.intro hge hbx))
  clear hn hd hge hbx hdk hw1 hw2
  go_wp2_with fail
  refine (gnew_any H2.out.1 (by rfl) n H0.out.1 H0.out.2 (Nat.le_refl _)).mono ?_
  rintro e w3 ⟨q, hqp, hqf, rfl, hG, hge, hbx⟩
  have H3 := Lib.hid (And.intro hqp (And.intro hqf (And.intro hG (And.intro hge hbx))))
  clear hqp hqf hG hge hbx
  go_wp2
  go_ret3
  refine ⟨q.gg, p.gd, rfl, ⟨q, rfl, by rw [H3.out.1], H3.out.2.1, H3.out.2.2.1, fun x hx => ?_⟩, H2.out.2.2.trans (H3.out.2.2.2.2.mono H2.out.2.2.size)⟩
  have hs := H2.out.2.2.size
  have k := H3.out.2.2.2.1
  have k2 := H2.out.2.1
  rcases GPl.mem.1 hx with e | e | e | e | e
  · omega
  · omega
  · omega
  · rw [k.2.2.2] at e; cases e
  · rw [H3.out.1, H3.out.2.1] at e
    unfold Pl.all at e
    simp only [List.cons_append, List.nil_append, List.mem_cons, Option.toList_none, List.not_mem_nil, or_false] at e
    omega
end Go.Proofs.YthfdjemlibecgaaDoor

/- The law writes a block and asks what is answered. Conditions: the grid was made; the answer is the one asked for. -/
namespace Go.Proofs.YthfdjemlibecgaaDoor
open Go.RowKit
set_option maxRecDepth 100000 in
set_option maxHeartbeats 4000000 in
theorem lwrites_any {B gp dp : Nat} {w : World} {g : Grd} {d : Dsk} (h : GL B w gp dp g d) (hs : B ≤ w.heap.size) (hT : Tab w) (k s : Int) (A : Option Addr) (n c : Nat) (l : List RefT) (body : List UInt8) (r : RefT) (e0 : Int)
    (hn : n = l.length) (hl : l.length ≤ 1000) (hbl : body.length ≤ 5000) (hr : Refs w A l) (hres : (gput g d none k l body s).1 = (e0, r)) :
    Calls Tryd.prog 32 #[.pointer (some ⟨gp, 0, none⟩), .int .i64 k, .slice A n c, .string (str body), .int .i64 s, .agg #[.int .i64 r.1, .int .i64 r.2.1], .int .i64 e0] w fun e w' => e = .returned (.bool true) ∧
      GL B w' gp dp (gput g d none k l body s).2.1 (gput g d none k l body s).2.2.1 ∧ Below B w w' := by
  subst hn
  have hzr := zeroRefrun
  have hB := (Below.refl w.heap.size w).alloc (Nat.le_refl _) (.cells #[.int .i64 r.1, .int .i64 r.2.1] 23)
  have hbr := Blk.new w 23 #[.int .i64 r.1, .int .i64 r.2.1]
  obtain ⟨q, rfl, rfl, hf, hG, hq⟩ := h
  have H0 := Lib.hid (And.intro (hG.below hB) (And.intro (hr.below hB) (And.intro (hT.below hB) (And.intro hbr hB))))
  have HA := Lib.hid (And.intro hs (And.intro hl (And.intro hbl hres)))
  have HQ := Lib.hid (And.intro hf (And.intro hq hG.lt))
  clear hG hr hT hbr hB hs hl hbl hres hf hq
  go_enter Tryd.func32, Tryd.ntmps32
  go_wp2_with (first
    | ((with_reducible show wpList _ _ _ ((⟨some 22, _, _, _, _, _⟩ : Oper) :: _) _ _); generalize (w.alloc (.cells #[.int .i64 r.1, .int .i64 r.2.1] 23)) = w1 at H0 ⊢; refine wpList_str_bytes (o := ⟨some 22, _, _, _, _, _⟩) (by rfl) 9 44 5 _ (by rfl) Tryd.underlying9 Tryd.underlying44 Tryd.underlying5 body (by rfl) ?_; intro w2 c2 hb2 hbx hs2)
    | fail)
  have H2 := Lib.hid (And.intro (H0.out.1.below hbx) (And.intro (H0.out.2.1.below hbx) (And.intro (Tab.below H0.out.2.2.1 hbx) (And.intro (H0.out.2.2.2.1.below hbx H0.out.2.2.2.1.lt) (And.intro (H0.out.2.2.2.2.trans (hbx.mono H0.out.2.2.2.2.size)) hb2)))))
  clear hbx hb2 hs2
  refine (gwrite_any H2.out.1 k s A (some ⟨w1.heap.size, 0, none⟩) l.length c body.length c2 l body rfl rfl HA.out.2.1 HA.out.2.2.1 H2.out.2.1 H2.out.2.2.2.2.2 H2.out.2.2.1).mono ?_
  rintro e w3 ⟨rfl, hP⟩
  rw [HA.out.2.2.2]
  have hbr3 : Blk w3 w.heap.size 23 #[.int .i64 r.1, .int .i64 r.2.1] := by
    obtain ⟨q', -, -, -, -, k, -⟩ := hP
    exact H2.out.2.2.2.1.near k (fun hm => by have := HQ.out.2.2 _ hm; omega)
  have hGL := GL.of_post rfl rfl HQ.out.1 HQ.out.2.1 (Nat.le_trans HA.out.1 H2.out.2.2.2.2.1.size) hP
  have H3 := Lib.hid (And.intro hbr3 (And.intro hGL.1 (((H2.out.2.2.2.2.1).mono HA.out.1).trans hGL.2)))
  clear hP hbr3 hGL H2 H0
  go_wp2_with (first
    | ((with_reducible show wpList _ _ _ ((⟨none, _, _, _, _, _⟩ : Oper) :: _) _ _); refine wpList_store_blk (o := ⟨none, _, _, _, _, _⟩) ((Blk.new w3 23 #[.int .i64 0, .int .i64 0])) (by rfl) _ _ _ (by rfl) (by rfl) (#[.int .i64 r.1, .int .i64 r.2.1]) (by rfl) (size_ref) (by rfl) (by rfl) (by simp [Value.oneCell']) ?_; intro w4 h4 hu4; have hbx := ((Below.refl w3.heap.size w3).alloc (Nat.le_refl _) (.cells #[.int .i64 0, .int .i64 0] 23)).upd hu4 (Nat.le_refl _); have hbr4 := H3.out.1.below hbx H3.out.1.lt; have H4 := Lib.hid (And.intro (H3.out.2.1.below hbx) (H3.out.2.2.trans (hbx.mono (Nat.le_trans HA.out.1 (Nat.le_of_lt H3.out.1.lt))))); clear hbx hu4)
    | ((with_reducible show wpList _ _ _ ((⟨some 27, _, _, _, _, _⟩ : Oper) :: _) _ _); refine wpList_load_blk (o := ⟨some 27, _, _, _, _, _⟩) (h4) (by rfl) _ _ (by rfl) (by rfl) _ Tryd.underlying23 (by rfl) (size_ref) (by rfl) ?_)
    | ((with_reducible show wpList _ _ _ ((⟨some 28, _, _, _, _, _⟩ : Oper) :: _) _ _); refine wpList_load_blk (o := ⟨some 28, _, _, _, _, _⟩) (hbr4) (by rfl) _ _ (by rfl) (by rfl) _ Tryd.underlying23 (by rfl) (size_ref) (by rfl) ?_)
    | ((with_reducible show wpList _ _ _ ((⟨some 29, _, _, _, _, _⟩ : Oper) :: _) _ _); refine wpList_run (o := ⟨some 29, _, _, _, _, _⟩) (.bool true) (by rfl) (by rw [exec_eql_ref _ _ _ _ (by rfl) r.1 r.2.1 r.1 r.2.1 (by rfl) (by rfl)]; simp) ?_)
    | fail)
  go_ret
  exact ⟨rfl, H4.out⟩
end Go.Proofs.YthfdjemlibecgaaDoor

/- The chapter's grid behind its first two calls. Condition: the library's table is there. -/
namespace Go.Proofs.YthfdjemlibecgaaDoor
open Go.RowKit
def gb1 : GBT := (1, (1, 7, ()), [], [97], ())
def gb2 : GBT := (2, (2, 7, ()), [(1, 7, ())], [98], ())
def g40 : Grd := ⟨4, List.replicate 4 0, []⟩
def g42 : Grd := ⟨4, [1, 1, 0, 0], []⟩
structure Two (d : Dsk) : Prop where
  rm : Rm d 4
  one : gblk d 1 = GB.bytes gb1
  two : gblk d 2 = GB.bytes gb2
  n120 : d.N = 120
theorem two_run : ∃ d1 d2, gput g40 (Dsk.new 120) none 1 [] [97] 7 = ((0, (1, 7, ())), ⟨4, [1, 0, 0, 0], []⟩, d1, none) ∧ gput ⟨4, [1, 0, 0, 0], []⟩ d1 none 2 [(1, 7, ())] [98] 7 = ((0, (2, 7, ())), g42, d2, none) ∧ Two d2 := by
  have h0 : Rm (Dsk.new 120) 4 := ⟨Dsk.Ok.new (by omega), rfl, by show 104 + 4 * 4 ≤ 120; omega⟩
  have s0 : SetOk (List.replicate 4 0) := setOk_new 4 (by omega)
  have s1 : SetOk [1, 0, 0, 0] := s0.acq
  obtain ⟨d1, e1, r1, n1, b1, o1⟩ := gput_ok (g := g40) (k := 1) (s := 7) (l := []) (m := [97]) h0 rfl s0 (by decide) (by decide)
  obtain ⟨d2, e2, r2, n2, b2, o2⟩ := gput_ok (g := ⟨4, [1, 0, 0, 0], []⟩) (k := 2) (s := 7) (l := [(1, 7, ())]) (m := [98]) r1 rfl s1 (by decide) (by decide)
  exact ⟨d1, d2, e1, e2, r2, (o2 1 (by omega) (by show (1 : Int) ≤ 4; omega) (by decide)).trans b1, b2, n2.trans n1⟩
set_option maxRecDepth 100000 in
set_option maxHeartbeats 2000000 in
theorem ltwo_any (w : World) (hT : Tab w) : Calls Tryd.prog 21 #[] w fun e w' => ∃ gp dp d, e = .returned (.tuple #[.pointer (some ⟨dp, 0, none⟩), .pointer (some ⟨gp, 0, none⟩), .bool true]) ∧ GL w.heap.size w' gp dp g42 d ∧ Two d ∧ Below w.heap.size w w' := by
  obtain ⟨d1, d2, e1, e2, hTwo⟩ := two_run
  have H0 := Lib.hid (And.intro hT (And.intro e1 (And.intro e2 hTwo)))
  clear hT e1 e2 hTwo
  go_enter Tryd.func21, Tryd.ntmps21
  go_wp2_with fail
  refine (lmade_any 4 (by omega) (by omega) w).mono ?_
  rintro e w1 ⟨gp, dp, rfl, hG, hB⟩
  have H1 := Lib.hid (And.intro (show GL w.heap.size w1 gp dp g40 (Dsk.new 120) from hG) hB)
  clear hG hB
  go_wp2_with fail
  refine (lref_any 1 7 w1).mono ?_
  rintro e w2 ⟨rfl, hbx⟩
  have H2 := Lib.hid (And.intro (H1.out.1.below hbx) (H1.out.2.trans (hbx.mono H1.out.2.size)))
  clear hbx H1
  go_wp2_with fail
  refine (lwrites_any H2.out.1 H2.out.2.size (H0.out.1.below H2.out.2) 1 7 none 0 0 [] [97] (1, 7, ()) 0 rfl (by simp) (by simp) (fun h => absurd h (by simp)) (by rw [H0.out.2.1])).mono ?_
  rintro e w3 ⟨rfl, hG, hB⟩
  rw [H0.out.2.1] at hG
  have H3 := Lib.hid (And.intro hG (H2.out.2.trans hB))
  clear hG hB H2
  go_wp2_with fail
  refine (lref_any 1 7 w3).mono ?_
  rintro e w4 ⟨rfl, hbx⟩
  have hb5 := (Below.refl w4.heap.size w4).alloc (Nat.le_refl _) (.cells #[.int .i64 1, .int .i64 7] 23)
  have hr5 : Refs (w4.alloc (.cells #[.int .i64 1, .int .i64 7] 23)) (some ⟨w4.heap.size, 0, none⟩) [(1, 7, ())] := Refs.of (reads_new w4 23 [.int .i64 1, .int .i64 7])
  have H5 := Lib.hid (And.intro ((H3.out.1.below hbx).below hb5) (And.intro ((H3.out.2.trans (hbx.mono H3.out.2.size)).trans (hb5.mono (Nat.le_trans H3.out.2.size hbx.size))) hr5))
  clear hbx H3 hb5 hr5
  go_wp2_with fail
  generalize w4.alloc (.cells #[.int .i64 1, .int .i64 7] 23) = w5 at H5 ⊢
  refine (lref_any 2 7 w5).mono ?_
  rintro e w6 ⟨rfl, hbx⟩
  have H6 := Lib.hid (And.intro (H5.out.1.below hbx) (And.intro (H5.out.2.1.trans (hbx.mono H5.out.2.1.size)) (H5.out.2.2.below hbx)))
  clear hbx H5
  go_wp2_with fail
  refine (lwrites_any H6.out.1 H6.out.2.1.size (H0.out.1.below H6.out.2.1) 2 7 (some ⟨w4.heap.size, 0, none⟩) 1 1 [(1, 7, ())] [98] (2, 7, ()) 0 rfl (by simp) (by simp) H6.out.2.2 (by rw [H0.out.2.2.1])).mono ?_
  rintro e w7 ⟨rfl, hG, hB⟩
  rw [H0.out.2.2.1] at hG
  have H7 := Lib.hid (And.intro hG (H6.out.2.1.trans hB))
  clear hG hB H6
  go_wp2
  go_ret3
  exact ⟨gp, dp, d2, rfl, H7.out.1, H0.out.2.2.2, H7.out.2⟩
end Go.Proofs.YthfdjemlibecgaaDoor

/- []byte("..") of a constant, its row laid before. Plain facts over any program. No condition. -/
namespace Go
open Go.RowKit
theorem freeze_upd (w : World) (g k : Nat) : Upd g w (w.freeze ⟨g, k, none⟩ 1) := by
  unfold World.freeze
  rw [if_neg (by decide)]
  exact ⟨rfl, rfl, rfl, by simp, fun j hj => by simp [Array.getElem?_modify, Ne.symm hj]⟩
theorem freeze_cells {w : World} {g : Nat} {t : TypeId} {cs : Array Value} (h : Blk w g t cs) (k : Nat) : (w.freeze ⟨g, k, none⟩ 1).heap[g]? = some (.cells cs t (k, k + 1)) := by
  unfold World.freeze
  rw [if_neg (by decide)]
  unfold Blk at h
  simp [Array.getElem?_modify, h]
theorem wpList_bytes_mark {P : Program} {w : World} {Q : Exit → Act → World → Prop} {ops : Array Oper} {rest : List Oper} {o : Oper} {a : Act} (hgd : o.guard = none) (t e : TypeId) (x : Operand) (ho : o.op = .convert t t x)
    (ht : P.underlying t = some (.slice e)) (he : P.underlying e = some (.int .u8)) (l : List UInt8) (n g : Nat) (hb : Blk w g e (l.map u8v).toArray) (hx : a.eval x = .slice (some ⟨g, 0, none⟩) n n)
    (h : ∀ w', Bytes w' (some ⟨g, 0, none⟩) l → Upd g w w' → wpList P ops Q rest (a.put o.dst (.slice (some ⟨g, 0, none⟩) n n)) w') : wpList P ops Q (o :: rest) a w := by
  refine wpList_plain hgd fun K hK => ?_
  unfold Oper.wp execOp
  have hsh : w.shape? g = some (e, (l.map u8v).toArray.size) := by
    unfold World.shape?
    unfold Blk at hb
    rw [hb]
  have hr : (convert t t (.slice (some ⟨g, 0, none⟩) n n)).run P w = .ok (.slice (some ⟨g, 0, none⟩) n n) (w.freeze ⟨g, (l.map u8v).toArray.size, none⟩ 1) := by
    simp [convert, run_underlying ht, run_underlying he, markStringish, hsh]
  simp only [ho, hx, Sem.run_bind, hr, Result.andThen_ok, Sem.run_pure]
  refine hK _ _ (h _ (fun _ => ⟨g, 0, rfl, fun j v hv => ?_⟩) (freeze_upd w g _))
  rw [Nat.zero_add, cell_of_row _ _ _ _ _ _ (freeze_cells hb _)]
  simpa using hv
end Go

/- The chapter's examples as the statements name them: awake. Condition: the library's table is there. -/
namespace Go.Proofs.YthfdjemlibecgaaDoor
open Go.RowKit
def g43 : Grd := ⟨4, [1, 1, 0, 0], [(1, 8, ())]⟩
theorem look_one {d : Dsk} (h : Two d) {W : List RefT} : glook ⟨4, [1, 1, 0, 0], W⟩ d none (1, 7, ()) = (0, some gb1, ⟨4, [1, 1, 0, 0], W⟩) := by
  have ht : gthere d (1, 7, ()) = some gb1 := gthere_some (b := gb1) (by decide) h.one
  unfold glook
  rw [if_neg (by unfold Dsk.isOut; rw [h.rm.out]; simp), if_neg (by show ¬ (Grd.of ⟨4, [], []⟩ (1, 7, ()) = false); decide), ht]
theorem look_other {d : Dsk} (h : Two d) : glook g42 d none (1, 8, ()) = (13, none, g43) := by
  have ht : gthere d (1, 8, ()) = none := gthere_other (b := gb1) (by decide) h.one (by decide)
  unfold glook
  rw [if_neg (by unfold Dsk.isOut; rw [h.rm.out]; simp), if_neg (by decide), ht]
  rfl
set_option maxRecDepth 100000 in
set_option maxHeartbeats 4000000 in
theorem lawake_any (w : World) (hT : Tab w) : Calls Tryd.prog 22 #[] w fun e w' => e = .returned (.bool true) ∧ Below w.heap.size w w' := by
  have hz := zeroGBrun
  have H0 := Lib.hid hT
  clear hT
  go_enter Tryd.func22, Tryd.ntmps22
  go_wp2_with fail
  refine (ltwo_any w H0.out).mono ?_
  rintro e w1 ⟨gp, dp, d, rfl, ⟨q, rfl, rfl, hf, hG, hq⟩, hTwo, hB⟩
  have HTwo := Lib.hid hTwo
  have HQ := Lib.hid (And.intro hf (And.intro hq hG.lt))
  have H1 := Lib.hid (And.intro hG hB)
  clear hG hB hTwo hf hq
  go_wp2_with fail
  refine (lref_any 1 7 w1).mono ?_
  rintro e w2 ⟨rfl, hbx⟩
  have H2 := Lib.hid (And.intro (H1.out.1.below hbx) (And.intro (H1.out.2.trans (hbx.mono H1.out.2.size)) hbx.size))
  clear hbx H1
  go_wp2_with fail
  have hrd := gread_any H2.out.1 (by decide) (1, 7, ())
  rw [show glook g42 d none (1, 7, ()) = (0, some gb1, g42) from look_one HTwo.out] at hrd
  refine hrd.mono ?_
  rintro e w3 ⟨v1, rfl, ⟨v2, hTo⟩, hP⟩
  obtain ⟨A, c, BB, e1, C, rfl, -, hr3, hb3, -, -, -, -, hA, hBB⟩ := hTo
  have hbx := hP.2 rfl
  have H3 := Lib.hid (And.intro (H2.out.1.below hbx) (And.intro (H2.out.2.1.trans (hbx.mono H2.out.2.1.size)) (And.intro hr3 (And.intro hb3 (Nat.le_trans H2.out.2.2 hbx.size)))))
  have HAB := Lib.hid (And.intro (fun ad e => Nat.le_trans H2.out.2.2 (hA ad e)) (fun ad e => Nat.le_trans H2.out.2.2 (hBB ad e)))
  clear hrd hP hbx hr3 hb3 hA hBB H2
  go_wp2_with (first
    | ((with_reducible show wpList _ _ _ ((⟨none, _, _, _, _, _⟩ : Oper) :: _) _ _); refine wpList_store_blk (o := ⟨none, _, _, _, _, _⟩) ((Blk.new w3 46 #[.int .i64 0, .int .i64 0, .int .i64 0, .slice none 0 0, .slice none 0 0])) (by rfl) _ _ _ (by rfl) (by rfl) (gbc gb1 A c BB e1) (by rfl) (sizeGB) (by rfl) (by rfl) (gbc_one _ _ _ _ _) ?_; intro w4 h4 hu4; have hbx := ((Below.refl w3.heap.size w3).alloc (Nat.le_refl _) (.cells #[.int .i64 0, .int .i64 0, .int .i64 0, .slice none 0 0, .slice none 0 0] 46)).upd hu4 (Nat.le_refl _); have H4 := Lib.hid (And.intro h4 (And.intro (H3.out.1.below hbx) (And.intro (H3.out.2.1.trans (hbx.mono H3.out.2.1.size)) (And.intro (H3.out.2.2.1.below hbx) (Bytes.below H3.out.2.2.2.1 hbx))))); clear hu4 hbx h4)
    | fail)
  refine (lref_any 1 8 w4).mono ?_
  rintro e w5 ⟨rfl, hbx⟩
  have H5 := Lib.hid (And.intro (H4.out.1.below hbx H4.out.1.lt) (And.intro (H4.out.2.1.below hbx) (And.intro (H4.out.2.2.1.trans (hbx.mono H4.out.2.2.1.size)) (And.intro (H4.out.2.2.2.1.below hbx) (Bytes.below H4.out.2.2.2.2 hbx)))))
  clear hbx H4
  go_wp2_with fail
  have hrd := gread_any H5.out.2.1 (by decide) (1, 8, ())
  rw [show glook g42 d none (1, 8, ()) = (13, none, g43) from look_other HTwo.out] at hrd
  refine hrd.mono ?_
  rintro e w6 ⟨v1, rfl, ⟨v2, hTo⟩, hP⟩
  obtain ⟨A', c', BB', e1', C', rfl, -, -⟩ := hTo
  obtain ⟨q', hq1, -, -, hG6, hN6, -⟩ := hP.1
  have hoff : ∀ x, w1.heap.size ≤ x → x ∉ q.all := fun x hx hm => by have := HQ.out.2.2 x hm; omega
  have H6 := Lib.hid (And.intro (H5.out.1.near hN6 (hoff _ H3.out.2.2.2.2)) (And.intro hG6 (And.intro (H5.out.2.2.1.trans (hN6.toBelow HQ.out.2.1 H5.out.2.2.1.size)) (And.intro (Refs.near H5.out.2.2.2.1 hN6 (fun ad e => hoff _ (HAB.out.1 ad e))) (Near.bytes H5.out.2.2.2.2 hN6 (fun ad e => hoff _ (HAB.out.2 ad e)))))))
  clear hrd hP hG6 hN6 hoff H5 H3
  go_wp2_with (first
    | ((with_reducible show wpList _ _ _ ((⟨none, _, _, _, _, _⟩ : Oper) :: _) _ _); refine wpList_store_blk (o := ⟨none, _, _, _, _, _⟩) ((Blk.new w6 46 #[.int .i64 0, .int .i64 0, .int .i64 0, .slice none 0 0, .slice none 0 0])) (by rfl) _ _ _ (by rfl) (by rfl) (gbc ((none : Option GBT).getD GB.none_) A' c' BB' e1') (by rfl) (sizeGB) (by rfl) (by rfl) (gbc_one _ _ _ _ _) ?_; intro w7 h7 hu7; have hbx := ((Below.refl w6.heap.size w6).alloc (Nat.le_refl _) (.cells #[.int .i64 0, .int .i64 0, .int .i64 0, .slice none 0 0, .slice none 0 0] 46)).upd hu7 (Nat.le_refl _); have H7 := Lib.hid (And.intro (H6.out.1.below hbx H6.out.1.lt) (And.intro (H6.out.2.1.below hbx) (And.intro (H6.out.2.2.1.trans (hbx.mono H6.out.2.2.1.size)) (And.intro (H6.out.2.2.2.1.below hbx) (Bytes.below H6.out.2.2.2.2 hbx))))); clear hu7 hbx h7)
    | fail)
  clear H6
  have hC0 : Below w7.heap.size w7 w7.drew := (Below.refl _ _).drew
  refine wp_region_tree (Below w7.heap.size w7) [] (PlanT.takes [0, 1, 2] (PlanT.takes [3] (.opt 4 (.opt 5 (.opt 6 (PlanT.takes [7] (.opt 8 (PlanT.takes [9, 10, 11, 12, 13, 14, 15] (.opt 16 (.opt 17 (.opt 18 (.opt 19 (PlanT.takes [20, 21] .done) .no) .no) .no) .no)) .no)) .no) .no) (.opt 5 (.opt 4 (.opt 6 (PlanT.takes [7] (.opt 8 (PlanT.takes [9, 10, 11, 12, 13, 14, 15] (.opt 16 (.opt 17 (.opt 18 (.opt 19 (PlanT.takes [20, 21] .done) .no) .no) .no) .no)) .no)) .no) (.opt 6 (.opt 4 (PlanT.takes [7] (.opt 8 (PlanT.takes [9, 10, 11, 12, 13, 14, 15] (.opt 16 (.opt 17 (.opt 18 (.opt 19 (PlanT.takes [20, 21] .done) .no) .no) .no) .no)) .no)) .no) .no)) .no)))) (by kernel_rfl) (by kernel_rfl) (hC0) ?_
  refine wpTree_pure _ _ _ (by rfl) (by rfl) ?_
  dsimp only [List.filterMap, List.getElem?_cons_zero, List.getElem?_cons_succ]
  repeat (go_big_quiet_step (fail))
  refine wpQuiet_nil ?_
  refine wpTree_takeL _ _ _ (by rfl) (by rfl) (hC0) ?_
  dsimp only [List.filterMap, List.getElem?_cons_zero, List.getElem?_cons_succ]
  (refine wpQuiet_want' (by rfl) ?_; refine wpQuiet_load_blk (fun w' hw' => H7.out.1.below hw' H7.out.1.lt) (by rfl) _ _ (by rfl) (by rfl) _ Tryd.underlying46 (by rfl) (sizeGB) (by rfl) ?_; simp only [Act.put, List.setIfInBounds_toArray, List.set_cons_zero, List.set_cons_succ])
  refine wpQuiet_nil ?_
  refine wpTree_opt _ rfl ?_ (wpTree_opt _ rfl ?_ trivial)
  · go_wp2_with fail
    refine (lref_any 1 7 _).mono ?_
    rintro e x1 ⟨rfl, hbx⟩
    have hC_x1 : Below w7.heap.size w7 x1 := hC0.trans (hbx.mono hC0.size)
    clear hbx
    go_wp2_with fail
    refine TreeQ.in_ hC_x1 ?_
    refine wpTree_one _ rfl ?_
    go_wp2_with fail
    have hbk_x2 := Blk.new x1 5 #[.int .u8 97]
    have hC_x2 := hC_x1.alloc hC_x1.size (.cells #[.int .u8 97] 5)
    have hgC : w7.heap.size ≤ x1.heap.size := hC_x1.size
    generalize x1.alloc (.cells #[.int .u8 97] 5) = x2 at hbk_x2 hC_x2 ⊢
    generalize x1.heap.size = gC at hbk_x2 hgC ⊢
    refine TreeQ.in_ hC_x2 ?_
    refine wpTree_one _ rfl ?_
    go_wp2_with (first
      | ((with_reducible show wpList _ _ _ ((⟨some 33, _, _, _, _, _⟩ : Oper) :: _) _ _); refine wpList_want (by rfl) ?_; refine wpList_bytes_mark (o := ⟨some 33, _, _, _, _, _⟩) (by rfl) 44 5 _ (by rfl) Tryd.underlying44 Tryd.underlying5 [97] 1 gC hbk_x2 (by rfl) ?_; intro x3 hby_x3 hu6)
      | fail)
    have hC_x3 : Below w7.heap.size w7 x3 := hC_x2.upd hu6 hgC
    clear hu6
    refine TreeQ.in_ hC_x3 ?_
    refine wpTree_pure _ _ _ (by rfl) (by rfl) ?_
    dsimp only [List.filterMap, List.getElem?_cons_zero, List.getElem?_cons_succ]
    repeat (go_big_quiet_step (fail))
    refine wpQuiet_nil ?_
    refine wpTree_one _ rfl ?_
    go_wp2_with fail
    refine (sameBlock_any 1 1 1 1 7 7 [] [] [97] [97] A none BB (some ⟨gC, 0, none⟩) c 0 e1 1 x3 ⟨H7.out.2.2.2.1.below (hC_x3), Bytes.below H7.out.2.2.2.2 hC_x3, by simp, by simp⟩ ⟨fun h => absurd h (by simp), hby_x3, by simp, by simp⟩).mono ?_
    rintro e wa ⟨he, hbx⟩
    obtain rfl : e = .returned (.bool true) := by simpa using he
    have hC_wa := hC_x3.trans (hbx.mono hC_x3.size)
    clear hbx he
    go_wp2_with fail
    refine TreeQ.in_ hC_wa ?_
    refine wpTree_pure _ _ _ (by rfl) (by rfl) ?_
    dsimp only [List.filterMap, List.getElem?_cons_zero, List.getElem?_cons_succ]
    repeat (go_big_quiet_step (fail))
    refine wpQuiet_nil ?_
    refine wpTree_one _ rfl ?_
    go_wp2_with fail
    have hwt := gwanted_any (H7.out.2.1.below hC_wa) (by decide)
    rw [hq1] at hwt
    refine hwt.mono ?_
    rintro e wb ⟨A3, c3, rfl, hr3, -, hbx⟩
    have hC_wb := hC_wa.trans (hbx.mono hC_wa.size)
    clear hwt hbx
    go_wp2_with fail
    refine TreeQ.in_ hC_wb ?_
    refine wpTree_one _ rfl ?_
    go_wp2_with fail
    refine (lref_any 1 8 _).mono ?_
    rintro e wc ⟨rfl, hbx⟩
    have hC_wc := hC_wb.trans (hbx.mono hC_wb.size)
    have hr4 := hr3.below hbx
    clear hbx
    go_wp2_with fail
    refine TreeQ.in_ hC_wc ?_
    refine wpTree_one _ rfl ?_
    go_wp2_with fail
    have hb5 := (Below.refl wc.heap.size wc).alloc (Nat.le_refl _) (.cells #[.int .i64 1, .int .i64 8] 23)
    have hr5 : Refs (wc.alloc (.cells #[.int .i64 1, .int .i64 8] 23)) (some ⟨wc.heap.size, 0, none⟩) [(1, 8, ())] := Refs.of (reads_new wc 23 [.int .i64 1, .int .i64 8])
    have hC_wd := hC_wc.trans (hb5.mono hC_wc.size)
    have hr6 := hr4.below hb5
    clear hb5
    generalize wc.alloc (.cells #[.int .i64 1, .int .i64 8] 23) = wd at hr5 hC_wd hr6 ⊢
    refine TreeQ.in_ hC_wd ?_
    refine wpTree_one _ rfl ?_
    go_wp2_with fail
    refine (sameRefs_any A3 (some ⟨wc.heap.size, 0, none⟩) 1 1 c3 1 [(1, 8, ())] [(1, 8, ())] rfl rfl (by simp) wd hr6 hr5).mono ?_
    rintro e we ⟨he, hbx⟩
    obtain rfl : e = .returned (.bool true) := by simpa using he
    have hC_we := hC_wd.trans (hbx.mono hC_wd.size)
    have hB_we := H7.out.2.2.1.trans (hC_we.mono H7.out.2.2.1.size)
    clear hbx he
    go_wp2_with fail
    refine TreeQ.in_ hC_we ?_
    refine wpTree_pure _ _ _ (by rfl) (by rfl) ?_
    dsimp only [List.filterMap, List.getElem?_cons_zero, List.getElem?_cons_succ]
    repeat (go_big_quiet_step (fail))
    refine wpQuiet_nil ?_
    refine wpTree_done ?_
    go_wp2_with fail
    go_ret
    exact ⟨rfl, hB_we⟩
  · go_wp2_with fail
    have hbk_y1 : Blk (w7.alloc (.cells #[.int .u8 97] 5)).drew w7.heap.size 5 #[.int .u8 97] := Blk.new w7 5 #[.int .u8 97]
    have hC_y1 : Below w7.heap.size w7 (w7.alloc (.cells #[.int .u8 97] 5)).drew := ((Below.refl w7.heap.size w7).alloc (Nat.le_refl _) (.cells #[.int .u8 97] 5)).drew
    have hgC : w7.heap.size ≤ w7.heap.size := Nat.le_refl _
    generalize (w7.alloc (.cells #[.int .u8 97] 5)).drew = y1 at hbk_y1 hC_y1 ⊢
    refine TreeQ.in_ hC_y1 ?_
    refine wpTree_opt _ rfl ?_ (wpTree_opt _ rfl ?_ trivial)
    · go_wp2_with fail
      refine (lref_any 1 7 _).mono ?_
      rintro e y2 ⟨rfl, hbx⟩
      have hC_y2 : Below w7.heap.size w7 y2 := hC_y1.trans (hbx.mono hC_y1.size)
      have hbk_y2 := hbk_y1.below hbx hbk_y1.lt
      clear hbx
      go_wp2_with fail
      refine TreeQ.in_ hC_y2 ?_
      refine wpTree_one _ rfl ?_
      go_wp2_with (first
        | ((with_reducible show wpList _ _ _ ((⟨some 33, _, _, _, _, _⟩ : Oper) :: _) _ _); refine wpList_want (by rfl) ?_; refine wpList_bytes_mark (o := ⟨some 33, _, _, _, _, _⟩) (by rfl) 44 5 _ (by rfl) Tryd.underlying44 Tryd.underlying5 [97] 1 w7.heap.size hbk_y2 (by rfl) ?_; intro y3 hby_y3 hu6)
        | fail)
      have hC_y3 : Below w7.heap.size w7 y3 := hC_y2.upd hu6 hgC
      clear hu6
      refine TreeQ.in_ hC_y3 ?_
      refine wpTree_pure _ _ _ (by rfl) (by rfl) ?_
      dsimp only [List.filterMap, List.getElem?_cons_zero, List.getElem?_cons_succ]
      repeat (go_big_quiet_step (fail))
      refine wpQuiet_nil ?_
      refine wpTree_one _ rfl ?_
      go_wp2_with fail
      refine (sameBlock_any 1 1 1 1 7 7 [] [] [97] [97] A none BB (some ⟨w7.heap.size, 0, none⟩) c 0 e1 1 y3 ⟨H7.out.2.2.2.1.below (hC_y3), Bytes.below H7.out.2.2.2.2 hC_y3, by simp, by simp⟩ ⟨fun h => absurd h (by simp), hby_y3, by simp, by simp⟩).mono ?_
      rintro e wa ⟨he, hbx⟩
      obtain rfl : e = .returned (.bool true) := by simpa using he
      have hC_wa := hC_y3.trans (hbx.mono hC_y3.size)
      clear hbx he
      go_wp2_with fail
      refine TreeQ.in_ hC_wa ?_
      refine wpTree_pure _ _ _ (by rfl) (by rfl) ?_
      dsimp only [List.filterMap, List.getElem?_cons_zero, List.getElem?_cons_succ]
      repeat (go_big_quiet_step (fail))
      refine wpQuiet_nil ?_
      refine wpTree_one _ rfl ?_
      go_wp2_with fail
      have hwt := gwanted_any (H7.out.2.1.below hC_wa) (by decide)
      rw [hq1] at hwt
      refine hwt.mono ?_
      rintro e wb ⟨A3, c3, rfl, hr3, -, hbx⟩
      have hC_wb := hC_wa.trans (hbx.mono hC_wa.size)
      clear hwt hbx
      go_wp2_with fail
      refine TreeQ.in_ hC_wb ?_
      refine wpTree_one _ rfl ?_
      go_wp2_with fail
      refine (lref_any 1 8 _).mono ?_
      rintro e wc ⟨rfl, hbx⟩
      have hC_wc := hC_wb.trans (hbx.mono hC_wb.size)
      have hr4 := hr3.below hbx
      clear hbx
      go_wp2_with fail
      refine TreeQ.in_ hC_wc ?_
      refine wpTree_one _ rfl ?_
      go_wp2_with fail
      have hb5 := (Below.refl wc.heap.size wc).alloc (Nat.le_refl _) (.cells #[.int .i64 1, .int .i64 8] 23)
      have hr5 : Refs (wc.alloc (.cells #[.int .i64 1, .int .i64 8] 23)) (some ⟨wc.heap.size, 0, none⟩) [(1, 8, ())] := Refs.of (reads_new wc 23 [.int .i64 1, .int .i64 8])
      have hC_wd := hC_wc.trans (hb5.mono hC_wc.size)
      have hr6 := hr4.below hb5
      clear hb5
      generalize wc.alloc (.cells #[.int .i64 1, .int .i64 8] 23) = wd at hr5 hC_wd hr6 ⊢
      refine TreeQ.in_ hC_wd ?_
      refine wpTree_one _ rfl ?_
      go_wp2_with fail
      refine (sameRefs_any A3 (some ⟨wc.heap.size, 0, none⟩) 1 1 c3 1 [(1, 8, ())] [(1, 8, ())] rfl rfl (by simp) wd hr6 hr5).mono ?_
      rintro e we ⟨he, hbx⟩
      obtain rfl : e = .returned (.bool true) := by simpa using he
      have hC_we := hC_wd.trans (hbx.mono hC_wd.size)
      have hB_we := H7.out.2.2.1.trans (hC_we.mono H7.out.2.2.1.size)
      clear hbx he
      go_wp2_with fail
      refine TreeQ.in_ hC_we ?_
      refine wpTree_pure _ _ _ (by rfl) (by rfl) ?_
      dsimp only [List.filterMap, List.getElem?_cons_zero, List.getElem?_cons_succ]
      repeat (go_big_quiet_step (fail))
      refine wpQuiet_nil ?_
      refine wpTree_done ?_
      go_wp2_with fail
      go_ret
      exact ⟨rfl, hB_we⟩
    · go_wp2_with (first
        | ((with_reducible show wpList _ _ _ ((⟨some 33, _, _, _, _, _⟩ : Oper) :: _) _ _); refine wpList_want (by rfl) ?_; refine wpList_bytes_mark (o := ⟨some 33, _, _, _, _, _⟩) (by rfl) 44 5 _ (by rfl) Tryd.underlying44 Tryd.underlying5 [97] 1 w7.heap.size hbk_y1 (by rfl) ?_; intro z2 hby_z2 hu6)
        | fail)
      have hC_z2 : Below w7.heap.size w7 z2 := hC_y1.upd hu6 hgC
      clear hu6
      refine TreeQ.in_ hC_z2 ?_
      refine wpTree_one _ rfl ?_
      go_wp2_with fail
      refine (lref_any 1 7 _).mono ?_
      rintro e z3 ⟨rfl, hbx⟩
      have hC_z3 : Below w7.heap.size w7 z3 := hC_z2.trans (hbx.mono hC_z2.size)
      have hby_z3 := Bytes.below hby_z2 hbx
      clear hbx
      go_wp2_with fail
      refine TreeQ.in_ hC_z3 ?_
      refine wpTree_pure _ _ _ (by rfl) (by rfl) ?_
      dsimp only [List.filterMap, List.getElem?_cons_zero, List.getElem?_cons_succ]
      repeat (go_big_quiet_step (fail))
      refine wpQuiet_nil ?_
      refine wpTree_one _ rfl ?_
      go_wp2_with fail
      refine (sameBlock_any 1 1 1 1 7 7 [] [] [97] [97] A none BB (some ⟨w7.heap.size, 0, none⟩) c 0 e1 1 z3 ⟨H7.out.2.2.2.1.below (hC_z3), Bytes.below H7.out.2.2.2.2 hC_z3, by simp, by simp⟩ ⟨fun h => absurd h (by simp), hby_z3, by simp, by simp⟩).mono ?_
      rintro e wa ⟨he, hbx⟩
      obtain rfl : e = .returned (.bool true) := by simpa using he
      have hC_wa := hC_z3.trans (hbx.mono hC_z3.size)
      clear hbx he
      go_wp2_with fail
      refine TreeQ.in_ hC_wa ?_
      refine wpTree_pure _ _ _ (by rfl) (by rfl) ?_
      dsimp only [List.filterMap, List.getElem?_cons_zero, List.getElem?_cons_succ]
      repeat (go_big_quiet_step (fail))
      refine wpQuiet_nil ?_
      refine wpTree_one _ rfl ?_
      go_wp2_with fail
      have hwt := gwanted_any (H7.out.2.1.below hC_wa) (by decide)
      rw [hq1] at hwt
      refine hwt.mono ?_
      rintro e wb ⟨A3, c3, rfl, hr3, -, hbx⟩
      have hC_wb := hC_wa.trans (hbx.mono hC_wa.size)
      clear hwt hbx
      go_wp2_with fail
      refine TreeQ.in_ hC_wb ?_
      refine wpTree_one _ rfl ?_
      go_wp2_with fail
      refine (lref_any 1 8 _).mono ?_
      rintro e wc ⟨rfl, hbx⟩
      have hC_wc := hC_wb.trans (hbx.mono hC_wb.size)
      have hr4 := hr3.below hbx
      clear hbx
      go_wp2_with fail
      refine TreeQ.in_ hC_wc ?_
      refine wpTree_one _ rfl ?_
      go_wp2_with fail
      have hb5 := (Below.refl wc.heap.size wc).alloc (Nat.le_refl _) (.cells #[.int .i64 1, .int .i64 8] 23)
      have hr5 : Refs (wc.alloc (.cells #[.int .i64 1, .int .i64 8] 23)) (some ⟨wc.heap.size, 0, none⟩) [(1, 8, ())] := Refs.of (reads_new wc 23 [.int .i64 1, .int .i64 8])
      have hC_wd := hC_wc.trans (hb5.mono hC_wc.size)
      have hr6 := hr4.below hb5
      clear hb5
      generalize wc.alloc (.cells #[.int .i64 1, .int .i64 8] 23) = wd at hr5 hC_wd hr6 ⊢
      refine TreeQ.in_ hC_wd ?_
      refine wpTree_one _ rfl ?_
      go_wp2_with fail
      refine (sameRefs_any A3 (some ⟨wc.heap.size, 0, none⟩) 1 1 c3 1 [(1, 8, ())] [(1, 8, ())] rfl rfl (by simp) wd hr6 hr5).mono ?_
      rintro e we ⟨he, hbx⟩
      obtain rfl : e = .returned (.bool true) := by simpa using he
      have hC_we := hC_wd.trans (hbx.mono hC_wd.size)
      have hB_we := H7.out.2.2.1.trans (hC_we.mono H7.out.2.2.1.size)
      clear hbx he
      go_wp2_with fail
      refine TreeQ.in_ hC_we ?_
      refine wpTree_pure _ _ _ (by rfl) (by rfl) ?_
      dsimp only [List.filterMap, List.getElem?_cons_zero, List.getElem?_cons_succ]
      repeat (go_big_quiet_step (fail))
      refine wpQuiet_nil ?_
      refine wpTree_done ?_
      go_wp2_with fail
      go_ret
      exact ⟨rfl, hB_we⟩
end Go.Proofs.YthfdjemlibecgaaDoor
