/- The program's set of blocks: its bytes. Conditions: the set's block is known. -/
import Derived.Test.YtkjcidbhepminaaDoorSet7
import Derived.Test.YtkjcidbhepminaaDoorFreeB
import Derived.Test.YtkjcidbhepminaaDoorPlanIn
namespace Go.Proofs.YtkjcidbhepminaaDoor
open Go.RowKit Go.Shelf
attribute [local go_sem] Oper.semAt_some
theorem foldB_length : ∀ (l : List (Nat × Nat)) (bs : List UInt8), (l.foldl stepB bs).length = bs.length
  | [], _ => rfl
  | x :: l, bs => by rw [List.foldl_cons, foldB_length l, stepB_length]
theorem blk_own {W W' : World} {b B : Nat} {t : TypeId} {cs : Array Value} {row : Option Nat} (h : Blk W b t cs) (hg : W.grownBy W' row) (hr : ∀ r, row = some r → B ≤ r ∧ ∃ o : Obj, W.heap[r]? = some o ∧ o.isCells = false) : Blk W' b t cs :=
  (hg.block b h.lt (fun e => by
    obtain ⟨_, o, ho, hc⟩ := hr b e.symm
    unfold Blk at h
    rw [h] at ho; cases ho; cases hc)).trans h
set_option maxRecDepth 100000 in
set_option maxHeartbeats 2000000 in
theorem bytes_any (L : List Nat) (hok : SetOk L) (h0 : 0 < L.length) (g : Nat) (w : World) (h : Blk w g 26 (setCells L)) :
    Calls Tryd.prog 15 #[.pointer (some ⟨g, 0, none⟩)] w fun e w' => e = .returned (.slice (some ⟨w.heap.size, 0, none⟩) (2 + (L.length + 3) / 4) (2 + (L.length + 3) / 4)) ∧ Blk w' w.heap.size 5 ((enc L).map u8v).toArray ∧ Below w.heap.size w w' := by
  have hl := hok.len
  have hn := none_any L g w h
  rw [decide_eq_false (by omega)] at hn
  have hg := h.lt
  have d0 : w.cell? ⟨g, 0, none⟩ = some (.int .i64 (L.length : Nat)) := h.at_ 0 (by rw [setCells, arr_at _ (by omega), setv_0])
  refine callsIn_wide (n := 3).1 ?_
  refine callsIn_of_wp_marks Tryd.func15 rfl trivial ?_ rfl
  simp only [Tryd.ntmps15, List.size_toArray, List.length_cons, List.length_nil, Nat.reduceAdd, Nat.reduceSub, Array.replicate_succ, Array.replicate_zero, List.push_toArray, List.append_toArray, List.nil_append, List.cons_append]
  obtain ⟨m, hm⟩ : ∃ m : Nat, m = 2 + (L.length + 3) / 4 := ⟨_, rfl⟩
  rw [← hm]
  have hm2 : 2 ≤ m := by omega
  have hm3 : m ≤ 131 := by omega
  have em : 2 + ((L.length : Int) + 3) / 4 = m := by omega
  have HM := Lib.hid hm
  clear hm
  refine wpIn_wide.2 ?_
  go_wp2_with (first
    | (go_at_call 30; refine hn.mono ?_; rintro e w' ⟨rfl, rfl⟩)
    | (show wpList _ _ _ ((⟨some 15, _, _, _, _, _⟩ : Oper) :: _) _ _; refine wpList_make_bytes (o := ⟨some 15, _, _, _, _, _⟩) _ (by rfl) _ _ _ (by rfl) _ Tryd.underlying36 u8info .i64 .i64 _ _ m m (by rfl) (by rfl) (by omega) (by omega) (Nat.le_refl _) (by omega) ?_; intro w1 h1 hb1 hs1)
    | fail)
  have hsz1 : w.heap.size < w1.heap.size := by omega
  have hx2 : Blk (w1.alloc (.cells #[.slice (some ⟨w.heap.size, 0, none⟩) m m] 36)) (w.heap.size + 1) 36 #[.slice (some ⟨w.heap.size, 0, none⟩) m m] := Blk.new' _ _ _ (by omega)
  have ho2 : Blk (w1.alloc (.cells #[.slice (some ⟨w.heap.size, 0, none⟩) m m] 36)) w.heap.size 5 ((List.replicate m 0).map u8v).toArray := h1.alloc _
  have hb2 : Below w.heap.size w (w1.alloc (.cells #[.slice (some ⟨w.heap.size, 0, none⟩) m m] 36)) := hb1.alloc hb1.size _
  have hs2 : (w1.alloc (.cells #[.slice (some ⟨w.heap.size, 0, none⟩) m m] 36)).heap.size = w.heap.size + 2 := by simp; omega
  generalize w1.alloc _ = w2 at hx2 ho2 hb2 hs2 ⊢
  have hg2 : Blk w2 g 26 (setCells L) := h.below hb2 hg
  have b0 : w2.cell? ⟨g, 0, none⟩ = some (.int .i64 (L.length : Nat)) := hg2.at_ 0 (by rw [setCells, arr_at _ (by omega), setv_0])
  have b1 : w2.cell? ⟨w.heap.size + 1, 0, none⟩ = some (.slice (some ⟨w.heap.size, 0, none⟩) m m) := hx2.at_ 0 rfl
  have b2 : w2.cell? ⟨w.heap.size, 0, none⟩ = some (.int .u8 0) := ho2.at_ 0 (by rw [List.getElem?_toArray, List.getElem?_map, List.getElem?_replicate, if_pos (by omega)]; rfl)
  have b3 : w2.cell? ⟨w.heap.size, 1, none⟩ = some (.int .u8 0) := ho2.at_ 1 (by rw [List.getElem?_toArray, List.getElem?_map, List.getElem?_replicate, if_pos (by omega)]; rfl)
  have f2 := ho2.frozen 0
  have f3 := ho2.frozen 1
  have e1 : (L.length : Int) % 256 = iu8 (UInt8.ofNat (L.length % 256)) := by rw [iu8_ofNat_mod]
  have e2 : (L.length : Int) / 256 = iu8 (UInt8.ofNat (L.length / 256)) := by rw [iu8_ofNat _ (by omega)]; omega
  have hlm : 1 < (m : Int) := by omega
  have hlm0 : 0 < (m : Int) := by omega
  clear h1 hb1 hs1 hsz1 d0 hn h
  have HS2 := Lib.hid hs2
  clear hs2
  refine wp_region_planT (fun w' => w'.cell? ⟨g, 0, none⟩ = some (.int .i64 (L.length : Nat)) ∧ w'.cell? ⟨w.heap.size + 1, 0, none⟩ = some (.slice (some ⟨w.heap.size, 0, none⟩) m m)) [16] [(true, 2), (true, 3), (true, 4), (true, 7), (true, 8), (true, 9), (true, 0), (true, 1), (true, 5), (true, 10), (true, 11), (true, 6), (true, 12), (true, 13), (false, 14), (true, 15), (false, 16)] (by kernel_rfl) (by kernel_rfl) ⟨b0, b1⟩ ?_
  refine wpPlan_pure [2, 3, 4, 7, 8, 9] [(true, 0), (true, 1), (true, 5), (true, 10), (true, 11), (true, 6), (true, 12), (true, 13), (false, 14), (true, 15), (false, 16)] _ (by rfl) (by rfl) ?_
  dsimp only [List.filterMap, List.getElem?_cons_zero, List.getElem?_cons_succ]
  repeat (go_big_quiet_step (fail))
  refine wpQuiet_nil ?_
  refine wpPlan_takeL [0, 1, 5, 10] [(true, 11), (true, 6), (true, 12), (true, 13), (false, 14), (true, 15), (false, 16)] _ (by rfl) (by rfl) ⟨b0, b1⟩ ?_
  dsimp only [List.filterMap, List.getElem?_cons_zero, List.getElem?_cons_succ]
  (refine wpQuiet_load_cell (fun w' hw' => hw'.2) (by rfl) _ _ (by rfl) (by rfl) _ Tryd.underlying36 (by rfl) ?_; simp only [Act.put, List.setIfInBounds_toArray, List.set_cons_zero, List.set_cons_succ])
  (refine wpQuiet_load_cell (fun w' hw' => hw'.2) (by rfl) _ _ (by rfl) (by rfl) _ Tryd.underlying36 (by rfl) ?_; simp only [Act.put, List.setIfInBounds_toArray, List.set_cons_zero, List.set_cons_succ])
  (refine wpQuiet_load_cell (fun w' hw' => hw'.1) (by rfl) _ _ (by rfl) (by rfl) _ Tryd.underlying3 (by rfl) ?_; simp only [Act.put, List.setIfInBounds_toArray, List.set_cons_zero, List.set_cons_succ])
  (refine wpQuiet_load_cell (fun w' hw' => hw'.1) (by rfl) _ _ (by rfl) (by rfl) _ Tryd.underlying3 (by rfl) ?_; simp only [Act.put, List.setIfInBounds_toArray, List.set_cons_zero, List.set_cons_succ])
  refine wpQuiet_nil ?_
  refine wpPlan_pure [11, 6, 12] [(true, 13), (false, 14), (true, 15), (false, 16)] _ (by rfl) (by rfl) ?_
  dsimp only [List.filterMap, List.getElem?_cons_zero, List.getElem?_cons_succ]
  repeat (go_big_quiet_step (fail))
  refine wpQuiet_nil ?_
  refine wpPlan_pure [13] [(false, 14), (true, 15), (false, 16)] _ (by rfl) (by rfl) ?_
  dsimp only [List.filterMap, List.getElem?_cons_zero, List.getElem?_cons_succ]
  repeat (go_big_quiet_step (fail))
  refine wpQuiet_nil ?_
  refine wpPlan_forceL _ rfl ?_
  go_wp2
  have hne1 : w.heap.size + 1 ≠ w.heap.size := by omega
  have hne2 : g ≠ w.heap.size := by omega
  have ho3 := (ho2.set_ 0 (.int .u8 (iu8 (UInt8.ofNat (L.length % 256))))).drew
  have hx3 := (hx2.off (c := w.heap.size) (i := 0) hne1 (.int .u8 (iu8 (UInt8.ofNat (L.length % 256))))).drew
  have hg3 := (hg2.off (c := w.heap.size) (i := 0) hne2 (.int .u8 (iu8 (UInt8.ofNat (L.length % 256))))).drew
  have hb3 := (hb2.set_ (c := w.heap.size) (i := 0) (Nat.le_refl _) (.int .u8 (iu8 (UInt8.ofNat (L.length % 256))))).drew
  have hs3 : (World.setCell w2 ⟨w.heap.size, 0, none⟩ (.int .u8 (iu8 (UInt8.ofNat (L.length % 256))))).drew.heap.size = w.heap.size + 2 := by have := HS2.out; simpa [World.setCell] using this
  generalize (World.setCell w2 _ _).drew = w3 at ho3 hx3 hg3 hb3 hs3 ⊢
  clear b0 b1 b2 b3 f2 f3 ho2 hx2 hg2 hb2 HS2
  have b0 : w3.cell? ⟨g, 0, none⟩ = some (.int .i64 (L.length : Nat)) := hg3.at_ 0 (by rw [setCells, arr_at _ (by omega), setv_0])
  have b1 : w3.cell? ⟨w.heap.size + 1, 0, none⟩ = some (.slice (some ⟨w.heap.size, 0, none⟩) m m) := hx3.at_ 0 rfl
  have b3 : ∃ u, w3.cell? ⟨w.heap.size, 1, none⟩ = some u := ⟨_, ho3.at_ 1 (Array.getElem?_eq_getElem (by simp; omega))⟩
  have f3 := ho3.frozen 1
  obtain ⟨u3, b3⟩ := b3
  have HS3 := Lib.hid hs3
  clear hs3
  refine PlanQ.in_ ⟨b0, b1⟩ ?_
  refine wpPlan_pure [15] [(false, 16)] _ (by rfl) (by rfl) ?_
  dsimp only [List.filterMap, List.getElem?_cons_zero, List.getElem?_cons_succ]
  repeat (go_big_quiet_step (fail))
  refine wpQuiet_nil ?_
  refine wpPlan_forceL _ rfl ?_
  go_wp2
  have ho4 := ho3.set_ 1 (.int .u8 (iu8 (UInt8.ofNat (L.length / 256))))
  have hx4 := hx3.off (c := w.heap.size) (i := 1) hne1 (.int .u8 (iu8 (UInt8.ofNat (L.length / 256))))
  have hg4 := hg3.off (c := w.heap.size) (i := 1) hne2 (.int .u8 (iu8 (UInt8.ofNat (L.length / 256))))
  have hb4 := hb3.set_ (c := w.heap.size) (i := 1) (Nat.le_refl _) (.int .u8 (iu8 (UInt8.ofNat (L.length / 256))))
  have hs4 : (World.setCell w3 ⟨w.heap.size, 1, none⟩ (.int .u8 (iu8 (UInt8.ofNat (L.length / 256))))).heap.size = w.heap.size + 2 := by have := HS3.out; simpa [World.setCell] using this
  generalize World.setCell w3 _ _ = w4 at ho4 hx4 hg4 hb4 hs4 ⊢
  clear b0 b1 b3 f3 ho3 hx3 hg3 hb3 HS3
  replace ho4 := ho4.sub (show _ = ((encF L.length fun _ => 0).map u8v).toArray by
    rw [HM.out, encF_zero, show 2 + (L.length + 3) / 4 = (L.length + 3) / 4 + 1 + 1 by omega, List.replicate_succ, List.replicate_succ]; rfl)
  have HS4 := Lib.hid hs4
  clear hs4
  refine PlanQ.out (by rfl) (wpPlan_tidy ?_)
  go_wp2_with fail
  refine (all_any g _).mono ?_
  rintro e w' ⟨rfl, rfl⟩
  go_wp2_with fail
  have hb5 := Blk.new w4 22 #[.pointer (some ⟨g, 0, none⟩)]
  have ho5 := ho4.alloc (.cells #[.pointer (some ⟨g, 0, none⟩)] 22)
  have hx5 := hx4.alloc (.cells #[.pointer (some ⟨g, 0, none⟩)] 22)
  have hg5 := hg4.alloc (.cells #[.pointer (some ⟨g, 0, none⟩)] 22)
  have hB5 := hb4.alloc hb4.size (.cells #[.pointer (some ⟨g, 0, none⟩)] 22)
  have hs5 : (w4.alloc (.cells #[.pointer (some ⟨g, 0, none⟩)] 22)).heap.size = w.heap.size + 3 := by have := HS4.out; simp; omega
  have hs4 := HS4.out
  generalize w4.alloc _ = w5 at hb5 ho5 hx5 hg5 hB5 hs5 ⊢
  generalize w4.heap.size = bx at hb5 hs4 ⊢
  have hbx : w.heap.size + 1 < bx := by omega
  have hbl := hb5.lt
  clear ho4 hx4 hg4 hb4 HS4 hs4
  refine wpIn_wide (n := 3).1 ?_
  refine wpIn_rangeFunc_ownF rfl (by omega) (gf := 43) (lb := #[.pointer (some ⟨bx, 0, none⟩)]) rfl trivial (enters_of Tryd.func43 (by kernel_rfl) rfl)
    (all1_stops 2 (by omega) L hok h0 g bx w5 hg5 hb5) (fun h k => h.trans k) (fun W l o o' hl hW ho _ => ⟨by simp, World.putObj_heap_other (by omega), World.putObj_heap_other (by omega)⟩) (Below.refl _ _) (fun _ => rfl)
    (fun pre W => (Blk W w.heap.size 5 (((pre.map (·.1)).foldl stepB (encF L.length fun _ => 0)).map u8v).toArray ∧ Blk W (w.heap.size + 1) 36 #[.slice (some ⟨w.heap.size, 0, none⟩) m m]) ∧ Below w.heap.size w W)
    (fun _ _ _ => False)
    (OwnFrom.and (fun s A B row hs hg hr => ⟨blk_own hs.1 hg hr, blk_own hs.2 hg hr⟩) (ownFrom_below (Nat.le_refl _) (by omega)))
    (fun _ _ _ _ _ hs _ _ => hs)
    ⟨⟨ho5, hx5⟩, hB5⟩
    (fun x => { tmps := #[.pointer (some ⟨g, 0, none⟩), undef, .slice none 0 0, .pointer (some ⟨w.heap.size + 1, 0, none⟩), .int .i64 (x.1.1 : Int), .int .i64 (x.1.2 : Int), .pointer (some ⟨g, 0, none⟩), .bool false, .pointer (some ⟨g, 0, none⟩), .pointer (some ⟨g, 0, none⟩), .pointer (some ⟨g, 0, none⟩), .int .i64 (L.length : Nat), .int .i64 ((L.length : Int) + 3), .int .i64 (((L.length : Int) + 3) / 4), .int .i64 (m : Int), .slice (some ⟨w.heap.size, 0, none⟩) m m, .slice (some ⟨w.heap.size, 0, none⟩) m m, .slice (some ⟨w.heap.size, 0, none⟩) m m, .pointer (some ⟨g, 0, none⟩), .pointer (some ⟨g, 0, none⟩), .pointer (some ⟨g, 0, none⟩), .int .i64 (L.length : Nat), .int .u8 (iu8 (UInt8.ofNat (L.length % 256))), .pointer (some ⟨g, 0, none⟩), .pointer (some ⟨g, 0, none⟩), .pointer (some ⟨g, 0, none⟩), .int .i64 (L.length : Nat), .int .i64 (iu8 (UInt8.ofNat (L.length / 256))), .int .u8 (iu8 (UInt8.ofNat (L.length / 256))), .pointer (some ⟨w.heap.size, 0, none⟩), .pointer (some ⟨w.heap.size, 1, none⟩), .pointer (some ⟨g, 0, none⟩), .func (.func 43) #[] #[.pointer (some ⟨bx, 0, none⟩)], .int .i64 (x.1.1 : Int), .int .i64 (x.1.2 : Int), undef, undef, undef, undef, undef, undef, undef, undef, undef, undef, undef, undef, undef, undef, undef, undef, undef], defers := [] }) ?assign ?body ?done ?stop
  case assign =>
    intro l x W K hK
    unfold encs
    gi_wp2
    exact hK
  case body =>
    rintro l pre ⟨⟨b, v⟩, hb1, hb2, hv⟩ W ⟨⟨hO, hX⟩, hB⟩ hlen
    obtain ⟨bs, hbs⟩ : ∃ bs, bs = (pre.map (·.1)).foldl stepB (encF L.length fun _ => 0) := ⟨_, rfl⟩
    rw [← hbs] at hO
    have hbsl : bs.length = m := by rw [hbs, foldB_length, encF_length, HM.out]
    obtain ⟨k, rfl⟩ : ∃ k, b = k + 1 := ⟨b - 1, by simp at hb1; omega⟩
    simp only at hb1 hb2 hv
    obtain ⟨j, hj⟩ : ∃ j : Nat, j = k / 4 := ⟨_, rfl⟩
    obtain ⟨r, hr⟩ : ∃ r : Nat, r = k % 4 := ⟨_, rfl⟩
    have ej : (k : Int) / 4 = j := by omega
    have er : (k : Int) % 4 = r := by omega
    have hr4 : r < 4 := by omega
    have hjm : 2 + j < m := by have := HM.out; omega
    obtain ⟨y, hy⟩ : ∃ y, bs[2 + j]? = some y := ⟨_, List.getElem?_eq_getElem (by omega)⟩
    obtain ⟨z, hz⟩ : ∃ z, z = UInt8.ofNat (v * 4 ^ r) := ⟨_, rfl⟩
    have ev : (v : Int) * 2 ^ (2 * r) % 256 = iu8 z := by
      have h4 : (4 : Nat) ^ r ≤ 64 := by
        have : r = 0 ∨ r = 1 ∨ r = 2 ∨ r = 3 := by omega
        rcases this with rfl | rfl | rfl | rfl <;> decide
      have h5 : v * 4 ^ r ≤ 2 * 64 := Nat.mul_le_mul hv h4
      have h6 : (v : Int) * 2 ^ (2 * r) = ((v * 4 ^ r : Nat) : Int) := by
        rw [show (4 : Nat) = 2 ^ 2 from rfl, ← Nat.pow_mul]; simp
      rw [h6, hz, iu8_ofNat _ (by omega)]; omega
    have eo : bits .or .u8 (iu8 y) (iu8 z) = iu8 (y ||| z) := by
      unfold iu8; rw [u8_or_nat _ _ y.toNat_lt z.toNat_lt, UInt8.toNat_or]
    have HZ := Lib.hid hz
    clear hz
    have hO' := Lib.hid hO
    have hX' := Lib.hid hX
    have HBS := Lib.hid (And.intro hbs hbsl)
    have HJ := Lib.hid (And.intro hj hr)
    have HY := Lib.hid hy
    have dO : W.cell? ⟨w.heap.size, 2 + j, none⟩ = some (.int .u8 (iu8 y)) := hO.at_ (2 + j) (by rw [List.getElem?_toArray, List.getElem?_map, hy]; rfl)
    have dX : W.cell? ⟨w.heap.size + 1, 0, none⟩ = some (.slice (some ⟨w.heap.size, 0, none⟩) m m) := hX.at_ 0 rfl
    have fO := hO.frozen (2 + j)
    clear hbs hbsl hj hr hy hO hX em e1 e2
    gi_wp2
    refine wpIn_region_planT (fun w' => w'.cell? ⟨w.heap.size, 2 + j, none⟩ = some (.int .u8 (iu8 y)) ∧ w'.cell? ⟨w.heap.size + 1, 0, none⟩ = some (.slice (some ⟨w.heap.size, 0, none⟩) m m)) [16] [(true, 1), (true, 2), (true, 3), (true, 4), (true, 7), (true, 8), (true, 9), (true, 10), (true, 11), (true, 12), (true, 13), (true, 0), (true, 5), (true, 6), (true, 14), (true, 15), (false, 16)] (by kernel_rfl) (by kernel_rfl) (by kernel_rfl) ⟨dO, dX⟩ ?_
    refine wpPlan_pure [1, 2, 3, 4, 7, 8, 9, 10, 11, 12, 13] [(true, 0), (true, 5), (true, 6), (true, 14), (true, 15), (false, 16)] _ (by rfl) (by rfl) ?_
    dsimp only [List.filterMap, List.getElem?_cons_zero, List.getElem?_cons_succ]
    repeat (go_big_quiet_step (fail))
    refine wpQuiet_nil ?_
    refine wpPlan_takeL [0] [(true, 5), (true, 6), (true, 14), (true, 15), (false, 16)] _ (by rfl) (by rfl) ⟨dO, dX⟩ ?_
    dsimp only [List.filterMap, List.getElem?_cons_zero, List.getElem?_cons_succ]
    (refine wpQuiet_load_cell (fun w' hw' => hw'.2) (by rfl) _ _ (by rfl) (by rfl) _ Tryd.underlying36 (by rfl) ?_; simp only [Act.put, List.setIfInBounds_toArray, List.set_cons_zero, List.set_cons_succ])
    refine wpQuiet_nil ?_
    refine wpPlan_pure [5] [(true, 6), (true, 14), (true, 15), (false, 16)] _ (by rfl) (by rfl) ?_
    dsimp only [List.filterMap, List.getElem?_cons_zero, List.getElem?_cons_succ]
    repeat (go_big_quiet_step (fail))
    refine wpQuiet_nil ?_
    refine wpPlan_takeL [6] [(true, 14), (true, 15), (false, 16)] _ (by rfl) (by rfl) ⟨dO, dX⟩ ?_
    dsimp only [List.filterMap, List.getElem?_cons_zero, List.getElem?_cons_succ]
    (refine wpQuiet_load_cell (fun w' hw' => hw'.1) (by rfl) _ _ (by rfl) (by rfl) _ Tryd.underlying5 (by rfl) ?_; simp only [Act.put, List.setIfInBounds_toArray, List.set_cons_zero, List.set_cons_succ])
    refine wpQuiet_nil ?_
    refine wpPlan_pure [14, 15] [(false, 16)] _ (by rfl) (by rfl) ?_
    dsimp only [List.filterMap, List.getElem?_cons_zero, List.getElem?_cons_succ]
    repeat (go_big_quiet_step (fail))
    refine wpQuiet_nil ?_
    refine wpPlan_forceL _ rfl ?_
    go_wp2
    refine PlanQ.out (by rfl) (wpPlan_tidy ?_)
    have hO2 := (hO'.out.set_ (2 + j) (.int .u8 (iu8 (y ||| z)))).drew
    have hX2 := (hX'.out.off (c := w.heap.size) (i := 2 + j) hne1 (.int .u8 (iu8 (y ||| z)))).drew
    have hB2 := (hB.set_ (c := w.heap.size) (i := 2 + j) (Nat.le_refl _) (.int .u8 (iu8 (y ||| z)))).drew
    have hbs2 : ((pre ++ [(⟨(k + 1, v), hb1, hb2, hv⟩ : It L.length)]).map (·.1)).foldl stepB (encF L.length fun _ => 0) = bs.set (2 + j) (y ||| z) := by
      rw [List.map_append, List.foldl_append, ← HBS.out.1]
      show stepB bs (k + 1, v) = _
      unfold stepB
      simp only [Nat.add_sub_cancel]
      rw [← HJ.out.1, ← HJ.out.2, List.getD_eq_getElem?_getD, HY.out, ← HZ.out]; rfl
    refine ⟨(KeepsOthers.setCell _ _ _).trans (KeepsOthers.drew _), ⟨by simp [World.setCell], (Below.heap_setCell W ⟨w.heap.size, 2 + j, none⟩ _ g hne2), (Below.heap_setCell W ⟨w.heap.size, 2 + j, none⟩ _ bx (by show bx ≠ w.heap.size; omega))⟩, ⟨hO2.sub ?_, hX2⟩, hB2⟩
    rw [hbs2]
    apply Array.ext'
    simp only [List.setIfInBounds_toArray]
    rw [List.map_set]; rfl
  case done =>
    rintro D ys W hD rfl ⟨⟨hO, hX⟩, hB⟩ hK
    have dX : W.cell? ⟨w.heap.size + 1, 0, none⟩ = some (.slice (some ⟨w.heap.size, 0, none⟩) m m) := hX.at_ 0 rfl
    have hys : (upto (itm L hok h0) L.length).map (·.1) = (List.range L.length).map fun i => (i + 1, L.getD i 0) := by
      unfold upto
      rw [List.map_map]
      refine List.map_congr_left fun i hi => ?_
      exact itm_val L hok h0 (List.mem_range.1 hi)
    rw [hys, stepB_enc_all L hok.le] at hO
    have HO := Lib.hid hO
    clear hO hys
    go_wp2
    refine ⟨by simp, .inl ⟨_, _, rfl, run_takeDeferred hK, ?_⟩⟩
    refine ⟨_, results_tmp rfl _ _ _, rfl, blk_own HO.out (grownBy_putObj' W D (.deferred none)) (fun r e => by cases e; exact ⟨Nat.le_refl _, _, hK, rfl⟩), hB.trans (belowK_b (w := w) (Nat.le_refl _) W D _ _ (by omega) hK rfl rfl)⟩
  case stop =>
    rintro D c pre W _ _ h _
    exact h.elim
end Go.Proofs.YtkjcidbhepminaaDoor
