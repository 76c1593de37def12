/- GridKeeps: a byte of a block that is there is turned, and it is installed as it was. Conditions: the statement's state is known. -/
import Derived.Test.YtfoegmjpfkmggaaGreatDoorMGridKeeps14
namespace Go.Proofs.YtfoegmjpfkmggaaGreatDoor
open Go.RowKit
theorem sizeStep : (Tryz.prog.info? 73).map (·.size) = some 7 := by kernel_rfl
/-- A step's cells. -/
def stpc (kind which at_ tear : Int) (BA : Option Addr) (bl bc : Nat) (m : UInt8) (KA : Option Addr) (kl kc : Nat) : Array Value := #[.int .i64 kind, .int .i64 which, .int .i64 at_, .int .i64 tear, .slice BA bl bc, .int .u8 (iu8 m), .slice KA kl kc]
set_option maxRecDepth 100000 in
set_option maxHeartbeats 8000000 in
theorem lfTurn_any {B xp gp dp n : Nat} {Y : List Nat} {w : World} {g : Grd} {d : Dsk} {L G : List KB} (h : Lf B Y w xp gp dp n g d L G) (hL0 : 0 < L.length) (kind which at_ tear : Int) (BA : Option Addr) (bl bc : Nat) (m : UInt8) (KA : Option Addr) (kl kc : Nat) :
    Calls Tryz.prog 68 #[.pointer (some ⟨xp, 0, none⟩), .agg (stpc kind which at_ tear BA bl bc m KA kl kc)] w fun e w' => ∃ goes, e = .returned (.tuple #[.bool true, .bool goes]) ∧ Below B w w' ∧ (goes = true → ∃ d', Lf B Y w' xp gp dp n g d' L G) := by
  have hz := zeroGBrun
  have hfew := h.few
  have hwi : pickN which (L.length : Int) < L.length := by have := pickN_lt which (L.length : Int) (by omega); omega
  generalize hwq : pickN which (L.length : Int) = wi at hwi
  obtain ⟨x, hx0⟩ : ∃ x, L[wi]? = some x := ⟨_, List.getElem?_eq_getElem hwi⟩
  have hxL : x ∈ L := List.mem_of_getElem? hx0
  have hxm : x ∈ L ++ G := List.mem_append_left _ hxL
  obtain ⟨vl, vg, sl, sg, hx, hl, hg, hne⟩ := h.xb
  obtain ⟨A2, c2, rfl, hc2, hc2m, hr2, -⟩ := OwnsC.reads hl
  obtain ⟨b2, o2, rfl, hcl⟩ := hr2 (fun e => by have := congrArg List.length e; rw [kcells_length, List.length_nil] at this; omega)
  have qa : ∀ j v, (kcs x)[j]? = some v → w.cell? ⟨b2, o2 + wi * 5 + j, none⟩ = some v := fun j v hv => by rw [Nat.add_assoc]; exact hcl _ _ (kcells_at _ wi x hx0 j v hv)
  have hbl2 : b2 < w.heap.size := World.block_lt_of_cell? w _ (qa 0 _ rfl)
  have hB1 : Below w.heap.size w (w.alloc (.cells (stpc kind which at_ tear BA bl bc m KA kl kc) 73)) := (Below.refl w.heap.size w).alloc (Nat.le_refl _) _
  have hsb : Blk (w.alloc (.cells (stpc kind which at_ tear BA bl bc m KA kl kc) 73)) w.heap.size 73 (stpc kind which at_ tear BA bl bc m KA kl kc) := Blk.new w _ _
  have ngL : NG 71 := by unfold NG; decide
  have ngS : NG 73 := by unfold NG; decide
  have ngB : NG 116 := by unfold NG; decide
  have ngU : NG 5 := by unfold NG; decide
  have hBw := h.gx.size
  have H1 := Lib.hid (And.intro (h.below hB1) (And.intro hsb (And.intro (hx.below hB1 hx.lt) (And.intro (fun j v hv => (hB1.cell (p := ⟨b2, o2 + wi * 5 + j, none⟩) hbl2).trans (qa j v hv)) (And.intro (Nat.lt_of_lt_of_le hbl2 hB1.size) (hB1.mono hBw))))))
  have HX := Lib.hid (And.intro hxm (And.intro hfew (And.intro hwi hx0)))
  clear h hx hl hg hne hr2 hcl qa hbl2 hB1 hsb hc2 hc2m hxL hxm hfew hx0 hL0 hBw
  go_enter Tryz.func68, Tryz.ntmps68
  go_wp2_with fail
  generalize w.alloc (.cells (stpc kind which at_ tear BA bl bc m KA kl kc) 73) = w1 at H1 ⊢
  generalize w.heap.size = sb at H1 ⊢
  -- the block
  have hC1 : Near [] w1 w1 := Near.refl _ _
  refine wp_region_tree (Near [] w1) [] (PlanT.takes [0, 1, 2, 4, 6, 7, 8] (PlanT.takes [3, 5, 9] (PlanT.takes [10] (.opt 11 (PlanT.takes [12] (PlanT.takes [13] (.opt 14 (.opt 15 .done .no) .no))) (.opt 14 (.opt 11 (PlanT.takes [12] (PlanT.takes [13] (.opt 15 .done .no))) .no) .no))))) (by kernel_rfl) (by kernel_rfl) (hC1.drew) ?_
  refine wpTree_pure _ _ _ (by rfl) (by rfl) ?_
  dsimp only [List.filterMap, List.getElem?_cons_zero, List.getElem?_cons_succ]
  repeat (go_big_quiet_step (fail))
  refine wpQuiet_nil ?_
  refine wpTree_takeL _ _ _ (by rfl) (by rfl) (hC1.drew) ?_
  dsimp only [List.filterMap, List.getElem?_cons_zero, List.getElem?_cons_succ]
  (refine wpQuiet_load_cell (fun w' hw' => (hw'.cell H1.out.2.2.1.lt List.not_mem_nil).trans (H1.out.2.2.1.at_ 2 rfl)) (by rfl) _ _ (by rfl) (by rfl) _ Tryz.underlying69 (by rfl) ?_; simp only [Act.put, List.setIfInBounds_toArray, List.set_cons_zero, List.set_cons_succ])
  (refine wpQuiet_load_cell (fun w' hw' => (hw'.cell H1.out.2.1.lt List.not_mem_nil).trans (H1.out.2.1.at_ 1 (v := .int .i64 which) rfl)) (by rfl) _ _ (by rfl) (by rfl) _ Tryz.underlying3 (by rfl) ?_; simp only [Act.put, List.setIfInBounds_toArray, List.set_cons_zero, List.set_cons_succ])
  (refine wpQuiet_load_cell (fun w' hw' => (hw'.cell H1.out.2.2.1.lt List.not_mem_nil).trans (H1.out.2.2.1.at_ 2 rfl)) (by rfl) _ _ (by rfl) (by rfl) _ Tryz.underlying69 (by rfl) ?_; simp only [Act.put, List.setIfInBounds_toArray, List.set_cons_zero, List.set_cons_succ])
  refine wpQuiet_nil ?_
  refine wpTree_pure _ _ _ (by rfl) (by rfl) ?_
  dsimp only [List.filterMap, List.getElem?_cons_zero, List.getElem?_cons_succ]
  repeat (go_big_quiet_step (fail))
  refine wpQuiet_nil ?_
  apply share (α := Nat) (F := fun g6 wZ => Blk wZ g6 116 (kcs x).toArray ∧ Below w1.heap.size w1 wZ)
  · intro KK
    refine wpTree_opt _ rfl ?_ (wpTree_one _ rfl ?_)
    · go_wp2_with fail
      refine (pick_any which (L.length : Int) (by have := HX.out.2.1; omega) (by have := HX.out.2.2.1; omega) _).mono ?_
      rintro e w2 ⟨rfl, hw⟩
      obtain rfl := hw.symm
      clear hw
      rw [hwq]
      go_wp2_with fail
      refine TreeQ.in_ hC1.drew ?_
      refine wpTree_pure _ _ _ (by rfl) (by rfl) ?_
      dsimp only [List.filterMap, List.getElem?_cons_zero, List.getElem?_cons_succ]
      repeat (go_big_quiet_step (fail))
      refine wpQuiet_nil ?_
      refine wpTree_takeL _ _ _ (by rfl) (by rfl) (hC1.drew) ?_
      dsimp only [List.filterMap, List.getElem?_cons_zero, List.getElem?_cons_succ]
      (refine wpQuiet_load_mid (fun w' hw' => (fun j v hv => (hw'.cell (p := ⟨b2, o2 + wi * 5 + j, none⟩) H1.out.2.2.2.2.1 List.not_mem_nil).trans (H1.out.2.2.2.1 j v hv) : w'.rangeAt b2 (o2 + wi * 5) (kcs x))) (by rfl) _ _ (by rfl) (by rfl) _ Tryz.underlying116 (by rfl) (sizeGB) (by rfl) ?_; simp only [Act.put, List.setIfInBounds_toArray, List.set_cons_zero, List.set_cons_succ])
      refine wpQuiet_nil ?_
      refine wpTree_one _ rfl ?_
      go_wp2_with fail
      have hz5 : Blk (w1.alloc (.cells #[.int .i64 0, .int .i64 0, .int .i64 0, .slice none 0 0, .slice none 0 0] 116)).drew w1.heap.size 116 #[.int .i64 0, .int .i64 0, .int .i64 0, .slice none 0 0, .slice none 0 0] := Blk.new w1 116 #[.int .i64 0, .int .i64 0, .int .i64 0, .slice none 0 0, .slice none 0 0]
      have hb5 := ((Below.refl w1.heap.size w1).alloc (Nat.le_refl _) (.cells #[.int .i64 0, .int .i64 0, .int .i64 0, .slice none 0 0, .slice none 0 0] 116)).drew
      refine TreeQ.in_ (Near.below hb5) ?_
      generalize (w1.alloc (.cells #[.int .i64 0, .int .i64 0, .int .i64 0, .slice none 0 0, .slice none 0 0] 116)).drew = w5 at hz5 hb5 ⊢
      refine wpTree_one _ rfl ?_
      go_wp2_with (first
        | ((with_reducible show wpList _ _ _ ((⟨none, _, _, _, _, _⟩ : Oper) :: _) _ _); refine wpList_store_blk (o := ⟨none, _, _, _, _, _⟩) (hz5) (by rfl) _ _ _ (by rfl) (by rfl) ((kcs x).toArray) (by rfl) (sizeGB) (by rfl) (by rfl) (by simp [kcs, Value.oneCell']) ?_; intro w7 h7 hu7)
        | fail)
      have hb7 := hb5.upd hu7 (Nat.le_refl _)
      refine TreeQ.in_ (Near.below hb7) ?_
      refine wpTree_done ?_
      obtain ⟨z, hz1⟩ : ∃ z, w1.heap.size = z := ⟨_, rfl⟩
      rw [hz1] at h7 ⊢
      exact KK z w7 ⟨h7, hb7⟩
    · go_wp2_with fail
      have hz5 : Blk (w1.alloc (.cells #[.int .i64 0, .int .i64 0, .int .i64 0, .slice none 0 0, .slice none 0 0] 116)).drew w1.heap.size 116 #[.int .i64 0, .int .i64 0, .int .i64 0, .slice none 0 0, .slice none 0 0] := Blk.new w1 116 #[.int .i64 0, .int .i64 0, .int .i64 0, .slice none 0 0, .slice none 0 0]
      have hb5 := ((Below.refl w1.heap.size w1).alloc (Nat.le_refl _) (.cells #[.int .i64 0, .int .i64 0, .int .i64 0, .slice none 0 0, .slice none 0 0] 116)).drew
      refine TreeQ.in_ (Near.below hb5) ?_
      generalize (w1.alloc (.cells #[.int .i64 0, .int .i64 0, .int .i64 0, .slice none 0 0, .slice none 0 0] 116)).drew = w5 at hz5 hb5 ⊢
      refine wpTree_one _ rfl ?_
      go_wp2_with fail
      refine (pick_any which (L.length : Int) (by have := HX.out.2.1; omega) (by have := HX.out.2.2.1; omega) _).mono ?_
      rintro e w2 ⟨rfl, hw⟩
      obtain rfl := hw.symm
      clear hw
      rw [hwq]
      go_wp2_with fail
      refine TreeQ.in_ (Near.below hb5) ?_
      refine wpTree_pure _ _ _ (by rfl) (by rfl) ?_
      dsimp only [List.filterMap, List.getElem?_cons_zero, List.getElem?_cons_succ]
      repeat (go_big_quiet_step (fail))
      refine wpQuiet_nil ?_
      refine wpTree_takeL _ _ _ (by rfl) (by rfl) (Near.below hb5) ?_
      dsimp only [List.filterMap, List.getElem?_cons_zero, List.getElem?_cons_succ]
      (refine wpQuiet_load_mid (fun w' hw' => (fun j v hv => (hw'.cell (p := ⟨b2, o2 + wi * 5 + j, none⟩) H1.out.2.2.2.2.1 List.not_mem_nil).trans (H1.out.2.2.2.1 j v hv) : w'.rangeAt b2 (o2 + wi * 5) (kcs x))) (by rfl) _ _ (by rfl) (by rfl) _ Tryz.underlying116 (by rfl) (sizeGB) (by rfl) ?_; simp only [Act.put, List.setIfInBounds_toArray, List.set_cons_zero, List.set_cons_succ])
      refine wpQuiet_nil ?_
      refine wpTree_one _ rfl ?_
      go_wp2_with (first
        | ((with_reducible show wpList _ _ _ ((⟨none, _, _, _, _, _⟩ : Oper) :: _) _ _); refine wpList_store_blk (o := ⟨none, _, _, _, _, _⟩) (hz5) (by rfl) _ _ _ (by rfl) (by rfl) ((kcs x).toArray) (by rfl) (sizeGB) (by rfl) (by rfl) (by simp [kcs, Value.oneCell']) ?_; intro w7 h7 hu7)
        | fail)
      have hb7 := hb5.upd hu7 (Nat.le_refl _)
      refine TreeQ.in_ (Near.below hb7) ?_
      refine wpTree_done ?_
      exact KK w1.heap.size w7 ⟨h7, hb7⟩
  rintro g6 w7 ⟨h7, hb7⟩
  have H7 := Lib.hid (And.intro (H1.out.1.below hb7) (And.intro (H1.out.2.1.below hb7 H1.out.2.1.lt) (And.intro (H1.out.2.2.1.below hb7 H1.out.2.2.1.lt) (And.intro h7 (H1.out.2.2.2.2.2.trans (hb7.mono H1.out.1.gx.size))))))
  clear h7 hb7 hC1 H1 hwq hwi
  go_wp2_with fail
  -- its bytes
  have hC7 : Soft w7 w7 := Soft.refl _
  refine wp_region_tree (Soft w7) [] (PlanT.takes [0, 1, 2, 4] (PlanT.takes [3, 5] (.opt 6 (PlanT.takes [7, 8, 9, 10, 11] .done) .no))) (by kernel_rfl) (by kernel_rfl) (hC7.drew) ?_
  refine wpTree_pure _ _ _ (by rfl) (by rfl) ?_
  dsimp only [List.filterMap, List.getElem?_cons_zero, List.getElem?_cons_succ]
  repeat (go_big_quiet_step (fail))
  refine wpQuiet_nil ?_
  refine wpTree_takeL _ _ _ (by rfl) (by rfl) (hC7.drew) ?_
  dsimp only [List.filterMap, List.getElem?_cons_zero, List.getElem?_cons_succ]
  (refine wpQuiet_load_cell (fun w' hw' => hw'.cell (i := 1) (v := .pointer (some ⟨gp, 0, none⟩)) H7.out.2.2.1 ngL rfl) (by rfl) _ _ (by rfl) (by rfl) _ Tryz.underlying65 (by rfl) ?_; simp only [Act.put, List.setIfInBounds_toArray, List.set_cons_zero, List.set_cons_succ])
  (refine wpQuiet_load_mid (fun w' hw' => range2 (b := g6) (off := 1) (u := .int .i64 x.1.2.1.1) (v := .int .i64 x.1.2.1.2.1) (hw'.cell (i := 1) H7.out.2.2.2.1 ngB rfl) (hw'.cell (i := 2) H7.out.2.2.2.1 ngB rfl)) (by rfl) _ _ (by rfl) (by rfl) _ Tryz.underlying113 (by rfl) (size_ref) (by rfl) ?_; simp only [Act.put, List.setIfInBounds_toArray, List.set_cons_zero, List.set_cons_succ])
  refine wpQuiet_nil ?_
  refine wpTree_one _ rfl ?_
  go_wp2_with fail
  have hxm := H7.out.1.mem HX.out.1
  have hlook := H7.out.1.lif.read hxm
  have hblk : gblk d x.1.2.1.1 = GB.bytes x.1 := H7.out.1.lif.blk _ hxm
  have hok := H7.out.1.lif.ok _ hxm
  have hlen : (GB.bytes x.1).length = 1024 := GB.bytes_length _ (GB.ok_spec hok).2.2.1 (GB.ok_spec hok).2.2.2.1
  have hraw := xtraw (H7.out.1.gx.below ((Below.refl w7.heap.size w7).drew)).1 H7.out.1.w0 x.1.2.1 hlook
  rw [hblk, hlen] at hraw
  refine hraw.mono ?_
  rintro e w8 ⟨y, rfl, hyb, -, -, -, hbx⟩
  replace hbx : Below w7.heap.size w7 w8 := (Below.refl w7.heap.size w7).drew.trans hbx
  have H8 := Lib.hid (And.intro (H7.out.1.below hbx) (And.intro (H7.out.2.1.below hbx H7.out.2.1.lt) (And.intro (H7.out.2.2.1.below hbx H7.out.2.2.1.lt) (And.intro (H7.out.2.2.2.1.below hbx H7.out.2.2.2.1.lt) (And.intro hyb (H7.out.2.2.2.2.trans (hbx.mono H7.out.1.gx.size)))))))
  have HB := Lib.hid (And.intro hxm (And.intro hblk (And.intro hok hlen)))
  have hC8 : Soft w7 w8 := Soft.below hbx
  clear hbx hyb hraw hlook hblk hok hlen hxm
  go_wp2_with fail
  refine TreeQ.in_ hC8 ?_
  refine wpTree_pure _ _ _ (by rfl) (by rfl) ?_
  dsimp only [List.filterMap, List.getElem?_cons_zero, List.getElem?_cons_succ]
  repeat (go_big_quiet_step (fail))
  refine wpQuiet_nil ?_
  refine wpTree_done ?_
  clear hC8 hC7 H7
  have d2 := H8.out.2.1.at_ 2 (v := .int .i64 at_) rfl
  go_wp2_with fail
  refine (pick_any at_ 1024 (by omega) (by omega) _).mono ?_
  rintro e w9 ⟨rfl, hw⟩
  obtain rfl := hw.symm
  clear hw d2
  have hi0 : pickN at_ 1024 < 1024 := by have := pickN_lt at_ 1024 (by omega); omega
  generalize pickN at_ 1024 = i at hi0 ⊢
  go_wp2_with fail
  -- a byte is turned
  have hp1 := H8.out.1.lif.pos HB.out.1
  have hp2 := H8.out.1.lif.le _ HB.out.1
  have hn12 := H8.out.1.lif.n12
  have hp2 : ba x.1 ≤ 12 := by omega
  clear hn12
  obtain ⟨d1, t1, t2, t3, t4, t5⟩ := H8.out.1.lif.turn HB.out.1 hi0 m
  have HT := Lib.hid (And.intro t1 (And.intro t2 (And.intro t3 (And.intro t4 t5))))
  clear t1 t2 t3 t4 t5
  obtain ⟨a, ha⟩ : ∃ a : Int, x.1.2.1.1 = a := ⟨_, rfl⟩
  replace hp1 : 1 ≤ a := by rw [← ha]; exact hp1
  replace hp2 : a ≤ 12 := by rw [← ha]; exact hp2
  have hC8 : Soft w8 w8 := Soft.refl _
  refine wp_region_tree (Soft w8) [] (PlanT.takes [0, 1, 2, 3, 4, 5, 7, 8, 13, 14, 16, 17, 18] (PlanT.takes [6, 9, 19] (PlanT.takes [10, 11, 12, 15] (.opt 20 (PlanT.takes [21, 22] .done) .no)))) (by kernel_rfl) (by kernel_rfl) (hC8.drew) ?_
  refine wpTree_pure _ _ _ (by rfl) (by rfl) ?_
  dsimp only [List.filterMap, List.getElem?_cons_zero, List.getElem?_cons_succ]
  repeat (go_big_quiet_step (fail))
  refine wpQuiet_nil ?_
  refine wpTree_takeL _ _ _ (by rfl) (by rfl) (hC8.drew) ?_
  dsimp only [List.filterMap, List.getElem?_cons_zero, List.getElem?_cons_succ]
  (refine wpQuiet_want' (by rfl) ?_; refine wpQuiet_load_cell (fun w' hw' => hw'.cell (i := 0) (v := .pointer (some ⟨dp, 0, none⟩)) H8.out.2.2.1 ngL rfl) (by rfl) _ _ (by rfl) (by rfl) _ Tryz.underlying25 (by rfl) ?_; simp only [Act.put, List.setIfInBounds_toArray, List.set_cons_zero, List.set_cons_succ])
  (refine wpQuiet_want' (by rfl) ?_; refine wpQuiet_load_cell (fun w' hw' => hw'.cell (i := 1) (v := .int .i64 a) H8.out.2.2.2.1 ngB (by rw [← ha]; rfl)) (by rfl) _ _ (by rfl) (by rfl) _ Tryz.underlying3 (by rfl) ?_; simp only [Act.put, List.setIfInBounds_toArray, List.set_cons_zero, List.set_cons_succ])
  (refine wpQuiet_want' (by rfl) ?_; refine wpQuiet_load_cell (fun w' hw' => hw'.cell (i := 5) (v := .int .u8 (iu8 m)) H8.out.2.1 ngS rfl) (by rfl) _ _ (by rfl) (by rfl) _ Tryz.underlying5 (by rfl) ?_; simp only [Act.put, List.setIfInBounds_toArray, List.set_cons_zero, List.set_cons_succ])
  refine wpQuiet_nil ?_
  refine wpTree_pure _ _ _ (by rfl) (by rfl) ?_
  dsimp only [List.filterMap, List.getElem?_cons_zero, List.getElem?_cons_succ]
  repeat (go_big_quiet_step (fail))
  refine wpQuiet_nil ?_
  refine wpTree_one _ rfl ?_
  go_wp2_with fail
  have hB8 : Below w8.heap.size w8 w8.drew := (Below.refl w8.heap.size w8).drew
  have ht := xtturn (H8.out.1.gx.below hB8).1 (gplace (ba x.1) + ((i / 256 : Nat) : Int)) ((i % 256 : Nat) : Int) m HT.out.1 HT.out.2.1
  rw [show gplace (ba x.1) + ((i / 256 : Nat) : Int) = 104 + 4 * (a - 1) + (i : Int) / 256 by unfold gplace ba; rw [ha]; omega, show ((i % 256 : Nat) : Int) = (i : Int) % 256 by omega] at ht
  refine ht.mono ?_
  rintro e w10 ⟨rfl, hG, hS⟩
  have hC10 : Soft w8 w10 := hC8.drew.trans hS.so
  have H10 := Lib.hid (And.intro hG (And.intro (show TS B Y w8 w10 from (TS.below hB8 H8.out.1.gx.size H8.out.1.gx.own).trans hS) hC10))
  clear ht hG hS hB8
  go_wp2_with fail
  refine TreeQ.in_ hC10 ?_
  refine wpTree_pure _ _ _ (by rfl) (by rfl) ?_
  dsimp only [List.filterMap, List.getElem?_cons_zero, List.getElem?_cons_succ]
  repeat (go_big_quiet_step (fail))
  refine wpQuiet_nil ?_
  refine wpTree_done ?_
  clear hC10 hC8
  go_wp2_with fail
  -- the bytes as they are now
  have hC10 : Soft w10 w10 := Soft.refl _
  refine wp_region_tree (Soft w10) [] (PlanT.takes [0, 1, 2, 4, 5] (PlanT.takes [3, 6] (PlanT.takes [7, 8, 9] (.opt 10 (PlanT.takes [11, 12, 13, 14, 15] .done) .no)))) (by kernel_rfl) (by kernel_rfl) (hC10.drew) ?_
  refine wpTree_pure _ _ _ (by rfl) (by rfl) ?_
  dsimp only [List.filterMap, List.getElem?_cons_zero, List.getElem?_cons_succ]
  repeat (go_big_quiet_step (fail))
  refine wpQuiet_nil ?_
  refine wpTree_takeL _ _ _ (by rfl) (by rfl) (hC10.drew) ?_
  dsimp only [List.filterMap, List.getElem?_cons_zero, List.getElem?_cons_succ]
  (refine wpQuiet_load_cell (fun w' hw' => (H10.out.2.2.trans hw').cell (i := 0) (v := .pointer (some ⟨dp, 0, none⟩)) H8.out.2.2.1 ngL rfl) (by rfl) _ _ (by rfl) (by rfl) _ Tryz.underlying25 (by rfl) ?_; simp only [Act.put, List.setIfInBounds_toArray, List.set_cons_zero, List.set_cons_succ])
  (refine wpQuiet_load_cell (fun w' hw' => (H10.out.2.2.trans hw').cell (i := 1) (v := .int .i64 a) H8.out.2.2.2.1 ngB (by rw [← ha]; rfl)) (by rfl) _ _ (by rfl) (by rfl) _ Tryz.underlying3 (by rfl) ?_; simp only [Act.put, List.setIfInBounds_toArray, List.set_cons_zero, List.set_cons_succ])
  refine wpQuiet_nil ?_
  refine wpTree_pure _ _ _ (by rfl) (by rfl) ?_
  dsimp only [List.filterMap, List.getElem?_cons_zero, List.getElem?_cons_succ]
  repeat (go_big_quiet_step (fail))
  refine wpQuiet_nil ?_
  refine wpTree_one _ rfl ?_
  go_wp2_with fail
  have hB10 : Below w10.heap.size w10 w10.drew := (Below.refl w10.heap.size w10).drew
  have hout : d1.isOut none = false := by unfold Dsk.isOut; rw [HT.out.2.2.1.out]; rfl
  have hrd := gread HT.out.2.2.1 hout (H8.out.1.lif.pos HB.out.1) (H8.out.1.lif.le _ HB.out.1)
  rw [HT.out.2.2.2.1] at hrd
  have hfl : (flip (GB.bytes x.1) i m).length = 1024 := by rw [flip_length]; exact HB.out.2.2.2
  have hdr := xtdread (H10.out.1.below hB10).1 (gplace (ba x.1)) 4 hrd
  rw [hfl, show gplace (ba x.1) = 104 + 4 * (a - 1) by unfold gplace ba; rw [ha]] at hdr
  refine hdr.mono ?_
  rintro e w11 ⟨y2, rfl, hy2, hyb2, -, -, hbx⟩
  replace hbx := hB10.trans (hbx.mono hB10.size)
  have hC11 : Soft w10 w11 := Soft.below hbx
  have H11 := Lib.hid (And.intro (H10.out.1.below hbx).1 (And.intro (H10.out.2.1.trans (TS.below hbx H10.out.1.size H10.out.1.own)) (And.intro (H10.out.2.2.trans hC11) (And.intro hyb2 hfl))))
  clear hdr hrd hbx hyb2 hy2 hout hB10 hfl
  go_wp2_with fail
  refine TreeQ.in_ hC11 ?_
  refine wpTree_pure _ _ _ (by rfl) (by rfl) ?_
  dsimp only [List.filterMap, List.getElem?_cons_zero, List.getElem?_cons_succ]
  repeat (go_big_quiet_step (fail))
  refine wpQuiet_nil ?_
  refine wpTree_done ?_
  clear hC10 hC11
  go_wp2_with fail
  refine (gbRead_any (some ⟨y2, 0, none⟩) 1024 1024 (flip (GB.bytes x.1) i m) H11.out.2.2.2.2.symm (Nat.le_refl _) (by omega) w11 H11.out.2.2.2.1.bytes).mono ?_
  rintro e w12 ⟨A5, c5, B5, e5, rfl, -, -, -, -, -, hbx, -, -⟩
  have H12 := Lib.hid (And.intro (H11.out.1.below hbx).1 (And.intro (H11.out.2.1.trans (TS.below hbx H11.out.1.size H11.out.1.own)) (And.intro (H11.out.2.2.1.trans (Soft.below hbx)) (And.intro (H11.out.2.2.2.1.below hbx H11.out.2.2.2.1.lt) H11.out.2.2.2.2))))
  clear hbx H11
  clear ha hp1 hp2
  by_cases hc : (GB.read (flip (GB.bytes x.1) i m)).1 = 0
  case' neg =>
    have HNO := Lib.hid (HT.out.2.2.2.2 (fun h => hc h.1))
    have kc : ((GB.read (flip (GB.bytes x.1) i m)).1 == 0) = false := beq_eq_false_iff_ne.2 hc
    have kd : ((GB.read (flip (GB.bytes x.1) i m)).1 = 0) = False := eq_false hc
    clear hc
    go_wp2_with (first
      | ((with_reducible show wpList _ _ _ ((⟨none, _, _, _, _, _⟩ : Oper) :: _) _ _); refine wpList_store_blk (o := ⟨none, _, _, _, _, _⟩) ((Blk.new w12 116 #[.int .i64 0, .int .i64 0, .int .i64 0, .slice none 0 0, .slice none 0 0])) (by rfl) _ _ _ (by rfl) (by rfl) (gbc (GB.read (flip (GB.bytes x.1) i m)).2 A5 c5 B5 e5) (by rfl) (sizeGB) (by rfl) (by rfl) (gbc_one _ _ _ _ _) ?_; intro w13 h13 hu13; have hbx := ((Below.refl w12.heap.size w12).alloc (Nat.le_refl _) (.cells #[.int .i64 0, .int .i64 0, .int .i64 0, .slice none 0 0, .slice none 0 0] 116)).upd hu13 (Nat.le_refl _); have H13 := Lib.hid (And.intro (H12.out.1.below hbx).1 (And.intro (H12.out.2.1.trans (TS.below hbx H12.out.1.size H12.out.1.own)) (And.intro (H12.out.2.2.1.trans (Soft.below hbx)) (And.intro (H12.out.2.2.2.1.below hbx H12.out.2.2.2.1.lt) H12.out.2.2.2.2)))); clear hu13 hbx h13)
      | fail)
    clear kc kd
  case' pos =>
    by_cases hq : flip (GB.bytes x.1) i m = GB.bytes x.1
    case neg =>
      rw [hc]
      clear hc
      go_wp2_with (first
        | ((with_reducible show wpList _ _ _ ((⟨none, _, _, _, _, _⟩ : Oper) :: _) _ _); refine wpList_store_blk (o := ⟨none, _, _, _, _, _⟩) ((Blk.new w12 116 #[.int .i64 0, .int .i64 0, .int .i64 0, .slice none 0 0, .slice none 0 0])) (by rfl) _ _ _ (by rfl) (by rfl) (gbc (GB.read (flip (GB.bytes x.1) i m)).2 A5 c5 B5 e5) (by rfl) (sizeGB) (by rfl) (by rfl) (gbc_one _ _ _ _ _) ?_; intro w13 h13 hu13; have hbx := ((Below.refl w12.heap.size w12).alloc (Nat.le_refl _) (.cells #[.int .i64 0, .int .i64 0, .int .i64 0, .slice none 0 0, .slice none 0 0] 116)).upd hu13 (Nat.le_refl _); have H13 := Lib.hid (And.intro (H12.out.1.below hbx).1 (And.intro (H12.out.2.1.trans (TS.below hbx H12.out.1.size H12.out.1.own)) (And.intro (H12.out.2.2.1.trans (Soft.below hbx)) (And.intro (H12.out.2.2.2.1.below hbx H12.out.2.2.2.1.lt) H12.out.2.2.2.2)))); clear hu13 hbx h13)
        | fail)
      refine (sameBytes_any (some ⟨y2, 0, none⟩) (some ⟨y, 0, none⟩) 1024 1024 1024 1024 (flip (GB.bytes x.1) i m) (GB.bytes x.1) H13.out.2.2.2.2.symm HB.out.2.2.2.symm w13 H13.out.2.2.2.1.bytes (H13.out.2.2.1.blk H8.out.2.2.2.2.1 ngU).bytes).mono ?_
      rintro e w14 ⟨he, hbx⟩
      rw [decide_eq_false hq] at he
      subst he
      obtain rfl := hbx.symm
      have H14 := Lib.hid (H8.out.2.2.2.2.2.trans H13.out.2.1.bel)
      clear hbx hq
      go_wp2
      go_ret2
      exact ⟨false, rfl, H14.out, fun h => by cases h⟩
    rw [hc]
    have HNO := Lib.hid (HT.out.2.2.2.2 (fun h => h.2 hq))
    have HQ := Lib.hid hq
    clear hc hq
    go_wp2_with (first
      | ((with_reducible show wpList _ _ _ ((⟨none, _, _, _, _, _⟩ : Oper) :: _) _ _); refine wpList_store_blk (o := ⟨none, _, _, _, _, _⟩) ((Blk.new w12 116 #[.int .i64 0, .int .i64 0, .int .i64 0, .slice none 0 0, .slice none 0 0])) (by rfl) _ _ _ (by rfl) (by rfl) (gbc (GB.read (flip (GB.bytes x.1) i m)).2 A5 c5 B5 e5) (by rfl) (sizeGB) (by rfl) (by rfl) (gbc_one _ _ _ _ _) ?_; intro w13 h13 hu13; have hbx := ((Below.refl w12.heap.size w12).alloc (Nat.le_refl _) (.cells #[.int .i64 0, .int .i64 0, .int .i64 0, .slice none 0 0, .slice none 0 0] 116)).upd hu13 (Nat.le_refl _); have H13 := Lib.hid (And.intro (H12.out.1.below hbx).1 (And.intro (H12.out.2.1.trans (TS.below hbx H12.out.1.size H12.out.1.own)) (And.intro (H12.out.2.2.1.trans (Soft.below hbx)) (And.intro (H12.out.2.2.2.1.below hbx H12.out.2.2.2.1.lt) H12.out.2.2.2.2)))); clear hu13 hbx h13)
      | fail)
    refine (sameBytes_any (some ⟨y2, 0, none⟩) (some ⟨y, 0, none⟩) 1024 1024 1024 1024 (flip (GB.bytes x.1) i m) (GB.bytes x.1) H13.out.2.2.2.2.symm HB.out.2.2.2.symm w13 H13.out.2.2.2.1.bytes (H13.out.2.2.1.blk H8.out.2.2.2.2.1 ngU).bytes).mono ?_
    rintro e w14 ⟨he, hbx⟩
    rw [decide_eq_true HQ.out] at he
    subst he
    obtain rfl := hbx.symm
    clear hbx
    go_wp2_with fail
    clear HQ
  all_goals
    obtain ⟨c, o, g1, d2, hlk, hcm, hW1, hg1n, hin, hdN, hlif⟩ := HNO.out
    have HK := Lib.hid (And.intro hlk (And.intro hcm (And.intro hW1 (And.intro hin hlif))))
    clear hlk hcm hW1 hg1n hin hdN hlif HNO
    have hC13 : Soft w13 w13 := Soft.refl _
    refine wp_region_tree (Soft w13) [] (PlanT.takes [0, 1, 2, 4] (PlanT.takes [3, 5] (.opt 6 (PlanT.takes [7, 8, 9] (.opt 10 (.opt 11 (PlanT.takes [12] .done) .no) .no)) (.opt 10 (.opt 6 (PlanT.takes [7, 8, 9] (.opt 11 (PlanT.takes [12] .done) .no)) .no) .no)))) (by kernel_rfl) (by kernel_rfl) (hC13.drew) ?_
    refine wpTree_pure _ _ _ (by rfl) (by rfl) ?_
    dsimp only [List.filterMap, List.getElem?_cons_zero, List.getElem?_cons_succ]
    repeat (go_big_quiet_step (fail))
    refine wpQuiet_nil ?_
    refine wpTree_takeL _ _ _ (by rfl) (by rfl) (hC13.drew) ?_
    dsimp only [List.filterMap, List.getElem?_cons_zero, List.getElem?_cons_succ]
    (refine wpQuiet_load_cell (fun w' hw' => (H13.out.2.2.1.trans hw').cell (i := 1) (v := .pointer (some ⟨gp, 0, none⟩)) H8.out.2.2.1 ngL rfl) (by rfl) _ _ (by rfl) (by rfl) _ Tryz.underlying65 (by rfl) ?_; simp only [Act.put, List.setIfInBounds_toArray, List.set_cons_zero, List.set_cons_succ])
    (refine wpQuiet_load_mid (fun w' hw' => range2 (b := g6) (off := 1) (u := .int .i64 x.1.2.1.1) (v := .int .i64 x.1.2.1.2.1) ((H13.out.2.2.1.trans hw').cell (i := 1) H8.out.2.2.2.1 ngB rfl) ((H13.out.2.2.1.trans hw').cell (i := 2) H8.out.2.2.2.1 ngB rfl)) (by rfl) _ _ (by rfl) (by rfl) _ Tryz.underlying113 (by rfl) (size_ref) (by rfl) ?_; simp only [Act.put, List.setIfInBounds_toArray, List.set_cons_zero, List.set_cons_succ])
    refine wpQuiet_nil ?_
    apply share (α := Nat × Value) (F := fun z wZ => GX B Y wZ gp dp g1 d1 ∧ TS B Y w13 wZ)
    · intro KK
      refine wpTree_opt _ rfl ?_ (wpTree_one _ rfl ?_)
      · go_wp2_with fail
        have hB13 : Below w13.heap.size w13 w13.drew := (Below.refl w13.heap.size w13).drew
        refine (xtread (H13.out.1.below hB13).1 H8.out.1.w0 x.1.2.1 HK.out.1).mono ?_
        rintro e w15 ⟨v1, rfl, ⟨v2, A, c5, C, e5, C5, rfl, -, -⟩, hG, hS, -⟩
        replace hS : TS B Y w13 w15 := (TS.below hB13 H13.out.1.size H13.out.1.own).trans hS
        clear hB13
        go_wp2_with fail
        refine TreeQ.in_ hS.so ?_
        refine wpTree_pure _ _ _ (by rfl) (by rfl) ?_
        dsimp only [List.filterMap, List.getElem?_cons_zero, List.getElem?_cons_succ]
        repeat (go_big_quiet_step (fail))
        refine wpQuiet_nil ?_
        refine wpTree_one _ rfl ?_
        go_wp2_with fail
        have hz5 := Blk.new w15 116 #[.int .i64 0, .int .i64 0, .int .i64 0, .slice none 0 0, .slice none 0 0]
        have hb5 := (Below.refl w15.heap.size w15).alloc (Nat.le_refl _) (.cells #[.int .i64 0, .int .i64 0, .int .i64 0, .slice none 0 0, .slice none 0 0] 116)
        have hs5 : w13.heap.size ≤ w15.heap.size := hS.st.same.size
        have hG5 := (hG.below hb5).1
        have hS5 := hS.trans (TS.below hb5 hG.size hG.own)
        refine TreeQ.in_ hS5.so ?_
        generalize w15.alloc (.cells #[.int .i64 0, .int .i64 0, .int .i64 0, .slice none 0 0, .slice none 0 0] 116) = w16 at hz5 hG5 hS5 ⊢
        clear hb5 hS hG
        refine wpTree_one _ rfl ?_
        go_wp2_with (first
          | ((with_reducible show wpList _ _ _ ((⟨none, _, _, _, _, _⟩ : Oper) :: _) _ _); refine wpList_store_blk (o := ⟨none, _, _, _, _, _⟩) (hz5) (by rfl) _ _ _ (by rfl) (by rfl) (gbc (o.getD GB.none_) A c5 C e5) (by rfl) (sizeGB) (by rfl) (by rfl) (gbc_one _ _ _ _ _) ?_; intro w17 h17 hu17)
          | fail)
        have hS7 := hS5.new hu17 hs5 H13.out.1.size H13.out.1.own
        refine TreeQ.in_ hS7.so ?_
        refine wpTree_pure _ _ _ (by rfl) (by rfl) ?_
        dsimp only [List.filterMap, List.getElem?_cons_zero, List.getElem?_cons_succ]
        repeat (go_big_quiet_step (fail))
        refine wpQuiet_nil ?_
        refine wpTree_done ?_
        have hG7 := hG5.nearT (Near.upd hu17 (List.mem_singleton_self _)) (fun x hx => by rw [List.mem_singleton.1 hx]; exact ⟨_, _, hz5, ngB⟩)
        obtain ⟨z, hz1, hz2⟩ : ∃ z : Nat × Value, w15.heap.size = z.1 ∧ .agg (gbc (o.getD GB.none_) A c5 C e5) = z.2 := ⟨(_, _), rfl, rfl⟩
        rw [hz1]
        simp only [hz2]
        exact KK z w17 ⟨hG7, hS7⟩
      · go_wp2_with fail
        have hb5 := ((Below.refl w13.heap.size w13).alloc (Nat.le_refl _) (.cells #[.int .i64 0, .int .i64 0, .int .i64 0, .slice none 0 0, .slice none 0 0] 116)).drew
        have hz5 : Blk (w13.alloc (.cells #[.int .i64 0, .int .i64 0, .int .i64 0, .slice none 0 0, .slice none 0 0] 116)).drew w13.heap.size 116 #[.int .i64 0, .int .i64 0, .int .i64 0, .slice none 0 0, .slice none 0 0] := Blk.new w13 116 #[.int .i64 0, .int .i64 0, .int .i64 0, .slice none 0 0, .slice none 0 0]
        refine TreeQ.in_ (Soft.below hb5) ?_
        generalize (w13.alloc (.cells #[.int .i64 0, .int .i64 0, .int .i64 0, .slice none 0 0, .slice none 0 0] 116)).drew = w16 at hz5 hb5 ⊢
        refine wpTree_one _ rfl ?_
        go_wp2_with fail
        refine (xtread (H13.out.1.below hb5).1 H8.out.1.w0 x.1.2.1 HK.out.1).mono ?_
        rintro e w15 ⟨v1, rfl, ⟨v2, A, c5, C, e5, C5, rfl, -, -⟩, hG, hS, -⟩
        replace hz5 := hS.so.blk hz5 ngB
        replace hS : TS B Y w13 w15 := (TS.below hb5 H13.out.1.size H13.out.1.own).trans hS
        clear hb5
        go_wp2_with fail
        refine TreeQ.in_ hS.so ?_
        refine wpTree_pure _ _ _ (by rfl) (by rfl) ?_
        dsimp only [List.filterMap, List.getElem?_cons_zero, List.getElem?_cons_succ]
        repeat (go_big_quiet_step (fail))
        refine wpQuiet_nil ?_
        refine wpTree_one _ rfl ?_
        go_wp2_with (first
          | ((with_reducible show wpList _ _ _ ((⟨none, _, _, _, _, _⟩ : Oper) :: _) _ _); refine wpList_store_blk (o := ⟨none, _, _, _, _, _⟩) (hz5) (by rfl) _ _ _ (by rfl) (by rfl) (gbc (o.getD GB.none_) A c5 C e5) (by rfl) (sizeGB) (by rfl) (by rfl) (gbc_one _ _ _ _ _) ?_; intro w17 h17 hu17)
          | fail)
        have hS7 := hS.new hu17 (Nat.le_refl _) H13.out.1.size H13.out.1.own
        refine TreeQ.in_ hS7.so ?_
        refine wpTree_pure _ _ _ (by rfl) (by rfl) ?_
        dsimp only [List.filterMap, List.getElem?_cons_zero, List.getElem?_cons_succ]
        repeat (go_big_quiet_step (fail))
        refine wpQuiet_nil ?_
        refine wpTree_done ?_
        have hG7 := hG.nearT (Near.upd hu17 (List.mem_singleton_self _)) (fun x hx => by rw [List.mem_singleton.1 hx]; exact ⟨_, _, hz5, ngB⟩)
        exact KK (w13.heap.size, .agg (gbc (o.getD GB.none_) A c5 C e5)) w17 ⟨hG7, hS7⟩
    rintro ⟨gz, vz⟩ w17 ⟨hG7, hS7⟩
    have H17 := Lib.hid (And.intro hG7 (And.intro (H13.out.2.1.trans hS7) (H13.out.2.2.1.trans hS7.so)))
    clear hG7 hS7 hC13 H13
    go_wp2_with fail
    by_cases hm : m = 0
    case' pos =>
      have hc0 : c = 0 := HK.out.2.1.trans (if_pos hm)
      subst hc0
      have kb : iu8 m = 0 := by rw [hm]; rfl
      clear hm
    case' neg =>
      have hc0 : c = 13 := HK.out.2.1.trans (if_neg hm)
      subst hc0
      have kb : (iu8 m == 0) = false := beq_eq_false_iff_ne.2 (fun e => hm (iu8_inj (e.trans (by rfl))))
      have kb2 : (iu8 m = 0) = False := eq_false (fun e => hm (iu8_inj (e.trans (by rfl))))
      clear hm
    all_goals
      have hC17 : Soft w17 w17 := Soft.refl _
      refine wp_region_tree (Soft w17) [] (PlanT.takes [0, 1, 2, 3, 4, 5] (PlanT.takes [6] (PlanT.takes [7, 8, 9, 10, 11, 12, 13, 15, 17] (PlanT.takes [14, 16] (.opt 18 (PlanT.takes [19, 20, 21, 22] .done) .no))))) (by kernel_rfl) (by kernel_rfl) (hC17.drew) ?_
      refine wpTree_pure _ _ _ (by rfl) (by rfl) ?_
      dsimp only [List.filterMap, List.getElem?_cons_zero, List.getElem?_cons_succ]
      repeat (go_big_quiet_step (fail))
      refine wpQuiet_nil ?_
      refine wpTree_takeL _ _ _ (by rfl) (by rfl) (hC17.drew) ?_
      dsimp only [List.filterMap, List.getElem?_cons_zero, List.getElem?_cons_succ]
      (refine wpQuiet_want' (by rfl) ?_; refine wpQuiet_load_cell (fun w' hw' => (H17.out.2.2.trans hw').cell (i := 5) (v := .int .u8 (iu8 m)) H8.out.2.1 ngS rfl) (by rfl) _ _ (by rfl) (by rfl) _ Tryz.underlying5 (by rfl) ?_; simp only [Act.put, List.setIfInBounds_toArray, List.set_cons_zero, List.set_cons_succ])
      refine wpQuiet_nil ?_
      refine wpTree_pure _ _ _ (by rfl) (by rfl) ?_
      dsimp only [List.filterMap, List.getElem?_cons_zero, List.getElem?_cons_succ]
      repeat (go_big_quiet_step (fail))
      refine wpQuiet_nil ?_
      refine wpTree_takeL _ _ _ (by rfl) (by rfl) (hC17.drew) ?_
      dsimp only [List.filterMap, List.getElem?_cons_zero, List.getElem?_cons_succ]
      (refine wpQuiet_want' (by rfl) ?_; refine wpQuiet_load_cell (fun w' hw' => (H17.out.2.2.trans hw').cell (i := 1) (v := .pointer (some ⟨gp, 0, none⟩)) H8.out.2.2.1 ngL rfl) (by rfl) _ _ (by rfl) (by rfl) _ Tryz.underlying65 (by rfl) ?_; simp only [Act.put, List.setIfInBounds_toArray, List.set_cons_zero, List.set_cons_succ])
      (refine wpQuiet_want' (by rfl) ?_; refine wpQuiet_load_mid (fun w' hw' => range2 (b := g6) (off := 1) (u := .int .i64 x.1.2.1.1) (v := .int .i64 x.1.2.1.2.1) ((H17.out.2.2.trans hw').cell (i := 1) H8.out.2.2.2.1 ngB rfl) ((H17.out.2.2.trans hw').cell (i := 2) H8.out.2.2.2.1 ngB rfl)) (by rfl) _ _ (by rfl) (by rfl) _ Tryz.underlying113 (by rfl) (size_ref) (by rfl) ?_; simp only [Act.put, List.setIfInBounds_toArray, List.set_cons_zero, List.set_cons_succ])
      refine wpQuiet_nil ?_
      refine wpTree_one _ rfl ?_
      go_wp2_with fail
      have hB17 : Below w17.heap.size w17 w17.drew := (Below.refl w17.heap.size w17).drew
      refine (xtinstall (H17.out.1.below hB17).1 (by have := HK.out.2.2.1; omega) x.1.2.1 y (GB.bytes x.1) 1024 HB.out.2.2.2.symm (by rw [HB.out.2.2.2]; omega) ((H17.out.2.2.blk H8.out.2.2.2.2.1 ngU).below hB17 (H17.out.2.2.blk H8.out.2.2.2.2.1 ngU).lt) HK.out.2.2.2.1).mono ?_
      rintro e w18 ⟨rfl, hG, hS⟩
      replace hS : TS B Y w17 w18 := (TS.below hB17 H17.out.1.size H17.out.1.own).trans hS
      have hC18 := hS.so
      have H18 := Lib.hid (And.intro (H8.out.1.ts hG (H17.out.2.1.trans hS) HK.out.2.2.2.2) (H8.out.2.2.2.2.2.trans (H17.out.2.1.trans hS).bel))
      clear hG hS hB17
      go_wp2_with fail
      refine TreeQ.in_ hC18 ?_
      refine wpTree_pure _ _ _ (by rfl) (by rfl) ?_
      dsimp only [List.filterMap, List.getElem?_cons_zero, List.getElem?_cons_succ]
      repeat (go_big_quiet_step (fail))
      refine wpQuiet_nil ?_
      refine wpTree_done ?_
      clear hC18 hC17
      go_wp2
      go_ret2
      exact ⟨true, rfl, H18.out.2, fun _ => ⟨d2, H18.out.1⟩⟩
end Go.Proofs.YtfoegmjpfkmggaaGreatDoor
