/- GridKeeps: a block is written. Conditions: the statement's state is known; the body can be read; the library's table is there. -/
import Derived.Test.YtfoegmjpfkmggaaGreatDoorMGridKeeps15
import Derived.Shelf.SlIterI.Nil
import Derived.Shelf.SortM.Plain
import Derived.Shelf.SortM.SortNone
import Derived.Shelf.SlMaps.Clone
import Derived.Shelf.SlicesE.Clone
import Derived.Ground.GgzProg
import Derived.Ground.SlgmProg
import Derived.Ground.SlgnProg
import Derived.Ground.SlmcProg
import Derived.Test.YtfoegmjpfkmggaaGreatDoorProg
namespace Go.Proofs.YtfoegmjpfkmggaaGreatDoor
open Go.RowKit
theorem zeroRfrun (w : World) : (zeroValue 113).run Tryz.prog w = .ok (.agg #[.int .i64 0, .int .i64 0]) w := by kernel_rfl
theorem gbok_of {k s : Int} {l : List RefT} {m : List UInt8} (h1 : 1 ≤ k ∧ k ≤ 15) (hs : 0 ≤ s ∧ s ≤ 1000) (hl : l.length ≤ 1) (ho : ∀ r ∈ l, refOk r = true) (hm : m.length ≤ 860) : GB.ok (k, (1, s, ()), l, m, ()) = true := by
  unfold GB.ok
  simp only [Bool.and_eq_true, decide_eq_true_eq, List.all_eq_true]
  refine ⟨⟨⟨⟨h1, ?_⟩, by omega⟩, hm⟩, ho⟩
  unfold refOk
  simp only [Bool.and_eq_true, decide_eq_true_eq]
  omega
/-- What a write makes of it. -/
theorem lif_put {n : Nat} {g : Grd} {d : Dsk} {L G : List KB} {k s : Int} {l : List RefT} {m : List UInt8} (h : Lif n g d (L.map Prod.fst) (G.map Prod.fst)) (hok : GB.ok (k, (1, s, ()), l, m, ()) = true) (A B : Option Addr) (N c : Nat) :
    ∃ c0 r g2 d2, gput g d none k l m s = ((c0, r), g2, d2, none) ∧ ((L.length + G.length = n ∧ c0 = 8 ∧ g2 = g ∧ d2 = d) ∨ (L.length + G.length ≠ n ∧ c0 = 0 ∧ r.2.1 = s ∧ (∀ b ∈ L ++ G, ba b.1 ≠ r.1) ∧ Lif n g2 d2 ((L ++ [((k, r, l, m, ()), A, N, B, c)]).map Prod.fst) (G.map Prod.fst))) := by
  by_cases hf : L.length + G.length = n
  · exact ⟨8, _, g, d, h.write_full (by rw [List.length_map, List.length_map]; exact hf) hok, .inl ⟨hf, rfl, rfl, rfl⟩⟩
  · obtain ⟨a, d', e1, e2, e3, e4⟩ := h.write (by rw [List.length_map, List.length_map]; exact hf) hok
    refine ⟨0, _, _, d', e1, .inr ⟨hf, rfl, rfl, fun b hb => e3 _ (by rw [← List.map_append]; exact List.mem_map_of_mem hb), ?_⟩⟩
    rw [List.map_append]; exact e4
/-- What the block that is to be written names: the lists' facts. -/
structure WrIn (B xp gp dp n : Nat) (g : Grd) (d : Dsk) (L G : List KB) (sb g7 : Nat) (k : Int) (SC : Array Value) (BA : Option Addr) (bl bc : Nat) (w0 : World) (vl vg : Value) (sl sg : List Value) (Y : List Nat) (A : Option Addr) (rl : List RefT) (N : Nat) (w : World) : Prop where
  lf : LfV B Y w xp gp dp n g d L G vl vg sl sg
  bel : Below B w0 w
  sbk : Blk w sb 73 SC
  box : Blk w g7 116 #[.int .i64 k, .int .i64 0, .int .i64 0, .slice A N N, .slice BA bl bc]
  refs : Refs w A rl
  len : N = rl.length
  rY : ∀ ad, A = some ad → ad.block ∈ Y
  le : rl.length ≤ 1
  ok : ∀ r ∈ rl, refOk r = true
  off : ∀ b, (vl.ownBlock = some b ∨ vg.ownBlock = some b) → b ≠ g7
  gB : B ≤ g7
set_option maxRecDepth 100000 in
set_option maxHeartbeats 8000000 in
theorem lfWrite_any {B xp gp dp n : Nat} {Y : List Nat} {w : World} {g : Grd} {d : Dsk} {L G : List KB} (h : Lf B Y w xp gp dp n g d L G) (hT : ∀ W, Below B w W → Tab W) (kind which at_ tear : Int) (BA : Option Addr) (bc : Nat) (body : List UInt8) (m : UInt8) (KA : Option Addr) (kl kc : Nat) (stamp : Int)
    (hb : Bytes w BA body) (hbB : body ≠ [] → ∀ ad, BA = some ad → ad.block < B) (hbl : body.length ≤ 860) (hst : 0 ≤ stamp ∧ stamp ≤ 1000) :
    Calls Tryz.prog 63 #[.pointer (some ⟨xp, 0, none⟩), .agg (stpc kind which at_ tear BA body.length bc m KA kl kc), .int .i64 stamp] w fun e w' => e = .returned (.bool true) ∧ Below B w w' ∧ ∃ Y' g' d' L', Lf B Y' w' xp gp dp n g' d' L' G := by
  have hz := zeroGBrun
  have hzr := zeroRfrun
  have hp15 : pickN which 15 < 15 := by have := pickN_lt which 15 (by omega); omega
  have hB1 : Below w.heap.size w (w.alloc (.cells (stpc kind which at_ tear BA body.length bc m KA kl kc) 73)) := (Below.refl w.heap.size w).alloc (Nat.le_refl _) _
  have hsb : Blk (w.alloc (.cells (stpc kind which at_ tear BA body.length bc m KA kl kc) 73)) w.heap.size 73 (stpc kind which at_ tear BA body.length bc m KA kl kc) := Blk.new w _ _
  have ngL : NG 71 := by unfold NG; decide
  have ngS : NG 73 := by unfold NG; decide
  have ngB : NG 116 := by unfold NG; decide
  have hBw := h.gx.size
  have H1 := Lib.hid (And.intro (h.below hB1) (And.intro hsb (hB1.mono hBw)))
  have HA := Lib.hid (And.intro hT (And.intro hb (And.intro hbB (And.intro hbl (And.intro hst hBw)))))
  clear h hB1 hsb hT hb hbB hbl hst hBw
  go_enter Tryz.func63, Tryz.ntmps63
  go_wp2_with fail
  generalize w.alloc (.cells (stpc kind which at_ tear BA body.length bc m KA kl kc) 73) = w1 at H1 ⊢
  generalize w.heap.size = sb at H1 ⊢
  have hC1 : Near [] w1 w1 := Near.refl _ _
  refine wp_region_tree (Near [] w1) [] (PlanT.takes [0, 4] (PlanT.takes [1, 5] (.opt 2 (PlanT.takes [3, 6] (.opt 7 (.opt 8 .done .no) .no)) (.opt 7 (.opt 2 (PlanT.takes [3, 6] (.opt 8 .done .no)) .no) .no)))) (by kernel_rfl) (by kernel_rfl) (hC1.drew) ?_
  refine wpTree_pure _ _ _ (by rfl) (by rfl) ?_
  dsimp only [List.filterMap, List.getElem?_cons_zero, List.getElem?_cons_succ]
  repeat (go_big_quiet_step (fail))
  refine wpQuiet_nil ?_
  refine wpTree_takeL _ _ _ (by rfl) (by rfl) (hC1.drew) ?_
  dsimp only [List.filterMap, List.getElem?_cons_zero, List.getElem?_cons_succ]
  (refine wpQuiet_load_cell (fun w' hw' => (hw'.cell H1.out.2.1.lt List.not_mem_nil).trans (H1.out.2.1.at_ 1 (v := .int .i64 which) rfl)) (by rfl) _ _ (by rfl) (by rfl) _ Tryz.underlying3 (by rfl) ?_; simp only [Act.put, List.setIfInBounds_toArray, List.set_cons_zero, List.set_cons_succ])
  (refine wpQuiet_load_cell (fun w' hw' => (hw'.cell H1.out.2.1.lt List.not_mem_nil).trans (H1.out.2.1.at_ 4 (v := .slice BA body.length bc) rfl)) (by rfl) _ _ (by rfl) (by rfl) _ Tryz.underlying39 (by rfl) ?_; simp only [Act.put, List.setIfInBounds_toArray, List.set_cons_zero, List.set_cons_succ])
  refine wpQuiet_nil ?_
  apply share (α := Nat) (F := fun g7 wZ => Blk wZ g7 116 #[.int .i64 (1 + (pickN which 15 : Int)), .int .i64 0, .int .i64 0, .slice none 0 0, .slice BA body.length bc] ∧ Below w1.heap.size w1 wZ ∧ w1.heap.size ≤ g7)
  · intro KK
    refine wpTree_opt _ rfl ?_ (wpTree_one _ rfl ?_)
    · go_wp2_with fail
      refine (pick_any which 15 (by omega) (by omega) _).mono ?_
      rintro e w2 ⟨rfl, hw⟩
      obtain rfl := hw.symm
      clear hw
      go_wp2_with fail
      refine TreeQ.in_ hC1.drew ?_
      refine wpTree_pure _ _ _ (by rfl) (by rfl) ?_
      dsimp only [List.filterMap, List.getElem?_cons_zero, List.getElem?_cons_succ]
      repeat (go_big_quiet_step (fail))
      refine wpQuiet_nil ?_
      refine wpTree_one _ rfl ?_
      go_wp2_with fail
      have hz5 : Blk (w1.alloc (.cells #[.int .i64 0, .int .i64 0, .int .i64 0, .slice none 0 0, .slice none 0 0] 116)).drew w1.heap.size 116 #[.int .i64 0, .int .i64 0, .int .i64 0, .slice none 0 0, .slice none 0 0] := Blk.new w1 116 #[.int .i64 0, .int .i64 0, .int .i64 0, .slice none 0 0, .slice none 0 0]
      have hb5 := ((Below.refl w1.heap.size w1).alloc (Nat.le_refl _) (.cells #[.int .i64 0, .int .i64 0, .int .i64 0, .slice none 0 0, .slice none 0 0] 116)).drew
      refine TreeQ.in_ (Near.below hb5) ?_
      generalize (w1.alloc (.cells #[.int .i64 0, .int .i64 0, .int .i64 0, .slice none 0 0, .slice none 0 0] 116)).drew = w5 at hz5 hb5 ⊢
      refine wpTree_one _ rfl ?_
      go_wp2_with (first
        | ((with_reducible show wpList _ _ _ ((⟨none, _, _, _, _, _⟩ : Oper) :: _) _ _); refine wpList_store_blk (o := ⟨none, _, _, _, _, _⟩) (hz5) (by rfl) _ _ _ (by rfl) (by rfl) (#[.int .i64 (1 + (pickN which 15 : Int)), .int .i64 0, .int .i64 0, .slice none 0 0, .slice BA body.length bc]) (by rfl) (sizeGB) (by rfl) (by rfl) (by simp [Value.oneCell']) ?_; intro w7 h7 hu7)
        | fail)
      have hb7 := hb5.upd hu7 (Nat.le_refl _)
      refine TreeQ.in_ (Near.below hb7) ?_
      refine wpTree_done ?_
      obtain ⟨z, hz1⟩ : ∃ z, w1.heap.size = z := ⟨_, rfl⟩
      rw [hz1] at h7 ⊢
      exact KK z w7 ⟨h7, hb7, Nat.le_of_eq hz1⟩
    · go_wp2_with fail
      have hz5 : Blk (w1.alloc (.cells #[.int .i64 0, .int .i64 0, .int .i64 0, .slice none 0 0, .slice none 0 0] 116)).drew w1.heap.size 116 #[.int .i64 0, .int .i64 0, .int .i64 0, .slice none 0 0, .slice none 0 0] := Blk.new w1 116 #[.int .i64 0, .int .i64 0, .int .i64 0, .slice none 0 0, .slice none 0 0]
      have hb5 := ((Below.refl w1.heap.size w1).alloc (Nat.le_refl _) (.cells #[.int .i64 0, .int .i64 0, .int .i64 0, .slice none 0 0, .slice none 0 0] 116)).drew
      refine TreeQ.in_ (Near.below hb5) ?_
      generalize (w1.alloc (.cells #[.int .i64 0, .int .i64 0, .int .i64 0, .slice none 0 0, .slice none 0 0] 116)).drew = w5 at hz5 hb5 ⊢
      refine wpTree_one _ rfl ?_
      go_wp2_with fail
      refine (pick_any which 15 (by omega) (by omega) _).mono ?_
      rintro e w2 ⟨rfl, hw⟩
      obtain rfl := hw.symm
      clear hw
      go_wp2_with fail
      refine TreeQ.in_ (Near.below hb5) ?_
      refine wpTree_pure _ _ _ (by rfl) (by rfl) ?_
      dsimp only [List.filterMap, List.getElem?_cons_zero, List.getElem?_cons_succ]
      repeat (go_big_quiet_step (fail))
      refine wpQuiet_nil ?_
      refine wpTree_one _ rfl ?_
      go_wp2_with (first
        | ((with_reducible show wpList _ _ _ ((⟨none, _, _, _, _, _⟩ : Oper) :: _) _ _); refine wpList_store_blk (o := ⟨none, _, _, _, _, _⟩) (hz5) (by rfl) _ _ _ (by rfl) (by rfl) (#[.int .i64 (1 + (pickN which 15 : Int)), .int .i64 0, .int .i64 0, .slice none 0 0, .slice BA body.length bc]) (by rfl) (sizeGB) (by rfl) (by rfl) (by simp [Value.oneCell']) ?_; intro w7 h7 hu7)
        | fail)
      have hb7 := hb5.upd hu7 (Nat.le_refl _)
      refine TreeQ.in_ (Near.below hb7) ?_
      refine wpTree_done ?_
      exact KK w1.heap.size w7 ⟨h7, hb7, Nat.le_refl _⟩
  rintro g7 w7 ⟨h7, hb7, hg7⟩
  obtain ⟨vl, vg, sl, sg, hV1⟩ := H1.out.1.v
  have hL7 := hV1.below hb7
  have hoff : ∀ b, (vl.ownBlock = some b ∨ vg.ownBlock = some b) → b ≠ g7 := fun b hb => by have := hV1.lt b hb; omega
  have hs7 := H1.out.2.1.below hb7 H1.out.2.1.lt
  have hB7 := H1.out.2.2.trans (hb7.mono H1.out.1.gx.size)
  have hx := hL7.xb
  have hl := hL7.ol
  have hg7B : B ≤ g7 := Nat.le_trans H1.out.1.gx.size hg7
  obtain ⟨A2, c2, rfl, hc2, hc2m, hr2, -⟩ := OwnsC.reads hl
  have d2 := hx.at_ 2 (v := .slice A2 L.length c2) rfl
  have hfew := hL7.lf.few
  have hlL : L.length ≤ 12 := hfew.2.1
  have H7 := Lib.hid (And.intro hL7 (And.intro hs7 (And.intro hB7 (And.intro h7 (And.intro hx (And.intro hr2 (And.intro hfew (And.intro hoff hg7B))))))))
  clear hL7 hs7 hB7 hx hl hr2 hfew hc2 hc2m h7 hb7 hC1 H1 hV1 hoff hg7 hg7B
  by_cases hL0 : 0 < L.length
  case' neg =>
    have kn : decide ((L.length : Int) > 0) = false := decide_eq_false (by omega)
    have kn2 : (0 < L.length) = False := eq_false hL0
    clear hL0
    go_wp2_with fail
    obtain ⟨Y', A, rl, N, w8, hw8, HW⟩ : ∃ Y' A rl N w8, w7 = w8 ∧ Hid (WrIn B xp gp dp n g d L G sb g7 (1 + (pickN which 15 : Int)) (stpc kind which at_ tear BA body.length bc m KA kl kc) BA body.length bc w (.slice A2 L.length c2) vg sl sg Y' A rl N w8) :=
      ⟨Y, none, [], 0, w7, rfl, Lib.hid ⟨H7.out.1, H7.out.2.2.1, H7.out.2.1, H7.out.2.2.2.1, fun h => absurd h (by simp), rfl, fun ad e => (by cases e), Nat.zero_le _, fun r hr => (by cases hr), H7.out.2.2.2.2.2.2.2.1, H7.out.2.2.2.2.2.2.2.2⟩⟩
    rw [hw8]
    clear hw8
    generalize Value.slice A2 L.length c2 = vl at HW
    clear kn kn2 d2 H7
  case' pos =>
    have kn : decide ((L.length : Int) > 0) = true := decide_eq_true (by omega)
    have hwi : pickN which (L.length : Int) < L.length := by have := pickN_lt which (L.length : Int) (by omega); omega
    generalize hwq : pickN which (L.length : Int) = wi at hwi
    obtain ⟨x, hx0⟩ : ∃ x, L[wi]? = some x := ⟨_, List.getElem?_eq_getElem hwi⟩
    obtain ⟨b2, o2, rfl, hcl⟩ := H7.out.2.2.2.2.2.1 (fun e => by have := congrArg List.length e; rw [kcells_length, List.length_nil] at this; omega)
    have qa : ∀ j v, (kcs x)[j]? = some v → w7.cell? ⟨b2, o2 + wi * 5 + j, none⟩ = some v := fun j v hv => by rw [Nat.add_assoc]; exact hcl _ _ (kcells_at _ wi x hx0 j v hv)
    have hbl2 : b2 < w7.heap.size := World.block_lt_of_cell? w7 _ (qa 0 _ rfl)
    have HQ := Lib.hid (And.intro qa (And.intro hbl2 (And.intro hx0 (And.intro hwi hL0))))
    clear qa hcl hx0 hbl2 hL0
    go_wp2_with fail
    clear kn d2
    have hC7 : Near [] w7 w7 := Near.refl _ _
    refine wp_region_tree (Near [] w7) [17] (PlanT.takes [0, 1, 2, 4, 6, 7, 8] (PlanT.takes [3, 5, 9] (PlanT.takes [10] (.opt 11 (PlanT.takes [12, 13] (PlanT.takes [14] (.opt 15 (PlanT.takes [16] (.opt 17 .done .no)) .no))) .no)))) (by kernel_rfl) (by kernel_rfl) (hC7.drew) ?_
    refine wpTree_pure _ _ _ (by rfl) (by rfl) ?_
    dsimp only [List.filterMap, List.getElem?_cons_zero, List.getElem?_cons_succ]
    repeat (go_big_quiet_step (fail))
    refine wpQuiet_nil ?_
    refine wpTree_takeL _ _ _ (by rfl) (by rfl) (hC7.drew) ?_
    dsimp only [List.filterMap, List.getElem?_cons_zero, List.getElem?_cons_succ]
    (refine wpQuiet_load_cell (fun w' hw' => (hw'.cell H7.out.2.2.2.2.1.lt List.not_mem_nil).trans (H7.out.2.2.2.2.1.at_ 2 (v := .slice (some ⟨b2, o2, none⟩) L.length c2) rfl)) (by rfl) _ _ (by rfl) (by rfl) _ Tryz.underlying69 (by rfl) ?_; simp only [Act.put, List.setIfInBounds_toArray, List.set_cons_zero, List.set_cons_succ])
    (refine wpQuiet_load_cell (fun w' hw' => (hw'.cell H7.out.2.1.lt List.not_mem_nil).trans (H7.out.2.1.at_ 1 (v := .int .i64 which) rfl)) (by rfl) _ _ (by rfl) (by rfl) _ Tryz.underlying3 (by rfl) ?_; simp only [Act.put, List.setIfInBounds_toArray, List.set_cons_zero, List.set_cons_succ])
    (refine wpQuiet_load_cell (fun w' hw' => (hw'.cell H7.out.2.2.2.2.1.lt List.not_mem_nil).trans (H7.out.2.2.2.2.1.at_ 2 (v := .slice (some ⟨b2, o2, none⟩) L.length c2) rfl)) (by rfl) _ _ (by rfl) (by rfl) _ Tryz.underlying69 (by rfl) ?_; simp only [Act.put, List.setIfInBounds_toArray, List.set_cons_zero, List.set_cons_succ])
    refine wpQuiet_nil ?_
    refine wpTree_pure _ _ _ (by rfl) (by rfl) ?_
    dsimp only [List.filterMap, List.getElem?_cons_zero, List.getElem?_cons_succ]
    repeat (go_big_quiet_step (fail))
    refine wpQuiet_nil ?_
    refine wpTree_one _ rfl ?_
    go_wp2_with fail
    refine (pick_any which (L.length : Int) (by omega) (by have := HQ.out.2.2.2.2; omega) _).mono ?_
    rintro e w2 ⟨rfl, hw⟩
    obtain rfl := hw.symm
    clear hw
    rw [hwq]
    go_wp2_with fail
    refine TreeQ.in_ hC7.drew ?_
    refine wpTree_pure _ _ _ (by rfl) (by rfl) ?_
    dsimp only [List.filterMap, List.getElem?_cons_zero, List.getElem?_cons_succ]
    repeat (go_big_quiet_step (fail))
    refine wpQuiet_nil ?_
    refine wpTree_takeL _ _ _ (by rfl) (by rfl) (hC7.drew) ?_
    dsimp only [List.filterMap, List.getElem?_cons_zero, List.getElem?_cons_succ]
    (refine wpQuiet_load_mid (fun w' hw' => range2 (b := b2) (off := o2 + wi * 5 + 1) (u := .int .i64 x.1.2.1.1) (v := .int .i64 x.1.2.1.2.1) ((hw'.cell (p := ⟨b2, o2 + wi * 5 + 1, none⟩) HQ.out.2.1 List.not_mem_nil).trans (HQ.out.1 1 _ rfl)) ((hw'.cell (p := ⟨b2, o2 + wi * 5 + 2, none⟩) HQ.out.2.1 List.not_mem_nil).trans (HQ.out.1 2 _ rfl))) (by rfl) _ _ (by rfl) (by rfl) _ Tryz.underlying113 (by rfl) (size_ref) (by rfl) ?_; simp only [Act.put, List.setIfInBounds_toArray, List.set_cons_zero, List.set_cons_succ])
    refine wpQuiet_nil ?_
    refine wpTree_one _ rfl ?_
    go_wp2_with fail
    have hb8 := ((Below.refl w7.heap.size w7).alloc (Nat.le_refl _) (.cells #[.int .i64 x.1.2.1.1, .int .i64 x.1.2.1.2.1] 113)).drew
    have hr8 : Blk (w7.alloc (.cells #[.int .i64 x.1.2.1.1, .int .i64 x.1.2.1.2.1] 113)).drew w7.heap.size 113 #[.int .i64 x.1.2.1.1, .int .i64 x.1.2.1.2.1] := Blk.new w7 113 #[.int .i64 x.1.2.1.1, .int .i64 x.1.2.1.2.1]
    have hrr : Refs (w7.alloc (.cells #[.int .i64 x.1.2.1.1, .int .i64 x.1.2.1.2.1] 113)).drew (some ⟨w7.heap.size, 0, none⟩) [x.1.2.1] := Refs.of (reads_new w7 113 [.int .i64 x.1.2.1.1, .int .i64 x.1.2.1.2.1])
    refine TreeQ.in_ (Near.below hb8) ?_
    have hx8 := H7.out.2.2.2.1.below hb8 H7.out.2.2.2.1.lt
    have hL8 : LfV B (w7.heap.size :: Y) (w7.alloc (.cells #[.int .i64 x.1.2.1.1, .int .i64 x.1.2.1.2.1] 113)).drew xp gp dp n g d L G (.slice (some ⟨b2, o2, none⟩) L.length c2) vg sl sg := (H7.out.1.below hb8).addY H7.out.1.gx hb8 (Nat.le_refl _) hr8
    have hs8 := H7.out.2.1.below hb8 H7.out.2.1.lt
    have hB8 := H7.out.2.2.1.trans (hb8.mono H7.out.1.gx.size)
    have hge := Nat.le_trans H7.out.1.gx.size (Nat.le_refl w7.heap.size)
    clear hb8 hr8
    generalize (w7.alloc (.cells #[.int .i64 x.1.2.1.1, .int .i64 x.1.2.1.2.1] 113)).drew = w9 at hrr hx8 hL8 hs8 hB8 ⊢
    generalize w7.heap.size = rb at hrr hL8 hge ⊢
    refine wpTree_pure _ _ _ (by rfl) (by rfl) ?_
    dsimp only [List.filterMap, List.getElem?_cons_zero, List.getElem?_cons_succ]
    repeat (go_big_quiet_step (fail))
    refine wpQuiet_nil ?_
    refine wpTree_one _ rfl ?_
    have f3 := hx8.frozen 3
    have d3 := hx8.at_ 3 (v := .slice none 0 0) rfl
    have hu := (Upd.refl g7 w9).set 3 (.slice (some ⟨rb, 0, none⟩) 1 1)
    have hN := Near.upd hu (List.mem_singleton_self g7)
    have HX8 := Lib.hid (And.intro hx8 (And.intro hN (And.intro hL8 (And.intro hs8 (And.intro hB8 (And.intro hrr hge))))))
    clear hx8 hu hN hL8 hs8 hB8 hrr hge
    go_wp2_with fail
    refine TreeQ.out (by rfl) ?_
    refine wpTree_done ?_
    have hN := HX8.out.2.1
    have hne7 : g7 ≠ sb := HX8.out.1.apart HX8.out.2.2.2.1 (by decide)
    obtain ⟨Y', A, rl, N, w8, hw8, HW⟩ : ∃ Y' A rl N w8, w9.setCell ⟨g7, 3, none⟩ (.slice (some ⟨rb, 0, none⟩) 1 1) = w8 ∧ Hid (WrIn B xp gp dp n g d L G sb g7 (1 + (pickN which 15 : Int)) (stpc kind which at_ tear BA body.length bc m KA kl kc) BA body.length bc w (.slice (some ⟨b2, o2, none⟩) L.length c2) vg sl sg Y' A rl N w8) := by
      refine ⟨rb :: Y, some ⟨rb, 0, none⟩, [x.1.2.1], 1, _, rfl, Lib.hid ⟨HX8.out.2.2.1.near hN (fun z hz => ?_), HX8.out.2.2.2.2.1.trans (hN.toBelow (fun z hz => ?_) HX8.out.2.2.1.gx.size), HX8.out.2.2.2.1.near hN (fun hm => hne7 (List.mem_singleton.1 hm).symm), HX8.out.1.set_ 3 _, HX8.out.2.2.2.2.2.1.near hN (fun ad e hm => ?_), rfl, fun ad e => (by cases e; exact List.mem_cons_self), Nat.le_refl _, fun r hr => ?_, H7.out.2.2.2.2.2.2.2.1, H7.out.2.2.2.2.2.2.2.2⟩⟩
      · rw [List.mem_singleton.1 hz]
        exact ⟨H7.out.2.2.2.2.2.2.2.2, ⟨_, _, HX8.out.1, ngB⟩, HX8.out.1.apart HX8.out.2.2.1.xb (by decide), H7.out.2.2.2.2.2.2.2.1⟩
      · rw [List.mem_singleton.1 hz]; exact H7.out.2.2.2.2.2.2.2.2
      · cases e
        obtain ⟨cs, hb⟩ := HX8.out.2.2.1.yR rb List.mem_cons_self
        exact HX8.out.1.apart hb (by decide) (List.mem_singleton.1 hm).symm
      · rw [List.mem_singleton.1 hr]
        exact (GB.ok_spec (H7.out.1.lif.ok _ (H7.out.1.lf.mem (List.mem_append_left _ (List.mem_of_getElem? HQ.out.2.2.1))))).2.1
    rw [hw8]
    generalize Value.slice (some ⟨b2, o2, none⟩) L.length c2 = vl at HW
    clear hw8 HX8 f3 d3 hN hne7 H7 HQ hC7 hwq hwi
    go_wp2_with fail
  all_goals
    obtain ⟨A3, c3, hvl, hc3, hc3m, hr3, -⟩ := OwnsC.reads HW.out.lf.ol
    obtain ⟨A4, c4, hvg, hc4, hc4m, hr4, -⟩ := OwnsC.reads HW.out.lf.og
    subst hvl hvg
    obtain ⟨kk, hkk⟩ : ∃ kk : Int, 1 + (pickN which 15 : Int) = kk := ⟨_, rfl⟩
    have hok : GB.ok (kk, (1, stamp, ()), rl, body, ()) = true := gbok_of (by omega) HA.out.2.2.2.2.1 HW.out.le HW.out.ok HA.out.2.2.2.1
    obtain ⟨c0, r, g2, d2, hput, hout⟩ := lif_put HW.out.lf.lif hok A BA N bc
    have hfew := HW.out.lf.lf.few
    rw [hkk] at HW
    have HP := Lib.hid (And.intro hput (And.intro hout (And.intro hr3 (And.intro hr4 (And.intro hfew (And.intro hkk hok))))))
    clear hput hout hr3 hr4 hc3 hc3m hc4 hc4m hfew hkk hok hp15 hlL
    have hC8 : Soft w8 w8 := Soft.refl _
    refine wp_region_tree (Soft w8) [] (PlanT.takes [0, 1, 2, 4, 6, 8, 10] (PlanT.takes [3, 5, 7, 9] (.opt 11 (PlanT.takes [12, 13, 14] (.opt 15 (.opt 16 (PlanT.takes [17] .done) .no) .no)) (.opt 15 (.opt 11 (PlanT.takes [12, 13, 14] (.opt 16 (PlanT.takes [17] .done) .no)) .no) .no)))) (by kernel_rfl) (by kernel_rfl) (hC8.drew) ?_
    refine wpTree_pure _ _ _ (by rfl) (by rfl) ?_
    dsimp only [List.filterMap, List.getElem?_cons_zero, List.getElem?_cons_succ]
    repeat (go_big_quiet_step (fail))
    refine wpQuiet_nil ?_
    refine wpTree_takeL _ _ _ (by rfl) (by rfl) (hC8.drew) ?_
    dsimp only [List.filterMap, List.getElem?_cons_zero, List.getElem?_cons_succ]
    (refine wpQuiet_load_cell (fun w' hw' => hw'.cell (i := 1) (v := .pointer (some ⟨gp, 0, none⟩)) HW.out.lf.xb ngL rfl) (by rfl) _ _ (by rfl) (by rfl) _ Tryz.underlying65 (by rfl) ?_; simp only [Act.put, List.setIfInBounds_toArray, List.set_cons_zero, List.set_cons_succ])
    (refine wpQuiet_load_cell (fun w' hw' => hw'.cell (i := 0) (v := .int .i64 kk) HW.out.box ngB rfl) (by rfl) _ _ (by rfl) (by rfl) _ Tryz.underlying3 (by rfl) ?_; simp only [Act.put, List.setIfInBounds_toArray, List.set_cons_zero, List.set_cons_succ])
    (refine wpQuiet_load_cell (fun w' hw' => hw'.cell (i := 3) (v := .slice A N N) HW.out.box ngB rfl) (by rfl) _ _ (by rfl) (by rfl) _ Tryz.underlying114 (by rfl) ?_; simp only [Act.put, List.setIfInBounds_toArray, List.set_cons_zero, List.set_cons_succ])
    (refine wpQuiet_load_cell (fun w' hw' => hw'.cell (i := 4) (v := .slice BA body.length bc) HW.out.box ngB rfl) (by rfl) _ _ (by rfl) (by rfl) _ Tryz.underlying39 (by rfl) ?_; simp only [Act.put, List.setIfInBounds_toArray, List.set_cons_zero, List.set_cons_succ])
    refine wpQuiet_nil ?_
    apply share (α := Nat) (F := fun g8 wZ => GX B Y' wZ gp dp g2 d2 ∧ TS B Y' w8 wZ ∧ Blk wZ g8 113 #[.int .i64 r.1, .int .i64 r.2.1])
    · intro KK
      have hB8 : Below w8.heap.size w8 w8.drew := (Below.refl w8.heap.size w8).drew
      have hGs := HW.out.lf.gx.size
      have hGo := HW.out.lf.gx.own
      refine wpTree_opt _ rfl ?_ (wpTree_one _ rfl ?_)
      · go_wp2_with fail
        refine (xtwrite (HW.out.lf.gx.below hB8).1 kk stamp A BA N N body.length bc rl body HW.out.len rfl (by have := HW.out.le; omega) (by have := HA.out.2.2.2.1; omega) (HW.out.refs.below hB8) (Bytes.below (HA.out.2.1.lowB HA.out.2.2.1 HW.out.bel HA.out.2.2.2.2.2) hB8) (HA.out.1 _ (HW.out.bel.trans (hB8.mono hGs))) HP.out.1).mono ?_
        rintro e w9 ⟨rfl, hG, hS⟩
        replace hS : TS B Y' w8 w9 := (TS.below hB8 hGs hGo).trans hS
        clear hB8
        go_wp2_with fail
        refine TreeQ.in_ hS.so ?_
        refine wpTree_pure _ _ _ (by rfl) (by rfl) ?_
        dsimp only [List.filterMap, List.getElem?_cons_zero, List.getElem?_cons_succ]
        repeat (go_big_quiet_step (fail))
        refine wpQuiet_nil ?_
        refine wpTree_one _ rfl ?_
        go_wp2_with fail
        have hz5 := Blk.new w9 113 #[.int .i64 0, .int .i64 0]
        have hb5 := (Below.refl w9.heap.size w9).alloc (Nat.le_refl _) (.cells #[.int .i64 0, .int .i64 0] 113)
        have hs5 : w8.heap.size ≤ w9.heap.size := hS.st.same.size
        have hG5 := (hG.add hb5 (Nat.le_refl _) hz5.lt)
        have hS5 := hS.trans (TS.below hb5 hG.size hG.own)
        refine TreeQ.in_ hS5.so ?_
        generalize w9.alloc (.cells #[.int .i64 0, .int .i64 0] 113) = w10 at hz5 hG5 hS5 ⊢
        clear hb5 hS hG
        refine wpTree_one _ rfl ?_
        go_wp2_with (first
          | ((with_reducible show wpList _ _ _ ((⟨none, _, _, _, _, _⟩ : Oper) :: _) _ _); refine wpList_store_blk (o := ⟨none, _, _, _, _, _⟩) (hz5) (by rfl) _ _ _ (by rfl) (by rfl) (#[.int .i64 r.1, .int .i64 r.2.1]) (by rfl) (size_ref) (by rfl) (by rfl) (by simp [Value.oneCell']) ?_; intro w11 h11 hu11)
          | fail)
        have hS7 := hS5.new hu11 hs5 hGs hGo
        refine TreeQ.in_ hS7.so ?_
        refine wpTree_pure _ _ _ (by rfl) (by rfl) ?_
        dsimp only [List.filterMap, List.getElem?_cons_zero, List.getElem?_cons_succ]
        repeat (go_big_quiet_step (fail))
        refine wpQuiet_nil ?_
        refine wpTree_done ?_
        have hG7 := (hG5.wrote (Near.upd hu11 (List.mem_singleton_self _)) (fun x hx => by rw [List.mem_singleton.1 hx]; exact List.mem_cons_self)).sub (fun y hy => List.mem_cons_of_mem _ hy)
        obtain ⟨z, hz1⟩ : ∃ z, w9.heap.size = z := ⟨_, rfl⟩
        rw [hz1] at h11 ⊢
        exact KK z w11 ⟨hG7, hS7, h11⟩
      · go_wp2_with fail
        have hb5 := ((Below.refl w8.heap.size w8).alloc (Nat.le_refl _) (.cells #[.int .i64 0, .int .i64 0] 113)).drew
        have hz5 : Blk (w8.alloc (.cells #[.int .i64 0, .int .i64 0] 113)).drew w8.heap.size 113 #[.int .i64 0, .int .i64 0] := Blk.new w8 113 #[.int .i64 0, .int .i64 0]
        refine TreeQ.in_ (Soft.below hb5) ?_
        generalize (w8.alloc (.cells #[.int .i64 0, .int .i64 0] 113)).drew = w10 at hz5 hb5 ⊢
        refine wpTree_one _ rfl ?_
        go_wp2_with fail
        refine (xtwrite (HW.out.lf.gx.add hb5 (Nat.le_refl _) hz5.lt) kk stamp A BA N N body.length bc rl body HW.out.len rfl (by have := HW.out.le; omega) (by have := HA.out.2.2.2.1; omega) (HW.out.refs.below hb5) (Bytes.below (HA.out.2.1.lowB HA.out.2.2.1 HW.out.bel HA.out.2.2.2.2.2) hb5) (HA.out.1 _ (HW.out.bel.trans (hb5.mono hGs))) HP.out.1).mono ?_
        rintro e w9 ⟨rfl, hG, hS⟩
        replace hz5 := hS.st.same.blk hz5 List.mem_cons_self
        replace hS : TS B Y' w8 w9 := (TS.below hb5 hGs hGo).trans (hS.sub (fun y hy => List.mem_cons_of_mem _ hy))
        clear hb5 hB8
        go_wp2_with fail
        refine TreeQ.in_ hS.so ?_
        refine wpTree_pure _ _ _ (by rfl) (by rfl) ?_
        dsimp only [List.filterMap, List.getElem?_cons_zero, List.getElem?_cons_succ]
        repeat (go_big_quiet_step (fail))
        refine wpQuiet_nil ?_
        refine wpTree_one _ rfl ?_
        go_wp2_with (first
          | ((with_reducible show wpList _ _ _ ((⟨none, _, _, _, _, _⟩ : Oper) :: _) _ _); refine wpList_store_blk (o := ⟨none, _, _, _, _, _⟩) (hz5) (by rfl) _ _ _ (by rfl) (by rfl) (#[.int .i64 r.1, .int .i64 r.2.1]) (by rfl) (size_ref) (by rfl) (by rfl) (by simp [Value.oneCell']) ?_; intro w11 h11 hu11)
          | fail)
        have hS7 := hS.new hu11 (Nat.le_refl _) hGs hGo
        refine TreeQ.in_ hS7.so ?_
        refine wpTree_pure _ _ _ (by rfl) (by rfl) ?_
        dsimp only [List.filterMap, List.getElem?_cons_zero, List.getElem?_cons_succ]
        repeat (go_big_quiet_step (fail))
        refine wpQuiet_nil ?_
        refine wpTree_done ?_
        have hG7 := (hG.wrote (Near.upd hu11 (List.mem_singleton_self _)) (fun x hx => by rw [List.mem_singleton.1 hx]; exact List.mem_cons_self)).sub (fun y hy => List.mem_cons_of_mem _ hy)
        exact KK w8.heap.size w11 ⟨hG7, hS7, h11⟩
    rintro g8 w11 ⟨hG, hS, h8⟩
    have H11 := Lib.hid (And.intro hG (And.intro hS h8))
    clear hG hS h8 hC8
    go_wp2_with fail
    have hlL : L.length ≤ 12 := HP.out.2.2.2.2.1.2.1
    have hlG : G.length ≤ 12 := HP.out.2.2.2.2.1.2.2
    have hC11 : Soft w11 w11 := Soft.refl _
    refine wp_region_tree (Soft w11) [] (PlanT.takes [0, 1, 2, 5, 6, 7, 11, 12, 13] (PlanT.takes [3, 8, 14] (PlanT.takes [4, 9, 10, 15] .done))) (by kernel_rfl) (by kernel_rfl) (hC11.drew) ?_
    refine wpTree_pure _ _ _ (by rfl) (by rfl) ?_
    dsimp only [List.filterMap, List.getElem?_cons_zero, List.getElem?_cons_succ]
    repeat (go_big_quiet_step (fail))
    refine wpQuiet_nil ?_
    refine wpTree_takeL _ _ _ (by rfl) (by rfl) (hC11.drew) ?_
    dsimp only [List.filterMap, List.getElem?_cons_zero, List.getElem?_cons_succ]
    (refine wpQuiet_load_cell (fun w' hw' => (H11.out.2.1.so.trans hw').cell (i := 2) (v := .slice A3 L.length c3) HW.out.lf.xb ngL rfl) (by rfl) _ _ (by rfl) (by rfl) _ Tryz.underlying69 (by rfl) ?_; simp only [Act.put, List.setIfInBounds_toArray, List.set_cons_zero, List.set_cons_succ])
    (refine wpQuiet_load_cell (fun w' hw' => (H11.out.2.1.so.trans hw').cell (i := 3) (v := .slice A4 G.length c4) HW.out.lf.xb ngL rfl) (by rfl) _ _ (by rfl) (by rfl) _ Tryz.underlying69 (by rfl) ?_; simp only [Act.put, List.setIfInBounds_toArray, List.set_cons_zero, List.set_cons_succ])
    (refine wpQuiet_load_cell (fun w' hw' => (H11.out.2.1.so.trans hw').cell (i := 4) (v := .int .i64 (n : Int)) HW.out.lf.xb ngL rfl) (by rfl) _ _ (by rfl) (by rfl) _ Tryz.underlying3 (by rfl) ?_; simp only [Act.put, List.setIfInBounds_toArray, List.set_cons_zero, List.set_cons_succ])
    refine wpQuiet_nil ?_
    refine wpTree_pure _ _ _ (by rfl) (by rfl) ?_
    dsimp only [List.filterMap, List.getElem?_cons_zero, List.getElem?_cons_succ]
    repeat (go_big_quiet_step (fail))
    refine wpQuiet_nil ?_
    refine wpTree_done ?_
    have hBd : Below w11.heap.size w11 w11.drew := (Below.refl w11.heap.size w11).drew
    have H12 := Lib.hid (And.intro (H11.out.1.below hBd).1 (And.intro (H11.out.2.1.trans (TS.below hBd H11.out.1.size H11.out.1.own)) (H11.out.2.2.below hBd H11.out.2.2.lt)))
    clear hC11 hBd H11
    generalize w11.drew = w12 at H12 ⊢
    rcases HP.out.2.1 with ⟨f1, rfl, rfl, rfl⟩ | ⟨f1, rfl, f3, f4, f5⟩
    · have k5 : ((L.length : Int) + (G.length : Int) == (n : Int)) = true := by rw [beq_iff_eq]; omega
      have k6 : ((L.length : Int) + (G.length : Int) = (n : Int)) = True := eq_true (by omega)
      have hV := HW.out.lf.ts H12.out.1 H12.out.2.1 HW.out.lf.lif
      have HE := Lib.hid (And.intro hV.lf (HW.out.bel.trans H12.out.2.1.bel))
      clear hV f1
      go_wp2
      go_ret
      exact ⟨rfl, HE.out.2, _, _, _, _, HE.out.1⟩
    have k5 : ((L.length : Int) + (G.length : Int) == (n : Int)) = false := by rw [beq_eq_false_iff_ne]; omega
    have k6 : ((L.length : Int) + (G.length : Int) = (n : Int)) = False := eq_false (by omega)
    have HN := Lib.hid (And.intro f1 (And.intro f3 (And.intro f4 f5)))
    clear f1 f3 f4 f5
    go_wp2_with fail
    clear k5 k6
    -- all that is there, or was let go
    have hn1 := HP.out.2.2.2.2.1
    have hB12 : Below w12.heap.size w12 (w12.alloc (.cells #[] 116)).drew := ((Below.refl w12.heap.size w12).alloc (Nat.le_refl _) _).drew
    have hlS : OwnsC 116 5 w12 B (.slice A3 L.length c3) L.length (kcells L) sl := OwnsC.soft HW.out.lf.ol H12.out.2.1.so ngB
    have hgS : OwnsC 116 5 w12 B (.slice A4 G.length c4) G.length (kcells G) sg := OwnsC.soft HW.out.lf.og H12.out.2.1.so ngB
    have hxS := H12.out.2.1.so.blk HW.out.lf.xb ngL
    have hcl : Reads w12 A3 (kcells L) := by obtain ⟨A', c', e, -, -, hr, -⟩ := OwnsC.reads hlS; cases e; exact hr
    have hcg : Reads w12 A4 (kcells G) := by obtain ⟨A', c', e, -, -, hr, -⟩ := OwnsC.reads hgS; cases e; exact hr
    have HR := Lib.hid (And.intro hlS (And.intro hgS (And.intro hxS (And.intro hcl hcg))))
    clear hlS hgS hxS hcl hcg
    have hC12 : Near [] w12 w12 := Near.refl _ _
    refine wp_region_tree (Near [] w12) [] (PlanT.takes [1, 2, 3, 6, 7, 8] (PlanT.takes [4, 9] (.opt 0 (.opt 5 (.opt 10 (PlanT.takes [11] .done) .no) .no) .no))) (by kernel_rfl) (by kernel_rfl) (hC12.drew) ?_
    refine wpTree_pure _ _ _ (by rfl) (by rfl) ?_
    dsimp only [List.filterMap, List.getElem?_cons_zero, List.getElem?_cons_succ]
    repeat (go_big_quiet_step (fail))
    refine wpQuiet_nil ?_
    refine wpTree_takeL _ _ _ (by rfl) (by rfl) (hC12.drew) ?_
    dsimp only [List.filterMap, List.getElem?_cons_zero, List.getElem?_cons_succ]
    (refine wpQuiet_load_cell (fun w' hw' => (hw'.cell HR.out.2.2.1.lt List.not_mem_nil).trans (HR.out.2.2.1.at_ 2 (v := .slice A3 L.length c3) rfl)) (by rfl) _ _ (by rfl) (by rfl) _ Tryz.underlying69 (by rfl) ?_; simp only [Act.put, List.setIfInBounds_toArray, List.set_cons_zero, List.set_cons_succ])
    (refine wpQuiet_load_cell (fun w' hw' => (hw'.cell HR.out.2.2.1.lt List.not_mem_nil).trans (HR.out.2.2.1.at_ 3 (v := .slice A4 G.length c4) rfl)) (by rfl) _ _ (by rfl) (by rfl) _ Tryz.underlying69 (by rfl) ?_; simp only [Act.put, List.setIfInBounds_toArray, List.set_cons_zero, List.set_cons_succ])
    refine wpQuiet_nil ?_
    refine wpTree_one _ rfl ?_
    go_wp2_with fail
    have ho1 : OwnsC 116 5 (w12.alloc (.cells #[] 116)).drew w12.heap.size (.slice (some ⟨w12.heap.size, 0, none⟩) 0 0) 0 [] [] := OwnsC.lit (e := 116) (size := 5) (base := w12.heap.size) w12 #[] 0 (Nat.le_refl _) (by simp) (by simp)
    refine TreeQ.in_ (Near.below hB12) ?_
    refine wpTree_one _ rfl ?_
    go_wp2_with (first
      | ((with_reducible show wpList _ _ _ ((⟨some 80, _, _, _, _, _⟩ : Oper) :: _) _ _); refine wpList_append_vals (o := ⟨some 80, _, _, _, _, _⟩) (by rfl) _ _ _ (by rfl) (w12.heap.size) 116 (.agg zeroGB) 5 72 Tryz.underlying69 infoGB (by rfl) (by omega) (.slice (some ⟨w12.heap.size, 0, none⟩) 0 0) (0) ([]) ([]) (by rfl) (ho1) (A3) (L.length) (c3) (kcells L) (by rfl) (kcells_length L) (HR.out.2.2.2.1.below hB12) (kcells_one L) (by have := hn1; simp only [maxLen]; omega) (by have := hn1; omega) (hB12.size) ?_; intro v13 w13 sp13 ho13 hg13 hv13 _)
      | fail)
    have hB13 : Below w12.heap.size w12 w13 := hB12.grown hg13 hB12.size (fun k hk => Nat.le_of_eq (Option.some.inj hk))
    clear ho1 hg13 hv13 hB12
    rw [Nat.zero_add, List.nil_append] at ho13
    refine TreeQ.in_ (Near.below hB13) ?_
    refine wpTree_one _ rfl ?_
    go_wp2_with (first
      | ((with_reducible show wpList _ _ _ ((⟨some 85, _, _, _, _, _⟩ : Oper) :: _) _ _); refine wpList_append_vals (o := ⟨some 85, _, _, _, _, _⟩) (by rfl) _ _ _ (by rfl) (w12.heap.size) 116 (.agg zeroGB) 5 72 Tryz.underlying69 infoGB (by rfl) (by omega) (v13) (L.length) (kcells L) (sp13) (by rfl) (ho13) (A4) (G.length) (c4) (kcells G) (by rfl) (kcells_length G) (HR.out.2.2.2.2.below hB13) (kcells_one G) (by have := hn1; simp only [maxLen]; omega) (by have := hn1; omega) (hB13.size) ?_; intro v14 w14 sp14 ho14 hg14 hv14 _)
      | fail)
    have hB14 : Below w12.heap.size w12 w14 := hB13.grown hg14 hB13.size (fun k hk => (ho13.lt k hk).1)
    clear ho13 hg14 hv14 hB13
    refine TreeQ.in_ (Near.below hB14) ?_
    refine wpTree_pure _ _ _ (by rfl) (by rfl) ?_
    dsimp only [List.filterMap, List.getElem?_cons_zero, List.getElem?_cons_succ]
    repeat (go_big_quiet_step (fail))
    refine wpQuiet_nil ?_
    refine wpTree_done ?_
    rw [← kcells_app] at ho14
    obtain ⟨A5, c5, rfl, -, -, hr5, -⟩ := OwnsC.reads ho14
    obtain ⟨M, hM⟩ : ∃ M, M = L.length + G.length := ⟨_, rfl⟩
    rw [← hM]
    have H14 := Lib.hid (And.intro hB14 (And.intro hr5 hM))
    clear ho14 hB14 hr5 hn1 hC12 hM
    go_wp2_with fail
    go_loopw [11] (fun v wr => RdsRel w14 M v wr) (fun v _ => M - (RowKit.intOf v).toNat)
    case atStart => exact ⟨0, Nat.zero_le _, rfl, Below.refl _ _⟩
    case round =>
      obtain ⟨i, hi, rfl, hB⟩ := hrel
      have hBx : Below w12.heap.size w12 wr := H14.out.1.trans (hB.mono H14.out.1.size)
      by_cases hlt : i < M
      case pos =>
        have hLG : (L ++ G).length = M := by rw [List.length_append]; exact H14.out.2.2.symm
        obtain ⟨x, hx0⟩ : ∃ x, (L ++ G)[i]? = some x := ⟨_, List.getElem?_eq_getElem (by omega)⟩
        have hxm : x ∈ L ++ G := List.mem_of_getElem? hx0
        have hner : x.1.2.1.1 ≠ r.1 := HN.out.2.2.1 x hxm
        obtain ⟨b5, o5, rfl, hc5⟩ := (H14.out.2.1.below hB) (fun e => by have := congrArg List.length e; rw [kcells_length, List.length_nil] at this; omega)
        have q0 := hc5 (i * 5 + 1) _ (kcells_at _ i x hx0 1 (.int .i64 x.1.2.1.1) rfl)
        have q1 := (H12.out.2.2.below hBx H12.out.2.2.lt).at_ 0 (v := .int .i64 r.1) rfl
        have hb5 : b5 < wr.heap.size := World.block_lt_of_cell? wr _ q0
        have hb8 : g8 < wr.heap.size := Nat.lt_of_lt_of_le H12.out.2.2.lt hBx.size
        have Q := Lib.hid (And.intro q0 (And.intro q1 (And.intro hb5 hb8)))
        have HI := Lib.hid (And.intro hlt hB)
        have k1 : decide ((i : Int) < (M : Int)) = true := decide_eq_true (by omega)
        have k1n : decide (i < M) = true := decide_eq_true hlt
        have k2 : (x.1.2.1.1 == r.1) = false := beq_eq_false_iff_ne.2 hner
        have k3 : (x.1.2.1.1 = r.1) = False := eq_false hner
        clear hLG hx0 hxm hc5 q0 q1 hb5 hb8 hB hBx hi hner
        go_wp2_with fail
        have hC0 : Near [] wr wr := Near.refl _ _
        refine wp_region_tree (Near [] wr) [] (PlanT.takes [0, 1, 2, 3, 4, 6] (PlanT.takes [5, 7] (PlanT.takes [8] .done))) (by kernel_rfl) (by kernel_rfl) (hC0.drew) ?_
        refine wpTree_pure _ _ _ (by rfl) (by rfl) ?_
        dsimp only [List.filterMap, List.getElem?_cons_zero, List.getElem?_cons_succ]
        repeat (go_big_quiet_step (fail))
        refine wpQuiet_nil ?_
        refine wpTree_takeL _ _ _ (by rfl) (by rfl) (hC0.drew) ?_
        dsimp only [List.filterMap, List.getElem?_cons_zero, List.getElem?_cons_succ]
        (refine wpQuiet_load_cell (fun w' hw' => (hw'.cell (p := ⟨b5, o5 + (i * 5 + 1), none⟩) Q.out.2.2.1 List.not_mem_nil).trans Q.out.1) (by rfl) _ _ (by rfl) (by rfl) _ Tryz.underlying3 (by rfl) ?_; simp only [Act.put, List.setIfInBounds_toArray, List.set_cons_zero, List.set_cons_succ])
        (refine wpQuiet_load_cell (fun w' hw' => (hw'.cell Q.out.2.2.2 List.not_mem_nil).trans Q.out.2.1) (by rfl) _ _ (by rfl) (by rfl) _ Tryz.underlying3 (by rfl) ?_; simp only [Act.put, List.setIfInBounds_toArray, List.set_cons_zero, List.set_cons_succ])
        refine wpQuiet_nil ?_
        refine wpTree_pure _ _ _ (by rfl) (by rfl) ?_
        dsimp only [List.filterMap, List.getElem?_cons_zero, List.getElem?_cons_succ]
        repeat (go_big_quiet_step (fail))
        refine wpQuiet_nil ?_
        refine wpTree_done ?_
        clear hC0
        have k65 : i < 65536 := by have := HI.out.1; have := H14.out.2.2; omega
        go_wp2_with fail
        exact ⟨⟨i + 1, HI.out.1, rfl, HI.out.2.drew⟩, meas_up rfl rfl HI.out.1⟩
      case neg =>
        obtain rfl : i = M := by omega
        have hbx := (H12.out.2.1.so.blk HW.out.box ngB).below hBx (H12.out.2.1.so.blk HW.out.box ngB).lt
        have hb8 := H12.out.2.2.below hBx H12.out.2.2.lt
        have hxw := HR.out.2.2.1.below hBx HR.out.2.2.1.lt
        have hlw : OwnsC 116 5 wr B (.slice A3 L.length c3) L.length (kcells L) sl := HR.out.1.ownBelow hBx
        have hgw : OwnsC 116 5 wr B (.slice A4 G.length c4) G.length (kcells G) sg := HR.out.2.1.ownBelow hBx
        have HS := Lib.hid (And.intro hbx (And.intro hb8 (And.intro hxw (And.intro hlw (And.intro hgw hBx)))))
        have hnlt : ¬ i < i := hlt
        clear hbx hxw hlw hgw hBx hB hi hlt hnlt H14
        have kn : decide ((i : Int) < (i : Int)) = false := decide_eq_false (by omega)
        go_wp2_with (first
          | ((with_reducible show wpList _ _ _ ((⟨some 101, _, _, _, _, _⟩ : Oper) :: _) _ _); refine wpList_load_blk (o := ⟨some 101, _, _, _, _, _⟩) (hb8) (by rfl) _ _ (by rfl) (by rfl) _ Tryz.underlying113 (by rfl) (size_ref) (by rfl) ?_)
          | ((with_reducible show wpList _ _ _ ((⟨none, _, _, _, _, _⟩ : Oper) :: _) _ _); refine wpList_store_in (o := ⟨none, _, _, _, _, _⟩) HS.out.1 (by rfl) _ _ _ (by rfl) 1 (by rfl) #[.int .i64 r.1, .int .i64 r.2.1] (by rfl) size_ref (by rfl) (by simp) (by simp [Value.oneCell']) ?_; intro w16 hb16 hu16)
          | fail)
        replace hb16 : Blk w16 g7 116 #[.int .i64 kk, .int .i64 r.1, .int .i64 r.2.1, .slice A N N, .slice BA body.length bc] := hb16
        have hk16 : Near [g7] wr w16 := Near.upd hu16 (List.mem_singleton_self _)
        have hM12 : MS B Y' gp dp g2 d2 w8 w12 := ⟨H12.out.1, H12.out.2.1.st, fun y hy => by obtain ⟨cs, hb⟩ := HW.out.lf.yR y hy; exact ⟨cs, H12.out.2.1.st.same.blk hb hy⟩⟩
        have hM16 := (hM12.below HS.out.2.2.2.2.2).near hk16 (fun z hz => by rw [List.mem_singleton.1 hz]; exact ⟨HW.out.gB, _, _, HS.out.1, ngB⟩)
        have h8_16 := HS.out.2.1.near hk16 (fun hm => HS.out.1.apart HS.out.2.1 (by decide) (List.mem_singleton.1 hm).symm)
        have hx16 := HS.out.2.2.1.near hk16 (fun hm => HS.out.1.apart HS.out.2.2.1 (by decide) (List.mem_singleton.1 hm).symm)
        have hl16 := OwnsC.nearO HS.out.2.2.2.1 hk16 (fun b hb hm => HW.out.off b (.inl hb) (List.mem_singleton.1 hm))
        have hg16 := OwnsC.nearO HS.out.2.2.2.2.1 hk16 (fun b hb hm => HW.out.off b (.inr hb) (List.mem_singleton.1 hm))
        have H16 := Lib.hid (And.intro hb16 (And.intro hM16 (And.intro h8_16 (And.intro hx16 (And.intro hl16 hg16)))))
        clear hb16 hk16 hM12 hM16 h8_16 hx16 hl16 hg16 hu16 HS hb8
        -- it is one more that is there
        obtain ⟨X, hX⟩ : ∃ X : List Nat, X = (Value.slice A3 L.length c3).ownBlock.toList := ⟨_, rfl⟩
        have hXm : ∀ z ∈ X, (Value.slice A3 L.length c3).ownBlock = some z := fun z hz => by rw [hX] at hz; simpa using hz
        have hXo : ∀ z ∈ X, B ≤ z ∧ ∃ t cs, Blk w16 z t cs ∧ NG t := fun z hz => by
          obtain ⟨cs, hb⟩ := ownBlk H16.out.2.2.2.2.1 (hXm z hz)
          exact ⟨(H16.out.2.2.2.2.1.lt z (hXm z hz)).1, _, _, hb, ngB⟩
        have hXx : xp ∉ X := fun hm => by
          obtain ⟨cs, hb⟩ := ownBlk H16.out.2.2.2.2.1 (hXm xp hm)
          exact H16.out.2.2.2.1.apart hb (by decide) rfl
        have hX7 : g7 ∉ X := fun hm => HW.out.off g7 (.inl (hXm g7 hm)) rfl
        have hX8 : g8 ∉ X := fun hm => by
          obtain ⟨cs, hb⟩ := ownBlk H16.out.2.2.2.2.1 (hXm g8 hm)
          exact H16.out.2.2.1.apart hb (by decide) rfl
        have hXg : ∀ b, (Value.slice A4 G.length c4).ownBlock = some b → b ∉ X := fun b hb hm => HW.out.lf.ne b (hXm b hm) hb
        have HXS := Lib.hid (And.intro hX (And.intro hXo (And.intro hXx (And.intro hX7 (And.intro hX8 hXg)))))
        clear hX hXm hXo hXx hX7 hX8 hXg
        have hC16 : Near X w16 w16 := Near.refl _ _
        refine wp_region_tree (Near X w16) [10] (PlanT.takes [0, 1, 2, 3] (PlanT.takes [4, 5] (.opt 6 (.opt 7 (.opt 8 (PlanT.takes [9] (.opt 10 .done .no)) .no) .no) .no))) (by kernel_rfl) (by kernel_rfl) hC16.drew ?_
        refine wpTree_pure _ _ _ (by rfl) (by rfl) ?_
        dsimp only [List.filterMap, List.getElem?_cons_zero, List.getElem?_cons_succ]
        repeat (go_big_quiet_step (fail))
        refine wpQuiet_nil ?_
        refine wpTree_takeL _ _ _ (by rfl) (by rfl) (hC16.drew) ?_
        dsimp only [List.filterMap, List.getElem?_cons_zero, List.getElem?_cons_succ]
        (refine wpQuiet_load_cell (fun w' hw' => (hw'.cell H16.out.2.2.2.1.lt HXS.out.2.2.1).trans (H16.out.2.2.2.1.at_ 2 (v := .slice A3 L.length c3) rfl)) (by rfl) _ _ (by rfl) (by rfl) _ Tryz.underlying69 (by rfl) ?_; simp only [Act.put, List.setIfInBounds_toArray, List.set_cons_zero, List.set_cons_succ])
        (refine wpQuiet_load_blk (fun w' hw' => H16.out.1.near hw' HXS.out.2.2.2.1) (by rfl) _ _ (by rfl) (by rfl) _ Tryz.underlying116 (by rfl) (sizeGB) (by rfl) ?_; simp only [Act.put, List.setIfInBounds_toArray, List.set_cons_zero, List.set_cons_succ])
        refine wpQuiet_nil ?_
        refine wpTree_one _ rfl ?_
        go_wp2_with fail
        have hb17 : Below w16.heap.size w16 (w16.alloc (.cells #[.int .i64 kk, .int .i64 r.1, .int .i64 r.2.1, .slice A N N, .slice BA body.length bc] 116)).drew := ((Below.refl w16.heap.size w16).alloc (Nat.le_refl _) _).drew
        have hr17 : Reads (w16.alloc (.cells #[.int .i64 kk, .int .i64 r.1, .int .i64 r.2.1, .slice A N N, .slice BA body.length bc] 116)).drew (some ⟨w16.heap.size, 0, none⟩) [.int .i64 kk, .int .i64 r.1, .int .i64 r.2.1, .slice A N N, .slice BA body.length bc] := reads_new w16 116 [.int .i64 kk, .int .i64 r.1, .int .i64 r.2.1, .slice A N N, .slice BA body.length bc]
        have hl17 := H16.out.2.2.2.2.1.ownBelow hb17
        have hlL := HP.out.2.2.2.2.1
        refine TreeQ.in_ (Near.below hb17) ?_
        refine wpTree_one _ rfl ?_
        go_wp2_with (first
          | ((with_reducible show wpList _ _ _ ((⟨some 110, _, _, _, _, _⟩ : Oper) :: _) _ _); refine wpList_append_vals (o := ⟨some 110, _, _, _, _, _⟩) (by rfl) _ _ _ (by rfl) (B) 116 (.agg zeroGB) 5 72 Tryz.underlying69 infoGB (by rfl) (by omega) (.slice A3 L.length c3) (L.length) (kcells L) (sl) (by rfl) (hl17) (some ⟨w16.heap.size, 0, none⟩) (1) (1) ([.int .i64 kk, .int .i64 r.1, .int .i64 r.2.1, .slice A N N, .slice BA body.length bc]) (by rfl) (by rfl) (hr17) (by simp [Value.oneCell']) (by have := hlL; simp only [maxLen]; omega) (by have := hlL; omega) (Nat.le_trans H16.out.2.1.gx.size hb17.size) ?_; intro v18 w18 sp18 ho18 hg18 hv18 _)
          | fail)
        obtain ⟨A6, c6, rfl, -, -, -, -⟩ := OwnsC.reads ho18
        have hk18 : Near X w16 w18 := (Near.below hb17).trans (Near.grown hg18 (fun k hk => by rw [HXS.out.1]; rw [hk]; simp))
        have hv18x : ∀ b, (Value.slice A6 (L.length + 1) c6).ownBlock = some b → b ∈ X ∨ w16.heap.size ≤ b := fun b hb => by
          rcases hv18 with e | e
          · left; rw [HXS.out.1, ← e, hb]; simp
          · right; rw [hb] at e; injection e with e; rw [e]; exact hb17.size
        have hM18 := H16.out.2.1.near hk18 HXS.out.2.1
        have hx18 := H16.out.2.2.2.1.near hk18 HXS.out.2.2.1
        have h8_18 := H16.out.2.2.1.near hk18 HXS.out.2.2.2.2.1
        have hg18' := OwnsC.nearO H16.out.2.2.2.2.2 hk18 HXS.out.2.2.2.2.2
        have hne18 : ∀ b, (Value.slice A6 (L.length + 1) c6).ownBlock = some b → (Value.slice A4 G.length c4).ownBlock ≠ some b := fun b hb hgb => by
          rcases hv18x b hb with hm | hm
          · exact HXS.out.2.2.2.2.2 b hgb hm
          · have := (H16.out.2.2.2.2.2.lt b hgb).2; omega
        have q2 := hx18.at_ 2 (v := .slice A3 L.length c3) rfl
        have f2 := hx18.frozen 2
        have hu := (Upd.refl xp w18).set 2 (.slice A6 (L.length + 1) c6)
        have hk19 : Near [xp] w18 (w18.setCell ⟨xp, 2, none⟩ (.slice A6 (L.length + 1) c6)) := Near.upd hu (List.mem_singleton_self _)
        have hM19 := hM18.near hk19 (fun z hz => by rw [List.mem_singleton.1 hz]; exact ⟨HW.out.lf.xB, _, _, hx18, ngL⟩)
        have hx19 : Blk (w18.setCell ⟨xp, 2, none⟩ (.slice A6 (L.length + 1) c6)) xp 71 #[.pointer (some ⟨dp, 0, none⟩), .pointer (some ⟨gp, 0, none⟩), (.slice A6 (L.length + 1) c6), .slice A4 G.length c4, .int .i64 (n : Int)] := hx18.set_ 2 (.slice A6 (L.length + 1) c6)
        have h8_19 := h8_18.near hk19 (fun hm => hx18.apart h8_18 (by decide) (List.mem_singleton.1 hm).symm)
        have hl19 := OwnsC.nearO ho18 hk19 (ownApart ho18 hx18 (by decide))
        have hg19 := OwnsC.nearO hg18' hk19 (ownApart hg18' hx18 (by decide))
        have hsr : (.int .i64 r.2.1 : Value) = .int .i64 stamp := by rw [HN.out.2.1]
        have h81 := h8_19.at_ 1 (v := .int .i64 stamp) (by rw [← hsr]; rfl)
        have hkn : kcells (L ++ [((kk, (r.1, r.2.1, ()), rl, body, ()), A, N, BA, bc)]) = kcells L ++ [.int .i64 kk, .int .i64 r.1, .int .i64 r.2.1, .slice A N N, .slice BA body.length bc] := by rw [kcells_app, HW.out.len]; rfl
        have hlf : Lif n g2 d2 ((L ++ [((kk, (r.1, r.2.1, ()), rl, body, ()), A, N, BA, bc)]).map Prod.fst) (G.map Prod.fst) := by have := HN.out.2.2.2; obtain ⟨r1, r2, ⟨⟩⟩ := r; exact this
        have hnk : KBok w8 B Y' ((kk, (r.1, r.2.1, ()), rl, body, ()), A, N, BA, bc) := ⟨HW.out.refs, HA.out.2.1.lowB HA.out.2.2.1 HW.out.bel HA.out.2.2.2.2.2, HW.out.rY, HA.out.2.2.1⟩
        have hks : ∀ z ∈ L ++ [((kk, (r.1, r.2.1, ()), rl, body, ()), A, N, BA, bc)] ++ G, KBok w8 B Y' z := fun z hz => by
          rcases List.mem_append.1 hz with hz | hz
          · rcases List.mem_append.1 hz with hz | hz
            · exact HW.out.lf.ks z (List.mem_append_left _ hz)
            · rw [List.mem_singleton.1 hz]; exact hnk
          · exact HW.out.lf.ks z (List.mem_append_right _ hz)
        have HE : Hid (Lf B Y' (w18.setCell ⟨xp, 2, none⟩ (.slice A6 (L.length + 1) c6)) xp gp dp n g2 d2 (L ++ [((kk, (r.1, r.2.1, ()), rl, body, ()), A, N, BA, bc)]) G ∧ Below B w (w18.setCell ⟨xp, 2, none⟩ (.slice A6 (L.length + 1) c6))) := Lib.hid ⟨⟨hM19.gx, ⟨(.slice A6 (L.length + 1) c6), _, sp18, sg, hx19, by rw [hkn, List.length_append]; exact hl19, hg19, hne18⟩, fun z hz => (hks z hz).step hM19.st, hlf, HW.out.lf.xB, hM19.yR⟩, HW.out.bel.trans hM19.st.bel⟩
        have hC18 := Lib.hid (show Near X w16 w18 from hk18)
        clear hk18 hv18x hM18 hx18 h8_18 hg18' hne18 hu hk19 hM19 hx19 h8_19 hl19 hg19 hsr hkn hlf hnk hks ho18 hg18 hv18 hb17 hr17 hl17 hlL
        go_wp2_with fail
        refine TreeQ.in_ hC18.out ?_
        refine wpTree_one _ rfl ?_
        go_wp2_with fail
        refine TreeQ.in_ hC18.out ?_
        refine wpTree_pure _ _ _ (by rfl) (by rfl) ?_
        dsimp only [List.filterMap, List.getElem?_cons_zero, List.getElem?_cons_succ]
        repeat (go_big_quiet_step (fail))
        refine wpQuiet_nil ?_
        refine wpTree_one _ rfl ?_
        go_wp2_with fail
        refine TreeQ.out (by rfl) ?_
        refine wpTree_done ?_
        clear hC18 hC16
        generalize w18.setCell ⟨xp, 2, none⟩ (.slice A6 (L.length + 1) c6) = w19 at HE h81 ⊢
        clear q2 f2
        go_wp2
        go_ret
        exact ⟨rfl, HE.out.2, _, _, _, _, HE.out.1⟩
end Go.Proofs.YtfoegmjpfkmggaaGreatDoor

/- The shelf's contracts at this program: maps.Keys, slices.Sorted, slices.Sort, slices.Clone, maps.Clone, as a disk needs them. No condition. -/
namespace Go.Proofs
open Go.Shelf
def Tryz.dkKeys_ren : Go.Shelf.Ren := ⟨fun | 7 => 153 | 10 => 177 | n => n, fun | 23 => 97 | 26 => 3 | 3 => 102 | 28 => 227 | 0 => 0 | 27 => 226 | 33 => 250 | 4 => 4 | n => n, fun | n => n⟩
theorem Tryz.dkKeys : Go.Proofs.SlLaysZI.n7 Tryz.prog Tryz.dkKeys_ren := {
  mixed := by kernel_rfl
  f7 := ⟨Tryz.f153.name, by decide, Tryz.func153.trans (congrArg some (by kernel_rfl))⟩
  f10 := ⟨Tryz.f177.name, by decide, Tryz.func177.trans (congrArg some (by kernel_rfl))⟩
  t0 := Tryz.underlying0
  a0 := Tryz.isAgg0
  z0 := Tryz.sizeOf0
  v0 := Tryz.zeroValue0
  t4 := Tryz.underlying4
  a4 := Tryz.isAgg4
  z4 := Tryz.sizeOf4
  v4 := Tryz.zeroValue4
  t23 := Tryz.underlying97
  a23 := Tryz.isAgg97
  z23 := Tryz.sizeOf97
  v23 := Tryz.zeroValue97
  t26 := Tryz.underlying3
  a26 := Tryz.isAgg3
  z26 := Tryz.sizeOf3
  v26 := Tryz.zeroValue3
  t27 := Tryz.underlying226
  a27 := Tryz.isAgg226
  z27 := Tryz.sizeOf226
  v27 := Tryz.zeroValue226
  t28 := Tryz.underlying227
  a28 := Tryz.isAgg227
  z28 := Tryz.sizeOf227
  v28 := Tryz.zeroValue227
  t33 := Tryz.underlying250
  a33 := Tryz.isAgg250
  z33 := Tryz.sizeOf250
  v33 := Tryz.zeroValue250 }
def Tryz.dkSorted_ren : Go.Shelf.Ren := ⟨fun | 6 => 152 | 8 => 175 | 9 => 176 | 11 => 184 | 13 => 186 | 12 => 185 | 23 => 197 | 24 => 198 | 14 => 188 | 15 => 189 | 16 => 190 | 17 => 191 | 18 => 192 | 19 => 193 | 20 => 194 | 21 => 195 | 22 => 196 | 25 => 199 | 26 => 200 | 27 => 201 | 28 => 202 | 29 => 203 | 30 => 204 | 31 => 205 | n => n, fun | 26 => 3 | 28 => 227 | 24 => 136 | 0 => 0 | 3 => 3 | 37 => 181 | 48 => 230 | 50 => 34 | 4 => 4 | 40 => 265 | 39 => 264 | 45 => 269 | 5 => 5 | 9 => 9 | 51 => 272 | 55 => 194 | 57 => 277 | 58 => 278 | 33 => 250 | n => n, fun | n => n⟩
theorem Tryz.dkSorted : Go.Proofs.SlLaysZI.n6 Tryz.prog Tryz.dkSorted_ren := {
  mixed := by kernel_rfl
  f6 := ⟨Tryz.f152.name, by decide, Tryz.func152.trans (congrArg some (by kernel_rfl))⟩
  f8 := ⟨Tryz.f175.name, by decide, Tryz.func175.trans (congrArg some (by kernel_rfl))⟩
  f11 := ⟨Tryz.f184.name, by decide, Tryz.func184.trans (congrArg some (by kernel_rfl))⟩
  t0 := Tryz.underlying0
  a0 := Tryz.isAgg0
  z0 := Tryz.sizeOf0
  v0 := Tryz.zeroValue0
  t24 := Tryz.underlying136
  a24 := Tryz.isAgg136
  z24 := Tryz.sizeOf136
  v24 := Tryz.zeroValue136
  t26 := Tryz.underlying3
  a26 := Tryz.isAgg3
  z26 := Tryz.sizeOf3
  v26 := Tryz.zeroValue3
  t28 := Tryz.underlying227
  a28 := Tryz.isAgg227
  z28 := Tryz.sizeOf227
  v28 := Tryz.zeroValue227
  i26 := by kernel_rfl }
def Tryz.dkSort_ren : Go.Shelf.Ren := ⟨fun | 5 => 176 | 8 => 186 | 7 => 185 | 19 => 197 | 20 => 198 | 10 => 188 | 11 => 189 | 12 => 190 | 13 => 191 | 14 => 192 | 15 => 193 | 16 => 194 | 17 => 195 | 18 => 196 | 30 => 199 | 31 => 200 | 32 => 201 | 33 => 202 | 34 => 203 | 35 => 204 | 40 => 205 | n => n, fun | 23 => 136 | 25 => 3 | 3 => 3 | 32 => 181 | 22 => 136 | 0 => 0 | 44 => 230 | 46 => 34 | 4 => 4 | 36 => 265 | 35 => 264 | 41 => 269 | 5 => 5 | 9 => 9 | 53 => 272 | 57 => 194 | 63 => 277 | 64 => 278 | n => n, fun | n => n⟩
theorem Tryz.dkSort : Go.Proofs.SlLaysM.n5 Tryz.prog Tryz.dkSort_ren := {
  mixed := by kernel_rfl
  f5 := ⟨Tryz.f176.name, by decide, Tryz.func176.trans (congrArg some (by kernel_rfl))⟩
  f7 := ⟨Tryz.f185.name, by decide, Tryz.func185.trans (congrArg some (by kernel_rfl))⟩
  f8 := Tryz.func186.trans (congrArg some (by kernel_rfl))
  f10 := ⟨Tryz.f188.name, by decide, Tryz.func188.trans (congrArg some (by kernel_rfl))⟩
  f11 := ⟨Tryz.f189.name, by decide, Tryz.func189.trans (congrArg some (by kernel_rfl))⟩
  f12 := ⟨Tryz.f190.name, by decide, Tryz.func190.trans (congrArg some (by kernel_rfl))⟩
  f13 := ⟨Tryz.f191.name, by decide, Tryz.func191.trans (congrArg some (by kernel_rfl))⟩
  f14 := ⟨Tryz.f192.name, by decide, Tryz.func192.trans (congrArg some (by kernel_rfl))⟩
  f15 := ⟨Tryz.f193.name, by decide, Tryz.func193.trans (congrArg some (by kernel_rfl))⟩
  f16 := ⟨Tryz.f194.name, by decide, Tryz.func194.trans (congrArg some (by kernel_rfl))⟩
  f17 := ⟨Tryz.f195.name, by decide, Tryz.func195.trans (congrArg some (by kernel_rfl))⟩
  f18 := ⟨Tryz.f196.name, by decide, Tryz.func196.trans (congrArg some (by kernel_rfl))⟩
  f19 := Tryz.func197.trans (congrArg some (by kernel_rfl))
  f20 := Tryz.func198.trans (congrArg some (by kernel_rfl))
  f30 := ⟨Tryz.f199.name, by decide, Tryz.func199.trans (congrArg some (by kernel_rfl))⟩
  f31 := Tryz.func200.trans (congrArg some (by kernel_rfl))
  f32 := Tryz.func201.trans (congrArg some (by kernel_rfl))
  f33 := ⟨Tryz.f202.name, by decide, Tryz.func202.trans (congrArg some (by kernel_rfl))⟩
  f34 := ⟨Tryz.f203.name, by decide, Tryz.func203.trans (congrArg some (by kernel_rfl))⟩
  f35 := ⟨Tryz.f204.name, by decide, Tryz.func204.trans (congrArg some (by kernel_rfl))⟩
  f40 := ⟨Tryz.f205.name, by decide, Tryz.func205.trans (congrArg some (by kernel_rfl))⟩
  t0 := Tryz.underlying0
  a0 := Tryz.isAgg0
  z0 := Tryz.sizeOf0
  v0 := Tryz.zeroValue0
  t3 := Tryz.underlying3
  a3 := Tryz.isAgg3
  z3 := Tryz.sizeOf3
  v3 := Tryz.zeroValue3
  t4 := Tryz.underlying4
  a4 := Tryz.isAgg4
  z4 := Tryz.sizeOf4
  v4 := Tryz.zeroValue4
  t5 := Tryz.underlying5
  a5 := Tryz.isAgg5
  z5 := Tryz.sizeOf5
  v5 := Tryz.zeroValue5
  t9 := Tryz.underlying9
  a9 := Tryz.isAgg9
  z9 := Tryz.sizeOf9
  v9 := Tryz.zeroValue9
  t22 := Tryz.underlying136
  a22 := Tryz.isAgg136
  z22 := Tryz.sizeOf136
  v22 := Tryz.zeroValue136
  t23 := Tryz.underlying136
  a23 := Tryz.isAgg136
  z23 := Tryz.sizeOf136
  v23 := Tryz.zeroValue136
  t25 := Tryz.underlying3
  a25 := Tryz.isAgg3
  z25 := Tryz.sizeOf3
  v25 := Tryz.zeroValue3
  t32 := Tryz.underlying181
  a32 := Tryz.isAgg181
  z32 := Tryz.sizeOf181
  v32 := Tryz.zeroValue181
  t35 := Tryz.underlying264
  a35 := Tryz.isAgg264
  z35 := Tryz.sizeOf264
  v35 := Tryz.zeroValue264
  t36 := Tryz.underlying265
  a36 := Tryz.isAgg265
  z36 := Tryz.sizeOf265
  v36 := Tryz.zeroValue265
  t41 := Tryz.underlying269
  a41 := Tryz.isAgg269
  z41 := Tryz.sizeOf269
  v41 := Tryz.zeroValue269
  t44 := Tryz.underlying230
  a44 := Tryz.isAgg230
  z44 := Tryz.sizeOf230
  v44 := Tryz.zeroValue230
  t46 := Tryz.underlying34
  a46 := Tryz.isAgg34
  z46 := Tryz.sizeOf34
  v46 := Tryz.zeroValue34
  t53 := Tryz.underlying272
  a53 := Tryz.isAgg272
  z53 := Tryz.sizeOf272
  v53 := Tryz.zeroValue272
  t57 := Tryz.underlying194
  a57 := Tryz.isAgg194
  z57 := Tryz.sizeOf194
  v57 := Tryz.zeroValue194
  t63 := Tryz.underlying277
  a63 := Tryz.isAgg277
  z63 := Tryz.sizeOf277
  v63 := Tryz.zeroValue277
  t64 := Tryz.underlying278
  a64 := Tryz.isAgg278
  z64 := Tryz.sizeOf278
  v64 := Tryz.zeroValue278 }
end Go.Proofs

/- A slice of ints that the call has built, and append to it. Plain facts over any program. Condition: at most 2^40 ints. -/
namespace Go
open Go.RowKit
def iv (x : Int) : Value := .int .i64 x
section
variable {P : Program} {w : World}
end
end Go

/- Loose, of a disk that was made: its loose sectors' numbers, rising, in new memory. Conditions: the disk is whole. -/
namespace Go
open Go.RowKit Go.Maps Go.WideElems
theorem perm_insert {H : Type} (x : Lit × DataW H) : ∀ l : List (Lit × DataW H), (DataW.insert x l).Perm (x :: l)
  | [] => List.Perm.refl _
  | y :: r => by
    unfold DataW.insert
    split
    · exact List.Perm.refl _
    · exact ((perm_insert x r).cons y).trans (List.Perm.swap x y r)
theorem perm_sorted {H : Type} : ∀ l : List (Lit × DataW H), (l.foldr DataW.insert []).Perm l
  | [] => List.Perm.refl _
  | x :: l => (perm_insert x _).trans ((perm_sorted l).cons x)
/-- How a sector's old bytes are taken: as nothing. -/
def anyR (_ : Value) : Option (DataW Unit × List MemPlace) := some (.nil, [])
section
variable {es : Array MapEntry} {c N : Nat} {old : Nat → Option (List UInt8)} {P : Program} {k : TypeId}
theorem OldIs.read (h : OldIs es c old) (hN : ∀ j l, old j = some l → j < N) (hb : N ≤ 65536) (hk : P.underlying k = some (.int .i64)) {e : MapEntry} (he : e ∈ es.toList) : ∃ j : Nat, j < N ∧ (old j).isSome = true ∧ e.key = .int .i64 (j : Int) ∧ rd P k anyR e = some (.int .i64 (j : Int), .nil) := by
  obtain ⟨j, l, h1, h2, _⟩ := h.ent e he
  have hj := hN j l h2
  refine ⟨j, hj, by rw [h2]; rfl, h1, ?_⟩
  have hw : (Lit.int .i64 (j : Int)).wf = true := by
    show (decide ((-9223372036854775808 : Int) ≤ (j : Int)) && decide ((j : Int) ≤ 9223372036854775807)) = true
    rw [Bool.and_eq_true, decide_eq_true_eq, decide_eq_true_eq]
    omega
  unfold rd
  rw [h1]
  have : keyOf P k (.int .i64 (j : Int)) = some (.int .i64 (j : Int)) := by simp [keyOf, mapKey, hk, hw]
  rw [this]
  rfl
def keyNat (v : Value) : Nat := match v with | .int _ a => a.toNat | _ => 0
theorem OldIs.perm (h : OldIs es c old) (hN : ∀ j l, old j = some l → j < N) : (es.toList.map fun e => keyNat e.key).Perm ((List.range N).filter fun j => (old j).isSome) := by
  refine (List.perm_ext_iff_of_nodup ?_ (List.Pairwise.filter _ List.nodup_range)).2 fun j => ?_
  · have hn := h.stamped.2.2
    unfold List.Nodup at hn ⊢
    rw [List.pairwise_map] at hn ⊢
    refine hn.imp_of_mem fun {a b} ha hb hne e => hne ?_
    obtain ⟨x, _, h1, _⟩ := h.ent a ha
    obtain ⟨y, _, h2, _⟩ := h.ent b hb
    rw [h1, h2] at e ⊢
    have e : (x : Int).toNat = (y : Int).toNat := e
    rw [Int.toNat_natCast, Int.toNat_natCast] at e
    rw [e]
  · rw [List.mem_map, List.mem_filter, List.mem_range]
    constructor
    · rintro ⟨e, he, rfl⟩
      obtain ⟨x, l, h1, h2, _⟩ := h.ent e he
      rw [h1]
      show (x : Int).toNat < N ∧ _
      rw [show keyNat (.int .i64 (x : Int)) = x from Int.toNat_natCast x, Int.toNat_natCast, h2]
      exact ⟨hN x l h2, rfl⟩
    · rintro ⟨_, h1⟩
      obtain ⟨l, hl⟩ := Option.isSome_iff_exists.1 h1
      obtain ⟨e, he, hk⟩ := h.all j l hl
      exact ⟨e, he, by rw [hk]; exact Int.toNat_natCast j⟩
theorem OldIs.size (h : OldIs es c old) (hN : ∀ j l, old j = some l → j < N) : es.size ≤ N := by
  have h1 := (h.perm hN).length_eq
  rw [List.length_map, Array.length_toList] at h1
  rw [h1]
  have := List.length_filter_le (fun j => (old j).isSome) (List.range N)
  rw [List.length_range] at this
  exact this
theorem OldIs.owns (h : OldIs es c old) (hN : ∀ j l, old j = some l → j < N) (hb : N ≤ 65536) (hk : P.underlying k = some (.int .i64)) {w : World} {g : Nat} (hg : MapB w g es c) :
    w.ownsMap P k anyR g es.size (.map ((es.toList.map (rg P k anyR)).foldr DataW.insert [])) := by
  have hs := h.size hN
  refine ⟨es, c, hg, ⟨by simp only [maxLen]; omega, h.stamped, fun e he => ?_⟩, Nat.le_refl _, rfl⟩
  obtain ⟨j, _, _, _, hr⟩ := h.read hN hb hk he
  exact ⟨_, hr⟩
theorem OldIs.ints (h : OldIs es c old) (hN : ∀ j l, old j = some l → j < N) (hb : N ≤ 65536) (hk : P.underlying k = some (.int .i64)) :
    (intKeys (DataW.map ((es.toList.map (rg P k anyR)).foldr DataW.insert []))).Perm (((List.range N).filter fun j => (old j).isSome).map fun j : Nat => (j : Int)) := by
  have h1 : (intKeys (DataW.map ((es.toList.map (rg P k anyR)).foldr DataW.insert []))).Perm ((es.toList.map (rg P k anyR)).map fun p => intOf p.1) := (perm_sorted _).map _
  refine h1.trans ?_
  have h2 : (es.toList.map (rg P k anyR)).map (fun p => intOf p.1) = (es.toList.map fun e => keyNat e.key).map fun j : Nat => (j : Int) := by
    rw [List.map_map, List.map_map]
    refine List.map_congr_left fun e he => ?_
    obtain ⟨j, _, _, hj, hr⟩ := h.read hN hb hk he
    show intOf (rg P k anyR e).1 = ((keyNat e.key : Nat) : Int)
    rw [rg_of hr, hj]
    show (j : Int) = ((j : Int).toNat : Int)
    rw [Int.toNat_natCast]
  rw [h2]
  exact (h.perm hN).map _
theorem sorted_loose (p : Nat → Bool) (N : Nat) {ss : List Int} (h : ss.Perm (((List.range N).filter p).map fun j : Nat => (j : Int))) : ss.mergeSort (fun x y => decide (x ≤ y)) = ((List.range N).filter p).map fun j : Nat => (j : Int) := by
  have h1 := mergeSort_of_perm_i h
  refine h1.trans (List.mergeSort_of_pairwise ?_)
  rw [List.pairwise_map]
  refine (List.Pairwise.filter p List.pairwise_lt_range).imp fun {a b} hab => ?_
  simp only [leI, decide_eq_true_eq]
  omega
end
end Go
namespace Go.Proofs.YtfoegmjpfkmggaaGreatDoor
open Go.RowKit Go.Maps Go.Sort Go.Shelf
theorem sortsA (m : Nat) : AnyZI.SortsIn Tryz.prog Tryz.dkSorted_ren Fence.wide m :=
  ⟨fun blk off cap ss W hH hblk hsz => callsIn_wide.2 (AnyM.slices_Sort_int Tryz.dkSort blk off cap ss W hH hblk hsz),
   fun p cap W => callsIn_wide.2 (AnyM.slices_Sort_int_none Tryz.dkSort p cap W)⟩
set_option maxRecDepth 100000 in
set_option maxHeartbeats 4000000 in
theorem loose_all {w : World} {p : Pl} {gf : Option Nat} {d : Dsk} (hd : DskR w p gf d) (hok : d.Ok) :
    Calls Tryz.prog 113 #[.pointer (some ⟨p.gd, 0, none⟩)] w fun e w' => ∃ A cp, e = .returned (.slice A d.loose.length cp) ∧ Reads w' A (d.loose.map fun j : Nat => iv (j : Int)) ∧ (∀ ad, A = some ad → w.heap.size ≤ ad.block) ∧ Below w.heap.size w w' := by
  obtain ⟨es, c, hdc, ho⟩ := hd
  have hN : ∀ j l, d.old j = some l → j < d.N := fun j l h => (hok.old j l h).1
  have hn := none_made w hdc
  have d1 := hdc.1.at_ 1 (v := .map (some p.gm)) rfl
  have hsz := ho.size hN
  have hn2 := hok.n2
  have hown := ho.owns hN hok.n2 (P := Tryz.prog) (k := 3) Tryz.underlying3 hdc.2.2
  have hper := ho.ints hN hok.n2 (P := Tryz.prog) (k := 3) Tryz.underlying3
  have hbl := hdc.2.2.lt
  have hDs : Maps.size (DataW.map ((es.toList.map (Go.WideElems.rg Tryz.prog 3 anyR)).foldr DataW.insert [])) = es.size := by
    show ((es.toList.map (Go.WideElems.rg Tryz.prog 3 anyR)).foldr DataW.insert []).length = _
    rw [length_sorted, List.length_map, Array.length_toList]
  generalize hD : (DataW.map ((es.toList.map (Go.WideElems.rg Tryz.prog 3 anyR)).foldr DataW.insert [])) = D0 at hown hper hDs
  have cK : Calls Tryz.prog 153 #[.map (some p.gm)] w fun e w' => e = .returned (.func (.func 177) #[] #[.pointer (some ⟨w.heap.size, 0, none⟩)]) ∧ w' = w.alloc (.cells #[.map (some p.gm)] 97) :=
    callsIn_wide.1 (AnyZI.keys_in Tryz.dkKeys Fence.wide 5 trivial rfl (some p.gm) w)
  have hseq : SeqGives Fence.wide 2 Tryz.prog 177 #[.pointer (some ⟨w.heap.size, 0, none⟩)] encZ (fun ss => ss.Perm (intKeys D0)) (Maps.size D0) (w.alloc (.cells #[.map (some p.gm)] 97)) :=
    AnyZI.keys_gives (ρ := Tryz.dkKeys_ren) { Tryz.dkKeys with } Fence.wide _ trivial rfl (by omega) w.heap.size p.gm es.size D0 _ (by simp) (by simp) (by
      obtain ⟨es', clock, hb, Ft, hs, hD⟩ := hown
      exact ⟨es', clock, (Below.heap_alloc _ _ p.gm hbl).trans hb, Ft, hs, hD⟩)
  have cS := callsIn_wide.1 (AnyZI.sorted_in Tryz.dkSorted Fence.wide 5 trivial trivial trivial trivial rfl (by omega) (sortsA _) (enters_of Tryz.func176 (by kernel_rfl) rfl) 177 #[.pointer (some ⟨w.heap.size, 0, none⟩)] trivial (enters_of Tryz.func177 (by kernel_rfl) rfl) _ _ (by rw [hDs]; simp only [maxLen]; omega) (by rw [hDs]; omega) _ hseq)
  change Calls _ 152 _ _ _ at cS
  have HH := Lib.hid (And.intro hper hsz)
  clear hseq hDs hD hown hper hbl hN hok ho hdc hsz hn2
  go_enter Tryz.func113, Tryz.ntmps113
  go_wp2_with fail
  refine hn.mono ?_
  rintro e w4 ⟨rfl, hw⟩
  obtain rfl := hw.symm
  clear hw hn
  go_wp2_with fail
  refine cK.mono ?_
  rintro e w5 ⟨rfl, rfl⟩
  clear cK
  go_wp2_with fail
  refine cS.mono ?_
  rintro e w6 ⟨v, ss, rfl, hS, hrow, hnil, hb⟩
  have HR := Lib.hid (And.intro hS (And.intro hrow (And.intro hnil hb)))
  clear hS hrow hnil hb cS d1
  go_wp2
  go_ret
  obtain ⟨hS, hrow, hnil, hb⟩ := HR.out
  have hp2 := hS.trans HH.out.1
  have hlen : ss.length = d.loose.length := by have h := hp2.length_eq; rw [List.length_map] at h; exact h
  rw [sorted_loose _ _ hp2, hlen] at hrow
  have hB := ((Below.refl _ w).alloc (Nat.le_refl _) (.cells #[.map (some p.gm)] 97)).trans (hb.mono (by simp))
  rcases hrow.2 with ⟨rfl, hn0⟩ | ⟨g, cap, cur, rfl, hg, hcell, h1, h2, h3, h4⟩
  · refine ⟨none, 0, by rw [hn0]; rfl, ?_, (fun ad e => by cases e), hB⟩
    rw [List.length_eq_zero_iff.1 hn0]
    exact Reads.nil _ _
  · refine ⟨_, cap, rfl, fun _ => ⟨g, 0, rfl, fun j v hv => ?_⟩, (fun ad e => by cases e; simp at hg; simp; omega), hB⟩
    rw [Nat.zero_add]
    rw [Nat.mul_one] at h4
    have h5 : cur.toList.take d.loose.length = d.loose.map fun j : Nat => iv (j : Int) := by rw [h4, List.map_map]; rfl
    have h6 : cur[j]? = some v := by
      have h7 : (cur.toList.take d.loose.length)[j]? = some v := by rw [h5]; exact hv
      rw [List.getElem?_take] at h7
      split at h7
      · rw [← Array.getElem?_toList]; exact h7
      · cases h7
    exact Blk.at_ (show Blk w6 g 3 cur from hcell) j h6
end Go.Proofs.YtfoegmjpfkmggaaGreatDoor
