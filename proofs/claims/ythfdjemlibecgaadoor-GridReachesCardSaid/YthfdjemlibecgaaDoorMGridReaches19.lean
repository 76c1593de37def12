/- GridReaches: a chain of blocks, some turned, is told, and put right. Condition: the library's table is there. -/
import Derived.Test.YthfdjemlibecgaaDoorMGridReaches18
import Derived.Test.YthfdjemlibecgaaDoorTie
import Derived.Test.YthfdjemlibecgaaDoorCards
import Derived.SevenTiedAt
namespace Go.Proofs.YthfdjemlibecgaaDoor
open Go.RowKit
/-- Ahead of each block that is written. -/
def ChRel (w : World) (n : Nat) (gp dp : Nat) (v9 v10 v11 : Value) (wr : World) : Prop :=
  ∃ (i : Nat) (d : Dsk) (Y : List Nat), i ≤ n ∧ v11 = .int .i64 (i : Int) ∧ Chain n i (fun _ => false) d ∧ GX w.heap.size Y wr gp dp ⟨n, cL n i, []⟩ d ∧ ChAt w.heap.size Y i i v9 v10 wr ∧ Below w.heap.size w wr
def tb (bl : List Bool) (j : Nat) : Bool := bl.getD j false
theorem tb_skip {bl : List Bool} {k : Nat} (h : tb bl k = false) (j : Nat) : (tb bl j && decide (j < k)) = (tb bl j && decide (j < k + 1)) := by
  by_cases e : j = k
  · subst e; rw [h]; rfl
  · rw [show decide (j < k) = decide (j < k + 1) by simp only [decide_eq_decide]; omega]
theorem tb_turn {bl : List Bool} {k : Nat} (h : tb bl k = true) (j : Nat) : ((tb bl j && decide (j < k)) || decide (j = k)) = (tb bl j && decide (j < k + 1)) := by
  by_cases e : j = k
  · subst e; rw [h]; simp
  · rw [show decide (j < k) = decide (j < k + 1) by simp only [decide_eq_decide]; omega, decide_eq_false e, Bool.or_false]
theorem tb_put {bl : List Bool} {k : Nat} (j : Nat) : ((tb bl j && decide (j < k + 1)) && decide (j ≠ k)) = (tb bl j && decide (j < k)) := by
  by_cases e : j = k
  · subst e; simp
  · rw [show decide (j < k + 1) = decide (j < k) by simp only [decide_eq_decide]; omega, decide_eq_true e, Bool.and_true]
/-- Ahead of each byte that may be turned: k blocks were looked at. -/
def TuRel (w : World) (m : Nat) (bl : List Bool) (gp dp : Nat) (v9 v10 v17 : Value) (wr : World) : Prop :=
  ∃ (k : Nat) (d : Dsk) (Y : List Nat), k ≤ m ∧ v17 = .int .i64 (k : Int) ∧ Chain m m (fun j => tb bl j && decide (j < k)) d ∧ GX w.heap.size Y wr gp dp ⟨m, cL m m, []⟩ d ∧ ChAt w.heap.size Y m m v9 v10 wr ∧ Below w.heap.size w wr
/-- Ahead of each block that may be put right: those from k on are. -/
def RiRel (w : World) (m : Nat) (bl : List Bool) (gp dp : Nat) (v9 v10 v18 : Value) (wr : World) : Prop :=
  ∃ (k : Nat) (d : Dsk) (Y : List Nat), k ≤ m ∧ v18 = .int .i64 ((k : Int) - 1) ∧ Chain m m (fun j => tb bl j && decide (j < k)) d ∧ GX w.heap.size Y wr gp dp ⟨m, cL m m, []⟩ d ∧ ChAt w.heap.size Y m m v9 v10 wr ∧ Below w.heap.size w wr
theorem Chain.bad_eq {n m : Nat} {b b' : Nat → Bool} {d : Dsk} (h : Chain n m b d) (e : ∀ j, b j = b' j) : Chain n m b' d := ⟨h.rm, fun j hj => by rw [← e j]; exact h.blk j hj⟩
set_option maxRecDepth 100000 in
set_option maxHeartbeats 8000000 in
theorem lgridReaches_any (n : Int) (A : Option Addr) (c : Nat) (bl : List Bool) (w : World) (hT : Tab w) (hb : Reads w A (bl.map Value.bool)) (hc : bl.length ≤ 9223372036854775807) :
    Calls Tryd.prog 5 #[.int .i64 n, .slice A bl.length c] w fun e w' => e = .returned (.bool true) ∧ Below w.heap.size w w' := by
  have hzr := zeroRefrun
  have H0 := Lib.hid (And.intro hT hb)
  clear hT hb
  go_enter Tryd.func5, Tryd.ntmps5
  go_wp2_with fail
  refine (lgridKnown_any w H0.out.1).mono ?_
  rintro e w1 ⟨rfl, hB1⟩
  have H1 := Lib.hid hB1
  clear hB1
  by_cases h1 : 1 ≤ n ∧ n ≤ 10 ∧ bl.length ≤ 20
  case neg =>
    by_cases h2 : n < 1
    · have k1 : decide (n < 1) = true := decide_eq_true h2
      clear h1 h2
      go_wp2
      go_ret
      exact ⟨rfl, H1.out⟩
    by_cases h3 : n > 10
    · have k1 : decide (n < 1) = false := decide_eq_false h2
      have k2 : decide (n > 10) = true := decide_eq_true h3
      clear h1 h2 h3
      go_wp2
      go_ret
      exact ⟨rfl, H1.out⟩
    have k1 : decide (n < 1) = false := decide_eq_false h2
    have k2 : decide (n > 10) = false := decide_eq_false h3
    have k3 : decide ((bl.length : Int) > 20) = true := decide_eq_true (by omega)
    clear h1 h2 h3
    go_wp2
    go_ret
    exact ⟨rfl, H1.out⟩
  obtain ⟨h2, h3, h4⟩ := h1
  obtain ⟨m, rfl⟩ : ∃ m : Nat, n = (m : Int) := ⟨n.toNat, by omega⟩
  have k1 : decide ((m : Int) < 1) = false := decide_eq_false (by omega)
  have k2 : decide ((m : Int) > 10) = false := decide_eq_false (by omega)
  have k3 : decide ((bl.length : Int) > 20) = false := decide_eq_false (by omega)
  have HM := Lib.hid (And.intro (show 1 ≤ m by omega) (And.intro (show m ≤ 10 by omega) h4))
  clear h2 h3 h4
  go_wp2_with fail
  refine (lmade_any m HM.out.1 (Nat.le_trans HM.out.2.1 (by omega)) w1).mono ?_
  rintro e w2 ⟨gp, dp, rfl, hG, hB⟩
  have hx := GX.of_GL (B := w.heap.size) (by obtain ⟨q, j1, j2, j3, j4, j5⟩ := hG; exact ⟨q, j1, j2, j3, j4, fun x hx => Nat.le_trans H1.out.size (j5 x hx)⟩) (Nat.le_trans H1.out.size hB.size)
  have H2 := Lib.hid (And.intro (show GX w.heap.size [] w2 gp dp ⟨m, cL m 0, []⟩ (Dsk.new (104 + 4 * m)) from hx) (H1.out.trans (hB.mono H1.out.size)))
  clear hG hB hx H1 k1 k2 k3
  go_wp2_with fail
  go_loopw [9, 10, 11] (fun v9 v10 v11 wr => ChRel w m gp dp v9 v10 v11 wr) (fun _ _ v _ => m - (intOf v).toNat)
  case atStart => exact ⟨0, _, [], Nat.zero_le _, rfl, chain_new HM.out.1 HM.out.2.1, H2.out.1, ChAt.nil _ _, H2.out.2⟩
  case round =>
    obtain ⟨i, d, Y, hi, rfl, hC, hG, hA, hB⟩ := hrel
    by_cases hlt : i < m
    case neg =>
      obtain rfl : i = m := by omega
      have H3 := Lib.hid (And.intro hC (And.intro hG (And.intro hA hB)))
      clear hC hG hB hlt H2 hi
      obtain ⟨⟨sp, hrf⟩, ⟨ys0, sp10, hrw, -, -⟩, -, -⟩ := hA
      obtain ⟨A9, c9, rfl, hc9, hc9m, hrd, -⟩ := OwnsC.reads hrf
      obtain ⟨A10, c10, rfl, hc10, hc10m, hrd10, -⟩ := OwnsC.reads hrw
      clear hrf hrd hrw hrd10 hc10m hc9m
      go_wp2_with fail
      go_loopw [17] (fun v17 wr => TuRel w i bl gp dp (.slice A9 i c9) (.slice A10 i c10) v17 wr) (fun v _ => i - (intOf v).toNat)
      case atStart => exact ⟨0, d, Y, Nat.zero_le _, rfl, H3.out.1.bad_eq (fun j => by simp), H3.out.2.1, H3.out.2.2.1, H3.out.2.2.2⟩
      case round =>
        clear H3 d Y
        obtain ⟨k, d, Y, hk, rfl, hC, hG, hA, hB⟩ := hrel
        by_cases hlt : k < i
        case neg =>
          obtain rfl : k = i := by omega
          have H4 := Lib.hid (And.intro hC (And.intro hG (And.intro hA hB)))
          have kw : wrap64 ((k : Int) - 1) = ((k - 1 : Nat) : Int) := by rw [w64_in (by have := HM.out.2.1; omega)]; have := HM.out.1; omega
          clear hC hG hA hB hlt hk
          go_wp2_with fail
          rw [kw]
          go_loopw [18] (fun v18 wr => RiRel w k bl gp dp (.slice A9 k c9) (.slice A10 k c10) v18 wr) (fun v _ => (intOf v + 1).toNat)
          case atStart => exact ⟨k, d, Y, Nat.le_refl _, congrArg _ (by have := HM.out.1; omega), H4.out⟩
          case round =>
            clear H4 d Y kw
            obtain ⟨j, d, Y, hj, hv, hC, hG, hA, hB⟩ := hrel
            rcases j with _ | j
            · obtain rfl : _ = Value.int .i64 (-1) := hv
              have H5 := Lib.hid (And.intro hC (And.intro hG (And.intro hA hB)))
              clear hC hG hB hj
              obtain ⟨⟨sp', hrf⟩, -, -, -⟩ := hA
              obtain ⟨A9', c9', e9, -, -, hrd, -⟩ := OwnsC.reads hrf
              have hRf := Refs.of hrd
              injection e9 with e9 _ e9c
              subst e9 e9c
              have k3 : (((List.range k).map ck)).length = k := by simp
              have hk1 : k - 1 < k := by have := HM.out.1; omega
              obtain ⟨bb, off, rfl, -, hcs⟩ := hRf (by rw [k3]; omega)
              obtain ⟨d1, d2⟩ := hcs (k - 1) (by rw [k3]; exact hk1)
              rw [show ((List.range k).map ck)[k - 1]'(by rw [k3]; exact hk1) = ck (k - 1) by simp] at d1 d2
              have kw : wrap64 ((k : Int) - 1) = ((k - 1 : Nat) : Int) := by rw [w64_in (by have := HM.out.2.1; omega)]; omega
              clear hRf hcs k3 hrf hrd
              go_wp2_with fail
              have hre := chain_reach H5.out.1 HM.out.1 HM.out.2.1 (cL k k)
              rw [fb_none (k - 1) (fun i _ => by simp)] at hre
              refine (lreaches_any H5.out.2.1 (by simp) (ck (k - 1)) (L := []) (by simp) hre none 0 0 [] rfl (fun h => absurd h (by simp)) (fun ad e => by cases e)).mono ?_
              rintro e w6 ⟨he, hG, hS⟩
              obtain rfl : e = .returned (.bool true) := by simpa using he
              have H6 := Lib.hid (And.intro (show GX w.heap.size Y w6 gp dp ⟨k, cL k k, []⟩ d from hG) (H5.out.2.2.2.trans hS.bel))
              clear hre he hG hS H5 d1 d2 kw
              go_wp2_with fail
              refine (xwanted H6.out.1 (by simp)).mono ?_
              rintro e w7 ⟨A3, c3, rfl, -, -, hbx⟩
              have H7 := Lib.hid (H6.out.2.trans (hbx.mono H6.out.2.size))
              clear hbx H6
              go_wp2_with fail
              go_ret
              exact ⟨rfl, H7.out⟩
            · rw [show ((j + 1 : Nat) : Int) - 1 = (j : Int) by omega] at hv
              subst hv
              have H5 := Lib.hid (And.intro hC (And.intro hG (And.intro hA hB)))
              have k1 : decide ((j : Int) ≥ 0) = true := decide_eq_true (by omega)
              have k0 : wrap64 ((j : Int) - 1) = (j : Int) - 1 := w64_in (by have := HM.out.2.1; omega)
              clear hC hG hB k0
              have k5 : j < 65536 := by have := HM.out.2.1; omega
              have HJ := Lib.hid (show j < k from hj)
              clear hj
              by_cases hkb : j < bl.length
              case neg =>
                have k2 : decide (j < bl.length) = false := decide_eq_false hkb
                have HK := Lib.hid (show tb bl j = false by unfold tb; rw [List.getD_eq_getElem?_getD, List.getElem?_eq_none (by omega)]; rfl)
                clear hkb hA
                go_wp2_with fail
                exact ⟨⟨j, d, Y, Nat.le_of_lt HJ.out, rfl, H5.out.1.bad_eq (fun i => (tb_skip HK.out i).symm), H5.out.2⟩, meas_dn rfl rfl⟩
              have k2 : decide ((j : Int) < (bl.length : Int)) = true := decide_eq_true (by omega)
              obtain ⟨bA, oA, rfl, hcb⟩ := (H0.out.2.below H5.out.2.2.2) (fun e => by have := congrArg List.length e; rw [List.length_map, List.length_nil] at this; omega)
              have d0 := hcb j (.bool (tb bl j)) (by unfold tb; rw [List.getElem?_map, List.getElem?_eq_getElem hkb, List.getD_eq_getElem?_getD, List.getElem?_eq_getElem hkb]; rfl)
              clear hcb
              cases hbk : tb bl j
              case false =>
                rw [hbk] at d0
                have HB := Lib.hid hbk
                clear hbk hA
                go_wp2_with fail
                exact ⟨⟨j, d, Y, Nat.le_of_lt HJ.out, rfl, H5.out.1.bad_eq (fun i => (tb_skip HB.out i).symm), H5.out.2⟩, meas_dn rfl rfl⟩
              case true =>
                rw [hbk] at d0
                have HB := Lib.hid hbk
                clear hbk
                obtain ⟨⟨sp', hrf⟩, ⟨ys, sp11, hrw, hyl, hyb⟩, ho9, ho10⟩ := hA
                obtain ⟨A9', c9', e9, -, -, hrd, -⟩ := OwnsC.reads hrf
                obtain ⟨A10', c10', e10, -, -, hrd10, -⟩ := OwnsC.reads hrw
                have hRf := Refs.of hrd
                injection e9 with e9 _ e9c
                injection e10 with e10 _ e10c
                subst e9 e9c e10 e10c
                have k3 : (((List.range k).map ck)).length = k := by simp
                have hk1 : k - 1 < k := by have := HM.out.1; omega
                obtain ⟨bb, off, rfl, -, hcs⟩ := hRf (by rw [k3]; omega)
                have d1 := hcs (k - 1) (by rw [k3]; exact hk1)
                rw [show ((List.range k).map ck)[k - 1]'(by rw [k3]; exact hk1) = ck (k - 1) by simp] at d1
                have d2 := hcs j (by rw [k3]; exact HJ.out)
                rw [show ((List.range k).map ck)[j]'(by rw [k3]; exact HJ.out) = ck j by simp] at d2
                obtain ⟨b10, o10, rfl, hc10c⟩ := hrd10 (fun e => by have := congrArg List.length e; rw [List.length_map, List.length_nil] at this; have := HJ.out; omega)
                obtain ⟨y, hy⟩ : ∃ y, ys[j]? = some y := ⟨_, List.getElem?_eq_getElem (by have := HJ.out; omega)⟩
                have d3 := hc10c j (rawv y) (by rw [List.getElem?_map, hy]; rfl)
                have hYb : bb ∈ Y := by
                  have := ownOf hrf
                  exact ho9 bb this
                have hYr : b10 ∈ Y := by
                  have := ownOf hrw
                  exact ho10 b10 this
                have HY := Lib.hid (And.intro (hyb j y hy) (And.intro hYb (And.intro hYr (And.intro d1 (And.intro d2 d3)))))
                have kw : wrap64 ((k : Int) - 1) = ((k - 1 : Nat) : Int) := by rw [w64_in (by have := HM.out.2.1; omega)]; omega
                have hjk : j < k := HJ.out
                clear hrf hrd hrw hrd10 hRf hcs k3 hc10c hyl hyb hy hYb hYr d1 d2 d3 ho9 ho10
                go_wp2_with fail
                have hC0 : Same Y wr wr.drew := ⟨Nat.le_refl _, fun _ _ => rfl⟩
                refine wp_region_tree (Same Y wr) [] (PlanT.takes [0, 1, 2, 3, 4, 6, 7, 8] (PlanT.takes [5, 9] (.opt 10 (.opt 11 (PlanT.takes [12, 13, 14, 15, 16, 17, 19, 20, 21] (PlanT.takes [18, 22] (.opt 23 (PlanT.takes [24, 25] .done) .no))) .no) .no))) (by kernel_rfl) (by kernel_rfl) (hC0) ?_
                refine wpTree_pure _ _ _ (by rfl) (by rfl) ?_
                dsimp only [List.filterMap, List.getElem?_cons_zero, List.getElem?_cons_succ]
                repeat (go_big_quiet_step (fail))
                refine wpQuiet_nil ?_
                refine wpTree_takeL _ _ _ (by rfl) (by rfl) (hC0) ?_
                dsimp only [List.filterMap, List.getElem?_cons_zero, List.getElem?_cons_succ]
                (refine wpQuiet_load_mid (fun w' hw' => range2 (b := bb) (off := off + (k - 1) * 2) (u := .int .i64 (ck (k - 1)).1) (v := .int .i64 (ck (k - 1)).2.1) ((hw'.cell (p := ⟨bb, off + (k - 1) * 2, none⟩) HY.out.2.1).trans HY.out.2.2.2.1.1) ((hw'.cell (p := ⟨bb, off + (k - 1) * 2 + 1, none⟩) HY.out.2.1).trans HY.out.2.2.2.1.2)) (by rfl) _ _ (by rfl) (by rfl) _ Tryd.underlying23 (by rfl) (size_ref) (by rfl) ?_; simp only [Act.put, List.setIfInBounds_toArray, List.set_cons_zero, List.set_cons_succ])
                (refine wpQuiet_load_mid (fun w' hw' => range2 (b := bb) (off := off + j * 2) (u := .int .i64 (ck j).1) (v := .int .i64 (ck j).2.1) ((hw'.cell (p := ⟨bb, off + j * 2, none⟩) HY.out.2.1).trans HY.out.2.2.2.2.1.1) ((hw'.cell (p := ⟨bb, off + j * 2 + 1, none⟩) HY.out.2.1).trans HY.out.2.2.2.2.1.2)) (by rfl) _ _ (by rfl) (by rfl) _ Tryd.underlying23 (by rfl) (size_ref) (by rfl) ?_; simp only [Act.put, List.setIfInBounds_toArray, List.set_cons_zero, List.set_cons_succ])
                refine wpQuiet_nil ?_
                refine wpTree_one _ rfl ?_
                go_wp2_with fail
                have hbl := ((Below.refl wr.heap.size wr).alloc (Nat.le_refl _) (.cells #[.int .i64 (ck j).1, .int .i64 (ck j).2.1] 23)).drew
                have hw6 := H5.out.2.1.below hbl
                have hG6 := H5.out.2.1.add hbl (y := wr.heap.size) (Nat.le_refl _) (by simp)
                have hr6 : Refs (wr.alloc (.cells #[.int .i64 (ck j).1, .int .i64 (ck j).2.1] 23)).drew (some ⟨wr.heap.size, 0, none⟩) [ck j] := (Refs.of (l := [ck j]) (reads_new wr 23 [.int .i64 (ck j).1, .int .i64 (ck j).2.1])).below (Below.refl _ _).drew
                have hC6 := hw6.2.same
                have H6 := Lib.hid (And.intro hG6 (And.intro hw6.2 hr6))
                clear hbl hw6 hG6 hr6
                generalize (wr.alloc (.cells #[.int .i64 (ck j).1, .int .i64 (ck j).2.1] 23)).drew = w6 at H6 hC6 ⊢
                generalize wr.heap.size = gy at H6 ⊢
                refine TreeQ.in_ hC6 ?_
                refine wpTree_one _ rfl ?_
                go_wp2_with fail
                have hre := chain_reach H5.out.1 HM.out.1 HM.out.2.1 (cL k k)
                rw [fb_top (i := j) (by rw [HB.out]; simp) (k - 1) (by omega) (fun i h1 h2 => by rw [decide_eq_false (show ¬ i < j + 1 by omega), Bool.and_false]), chain_want HJ.out HM.out.2.1] at hre
                refine (lreaches_any H6.out.1 (by simp) (ck (k - 1)) (L := [ck j]) (by simp) hre (some ⟨gy, 0, none⟩) 1 1 [ck j] rfl H6.out.2.2 (fun ad e => by cases e; simp)).mono ?_
                rintro e w7 ⟨he, hG, hS⟩
                obtain rfl : e = .returned (.bool true) := by simpa using he
                have hC7 : Same Y wr w7 := hC6.trans (hS.same.sub (fun z hz => List.mem_cons_of_mem _ hz))
                have H7 := Lib.hid (And.intro (hG.sub (Y' := Y) (fun z hz => List.mem_cons_of_mem _ hz)) (H6.out.2.1.trans (hS.sub (fun z hz => List.mem_cons_of_mem _ hz))))
                clear hre he hG hS H6 hC6
                go_wp2_with fail
                refine TreeQ.in_ hC7 ?_
                refine wpTree_pure _ _ _ (by rfl) (by rfl) ?_
                dsimp only [List.filterMap, List.getElem?_cons_zero, List.getElem?_cons_succ]
                repeat (go_big_quiet_step (fail))
                refine wpQuiet_nil ?_
                refine wpTree_takeL _ _ _ (by rfl) (by rfl) (hC7) ?_
                dsimp only [List.filterMap, List.getElem?_cons_zero, List.getElem?_cons_succ]
                (refine wpQuiet_want' (by rfl) ?_; refine wpQuiet_load_mid (fun w' hw' => range2 (b := bb) (off := off + j * 2) (u := .int .i64 (ck j).1) (v := .int .i64 (ck j).2.1) ((hw'.cell (p := ⟨bb, off + j * 2, none⟩) HY.out.2.1).trans HY.out.2.2.2.2.1.1) ((hw'.cell (p := ⟨bb, off + j * 2 + 1, none⟩) HY.out.2.1).trans HY.out.2.2.2.2.1.2)) (by rfl) _ _ (by rfl) (by rfl) _ Tryd.underlying23 (by rfl) (size_ref) (by rfl) ?_; simp only [Act.put, List.setIfInBounds_toArray, List.set_cons_zero, List.set_cons_succ])
                (refine wpQuiet_want' (by rfl) ?_; refine wpQuiet_load_cell (fun w' hw' => (hw'.cell (p := ⟨b10, o10 + j, none⟩) HY.out.2.2.1).trans HY.out.2.2.2.2.2) (by rfl) _ _ (by rfl) (by rfl) _ Tryd.underlying44 (by rfl) ?_; simp only [Act.put, List.setIfInBounds_toArray, List.set_cons_zero, List.set_cons_succ])
                refine wpQuiet_nil ?_
                refine wpTree_one _ rfl ?_
                go_wp2_with fail
                obtain ⟨d', hi, hC'⟩ := chain_install H5.out.1 HJ.out HM.out.2.1 (cL k k)
                refine (xinstall H7.out.1 (by simp) (ck j) (some ⟨y, 0, none⟩) 1024 1024 (GB.bytes (cb j)) (cb_length (by have := HJ.out; have := HM.out.2.1; omega)).symm (Nat.le_refl _) (by omega) (hC7.blk HY.out.1.1 HY.out.1.2).bytes (fun ad e => by cases e; exact HY.out.1.2) hi).mono ?_
                rintro e w8 ⟨rfl, hG, hS⟩
                have hC8 := hC7.trans hS.same
                have H8 := Lib.hid (And.intro (hC'.bad_eq tb_put) (And.intro hG (And.intro (H5.out.2.2.1.step hC8) ((H5.out.2.2.2.trans H7.out.2.bel).trans hS.bel))))
                clear hi hC' hG hS H7 hC7
                go_wp2_with fail
                refine TreeQ.in_ hC8 ?_
                refine wpTree_pure _ _ _ (by rfl) (by rfl) ?_
                dsimp only [List.filterMap, List.getElem?_cons_zero, List.getElem?_cons_succ]
                repeat (go_big_quiet_step (fail))
                refine wpQuiet_nil ?_
                refine wpTree_done ?_
                clear hC8 hC0
                go_wp2_with fail
                exact ⟨⟨j, d', Y, Nat.le_of_lt HJ.out, rfl, H8.out⟩, meas_dn rfl rfl⟩
        have H4 := Lib.hid (And.intro hC (And.intro hG (And.intro hA hB)))
        have HI := Lib.hid hlt
        have k1 : decide ((k : Int) < (i : Int)) = true := decide_eq_true (by omega)
        have HW := Lib.hid (show wrap64 ((k : Int) + 1) = (k : Int) + 1 from w64_in (by have := HM.out.2.1; omega))
        clear hC hG hB hlt hk
        by_cases hkb : k < bl.length
        case neg =>
          have k2 : decide (k < bl.length) = false := decide_eq_false hkb
          have hbk : tb bl k = false := by unfold tb; rw [List.getD_eq_getElem?_getD, List.getElem?_eq_none (by omega)]; rfl
          have HK := Lib.hid hbk
          clear hkb hA hbk
          go_wp2_with fail
          have e1 := HI.out
          rw [HW.out]
          exact ⟨⟨k + 1, d, Y, e1, rfl, H4.out.1.bad_eq (tb_skip HK.out), H4.out.2⟩, meas_up (i := k) rfl rfl HI.out⟩
        have k2 : decide ((k : Int) < (bl.length : Int)) = true := decide_eq_true (by omega)
        obtain ⟨bA, oA, rfl, hcb⟩ := (H0.out.2.below H4.out.2.2.2) (fun e => by have := congrArg List.length e; rw [List.length_map, List.length_nil] at this; omega)
        have d1 := hcb k (.bool (tb bl k)) (by unfold tb; rw [List.getElem?_map, List.getElem?_eq_getElem hkb, List.getD_eq_getElem?_getD, List.getElem?_eq_getElem hkb]; rfl)
        obtain ⟨⟨sp, hrf⟩, -, -, -⟩ := hA
        obtain ⟨A9', c9', e9, -, -, hrd, -⟩ := OwnsC.reads hrf
        have hRf := Refs.of hrd
        injection e9 with e9 _ e9c
        subst e9 e9c
        have k3 : (((List.range i).map ck)).length = i := by simp
        obtain ⟨bb, off, rfl, -, hcs⟩ := hRf (by rw [k3]; have := HI.out; omega)
        obtain ⟨d2, -⟩ := hcs k (by rw [k3]; exact HI.out)
        rw [show ((List.range i).map ck)[k]'(by rw [k3]; exact HI.out) = ck k by simp, show (ck k).1 = (k : Int) + 1 from rfl] at d2
        clear hcb hrf hrd hRf hcs k3
        have HK := Lib.hid (And.intro hkb H0)
        clear hkb
        cases hbk : tb bl k
        case false =>
          rw [hbk] at d1
          have HB := Lib.hid hbk
          clear hbk
          have k3 : k < bl.length := HK.out.1
          go_wp2_with fail
          have e1 := HI.out
          exact ⟨⟨k + 1, d, Y, e1, rfl, H4.out.1.bad_eq (tb_skip HB.out), H4.out.2⟩, meas_up (i := k) rfl rfl HI.out⟩
        case true =>
          rw [hbk] at d1
          have HB := Lib.hid hbk
          clear hbk
          have k3 : k < bl.length := HK.out.1
          have k4 : k < i := HI.out
          have k5 : wrap64 (k : Int) = (k : Int) := w64_in (by have := HM.out.2.1; omega)
          have k6 : wrap64 (4 * (k : Int)) = 4 * (k : Int) := w64_in (by have := HM.out.2.1; omega)
          have k7 : wrap64 (104 + 4 * (k : Int)) = 104 + 4 * (k : Int) := w64_in (by have := HM.out.2.1; omega)
          go_wp2_with fail
          obtain ⟨d', ht, hN, hC'⟩ := chain_turn H4.out.1 HI.out (by simp)
          rw [show 104 + 4 * (((k : Int) + 1) - 1) = 104 + 4 * (k : Int) by omega] at ht
          have htn := xturn H4.out.2.1 (104 + 4 * (k : Int)) 3 1 ht hN
          rw [show iu8 1 = 1 from rfl] at htn
          refine htn.mono ?_
          rintro e w5 ⟨rfl, hG, hS⟩
          have H5 := Lib.hid (And.intro (hC'.bad_eq (tb_turn HB.out)) (And.intro hG (And.intro (H4.out.2.2.1.step hS.same) (H4.out.2.2.2.trans hS.bel))))
          clear htn ht hN hC' hG hS H4
          go_wp2_with fail
          have e1 := HI.out
          exact ⟨⟨k + 1, d', Y, e1, rfl, H5.out⟩, meas_up (i := k) rfl rfl HI.out⟩
    have H3 := Lib.hid (And.intro hC (And.intro hG (And.intro hA hB)))
    have HI := Lib.hid hlt
    clear hC hG hB hlt H2 hi
    obtain ⟨⟨sp, hrf⟩, -, -, -⟩ := hA
    obtain ⟨A9, c9, rfl, hc9, hc9m, hrd, -⟩ := OwnsC.reads hrf
    have hRf := Refs.of hrd
    clear hrf hrd
    rcases i with _ | k
    · have k0 : decide ((0 : Int) > 0) = false := by decide
      clear hRf
      go_wp2_with fail
      have hbel := (Below.refl wr.heap.size wr).alloc (Nat.le_refl _) (.cells #[.int .u8 0] 5)
      have hwr := H3.out.2.1.below hbel
      have hbody : Bytes (wr.alloc (.cells #[.int .u8 0] 5)) (some ⟨wr.heap.size, 0, none⟩) [UInt8.ofNat 0] := Blk.bytes (t := 5) ((show Blk (wr.alloc (.cells #[.int .u8 0] 5)) wr.heap.size 5 (([UInt8.ofNat 0] : List UInt8).map u8v).toArray from Blk.new wr 5 #[.int .u8 0]))
      have hnm : Refs (wr.alloc (.cells #[.int .u8 0] 5)) none (cnames 0) := fun h => absurd h (by simp [cnames])
      obtain ⟨d', hp, hC', hN'⟩ := chain_write H3.out.1 HI.out HM.out.2.1
      have hT0 := H0.out.1.below (H3.out.2.2.2.trans hwr.2.bel)
      have hxw := xwrite hwr.1 hT0 1 (0) none (some ⟨wr.heap.size, 0, none⟩) 0 0 1 1 (cnames 0) [UInt8.ofNat 0] rfl rfl (by simp [cnames]) (by simp) hnm hbody hp
      have H4 := Lib.hid (And.intro hwr.1 (And.intro (H3.out.2.2.1.step hwr.2.same) (And.intro (H3.out.2.2.2.trans hwr.2.bel) (And.intro hC' (H3.out.1)))))
      clear hbel hwr hbody hp hC' hN' hT0 hnm
      generalize (wr.alloc (.cells #[.int .u8 0] 5)) = W0 at H4 hxw ⊢
      refine hxw.mono ?_
      rintro e W1 ⟨rfl, hG, hS⟩
      have H5 := Lib.hid (And.intro hG (And.intro (H4.out.2.1.step hS.same) (And.intro (H4.out.2.2.1.trans hS.bel) H4.out.2.2.2.1)))
      clear hxw hG hS H4 H3
      go_wp2_with (first
        | ((with_reducible show wpList _ _ _ ((⟨none, _, _, _, _, _⟩ : Oper) :: _) _ _); refine wpList_store_blk (o := ⟨none, _, _, _, _, _⟩) ((Blk.new W1 23 #[.int .i64 0, .int .i64 0])) (by rfl) _ _ _ (by rfl) (by rfl) (#[.int .i64 (ck (0)).1, .int .i64 (ck (0)).2.1]) (by rfl) (size_ref) (by rfl) (by rfl) (by simp [Value.oneCell']) ?_; intro W2 h2 hu2; have hbx := ((Below.refl W1.heap.size W1).alloc (Nat.le_refl _) (.cells #[.int .i64 0, .int .i64 0] 23)).upd hu2 (Nat.le_refl _); have hlt2 := h2.lt; have H6 := Lib.hid (And.intro (H5.out.1.add hbx (y := W1.heap.size) (Nat.le_refl _) hlt2) (And.intro ((H5.out.2.1.step (H5.out.1.below hbx).2.same).more (Y' := W1.heap.size :: Y) (fun z hz => List.mem_cons_of_mem _ hz)) (And.intro (H5.out.2.2.1.trans (H5.out.1.below hbx).2.bel) (And.intro H5.out.2.2.2 h2)))); clear hu2 hbx hlt2)
        | ((with_reducible show wpList _ _ _ ((⟨some 65, _, _, _, _, _⟩ : Oper) :: _) _ _); refine wpList_load_blk (o := ⟨some 65, _, _, _, _, _⟩) (h2) (by rfl) _ _ (by rfl) (by rfl) _ Tryd.underlying23 (by rfl) (size_ref) (by rfl) ?_)
        | fail)
      clear H5 h2
      generalize W1.heap.size = gr at H6 ⊢
      have hlk := chain_look H6.out.2.2.2.1 HM.out.2.1 (Nat.lt_succ_self (0)) HI.out (cL m (0 + 1))
      have hHL := Lib.hid (show (gblk d' (ck (0)).1).length = 1024 by rw [hlk.2]; exact cb_length (by have := HI.out; have := HM.out.2.1; omega))
      refine (xraw_some H6.out.1 (by simp) (ck (0)) hlk.1).mono ?_
      rw [hlk.2] at hHL
      rw [hlk.2, hHL.out]
      rintro e W3 ⟨y, rfl, hby, hyl, hG, hS⟩
      have hr3 := hS.same.blk H6.out.2.2.2.2 (List.mem_cons_self ..)
      have hbl4 := (Below.refl W3.heap.size W3).alloc (Nat.le_refl _) (.cells #[.int .i64 (ck (0)).1, .int .i64 (ck (0)).2.1] 23)
      have hG4 := hG.below hbl4
      have hA4 := (((H6.out.2.1.step hS.same).more (Y' := y :: gr :: Y) (fun z hz => List.mem_cons_of_mem _ hz))).step hG4.2.same
      have hra : Reads (W3.alloc (.cells #[.int .i64 (ck (0)).1, .int .i64 (ck (0)).2.1] 23)) (some ⟨W3.heap.size, 0, none⟩) [.int .i64 (ck (0)).1, .int .i64 (ck (0)).2.1] := reads_new W3 23 [.int .i64 (ck (0)).1, .int .i64 (ck (0)).2.1]
      have H7 := Lib.hid (And.intro hG4.1 (And.intro hA4 (And.intro (H6.out.2.2.1.trans (hS.bel.trans hG4.2.bel)) (And.intro H6.out.2.2.2.1 (And.intro (hby.below hbl4 hby.lt) hra)))))
      obtain ⟨sp9, ho4⟩ := hA4.refs
      have HO4 := Lib.hid ho4
      clear hlk hHL hby hyl hG hS hbl4 hG4 hA4 hra ho4 H6
      go_wp2_with (first
        | ((with_reducible show wpList _ _ _ ((⟨some 76, _, _, _, _, _⟩ : Oper) :: _) _ _); refine wpList_load_blk (o := ⟨some 76, _, _, _, _, _⟩) (hr3) (by rfl) _ _ (by rfl) (by rfl) _ Tryd.underlying23 (by rfl) (size_ref) (by rfl) ?_)
        | ((with_reducible show wpList _ _ _ ((⟨some 78, _, _, _, _, _⟩ : Oper) :: _) _ _); refine wpList_append_vals (o := ⟨some 78, _, _, _, _, _⟩) (by rfl) _ _ _ (by rfl) w.heap.size 23 (.agg #[.int .i64 0, .int .i64 0]) 2 16 Tryd.underlying29 infoRef (by rfl) (by omega) (.slice A9 0 c9) (0) (refCells ((List.range (0)).map ck)) sp9 (by rfl) HO4.out (some ⟨W3.heap.size, 0, none⟩) 1 1 [.int .i64 (ck (0)).1, .int .i64 (ck (0)).2.1] (by rfl) (by rfl) H7.out.2.2.2.2.2 (by simp [Value.oneCell']) (by have := HI.out; have := HM.out.2.1; simp only [maxLen]; omega) (by have := HI.out; have := HM.out.2.1; omega) H7.out.1.size ?_; intro v' W5 sp5 ho5 hg5 hv5 hn5; refine stopped ?_)
        | fail)
      refine Stopped.mk ?_
      have ha := H7.out.1.append hg5 H7.out.2.1.o9 hv5 (fun x hx => (OwnsC.lt ho5 x hx).2) (fun x hx => (OwnsC.lt HO4.out x hx).1)
      have hA5 := H7.out.2.1.ref ho5 hg5
      have hby5 : Blk W5 y 5 ((GB.bytes (cb (0))).map u8v).toArray := H7.out.2.2.2.2.1.near (Near.grown hg5 (fun x hx => Option.mem_toList.2 hx)) (fun hm => by
        obtain ⟨cs, hb⟩ := ownBlk HO4.out (Option.mem_toList.1 hm)
        exact H7.out.2.2.2.2.1.apart hb (by decide) rfl)
      have hbl6 := (Below.refl W5.heap.size W5).alloc (Nat.le_refl _) (.cells #[.slice (some ⟨y, 0, none⟩) 1024 1024] 44)
      have hG6 := ha.1.below hbl6
      have hA6 := hA5.step hG6.2.same
      have hra : Reads (W5.alloc (.cells #[.slice (some ⟨y, 0, none⟩) 1024 1024] 44)) (some ⟨W5.heap.size, 0, none⟩) [rawv y] := reads_new W5 44 [rawv y]
      have H8 := Lib.hid (And.intro hG6.1 (And.intro hA6 (And.intro (H7.out.2.2.1.trans (ha.2.1.trans hG6.2.bel)) (And.intro H7.out.2.2.2.1 (And.intro (hby5.below hbl6 hby5.lt) hra)))))
      obtain ⟨ys, sp6, ho6, hyl6, hyb6⟩ := hA6.raws
      obtain ⟨A10, c10, rfl, -, -, -, -⟩ := OwnsC.reads ho6
      have HO6 := Lib.hid (And.intro ho6 (And.intro hyl6 hyb6))
      obtain ⟨A11, c11, rfl, -, -, -, -⟩ := OwnsC.reads ho5
      clear ho5 hg5 hv5 hn5 ha hA5 hby5 hbl6 hG6 hA6 hra ho6 hyl6 hyb6 H7 HO4 hr3
      go_wp2_with (first
        | ((with_reducible show wpList _ _ _ ((⟨some 82, _, _, _, _, _⟩ : Oper) :: _) _ _); refine wpList_append_vals (o := ⟨some 82, _, _, _, _, _⟩) (by rfl) _ _ _ (by rfl) w.heap.size 44 (.slice none 0 0) 1 24 Tryd.underlying63 infoSlice (by rfl) (by omega) (.slice A10 (0) c10) (0) (ys.map rawv) sp6 (by rfl) HO6.out.1 (some ⟨W5.heap.size, 0, none⟩) 1 1 [rawv y] (by rfl) (by rfl) H8.out.2.2.2.2.2 (by simp [rawv, Value.oneCell']) (by have := HI.out; have := HM.out.2.1; simp only [maxLen]; omega) (by have := HI.out; have := HM.out.2.1; omega) H8.out.1.size ?_; intro v' W7 sp7 ho7 hg7 hv7 hn7; refine stopped ?_)
        | fail)
      refine Stopped.mk ?_
      have ha := H8.out.1.append hg7 H8.out.2.1.o10 hv7 (fun x hx => (OwnsC.lt ho7 x hx).2) (fun x hx => (OwnsC.lt HO6.out.1 x hx).1)
      have hA7 := H8.out.2.1.raw HO6.out.1 HO6.out.2.1 HO6.out.2.2 H8.out.2.2.2.2.1 (by simp) ho7 hg7
      have H9 := Lib.hid (And.intro ha.1 (And.intro hA7 (And.intro (H8.out.2.2.1.trans ha.2.1) H8.out.2.2.2.1)))
      obtain ⟨A12, c12, rfl, -, -, -, -⟩ := OwnsC.reads ho7
      clear ho7 hg7 hv7 hn7 ha hA7 H8 HO6
      go_wp2_with fail
      go_roundw
      case rel => exact ⟨0 + 1, d', _, HI.out, by go_num, H9.out.2.2.2, H9.out.1, H9.out.2.1, H9.out.2.2.1⟩
      case measure => exact meas_up (i := 0) rfl rfl HI.out
    · have k0 : decide (((k + 1 : Nat) : Int) > 0) = true := decide_eq_true (by omega)
      have k1 : wrap64 (k : Int) = (k : Int) := w64_in (by have := HI.out; have := HM.out.2.1; omega)
      have k2 : (((List.range (k + 1)).map ck)).length = k + 1 := by simp
      obtain ⟨bb, off, rfl, -, hcs⟩ := hRf (by rw [k2]; omega)
      obtain ⟨d1, d2⟩ := hcs k (by rw [k2]; omega)
      have k3 : ((List.range (k + 1)).map ck)[k]'(by rw [k2]; omega) = ck k := by simp
      rw [k3] at d1 d2
      have hcm : k < c9 := by omega
      have k4 : decide ((k : Int) + 1 < (m : Int)) = true := decide_eq_true (by have := HI.out; omega)
      have k5 : k + 1 + 1 < 65536 := by have := HI.out; have := HM.out.2.1; omega
      clear hRf hcs k3 hc9m
      go_wp2_with fail
      have hbel := ((Below.refl wr.heap.size wr).alloc (Nat.le_refl _) (.cells #[.int .i64 (ck k).1, .int .i64 (ck k).2.1] 23)).alloc (by simp) (.cells #[.int .u8 (((k : Int) + 1) % 256)] 5)
      have hwr := H3.out.2.1.below hbel
      have hbody : Bytes ((wr.alloc (.cells #[.int .i64 (ck k).1, .int .i64 (ck k).2.1] 23)).alloc (.cells #[.int .u8 (((k : Int) + 1) % 256)] 5)) (some ⟨wr.heap.size + 1, 0, none⟩) [UInt8.ofNat (k + 1)] := Blk.bytes (t := 5) ((show Blk ((wr.alloc (.cells #[.int .i64 (ck k).1, .int .i64 (ck k).2.1] 23)).alloc (.cells #[.int .u8 (((k : Int) + 1) % 256)] 5)) (wr.heap.size + 1) 5 (([UInt8.ofNat (k + 1)] : List UInt8).map u8v).toArray from by rw [show (([UInt8.ofNat (k + 1)] : List UInt8).map u8v).toArray = #[.int .u8 (((k : Int) + 1) % 256)] by rw [List.map_cons, List.map_nil, u8_of (by have := HI.out; have := HM.out.2.1; omega)]; congr 3; have := HI.out; have := HM.out.2.1; omega]; exact Blk.new' _ _ _ (by simp)))
      have hnm : Refs ((wr.alloc (.cells #[.int .i64 (ck k).1, .int .i64 (ck k).2.1] 23)).alloc (.cells #[.int .u8 (((k : Int) + 1) % 256)] 5)) (some ⟨wr.heap.size, 0, none⟩) (cnames (k + 1)) := (Refs.of (l := [ck k]) (reads_new wr 23 [.int .i64 (ck k).1, .int .i64 (ck k).2.1])).below ((Below.refl _ _).alloc (Nat.le_refl _) _)
      obtain ⟨d', hp, hC', hN'⟩ := chain_write H3.out.1 HI.out HM.out.2.1
      rw [show (((k + 1 : Nat)) : Int) = (k : Int) + 1 from Int.natCast_succ k] at hp
      have hT0 := H0.out.1.below (H3.out.2.2.2.trans hwr.2.bel)
      have hxw := xwrite hwr.1 hT0 1 ((k : Int) + 1) (some ⟨wr.heap.size, 0, none⟩) (some ⟨wr.heap.size + 1, 0, none⟩) 1 1 1 1 (cnames (k + 1)) [UInt8.ofNat (k + 1)] rfl rfl (by simp [cnames]) (by simp) hnm hbody hp
      have H4 := Lib.hid (And.intro hwr.1 (And.intro (H3.out.2.2.1.step hwr.2.same) (And.intro (H3.out.2.2.2.trans hwr.2.bel) (And.intro hC' (H3.out.1)))))
      clear hbel hwr hbody hp hC' hN' hT0 hnm
      generalize ((wr.alloc (.cells #[.int .i64 (ck k).1, .int .i64 (ck k).2.1] 23)).alloc (.cells #[.int .u8 (((k : Int) + 1) % 256)] 5)) = W0 at H4 hxw ⊢
      refine hxw.mono ?_
      rintro e W1 ⟨rfl, hG, hS⟩
      have H5 := Lib.hid (And.intro hG (And.intro (H4.out.2.1.step hS.same) (And.intro (H4.out.2.2.1.trans hS.bel) H4.out.2.2.2.1)))
      clear hxw hG hS H4 H3
      go_wp2_with (first
        | ((with_reducible show wpList _ _ _ ((⟨none, _, _, _, _, _⟩ : Oper) :: _) _ _); refine wpList_store_blk (o := ⟨none, _, _, _, _, _⟩) ((Blk.new W1 23 #[.int .i64 0, .int .i64 0])) (by rfl) _ _ _ (by rfl) (by rfl) (#[.int .i64 (ck ((k + 1))).1, .int .i64 (ck ((k + 1))).2.1]) (by rfl) (size_ref) (by rfl) (by rfl) (by simp [Value.oneCell']) ?_; intro W2 h2 hu2; have hbx := ((Below.refl W1.heap.size W1).alloc (Nat.le_refl _) (.cells #[.int .i64 0, .int .i64 0] 23)).upd hu2 (Nat.le_refl _); have hlt2 := h2.lt; have H6 := Lib.hid (And.intro (H5.out.1.add hbx (y := W1.heap.size) (Nat.le_refl _) hlt2) (And.intro ((H5.out.2.1.step (H5.out.1.below hbx).2.same).more (Y' := W1.heap.size :: Y) (fun z hz => List.mem_cons_of_mem _ hz)) (And.intro (H5.out.2.2.1.trans (H5.out.1.below hbx).2.bel) (And.intro H5.out.2.2.2 h2)))); clear hu2 hbx hlt2)
        | ((with_reducible show wpList _ _ _ ((⟨some 65, _, _, _, _, _⟩ : Oper) :: _) _ _); refine wpList_load_blk (o := ⟨some 65, _, _, _, _, _⟩) (h2) (by rfl) _ _ (by rfl) (by rfl) _ Tryd.underlying23 (by rfl) (size_ref) (by rfl) ?_)
        | fail)
      clear H5 h2
      generalize W1.heap.size = gr at H6 ⊢
      have hlk := chain_look H6.out.2.2.2.1 HM.out.2.1 (Nat.lt_succ_self ((k + 1))) HI.out (cL m ((k + 1) + 1))
      have hHL := Lib.hid (show (gblk d' (ck ((k + 1))).1).length = 1024 by rw [hlk.2]; exact cb_length (by have := HI.out; have := HM.out.2.1; omega))
      refine (xraw_some H6.out.1 (by simp) (ck ((k + 1))) hlk.1).mono ?_
      rw [hlk.2] at hHL
      rw [hlk.2, hHL.out]
      rintro e W3 ⟨y, rfl, hby, hyl, hG, hS⟩
      have hr3 := hS.same.blk H6.out.2.2.2.2 (List.mem_cons_self ..)
      have hbl4 := (Below.refl W3.heap.size W3).alloc (Nat.le_refl _) (.cells #[.int .i64 (ck ((k + 1))).1, .int .i64 (ck ((k + 1))).2.1] 23)
      have hG4 := hG.below hbl4
      have hA4 := (((H6.out.2.1.step hS.same).more (Y' := y :: gr :: Y) (fun z hz => List.mem_cons_of_mem _ hz))).step hG4.2.same
      have hra : Reads (W3.alloc (.cells #[.int .i64 (ck ((k + 1))).1, .int .i64 (ck ((k + 1))).2.1] 23)) (some ⟨W3.heap.size, 0, none⟩) [.int .i64 (ck ((k + 1))).1, .int .i64 (ck ((k + 1))).2.1] := reads_new W3 23 [.int .i64 (ck ((k + 1))).1, .int .i64 (ck ((k + 1))).2.1]
      have H7 := Lib.hid (And.intro hG4.1 (And.intro hA4 (And.intro (H6.out.2.2.1.trans (hS.bel.trans hG4.2.bel)) (And.intro H6.out.2.2.2.1 (And.intro (hby.below hbl4 hby.lt) hra)))))
      obtain ⟨sp9, ho4⟩ := hA4.refs
      have HO4 := Lib.hid ho4
      clear hlk hHL hby hyl hG hS hbl4 hG4 hA4 hra ho4 H6
      go_wp2_with (first
        | ((with_reducible show wpList _ _ _ ((⟨some 76, _, _, _, _, _⟩ : Oper) :: _) _ _); refine wpList_load_blk (o := ⟨some 76, _, _, _, _, _⟩) (hr3) (by rfl) _ _ (by rfl) (by rfl) _ Tryd.underlying23 (by rfl) (size_ref) (by rfl) ?_)
        | ((with_reducible show wpList _ _ _ ((⟨some 78, _, _, _, _, _⟩ : Oper) :: _) _ _); refine wpList_append_vals (o := ⟨some 78, _, _, _, _, _⟩) (by rfl) _ _ _ (by rfl) w.heap.size 23 (.agg #[.int .i64 0, .int .i64 0]) 2 16 Tryd.underlying29 infoRef (by rfl) (by omega) (.slice (some ⟨bb, off, none⟩) (k + 1) c9) ((k + 1)) (refCells ((List.range ((k + 1))).map ck)) sp9 (by rfl) HO4.out (some ⟨W3.heap.size, 0, none⟩) 1 1 [.int .i64 (ck ((k + 1))).1, .int .i64 (ck ((k + 1))).2.1] (by rfl) (by rfl) H7.out.2.2.2.2.2 (by simp [Value.oneCell']) (by have := HI.out; have := HM.out.2.1; simp only [maxLen]; omega) (by have := HI.out; have := HM.out.2.1; omega) H7.out.1.size ?_; intro v' W5 sp5 ho5 hg5 hv5 hn5; refine stopped ?_)
        | fail)
      refine Stopped.mk ?_
      have ha := H7.out.1.append hg5 H7.out.2.1.o9 hv5 (fun x hx => (OwnsC.lt ho5 x hx).2) (fun x hx => (OwnsC.lt HO4.out x hx).1)
      have hA5 := H7.out.2.1.ref ho5 hg5
      have hby5 : Blk W5 y 5 ((GB.bytes (cb ((k + 1)))).map u8v).toArray := H7.out.2.2.2.2.1.near (Near.grown hg5 (fun x hx => Option.mem_toList.2 hx)) (fun hm => by
        obtain ⟨cs, hb⟩ := ownBlk HO4.out (Option.mem_toList.1 hm)
        exact H7.out.2.2.2.2.1.apart hb (by decide) rfl)
      have hbl6 := (Below.refl W5.heap.size W5).alloc (Nat.le_refl _) (.cells #[.slice (some ⟨y, 0, none⟩) 1024 1024] 44)
      have hG6 := ha.1.below hbl6
      have hA6 := hA5.step hG6.2.same
      have hra : Reads (W5.alloc (.cells #[.slice (some ⟨y, 0, none⟩) 1024 1024] 44)) (some ⟨W5.heap.size, 0, none⟩) [rawv y] := reads_new W5 44 [rawv y]
      have H8 := Lib.hid (And.intro hG6.1 (And.intro hA6 (And.intro (H7.out.2.2.1.trans (ha.2.1.trans hG6.2.bel)) (And.intro H7.out.2.2.2.1 (And.intro (hby5.below hbl6 hby5.lt) hra)))))
      obtain ⟨ys, sp6, ho6, hyl6, hyb6⟩ := hA6.raws
      obtain ⟨A10, c10, rfl, -, -, -, -⟩ := OwnsC.reads ho6
      have HO6 := Lib.hid (And.intro ho6 (And.intro hyl6 hyb6))
      obtain ⟨A11, c11, rfl, -, -, -, -⟩ := OwnsC.reads ho5
      clear ho5 hg5 hv5 hn5 ha hA5 hby5 hbl6 hG6 hA6 hra ho6 hyl6 hyb6 H7 HO4 hr3
      go_wp2_with (first
        | ((with_reducible show wpList _ _ _ ((⟨some 82, _, _, _, _, _⟩ : Oper) :: _) _ _); refine wpList_append_vals (o := ⟨some 82, _, _, _, _, _⟩) (by rfl) _ _ _ (by rfl) w.heap.size 44 (.slice none 0 0) 1 24 Tryd.underlying63 infoSlice (by rfl) (by omega) (.slice A10 ((k + 1)) c10) ((k + 1)) (ys.map rawv) sp6 (by rfl) HO6.out.1 (some ⟨W5.heap.size, 0, none⟩) 1 1 [rawv y] (by rfl) (by rfl) H8.out.2.2.2.2.2 (by simp [rawv, Value.oneCell']) (by have := HI.out; have := HM.out.2.1; simp only [maxLen]; omega) (by have := HI.out; have := HM.out.2.1; omega) H8.out.1.size ?_; intro v' W7 sp7 ho7 hg7 hv7 hn7; refine stopped ?_)
        | fail)
      refine Stopped.mk ?_
      have ha := H8.out.1.append hg7 H8.out.2.1.o10 hv7 (fun x hx => (OwnsC.lt ho7 x hx).2) (fun x hx => (OwnsC.lt HO6.out.1 x hx).1)
      have hA7 := H8.out.2.1.raw HO6.out.1 HO6.out.2.1 HO6.out.2.2 H8.out.2.2.2.2.1 (by simp) ho7 hg7
      have H9 := Lib.hid (And.intro ha.1 (And.intro hA7 (And.intro (H8.out.2.2.1.trans ha.2.1) H8.out.2.2.2.1)))
      obtain ⟨A12, c12, rfl, -, -, -, -⟩ := OwnsC.reads ho7
      clear ho7 hg7 hv7 hn7 ha hA7 H8 HO6
      go_wp2_with fail
      go_roundw
      case rel => exact ⟨(k + 1) + 1, d', _, HI.out, by go_num, H9.out.2.2.2, H9.out.1, H9.out.2.1, H9.out.2.2.1⟩
      case measure => exact meas_up (i := k + 1) rfl rfl HI.out
end Go.Proofs.YthfdjemlibecgaaDoor

/- A list of bools as an argument. Plain facts over any program. No condition. -/
namespace Go
open Go.ChangeShapes Go.WideShapes
theorem both_bools {w : World} : ∀ {l : List Bool} {rows : List (List Value)}, Both (fun d r => r.length = Sh.bool.size ∧ Sh.Is w .bool d r) l rows → rows.flatten = l.map .bool
  | [], [], _ => rfl
  | [], _ :: _, h => h.elim
  | _ :: _, [], h => h.elim
  | a :: l, r :: rows, ⟨h1, h2⟩ => by
    have hr : r = [.bool a] := h1.2
    rw [List.flatten_cons, hr, both_bools h2]; rfl
end Go

/- GridReaches: for every input the law returns true and the arguments read as they did. Condition: the table of Go's library is as its initialiser lays it (tied to the program's text by the card). -/
namespace Go.Proofs.YthfdjemlibecgaaDoor
open Go.ChangeShapes Go.WideShapes Go.ChangeAt Go.RowKit
theorem gridReaches_args (n : Int) (A : Option Addr) (c : Nat) (l : List Bool) (rows : List (List Value)) (W : World) (hb : Both (fun d r => r.length = Sh.bool.size ∧ Sh.Is W .bool d r) l rows) (hr : Reads W A rows.flatten) (hl : l.length ≤ c) (hc : c ≤ 9223372036854775807) (hT : Tab W) :
    Calls Tryd.prog 5 #[.int .i64 n, .slice A l.length c] W fun e w' => e = .returned (.bool true) ∧ Below W.heap.size W w' :=
  lgridReaches_any n A c l W hT (by rw [← both_bools hb]; exact hr) (Nat.le_trans hl hc)
set_option maxRecDepth 100000 in
theorem gridReaches_lifted (os : Os) (started : os.Started) (H : Type) (enc : TypeId × Value → H) :
    ReturnsInHanded {} Tryd.checked os 5 .any (fun w args => (Rows.gridReachesSpec.pre enc Tryd.prog Tryd.f5 [] false w args ∧ laidMetH Tryd.prog laid1 w) ∧ sizedMet enc Tryd.prog Tryd.f5 (OpenSpec.ofChange Rows.gridReachesSpec) false w args) (Rows.gridReachesSpec.post enc Tryd.prog Tryd.f5 false true false false) := by
  refine returnsInHanded_of_change_and (C := Tryd.checked) (X := fun w _ => laidMetH Tryd.prog laid1 w) (fun _ _ _ hh h => h.of_heap hh) Tryd.own started (by kernel_rfl) Tryd.func5
    (ChangeSpec.witness_shaped (enc := enc) (C := Tryd.checked) (os := os) (X := fun w _ => laidMetH Tryd.prog laid1 w) false (World.doorLaid Tryd.prog 400 os) #[.int .i64 0, .slice none 0 0] 8 rfl (World.shaped_of_RefB (by kernel_rfl) (by kernel_rfl)) (by kernel_rfl) (by kernel_rfl) (by kernel_rfl) (door_met os _)) ?_
  intro W base args ds gs before hval0 hW _ _ hL _
  have hT : Tab W := of_laid hL
  have hval : ∀ (j : Nat) t v, Tryd.f5.params[j]? = some t → args[j]? = some v → Value.okWide Tryd.prog W .any base t v := hval0
  have hW' := hW
  obtain ⟨p, q, hA0, hV, rfl, hfz, hnd⟩ := hW
  have hA : DataW.TrodAll enc Tryd.prog W 0 (fun _ => true) true Tryd.f5.params.toList args.toList ds p := hA0
  rw [Tryd.params5] at hA hval
  obtain ⟨v0, v1, d0, d1, p0, p1, rfl, rfl, rfl, h0, h1⟩ := trodAll_two hA
  obtain ⟨rfl, rfl⟩ := trodVars_none hV
  have h0k := h0
  have h1k := h1
  obtain ⟨n, hx0⟩ := Sh.open_ (P := Tryd.prog) (.int .i64) (by kernel_rfl) h0
  obtain ⟨rfl, hlo, hhi⟩ := arg_int Tryd.underlying3 (hval 0 3 v0 rfl rfl) hx0
  obtain ⟨l, hx1⟩ := Sh.open_ (P := Tryd.prog) (.slice .bool) (by kernel_rfl) h1
  obtain ⟨A, c, rows1, rfl, hlc, hcm, hbo, hr⟩ := arg_slice Tryd.underlying61 (hval 1 61 v1 rfl rfl) hx1
  clear hA0 hval0
  simp only [List.append_nil] at hW'
  have hlt : ∀ x ∈ p0 ++ p1, x.block < W.heap.size := fun x hx => by simpa using hW'.lt x hx
  refine (gridReaches_args n A c l _ W hbo hr hlc hcm hT).mono fun e W' ⟨he, hw⟩ => ?_
  subst he
  refine ⟨_, rfl, _, _, _, [], p0 ++ p1, [], hW', ?_, ?_, rfl, hw.frame _, fun h => by cases h⟩
  · exact trodAll_mk1 (shut_bool Tryd.underlying4 true)
  · exact trodAll_mk2 (Below.trod Tryd.laidOut (by kernel_rfl) (of_decide_eq_true (by kernel_rfl)) h0k hw (fun x hx => hlt x (by simp [hx]))) (Below.trod Tryd.laidOut (by kernel_rfl) (of_decide_eq_true (by kernel_rfl)) h1k hw (fun x hx => hlt x (by simp [hx])))
theorem gridReaches_holds : Rows.GridReachesSaid :=
  OpenClaim.holds_of_wide 5 Tryd.f5 rfl rfl rfl rfl rfl rfl rfl ⟨rfl, rfl, rfl, rfl, rfl⟩ rfl rfl rfl rfl rfl (by kernel_rfl) Tryd.func5 (by kernel_rfl)
    (of_decide_eq_true (by kernel_rfl)) (by unfold Func.isWrapper; rw [if_neg (by decide +kernel)]; exact ⟨rfl, rfl⟩)
    (fun os started H enc _ => gridReaches_lifted os started H enc)
theorem gridReaches_card : Rows.GridReachesCardSaid :=
  Claim7.holds_tied_plain_at .later [] [.data] true Rows.gridReachesCard.stood.harness false
    gridReaches_holds (fun _ h => by cases h) (by kernel_rfl) (fun _ h => by cases h) gridReaches_row_tie rfl ⟨rfl, rfl⟩ (by kernel_rfl) rfl
    (fun f fn hf hfn => by
      obtain rfl : f = 5 := Option.some.inj ((show Tryd.prog.funcNamed Rows.gridReachesRow.func = some 5 by kernel_rfl).symm.trans hf) |>.symm
      obtain rfl : fn = Tryd.f5 := (Option.some.inj (Tryd.func5.symm.trans hfn)).symm
      exact ⟨by kernel_rfl, fun j t ht => by
        rw [Tryd.params5] at ht
        have hm : t ∈ [3, 61] := by simpa using Array.mem_of_getElem? ht
        have hall : ([3, 61].all fun u => !Tryd.prog.wantsStandIn u) = true := by kernel_rfl
        exact (show Tryd.prog.wantsStandIn t = false by simpa using List.all_eq_true.1 hall t hm)⟩)
    (by kernel_rfl)
end Go.Proofs.YthfdjemlibecgaaDoor
