/- A block that is taken is not acquired again, as the statement asks: it answers true and writes nothing that was there. Conditions: the arguments can be read; the table of Go's library lies as it was laid. -/
import Derived.Test.YtkjcidbhepminaaDoorOnce1
namespace Go.Proofs.YtkjcidbhepminaaDoor
open Go.RowKit
def OncRel (W : World) (g gi n m : Nat) (v : Value) (wr : World) : Prop := ∃ (k : Nat) (L : List Nat), k ≤ m ∧ v = .int .i64 (k : Int) ∧ Once W wr g gi n L
def LowRel (L : List Nat) (low v : Value) : Prop := ∃ j x : Nat, j ≤ L.length ∧ v = .int .i64 (j : Int) ∧ low = .int .i64 (x : Int) ∧ LowAt L j x
def StlRel (W : World) (g gi n : Nat) (L : List Nat) (v : Value) (wr : World) : Prop :=
  ∃ k : Nat, k ≤ n ∧ v = .int .i64 ((k : Int) + 1) ∧ Blk wr g 26 (setCells (setl L)) ∧ Blk wr gi 3 (ints (0 :: setK L k)) ∧ Below W.heap.size W wr
def EndRel (n : Nat) (w0 : World) (v : Value) (wr : World) : Prop := ∃ k j : Nat, k ≤ n ∧ v = .int .i64 ((k : Int) + 1) ∧ wr = w0.drewN j
set_option maxRecDepth 100000 in
set_option maxHeartbeats 4000000 in
theorem once09_any (blocks : Int) (A : Option Addr) (c : Nat) (l : List ActT) (w : World) (ha : Acts w A l) (hT : Tab w) :
    Calls Tryd.prog 6 #[.int .i64 blocks, .slice A l.length c] w fun e w' => e = .returned (.bool true) ∧ Below w.heap.size w w' := by
  have kn := known09_any w hT
  by_cases hr : blocks < 1 ∨ 512 < blocks
  · have hn1 := fun w' => new_bad blocks hr w'
    have hbb : (decide (blocks < 1) || decide (512 < blocks)) = true := by simpa using hr
    rcases hr with hr | hr
    all_goals
      clear hbb
      go_enter Tryd.func6, Tryd.ntmps6
      go_wp2_with fail
      refine kn.mono ?_
      rintro e w1 ⟨rfl, hb1⟩
      go_wp2_with fail
      refine (hn1 w1).mono ?_
      rintro e w2 ⟨rfl, rfl⟩
      go_wp2
      go_ret
      exact ⟨rfl, hb1⟩
  obtain ⟨n, rfl⟩ : ∃ n : Nat, blocks = (n : Int) := ⟨blocks.toNat, by omega⟩
  have n1 : 1 ≤ n := by omega
  have n2 : n ≤ 512 := by omega
  clear hr
  have hn1 := fun w' => new_any n n1 n2 w'
  have n1' : (1 : Int) ≤ n := by omega
  have n2' : (n : Int) ≤ 512 := by omega
  by_cases hl : 200 < l.length
  · have hl' : (200 : Int) < l.length := by omega
    go_enter Tryd.func6, Tryd.ntmps6
    go_wp2_with fail
    refine kn.mono ?_
    rintro e w1 ⟨rfl, hb1⟩
    go_wp2_with fail
    refine (hn1 w1).mono ?_
    rintro e w2 ⟨rfl, _, hb2⟩
    have HB := Lib.hid (hb1.trans (hb2.mono hb1.size))
    clear hn1 kn hb1 hb2
    go_wp2
    go_ret
    have e1 : decide ((n : Int) < 1) = false := by rw [decide_eq_false_iff_not]; omega
    have e2 : decide ((512 : Int) < n) = false := by rw [decide_eq_false_iff_not]; omega
    exact ⟨by show Ending.returned (.bool _) = _; rw [e1, e2]; rfl, HB.out⟩
  have hl' : (l.length : Int) ≤ 200 := by omega
  clear hl
  go_enter Tryd.func6, Tryd.ntmps6
  go_wp2_with fail
  refine kn.mono ?_
  rintro e w1 ⟨rfl, hb1⟩
  go_wp2_with fail
  refine (hn1 w1).mono ?_
  rintro e w2 ⟨rfl, hs2, hb2⟩
  have hB2 := hb1.trans (hb2.mono hb1.size)
  have q1 := hb1.size
  have hlt2 := hs2.lt
  obtain ⟨g, hg⟩ : ∃ g, g = w1.heap.size := ⟨_, rfl⟩
  rw [← hg] at hs2 hlt2 q1 ⊢
  have H2 := Lib.hid (And.intro hs2 (And.intro hB2 (And.intro hlt2 q1)))
  clear hn1 kn hb1 hb2 hs2 hB2 hlt2 q1 hg
  go_wp2_with (first
    | (show wpList _ _ _ ((⟨some 57, _, _, _, _, _⟩ : Oper) :: _) _ _; refine wpList_make_ints (o := ⟨some 57, _, _, _, _, _⟩) _ (by rfl) _ _ _ (by rfl) _ Tryd.underlying52 i64info .i64 .i64 _ _ (n + 1) (n + 1) (by rfl) (by rfl) (by rfl) (by rfl) (Nat.le_refl _) (by omega) ?_; intro w3 h3 hb3 hs3)
    | fail)
  have hB3 := H2.out.2.1.trans (hb3.mono H2.out.2.1.size)
  have hs3' := H2.out.1.below hb3 H2.out.2.2.1
  have HO := Lib.hid (show Once w w3 g w2.heap.size n (List.replicate n 0) from ⟨hs3', h3, setOk_new n n2, by simp, n1, Nat.ne_of_lt H2.out.2.2.1, ⟨H2.out.2.2.2, H2.out.2.1.size⟩, hB3⟩)
  clear hB3 hs3' h3 hb3 hs3 H2
  generalize w2.heap.size = gi at HO ⊢
  go_wp2_with fail
  go_loopw [9] (fun v wr => OncRel w g gi n l.length v wr) (fun v _ => l.length - (intOf v).toNat)
  case atStart => exact ⟨0, _, by omega, rfl, HO.out⟩
  case round =>
    clear HO
    obtain ⟨k, L, hk, rfl, hO⟩ := hrel
    have hlen := hO.len
    by_cases hkl : k < l.length
    · obtain ⟨b, off, hA, hbl, hc⟩ := ha (by omega)
      obtain ⟨c0, c1, m3, m4, m1, m2⟩ := hc k hkl
      have c0' := (hO.bel.cell (p := ⟨b, off + k * 2, none⟩) hbl).trans c0
      have c1' := (hO.bel.cell (p := ⟨b, off + k * 2 + 1, none⟩) hbl).trans c1
      generalize l[k].1 = x at c0'
      generalize l[k].2.1 = y at c1'
      have p1 := (pick_any y n (by omega) n1' wr).mono fun e w' h => (show e = _ ∧ wr = w' from ⟨h.1, h.2.symm⟩)
      have p2 := (pick_any x 4 (by omega) (by omega) wr).mono fun e w' h => (show e = _ ∧ wr = w' from ⟨h.1, h.2.symm⟩)
      have t1 := pickN_lt y n n1'
      have t2 := pickN_lt x 4 (by omega)
      generalize pickN y n = t at p1 t1
      generalize pickN x 4 = kd at p2 t2
      have HT := Lib.hid (And.intro ha hT)
      clear hc c0 c1 m1 m2 m3 m4 ha hT
      subst hA
      go_wp2_with fail
      refine p1.mono ?_
      rintro e w4 ⟨rfl, rfl⟩
      go_wp2_with fail
      refine p2.mono ?_
      rintro e w5 ⟨rfl, rfl⟩
      clear p1 p2 c0' c1'
      have tt : t < n := by omega
      rw [Int.add_comm 1 (t : Int)]
      have d1 := hO.at_ t tt
      have f1 := hO.is_.frozen (t + 1)
      by_cases k0 : kd = 0
      · subst k0
        have HH := Lib.hid (And.intro hO (And.intro hlen HT.out))
        have hL5 : L.length ≤ 512 := by omega
        clear hO hlen d1 f1 t1 tt t2
        go_wp2_with fail
        go_loop [11, 12] (fun low v => LowRel L low v) (fun _ v => (intOf v).toNat)
        case atStart => exact ⟨n, 0, by rw [HH.out.2.1]; omega, rfl, rfl, by have := LowAt.full L; rw [HH.out.2.1] at this; exact this⟩
        case round =>
          obtain ⟨j, x, hj, rfl, rfl, hlow⟩ := hrel
          by_cases hj0 : 0 < j
          · obtain ⟨j', rfl⟩ : ∃ j', j = j' + 1 := ⟨j - 1, by omega⟩
            have hln := HH.out.2.1
            have d1 := HH.out.1.at_ j' (by omega)
            have hjn : j' < n := by omega
            by_cases hz : L.getD j' 0 = 0
            · have hnx := LowAt.free (by omega) hz
              have HX := Lib.hid hnx
              rw [hz] at d1
              clear hnx hz hlow hln
              go_wp2
              go_round
              case rel => exact ⟨j', j' + 1, by omega, by go_num, by go_num, HX.out⟩
              case measure => simp [intOf]
            · have hnx := hlow.not_ hz
              have HX := Lib.hid hnx
              have hz' : ((L.getD j' 0 : Int) == 0) = false := by rw [beq_eq_false_iff_ne]; omega
              generalize L.getD j' 0 = y at d1 hz'
              clear hnx hz hlow hln
              go_wp2
              go_round
              case rel => exact ⟨j', x, by omega, by go_num, rfl, HX.out⟩
              case measure => simp [intOf]
          · obtain rfl : j = 0 := by omega
            obtain ⟨hN, hcase⟩ := hlow.is_
            have hacq := acquire_any L HH.out.1.ok HH.out.1.len0 g wr HH.out.1.st (HH.out.2.2.2.below HH.out.1.bel)
            rw [hN] at hacq
            rcases hcase with ⟨rfl, hE, hL⟩ | ⟨hx0, hxl, hE, hL⟩
            · rw [hE, hL] at hacq
              clear hN hE hL hlow hj hj0
              go_wp2_with fail
              refine hacq.mono ?_
              rintro e w6 ⟨rfl, hs6, u6⟩
              have hnx := HH.out.1.turned hs6 u6 HH.out.1.ok HH.out.2.1 (HH.out.1.half u6) (Upd.refl gi w6)
              have HN := Lib.hid hnx
              clear hacq hs6 u6 hnx
              go_wp2
              go_roundw
              case rel => exact ⟨k + 1, _, by omega, by go_num, HN.out⟩
              case measure => simp [intOf]; omega
            · obtain ⟨z, rfl⟩ : ∃ z, x = z + 1 := ⟨x - 1, by omega⟩
              rw [hE, hL, Nat.add_sub_cancel] at hacq
              have hzn : z < n := by have := HH.out.2.1; omega
              have hzl : z < L.length := by omega
              clear hN hE hL hlow hj hj0 hx0 hxl
              go_wp2_with fail
              refine hacq.mono ?_
              rintro e w6 ⟨rfl, hs6, u6⟩
              have i6 := HH.out.1.half u6
              have d6 := (World.cell?_of_block (u6.block gi (Ne.symm HH.out.1.ne))).trans (HH.out.1.at_ z hzn)
              have f6 := i6.frozen (z + 1)
              have hnx := HH.out.1.turned hs6 u6 (HH.out.1.ok.set_ z 1 hzl (by omega)) (by rw [List.length_set]; exact HH.out.2.1) ((i6.set_ (z + 1) (.int .i64 (1 : Nat))).sub (ints_set1 L z 1)) ((Upd.refl gi w6).set (z + 1) (.int .i64 (1 : Nat)))
              have HN := Lib.hid hnx
              have hzz : (((z + 1 : Nat) : Int) != ((z + 1 : Nat) : Int)) = false := by simp
              have hz0 : (0 : Int) < ((z + 1 : Nat) : Int) := by omega
              generalize L.getD z 0 = y at d6
              clear hacq hs6 u6 hnx i6
              go_wp2
              go_roundw
              case rel => exact ⟨k + 1, _, by omega, by go_num, HN.out⟩
              case measure => simp [intOf]; omega
      by_cases k1 : kd = 1
      · subst k1
        have C : ∀ w' : World, w'.heap[gi]? = wr.heap[gi]? → w'.cell? ⟨gi, t + 1, none⟩ = some (.int .i64 (L.getD t 0 : Nat)) := fun w' hw => (World.cell?_of_block hw).trans d1
        have htk := take_any L hO.ok hO.len0 g ((t : Int) + 1) (by omega) (by omega) wr.drew (hO.drewN 1).st
        have hlt : t < L.length := by omega
        by_cases hz : L.getD t 0 = 0
        · have e2 : turnCode L ((t : Int) + 1) 0 = 0 := by unfold turnCode; rw [if_pos (by omega), show ((t : Int) + 1 - 1).toNat = t by omega, if_pos hz]
          have e3 : turnL L ((t : Int) + 1) 0 1 = L.set t 1 := by unfold turnL; rw [show ((t : Int) + 1 - 1).toNat = t by omega, if_pos ⟨by omega, by omega, hz⟩]
          rw [e2, e3] at htk
          rw [hz] at d1 C
          have HH := Lib.hid (And.intro hO hlen)
          clear e2 e3 hz hO hlen
          go_wp2_with fail
          refine wp_region_planT (fun w' => w'.cell? ⟨gi, t + 1, none⟩ = some (.int .i64 0)) [] [(true, 0), (true, 1), (true, 4), (true, 5), (true, 6), (true, 7), (true, 8), (false, 2), (true, 3), (true, 9)] (by kernel_rfl) (by kernel_rfl) (d1) ?_
          refine wpPlan_pure [0, 1, 4, 5, 6] [(true, 7), (true, 8), (false, 2), (true, 3), (true, 9)] _ (by rfl) (by rfl) ?_
          dsimp only [List.filterMap, List.getElem?_cons_zero, List.getElem?_cons_succ]
          repeat (go_big_quiet_step (fail))
          refine wpQuiet_nil ?_
          refine wpPlan_takeL [7] [(true, 8), (false, 2), (true, 3), (true, 9)] _ (by rfl) (by rfl) (d1) ?_
          dsimp only [List.filterMap, List.getElem?_cons_zero, List.getElem?_cons_succ]
          (refine wpQuiet_load_cell (fun w' hw' => hw') (by rfl) _ _ (by rfl) (by rfl) _ Tryd.underlying3 (by rfl) ?_; simp only [Act.put, List.setIfInBounds_toArray, List.set_cons_zero, List.set_cons_succ])
          refine wpQuiet_nil ?_
          refine wpPlan_pure [8] [(false, 2), (true, 3), (true, 9)] _ (by rfl) (by rfl) ?_
          dsimp only [List.filterMap, List.getElem?_cons_zero, List.getElem?_cons_succ]
          repeat (go_big_quiet_step (fail))
          refine wpQuiet_nil ?_
          refine wpPlan_forceL _ rfl ?_
          go_wp2_with fail
          refine htk.mono ?_
          rintro e w6 ⟨rfl, hs6, u6⟩
          have d6 := C w6 (u6.block gi (Ne.symm HH.out.1.ne))
          have i6 := (HH.out.1.drewN 1).half u6
          have f6 := i6.frozen (t + 1)
          have hnx := (HH.out.1.drewN 1).turned hs6 u6 (HH.out.1.ok.set_ t 1 hlt (by omega)) (by rw [List.length_set]; exact HH.out.2) ((i6.set_ (t + 1) (.int .i64 (1 : Nat))).sub (ints_set1 L t 1)) ((Upd.refl gi w6).set (t + 1) (.int .i64 (1 : Nat)))
          have HN := Lib.hid hnx
          clear hnx i6 hs6 u6 htk
          go_wp2_with fail
          refine PlanQ.in_ d6 ?_
          refine wpPlan_pure [3, 9] [] _ (by rfl) (by rfl) ?_
          dsimp only [List.filterMap, List.getElem?_cons_zero, List.getElem?_cons_succ]
          repeat (go_big_quiet_step (fail))
          refine wpQuiet_nil ?_
          refine wpPlan_tidy ?_
          go_wp2
          go_roundw
          case rel => exact ⟨k + 1, _, by omega, by go_num, HN.out⟩
          case measure => simp [intOf]; omega
        · have e2 : turnCode L ((t : Int) + 1) 0 = 9 := by unfold turnCode; rw [if_pos (by omega), show ((t : Int) + 1 - 1).toNat = t by omega, if_neg hz]
          have e3 : turnL L ((t : Int) + 1) 0 1 = L := by unfold turnL; rw [show ((t : Int) + 1 - 1).toNat = t by omega, if_neg (fun h => hz h.2.2)]
          rw [e2, e3] at htk
          have hsl := list_set_self L t
          have HH := Lib.hid (And.intro hO (And.intro hlen hsl))
          generalize L.getD t 0 = x at d1 C hz HH
          have hx0 : ((x : Int) == 0) = false := by simp; omega
          have hx1 : (1 : Int) ≤ x := by omega
          clear e2 e3 hz hO hlen hsl
          go_wp2_with fail
          refine wp_region_planT (fun w' => w'.cell? ⟨gi, t + 1, none⟩ = some (.int .i64 (x : Nat))) [] [(true, 0), (true, 1), (true, 4), (true, 5), (true, 6), (true, 7), (true, 8), (false, 2), (true, 3), (true, 9)] (by kernel_rfl) (by kernel_rfl) (d1) ?_
          refine wpPlan_pure [0, 1, 4, 5, 6] [(true, 7), (true, 8), (false, 2), (true, 3), (true, 9)] _ (by rfl) (by rfl) ?_
          dsimp only [List.filterMap, List.getElem?_cons_zero, List.getElem?_cons_succ]
          repeat (go_big_quiet_step (fail))
          refine wpQuiet_nil ?_
          refine wpPlan_takeL [7] [(true, 8), (false, 2), (true, 3), (true, 9)] _ (by rfl) (by rfl) (d1) ?_
          dsimp only [List.filterMap, List.getElem?_cons_zero, List.getElem?_cons_succ]
          (refine wpQuiet_load_cell (fun w' hw' => hw') (by rfl) _ _ (by rfl) (by rfl) _ Tryd.underlying3 (by rfl) ?_; simp only [Act.put, List.setIfInBounds_toArray, List.set_cons_zero, List.set_cons_succ])
          refine wpQuiet_nil ?_
          refine wpPlan_pure [8] [(false, 2), (true, 3), (true, 9)] _ (by rfl) (by rfl) ?_
          dsimp only [List.filterMap, List.getElem?_cons_zero, List.getElem?_cons_succ]
          repeat (go_big_quiet_step (fail))
          refine wpQuiet_nil ?_
          refine wpPlan_forceL _ rfl ?_
          go_wp2_with fail
          refine htk.mono ?_
          rintro e w6 ⟨rfl, hs6, u6⟩
          have d6 := C w6 (u6.block gi (Ne.symm HH.out.1.ne))
          have i6 := (HH.out.1.drewN 1).half u6
          have f6 := i6.frozen (t + 1)
          have hnx := (HH.out.1.drewN 1).turned hs6 u6 HH.out.1.ok HH.out.2.1 ((i6.set_ (t + 1) (.int .i64 (x : Nat))).sub ((ints_set1 L t x).trans (by rw [HH.out.2.2]))) ((Upd.refl gi w6).set (t + 1) (.int .i64 (x : Nat)))
          have HN := Lib.hid hnx
          clear hnx i6 hs6 u6 htk
          go_wp2_with fail
          refine PlanQ.in_ d6 ?_
          refine wpPlan_pure [3, 9] [] _ (by rfl) (by rfl) ?_
          dsimp only [List.filterMap, List.getElem?_cons_zero, List.getElem?_cons_succ]
          repeat (go_big_quiet_step (fail))
          refine wpQuiet_nil ?_
          refine wpPlan_tidy ?_
          go_wp2
          go_roundw
          case rel => exact ⟨k + 1, _, by omega, by go_num, HN.out⟩
          case measure => simp [intOf]; omega
      by_cases k2 : kd = 2
      · subst k2
        have C : ∀ w' : World, w'.heap[gi]? = wr.heap[gi]? → w'.cell? ⟨gi, t + 1, none⟩ = some (.int .i64 (L.getD t 0 : Nat)) := fun w' hw => (World.cell?_of_block hw).trans d1
        have htk := release_any L hO.ok hO.len0 g ((t : Int) + 1) (by omega) (by omega) wr.drew (hO.drewN 1).st
        have hlt : t < L.length := by omega
        by_cases hz : L.getD t 0 = 1
        · have e2 : turnCode L ((t : Int) + 1) 1 = 0 := by unfold turnCode; rw [if_pos (by omega), show ((t : Int) + 1 - 1).toNat = t by omega, if_pos hz]
          have e3 : turnL L ((t : Int) + 1) 1 2 = L.set t 2 := by unfold turnL; rw [show ((t : Int) + 1 - 1).toNat = t by omega, if_pos ⟨by omega, by omega, hz⟩]
          rw [e2, e3] at htk
          rw [hz] at d1 C
          have HH := Lib.hid (And.intro hO hlen)
          clear e2 e3 hz hO hlen
          go_wp2_with fail
          refine wp_region_planT (fun w' => w'.cell? ⟨gi, t + 1, none⟩ = some (.int .i64 1)) [] [(true, 0), (true, 1), (true, 4), (true, 5), (true, 6), (true, 7), (true, 8), (false, 2), (true, 3), (true, 9)] (by kernel_rfl) (by kernel_rfl) (d1) ?_
          refine wpPlan_pure [0, 1, 4, 5, 6] [(true, 7), (true, 8), (false, 2), (true, 3), (true, 9)] _ (by rfl) (by rfl) ?_
          dsimp only [List.filterMap, List.getElem?_cons_zero, List.getElem?_cons_succ]
          repeat (go_big_quiet_step (fail))
          refine wpQuiet_nil ?_
          refine wpPlan_takeL [7] [(true, 8), (false, 2), (true, 3), (true, 9)] _ (by rfl) (by rfl) (d1) ?_
          dsimp only [List.filterMap, List.getElem?_cons_zero, List.getElem?_cons_succ]
          (refine wpQuiet_load_cell (fun w' hw' => hw') (by rfl) _ _ (by rfl) (by rfl) _ Tryd.underlying3 (by rfl) ?_; simp only [Act.put, List.setIfInBounds_toArray, List.set_cons_zero, List.set_cons_succ])
          refine wpQuiet_nil ?_
          refine wpPlan_pure [8] [(false, 2), (true, 3), (true, 9)] _ (by rfl) (by rfl) ?_
          dsimp only [List.filterMap, List.getElem?_cons_zero, List.getElem?_cons_succ]
          repeat (go_big_quiet_step (fail))
          refine wpQuiet_nil ?_
          refine wpPlan_forceL _ rfl ?_
          go_wp2_with fail
          refine htk.mono ?_
          rintro e w6 ⟨rfl, hs6, u6⟩
          have d6 := C w6 (u6.block gi (Ne.symm HH.out.1.ne))
          have i6 := (HH.out.1.drewN 1).half u6
          have f6 := i6.frozen (t + 1)
          have hnx := (HH.out.1.drewN 1).turned hs6 u6 (HH.out.1.ok.set_ t 2 hlt (by omega)) (by rw [List.length_set]; exact HH.out.2) ((i6.set_ (t + 1) (.int .i64 (2 : Nat))).sub (ints_set1 L t 2)) ((Upd.refl gi w6).set (t + 1) (.int .i64 (2 : Nat)))
          have HN := Lib.hid hnx
          clear hnx i6 hs6 u6 htk
          go_wp2_with fail
          refine PlanQ.in_ d6 ?_
          refine wpPlan_pure [3, 9] [] _ (by rfl) (by rfl) ?_
          dsimp only [List.filterMap, List.getElem?_cons_zero, List.getElem?_cons_succ]
          repeat (go_big_quiet_step (fail))
          refine wpQuiet_nil ?_
          refine wpPlan_tidy ?_
          go_wp2
          go_roundw
          case rel => exact ⟨k + 1, _, by omega, by go_num, HN.out⟩
          case measure => simp [intOf]; omega
        · have e2 : turnCode L ((t : Int) + 1) 1 = 9 := by unfold turnCode; rw [if_pos (by omega), show ((t : Int) + 1 - 1).toNat = t by omega, if_neg hz]
          have e3 : turnL L ((t : Int) + 1) 1 2 = L := by unfold turnL; rw [show ((t : Int) + 1 - 1).toNat = t by omega, if_neg (fun h => hz h.2.2)]
          rw [e2, e3] at htk
          have hsl := list_set_self L t
          have HH := Lib.hid (And.intro hO (And.intro hlen hsl))
          generalize L.getD t 0 = x at d1 C hz HH
          have hx0 : ((x : Int) == 1) = false := by simp; omega
          clear e2 e3 hz hO hlen hsl
          go_wp2_with fail
          refine wp_region_planT (fun w' => w'.cell? ⟨gi, t + 1, none⟩ = some (.int .i64 (x : Nat))) [] [(true, 0), (true, 1), (true, 4), (true, 5), (true, 6), (true, 7), (true, 8), (false, 2), (true, 3), (true, 9)] (by kernel_rfl) (by kernel_rfl) (d1) ?_
          refine wpPlan_pure [0, 1, 4, 5, 6] [(true, 7), (true, 8), (false, 2), (true, 3), (true, 9)] _ (by rfl) (by rfl) ?_
          dsimp only [List.filterMap, List.getElem?_cons_zero, List.getElem?_cons_succ]
          repeat (go_big_quiet_step (fail))
          refine wpQuiet_nil ?_
          refine wpPlan_takeL [7] [(true, 8), (false, 2), (true, 3), (true, 9)] _ (by rfl) (by rfl) (d1) ?_
          dsimp only [List.filterMap, List.getElem?_cons_zero, List.getElem?_cons_succ]
          (refine wpQuiet_load_cell (fun w' hw' => hw') (by rfl) _ _ (by rfl) (by rfl) _ Tryd.underlying3 (by rfl) ?_; simp only [Act.put, List.setIfInBounds_toArray, List.set_cons_zero, List.set_cons_succ])
          refine wpQuiet_nil ?_
          refine wpPlan_pure [8] [(false, 2), (true, 3), (true, 9)] _ (by rfl) (by rfl) ?_
          dsimp only [List.filterMap, List.getElem?_cons_zero, List.getElem?_cons_succ]
          repeat (go_big_quiet_step (fail))
          refine wpQuiet_nil ?_
          refine wpPlan_forceL _ rfl ?_
          go_wp2_with fail
          refine htk.mono ?_
          rintro e w6 ⟨rfl, hs6, u6⟩
          have d6 := C w6 (u6.block gi (Ne.symm HH.out.1.ne))
          have i6 := (HH.out.1.drewN 1).half u6
          have f6 := i6.frozen (t + 1)
          have hnx := (HH.out.1.drewN 1).turned hs6 u6 HH.out.1.ok HH.out.2.1 i6 (Upd.refl gi w6)
          have HN := Lib.hid hnx
          clear hnx i6 hs6 u6 htk
          go_wp2_with fail
          refine PlanQ.in_ d6 ?_
          refine wpPlan_pure [3, 9] [] _ (by rfl) (by rfl) ?_
          dsimp only [List.filterMap, List.getElem?_cons_zero, List.getElem?_cons_succ]
          repeat (go_big_quiet_step (fail))
          refine wpQuiet_nil ?_
          refine wpPlan_tidy ?_
          go_wp2
          go_roundw
          case rel => exact ⟨k + 1, _, by omega, by go_num, HN.out⟩
          case measure => simp [intOf]; omega
      obtain rfl : kd = 3 := by omega
      have HH := Lib.hid (And.intro hO hlen)
      have hL5 : L.length ≤ 512 := by omega
      have hst := settle_any L hO.ok hO.len0 g wr hO.st
      clear hO hlen d1 f1 t1 tt t2
      go_wp2_with fail
      refine hst.mono ?_
      rintro e w6 ⟨rfl, hs6, u6⟩
      have hB6 := HH.out.1.bel.upd u6 HH.out.1.base.1
      have i6 := HH.out.1.half u6
      have H6 := Lib.hid (And.intro hs6 (And.intro i6 hB6))
      clear hst hs6 u6 i6 hB6
      go_wp2_with fail
      go_loopw [15] (fun v wr => StlRel w g gi n L v wr) (fun v _ => n + 1 - (intOf v).toNat)
      case atStart => exact ⟨0, by omega, rfl, H6.out.1, by simpa [setK, setl] using H6.out.2.1, H6.out.2.2⟩
      case round =>
        clear H6
        obtain ⟨j, hj, rfl, hs7, hi7, hB7⟩ := hrel
        by_cases hjn : j < n
        · have hln := HH.out.2
          have hx2 := HH.out.1.ok.le j
          have hsl := setK_length L j (by omega)
          have d1 : wr.cell? ⟨gi, j + 1, none⟩ = some (.int .i64 (L.getD j 0 : Nat)) := hi7.at_ (j + 1) ((ints_at (0 :: setK L j) (j + 1) (by simp; omega)).trans (by rw [List.getD_cons_succ, setK_getD L j (by omega)]))
          have f1 := hi7.frozen (j + 1)
          have hsc := setK_succ L j (by omega)
          have h012 : L.getD j 0 = 0 ∨ L.getD j 0 = 1 ∨ L.getD j 0 = 2 := by omega
          generalize L.getD j 0 = x at d1 hsc h012
          rcases h012 with rfl | rfl | rfl
          · have hsc' : setK L (j + 1) = (setK L j).set j 0 := hsc
            have hin := (hi7.set_ (j + 1) (.int .i64 (0 : Nat))).sub ((ints_set1 (setK L j) j 0).trans (by rw [← hsc']))
            have hBn := hB7.upd ((Upd.refl gi wr).set (j + 1) (.int .i64 (0 : Nat))) HH.out.1.base.2
            have hsn := hs7.off (i := j + 1) HH.out.1.ne (.int .i64 (0 : Nat))
            have HN := Lib.hid (And.intro hsn (And.intro hin hBn))
            clear hsc hsc' hin hBn hsn hs7 hi7 hB7 hsl hx2 hln
            go_wp2
            go_roundw
            case rel => exact ⟨j + 1, by omega, by go_num, HN.out⟩
            case measure => simp [intOf]; omega
          · have hsc' : setK L (j + 1) = (setK L j).set j 1 := hsc
            have hin := (hi7.set_ (j + 1) (.int .i64 (1 : Nat))).sub ((ints_set1 (setK L j) j 1).trans (by rw [← hsc']))
            have hBn := hB7.upd ((Upd.refl gi wr).set (j + 1) (.int .i64 (1 : Nat))) HH.out.1.base.2
            have hsn := hs7.off (i := j + 1) HH.out.1.ne (.int .i64 (1 : Nat))
            have HN := Lib.hid (And.intro hsn (And.intro hin hBn))
            clear hsc hsc' hin hBn hsn hs7 hi7 hB7 hsl hx2 hln
            go_wp2
            go_roundw
            case rel => exact ⟨j + 1, by omega, by go_num, HN.out⟩
            case measure => simp [intOf]; omega
          · have hsc' : setK L (j + 1) = (setK L j).set j 0 := hsc
            have hin := (hi7.set_ (j + 1) (.int .i64 (0 : Nat))).sub ((ints_set1 (setK L j) j 0).trans (by rw [← hsc']))
            have hBn := hB7.upd ((Upd.refl gi wr).set (j + 1) (.int .i64 (0 : Nat))) HH.out.1.base.2
            have hsn := hs7.off (i := j + 1) HH.out.1.ne (.int .i64 (0 : Nat))
            have HN := Lib.hid (And.intro hsn (And.intro hin hBn))
            clear hsc hsc' hin hBn hsn hs7 hi7 hB7 hsl hx2 hln
            go_wp2
            go_roundw
            case rel => exact ⟨j + 1, by omega, by go_num, HN.out⟩
            case measure => simp [intOf]; omega
        · obtain rfl : j = n := by omega
          have hend : setK L j = setl L := by rw [← HH.out.2]; unfold setK; rw [List.take_length, List.drop_length, List.append_nil]
          rw [hend] at hi7
          have HN := Lib.hid (show Once w wr g gi j (setl L) from ⟨hs7, hi7, HH.out.1.ok.setl, by rw [← HH.out.2]; simp [setl], HH.out.1.pos, HH.out.1.ne, HH.out.1.base, hB7⟩)
          clear hend hs7 hi7 hB7 hjn
          go_wp2
          go_roundw
          case rel => exact ⟨k + 1, _, by omega, by go_num, HN.out⟩
          case measure => simp [intOf]; omega
    · obtain rfl : k = l.length := by omega
      clear hkl
      have HH := Lib.hid (And.intro hO hlen)
      clear hO hlen ha hT
      go_wp2_with fail
      go_loopw [16] (fun v w' => EndRel n wr v w') (fun v _ => n + 1 - (intOf v).toNat)
      case atStart => exact ⟨0, 0, by omega, rfl, rfl⟩
      case round =>
        obtain ⟨j, m, hj, rfl, rfl⟩ := hrel
        by_cases hjn : j < n
        · have hln := HH.out.2
          have his := is_any L HH.out.1.ok HH.out.1.len0 g ((j : Int) + 1) (by omega) (by omega) (wr.drewN m).drew ((HH.out.1.drewN m).drewN 1).st
          rw [show isAt L ((j : Int) + 1) = ((L.getD j 0 : Nat) : Int) by unfold isAt; rw [if_pos (by omega), show ((j : Int) + 1 - 1).toNat = j by omega]] at his
          have d1 := HH.out.1.at_ j hjn
          generalize L.getD j 0 = x at d1 his
          have hxx : ((x : Int) != x) = false := by simp
          have C : ∀ m, (wr.drewN m).cell? ⟨gi, j + 1, none⟩ = some (.int .i64 (x : Nat)) := fun m => d1
          have dm := C m
          clear hln
          go_wp2_with fail
          refine wp_region_planT (fun w' => w'.cell? ⟨gi, j + 1, none⟩ = some (.int .i64 (x : Nat))) [] [(true, 0), (true, 1), (true, 3), (true, 4), (true, 5), (true, 6), (false, 2), (true, 7)] (by kernel_rfl) (by kernel_rfl) (dm) ?_
          refine wpPlan_pure [0, 1, 3, 4, 5] [(true, 6), (false, 2), (true, 7)] _ (by rfl) (by rfl) ?_
          dsimp only [List.filterMap, List.getElem?_cons_zero, List.getElem?_cons_succ]
          repeat (go_big_quiet_step (fail))
          refine wpQuiet_nil ?_
          refine wpPlan_takeL [6] [(false, 2), (true, 7)] _ (by rfl) (by rfl) (dm) ?_
          dsimp only [List.filterMap, List.getElem?_cons_zero, List.getElem?_cons_succ]
          (refine wpQuiet_load_cell (fun w' hw' => hw') (by rfl) _ _ (by rfl) (by rfl) _ Tryd.underlying3 (by rfl) ?_; simp only [Act.put, List.setIfInBounds_toArray, List.set_cons_zero, List.set_cons_succ])
          refine wpQuiet_nil ?_
          refine wpPlan_forceL _ rfl ?_
          go_wp2_with fail
          refine his.mono ?_
          rintro e w6 ⟨rfl, m2, rfl⟩
          have dm2 : ((wr.drewN m).drew.drewN m2).cell? ⟨gi, j + 1, none⟩ = some (.int .i64 (x : Nat)) := d1
          clear his
          go_wp2_with fail
          refine PlanQ.in_ dm2 ?_
          refine wpPlan_pure [7] [] _ (by rfl) (by rfl) ?_
          dsimp only [List.filterMap, List.getElem?_cons_zero, List.getElem?_cons_succ]
          repeat (go_big_quiet_step (fail))
          refine wpQuiet_nil ?_
          refine wpPlan_tidy ?_
          go_wp2
          go_roundw
          case rel => exact ⟨j + 1, m + 1 + m2, by omega, by go_num, rfl⟩
          case measure => simp [intOf]; omega
        · obtain rfl : j = n := by omega
          have hO := HH.out.1.drewN m
          have hsum := cnts_all L HH.out.1.ok.le
          rw [HH.out.2] at hsum
          have hct := counts_any L HH.out.1.ok HH.out.1.len0 g _ hO.st
          generalize cnts L 0 = a at hsum hct
          generalize cnts L 1 = b at hsum hct
          generalize cnts L 2 = c at hsum hct
          have hB := Lib.hid hO.bel
          generalize wr.drewN m = w5 at hct hB ⊢
          have heq : ((a : Int) + b + c == j) = true := by rw [beq_iff_eq]; omega
          clear hjn
          go_wp2_with fail
          refine hct.mono ?_
          rintro e w6 ⟨rfl, hb6⟩
          have H6 := Lib.hid (hB.out.trans (hb6.mono hB.out.size))
          clear hct hb6
          go_wp2
          go_ret
          exact ⟨rfl, H6.out⟩
end Go.Proofs.YtkjcidbhepminaaDoor
