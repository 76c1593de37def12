/- The program's set of blocks, read from bytes. Condition: the bytes can be read. -/
import Derived.Test.YtkjcidbhepminaaDoorSet9
import Derived.Test.YtkjcidbhepminaaDoorFreeR
namespace Go.Proofs.YtkjcidbhepminaaDoor
open Go.RowKit
/-- What reading answers. -/
def ReadSet (T : TypeId) (cells : List Nat → Array Value) (b : List UInt8) (w : World) (e : Ending) (w' : World) : Prop :=
  if rdOk b = true then ∃ g, w.heap.size ≤ g ∧ e = .returned (.tuple #[.pointer (some ⟨g, 0, none⟩), .int .i64 0]) ∧ Blk w' g T (cells (rd b)) ∧ Below w.heap.size w w'
  else e = .returned (.tuple #[.pointer none, .int .i64 4]) ∧ Below w.heap.size w w'
theorem ReadSet.no {T : TypeId} {cells : List Nat → Array Value} {b : List UInt8} {w w' : World} (h : rdOk b = false) (hB : Below w.heap.size w w') : ReadSet T cells b w (.returned (.tuple #[.pointer none, .int .i64 4])) w' := by
  unfold ReadSet; rw [if_neg (by rw [h]; simp)]; exact ⟨rfl, hB⟩
theorem or256 (x y : Nat) (hx : x < 256) (hy : y < 256) : bits .or .i64 (x : Int) ((y : Int) * 256) = ((x + 256 * y : Nat) : Int) := by
  have h := i64_or_nat x (256 * y) (by omega) (by omega)
  have e : ((256 * y : Nat) : Int) = (y : Int) * 256 := by omega
  rw [e] at h
  rw [h, Nat.or_comm, nat_join 8 (256 * y) x (by omega) (by omega)]
  congr 1; omega
theorem crumb_w (b : List UInt8) (k j r : Nat) (hj : j = k / 4) (hr : r = k % 4) : bits .and .u8 (iu8 (b.getD (2 + j) 0) / 2 ^ (2 * r)) 3 = (crumb b k : Nat) := by
  subst hj hr
  unfold crumb
  have hz := (b.getD (2 + k / 4) 0).toNat_lt
  have e : iu8 (b.getD (2 + k / 4) 0) / 2 ^ (2 * (k % 4)) = (((b.getD (2 + k / 4) 0).toNat / 4 ^ (k % 4) : Nat) : Int) := by
    unfold iu8
    rw [show (4 : Nat) = 2 ^ 2 from rfl, ← Nat.pow_mul]; simp
  rw [e]
  have h := u8_and_nat ((b.getD (2 + k / 4) 0).toNat / 4 ^ (k % 4)) 3 (Nat.lt_of_le_of_lt (Nat.div_le_self _ _) hz) (by omega)
  rw [nat_mask2] at h
  exact h
/-- Ahead of each block. -/
def RdRel (b : List UInt8) (g n : Nat) (w1 : World) (v : Value) (wr : World) : Prop :=
  ∃ k : Nat, k ≤ n ∧ v = .int .i64 ((k : Int) + 1) ∧ (∀ i, i < k → crumb b i ≤ 2) ∧ Blk wr g 26 (setCells (rdF n (cutAt (crumb b) k))) ∧ Upd g w1 wr
set_option maxRecDepth 100000 in
set_option maxHeartbeats 2000000 in
theorem read_any (A : Option Addr) (c : Nat) (b : List UInt8) (w : World) (hb : Bytes w A b) (hl : b.length ≤ 9223372036854775807) :
    Calls Tryd.prog 19 #[.slice A b.length c] w (ReadSet 26 setCells b w) := by
  by_cases h2 : b.length < 2
  · have hno : rdOk b = false := by
      cases h : rdOk b
      · rfl
      · have := ((rdPre_iff b).1 ((rdOk_iff b).1 h).1).1; omega
    go_enter Tryd.func19, Tryd.ntmps19
    go_wp2
    go_ret2
    exact ReadSet.no hno (Below.refl _ _)
  obtain ⟨bb, off, rfl, hbl, hcell⟩ := hb.at_ (by omega)
  have hc0 := hcell 0 (by omega)
  have hc1 := hcell 1 (by omega)
  have x0 := iu8_lo (b.getD 0 0)
  have x1 := iu8_hi (b.getD 0 0)
  have y0 := iu8_lo (b.getD 1 0)
  have y1 := iu8_hi (b.getD 1 0)
  have hor : bits .or .i64 (iu8 (b.getD 0 0)) (iu8 (b.getD 1 0) * 256) = (rdn b : Nat) := or256 _ _ (b.getD 0 0).toNat_lt (b.getD 1 0).toNat_lt
  have hn16 : rdn b < 65536 := by unfold rdn; have := (b.getD 0 0).toNat_lt; have := (b.getD 1 0).toNat_lt; omega
  generalize iu8 (b.getD 0 0) = x at hc0 hor x0 x1
  generalize iu8 (b.getD 1 0) = y at hc1 hor y0 y1
  have h2' : 2 ≤ (b.length : Int) := by omega
  have h2a : 0 < (b.length : Int) := by omega
  have h2b : 1 < (b.length : Int) := by omega
  rw [Nat.add_zero] at hc0
  have HC := Lib.hid hcell
  have HB := Lib.hid hb
  obtain ⟨n, hn⟩ : ∃ n, n = rdn b := ⟨_, rfl⟩
  rw [← hn] at hor hn16
  have HN := Lib.hid hn
  clear hcell hb hn
  have CC : ∀ w', Below w.heap.size w w' → w'.cell? ⟨bb, off, none⟩ = some (.int .u8 x) ∧ w'.cell? ⟨bb, off + 1, none⟩ = some (.int .u8 y) := fun w' hB =>
    ⟨(hB.cell (p := ⟨bb, off, none⟩) hbl).trans hc0, (hB.cell (p := ⟨bb, off + 1, none⟩) hbl).trans hc1⟩
  by_cases hnb : n < 1 ∨ 512 < n
  · have hno : rdOk b = false := by
      cases h : rdOk b
      · rfl
      · have := (rdPre_iff b).1 ((rdOk_iff b).1 h).1; have := HN.out; omega
    have hnew := new_bad (n : Int) (by omega) w.drew
    clear hnb
    go_enter Tryd.func19, Tryd.ntmps19
    go_wp2
    refine wp_region_planT (fun w' => w'.cell? ⟨bb, off, none⟩ = some (.int .u8 x) ∧ w'.cell? ⟨bb, off + 1, none⟩ = some (.int .u8 y)) [] [(true, 0), (true, 1), (true, 4), (true, 5), (true, 2), (true, 6), (true, 3), (true, 7), (true, 8), (true, 9), (false, 10), (true, 11), (true, 12), (true, 13), (true, 14), (true, 15)] (by kernel_rfl) (by kernel_rfl) (⟨hc0, hc1⟩) ?_
    refine wpPlan_pure [0, 1, 4, 5] [(true, 2), (true, 6), (true, 3), (true, 7), (true, 8), (true, 9), (false, 10), (true, 11), (true, 12), (true, 13), (true, 14), (true, 15)] _ (by rfl) (by rfl) ?_
    dsimp only [List.filterMap, List.getElem?_cons_zero, List.getElem?_cons_succ]
    repeat (go_big_quiet_step (fail))
    refine wpQuiet_nil ?_
    refine wpPlan_takeL [2, 6] [(true, 3), (true, 7), (true, 8), (true, 9), (false, 10), (true, 11), (true, 12), (true, 13), (true, 14), (true, 15)] _ (by rfl) (by rfl) (⟨hc0, hc1⟩) ?_
    dsimp only [List.filterMap, List.getElem?_cons_zero, List.getElem?_cons_succ]
    (refine wpQuiet_load_cell (fun w' hw' => hw'.1) (by rfl) _ _ (by rfl) (by rfl) _ Tryd.underlying5 (by rfl) ?_; simp only [Act.put, List.setIfInBounds_toArray, List.set_cons_zero, List.set_cons_succ])
    (refine wpQuiet_load_cell (fun w' hw' => hw'.2) (by rfl) _ _ (by rfl) (by rfl) _ Tryd.underlying5 (by rfl) ?_; simp only [Act.put, List.setIfInBounds_toArray, List.set_cons_zero, List.set_cons_succ])
    refine wpQuiet_nil ?_
    refine wpPlan_pure [3, 7, 8, 9] [(false, 10), (true, 11), (true, 12), (true, 13), (true, 14), (true, 15)] _ (by rfl) (by rfl) ?_
    dsimp only [List.filterMap, List.getElem?_cons_zero, List.getElem?_cons_succ]
    repeat (go_big_quiet_step (fail))
    refine wpQuiet_nil ?_
    refine wpPlan_forceL _ rfl ?_
    go_wp2_with fail
    refine hnew.mono ?_
    rintro e w' ⟨rfl, rfl⟩
    go_wp2_with fail
    refine PlanQ.in_ ⟨hc0, hc1⟩ ?_
    refine wpPlan_pure [11, 12, 13, 14, 15] [] _ (by rfl) (by rfl) ?_
    dsimp only [List.filterMap, List.getElem?_cons_zero, List.getElem?_cons_succ]
    repeat (go_big_quiet_step (fail))
    refine wpQuiet_nil ?_
    refine wpPlan_tidy ?_
    go_wp2
    go_ret2
    exact ReadSet.no hno (Below.refl _ _).drew
  have hnew := new_any n (by omega) (by omega) w.drew
  have hn1 : 1 ≤ n := by omega
  have hn2 : n ≤ 512 := by omega
  clear hnb
  go_enter Tryd.func19, Tryd.ntmps19
  go_wp2
  refine wp_region_planT (fun w' => w'.cell? ⟨bb, off, none⟩ = some (.int .u8 x) ∧ w'.cell? ⟨bb, off + 1, none⟩ = some (.int .u8 y)) [] [(true, 0), (true, 1), (true, 4), (true, 5), (true, 2), (true, 6), (true, 3), (true, 7), (true, 8), (true, 9), (false, 10), (true, 11), (true, 12), (true, 13), (true, 14), (true, 15)] (by kernel_rfl) (by kernel_rfl) (⟨hc0, hc1⟩) ?_
  refine wpPlan_pure [0, 1, 4, 5] [(true, 2), (true, 6), (true, 3), (true, 7), (true, 8), (true, 9), (false, 10), (true, 11), (true, 12), (true, 13), (true, 14), (true, 15)] _ (by rfl) (by rfl) ?_
  dsimp only [List.filterMap, List.getElem?_cons_zero, List.getElem?_cons_succ]
  repeat (go_big_quiet_step (fail))
  refine wpQuiet_nil ?_
  refine wpPlan_takeL [2, 6] [(true, 3), (true, 7), (true, 8), (true, 9), (false, 10), (true, 11), (true, 12), (true, 13), (true, 14), (true, 15)] _ (by rfl) (by rfl) (⟨hc0, hc1⟩) ?_
  dsimp only [List.filterMap, List.getElem?_cons_zero, List.getElem?_cons_succ]
  (refine wpQuiet_load_cell (fun w' hw' => hw'.1) (by rfl) _ _ (by rfl) (by rfl) _ Tryd.underlying5 (by rfl) ?_; simp only [Act.put, List.setIfInBounds_toArray, List.set_cons_zero, List.set_cons_succ])
  (refine wpQuiet_load_cell (fun w' hw' => hw'.2) (by rfl) _ _ (by rfl) (by rfl) _ Tryd.underlying5 (by rfl) ?_; simp only [Act.put, List.setIfInBounds_toArray, List.set_cons_zero, List.set_cons_succ])
  refine wpQuiet_nil ?_
  refine wpPlan_pure [3, 7, 8, 9] [(false, 10), (true, 11), (true, 12), (true, 13), (true, 14), (true, 15)] _ (by rfl) (by rfl) ?_
  dsimp only [List.filterMap, List.getElem?_cons_zero, List.getElem?_cons_succ]
  repeat (go_big_quiet_step (fail))
  refine wpQuiet_nil ?_
  refine wpPlan_forceL _ rfl ?_
  go_wp2_with fail
  refine hnew.mono ?_
  rintro e w1 ⟨rfl, hs1, hB1⟩
  have hB1' : Below w.heap.size w w1 := (Below.refl _ _).drew.trans hB1
  have hlt1 := hs1.lt
  have d1 : w1.cell? ⟨w.heap.size, 0, none⟩ = some (.int .i64 (n : Int)) := hs1.at_ 0 (by rw [setCells, arr_at _ (by omega), setv_0, List.length_replicate])
  have HS1 := Lib.hid hs1
  clear hs1 hB1 hnew
  go_wp2_with fail
  refine PlanQ.in_ (CC _ hB1') ?_
  refine wpPlan_pure [11, 12, 13, 14, 15] [] _ (by rfl) (by rfl) ?_
  dsimp only [List.filterMap, List.getElem?_cons_zero, List.getElem?_cons_succ]
  repeat (go_big_quiet_step (fail))
  refine wpQuiet_nil ?_
  refine wpPlan_tidy ?_
  by_cases hlen : b.length = 2 + (n + 3) / 4
  · have hlen' : (2 : Int) + ((n : Int) + 3) / 4 = b.length := by omega
    have HL := Lib.hid hlen
    have hle2 : (b.length : Int) ≤ 130 := by omega
    clear hlen
    have ht : ((b.length : Int) != (b.length : Int)) = false := by simp
    have hpre : rdPre b = true := (rdPre_iff b).2 ⟨by omega, by have := HN.out; omega, by have := HN.out; omega, by rw [HL.out, HN.out]⟩
    clear ht
    have ht : ((b.length : Int) != (b.length : Int)) = false := by simp
    go_wp2
    clear ht d1
    go_loopw [6] (fun v wr => RdRel b w.heap.size n w1 v wr) (fun v _ => n + 1 - (intOf v).toNat)
    case atStart => exact ⟨0, by omega, rfl, fun i hi => by omega, HS1.out.sub (by rw [rdF_zero]), Upd.refl _ _⟩
    case round =>
      obtain ⟨k, hk, rfl, hbig, hw, hu⟩ := hrel
      have hBr : Below w.heap.size w wr := hB1'.upd hu (Nat.le_refl _)
      have d1 : wr.cell? ⟨w.heap.size, 0, none⟩ = some (.int .i64 (n : Int)) := hw.at_ 0 (by rw [setCells, arr_at _ (by omega), setv_0, rdF_length])
      by_cases hkn : k < n
      · obtain ⟨j, hj⟩ : ∃ j : Nat, j = k / 4 := ⟨_, rfl⟩
        obtain ⟨r, hr⟩ : ∃ r : Nat, r = k % 4 := ⟨_, rfl⟩
        have ej : (k : Int) / 4 = j := by omega
        have er : (k : Int) % 4 = r := by omega
        have hr4 : r < 4 := by omega
        have hlenN := HL.out
        have hjm : 2 + j < b.length := by omega
        have hz := (hBr.cell (p := ⟨bb, off + (2 + j), none⟩) hbl).trans (HC.out (2 + j) hjm)
        have hcr := crumb_w b k j r hj hr
        have hle3 : crumb b k ≤ 3 := by unfold crumb; omega
        generalize iu8 (b.getD (2 + j) 0) = z at hz hcr
        obtain ⟨cv, hcv⟩ : ∃ cv, cv = crumb b k := ⟨_, rfl⟩
        rw [← hcv] at hcr hle3
        have HCV := Lib.hid hcv
        have HW := Lib.hid hw
        have HU := Lib.hid hu
        have HB2 := Lib.hid hbig
        clear hw hu hbig hcv hj hr hlenN
        by_cases h3 : 2 < cv
        · have hno : rdOk b = false := by
            cases h : rdOk b
            · rfl
            · have := (rdBig_iff b).1 ((rdOk_iff b).1 h).2.1 k (by rw [← HN.out]; exact hkn); rw [← HCV.out] at this; omega
          go_wp2
          go_ret2
          exact ReadSet.no hno hBr
        · have hcv2 : cv ≤ 2 := by omega
          have hset := set_any (rdF n (cutAt (crumb b) k)) w.heap.size k cv hcv2 (by rw [rdF_length]; exact hkn) (by rw [rdF_length]; exact hn2) wr HW.out
          rw [show (rdF n (cutAt (crumb b) k)).set k cv = rdF n (cutAt (crumb b) (k + 1)) by rw [HCV.out]; exact rdF_set n (crumb b) k hkn] at hset
          go_wp2_with fail
          refine hset.mono ?_
          rintro e w2 ⟨rfl, hw2, hu2⟩
          have HW2 := Lib.hid hw2
          have HU2 := Lib.hid hu2
          clear hset hw2 hu2
          go_wp2
          go_roundw
          case rel => exact ⟨k + 1, by omega, by go_num, fun i hi => (by
            by_cases e : i = k
            · subst e; rw [← HCV.out]; exact hcv2
            · exact HB2.out i (by omega)), HW2.out, HU.out.trans HU2.out⟩
          case measure => simp [intOf]; omega
      · obtain rfl : k = n := by omega
        have hbg : rdBig b = true := (rdBig_iff b).2 fun i hi => hbig i (by rw [HN.out]; exact hi)
        have hok := rd_ok hpre hbg
        have hw2 : Blk wr w.heap.size 26 (setCells (rd b)) := hw.sub (by rw [rdF_all]; unfold rd; rw [HN.out])
        have hlr : 0 < (rd b).length := by rw [rd_length, ← HN.out]; omega
        have HW := Lib.hid hw2
        have hbr : Bytes wr (some ⟨bb, off, none⟩) b := Bytes.below HB.out hBr
        clear hw hu hbig hw2
        go_wp2
        refine wp_region_planT (fun w' => Bytes w' (some ⟨bb, off, none⟩) b) [] [(true, 0), (true, 3), (true, 4), (false, 1), (false, 2), (true, 5)] (by kernel_rfl) (by kernel_rfl) hbr ?_
        refine wpPlan_pure [0, 3] [(true, 4), (false, 1), (false, 2), (true, 5)] _ (by rfl) (by rfl) ?_
        dsimp only [List.filterMap, List.getElem?_cons_zero, List.getElem?_cons_succ]
        repeat (go_big_quiet_step (fail))
        refine wpQuiet_nil ?_
        refine wpPlan_takeL [4] [(false, 1), (false, 2), (true, 5)] _ (by rfl) (by rfl) hbr ?_
        dsimp only [List.filterMap, List.getElem?_cons_zero, List.getElem?_cons_succ]
        refine wpQuiet_convert_str (by rfl) 36 9 5 _ (by rfl) Tryd.underlying36 Tryd.underlying5 Tryd.underlying9 (some ⟨bb, off, none⟩) b.length c b (by rfl) rfl (fun w' hw' => hw') ?_
        simp only [Act.put, List.setIfInBounds_toArray, List.set_cons_zero, List.set_cons_succ]
        refine wpQuiet_nil ?_
        refine wpPlan_forceL _ rfl ?_
        go_wp2_with fail
        refine (bytes_any (rd b) hok hlr w.heap.size wr.drew HW.out.drew).mono ?_
        rintro e w3 ⟨rfl, hO, hB3⟩
        have hs3 : Blk w3 w.heap.size 26 (setCells (rd b)) := HW.out.drew.below hB3 HW.out.lt
        have hBB : Below w.heap.size w w3 := hBr.drew.trans (hB3.mono hBr.size)
        have hbr3 : Bytes w3 (some ⟨bb, off, none⟩) b := Bytes.below HB.out hBB
        have hel := enc_length (rd b)
        have hOb := hO.bytes
        have HS3 := Lib.hid hs3
        clear hO hs3 hB3
        go_wp2_with fail
        refine PlanQ.in_ hbr3 ?_
        refine wpPlan_forceL _ rfl ?_
        go_wp2_with (first
          | (show wpList _ _ _ ((⟨some 69, _, _, _, _, _⟩ : Oper) :: _) _ _; refine wpList_convert_str (o := ⟨some 69, _, _, _, _, _⟩) (by rfl) 36 9 5 _ (by rfl) Tryd.underlying36 Tryd.underlying5 Tryd.underlying9 (some ⟨wr.drew.heap.size, 0, none⟩) (2 + ((rd b).length + 3) / 4) (2 + ((rd b).length + 3) / 4) (enc (rd b)) (by rfl) hel.symm hOb ?_)
          | fail)
        refine PlanQ.in_ hbr3 ?_
        have hne : ((str (enc (rd b))).toList == (str b).toList) = decide (enc (rd b) = b) := str_beq _ _
        by_cases he : enc (rd b) = b
        · rw [decide_eq_true he] at hne
          have hne' : ((str (enc (rd b))).toList == (str b).toList) = true := hne
          have hyes : rdOk b = true := (rdOk_iff b).2 ⟨hpre, hbg, he⟩
          have HE := Lib.hid he
          clear hne he
          refine wpPlan_pure [5] [] _ (by rfl) (by rfl) ?_
          dsimp only [List.filterMap, List.getElem?_cons_zero, List.getElem?_cons_succ]
          repeat (go_big_quiet_step (fail))
          refine wpQuiet_nil ?_
          refine wpPlan_tidy ?_
          go_wp2
          go_ret2
          unfold ReadSet
          rw [if_pos hyes]
          exact ⟨w.heap.size, Nat.le_refl _, rfl, HS3.out, hBB⟩
        · rw [decide_eq_false he] at hne
          have hne' : ((str (enc (rd b))).toList == (str b).toList) = false := hne
          have hno : rdOk b = false := by
            cases h : rdOk b
            · rfl
            · exact absurd ((rdOk_iff b).1 h).2.2 he
          clear hne he
          refine wpPlan_pure [5] [] _ (by rfl) (by rfl) ?_
          dsimp only [List.filterMap, List.getElem?_cons_zero, List.getElem?_cons_succ]
          repeat (go_big_quiet_step (fail))
          refine wpQuiet_nil ?_
          refine wpPlan_tidy ?_
          go_wp2
          go_ret2
          exact ReadSet.no hno hBB
  · have hno : rdOk b = false := by
      cases h : rdOk b
      · rfl
      · have := (rdPre_iff b).1 ((rdOk_iff b).1 h).1; have := HN.out; omega
    have ht : ((b.length : Int) != 2 + ((n : Int) + 3) / 4) = true := by rw [bne_iff_ne]; omega
    have hle : 2 + ((n : Int) + 3) / 4 ≤ 200 := by omega
    clear hlen
    go_wp2
    go_ret2
    exact ReadSet.no hno hB1'
end Go.Proofs.YtkjcidbhepminaaDoor
