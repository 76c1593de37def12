/- The program's set of blocks, read from bytes. Condition: the bytes can be read. -/
import Derived.Test.YtfoegmjpfkmggaaGreatDoorMGridKeeps12
namespace Go.Proofs.YtfoegmjpfkmggaaGreatDoor
open Go.RowKit
/-- What reading answers. -/
def ReadSet (T : TypeId) (cells : List Nat → Array Value) (b : List UInt8) (w : World) (e : Ending) (w' : World) : Prop :=
  if rdOk b = true then ∃ g, w.heap.size ≤ g ∧ e = .returned (.tuple #[.pointer (some ⟨g, 0, none⟩), .int .i64 0]) ∧ Blk w' g T (cells (rd b)) ∧ Below w.heap.size w w'
  else e = .returned (.tuple #[.pointer none, .int .i64 4]) ∧ Below w.heap.size w w'
theorem ReadSet.no {T : TypeId} {cells : List Nat → Array Value} {b : List UInt8} {w w' : World} (h : rdOk b = false) (hB : Below w.heap.size w w') : ReadSet T cells b w (.returned (.tuple #[.pointer none, .int .i64 4])) w' := by
  unfold ReadSet; rw [if_neg (by rw [h]; simp)]; exact ⟨rfl, hB⟩
theorem or256 (x y : Nat) (hx : x < 256) (hy : y < 256) : bits .or .i64 (x : Int) ((y : Int) * 256) = ((x + 256 * y : Nat) : Int) := by
  have h := i64_or_nat09 x (256 * y) (by omega) (by omega)
  have e : ((256 * y : Nat) : Int) = (y : Int) * 256 := by omega
  rw [e] at h
  rw [h, Nat.or_comm, nat_join 8 (256 * y) x (by omega) (by omega)]
  congr 1; omega
theorem crumb_w (b : List UInt8) (k j r : Nat) (hj : j = k / 4) (hr : r = k % 4) : bits .and .u8 (iu8 (b.getD (2 + j) 0) / 2 ^ (2 * r)) 3 = (crumb b k : Nat) := by
  subst hj hr
  unfold crumb
  have hz := (b.getD (2 + k / 4) 0).toNat_lt
  have e : iu8 (b.getD (2 + k / 4) 0) / 2 ^ (2 * (k % 4)) = (((b.getD (2 + k / 4) 0).toNat / 4 ^ (k % 4) : Nat) : Int) := by
    unfold iu8
    rw [show (4 : Nat) = 2 ^ 2 from rfl, ← Nat.pow_mul]; simp
  rw [e]
  have h := u8_and_nat ((b.getD (2 + k / 4) 0).toNat / 4 ^ (k % 4)) 3 (Nat.lt_of_le_of_lt (Nat.div_le_self _ _) hz) (by omega)
  rw [nat_mask2] at h
  exact h
/-- Ahead of each block. -/
def SetRdRel (b : List UInt8) (g n : Nat) (w1 : World) (v : Value) (wr : World) : Prop :=
  ∃ k : Nat, k ≤ n ∧ v = .int .i64 ((k : Int) + 1) ∧ (∀ i, i < k → crumb b i ≤ 2) ∧ Blk wr g 220 (setCells (rdF n (cutAt (crumb b) k))) ∧ Upd g w1 wr
set_option maxRecDepth 100000 in
set_option maxHeartbeats 2000000 in
theorem setRead_any (A : Option Addr) (c : Nat) (b : List UInt8) (w : World) (hb : Bytes w A b) (hl : b.length ≤ 9223372036854775807) :
    Calls Tryz.prog 178 #[.slice A b.length c] w (ReadSet 220 setCells b w) := by
  by_cases h2 : b.length < 2
  · have hno : rdOk b = false := by
      cases h : rdOk b
      · rfl
      · have := ((rdPre_iff b).1 ((rdOk_iff b).1 h).1).1; omega
    go_enter Tryz.func178, Tryz.ntmps178
    go_wp2
    go_ret2
    exact ReadSet.no hno (Below.refl _ _)
  obtain ⟨bb, off, rfl, hbl, hcell⟩ := hb.at_ (by omega)
  have hc0 := hcell 0 (by omega)
  have hc1 := hcell 1 (by omega)
  have x0 := iu8_lo (b.getD 0 0)
  have x1 := iu8_hi (b.getD 0 0)
  have y0 := iu8_lo (b.getD 1 0)
  have y1 := iu8_hi (b.getD 1 0)
  have hor : bits .or .i64 (iu8 (b.getD 0 0)) (iu8 (b.getD 1 0) * 256) = (rdn b : Nat) := or256 _ _ (b.getD 0 0).toNat_lt (b.getD 1 0).toNat_lt
  have hn16 : rdn b < 65536 := by unfold rdn; have := (b.getD 0 0).toNat_lt; have := (b.getD 1 0).toNat_lt; omega
  generalize iu8 (b.getD 0 0) = x at hc0 hor x0 x1
  generalize iu8 (b.getD 1 0) = y at hc1 hor y0 y1
  have h2' : 2 ≤ (b.length : Int) := by omega
  have h2a : 0 < (b.length : Int) := by omega
  have h2b : 1 < (b.length : Int) := by omega
  rw [Nat.add_zero] at hc0
  have HC := Lib.hid hcell
  have HB := Lib.hid hb
  obtain ⟨n, hn⟩ : ∃ n, n = rdn b := ⟨_, rfl⟩
  rw [← hn] at hor hn16
  have HN := Lib.hid hn
  clear hcell hb hn
  have CC : ∀ w', Below w.heap.size w w' → w'.cell? ⟨bb, off, none⟩ = some (.int .u8 x) ∧ w'.cell? ⟨bb, off + 1, none⟩ = some (.int .u8 y) := fun w' hB =>
    ⟨(hB.cell (p := ⟨bb, off, none⟩) hbl).trans hc0, (hB.cell (p := ⟨bb, off + 1, none⟩) hbl).trans hc1⟩
  by_cases hnb : n < 1 ∨ 512 < n
  · have hno : rdOk b = false := by
      cases h : rdOk b
      · rfl
      · have := (rdPre_iff b).1 ((rdOk_iff b).1 h).1; have := HN.out; omega
    have hnew := new_bad (n : Int) (by omega) w.drew
    clear hnb
    go_enter Tryz.func178, Tryz.ntmps178
    go_wp2
    refine wp_region_planT (fun w' => w'.cell? ⟨bb, off, none⟩ = some (.int .u8 x) ∧ w'.cell? ⟨bb, off + 1, none⟩ = some (.int .u8 y)) [] [(true, 0), (true, 1), (true, 4), (true, 5), (true, 2), (true, 6), (true, 3), (true, 7), (true, 8), (true, 9), (false, 10), (true, 11), (true, 12), (true, 13), (true, 14), (true, 15)] (by kernel_rfl) (by kernel_rfl) (⟨hc0, hc1⟩) ?_
    refine wpPlan_pure [0, 1, 4, 5] [(true, 2), (true, 6), (true, 3), (true, 7), (true, 8), (true, 9), (false, 10), (true, 11), (true, 12), (true, 13), (true, 14), (true, 15)] _ (by rfl) (by rfl) ?_
    dsimp only [List.filterMap, List.getElem?_cons_zero, List.getElem?_cons_succ]
    repeat (go_big_quiet_step (fail))
    refine wpQuiet_nil ?_
    refine wpPlan_takeL [2, 6] [(true, 3), (true, 7), (true, 8), (true, 9), (false, 10), (true, 11), (true, 12), (true, 13), (true, 14), (true, 15)] _ (by rfl) (by rfl) (⟨hc0, hc1⟩) ?_
    dsimp only [List.filterMap, List.getElem?_cons_zero, List.getElem?_cons_succ]
    (refine wpQuiet_load_cell (fun w' hw' => hw'.1) (by rfl) _ _ (by rfl) (by rfl) _ Tryz.underlying5 (by rfl) ?_; simp only [Act.put, List.setIfInBounds_toArray, List.set_cons_zero, List.set_cons_succ])
    (refine wpQuiet_load_cell (fun w' hw' => hw'.2) (by rfl) _ _ (by rfl) (by rfl) _ Tryz.underlying5 (by rfl) ?_; simp only [Act.put, List.setIfInBounds_toArray, List.set_cons_zero, List.set_cons_succ])
    refine wpQuiet_nil ?_
    refine wpPlan_pure [3, 7, 8, 9] [(false, 10), (true, 11), (true, 12), (true, 13), (true, 14), (true, 15)] _ (by rfl) (by rfl) ?_
    dsimp only [List.filterMap, List.getElem?_cons_zero, List.getElem?_cons_succ]
    repeat (go_big_quiet_step (fail))
    refine wpQuiet_nil ?_
    refine wpPlan_forceL _ rfl ?_
    go_wp2_with fail
    refine hnew.mono ?_
    rintro e w' ⟨rfl, rfl⟩
    go_wp2_with fail
    refine PlanQ.in_ ⟨hc0, hc1⟩ ?_
    refine wpPlan_pure [11, 12, 13, 14, 15] [] _ (by rfl) (by rfl) ?_
    dsimp only [List.filterMap, List.getElem?_cons_zero, List.getElem?_cons_succ]
    repeat (go_big_quiet_step (fail))
    refine wpQuiet_nil ?_
    refine wpPlan_tidy ?_
    go_wp2
    go_ret2
    exact ReadSet.no hno (Below.refl _ _).drew
  have hnew := setNew_any n (by omega) (by omega) w.drew
  have hn1 : 1 ≤ n := by omega
  have hn2 : n ≤ 512 := by omega
  clear hnb
  go_enter Tryz.func178, Tryz.ntmps178
  go_wp2
  refine wp_region_planT (fun w' => w'.cell? ⟨bb, off, none⟩ = some (.int .u8 x) ∧ w'.cell? ⟨bb, off + 1, none⟩ = some (.int .u8 y)) [] [(true, 0), (true, 1), (true, 4), (true, 5), (true, 2), (true, 6), (true, 3), (true, 7), (true, 8), (true, 9), (false, 10), (true, 11), (true, 12), (true, 13), (true, 14), (true, 15)] (by kernel_rfl) (by kernel_rfl) (⟨hc0, hc1⟩) ?_
  refine wpPlan_pure [0, 1, 4, 5] [(true, 2), (true, 6), (true, 3), (true, 7), (true, 8), (true, 9), (false, 10), (true, 11), (true, 12), (true, 13), (true, 14), (true, 15)] _ (by rfl) (by rfl) ?_
  dsimp only [List.filterMap, List.getElem?_cons_zero, List.getElem?_cons_succ]
  repeat (go_big_quiet_step (fail))
  refine wpQuiet_nil ?_
  refine wpPlan_takeL [2, 6] [(true, 3), (true, 7), (true, 8), (true, 9), (false, 10), (true, 11), (true, 12), (true, 13), (true, 14), (true, 15)] _ (by rfl) (by rfl) (⟨hc0, hc1⟩) ?_
  dsimp only [List.filterMap, List.getElem?_cons_zero, List.getElem?_cons_succ]
  (refine wpQuiet_load_cell (fun w' hw' => hw'.1) (by rfl) _ _ (by rfl) (by rfl) _ Tryz.underlying5 (by rfl) ?_; simp only [Act.put, List.setIfInBounds_toArray, List.set_cons_zero, List.set_cons_succ])
  (refine wpQuiet_load_cell (fun w' hw' => hw'.2) (by rfl) _ _ (by rfl) (by rfl) _ Tryz.underlying5 (by rfl) ?_; simp only [Act.put, List.setIfInBounds_toArray, List.set_cons_zero, List.set_cons_succ])
  refine wpQuiet_nil ?_
  refine wpPlan_pure [3, 7, 8, 9] [(false, 10), (true, 11), (true, 12), (true, 13), (true, 14), (true, 15)] _ (by rfl) (by rfl) ?_
  dsimp only [List.filterMap, List.getElem?_cons_zero, List.getElem?_cons_succ]
  repeat (go_big_quiet_step (fail))
  refine wpQuiet_nil ?_
  refine wpPlan_forceL _ rfl ?_
  go_wp2_with fail
  refine hnew.mono ?_
  rintro e w1 ⟨rfl, hs1, hB1⟩
  have hB1' : Below w.heap.size w w1 := (Below.refl _ _).drew.trans hB1
  have hlt1 := hs1.lt
  have d1 : w1.cell? ⟨w.heap.size, 0, none⟩ = some (.int .i64 (n : Int)) := hs1.at_ 0 (by rw [setCells, arr_at _ (by omega), setv_0, List.length_replicate])
  have HS1 := Lib.hid hs1
  clear hs1 hB1 hnew
  go_wp2_with fail
  refine PlanQ.in_ (CC _ hB1') ?_
  refine wpPlan_pure [11, 12, 13, 14, 15] [] _ (by rfl) (by rfl) ?_
  dsimp only [List.filterMap, List.getElem?_cons_zero, List.getElem?_cons_succ]
  repeat (go_big_quiet_step (fail))
  refine wpQuiet_nil ?_
  refine wpPlan_tidy ?_
  by_cases hlen : b.length = 2 + (n + 3) / 4
  · have hlen' : (2 : Int) + ((n : Int) + 3) / 4 = b.length := by omega
    have HL := Lib.hid hlen
    have hle2 : (b.length : Int) ≤ 130 := by omega
    clear hlen
    have ht : ((b.length : Int) != (b.length : Int)) = false := by simp
    have hpre : rdPre b = true := (rdPre_iff b).2 ⟨by omega, by have := HN.out; omega, by have := HN.out; omega, by rw [HL.out, HN.out]⟩
    clear ht
    have ht : ((b.length : Int) != (b.length : Int)) = false := by simp
    go_wp2
    clear ht d1
    go_loopw [6] (fun v wr => SetRdRel b w.heap.size n w1 v wr) (fun v _ => n + 1 - (intOf v).toNat)
    case atStart => exact ⟨0, by omega, rfl, fun i hi => by omega, HS1.out.sub (by rw [rdF_zero]), Upd.refl _ _⟩
    case round =>
      obtain ⟨k, hk, rfl, hbig, hw, hu⟩ := hrel
      have hBr : Below w.heap.size w wr := hB1'.upd hu (Nat.le_refl _)
      have d1 : wr.cell? ⟨w.heap.size, 0, none⟩ = some (.int .i64 (n : Int)) := hw.at_ 0 (by rw [setCells, arr_at _ (by omega), setv_0, rdF_length])
      by_cases hkn : k < n
      · obtain ⟨j, hj⟩ : ∃ j : Nat, j = k / 4 := ⟨_, rfl⟩
        obtain ⟨r, hr⟩ : ∃ r : Nat, r = k % 4 := ⟨_, rfl⟩
        have ej : (k : Int) / 4 = j := by omega
        have er : (k : Int) % 4 = r := by omega
        have hr4 : r < 4 := by omega
        have hlenN := HL.out
        have hjm : 2 + j < b.length := by omega
        have hz := (hBr.cell (p := ⟨bb, off + (2 + j), none⟩) hbl).trans (HC.out (2 + j) hjm)
        have hcr := crumb_w b k j r hj hr
        have hle3 : crumb b k ≤ 3 := by unfold crumb; omega
        generalize iu8 (b.getD (2 + j) 0) = z at hz hcr
        obtain ⟨cv, hcv⟩ : ∃ cv, cv = crumb b k := ⟨_, rfl⟩
        rw [← hcv] at hcr hle3
        have HCV := Lib.hid hcv
        have HW := Lib.hid hw
        have HU := Lib.hid hu
        have HB2 := Lib.hid hbig
        clear hw hu hbig hcv hj hr hlenN
        by_cases h3 : 2 < cv
        · have hno : rdOk b = false := by
            cases h : rdOk b
            · rfl
            · have := (rdBig_iff b).1 ((rdOk_iff b).1 h).2.1 k (by rw [← HN.out]; exact hkn); rw [← HCV.out] at this; omega
          go_wp2
          go_ret2
          exact ReadSet.no hno hBr
        · have hcv2 : cv ≤ 2 := by omega
          have hset := set_any (rdF n (cutAt (crumb b) k)) w.heap.size k cv hcv2 (by rw [rdF_length]; exact hkn) (by rw [rdF_length]; exact hn2) wr HW.out
          rw [show (rdF n (cutAt (crumb b) k)).set k cv = rdF n (cutAt (crumb b) (k + 1)) by rw [HCV.out]; exact rdF_set n (crumb b) k hkn] at hset
          go_wp2_with fail
          refine hset.mono ?_
          rintro e w2 ⟨rfl, hw2, hu2⟩
          have HW2 := Lib.hid hw2
          have HU2 := Lib.hid hu2
          clear hset hw2 hu2
          go_wp2
          go_roundw
          case rel => exact ⟨k + 1, by omega, by go_num, fun i hi => (by
            by_cases e : i = k
            · subst e; rw [← HCV.out]; exact hcv2
            · exact HB2.out i (by omega)), HW2.out, HU.out.trans HU2.out⟩
          case measure => simp [intOf]; omega
      · obtain rfl : k = n := by omega
        have hbg : rdBig b = true := (rdBig_iff b).2 fun i hi => hbig i (by rw [HN.out]; exact hi)
        have hok := rd_ok hpre hbg
        have hw2 : Blk wr w.heap.size 220 (setCells (rd b)) := hw.sub (by rw [rdF_all]; unfold rd; rw [HN.out])
        have hlr : 0 < (rd b).length := by rw [rd_length, ← HN.out]; omega
        have HW := Lib.hid hw2
        have hbr : Bytes wr (some ⟨bb, off, none⟩) b := Bytes.below HB.out hBr
        clear hw hu hbig hw2
        go_wp2
        refine wp_region_planT (fun w' => Bytes w' (some ⟨bb, off, none⟩) b) [] [(true, 0), (true, 3), (true, 4), (false, 1), (false, 2), (true, 5)] (by kernel_rfl) (by kernel_rfl) hbr ?_
        refine wpPlan_pure [0, 3] [(true, 4), (false, 1), (false, 2), (true, 5)] _ (by rfl) (by rfl) ?_
        dsimp only [List.filterMap, List.getElem?_cons_zero, List.getElem?_cons_succ]
        repeat (go_big_quiet_step (fail))
        refine wpQuiet_nil ?_
        refine wpPlan_takeL [4] [(false, 1), (false, 2), (true, 5)] _ (by rfl) (by rfl) hbr ?_
        dsimp only [List.filterMap, List.getElem?_cons_zero, List.getElem?_cons_succ]
        refine wpQuiet_convert_str (by rfl) 39 9 5 _ (by rfl) Tryz.underlying39 Tryz.underlying5 Tryz.underlying9 (some ⟨bb, off, none⟩) b.length c b (by rfl) rfl (fun w' hw' => hw') ?_
        simp only [Act.put, List.setIfInBounds_toArray, List.set_cons_zero, List.set_cons_succ]
        refine wpQuiet_nil ?_
        refine wpPlan_forceL _ rfl ?_
        go_wp2_with fail
        refine (bytes_any (rd b) hok hlr w.heap.size wr.drew HW.out.drew).mono ?_
        rintro e w3 ⟨rfl, hO, hB3⟩
        have hs3 : Blk w3 w.heap.size 220 (setCells (rd b)) := HW.out.drew.below hB3 HW.out.lt
        have hBB : Below w.heap.size w w3 := hBr.drew.trans (hB3.mono hBr.size)
        have hbr3 : Bytes w3 (some ⟨bb, off, none⟩) b := Bytes.below HB.out hBB
        have hel := enc_length (rd b)
        have hOb := hO.bytes
        have HS3 := Lib.hid hs3
        clear hO hs3 hB3
        go_wp2_with fail
        refine PlanQ.in_ hbr3 ?_
        refine wpPlan_forceL _ rfl ?_
        go_wp2_with (first
          | (show wpList _ _ _ ((⟨some 69, _, _, _, _, _⟩ : Oper) :: _) _ _; refine wpList_convert_str (o := ⟨some 69, _, _, _, _, _⟩) (by rfl) 39 9 5 _ (by rfl) Tryz.underlying39 Tryz.underlying5 Tryz.underlying9 (some ⟨wr.drew.heap.size, 0, none⟩) (2 + ((rd b).length + 3) / 4) (2 + ((rd b).length + 3) / 4) (enc (rd b)) (by rfl) hel.symm hOb ?_)
          | fail)
        refine PlanQ.in_ hbr3 ?_
        have hne : ((str (enc (rd b))).toList == (str b).toList) = decide (enc (rd b) = b) := str_beq _ _
        by_cases he : enc (rd b) = b
        · rw [decide_eq_true he] at hne
          have hne' : ((str (enc (rd b))).toList == (str b).toList) = true := hne
          have hyes : rdOk b = true := (rdOk_iff b).2 ⟨hpre, hbg, he⟩
          have HE := Lib.hid he
          clear hne he
          refine wpPlan_pure [5] [] _ (by rfl) (by rfl) ?_
          dsimp only [List.filterMap, List.getElem?_cons_zero, List.getElem?_cons_succ]
          repeat (go_big_quiet_step (fail))
          refine wpQuiet_nil ?_
          refine wpPlan_tidy ?_
          go_wp2
          go_ret2
          unfold ReadSet
          rw [if_pos hyes]
          exact ⟨w.heap.size, Nat.le_refl _, rfl, HS3.out, hBB⟩
        · rw [decide_eq_false he] at hne
          have hne' : ((str (enc (rd b))).toList == (str b).toList) = false := hne
          have hno : rdOk b = false := by
            cases h : rdOk b
            · rfl
            · exact absurd ((rdOk_iff b).1 h).2.2 he
          clear hne he
          refine wpPlan_pure [5] [] _ (by rfl) (by rfl) ?_
          dsimp only [List.filterMap, List.getElem?_cons_zero, List.getElem?_cons_succ]
          repeat (go_big_quiet_step (fail))
          refine wpQuiet_nil ?_
          refine wpPlan_tidy ?_
          go_wp2
          go_ret2
          exact ReadSet.no hno hBB
  · have hno : rdOk b = false := by
      cases h : rdOk b
      · rfl
      · have := (rdPre_iff b).1 ((rdOk_iff b).1 h).1; have := HN.out; omega
    have ht : ((b.length : Int) != 2 + ((n : Int) + 3) / 4) = true := by rw [bne_iff_ne]; omega
    have hle : 2 + ((n : Int) + 3) / 4 ≤ 200 := by omega
    clear hlen
    go_wp2
    go_ret2
    exact ReadSet.no hno hB1'
end Go.Proofs.YtfoegmjpfkmggaaGreatDoor

/- Another set is a grid's: Reset; a grid is made of a set: Open. Conditions: the grid, or the disk, is known; the bytes can be read. -/
namespace Go.Proofs.YtfoegmjpfkmggaaGreatDoor
open Go.RowKit
theorem cnts3 (L : List Nat) (h : ∀ i, L.getD i 0 ≤ 2) : cnts L 0 + cnts L 1 + cnts L 2 = L.length := by
  induction L with
  | nil => rfl
  | cons x L ih =>
    have h0 := h 0
    have h1 := ih (fun i => by have := h (i + 1); simpa using this)
    have hx : x = 0 ∨ x = 1 ∨ x = 2 := by simp at h0; omega
    unfold cnts at h1 ⊢
    rcases hx with rfl | rfl | rfl <;> simp <;> omega
theorem Near.mix {X Y : List Nat} {w w1 w2 : World} (h : Near X w w1) (k : Near Y w1 w2) (hY : ∀ y ∈ Y, y ∈ X ∨ w.heap.size ≤ y) : Near X w w2 :=
  ⟨k.os.trans h.os, k.tape.trans h.tape, k.output.trans h.output, Nat.le_trans h.size k.size, fun j hj hn => (k.block j (Nat.lt_of_lt_of_le hj h.size) (fun hm => (hY j hm).elim hn (fun h => by omega))).trans (h.block j hj hn)⟩
/-- Behind the last store: another set, that came since. -/
theorem GPost.last' {w w1 : World} {q : GPl} {g : Grd} {d : Dsk} {f : Option Fus} {L : List Nat} {gS : Nat} (hB : Below w.heap.size w w1)
    (hST : GridR (w1.setCell ⟨q.gg, 2, none⟩ (.pointer (some ⟨gS, 0, none⟩))) { q with gs := gS } { g with L := L } d f ∧ Upd q.gg w1 (w1.setCell ⟨q.gg, 2, none⟩ (.pointer (some ⟨gS, 0, none⟩)))) (hg : w.heap.size ≤ gS) :
    GPost w q { g with L := L } d f (w1.setCell ⟨q.gg, 2, none⟩ (.pointer (some ⟨gS, 0, none⟩))) := by
  refine ⟨{ q with gs := gS }, rfl, rfl, rfl, hST.1, (Near.below hB).trans (Near.upd hST.2 (GPl.mem.2 (.inl rfl))), fun y hy => ?_⟩
  rcases GPl.mem.1 hy with e | e | e | e | e
  · exact .inl (GPl.mem.2 (.inl e))
  · exact .inr (by rw [e]; exact hg)
  · exact .inl (GPl.mem.2 (.inr (.inr (.inl e))))
  · exact .inl (GPl.mem.2 (.inr (.inr (.inr (.inl e)))))
  · exact .inl (GPl.mem.2 (.inr (.inr (.inr (.inr e)))))
/-- What a Reset answers. -/
def greset (g : Grd) (b : List UInt8) : Int × Grd := if rdOk b = true ∧ (rd b).length = g.n then (0, { g with L := rd b }) else (4, g)
section
variable {w : World} {q : GPl} {g : Grd} {d : Dsk} {f : Option Fus}
set_option maxRecDepth 100000 in
set_option maxHeartbeats 2000000 in
theorem greset_any (h : GridR w q g d f) (A : Option Addr) (n c : Nat) (b : List UInt8) (hn : n = b.length) (hb : Bytes w A b) (hl : b.length ≤ 9223372036854775807) :
    Calls Tryz.prog 154 #[.pointer (some ⟨q.gg, 0, none⟩), .slice A n c] w fun e w' => e = .returned (.int .i64 (greset g b).1) ∧ GPost w q (greset g b).2 d f w' := by
  subst hn
  have hn := gnone_any h
  have hr := setRead_any A c b w hb hl
  have H0 := Lib.hid h
  clear h hb hl
  go_enter Tryz.func154, Tryz.ntmps154
  go_wp2_with fail
  refine hn.mono ?_
  rintro e w1 ⟨rfl, hw⟩
  obtain rfl := hw.symm
  clear hn hw
  go_wp2_with fail
  refine hr.mono ?_
  rintro e w2 hR
  by_cases hok : rdOk b = true
  case neg =>
    unfold ReadSet at hR
    rw [if_neg hok] at hR
    obtain ⟨rfl, hB⟩ := hR
    have HL : Hid (greset g b = (4, g)) := Lib.hid (if_neg (fun h => hok h.1))
    have HP := Lib.hid (GPost.same H0.out hB)
    clear hB hr hok
    go_wp2
    go_ret
    rw [HL.out]
    exact ⟨rfl, HP.out⟩
  unfold ReadSet at hR
  rw [if_pos hok] at hR
  obtain ⟨gS, hgS, rfl, hst, hB⟩ := hR
  have hpre := (rdOk_iff b).1 hok
  have hset := rd_ok hpre.1 hpre.2.1
  have hlen := rd_length b
  have hrn := (rdPre_iff b).1 hpre.1
  have hc := counts_any (rd b) hset (by omega) gS w2 hst
  have hsum := cnts3 (rd b) hset.le
  have H2 := Lib.hid (And.intro hst (And.intro hB (And.intro hset (And.intro hgS hok))))
  have hn512 : (rd b).length ≤ 512 := hset.len
  clear hr hok hst hB hpre hset hgS hrn hlen
  go_wp2_with fail
  refine hc.mono ?_
  rintro e w3 ⟨rfl, hbx⟩
  have hB3 := H2.out.2.1.trans (hbx.mono H2.out.2.1.size)
  have hst3 := H2.out.1.below hbx H2.out.1.lt
  have hG3 := H0.out.below hB3
  obtain ⟨wv, hgb⟩ := hG3.blk
  have d1 := hgb.at_ 1 (v := .int .i64 (g.n : Int)) rfl
  have d2 := hgb.at_ 2 (v := .pointer (some ⟨q.gs, 0, none⟩)) rfl
  have f2 := hgb.frozen 2
  have H3 := Lib.hid (And.intro hB3 (And.intro hst3 hG3))
  have hw1 : wrap64 ((cnts (rd b) 0 : Int) + (cnts (rd b) 1 : Int)) = (cnts (rd b) 0 : Int) + (cnts (rd b) 1 : Int) := w64_in (by omega)
  have hw2 : wrap64 ((cnts (rd b) 0 : Int) + (cnts (rd b) 1 : Int) + (cnts (rd b) 2 : Int)) = ((rd b).length : Int) := by rw [w64_in (by omega)]; omega
  clear hc hbx hB3 hst3 hG3 hgb
  by_cases he : (rd b).length = g.n
  case neg =>
    have HL : Hid (greset g b = (4, g)) := Lib.hid (if_neg (fun h => he h.2))
    have kn : (((rd b).length : Int) != (g.n : Int)) = true := by rw [bne_iff_ne]; omega
    clear hsum hn512 d2 f2
    go_wp2
    go_ret
    rw [HL.out]
    exact ⟨rfl, GPost.same H0.out H3.out.1⟩
  have HL : Hid (greset g b = (0, { g with L := rd b })) := Lib.hid (if_pos ⟨H2.out.2.2.2.2, he⟩)
  have kn : (((rd b).length : Int) != (g.n : Int)) = false := by rw [he]; simp
  have hST := GridR.setTo H3.out.2.2 H3.out.2.1 H2.out.2.2.1 he
  have HP := Lib.hid (GPost.last' H3.out.1 hST H2.out.2.2.2.1)
  clear hsum hn512 hST he
  go_wp2
  go_ret
  rw [HL.out]
  exact ⟨rfl, HP.out⟩
end
/-- What an Open leaves. -/
def GOpenPost (w : World) (p : Pl) (gf : Option Nat) (d : Dsk) (f : Option Fus) (n : Nat) (b : List UInt8) (e : Ending) (w' : World) : Prop :=
  (if rdOk b = true ∧ (rd b).length = n then ∃ q : GPl, q.p = p ∧ q.gf = gf ∧ e = .returned (.tuple #[.pointer (some ⟨q.gg, 0, none⟩), .int .i64 0]) ∧ GridR w' q ⟨n, rd b, []⟩ d f ∧ (∀ x ∈ q.all, x ∈ p.all gf ∨ w.heap.size ≤ x)
   else e = .returned (.tuple #[.pointer none, .int .i64 4])) ∧ Near (p.all gf) w w'
section
variable {w : World} {p : Pl} {gf : Option Nat} {d : Dsk} {f : Option Fus}
set_option maxRecDepth 100000 in
set_option maxHeartbeats 2000000 in
theorem gopen_any (h : DkOk w p gf d f) (ho : d.isOut f = false) (n : Nat) (h1 : 1 ≤ n) (h2 : n ≤ 512) (hr : 104 + 4 * n ≤ d.N) (A : Option Addr) (m c : Nat) (b : List UInt8) (hn : m = b.length) (hb : Bytes w A b) (hl : b.length ≤ 9223372036854775807) :
    Calls Tryz.prog 114 #[.pointer (some ⟨p.gd, 0, none⟩), .int .i64 (n : Int), .slice A m c] w (GOpenPost w p gf d f n b) := by
  have hnew := gnew_any h ho n h1 h2 hr
  have H0 := Lib.hid (And.intro h (And.intro hb (And.intro hl hn)))
  clear h ho h1 h2 hr hb hl hn
  go_enter Tryz.func114, Tryz.ntmps114
  go_wp2_with fail
  refine hnew.mono ?_
  rintro e w1 ⟨q, hqp, hqf, rfl, hG, hge, hB⟩
  have hrs := greset_any hG A m c b H0.out.2.2.2 (Bytes.below H0.out.2.1 hB) H0.out.2.2.1
  have H1 := Lib.hid (And.intro hqp (And.intro hqf (And.intro hge hB)))
  clear hnew hqp hqf hge hG hB
  go_wp2_with fail
  refine hrs.mono ?_
  rintro e w2 ⟨rfl, q', e1, e2, e3, k1, k2, k3⟩
  have hq1 : ∀ x ∈ q.all, x ∈ p.all gf ∨ w.heap.size ≤ x := fun x hx => by
    rcases GPl.mem.1 hx with e | e | e | e | e
    · exact .inr (e ▸ H1.out.2.2.1.1)
    · exact .inr (e ▸ H1.out.2.2.1.2.1)
    · exact .inr (e ▸ H1.out.2.2.1.2.2.1)
    · rw [H1.out.2.2.1.2.2.2] at e; cases e
    · rw [H1.out.1, H1.out.2.1] at e; exact .inl e
  have hN := Near.mix (Near.below (X := p.all gf) H1.out.2.2.2) k2 hq1
  have hq2 : ∀ x ∈ q'.all, x ∈ p.all gf ∨ w.heap.size ≤ x := fun x hx => (k3 x hx).elim (hq1 x) (fun h => .inr (Nat.le_trans H1.out.2.2.2.size h))
  by_cases hc : rdOk b = true ∧ (rd b).length = n
  · have hg : greset ⟨n, List.replicate n 0, []⟩ b = (0, ⟨n, rd b, []⟩) := if_pos hc
    rw [hg] at k1 ⊢
    have H2 := Lib.hid (And.intro k1 (And.intro hN (And.intro hq2 (And.intro e1 (And.intro (e2.trans H1.out.1) (And.intro (e3.trans H1.out.2.1) hc))))))
    clear hg k1 hN hq2 e1 e2 e3 hc k2 k3 hq1 hrs
    go_wp2
    go_ret2
    unfold GOpenPost
    refine ⟨?_, H2.out.2.1⟩
    rw [if_pos H2.out.2.2.2.2.2.2]
    exact ⟨q', H2.out.2.2.2.2.1, H2.out.2.2.2.2.2.1, by rw [H2.out.2.2.2.1]; rfl, H2.out.1, H2.out.2.2.1⟩
  · have hg : greset ⟨n, List.replicate n 0, []⟩ b = (4, ⟨n, List.replicate n 0, []⟩) := if_neg hc
    rw [hg] at ⊢
    have H2 := Lib.hid (And.intro hN hc)
    clear hg k1 hN hq2 e1 e2 e3 hc k2 k3 hq1 hrs
    go_wp2
    go_ret2
    unfold GOpenPost
    refine ⟨?_, H2.out.1⟩
    rw [if_neg H2.out.2]
    rfl
end
end Go.Proofs.YtfoegmjpfkmggaaGreatDoor

/- A life of a grid: the blocks that are there, those that were let go; what each step makes of them. Plain facts of this program. No condition. -/
namespace Go.Proofs.YtfoegmjpfkmggaaGreatDoor
open Go.RowKit
def ba (b : GBT) : Int := b.2.1.1
/-- How a block is: 0 free, 1 there, 2 let go. -/
def gst (L : List Nat) (a : Int) : Nat := L.getD (a - 1).toNat 0
structure Lif (n : Nat) (g : Grd) (d : Dsk) (L G : List GBT) : Prop where
  gn : g.n = n
  w0 : g.W = []
  n1 : 1 ≤ n
  n12 : n ≤ 12
  rm : Rm d n
  len : g.L.length = n
  set : SetOk g.L
  nd : ((L ++ G).map ba).Nodup
  ok : ∀ b ∈ L ++ G, GB.ok b = true
  le : ∀ b ∈ L ++ G, ba b ≤ (n : Int)
  blk : ∀ b ∈ L ++ G, gblk d (ba b) = GB.bytes b
  st1 : ∀ b ∈ L, gst g.L (ba b) = 1
  st2 : ∀ b ∈ G, gst g.L (ba b) = 2
  all : ∀ i, i < n → g.L.getD i 0 ≠ 0 → ∃ b ∈ L ++ G, ba b = (i : Int) + 1
theorem ba_pos {b : GBT} (h : GB.ok b = true) : 1 ≤ ba b := (refOk_spec (GB.ok_spec h).2.1).1
section
variable {n : Nat} {g : Grd} {d : Dsk} {L G : List GBT}
theorem Lif.pos (h : Lif n g d L G) {b : GBT} (hb : b ∈ L ++ G) : 1 ≤ ba b := ba_pos (h.ok b hb)
theorem Lif.inj (h : Lif n g d L G) {b c : GBT} (hb : b ∈ L ++ G) (hc : c ∈ L ++ G) (e : ba b = ba c) : b = c := by
  have hnd := h.nd
  generalize L ++ G = l at hb hc hnd
  induction l with
  | nil => cases hb
  | cons x l ih =>
    rw [List.map_cons, List.nodup_cons] at hnd
    rcases List.mem_cons.1 hb with e1 | hb2
    · rcases List.mem_cons.1 hc with e2 | hc2
      · exact e1.trans e2.symm
      · exact absurd (by rw [← e1, e]; exact List.mem_map_of_mem (f := ba) hc2) hnd.1
    · rcases List.mem_cons.1 hc with e2 | hc2
      · exact absurd (by rw [← e2, ← e]; exact List.mem_map_of_mem (f := ba) hb2) hnd.1
      · exact ih hb2 hc2 hnd.2
theorem Lif.new (h1 : 1 ≤ n) (h2 : n ≤ 12) : Lif n ⟨n, List.replicate n 0, []⟩ (Dsk.new (104 + 4 * n)) [] [] :=
  ⟨rfl, rfl, h1, h2, ⟨Dsk.Ok.new (by omega), rfl, Nat.le_refl _⟩, by simp, ⟨by simp; omega, fun k => by rw [List.getD_eq_getElem?_getD, List.getElem?_replicate]; split <;> simp⟩, List.nodup_nil,
    fun b hb => (by cases hb), fun b hb => (by cases hb), fun b hb => (by cases hb), fun b hb => (by cases hb), fun b hb => (by cases hb), fun i hi hne => absurd (by rw [List.getD_eq_getElem?_getD, List.getElem?_replicate]; split <;> rfl) hne⟩
theorem Lif.of (h : Lif n g d L G) {b : GBT} (hb : b ∈ L ++ G) : g.of b.2.1 = true := by
  have h1 := refOk_spec (GB.ok_spec (h.ok b hb)).2.1
  have h2 : b.2.1.1 ≤ (n : Int) := h.le b hb
  unfold Grd.of
  rw [h.gn]
  simp only [Bool.and_eq_true, decide_eq_true_eq]
  exact ⟨h1.1, h2, h1.2.2.1, h1.2.2.2⟩
theorem Lif.out (h : Lif n g d L G) : d.isOut none = false := by unfold Dsk.isOut; rw [h.rm.out]; rfl
/-- What is there is read as it was. -/
theorem Lif.read (h : Lif n g d L G) {b : GBT} (hb : b ∈ L ++ G) : glook g d none b.2.1 = (0, some b, g) := by
  have ht : gthere d b.2.1 = some b := gthere_some (h.ok b hb) (h.blk b hb)
  unfold glook
  rw [if_neg (by rw [h.out]; simp), if_neg (by rw [h.of hb]; simp), ht]
/-- Where blocks of a kind stand: as numbers. -/
theorem Lif.places (h : Lif n g d L G) {M : List GBT} (hM : ∀ b ∈ M, b ∈ L ++ G) (hnd : (M.map ba).Nodup) (p : Nat → Bool) (hp : ∀ b ∈ M, p (gst g.L (ba b)) = true)
    (ha : ∀ i, i < n → p (g.L.getD i 0) = true → ∃ b ∈ M, ba b = (i : Int) + 1) : ((List.range n).filter fun i => p (g.L.getD i 0)).length = M.length := by
  have e : (M.map fun b => (ba b - 1).toNat).Perm ((List.range n).filter fun i => p (g.L.getD i 0)) := by
    refine (List.perm_ext_iff_of_nodup ?_ (List.nodup_range.filter _)).2 fun a => ?_
    · rw [show (M.map fun b => (ba b - 1).toNat) = (M.map ba).map fun a => (a - 1).toNat by rw [List.map_map]; rfl]
      have hge : ∀ a ∈ M.map ba, 1 ≤ a := fun a ha => by
        obtain ⟨b, hb, rfl⟩ := List.mem_map.1 ha
        exact h.pos (hM b hb)
      generalize M.map ba = l at hnd hge
      induction l with
      | nil => exact List.nodup_nil
      | cons x l ih =>
        rw [List.nodup_cons] at hnd
        rw [List.map_cons, List.nodup_cons]
        refine ⟨fun hm => ?_, ih hnd.2 fun a ha => hge a (.tail _ ha)⟩
        obtain ⟨y, hy, e⟩ := List.mem_map.1 hm
        have h1 := hge x (.head _)
        have h2 := hge y (.tail _ hy)
        obtain rfl : y = x := by omega
        exact hnd.1 hy
    · rw [List.mem_filter, List.mem_range, List.mem_map]
      constructor
      · rintro ⟨b, hb, rfl⟩
        have h1 := h.pos (hM b hb)
        have h2 := h.le b (hM b hb)
        exact ⟨by omega, hp b hb⟩
      · rintro ⟨h1, h2⟩
        obtain ⟨b, hb, e⟩ := ha a h1 h2
        exact ⟨b, hb, by omega⟩
  rw [← e.length_eq, List.length_map]
theorem nodup_right {l m : List GBT} (h : ((l ++ m).map ba).Nodup) : (m.map ba).Nodup := by rw [List.map_append, List.nodup_append] at h; exact h.2.1
theorem Lif.gone (h : Lif n g d L G) : cnt g.L g.L.length = G.length := by
  rw [h.len]
  unfold cnt
  refine h.places (M := G) (fun b hb => List.mem_append_right _ hb) (nodup_right h.nd) (fun x => decide (1 < x)) (fun b hb => by rw [h.st2 b hb]; rfl) fun i hi hp => ?_
  have hp : 1 < g.L.getD i 0 := by simpa using hp
  obtain ⟨b, hb, e⟩ := h.all i hi (by omega)
  rcases List.mem_append.1 hb with hb1 | hb2
  · have := h.st1 b hb1
    unfold gst at this
    rw [show (ba b - 1).toNat = i by omega] at this; omega
  · exact ⟨b, hb2, e⟩
theorem Lif.count (h : Lif n g d L G) : ((List.range n).filter fun i => decide (g.L.getD i 0 ≠ 0)).length = L.length + G.length := by
  have := h.places (M := L ++ G) (fun b hb => hb) h.nd (fun x => decide (x ≠ 0)) (fun b hb => ?_) fun i hi hp => ?_
  · rw [this, List.length_append]
  · rcases List.mem_append.1 hb with hb | hb
    · rw [h.st1 b hb]; rfl
    · rw [h.st2 b hb]; rfl
  · exact h.all i hi (by simpa using hp)
/-- It is full just where that many blocks are there or let go. -/
theorem Lif.full (h : Lif n g d L G) : fr g.L < g.L.length ↔ L.length + G.length ≠ n := by
  rw [← h.count]
  constructor
  · intro hf hc
    have h1 : fr g.L ∈ List.range n := by rw [List.mem_range, ← h.len]; exact hf
    have h2 : ((List.range n).filter fun i => decide (g.L.getD i 0 ≠ 0)) = List.range n := List.filter_sublist.eq_of_length (by rw [hc, List.length_range])
    rw [← h2, List.mem_filter] at h1
    have h3 : g.L.getD (fr g.L) 0 = 0 := by
      have := List.findIdx_getElem (w := hf)
      rw [getD_lt hf]
      exact of_decide_eq_true this
    rw [h3] at h1
    exact absurd h1.2 (by decide)
  · intro hc
    refine Nat.lt_of_le_of_ne List.findIdx_le_length fun he => hc ?_
    have h2 : ((List.range n).filter fun i => decide (g.L.getD i 0 ≠ 0)) = List.range n := by
      rw [List.filter_eq_self]
      intro i hi
      rw [List.mem_range, ← h.len] at hi
      have := List.findIdx_eq_length.1 he (g.L[i]) (List.getElem_mem hi)
      rw [getD_lt hi]
      simpa using this
    rw [h2, List.length_range]
/-- Nothing is written where there is no room. -/
theorem Lif.write_full (h : Lif n g d L G) (hf : L.length + G.length = n) {k s : Int} {l : List RefT} {m : List UInt8} (hok : GB.ok (k, (1, s, ()), l, m, ()) = true) : gput g d none k l m s = ((8, (0, 0, ())), g, d, none) := by
  have hn : ¬ fr g.L < g.L.length := fun h1 => h.full.1 h1 hf
  have he : acqE g.L = 8 := if_neg hn
  unfold gput
  rw [if_neg (by rw [h.out]; simp), if_neg (by rw [hok]; simp), if_pos (by rw [he]; decide), he]
theorem gst_set {M : List Nat} {k v : Nat} {a : Int} (hk : k < M.length) (ha : 1 ≤ a) : gst (M.set k v) a = if a = (k : Int) + 1 then v else gst M a := by
  unfold gst
  rw [List.getD_eq_getElem?_getD, List.getElem?_set]
  by_cases h : a = (k : Int) + 1
  · rw [if_pos (by omega), if_pos hk, if_pos h]; rfl
  · rw [if_neg (by omega), if_neg h, List.getD_eq_getElem?_getD]
/-- A block is written. -/
theorem Lif.write (h : Lif n g d L G) (hf : L.length + G.length ≠ n) {k s : Int} {l : List RefT} {m : List UInt8} (hok : GB.ok (k, (1, s, ()), l, m, ()) = true) :
    ∃ a d', gput g d none k l m s = ((0, (a, s, ())), { g with L := acqL g.L }, d', none) ∧ d'.N = d.N ∧ (∀ b ∈ L ++ G, ba b ≠ a) ∧ Lif n { g with L := acqL g.L } d' (L ++ [(k, (a, s, ()), l, m, ())]) G := by
  have hlt := h.full.2 hf
  have hE : acqE g.L = 0 := if_pos hlt
  have hA : acqN g.L = (fr g.L : Int) + 1 := if_pos hlt
  have hL : acqL g.L = g.L.set (fr g.L) 1 := if_pos hlt
  have hlen := h.len
  have hn12 := h.n12
  obtain ⟨d', e1, e2, e3, e4, e5⟩ := gput_ok (g := g) (d := d) (k := k) (s := s) (l := l) (m := m) (by rw [h.gn]; exact h.rm) (by rw [h.gn]; exact h.len) h.set hok hE
  have hok2 : GB.ok (k, (acqN g.L, s, ()), l, m, ()) = true := GB.ok_at hok (by omega) (by omega)
  have h0 : g.L.getD (fr g.L) 0 = 0 := by
    have := List.findIdx_getElem (w := hlt)
    rw [getD_lt hlt]
    exact of_decide_eq_true this
  have hne : ∀ b ∈ L ++ G, ba b ≠ acqN g.L := fun b hb e => by
    have hs : gst g.L (ba b) ≠ 0 := by
      rcases List.mem_append.1 hb with hb | hb
      · rw [h.st1 b hb]; decide
      · rw [h.st2 b hb]; decide
    refine hs ?_
    unfold gst
    rw [show (ba b - 1).toNat = fr g.L by omega]; exact h0
  refine ⟨acqN g.L, d', e1, e3, hne, ?_⟩
  have hmem : ∀ b, b ∈ L ++ [(k, (acqN g.L, s, ()), l, m, ())] ++ G → b ∈ L ++ G ∨ b = (k, (acqN g.L, s, ()), l, m, ()) := fun b hb => by
    simp only [List.append_assoc, List.mem_append, List.mem_singleton] at hb ⊢
    rcases hb with hb | hb | hb
    · exact .inl (.inl hb)
    · exact .inr hb
    · exact .inl (.inr hb)
  have hst : ∀ b ∈ L ++ G, gst (acqL g.L) (ba b) = gst g.L (ba b) := fun b hb => by
    rw [hL, gst_set hlt (h.pos hb), if_neg (by rw [← hA]; exact hne b hb)]
  refine ⟨h.gn, h.w0, h.n1, h.n12, h.gn ▸ e2, by rw [acqL_length]; exact h.len, h.set.acq, ?_, fun b hb => ?_, fun b hb => ?_, fun b hb => ?_, fun b hb => ?_, fun b hb => ?_, fun i hi hi0 => ?_⟩
  · have hp : ((L ++ [(k, (acqN g.L, s, ()), l, m, ())] ++ G).map ba).Perm ((acqN g.L) :: (L ++ G).map ba) := by
      simp only [List.map_append, List.map_cons, List.append_assoc, List.cons_append, List.nil_append]
      exact List.perm_middle
    refine hp.symm.nodup ?_
    rw [List.nodup_cons]
    exact ⟨fun hm => by obtain ⟨b, hb, e⟩ := List.mem_map.1 hm; exact hne b hb e, h.nd⟩
  · rcases hmem b hb with hb | rfl
    · exact h.ok b hb
    · exact hok2
  · rcases hmem b hb with hb | rfl
    · exact h.le b hb
    · show acqN g.L ≤ (n : Int); omega
  · rcases hmem b hb with hb | rfl
    · rw [e5 (ba b) (h.pos hb) (by rw [h.gn]; exact h.le b hb) (hne b hb)]; exact h.blk b hb
    · exact e4
  · rcases List.mem_append.1 hb with hb | hb
    · show gst (acqL g.L) (ba b) = 1
      rw [hst b (List.mem_append_left _ hb)]; exact h.st1 b hb
    · rw [List.mem_singleton.1 hb]
      show gst (acqL g.L) (acqN g.L) = 1
      rw [hL, gst_set hlt (by omega), if_pos hA]
  · show gst (acqL g.L) (ba b) = 2
    rw [hst b (List.mem_append_right _ hb)]; exact h.st2 b hb
  · have hi0 : (acqL g.L).getD i 0 ≠ 0 := hi0
    by_cases hie : i = fr g.L
    · refine ⟨(k, (acqN g.L, s, ()), l, m, ()), by simp, ?_⟩
      show acqN g.L = _
      omega
    · rw [hL, List.getD_eq_getElem?_getD, List.getElem?_set_ne (fun e => hie e.symm), ← List.getD_eq_getElem?_getD] at hi0
      obtain ⟨b, hb, e⟩ := h.all i hi hi0
      refine ⟨b, ?_, e⟩
      simp only [List.append_assoc, List.mem_append] at hb ⊢
      rcases hb with hb | hb
      · exact .inl hb
      · exact .inr (.inr hb)
end
end Go.Proofs.YtfoegmjpfkmggaaGreatDoor

/- What is written as bytes is read as it was, plainly. Conditions: 1 to 512 blocks, each 0, 1 or 2. -/
namespace Go.Proofs.YtfoegmjpfkmggaaGreatDoor
open Go.RowKit
theorem q4_digit (f : Nat → Nat) (hf : ∀ i, f i ≤ 2) (j t : Nat) (ht : t < 4) : q4 f j / 4 ^ t % 4 = f (4 * j + t) := by
  have h0 := hf (4 * j); have h1 := hf (4 * j + 1); have h2 := hf (4 * j + 2); have h3 := hf (4 * j + 3)
  have : t = 0 ∨ t = 1 ∨ t = 2 ∨ t = 3 := by omega
  unfold q4
  rcases this with rfl | rfl | rfl | rfl
  · show _ = f (4 * j)
    rw [Nat.pow_zero, Nat.div_one]; omega
  · rw [Nat.pow_one]; omega
  · rw [show (4 : Nat) ^ 2 = 16 from rfl]; omega
  · rw [show (4 : Nat) ^ 3 = 64 from rfl]; omega
theorem enc_rdn (L : List Nat) (h : L.length ≤ 512) : rdn (enc L) = L.length := by
  unfold rdn
  have e0 : (enc L).getD 0 0 = UInt8.ofNat (L.length % 256) := rfl
  have e1 : (enc L).getD 1 0 = UInt8.ofNat (L.length / 256) := rfl
  rw [e0, e1, UInt8.toNat_ofNat_of_lt' (by show L.length % 256 < 256; omega), UInt8.toNat_ofNat_of_lt' (by show L.length / 256 < 256; omega)]
  omega
theorem enc_crumb (L : List Nat) (hf : ∀ i, L.getD i 0 ≤ 2) (i : Nat) (h : i < L.length) : crumb (enc L) i = L.getD i 0 := by
  unfold crumb
  have e : (enc L).getD (2 + i / 4) 0 = UInt8.ofNat (q4 (fun i => L.getD i 0) (i / 4)) := by
    unfold enc
    rw [List.getD_eq_getElem?_getD, encF_at _ _ _ (by omega)]; rfl
  have hq := q4_lt hf (i / 4)
  rw [e, UInt8.toNat_ofNat_of_lt' (by show q4 _ _ < 256; omega), q4_digit _ hf _ _ (by omega)]
  have : 4 * (i / 4) + i % 4 = i := by omega
  rw [this]
theorem rd_enc (L : List Nat) (h : SetOk L) (h0 : 0 < L.length) : rdOk (enc L) = true ∧ rd (enc L) = L := by
  have hr : rd (enc L) = L := by
    unfold rd
    rw [enc_rdn L h.len]
    apply List.ext_getElem
    · rw [rdF_length]
    · intro i h1 h2
      simp only [rdF, List.getElem_map, List.getElem_range]
      rw [enc_crumb L h.le i h2, List.getD_eq_getElem?_getD, List.getElem?_eq_getElem h2]; rfl
  refine ⟨(rdOk_iff _).2 ⟨(rdPre_iff _).2 ?_, (rdBig_iff _).2 ?_, by rw [hr]⟩, hr⟩
  · rw [enc_rdn L h.len, enc_length]
    exact ⟨by omega, h0, h.len, rfl⟩
  · intro i hi
    rw [enc_rdn L h.len] at hi
    rw [enc_crumb L h.le i hi]
    exact h.le i
end Go.Proofs.YtfoegmjpfkmggaaGreatDoor

/- A life of a grid: a block is let go, what was let go is settled, a flush, a crash, a turned byte. Plain facts of this program. No condition. -/
namespace Go.Proofs.YtfoegmjpfkmggaaGreatDoor
open Go.RowKit
theorem xor_ne {x m : UInt8} (hm : m ≠ 0) : x ^^^ m ≠ x := by
  intro h
  have h2 : x ^^^ m ^^^ x = x ^^^ x := by rw [h]
  rw [UInt8.xor_comm x m, UInt8.xor_assoc, UInt8.xor_self, UInt8.xor_zero] at h2
  exact hm h2
theorem flip_neq {b : List UInt8} {i : Nat} {m : UInt8} (hi : i < b.length) (hm : m ≠ 0) : flip b i m ≠ b := fun e => by
  have h := flip_at (b := b) m hi
  rw [e] at h
  exact xor_ne hm h.symm
theorem flip_zero (b : List UInt8) (i : Nat) : flip b i 0 = b := by
  unfold flip
  rw [UInt8.xor_zero]
  apply List.ext_getElem?
  intro j
  by_cases h : j = i
  · subst h
    by_cases hj : j < b.length
    · rw [List.getElem?_set_self hj, List.getD_eq_getElem?_getD, List.getElem?_eq_getElem hj]; rfl
    · rw [List.getElem?_eq_none (by rw [List.length_set]; omega), List.getElem?_eq_none (by omega)]
  · rw [List.getElem?_set_ne (fun e => h e.symm)]
theorem Rm.of_L {d d' : Dsk} {n : Nat} (h : Rm d n) (hok : d'.Ok) (hN : d'.N = d.N) (ho : d'.out = false) : Rm d' n := ⟨hok, ho, by rw [hN]; exact h.room⟩
section
variable {n : Nat} {g : Grd} {d : Dsk} {L G : List GBT}
/-- The same blocks in other lists. -/
theorem Lif.perm (h : Lif n g d L G) {g2 : Grd} {L2 G2 : List GBT} (hg : g2.n = g.n) (hw : g2.W = []) (hlen : g2.L.length = n) (hset : SetOk g2.L) (hp : (L2 ++ G2).Perm (L ++ G))
    (h1 : ∀ b ∈ L2, gst g2.L (ba b) = 1) (h2 : ∀ b ∈ G2, gst g2.L (ba b) = 2) (ha : ∀ i, i < n → g2.L.getD i 0 ≠ 0 → g.L.getD i 0 ≠ 0) : Lif n g2 d L2 G2 :=
  ⟨hg.trans h.gn, hw, h.n1, h.n12, h.rm, hlen, hset, (hp.map ba).symm.nodup h.nd, fun b hb => h.ok b (hp.mem_iff.1 hb), fun b hb => h.le b (hp.mem_iff.1 hb), fun b hb => h.blk b (hp.mem_iff.1 hb), h1, h2,
    fun i hi hne => by obtain ⟨b, hb, e⟩ := h.all i hi (ha i hi hne); exact ⟨b, hp.mem_iff.2 hb, e⟩⟩
/-- Another disk with the same blocks. -/
theorem Lif.disk (h : Lif n g d L G) {d2 : Dsk} (hr : Rm d2 n) (hb : ∀ a, 1 ≤ a → a ≤ (n : Int) → gblk d2 a = gblk d a) : Lif n g d2 L G :=
  ⟨h.gn, h.w0, h.n1, h.n12, hr, h.len, h.set, h.nd, h.ok, h.le, fun b hm => (hb _ (h.pos hm) (h.le b hm)).trans (h.blk b hm), h.st1, h.st2, h.all⟩
/-- A block is let go. -/
theorem Lif.release (h : Lif n g d L G) {i : Nat} {b : GBT} (hi : L[i]? = some b) : turnCode g.L (ba b) 1 = 0 ∧ Lif n { g with L := turnL g.L (ba b) 1 2 } d (L.take i ++ L.drop (i + 1)) (G ++ [b]) := by
  have hil : i < L.length := (List.getElem?_eq_some_iff.1 hi).1
  have hbe : L[i] = b := (List.getElem?_eq_some_iff.1 hi).2
  have hm : b ∈ L := hbe ▸ List.getElem_mem hil
  have hmm : b ∈ L ++ G := List.mem_append_left _ hm
  have h1 := h.pos hmm
  have h2 := h.le b hmm
  have h3 := h.st1 b hm
  have hlen := h.len
  unfold gst at h3
  have hsplit : L = L.take i ++ b :: L.drop (i + 1) := by rw [← hbe, List.getElem_cons_drop, List.take_append_drop]
  have hp : (L.take i ++ L.drop (i + 1) ++ (G ++ [b])).Perm (L ++ G) := by
    conv => rhs; rw [hsplit]
    rw [← List.append_assoc]
    refine List.perm_append_comm.trans ?_
    show (b :: (L.take i ++ L.drop (i + 1) ++ G)).Perm _
    rw [List.append_assoc, List.append_assoc]
    exact List.perm_middle.symm
  have hk : (ba b - 1).toNat < g.L.length := by omega
  have ht : turnL g.L (ba b) 1 2 = g.L.set (ba b - 1).toNat 2 := if_pos ⟨h1, by omega, h3⟩
  have hnd : ((L.take i ++ L.drop (i + 1) ++ (G ++ [b])).map ba).Nodup := (hp.map ba).symm.nodup h.nd
  have hdiff : ∀ c ∈ L.take i ++ L.drop (i + 1) ++ G, ba c ≠ ba b := fun c hc e => by
    rw [← List.append_assoc, List.map_append, List.nodup_append] at hnd
    exact hnd.2.2 (ba c) (List.mem_map_of_mem hc) (ba b) (by simp) e
  have hgs : ∀ c ∈ L.take i ++ L.drop (i + 1) ++ G, gst (g.L.set (ba b - 1).toNat 2) (ba c) = gst g.L (ba c) := fun c hc => by
    have hcm : c ∈ L ++ G := hp.mem_iff.1 (by rw [← List.append_assoc]; exact List.mem_append_left _ hc)
    rw [gst_set hk (h.pos hcm), if_neg]
    have := hdiff c hc
    omega
  refine ⟨?_, ?_⟩
  · unfold turnCode
    rw [if_pos ⟨h1, by omega⟩, if_pos h3]
  · refine h.perm rfl h.w0 (by show (turnL g.L (ba b) 1 2).length = n; rw [turnL_length]; exact h.len) (h.set.turn _ _ _ (by omega)) hp (fun c hc => ?_) (fun c hc => ?_) fun k hk2 hne => ?_
    · show gst (turnL g.L (ba b) 1 2) (ba c) = 1
      rw [ht, hgs c (List.mem_append_left _ hc)]
      refine h.st1 c ?_
      rcases List.mem_append.1 hc with hc | hc
      · exact List.mem_of_mem_take hc
      · exact List.mem_of_mem_drop hc
    · show gst (turnL g.L (ba b) 1 2) (ba c) = 2
      rw [ht]
      rcases List.mem_append.1 hc with hc | hc
      · rw [hgs c (List.mem_append_right _ hc)]; exact h.st2 c hc
      · rw [List.mem_singleton.1 hc, gst_set hk h1, if_pos (by omega)]
    · have hne : (turnL g.L (ba b) 1 2).getD k 0 ≠ 0 := hne
      rw [ht] at hne
      by_cases e : k = (ba b - 1).toNat
      · rw [e, h3]; decide
      · rw [List.getD_eq_getElem?_getD, List.getElem?_set_ne (fun x => e x.symm), ← List.getD_eq_getElem?_getD] at hne; exact hne
/-- What was let go is settled. -/
theorem Lif.settle (h : Lif n g d L G) : Lif n { g with L := setl g.L } d L [] := by
  have hs : ∀ a, gst (setl g.L) a = if gst g.L a = 2 then 0 else gst g.L a := fun a => setl_getD g.L _
  refine ⟨h.gn, h.w0, h.n1, h.n12, h.rm, by show (setl g.L).length = n; rw [setl_length]; exact h.len, h.set.setl, ?_, fun b hb => ?_, fun b hb => ?_, fun b hb => ?_, fun b hb => ?_, fun b hb => (by cases hb), fun i hi hne => ?_⟩
  · have hnd := h.nd
    rw [List.map_append, List.nodup_append] at hnd
    rw [List.append_nil]; exact hnd.1
  all_goals try rw [List.append_nil] at hb
  · exact h.ok b (List.mem_append_left _ hb)
  · exact h.le b (List.mem_append_left _ hb)
  · exact h.blk b (List.mem_append_left _ hb)
  · show gst (setl g.L) (ba b) = 1
    rw [hs, h.st1 b hb]; rfl
  · have hne : (setl g.L).getD i 0 ≠ 0 := hne
    rw [setl_getD] at hne
    by_cases h2 : g.L.getD i 0 = 2
    · rw [if_pos h2] at hne; exact absurd rfl hne
    · rw [if_neg h2] at hne
      obtain ⟨b, hb, e⟩ := h.all i hi hne
      rw [List.append_nil]
      rcases List.mem_append.1 hb with hb | hb
      · exact ⟨b, hb, e⟩
      · have := h.st2 b hb
        unfold gst at this
        rw [show (ba b - 1).toNat = i by omega] at this
        exact absurd this h2
/-- A flush; a crash behind it. -/
theorem Lif.flush (h : Lif n g d L G) : ∃ d2, d.flush none = (0, d2, none) ∧ d2.N = d.N ∧ Lif n g d2 L G ∧ (∀ k, d2.old k = none) := by
  refine ⟨d.tick.safe, ?_, rfl, h.disk (h.rm.of_L h.rm.ok.tick.safe rfl h.rm.out) fun a _ _ => rfl, fun k => rfl⟩
  unfold Dsk.flush chg
  rw [if_neg (by rw [h.out]; simp)]
theorem Lif.crash (h : Lif n g d L G) (ho : ∀ k, d.old k = none) (keeps : List Bool) (tear : Int) : (d.crash keeps tear).N = d.N ∧ Lif n g (d.crash keeps tear) L G := by
  have hl : d.loose = [] := by
    unfold Dsk.loose
    rw [List.filter_eq_nil_iff]
    intro k _
    rw [ho k]; simp
  have e : (d.crash keeps tear).L = d.L := by
    show crashL d.old keeps tear d.loose 0 0 d.L = d.L
    rw [hl]; rfl
  exact ⟨rfl, h.disk (h.rm.of_L (Dsk.crash_ok h.rm.ok) rfl rfl) fun a _ _ => by unfold gblk; rw [e]⟩
/-- The set's bytes, read again. -/
theorem Lif.free (h : Lif n g d L G) : rdOk (enc g.L) = true ∧ rd (enc g.L) = g.L ∧ (⟨n, rd (enc g.L), []⟩ : Grd) = g := by
  have h1 := h.n1
  have hlen := h.len
  obtain ⟨e1, e2⟩ := rd_enc g.L h.set (by omega)
  refine ⟨e1, e2, ?_⟩
  rw [e2]
  have hw := h.w0
  have hg := h.gn
  obtain ⟨a, b, c⟩ := g
  simp only at hw hg
  rw [hw, hg]
/-- A byte is turned, and the block is put there again as it was. -/
theorem Lif.turn (h : Lif n g d L G) {b : GBT} (hb : b ∈ L ++ G) {i : Nat} (hi : i < 1024) (m : UInt8) :
    ∃ d1, d.turn (gplace (ba b) + (i / 256 : Nat)) ((i % 256 : Nat) : Int) m = (0, d1) ∧ d1.N = d.N ∧ Rm d1 n ∧ gblk d1 (ba b) = flip (GB.bytes b) i m ∧
      (¬ ((GB.read (flip (GB.bytes b) i m)).1 = 0 ∧ flip (GB.bytes b) i m ≠ GB.bytes b) → ∃ c o g1 d2, glook g d1 none b.2.1 = (c, o, g1) ∧ c = (if m = 0 then 0 else 13) ∧ g1.W.length ≤ 1 ∧ g1.n = n ∧
        ginst g1 d1 none b.2.1 (GB.bytes b) = (0, g, d2, none) ∧ d2.N = d.N ∧ Lif n g d2 L G) := by
  have h1 := h.pos hb
  have h2 := h.le b hb
  have hok := h.ok b hb
  have hlen : (GB.bytes b).length = 1024 := GB.bytes_length b (GB.ok_spec hok).2.2.1 (GB.ok_spec hok).2.2.2.1
  obtain ⟨d1, t1, t2, t3, t4, t5⟩ := gturn h.rm h1 h2 hi m
  rw [h.blk b hb] at t4
  refine ⟨d1, t1, t3, t2, t4, fun hno => ?_⟩
  have hof := h.of hb
  obtain ⟨d2, e1, e2, e3, e4, e5⟩ := gwrite t2 h1 h2 (b := GB.bytes b) hlen
  have hk2 : Lif n g d2 L G := h.disk e2 fun a k1 k2 => by
    by_cases ha : a = ba b
    · rw [ha, e4, h.blk b hb]
    · rw [e5 a k1 k2 ha, t5 a k1 k2 ha]
  have hout : d1.isOut none = false := by unfold Dsk.isOut; rw [t2.out]; rfl
  have hin : ∀ g1 : Grd, g1.of b.2.1 = true → g1.W.erase b.2.1 = g.W → g1.n = g.n → g1.L = g.L → ginst g1 d1 none b.2.1 (GB.bytes b) = (0, g, d2, none) := fun g1 k1 k2 k3 k4 => by
    unfold ginst
    rw [if_neg (by rw [hout]; simp), if_neg (by rw [k1]; simp), GB.read_bytes b hok, if_neg (by simp), if_neg (by simp), show gplace b.2.1.1 = gplace (ba b) from rfl, e1, if_neg (by simp)]
    obtain ⟨x1, x2, x3⟩ := g1
    simp only at k2 k3 k4
    simp only [k2, k3, k4]
  by_cases hm : m = 0
  · subst hm
    rw [flip_zero] at t4
    have ht : gthere d1 b.2.1 = some b := gthere_some hok t4
    refine ⟨0, some b, g, d2, ?_, (if_pos rfl).symm, by rw [h.w0]; simp, h.gn, hin g hof (by rw [h.w0]; rfl) rfl rfl, e3.trans t3, hk2⟩
    unfold glook
    rw [if_neg (by rw [hout]; simp), if_neg (by rw [hof]; simp), ht]
  · have hne := flip_neq (b := GB.bytes b) (i := i) (m := m) (by rw [hlen]; exact hi) hm
    have hbad : (GB.read (gblk d1 b.2.1.1)).1 ≠ 0 := fun e => hno ⟨by rw [← t4]; exact e, hne⟩
    have hgw : g.want b.2.1 = { g with W := [b.2.1] } := by unfold Grd.want; rw [h.w0, if_neg List.not_mem_nil]; rfl
    refine ⟨13, none, g.want b.2.1, d2, ?_, (if_neg hm).symm, by rw [hgw]; simp, by rw [hgw]; exact h.gn, hin _ (by rw [hgw]; exact hof) (by rw [hgw, h.w0]; simp) (by rw [hgw]) (by rw [hgw]), e3.trans t3, hk2⟩
    unfold glook
    rw [if_neg (by rw [hout]; simp), if_neg (by rw [hof]; simp), gthere_bad hbad]
end
end Go.Proofs.YtfoegmjpfkmggaaGreatDoor

/- A grid that a statement made, and the statement's own blocks beside it. Conditions: as each says. -/
namespace Go.Proofs.YtfoegmjpfkmggaaGreatDoor
open Go.RowKit
/-- Some blocks are as they were. -/
structure Same (Y : List Nat) (w w' : World) : Prop where
  size : w.heap.size ≤ w'.heap.size
  block : ∀ y ∈ Y, w'.heap[y]? = w.heap[y]?
/-- What was there ahead of B is as it was, and so are the statement's own blocks. -/
structure GStep (B : Nat) (Y : List Nat) (w w' : World) : Prop where
  bel : Below B w w'
  same : Same Y w w'
section
variable {B : Nat} {Y Y' : List Nat} {w w' w'' : World}
theorem Same.trans (h : Same Y w w') (k : Same Y w' w'') : Same Y w w'' := ⟨Nat.le_trans h.size k.size, fun y hy => (k.block y hy).trans (h.block y hy)⟩
theorem Same.sub (h : Same Y w w') (hs : ∀ y ∈ Y', y ∈ Y) : Same Y' w w' := ⟨h.size, fun y hy => h.block y (hs y hy)⟩
theorem Same.below (k : Below w.heap.size w w') (hY : ∀ y ∈ Y, y < w.heap.size) : Same Y w w' := ⟨k.size, fun y hy => k.block y (hY y hy)⟩
theorem Same.near {X : List Nat} (k : Near X w w') (hY : ∀ y ∈ Y, y < w.heap.size ∧ y ∉ X) : Same Y w w' := ⟨k.size, fun y hy => k.block y (hY y hy).1 (hY y hy).2⟩
theorem Same.blk {y : Nat} {t : TypeId} {cs : Array Value} (h : Same Y w w') (hb : Blk w y t cs) (hy : y ∈ Y) : Blk w' y t cs := (h.block y hy).trans hb
theorem Same.cell (h : Same Y w w') {p : Addr} (hp : p.block ∈ Y) : w'.cell? p = w.cell? p := by unfold World.cell?; rw [h.block _ hp]
theorem Same.bytes {A : Option Addr} {l : List UInt8} (h : Same Y w w') (hb : Bytes w A l) (hA : ∀ ad, A = some ad → ad.block ∈ Y) : Bytes w' A l := fun hne => by
  obtain ⟨b, off, e, hc⟩ := hb hne
  exact ⟨b, off, e, fun j v hv => (h.cell (p := ⟨b, off + j, none⟩) (hA ⟨b, off, none⟩ e)).trans (hc j v hv)⟩
theorem Same.refs {A : Option Addr} {l : List RefT} (h : Same Y w w') (hb : Refs w A l) (hA : ∀ ad, A = some ad → ad.block ∈ Y) : Refs w' A l := fun hp => by
  obtain ⟨b, off, e, hlt, hc⟩ := hb hp
  have hm : b ∈ Y := hA _ e
  exact ⟨b, off, e, Nat.lt_of_lt_of_le hlt h.size, fun i hi => ⟨(h.cell (p := ⟨b, off + i * 2, none⟩) hm).trans (hc i hi).1, (h.cell (p := ⟨b, off + i * 2 + 1, none⟩) hm).trans (hc i hi).2⟩⟩
theorem GStep.trans (h : GStep B Y w w') (k : GStep B Y w' w'') : GStep B Y w w'' := ⟨h.bel.trans k.bel, h.same.trans k.same⟩
theorem GStep.sub (h : GStep B Y w w') (hs : ∀ y ∈ Y', y ∈ Y) : GStep B Y' w w' := ⟨h.bel, h.same.sub hs⟩
theorem GStep.below (k : Below w.heap.size w w') (hs : B ≤ w.heap.size) (hY : ∀ y ∈ Y, y < w.heap.size) : GStep B Y w w' := ⟨k.mono hs, Same.below k hY⟩
end
/-- The grid, its disk, and what is none of theirs. -/
def GX (B : Nat) (Y : List Nat) (w : World) (gp dp : Nat) (g : Grd) (d : Dsk) : Prop :=
  ∃ q : GPl, q.gg = gp ∧ q.p.gd = dp ∧ q.gf = none ∧ GridR w q g d none ∧ (∀ x ∈ q.all, B ≤ x ∧ x ∉ Y) ∧ (∀ y ∈ Y, y < w.heap.size) ∧ B ≤ w.heap.size
section
variable {B gp dp : Nat} {Y Y' : List Nat} {w w' : World} {g g2 : Grd} {d d2 : Dsk}
theorem GX.of_GL (h : GL B w gp dp g d) (hs : B ≤ w.heap.size) : GX B [] w gp dp g d := by
  obtain ⟨q, h1, h2, h3, h4, h5⟩ := h
  exact ⟨q, h1, h2, h3, h4, fun x hx => ⟨h5 x hx, List.not_mem_nil⟩, fun y hy => absurd hy List.not_mem_nil, hs⟩
theorem GX.gl (h : GX B Y w gp dp g d) : GL B w gp dp g d := by
  obtain ⟨q, h1, h2, h3, h4, h5, h6, h7⟩ := h
  exact ⟨q, h1, h2, h3, h4, fun x hx => (h5 x hx).1⟩
theorem GX.size (h : GX B Y w gp dp g d) : B ≤ w.heap.size := by obtain ⟨q, h1, h2, h3, h4, h5, h6, h7⟩ := h; exact h7
theorem GX.own (h : GX B Y w gp dp g d) : ∀ y ∈ Y, y < w.heap.size := by obtain ⟨q, h1, h2, h3, h4, h5, h6, h7⟩ := h; exact h6
theorem GX.ok (h : GX B Y w gp dp g d) : g.Ok d := by obtain ⟨q, h1, h2, h3, h4, h5, h6, h7⟩ := h; exact h4.ok
theorem GX.below (h : GX B Y w gp dp g d) (k : Below w.heap.size w w') : GX B Y w' gp dp g d ∧ GStep B Y w w' := by
  obtain ⟨q, h1, h2, h3, h4, h5, h6, h7⟩ := h
  exact ⟨⟨q, h1, h2, h3, h4.below k, h5, fun y hy => Nat.lt_of_lt_of_le (h6 y hy) k.size, Nat.le_trans h7 k.size⟩, GStep.below k h7 h6⟩
theorem GX.sub (h : GX B Y w gp dp g d) (hs : ∀ y ∈ Y', y ∈ Y) : GX B Y' w gp dp g d := by
  obtain ⟨q, h1, h2, h3, h4, h5, h6, h7⟩ := h
  exact ⟨q, h1, h2, h3, h4, fun x hx => ⟨(h5 x hx).1, fun hm => (h5 x hx).2 (hs x hm)⟩, fun y hy => h6 y (hs y hy), h7⟩
/-- A block of the statement's own that came since. -/
theorem GX.add (h : GX B Y w gp dp g d) (k : Below w.heap.size w w') {y : Nat} (hy : w.heap.size ≤ y) (hy2 : y < w'.heap.size) : GX B (y :: Y) w' gp dp g d := by
  obtain ⟨q, h1, h2, h3, h4, h5, h6, h7⟩ := h
  refine ⟨q, h1, h2, h3, h4.below k, fun x hx => ⟨(h5 x hx).1, fun hm => ?_⟩, fun z hz => ?_, Nat.le_trans h7 k.size⟩
  · rcases List.mem_cons.1 hm with e | e
    · have := h4.lt x hx; omega
    · exact (h5 x hx).2 e
  · rcases List.mem_cons.1 hz with e | e
    · omega
    · exact Nat.lt_of_lt_of_le (h6 z e) k.size
/-- The statement writes blocks of its own. -/
theorem GX.wrote (h : GX B Y w gp dp g d) {X : List Nat} (k : Near X w w') (hX : ∀ x ∈ X, x ∈ Y) : GX B Y w' gp dp g d := by
  obtain ⟨q, h1, h2, h3, h4, h5, h6, h7⟩ := h
  exact ⟨q, h1, h2, h3, h4.near k (fun x hx hm => (h5 x hx).2 (hX x hm)), h5, fun y hy => Nat.lt_of_lt_of_le (h6 y hy) k.size, Nat.le_trans h7 k.size⟩
theorem GX.of_post {q : GPl} {f : Option Fus} (h1 : q.gg = gp) (h2 : q.p.gd = dp) (h3 : q.gf = none) (h5 : ∀ x ∈ q.all, B ≤ x ∧ x ∉ Y) (h6 : ∀ y ∈ Y, y < w.heap.size) (h7 : B ≤ w.heap.size) (h : GPost w q g2 d2 f w') : GX B Y w' gp dp g2 d2 ∧ GStep B Y w w' := by
  obtain ⟨q', k1, k2, k3, k4, k5, k6⟩ := h
  have hf : f = none := by
    have := k4.dk.fr
    rw [k3, h3] at this
    exact this.none_
  subst hf
  refine ⟨⟨q', k1.trans h1, (congrArg Pl.gd k2).trans h2, k3.trans h3, k4, fun x hx => ?_, fun y hy => Nat.lt_of_lt_of_le (h6 y hy) k5.size, Nat.le_trans h7 k5.size⟩, k5.toBelow (fun x hx => (h5 x hx).1) h7, Same.near k5 fun y hy => ⟨h6 y hy, fun hm => (h5 y hm).2 hy⟩⟩
  rcases k6 x hx with e | e
  · exact h5 x e
  · exact ⟨Nat.le_trans h7 e, fun hm => by have := h6 x hm; omega⟩
/-- A ref is looked for, and found. -/
theorem xraw_some (h : GX B Y w gp dp g d) (hl : g.W.length ≤ 1000000000) (r : RefT) {b : GBT} (hg : glook g d none r = (0, some b, g)) :
    Calls Tryz.prog 54 #[.pointer (some ⟨gp, 0, none⟩), .agg #[.int .i64 r.1, .int .i64 r.2.1]] w fun e w' => ∃ y, e = .returned (.tuple #[.slice (some ⟨y, 0, none⟩) (gblk d r.1).length (gblk d r.1).length, .int .i64 0]) ∧
      Blk w' y 5 ((gblk d r.1).map u8v).toArray ∧ w.heap.size ≤ y ∧ GX B (y :: Y) w' gp dp g d ∧ GStep B Y w w' := by
  have h0 := h
  obtain ⟨q, h1, h2, h3, h4, h5, h6, h7⟩ := h
  have hr := graw_any h4 (by omega) r
  rw [hg, h1] at hr
  refine hr.mono ?_
  rintro e w' ⟨v2, rfl, ⟨v1, A, c, C0, e1, C, -, rfl, -, -, -, -, -, hC, -, -⟩, hP⟩
  obtain ⟨y, rfl, hy, hb⟩ := hC rfl
  have hbx := hP.2 rfl
  exact ⟨y, rfl, hb, hy, h0.add hbx hy hb.lt, (h0.below hbx).2⟩
/-- A ref is looked for. -/
theorem xread (h : GX B Y w gp dp g d) (hl : g.W.length ≤ 1000000000) (r : RefT) {c : Int} {o : Option GBT} (hg : glook g d none r = (c, o, g2)) :
    Calls Tryz.prog 52 #[.pointer (some ⟨gp, 0, none⟩), .agg #[.int .i64 r.1, .int .i64 r.2.1]] w fun e w' => ∃ v1, e = .returned (.tuple #[v1, .int .i64 c]) ∧ (∃ v2, GBTold o (gblk d r.1) w v1 v2 w') ∧ GX B Y w' gp dp g2 d ∧ GStep B Y w w' := by
  obtain ⟨q, h1, h2, h3, h4, h5, h6, h7⟩ := h
  have hr := gread_any h4 (by omega) r
  rw [hg, h1] at hr
  refine hr.mono ?_
  rintro e w' ⟨v1, rfl, hT, hP⟩
  exact ⟨v1, rfl, hT, GX.of_post h1 h2 h3 h5 h6 h7 hP.1⟩
theorem xrelease (h : GX B Y w gp dp g d) (r : RefT) (hb1 : -9223372036854775808 ≤ r.1) (hb2 : r.1 ≤ 9223372036854775807) :
    Calls Tryz.prog 59 #[.pointer (some ⟨gp, 0, none⟩), .agg #[.int .i64 r.1, .int .i64 r.2.1]] w fun e w' => e = .returned (.int .i64 (turnCode g.L r.1 1)) ∧ GX B Y w' gp dp { g with L := turnL g.L r.1 1 2 } d ∧ GStep B Y w w' := by
  obtain ⟨q, h1, h2, h3, h4, h5, h6, h7⟩ := h
  have hr := grelease_any h4 r hb1 hb2
  rw [h1] at hr
  refine hr.mono ?_
  rintro e w' ⟨rfl, hP⟩
  exact ⟨rfl, GX.of_post h1 h2 h3 h5 h6 h7 hP⟩
theorem xsettle (h : GX B Y w gp dp g d) :
    Calls Tryz.prog 61 #[.pointer (some ⟨gp, 0, none⟩)] w fun e w' => e = .returned (.int .i64 (cnt g.L g.L.length : Nat)) ∧ GX B Y w' gp dp { g with L := setl g.L } d ∧ GStep B Y w w' := by
  obtain ⟨q, h1, h2, h3, h4, h5, h6, h7⟩ := h
  have hr := gsettle_any h4
  rw [h1] at hr
  refine hr.mono ?_
  rintro e w' ⟨rfl, hP⟩
  exact ⟨rfl, GX.of_post h1 h2 h3 h5 h6 h7 hP⟩
theorem xwanted (h : GX B Y w gp dp g d) (hl : g.W.length ≤ 1000000000) :
    Calls Tryz.prog 58 #[.pointer (some ⟨gp, 0, none⟩)] w (RefsTold g.W w) := by
  obtain ⟨q, h1, h2, h3, h4, h5, h6, h7⟩ := h
  have hr := gwanted_any h4 (by omega)
  rw [h1] at hr
  exact hr
/-- A byte of the disk is turned. -/
theorem xturn (h : GX B Y w gp dp g d) (s a : Int) (m : UInt8) {c0 : Int} (hg : d.turn s a m = (c0, d2)) (hN : d2.N = d.N) :
    Calls Tryz.prog 12 #[.pointer (some ⟨dp, 0, none⟩), .int .i64 s, .int .i64 a, .int .u8 (iu8 m)] w fun e w' => e = .returned (.int .i64 c0) ∧ GX B Y w' gp dp g d2 ∧ GStep B Y w w' := by
  obtain ⟨q, h1, h2, h3, h4, h5, h6, h7⟩ := h
  have hr := turn_all s a m h4.dk.dr h4.dk.ok
  have hok := Dsk.turn_ok (s := s) (a := a) (m := m) h4.dk.ok
  rw [hg] at hok
  rw [hg, h2] at hr
  refine hr.mono ?_
  rintro e w' ⟨rfl, hd, hN2⟩
  have hlow : Near (q.p.all q.gf) w w' := hN2.wider (fun x hx => by rw [List.mem_singleton.1 hx]; simp [Pl.all])
  have hfr := h4.dk.fr.near hN2 (fun x hx => by rw [h3] at hx; cases hx)
  exact ⟨rfl, GX.of_post h1 h2 h3 h5 h6 h7 (f := none) ⟨q, rfl, rfl, rfl, h4.wrote ⟨hd, hfr, hok⟩ hlow hN, hlow.wider (fun x hx => GPl.mem.2 (.inr (.inr (.inr (.inr hx))))), fun x hx => .inl hx⟩⟩
end
end Go.Proofs.YtfoegmjpfkmggaaGreatDoor

/- A grid that a statement made: blocks of types that neither a grid nor its disk has stay as they are, whatever is called. Plain facts of this program. No condition. -/
namespace Go.Proofs.YtfoegmjpfkmggaaGreatDoor
open Go.RowKit
section
variable {w : World} {q : GPl} {g : Grd} {d : Dsk} {f : Option Fus}
theorem GridR.offT {x : Nat} {t : TypeId} {cs : Array Value} (h : GridR w q g d f) (hb : Blk w x t cs) (ht : t ≠ 166 ∧ t ≠ 220 ∧ t ≠ 113 ∧ t ≠ 100 ∧ t ≠ 102 ∧ t ≠ 179) : x ∉ q.all := by
  obtain ⟨wv, sp, h1, h2, h3⟩ := h.wn
  obtain ⟨es, c, hm, -⟩ := h.mp
  intro hx
  rcases GPl.mem.1 hx with e | e | e | e | e
  · exact hb.apart h2 ht.1 e
  · exact hb.apart h.st ht.2.1 e
  · exact hb.offMap hm e
  · obtain ⟨cs', hb'⟩ := ownBlk h3 (h1.trans e)
    exact hb.apart hb' ht.2.2.1 rfl
  · exact h.dk.off hb ht.2.2.2.1 ht.2.2.2.2.1 ht.2.2.2.2.2 e
theorem GPost.blk {w' : World} {q : GPl} {g0 g1 : Grd} {d0 d1 : Dsk} {f0 f1 : Option Fus} {x : Nat} {t : TypeId} {cs : Array Value} (hp : GPost w q g1 d1 f1 w') (h : GridR w q g0 d0 f0) (hb : Blk w x t cs) (ht : t ≠ 166 ∧ t ≠ 220 ∧ t ≠ 113 ∧ t ≠ 100 ∧ t ≠ 102 ∧ t ≠ 179) : Blk w' x t cs := by
  obtain ⟨q', e1, e2, e3, h1, h2, h3⟩ := hp
  exact hb.near h2 (h.offT hb ht)
end
/-- No block of a grid or of its disk is of this type. -/
def NG (t : TypeId) : Prop := t ≠ 166 ∧ t ≠ 220 ∧ t ≠ 113 ∧ t ≠ 100 ∧ t ≠ 102 ∧ t ≠ 179
/-- Blocks of a grid and of its disk alone may have been written. -/
def Soft (w w' : World) : Prop := ∃ X : List Nat, Near X w w' ∧ ∀ x ∈ X, ∀ t cs, Blk w x t cs → ¬ NG t
section
variable {w w' w'' : World} {q : GPl} {g g1 : Grd} {d d1 : Dsk} {f f1 : Option Fus}
theorem Soft.refl (w : World) : Soft w w := ⟨[], Near.refl _ _, fun _ hx => absurd hx List.not_mem_nil⟩
theorem Soft.below (k : Below w.heap.size w w') : Soft w w' := ⟨[], Near.below k, fun _ hx => absurd hx List.not_mem_nil⟩
theorem Soft.blk {x : Nat} {t : TypeId} {cs : Array Value} (h : Soft w w') (hb : Blk w x t cs) (ht : NG t) : Blk w' x t cs := by
  obtain ⟨X, k, hX⟩ := h
  exact hb.near k (fun hm => hX _ hm _ _ hb ht)
theorem Soft.cell {x i : Nat} {t : TypeId} {cs : Array Value} {v : Value} (h : Soft w w') (hb : Blk w x t cs) (ht : NG t) (hv : cs[i]? = some v) : w'.cell? ⟨x, i, none⟩ = some v := (h.blk hb ht).at_ i hv
theorem Soft.drew (h : Soft w w') : Soft w w'.drew := by
  obtain ⟨X, k, hX⟩ := h
  exact ⟨X, k.drew, hX⟩
theorem Soft.new {x : Nat} (h : Soft w w') (u : Upd x w' w'') (hx : w.heap.size ≤ x) : Soft w w'' := by
  obtain ⟨X, k, hX⟩ := h
  exact ⟨X, k.new u hx, hX⟩
theorem Soft.trans (h : Soft w w') (k : Soft w' w'') : Soft w w'' := by
  obtain ⟨X, h1, h2⟩ := h
  obtain ⟨Y, k1, k2⟩ := k
  refine ⟨X ++ Y, (h1.wider fun x hx => List.mem_append.2 (.inl hx)).trans (k1.wider fun x hx => List.mem_append.2 (.inr hx)), fun x hx t cs hb => ?_⟩
  by_cases hX : x ∈ X
  · exact h2 x hX t cs hb
  · rcases List.mem_append.1 hx with e | e
    · exact absurd e hX
    · exact k2 x e t cs (hb.near h1 hX)
theorem Soft.size (h : Soft w w') : w.heap.size ≤ w'.heap.size := by
  obtain ⟨X, k, -⟩ := h
  exact k.size
theorem Soft.post (h : GridR w q g d f) (hp : GPost w q g1 d1 f1 w') : Soft w w' := by
  obtain ⟨q', -, -, -, -, hN, -⟩ := hp
  exact ⟨q.all, hN, fun x hx t cs hb ht => h.offT hb ht hx⟩
end
/-- A step of a statement about tables. -/
structure TS (B : Nat) (Y : List Nat) (w w' : World) : Prop where
  st : GStep B Y w w'
  so : Soft w w'
section
variable {B gp dp : Nat} {Y Y' : List Nat} {w w' w'' : World} {g g2 : Grd} {d d2 : Dsk}
theorem TS.trans (h : TS B Y w w') (k : TS B Y w' w'') : TS B Y w w'' := ⟨h.st.trans k.st, h.so.trans k.so⟩
theorem TS.sub (h : TS B Y w w') (hs : ∀ y ∈ Y', y ∈ Y) : TS B Y' w w' := ⟨h.st.sub hs, h.so⟩
theorem TS.below (k : Below w.heap.size w w') (hs : B ≤ w.heap.size) (hY : ∀ y ∈ Y, y < w.heap.size) : TS B Y w w' := ⟨GStep.below k hs hY, Soft.below k⟩
theorem TS.new {x : Nat} (h : TS B Y w w') (u : Upd x w' w'') (hx : w.heap.size ≤ x) (hs : B ≤ w.heap.size) (hY : ∀ y ∈ Y, y < w.heap.size) : TS B Y w w'' :=
  ⟨⟨h.st.bel.upd u (Nat.le_trans hs hx), ⟨by rw [u.size]; exact h.st.same.size, fun y hy => (u.block y (by have := hY y hy; omega)).trans (h.st.same.block y hy)⟩⟩, h.so.new u hx⟩
theorem TS.bel (h : TS B Y w w') : Below B w w' := h.st.bel
theorem GX.belowT (h : GX B Y w gp dp g d) (k : Below w.heap.size w w') : GX B Y w' gp dp g d ∧ TS B Y w w' := ⟨(h.below k).1, (h.below k).2, Soft.below k⟩
theorem GX.postT {q : GPl} {f : Option Fus} {g1 : Grd} {d1 : Dsk} {f1 : Option Fus} (h0 : GridR w q g1 d1 f1) (h1 : q.gg = gp) (h2 : q.p.gd = dp) (h3 : q.gf = none) (h5 : ∀ x ∈ q.all, B ≤ x ∧ x ∉ Y) (h6 : ∀ y ∈ Y, y < w.heap.size) (h7 : B ≤ w.heap.size) (h : GPost w q g2 d2 f w') : GX B Y w' gp dp g2 d2 ∧ TS B Y w w' :=
  ⟨(GX.of_post h1 h2 h3 h5 h6 h7 h).1, (GX.of_post h1 h2 h3 h5 h6 h7 h).2, Soft.post h0 h⟩
theorem GX.nearT {X : List Nat} (h : GX B Y w gp dp g d) (k : Near X w w') (hX : ∀ x ∈ X, ∃ t cs, Blk w x t cs ∧ NG t) : GX B Y w' gp dp g d := by
  obtain ⟨q, h1, h2, h3, h4, h5, h6, h7⟩ := h
  refine ⟨q, h1, h2, h3, h4.near k (fun x hx hm => ?_), h5, fun y hy => Nat.lt_of_lt_of_le (h6 y hy) k.size, Nat.le_trans h7 k.size⟩
  obtain ⟨t, cs, hb, ht⟩ := hX x hm
  exact h4.offT hb ht hx
theorem OwnsC.soft {e : TypeId} {size base n : Nat} {v : Value} {xs sp : List Value} (h : OwnsC e size w base v n xs sp) (k : Soft w w') (ht : NG e) : OwnsC e size w' base v n xs sp := by
  rcases h with h | ⟨b, cap, rfl, hb, hgg, rest⟩
  · exact .inl h
  · exact .inr ⟨b, cap, rfl, hb, k.blk hgg ht, rest⟩
/-- A byte of the disk is turned. -/
theorem xtturn (h : GX B Y w gp dp g d) (s a : Int) (m : UInt8) {c0 : Int} (hg : d.turn s a m = (c0, d2)) (hN : d2.N = d.N) :
    Calls Tryz.prog 12 #[.pointer (some ⟨dp, 0, none⟩), .int .i64 s, .int .i64 a, .int .u8 (iu8 m)] w fun e w' => e = .returned (.int .i64 c0) ∧ GX B Y w' gp dp g d2 ∧ TS B Y w w' := by
  obtain ⟨q, h1, h2, h3, h4, h5, h6, h7⟩ := h
  have hr := turn_all s a m h4.dk.dr h4.dk.ok
  have hok := Dsk.turn_ok (s := s) (a := a) (m := m) h4.dk.ok
  rw [hg] at hok
  rw [hg, h2] at hr
  refine hr.mono ?_
  rintro e w' ⟨rfl, hd, hN2⟩
  have hlow : Near (q.p.all q.gf) w w' := hN2.wider (fun x hx => by rw [List.mem_singleton.1 hx]; simp [Pl.all])
  have hfr := h4.dk.fr.near hN2 (fun x hx => by rw [h3] at hx; cases hx)
  exact ⟨rfl, GX.postT h4 h1 h2 h3 h5 h6 h7 (f := none) ⟨q, rfl, rfl, rfl, h4.wrote ⟨hd, hfr, hok⟩ hlow hN, hlow.wider (fun x hx => GPl.mem.2 (.inr (.inr (.inr (.inr hx))))), fun x hx => .inl hx⟩⟩
end
end Go.Proofs.YtfoegmjpfkmggaaGreatDoor
