/- The document's set of blocks, read from bytes. Condition: the bytes can be read. -/
import Derived.Test.YtkjcidbhepminaaDoorRefS3
import Derived.Test.YtkjcidbhepminaaDoorSetR
namespace Go.Proofs.YtkjcidbhepminaaDoor
open Go.RowKit
/-- What reading answers. -/
def RReadSet (b : List UInt8) (w : World) (e : Ending) (w' : World) : Prop :=
  if rdOk b = true then ∃ r q, w.heap.size ≤ r ∧ w.heap.size ≤ q ∧ e = .returned (.tuple #[.pointer (some ⟨r, 0, none⟩), .int .i64 0]) ∧ RefAt w' r q (rd b) ∧ Below w.heap.size w w'
  else e = .returned (.tuple #[.pointer none, .int .i64 4]) ∧ Below w.heap.size w w'
theorem RReadSet.no {b : List UInt8} {w w' : World} (h : rdOk b = false) (hB : Below w.heap.size w w') : RReadSet b w (.returned (.tuple #[.pointer none, .int .i64 4])) w' := by
  unfold RReadSet; rw [if_neg (by rw [h]; simp)]; exact ⟨rfl, hB⟩
theorem crumb_r (b : List UInt8) (k j r : Nat) (hj : j = k / 4) (hr : r = k % 4) : iu8 (b.getD (2 + j) 0) / 2 ^ (2 * r) % 4 = (crumb b k : Nat) := by
  subst hj hr
  unfold crumb
  have e : iu8 (b.getD (2 + k / 4) 0) / 2 ^ (2 * (k % 4)) = (((b.getD (2 + k / 4) 0).toNat / 4 ^ (k % 4) : Nat) : Int) := by
    unfold iu8
    rw [show (4 : Nat) = 2 ^ 2 from rfl, ← Nat.pow_mul]; simp
  rw [e]; omega
def RRd (b : List UInt8) (r q n : Nat) (w1 : World) (v : Value) (wr : World) : Prop :=
  ∃ k : Nat, k ≤ n ∧ v = .int .i64 (k : Int) ∧ (∀ i, i < k → crumb b i ≤ 2) ∧ RefAt wr r q (rdF n (cutAt (crumb b) k)) ∧ Upd q w1 wr
set_option maxRecDepth 100000 in
set_option maxHeartbeats 2000000 in
theorem rread_any (A : Option Addr) (c : Nat) (b : List UInt8) (w : World) (hb : Bytes w A b) (hl : b.length ≤ 9223372036854775807) :
    Calls Tryd.prog 20 #[.slice A b.length c] w (RReadSet b w) := by
  by_cases h2 : b.length < 2
  · have hno : rdOk b = false := by
      cases h : rdOk b
      · rfl
      · have := ((rdPre_iff b).1 ((rdOk_iff b).1 h).1).1; omega
    go_enter Tryd.func20, Tryd.ntmps20
    go_wp2
    go_ret2
    exact RReadSet.no hno (Below.refl _ _)
  obtain ⟨bb, off, rfl, hbl, hcell⟩ := hb.at_ (by omega)
  have hc0 := hcell 0 (by omega)
  have hc1 := hcell 1 (by omega)
  have x0 := iu8_lo (b.getD 0 0)
  have x1 := iu8_hi (b.getD 0 0)
  have y0 := iu8_lo (b.getD 1 0)
  have y1 := iu8_hi (b.getD 1 0)
  have hor : iu8 (b.getD 0 0) + 256 * iu8 (b.getD 1 0) = (rdn b : Nat) := by unfold iu8 rdn; omega
  have hn16 : rdn b < 65536 := by unfold rdn; have := (b.getD 0 0).toNat_lt; have := (b.getD 1 0).toNat_lt; omega
  generalize iu8 (b.getD 0 0) = x at hc0 hor x0 x1
  generalize iu8 (b.getD 1 0) = y at hc1 hor y0 y1
  have h2' : 2 ≤ (b.length : Int) := by omega
  have h2a : 0 < (b.length : Int) := by omega
  have h2b : 1 < (b.length : Int) := by omega
  rw [Nat.add_zero] at hc0
  have HC := Lib.hid hcell
  have HB := Lib.hid hb
  obtain ⟨n, hn⟩ : ∃ n, n = rdn b := ⟨_, rfl⟩
  rw [← hn] at hor hn16
  have HN := Lib.hid hn
  clear hcell hb hn
  by_cases hnb : n < 1 ∨ 512 < n
  · have hno : rdOk b = false := by
      cases h : rdOk b
      · rfl
      · have := (rdPre_iff b).1 ((rdOk_iff b).1 h).1; have := HN.out; omega
    have hnew := rnew_bad (n : Int) (by omega) w.drew
    clear hnb
    go_enter Tryd.func20, Tryd.ntmps20
    go_wp2
    refine wp_region_planT (fun w' => w' = World.drew w) [] [(true, 0), (true, 1), (true, 4), (true, 5), (true, 2), (true, 6), (true, 3), (true, 7), (true, 8), (true, 9), (true, 10)] (by kernel_rfl) (by kernel_rfl) rfl ?_
    refine wpPlan_takeL [0, 1, 4, 5, 2, 6, 3, 7, 8, 9, 10] [] _ (by rfl) (by rfl) (rfl) ?_
    dsimp only [List.filterMap, List.getElem?_cons_zero, List.getElem?_cons_succ]
    repeat (go_big_quiet_step (fail))
    refine wpQuiet_nil ?_
    refine wpPlan_tidy ?_
    go_wp2_with fail
    refine hnew.mono ?_
    rintro e w' ⟨rfl, rfl⟩
    go_wp2
    go_ret2
    exact RReadSet.no hno (Below.refl _ _).drew
  have hnew := rnew_any n (by omega) (by omega) w.drew
  have hn1 : 1 ≤ n := by omega
  have hn2 : n ≤ 512 := by omega
  clear hnb
  go_enter Tryd.func20, Tryd.ntmps20
  go_wp2
  refine wp_region_planT (fun w' => w' = World.drew w) [] [(true, 0), (true, 1), (true, 4), (true, 5), (true, 2), (true, 6), (true, 3), (true, 7), (true, 8), (true, 9), (true, 10)] (by kernel_rfl) (by kernel_rfl) rfl ?_
  refine wpPlan_takeL [0, 1, 4, 5, 2, 6, 3, 7, 8, 9, 10] [] _ (by rfl) (by rfl) (rfl) ?_
  dsimp only [List.filterMap, List.getElem?_cons_zero, List.getElem?_cons_succ]
  repeat (go_big_quiet_step (fail))
  refine wpQuiet_nil ?_
  refine wpPlan_tidy ?_
  go_wp2_with fail
  refine hnew.mono ?_
  rintro e w1 ⟨rfl, hs1, hB1⟩
  have hB1' : Below w.heap.size w w1 := (Below.refl _ _).drew.trans hB1
  have hq0 : w.drew.heap.size = w.heap.size := rfl
  rw [hq0] at hs1 ⊢
  have HS1 := Lib.hid hs1
  clear hs1 hB1 hnew hq0 hor x0 x1 y0 y1 hc0 hc1
  by_cases hlen : b.length = 2 + (n + 3) / 4
  · have hlen' : (2 : Int) + ((n : Int) + 3) / 4 = b.length := by omega
    have HL := Lib.hid hlen
    have hle2 : (b.length : Int) ≤ 130 := by omega
    have hpre : rdPre b = true := (rdPre_iff b).2 ⟨by omega, by have := HN.out; omega, by have := HN.out; omega, by rw [HL.out, HN.out]⟩
    clear hlen
    have ht : ((b.length : Int) != (b.length : Int)) = false := by simp
    go_wp2
    clear ht
    go_loopw [7] (fun v wr => RRd b (w.heap.size + 1) w.heap.size n w1 v wr) (fun v _ => n - (intOf v).toNat)
    case atStart => exact ⟨0, by omega, rfl, fun i hi => by omega, by rw [rdF_zero]; exact HS1.out, Upd.refl _ _⟩
    case round =>
      obtain ⟨k, hk, rfl, hbig, hw, hu⟩ := hrel
      have hBr : Below w.heap.size w wr := hB1'.upd hu (Nat.le_refl _)
      have d0 := hw.d0
      rw [rdF_length] at d0
      by_cases hkn : k < n
      · obtain ⟨j, hj⟩ : ∃ j : Nat, j = k / 4 := ⟨_, rfl⟩
        obtain ⟨r, hr⟩ : ∃ r : Nat, r = k % 4 := ⟨_, rfl⟩
        have ej : (k : Int) / 4 = j := by omega
        have er : (k : Int) % 4 = r := by omega
        have hr4 : r < 4 := by omega
        have hlenN := HL.out
        have hjm : 2 + j < b.length := by omega
        have hz := (hBr.cell (p := ⟨bb, off + (2 + j), none⟩) hbl).trans (HC.out (2 + j) hjm)
        have hcr := crumb_r b k j r hj hr
        have hle3 : crumb b k ≤ 3 := by unfold crumb; omega
        have z0 := iu8_lo (b.getD (2 + j) 0)
        have z1 := iu8_hi (b.getD (2 + j) 0)
        generalize iu8 (b.getD (2 + j) 0) = z at hz hcr z0 z1
        obtain ⟨cv, hcv⟩ : ∃ cv, cv = crumb b k := ⟨_, rfl⟩
        rw [← hcv] at hcr hle3
        have hset := hw.set_ k cv rfl
        rw [show (rdF n (cutAt (crumb b) k)).set k cv = rdF n (cutAt (crumb b) (k + 1)) by rw [hcv]; exact rdF_set n (crumb b) k hkn] at hset
        have dq : ∃ u, wr.cell? ⟨w.heap.size, k, none⟩ = some u := ⟨_, hw.at_ k (by rw [rdF_length]; exact hkn)⟩
        obtain ⟨uq, dq⟩ := dq
        have fq := hw.tl.frozen k
        have hus := hu.set k (.int .i64 (cv : Int))
        have hdv0 : 0 ≤ z / 2 ^ (2 * r) := Int.ediv_nonneg z0 (Int.le_of_lt (Int.pow_pos (by omega)))
        have hdv1 : z / 2 ^ (2 * r) ≤ z := Int.ediv_le_self _ z0
        have hcr' : (wrap64 (z / 2 ^ (2 * r))).tmod 4 = (cv : Nat) := by
          rw [IntWalk.wrap64_in _ ⟨by omega, by omega⟩, Int.tmod_eq_emod_of_nonneg hdv0]; exact hcr
        clear hcr hdv0 hdv1
        have HCV := Lib.hid hcv
        have HST := Lib.hid (And.intro hset hus)
        have HB2 := Lib.hid hbig
        clear hw hu hbig hcv hj hr hlenN hset hus
        go_wp2
        refine wp_region_planT (fun w' => w' = World.drew wr) [18] [(true, 0), (true, 1), (true, 2), (true, 4), (true, 5), (true, 6), (true, 7), (true, 8), (true, 9), (true, 11), (true, 12), (true, 13), (true, 3), (true, 10), (true, 14), (true, 15), (true, 16), (true, 17), (false, 18)] (by kernel_rfl) (by kernel_rfl) rfl ?_
        refine wpPlan_takeL [0, 1, 2, 4, 5, 6, 7, 8, 9, 11, 12, 13, 3, 10, 14, 15, 16, 17] [(false, 18)] _ (by rfl) (by rfl) (rfl) ?_
        dsimp only [List.filterMap, List.getElem?_cons_zero, List.getElem?_cons_succ]
        repeat (go_big_quiet_step (fail))
        refine wpQuiet_nil ?_
        refine wpPlan_forceL _ rfl ?_
        go_wp2
        refine PlanQ.out (by rfl) (wpPlan_tidy ?_)
        have hR2 : RefAt ((wr.setCell ⟨w.heap.size, k, none⟩ (.int .i64 (cv : Int))).drew) (w.heap.size + 1) w.heap.size (rdF n (cutAt (crumb b) (k + 1))) := ⟨HST.out.1.hd.drew, HST.out.1.tl.drew, HST.out.1.ne⟩
        have hU2 : Upd w.heap.size w1 ((wr.setCell ⟨w.heap.size, k, none⟩ (.int .i64 (cv : Int))).drew) := Upd.drew HST.out.2
        generalize (World.setCell wr _ _).drew = w2 at hR2 hU2 ⊢
        have hBr2 : Below w.heap.size w w2 := hB1'.upd hU2 (Nat.le_refl _)
        have d0' := hR2.d0
        rw [rdF_length] at d0'
        have dk := hR2.at_ k (by rw [rdF_length]; exact hkn)
        rw [rdF_getD, if_pos hkn, show cutAt (crumb b) (k + 1) k = cv by unfold cutAt; rw [if_pos (by omega), HCV.out]] at dk
        have HR2 := Lib.hid (And.intro hR2 hU2)
        clear hR2 hU2 HST d0 dq fq hz hcr' ej er
        by_cases h3 : cv = 3
        · have hno : rdOk b = false := by
            cases h : rdOk b
            · rfl
            · have := (rdBig_iff b).1 ((rdOk_iff b).1 h).2.1 k (by rw [← HN.out]; exact hkn); rw [← HCV.out] at this; omega
          subst h3
          go_wp2
          go_ret2
          exact RReadSet.no hno hBr2
        · have hcv2 : cv ≤ 2 := by omega
          have hne : ((cv : Int) == 3) = false := by simp; omega
          go_wp2
          go_roundw
          case rel => exact ⟨k + 1, by omega, by go_num, fun i hi => (by
            by_cases e : i = k
            · subst e; rw [← HCV.out]; exact hcv2
            · exact HB2.out i (by omega)), HR2.out.1, HR2.out.2⟩
          case measure => simp [intOf]; omega
      · obtain rfl : k = n := by omega
        have hbg : rdBig b = true := (rdBig_iff b).2 fun i hi => hbig i (by rw [HN.out]; exact hi)
        have hok := rd_ok hpre hbg
        have hw2 : RefAt wr (w.heap.size + 1) w.heap.size (rd b) := by have := hw; rw [rdF_all] at this; unfold rd; rw [← HN.out]; exact this
        have hlr : 0 < (rd b).length := by rw [rd_length, ← HN.out]; omega
        have HW := Lib.hid hw2
        have hbr : Bytes wr (some ⟨bb, off, none⟩) b := Bytes.below HB.out hBr
        clear hw hu hbig hw2 d0
        have d0 := HW.out.d0
        go_wp2
        refine wp_region_planT (fun w' => Bytes w' (some ⟨bb, off, none⟩) b) [] [(true, 0), (true, 3), (true, 4), (false, 1), (false, 2), (true, 5)] (by kernel_rfl) (by kernel_rfl) hbr ?_
        refine wpPlan_pure [0, 3] [(true, 4), (false, 1), (false, 2), (true, 5)] _ (by rfl) (by rfl) ?_
        dsimp only [List.filterMap, List.getElem?_cons_zero, List.getElem?_cons_succ]
        repeat (go_big_quiet_step (fail))
        refine wpQuiet_nil ?_
        refine wpPlan_takeL [4] [(false, 1), (false, 2), (true, 5)] _ (by rfl) (by rfl) hbr ?_
        dsimp only [List.filterMap, List.getElem?_cons_zero, List.getElem?_cons_succ]
        refine wpQuiet_convert_str (by rfl) 36 9 5 _ (by rfl) Tryd.underlying36 Tryd.underlying5 Tryd.underlying9 (some ⟨bb, off, none⟩) b.length c b (by rfl) rfl (fun w' hw' => hw') ?_
        simp only [Act.put, List.setIfInBounds_toArray, List.set_cons_zero, List.set_cons_succ]
        refine wpQuiet_nil ?_
        refine wpPlan_forceL _ rfl ?_
        go_wp2_with fail
        refine (rsbytes_any (rd b) hok (w.heap.size + 1) w.heap.size wr.drew ⟨HW.out.hd.drew, HW.out.tl.drew, HW.out.ne⟩).mono ?_
        rintro e w3 ⟨vb, spb, rfl, hO, hB3⟩
        obtain ⟨Ab, cb, rfl, _, _, hOb⟩ := OwnB.open_ hO
        have hs3 : RefAt w3 (w.heap.size + 1) w.heap.size (rd b) := RefAt.below (w := wr.drew) ⟨HW.out.hd.drew, HW.out.tl.drew, HW.out.ne⟩ hB3
        have hBB : Below w.heap.size w w3 := hBr.drew.trans (hB3.mono hBr.size)
        have hbr3 : Bytes w3 (some ⟨bb, off, none⟩) b := Bytes.below HB.out hBB
        have HS3 := Lib.hid hs3
        clear hO hs3 hB3
        go_wp2_with fail
        refine PlanQ.in_ hbr3 ?_
        refine wpPlan_forceL _ rfl ?_
        go_wp2_with (first
          | (show wpList _ _ _ ((⟨some 70, _, _, _, _, _⟩ : Oper) :: _) _ _; refine wpList_convert_str (o := ⟨some 70, _, _, _, _, _⟩) (by rfl) 36 9 5 _ (by rfl) Tryd.underlying36 Tryd.underlying5 Tryd.underlying9 Ab (enc (rd b)).length cb (enc (rd b)) (by rfl) rfl hOb ?_)
          | fail)
        refine PlanQ.in_ hbr3 ?_
        have hne : ((str (enc (rd b))).toList == (str b).toList) = decide (enc (rd b) = b) := str_beq _ _
        by_cases he : enc (rd b) = b
        · rw [decide_eq_true he] at hne
          have hne' : ((str (enc (rd b))).toList == (str b).toList) = true := hne
          have hyes : rdOk b = true := (rdOk_iff b).2 ⟨hpre, hbg, he⟩
          have HE := Lib.hid he
          clear hne he
          refine wpPlan_pure [5] [] _ (by rfl) (by rfl) ?_
          dsimp only [List.filterMap, List.getElem?_cons_zero, List.getElem?_cons_succ]
          repeat (go_big_quiet_step (fail))
          refine wpQuiet_nil ?_
          refine wpPlan_tidy ?_
          go_wp2
          go_ret2
          unfold RReadSet
          rw [if_pos hyes]
          exact ⟨w.heap.size + 1, w.heap.size, by omega, Nat.le_refl _, rfl, HS3.out, hBB⟩
        · rw [decide_eq_false he] at hne
          have hne' : ((str (enc (rd b))).toList == (str b).toList) = false := hne
          have hno : rdOk b = false := by
            cases h : rdOk b
            · rfl
            · exact absurd ((rdOk_iff b).1 h).2.2 he
          clear hne he
          refine wpPlan_pure [5] [] _ (by rfl) (by rfl) ?_
          dsimp only [List.filterMap, List.getElem?_cons_zero, List.getElem?_cons_succ]
          repeat (go_big_quiet_step (fail))
          refine wpQuiet_nil ?_
          refine wpPlan_tidy ?_
          go_wp2
          go_ret2
          exact RReadSet.no hno hBB
  · have hno : rdOk b = false := by
      cases h : rdOk b
      · rfl
      · have := (rdPre_iff b).1 ((rdOk_iff b).1 h).1; have := HN.out; omega
    have ht : ((b.length : Int) != 2 + ((n : Int) + 3) / 4) = true := by rw [bne_iff_ne]; omega
    have hle : 2 + ((n : Int) + 3) / 4 ≤ 200 := by omega
    clear hlen
    go_wp2
    go_ret2
    exact RReadSet.no hno hB1'
end Go.Proofs.YtkjcidbhepminaaDoor
