/- The chapter's examples of slots that each statement looks at. No condition. -/
import Derived.Test.YtekdcjaljjlemaaDoorMSlotWrites12
import Derived.Test.YtekdcjaljjlemaaDoorTie
import Derived.Test.YtekdcjaljjlemaaDoorCards
import Derived.SevenTiedAt
namespace Go.Proofs.YtekdcjaljjlemaaDoor
open Go.RowKit
theorem Slot.put_same (F G : HdF) (D : List UInt8) (z : Bool) : Slot.put (true, F, D) (2, G) true z = (1, F 5, F 3, false) := by simp [Slot.put]
theorem Slot.put_mend (F G : HdF) (D : List UInt8) (k : Int) (s z : Bool) (h : k ≠ 2) : Slot.put (true, F, D) (k, G) s z = (1, F 5, F 3, true) := by simp [Slot.put, h]
theorem Slot.put_older (F G : HdF) (D : List UInt8) (z : Bool) (h : G 5 < F 5) : Slot.put (true, F, D) (2, G) false z = (1, F 5, F 3, true) := by simp [Slot.put, h]
theorem Slot.put_newer (F G : HdF) (D : List UInt8) (z : Bool) (h : F 5 < G 5) : Slot.put (true, F, D) (2, G) false z = (3, G 5, G 3, false) := by
  have h1 : ¬ G 5 < F 5 := by omega
  have h2 : ¬ G 5 = F 5 := by omega
  simp [Slot.put, h1, h2]
theorem Slot.put_no2 (G : HdF) (s z : Bool) : Slot.put Slot.no (2, G) s z = (3, G 5, G 3, false) := by simp [Slot.put, Slot.no]
theorem Slot.put_no0 (G : HdF) (s z : Bool) : Slot.put Slot.no (0, G) s z = (3, 0, 0, false) := by simp [Slot.put, Slot.no]
theorem Slot.put_no1 (G : HdF) (s z : Bool) : Slot.put Slot.no (1, G) s z = if z = true then (4, 0, 0, false) else (2, 0, 0, false) := by simp [Slot.put, Slot.no]
theorem slot17 : ∃ F, Slot.prep (slotP 17 2) 1 = (true, F, []) ∧ Slot.kind ((slotP 17 2).take 256) 1 = (2, F) ∧ F 5 = 17 ∧ F 3 = 2 := by
  obtain ⟨F, h1, h2, h3⟩ := slotP_prep 17 2 (by omega)
  exact ⟨F, h1, h2, h3 5 (by omega), h3 3 (by omega)⟩
theorem slot1 : ∃ F, Slot.prep (slotP 1 0) 1 = (true, F, []) ∧ Slot.kind ((slotP 1 0).take 256) 1 = (2, F) ∧ F 5 = 1 ∧ F 3 = 0 := by
  obtain ⟨F, h1, h2, h3⟩ := slotP_prep 1 0 (by omega)
  exact ⟨F, h1, h2, h3 5 (by omega), h3 3 (by omega)⟩
theorem slot_ne : (slotP 1 0).take 256 ≠ (slotP 17 2).take 256 := by
  intro e
  obtain ⟨F, _, h1, h2, _⟩ := slot17
  obtain ⟨G, _, g1, g2, _⟩ := slot1
  rw [e, h1] at g1
  injection g1 with _ g1
  rw [g1] at h2; omega
theorem judge_1 : Slot.judge ((slotP 17 2).take 256) (slotP 17 2) 1 = (1, 17, 2, false) := by
  obtain ⟨F, h1, h2, h3, h4⟩ := slot17
  rw [Slot.judge_in _ _ _ (by omega), h1, h2, decide_eq_true rfl, Slot.put_same, h3, h4]
theorem judge_2 : Slot.judge ((slotP 1 0).take 256) (slotP 17 2) 1 = (1, 17, 2, true) := by
  obtain ⟨F, h1, h2, h3, h4⟩ := slot17
  obtain ⟨G, _, g2, g3, g4⟩ := slot1
  rw [Slot.judge_in _ _ _ (by omega), h1, g2, decide_eq_false slot_ne, Slot.put_older _ _ _ _ (by omega), h3, h4]
theorem judge_3 : Slot.judge ((slotP 17 2).take 256) (slotP 1 0) 1 = (3, 17, 2, false) := by
  obtain ⟨F, _, h2, h3, h4⟩ := slot17
  obtain ⟨G, g1, _, g3, g4⟩ := slot1
  rw [Slot.judge_in _ _ _ (by omega), g1, h2, decide_eq_false (fun e => slot_ne e.symm), Slot.put_newer _ _ _ _ (by omega), h3, h4]
set_option maxRecDepth 100000 in
set_option maxHeartbeats 4000000 in
theorem awake07_any (w : World) : Calls Tryd.prog 17 #[] w fun e w' => e = .returned (.bool true) ∧ Below w.heap.size w w' := by
  go_enter Tryd.func17, Tryd.ntmps17
  go_wp2_with fail
  refine (prepare_any 17 2 (by omega) w).mono ?_
  rintro e w1 ⟨g1, t1, rfl, hge1, hb1, hB⟩
  have HP := Lib.hid (slotP_length 17 2)
  have HQ := Lib.hid (slotP_length 1 0)
  have J1 := Lib.hid judge_1
  have J2 := Lib.hid judge_2
  have J3 := Lib.hid judge_3
  obtain ⟨X, hX⟩ : ∃ X, X = slotP 17 2 := ⟨_, rfl⟩
  obtain ⟨Y, hY⟩ : ∃ Y, Y = slotP 1 0 := ⟨_, rfl⟩
  rw [← hX] at HP J1 J2 J3 hb1
  rw [← hY] at HQ J2 J3
  have HY := Lib.hid hY
  clear hX hY
  clear hge1
  go_wp2_with (first
    | ((with_reducible show wpList _ _ _ ((⟨none, _, _, _, _, _⟩ : Oper) :: _) _ _); refine wpList_store_blk (o := ⟨none, _, _, _, _, _⟩) ((Blk.new w1 29 #[.int .i64 0, .int .i64 0, .int .i64 0, .int .i64 0, .int .i64 0, .int .i64 0, .int .i64 0, .int .i64 0, .int .i64 0, .int .u64 0, .int .u64 0, .int .i64 0, .int .i64 0, .int .u64 0, .int .i64 0, .int .i64 0, .slice none 0 0])) (by rfl) _ _ _ (by rfl) (by rfl) (msgc (fP 17 2) (.slice none 0 0)) (by rfl) (sizeMsg) (by rfl) (msgc_size _ _) (msgc_one _ _ rfl) ?_; intro w2 h2 hu2; have hbx := ((Below.refl w1.heap.size w1).alloc (Nat.le_refl _) (.cells #[.int .i64 0, .int .i64 0, .int .i64 0, .int .i64 0, .int .i64 0, .int .i64 0, .int .i64 0, .int .i64 0, .int .i64 0, .int .u64 0, .int .u64 0, .int .i64 0, .int .i64 0, .int .u64 0, .int .i64 0, .int .i64 0, .slice none 0 0] 29)).upd hu2 (Nat.le_refl _); (replace hb1 := keep hbx hb1; replace hB := hB.trans (hbx.mono hB.size)); clear hbx hu2 h2)
    | fail)
  refine (prepare_any 1 0 (by omega) w2).mono ?_
  rintro e w3 ⟨g2, t2, rfl, hge2, hb2, hbx⟩
  (replace hb1 := keep hbx hb1; replace hB := hB.trans (hbx.mono hB.size))
  clear hbx hge2
  rw [← HY.out] at hb2
  go_wp2_with (first
    | ((with_reducible show wpList _ _ _ ((⟨none, _, _, _, _, _⟩ : Oper) :: _) _ _); refine wpList_store_blk (o := ⟨none, _, _, _, _, _⟩) ((Blk.new w3 29 #[.int .i64 0, .int .i64 0, .int .i64 0, .int .i64 0, .int .i64 0, .int .i64 0, .int .i64 0, .int .i64 0, .int .i64 0, .int .u64 0, .int .u64 0, .int .i64 0, .int .i64 0, .int .u64 0, .int .i64 0, .int .i64 0, .slice none 0 0])) (by rfl) _ _ _ (by rfl) (by rfl) (msgc (fP 1 0) (.slice none 0 0)) (by rfl) (sizeMsg) (by rfl) (msgc_size _ _) (msgc_one _ _ rfl) ?_; intro w4 h4 hu4; have hbx := ((Below.refl w3.heap.size w3).alloc (Nat.le_refl _) (.cells #[.int .i64 0, .int .i64 0, .int .i64 0, .int .i64 0, .int .i64 0, .int .i64 0, .int .i64 0, .int .i64 0, .int .i64 0, .int .u64 0, .int .u64 0, .int .i64 0, .int .i64 0, .int .u64 0, .int .i64 0, .int .i64 0, .slice none 0 0] 29)).upd hu4 (Nat.le_refl _); (replace hb1 := keep hbx hb1; replace hb2 := keep hbx hb2; replace hB := hB.trans (hbx.mono hB.size)); clear hbx hu4 h4)
    | fail)
  refine (sof_any 17 w4).mono ?_
  rintro e w5 ⟨rfl, hw5⟩
  rw [show Slot.of 17 = 1 from rfl]
  rw [← hw5] at hb1 hb2 hB
  clear hw5
  go_wp2_with fail
  refine (judge_any (some ⟨g1, 0, none⟩) (some ⟨g1, 0, none⟩) 256 1280 1280 1280 (X.take 256) (X) 1 (by omega) (⟨by rw [List.length_take, HP.out]; rfl, by omega, by omega⟩) (⟨HP.out.symm, Nat.le_refl _, by omega, by omega⟩) _ (hb1.bytes.take 256) (hb1.bytes)).mono ?_
  rintro e w6 ⟨rfl, hbx⟩
  (replace hb1 := keep hbx hb1; replace hb2 := keep hbx hb2; replace hB := hB.trans (hbx.mono hB.size); clear hbx)
  rw [J1.out]
  go_wp2_with fail
  refine (isst_any _ (1) (17) (2) (false) _).mono ?_
  rintro e w7 ⟨rfl, hbx⟩
  (replace hb1 := keep hbx hb1; replace hb2 := keep hbx hb2; replace hB := hB.trans (hbx.mono hB.size); clear hbx)
  rw [decide_eq_true rfl]
  go_wp2_with fail
  refine (judge_any (some ⟨g2, 0, none⟩) (some ⟨g1, 0, none⟩) 256 1280 1280 1280 (Y.take 256) (X) 1 (by omega) (⟨by rw [List.length_take, HQ.out]; rfl, by omega, by omega⟩) (⟨HP.out.symm, Nat.le_refl _, by omega, by omega⟩) _ (hb2.bytes.take 256) (hb1.bytes)).mono ?_
  rintro e w8 ⟨rfl, hbx⟩
  (replace hb1 := keep hbx hb1; replace hb2 := keep hbx hb2; replace hB := hB.trans (hbx.mono hB.size); clear hbx)
  rw [J2.out]
  go_wp2_with fail
  refine (isst_any _ (1) (17) (2) (true) _).mono ?_
  rintro e w9 ⟨rfl, hbx⟩
  (replace hb1 := keep hbx hb1; replace hb2 := keep hbx hb2; replace hB := hB.trans (hbx.mono hB.size); clear hbx)
  rw [decide_eq_true rfl]
  go_wp2_with fail
  refine (judge_any (some ⟨g1, 0, none⟩) (some ⟨g2, 0, none⟩) 256 1280 1280 1280 (X.take 256) (Y) 1 (by omega) (⟨by rw [List.length_take, HP.out]; rfl, by omega, by omega⟩) (⟨HQ.out.symm, Nat.le_refl _, by omega, by omega⟩) _ (hb1.bytes.take 256) (hb2.bytes)).mono ?_
  rintro e w10 ⟨rfl, hbx⟩
  (replace hb1 := keep hbx hb1; replace hb2 := keep hbx hb2; replace hB := hB.trans (hbx.mono hB.size); clear hbx)
  rw [J3.out]
  go_wp2_with fail
  refine (isst_any _ (3) (17) (2) (false) _).mono ?_
  rintro e w11 ⟨rfl, hbx⟩
  (replace hb1 := keep hbx hb1; replace hb2 := keep hbx hb2; replace hB := hB.trans (hbx.mono hB.size); clear hbx)
  rw [decide_eq_true rfl]
  have HB := Lib.hid hB
  clear hb1 hb2 hB
  go_wp2
  go_ret
  exact ⟨rfl, HB.out⟩
end Go.Proofs.YtekdcjaljjlemaaDoor

/- Which slot an op has, which bytes a prepare has there, what says that a slot is unwritten: the statement, as a call: it answers true and writes nothing that was there. Conditions: the body can be read; the numbers are what Go's types hold. -/
namespace Go.Proofs.YtekdcjaljjlemaaDoor
open Go.RowKit
set_option maxRecDepth 100000 in
set_option maxHeartbeats 8000000 in
theorem swrites_any (f : HdF) (A : Option Addr) (c : Nat) (l : List UInt8) (x n : Int) (hin : Hd.in_ f) (hc : l.length ≤ c ∧ c ≤ 9223372036854775807) (w : World) (hby : Bytes w A l) :
    Calls Tryd.prog 3 #[.agg (msgc f (.slice A l.length c)), .int .i64 x, .int .i64 n] w fun e w' => e = .returned (.bool true) ∧ Below w.heap.size w w' := by
  have hm := Blk.new w 29 (msgc f (.slice A l.length c))
  have hB := Lib.hid ((Below.refl w.heap.size w).alloc (Nat.le_refl _) (.cells (msgc f (.slice A l.length c)) 29))
  have d16 := hm.at_ 16 (msgc_16 f _)
  by_cases hlong : 3000 < l.length
  · clear hm
    go_enter Tryd.func3, Tryd.ntmps3
    go_wp2
    go_ret
    exact ⟨rfl, hB.out⟩
  have HM := Lib.hid hm
  have HIN := Lib.hid hin
  have HC := Lib.hid hc
  have HL := Lib.hid (show l.length ≤ 3000 by omega)
  have hby1 := Bytes.below hby hB.out
  clear hm hin hc
  go_enter Tryd.func3, Tryd.ntmps3
  go_wp2_with fail
  generalize hw1 : w.alloc (.cells (msgc f (.slice A l.length c)) 29) = w1 at HM hB hby1 d16 ⊢
  clear hw1 hlong
  have hm := HM.out
  generalize hs0 : w.heap.size = s0 at hm d16 ⊢
  have HS0 := Lib.hid hs0
  have hs1 := hm.lt
  clear hs0 HM hby
  refine wp_region_tree (Below w1.heap.size w1) [] (PlanT.takes [0, 2] (PlanT.takes [1, 3] (.opt 4 (PlanT.takes [5] (.opt 6 (.opt 7 .done .no) .no)) (.opt 6 (.opt 4 (PlanT.takes [5] (.opt 7 .done .no)) .no) .no)))) (by kernel_rfl) (by kernel_rfl) ((Below.refl _ _).drew) ?_
  refine wpTree_pure _ _ _ (by rfl) (by rfl) ?_
  dsimp only [List.filterMap, List.getElem?_cons_zero, List.getElem?_cons_succ]
  repeat (go_big_quiet_step (fail))
  refine wpQuiet_nil ?_
  refine wpTree_takeL _ _ _ (by rfl) (by rfl) ((Below.refl _ _).drew) ?_
  dsimp only [List.filterMap, List.getElem?_cons_zero, List.getElem?_cons_succ]
  (refine wpQuiet_want' (by rfl) ?_; refine wpQuiet_load_mid (fun w' hw' => hd_mid hm w' hw') (by rfl) _ _ (by rfl) (by rfl) _ Tryd.underlying26 (by rfl) (sizeHd) (by rw [Array.length_toList, hdc_size]) ?_; simp only [Act.put, List.setIfInBounds_toArray, List.set_cons_zero, List.set_cons_succ])
  (refine wpQuiet_want' (by rfl) ?_; refine wpQuiet_load_cell (fun w' hw' => (hm.below hw' hm.lt).at_ 16 (msgc_16 f _)) (by rfl) _ _ (by rfl) (by rfl) _ Tryd.underlying27 (by rfl) ?_; simp only [Act.put, List.setIfInBounds_toArray, List.set_cons_zero, List.set_cons_succ])
  refine wpQuiet_nil ?_
  apply share (α := Nat × Nat) (F := fun x wZ => Blk wZ x.1 29 (msgc f (.slice (some ⟨x.2, 0, none⟩) l.length (l.length + 3))) ∧ Blk wZ x.2 5 ((l ++ marks l.length).map u8v).toArray ∧ Below w1.heap.size w1 wZ ∧ w1.heap.size ≤ x.1 ∧ w1.heap.size ≤ x.2 ∧ x.1 ≠ x.2)
  · intro KK
    refine wpTree_opt _ rfl ?_ (wpTree_one _ rfl ?_)
    · go_wp2_with fail
      refine (lentBytes_any A l.length c l rfl (by have := HL.out; omega) w1.drew hby1).mono ?_
      rintro e w2 ⟨rfl, hl2, hb2⟩
      have hc2 : Below w1.heap.size w1 w2 := (Below.refl _ _).drew.trans (hb2.mono (Nat.le_refl _))
      have hll := hl2.lt
      have hge : w1.heap.size ≤ w1.drew.heap.size := Nat.le_refl _
      clear hb2
      generalize w1.drew.heap.size = gl at hl2 hll hge ⊢
      go_wp2_with fail
      refine TreeQ.in_ hc2 ?_
      refine wpTree_pure _ _ _ (by rfl) (by rfl) ?_
      dsimp only [List.filterMap, List.getElem?_cons_zero, List.getElem?_cons_succ]
      refine wpQuiet_build_msg (by rfl) _ _ (by rfl) f _ _ _ (by rfl) (by rfl) ?_
      simp only [Act.put, List.setIfInBounds_toArray, List.set_cons_zero, List.set_cons_succ]
      refine wpQuiet_nil ?_
      refine wpTree_one _ rfl ?_
      go_wp2_with fail
      have hge2 := hc2.size
      have hz := Blk.new w2 29 #[.int .i64 0, .int .i64 0, .int .i64 0, .int .i64 0, .int .i64 0, .int .i64 0, .int .i64 0, .int .i64 0, .int .i64 0, .int .u64 0, .int .u64 0, .int .i64 0, .int .i64 0, .int .u64 0, .int .i64 0, .int .i64 0, .slice none 0 0]
      have hc3 := hc2.alloc hc2.size (.cells #[.int .i64 0, .int .i64 0, .int .i64 0, .int .i64 0, .int .i64 0, .int .i64 0, .int .i64 0, .int .i64 0, .int .i64 0, .int .u64 0, .int .u64 0, .int .i64 0, .int .i64 0, .int .u64 0, .int .i64 0, .int .i64 0, .slice none 0 0] 29)
      replace hl2 := hl2.alloc (.cells #[.int .i64 0, .int .i64 0, .int .i64 0, .int .i64 0, .int .i64 0, .int .i64 0, .int .i64 0, .int .i64 0, .int .i64 0, .int .u64 0, .int .u64 0, .int .i64 0, .int .i64 0, .int .u64 0, .int .i64 0, .int .i64 0, .slice none 0 0] 29)
      generalize w2.alloc (.cells #[.int .i64 0, .int .i64 0, .int .i64 0, .int .i64 0, .int .i64 0, .int .i64 0, .int .i64 0, .int .i64 0, .int .i64 0, .int .u64 0, .int .u64 0, .int .i64 0, .int .i64 0, .int .u64 0, .int .i64 0, .int .i64 0, .slice none 0 0] 29) = w3 at hz hc3 hl2 ⊢
      generalize w2.heap.size = gi at *
      refine TreeQ.in_ hc3 ?_
      refine wpTree_one _ rfl ?_
      go_wp2_with (first
        | ((with_reducible show wpList _ _ _ ((⟨none, _, _, _, _, _⟩ : Oper) :: _) _ _); refine wpList_store_blk (o := ⟨none, _, _, _, _, _⟩) (hz) (by rfl) _ _ _ (by rfl) (by rfl) (msgc f (.slice (some ⟨gl, 0, none⟩) l.length (l.length + 3))) (by rfl) (sizeMsg) (by rfl) (msgc_size _ _) (msgc_one _ _ rfl) ?_; intro w4 h4 hu)
        | fail)
      have hl4 := hl2.upd hu (by omega)
      have hc4 := hc3.upd hu hge2
      refine TreeQ.in_ hc4 ?_
      refine wpTree_done ?_
      obtain ⟨x, rfl, rfl⟩ : ∃ x : Nat × Nat, gi = x.1 ∧ gl = x.2 := ⟨(gi, gl), rfl, rfl⟩
      exact KK x w4 ⟨h4, hl4, hc4, hge2, hge, by omega⟩
    · go_wp2_with fail
      have hz := (Blk.new w1 29 #[.int .i64 0, .int .i64 0, .int .i64 0, .int .i64 0, .int .i64 0, .int .i64 0, .int .i64 0, .int .i64 0, .int .i64 0, .int .u64 0, .int .u64 0, .int .i64 0, .int .i64 0, .int .u64 0, .int .i64 0, .int .i64 0, .slice none 0 0]).drew
      have hc2 : Below w1.heap.size w1 (w1.alloc (.cells #[.int .i64 0, .int .i64 0, .int .i64 0, .int .i64 0, .int .i64 0, .int .i64 0, .int .i64 0, .int .i64 0, .int .i64 0, .int .u64 0, .int .u64 0, .int .i64 0, .int .i64 0, .int .u64 0, .int .i64 0, .int .i64 0, .slice none 0 0] 29)).drew := ((Below.refl _ _).alloc (Nat.le_refl _) _).drew
      have hby2 := Bytes.below hby1 hc2
      have hge : w1.heap.size ≤ w1.heap.size := Nat.le_refl _
      have hzl := hz.lt
      generalize (w1.alloc (.cells #[.int .i64 0, .int .i64 0, .int .i64 0, .int .i64 0, .int .i64 0, .int .i64 0, .int .i64 0, .int .i64 0, .int .i64 0, .int .u64 0, .int .u64 0, .int .i64 0, .int .i64 0, .int .u64 0, .int .i64 0, .int .i64 0, .slice none 0 0] 29)).drew = w2 at hz hc2 hby2 hzl ⊢
      have hgi : ∃ gi, gi = w1.heap.size := ⟨_, rfl⟩
      obtain ⟨gi, hgi⟩ := hgi
      have hge2 : w1.heap.size ≤ gi := Nat.le_of_eq hgi.symm
      rw [← hgi] at hz hzl
      rw [show (Value.pointer (some ⟨w1.heap.size, 0, none⟩)) = .pointer (some ⟨gi, 0, none⟩) by rw [hgi], Array.toArray_toList]
      clear hgi
      refine TreeQ.in_ hc2 ?_
      refine wpTree_one _ rfl ?_
      go_wp2_with fail
      refine (lentBytes_any A l.length c l rfl (by have := HL.out; omega) w2 hby2).mono ?_
      rintro e w3 ⟨rfl, hl3, hb3⟩
      have hc3 := hc2.trans (hb3.mono hc2.size)
      have hge3 := hc2.size
      replace hz := keep hb3 hz
      clear hb3
      generalize w2.heap.size = gl at hl3 hzl hge3 ⊢
      go_wp2_with fail
      refine TreeQ.in_ hc3 ?_
      refine wpTree_pure _ _ _ (by rfl) (by rfl) ?_
      dsimp only [List.filterMap, List.getElem?_cons_zero, List.getElem?_cons_succ]
      refine wpQuiet_build_msg (by rfl) _ _ (by rfl) f _ _ _ (by rfl) (by rfl) ?_
      simp only [Act.put, List.setIfInBounds_toArray, List.set_cons_zero, List.set_cons_succ]
      refine wpQuiet_nil ?_
      refine wpTree_one _ rfl ?_
      go_wp2_with (first
        | ((with_reducible show wpList _ _ _ ((⟨none, _, _, _, _, _⟩ : Oper) :: _) _ _); refine wpList_store_blk (o := ⟨none, _, _, _, _, _⟩) (hz) (by rfl) _ _ _ (by rfl) (by rfl) (msgc f (.slice (some ⟨gl, 0, none⟩) l.length (l.length + 3))) (by rfl) (sizeMsg) (by rfl) (msgc_size _ _) (msgc_one _ _ rfl) ?_; intro w4 h4 hu)
        | fail)
      have hl4 := hl3.upd hu (by omega)
      have hc4 := hc3.upd hu hge2
      refine TreeQ.in_ hc4 ?_
      refine wpTree_done ?_
      obtain ⟨x, rfl, rfl⟩ : ∃ x : Nat × Nat, gi = x.1 ∧ gl = x.2 := ⟨(gi, gl), rfl, rfl⟩
      exact KK x w4 ⟨h4, hl4, hc4, hge2, hge3, by omega⟩
  · rintro ⟨gi, gl⟩ w2 ⟨hi2, hl2, hbx, hge1, hge2, hne⟩
    dsimp only at hi2 hl2 hge1 hge2 hne ⊢
    (replace hm := keep hbx hm; replace hby1 := keep hbx hby1)
    replace hB := Lib.hid (hB.out.trans (hbx.mono hB.out.size))
    have HGE : Hid (w1.heap.size ≤ gi ∧ w1.heap.size ≤ gl ∧ gi ≠ gl) := Lib.hid ⟨hge1, hge2, hne⟩
    have hs1 : s0 < w1.heap.size := by assumption
    clear hbx d16 hge1 hge2 hne
    have hgl2 := hl2.lt
    have HGL := Lib.hid hgl2
    go_wp2_with (first
      | ((with_reducible show wpList _ _ _ ((⟨some 27, _, _, _, _, _⟩ : Oper) :: _) _ _); refine wpList_load_blk (o := ⟨some 27, _, _, _, _, _⟩) (hi2) (by rfl) _ _ (by rfl) (by rfl) _ Tryd.underlying29 (by rfl) (sizeMsg) (msgc_size _ _) ?_)
      | fail)
    have hlb := hl2.bytes.take l.length
    rw [List.take_left] at hlb
    refine (sbytes_any f (some ⟨gl, 0, none⟩) l.length (l.length + 3) l w2 rfl hlb ⟨by omega, by have := HL.out; omega⟩ HIN.out).mono ?_
    rintro e w3 ⟨E, rfl, hE, hEg, hEn, hEl, hbx⟩
    (replace hm := keep hbx hm; replace hby1 := keep hbx hby1; replace hi2 := keep hbx hi2; replace hl2 := keep hbx hl2)
    replace hB := Lib.hid (hB.out.trans (hbx.mono hB.out.size))
    have hElt := hE.lt
    have H23 := Lib.hid hbx.size
    clear hbx hlb
    go_wp2_with (first
      | ((with_reducible show wpList _ _ _ ((⟨some 32, _, _, _, _, _⟩ : Oper) :: _) _ _); refine wpList_load_blk (o := ⟨some 32, _, _, _, _, _⟩) (hm) (by rfl) _ _ (by rfl) (by rfl) _ Tryd.underlying29 (by rfl) (sizeMsg) (msgc_size _ _) ?_)
      | fail)
    refine (rbytes7_any f A l.length c l w3 rfl hby1 HC.out HIN.out).mono ?_
    rintro e w4 ⟨v4, sp4, rfl, ho4, hbx⟩
    (replace hm := keep hbx hm; replace hby1 := keep hbx hby1; replace hi2 := keep hbx hi2; replace hl2 := keep hbx hl2; replace hE := keep hbx hE)
    replace hB := Lib.hid (hB.out.trans (hbx.mono hB.out.size))
    have hsz34 := hbx.size
    clear hbx
    obtain ⟨A4, c4, rfl, -⟩ := OwnB.open_ ho4
    obtain ⟨A3, n3, l3⟩ := E
    dsimp only at hEn hEl
    obtain ⟨code, hcode⟩ : ∃ x, x = (Slot.bytes f l).1 := ⟨_, rfl⟩
    rw [← hcode, ← hEl]
    rw [← hEl] at ho4
    dsimp only [Ent.val]
    subst hEn
    clear hcode hEl
    go_wp2_with fail
    refine (sunw_any n w4).mono ?_
    rintro e w5 ⟨E, rfl, hU, hUg, hUn, hUl, hbx⟩
    (replace hm := keep hbx hm; replace hby1 := keep hbx hby1; replace hi2 := keep hbx hi2; replace hl2 := keep hbx hl2; replace hE := keep hbx hE; replace ho4 := keep hbx ho4)
    replace hB := Lib.hid (hB.out.trans (hbx.mono hB.out.size))
    clear hbx
    obtain ⟨A5, n5, l5⟩ := E
    dsimp only at hUn hUl
    subst hUn
    dsimp only [Ent.val]
    go_wp2_with fail
    refine (runw_any n w5).mono ?_
    rintro e w6 ⟨v6, sp6, rfl, ho6, hbx⟩
    (replace hm := keep hbx hm; replace hby1 := keep hbx hby1; replace hi2 := keep hbx hi2; replace hl2 := keep hbx hl2; replace hE := keep hbx hE; replace hU := keep hbx hU; replace ho4 := keep hbx ho4)
    replace hB := Lib.hid (hB.out.trans (hbx.mono hB.out.size))
    clear hbx
    obtain ⟨A6, c6, rfl, -⟩ := OwnB.open_ ho6
    obtain ⟨code2, hcode2⟩ : ∃ x, x = (Slot.unw n).1 := ⟨_, rfl⟩
    rw [← hcode2, ← hUl]
    rw [← hUl] at ho6
    clear hcode2 hUl
    have H34 := Lib.hid hsz34
    have HEG := Lib.hid hEg
    have HELT := Lib.hid hElt
    have HUG := Lib.hid hUg
    clear hsz34 hgl2 hEg hElt hUg
    go_wp2_with fail
    refine (sameBytes_any A3 A4 l3.length l3.length l3.length c4 l3 l3 rfl rfl w6 hE.bytes (OwnB.bytes ho4)).mono ?_
    rintro e w7 ⟨rfl, hw7⟩
    rw [← hw7] at hm hby1 hi2 hl2 hE hU ho6 hB
    clear hw7 ho4
    rw [decide_eq_true rfl]
    go_wp2_with fail
    refine (sameBytes_any A5 A6 l5.length l5.length l5.length c6 l5 l5 rfl rfl w7 hU.bytes (OwnB.bytes ho6)).mono ?_
    rintro e w8 ⟨rfl, hw8⟩
    rw [← hw8] at hm hby1 hi2 hl2 hE hU hB
    clear hw8 ho6
    rw [decide_eq_true rfl]
    go_wp2_with fail
    refine (sof_any x w8).mono ?_
    rintro e w9 ⟨rfl, hw9⟩
    rw [← hw9] at hm hby1 hi2 hl2 hE hU hB
    clear hw9
    obtain ⟨so, hso⟩ : ∃ y, y = Slot.of x := ⟨_, rfl⟩
    rw [← hso]
    have HSO := Lib.hid hso
    clear hso
    go_wp2_with fail
    refine (rsof_any x w9).mono ?_
    rintro e w10 ⟨rfl, hw10⟩
    rw [← hw10] at hm hby1 hi2 hl2 hE hU hB
    rw [← HSO.out]
    clear hw10
    have d16i := hi2.at_ 16 (msgc_16 f _)
    have d16m := hm.at_ 16 (msgc_16 f _)
    go_wp2_with fail
    refine (keptBytes_any gl c l.length (l.length + 3) l.length A l rfl rfl rfl (by have := HL.out; omega) w10 hl2 hby1).mono ?_
    rintro e w11 ⟨rfl, hbx⟩
    clear d16i d16m
    (replace hi2 := keep hbx hi2; replace hl2 := keep hbx hl2; replace hE := keep hbx hE; replace hU := keep hbx hU)
    replace hB := Lib.hid (hB.out.trans (hbx.mono hB.out.size))
    clear hbx hm hby1
    have d16 := hi2.at_ 16 (msgc_16 f _)
    have hml : (marks l.length).length = 3 := by simp [marks]
    have hbz := (Below.refl w11.heap.size w11).alloc (Nat.le_refl _) (.cells #[.slice A3 l3.length l3.length, .slice A5 l5.length l5.length, .slice (some ⟨gl, 0, none⟩) l.length (l.length + 3)] 27)
    have hgz := Blk.new w11 27 #[.slice A3 l3.length l3.length, .slice A5 l5.length l5.length, .slice (some ⟨gl, 0, none⟩) l.length (l.length + 3)]
    have hll11 := hl2.lt
    have HLT := Lib.hid (And.intro hE.lt (And.intro hU.lt hll11))
    (replace hi2 := keep hbz hi2; replace hl2 := keep hbz hl2)
    have hE12 : Ent.Is _ _ := hE.below hbz hE.lt
    have hU12 : Ent.Is _ _ := hU.below hbz hU.lt
    have HBZ := Lib.hid (hB.out.trans (hbz.mono hB.out.size))
    clear hbz hE hU hi2 hll11
    go_wp2_with fail
    refine (apart_any w.heap.size w11.heap.size 3 [⟨A3, l3.length, l3⟩, ⟨A5, l5.length, l5⟩, ⟨some ⟨gl, 0, none⟩, l.length, l ++ marks l.length⟩] (by simp) _ (by have := HBZ.out.size; omega) ⟨?_, ?_⟩ ?_ ?_ ?_).mono ?_
    · refine hgz.sub ?_
      simp [Ent.val, hml]
    · intro e he
      simp only [List.mem_cons, List.not_mem_nil, or_false] at he
      rcases he with rfl | rfl | rfl
      · exact hE12
      · exact hU12
      · exact ⟨by simp, by have := HL.out; simp [hml]; omega, .inr ⟨gl, _, rfl, hl2⟩⟩
    · have h3 : ∀ g, Ent.blk ⟨A3, l3.length, l3⟩ = some g → w2.heap.size ≤ g ∧ g < w3.heap.size := fun g h => ⟨HEG.out g h, HELT.out g h⟩
      have h5 : ∀ g, Ent.blk ⟨A5, l5.length, l5⟩ = some g → w4.heap.size ≤ g := fun g h => HUG.out g h
      have hl : ∀ g, Ent.blk ⟨some ⟨gl, 0, none⟩, l.length, l ++ marks l.length⟩ = some g → gl = g := fun g h => by simpa [Ent.blk] using h
      have hgl := HGL.out
      have h23 := H23.out
      have h34 := H34.out
      intro i j hi hj hij g hg hg2
      have hi' : i = 0 ∨ i = 1 ∨ i = 2 := by simp at hi; omega
      have hj' : j = 0 ∨ j = 1 ∨ j = 2 := by simp at hj; omega
      rcases hi' with rfl | rfl | rfl <;> rcases hj' with rfl | rfl | rfl
      · exact hij rfl
      · have := h3 g hg; have := h5 g hg2; omega
      · have := h3 g hg; have := hl g hg2; omega
      · have := h5 g hg; have := h3 g hg2; omega
      · exact hij rfl
      · have := h5 g hg; have := hl g hg2; omega
      · have := hl g hg; have := h3 g hg2; omega
      · have := hl g hg; have := h5 g hg2; omega
      · exact hij rfl
    · intro e he
      simp only [List.mem_cons, List.not_mem_nil, or_false] at he
      have h1 := HLT.out.1
      have h2 := HLT.out.2.1
      have h3 := HLT.out.2.2
      rcases he with rfl | rfl | rfl
      · intro h; have := h1 _ h; omega
      · intro h; have := h2 _ h; omega
      · intro h; simp [Ent.blk] at h; omega
    · intro e he g hg
      simp only [List.mem_cons, List.not_mem_nil, or_false] at he
      have h1 := HS0.out
      have h3 := HGE.out
      have h4 := HGL.out
      have h5 := H34.out
      rcases he with rfl | rfl | rfl
      · have := HEG.out g hg; omega
      · have h6 := HUG.out g hg; have h7 := H23.out; omega
      · simp [Ent.blk] at hg; omega
    rintro e w13 ⟨rfl, hbx⟩
    have hB9 := HBZ.out.trans hbx
    clear hbx hgz hl2 hE12 hU12
    go_wp2_with fail
    refine (awake07_any w13).mono ?_
    rintro e w14 ⟨rfl, hbx⟩
    have hB10 := Lib.hid (hB9.trans (hbx.mono hB9.size))
    clear hbx hB9
    go_wp2_with fail
    go_ret
    exact ⟨by simp, hB10.out⟩
end Go.Proofs.YtekdcjaljjlemaaDoor

/- SlotWrites: for every input the law returns true and every argument reads as it did. Condition: the tables of Go's library are as their initialisers lay them (tied to the program's text by the card). -/
namespace Go.Proofs.YtekdcjaljjlemaaDoor
open Go.ChangeShapes Go.WideShapes Go.ChangeAt Go.RowKit
theorem swrites_args (x : msgSh.T) (cs : List Value) (o n : Int) (W : World) (h : Sh.Is W msgSh x cs) :
    Calls Tryd.prog 3 #[.agg cs.toArray, .int .i64 o, .int .i64 n] W fun e w' => e = .returned (.bool true) ∧ Below W.heap.size W w' := by
  obtain ⟨f, A, c, e, hin, h1, h2, hb⟩ := msgSh_is h
  rw [e]
  exact swrites_any f A c x.2.1 o n hin ⟨h1, h2⟩ W hb
set_option maxRecDepth 100000 in
theorem slotWrites_lifted (os : Os) (started : os.Started) (H : Type) (enc : TypeId × Value → H) :
    ReturnsInHanded {} Tryd.checked os 3 .any (fun w args => (Rows.slotWritesSpec.pre enc Tryd.prog Tryd.f3 [] false w args ∧ laidMetH Tryd.prog laid1 w) ∧ sizedMet enc Tryd.prog Tryd.f3 (OpenSpec.ofChange Rows.slotWritesSpec) false w args) (Rows.slotWritesSpec.post enc Tryd.prog Tryd.f3 false true false false) := by
  refine returnsInHanded_of_change_and (C := Tryd.checked) (X := fun w _ => laidMetH Tryd.prog laid1 w) (fun _ _ _ hh h => h.of_heap hh) Tryd.own started (by kernel_rfl) Tryd.func3
    (ChangeSpec.witness_shaped (enc := enc) (C := Tryd.checked) (os := os) (X := fun w _ => laidMetH Tryd.prog laid1 w) false (laidW os) #[.agg #[.int .i64 0, .int .i64 0, .int .i64 0, .int .i64 0, .int .i64 0, .int .i64 0, .int .i64 0, .int .i64 0, .int .i64 0, .int .u64 0, .int .u64 0, .int .i64 0, .int .i64 0, .int .u64 0, .int .i64 0, .int .i64 0, .slice none 0 0], .int .i64 0, .int .i64 0] 8 rfl (World.shaped_of_RefB (by kernel_rfl) (by kernel_rfl)) (by kernel_rfl) (by kernel_rfl) (by kernel_rfl) (door_met os _)) ?_
  intro W base args ds gs before hval0 hW _ _ hL _
  have hval : ∀ (j : Nat) t v, Tryd.f3.params[j]? = some t → args[j]? = some v → Value.okWide Tryd.prog W .any base t v := hval0
  have hW' := hW
  obtain ⟨p, q, hA0, hV, rfl, hfz, hnd⟩ := hW
  have hA : DataW.TrodAll enc Tryd.prog W 0 (fun _ => true) true Tryd.f3.params.toList args.toList ds p := hA0
  rw [Tryd.params3] at hA hval
  obtain ⟨v0, v1, v2, d0, d1, d2, p0, p1, p2, rfl, rfl, rfl, h0, h1, h2⟩ := trodAll_three hA
  obtain ⟨rfl, rfl⟩ := trodVars_none hV
  have h0k := h0
  have h1k := h1
  have h2k := h2
  obtain ⟨x, hx0⟩ := Sh.open_ (P := Tryd.prog) msgSh (by kernel_rfl) h0
  obtain ⟨cs, rfl, hcs⟩ := arg_agg Tryd.underlying29 rfl (hval 0 29 v0 rfl rfl) hx0
  obtain ⟨o, hx1⟩ := Sh.open_ (P := Tryd.prog) (.int .i64) (by kernel_rfl) h1
  obtain ⟨rfl, hlo, hhi⟩ := arg_int Tryd.underlying3 (hval 1 3 v1 rfl rfl) hx1
  obtain ⟨n, hx2⟩ := Sh.open_ (P := Tryd.prog) (.int .i64) (by kernel_rfl) h2
  obtain ⟨rfl, hlo2, hhi2⟩ := arg_int Tryd.underlying3 (hval 2 3 v2 rfl rfl) hx2
  clear hA0 hval0
  simp only [List.append_nil] at hW'
  have hlt : ∀ x ∈ p0 ++ p1 ++ p2, x.block < W.heap.size := fun x hx => by simpa using hW'.lt x hx
  refine (swrites_args x cs o n W hcs).mono fun e W' ⟨he, hw⟩ => ?_
  subst he
  refine ⟨_, rfl, _, _, _, [], p0 ++ p1 ++ p2, [], hW', ?_, ?_, rfl, hw.frame _, fun h => by cases h⟩
  · exact trodAll_mk1 (shut_bool Tryd.underlying4 true)
  · rw [List.append_assoc]; exact trodAll_mk3 (Below.trod Tryd.laidOut (by kernel_rfl) (of_decide_eq_true (by kernel_rfl)) h0k hw (fun x hx => hlt x (by simp [hx]))) (Below.trod Tryd.laidOut (by kernel_rfl) (of_decide_eq_true (by kernel_rfl)) h1k hw (fun x hx => hlt x (by simp [hx]))) (Below.trod Tryd.laidOut (by kernel_rfl) (of_decide_eq_true (by kernel_rfl)) h2k hw (fun x hx => hlt x (by simp [hx])))
theorem slotWrites_holds : Rows.SlotWritesSaid :=
  OpenClaim.holds_of_wide 3 Tryd.f3 rfl rfl rfl rfl rfl rfl rfl ⟨rfl, rfl, rfl, rfl, rfl⟩ rfl rfl rfl rfl rfl (by kernel_rfl) Tryd.func3 (by kernel_rfl)
    (of_decide_eq_true (by kernel_rfl)) (by unfold Func.isWrapper; rw [if_neg (by decide +kernel)]; exact ⟨rfl, rfl⟩)
    (fun os started H enc _ => slotWrites_lifted os started H enc)
theorem slotWrites_card : Rows.SlotWritesCardSaid :=
  Claim7.holds_tied_plain_at .later [] [.data, .pinned] true Rows.slotWritesCard.stood.harness false
    slotWrites_holds (fun _ h => by cases h) (by kernel_rfl) (fun _ h => by cases h) slotWrites_row_tie rfl ⟨rfl, rfl⟩ (by kernel_rfl) rfl
    (fun f fn hf hfn => by
      obtain rfl : f = 3 := Option.some.inj ((show Tryd.prog.funcNamed Rows.slotWritesRow.func = some 3 by kernel_rfl).symm.trans hf) |>.symm
      obtain rfl : fn = Tryd.f3 := (Option.some.inj (Tryd.func3.symm.trans hfn)).symm
      exact ⟨by kernel_rfl, fun j t ht => by
        rw [Tryd.params3] at ht
        have hm : t ∈ [29, 3, 3] := by simpa using Array.mem_of_getElem? ht
        have hall : ([29, 3, 3].all fun u => !Tryd.prog.wantsStandIn u) = true := by kernel_rfl
        exact (show Tryd.prog.wantsStandIn t = false by simpa using List.all_eq_true.1 hall t hm)⟩)
    (by kernel_rfl)
end Go.Proofs.YtekdcjaljjlemaaDoor
