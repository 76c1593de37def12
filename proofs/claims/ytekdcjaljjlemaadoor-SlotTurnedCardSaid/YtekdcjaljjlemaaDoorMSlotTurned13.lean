/- The chapter's examples of slots that each statement looks at. No condition. -/
import Derived.Test.YtekdcjaljjlemaaDoorMSlotTurned12
namespace Go.Proofs.YtekdcjaljjlemaaDoor
open Go.RowKit
theorem Slot.put_same (F G : HdF) (D : List UInt8) (z : Bool) : Slot.put (true, F, D) (2, G) true z = (1, F 5, F 3, false) := by simp [Slot.put]
theorem Slot.put_mend (F G : HdF) (D : List UInt8) (k : Int) (s z : Bool) (h : k ≠ 2) : Slot.put (true, F, D) (k, G) s z = (1, F 5, F 3, true) := by simp [Slot.put, h]
theorem Slot.put_older (F G : HdF) (D : List UInt8) (z : Bool) (h : G 5 < F 5) : Slot.put (true, F, D) (2, G) false z = (1, F 5, F 3, true) := by simp [Slot.put, h]
theorem Slot.put_newer (F G : HdF) (D : List UInt8) (z : Bool) (h : F 5 < G 5) : Slot.put (true, F, D) (2, G) false z = (3, G 5, G 3, false) := by
  have h1 : ¬ G 5 < F 5 := by omega
  have h2 : ¬ G 5 = F 5 := by omega
  simp [Slot.put, h1, h2]
theorem Slot.put_no2 (G : HdF) (s z : Bool) : Slot.put Slot.no (2, G) s z = (3, G 5, G 3, false) := by simp [Slot.put, Slot.no]
theorem Slot.put_no0 (G : HdF) (s z : Bool) : Slot.put Slot.no (0, G) s z = (3, 0, 0, false) := by simp [Slot.put, Slot.no]
theorem Slot.put_no1 (G : HdF) (s z : Bool) : Slot.put Slot.no (1, G) s z = if z = true then (4, 0, 0, false) else (2, 0, 0, false) := by simp [Slot.put, Slot.no]
theorem slot17 : ∃ F, Slot.prep (slotP 17 2) 1 = (true, F, []) ∧ Slot.kind ((slotP 17 2).take 256) 1 = (2, F) ∧ F 5 = 17 ∧ F 3 = 2 := by
  obtain ⟨F, h1, h2, h3⟩ := slotP_prep 17 2 (by omega)
  exact ⟨F, h1, h2, h3 5 (by omega), h3 3 (by omega)⟩
theorem slot1 : ∃ F, Slot.prep (slotP 1 0) 1 = (true, F, []) ∧ Slot.kind ((slotP 1 0).take 256) 1 = (2, F) ∧ F 5 = 1 ∧ F 3 = 0 := by
  obtain ⟨F, h1, h2, h3⟩ := slotP_prep 1 0 (by omega)
  exact ⟨F, h1, h2, h3 5 (by omega), h3 3 (by omega)⟩
theorem slot_ne : (slotP 1 0).take 256 ≠ (slotP 17 2).take 256 := by
  intro e
  obtain ⟨F, _, h1, h2, _⟩ := slot17
  obtain ⟨G, _, g1, g2, _⟩ := slot1
  rw [e, h1] at g1
  injection g1 with _ g1
  rw [g1] at h2; omega
theorem judge_1 : Slot.judge ((slotP 17 2).take 256) (slotP 17 2) 1 = (1, 17, 2, false) := by
  obtain ⟨F, h1, h2, h3, h4⟩ := slot17
  rw [Slot.judge_in _ _ _ (by omega), h1, h2, decide_eq_true rfl, Slot.put_same, h3, h4]
theorem judge_2 : Slot.judge ((slotP 1 0).take 256) (slotP 17 2) 1 = (1, 17, 2, true) := by
  obtain ⟨F, h1, h2, h3, h4⟩ := slot17
  obtain ⟨G, _, g2, g3, g4⟩ := slot1
  rw [Slot.judge_in _ _ _ (by omega), h1, g2, decide_eq_false slot_ne, Slot.put_older _ _ _ _ (by omega), h3, h4]
theorem judge_3 : Slot.judge ((slotP 17 2).take 256) (slotP 1 0) 1 = (3, 17, 2, false) := by
  obtain ⟨F, _, h2, h3, h4⟩ := slot17
  obtain ⟨G, g1, _, g3, g4⟩ := slot1
  rw [Slot.judge_in _ _ _ (by omega), g1, h2, decide_eq_false (fun e => slot_ne e.symm), Slot.put_newer _ _ _ _ (by omega), h3, h4]
set_option maxRecDepth 100000 in
set_option maxHeartbeats 4000000 in
theorem awake07_any (w : World) : Calls Tryd.prog 17 #[] w fun e w' => e = .returned (.bool true) ∧ Below w.heap.size w w' := by
  go_enter Tryd.func17, Tryd.ntmps17
  go_wp2_with fail
  refine (prepare_any 17 2 (by omega) w).mono ?_
  rintro e w1 ⟨g1, t1, rfl, hge1, hb1, hB⟩
  have HP := Lib.hid (slotP_length 17 2)
  have HQ := Lib.hid (slotP_length 1 0)
  have J1 := Lib.hid judge_1
  have J2 := Lib.hid judge_2
  have J3 := Lib.hid judge_3
  obtain ⟨X, hX⟩ : ∃ X, X = slotP 17 2 := ⟨_, rfl⟩
  obtain ⟨Y, hY⟩ : ∃ Y, Y = slotP 1 0 := ⟨_, rfl⟩
  rw [← hX] at HP J1 J2 J3 hb1
  rw [← hY] at HQ J2 J3
  have HY := Lib.hid hY
  clear hX hY
  clear hge1
  go_wp2_with (first
    | ((with_reducible show wpList _ _ _ ((⟨none, _, _, _, _, _⟩ : Oper) :: _) _ _); refine wpList_store_blk (o := ⟨none, _, _, _, _, _⟩) ((Blk.new w1 29 #[.int .i64 0, .int .i64 0, .int .i64 0, .int .i64 0, .int .i64 0, .int .i64 0, .int .i64 0, .int .i64 0, .int .i64 0, .int .u64 0, .int .u64 0, .int .i64 0, .int .i64 0, .int .u64 0, .int .i64 0, .int .i64 0, .slice none 0 0])) (by rfl) _ _ _ (by rfl) (by rfl) (msgc (fP 17 2) (.slice none 0 0)) (by rfl) (sizeMsg) (by rfl) (msgc_size _ _) (msgc_one _ _ rfl) ?_; intro w2 h2 hu2; have hbx := ((Below.refl w1.heap.size w1).alloc (Nat.le_refl _) (.cells #[.int .i64 0, .int .i64 0, .int .i64 0, .int .i64 0, .int .i64 0, .int .i64 0, .int .i64 0, .int .i64 0, .int .i64 0, .int .u64 0, .int .u64 0, .int .i64 0, .int .i64 0, .int .u64 0, .int .i64 0, .int .i64 0, .slice none 0 0] 29)).upd hu2 (Nat.le_refl _); (replace hb1 := keep hbx hb1; replace hB := hB.trans (hbx.mono hB.size)); clear hbx hu2 h2)
    | fail)
  refine (prepare_any 1 0 (by omega) w2).mono ?_
  rintro e w3 ⟨g2, t2, rfl, hge2, hb2, hbx⟩
  (replace hb1 := keep hbx hb1; replace hB := hB.trans (hbx.mono hB.size))
  clear hbx hge2
  rw [← HY.out] at hb2
  go_wp2_with (first
    | ((with_reducible show wpList _ _ _ ((⟨none, _, _, _, _, _⟩ : Oper) :: _) _ _); refine wpList_store_blk (o := ⟨none, _, _, _, _, _⟩) ((Blk.new w3 29 #[.int .i64 0, .int .i64 0, .int .i64 0, .int .i64 0, .int .i64 0, .int .i64 0, .int .i64 0, .int .i64 0, .int .i64 0, .int .u64 0, .int .u64 0, .int .i64 0, .int .i64 0, .int .u64 0, .int .i64 0, .int .i64 0, .slice none 0 0])) (by rfl) _ _ _ (by rfl) (by rfl) (msgc (fP 1 0) (.slice none 0 0)) (by rfl) (sizeMsg) (by rfl) (msgc_size _ _) (msgc_one _ _ rfl) ?_; intro w4 h4 hu4; have hbx := ((Below.refl w3.heap.size w3).alloc (Nat.le_refl _) (.cells #[.int .i64 0, .int .i64 0, .int .i64 0, .int .i64 0, .int .i64 0, .int .i64 0, .int .i64 0, .int .i64 0, .int .i64 0, .int .u64 0, .int .u64 0, .int .i64 0, .int .i64 0, .int .u64 0, .int .i64 0, .int .i64 0, .slice none 0 0] 29)).upd hu4 (Nat.le_refl _); (replace hb1 := keep hbx hb1; replace hb2 := keep hbx hb2; replace hB := hB.trans (hbx.mono hB.size)); clear hbx hu4 h4)
    | fail)
  refine (sof_any 17 w4).mono ?_
  rintro e w5 ⟨rfl, hw5⟩
  rw [show Slot.of 17 = 1 from rfl]
  rw [← hw5] at hb1 hb2 hB
  clear hw5
  go_wp2_with fail
  refine (judge_any (some ⟨g1, 0, none⟩) (some ⟨g1, 0, none⟩) 256 1280 1280 1280 (X.take 256) (X) 1 (by omega) (⟨by rw [List.length_take, HP.out]; rfl, by omega, by omega⟩) (⟨HP.out.symm, Nat.le_refl _, by omega, by omega⟩) _ (hb1.bytes.take 256) (hb1.bytes)).mono ?_
  rintro e w6 ⟨rfl, hbx⟩
  (replace hb1 := keep hbx hb1; replace hb2 := keep hbx hb2; replace hB := hB.trans (hbx.mono hB.size); clear hbx)
  rw [J1.out]
  go_wp2_with fail
  refine (isst_any _ (1) (17) (2) (false) _).mono ?_
  rintro e w7 ⟨rfl, hbx⟩
  (replace hb1 := keep hbx hb1; replace hb2 := keep hbx hb2; replace hB := hB.trans (hbx.mono hB.size); clear hbx)
  rw [decide_eq_true rfl]
  go_wp2_with fail
  refine (judge_any (some ⟨g2, 0, none⟩) (some ⟨g1, 0, none⟩) 256 1280 1280 1280 (Y.take 256) (X) 1 (by omega) (⟨by rw [List.length_take, HQ.out]; rfl, by omega, by omega⟩) (⟨HP.out.symm, Nat.le_refl _, by omega, by omega⟩) _ (hb2.bytes.take 256) (hb1.bytes)).mono ?_
  rintro e w8 ⟨rfl, hbx⟩
  (replace hb1 := keep hbx hb1; replace hb2 := keep hbx hb2; replace hB := hB.trans (hbx.mono hB.size); clear hbx)
  rw [J2.out]
  go_wp2_with fail
  refine (isst_any _ (1) (17) (2) (true) _).mono ?_
  rintro e w9 ⟨rfl, hbx⟩
  (replace hb1 := keep hbx hb1; replace hb2 := keep hbx hb2; replace hB := hB.trans (hbx.mono hB.size); clear hbx)
  rw [decide_eq_true rfl]
  go_wp2_with fail
  refine (judge_any (some ⟨g1, 0, none⟩) (some ⟨g2, 0, none⟩) 256 1280 1280 1280 (X.take 256) (Y) 1 (by omega) (⟨by rw [List.length_take, HP.out]; rfl, by omega, by omega⟩) (⟨HQ.out.symm, Nat.le_refl _, by omega, by omega⟩) _ (hb1.bytes.take 256) (hb2.bytes)).mono ?_
  rintro e w10 ⟨rfl, hbx⟩
  (replace hb1 := keep hbx hb1; replace hb2 := keep hbx hb2; replace hB := hB.trans (hbx.mono hB.size); clear hbx)
  rw [J3.out]
  go_wp2_with fail
  refine (isst_any _ (3) (17) (2) (false) _).mono ?_
  rintro e w11 ⟨rfl, hbx⟩
  (replace hb1 := keep hbx hb1; replace hb2 := keep hbx hb2; replace hB := hB.trans (hbx.mono hB.size); clear hbx)
  rw [decide_eq_true rfl]
  have HB := Lib.hid hB
  clear hb1 hb2 hB
  go_wp2
  go_ret
  exact ⟨rfl, HB.out⟩
end Go.Proofs.YtekdcjaljjlemaaDoor

/- The chapter's examples of slots are answered as it says: the statement, as a call. No condition. -/
namespace Go.Proofs.YtekdcjaljjlemaaDoor
open Go.RowKit
theorem zeros_read : (Hd.read (List.replicate 256 (0 : UInt8))).1 ≠ 0 := Hd.read_no _ (by decide +kernel)
theorem sevens_read : (Hd.read (List.replicate 256 (7 : UInt8))).1 ≠ 0 := Hd.read_no _ (by decide +kernel)
theorem Slot.prep_unread {b : List UInt8} {n : Int} (h : (Hd.read (b.take 256)).1 ≠ 0) : Slot.prep b n = Slot.no := by
  unfold Slot.prep
  by_cases h1 : b.length < 256
  · rw [if_pos h1]
  · rw [if_neg h1, if_pos h]
theorem zeros_prep (n : Int) : Slot.prep (List.replicate 1280 (0 : UInt8)) n = Slot.no := Slot.prep_unread (by rw [List.take_replicate]; exact zeros_read)
theorem sevens_prep (n : Int) : Slot.prep (List.replicate 1280 (7 : UInt8)) n = Slot.no := Slot.prep_unread (by rw [List.take_replicate]; exact sevens_read)
theorem judge_4 : Slot.judge (Hd.bytes (Slot.fU 1) []) (slotP 17 2) 1 = (1, 17, 2, true) := by
  obtain ⟨F, h1, h2, h3, h4⟩ := slot17
  rw [Slot.judge_in _ _ _ (by omega), h1, Slot.kind_unw 1 (by omega), Slot.put_mend _ _ _ _ _ _ (by omega), h3, h4]
theorem judge_5 : Slot.judge ((slotP 17 2).take 256) (List.replicate 1280 (0 : UInt8)) 1 = (3, 17, 2, false) := by
  obtain ⟨F, h1, h2, h3, h4⟩ := slot17
  rw [Slot.judge_in _ _ _ (by omega), zeros_prep, h2, Slot.put_no2, h3, h4]
theorem judge_6 : Slot.judge (Hd.bytes (Slot.fU 1) []) (List.replicate 1280 (0 : UInt8)) 1 = (4, 0, 0, false) := by
  rw [Slot.judge_in _ _ _ (by omega), zeros_prep, Slot.kind_unw 1 (by omega), Slot.put_no1, if_pos (by rw [List.all_eq_true]; intro x hx; rw [List.eq_of_mem_replicate hx]; rfl)]
theorem judge_7 : Slot.judge (Hd.bytes (Slot.fU 1) []) (List.replicate 1280 (7 : UInt8)) 1 = (2, 0, 0, false) := by
  rw [Slot.judge_in _ _ _ (by omega), sevens_prep, Slot.kind_unw 1 (by omega), Slot.put_no1, if_neg ?_]
  intro h
  have := List.all_eq_true.1 h 7 (List.mem_replicate.2 ⟨by omega, rfl⟩)
  simp at this
theorem judge_8 : Slot.judge ((List.replicate 1280 (0 : UInt8)).take 256) (List.replicate 1280 (0 : UInt8)) 1 = (3, 0, 0, false) := by
  rw [Slot.judge_in _ _ _ (by omega), zeros_prep, Slot.kind_broken (by rw [List.take_replicate]; exact zeros_read), Slot.put_no0]
theorem judge_9 : Slot.judge ((slotP 17 2).take 256) (slotP 17 2) 2 = (3, 0, 0, false) := by
  have ht := slotP_take 17 2
  obtain ⟨h1, h2, h3, h4⟩ := fP_ok 17 2 (by omega)
  obtain ⟨hr, hs⟩ := Hd.read_bytes (fP 17 2) [] h1 h2
  rw [List.take_of_length_le (by rw [Hd.bytes_length]; simp)] at hr hs
  have hi : Slot.is (Hd.parse (Hd.bytes (fP 17 2) [])) 2 = false := by rw [Slot.is_same hs]; rfl
  have hp : Slot.prep (slotP 17 2) 2 = Slot.no := by
    unfold Slot.prep
    rw [if_neg (by rw [slotP_length]; omega), ht, if_neg (by rw [hr]; simp), if_pos hi]
  have hk : Slot.kind (Hd.bytes (fP 17 2) []) 2 = (0, Hd.none_) := by
    unfold Slot.kind
    rw [if_neg (by rw [hr]; simp), if_neg ?_, if_neg (by rw [hi]; simp)]
    intro e
    have h5 := (Slot.fU_bytes 2 (by omega)).2.2 0 (by omega)
    rw [← e, hs 0 (by omega)] at h5
    simp [fP, Slot.fU] at h5
  rw [Slot.judge_in _ _ _ (by omega), hp, ht, hk, Slot.put_no0]
theorem f20_bytes : Slot.bytes (fP 0 0) [] = (2, []) := by
  have h1 : Hd.ok (fP 0 0) = true := by decide +kernel
  have hs : Msg.seal_ (fP 0 0) [] = (0, Hd.bytes (fP 0 0) []) := by
    unfold Msg.seal_
    rw [if_neg (by simp), show (([] : List UInt8).length : Int) = 0 from rfl, setF_self (fP 0 0) 2 0 rfl, if_pos h1]
  unfold Slot.bytes
  rw [hs, if_pos rfl, if_neg (by decide)]
theorem known_prep : ∃ F, Slot.prep (slotP 17 2) 1 = (true, F, []) ∧ Hd.same F (fP 17 2) := by
  obtain ⟨F, h1, _, h2⟩ := slotP_prep 17 2 (by omega)
  exact ⟨F, h1, h2⟩
def SevRel (g : Nat) (w : World) (v : Value) (wr : World) : Prop :=
  ∃ i : Nat, i ≤ 1280 ∧ v = .int .i64 (i : Int) ∧ Blk wr g 5 ((List.replicate i (7 : UInt8) ++ List.replicate (1280 - i) 0).map u8v).toArray ∧ Upd g w wr
theorem sev_set (i : Nat) (h : i < 1280) : ((List.replicate i (7 : UInt8) ++ List.replicate (1280 - i) 0).map u8v).toArray.setIfInBounds i (.int .u8 7) = ((List.replicate (i + 1) (7 : UInt8) ++ List.replicate (1280 - (i + 1)) 0).map u8v).toArray := by
  have e : 1280 - i = (1280 - (i + 1)) + 1 := by omega
  apply Array.ext'
  rw [List.setIfInBounds_toArray, e, List.replicate_succ, List.map_append, List.map_cons, List.set_append_right _ _ (by simp), List.length_map, List.length_replicate, Nat.sub_self, List.set_cons_zero,
    List.replicate_succ', List.append_assoc, List.map_append]
  rfl
set_option maxRecDepth 100000 in
set_option maxHeartbeats 8000000 in
theorem known07_any (w : World) : Calls Tryd.prog 4 #[] w fun e w' => e = .returned (.bool true) ∧ Below w.heap.size w w' := by
  go_enter Tryd.func4, Tryd.ntmps4
  go_wp2_with fail
  refine (prepare_any 17 2 (by omega) w).mono ?_
  rintro e w1 ⟨g1, t1, rfl, hge1, hb1, hB⟩
  clear hge1
  obtain ⟨F, hF, hFs⟩ := known_prep
  have HF := Lib.hid (And.intro hF hFs)
  clear hF hFs
  have HP := Lib.hid (slotP_length 17 2)
  have J4 := Lib.hid judge_4
  have J5 := Lib.hid judge_5
  have J6 := Lib.hid judge_6
  have J7 := Lib.hid judge_7
  have J8 := Lib.hid judge_8
  have J9 := Lib.hid judge_9
  obtain ⟨X, hX⟩ : ∃ X, X = slotP 17 2 := ⟨_, rfl⟩
  obtain ⟨U, hU⟩ : ∃ U, U = Hd.bytes (Slot.fU 1) [] := ⟨_, rfl⟩
  rw [← hX] at HP J4 J5 J9 hb1 HF
  rw [← hU] at J4 J6 J7
  have HUL := Lib.hid (show U.length = 256 by rw [hU]; exact Hd.bytes_length _ _)
  have HU := Lib.hid hU
  clear hX hU
  go_wp2_with (first
    | ((with_reducible show wpList _ _ _ ((⟨none, _, _, _, _, _⟩ : Oper) :: _) _ _); refine wpList_store_blk (o := ⟨none, _, _, _, _, _⟩) ((Blk.new w1 29 #[.int .i64 0, .int .i64 0, .int .i64 0, .int .i64 0, .int .i64 0, .int .i64 0, .int .i64 0, .int .i64 0, .int .i64 0, .int .u64 0, .int .u64 0, .int .i64 0, .int .i64 0, .int .u64 0, .int .i64 0, .int .i64 0, .slice none 0 0])) (by rfl) _ _ _ (by rfl) (by rfl) (msgc (fP 17 2) (.slice none 0 0)) (by rfl) (sizeMsg) (by rfl) (msgc_size _ _) (msgc_one _ _ rfl) ?_; intro w2 h2 hu2; have hbx := ((Below.refl w1.heap.size w1).alloc (Nat.le_refl _) (.cells #[.int .i64 0, .int .i64 0, .int .i64 0, .int .i64 0, .int .i64 0, .int .i64 0, .int .i64 0, .int .i64 0, .int .i64 0, .int .u64 0, .int .u64 0, .int .i64 0, .int .i64 0, .int .u64 0, .int .i64 0, .int .i64 0, .slice none 0 0] 29)).upd hu2 (Nat.le_refl _); (replace hb1 := keep hbx hb1; replace hB := hB.trans (hbx.mono hB.size)); clear hbx hu2)
    | fail)
  obtain ⟨gm, hgm⟩ : ∃ x, x = w1.heap.size := ⟨_, rfl⟩
  rw [← hgm] at h2 ⊢
  clear hgm
  refine (sunw_any 1 w2).mono ?_
  rintro e w3 ⟨E, rfl, hE, hEg, hEn, hEl, hbx⟩
  (replace hb1 := keep hbx hb1; replace h2 := keep hbx h2; replace hB := hB.trans (hbx.mono hB.size))
  clear hbx hEg
  rw [show Slot.unw 1 = (0, Hd.bytes (Slot.fU 1) []) from rfl, ← HU.out] at hEl
  rw [show Slot.unw 1 = (0, Hd.bytes (Slot.fU 1) []) from rfl]
  obtain ⟨A3, n3, l3⟩ := E
  dsimp only at hEn hEl
  subst hEl hEn
  obtain ⟨gu, tu, e3, hbu, -⟩ := Ent.Is.blk_ hE (by dsimp only; rw [HUL.out]; omega)
  dsimp only at e3 hbu
  subst e3
  clear hE
  dsimp only [Ent.val]
  rw [HUL.out]
  go_wp2_with fail
  rw [← fP_cells]
  refine (sbytes_any (fP 0 0) none 0 0 [] w3 rfl (nilBytes w3) ⟨Nat.le_refl _, by omega⟩ (by unfold Hd.in_ fP; simp)).mono ?_
  rintro e w4 ⟨E, rfl, -, -, -, -, hbx⟩
  (replace hb1 := keep hbx hb1; replace h2 := keep hbx h2; replace hbu := keep hbx hbu; replace hB := hB.trans (hbx.mono hB.size))
  clear hbx
  rw [f20_bytes]
  generalize E.val = EV
  go_wp2_with fail
  refine (awake07_any w4).mono ?_
  rintro e w5 ⟨rfl, hbx⟩
  (replace hb1 := keep hbx hb1; replace h2 := keep hbx h2; replace hbu := keep hbx hbu; replace hB := hB.trans (hbx.mono hB.size))
  clear hbx
  go_wp2_with fail
  refine wp_region_tree (Below w5.heap.size w5) [] (.opt 0 (PlanT.takes [2] (.opt 1 (PlanT.takes [3] .done) .no)) (.opt 1 (.opt 0 (PlanT.takes [2, 3] .done) .no) .no)) (by kernel_rfl) (by kernel_rfl) ((Below.refl _ _).drew) ?_
  apply share (α := Nat × Nat) (F := fun x wZ => Blk wZ x.1 5 ((List.replicate 1280 (0 : UInt8)).map u8v).toArray ∧ Blk wZ x.2 5 ((List.replicate 1280 (0 : UInt8)).map u8v).toArray ∧ Below w5.heap.size w5 wZ ∧ w5.heap.size ≤ x.1 ∧ w5.heap.size ≤ x.2 ∧ x.1 ≠ x.2)
  · intro KK
    refine wpTree_opt _ rfl ?_ (wpTree_one _ rfl ?_)
    · go_wp2_with (first
        | ((with_reducible show wpList _ _ _ ((⟨some 48, _, _, _, _, _⟩ : Oper) :: _) _ _); refine wpList_make_bytes (o := ⟨some 48, _, _, _, _, _⟩) _ (by rfl) _ _ _ (by rfl) _ Tryd.underlying27 u8info .i64 .i64 _ _ (1280) (1280) (by rfl) (by rfl) (by first | rfl | omega) (by first | rfl | omega) (by omega) (by omega) ?_; intro w6 h6 hb6 hs6)
        | fail)
      have hc6 : Below w5.heap.size w5 w6 := (Below.refl _ _).drew.trans (hb6.mono (Nat.le_refl _))
      have hge : w5.heap.size ≤ w5.drew.heap.size := Nat.le_refl _
      have hlt := h6.lt
      clear hb6 hs6
      refine TreeQ.in_ hc6 ?_
      refine wpTree_pure _ _ _ (by rfl) (by rfl) ?_
      dsimp only [List.filterMap, List.getElem?_cons_zero, List.getElem?_cons_succ]
      repeat (go_big_quiet_step (fail))
      refine wpQuiet_nil ?_
      refine wpTree_one _ rfl ?_
      go_wp2_with (first
        | ((with_reducible show wpList _ _ _ ((⟨some 49, _, _, _, _, _⟩ : Oper) :: _) _ _); refine wpList_make_bytes (o := ⟨some 49, _, _, _, _, _⟩) _ (by rfl) _ _ _ (by rfl) _ Tryd.underlying27 u8info .i64 .i64 _ _ (1280) (1280) (by rfl) (by rfl) (by first | rfl | omega) (by first | rfl | omega) (by omega) (by omega) ?_; intro w7 h7 hb7 hs7)
        | fail)
      have h6' := h6.below hb7 hlt
      have hc7 := hc6.trans (hb7.mono hc6.size)
      have hge2 := hc6.size
      clear hb7 hs7 h6
      refine TreeQ.in_ hc7 ?_
      refine wpTree_pure _ _ _ (by rfl) (by rfl) ?_
      dsimp only [List.filterMap, List.getElem?_cons_zero, List.getElem?_cons_succ]
      repeat (go_big_quiet_step (fail))
      refine wpQuiet_nil ?_
      refine wpTree_done ?_
      obtain ⟨x, hx⟩ : ∃ x : Nat × Nat, x = (w5.heap.size, w6.heap.size) := ⟨_, rfl⟩
      have e1 : w5.heap.size = x.1 := by rw [hx]
      have e2 : w6.heap.size = x.2 := by rw [hx]
      rw [show Value.slice (some ⟨w5.heap.size, 0, none⟩) 1280 1280 = .slice (some ⟨x.1, 0, none⟩) 1280 1280 by rw [← e1], show Value.slice (some ⟨w6.heap.size, 0, none⟩) 1280 1280 = .slice (some ⟨x.2, 0, none⟩) 1280 1280 by rw [← e2]]
      exact KK x w7 ⟨by rw [← e1]; exact h6', by rw [← e2]; exact h7, hc7, by rw [← e1]; exact hge, by rw [← e2]; exact hge2, by have h : w5.heap.size < w6.heap.size := hlt; omega⟩
    · go_wp2_with (first
        | ((with_reducible show wpList _ _ _ ((⟨some 49, _, _, _, _, _⟩ : Oper) :: _) _ _); refine wpList_make_bytes (o := ⟨some 49, _, _, _, _, _⟩) _ (by rfl) _ _ _ (by rfl) _ Tryd.underlying27 u8info .i64 .i64 _ _ (1280) (1280) (by rfl) (by rfl) (by first | rfl | omega) (by first | rfl | omega) (by omega) (by omega) ?_; intro w6 h6 hb6 hs6)
        | fail)
      have hc6 : Below w5.heap.size w5 w6 := (Below.refl _ _).drew.trans (hb6.mono (Nat.le_refl _))
      have hge : w5.heap.size ≤ w5.drew.heap.size := Nat.le_refl _
      have hlt := h6.lt
      clear hb6 hs6
      refine TreeQ.in_ hc6 ?_
      refine wpTree_one _ rfl ?_
      go_wp2_with (first
        | ((with_reducible show wpList _ _ _ ((⟨some 48, _, _, _, _, _⟩ : Oper) :: _) _ _); refine wpList_make_bytes (o := ⟨some 48, _, _, _, _, _⟩) _ (by rfl) _ _ _ (by rfl) _ Tryd.underlying27 u8info .i64 .i64 _ _ (1280) (1280) (by rfl) (by rfl) (by first | rfl | omega) (by first | rfl | omega) (by omega) (by omega) ?_; intro w7 h7 hb7 hs7)
        | fail)
      have h6' := h6.below hb7 hlt
      have hc7 := hc6.trans (hb7.mono hc6.size)
      have hge2 := hc6.size
      clear hb7 hs7 h6
      refine TreeQ.in_ hc7 ?_
      refine wpTree_pure _ _ _ (by rfl) (by rfl) ?_
      dsimp only [List.filterMap, List.getElem?_cons_zero, List.getElem?_cons_succ]
      repeat (go_big_quiet_step (fail))
      refine wpQuiet_nil ?_
      refine wpTree_done ?_
      obtain ⟨x, hx⟩ : ∃ x : Nat × Nat, x = (w6.heap.size, w5.heap.size) := ⟨_, rfl⟩
      have e1 : w6.heap.size = x.1 := by rw [hx]
      have e2 : w5.heap.size = x.2 := by rw [hx]
      rw [show Value.slice (some ⟨w6.heap.size, 0, none⟩) 1280 1280 = .slice (some ⟨x.1, 0, none⟩) 1280 1280 by rw [← e1], show Value.slice (some ⟨w5.heap.size, 0, none⟩) 1280 1280 = .slice (some ⟨x.2, 0, none⟩) 1280 1280 by rw [← e2]]
      exact KK x w7 ⟨by rw [← e1]; exact h7, by rw [← e2]; exact h6', hc7, by rw [← e1]; exact hge2, by rw [← e2]; exact hge, by have h : w5.heap.size < w6.heap.size := hlt; omega⟩
  · rintro ⟨gn, gs⟩ w6 ⟨hbn, hbs, hC, hg1, hg2, hne⟩
    dsimp only at hbn hbs hg1 hg2 hne ⊢
    have hl1 := hb1.lt
    have hlm := h2.lt
    have hlu := hbu.lt
    have hNE := Lib.hid (show g1 ≠ gs ∧ gm ≠ gs ∧ gu ≠ gs ∧ gn ≠ gs by omega)
    have hBg := Lib.hid (show w.heap.size ≤ gs by have := hB.size; omega)
    (replace hb1 := keep hC hb1; replace h2 := keep hC h2; replace hbu := keep hC hbu; replace hB := hB.trans (hC.mono hB.size))
    have HST := Lib.hid (And.intro hb1 (And.intro h2 (And.intro hbu (And.intro hbn hB))))
    clear hC hg1 hg2 hne hl1 hlm hlu hb1 h2 hbu hbn hB
    go_wp2_with fail
    go_loopw [10] (fun v wr => SevRel gs w6 v wr) (fun v _ => 1280 - (intOf v).toNat)
    case atStart => exact ⟨0, by omega, rfl, hbs.sub (by rfl), Upd.refl _ _⟩
    case round =>
      obtain ⟨i, hi, rfl, hs, hu⟩ := hrel
      by_cases hlt : i < 1280
      · have d0 : ∃ u, wr.cell? ⟨gs, i, none⟩ = some u := by
          rw [hs.cell]
          exact ⟨_, Array.getElem?_eq_getElem (by simp; omega)⟩
        obtain ⟨u, d0⟩ := d0
        have f0 := hs.frozen i
        have HO := Lib.hid (And.intro ((hs.set_ i (.int .u8 7)).sub (sev_set i hlt)) (hu.set i (.int .u8 7)))
        clear hs hu hbs
        go_wp2
        go_roundw
        case rel => exact ⟨i + 1, by omega, by go_num, HO.out.1, HO.out.2⟩
        case measure => simp [intOf]; omega
      · obtain rfl : i = 1280 := by omega
        clear hbs
        obtain ⟨hb1, h2, hbu, hbn, hB⟩ := HST.out
        clear HST hi hlt
        replace hb1 := hb1.upd hu hNE.out.1
        replace h2 := h2.upd hu hNE.out.2.1
        replace hbu := hbu.upd hu hNE.out.2.2.1
        replace hbn := hbn.upd hu hNE.out.2.2.2
        replace hB := hB.upd hu hBg.out
        have hbs : Blk wr gs 5 ((List.replicate 1280 (7 : UInt8)).map u8v).toArray := hs.sub (by simp)
        clear hs hu
        go_wp2_with fail
        refine (sprep_any (some ⟨g1, 0, none⟩) 1280 1280 X 1 HP.out.symm (Nat.le_refl _) ⟨by omega, by omega⟩ wr hb1.bytes).mono ?_
        rintro e w8 ⟨V, rfl, ⟨sp8, ho8⟩, hbx⟩
        (replace hb1 := keep hbx hb1; replace h2 := keep hbx h2; replace hbu := keep hbx hbu; replace hbn := keep hbx hbn; replace hbs := keep hbx hbs; replace hB := hB.trans (hbx.mono hB.size))
        clear hbx
        rw [HF.out.1] at ho8 ⊢
        dsimp only at ho8 ⊢
        obtain ⟨V2, vc, rfl, -⟩ := OwnB.open_ ho8
        rw [show ([] : List UInt8).length = 0 from rfl] at ho8 ⊢
        go_wp2_with (first
          | ((with_reducible show wpList _ _ _ ((⟨none, _, _, _, _, _⟩ : Oper) :: _) _ _); refine wpList_store_blk (o := ⟨none, _, _, _, _, _⟩) ((Blk.new w8 29 #[.int .i64 0, .int .i64 0, .int .i64 0, .int .i64 0, .int .i64 0, .int .i64 0, .int .i64 0, .int .i64 0, .int .i64 0, .int .u64 0, .int .u64 0, .int .i64 0, .int .i64 0, .int .u64 0, .int .i64 0, .int .i64 0, .slice none 0 0])) (by rfl) _ _ _ (by rfl) (by rfl) (msgc F (.slice V2 0 vc)) (by rfl) (sizeMsg) (by rfl) (msgc_size _ _) (msgc_one _ _ rfl) ?_; intro w9 h9 hu9; have hbx := ((Below.refl w8.heap.size w8).alloc (Nat.le_refl _) (.cells #[.int .i64 0, .int .i64 0, .int .i64 0, .int .i64 0, .int .i64 0, .int .i64 0, .int .i64 0, .int .i64 0, .int .i64 0, .int .u64 0, .int .u64 0, .int .i64 0, .int .i64 0, .int .u64 0, .int .i64 0, .int .i64 0, .slice none 0 0] 29)).upd hu9 (Nat.le_refl _); (replace hb1 := keep hbx hb1; replace h2 := keep hbx h2; replace hbu := keep hbx hbu; replace hbn := keep hbx hbn; replace hbs := keep hbx hbs; replace ho8 := keep hbx ho8; replace hB := hB.trans (hbx.mono hB.size)); clear hbx hu9)
          | fail)
        obtain ⟨gx, hgx⟩ : ∃ x, x = w8.heap.size := ⟨_, rfl⟩
        rw [← hgx] at h9 ⊢
        clear hgx
        go_wp2_with fail
        refine (judge_any (some ⟨gu, 0, none⟩) (some ⟨g1, 0, none⟩) 256 256 1280 1280 (l3) (X) 1 (by omega) (⟨HUL.out.symm, Nat.le_refl _, by omega⟩) (⟨HP.out.symm, Nat.le_refl _, by omega, by omega⟩) _ (hbu.bytes) (hb1.bytes)).mono ?_
        rintro e w10 ⟨rfl, hbx⟩
        (replace hb1 := keep hbx hb1; replace h2 := keep hbx h2; replace hbu := keep hbx hbu; replace hbn := keep hbx hbn; replace hbs := keep hbx hbs; replace h9 := keep hbx h9; replace ho8 := keep hbx ho8; replace hB := hB.trans (hbx.mono hB.size); clear hbx)
        rw [J4.out]
        go_wp2_with fail
        refine (isst_any _ (1) (17) (2) (true) _).mono ?_
        rintro e w11 ⟨rfl, hbx⟩
        (replace hb1 := keep hbx hb1; replace h2 := keep hbx h2; replace hbu := keep hbx hbu; replace hbn := keep hbx hbn; replace hbs := keep hbx hbs; replace h9 := keep hbx h9; replace ho8 := keep hbx ho8; replace hB := hB.trans (hbx.mono hB.size); clear hbx)
        rw [decide_eq_true rfl]
        go_wp2_with fail
        refine (judge_any (some ⟨g1, 0, none⟩) (some ⟨gn, 0, none⟩) 256 1280 1280 1280 (X.take 256) (List.replicate 1280 (0 : UInt8)) 1 (by omega) (⟨by rw [List.length_take, HP.out]; rfl, by omega, by omega⟩) (⟨(List.length_replicate ..).symm, Nat.le_refl _, by omega, by omega⟩) _ (hb1.bytes.take 256) (hbn.bytes)).mono ?_
        rintro e w12 ⟨rfl, hbx⟩
        (replace hb1 := keep hbx hb1; replace h2 := keep hbx h2; replace hbu := keep hbx hbu; replace hbn := keep hbx hbn; replace hbs := keep hbx hbs; replace h9 := keep hbx h9; replace ho8 := keep hbx ho8; replace hB := hB.trans (hbx.mono hB.size); clear hbx)
        rw [J5.out]
        go_wp2_with fail
        refine (isst_any _ (3) (17) (2) (false) _).mono ?_
        rintro e w13 ⟨rfl, hbx⟩
        (replace hb1 := keep hbx hb1; replace h2 := keep hbx h2; replace hbu := keep hbx hbu; replace hbn := keep hbx hbn; replace hbs := keep hbx hbs; replace h9 := keep hbx h9; replace ho8 := keep hbx ho8; replace hB := hB.trans (hbx.mono hB.size); clear hbx)
        rw [decide_eq_true rfl]
        go_wp2_with fail
        refine (judge_any (some ⟨gu, 0, none⟩) (some ⟨gn, 0, none⟩) 256 256 1280 1280 (l3) (List.replicate 1280 (0 : UInt8)) 1 (by omega) (⟨HUL.out.symm, Nat.le_refl _, by omega⟩) (⟨(List.length_replicate ..).symm, Nat.le_refl _, by omega, by omega⟩) _ (hbu.bytes) (hbn.bytes)).mono ?_
        rintro e w14 ⟨rfl, hbx⟩
        (replace hb1 := keep hbx hb1; replace h2 := keep hbx h2; replace hbu := keep hbx hbu; replace hbn := keep hbx hbn; replace hbs := keep hbx hbs; replace h9 := keep hbx h9; replace ho8 := keep hbx ho8; replace hB := hB.trans (hbx.mono hB.size); clear hbx)
        rw [J6.out]
        go_wp2_with fail
        refine (isst_any _ (4) (0) (0) (false) _).mono ?_
        rintro e w15 ⟨rfl, hbx⟩
        (replace hb1 := keep hbx hb1; replace h2 := keep hbx h2; replace hbu := keep hbx hbu; replace hbn := keep hbx hbn; replace hbs := keep hbx hbs; replace h9 := keep hbx h9; replace ho8 := keep hbx ho8; replace hB := hB.trans (hbx.mono hB.size); clear hbx)
        rw [decide_eq_true rfl]
        go_wp2_with fail
        refine (judge_any (some ⟨gu, 0, none⟩) (some ⟨gs, 0, none⟩) 256 256 1280 1280 (l3) (List.replicate 1280 (7 : UInt8)) 1 (by omega) (⟨HUL.out.symm, Nat.le_refl _, by omega⟩) (⟨(List.length_replicate ..).symm, Nat.le_refl _, by omega, by omega⟩) _ (hbu.bytes) (hbs.bytes)).mono ?_
        rintro e w16 ⟨rfl, hbx⟩
        (replace hb1 := keep hbx hb1; replace h2 := keep hbx h2; replace hbu := keep hbx hbu; replace hbn := keep hbx hbn; replace hbs := keep hbx hbs; replace h9 := keep hbx h9; replace ho8 := keep hbx ho8; replace hB := hB.trans (hbx.mono hB.size); clear hbx)
        rw [J7.out]
        go_wp2_with fail
        refine (isst_any _ (2) (0) (0) (false) _).mono ?_
        rintro e w17 ⟨rfl, hbx⟩
        (replace hb1 := keep hbx hb1; replace h2 := keep hbx h2; replace hbu := keep hbx hbu; replace hbn := keep hbx hbn; replace hbs := keep hbx hbs; replace h9 := keep hbx h9; replace ho8 := keep hbx ho8; replace hB := hB.trans (hbx.mono hB.size); clear hbx)
        rw [decide_eq_true rfl]
        go_wp2_with (first
          | ((with_reducible show wpList _ _ _ ((⟨some 92, _, _, _, _, _⟩ : Oper) :: _) _ _); refine wpList_want (by rfl) ?_; refine wpList_load_blk (o := ⟨some 92, _, _, _, _, _⟩) (h9) (by rfl) _ _ (by rfl) (by rfl) _ Tryd.underlying29 (by rfl) (sizeMsg) (msgc_size _ _) ?_)
          | ((with_reducible show wpList _ _ _ ((⟨some 93, _, _, _, _, _⟩ : Oper) :: _) _ _); refine wpList_want (by rfl) ?_; refine wpList_load_blk (o := ⟨some 93, _, _, _, _, _⟩) (h2) (by rfl) _ _ (by rfl) (by rfl) _ Tryd.underlying29 (by rfl) (sizeMsg) (msgc_size _ _) ?_)
          | fail)
        refine (sameMessage_any F (fP 17 2) V2 none 0 0 vc 0 [] [] rfl rfl _ (OwnB.bytes ho8) (nilBytes _)).mono ?_
        rintro e w20 ⟨rfl, hbx⟩
        (replace hb1 := keep hbx hb1; replace h2 := keep hbx h2; replace hbu := keep hbx hbu; replace hbn := keep hbx hbn; replace hbs := keep hbx hbs; replace hB := hB.trans (hbx.mono hB.size))
        clear hbx ho8 h9
        rw [(Hd.beq_same F (fP 17 2)).2 HF.out.2, decide_eq_true rfl]
        go_wp2_with fail
        refine (judge_any (some ⟨gn, 0, none⟩) (some ⟨gn, 0, none⟩) 256 1280 1280 1280 ((List.replicate 1280 (0 : UInt8)).take 256) (List.replicate 1280 (0 : UInt8)) 1 (by omega) (⟨by rw [List.length_take, List.length_replicate]; rfl, by omega, by omega⟩) (⟨(List.length_replicate ..).symm, Nat.le_refl _, by omega, by omega⟩) _ (hbn.bytes.take 256) (hbn.bytes)).mono ?_
        rintro e w21 ⟨rfl, hbx⟩
        (replace hb1 := keep hbx hb1; replace h2 := keep hbx h2; replace hbu := keep hbx hbu; replace hbn := keep hbx hbn; replace hbs := keep hbx hbs; replace hB := hB.trans (hbx.mono hB.size); clear hbx)
        rw [J8.out]
        go_wp2_with fail
        refine (isst_any _ (3) (0) (0) (false) _).mono ?_
        rintro e w22 ⟨rfl, hbx⟩
        (replace hb1 := keep hbx hb1; replace h2 := keep hbx h2; replace hbu := keep hbx hbu; replace hbn := keep hbx hbn; replace hbs := keep hbx hbs; replace hB := hB.trans (hbx.mono hB.size); clear hbx)
        rw [decide_eq_true rfl]
        go_wp2_with fail
        refine (judge_any (some ⟨g1, 0, none⟩) (some ⟨g1, 0, none⟩) 256 1280 1280 1280 (X.take 256) (X) 2 (by omega) (⟨by rw [List.length_take, HP.out]; rfl, by omega, by omega⟩) (⟨HP.out.symm, Nat.le_refl _, by omega, by omega⟩) _ (hb1.bytes.take 256) (hb1.bytes)).mono ?_
        rintro e w23 ⟨rfl, hbx⟩
        (replace hb1 := keep hbx hb1; replace h2 := keep hbx h2; replace hbu := keep hbx hbu; replace hbn := keep hbx hbn; replace hbs := keep hbx hbs; replace hB := hB.trans (hbx.mono hB.size); clear hbx)
        rw [J9.out]
        go_wp2_with fail
        refine (isst_any _ (3) (0) (0) (false) _).mono ?_
        rintro e w24 ⟨rfl, hbx⟩
        (replace hb1 := keep hbx hb1; replace h2 := keep hbx h2; replace hbu := keep hbx hbu; replace hbn := keep hbx hbn; replace hbs := keep hbx hbs; replace hB := hB.trans (hbx.mono hB.size); clear hbx)
        rw [decide_eq_true rfl]
        have HB := Lib.hid hB
        clear hb1 h2 hbu hbn hbs hB
        go_wp2
        go_ret
        exact ⟨rfl, HB.out⟩
end Go.Proofs.YtekdcjaljjlemaaDoor

/- What a crash leaves of bytes: bytes of its own, as many. Conditions: the bytes can be read; they are as many as a header or a slot has; at most ten numbers of what stays. -/
namespace Go.Proofs.YtekdcjaljjlemaaDoor
open Go.RowKit
theorem upd_drew {g : Nat} {a b : World} (h : Upd g a b) : Upd g a b.drew := ⟨h.os, h.tape, h.output, h.size, h.block⟩
def PartRel (w : World) (g cap K : Nat) (v : Value) (wr : World) : Prop :=
  ∃ (i : Nat) (T : List UInt8), i ≤ K ∧ v = .int .i64 (i : Int) ∧ T.length = cap ∧ Blk wr g 5 (T.map u8v).toArray ∧ Upd g w wr
set_option maxRecDepth 100000 in
set_option maxHeartbeats 8000000 in
theorem part_any (A B Bk : Option Addr) (L c d dk : Nat) (old fresh : List UInt8) (ks : List Bool) (tear : Int) (hL : L = 256 ∨ L = 1280) (ho : old.length = L) (hf : fresh.length = L) (hc : L ≤ c) (hd : L ≤ d) (hkl : ks.length ≤ 10) (w : World) (hbo : Bytes w A old) (hbf : Bytes w B fresh) (hk : Reads w Bk (ks.map Value.bool)) :
    Calls Tryd.prog 23 #[.slice A L c, .slice B L d, .slice Bk ks.length dk, .int .i64 tear] w fun e w' => ∃ (g cap : Nat) (T : List UInt8), e = .returned (.slice (some ⟨g, 0, none⟩) L cap) ∧ w.heap.size ≤ g ∧
      Blk w' g 5 (T.map u8v).toArray ∧ T.length = cap ∧ L ≤ cap ∧ cap ≤ 9223372036854775807 ∧ Below w.heap.size w w' := by
  have HL := Lib.hid hL
  have HO := Lib.hid (And.intro ho (And.intro hf (And.intro hc hd)))
  have HK := Lib.hid hk
  have HKL := Lib.hid hkl
  have HBF := Lib.hid hbf
  clear hL ho hf hc hd hk hkl hbf
  go_enter Tryd.func23, Tryd.ntmps23
  go_wp2_with fail
  refine (copyBytes_any A L c old HO.out.1.symm (by have := HO.out.1; have := HL.out; omega) w hbo).mono ?_
  rintro e w1 ⟨v, sp, rfl, ho, hB⟩
  obtain ⟨g, cap, rfl, hge, hg, hcap1, hcap2, hsp⟩ := OwnB.at_ ho (by have := HO.out.1; have := HL.out; omega)
  rw [HO.out.1] at hcap1 ⊢
  have hcap2' : cap ≤ 9223372036854775807 := by simpa [maxLen] using hcap2
  have HG := Lib.hid (And.intro hge (And.intro hcap1 (And.intro hcap2' hB)))
  have hTl : (old ++ sp).length = cap := by rw [List.length_append, HO.out.1]; have := hsp; have := HO.out.1; omega
  have hS : PartRel w1 g cap ks.length (.int .i64 0) w1 := ⟨0, old ++ sp, Nat.zero_le _, rfl, hTl, hg, Upd.refl _ _⟩
  clear ho hge hg hcap1 hcap2 hcap2' hsp hTl hB hbo
  go_wp2_with fail
  go_loopw [10] (fun v wr => PartRel w1 g cap ks.length v wr) (fun v _ => ks.length - (intOf v).toNat)
  case atStart => exact hS
  case round =>
    clear hS
    obtain ⟨i, T, hi, rfl, hTl, hT, hU⟩ := hrel
    have hi10 : i ≤ 10 := by have := HKL.out; omega
    have hLb : L ≤ 1280 := by have := HL.out; omega
    have HT := Lib.hid (show ∃ (g' cap' : Nat) (T : List UInt8), Ending.returned (.slice (some ⟨g, 0, none⟩) L cap) = .returned (.slice (some ⟨g', 0, none⟩) L cap') ∧ w.heap.size ≤ g' ∧ Blk wr g' 5 (T.map u8v).toArray ∧ T.length = cap' ∧ L ≤ cap' ∧ cap' ≤ 9223372036854775807 ∧ Below w.heap.size w wr from
      ⟨g, cap, T, rfl, HG.out.1, hT, hTl, HG.out.2.1, HG.out.2.2.1, HG.out.2.2.2.upd hU HG.out.1⟩)
    by_cases hm : i * 256 < L
    case neg =>
      have hm' : decide ((i : Int) * 256 < (L : Int)) = false := by rw [decide_eq_false_iff_not]; omega
      clear hT hTl hU hm
      go_wp2
      go_ret
      exact HT.out
    have hm' : decide ((i : Int) * 256 < (L : Int)) = true := by rw [decide_eq_true_eq]; omega
    by_cases hlt : i < ks.length
    case neg =>
      clear hT hTl hU hm
      go_wp2
      go_ret
      exact HT.out
    have hkey := HK.out
    obtain ⟨bk, offk, rfl, hkc⟩ := hkey (by intro e; rw [List.map_eq_nil_iff] at e; rw [e] at hlt; simp at hlt)
    have d0 : wr.cell? ⟨bk, offk + i, none⟩ = some (.bool ks[i]) := by
      have h1 : w.cell? ⟨bk, offk + i, none⟩ = some (.bool ks[i]) := hkc i _ (by rw [List.getElem?_map, List.getElem?_eq_getElem hlt]; rfl)
      exact ((HG.out.2.2.2.upd hU HG.out.1).cell (World.block_lt_of_cell? w _ h1)).trans h1
    obtain ⟨q, hq⟩ : ∃ q, q = ks[i] := ⟨_, rfl⟩
    rw [← hq] at d0
    clear hq hkc hkey HT
    cases q
    · have HS := Lib.hid (show PartRel w1 g cap ks.length (.int .i64 ((i + 1 : Nat) : Int)) wr from ⟨i + 1, T, by omega, rfl, hTl, hT, hU⟩)
      clear hT hTl hU
      go_wp2
      go_roundw
      case rel => exact HS.out.imp fun _ h => h.imp fun _ h => ⟨h.1, by rw [← h.2.1]; go_num, h.2.2⟩
      case measure => simp [intOf]; omega
    · have HST := Lib.hid (And.intro hTl (And.intro hT hU))
      have HBFr : Bytes wr B fresh := Bytes.below (HBF.out) (HG.out.2.2.2.upd hU HG.out.1)
      have HLK := Lib.hid hlt
      clear hTl hT hU hi10
      rcases HL.out with rfl | rfl
      · obtain rfl : i = 0 := by omega
        rw [Nat.add_zero] at d0
        clear HL hLb
        · by_cases ht : (0 : Int) = tear
          · subst ht
            have hcapL : 256 ≤ cap := HG.out.2.1
            have hdL : 256 ≤ d := HO.out.2.2.2
            obtain ⟨l, hl⟩ : ∃ l, l = fresh.take 128 := ⟨_, rfl⟩
            have hll : l.length = 128 := by rw [hl, List.length_take, HO.out.2.1]; rfl
            have hFb := HBFr.take 128
            rw [← hl] at hFb
            replace hFb := hFb.drewN 1
            have HFB := Lib.hid hFb
            have HLL := Lib.hid hll
            clear hl hll hFb HBFr hm hm'
            go_wp2_with fail
            refine wp_region_tree (fun _ => True) [] (PlanT.takes [0, 1, 2, 3, 4, 5, 6, 7, 8, 9] (.opt 10 .done .no)) (by kernel_rfl) (by kernel_rfl) (trivial) ?_
            refine wpTree_pure _ _ _ (by rfl) (by rfl) ?_
            dsimp only [List.filterMap, List.getElem?_cons_zero, List.getElem?_cons_succ]
            repeat (go_big_quiet_step (fail))
            refine wpQuiet_nil ?_
            refine wpTree_one _ rfl ?_
            refine wpList_copy_at (by rfl) _ _ _ _ (by rfl) 5 Tryd.underlying27 size1 g 0 128 (cap - 0) _ 128 (d - 0) (by rfl) (by rfl) T l 5 HST.out.2.1.drew HLL.out HFB.out (by rw [HLL.out, HST.out.1]; omega) (by rw [HLL.out]; omega) ?_
            intro w2 h2 hu2
            have hTl2 : (T.take 0 ++ (l ++ T.drop (0 + l.length))).length = cap := by
              rw [List.length_append, List.length_append, List.length_take, List.length_drop, HST.out.1, HLL.out]; omega
            have HN := Lib.hid (And.intro hTl2 (And.intro h2 ((upd_drew HST.out.2.2).trans hu2)))
            clear hTl2 h2 hu2 HFB
            rw [HLL.out]
            refine TreeQ.in_ trivial ?_
            refine wpTree_done ?_
            go_wp2
            go_roundw
            case rel => exact ⟨1, _, by omega, by go_num, HN.out.1, HN.out.2.1, HN.out.2.2⟩
            case measure => simp [intOf]; omega
          · have ht' : ((0 : Int) == tear) = false := by rw [beq_eq_false_iff_ne]; exact ht
            clear ht
            have hcapL : 256 ≤ cap := HG.out.2.1
            have hdL : 256 ≤ d := HO.out.2.2.2
            obtain ⟨l, hl⟩ : ∃ l, l = fresh.take 256 := ⟨_, rfl⟩
            have hll : l.length = 256 := by rw [hl, List.length_take, HO.out.2.1]; rfl
            have hFb := HBFr.take 256
            rw [← hl] at hFb
            replace hFb := hFb.drewN 1
            have HFB := Lib.hid hFb
            have HLL := Lib.hid hll
            clear hl hll hFb HBFr hm hm'
            go_wp2_with fail
            refine wp_region_tree (fun _ => True) [] (PlanT.takes [0, 1, 2, 3, 4, 5, 6, 7, 8, 9] (.opt 10 .done .no)) (by kernel_rfl) (by kernel_rfl) (trivial) ?_
            refine wpTree_pure _ _ _ (by rfl) (by rfl) ?_
            dsimp only [List.filterMap, List.getElem?_cons_zero, List.getElem?_cons_succ]
            repeat (go_big_quiet_step (fail))
            refine wpQuiet_nil ?_
            refine wpTree_one _ rfl ?_
            refine wpList_copy_at (by rfl) _ _ _ _ (by rfl) 5 Tryd.underlying27 size1 g 0 256 (cap - 0) _ 256 (d - 0) (by rfl) (by rfl) T l 5 HST.out.2.1.drew HLL.out HFB.out (by rw [HLL.out, HST.out.1]; omega) (by rw [HLL.out]; omega) ?_
            intro w2 h2 hu2
            have hTl2 : (T.take 0 ++ (l ++ T.drop (0 + l.length))).length = cap := by
              rw [List.length_append, List.length_append, List.length_take, List.length_drop, HST.out.1, HLL.out]; omega
            have HN := Lib.hid (And.intro hTl2 (And.intro h2 ((upd_drew HST.out.2.2).trans hu2)))
            clear hTl2 h2 hu2 HFB
            rw [HLL.out]
            refine TreeQ.in_ trivial ?_
            refine wpTree_done ?_
            go_wp2
            go_roundw
            case rel => exact ⟨1, _, by omega, by go_num, HN.out.1, HN.out.2.1, HN.out.2.2⟩
            case measure => simp [intOf]; omega
      · have h5 : i = 0 ∨ i = 1 ∨ i = 2 ∨ i = 3 ∨ i = 4 := by omega
        clear HL hLb
        rcases h5 with rfl | rfl | rfl | rfl | rfl
        · rw [Nat.add_zero] at d0
          by_cases ht : (0 : Int) = tear
          · subst ht
            have hcapL : 1280 ≤ cap := HG.out.2.1
            have hdL : 1280 ≤ d := HO.out.2.2.2
            obtain ⟨l, hl⟩ : ∃ l, l = fresh.take 128 := ⟨_, rfl⟩
            have hll : l.length = 128 := by rw [hl, List.length_take, HO.out.2.1]; rfl
            have hFb := HBFr.take 128
            rw [← hl] at hFb
            replace hFb := hFb.drewN 1
            have HFB := Lib.hid hFb
            have HLL := Lib.hid hll
            clear hl hll hFb HBFr hm hm'
            go_wp2_with fail
            refine wp_region_tree (fun _ => True) [] (PlanT.takes [0, 1, 2, 3, 4, 5, 6, 7, 8, 9] (.opt 10 .done .no)) (by kernel_rfl) (by kernel_rfl) (trivial) ?_
            refine wpTree_pure _ _ _ (by rfl) (by rfl) ?_
            dsimp only [List.filterMap, List.getElem?_cons_zero, List.getElem?_cons_succ]
            repeat (go_big_quiet_step (fail))
            refine wpQuiet_nil ?_
            refine wpTree_one _ rfl ?_
            refine wpList_copy_at (by rfl) _ _ _ _ (by rfl) 5 Tryd.underlying27 size1 g 0 128 (cap - 0) _ 128 (d - 0) (by rfl) (by rfl) T l 5 HST.out.2.1.drew HLL.out HFB.out (by rw [HLL.out, HST.out.1]; omega) (by rw [HLL.out]; omega) ?_
            intro w2 h2 hu2
            have hTl2 : (T.take 0 ++ (l ++ T.drop (0 + l.length))).length = cap := by
              rw [List.length_append, List.length_append, List.length_take, List.length_drop, HST.out.1, HLL.out]; omega
            have HN := Lib.hid (And.intro hTl2 (And.intro h2 ((upd_drew HST.out.2.2).trans hu2)))
            clear hTl2 h2 hu2 HFB
            rw [HLL.out]
            refine TreeQ.in_ trivial ?_
            refine wpTree_done ?_
            go_wp2
            go_roundw
            case rel => exact ⟨1, _, by omega, by go_num, HN.out.1, HN.out.2.1, HN.out.2.2⟩
            case measure => simp [intOf]; omega
          · have ht' : ((0 : Int) == tear) = false := by rw [beq_eq_false_iff_ne]; exact ht
            clear ht
            have hcapL : 1280 ≤ cap := HG.out.2.1
            have hdL : 1280 ≤ d := HO.out.2.2.2
            obtain ⟨l, hl⟩ : ∃ l, l = fresh.take 256 := ⟨_, rfl⟩
            have hll : l.length = 256 := by rw [hl, List.length_take, HO.out.2.1]; rfl
            have hFb := HBFr.take 256
            rw [← hl] at hFb
            replace hFb := hFb.drewN 1
            have HFB := Lib.hid hFb
            have HLL := Lib.hid hll
            clear hl hll hFb HBFr hm hm'
            go_wp2_with fail
            refine wp_region_tree (fun _ => True) [] (PlanT.takes [0, 1, 2, 3, 4, 5, 6, 7, 8, 9] (.opt 10 .done .no)) (by kernel_rfl) (by kernel_rfl) (trivial) ?_
            refine wpTree_pure _ _ _ (by rfl) (by rfl) ?_
            dsimp only [List.filterMap, List.getElem?_cons_zero, List.getElem?_cons_succ]
            repeat (go_big_quiet_step (fail))
            refine wpQuiet_nil ?_
            refine wpTree_one _ rfl ?_
            refine wpList_copy_at (by rfl) _ _ _ _ (by rfl) 5 Tryd.underlying27 size1 g 0 256 (cap - 0) _ 256 (d - 0) (by rfl) (by rfl) T l 5 HST.out.2.1.drew HLL.out HFB.out (by rw [HLL.out, HST.out.1]; omega) (by rw [HLL.out]; omega) ?_
            intro w2 h2 hu2
            have hTl2 : (T.take 0 ++ (l ++ T.drop (0 + l.length))).length = cap := by
              rw [List.length_append, List.length_append, List.length_take, List.length_drop, HST.out.1, HLL.out]; omega
            have HN := Lib.hid (And.intro hTl2 (And.intro h2 ((upd_drew HST.out.2.2).trans hu2)))
            clear hTl2 h2 hu2 HFB
            rw [HLL.out]
            refine TreeQ.in_ trivial ?_
            refine wpTree_done ?_
            go_wp2
            go_roundw
            case rel => exact ⟨1, _, by omega, by go_num, HN.out.1, HN.out.2.1, HN.out.2.2⟩
            case measure => simp [intOf]; omega
        · by_cases ht : (1 : Int) = tear
          · subst ht
            have hcapL : 1280 ≤ cap := HG.out.2.1
            have hdL : 1280 ≤ d := HO.out.2.2.2
            have hcn : ¬ cap = 256 := by omega
            have hdn : ¬ d = 256 := by omega
            obtain ⟨l, hl⟩ : ∃ l, l = (fresh.drop 256).take 128 := ⟨_, rfl⟩
            have hll : l.length = 128 := by rw [hl, List.length_take, List.length_drop, HO.out.2.1]; rfl
            have hFb := (HBFr.drop (k := 256) (cap := d) (.inl (by omega))).take 128
            rw [if_neg hdn, ← hl] at hFb
            replace hFb := hFb.drewN 1
            have HFB := Lib.hid hFb
            have HLL := Lib.hid hll
            clear hl hll hFb HBFr hm hm'
            go_wp2_with fail
            refine wp_region_tree (fun _ => True) [] (PlanT.takes [0, 1, 2, 3, 4, 5, 6, 7, 8, 9] (.opt 10 .done .no)) (by kernel_rfl) (by kernel_rfl) (trivial) ?_
            refine wpTree_pure _ _ _ (by rfl) (by rfl) ?_
            dsimp only [List.filterMap, List.getElem?_cons_zero, List.getElem?_cons_succ]
            repeat (go_big_quiet_step (fail))
            refine wpQuiet_nil ?_
            refine wpTree_one _ rfl ?_
            refine wpList_copy_at (by rfl) _ _ _ _ (by rfl) 5 Tryd.underlying27 size1 g 256 128 (cap - 256) _ 128 (d - 256) (by rfl) (by rfl) T l 5 HST.out.2.1.drew HLL.out HFB.out (by rw [HLL.out, HST.out.1]; omega) (by rw [HLL.out]; omega) ?_
            intro w2 h2 hu2
            have hTl2 : (T.take 256 ++ (l ++ T.drop (256 + l.length))).length = cap := by
              rw [List.length_append, List.length_append, List.length_take, List.length_drop, HST.out.1, HLL.out]; omega
            have HN := Lib.hid (And.intro hTl2 (And.intro h2 ((upd_drew HST.out.2.2).trans hu2)))
            clear hTl2 h2 hu2 HFB
            rw [HLL.out]
            refine TreeQ.in_ trivial ?_
            refine wpTree_done ?_
            go_wp2
            go_roundw
            case rel => exact ⟨2, _, by omega, by go_num, HN.out.1, HN.out.2.1, HN.out.2.2⟩
            case measure => simp [intOf]; omega
          · have ht' : ((1 : Int) == tear) = false := by rw [beq_eq_false_iff_ne]; exact ht
            clear ht
            have hcapL : 1280 ≤ cap := HG.out.2.1
            have hdL : 1280 ≤ d := HO.out.2.2.2
            have hcn : ¬ cap = 256 := by omega
            have hdn : ¬ d = 256 := by omega
            obtain ⟨l, hl⟩ : ∃ l, l = (fresh.drop 256).take 256 := ⟨_, rfl⟩
            have hll : l.length = 256 := by rw [hl, List.length_take, List.length_drop, HO.out.2.1]; rfl
            have hFb := (HBFr.drop (k := 256) (cap := d) (.inl (by omega))).take 256
            rw [if_neg hdn, ← hl] at hFb
            replace hFb := hFb.drewN 1
            have HFB := Lib.hid hFb
            have HLL := Lib.hid hll
            clear hl hll hFb HBFr hm hm'
            go_wp2_with fail
            refine wp_region_tree (fun _ => True) [] (PlanT.takes [0, 1, 2, 3, 4, 5, 6, 7, 8, 9] (.opt 10 .done .no)) (by kernel_rfl) (by kernel_rfl) (trivial) ?_
            refine wpTree_pure _ _ _ (by rfl) (by rfl) ?_
            dsimp only [List.filterMap, List.getElem?_cons_zero, List.getElem?_cons_succ]
            repeat (go_big_quiet_step (fail))
            refine wpQuiet_nil ?_
            refine wpTree_one _ rfl ?_
            refine wpList_copy_at (by rfl) _ _ _ _ (by rfl) 5 Tryd.underlying27 size1 g 256 256 (cap - 256) _ 256 (d - 256) (by rfl) (by rfl) T l 5 HST.out.2.1.drew HLL.out HFB.out (by rw [HLL.out, HST.out.1]; omega) (by rw [HLL.out]; omega) ?_
            intro w2 h2 hu2
            have hTl2 : (T.take 256 ++ (l ++ T.drop (256 + l.length))).length = cap := by
              rw [List.length_append, List.length_append, List.length_take, List.length_drop, HST.out.1, HLL.out]; omega
            have HN := Lib.hid (And.intro hTl2 (And.intro h2 ((upd_drew HST.out.2.2).trans hu2)))
            clear hTl2 h2 hu2 HFB
            rw [HLL.out]
            refine TreeQ.in_ trivial ?_
            refine wpTree_done ?_
            go_wp2
            go_roundw
            case rel => exact ⟨2, _, by omega, by go_num, HN.out.1, HN.out.2.1, HN.out.2.2⟩
            case measure => simp [intOf]; omega
        · by_cases ht : (2 : Int) = tear
          · subst ht
            have hcapL : 1280 ≤ cap := HG.out.2.1
            have hdL : 1280 ≤ d := HO.out.2.2.2
            have hcn : ¬ cap = 512 := by omega
            have hdn : ¬ d = 512 := by omega
            obtain ⟨l, hl⟩ : ∃ l, l = (fresh.drop 512).take 128 := ⟨_, rfl⟩
            have hll : l.length = 128 := by rw [hl, List.length_take, List.length_drop, HO.out.2.1]; rfl
            have hFb := (HBFr.drop (k := 512) (cap := d) (.inl (by omega))).take 128
            rw [if_neg hdn, ← hl] at hFb
            replace hFb := hFb.drewN 1
            have HFB := Lib.hid hFb
            have HLL := Lib.hid hll
            clear hl hll hFb HBFr hm hm'
            go_wp2_with fail
            refine wp_region_tree (fun _ => True) [] (PlanT.takes [0, 1, 2, 3, 4, 5, 6, 7, 8, 9] (.opt 10 .done .no)) (by kernel_rfl) (by kernel_rfl) (trivial) ?_
            refine wpTree_pure _ _ _ (by rfl) (by rfl) ?_
            dsimp only [List.filterMap, List.getElem?_cons_zero, List.getElem?_cons_succ]
            repeat (go_big_quiet_step (fail))
            refine wpQuiet_nil ?_
            refine wpTree_one _ rfl ?_
            refine wpList_copy_at (by rfl) _ _ _ _ (by rfl) 5 Tryd.underlying27 size1 g 512 128 (cap - 512) _ 128 (d - 512) (by rfl) (by rfl) T l 5 HST.out.2.1.drew HLL.out HFB.out (by rw [HLL.out, HST.out.1]; omega) (by rw [HLL.out]; omega) ?_
            intro w2 h2 hu2
            have hTl2 : (T.take 512 ++ (l ++ T.drop (512 + l.length))).length = cap := by
              rw [List.length_append, List.length_append, List.length_take, List.length_drop, HST.out.1, HLL.out]; omega
            have HN := Lib.hid (And.intro hTl2 (And.intro h2 ((upd_drew HST.out.2.2).trans hu2)))
            clear hTl2 h2 hu2 HFB
            rw [HLL.out]
            refine TreeQ.in_ trivial ?_
            refine wpTree_done ?_
            go_wp2
            go_roundw
            case rel => exact ⟨3, _, by omega, by go_num, HN.out.1, HN.out.2.1, HN.out.2.2⟩
            case measure => simp [intOf]; omega
          · have ht' : ((2 : Int) == tear) = false := by rw [beq_eq_false_iff_ne]; exact ht
            clear ht
            have hcapL : 1280 ≤ cap := HG.out.2.1
            have hdL : 1280 ≤ d := HO.out.2.2.2
            have hcn : ¬ cap = 512 := by omega
            have hdn : ¬ d = 512 := by omega
            obtain ⟨l, hl⟩ : ∃ l, l = (fresh.drop 512).take 256 := ⟨_, rfl⟩
            have hll : l.length = 256 := by rw [hl, List.length_take, List.length_drop, HO.out.2.1]; rfl
            have hFb := (HBFr.drop (k := 512) (cap := d) (.inl (by omega))).take 256
            rw [if_neg hdn, ← hl] at hFb
            replace hFb := hFb.drewN 1
            have HFB := Lib.hid hFb
            have HLL := Lib.hid hll
            clear hl hll hFb HBFr hm hm'
            go_wp2_with fail
            refine wp_region_tree (fun _ => True) [] (PlanT.takes [0, 1, 2, 3, 4, 5, 6, 7, 8, 9] (.opt 10 .done .no)) (by kernel_rfl) (by kernel_rfl) (trivial) ?_
            refine wpTree_pure _ _ _ (by rfl) (by rfl) ?_
            dsimp only [List.filterMap, List.getElem?_cons_zero, List.getElem?_cons_succ]
            repeat (go_big_quiet_step (fail))
            refine wpQuiet_nil ?_
            refine wpTree_one _ rfl ?_
            refine wpList_copy_at (by rfl) _ _ _ _ (by rfl) 5 Tryd.underlying27 size1 g 512 256 (cap - 512) _ 256 (d - 512) (by rfl) (by rfl) T l 5 HST.out.2.1.drew HLL.out HFB.out (by rw [HLL.out, HST.out.1]; omega) (by rw [HLL.out]; omega) ?_
            intro w2 h2 hu2
            have hTl2 : (T.take 512 ++ (l ++ T.drop (512 + l.length))).length = cap := by
              rw [List.length_append, List.length_append, List.length_take, List.length_drop, HST.out.1, HLL.out]; omega
            have HN := Lib.hid (And.intro hTl2 (And.intro h2 ((upd_drew HST.out.2.2).trans hu2)))
            clear hTl2 h2 hu2 HFB
            rw [HLL.out]
            refine TreeQ.in_ trivial ?_
            refine wpTree_done ?_
            go_wp2
            go_roundw
            case rel => exact ⟨3, _, by omega, by go_num, HN.out.1, HN.out.2.1, HN.out.2.2⟩
            case measure => simp [intOf]; omega
        · by_cases ht : (3 : Int) = tear
          · subst ht
            have hcapL : 1280 ≤ cap := HG.out.2.1
            have hdL : 1280 ≤ d := HO.out.2.2.2
            have hcn : ¬ cap = 768 := by omega
            have hdn : ¬ d = 768 := by omega
            obtain ⟨l, hl⟩ : ∃ l, l = (fresh.drop 768).take 128 := ⟨_, rfl⟩
            have hll : l.length = 128 := by rw [hl, List.length_take, List.length_drop, HO.out.2.1]; rfl
            have hFb := (HBFr.drop (k := 768) (cap := d) (.inl (by omega))).take 128
            rw [if_neg hdn, ← hl] at hFb
            replace hFb := hFb.drewN 1
            have HFB := Lib.hid hFb
            have HLL := Lib.hid hll
            clear hl hll hFb HBFr hm hm'
            go_wp2_with fail
            refine wp_region_tree (fun _ => True) [] (PlanT.takes [0, 1, 2, 3, 4, 5, 6, 7, 8, 9] (.opt 10 .done .no)) (by kernel_rfl) (by kernel_rfl) (trivial) ?_
            refine wpTree_pure _ _ _ (by rfl) (by rfl) ?_
            dsimp only [List.filterMap, List.getElem?_cons_zero, List.getElem?_cons_succ]
            repeat (go_big_quiet_step (fail))
            refine wpQuiet_nil ?_
            refine wpTree_one _ rfl ?_
            refine wpList_copy_at (by rfl) _ _ _ _ (by rfl) 5 Tryd.underlying27 size1 g 768 128 (cap - 768) _ 128 (d - 768) (by rfl) (by rfl) T l 5 HST.out.2.1.drew HLL.out HFB.out (by rw [HLL.out, HST.out.1]; omega) (by rw [HLL.out]; omega) ?_
            intro w2 h2 hu2
            have hTl2 : (T.take 768 ++ (l ++ T.drop (768 + l.length))).length = cap := by
              rw [List.length_append, List.length_append, List.length_take, List.length_drop, HST.out.1, HLL.out]; omega
            have HN := Lib.hid (And.intro hTl2 (And.intro h2 ((upd_drew HST.out.2.2).trans hu2)))
            clear hTl2 h2 hu2 HFB
            rw [HLL.out]
            refine TreeQ.in_ trivial ?_
            refine wpTree_done ?_
            go_wp2
            go_roundw
            case rel => exact ⟨4, _, by omega, by go_num, HN.out.1, HN.out.2.1, HN.out.2.2⟩
            case measure => simp [intOf]; omega
          · have ht' : ((3 : Int) == tear) = false := by rw [beq_eq_false_iff_ne]; exact ht
            clear ht
            have hcapL : 1280 ≤ cap := HG.out.2.1
            have hdL : 1280 ≤ d := HO.out.2.2.2
            have hcn : ¬ cap = 768 := by omega
            have hdn : ¬ d = 768 := by omega
            obtain ⟨l, hl⟩ : ∃ l, l = (fresh.drop 768).take 256 := ⟨_, rfl⟩
            have hll : l.length = 256 := by rw [hl, List.length_take, List.length_drop, HO.out.2.1]; rfl
            have hFb := (HBFr.drop (k := 768) (cap := d) (.inl (by omega))).take 256
            rw [if_neg hdn, ← hl] at hFb
            replace hFb := hFb.drewN 1
            have HFB := Lib.hid hFb
            have HLL := Lib.hid hll
            clear hl hll hFb HBFr hm hm'
            go_wp2_with fail
            refine wp_region_tree (fun _ => True) [] (PlanT.takes [0, 1, 2, 3, 4, 5, 6, 7, 8, 9] (.opt 10 .done .no)) (by kernel_rfl) (by kernel_rfl) (trivial) ?_
            refine wpTree_pure _ _ _ (by rfl) (by rfl) ?_
            dsimp only [List.filterMap, List.getElem?_cons_zero, List.getElem?_cons_succ]
            repeat (go_big_quiet_step (fail))
            refine wpQuiet_nil ?_
            refine wpTree_one _ rfl ?_
            refine wpList_copy_at (by rfl) _ _ _ _ (by rfl) 5 Tryd.underlying27 size1 g 768 256 (cap - 768) _ 256 (d - 768) (by rfl) (by rfl) T l 5 HST.out.2.1.drew HLL.out HFB.out (by rw [HLL.out, HST.out.1]; omega) (by rw [HLL.out]; omega) ?_
            intro w2 h2 hu2
            have hTl2 : (T.take 768 ++ (l ++ T.drop (768 + l.length))).length = cap := by
              rw [List.length_append, List.length_append, List.length_take, List.length_drop, HST.out.1, HLL.out]; omega
            have HN := Lib.hid (And.intro hTl2 (And.intro h2 ((upd_drew HST.out.2.2).trans hu2)))
            clear hTl2 h2 hu2 HFB
            rw [HLL.out]
            refine TreeQ.in_ trivial ?_
            refine wpTree_done ?_
            go_wp2
            go_roundw
            case rel => exact ⟨4, _, by omega, by go_num, HN.out.1, HN.out.2.1, HN.out.2.2⟩
            case measure => simp [intOf]; omega
        · by_cases ht : (4 : Int) = tear
          · subst ht
            have hcapL : 1280 ≤ cap := HG.out.2.1
            have hdL : 1280 ≤ d := HO.out.2.2.2
            have hcn : ¬ cap = 1024 := by omega
            have hdn : ¬ d = 1024 := by omega
            obtain ⟨l, hl⟩ : ∃ l, l = (fresh.drop 1024).take 128 := ⟨_, rfl⟩
            have hll : l.length = 128 := by rw [hl, List.length_take, List.length_drop, HO.out.2.1]; rfl
            have hFb := (HBFr.drop (k := 1024) (cap := d) (.inl (by omega))).take 128
            rw [if_neg hdn, ← hl] at hFb
            replace hFb := hFb.drewN 1
            have HFB := Lib.hid hFb
            have HLL := Lib.hid hll
            clear hl hll hFb HBFr hm hm'
            go_wp2_with fail
            refine wp_region_tree (fun _ => True) [] (PlanT.takes [0, 1, 2, 3, 4, 5, 6, 7, 8, 9] (.opt 10 .done .no)) (by kernel_rfl) (by kernel_rfl) (trivial) ?_
            refine wpTree_pure _ _ _ (by rfl) (by rfl) ?_
            dsimp only [List.filterMap, List.getElem?_cons_zero, List.getElem?_cons_succ]
            repeat (go_big_quiet_step (fail))
            refine wpQuiet_nil ?_
            refine wpTree_one _ rfl ?_
            refine wpList_copy_at (by rfl) _ _ _ _ (by rfl) 5 Tryd.underlying27 size1 g 1024 128 (cap - 1024) _ 128 (d - 1024) (by rfl) (by rfl) T l 5 HST.out.2.1.drew HLL.out HFB.out (by rw [HLL.out, HST.out.1]; omega) (by rw [HLL.out]; omega) ?_
            intro w2 h2 hu2
            have hTl2 : (T.take 1024 ++ (l ++ T.drop (1024 + l.length))).length = cap := by
              rw [List.length_append, List.length_append, List.length_take, List.length_drop, HST.out.1, HLL.out]; omega
            have HN := Lib.hid (And.intro hTl2 (And.intro h2 ((upd_drew HST.out.2.2).trans hu2)))
            clear hTl2 h2 hu2 HFB
            rw [HLL.out]
            refine TreeQ.in_ trivial ?_
            refine wpTree_done ?_
            go_wp2
            go_roundw
            case rel => exact ⟨5, _, by omega, by go_num, HN.out.1, HN.out.2.1, HN.out.2.2⟩
            case measure => simp [intOf]; omega
          · have ht' : ((4 : Int) == tear) = false := by rw [beq_eq_false_iff_ne]; exact ht
            clear ht
            have hcapL : 1280 ≤ cap := HG.out.2.1
            have hdL : 1280 ≤ d := HO.out.2.2.2
            have hcn : ¬ cap = 1024 := by omega
            have hdn : ¬ d = 1024 := by omega
            obtain ⟨l, hl⟩ : ∃ l, l = (fresh.drop 1024).take 256 := ⟨_, rfl⟩
            have hll : l.length = 256 := by rw [hl, List.length_take, List.length_drop, HO.out.2.1]; rfl
            have hFb := (HBFr.drop (k := 1024) (cap := d) (.inl (by omega))).take 256
            rw [if_neg hdn, ← hl] at hFb
            replace hFb := hFb.drewN 1
            have HFB := Lib.hid hFb
            have HLL := Lib.hid hll
            clear hl hll hFb HBFr hm hm'
            go_wp2_with fail
            refine wp_region_tree (fun _ => True) [] (PlanT.takes [0, 1, 2, 3, 4, 5, 6, 7, 8, 9] (.opt 10 .done .no)) (by kernel_rfl) (by kernel_rfl) (trivial) ?_
            refine wpTree_pure _ _ _ (by rfl) (by rfl) ?_
            dsimp only [List.filterMap, List.getElem?_cons_zero, List.getElem?_cons_succ]
            repeat (go_big_quiet_step (fail))
            refine wpQuiet_nil ?_
            refine wpTree_one _ rfl ?_
            refine wpList_copy_at (by rfl) _ _ _ _ (by rfl) 5 Tryd.underlying27 size1 g 1024 256 (cap - 1024) _ 256 (d - 1024) (by rfl) (by rfl) T l 5 HST.out.2.1.drew HLL.out HFB.out (by rw [HLL.out, HST.out.1]; omega) (by rw [HLL.out]; omega) ?_
            intro w2 h2 hu2
            have hTl2 : (T.take 1024 ++ (l ++ T.drop (1024 + l.length))).length = cap := by
              rw [List.length_append, List.length_append, List.length_take, List.length_drop, HST.out.1, HLL.out]; omega
            have HN := Lib.hid (And.intro hTl2 (And.intro h2 ((upd_drew HST.out.2.2).trans hu2)))
            clear hTl2 h2 hu2 HFB
            rw [HLL.out]
            refine TreeQ.in_ trivial ?_
            refine wpTree_done ?_
            go_wp2
            go_roundw
            case rel => exact ⟨5, _, by omega, by go_num, HN.out.1, HN.out.2.1, HN.out.2.2⟩
            case measure => simp [intOf]; omega
end Go.Proofs.YtekdcjaljjlemaaDoor
