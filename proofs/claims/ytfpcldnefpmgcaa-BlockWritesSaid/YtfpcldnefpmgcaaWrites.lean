/- The statement on a block's bytes, as a call: it answers true and writes nothing that was there. Condition: the argument can be read. -/
import Derived.Test.YtfpcldnefpmgcaaApart
import Derived.Test.YtfpcldnefpmgcaaCopyGB
namespace Go.Proofs.Ytfpcldnefpmgcaa
open Go.RowKit
/-- A block's bytes, or none where it may not be. -/
def GB.out (b : GBT) : List UInt8 := if GB.ok b then GB.bytes b else []
theorem GB.out_ok {b : GBT} (h : GB.ok b = true) : GB.out b = GB.bytes b := by unfold GB.out; rw [if_pos h]
theorem GB.out_no {b : GBT} (h : GB.ok b = false) : GB.out b = [] := by unfold GB.out; rw [if_neg (by rw [h]; simp)]
theorem GB.out_length (b : GBT) : (GB.out b).length ≤ 1024 := by
  cases h : GB.ok b
  · rw [GB.out_no h]; simp
  · rw [GB.out_ok h]; obtain ⟨h1, h2⟩ := GB.lens h; rw [GB.bytes_length _ h1 h2]; exact Nat.le_refl _
def BytesPost (b : GBT) (w : World) (e : Ending) (w' : World) : Prop :=
  ∃ A n, e = .returned (.tuple #[.slice A n n, .int .i64 (GB.code b)]) ∧ n = (GB.out b).length ∧ Ent.Is w' ⟨A, n, GB.out b⟩ ∧ (∀ g, Ent.blk ⟨A, n, GB.out b⟩ = some g → w.heap.size ≤ g) ∧ Below w.heap.size w w'
theorem bytes_both (k ra rs : Int) (A B : Option Addr) (c d : Nat) (l : List RefT) (body : List UInt8) (hl : l.length ≤ 1000) (hbl : body.length ≤ 5000) (w : World) (hr : Refs w A l) (hb : Bytes w B body) :
    Calls Try.prog 30 #[.agg #[.int .i64 k, .int .i64 ra, .int .i64 rs, .slice A l.length c, .slice B body.length d]] w (BytesPost (k, (ra, rs, ()), l, body, ()) w) := by
  cases hok : GB.ok (k, (ra, rs, ()), l, body, ())
  · refine (bytes_no k ra rs A B c d l body hl hbl hok w hr).mono ?_
    rintro e w' ⟨rfl, hB⟩
    refine ⟨none, 0, by rw [GB.code_no hok], by rw [GB.out_no hok]; rfl, ⟨by simp, by rw [GB.out_no hok]; simp, .inl ⟨rfl, GB.out_no hok⟩⟩, (fun g h => by cases h), hB⟩
  · refine (bytes_ok k ra rs A B c d l body hok w hr hb).mono ?_
    rintro e w' ⟨g, rfl, hge, hg, hB⟩
    have hlen : (GB.out (k, (ra, rs, ()), l, body, ())).length = 1024 := by rw [GB.out_ok hok]; obtain ⟨h1, h2⟩ := GB.lens hok; exact GB.bytes_length _ h1 h2
    refine ⟨some ⟨g, 0, none⟩, 1024, by rw [GB.code_ok hok], hlen.symm, ⟨by simp [hlen], by simp [hlen], .inr ⟨g, _, rfl, by rw [GB.out_ok hok]; exact hg⟩⟩, (fun g' h => by cases h; exact hge), hB⟩
def RBytesPost (b : GBT) (w : World) (e : Ending) (w' : World) : Prop :=
  ∃ A c, e = .returned (.tuple #[.slice A (GB.out b).length c, .int .i64 (GB.code b)]) ∧ Bytes w' A (GB.out b) ∧ Below w.heap.size w w'
theorem rbytes_both (k ra rs : Int) (A B : Option Addr) (c d : Nat) (l : List RefT) (body : List UInt8) (hl : l.length ≤ 1000) (hbl : body.length ≤ 5000) (w : World) (hr : Refs w A l) (hb : Bytes w B body) :
    Calls Try.prog 31 #[.agg #[.int .i64 k, .int .i64 ra, .int .i64 rs, .slice A l.length c, .slice B body.length d]] w (RBytesPost (k, (ra, rs, ()), l, body, ()) w) := by
  cases hok : GB.ok (k, (ra, rs, ()), l, body, ())
  · refine (rbytes_no k ra rs A B c d l body hl hbl hok w hr).mono ?_
    rintro e w' ⟨rfl, hB⟩
    exact ⟨none, 0, by rw [GB.code_no hok, GB.out_no hok]; rfl, by rw [GB.out_no hok]; exact Reads.nil _ _, hB⟩
  · refine (rbytes_ok k ra rs A B c d l body hok w hr hb).mono ?_
    rintro e w' ⟨v, sp, rfl, ho, hB⟩
    obtain ⟨A2, c2, rfl, _, _, h⟩ := OwnB.open_ ho
    exact ⟨A2, c2, by rw [GB.code_ok hok, GB.out_ok hok], by rw [GB.out_ok hok]; exact h, hB⟩
/-- What stays in every world of the statement's walk: the argument's box, the copy, the list that is lent. -/
structure WSt (b0 b1 b2 : Nat) (box inn : Array Value) (L : List UInt8) (w1 w' : World) : Prop where
  box : Blk w' b0 45 box
  inn : Blk w' b1 45 inn
  lent : Blk w' b2 5 (L.map u8v).toArray
  far : Below w1.heap.size w1 w'
theorem WSt.below {b0 b1 b2 : Nat} {box inn : Array Value} {L : List UInt8} {w1 w' w'' : World} (h : WSt b0 b1 b2 box inn L w1 w') (hb : Below w'.heap.size w' w'') : WSt b0 b1 b2 box inn L w1 w'' :=
  ⟨h.box.below hb h.box.lt, h.inn.below hb h.inn.lt, h.lent.below hb h.lent.lt, h.far.trans (hb.mono h.far.size)⟩
theorem WSt.drew {b0 b1 b2 : Nat} {box inn : Array Value} {L : List UInt8} {w1 w' : World} (h : WSt b0 b1 b2 box inn L w1 w') : WSt b0 b1 b2 box inn L w1 w'.drew := ⟨h.box.drew, h.inn.drew, h.lent.drew, h.far.drew⟩
theorem entKeep {w w' : World} {e : Ent} (h : e.Is w) (hb : Below w.heap.size w w') : e.Is w' := h.below hb (fun g hg => h.lt g hg)
theorem sameBytes_same (A B : Option Addr) (n m c d : Nat) (l : List UInt8) (hn : n = l.length) (hm : m = l.length) (w : World) (h : Bytes w A l) (h' : Bytes w B l) :
    Calls Try.prog 22 #[.slice A n c, .slice B m d] w fun e w' => e = .returned (.bool true) ∧ Below w.heap.size w w' := by
  refine (sameBytes_any A B n m c d l l hn hm w h h').mono ?_
  rintro e w' ⟨rfl, rfl⟩
  exact ⟨by rw [decide_eq_true rfl], Below.refl _ _⟩
set_option maxHeartbeats 2000000 in
theorem writes_any (k a s : Int) (A B : Option Addr) (c d : Nat) (l : List RefT) (m : List UInt8) (w : World) (hr : Refs w A l) (hb : Bytes w B m) :
    Calls Try.prog 8 #[.agg #[.int .i64 k, .int .i64 a, .int .i64 s, .slice A l.length c, .slice B m.length d]] w fun e w' => e = .returned (.bool true) ∧ Below w.heap.size w w' := by
  have hB := (Below.refl w.heap.size w).alloc (Nat.le_refl _) (.cells #[.int .i64 k, .int .i64 a, .int .i64 s, .slice A l.length c, .slice B m.length d] 45)
  have hx := Blk.new w 45 #[.int .i64 k, .int .i64 a, .int .i64 s, .slice A l.length c, .slice B m.length d]
  by_cases h1 : 40 < l.length
  · go_enter Try.func8, Try.ntmps8
    go_wp2
    go_ret
    exact ⟨rfl, hB⟩
  by_cases h2 : 2000 < m.length
  · go_enter Try.func8, Try.ntmps8
    go_wp2
    go_ret
    exact ⟨rfl, hB⟩
  go_enter Try.func8, Try.ntmps8
  go_wp2_with (first | (show wpList _ _ _ ((⟨some 18, _, _, _, _, _⟩ : Oper) :: _) _ _; refine wpList_load_blk (o := ⟨some 18, _, _, _, _, _⟩) (hx) (by rfl) _ _ (by rfl) (by rfl) _ Try.underlying45 (by rfl) (sizeGB) (by rfl) ?_) | fail)
  refine (copyBlock_any k a s A B c d l m (by omega) (by omega) _ (hr.below hB) (Bytes.below hb hB)).mono ?_
  rintro e w1 ⟨A2, c2, B2, d2, rfl, hr2, _, hbx⟩
  (replace hx := keep hbx hx; replace hB := hB.trans (hbx.mono hB.size); clear hbx)
  have hbx := (Below.refl w1.heap.size w1).alloc (Nat.le_refl _) (.cells zeroGB 45)
  have HX := Lib.hid hx
  have HB1 := Lib.hid hB
  have hxl := hx.lt
  clear hB hx
  go_wp2_with (first
    | (show wpList _ _ _ ((⟨none, _, _, _, _, _⟩ : Oper) :: _) _ _; refine wpList_store_blk (o := ⟨none, _, _, _, _, _⟩) (Blk.new w1 45 zeroGB) (by rfl) _ _ _ (by rfl) (by rfl) (#[.int .i64 k, .int .i64 a, .int .i64 s, .slice A2 l.length c2, .slice B2 m.length d2]) (by rfl) (sizeGB) (by rfl) (by rfl) (by simp [Value.oneCell']) ?_; intro w2 hy hu; have hC := hbx.upd hu (Nat.le_refl _); have d4 : w2.cell? ⟨w.heap.size, 4, none⟩ = some (.slice B m.length d) := (HX.out.below hC hxl).at_ 4 rfl; clear hbx hu)
    | fail)
  have hlt2 := hy.lt
  refine (lentBytes_any B m.length d m rfl (by omega) w2 (Bytes.below hb (HB1.out.trans (hC.mono HB1.out.size)))).mono ?_
  rintro e w3 ⟨rfl, hl3, hbx⟩
  (replace hy := keep hbx hy; replace hC := hC.trans (hbx.mono hC.size); clear hbx d4)
  have d4 : w3.cell? ⟨w1.heap.size, 4, none⟩ = some (.slice B2 m.length d2) := hy.at_ 4 rfl
  have f4 := hy.frozen 4
  have hy4 := Lib.hid ((hy.set_ 4 (.slice (some ⟨w2.heap.size, 0, none⟩) m.length (m.length + 3))).sub (show _ = #[.int .i64 k, .int .i64 a, .int .i64 s, .slice A2 l.length c2, .slice (some ⟨w2.heap.size, 0, none⟩) m.length (m.length + 3)] by rfl))
  have hl4 := Lib.hid (hl3.off (c := w1.heap.size) (i := 4) (by omega) (.slice (some ⟨w2.heap.size, 0, none⟩) m.length (m.length + 3)))
  have hC4 := Lib.hid (hC.set_ (c := w1.heap.size) (i := 4) (Nat.le_refl _) (.slice (some ⟨w2.heap.size, 0, none⟩) m.length (m.length + 3)))
  clear hy hl3 hC
  go_wp2_with (first
    | (show wpList _ _ _ ((⟨some 25, _, _, _, _, _⟩ : Oper) :: _) _ _; generalize World.setCell w3 _ _ = w4 at hy4 hl4 hC4 ⊢; clear d4 f4; (show wpList _ _ _ ((⟨some 25, _, _, _, _, _⟩ : Oper) :: _) _ _; refine wpList_load_blk (o := ⟨some 25, _, _, _, _, _⟩) (hy4.out) (by rfl) _ _ (by rfl) (by rfl) _ Try.underlying45 (by rfl) (sizeGB) (by rfl) ?_))
    | fail)
  have hlb : Bytes w4 (some ⟨w2.heap.size, 0, none⟩) m := by
    have := hl4.out.bytes.take m.length; rwa [List.take_left] at this
  refine (bytes_both k a s A2 (some ⟨w2.heap.size, 0, none⟩) c2 (m.length + 3) l m (by omega) (by omega) w4 (hr2.below hC4.out) hlb).mono ?_
  rintro e w5 ⟨X, nx, rfl, hnx, hE, hEb, hbx⟩
  have hl4l := hl4.out.lt
  have hy5 := Lib.hid (hy4.out.below hbx hy4.out.lt)
  have hl5 := Lib.hid (hl4.out.below hbx hl4.out.lt)
  have hC5 := Lib.hid (hC4.out.trans (hbx.mono hC4.out.size))
  have HNX := Lib.hid hnx
  have HE := Lib.hid hE
  have HEB := Lib.hid hEb
  clear hbx hy4 hl4 hC4 hlb hnx hE hEb
  go_wp2_with (first | (show wpList _ _ _ ((⟨some 30, _, _, _, _, _⟩ : Oper) :: _) _ _; refine wpList_load_blk (o := ⟨some 30, _, _, _, _, _⟩) (HX.out.below hC5.out hxl) (by rfl) _ _ (by rfl) (by rfl) _ Try.underlying45 (by rfl) (sizeGB) (by rfl) ?_) | fail)
  refine (rbytes_both k a s A B c d l m (by omega) (by omega) w5 (hr.below (HB1.out.trans (hC5.out.mono HB1.out.size))) (Bytes.below hb (HB1.out.trans (hC5.out.mono HB1.out.size)))).mono ?_
  rintro e w6 ⟨Y, ny, rfl, hY, hbx⟩
  have hy6 := Lib.hid (hy5.out.below hbx hy5.out.lt)
  have hl6 := Lib.hid (hl5.out.below hbx hl5.out.lt)
  have hC6 := Lib.hid (hC5.out.trans (hbx.mono hC5.out.size))
  have HE6 := Lib.hid (HE.out.below hbx HE.out.lt)
  clear hbx hy5 hl5 hC5 HE
  go_wp2_with fail
  -- region 7
  obtain ⟨OUT, hOUT⟩ : ∃ o, o = GB.out (k, (a, s, ()), l, m, ()) := ⟨_, rfl⟩
  have hnx := HNX.out
  rw [← hOUT] at hnx hY HE6 HEB ⊢
  have HOUT := Lib.hid hOUT
  have HNX2 := Lib.hid hnx
  obtain ⟨CODE, hCODE⟩ : ∃ o, o = GB.code (k, (a, s, ()), l, m, ()) := ⟨_, rfl⟩
  rw [← hCODE]
  have HCODE := Lib.hid hCODE
  clear hCODE hOUT hnx
  have hC6' : WSt w.heap.size w1.heap.size w2.heap.size #[.int .i64 k, .int .i64 a, .int .i64 s, .slice A l.length c, .slice B m.length d] #[.int .i64 k, .int .i64 a, .int .i64 s, .slice A2 l.length c2, .slice (some ⟨w2.heap.size, 0, none⟩) m.length (m.length + 3)] (m ++ marks m.length) w1 w6 := ⟨HX.out.below hC6.out hxl, hy6.out, hl6.out, hC6.out⟩
  have hXb := HE6.out.bytes
  clear hy6 hl6 hC6
  refine wp_region_plan (WSt w.heap.size w1.heap.size w2.heap.size #[.int .i64 k, .int .i64 a, .int .i64 s, .slice A l.length c, .slice B m.length d] #[.int .i64 k, .int .i64 a, .int .i64 s, .slice A2 l.length c2, .slice (some ⟨w2.heap.size, 0, none⟩) m.length (m.length + 3)] (m ++ marks m.length) w1) [] [(true, 0), (true, 1), (false, 2), (true, 3), (true, 4), (true, 5), (true, 6), (true, 7), (true, 8), (true, 9), (true, 10), (true, 12), (false, 11), (false, 13), (true, 14), (true, 15), (true, 16), (true, 17), (true, 19), (true, 18), (true, 20), (false, 21), (true, 22), (true, 23), (true, 24), (true, 25), (true, 27), (true, 26), (true, 28), (false, 29), (true, 30), (true, 31)] (by kernel_rfl) (by kernel_rfl) (fun c a a' w h q => ⟨h ▸ q.1, q.2⟩) hC6'.drew ?_
  refine wpPlan_pure [0, 1] [(false, 2), (true, 3), (true, 4), (true, 5), (true, 6), (true, 7), (true, 8), (true, 9), (true, 10), (true, 12), (false, 11), (false, 13), (true, 14), (true, 15), (true, 16), (true, 17), (true, 19), (true, 18), (true, 20), (false, 21), (true, 22), (true, 23), (true, 24), (true, 25), (true, 27), (true, 26), (true, 28), (false, 29), (true, 30), (true, 31)] _ (by rfl) (by rfl) ?_
  dsimp only [List.filterMap, List.getElem?_cons_zero, List.getElem?_cons_succ]
  repeat (go_big_quiet_step (fail))
  refine wpQuiet_nil ?_
  refine wpPlan_forceL _ rfl ?_
  go_wp2_with fail
  refine (sameBytes_same X Y nx OUT.length nx ny OUT HNX2.out rfl w6.drew hXb hY).mono ?_
  rintro e w7 ⟨rfl, hbx⟩
  have hC7 := WSt.below (hC6'.drew) hbx
  have hC7b := hbx
  clear hbx
  go_wp2_with fail
  refine PlanQ.in_ hC7 ?_
  refine wpPlan_pure [3, 4, 5, 6, 7, 8, 9] [(true, 10), (true, 12), (false, 11), (false, 13), (true, 14), (true, 15), (true, 16), (true, 17), (true, 19), (true, 18), (true, 20), (false, 21), (true, 22), (true, 23), (true, 24), (true, 25), (true, 27), (true, 26), (true, 28), (false, 29), (true, 30), (true, 31)] _ (by rfl) (by rfl) ?_
  dsimp only [List.filterMap, List.getElem?_cons_zero, List.getElem?_cons_succ]
  repeat (go_big_quiet_step (fail))
  refine wpQuiet_nil ?_
  refine wpPlan_takeL [10, 12] [(false, 11), (false, 13), (true, 14), (true, 15), (true, 16), (true, 17), (true, 19), (true, 18), (true, 20), (false, 21), (true, 22), (true, 23), (true, 24), (true, 25), (true, 27), (true, 26), (true, 28), (false, 29), (true, 30), (true, 31)] _ (by rfl) (by rfl) hC7 ?_
  dsimp only [List.filterMap, List.getElem?_cons_zero, List.getElem?_cons_succ]
  (refine wpQuiet_want' (by rfl) ?_; refine wpQuiet_load_blk (fun w' hw' => WSt.inn hw') (by rfl) _ _ (by rfl) (by rfl) _ Try.underlying45 (by rfl) sizeGB (by rfl) ?_; simp only [Act.put, List.setIfInBounds_toArray, List.set_cons_zero, List.set_cons_succ])
  (refine wpQuiet_want' (by rfl) ?_; refine wpQuiet_load_blk (fun w' hw' => WSt.box hw') (by rfl) _ _ (by rfl) (by rfl) _ Try.underlying45 (by rfl) sizeGB (by rfl) ?_; simp only [Act.put, List.setIfInBounds_toArray, List.set_cons_zero, List.set_cons_succ])
  refine wpQuiet_nil ?_
  refine wpPlan_forceL _ rfl ?_
  go_wp2_with fail
  refine (check_any k a s A2 (some ⟨w2.heap.size, 0, none⟩) c2 (m.length + 3) l m (by omega) (by omega) w7 (hr2.below (WSt.far hC7))).mono ?_
  rintro e w8 ⟨rfl, hbx⟩
  have hC8 := WSt.below (hC7) hbx
  rw [← HCODE.out]
  have hC8b := hbx
  clear hbx
  go_wp2_with fail
  refine PlanQ.in_ hC8 ?_
  refine wpPlan_forceL _ rfl ?_
  go_wp2_with fail
  refine (rcheck_any k a s A B c d l m (by omega) (by omega) w8 (hr.below (HB1.out.trans ((WSt.far hC8).mono HB1.out.size)))).mono ?_
  rintro e w9 ⟨rfl, hbx⟩
  have hC9 := WSt.below (hC8) hbx
  rw [← HCODE.out]
  have hC9b := hbx
  clear hbx
  go_wp2_with fail
  refine PlanQ.in_ hC9 ?_
  refine wpPlan_pure [14, 15, 16, 17, 19] [(true, 18), (true, 20), (false, 21), (true, 22), (true, 23), (true, 24), (true, 25), (true, 27), (true, 26), (true, 28), (false, 29), (true, 30), (true, 31)] _ (by rfl) (by rfl) ?_
  dsimp only [List.filterMap, List.getElem?_cons_zero, List.getElem?_cons_succ]
  repeat (go_big_quiet_step (fail))
  refine wpQuiet_nil ?_
  refine wpPlan_takeL [18, 20] [(false, 21), (true, 22), (true, 23), (true, 24), (true, 25), (true, 27), (true, 26), (true, 28), (false, 29), (true, 30), (true, 31)] _ (by rfl) (by rfl) hC9 ?_
  dsimp only [List.filterMap, List.getElem?_cons_zero, List.getElem?_cons_succ]
  (refine wpQuiet_want' (by rfl) ?_; refine wpQuiet_load_cell (fun w' hw' => Blk.at_ (v := .slice (some ⟨w2.heap.size, 0, none⟩) m.length (m.length + 3)) (WSt.inn hw') 4 rfl) (by rfl) _ _ (by rfl) (by rfl) _ Try.underlying22 (by rfl) ?_; simp only [Act.put, List.setIfInBounds_toArray, List.set_cons_zero, List.set_cons_succ])
  (refine wpQuiet_want' (by rfl) ?_; refine wpQuiet_load_cell (fun w' hw' => Blk.at_ (v := .slice B m.length d) (WSt.box hw') 4 rfl) (by rfl) _ _ (by rfl) (by rfl) _ Try.underlying22 (by rfl) ?_; simp only [Act.put, List.setIfInBounds_toArray, List.set_cons_zero, List.set_cons_succ])
  refine wpQuiet_nil ?_
  refine wpPlan_forceL _ rfl ?_
  go_wp2_with fail
  refine (keptBytes_any w2.heap.size d m.length (m.length + 3) m.length B m rfl rfl rfl (by omega) w9 (WSt.lent hC9) (Bytes.below hb (HB1.out.trans ((WSt.far hC9).mono HB1.out.size)))).mono ?_
  rintro e w10 ⟨rfl, hbx⟩
  have hC10 := WSt.below (hC9) hbx
  have hC10b := hbx
  clear hbx
  go_wp2_with fail
  refine PlanQ.in_ hC10 ?_
  refine wpPlan_pure [22, 23, 24, 25, 27] [(true, 26), (true, 28), (false, 29), (true, 30), (true, 31)] _ (by rfl) (by rfl) ?_
  dsimp only [List.filterMap, List.getElem?_cons_zero, List.getElem?_cons_succ]
  repeat (go_big_quiet_step (fail))
  refine wpQuiet_nil ?_
  refine wpPlan_takeL [26, 28] [(false, 29), (true, 30), (true, 31)] _ (by rfl) (by rfl) hC10 ?_
  dsimp only [List.filterMap, List.getElem?_cons_zero, List.getElem?_cons_succ]
  (refine wpQuiet_want' (by rfl) ?_; refine wpQuiet_load_cell (fun w' hw' => Blk.at_ (v := .slice A2 l.length c2) (WSt.inn hw') 3 rfl) (by rfl) _ _ (by rfl) (by rfl) _ Try.underlying43 (by rfl) ?_; simp only [Act.put, List.setIfInBounds_toArray, List.set_cons_zero, List.set_cons_succ])
  (refine wpQuiet_want' (by rfl) ?_; refine wpQuiet_load_cell (fun w' hw' => Blk.at_ (v := .slice A l.length c) (WSt.box hw') 3 rfl) (by rfl) _ _ (by rfl) (by rfl) _ Try.underlying43 (by rfl) ?_; simp only [Act.put, List.setIfInBounds_toArray, List.set_cons_zero, List.set_cons_succ])
  refine wpQuiet_nil ?_
  refine wpPlan_forceL _ rfl ?_
  go_wp2_with fail
  refine (sameRefs_any A2 A l.length l.length c2 c l l rfl rfl (by omega) w10 (hr2.below (WSt.far hC10)) (hr.below (HB1.out.trans ((WSt.far hC10).mono HB1.out.size)))).mono ?_
  rintro e w11 ⟨rfl, hbx⟩
  have hC11 := WSt.below (hC10) hbx
  rw [decide_eq_true rfl]
  have hC11b := hbx
  clear hbx
  go_wp2_with fail
  refine PlanQ.in_ hC11 ?_
  refine wpPlan_pure [30, 31] [] _ (by rfl) (by rfl) ?_
  dsimp only [List.filterMap, List.getElem?_cons_zero, List.getElem?_cons_succ]
  repeat (go_big_quiet_step (fail))
  refine wpQuiet_nil ?_
  refine wpPlan_nil ?_
  have hE11 := entKeep (entKeep (entKeep (entKeep (entKeep (show Ent.Is w6.drew _ from HE6.out) hC7b) hC8b) hC9b) hC10b) hC11b
  clear hC7b hC8b hC9b hC10b hC11b
  have d4 : w11.cell? ⟨w1.heap.size, 4, none⟩ = some (.slice (some ⟨w2.heap.size, 0, none⟩) m.length (m.length + 3)) := hC11.inn.at_ 4 rfl
  go_wp2_with fail
  have hbz := (Below.refl w11.heap.size w11).alloc (Nat.le_refl _) (.cells #[.slice X nx nx, .slice (some ⟨w2.heap.size, 0, none⟩) m.length (m.length + 3)] 22)
  have hgz := Blk.new w11 22 #[.slice X nx nx, .slice (some ⟨w2.heap.size, 0, none⟩) m.length (m.length + 3)]
  have hC12 := WSt.below hC11 hbz
  have hE12 := entKeep hE11 hbz
  have hml : (marks m.length).length = 3 := by simp [marks]
  have hlt11 := hC11.lent.lt
  have hE1 := hE11.lt
  refine (apart_any w.heap.size w11.heap.size 2 [⟨X, nx, OUT⟩, ⟨some ⟨w2.heap.size, 0, none⟩, m.length, m ++ marks m.length⟩] (by simp) _ (by have := hC12.far.size; omega) ⟨?_, ?_⟩ ?_ ?_ ?_).mono ?_
  · refine hgz.sub ?_
    simp [Ent.val, HNX2.out, hml]
  · intro e he
    simp only [List.mem_cons, List.not_mem_nil, or_false] at he
    rcases he with rfl | rfl
    · exact hE12
    · exact ⟨by simp, by simp [hml]; omega, .inr ⟨w2.heap.size, _, rfl, hC12.lent⟩⟩
  · intro i j hi hj hij g hg hg2
    have h2 : ∀ g, Ent.blk ⟨X, nx, OUT⟩ = some g → g ≠ w2.heap.size := fun g h => by have := HEB.out g h; omega
    have hi' : i = 0 ∨ i = 1 := by simp at hi; omega
    have hj' : j = 0 ∨ j = 1 := by simp at hj; omega
    rcases hi' with rfl | rfl <;> rcases hj' with rfl | rfl
    · exact hij rfl
    · exact h2 g hg (by simpa [Ent.blk] using hg2.symm)
    · exact h2 g hg2 (by simpa [Ent.blk] using hg.symm)
    · exact hij rfl
  · intro e he hg
    simp only [List.mem_cons, List.not_mem_nil, or_false] at he
    rcases he with rfl | rfl
    · have := hE1 _ hg; omega
    · simp [Ent.blk] at hg; omega
  · intro e he g hg
    simp only [List.mem_cons, List.not_mem_nil, or_false] at he
    rcases he with rfl | rfl
    · have := HEB.out g hg; omega
    · simp [Ent.blk] at hg; omega
  · rintro e w12 ⟨rfl, hbx⟩
    have hB12 := (HB1.out.trans (hC12.far.mono HB1.out.size)).trans hbx
    clear hbx hgz hC12 hE12 hC11 d4 hbz
    go_wp2_with fail
    refine (awake10_any w12).mono ?_
    rintro e w13 ⟨rfl, hbx⟩
    have hB13 := hB12.trans (hbx.mono hB12.size)
    clear hbx hB12
    go_wp2
    go_ret
    exact ⟨rfl, hB13⟩
end Go.Proofs.Ytfpcldnefpmgcaa
