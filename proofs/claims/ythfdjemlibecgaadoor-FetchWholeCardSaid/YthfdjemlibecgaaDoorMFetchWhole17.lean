/- A block is put where it stood: the grid's Install. Conditions: the grid is known; the bytes can be read, and lie in none of the disk's blocks. -/
import Derived.Test.YthfdjemlibecgaaDoorMFetchWhole16
import Derived.Lib.ConvBytes
namespace Go.Proofs.YthfdjemlibecgaaDoor
open Go.RowKit
/-- What it answers: the error's number, the grid, the disk, its fuse. -/
def ginst (g : Grd) (d : Dsk) (f : Option Fus) (r : RefT) (raw : List UInt8) : Int × Grd × Dsk × Option Fus :=
  if d.isOut f = true then (11, g, d, f)
  else if g.of r = false then (2, g, d, f)
  else if (GB.read raw).1 ≠ 0 then ((GB.read raw).1, g, d, f)
  else if (GB.read raw).2.2.1 ≠ r then (2, g, d, f)
  else if (d.write f (gplace r.1) raw).1 ≠ 0 then ((d.write f (gplace r.1) raw).1, g, (d.write f (gplace r.1) raw).2)
  else (0, { g with W := g.W.erase r }, (d.write f (gplace r.1) raw).2)
theorem GB.read_len {raw : List UInt8} (h : (GB.read raw).1 = 0) : raw.length = 1024 := by
  unfold GB.read at h
  split at h
  · exact absurd h (by simp)
  · rename_i h1; omega
section
variable {w : World} {q : GPl} {g : Grd} {d : Dsk} {f : Option Fus}
set_option maxRecDepth 100000 in
set_option maxHeartbeats 8000000 in
theorem ginstall_any (h : GridR w q g d f) (hlen : g.W.length ≤ 1099511627776) (r : RefT) (A : Option Addr) (n c : Nat) (raw : List UInt8) (hn : n = raw.length) (hc : n ≤ c) (hc2 : c ≤ 9223372036854775807) (hb : Bytes w A raw) (hA : ∀ ad, A = some ad → ad.block ∉ q.p.all q.gf) :
    Calls Tryd.prog 28 #[.pointer (some ⟨q.gg, 0, none⟩), .agg #[.int .i64 r.1, .int .i64 r.2.1], .slice A n c] w fun e w' => e = .returned (.int .i64 (ginst g d f r raw).1) ∧
      GPost w q (ginst g d f r raw).2.1 (ginst g d f r raw).2.2.1 (ginst g d f r raw).2.2.2 w' := by
  have hB := (Below.refl w.heap.size w).alloc (Nat.le_refl _) (.cells #[.int .i64 r.1, .int .i64 r.2.1] 23)
  have hbr := Blk.new w 23 #[.int .i64 r.1, .int .i64 r.2.1]
  have HW := Lib.hid (And.intro h (And.intro hb (And.intro hA (And.intro hlen (And.intro hn (And.intro hc hc2))))))
  have H1 := Lib.hid (And.intro hB hbr)
  clear h hb hA hlen hn hc hc2 hB hbr
  go_enter Tryd.func28, Tryd.ntmps28
  go_wp2_with fail
  generalize w.alloc (.cells #[.int .i64 r.1, .int .i64 r.2.1] 23) = w1 at H1 ⊢
  refine (gready_any (HW.out.1.below H1.out.1)).mono ?_
  rintro e w1' ⟨rfl, hw⟩
  obtain rfl := hw.symm
  clear hw
  by_cases hq : d.isOut f = true
  · have HL : Hid (ginst g d f r raw = (11, g, d, f)) := Lib.hid (if_pos hq)
    rw [if_pos hq]
    clear hq
    go_wp2
    go_ret
    rw [HL.out]
    exact ⟨rfl, GPost.same HW.out.1 H1.out.1⟩
  rw [if_neg hq]
  have HQ := Lib.hid (show d.isOut f = false by simpa using hq)
  have hbr := H1.out.2
  clear hq
  go_wp2_with (first
    | ((with_reducible show wpList _ _ _ ((⟨some 17, _, _, _, _, _⟩ : Oper) :: _) _ _); refine wpList_load_blk (o := ⟨some 17, _, _, _, _, _⟩) (hbr) (by rfl) _ _ (by rfl) (by rfl) _ Tryd.underlying23 (by rfl) (size_ref) (by rfl) ?_)
    | fail)
  refine (gof_any (HW.out.1.below H1.out.1) r).mono ?_
  rintro e w2 ⟨rfl, hbx⟩
  have H2 := Lib.hid (And.intro (H1.out.1.trans (hbx.mono H1.out.1.size)) (H1.out.2.below hbx H1.out.2.lt))
  clear hbx hbr H1
  by_cases ho : g.of r = true
  case neg =>
    have ho' : g.of r = false := by simpa using ho
    have HL : Hid (ginst g d f r raw = (2, g, d, f)) := Lib.hid (by unfold ginst; rw [if_neg (by rw [HQ.out]; simp), if_pos ho'])
    rw [ho']
    clear ho ho'
    go_wp2
    go_ret
    rw [HL.out]
    exact ⟨rfl, GPost.same HW.out.1 H2.out.1⟩
  rw [ho]
  have HO := Lib.hid ho
  clear ho
  go_wp2_with fail
  refine (gbRead_any A n c raw HW.out.2.2.2.2.1 HW.out.2.2.2.2.2.1 HW.out.2.2.2.2.2.2 w2 (Bytes.below HW.out.2.1 H2.out.1)).mono ?_
  rintro e w3 ⟨A2, c2, B2, d2, rfl, -, -, -, -, -, hbx, -, -⟩
  have H3 := Lib.hid (And.intro (H2.out.1.trans (hbx.mono H2.out.1.size)) (H2.out.2.below hbx H2.out.2.lt))
  clear hbx H2
  by_cases hc0 : (GB.read raw).1 = 0
  case neg =>
    have HL : Hid (ginst g d f r raw = ((GB.read raw).1, g, d, f)) := Lib.hid (by unfold ginst; rw [if_neg (by rw [HQ.out]; simp), if_neg (by rw [HO.out]; simp), if_pos hc0])
    generalize (GB.read raw).1 = code at hc0 HL ⊢
    have kn := decide_eq_false hc0
    generalize (GB.read raw).2 = b
    go_wp2_with (first
      | ((with_reducible show wpList _ _ _ ((⟨none, _, _, _, _, _⟩ : Oper) :: _) _ _); refine wpList_store_blk (o := ⟨none, _, _, _, _, _⟩) ((Blk.new w3 46 #[.int .i64 0, .int .i64 0, .int .i64 0, .slice none 0 0, .slice none 0 0])) (by rfl) _ _ _ (by rfl) (by rfl) (gbc b A2 c2 B2 d2) (by rfl) (sizeGB) (by rfl) (by rfl) (gbc_one _ _ _ _ _) ?_; intro w4 h4 hu4; have hbx := ((Below.refl w3.heap.size w3).alloc (Nat.le_refl _) (.cells #[.int .i64 0, .int .i64 0, .int .i64 0, .slice none 0 0, .slice none 0 0] 46)).upd hu4 (Nat.le_refl _); have H4 := Lib.hid (H3.out.1.trans (hbx.mono H3.out.1.size)); clear hu4 hbx h4)
      | fail)
    go_ret
    rw [HL.out]
    exact ⟨rfl, GPost.same HW.out.1 H4.out⟩
  have HR := Lib.hid hc0
  have HLEN := Lib.hid (GB.read_len hc0)
  rw [hc0]
  obtain ⟨b, hbq⟩ : ∃ b, b = (GB.read raw).2 := ⟨_, rfl⟩
  rw [← hbq]
  have HBQ := Lib.hid hbq
  have hz := zeroGBrun
  obtain ⟨b0, ⟨b1, b2, bu⟩, b3, b4, bv⟩ := b
  clear hc0 hbq
  by_cases hbe : (b1, b2, bu) = r
  case neg =>
    have HL : Hid (ginst g d f r raw = (2, g, d, f)) := Lib.hid (by unfold ginst; rw [if_neg (by rw [HQ.out]; simp), if_neg (by rw [HO.out]; simp), if_neg (by rw [HR.out]; simp), if_pos (by rw [← HBQ.out]; exact hbe)])
    have HN : Hid ((!((b1 == r.1) && (b2 == r.2.1))) = true) := Lib.hid (by
      rw [Bool.not_eq_true', Bool.and_eq_false_iff]
      rcases Classical.em (b1 = r.1) with e1 | e1
      · rcases Classical.em (b2 = r.2.1) with e2 | e2
        · exact absurd (by rw [e1, e2]) hbe
        · exact .inr (beq_eq_false_iff_ne.2 e2)
      · exact .inl (beq_eq_false_iff_ne.2 e1))
    clear hbe
    go_wp2_with (first
      | ((with_reducible show wpList _ _ _ ((⟨none, _, _, _, _, _⟩ : Oper) :: _) _ _); refine wpList_store_blk (o := ⟨none, _, _, _, _, _⟩) ((Blk.new w3 46 #[.int .i64 0, .int .i64 0, .int .i64 0, .slice none 0 0, .slice none 0 0])) (by rfl) _ _ _ (by rfl) (by rfl) (#[.int .i64 b0, .int .i64 b1, .int .i64 b2, .slice A2 b3.length c2, .slice B2 b4.length d2]) (by rfl) (sizeGB) (by rfl) (by rfl) (by simp [Value.oneCell']) ?_; intro w4 h4 hu4; have hbx := ((Below.refl w3.heap.size w3).alloc (Nat.le_refl _) (.cells #[.int .i64 0, .int .i64 0, .int .i64 0, .slice none 0 0, .slice none 0 0] 46)).upd hu4 (Nat.le_refl _); have hbr4 := H3.out.2.below hbx H3.out.2.lt; have H4 := Lib.hid (And.intro (H3.out.1.trans (hbx.mono H3.out.1.size)) hbr4); clear hu4 hbx)
      | ((with_reducible show wpList _ _ _ ((⟨some 29, _, _, _, _, _⟩ : Oper) :: _) _ _); refine wpList_load_mid (o := ⟨some 29, _, _, _, _, _⟩) (range2 (b := w3.heap.size) (off := 1) (u := .int .i64 b1) (v := .int .i64 b2) (h4.at_ 1 (v := .int .i64 b1) rfl) (h4.at_ 2 (v := .int .i64 b2) rfl)) (by rfl) _ _ (by rfl) (by rfl) _ Tryd.underlying23 (by rfl) size_ref (by rfl) ?_)
      | ((with_reducible show wpList _ _ _ ((⟨some 30, _, _, _, _, _⟩ : Oper) :: _) _ _); refine wpList_load_blk (o := ⟨some 30, _, _, _, _, _⟩) (hbr4) (by rfl) _ _ (by rfl) (by rfl) _ Tryd.underlying23 (by rfl) (size_ref) (by rfl) ?_)
      | ((with_reducible show wpList _ _ _ ((⟨some 31, _, _, _, _, _⟩ : Oper) :: _) _ _); refine wpList_run (o := ⟨some 31, _, _, _, _, _⟩) _ (by rfl) (exec_neq_ref _ _ _ _ (by rfl) b1 b2 r.1 r.2.1 (by rfl) (by rfl)) ?_; rw [HN.out]; clear hbr4 h4)
      | fail)
    go_ret
    rw [HL.out]
    exact ⟨rfl, GPost.same HW.out.1 H4.out.1⟩
  have HN : Hid ((!((b1 == r.1) && (b2 == r.2.1))) = false) := Lib.hid (by rw [← hbe]; simp)
  have HBE : Hid ((GB.read raw).2.2.1 = r) := Lib.hid (by rw [← HBQ.out]; exact hbe)
  have hr1 := Grd.of_spec HO.out
  clear hbe
  go_wp2_with (first
    | ((with_reducible show wpList _ _ _ ((⟨none, _, _, _, _, _⟩ : Oper) :: _) _ _); refine wpList_store_blk (o := ⟨none, _, _, _, _, _⟩) ((Blk.new w3 46 #[.int .i64 0, .int .i64 0, .int .i64 0, .slice none 0 0, .slice none 0 0])) (by rfl) _ _ _ (by rfl) (by rfl) (#[.int .i64 b0, .int .i64 b1, .int .i64 b2, .slice A2 b3.length c2, .slice B2 b4.length d2]) (by rfl) (sizeGB) (by rfl) (by rfl) (by simp [Value.oneCell']) ?_; intro w4 h4 hu4; have hbx := ((Below.refl w3.heap.size w3).alloc (Nat.le_refl _) (.cells #[.int .i64 0, .int .i64 0, .int .i64 0, .slice none 0 0, .slice none 0 0] 46)).upd hu4 (Nat.le_refl _); have hbr4 := H3.out.2.below hbx H3.out.2.lt; have H4 := Lib.hid (And.intro (H3.out.1.trans (hbx.mono H3.out.1.size)) hbr4); clear hu4 hbx)
    | ((with_reducible show wpList _ _ _ ((⟨some 29, _, _, _, _, _⟩ : Oper) :: _) _ _); refine wpList_load_mid (o := ⟨some 29, _, _, _, _, _⟩) (range2 (b := w3.heap.size) (off := 1) (u := .int .i64 b1) (v := .int .i64 b2) (h4.at_ 1 (v := .int .i64 b1) rfl) (h4.at_ 2 (v := .int .i64 b2) rfl)) (by rfl) _ _ (by rfl) (by rfl) _ Tryd.underlying23 (by rfl) size_ref (by rfl) ?_)
    | ((with_reducible show wpList _ _ _ ((⟨some 30, _, _, _, _, _⟩ : Oper) :: _) _ _); refine wpList_load_blk (o := ⟨some 30, _, _, _, _, _⟩) (hbr4) (by rfl) _ _ (by rfl) (by rfl) _ Tryd.underlying23 (by rfl) (size_ref) (by rfl) ?_)
    | ((with_reducible show wpList _ _ _ ((⟨some 31, _, _, _, _, _⟩ : Oper) :: _) _ _); refine wpList_run (o := ⟨some 31, _, _, _, _, _⟩) _ (by rfl) (exec_neq_ref _ _ _ _ (by rfl) b1 b2 r.1 r.2.1 (by rfl) (by rfl)) ?_; rw [HN.out]; clear hbr4 h4)
    | fail)
  simp only [Act.put, List.setIfInBounds_toArray, List.set_cons_zero, List.set_cons_succ]
  clear H3
  have HG := Lib.hid (HW.out.1.below H4.out.1)
  have hap := Lib.hid HW.out.1.apart
  have hN0 : Near (q.p.all q.gf) w4 w4.drew := (Near.refl _ _).drew
  have hof : ∀ x, w.heap.size ≤ x → x ∉ q.p.all q.gf := fun x hx hm => by have h2 := HW.out.1.dk.lt x hm; omega
  have hG : Hid (∀ w', Near (q.p.all q.gf) w4 w' → w'.cell? ⟨q.gg, 0, none⟩ = some (.pointer (some ⟨q.p.gd, 0, none⟩)) ∧ w'.cell? ⟨w.heap.size, 0, none⟩ = some (.int .i64 r.1)) := Lib.hid fun w' hw' => by
    obtain ⟨wv, hb⟩ := HG.out.blk
    exact ⟨(hb.near hw' hap.out.g).at_ 0 rfl, (H4.out.2.near hw' (hof _ (Nat.le_refl _))).at_ 0 rfl⟩
  refine wp_region_tree (Near (q.p.all q.gf) w4) [] (PlanT.takes [0, 1, 2, 4, 7] (PlanT.takes [3, 5] (.opt 6 (.opt 8 (PlanT.takes [9] .done) .no) .no))) (by kernel_rfl) (by kernel_rfl) (hN0) ?_
  refine wpTree_pure _ _ _ (by rfl) (by rfl) ?_
  dsimp only [List.filterMap, List.getElem?_cons_zero, List.getElem?_cons_succ]
  repeat (go_big_quiet_step (fail))
  refine wpQuiet_nil ?_
  refine wpTree_takeL _ _ _ (by rfl) (by rfl) (hN0) ?_
  dsimp only [List.filterMap, List.getElem?_cons_zero, List.getElem?_cons_succ]
  (refine wpQuiet_load_cell (fun w' hw' => (hG.out w' hw').1) (by rfl) _ _ (by rfl) (by rfl) _ Tryd.underlying41 (by rfl) ?_; simp only [Act.put, List.setIfInBounds_toArray, List.set_cons_zero, List.set_cons_succ])
  (refine wpQuiet_load_cell (fun w' hw' => (hG.out w' hw').2) (by rfl) _ _ (by rfl) (by rfl) _ Tryd.underlying3 (by rfl) ?_; simp only [Act.put, List.setIfInBounds_toArray, List.set_cons_zero, List.set_cons_succ])
  refine wpQuiet_nil ?_
  refine wpTree_one _ rfl ?_
  have hnn := HW.out.1.ok.h512
  go_wp2_with fail
  refine (gplace_any r.1 hr1.1 (by omega) _).mono ?_
  rintro e w5 ⟨rfl, hw5⟩
  have hB5 : Below w4.heap.size w4 w5 := by rw [hw5]; exact (Below.refl _ _).drew
  have hN5 : Near (q.p.all q.gf) w4 w5 := by rw [hw5]; exact hN0
  clear hw5 hN0 hnn hr1
  go_wp2_with fail
  refine TreeQ.in_ hN5 ?_
  refine wpTree_one _ rfl ?_
  go_wp2_with fail
  have hWb := H4.out.1.trans (hB5.mono H4.out.1.size)
  have hwr := write_ok' (gplace r.1) n c A raw w5 HW.out.2.2.2.2.1 (Bytes.below HW.out.2.1 hWb) HW.out.2.2.1 (by rw [← HW.out.2.2.2.2.1]; exact HW.out.2.2.2.2.2.1) (by rw [HLEN.out]; omega) (HW.out.1.below hWb).dk
  refine hwr.mono ?_
  rintro e w6 ⟨rfl, hdk, hn6⟩
  have hN6 := hN5.trans hn6
  have hNN := Dsk.write_N d f (gplace r.1) raw
  have HL0 : ginst g d f r raw = if (d.write f (gplace r.1) raw).1 ≠ 0 then ((d.write f (gplace r.1) raw).1, g, (d.write f (gplace r.1) raw).2) else (0, { g with W := g.W.erase r }, (d.write f (gplace r.1) raw).2) := by
    unfold ginst; rw [if_neg (by rw [HQ.out]; simp), if_neg (by rw [HO.out]; simp), if_neg (by rw [HR.out]; simp), if_neg (by rw [HBE.out]; simp)]
  generalize d.write f (gplace r.1) raw = X at hdk hNN HL0 ⊢
  obtain ⟨c0, d2', f2⟩ := X
  simp only at hdk hNN HL0 ⊢
  have H6 := Lib.hid (And.intro (HG.out.wrote hdk hN6 hNN) (And.intro (H4.out.2.near hN6 (hof _ (Nat.le_refl _))) (((Near.below H4.out.1 : Near (q.p.all q.gf) w w4).trans hN6).wider (Y := q.all) (fun x hx => GPl.mem.2 (.inr (.inr (.inr (.inr hx)))))))) 
  have hC6 := Lib.hid hN6
  have HL0 := Lib.hid HL0
  clear hdk hn6 hN6 hNN hB5 hN5 hWb hwr hof hG HG
  go_wp2_with fail
  refine TreeQ.in_ hC6.out ?_
  refine wpTree_pure _ _ _ (by rfl) (by rfl) ?_
  dsimp only [List.filterMap, List.getElem?_cons_zero, List.getElem?_cons_succ]
  repeat (go_big_quiet_step (fail))
  refine wpQuiet_nil ?_
  refine wpTree_done ?_
  by_cases he : c0 = 0
  case neg =>
    have HL := Lib.hid (HL0.out.trans (if_pos he))
    have kn := decide_eq_false he
    go_wp2
    go_ret
    rw [HL.out]
    exact ⟨rfl, ⟨q, rfl, rfl, rfl, H6.out.1, H6.out.2.2, fun _ hx => .inl hx⟩⟩
  subst he
  have HL1 := Lib.hid (HL0.out.trans (if_neg (by simp)))
  clear HL0 hC6
  go_wp2_with fail
  have hN0 : Near [q.gi] w6 w6.drew := (Near.refl _ _).drew
  have hlt := HW.out.1.lt
  have hgi : q.gi < w.heap.size := hlt _ (GPl.mem.2 (.inr (.inr (.inl rfl))))
  have hG : Hid (∀ w', Near [q.gi] w6 w' → w'.cell? ⟨q.gg, 3, none⟩ = some (.map (some q.gi)) ∧ Blk w' w.heap.size 23 #[.int .i64 r.1, .int .i64 r.2.1]) := Lib.hid fun w' hw' => by
    obtain ⟨wv, hb⟩ := H6.out.1.blk
    exact ⟨(hb.near hw' (fun hm => hap.out.gi (List.mem_singleton.1 hm))).at_ 3 rfl, H6.out.2.1.near hw' (fun hm => by have := List.mem_singleton.1 hm; omega)⟩
  refine wp_region_tree (Near [q.gi] w6) [] (PlanT.takes [0, 1, 2] (PlanT.takes [3, 4] (.opt 5 .done .no))) (by kernel_rfl) (by kernel_rfl) (hN0) ?_
  refine wpTree_pure _ _ _ (by rfl) (by rfl) ?_
  dsimp only [List.filterMap, List.getElem?_cons_zero, List.getElem?_cons_succ]
  repeat (go_big_quiet_step (fail))
  refine wpQuiet_nil ?_
  refine wpTree_takeL _ _ _ (by rfl) (by rfl) (hN0) ?_
  dsimp only [List.filterMap, List.getElem?_cons_zero, List.getElem?_cons_succ]
  (refine wpQuiet_load_cell (fun w' hw' => (hG.out w' hw').1) (by rfl) _ _ (by rfl) (by rfl) _ Tryd.underlying93 (by rfl) ?_; simp only [Act.put, List.setIfInBounds_toArray, List.set_cons_zero, List.set_cons_succ])
  (refine wpQuiet_load_blk (fun w' hw' => (hG.out w' hw').2) (by rfl) _ _ (by rfl) (by rfl) _ Tryd.underlying23 (by rfl) (size_ref) (by rfl) ?_; simp only [Act.put, List.setIfInBounds_toArray, List.set_cons_zero, List.set_cons_succ])
  refine wpQuiet_nil ?_
  refine wpTree_one _ rfl ?_
  have hmp := H6.out.1.mp.near (X := []) (w' := w6.drew) (Near.refl _ _).drew List.not_mem_nil
  go_wp2_with (first
    | ((with_reducible show wpList _ _ _ ((⟨none, _, _, _, _, _⟩ : Oper) :: _) _ _); refine wpList_delete_k (o := ⟨none, _, _, _, _, _⟩) (by rfl) refKey _ 23 4 _ _ (by rfl) Tryd.underlying93 hmp r trivial (by rfl) (by rfl) ?_; intro w7 hm7 hu7; rw [wantM_del g.W r] at hm7)
    | fail)
  have k7 : Near [q.gi] w6 w7 := hN0.trans (Near.upd hu7 (List.mem_singleton_self _))
  refine TreeQ.in_ k7 ?_
  refine wpTree_done ?_
  have hR7 := (hG.out _ k7).2
  clear hN0 hu7 hmp hG
  obtain ⟨wv, sp, h1, h2, h3⟩ := H6.out.1.wn
  have h2 := h2.near k7 (fun hm => hap.out.gi (List.mem_singleton.1 hm))
  have h3 := OwnsC.nearO h3 k7 (fun x hx hm => (hap.out.wo x (h1 ▸ hx)).2.2 (List.mem_singleton.1 hm))
  obtain ⟨B, cw, rfl, -, -, -, -⟩ := OwnsC.reads h3
  have d4 := h2.at_ 4 (v := .slice B g.W.length cw) rfl
  have hdr := dropRef_any (.slice B g.W.length cw) g.W sp r w.heap.size w7 HW.out.2.2.2.1 H6.out.1.ok.nd h3 hR7 (by rw [h1]; intro e; have h5 := hlt _ (GPl.mem.2 (.inr (.inr (.inr (.inl e))))); omega)
  unfold isRef at hdr
  have H7 := Lib.hid (And.intro h1 (And.intro h2 (And.intro hm7 k7)))
  have HLT := Lib.hid hlt
  clear h1 h2 h3 hm7 k7 hR7 hlt
  go_wp2_with fail
  refine hdr.mono ?_
  rintro e w8 ⟨v', sp', rfl, ho8, hv8, k8⟩
  rw [H7.out.1] at hv8 k8
  have hgg : q.gg ∉ q.gw.toList := by rw [Option.mem_toList]; exact fun e => (hap.out.wo _ e).1 rfl
  have hgi8 : q.gi ∉ q.gw.toList := by rw [Option.mem_toList]; exact fun e => (hap.out.wo _ e).2.2 rfl
  have hgs8 : q.gs ∉ q.gw.toList := by rw [Option.mem_toList]; exact fun e => (hap.out.wo _ e).2.1 rfl
  have hb8 := H7.out.2.1.near k8 hgg
  obtain ⟨B8, c8, rfl, -, -, -, -⟩ := OwnsC.reads ho8
  have d8 := hb8.at_ 4 (v := .slice B g.W.length cw) rfl
  have f8 := hb8.frozen 4
  have hu9 : Upd q.gg w8 (w8.setCell ⟨q.gg, 4, none⟩ (.slice B8 (g.W.erase r).length c8)) := (Upd.refl _ _).set 4 _
  have k9 : Near [q.gg] w8 (w8.setCell ⟨q.gg, 4, none⟩ (.slice B8 (g.W.erase r).length c8)) := Near.upd hu9 (List.mem_singleton_self _)
  have hP : GPost w q { g with W := g.W.erase r } d2' f2 (w8.setCell ⟨q.gg, 4, none⟩ (.slice B8 (g.W.erase r).length c8)) := by
    have hG6 := H6.out.1
    have hdk7 := hG6.dk.nearX H7.out.2.2.2 (fun x hx hm => hap.out.i (List.mem_singleton.1 hm ▸ hx))
    have hdk8 := hdk7.nearX k8 (fun x hx hm => hap.out.w x (Option.mem_toList.1 hm) hx)
    have hdk9 := hdk8.nearX k9 (fun x hx hm => hap.out.g (List.mem_singleton.1 hm ▸ hx))
    have hst := ((hG6.st.near H7.out.2.2.2 (fun hm => hap.out.si (List.mem_singleton.1 hm))).near k8 hgs8).near k9 (fun hm => hap.out.gs (List.mem_singleton.1 hm).symm)
    have hmp := (H7.out.2.2.1.near k8 hgi8).near k9 (fun hm => hap.out.gi (List.mem_singleton.1 hm).symm)
    refine ⟨q, rfl, rfl, rfl, ⟨hdk9, hst, hmp, ⟨.slice B8 (g.W.erase r).length c8, sp', hv8, hb8.set_ 4 _, OwnsC.nearO ho8 k9 (fun x hx hm => (hap.out.wo x (hv8 ▸ hx)).1 (List.mem_singleton.1 hm))⟩, ⟨hG6.ok.h1, hG6.ok.h512, hG6.ok.len, hG6.ok.set, hG6.ok.room, hG6.ok.nd.erase r⟩, hG6.ne⟩, ?_, fun _ hx => .inl hx⟩
    have a1 := H7.out.2.2.2.wider (Y := q.all) (fun x hx => by rw [List.mem_singleton.1 hx]; exact GPl.mem.2 (.inr (.inr (.inl rfl))))
    have a2 := k8.wider (Y := q.all) (fun x hx => GPl.mem.2 (.inr (.inr (.inr (.inl (Option.mem_toList.1 hx))))))
    have a3 := k9.wider (Y := q.all) (fun x hx => by rw [List.mem_singleton.1 hx]; exact GPl.mem.2 (.inl rfl))
    exact ((H6.out.2.2.trans a1).trans a2).trans a3
  have HP := Lib.hid hP
  clear hP hb8 ho8 hv8 k8 k9 hu9 hgg hgi8 hgs8 hdr d4 H7 H6
  go_wp2
  go_ret
  rw [HL1.out]
  exact ⟨rfl, HP.out⟩
end
end Go.Proofs.YthfdjemlibecgaaDoor

/- A grid that a statement made, and the statement's own blocks beside it. Conditions: as each says. -/
namespace Go.Proofs.YthfdjemlibecgaaDoor
open Go.RowKit
/-- Some blocks are as they were. -/
structure Same (Y : List Nat) (w w' : World) : Prop where
  size : w.heap.size ≤ w'.heap.size
  block : ∀ y ∈ Y, w'.heap[y]? = w.heap[y]?
/-- What was there ahead of B is as it was, and so are the statement's own blocks. -/
structure GStep (B : Nat) (Y : List Nat) (w w' : World) : Prop where
  bel : Below B w w'
  same : Same Y w w'
section
variable {B : Nat} {Y Y' : List Nat} {w w' w'' : World}
theorem Same.trans (h : Same Y w w') (k : Same Y w' w'') : Same Y w w'' := ⟨Nat.le_trans h.size k.size, fun y hy => (k.block y hy).trans (h.block y hy)⟩
theorem Same.sub (h : Same Y w w') (hs : ∀ y ∈ Y', y ∈ Y) : Same Y' w w' := ⟨h.size, fun y hy => h.block y (hs y hy)⟩
theorem Same.below (k : Below w.heap.size w w') (hY : ∀ y ∈ Y, y < w.heap.size) : Same Y w w' := ⟨k.size, fun y hy => k.block y (hY y hy)⟩
theorem Same.near {X : List Nat} (k : Near X w w') (hY : ∀ y ∈ Y, y < w.heap.size ∧ y ∉ X) : Same Y w w' := ⟨k.size, fun y hy => k.block y (hY y hy).1 (hY y hy).2⟩
theorem Same.blk {y : Nat} {t : TypeId} {cs : Array Value} (h : Same Y w w') (hb : Blk w y t cs) (hy : y ∈ Y) : Blk w' y t cs := (h.block y hy).trans hb
theorem Same.cell (h : Same Y w w') {p : Addr} (hp : p.block ∈ Y) : w'.cell? p = w.cell? p := by unfold World.cell?; rw [h.block _ hp]
theorem Same.bytes {A : Option Addr} {l : List UInt8} (h : Same Y w w') (hb : Bytes w A l) (hA : ∀ ad, A = some ad → ad.block ∈ Y) : Bytes w' A l := fun hne => by
  obtain ⟨b, off, e, hc⟩ := hb hne
  exact ⟨b, off, e, fun j v hv => (h.cell (p := ⟨b, off + j, none⟩) (hA ⟨b, off, none⟩ e)).trans (hc j v hv)⟩
theorem Same.refs {A : Option Addr} {l : List RefT} (h : Same Y w w') (hb : Refs w A l) (hA : ∀ ad, A = some ad → ad.block ∈ Y) : Refs w' A l := fun hp => by
  obtain ⟨b, off, e, hlt, hc⟩ := hb hp
  have hm : b ∈ Y := hA _ e
  exact ⟨b, off, e, Nat.lt_of_lt_of_le hlt h.size, fun i hi => ⟨(h.cell (p := ⟨b, off + i * 2, none⟩) hm).trans (hc i hi).1, (h.cell (p := ⟨b, off + i * 2 + 1, none⟩) hm).trans (hc i hi).2⟩⟩
theorem GStep.trans (h : GStep B Y w w') (k : GStep B Y w' w'') : GStep B Y w w'' := ⟨h.bel.trans k.bel, h.same.trans k.same⟩
theorem GStep.sub (h : GStep B Y w w') (hs : ∀ y ∈ Y', y ∈ Y) : GStep B Y' w w' := ⟨h.bel, h.same.sub hs⟩
theorem GStep.below (k : Below w.heap.size w w') (hs : B ≤ w.heap.size) (hY : ∀ y ∈ Y, y < w.heap.size) : GStep B Y w w' := ⟨k.mono hs, Same.below k hY⟩
end
/-- The grid, its disk, and what is none of theirs. -/
def GX (B : Nat) (Y : List Nat) (w : World) (gp dp : Nat) (g : Grd) (d : Dsk) : Prop :=
  ∃ q : GPl, q.gg = gp ∧ q.p.gd = dp ∧ q.gf = none ∧ GridR w q g d none ∧ (∀ x ∈ q.all, B ≤ x ∧ x ∉ Y) ∧ (∀ y ∈ Y, y < w.heap.size) ∧ B ≤ w.heap.size
section
variable {B gp dp : Nat} {Y Y' : List Nat} {w w' : World} {g g2 : Grd} {d d2 : Dsk}
theorem GX.of_GL (h : GL B w gp dp g d) (hs : B ≤ w.heap.size) : GX B [] w gp dp g d := by
  obtain ⟨q, h1, h2, h3, h4, h5⟩ := h
  exact ⟨q, h1, h2, h3, h4, fun x hx => ⟨h5 x hx, List.not_mem_nil⟩, fun y hy => absurd hy List.not_mem_nil, hs⟩
theorem GX.gl (h : GX B Y w gp dp g d) : GL B w gp dp g d := by
  obtain ⟨q, h1, h2, h3, h4, h5, h6, h7⟩ := h
  exact ⟨q, h1, h2, h3, h4, fun x hx => (h5 x hx).1⟩
theorem GX.size (h : GX B Y w gp dp g d) : B ≤ w.heap.size := by obtain ⟨q, h1, h2, h3, h4, h5, h6, h7⟩ := h; exact h7
theorem GX.own (h : GX B Y w gp dp g d) : ∀ y ∈ Y, y < w.heap.size := by obtain ⟨q, h1, h2, h3, h4, h5, h6, h7⟩ := h; exact h6
theorem GX.ok (h : GX B Y w gp dp g d) : g.Ok d := by obtain ⟨q, h1, h2, h3, h4, h5, h6, h7⟩ := h; exact h4.ok
theorem GX.below (h : GX B Y w gp dp g d) (k : Below w.heap.size w w') : GX B Y w' gp dp g d ∧ GStep B Y w w' := by
  obtain ⟨q, h1, h2, h3, h4, h5, h6, h7⟩ := h
  exact ⟨⟨q, h1, h2, h3, h4.below k, h5, fun y hy => Nat.lt_of_lt_of_le (h6 y hy) k.size, Nat.le_trans h7 k.size⟩, GStep.below k h7 h6⟩
theorem GX.sub (h : GX B Y w gp dp g d) (hs : ∀ y ∈ Y', y ∈ Y) : GX B Y' w gp dp g d := by
  obtain ⟨q, h1, h2, h3, h4, h5, h6, h7⟩ := h
  exact ⟨q, h1, h2, h3, h4, fun x hx => ⟨(h5 x hx).1, fun hm => (h5 x hx).2 (hs x hm)⟩, fun y hy => h6 y (hs y hy), h7⟩
/-- A block of the statement's own that came since. -/
theorem GX.add (h : GX B Y w gp dp g d) (k : Below w.heap.size w w') {y : Nat} (hy : w.heap.size ≤ y) (hy2 : y < w'.heap.size) : GX B (y :: Y) w' gp dp g d := by
  obtain ⟨q, h1, h2, h3, h4, h5, h6, h7⟩ := h
  refine ⟨q, h1, h2, h3, h4.below k, fun x hx => ⟨(h5 x hx).1, fun hm => ?_⟩, fun z hz => ?_, Nat.le_trans h7 k.size⟩
  · rcases List.mem_cons.1 hm with e | e
    · have := h4.lt x hx; omega
    · exact (h5 x hx).2 e
  · rcases List.mem_cons.1 hz with e | e
    · omega
    · exact Nat.lt_of_lt_of_le (h6 z e) k.size
/-- The statement writes blocks of its own. -/
theorem GX.wrote (h : GX B Y w gp dp g d) {X : List Nat} (k : Near X w w') (hX : ∀ x ∈ X, x ∈ Y) : GX B Y w' gp dp g d := by
  obtain ⟨q, h1, h2, h3, h4, h5, h6, h7⟩ := h
  exact ⟨q, h1, h2, h3, h4.near k (fun x hx hm => (h5 x hx).2 (hX x hm)), h5, fun y hy => Nat.lt_of_lt_of_le (h6 y hy) k.size, Nat.le_trans h7 k.size⟩
theorem GX.of_post {q : GPl} {f : Option Fus} (h1 : q.gg = gp) (h2 : q.p.gd = dp) (h3 : q.gf = none) (h5 : ∀ x ∈ q.all, B ≤ x ∧ x ∉ Y) (h6 : ∀ y ∈ Y, y < w.heap.size) (h7 : B ≤ w.heap.size) (h : GPost w q g2 d2 f w') : GX B Y w' gp dp g2 d2 ∧ GStep B Y w w' := by
  obtain ⟨q', k1, k2, k3, k4, k5, k6⟩ := h
  have hf : f = none := by
    have := k4.dk.fr
    rw [k3, h3] at this
    exact this.none_
  subst hf
  refine ⟨⟨q', k1.trans h1, (congrArg Pl.gd k2).trans h2, k3.trans h3, k4, fun x hx => ?_, fun y hy => Nat.lt_of_lt_of_le (h6 y hy) k5.size, Nat.le_trans h7 k5.size⟩, k5.toBelow (fun x hx => (h5 x hx).1) h7, Same.near k5 fun y hy => ⟨h6 y hy, fun hm => (h5 y hm).2 hy⟩⟩
  rcases k6 x hx with e | e
  · exact h5 x e
  · exact ⟨Nat.le_trans h7 e, fun hm => by have := h6 x hm; omega⟩
theorem rpost_post {q : GPl} {A : Option Addr} {f : Option Fus} (h : RPost w q A g d f w') : GPost w q g d f w' := by
  obtain ⟨q', k1, k2, k3, k4, k5, k6, k7⟩ := h
  exact ⟨q', k1, k2, k3, k4, k5, k6⟩
/-- A ref is looked for, and found. -/
theorem xraw_some (h : GX B Y w gp dp g d) (hl : g.W.length ≤ 1000000000) (r : RefT) {b : GBT} (hg : glook g d none r = (0, some b, g)) :
    Calls Tryd.prog 25 #[.pointer (some ⟨gp, 0, none⟩), .agg #[.int .i64 r.1, .int .i64 r.2.1]] w fun e w' => ∃ y, e = .returned (.tuple #[.slice (some ⟨y, 0, none⟩) (gblk d r.1).length (gblk d r.1).length, .int .i64 0]) ∧
      Blk w' y 5 ((gblk d r.1).map u8v).toArray ∧ w.heap.size ≤ y ∧ GX B (y :: Y) w' gp dp g d ∧ GStep B Y w w' := by
  have h0 := h
  obtain ⟨q, h1, h2, h3, h4, h5, h6, h7⟩ := h
  have hr := graw_any h4 (by omega) r
  rw [hg, h1] at hr
  refine hr.mono ?_
  rintro e w' ⟨v2, rfl, ⟨v1, A, c, C0, e1, C, -, rfl, -, -, -, -, -, hC, -, -⟩, hP⟩
  obtain ⟨y, rfl, hy, hb⟩ := hC rfl
  have hbx := hP.2 rfl
  exact ⟨y, rfl, hb, hy, h0.add hbx hy hb.lt, (h0.below hbx).2⟩
/-- A ref is looked for. -/
theorem xread (h : GX B Y w gp dp g d) (hl : g.W.length ≤ 1000000000) (r : RefT) {c : Int} {o : Option GBT} (hg : glook g d none r = (c, o, g2)) :
    Calls Tryd.prog 23 #[.pointer (some ⟨gp, 0, none⟩), .agg #[.int .i64 r.1, .int .i64 r.2.1]] w fun e w' => ∃ v1, e = .returned (.tuple #[v1, .int .i64 c]) ∧ (∃ v2, GBTold o (gblk d r.1) w v1 v2 w') ∧ GX B Y w' gp dp g2 d ∧ GStep B Y w w' := by
  obtain ⟨q, h1, h2, h3, h4, h5, h6, h7⟩ := h
  have hr := gread_any h4 (by omega) r
  rw [hg, h1] at hr
  refine hr.mono ?_
  rintro e w' ⟨v1, rfl, hT, hP⟩
  exact ⟨v1, rfl, hT, GX.of_post h1 h2 h3 h5 h6 h7 hP.1⟩
/-- Which refs are not there. -/
theorem xreach (h : GX B Y w gp dp g d) (hl : g.W.length ≤ 1000000000) (r : RefT) {c0 : Int} {L : List RefT} (hg : greach g d none r = (c0, L, g2)) :
    Calls Tryd.prog 43 #[.pointer (some ⟨gp, 0, none⟩), .agg #[.int .i64 r.1, .int .i64 r.2.1]] w fun e w' => ∃ A c, e = .returned (.tuple #[.slice A L.length c, .int .i64 c0]) ∧ Refs w' A L ∧ L.length ≤ c ∧ c ≤ 9223372036854775807 ∧
      (∀ ad, A = some ad → w.heap.size ≤ ad.block ∧ (ad.block < w'.heap.size → GX B (ad.block :: Y) w' gp dp g2 d)) ∧ GX B Y w' gp dp g2 d ∧ GStep B Y w w' := by
  obtain ⟨q, h1, h2, h3, h4, h5, h6, h7⟩ := h
  have hr := greach_any h4 hl r
  rw [hg, h1] at hr
  refine hr.mono ?_
  rintro e w' ⟨A, c, rfl, hR, hc, hc2, hP⟩
  have hx := GX.of_post h1 h2 h3 h5 h6 h7 (rpost_post hP)
  refine ⟨A, c, rfl, hR, hc, hc2, fun ad e => ?_, hx⟩
  obtain ⟨q', k1, k2, k3, k4, k5, k6, k7⟩ := hP
  refine ⟨(k7 ad e).1, fun hlt => ⟨q', k1.trans h1, (congrArg Pl.gd k2).trans h2, k3.trans h3, k4, fun x hx => ⟨?_, fun hm => ?_⟩, fun y hy => ?_, Nat.le_trans h7 k5.size⟩⟩
  · rcases k6 x hx with e | e
    · exact (h5 x e).1
    · exact Nat.le_trans h7 e
  · rcases List.mem_cons.1 hm with rfl | hm
    · exact (k7 ad e).2 hx
    · rcases k6 x hx with e | e
      · exact (h5 x e).2 hm
      · have := h6 x hm; omega
  · rcases List.mem_cons.1 hy with rfl | hy
    · exact hlt
    · exact Nat.lt_of_lt_of_le (h6 y hy) k5.size
/-- A block is put where it stood. -/
theorem xinstall (h : GX B Y w gp dp g d) (hl : g.W.length ≤ 1000000000) (r : RefT) (A : Option Addr) (n c : Nat) (raw : List UInt8) (hn : n = raw.length) (hc : n ≤ c) (hc2 : c ≤ 9223372036854775807) (hb : Bytes w A raw) (hA : ∀ ad, A = some ad → ad.block ∈ Y) {c0 : Int} (hg : ginst g d none r raw = (c0, g2, d2, none)) :
    Calls Tryd.prog 28 #[.pointer (some ⟨gp, 0, none⟩), .agg #[.int .i64 r.1, .int .i64 r.2.1], .slice A n c] w fun e w' => e = .returned (.int .i64 c0) ∧ GX B Y w' gp dp g2 d2 ∧ GStep B Y w w' := by
  obtain ⟨q, h1, h2, h3, h4, h5, h6, h7⟩ := h
  have hr := ginstall_any h4 (by omega) r A n c raw hn hc hc2 hb (fun ad e hm => (h5 _ (GPl.mem.2 (.inr (.inr (.inr (.inr hm)))))).2 (hA ad e))
  rw [hg, h1] at hr
  refine hr.mono ?_
  rintro e w' ⟨rfl, hP⟩
  exact ⟨rfl, GX.of_post h1 h2 h3 h5 h6 h7 hP⟩
theorem xrelease (h : GX B Y w gp dp g d) (r : RefT) (hb1 : -9223372036854775808 ≤ r.1) (hb2 : r.1 ≤ 9223372036854775807) :
    Calls Tryd.prog 31 #[.pointer (some ⟨gp, 0, none⟩), .agg #[.int .i64 r.1, .int .i64 r.2.1]] w fun e w' => e = .returned (.int .i64 (turnCode g.L r.1 1)) ∧ GX B Y w' gp dp { g with L := turnL g.L r.1 1 2 } d ∧ GStep B Y w w' := by
  obtain ⟨q, h1, h2, h3, h4, h5, h6, h7⟩ := h
  have hr := grelease_any h4 r hb1 hb2
  rw [h1] at hr
  refine hr.mono ?_
  rintro e w' ⟨rfl, hP⟩
  exact ⟨rfl, GX.of_post h1 h2 h3 h5 h6 h7 hP⟩
theorem xsettle (h : GX B Y w gp dp g d) :
    Calls Tryd.prog 33 #[.pointer (some ⟨gp, 0, none⟩)] w fun e w' => e = .returned (.int .i64 (cnt g.L g.L.length : Nat)) ∧ GX B Y w' gp dp { g with L := setl g.L } d ∧ GStep B Y w w' := by
  obtain ⟨q, h1, h2, h3, h4, h5, h6, h7⟩ := h
  have hr := gsettle_any h4
  rw [h1] at hr
  refine hr.mono ?_
  rintro e w' ⟨rfl, hP⟩
  exact ⟨rfl, GX.of_post h1 h2 h3 h5 h6 h7 hP⟩
theorem xwanted (h : GX B Y w gp dp g d) (hl : g.W.length ≤ 1000000000) :
    Calls Tryd.prog 30 #[.pointer (some ⟨gp, 0, none⟩)] w (RefsTold g.W w) := by
  obtain ⟨q, h1, h2, h3, h4, h5, h6, h7⟩ := h
  have hr := gwanted_any h4 (by omega)
  rw [h1] at hr
  exact hr
/-- A byte of the disk is turned. -/
theorem xturn (h : GX B Y w gp dp g d) (s a : Int) (m : UInt8) {c0 : Int} (hg : d.turn s a m = (c0, d2)) (hN : d2.N = d.N) :
    Calls Tryd.prog 26 #[.pointer (some ⟨dp, 0, none⟩), .int .i64 s, .int .i64 a, .int .u8 (iu8 m)] w fun e w' => e = .returned (.int .i64 c0) ∧ GX B Y w' gp dp g d2 ∧ GStep B Y w w' := by
  obtain ⟨q, h1, h2, h3, h4, h5, h6, h7⟩ := h
  have hr := turn_all s a m h4.dk.dr h4.dk.ok
  have hok := Dsk.turn_ok (s := s) (a := a) (m := m) h4.dk.ok
  rw [hg] at hok
  rw [hg, h2] at hr
  refine hr.mono ?_
  rintro e w' ⟨rfl, hd, hN2⟩
  have hlow : Near (q.p.all q.gf) w w' := hN2.wider (fun x hx => by rw [List.mem_singleton.1 hx]; simp [Pl.all])
  have hfr := h4.dk.fr.near hN2 (fun x hx => by rw [h3] at hx; cases hx)
  exact ⟨rfl, GX.of_post h1 h2 h3 h5 h6 h7 (f := none) ⟨q, rfl, rfl, rfl, h4.wrote ⟨hd, hfr, hok⟩ hlow hN, hlow.wider (fun x hx => GPl.mem.2 (.inr (.inr (.inr (.inr hx))))), fun x hx => .inl hx⟩⟩
end
end Go.Proofs.YthfdjemlibecgaaDoor

/- A fetch: what it holds; whether it is none; a new one; whether all is there. Conditions: as each says. -/
namespace Go.Proofs.YthfdjemlibecgaaDoor
open Go.RowKit
def ftc (gp : Nat) (root : RefT) (h : Nat) : Array Value := #[.pointer (some ⟨gp, 0, none⟩), .int .i64 root.1, .int .i64 root.2.1, .int .i64 (h : Int)]
/-- A fetch beside its grid, and what is none of theirs. -/
structure FX (B : Nat) (Y : List Nat) (w : World) (fp gp dp : Nat) (g : Grd) (d : Dsk) (root : RefT) (h : Nat) : Prop where
  gx : GX B (fp :: Y) w gp dp g d
  blk : Blk w fp 27 (ftc gp root h)
def noFetch : Array Value := #[.pointer none, .int .i64 0, .int .i64 0, .int .i64 0]
def NoFetch (p : Option Addr) (w : World) : Prop := p = none ∨ ∃ b, p = some ⟨b, 0, none⟩ ∧ Blk w b 27 noFetch
theorem NoFetch.below {p : Option Addr} {w w' : World} (h : NoFetch p w) (k : Below w.heap.size w w') : NoFetch p w' := by
  rcases h with rfl | ⟨b, rfl, hb⟩
  · exact .inl rfl
  · exact .inr ⟨b, rfl, hb.below k hb.lt⟩
section
variable {B fp gp dp h : Nat} {Y : List Nat} {w w' : World} {g g2 : Grd} {d : Dsk} {root : RefT}
theorem fnone_any (hb : Blk w fp 27 (ftc gp root h)) : Calls Tryd.prog 76 #[.pointer (some ⟨fp, 0, none⟩)] w fun e w' => e = .returned (.bool false) ∧ w' = w := by
  have d0 := hb.at_ 0 (v := .pointer (some ⟨gp, 0, none⟩)) rfl
  clear hb
  go_enter Tryd.func76, Tryd.ntmps76
  go_wp2
  go_ret
  exact ⟨rfl, rfl⟩
theorem fnone_no (p : Option Addr) (hn : NoFetch p w) : Calls Tryd.prog 76 #[.pointer p] w fun e w' => e = .returned (.bool true) ∧ w' = w := by
  rcases hn with rfl | ⟨b, rfl, hb⟩
  · go_enter Tryd.func76, Tryd.ntmps76
    go_wp2
    go_ret
    exact ⟨rfl, rfl⟩
  · have d0 := hb.at_ 0 (v := .pointer none) rfl
    clear hb
    go_enter Tryd.func76, Tryd.ntmps76
    go_wp2
    go_ret
    exact ⟨rfl, rfl⟩
theorem FX.step (hf : FX B Y w fp gp dp g d root h) (hG : GX B (fp :: Y) w' gp dp g2 d) (hS : GStep B (fp :: Y) w w') : FX B Y w' fp gp dp g2 d root h := ⟨hG, hS.same.blk hf.blk (List.mem_cons_self ..)⟩
set_option maxRecDepth 100000 in
set_option maxHeartbeats 4000000 in
theorem fnew_any (hx : GX B Y w gp dp g d) (hl : g.W.length ≤ 1000000000) (root : RefT) {L : List RefT} (hg : greach g d none root = (0, L, g2)) :
    Calls Tryd.prog 19 #[.pointer (some ⟨gp, 0, none⟩), .agg #[.int .i64 root.1, .int .i64 root.2.1]] w fun e w' => ∃ fp, e = .returned (.tuple #[.pointer (some ⟨fp, 0, none⟩), .int .i64 0]) ∧ FX B Y w' fp gp dp g2 d root 0 ∧ w.heap.size ≤ fp ∧ GStep B Y w w' := by
  have hB := (Below.refl w.heap.size w).alloc (Nat.le_refl _) (.cells #[.int .i64 root.1, .int .i64 root.2.1] 23)
  have hbr := Blk.new w 23 #[.int .i64 root.1, .int .i64 root.2.1]
  have H1 := Lib.hid (And.intro (hx.add hB (Nat.le_refl _) hbr.lt) (And.intro (hx.below hB).2 hbr))
  have HA := Lib.hid (And.intro hl hg)
  clear hx hB hl hg
  go_enter Tryd.func19, Tryd.ntmps19
  go_wp2_with (first
    | ((with_reducible show wpList _ _ _ ((⟨some 10, _, _, _, _, _⟩ : Oper) :: _) _ _); refine wpList_load_blk (o := ⟨some 10, _, _, _, _, _⟩) (hbr) (by rfl) _ _ (by rfl) (by rfl) _ Tryd.underlying23 (by rfl) (size_ref) (by rfl) ?_)
    | fail)
  clear hbr
  generalize w.alloc (.cells #[.int .i64 root.1, .int .i64 root.2.1] 23) = w1 at H1 ⊢
  generalize w.heap.size = gr at H1 ⊢
  refine (xreach H1.out.1 HA.out.1 root HA.out.2).mono ?_
  rintro e w2 ⟨A2, c2, rfl, -, -, -, -, hG, hS⟩
  have hr2 := hS.same.blk H1.out.2.2 (List.mem_cons_self ..)
  have H2 := Lib.hid (And.intro hG (H1.out.2.1.trans (hS.sub (fun y hy => List.mem_cons_of_mem _ hy))))
  clear hG hS H1
  go_wp2_with (first
    | ((with_reducible show wpList _ _ _ ((⟨some 18, _, _, _, _, _⟩ : Oper) :: _) _ _); refine wpList_load_blk (o := ⟨some 18, _, _, _, _, _⟩) (hr2) (by rfl) _ _ (by rfl) (by rfl) _ Tryd.underlying23 (by rfl) (size_ref) (by rfl) ?_)
    | fail)
  clear hr2
  have hbl := (Below.refl w2.heap.size w2).alloc (Nat.le_refl _) (.cells (ftc gp root 0) 27)
  have hbf := Blk.new w2 27 (ftc gp root 0)
  go_ret2
  refine ⟨w2.heap.size, rfl, ⟨?_, hbf⟩, H2.out.2.bel.size, H2.out.2.trans ((H2.out.1.below hbl).2.sub (fun y hy => List.mem_cons_of_mem _ hy))⟩
  exact (H2.out.1.add hbl (Nat.le_refl _) hbf.lt).sub (fun y hy => by
    rcases List.mem_cons.1 hy with rfl | hy
    · exact List.mem_cons_self ..
    · exact List.mem_cons_of_mem _ (List.mem_cons_of_mem _ hy))
set_option maxRecDepth 100000 in
set_option maxHeartbeats 4000000 in
theorem fnew_err (hx : GX B Y w gp dp g d) (hl : g.W.length ≤ 1000000000) (root : RefT) {c0 : Int} (hc0 : c0 ≠ 0) {L : List RefT} (hg : greach g d none root = (c0, L, g2)) :
    Calls Tryd.prog 19 #[.pointer (some ⟨gp, 0, none⟩), .agg #[.int .i64 root.1, .int .i64 root.2.1]] w fun e w' => e = .returned (.tuple #[.pointer none, .int .i64 c0]) ∧ GX B Y w' gp dp g2 d ∧ GStep B Y w w' := by
  have hB := (Below.refl w.heap.size w).alloc (Nat.le_refl _) (.cells #[.int .i64 root.1, .int .i64 root.2.1] 23)
  have hbr := Blk.new w 23 #[.int .i64 root.1, .int .i64 root.2.1]
  have H1 := Lib.hid (hx.below hB)
  have HA := Lib.hid (And.intro hl hg)
  have k1 : (c0 != 0) = true := by simpa using hc0
  clear hx hB hl hg hc0
  go_enter Tryd.func19, Tryd.ntmps19
  go_wp2_with (first
    | ((with_reducible show wpList _ _ _ ((⟨some 10, _, _, _, _, _⟩ : Oper) :: _) _ _); refine wpList_load_blk (o := ⟨some 10, _, _, _, _, _⟩) (hbr) (by rfl) _ _ (by rfl) (by rfl) _ Tryd.underlying23 (by rfl) (size_ref) (by rfl) ?_)
    | fail)
  clear hbr
  generalize w.alloc (.cells #[.int .i64 root.1, .int .i64 root.2.1] 23) = w1 at H1 ⊢
  refine (xreach H1.out.1 HA.out.1 root HA.out.2).mono ?_
  rintro e w2 ⟨A2, c2, rfl, -, -, -, -, hG, hS⟩
  have H2 := Lib.hid (And.intro hG (H1.out.2.trans hS))
  clear hG hS H1
  go_wp2
  go_ret2
  exact ⟨rfl, H2.out⟩
theorem fnew_no (p : Option Addr) (r : RefT) (hn : NoGrid p w) : Calls Tryd.prog 19 #[.pointer p, .agg #[.int .i64 r.1, .int .i64 r.2.1]] w fun e w' => e = .returned (.tuple #[.pointer none, .int .i64 1]) ∧ Below w.heap.size w w' := by
  have hB := (Below.refl w.heap.size w).alloc (Nat.le_refl _) (.cells #[.int .i64 r.1, .int .i64 r.2.1] 23)
  have hbr := Blk.new w 23 #[.int .i64 r.1, .int .i64 r.2.1]
  have hg := greach_no p (w.alloc (.cells #[.int .i64 r.1, .int .i64 r.2.1] 23)) (hn.below hB) r
  have HB := Lib.hid (And.intro hB hg)
  clear hB hg hn
  go_enter Tryd.func19, Tryd.ntmps19
  go_wp2_with (first
    | ((with_reducible show wpList _ _ _ ((⟨some 10, _, _, _, _, _⟩ : Oper) :: _) _ _); refine wpList_load_blk (o := ⟨some 10, _, _, _, _, _⟩) (hbr) (by rfl) _ _ (by rfl) (by rfl) _ Tryd.underlying23 (by rfl) (size_ref) (by rfl) ?_)
    | fail)
  refine HB.out.2.mono ?_
  rintro e w2 ⟨rfl, hbx⟩
  have H2 := Lib.hid (HB.out.1.trans (hbx.mono HB.out.1.size))
  clear hbx HB
  go_wp2
  go_ret2
  exact ⟨rfl, H2.out⟩
end
end Go.Proofs.YthfdjemlibecgaaDoor

/- A fetch: whether all is there, its root, how many were put. Conditions: as each says. -/
namespace Go.Proofs.YthfdjemlibecgaaDoor
open Go.RowKit
/-- Is all there? -/
def fdone (c0 : Int) (L : List RefT) : Bool := decide (c0 = 0) && decide (L = [])
section
variable {B fp gp dp h : Nat} {Y : List Nat} {w w' : World} {g g2 : Grd} {d : Dsk} {root : RefT}
set_option maxRecDepth 100000 in
set_option maxHeartbeats 4000000 in
theorem fready_any (hf : FX B Y w fp gp dp g d root h) (hl : g.W.length ≤ 1000000000) {c0 : Int} {L : List RefT} (hg : greach g d none root = (c0, L, g2)) :
    Calls Tryd.prog 16 #[.pointer (some ⟨fp, 0, none⟩)] w fun e w' => e = .returned (.bool (fdone c0 L)) ∧ FX B Y w' fp gp dp g2 d root h ∧ GStep B (fp :: Y) w w' := by
  have HA := Lib.hid (And.intro hf (And.intro hl hg))
  clear hf hl hg
  go_enter Tryd.func16, Tryd.ntmps16
  go_wp2_with fail
  refine (fnone_any HA.out.1.blk).mono ?_
  rintro e w1 ⟨rfl, hw⟩
  obtain rfl := hw.symm
  clear hw
  go_wp2_with fail
  have hC0 : Same (fp :: Y) w w.drew := ⟨Nat.le_refl _, fun _ _ => rfl⟩
  refine wp_region_tree (Same (fp :: Y) w) [] (PlanT.takes [0, 1, 2, 4, 5, 6] (PlanT.takes [3, 7] (.opt 8 (PlanT.takes [9, 10, 11, 12, 13] .done) .no))) (by kernel_rfl) (by kernel_rfl) (hC0) ?_
  refine wpTree_pure _ _ _ (by rfl) (by rfl) ?_
  dsimp only [List.filterMap, List.getElem?_cons_zero, List.getElem?_cons_succ]
  repeat (go_big_quiet_step (fail))
  refine wpQuiet_nil ?_
  refine wpTree_takeL _ _ _ (by rfl) (by rfl) (hC0) ?_
  dsimp only [List.filterMap, List.getElem?_cons_zero, List.getElem?_cons_succ]
  (refine wpQuiet_load_cell (fun w' hw' => (hw'.blk HA.out.1.blk (List.mem_cons_self ..)).at_ 0 (v := .pointer (some ⟨gp, 0, none⟩)) rfl) (by rfl) _ _ (by rfl) (by rfl) _ Tryd.underlying25 (by rfl) ?_; simp only [Act.put, List.setIfInBounds_toArray, List.set_cons_zero, List.set_cons_succ])
  (refine wpQuiet_load_mid (fun w' hw' => range2 (b := fp) (off := 1) (u := .int .i64 root.1) (v := .int .i64 root.2.1) ((hw'.blk HA.out.1.blk (List.mem_cons_self ..)).at_ 1 rfl) ((hw'.blk HA.out.1.blk (List.mem_cons_self ..)).at_ 2 rfl)) (by rfl) _ _ (by rfl) (by rfl) _ Tryd.underlying23 (by rfl) (size_ref) (by rfl) ?_; simp only [Act.put, List.setIfInBounds_toArray, List.set_cons_zero, List.set_cons_succ])
  refine wpQuiet_nil ?_
  refine wpTree_one _ rfl ?_
  go_wp2_with fail
  have hGd := HA.out.1.gx.below (Below.refl w.heap.size w).drew
  refine (xreach hGd.1 HA.out.2.1 root HA.out.2.2).mono ?_
  rintro e w2 ⟨A2, c2, rfl, -, -, -, -, hG, hS⟩
  have H2 := Lib.hid (And.intro (HA.out.1.step hG (hGd.2.trans hS)) (hGd.2.trans hS))
  have hC2 : Same (fp :: Y) w w2 := (hGd.2.trans hS).same
  clear hGd hG hS hC0
  go_wp2_with fail
  refine TreeQ.in_ hC2 ?_
  refine wpTree_pure _ _ _ (by rfl) (by rfl) ?_
  dsimp only [List.filterMap, List.getElem?_cons_zero, List.getElem?_cons_succ]
  repeat (go_big_quiet_step (fail))
  refine wpQuiet_nil ?_
  refine wpTree_done ?_
  clear hC2
  clear HA
  by_cases hc : c0 = 0
  · subst hc
    rcases L with _ | ⟨x, l⟩
    · go_wp2
      go_ret
      exact ⟨rfl, H2.out⟩
    · have k1 : ((l.length : Int) + 1 == 0) = false := by rw [beq_eq_false_iff_ne]; omega
      go_wp2
      go_ret
      exact ⟨by unfold fdone; simp, H2.out⟩
  · have k1 : (c0 == 0) = false := by rw [beq_eq_false_iff_ne]; exact hc
    have HC := Lib.hid hc
    clear hc
    go_wp2
    go_ret
    exact ⟨by unfold fdone; rw [decide_eq_false HC.out]; rfl, H2.out⟩
theorem froot_any (hb : Blk w fp 27 (ftc gp root h)) : Calls Tryd.prog 17 #[.pointer (some ⟨fp, 0, none⟩)] w fun e w' => e = .returned (.agg #[.int .i64 root.1, .int .i64 root.2.1]) ∧ Below w.heap.size w w' := by
  have hzr := zeroRefrun
  have hB := (Below.refl w.heap.size w).alloc (Nat.le_refl _) (.cells #[.int .i64 0, .int .i64 0] 23)
  have hbz := Blk.new w 23 #[.int .i64 0, .int .i64 0]
  have hb1 := hb.below hB hb.lt
  have HB := Lib.hid hB
  clear hb hB
  have d1 := hb1.at_ 1 (v := .int .i64 root.1) rfl
  have d2 := hb1.at_ 2 (v := .int .i64 root.2.1) rfl
  go_enter Tryd.func17, Tryd.ntmps17
  go_wp2_with fail
  refine (fnone_any hb1).mono ?_
  rintro e w1 ⟨rfl, rfl⟩
  clear hb1
  go_wp2_with (first
    | ((with_reducible show wpList _ _ _ ((⟨none, _, _, _, _, _⟩ : Oper) :: _) _ _); refine wpList_store_blk (o := ⟨none, _, _, _, _, _⟩) (hbz) (by rfl) _ _ _ (by rfl) (by rfl) (#[.int .i64 root.1, .int .i64 root.2.1]) (by rfl) (size_ref) (by rfl) (by rfl) (by simp [Value.oneCell']) ?_; intro w6 h6 hu6)
    | fail)
  refine bodyPost_ret (results_cell_row (by rfl) _ _ w.heap.size _ _ _ _ (by rfl) h6 Tryd.underlying23 (by rfl) size_ref) rfl ?_
  exact ⟨rfl, HB.out.upd hu6 (Nat.le_refl _)⟩
theorem froot_no (p : Option Addr) (hn : NoFetch p w) : Calls Tryd.prog 17 #[.pointer p] w fun e w' => e = .returned (.agg #[.int .i64 0, .int .i64 0]) ∧ Below w.heap.size w w' := by
  have hzr := zeroRefrun
  have hB := (Below.refl w.heap.size w).alloc (Nat.le_refl _) (.cells #[.int .i64 0, .int .i64 0] 23)
  have hbz := Blk.new w 23 #[.int .i64 0, .int .i64 0]
  have hn1 := fnone_no p (hn.below hB)
  have HB := Lib.hid hB
  clear hn hB
  go_enter Tryd.func17, Tryd.ntmps17
  go_wp2_with fail
  refine hn1.mono ?_
  rintro e w1 ⟨rfl, rfl⟩
  clear hn1
  go_wp2_with (first
    | ((with_reducible show wpList _ _ _ ((⟨none, _, _, _, _, _⟩ : Oper) :: _) _ _); refine wpList_store_blk (o := ⟨none, _, _, _, _, _⟩) (hbz) (by rfl) _ _ _ (by rfl) (by rfl) (#[.int .i64 0, .int .i64 0]) (by rfl) (size_ref) (by rfl) (by rfl) (by simp [Value.oneCell']) ?_; intro w6 h6 hu6)
    | fail)
  refine bodyPost_ret (results_cell_row (by rfl) _ _ w.heap.size _ _ _ _ (by rfl) h6 Tryd.underlying23 (by rfl) size_ref) rfl ?_
  exact ⟨rfl, HB.out.upd hu6 (Nat.le_refl _)⟩
theorem fhad_any (hb : Blk w fp 27 (ftc gp root h)) : Calls Tryd.prog 18 #[.pointer (some ⟨fp, 0, none⟩)] w fun e w' => e = .returned (.int .i64 (h : Int)) ∧ w' = w := by
  have d3 := hb.at_ 3 (v := .int .i64 (h : Int)) rfl
  go_enter Tryd.func18, Tryd.ntmps18
  go_wp2_with fail
  refine (fnone_any hb).mono ?_
  rintro e w1 ⟨rfl, rfl⟩
  clear hb
  go_wp2
  go_ret
  exact ⟨rfl, rfl⟩
theorem fhad_no (p : Option Addr) (hn : NoFetch p w) : Calls Tryd.prog 18 #[.pointer p] w fun e w' => e = .returned (.int .i64 0) ∧ w' = w := by
  go_enter Tryd.func18, Tryd.ntmps18
  go_wp2_with fail
  refine (fnone_no p hn).mono ?_
  rintro e w1 ⟨rfl, rfl⟩
  clear hn
  go_wp2
  go_ret
  exact ⟨rfl, rfl⟩
theorem fready_no (p : Option Addr) (hn : NoFetch p w) : Calls Tryd.prog 16 #[.pointer p] w fun e w' => e = .returned (.bool false) ∧ w' = w := by
  go_enter Tryd.func16, Tryd.ntmps16
  go_wp2_with fail
  refine (fnone_no p hn).mono ?_
  rintro e w1 ⟨rfl, rfl⟩
  clear hn
  go_wp2
  go_ret
  exact ⟨rfl, rfl⟩
end
end Go.Proofs.YthfdjemlibecgaaDoor

/- []byte(s) of a string that is no constant. Plain facts over any program. No condition. -/
namespace Go
open Go.RowKit
theorem bytesWorld_below (w : World) (e : TypeId) (s : ByteArray) : Below w.heap.size w (Lib.bytesWorld w e s) :=
  ⟨by simp [Lib.bytesWorld, World.freeze, World.alloc, World.drew, -World.alloc_eq, -World.drew_eq], by simp [Lib.bytesWorld, World.freeze, World.alloc, World.drew, -World.alloc_eq, -World.drew_eq], by simp [Lib.bytesWorld, World.freeze, World.alloc, World.drew, -World.alloc_eq, -World.drew_eq], by rw [Lib.bytesWorld_size]; omega, fun k hk => Lib.bytesWorld_at_old w e s k hk⟩
theorem bytesWorld_bytes (w : World) (e : TypeId) (l : List UInt8) : Bytes (Lib.bytesWorld w e (str l)) (some ⟨w.heap.size, 0, none⟩) l := fun _ => ⟨w.heap.size, 0, rfl, fun j v hv => by
  rw [List.getElem?_map] at hv
  have hj : j < l.length := by
    rcases Nat.lt_or_ge j l.length with h | h
    · exact h
    · rw [List.getElem?_eq_none h] at hv; cases hv
  rw [Nat.zero_add, Lib.bytesWorld_cell w e (str l) j (by simpa [str, ByteArray.size] using hj)]
  rw [List.getElem?_eq_getElem hj] at hv
  rw [← hv]
  simp [str, List.getD, List.getElem?_eq_getElem hj, u8v, iu8]⟩
theorem wpList_str_bytes {P : Program} {w : World} {Q : Exit → Act → World → Prop} {ops : Array Oper} {rest : List Oper} {o : Oper} {a : Act} (hgd : o.guard = none) (src dst e : TypeId) (x : Operand) (ho : o.op = .convert src dst x)
    (hs : P.underlying src = some .string) (hd : P.underlying dst = some (.slice e)) (he : P.underlying e = some (.int .u8)) (l : List UInt8) (hx : a.eval x = .string (str l))
    (h : ∀ w' c, Bytes w' (some ⟨w.heap.size, 0, none⟩) l → Below w.heap.size w w' → w'.heap.size = w.heap.size + 1 → wpList P ops Q rest (a.put o.dst (.slice (some ⟨w.heap.size, 0, none⟩) l.length c)) w') : wpList P ops Q (o :: rest) a w := by
  refine wpList_plain hgd fun K hK => ?_
  unfold Oper.wp execOp
  have hr := Lib.run_convert_string_bytes (P := P) w src dst e (str l) hs hd he
  simp only [ho, hx, Sem.run_bind, hr, Result.andThen_ok, Sem.run_pure]
  have hsz : (str l).size = l.length := by simp [str, ByteArray.size]
  rw [hsz]
  exact hK _ _ (h _ _ (bytesWorld_bytes w e l) (bytesWorld_below w e (str l)) (Lib.bytesWorld_size w e (str l)))
end Go

/- The law's small calls: a ref, a grid that is made, a block that is written. Conditions: as each says. -/
namespace Go.Proofs.YthfdjemlibecgaaDoor
open Go.RowKit
theorem lref_any (a s : Int) (w : World) : Calls Tryd.prog 24 #[.int .i64 a, .int .i64 s] w fun e w' => e = .returned (.agg #[.int .i64 a, .int .i64 s]) ∧ Below w.heap.size w w' := by
  have hzr := zeroRefrun
  have hB := Lib.hid ((Below.refl w.heap.size w).alloc (Nat.le_refl _) (.cells #[.int .i64 0, .int .i64 0] 23))
  have hbz := Blk.new w 23 #[.int .i64 0, .int .i64 0]
  go_enter Tryd.func24, Tryd.ntmps24
  go_wp2_with (first
    | ((with_reducible show wpList _ _ _ ((⟨none, _, _, _, _, _⟩ : Oper) :: _) _ _); refine wpList_store_blk (o := ⟨none, _, _, _, _, _⟩) (hbz) (by rfl) _ _ _ (by rfl) (by rfl) (#[.int .i64 a, .int .i64 s]) (by rfl) (size_ref) (by rfl) (by rfl) (by simp [Value.oneCell']) ?_; intro w6 h6 hu6)
    | fail)
  refine bodyPost_ret (results_cell_row (by rfl) _ _ w.heap.size _ _ _ _ (by rfl) h6 Tryd.underlying23 (by rfl) size_ref) rfl ?_
  exact ⟨rfl, hB.out.upd hu6 (Nat.le_refl _)⟩
set_option maxRecDepth 100000 in
set_option maxHeartbeats 2000000 in
theorem lmade_any (n : Nat) (h1 : 1 ≤ n) (h2 : n ≤ 512) (w : World) :
    Calls Tryd.prog 35 #[.int .i64 (n : Int)] w fun e w' => ∃ gp dp, e = .returned (.tuple #[.pointer (some ⟨dp, 0, none⟩), .pointer (some ⟨gp, 0, none⟩), .bool true]) ∧ GL w.heap.size w' gp dp ⟨n, List.replicate n 0, []⟩ (Dsk.new (104 + 4 * n)) ∧ Below w.heap.size w w' := by
  have hn := new_all (104 + 4 * n) (by omega) w
  have hw1 : wrap64 (4 * (n : Int)) = 4 * (n : Int) := w64_in (by omega)
  have hw2 : wrap64 (104 + 4 * (n : Int)) = 104 + 4 * (n : Int) := w64_in (by omega)
  rw [show ((104 + 4 * n : Nat) : Int) = 104 + 4 * (n : Int) by omega] at hn
  have H0 := Lib.hid (And.intro h1 h2)
  clear h1 h2
  go_enter Tryd.func35, Tryd.ntmps35
  go_wp2_with fail
  refine hn.mono ?_
  rintro e w2 ⟨p, rfl, hd, hge, hbx⟩
  have hdk : DkOk w2 p none (Dsk.new (104 + 4 * n)) none := ⟨hd, trivial, Dsk.Ok.new (by have := H0.out; omega)⟩
  have H2 := Lib.hid (And.intro hdk (And.intro hge hbx))
  clear hn hd hge hbx hdk hw1 hw2
  go_wp2_with fail
  refine (gnew_any H2.out.1 (by rfl) n H0.out.1 H0.out.2 (Nat.le_refl _)).mono ?_
  rintro e w3 ⟨q, hqp, hqf, rfl, hG, hge, hbx⟩
  have H3 := Lib.hid (And.intro hqp (And.intro hqf (And.intro hG (And.intro hge hbx))))
  clear hqp hqf hG hge hbx
  go_wp2
  go_ret3
  refine ⟨q.gg, p.gd, rfl, ⟨q, rfl, by rw [H3.out.1], H3.out.2.1, H3.out.2.2.1, fun x hx => ?_⟩, H2.out.2.2.trans (H3.out.2.2.2.2.mono H2.out.2.2.size)⟩
  have hs := H2.out.2.2.size
  have k := H3.out.2.2.2.1
  have k2 := H2.out.2.1
  rcases GPl.mem.1 hx with e | e | e | e | e
  · omega
  · omega
  · omega
  · rw [k.2.2.2] at e; cases e
  · rw [H3.out.1, H3.out.2.1] at e
    unfold Pl.all at e
    simp only [List.cons_append, List.nil_append, List.mem_cons, Option.toList_none, List.not_mem_nil, or_false] at e
    omega
end Go.Proofs.YthfdjemlibecgaaDoor

/- The law writes a block and asks what is answered. Conditions: the grid was made; the answer is the one asked for. -/
namespace Go.Proofs.YthfdjemlibecgaaDoor
open Go.RowKit
set_option maxRecDepth 100000 in
set_option maxHeartbeats 4000000 in
theorem lwrites_any {B gp dp : Nat} {w : World} {g : Grd} {d : Dsk} (h : GL B w gp dp g d) (hs : B ≤ w.heap.size) (hT : Tab w) (k s : Int) (A : Option Addr) (n c : Nat) (l : List RefT) (body : List UInt8) (r : RefT) (e0 : Int)
    (hn : n = l.length) (hl : l.length ≤ 1000) (hbl : body.length ≤ 5000) (hr : Refs w A l) (hres : (gput g d none k l body s).1 = (e0, r)) :
    Calls Tryd.prog 32 #[.pointer (some ⟨gp, 0, none⟩), .int .i64 k, .slice A n c, .string (str body), .int .i64 s, .agg #[.int .i64 r.1, .int .i64 r.2.1], .int .i64 e0] w fun e w' => e = .returned (.bool true) ∧
      GL B w' gp dp (gput g d none k l body s).2.1 (gput g d none k l body s).2.2.1 ∧ Below B w w' := by
  subst hn
  have hzr := zeroRefrun
  have hB := (Below.refl w.heap.size w).alloc (Nat.le_refl _) (.cells #[.int .i64 r.1, .int .i64 r.2.1] 23)
  have hbr := Blk.new w 23 #[.int .i64 r.1, .int .i64 r.2.1]
  obtain ⟨q, rfl, rfl, hf, hG, hq⟩ := h
  have H0 := Lib.hid (And.intro (hG.below hB) (And.intro (hr.below hB) (And.intro (hT.below hB) (And.intro hbr hB))))
  have HA := Lib.hid (And.intro hs (And.intro hl (And.intro hbl hres)))
  have HQ := Lib.hid (And.intro hf (And.intro hq hG.lt))
  clear hG hr hT hbr hB hs hl hbl hres hf hq
  go_enter Tryd.func32, Tryd.ntmps32
  go_wp2_with (first
    | ((with_reducible show wpList _ _ _ ((⟨some 22, _, _, _, _, _⟩ : Oper) :: _) _ _); generalize (w.alloc (.cells #[.int .i64 r.1, .int .i64 r.2.1] 23)) = w1 at H0 ⊢; refine wpList_str_bytes (o := ⟨some 22, _, _, _, _, _⟩) (by rfl) 9 44 5 _ (by rfl) Tryd.underlying9 Tryd.underlying44 Tryd.underlying5 body (by rfl) ?_; intro w2 c2 hb2 hbx hs2)
    | fail)
  have H2 := Lib.hid (And.intro (H0.out.1.below hbx) (And.intro (H0.out.2.1.below hbx) (And.intro (Tab.below H0.out.2.2.1 hbx) (And.intro (H0.out.2.2.2.1.below hbx H0.out.2.2.2.1.lt) (And.intro (H0.out.2.2.2.2.trans (hbx.mono H0.out.2.2.2.2.size)) hb2)))))
  clear hbx hb2 hs2
  refine (gwrite_any H2.out.1 k s A (some ⟨w1.heap.size, 0, none⟩) l.length c body.length c2 l body rfl rfl HA.out.2.1 HA.out.2.2.1 H2.out.2.1 H2.out.2.2.2.2.2 H2.out.2.2.1).mono ?_
  rintro e w3 ⟨rfl, hP⟩
  rw [HA.out.2.2.2]
  have hbr3 : Blk w3 w.heap.size 23 #[.int .i64 r.1, .int .i64 r.2.1] := by
    obtain ⟨q', -, -, -, -, k, -⟩ := hP
    exact H2.out.2.2.2.1.near k (fun hm => by have := HQ.out.2.2 _ hm; omega)
  have hGL := GL.of_post rfl rfl HQ.out.1 HQ.out.2.1 (Nat.le_trans HA.out.1 H2.out.2.2.2.2.1.size) hP
  have H3 := Lib.hid (And.intro hbr3 (And.intro hGL.1 (((H2.out.2.2.2.2.1).mono HA.out.1).trans hGL.2)))
  clear hP hbr3 hGL H2 H0
  go_wp2_with (first
    | ((with_reducible show wpList _ _ _ ((⟨none, _, _, _, _, _⟩ : Oper) :: _) _ _); refine wpList_store_blk (o := ⟨none, _, _, _, _, _⟩) ((Blk.new w3 23 #[.int .i64 0, .int .i64 0])) (by rfl) _ _ _ (by rfl) (by rfl) (#[.int .i64 r.1, .int .i64 r.2.1]) (by rfl) (size_ref) (by rfl) (by rfl) (by simp [Value.oneCell']) ?_; intro w4 h4 hu4; have hbx := ((Below.refl w3.heap.size w3).alloc (Nat.le_refl _) (.cells #[.int .i64 0, .int .i64 0] 23)).upd hu4 (Nat.le_refl _); have hbr4 := H3.out.1.below hbx H3.out.1.lt; have H4 := Lib.hid (And.intro (H3.out.2.1.below hbx) (H3.out.2.2.trans (hbx.mono (Nat.le_trans HA.out.1 (Nat.le_of_lt H3.out.1.lt))))); clear hbx hu4)
    | ((with_reducible show wpList _ _ _ ((⟨some 27, _, _, _, _, _⟩ : Oper) :: _) _ _); refine wpList_load_blk (o := ⟨some 27, _, _, _, _, _⟩) (h4) (by rfl) _ _ (by rfl) (by rfl) _ Tryd.underlying23 (by rfl) (size_ref) (by rfl) ?_)
    | ((with_reducible show wpList _ _ _ ((⟨some 28, _, _, _, _, _⟩ : Oper) :: _) _ _); refine wpList_load_blk (o := ⟨some 28, _, _, _, _, _⟩) (hbr4) (by rfl) _ _ (by rfl) (by rfl) _ Tryd.underlying23 (by rfl) (size_ref) (by rfl) ?_)
    | ((with_reducible show wpList _ _ _ ((⟨some 29, _, _, _, _, _⟩ : Oper) :: _) _ _); refine wpList_run (o := ⟨some 29, _, _, _, _, _⟩) (.bool true) (by rfl) (by rw [exec_eql_ref _ _ _ _ (by rfl) r.1 r.2.1 r.1 r.2.1 (by rfl) (by rfl)]; simp) ?_)
    | fail)
  go_ret
  exact ⟨rfl, H4.out⟩
end Go.Proofs.YthfdjemlibecgaaDoor

/- The chapter's grid behind its first two calls. Condition: the library's table is there. -/
namespace Go.Proofs.YthfdjemlibecgaaDoor
open Go.RowKit
def gb1 : GBT := (1, (1, 7, ()), [], [97], ())
def gb2 : GBT := (2, (2, 7, ()), [(1, 7, ())], [98], ())
def g40 : Grd := ⟨4, List.replicate 4 0, []⟩
def g42 : Grd := ⟨4, [1, 1, 0, 0], []⟩
structure Two (d : Dsk) : Prop where
  rm : Rm d 4
  one : gblk d 1 = GB.bytes gb1
  two : gblk d 2 = GB.bytes gb2
  n120 : d.N = 120
theorem two_run : ∃ d1 d2, gput g40 (Dsk.new 120) none 1 [] [97] 7 = ((0, (1, 7, ())), ⟨4, [1, 0, 0, 0], []⟩, d1, none) ∧ gput ⟨4, [1, 0, 0, 0], []⟩ d1 none 2 [(1, 7, ())] [98] 7 = ((0, (2, 7, ())), g42, d2, none) ∧ Two d2 := by
  have h0 : Rm (Dsk.new 120) 4 := ⟨Dsk.Ok.new (by omega), rfl, by show 104 + 4 * 4 ≤ 120; omega⟩
  have s0 : SetOk (List.replicate 4 0) := setOk_new 4 (by omega)
  have s1 : SetOk [1, 0, 0, 0] := s0.acq
  obtain ⟨d1, e1, r1, n1, b1, o1⟩ := gput_ok (g := g40) (k := 1) (s := 7) (l := []) (m := [97]) h0 rfl s0 (by decide) (by decide)
  obtain ⟨d2, e2, r2, n2, b2, o2⟩ := gput_ok (g := ⟨4, [1, 0, 0, 0], []⟩) (k := 2) (s := 7) (l := [(1, 7, ())]) (m := [98]) r1 rfl s1 (by decide) (by decide)
  exact ⟨d1, d2, e1, e2, r2, (o2 1 (by omega) (by show (1 : Int) ≤ 4; omega) (by decide)).trans b1, b2, n2.trans n1⟩
set_option maxRecDepth 100000 in
set_option maxHeartbeats 2000000 in
theorem ltwo_any (w : World) (hT : Tab w) : Calls Tryd.prog 21 #[] w fun e w' => ∃ gp dp d, e = .returned (.tuple #[.pointer (some ⟨dp, 0, none⟩), .pointer (some ⟨gp, 0, none⟩), .bool true]) ∧ GL w.heap.size w' gp dp g42 d ∧ Two d ∧ Below w.heap.size w w' := by
  obtain ⟨d1, d2, e1, e2, hTwo⟩ := two_run
  have H0 := Lib.hid (And.intro hT (And.intro e1 (And.intro e2 hTwo)))
  clear hT e1 e2 hTwo
  go_enter Tryd.func21, Tryd.ntmps21
  go_wp2_with fail
  refine (lmade_any 4 (by omega) (by omega) w).mono ?_
  rintro e w1 ⟨gp, dp, rfl, hG, hB⟩
  have H1 := Lib.hid (And.intro (show GL w.heap.size w1 gp dp g40 (Dsk.new 120) from hG) hB)
  clear hG hB
  go_wp2_with fail
  refine (lref_any 1 7 w1).mono ?_
  rintro e w2 ⟨rfl, hbx⟩
  have H2 := Lib.hid (And.intro (H1.out.1.below hbx) (H1.out.2.trans (hbx.mono H1.out.2.size)))
  clear hbx H1
  go_wp2_with fail
  refine (lwrites_any H2.out.1 H2.out.2.size (H0.out.1.below H2.out.2) 1 7 none 0 0 [] [97] (1, 7, ()) 0 rfl (by simp) (by simp) (fun h => absurd h (by simp)) (by rw [H0.out.2.1])).mono ?_
  rintro e w3 ⟨rfl, hG, hB⟩
  rw [H0.out.2.1] at hG
  have H3 := Lib.hid (And.intro hG (H2.out.2.trans hB))
  clear hG hB H2
  go_wp2_with fail
  refine (lref_any 1 7 w3).mono ?_
  rintro e w4 ⟨rfl, hbx⟩
  have hb5 := (Below.refl w4.heap.size w4).alloc (Nat.le_refl _) (.cells #[.int .i64 1, .int .i64 7] 23)
  have hr5 : Refs (w4.alloc (.cells #[.int .i64 1, .int .i64 7] 23)) (some ⟨w4.heap.size, 0, none⟩) [(1, 7, ())] := Refs.of (reads_new w4 23 [.int .i64 1, .int .i64 7])
  have H5 := Lib.hid (And.intro ((H3.out.1.below hbx).below hb5) (And.intro ((H3.out.2.trans (hbx.mono H3.out.2.size)).trans (hb5.mono (Nat.le_trans H3.out.2.size hbx.size))) hr5))
  clear hbx H3 hb5 hr5
  go_wp2_with fail
  generalize w4.alloc (.cells #[.int .i64 1, .int .i64 7] 23) = w5 at H5 ⊢
  refine (lref_any 2 7 w5).mono ?_
  rintro e w6 ⟨rfl, hbx⟩
  have H6 := Lib.hid (And.intro (H5.out.1.below hbx) (And.intro (H5.out.2.1.trans (hbx.mono H5.out.2.1.size)) (H5.out.2.2.below hbx)))
  clear hbx H5
  go_wp2_with fail
  refine (lwrites_any H6.out.1 H6.out.2.1.size (H0.out.1.below H6.out.2.1) 2 7 (some ⟨w4.heap.size, 0, none⟩) 1 1 [(1, 7, ())] [98] (2, 7, ()) 0 rfl (by simp) (by simp) H6.out.2.2 (by rw [H0.out.2.2.1])).mono ?_
  rintro e w7 ⟨rfl, hG, hB⟩
  rw [H0.out.2.2.1] at hG
  have H7 := Lib.hid (And.intro hG (H6.out.2.1.trans hB))
  clear hG hB H6
  go_wp2
  go_ret3
  exact ⟨gp, dp, d2, rfl, H7.out.1, H0.out.2.2.2, H7.out.2⟩
end Go.Proofs.YthfdjemlibecgaaDoor

/- []byte("..") of a constant, its row laid before. Plain facts over any program. No condition. -/
namespace Go
open Go.RowKit
theorem freeze_upd (w : World) (g k : Nat) : Upd g w (w.freeze ⟨g, k, none⟩ 1) := by
  unfold World.freeze
  rw [if_neg (by decide)]
  exact ⟨rfl, rfl, rfl, by simp, fun j hj => by simp [Array.getElem?_modify, Ne.symm hj]⟩
theorem freeze_cells {w : World} {g : Nat} {t : TypeId} {cs : Array Value} (h : Blk w g t cs) (k : Nat) : (w.freeze ⟨g, k, none⟩ 1).heap[g]? = some (.cells cs t (k, k + 1)) := by
  unfold World.freeze
  rw [if_neg (by decide)]
  unfold Blk at h
  simp [Array.getElem?_modify, h]
theorem wpList_bytes_mark {P : Program} {w : World} {Q : Exit → Act → World → Prop} {ops : Array Oper} {rest : List Oper} {o : Oper} {a : Act} (hgd : o.guard = none) (t e : TypeId) (x : Operand) (ho : o.op = .convert t t x)
    (ht : P.underlying t = some (.slice e)) (he : P.underlying e = some (.int .u8)) (l : List UInt8) (n g : Nat) (hb : Blk w g e (l.map u8v).toArray) (hx : a.eval x = .slice (some ⟨g, 0, none⟩) n n)
    (h : ∀ w', Bytes w' (some ⟨g, 0, none⟩) l → Upd g w w' → wpList P ops Q rest (a.put o.dst (.slice (some ⟨g, 0, none⟩) n n)) w') : wpList P ops Q (o :: rest) a w := by
  refine wpList_plain hgd fun K hK => ?_
  unfold Oper.wp execOp
  have hsh : w.shape? g = some (e, (l.map u8v).toArray.size) := by
    unfold World.shape?
    unfold Blk at hb
    rw [hb]
  have hr : (convert t t (.slice (some ⟨g, 0, none⟩) n n)).run P w = .ok (.slice (some ⟨g, 0, none⟩) n n) (w.freeze ⟨g, (l.map u8v).toArray.size, none⟩ 1) := by
    simp [convert, run_underlying ht, run_underlying he, markStringish, hsh]
  simp only [ho, hx, Sem.run_bind, hr, Result.andThen_ok, Sem.run_pure]
  refine hK _ _ (h _ (fun _ => ⟨g, 0, rfl, fun j v hv => ?_⟩) (freeze_upd w g _))
  rw [Nat.zero_add, cell_of_row _ _ _ _ _ _ (freeze_cells hb _)]
  simpa using hv
end Go
