/- The journal's Get. Condition: the journal is known. (Printed by gen/jo.py.) -/
import Derived.Test.YtfoegmjpfkmggaaDoorMJournalKnown13
import Derived.Lib.ConvBytes
import Derived.Test.YtfoegmjpfkmggaaDoorProg
namespace Go.Proofs.YtfoegmjpfkmggaaDoor
open Go.RowKit
theorem OwnsC.nearJ {e : TypeId} {size base n : Nat} {w w' : World} {v : Value} {xs sp : List Value} {X : List Nat} (h : OwnsC e size w base v n xs sp) (k : Near X w w') (hX : ∀ g, v.ownBlock = some g → g ∉ X) : OwnsC e size w' base v n xs sp := by
  rcases h with h | ⟨g, cap, rfl, hb, hgg, rest⟩
  · exact .inl h
  · exact .inr ⟨g, cap, rfl, hb, hgg.near k (hX g rfl), rest⟩
theorem OwnsC.from {e : TypeId} {size b b' n : Nat} {w : World} {v : Value} {xs sp : List Value} (h : OwnsC e size w b' v n xs sp) (hb : b ≤ b') : OwnsC e size w b v n xs sp := by
  rcases h with h | ⟨g, cap, rfl, hbb, rest⟩
  · exact .inl h
  · exact .inr ⟨g, cap, rfl, Nat.le_trans hb hbb, rest⟩
theorem jc_cell (gd : Nat) (l : List SlT) (k j : Nat) (hj : j < 4) (h : k < l.length) : (jc gd l)[1 + k * 4 + j]? = (slc (jst l k))[j]? := by
  rw [← jst_at h, show 1 + k * 4 + j = 1 + 4 * k + j by omega, jc_at gd l k j hj h]
section
variable {w w' : World} {gj : Nat} {p : Pl} {L : List UInt8} {l : List SlT}
theorem JR.near' {g0 : Nat} (h : JR w gj p L l) (k : Near [g0] w w') (h1 : g0 ≠ gj) (h2 : g0 ∉ p.all none) : JR w' gj p L l :=
  ⟨h.jd.near' k (by unfold Pl.all at h2; simp at h2 ⊢; exact ⟨fun e => h2.1 e.symm, fun e => h2.2.1 e.symm, fun e => h2.2.2 e.symm⟩), h.jb.near k (by simpa using h1.symm), h.n16⟩
set_option maxRecDepth 100000 in
set_option maxHeartbeats 4000000 in
theorem jget_any (op : Int) (h : JR w gj p L l) :
    Calls Tryd.prog 16 #[.pointer (some ⟨gj, 0, none⟩), .int .i64 op] w fun e w' => ∃ v, e = .returned (.tuple #[.agg (msgc (jget L l op).1.2.1 v), .int .i64 (jget L l op).1.1]) ∧
      (∃ sp, OwnB 5 w' w.heap.size v (jget L l op).1.2.2 sp) ∧ JR w' gj p L (jget L l op).2 ∧ Near [gj] w w' := by
  have hB := (Below.refl w.heap.size w).alloc (Nat.le_refl _) (.cells #[.int .i64 0, .int .i64 0, .int .i64 0, .int .i64 0, .int .i64 0, .int .i64 0, .int .i64 0, .int .i64 0, .int .i64 0, .int .u64 0, .int .u64 0, .int .i64 0, .int .i64 0, .int .u64 0, .int .i64 0, .int .i64 0, .slice none 0 0] 38)
  have hg0 := (Blk.new w 38 #[.int .i64 0, .int .i64 0, .int .i64 0, .int .i64 0, .int .i64 0, .int .i64 0, .int .i64 0, .int .i64 0, .int .i64 0, .int .u64 0, .int .u64 0, .int .i64 0, .int .i64 0, .int .u64 0, .int .i64 0, .int .i64 0, .slice none 0 0]).sub zeroMsg_cells.symm
  have h1 := h.below hB
  have hP := h.jd.lt
  have hgl := h.lt
  have hoff := h.off
  have h16 := h.n16
  have hz : (w.alloc (.cells #[.int .i64 0, .int .i64 0, .int .i64 0, .int .i64 0, .int .i64 0, .int .i64 0, .int .i64 0, .int .i64 0, .int .i64 0, .int .u64 0, .int .u64 0, .int .i64 0, .int .i64 0, .int .u64 0, .int .i64 0, .int .i64 0, .slice none 0 0] 38)).heap.size = w.heap.size + 1 := by simp
  have hn0 : Near [gj] w (w.alloc (.cells #[.int .i64 0, .int .i64 0, .int .i64 0, .int .i64 0, .int .i64 0, .int .i64 0, .int .i64 0, .int .i64 0, .int .i64 0, .int .u64 0, .int .u64 0, .int .i64 0, .int .i64 0, .int .u64 0, .int .i64 0, .int .i64 0, .slice none 0 0] 38)) := (Near.below (X := [gj]) hB)
  obtain ⟨g0, hg⟩ : ∃ x, x = w.heap.size := ⟨_, rfl⟩
  have HG := Lib.hid (show g0 = w.heap.size ∧ g0 ≠ gj ∧ g0 ∉ p.all none from ⟨hg, by omega, fun hx => by have := hP _ hx; omega⟩)
  have HX := Lib.hid (And.intro hoff (And.intro h16 (And.intro h1.jd.len hz)))
  clear h hB hP hgl hoff h16 hz
  go_enter Tryd.func16, Tryd.ntmps16
  go_wp2_with fail
  rw [← hg] at hg0 ⊢
  generalize w.alloc (.cells #[.int .i64 0, .int .i64 0, .int .i64 0, .int .i64 0, .int .i64 0, .int .i64 0, .int .i64 0, .int .i64 0, .int .i64 0, .int .u64 0, .int .u64 0, .int .i64 0, .int .i64 0, .int .u64 0, .int .i64 0, .int .i64 0, .slice none 0 0] 38) = w1 at hg0 h1 HX hn0 ⊢
  have H1 := Lib.hid (And.intro h1 (And.intro hn0 hg0))
  refine (jup_any h1).mono ?_
  rintro e w1' ⟨rfl, hw⟩
  obtain rfl := hw.symm
  clear h1 hw hg hn0
  by_cases hop : op < 1
  · have hq := Lib.hid (show jget L l op = ((6, Hd.none_, []), l) by unfold jget; rw [if_pos hop])
    clear hg0
    go_wp2_with (first
      | ((with_reducible show wpList _ _ _ ((⟨none, _, _, _, _, _⟩ : Oper) :: _) _ _); refine wpList_store_blk (o := ⟨none, _, _, _, _, _⟩) (H1.out.2.2) (by rfl) _ _ _ (by rfl) (by rfl) (msgc zeroHd (.slice none 0 0)) (by rfl) (sizeMsg) (msgc_size _ _) (msgc_size _ _) (msgc_one _ _ rfl) ?_; intro w9 h9 hu9)
      | fail)
    have hn9 : Near [g0] _ _ := Near.upd hu9 (List.mem_singleton_self _)
    refine bodyPost_ret (results_row_tmp (by rfl) _ _ g0 _ _ _ (by rfl) h9 Tryd.underlying38 (by rfl) (by rw [msgc_size]; exact sizeMsg)) rfl ?_
    rw [hq.out]
    exact ⟨_, rfl, ⟨[], OwnsC.nil _ _ _ _⟩, (H1.out.1).near' hn9 HG.out.2.1 HG.out.2.2, (H1.out.2.1).high hn9 (fun y hy => by rw [List.mem_singleton.1 hy, HG.out.1]; exact Nat.le_refl _)⟩
  go_wp2_with fail
  have hC0 : Near [] w1 w1.drew := (Near.refl _ _).drew
  refine wp_region_tree (Near [] w1) [] (PlanT.takes [0, 1, 3, 4] (.opt 2 (PlanT.takes [5, 6] .done) .no)) (by kernel_rfl) (by kernel_rfl) (hC0) ?_
  refine wpTree_pure _ _ _ (by rfl) (by rfl) ?_
  dsimp only [List.filterMap, List.getElem?_cons_zero, List.getElem?_cons_succ]
  repeat (go_big_quiet_step (fail))
  refine wpQuiet_nil ?_
  refine wpTree_one _ rfl ?_
  go_wp2_with fail
  refine (sof_any op w1.drew).mono ?_
  rintro e w2 ⟨rfl, hw⟩
  rw [← hw] at hC0
  clear hw
  obtain ⟨hk, hke⟩ := jsl_lt op
  have HKE := Lib.hid hke
  rw [hke]
  have hq0 : jget L l op = if (jst l (jsl op)).2.1 ≠ op ∨ ((jst l (jsl op)).1 ≠ 1 ∧ (jst l (jsl op)).1 ≠ 3) then ((6, Hd.none_, []), l)
      else if (jst l (jsl op)).1 = 3 then ((13, Hd.none_, []), l)
      else if jgood L l op = true then ((0, (Slot.prep (jpr L (jsl op)) (jsl op)).2.1, (Slot.prep (jpr L (jsl op)) (jsl op)).2.2), l)
      else ((13, Hd.none_, []), l.set (jsl op) (3, op, (jst l (jsl op)).2.2.1, false)) := by
    rw [jget, if_neg (by omega)]
  have hgd : jgood L l op = ((Slot.prep (jpr L (jsl op)) (jsl op)).1 && ((Slot.prep (jpr L (jsl op)) (jsl op)).2.1 5 == op) && ((Slot.prep (jpr L (jsl op)) (jsl op)).2.1 3 == (jst l (jsl op)).2.2.1)) := rfl
  clear hke
  generalize jsl op = k at hk HKE hq0 hgd ⊢
  have hp0 := Lib.hid (show ∃ S : SlT, S = jst l k from ⟨_, rfl⟩)
  obtain ⟨S, hS⟩ := hp0.out
  clear hp0
  rw [← hS] at hq0 hgd
  have h2 : JR w2 gj p L l := H1.out.1.near hC0
  have hg2 := H1.out.2.2.near hC0 (by simp)
  have hn2 : Near [gj] w w2 := H1.out.2.1.trans (hC0.wider (fun x hx => by cases hx))
  have hj : ∀ j v, j < 4 → (slc S)[j]? = some v → w2.cell? ⟨gj, 1 + k * 4 + j, none⟩ = some v := fun j v hj hv => by
    rw [h2.jb.cell]
    show (jc p.gd l)[1 + k * 4 + j]? = some v
    rw [jc_cell p.gd l k j hj (by rw [h2.n16]; exact hk), ← hS]; exact hv
  obtain ⟨a, b, c, d⟩ := S
  have ja : w2.cell? ⟨gj, 1 + k * 4, none⟩ = some (.int .i64 a) := hj 0 _ (by omega) rfl
  have jb : w2.cell? ⟨gj, 1 + k * 4 + 1, none⟩ = some (.int .i64 b) := hj 1 _ (by omega) rfl
  have jv : w2.cell? ⟨gj, 1 + k * 4 + 2, none⟩ = some (.int .i64 c) := hj 2 _ (by omega) rfl
  have jd0 : w2.cell? ⟨gj, 0, none⟩ = some (.pointer (some ⟨p.gd, 0, none⟩)) := h2.jb.at_ 0 (jc_0 _ _)
  dsimp only at hq0 hgd
  have H2 := Lib.hid (And.intro h2 (And.intro hn2 hg2))
  have HQ := Lib.hid (And.intro hq0 (And.intro hgd hS))
  clear hj h2 hn2 hg0 H1 hq0 hgd hS
  go_wp2_with fail
  refine TreeQ.in_ hC0 ?_
  refine wpTree_pure _ _ _ (by rfl) (by rfl) ?_
  dsimp only [List.filterMap, List.getElem?_cons_zero, List.getElem?_cons_succ]
  repeat (go_big_quiet_step (fail))
  refine wpQuiet_nil ?_
  refine wpTree_done ?_
  clear hC0
  by_cases hb : b = op
  case neg =>
    have hq := Lib.hid (show jget L l op = ((6, Hd.none_, []), l) by rw [HQ.out.1, if_pos (.inl hb)])
    have hb' : (b != op) = true := by simpa using hb
    clear hb hop jv jd0
    go_wp2_with (first
      | ((with_reducible show wpList _ _ _ ((⟨none, _, _, _, _, _⟩ : Oper) :: _) _ _); refine wpList_store_blk (o := ⟨none, _, _, _, _, _⟩) (H2.out.2.2) (by rfl) _ _ _ (by rfl) (by rfl) (msgc zeroHd (.slice none 0 0)) (by rfl) (sizeMsg) (msgc_size _ _) (msgc_size _ _) (msgc_one _ _ rfl) ?_; intro w9 h9 hu9)
      | fail)
    have hn9 : Near [g0] _ _ := Near.upd hu9 (List.mem_singleton_self _)
    refine bodyPost_ret (results_row_tmp (by rfl) _ _ g0 _ _ _ (by rfl) h9 Tryd.underlying38 (by rfl) (by rw [msgc_size]; exact sizeMsg)) rfl ?_
    rw [hq.out]
    exact ⟨_, rfl, ⟨[], OwnsC.nil _ _ _ _⟩, (H2.out.1).near' hn9 HG.out.2.1 HG.out.2.2, (H2.out.2.1).high hn9 (fun y hy => by rw [List.mem_singleton.1 hy, HG.out.1]; exact Nat.le_refl _)⟩
  have hb' : (b != op) = false := by simpa using hb
  by_cases ha3 : a = 3
  · subst ha3
    have hq := Lib.hid (show jget L l op = ((13, Hd.none_, []), l) by rw [HQ.out.1, if_neg (by simp [hb]), if_pos rfl])
    clear hb hop jv jd0
    go_wp2_with (first
      | ((with_reducible show wpList _ _ _ ((⟨none, _, _, _, _, _⟩ : Oper) :: _) _ _); refine wpList_store_blk (o := ⟨none, _, _, _, _, _⟩) (H2.out.2.2) (by rfl) _ _ _ (by rfl) (by rfl) (msgc zeroHd (.slice none 0 0)) (by rfl) (sizeMsg) (msgc_size _ _) (msgc_size _ _) (msgc_one _ _ rfl) ?_; intro w9 h9 hu9)
      | fail)
    have hn9 : Near [g0] _ _ := Near.upd hu9 (List.mem_singleton_self _)
    refine bodyPost_ret (results_row_tmp (by rfl) _ _ g0 _ _ _ (by rfl) h9 Tryd.underlying38 (by rfl) (by rw [msgc_size]; exact sizeMsg)) rfl ?_
    rw [hq.out]
    exact ⟨_, rfl, ⟨[], OwnsC.nil _ _ _ _⟩, (H2.out.1).near' hn9 HG.out.2.1 HG.out.2.2, (H2.out.2.1).high hn9 (fun y hy => by rw [List.mem_singleton.1 hy, HG.out.1]; exact Nat.le_refl _)⟩
  by_cases ha1 : a = 1
  case neg =>
    have hq := Lib.hid (show jget L l op = ((6, Hd.none_, []), l) by rw [HQ.out.1, if_pos (.inr ⟨ha1, ha3⟩)])
    have ha1' : (a != 1) = true := by simpa using ha1
    have ha3' : (a != 3) = true := by simpa using ha3
    clear hb hop jv jd0 ha1 ha3
    go_wp2_with (first
      | ((with_reducible show wpList _ _ _ ((⟨none, _, _, _, _, _⟩ : Oper) :: _) _ _); refine wpList_store_blk (o := ⟨none, _, _, _, _, _⟩) (H2.out.2.2) (by rfl) _ _ _ (by rfl) (by rfl) (msgc zeroHd (.slice none 0 0)) (by rfl) (sizeMsg) (msgc_size _ _) (msgc_size _ _) (msgc_one _ _ rfl) ?_; intro w9 h9 hu9)
      | fail)
    have hn9 : Near [g0] _ _ := Near.upd hu9 (List.mem_singleton_self _)
    refine bodyPost_ret (results_row_tmp (by rfl) _ _ g0 _ _ _ (by rfl) h9 Tryd.underlying38 (by rfl) (by rw [msgc_size]; exact sizeMsg)) rfl ?_
    rw [hq.out]
    exact ⟨_, rfl, ⟨[], OwnsC.nil _ _ _ _⟩, (H2.out.1).near' hn9 HG.out.2.1 HG.out.2.2, (H2.out.2.1).high hn9 (fun y hy => by rw [List.mem_singleton.1 hy, HG.out.1]; exact Nat.le_refl _)⟩
  subst ha1
  have hq1 : jget L l op = if jgood L l op = true then ((0, (Slot.prep (jpr L k) k).2.1, (Slot.prep (jpr L k) k).2.2), l) else ((13, Hd.none_, []), l.set k (3, op, c, false)) := by
    rw [HQ.out.1, if_neg (by simp [hb]), if_neg (by omega)]
  have HQ1 := Lib.hid (And.intro hq1 HQ.out.2.1)
  have HB := Lib.hid hb
  clear hq1 HQ hb hop ha3
  go_wp2_with fail
  have hC2 : Near [] w2 w2.drew := (Near.refl _ _).drew
  refine wp_region_tree (Near [] w2) [] (PlanT.takes [0, 1, 2, 4] (PlanT.takes [3] (.opt 5 (.opt 6 (.opt 7 (PlanT.takes [8, 9, 10, 11, 12] .done) .no) .no) .no))) (by kernel_rfl) (by kernel_rfl) (hC2) ?_
  refine wpTree_pure _ _ _ (by rfl) (by rfl) ?_
  dsimp only [List.filterMap, List.getElem?_cons_zero, List.getElem?_cons_succ]
  repeat (go_big_quiet_step (fail))
  refine wpQuiet_nil ?_
  refine wpTree_takeL _ _ _ (by rfl) (by rfl) (hC2) ?_
  dsimp only [List.filterMap, List.getElem?_cons_zero, List.getElem?_cons_succ]
  (refine wpQuiet_load_cell (fun w' hw' => Near.cell_ hw' (by simp) jd0) (by rfl) _ _ (by rfl) (by rfl) _ Tryd.underlying22 (by rfl) ?_; simp only [Act.put, List.setIfInBounds_toArray, List.set_cons_zero, List.set_cons_succ])
  refine wpQuiet_nil ?_
  refine wpTree_one _ rfl ?_
  go_wp2_with fail
  refine (sof_any op w2.drew).mono ?_
  rintro e w3 ⟨rfl, hw⟩
  rw [← hw] at hC2
  clear hw
  rw [HKE.out]
  go_wp2_with fail
  refine TreeQ.in_ hC2 ?_
  refine wpTree_one _ rfl ?_
  go_wp2_with fail
  refine (jplace_any (k : Int) (by omega) w3).mono ?_
  rintro e w3' ⟨rfl, hw⟩
  obtain rfl := hw.symm
  clear hw
  rw [show (24 : Int) + 5 * (k : Int) = ((24 + 5 * k : Nat) : Int) by omega]
  go_wp2_with fail
  refine TreeQ.in_ hC2 ?_
  refine wpTree_one _ rfl ?_
  have h3 : JR w3 gj p L l := H2.out.1.near hC2
  go_wp2_with fail
  refine (jdread5 k hk h3.jd).mono ?_
  rintro e w4 ⟨g4, rfl, hg4, hb4, hB4⟩
  have hC4 : Near [] w2 w4 := hC2.trans (Near.below hB4)
  have H4 := Lib.hid (And.intro (h3.below hB4) (And.intro (H2.out.2.1.trans (hC4.wider (fun x hx => by cases hx))) (And.intro (H2.out.2.2.near hC4 (by simp)) hb4)))
  have hs4 := hC4.size
  clear hC2 hB4 hg4 hb4 h3
  go_wp2_with fail
  refine TreeQ.in_ hC4 ?_
  refine wpTree_pure _ _ _ (by rfl) (by rfl) ?_
  dsimp only [List.filterMap, List.getElem?_cons_zero, List.getElem?_cons_succ]
  repeat (go_big_quiet_step (fail))
  refine wpQuiet_nil ?_
  refine wpTree_done ?_
  replace ja := hC4.cell_ (by simp) ja
  replace jb := hC4.cell_ (by simp) jb
  replace jv := hC4.cell_ (by simp) jv
  clear hC4 jd0
  have hl5 := jpr_length HX.out.2.2.1 hk
  go_wp2_with fail
  refine (sof_any op w4).mono ?_
  rintro e w4' ⟨rfl, hw⟩
  obtain rfl := hw.symm
  clear hw
  rw [HKE.out]
  go_wp2_with fail
  refine (sprep_any (some ⟨g4, 0, none⟩) 1280 1280 (jpr L k) (k : Int) hl5.symm (Nat.le_refl _) (by omega) w4 H4.out.2.2.2).mono ?_
  rintro e w5 ⟨v5, rfl, ⟨sp5, ho5⟩, hB5⟩
  have hz1 : w.heap.size + 1 ≤ w4.heap.size := by have := HX.out.2.2.2; have := H2.out.2.1.size; have := H4.out.2.2.1.lt; rw [HG.out.1] at this; omega
  have hN5 : Near [] w4 w5 := Near.below hB5
  obtain ⟨A5, c5, rfl, hc5, hcc5, hby5⟩ := OwnB.open_ ho5
  have ha6 := (Below.refl w5.heap.size w5).alloc (Nat.le_refl _) (.cells #[.int .i64 0, .int .i64 0, .int .i64 0, .int .i64 0, .int .i64 0, .int .i64 0, .int .i64 0, .int .i64 0, .int .i64 0, .int .u64 0, .int .u64 0, .int .i64 0, .int .i64 0, .int .u64 0, .int .i64 0, .int .i64 0, .slice none 0 0] 38)
  have hN6 := hN5.trans (Near.below (X := []) ha6)
  have ho6 := ho5.alloc (.cells #[.int .i64 0, .int .i64 0, .int .i64 0, .int .i64 0, .int .i64 0, .int .i64 0, .int .i64 0, .int .i64 0, .int .i64 0, .int .u64 0, .int .u64 0, .int .i64 0, .int .i64 0, .int .u64 0, .int .i64 0, .int .i64 0, .slice none 0 0] 38)
  have hg6s := hB5.size
  have h5own := fun j hj => (OwnsC.lt ho5 j hj).2
  have HN0 := Lib.hid hz1
  have HN6 := Lib.hid (And.intro hN6 (And.intro hz1 hg6s))
  have HO6 := Lib.hid (And.intro ho6 h5own)
  clear hB5 hN5 ha6 hN6 ho5 ho6 hc5 hcc5 hby5 hl5 hg6s hz1 h5own hs4
  obtain ⟨P, hPP⟩ : ∃ P, P = Slot.prep (jpr L k) k := ⟨_, rfl⟩
  rw [← hPP] at HQ1 HO6 ⊢
  clear hPP
  obtain ⟨ok, F, bd⟩ := P
  dsimp only at HQ1 HO6 ⊢
  go_wp2_with (first
    | ((with_reducible show wpList _ _ _ ((⟨none, _, _, _, _, _⟩ : Oper) :: _) _ _); refine wpList_store_blk (o := ⟨none, _, _, _, _, _⟩) ((Blk.new w5 38 #[.int .i64 0, .int .i64 0, .int .i64 0, .int .i64 0, .int .i64 0, .int .i64 0, .int .i64 0, .int .i64 0, .int .i64 0, .int .u64 0, .int .u64 0, .int .i64 0, .int .i64 0, .int .u64 0, .int .i64 0, .int .i64 0, .slice none 0 0])) (by rfl) _ _ _ (by rfl) (by rfl) (msgc F (.slice A5 bd.length c5)) (by rfl) (sizeMsg) (by rfl) (msgc_size _ _) (msgc_one _ _ rfl) ?_; intro w6 h6 hu6)
    | fail)
  have hN6 : Near [] w4 w6 := HN6.out.1.high (Near.upd hu6 (List.mem_singleton_self _)) (fun y hy => by rw [List.mem_singleton.1 hy]; exact HN6.out.2.2)
  have ho7 := OwnsC.nearJ HO6.out.1 (Near.upd hu6 (List.mem_singleton_self _)) (fun j hj => by have := HO6.out.2 j hj; simp; omega)
  obtain ⟨gm, hgm⟩ : ∃ x, x = w5.heap.size := ⟨_, rfl⟩
  rw [← hgm] at h6 ⊢
  have hJ6 := H4.out.1.near hN6
  have hz6 := H4.out.2.2.1.near hN6 (by simp)
  have hn6 : Near [gj] w w6 := H4.out.2.1.trans (hN6.wider (fun x hx => by cases hx))
  replace jv := hN6.cell_ (by simp) jv
  have c5' := h6.at_ 5 (v := .int .i64 (F 5)) (msgc_at F _ 5 (by omega))
  have c3' := h6.at_ 3 (v := .int .i64 (F 3)) (msgc_at F _ 3 (by omega))
  have hs0 : w.heap.size ≤ w4.heap.size := by have := HN6.out.2.1; omega
  have H6 := Lib.hid (And.intro hJ6 (And.intro hz6 (And.intro hn6 (And.intro h6 (And.intro ho7 hs0)))))
  clear hN6 ho7 hgm h6 hJ6 hz6 hn6 hs0 hu6 HN6 HO6 ja jb hg2 hb'
  have hC6 : Near [] w6 w6.drew := (Near.refl _ _).drew
  by_cases hgood : (ok && (F 5 == op) && (F 3 == c)) = true
  · simp only [Bool.and_eq_true, beq_iff_eq] at hgood
    obtain ⟨⟨rfl, e5⟩, e3⟩ := hgood
    have hq := Lib.hid (show jget L l op = ((0, F, bd), l) by rw [HQ1.out.1, if_pos (by rw [HQ1.out.2, e5, e3]; simp)])
    have e5' : (F 5 != op) = false := by simpa using e5
    have e3' : (F 3 != c) = false := by simpa using e3
    clear e5 e3
    refine wp_region_tree (Near [] w6) [] (PlanT.takes [0, 1, 2, 3, 4, 6] (PlanT.takes [5] (PlanT.takes [7, 8, 9, 10, 11, 13, 14, 15] (PlanT.takes [12, 16] (PlanT.takes [17, 18] .done))))) (by kernel_rfl) (by kernel_rfl) (hC6) ?_
    refine wpTree_pure _ _ _ (by rfl) (by rfl) ?_
    dsimp only [List.filterMap, List.getElem?_cons_zero, List.getElem?_cons_succ]
    repeat (go_big_quiet_step (fail))
    refine wpQuiet_nil ?_
    refine wpTree_takeL _ _ _ (by rfl) (by rfl) (hC6) ?_
    dsimp only [List.filterMap, List.getElem?_cons_zero, List.getElem?_cons_succ]
    (refine wpQuiet_want' (by rfl) ?_; refine wpQuiet_load_cell (fun w' hw' => Near.cell_ hw' (by simp) c5') (by rfl) _ _ (by rfl) (by rfl) _ Tryd.underlying3 (by rfl) ?_; simp only [Act.put, List.setIfInBounds_toArray, List.set_cons_zero, List.set_cons_succ])
    refine wpQuiet_nil ?_
    refine wpTree_pure _ _ _ (by rfl) (by rfl) ?_
    dsimp only [List.filterMap, List.getElem?_cons_zero, List.getElem?_cons_succ]
    repeat (go_big_quiet_step (fail))
    refine wpQuiet_nil ?_
    refine wpTree_takeL _ _ _ (by rfl) (by rfl) (hC6) ?_
    dsimp only [List.filterMap, List.getElem?_cons_zero, List.getElem?_cons_succ]
    (refine wpQuiet_want' (by rfl) ?_; refine wpQuiet_load_cell (fun w' hw' => Near.cell_ hw' (by simp) c3') (by rfl) _ _ (by rfl) (by rfl) _ Tryd.underlying3 (by rfl) ?_; simp only [Act.put, List.setIfInBounds_toArray, List.set_cons_zero, List.set_cons_succ])
    (refine wpQuiet_want' (by rfl) ?_; refine wpQuiet_load_cell (fun w' hw' => Near.cell_ hw' (by simp) jv) (by rfl) _ _ (by rfl) (by rfl) _ Tryd.underlying3 (by rfl) ?_; simp only [Act.put, List.setIfInBounds_toArray, List.set_cons_zero, List.set_cons_succ])
    refine wpQuiet_nil ?_
    refine wpTree_pure _ _ _ (by rfl) (by rfl) ?_
    dsimp only [List.filterMap, List.getElem?_cons_zero, List.getElem?_cons_succ]
    repeat (go_big_quiet_step (fail))
    refine wpQuiet_nil ?_
    refine wpTree_done ?_
    clear hC6 c5' c3' jv
    have hz7 := H6.out.2.1.drew
    have h67 := H6.out.2.2.2.1.drew
    go_wp2_with (first
      | ((with_reducible show wpList _ _ _ ((⟨some 102, _, _, _, _, _⟩ : Oper) :: _) _ _); refine wpList_load_blk (o := ⟨some 102, _, _, _, _, _⟩) (h67) (by rfl) _ _ (by rfl) (by rfl) _ Tryd.underlying38 (by rfl) (sizeMsg) (msgc_size _ _) ?_)
      | ((with_reducible show wpList _ _ _ ((⟨none, _, _, _, _, _⟩ : Oper) :: _) _ _); refine wpList_store_blk (o := ⟨none, _, _, _, _, _⟩) (hz7) (by rfl) _ _ _ (by rfl) (by rfl) (msgc F (.slice A5 bd.length c5)) (by rfl) (sizeMsg) (msgc_size _ _) (msgc_size _ _) (msgc_one _ _ rfl) ?_; intro w9 h9 hu9)
      | fail)
    have hn9 : Near [g0] w6 w9 := (Near.refl _ _).drew.trans (Near.upd hu9 (List.mem_singleton_self _))
    refine bodyPost_ret (results_row_tmp (by rfl) _ _ g0 _ _ _ (by rfl) h9 Tryd.underlying38 (by rfl) (by rw [msgc_size]; exact sizeMsg)) rfl ?_
    rw [hq.out]
    refine ⟨_, rfl, ⟨sp5, OwnsC.from ((OwnsC.nearJ H6.out.2.2.2.2.1 hn9 (fun j hj => by have h1 := (OwnsC.lt H6.out.2.2.2.2.1 j hj).1; have h2 := HN0.out; have h3 := HG.out.1; simp; omega))) H6.out.2.2.2.2.2⟩, (H6.out.1).near' hn9 HG.out.2.1 HG.out.2.2, (H6.out.2.2.1).high hn9 (fun y hy => by rw [List.mem_singleton.1 hy, HG.out.1]; exact Nat.le_refl _)⟩
  have hq := Lib.hid (show jget L l op = ((13, Hd.none_, []), l.set k (3, op, c, false)) by rw [HQ1.out.1, if_neg (by rw [HQ1.out.2]; exact hgood)])
  have hJb := H6.out.1.jb.drew
  have HJ16 := Lib.hid (And.intro H6.out.1.n16 hk)
  cases ok
  · clear hgood
    refine wp_region_tree (Near [] w6) [] (PlanT.takes [0, 1, 2, 3, 4, 6] (PlanT.takes [5] (PlanT.takes [7, 8, 9, 10, 11, 13, 14, 15] (PlanT.takes [12, 16] (PlanT.takes [17, 18] .done))))) (by kernel_rfl) (by kernel_rfl) (hC6) ?_
    refine wpTree_pure _ _ _ (by rfl) (by rfl) ?_
    dsimp only [List.filterMap, List.getElem?_cons_zero, List.getElem?_cons_succ]
    repeat (go_big_quiet_step (fail))
    refine wpQuiet_nil ?_
    refine wpTree_takeL _ _ _ (by rfl) (by rfl) (hC6) ?_
    dsimp only [List.filterMap, List.getElem?_cons_zero, List.getElem?_cons_succ]
    go_big_quiet_step (fail)
    refine wpQuiet_nil ?_
    refine wpTree_pure _ _ _ (by rfl) (by rfl) ?_
    dsimp only [List.filterMap, List.getElem?_cons_zero, List.getElem?_cons_succ]
    repeat (go_big_quiet_step (fail))
    refine wpQuiet_nil ?_
    refine wpTree_takeL _ _ _ (by rfl) (by rfl) (hC6) ?_
    dsimp only [List.filterMap, List.getElem?_cons_zero, List.getElem?_cons_succ]
    go_big_quiet_step (fail)
    go_big_quiet_step (fail)
    refine wpQuiet_nil ?_
    refine wpTree_pure _ _ _ (by rfl) (by rfl) ?_
    dsimp only [List.filterMap, List.getElem?_cons_zero, List.getElem?_cons_succ]
    repeat (go_big_quiet_step (fail))
    refine wpQuiet_nil ?_
    refine wpTree_done ?_
    clear hC6 c5' c3'
    have hz7 := H6.out.2.1.drew
    go_wp2_with (first
      | ((with_reducible show wpList _ _ _ ((⟨none, _, _, _, _, _⟩ : Oper) :: _) _ _); refine wpList_store_in (o := ⟨none, _, _, _, _, _⟩) hJb (by rfl) _ _ _ (by rfl) (1 + k * 4) (by rfl) #[.int .i64 3, .int .i64 op, .int .i64 c, .bool false] (by rfl) sizeSt (by rfl) (by rw [jc_size, HJ16.out.1]; have := HJ16.out.2; omega) (st_one _ _ _ _) ?_; intro w7 hg7 hu7; have hz8 := hz7.upd hu7 HG.out.2.1; clear hz7 jv)
      | ((with_reducible show wpList _ _ _ ((⟨none, _, _, _, _, _⟩ : Oper) :: _) _ _); refine wpList_store_blk (o := ⟨none, _, _, _, _, _⟩) (hz8) (by rfl) _ _ _ (by rfl) (by rfl) (msgc zeroHd (.slice none 0 0)) (by rfl) (sizeMsg) (msgc_size _ _) (msgc_size _ _) (msgc_one _ _ rfl) ?_; intro w9 h9 hu9)
      | fail)
    have hb7 : Blk w7 gj 52 (jc p.gd (l.set k (3, op, c, false))) := by
      rw [← jc_set p.gd l k _ (by rw [HJ16.out.1]; exact HJ16.out.2), show 1 + 4 * k = 1 + k * 4 by omega]
      exact hg7
    have hn7 : Near [gj] w6 w7 := (Near.refl _ _).drew.trans (Near.upd hu7 (List.mem_singleton_self _))
    have hgj := HX.out.1
    have hd7 : JD w7 p L := H6.out.1.jd.near' hn7 (by
      unfold Pl.all at hgj
      simp at hgj ⊢
      exact ⟨fun e => hgj.1 e.symm, fun e => hgj.2.1 e.symm, fun e => hgj.2.2 e.symm⟩)
    have hn9 : Near [g0] w7 w9 := Near.upd hu9 (List.mem_singleton_self _)
    refine bodyPost_ret (results_row_tmp (by rfl) _ _ g0 _ _ _ (by rfl) h9 Tryd.underlying38 (by rfl) (by rw [msgc_size]; exact sizeMsg)) rfl ?_
    rw [hq.out]
    exact ⟨_, rfl, ⟨[], OwnsC.nil _ _ _ _⟩, (JR.mk hd7 hb7 (by rw [List.length_set]; exact HJ16.out.1)).near' hn9 HG.out.2.1 HG.out.2.2, (H6.out.2.2.1.trans hn7).high hn9 (fun y hy => by rw [List.mem_singleton.1 hy, HG.out.1]; exact Nat.le_refl _)⟩
  by_cases h5 : F 5 = op
  case neg =>
    have e5' : (F 5 != op) = true := by simpa using h5
    clear hgood h5
    refine wp_region_tree (Near [] w6) [] (PlanT.takes [0, 1, 2, 3, 4, 6] (PlanT.takes [5] (PlanT.takes [7, 8, 9, 10, 11, 13, 14, 15] (PlanT.takes [12, 16] (PlanT.takes [17, 18] .done))))) (by kernel_rfl) (by kernel_rfl) (hC6) ?_
    refine wpTree_pure _ _ _ (by rfl) (by rfl) ?_
    dsimp only [List.filterMap, List.getElem?_cons_zero, List.getElem?_cons_succ]
    repeat (go_big_quiet_step (fail))
    refine wpQuiet_nil ?_
    refine wpTree_takeL _ _ _ (by rfl) (by rfl) (hC6) ?_
    dsimp only [List.filterMap, List.getElem?_cons_zero, List.getElem?_cons_succ]
    (refine wpQuiet_want' (by rfl) ?_; refine wpQuiet_load_cell (fun w' hw' => Near.cell_ hw' (by simp) c5') (by rfl) _ _ (by rfl) (by rfl) _ Tryd.underlying3 (by rfl) ?_; simp only [Act.put, List.setIfInBounds_toArray, List.set_cons_zero, List.set_cons_succ])
    refine wpQuiet_nil ?_
    refine wpTree_pure _ _ _ (by rfl) (by rfl) ?_
    dsimp only [List.filterMap, List.getElem?_cons_zero, List.getElem?_cons_succ]
    repeat (go_big_quiet_step (fail))
    refine wpQuiet_nil ?_
    refine wpTree_takeL _ _ _ (by rfl) (by rfl) (hC6) ?_
    dsimp only [List.filterMap, List.getElem?_cons_zero, List.getElem?_cons_succ]
    go_big_quiet_step (fail)
    go_big_quiet_step (fail)
    refine wpQuiet_nil ?_
    refine wpTree_pure _ _ _ (by rfl) (by rfl) ?_
    dsimp only [List.filterMap, List.getElem?_cons_zero, List.getElem?_cons_succ]
    repeat (go_big_quiet_step (fail))
    refine wpQuiet_nil ?_
    refine wpTree_done ?_
    clear hC6 c5' c3'
    have hz7 := H6.out.2.1.drew
    go_wp2_with (first
      | ((with_reducible show wpList _ _ _ ((⟨none, _, _, _, _, _⟩ : Oper) :: _) _ _); refine wpList_store_in (o := ⟨none, _, _, _, _, _⟩) hJb (by rfl) _ _ _ (by rfl) (1 + k * 4) (by rfl) #[.int .i64 3, .int .i64 op, .int .i64 c, .bool false] (by rfl) sizeSt (by rfl) (by rw [jc_size, HJ16.out.1]; have := HJ16.out.2; omega) (st_one _ _ _ _) ?_; intro w7 hg7 hu7; have hz8 := hz7.upd hu7 HG.out.2.1; clear hz7 jv)
      | ((with_reducible show wpList _ _ _ ((⟨none, _, _, _, _, _⟩ : Oper) :: _) _ _); refine wpList_store_blk (o := ⟨none, _, _, _, _, _⟩) (hz8) (by rfl) _ _ _ (by rfl) (by rfl) (msgc zeroHd (.slice none 0 0)) (by rfl) (sizeMsg) (msgc_size _ _) (msgc_size _ _) (msgc_one _ _ rfl) ?_; intro w9 h9 hu9)
      | fail)
    have hb7 : Blk w7 gj 52 (jc p.gd (l.set k (3, op, c, false))) := by
      rw [← jc_set p.gd l k _ (by rw [HJ16.out.1]; exact HJ16.out.2), show 1 + 4 * k = 1 + k * 4 by omega]
      exact hg7
    have hn7 : Near [gj] w6 w7 := (Near.refl _ _).drew.trans (Near.upd hu7 (List.mem_singleton_self _))
    have hgj := HX.out.1
    have hd7 : JD w7 p L := H6.out.1.jd.near' hn7 (by
      unfold Pl.all at hgj
      simp at hgj ⊢
      exact ⟨fun e => hgj.1 e.symm, fun e => hgj.2.1 e.symm, fun e => hgj.2.2 e.symm⟩)
    have hn9 : Near [g0] w7 w9 := Near.upd hu9 (List.mem_singleton_self _)
    refine bodyPost_ret (results_row_tmp (by rfl) _ _ g0 _ _ _ (by rfl) h9 Tryd.underlying38 (by rfl) (by rw [msgc_size]; exact sizeMsg)) rfl ?_
    rw [hq.out]
    exact ⟨_, rfl, ⟨[], OwnsC.nil _ _ _ _⟩, (JR.mk hd7 hb7 (by rw [List.length_set]; exact HJ16.out.1)).near' hn9 HG.out.2.1 HG.out.2.2, (H6.out.2.2.1.trans hn7).high hn9 (fun y hy => by rw [List.mem_singleton.1 hy, HG.out.1]; exact Nat.le_refl _)⟩
  have e5' : (F 5 != op) = false := by simpa using h5
  have e3' : (F 3 != c) = true := by simp [h5] at hgood; simpa using hgood
  clear hgood h5
  refine wp_region_tree (Near [] w6) [] (PlanT.takes [0, 1, 2, 3, 4, 6] (PlanT.takes [5] (PlanT.takes [7, 8, 9, 10, 11, 13, 14, 15] (PlanT.takes [12, 16] (PlanT.takes [17, 18] .done))))) (by kernel_rfl) (by kernel_rfl) (hC6) ?_
  refine wpTree_pure _ _ _ (by rfl) (by rfl) ?_
  dsimp only [List.filterMap, List.getElem?_cons_zero, List.getElem?_cons_succ]
  repeat (go_big_quiet_step (fail))
  refine wpQuiet_nil ?_
  refine wpTree_takeL _ _ _ (by rfl) (by rfl) (hC6) ?_
  dsimp only [List.filterMap, List.getElem?_cons_zero, List.getElem?_cons_succ]
  (refine wpQuiet_want' (by rfl) ?_; refine wpQuiet_load_cell (fun w' hw' => Near.cell_ hw' (by simp) c5') (by rfl) _ _ (by rfl) (by rfl) _ Tryd.underlying3 (by rfl) ?_; simp only [Act.put, List.setIfInBounds_toArray, List.set_cons_zero, List.set_cons_succ])
  refine wpQuiet_nil ?_
  refine wpTree_pure _ _ _ (by rfl) (by rfl) ?_
  dsimp only [List.filterMap, List.getElem?_cons_zero, List.getElem?_cons_succ]
  repeat (go_big_quiet_step (fail))
  refine wpQuiet_nil ?_
  refine wpTree_takeL _ _ _ (by rfl) (by rfl) (hC6) ?_
  dsimp only [List.filterMap, List.getElem?_cons_zero, List.getElem?_cons_succ]
  (refine wpQuiet_want' (by rfl) ?_; refine wpQuiet_load_cell (fun w' hw' => Near.cell_ hw' (by simp) c3') (by rfl) _ _ (by rfl) (by rfl) _ Tryd.underlying3 (by rfl) ?_; simp only [Act.put, List.setIfInBounds_toArray, List.set_cons_zero, List.set_cons_succ])
  (refine wpQuiet_want' (by rfl) ?_; refine wpQuiet_load_cell (fun w' hw' => Near.cell_ hw' (by simp) jv) (by rfl) _ _ (by rfl) (by rfl) _ Tryd.underlying3 (by rfl) ?_; simp only [Act.put, List.setIfInBounds_toArray, List.set_cons_zero, List.set_cons_succ])
  refine wpQuiet_nil ?_
  refine wpTree_pure _ _ _ (by rfl) (by rfl) ?_
  dsimp only [List.filterMap, List.getElem?_cons_zero, List.getElem?_cons_succ]
  repeat (go_big_quiet_step (fail))
  refine wpQuiet_nil ?_
  refine wpTree_done ?_
  clear hC6 c5' c3'
  have hz7 := H6.out.2.1.drew
  go_wp2_with (first
    | ((with_reducible show wpList _ _ _ ((⟨none, _, _, _, _, _⟩ : Oper) :: _) _ _); refine wpList_store_in (o := ⟨none, _, _, _, _, _⟩) hJb (by rfl) _ _ _ (by rfl) (1 + k * 4) (by rfl) #[.int .i64 3, .int .i64 op, .int .i64 c, .bool false] (by rfl) sizeSt (by rfl) (by rw [jc_size, HJ16.out.1]; have := HJ16.out.2; omega) (st_one _ _ _ _) ?_; intro w7 hg7 hu7; have hz8 := hz7.upd hu7 HG.out.2.1; clear hz7 jv)
    | ((with_reducible show wpList _ _ _ ((⟨none, _, _, _, _, _⟩ : Oper) :: _) _ _); refine wpList_store_blk (o := ⟨none, _, _, _, _, _⟩) (hz8) (by rfl) _ _ _ (by rfl) (by rfl) (msgc zeroHd (.slice none 0 0)) (by rfl) (sizeMsg) (msgc_size _ _) (msgc_size _ _) (msgc_one _ _ rfl) ?_; intro w9 h9 hu9)
    | fail)
  have hb7 : Blk w7 gj 52 (jc p.gd (l.set k (3, op, c, false))) := by
    rw [← jc_set p.gd l k _ (by rw [HJ16.out.1]; exact HJ16.out.2), show 1 + 4 * k = 1 + k * 4 by omega]
    exact hg7
  have hn7 : Near [gj] w6 w7 := (Near.refl _ _).drew.trans (Near.upd hu7 (List.mem_singleton_self _))
  have hgj := HX.out.1
  have hd7 : JD w7 p L := H6.out.1.jd.near' hn7 (by
    unfold Pl.all at hgj
    simp at hgj ⊢
    exact ⟨fun e => hgj.1 e.symm, fun e => hgj.2.1 e.symm, fun e => hgj.2.2 e.symm⟩)
  have hn9 : Near [g0] w7 w9 := Near.upd hu9 (List.mem_singleton_self _)
  refine bodyPost_ret (results_row_tmp (by rfl) _ _ g0 _ _ _ (by rfl) h9 Tryd.underlying38 (by rfl) (by rw [msgc_size]; exact sizeMsg)) rfl ?_
  rw [hq.out]
  exact ⟨_, rfl, ⟨[], OwnsC.nil _ _ _ _⟩, (JR.mk hd7 hb7 (by rw [List.length_set]; exact HJ16.out.1)).near' hn9 HG.out.2.1 HG.out.2.2, (H6.out.2.2.1.trans hn7).high hn9 (fun y hy => by rw [List.mem_singleton.1 hy, HG.out.1]; exact Nat.le_refl _)⟩
end
end Go.Proofs.YtfoegmjpfkmggaaDoor

/- []byte(s) of a string that is no constant. Plain facts over any program. No condition. -/
namespace Go
open Go.RowKit
theorem bytesWorld_below (w : World) (e : TypeId) (s : ByteArray) : Below w.heap.size w (Lib.bytesWorld w e s) :=
  ⟨by simp [Lib.bytesWorld, World.freeze, World.alloc, World.drew, -World.alloc_eq, -World.drew_eq], by simp [Lib.bytesWorld, World.freeze, World.alloc, World.drew, -World.alloc_eq, -World.drew_eq], by simp [Lib.bytesWorld, World.freeze, World.alloc, World.drew, -World.alloc_eq, -World.drew_eq], by rw [Lib.bytesWorld_size]; omega, fun k hk => Lib.bytesWorld_at_old w e s k hk⟩
theorem bytesWorld_bytes (w : World) (e : TypeId) (l : List UInt8) : Bytes (Lib.bytesWorld w e (str l)) (some ⟨w.heap.size, 0, none⟩) l := fun _ => ⟨w.heap.size, 0, rfl, fun j v hv => by
  rw [List.getElem?_map] at hv
  have hj : j < l.length := by
    rcases Nat.lt_or_ge j l.length with h | h
    · exact h
    · rw [List.getElem?_eq_none h] at hv; cases hv
  rw [Nat.zero_add, Lib.bytesWorld_cell w e (str l) j (by simpa [str, ByteArray.size] using hj)]
  rw [List.getElem?_eq_getElem hj] at hv
  rw [← hv]
  simp [str, List.getD, List.getElem?_eq_getElem hj, u8v, iu8]⟩
end Go

/- What the statements on journals share: a fresh ring, a prepare, is an op answered by just this, are all slots empty. Conditions: the journal is known. (Printed by gen/jq.py.) -/
namespace Go
open Go.RowKit
theorem wpList_str_bytes' {P : Program} {w : World} {Q : Exit → Act → World → Prop} {ops : Array Oper} {rest : List Oper} {o : Oper} {a : Act} (hgd : o.guard = none) (src dst e : TypeId) (x : Operand) (ho : o.op = .convert src dst x)
    (hs : P.underlying src = some .string) (hd : P.underlying dst = some (.slice e)) (he : P.underlying e = some (.int .u8)) (l : List UInt8) (hl : l.length ≤ 140737488351232) (hx : a.eval x = .string (str l))
    (h : ∀ w' c, Bytes w' (some ⟨w.heap.size, 0, none⟩) l → Below w.heap.size w w' → (l.length ≤ c ∧ w'.heap.size = w.heap.size + 1) → c ≤ 9223372036854775807 → wpList P ops Q rest (a.put o.dst (.slice (some ⟨w.heap.size, 0, none⟩) l.length c)) w') : wpList P ops Q (o :: rest) a w := by
  refine wpList_plain hgd fun K hK => ?_
  unfold Oper.wp execOp
  have hr := Lib.run_convert_string_bytes (P := P) w src dst e (str l) hs hd he
  simp only [ho, hx, Sem.run_bind, hr, Result.andThen_ok, Sem.run_pure]
  have hsz : (str l).size = l.length := by simp [str, ByteArray.size]
  have h1 := grownCap_ge w (str l).size 0 e
  have h2 := grownCap_le_maxLen w (str l).size 0 e (by rw [hsz]; unfold maxLen; omega)
  rw [hsz] at h1 h2 ⊢
  unfold maxLen at h2
  exact hK _ _ (h _ _ (bytesWorld_bytes w e l) (bytesWorld_below w e (str l)) ⟨h1, Lib.bytesWorld_size w e (str l)⟩ (by omega))
end Go
namespace Go.Proofs.YtfoegmjpfkmggaaDoor
open Go.RowKit
/-- The prepare of an op and a view, with a body of n bytes. -/
def jm (op vw : Int) (n : Nat) : HdF := setF (fP op vw) 2 n
theorem jm_cells (op vw : Int) (n : Nat) (v : Value) : msgc (jm op vw n) v = #[.int .i64 2, .int .i64 0, .int .i64 n, .int .i64 vw, .int .i64 0, .int .i64 op, .int .i64 0, .int .i64 0, .int .i64 0, .int .u64 0, .int .u64 0, .int .i64 0, .int .i64 0, .int .u64 0, .int .i64 0, .int .i64 0, v] := by rfl
set_option maxRecDepth 100000 in
set_option maxHeartbeats 1000000 in
theorem jprep_any (op vw : Int) (bs : List UInt8) (hb : bs.length ≤ 1000000) (w : World) :
    Calls Tryd.prog 9 #[.int .i64 op, .int .i64 vw, .string (str bs)] w fun e w' => ∃ g c, e = .returned (.agg (msgc (jm op vw bs.length) (.slice (some ⟨g, 0, none⟩) bs.length c))) ∧
      (w.heap.size ≤ g ∧ g < w'.heap.size) ∧ Bytes w' (some ⟨g, 0, none⟩) bs ∧ (bs.length ≤ c ∧ c ≤ 9223372036854775807) ∧ Below w.heap.size w w' := by
  have hB := (Below.refl w.heap.size w).alloc (Nat.le_refl _) (.cells #[.int .i64 0, .int .i64 0, .int .i64 0, .int .i64 0, .int .i64 0, .int .i64 0, .int .i64 0, .int .i64 0, .int .i64 0, .int .u64 0, .int .u64 0, .int .i64 0, .int .i64 0, .int .u64 0, .int .i64 0, .int .i64 0, .slice none 0 0] 38)
  have hg0 := (Blk.new w 38 #[.int .i64 0, .int .i64 0, .int .i64 0, .int .i64 0, .int .i64 0, .int .i64 0, .int .i64 0, .int .i64 0, .int .i64 0, .int .u64 0, .int .u64 0, .int .i64 0, .int .i64 0, .int .u64 0, .int .i64 0, .int .i64 0, .slice none 0 0]).sub zeroMsg_cells.symm
  have hsz : (str bs).size = bs.length := by simp [str, ByteArray.size]
  have H0 := Lib.hid (And.intro hB hb)
  clear hB hb
  go_enter Tryd.func9, Tryd.ntmps9
  go_wp2_with (first
    | ((with_reducible show wpList _ _ _ ((⟨some 13, _, _, _, _, _⟩ : Oper) :: _) _ _); refine wpList_str_bytes' (o := ⟨some 13, _, _, _, _, _⟩) (by rfl) _ _ 5 _ (by rfl) Tryd.underlying9 Tryd.underlying36 Tryd.underlying5 bs (by have := H0.out.2; omega) (by rfl) ?_; intro w3 c3 hb3 hB3 hc3 hd3; have hg3 := hg0.below hB3 (by simp); have H3 := Lib.hid (And.intro hb3 (And.intro hc3 (And.intro hd3 hB3))); clear hb3 hB3 hc3 hd3 hg0; (try rw [hsz]); clear hsz)
    | (rw [← jm_cells]; ((with_reducible show wpList _ _ _ ((⟨none, _, _, _, _, _⟩ : Oper) :: _) _ _); refine wpList_store_blk (o := ⟨none, _, _, _, _, _⟩) (hg3) (by rfl) _ _ _ (by rfl) (by rfl) (msgc (jm op vw bs.length) (.slice (some ⟨w.heap.size + 1, 0, none⟩) bs.length c3)) (by rfl) (sizeMsg) (by rfl) (msgc_size _ _) (msgc_one _ _ rfl) ?_; intro w9 h9 hu9))
    | fail)
  refine bodyPost_ret (results_row1 (by rfl) _ _ w.heap.size _ _ _ (by rfl) h9 Tryd.underlying38 (by rfl) (by rw [msgc_size]; exact sizeMsg)) rfl ?_
  have hz : (w.alloc (.cells #[.int .i64 0, .int .i64 0, .int .i64 0, .int .i64 0, .int .i64 0, .int .i64 0, .int .i64 0, .int .i64 0, .int .i64 0, .int .u64 0, .int .u64 0, .int .i64 0, .int .i64 0, .int .u64 0, .int .i64 0, .int .i64 0, .slice none 0 0] 38)).heap.size = w.heap.size + 1 := by simp
  have hb3 := H3.out.1
  have hB3 := H3.out.2.2.2
  rw [hz] at hb3
  have hz9 := hu9.size
  have hz3 := H3.out.2.1.2
  exact ⟨w.heap.size + 1, c3, rfl, ⟨Nat.le_succ _, by omega⟩, Bytes.upd hb3 hu9 (fun ad e => by cases e; show w.heap.size + 1 ≠ w.heap.size; omega), ⟨H3.out.2.1.1, H3.out.2.2.1⟩, (H0.out.1.trans (hB3.mono (by simp))).upd hu9 (Nat.le_refl _)⟩
/-- The ring of a disk that is new. -/
def jL0 (L : List UInt8) : List UInt8 := jfmt L (List.replicate 20480 0) (jheads 16)
theorem jL0_slots {L : List UInt8} (h : 26624 ≤ L.length) : jopd (jL0 L) 16 = List.replicate 16 (4, 0, 0, false) := jopd_fmt L h
theorem jL0_length {L : List UInt8} (h : 26624 ≤ L.length) : (jL0 L).length = L.length := jfmt_length h (List.length_replicate ..) (jheads_length 16)
set_option maxRecDepth 100000 in
set_option maxHeartbeats 2000000 in
theorem jfresh_any (w : World) : Calls Tryd.prog 5 #[] w fun e w' => ∃ (p : Pl) (gj : Nat), e = .returned (.tuple #[.pointer (some ⟨p.gd, 0, none⟩), .pointer (some ⟨gj, 0, none⟩), .bool true]) ∧
    JR w' gj p (jL0 (Dsk.new 104).L) (List.replicate 16 (4, 0, 0, false)) ∧ (∀ x ∈ gj :: p.all none, w.heap.size ≤ x) ∧ Below w.heap.size w w' := by
  go_enter Tryd.func5, Tryd.ntmps5
  go_wp2_with fail
  refine (new_all 104 (by omega) w).mono ?_
  rintro e w1 ⟨p, rfl, hd, hge, hB⟩
  have hJ := JD.new (by omega) hd
  have hX : ∀ x ∈ p.all none, w.heap.size ≤ x := by
    intro x hx
    unfold Pl.all at hx
    simp only [List.cons_append, List.nil_append, List.mem_cons, Option.toList_none, List.not_mem_nil, or_false] at hx
    omega
  have H1 := Lib.hid (And.intro hJ (And.intro hX hB))
  clear hd hge hJ hX hB
  go_wp2_with fail
  refine (jformat_any H1.out.1).mono ?_
  rintro e w2 ⟨rfl, ⟨Z, rfl, hd2⟩, hn2⟩
  have hB2 := H1.out.2.2.trans (hn2.toBelow H1.out.2.1 H1.out.2.2.size)
  have H2 := Lib.hid (And.intro hd2 hB2)
  clear hd2 hn2 hB2
  go_wp2_with fail
  refine (jopen_any H2.out.1).mono ?_
  rintro e w3 ⟨gj, rfl, hgj, hJ3, hB3⟩
  have hl : 26624 ≤ (Dsk.new 104).L.length := by show 26624 ≤ (List.replicate (104 * 256) (0 : UInt8)).length; rw [List.length_replicate]; omega
  rw [show jopd (jfmt (Dsk.new 104).L (List.replicate 20480 0) (jheads 16)) 16 = List.replicate 16 (4, 0, 0, false) from jL0_slots hl] at hJ3
  have H3 := Lib.hid (And.intro hJ3 (And.intro (H2.out.2.trans (hB3.mono H2.out.2.size)) (show w.heap.size ≤ gj from Nat.le_trans H2.out.2.size hgj)))
  clear hJ3 hB3 hgj hl
  go_wp2
  go_ret3
  refine ⟨p, gj, rfl, H3.out.1, fun x hx => ?_, H3.out.2.1⟩
  rcases List.mem_cons.1 hx with rfl | hx
  · exact H3.out.2.2
  · exact H1.out.2.1 x hx
theorem Bytes.updHi {w0 w w' : World} {g : Nat} {A : Option Addr} {l : List UInt8} (h0 : Bytes w0 A l) (hg : w0.heap.size ≤ g) (h : Bytes w A l) (u : Upd g w w') : Bytes w' A l := by
  rcases Nat.eq_zero_or_pos l.length with e | e
  · obtain rfl := List.eq_nil_of_length_eq_zero e; exact Reads.nil _ _
  · obtain ⟨b, off, rfl, hb, _⟩ := Bytes.at_ h0 e
    exact Bytes.upd h u (fun ad e => by cases e; show b ≠ g; omega)
section
variable {w w' : World} {gj : Nat} {p : Pl} {L : List UInt8} {l : List SlT}
set_option maxRecDepth 100000 in
set_option maxHeartbeats 2000000 in
theorem jgets_any (op : Int) (g : HdF) (B : Option Addr) (m d : Nat) (bs : List UInt8) (co : Int) (hm : m = bs.length) (hby : Bytes w B bs) (h : JR w gj p L l) (hB : ∀ ad, B = some ad → ad.block ≠ gj) :
    Calls Tryd.prog 12 #[.pointer (some ⟨gj, 0, none⟩), .int .i64 op, .agg (msgc g (.slice B m d)), .int .i64 co] w fun e w' =>
      e = .returned (.bool (((jget L l op).1.1 == co) && (Hd.beq (jget L l op).1.2.1 g && decide ((jget L l op).1.2.2 = bs)))) ∧ JR w' gj p L (jget L l op).2 ∧ Near [gj] w w' := by
  have hBw := (Below.refl w.heap.size w).alloc (Nat.le_refl _) (.cells (msgc g (.slice B m d)) 38)
  have hg1 := Blk.new w 38 (msgc g (.slice B m d))
  have h1 := h.below hBw
  have hby1 := Bytes.below hby hBw
  have hgl := h.lt
  have H0 := Lib.hid (And.intro hBw (And.intro hm (And.intro hB hgl)))
  have hg0 : w.heap.size ∉ [gj] := by simp; omega
  clear h hBw hby hm hB hgl
  go_enter Tryd.func12, Tryd.ntmps12
  go_wp2_with fail
  generalize w.alloc (.cells (msgc g (.slice B m d)) 38) = w1 at hg1 h1 hby1 H0 ⊢
  refine (jget_any op h1).mono ?_
  rintro e w2 ⟨v, rfl, ⟨sp, ho⟩, hJ, hn⟩
  obtain ⟨A, c, rfl, hc, hcc, hbv⟩ := OwnB.open_ ho
  have hg2 := hg1.near hn hg0
  have hby2 := Bytes.near hby1 hn (fun ad e => by have := H0.out.2.2.1 ad e; simpa using this)
  have hB2 := (Below.refl w2.heap.size w2).alloc (Nat.le_refl _) (.cells #[.int .i64 0, .int .i64 0, .int .i64 0, .int .i64 0, .int .i64 0, .int .i64 0, .int .i64 0, .int .i64 0, .int .i64 0, .int .u64 0, .int .u64 0, .int .i64 0, .int .i64 0, .int .u64 0, .int .i64 0, .int .i64 0, .slice none 0 0] 38)
  have hg3 := hg2.alloc (.cells #[.int .i64 0, .int .i64 0, .int .i64 0, .int .i64 0, .int .i64 0, .int .i64 0, .int .i64 0, .int .i64 0, .int .i64 0, .int .u64 0, .int .u64 0, .int .i64 0, .int .i64 0, .int .u64 0, .int .i64 0, .int .i64 0, .slice none 0 0] 38)
  have hs1 := H0.out.1.size
  have hl2 := hg2.lt
  have H2 := Lib.hid (And.intro (hJ.below hB2) (And.intro (Bytes.below hby2 hB2) (And.intro (Bytes.below hbv hB2) (And.intro hg3 (And.intro ((Near.below (X := [gj]) H0.out.1).trans (hn.trans (Near.below (X := [gj]) hB2))) hl2)))))
  have ho2 := OwnsC.lt ho
  have HO := Lib.hid ho2
  have HB := Lib.hid (show gj < w2.heap.size ∧ Bytes w2 B bs ∧ (∀ x ∈ p.all none, x < w2.heap.size) from ⟨hJ.lt, hby2, hJ.jd.lt⟩)
  clear hJ hn ho hc hcc hbv hg2 hby2 hB2 hg3 hg1 h1 hby1 hg0 hs1 hl2 ho2
  obtain ⟨G, hG⟩ : ∃ G, G = jget L l op := ⟨_, rfl⟩
  rw [← hG] at H2 HO ⊢
  obtain ⟨⟨gc, F, bd⟩, l2⟩ := G
  have HG := Lib.hid hG
  clear hG
  dsimp only at H2 HO ⊢
  by_cases hc : gc = co
  · subst hc
    go_wp2_with (first
      | ((with_reducible show wpList _ _ _ ((⟨none, _, _, _, _, _⟩ : Oper) :: _) _ _); refine wpList_store_blk (o := ⟨none, _, _, _, _, _⟩) ((Blk.new w2 38 #[.int .i64 0, .int .i64 0, .int .i64 0, .int .i64 0, .int .i64 0, .int .i64 0, .int .i64 0, .int .i64 0, .int .i64 0, .int .u64 0, .int .u64 0, .int .i64 0, .int .i64 0, .int .u64 0, .int .i64 0, .int .i64 0, .slice none 0 0])) (by rfl) _ _ _ (by rfl) (by rfl) (msgc F (.slice A bd.length c)) (by rfl) (sizeMsg) (by rfl) (msgc_size _ _) (msgc_one _ _ rfl) ?_; intro w3 h3 hu3; have hg4 := H2.out.2.2.2.1.upd hu3 (by have := H2.out.2.2.2.2.2; omega))
      | ((with_reducible show wpList _ _ _ ((⟨some 21, _, _, _, _, _⟩ : Oper) :: _) _ _); refine wpList_want (by rfl) ?_; refine wpList_load_blk (o := ⟨some 21, _, _, _, _, _⟩) (h3) (by rfl) _ _ (by rfl) (by rfl) _ Tryd.underlying38 (by rfl) (sizeMsg) (msgc_size _ _) ?_)
      | ((with_reducible show wpList _ _ _ ((⟨some 22, _, _, _, _, _⟩ : Oper) :: _) _ _); refine wpList_want (by rfl) ?_; refine wpList_load_blk (o := ⟨some 22, _, _, _, _, _⟩) (hg4) (by rfl) _ _ (by rfl) (by rfl) _ Tryd.underlying38 (by rfl) (sizeMsg) (msgc_size _ _) ?_)
      | fail)
    have hu : Near [w2.heap.size] _ w3 := Near.upd hu3 (List.mem_singleton_self _)
    have hgl := H2.out.1.lt
    have hns : Near [gj] w w3 := H2.out.2.2.2.2.1.high hu (fun y hy => by rw [List.mem_singleton.1 hy]; have := H2.out.2.2.2.2.2; omega)
    have h1 := H2.out.2.1
    have h2 := H2.out.2.2.1
    have hB3 := Bytes.updHi HB.out.2.1 (Nat.le_refl _) h1 hu3
    have hA3 := Bytes.near h2 hu (fun ad e => by have := (HO.out ad.block (by rw [e]; rfl)).2; simp; omega)
    have hJ3 := H2.out.1.near' hu (by have := HB.out.1; omega) (fun hx => by have := HB.out.2.2 _ hx; omega)
    have H3 := Lib.hid (And.intro hJ3 hns)
    clear hu hgl hns h1 h2 hJ3 hu3 h3 hg4
    refine (sameMessage_any F g A B bd.length m c d bd bs rfl H0.out.2.1 w3 hA3 hB3).mono ?_
    rintro e w4 ⟨rfl, hb4⟩
    have HE := Lib.hid (And.intro (H3.out.1.below hb4) (H3.out.2.trans (Near.below hb4)))
    clear hb4 hA3 hB3
    go_wp2
    go_ret
    rw [← HG.out]
    exact ⟨by simp, HE.out⟩
  · have hc' : (gc == co) = false := by simpa using hc
    clear hc
    go_wp2_with (first
      | ((with_reducible show wpList _ _ _ ((⟨none, _, _, _, _, _⟩ : Oper) :: _) _ _); refine wpList_store_blk (o := ⟨none, _, _, _, _, _⟩) ((Blk.new w2 38 #[.int .i64 0, .int .i64 0, .int .i64 0, .int .i64 0, .int .i64 0, .int .i64 0, .int .i64 0, .int .i64 0, .int .i64 0, .int .u64 0, .int .u64 0, .int .i64 0, .int .i64 0, .int .u64 0, .int .i64 0, .int .i64 0, .slice none 0 0])) (by rfl) _ _ _ (by rfl) (by rfl) (msgc F (.slice A bd.length c)) (by rfl) (sizeMsg) (by rfl) (msgc_size _ _) (msgc_one _ _ rfl) ?_; intro w3 h3 hu3)
      | fail)
    have hu : Near [w2.heap.size] _ w3 := Near.upd hu3 (List.mem_singleton_self _)
    have hns : Near [gj] w w3 := H2.out.2.2.2.2.1.high hu (fun y hy => by rw [List.mem_singleton.1 hy]; have := H2.out.2.2.2.2.2; omega)
    have hJ3 := H2.out.1.near' hu (by have := HB.out.1; omega) (fun hx => by have := HB.out.2.2 _ hx; omega)
    go_ret
    rw [← HG.out]
    exact ⟨by simp [hc'], hJ3, hns⟩
end
end Go.Proofs.YtfoegmjpfkmggaaDoor

/- Are all slots empty: of a journal whose slots are. Condition: the journal is known. -/
namespace Go.Proofs.YtfoegmjpfkmggaaDoor
open Go.RowKit
set_option maxHeartbeats 1000000 in
theorem exec_neq_st {o : Oper} {ac : Act} (w : World) (x y : Operand) (r : TypeId) (ho : o.op = .binOp .neq 47 x y r) (f g : SSt) (hx : ac.eval x = stv f) (hy : ac.eval y = stv g) :
    (execOp ac.eval o).run Tryd.prog w = .ok (.value (.bool (!decide (f = g)))) w := by
  have e1 := eqSt w f g
  unfold stv at hx hy e1
  unfold execOp
  simp only [ho, hx, hy, Sem.run_bind, run_eqGuard_agg w .neq 47 x y _ _ noselSt, Result.andThen_ok, run_neq_struct, e1, Sem.run_pure]
section
variable {w w' : World} {gj : Nat} {p : Pl} {L : List UInt8}
def JEmRel (w : World) (v : Value) (wr : World) : Prop := ∃ i : Nat, i ≤ 16 ∧ v = .int .i64 (i : Int) ∧ wr = w
set_option maxRecDepth 100000 in
set_option maxHeartbeats 1000000 in
theorem jempty_true (h : JR w gj p L (List.replicate 16 (4, 0, 0, false))) : Calls Tryd.prog 15 #[.pointer (some ⟨gj, 0, none⟩)] w fun e w' => e = .returned (.bool true) ∧ Below w.heap.size w w' := by
  have hS := jslots_any h
  clear h
  go_enter Tryd.func15, Tryd.ntmps15
  go_wp2_with fail
  refine hS.mono ?_
  rintro e w2 ⟨v, rfl, ⟨sp, ho⟩, hB⟩
  obtain ⟨A, c, rfl, hc, hcm, hr, -⟩ := OwnsC.reads ho
  obtain ⟨b, off, rfl, hcell⟩ := hr (by unfold slcs slc; simp)
  have hrg : ∀ i, i < 16 → w2.rangeAt b (off + i * 4) (slc (4, 0, 0, false)) := fun i hi j u hu => by
    have hj : j < 4 := by have := (List.getElem?_eq_some_iff.1 hu).1; simpa [slc] using this
    have hl : i < (List.replicate 16 ((4, 0, 0, false) : SlT)).length := by rw [List.length_replicate]; exact hi
    have := hcell (i * 4 + j) u (by rw [Nat.mul_comm, slcs_at _ i j hj hl, List.getElem_replicate]; exact hu)
    rw [← Nat.add_assoc] at this
    exact this
  have H2 := Lib.hid (And.intro hB hrg)
  clear hS ho hc hcm hr hcell hB hrg
  go_wp2_with fail
  go_loopw [4] (fun v wr => JEmRel w2 v wr) (fun v _ => 16 - (intOf v).toNat)
  case atStart => exact ⟨0, Nat.zero_le _, rfl, rfl⟩
  case round =>
    obtain ⟨i, hi, rfl, rfl⟩ := hrel
    by_cases hlt : i < 16
    · have hrg := H2.out.2 i hlt
      go_wp2_with (first
        | ((with_reducible show wpList _ _ _ ((⟨some 16, _, _, _, _, _⟩ : Oper) :: _) _ _); refine wpList_load_mid (o := ⟨some 16, _, _, _, _, _⟩) hrg (by rfl) _ _ (by rfl) (by rfl) _ Tryd.underlying47 (by rfl) sizeSt (by rfl) ?_)
        | ((with_reducible show wpList _ _ _ ((⟨some 18, _, _, _, _, _⟩ : Oper) :: _) _ _); refine wpList_run (o := ⟨some 18, _, _, _, _, _⟩) _ (by rfl) (exec_neq_st _ _ _ _ (by rfl) (4, 0, 0, false) (4, 0, 0, false) (by rfl) (by rfl)) ?_)
        | fail)
      exact ⟨⟨i + 1, by omega, by go_num, rfl⟩, by simp [intOf]; omega⟩
    · obtain rfl : i = 16 := by omega
      clear hlt hi
      go_wp2
      go_ret
      exact ⟨rfl, H2.out.1⟩
end
end Go.Proofs.YtfoegmjpfkmggaaDoor

/- Put, whole. Conditions: the journal is known; the message's bytes can be read. -/
namespace Go.Proofs.YtfoegmjpfkmggaaDoor
open Go.RowKit
section
variable {w : World} {gj : Nat} {p : Pl} {L : List UInt8} {l : List SlT}
set_option maxRecDepth 100000 in
set_option maxHeartbeats 2000000 in
theorem jput_err (f : HdF) (A : Option Addr) (n c : Nat) (b : List UInt8) (co : Int) (hco : co ≠ 0) (hsb : Slot.bytes f b = (co, [])) (hn : n = b.length) (hby : Bytes w A b) (hc : n ≤ c ∧ c ≤ 9223372036854775807) (hin : Hd.in_ f) (h : JR w gj p L l) :
    Calls Tryd.prog 8 #[.pointer (some ⟨gj, 0, none⟩), .agg (msgc f (.slice A n c))] w fun e w' => e = .returned (.int .i64 co) ∧ JR w' gj p L l ∧ Near (gj :: p.all none) w w' := by
  have hB := ((Below.refl w.heap.size w).alloc (Nat.le_refl _) (.cells #[.pointer (some ⟨gj, 0, none⟩)] 23)).alloc (by simp) (.cells (msgc f (.slice A n c)) 38)
  have hm := Blk.new' (w.alloc (.cells #[.pointer (some ⟨gj, 0, none⟩)] 23)) 38 (msgc f (.slice A n c)) (n := w.heap.size + 1) (by simp)
  have HB := Lib.hid hB
  have h1 := h.below hB
  have hby1 := Bytes.below hby hB
  have HN := Lib.hid (And.intro hn (And.intro hc hin))
  have H0 := Lib.hid h
  clear h hB hby hn hc hin
  go_enter Tryd.func8, Tryd.ntmps8
  go_wp2_with fail
  refine (jnone_any h1).mono ?_
  rintro e w1 ⟨rfl, hw⟩
  obtain rfl := hw.symm
  clear hw
  go_wp2_with (first
    | ((with_reducible show wpList _ _ _ ((⟨some 11, _, _, _, _, _⟩ : Oper) :: _) _ _); refine wpList_load_blk (o := ⟨some 11, _, _, _, _, _⟩) (hm) (by rfl) _ _ (by rfl) (by rfl) _ Tryd.underlying38 (by rfl) (sizeMsg) (msgc_size _ _) ?_)
    | fail)
  refine (sbytes_any f A n c b _ HN.out.1 hby1 HN.out.2.1 HN.out.2.2).mono ?_
  rintro e w2 ⟨E, rfl, hE, hEg, hEn, hEl, hbx⟩
  have HQ := Lib.hid (show Below w.heap.size w (w2.alloc (.cells #[E.val] 36)) from (HB.out.trans (hbx.mono HB.out.size)).alloc (by have := hbx.size; have := HB.out.size; omega) _)
  clear hE hEg hEn hEl hbx h1 hby1 hm HN HB
  rw [hsb]
  unfold Ent.val at HQ ⊢
  have hq : (co != 0) = true := by simp [hco]
  go_wp2
  go_ret
  exact ⟨rfl, H0.out.below HQ.out, Near.below HQ.out⟩
set_option maxRecDepth 100000 in
set_option maxHeartbeats 2000000 in
theorem jput_ok (f : HdF) (A : Option Addr) (n c : Nat) (b X : List UInt8) (hX : X.length = 1280) (hsb : Slot.bytes f b = (0, X)) (hn : n = b.length) (hby : Bytes w A b) (hc : n ≤ c ∧ c ≤ 9223372036854775807) (hin : Hd.in_ f) (h : JR w gj p L l) :
    Calls Tryd.prog 8 #[.pointer (some ⟨gj, 0, none⟩), .agg (msgc f (.slice A n c))] w fun e w' => e = .returned (.int .i64 0) ∧ JR w' gj p (wr (wr L (256 * (24 + 5 * jslot f)) X) (256 * (8 + jslot f)) (X.take 256)) (l.set (jslot f) (1, f 5, f 3, false)) ∧ Near (gj :: p.all none) w w' := by
  have hB := ((Below.refl w.heap.size w).alloc (Nat.le_refl _) (.cells #[.pointer (some ⟨gj, 0, none⟩)] 23)).alloc (by simp) (.cells (msgc f (.slice A n c)) 38)
  have hm := Blk.new' (w.alloc (.cells #[.pointer (some ⟨gj, 0, none⟩)] 23)) 38 (msgc f (.slice A n c)) (n := w.heap.size + 1) (by simp)
  have hj := (Blk.new w 23 #[.pointer (some ⟨gj, 0, none⟩)]).alloc (.cells (msgc f (.slice A n c)) 38)
  have HB := Lib.hid hB
  have h1 := h.below hB
  have hby1 := Bytes.below hby hB
  have HN := Lib.hid (And.intro hn (And.intro hc hin))
  have H0 := Lib.hid h
  have hz : ((w.alloc (.cells #[.pointer (some ⟨gj, 0, none⟩)] 23)).alloc (.cells (msgc f (.slice A n c)) 38)).heap.size = w.heap.size + 2 := by simp
  have HZ := Lib.hid hz
  clear h hB hby hn hc hin hz
  go_enter Tryd.func8, Tryd.ntmps8
  go_wp2_with fail
  generalize (w.alloc (.cells #[.pointer (some ⟨gj, 0, none⟩)] 23)).alloc (.cells (msgc f (.slice A n c)) 38) = w1 at hm hj HB h1 hby1 HZ ⊢
  refine (jnone_any h1).mono ?_
  rintro e w1' ⟨rfl, hw⟩
  obtain rfl := hw.symm
  clear hw
  go_wp2_with (first
    | ((with_reducible show wpList _ _ _ ((⟨some 11, _, _, _, _, _⟩ : Oper) :: _) _ _); refine wpList_load_blk (o := ⟨some 11, _, _, _, _, _⟩) (hm) (by rfl) _ _ (by rfl) (by rfl) _ Tryd.underlying38 (by rfl) (sizeMsg) (msgc_size _ _) ?_)
    | fail)
  refine (sbytes_any f A n c b _ HN.out.1 hby1 HN.out.2.1 HN.out.2.2).mono ?_
  rintro e w2 ⟨E, rfl, hE, hEg, hEn, hEl, hbx⟩
  rw [hsb] at hEl ⊢
  obtain ⟨EA, En, El⟩ := E
  dsimp only at hEl hEn
  subst hEl
  obtain ⟨hE1, hE2, ⟨hE3, hE4⟩ | ⟨sg, st, hE3, hE4⟩⟩ := hE
  · exact absurd (congrArg List.length hE4) (by dsimp only; rw [hX]; simp)
  dsimp only at hE3 hE4
  subst hE3
  rw [hX] at hEn
  subst hEn
  have hEg : w1.heap.size ≤ sg := hEg sg rfl
  have h2 := h1.below hbx
  have hj2 := hj.below hbx hj.lt
  have hm2 := hm.below hbx hm.lt
  have hb3 := Blk.new w2 36 #[.slice (some ⟨sg, 0, none⟩) 1280 1280]
  have hm3 := hm2.alloc (.cells #[.slice (some ⟨sg, 0, none⟩) 1280 1280] 36)
  have hj3 := hj2.alloc (.cells #[.slice (some ⟨sg, 0, none⟩) 1280 1280] 36)
  have hx3 := hE4.alloc (.cells #[.slice (some ⟨sg, 0, none⟩) 1280 1280] 36)
  have hB3 := (Below.refl w2.heap.size w2).alloc (Nat.le_refl _) (.cells #[.slice (some ⟨sg, 0, none⟩) 1280 1280] 36)
  have h3 := h2.below hB3
  have hz3 : (w2.alloc (.cells #[.slice (some ⟨sg, 0, none⟩) 1280 1280] 36)).heap.size = w2.heap.size + 1 := by simp
  have hw2 : w.heap.size + 2 ≤ w2.heap.size := by have := HZ.out; have := hbx.size; omega
  have hsg := hE4.lt
  have HB3 := Lib.hid ((HB.out.trans (hbx.mono HB.out.size)).trans (hB3.mono (by omega)))
  have HS := Lib.hid (And.intro hz3 (And.intro hw2 (And.intro hsg (show w.heap.size + 2 ≤ sg by have := HZ.out; omega))))
  have d5 := hm3.at_ 5 (v := .int .i64 (f 5)) (msgc_at f _ 5 (by omega))
  have H3 := Lib.hid (And.intro h3 (And.intro hj3 (And.intro hb3 (And.intro hx3 hm3))))
  clear h2 hj2 hm2 hE1 hE2 hE4 hEg hbx h1 hj hm hby1 h3 hj3 hb3 hx3 hm3 hB3 hz3 hw2 hsg
  unfold Ent.val
  dsimp only
  rw [hX]
  go_wp2_with fail
  generalize hw3 : w2.alloc (.cells #[.slice (some ⟨sg, 0, none⟩) 1280 1280] 36) = w3 at HS HB3 H3 d5 ⊢
  clear hw3
  refine (sof_any (f 5) w3).mono ?_
  rintro e w3' ⟨rfl, hw⟩
  obtain rfl := hw.symm
  clear hw
  obtain ⟨hk16, hke⟩ := jslot_lt f
  rw [hke]
  generalize hkk : jslot f = k at hk16 ⊢
  have HKK := Lib.hid hkk
  clear hke hkk
  obtain ⟨s2, hs2⟩ : ∃ s2, s2 = w2.heap.size := ⟨_, rfl⟩
  rw [← hs2] at HS H3 ⊢
  clear hs2
  have hn4 := Blk.new w3 3 #[.int .i64 (k : Int)]
  have hB4 := (Below.refl w3.heap.size w3).alloc (Nat.le_refl _) (.cells #[.int .i64 (k : Int)] 3)
  have hm4 := H3.out.2.2.2.2.alloc (.cells #[.int .i64 (k : Int)] 3)
  have hj4 := H3.out.2.1.alloc (.cells #[.int .i64 (k : Int)] 3)
  have hb4 := H3.out.2.2.1.alloc (.cells #[.int .i64 (k : Int)] 3)
  have hx4 := H3.out.2.2.2.1.alloc (.cells #[.int .i64 (k : Int)] 3)
  have h4 := H3.out.1.below hB4
  have d0 := hj4.at_ 0 (v := .pointer (some ⟨gj, 0, none⟩)) rfl
  have dg := h4.jb.at_ 0 (jc_0 _ _)
  have H4 := Lib.hid (And.intro h4 (And.intro hj4 (And.intro hb4 (And.intro hx4 (And.intro hm4 (And.intro hn4 hB4))))))
  clear h4 hj4 hb4 hx4 hm4 hn4 hB4 d5 
  go_wp2_with fail
  generalize hw4 : w3.alloc (.cells #[.int .i64 (k : Int)] 3) = w4 at H4 d0 dg ⊢
  clear hw4
  have hP := H0.out.jd.lt
  have hjb : w.heap.size ∉ p.all none := fun hx => by have := hP _ hx; omega
  have hgj := H0.out.off
  have hC0 : Near (p.all none) w4 w4.drew := (Near.refl _ _).drew
  refine wp_region_tree (Near (p.all none) w4) [] (PlanT.takes [0, 6] (PlanT.takes [1, 7] (PlanT.takes [2, 3, 8, 9] (PlanT.takes [4, 10] (PlanT.takes [5, 11] (.opt 12 (.opt 13 (PlanT.takes [14] .done) .no) .no)))))) (by kernel_rfl) (by kernel_rfl) (hC0) ?_
  refine wpTree_pure _ _ _ (by rfl) (by rfl) ?_
  dsimp only [List.filterMap, List.getElem?_cons_zero, List.getElem?_cons_succ]
  repeat (go_big_quiet_step (fail))
  refine wpQuiet_nil ?_
  refine wpTree_takeL _ _ _ (by rfl) (by rfl) (hC0) ?_
  dsimp only [List.filterMap, List.getElem?_cons_zero, List.getElem?_cons_succ]
  (refine wpQuiet_load_cell (fun w' hw' => Near.cell_ hw' hjb d0) (by rfl) _ _ (by rfl) (by rfl) _ Tryd.underlying23 (by rfl) ?_; simp only [Act.put, List.setIfInBounds_toArray, List.set_cons_zero, List.set_cons_succ])
  (refine wpQuiet_load_cell (fun w' hw' => Near.cell_ hw' hjb d0) (by rfl) _ _ (by rfl) (by rfl) _ Tryd.underlying23 (by rfl) ?_; simp only [Act.put, List.setIfInBounds_toArray, List.set_cons_zero, List.set_cons_succ])
  refine wpQuiet_nil ?_
  refine wpTree_pure _ _ _ (by rfl) (by rfl) ?_
  dsimp only [List.filterMap, List.getElem?_cons_zero, List.getElem?_cons_succ]
  repeat (go_big_quiet_step (fail))
  refine wpQuiet_nil ?_
  refine wpTree_takeL _ _ _ (by rfl) (by rfl) (hC0) ?_
  dsimp only [List.filterMap, List.getElem?_cons_zero, List.getElem?_cons_succ]
  (refine wpQuiet_load_cell (fun w' hw' => Near.cell_ hw' hgj dg) (by rfl) _ _ (by rfl) (by rfl) _ Tryd.underlying22 (by rfl) ?_; simp only [Act.put, List.setIfInBounds_toArray, List.set_cons_zero, List.set_cons_succ])
  (refine wpQuiet_load_cell (fun w' hw' => Near.cell_ hw' hgj dg) (by rfl) _ _ (by rfl) (by rfl) _ Tryd.underlying22 (by rfl) ?_; simp only [Act.put, List.setIfInBounds_toArray, List.set_cons_zero, List.set_cons_succ])
  refine wpQuiet_nil ?_
  refine wpTree_pure _ _ _ (by rfl) (by rfl) ?_
  dsimp only [List.filterMap, List.getElem?_cons_zero, List.getElem?_cons_succ]
  repeat (go_big_quiet_step (fail))
  refine wpQuiet_nil ?_
  refine wpTree_one _ rfl ?_
  go_wp2_with fail
  have hf5 := (Blk.new w4 63 #[.func (.func 24) #[] #[.pointer (some ⟨w.heap.size, 0, none⟩), .pointer (some ⟨w3.heap.size, 0, none⟩), .pointer (some ⟨s2, 0, none⟩)], .func (.func 27) #[.pointer (some ⟨p.gd, 0, none⟩)] #[], .func (.func 28) #[] #[.pointer (some ⟨w.heap.size, 0, none⟩), .pointer (some ⟨w3.heap.size, 0, none⟩), .pointer (some ⟨s2, 0, none⟩)], .func (.func 27) #[.pointer (some ⟨p.gd, 0, none⟩)] #[]]).drew
  have hC5 : Near [] w4 (w4.alloc (.cells #[.func (.func 24) #[] #[.pointer (some ⟨w.heap.size, 0, none⟩), .pointer (some ⟨w3.heap.size, 0, none⟩), .pointer (some ⟨s2, 0, none⟩)], .func (.func 27) #[.pointer (some ⟨p.gd, 0, none⟩)] #[], .func (.func 28) #[] #[.pointer (some ⟨w.heap.size, 0, none⟩), .pointer (some ⟨w3.heap.size, 0, none⟩), .pointer (some ⟨s2, 0, none⟩)], .func (.func 27) #[.pointer (some ⟨p.gd, 0, none⟩)] #[]] 63)).drew := (Near.below ((Below.refl w4.heap.size w4).alloc (Nat.le_refl _) _)).drew
  generalize (w4.alloc (.cells #[.func (.func 24) #[] #[.pointer (some ⟨w.heap.size, 0, none⟩), .pointer (some ⟨w3.heap.size, 0, none⟩), .pointer (some ⟨s2, 0, none⟩)], .func (.func 27) #[.pointer (some ⟨p.gd, 0, none⟩)] #[], .func (.func 28) #[] #[.pointer (some ⟨w.heap.size, 0, none⟩), .pointer (some ⟨w3.heap.size, 0, none⟩), .pointer (some ⟨s2, 0, none⟩)], .func (.func 27) #[.pointer (some ⟨p.gd, 0, none⟩)] #[]] 63)).drew = w5 at hf5 hC5 ⊢
  have hC5p : Near (p.all none) w4 w5 := hC5.wider (fun x hx => by cases hx)
  have hs4 := H4.out.2.2.2.2.2.2.size
  have hs5 := hC5.size
  have hX0 : ∀ x : Nat, x ∉ ([] : List Nat) := fun x hx => by cases hx
  have hoff : ∀ x, w.heap.size ≤ x → x ∉ p.all none := fun x hx hm => by have := hP x hm; omega
  have hK : PutK w5 w.heap.size w3.heap.size s2 gj sg p k El := ⟨H4.out.2.1.near hC5 (hX0 _), H4.out.2.2.2.2.2.1.near hC5 (hX0 _), H4.out.2.2.1.near hC5 (hX0 _), hC5.cell_ (hX0 _) dg, Blk.bytes (H4.out.2.2.2.1.near hC5 (hX0 _)), hX, hk16,
    ⟨hjb, hoff _ (by have := HS.out; omega), hoff _ (by have := HS.out; omega), hgj, hoff _ (by have := HS.out; omega)⟩⟩
  have hD5 := H4.out.1.jd.near hC5
  have H5 := Lib.hid (And.intro hK (And.intro hD5 (And.intro hf5 hC5p)))
  have hg4 : w4.heap.size ∉ p.all none := hoff _ (by have := HS.out; omega)
  clear hK hD5 hf5 hs5 hX0
  refine TreeQ.in_ hC5p ?_
  refine wpTree_one _ rfl ?_
  go_wp2_with fail
  refine (jputall H5.out.1 H5.out.2.1 H5.out.2.2.1 hg4).mono ?_
  rintro e w6 ⟨rfl, hd6, hn6⟩
  have hC6 : Near (p.all none) w4 w6 := hC5p.trans hn6
  have H6 := Lib.hid (And.intro hd6 hC6)
  clear hd6 hn6 H5 hC5 hC5p hg4
  go_wp2_with fail
  refine TreeQ.in_ hC6 ?_
  refine wpTree_pure _ _ _ (by rfl) (by rfl) ?_
  dsimp only [List.filterMap, List.getElem?_cons_zero, List.getElem?_cons_succ]
  repeat (go_big_quiet_step (fail))
  refine wpQuiet_nil ?_
  refine wpTree_done ?_
  clear hC6 hC0
  go_wp2_with fail
  have hm6 := (H4.out.2.2.2.2.1.near H6.out.2 (hoff _ (by omega)))
  have hj6 := (H4.out.2.1.near H6.out.2 hjb)
  have hn6 := (H4.out.2.2.2.2.2.1.near H6.out.2 (hoff _ (by have := HS.out; omega)))
  have hJ6 := H4.out.1.jb.near H6.out.2 hgj
  have c0 := hj6.at_ 0 (v := .pointer (some ⟨gj, 0, none⟩)) rfl
  have c1 := hn6.at_ 0 (v := .int .i64 (k : Int)) rfl
  have c5 := hm6.at_ 5 (v := .int .i64 (f 5)) (msgc_at f _ 5 (by omega))
  have c3 := hm6.at_ 3 (v := .int .i64 (f 3)) (msgc_at f _ 3 (by omega))
  have h16 := H4.out.1.n16
  have hC7 : Near [gj] w6 w6.drew := (Near.refl _ _).drew
  have hgl := H0.out.lt
  have n0 : w.heap.size ∉ [gj] := by simp; omega
  have n1 : w3.heap.size ∉ [gj] := by have := HS.out; simp; omega
  have n2 : w.heap.size + 1 ∉ [gj] := by simp; omega
  have HJ := Lib.hid (And.intro hJ6 (And.intro h16 hk16))
  clear hm6 hj6 hn6 d0 dg hJ6 h16
  refine wp_region_tree (Near [gj] w6) [] (PlanT.takes [2, 3, 5, 6] (PlanT.takes [0, 1, 4, 7] (PlanT.takes [8, 9, 10, 11] (.opt 12 .done .no)))) (by kernel_rfl) (by kernel_rfl) (hC7) ?_
  refine wpTree_pure _ _ _ (by rfl) (by rfl) ?_
  dsimp only [List.filterMap, List.getElem?_cons_zero, List.getElem?_cons_succ]
  repeat (go_big_quiet_step (fail))
  refine wpQuiet_nil ?_
  refine wpTree_takeL _ _ _ (by rfl) (by rfl) (hC7) ?_
  dsimp only [List.filterMap, List.getElem?_cons_zero, List.getElem?_cons_succ]
  (refine wpQuiet_load_cell (fun w' hw' => Near.cell_ hw' n0 c0) (by rfl) _ _ (by rfl) (by rfl) _ Tryd.underlying23 (by rfl) ?_; simp only [Act.put, List.setIfInBounds_toArray, List.set_cons_zero, List.set_cons_succ])
  (refine wpQuiet_load_cell (fun w' hw' => Near.cell_ hw' n1 c1) (by rfl) _ _ (by rfl) (by rfl) _ Tryd.underlying3 (by rfl) ?_; simp only [Act.put, List.setIfInBounds_toArray, List.set_cons_zero, List.set_cons_succ])
  (refine wpQuiet_load_cell (fun w' hw' => Near.cell_ hw' n2 c5) (by rfl) _ _ (by rfl) (by rfl) _ Tryd.underlying3 (by rfl) ?_; simp only [Act.put, List.setIfInBounds_toArray, List.set_cons_zero, List.set_cons_succ])
  (refine wpQuiet_load_cell (fun w' hw' => Near.cell_ hw' n2 c3) (by rfl) _ _ (by rfl) (by rfl) _ Tryd.underlying3 (by rfl) ?_; simp only [Act.put, List.setIfInBounds_toArray, List.set_cons_zero, List.set_cons_succ])
  refine wpQuiet_nil ?_
  refine wpTree_pure _ _ _ (by rfl) (by rfl) ?_
  dsimp only [List.filterMap, List.getElem?_cons_zero, List.getElem?_cons_succ]
  repeat (go_big_quiet_step (fail))
  refine wpQuiet_nil ?_
  have hJd := HJ.out.1.drew
  refine wpTree_one _ rfl ?_
  go_wp2_with (first
    | ((with_reducible show wpList _ _ _ ((⟨none, _, _, _, _, _⟩ : Oper) :: _) _ _); refine wpList_store_in (o := ⟨none, _, _, _, _, _⟩) hJd (by rfl) _ _ _ (by rfl) (1 + k * 4) (by rfl) #[.int .i64 1, .int .i64 (f 5), .int .i64 (f 3), .bool false] (by rfl) sizeSt (by rfl) (by rw [jc_size, HJ.out.2.1]; have := HJ.out.2.2; omega) (st_one _ _ _ _) ?_; intro w7 hg7 hu7)
    | fail)
  have hn7 : Near [gj] w6 w7 := hC7.trans (Near.upd hu7 (List.mem_singleton_self _))
  refine TreeQ.in_ hn7 ?_
  refine wpTree_done ?_
  have hb7 : Blk w7 gj 52 (jc p.gd (l.set k (1, f 5, f 3, false))) := by
    rw [← jc_set p.gd l k _ (by rw [HJ.out.2.1]; exact HJ.out.2.2), show 1 + 4 * k = 1 + k * 4 by omega]
    exact hg7
  have hd7 := H6.out.1.near' hn7 (by
    unfold Pl.all at hgj
    simp at hgj ⊢
    exact ⟨fun e => hgj.1 e.symm, fun e => hgj.2.1 e.symm, fun e => hgj.2.2 e.symm⟩)
  have hN : Near (gj :: p.all none) w w7 := ((Near.below (HB3.out.trans (H4.out.2.2.2.2.2.2.mono HB3.out.size))).trans (H6.out.2.wider (fun x hx => List.mem_cons_of_mem _ hx))).trans (hn7.wider (fun x hx => by rw [List.mem_singleton.1 hx]; exact List.mem_cons_self ..))
  have HE := Lib.hid (And.intro (JR.mk hd7 hb7 (by rw [List.length_set]; exact HJ.out.2.1)) hN)
  clear hn7 hb7 hd7 hN hg7 hu7 hJd hC7
  go_wp2
  go_ret
  rw [HKK.out]
  exact ⟨rfl, HE.out⟩
end
end Go.Proofs.YtfoegmjpfkmggaaDoor

/- A prepare of the statements: its slot's bytes, how these are judged and read; Put of it. Conditions: the op is 1 to 1000, the view 0 to 1000, the body at most 1024 bytes. -/
namespace Go.Proofs.YtfoegmjpfkmggaaDoor
open Go.RowKit
def jX (op vw : Int) (bs : List UInt8) : List UInt8 := fillN 1280 (Hd.bytes (jm op vw bs.length) bs)
structure JmOk (op vw : Int) (bs : List UInt8) : Prop where
  op1 : 1 ≤ op
  op2 : op ≤ 1000
  vw1 : 0 ≤ vw
  vw2 : vw ≤ 1000
  len : bs.length ≤ 1024
theorem jm_hd {op vw : Int} {bs : List UInt8} (h : JmOk op vw bs) : Hd.ok (jm op vw bs.length) = true ∧ Hd.in_ (jm op vw bs.length) ∧ setF (jm op vw bs.length) 2 bs.length = jm op vw bs.length ∧ Slot.is (jm op vw bs.length) (Slot.of op) = true := by
  obtain ⟨h1, h2, h3, h4, h5⟩ := h
  refine ⟨?_, setF_in _ _ (fP_ok op vw (by omega)).2.1, setF_self _ _ _ (by unfold jm setF; rw [if_pos rfl]), ?_⟩
  · unfold Hd.ok tenI numOk jm setF fP
    simp
    omega
  · unfold Slot.is jm setF fP
    simp
    omega
theorem jX_bytes {op vw : Int} {bs : List UInt8} (h : JmOk op vw bs) : Slot.bytes (jm op vw bs.length) bs = (0, jX op vw bs) := by
  obtain ⟨h1, h2, h3, h4⟩ := jm_hd h
  have hs : Msg.seal_ (jm op vw bs.length) bs = (0, Hd.bytes (jm op vw bs.length) bs) := by
    unfold Msg.seal_
    rw [if_neg (by have := h.len; omega), h3, if_pos h1]
  unfold Slot.bytes
  rw [hs, if_pos rfl, show jm op vw bs.length 5 = op from rfl, if_pos h4]
  rfl
theorem jX_say {op vw : Int} {bs : List UInt8} (h : JmOk op vw bs) : ∃ F, (jX op vw bs).length = 1280 ∧ Slot.prep (jX op vw bs) (Slot.of op) = (true, F, bs) ∧ Slot.kind ((jX op vw bs).take 256) (Slot.of op) = (2, F) ∧ Hd.same F (jm op vw bs.length) := by
  obtain ⟨h1, h2, h3, h4⟩ := jm_hd h
  obtain ⟨F, g1, -, g2, g3, g4⟩ := Slot.bytes_say (jm op vw bs.length) bs h2 h.len (by rw [h3]; exact h1) h4
  rw [h3] at g1 g2 g3 g4
  exact ⟨F, g1, g2, g3, g4⟩
theorem jX_len {op vw : Int} {bs : List UInt8} (h : JmOk op vw bs) : (jX op vw bs).length = 1280 := by
  obtain ⟨F, h1, _⟩ := jX_say h
  exact h1
/-- A slot that has just these bytes: how it is judged, what Get tells. -/
theorem jX_judge {op vw : Int} {bs : List UInt8} (h : JmOk op vw bs) : Slot.judge ((jX op vw bs).take 256) (jX op vw bs) (Slot.of op) = (1, op, vw, false) := by
  obtain ⟨F, _, h2, h3, h4⟩ := jX_say h
  have hb := Slot.of_bounds op
  rw [Slot.judge_in _ _ _ hb, h2, h3, decide_eq_true rfl, Slot.put_same, h4 5 (by omega), h4 3 (by omega)]
  rfl
theorem jX_get {op vw : Int} {bs : List UInt8} (h : JmOk op vw bs) {L : List UInt8} {l : List SlT} {m : Bool} (hL : jpr L (jsl op) = jX op vw bs) (hl : jst l (jsl op) = (1, op, vw, m)) :
    ∃ F, jget L l op = ((0, F, bs), l) ∧ Hd.same F (jm op vw bs.length) := by
  obtain ⟨F, _, h2, _, h4⟩ := jX_say h
  refine ⟨F, ?_, h4⟩
  have hk := (jsl_lt op).2
  have hp : Slot.prep (jpr L (jsl op)) (jsl op) = (true, F, bs) := by rw [hL, ← hk]; exact h2
  have hg : jgood L l op = true := by
    unfold jgood
    rw [hp, hl]
    simp only [h4 5 (by omega), h4 3 (by omega)]
    simp [jm, setF, fP]
  have := h.op1
  unfold jget
  rw [if_neg (by omega), if_neg (by rw [hl]; simp), if_neg (by rw [hl]; omega), if_pos hg, hp]
section
variable {w : World} {gj : Nat} {p : Pl} {L : List UInt8} {l : List SlT}
set_option maxHeartbeats 1000000 in
theorem jputm_any (op vw : Int) (bs : List UInt8) (hm : JmOk op vw bs) (A : Option Addr) (c : Nat) (hby : Bytes w A bs) (hc : bs.length ≤ c ∧ c ≤ 9223372036854775807) (h : JR w gj p L l) :
    Calls Tryd.prog 8 #[.pointer (some ⟨gj, 0, none⟩), .agg (msgc (jm op vw bs.length) (.slice A bs.length c))] w fun e w' => e = .returned (.int .i64 0) ∧
      JR w' gj p (jwr L (jX op vw bs) (jsl op)) (l.set (jsl op) (1, op, vw, false)) ∧ Near (gj :: p.all none) w w' :=
  jput_ok (jm op vw bs.length) A bs.length c bs (jX op vw bs) (jX_len hm) (jX_bytes hm) rfl hby hc (jm_hd hm).2.1 h
end
end Go.Proofs.YtfoegmjpfkmggaaDoor

/- A walk is stopped in an arm, and goes on in the open. Plain facts. No condition. -/
namespace Go.Proofs.YtfoegmjpfkmggaaDoor
structure Stopped (p : Prop) : Prop where
  go : p
theorem stopped {p : Prop} (h : Stopped p) : p := h.go
end Go.Proofs.YtfoegmjpfkmggaaDoor
