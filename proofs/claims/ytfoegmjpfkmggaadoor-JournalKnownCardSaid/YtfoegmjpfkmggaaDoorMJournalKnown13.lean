/- The rings' bytes: a slot's header, a slot's prepare, behind what is written. Plain facts. No condition. -/
import Derived.Test.YtfoegmjpfkmggaaDoorMJournalKnown12
namespace Go
def jhd (L : List UInt8) (n : Nat) : List UInt8 := (L.drop (256 * (8 + n))).take 256
def jpr (L : List UInt8) (n : Nat) : List UInt8 := (L.drop (256 * (24 + 5 * n))).take 1280
theorem jhd_length {L : List UInt8} {n : Nat} (h : 26624 ≤ L.length) (hn : n < 16) : (jhd L n).length = 256 := by unfold jhd; rw [List.length_take, List.length_drop]; omega
theorem jpr_length {L : List UInt8} {n : Nat} (h : 26624 ≤ L.length) (hn : n < 16) : (jpr L n).length = 1280 := by unfold jpr; rw [List.length_take, List.length_drop]; omega
theorem jhd_wr_hd {L b : List UInt8} {m n : Nat} (h : 26624 ≤ L.length) (hb : b.length = 256) (hm : m < 16) (hn : n < 16) : jhd (wr L (256 * (8 + m)) b) n = if n = m then b else jhd L n := by
  unfold jhd
  by_cases e : n = m
  · subst e
    rw [if_pos rfl, wr_in (by omega) (Nat.le_refl _) (by omega), Nat.sub_self, List.drop_zero, ← hb, List.take_length]
  · rw [if_neg e, wr_off (by omega) (by omega)]
theorem jpr_wr_hd {L b : List UInt8} {m n : Nat} (h : 26624 ≤ L.length) (hb : b.length = 256) (hm : m < 16) : jpr (wr L (256 * (8 + m)) b) n = jpr L n := by
  unfold jpr
  rw [wr_off (by omega) (by omega)]
theorem jhd_wr_pr {L b : List UInt8} {m n : Nat} (h : 26624 ≤ L.length) (hb : b.length = 1280) (hm : m < 16) (hn : n < 16) : jhd (wr L (256 * (24 + 5 * m)) b) n = jhd L n := by
  unfold jhd
  rw [wr_off (by omega) (by omega)]
theorem jpr_wr_pr {L b : List UInt8} {m n : Nat} (h : 26624 ≤ L.length) (hb : b.length = 1280) (hm : m < 16) (_hn : n < 16) : jpr (wr L (256 * (24 + 5 * m)) b) n = if n = m then b else jpr L n := by
  unfold jpr
  by_cases e : n = m
  · subst e
    rw [if_pos rfl, wr_in (by omega) (Nat.le_refl _) (by omega), Nat.sub_self, List.drop_zero, ← hb, List.take_length]
  · rw [if_neg e, wr_off (by omega) (by omega)]
/-- The rings behind a Format. -/
def jfmt (L Z H : List UInt8) : List UInt8 := wr (wr L (256 * 24) Z) (256 * 8) H
theorem jfmt_length {L Z H : List UInt8} (h : 26624 ≤ L.length) (hZ : Z.length = 20480) (hH : H.length = 4096) : (jfmt L Z H).length = L.length := by
  have h1 : (wr L (256 * 24) Z).length = L.length := wr_length (by omega)
  unfold jfmt
  rw [wr_length (by omega), h1]
theorem jhd_fmt {L Z H : List UInt8} {n : Nat} (h : 26624 ≤ L.length) (hZ : Z.length = 20480) (hH : H.length = 4096) (hn : n < 16) : jhd (jfmt L Z H) n = (H.drop (256 * n)).take 256 := by
  have h1 : (wr L (256 * 24) Z).length = L.length := wr_length (by omega)
  unfold jhd jfmt
  rw [wr_in (by omega) (by omega) (by omega), show 256 * (8 + n) - 256 * 8 = 256 * n by omega]
theorem jpr_fmt {L Z H : List UInt8} {n : Nat} (h : 26624 ≤ L.length) (hZ : Z.length = 20480) (hH : H.length = 4096) (hn : n < 16) : jpr (jfmt L Z H) n = (Z.drop (1280 * n)).take 1280 := by
  have h1 : (wr L (256 * 24) Z).length = L.length := wr_length (by omega)
  unfold jpr jfmt
  rw [wr_off (by omega) (by omega), wr_in (by omega) (by omega) (by omega), show 256 * (24 + 5 * n) - 256 * 24 = 1280 * n by omega]
end Go

/- What a Put's closures write. Conditions: the journal, the slot's number, the bytes lie in known blocks apart from the disk's. -/
namespace Go.Proofs.YtfoegmjpfkmggaaDoor
open Go.RowKit
/-- What a Put's closures know: the journal, the slot, its bytes. -/
structure PutK (w : World) (jb nb bb gj sg : Nat) (p : Pl) (k : Nat) (X : List UInt8) : Prop where
  j : Blk w jb 23 #[.pointer (some ⟨gj, 0, none⟩)]
  n : Blk w nb 3 #[.int .i64 (k : Int)]
  b : Blk w bb 36 #[.slice (some ⟨sg, 0, none⟩) 1280 1280]
  d : w.cell? ⟨gj, 0, none⟩ = some (.pointer (some ⟨p.gd, 0, none⟩))
  e : Bytes w (some ⟨sg, 0, none⟩) X
  len : X.length = 1280
  k16 : k < 16
  off : jb ∉ p.all none ∧ nb ∉ p.all none ∧ bb ∉ p.all none ∧ gj ∉ p.all none ∧ sg ∉ p.all none
theorem _root_.Go.Near.cell_ {X : List Nat} {w w' : World} (k : Near X w w') {g o : Nat} (hg : g ∉ X) {v : Value} (h : w.cell? ⟨g, o, none⟩ = some v) : w'.cell? ⟨g, o, none⟩ = some v := by
  rw [k.cell (World.block_lt_of_cell? _ _ h) hg]; exact h
theorem PutK.near {w w' : World} {jb nb bb gj sg k : Nat} {p : Pl} {X : List UInt8} (h : PutK w jb nb bb gj sg p k X) (hn : Near (p.all none) w w') : PutK w' jb nb bb gj sg p k X :=
  ⟨h.j.near hn h.off.1, h.n.near hn h.off.2.1, h.b.near hn h.off.2.2.1, hn.cell_ h.off.2.2.2.1 h.d, Bytes.near h.e hn (fun ad e => by injection e with e; rw [← e]; exact h.off.2.2.2.2), h.len, h.k16, h.off⟩
section
variable {w : World} {jb nb bb gj sg : Nat} {p : Pl} {k : Nat} {X : List UInt8} {L : List UInt8}
set_option maxRecDepth 100000 in
set_option maxHeartbeats 1000000 in
theorem jput1_any (h : PutK w jb nb bb gj sg p k X) (hd : JD w p L) : Calls Tryd.prog 24 #[.pointer (some ⟨jb, 0, none⟩), .pointer (some ⟨nb, 0, none⟩), .pointer (some ⟨bb, 0, none⟩)] w fun e w' => e = .returned (.int .i64 0) ∧ JD w' p (wr L (256 * (24 + 5 * k)) X) ∧ Near (p.all none) w w' := by
  have hC0 : Near (p.all none) w w.drew := (Near.refl _ _).drew
  have HK := Lib.hid (And.intro h hd)
  have hk := h.k16
  clear h hd
  go_enter Tryd.func24, Tryd.ntmps24
  go_wp2_with fail
  refine wp_region_tree (Near (p.all none) w) [] (PlanT.takes [0, 4, 6] (PlanT.takes [1, 2] (PlanT.takes [3] (.opt 5 (.opt 7 (PlanT.takes [8] .done) .no) .no)))) (by kernel_rfl) (by kernel_rfl) (hC0) ?_
  refine wpTree_takeL _ _ _ (by rfl) (by rfl) (hC0) ?_
  dsimp only [List.filterMap, List.getElem?_cons_zero, List.getElem?_cons_succ]
  (refine wpQuiet_load_cell (fun w' hw' => (Blk.near HK.out.1.j hw' HK.out.1.off.1).at_ 0 (v := .pointer (some ⟨gj, 0, none⟩)) rfl) (by rfl) _ _ (by rfl) (by rfl) _ Tryd.underlying23 (by rfl) ?_; simp only [Act.put, List.setIfInBounds_toArray, List.set_cons_zero, List.set_cons_succ])
  (refine wpQuiet_load_cell (fun w' hw' => (Blk.near HK.out.1.n hw' HK.out.1.off.2.1).at_ 0 (v := .int .i64 (k : Int)) rfl) (by rfl) _ _ (by rfl) (by rfl) _ Tryd.underlying3 (by rfl) ?_; simp only [Act.put, List.setIfInBounds_toArray, List.set_cons_zero, List.set_cons_succ])
  (refine wpQuiet_load_cell (fun w' hw' => (Blk.near HK.out.1.b hw' HK.out.1.off.2.2.1).at_ 0 (v := .slice (some ⟨sg, 0, none⟩) 1280 1280) rfl) (by rfl) _ _ (by rfl) (by rfl) _ Tryd.underlying36 (by rfl) ?_; simp only [Act.put, List.setIfInBounds_toArray, List.set_cons_zero, List.set_cons_succ])
  refine wpQuiet_nil ?_
  refine wpTree_pure _ _ _ (by rfl) (by rfl) ?_
  dsimp only [List.filterMap, List.getElem?_cons_zero, List.getElem?_cons_succ]
  repeat (go_big_quiet_step (fail))
  refine wpQuiet_nil ?_
  refine wpTree_takeL _ _ _ (by rfl) (by rfl) (hC0) ?_
  dsimp only [List.filterMap, List.getElem?_cons_zero, List.getElem?_cons_succ]
  (refine wpQuiet_load_cell (fun w' hw' => Near.cell_ hw' HK.out.1.off.2.2.2.1 HK.out.1.d) (by rfl) _ _ (by rfl) (by rfl) _ Tryd.underlying22 (by rfl) ?_; simp only [Act.put, List.setIfInBounds_toArray, List.set_cons_zero, List.set_cons_succ])
  refine wpQuiet_nil ?_
  refine wpTree_one _ rfl ?_
  go_wp2_with fail
  refine (jplace_any (k : Int) (by omega) _).mono ?_
  rintro e w1 ⟨rfl, hw⟩
  obtain rfl := hw.symm
  clear hw
  go_wp2_with fail
  refine TreeQ.in_ hC0 ?_
  refine wpTree_one _ rfl ?_
  go_wp2_with fail
  rw [show (24 : Int) + 5 * (k : Int) = ((24 + 5 * k : Nat) : Int) by omega]
  refine (jdwrite (24 + 5 * k) 1280 1280 (some ⟨sg, 0, none⟩) X HK.out.1.len.symm (Bytes.near HK.out.1.e hC0 (fun ad e => by injection e with e; rw [← e]; exact HK.out.1.off.2.2.2.2)) (fun ad e => by injection e with e; rw [← e]; exact HK.out.1.off.2.2.2.2) (by rw [HK.out.1.len]; omega) (by have := HK.out.1.len; omega) (HK.out.2.near (Near.refl _ _).drew)).mono ?_
  rintro e w2 ⟨rfl, hd2, hn2⟩
  have hC2 := hC0.trans hn2
  have HR := Lib.hid (And.intro hd2 hC2)
  clear hd2 hn2 HK
  go_wp2_with fail
  refine TreeQ.in_ hC2 ?_
  refine wpTree_pure _ _ _ (by rfl) (by rfl) ?_
  dsimp only [List.filterMap, List.getElem?_cons_zero, List.getElem?_cons_succ]
  repeat (go_big_quiet_step (fail))
  refine wpQuiet_nil ?_
  refine wpTree_done ?_
  clear hC2
  go_wp2
  go_ret
  exact ⟨rfl, HR.out⟩
set_option maxRecDepth 100000 in
set_option maxHeartbeats 1000000 in
theorem jput2_any (h : PutK w jb nb bb gj sg p k X) (hd : JD w p L) : Calls Tryd.prog 28 #[.pointer (some ⟨jb, 0, none⟩), .pointer (some ⟨nb, 0, none⟩), .pointer (some ⟨bb, 0, none⟩)] w fun e w' => e = .returned (.int .i64 0) ∧ JD w' p (wr L (256 * (8 + k)) (X.take 256)) ∧ Near (p.all none) w w' := by
  have hC0 : Near (p.all none) w w.drew := (Near.refl _ _).drew
  have HK := Lib.hid (And.intro h hd)
  have hk := h.k16
  have k1 : wrap64 (8 + (k : Int)) = ((8 + k : Nat) : Int) := by unfold wrap64; omega
  clear h hd
  go_enter Tryd.func28, Tryd.ntmps28
  go_wp2_with fail
  refine wp_region_tree (Near (p.all none) w) [] (PlanT.takes [0, 4, 6] (PlanT.takes [1, 2, 5, 7] (PlanT.takes [3] (.opt 8 (PlanT.takes [9] .done) .no)))) (by kernel_rfl) (by kernel_rfl) (hC0) ?_
  refine wpTree_takeL _ _ _ (by rfl) (by rfl) (hC0) ?_
  dsimp only [List.filterMap, List.getElem?_cons_zero, List.getElem?_cons_succ]
  (refine wpQuiet_load_cell (fun w' hw' => (Blk.near HK.out.1.j hw' HK.out.1.off.1).at_ 0 (v := .pointer (some ⟨gj, 0, none⟩)) rfl) (by rfl) _ _ (by rfl) (by rfl) _ Tryd.underlying23 (by rfl) ?_; simp only [Act.put, List.setIfInBounds_toArray, List.set_cons_zero, List.set_cons_succ])
  (refine wpQuiet_load_cell (fun w' hw' => (Blk.near HK.out.1.n hw' HK.out.1.off.2.1).at_ 0 (v := .int .i64 (k : Int)) rfl) (by rfl) _ _ (by rfl) (by rfl) _ Tryd.underlying3 (by rfl) ?_; simp only [Act.put, List.setIfInBounds_toArray, List.set_cons_zero, List.set_cons_succ])
  (refine wpQuiet_load_cell (fun w' hw' => (Blk.near HK.out.1.b hw' HK.out.1.off.2.2.1).at_ 0 (v := .slice (some ⟨sg, 0, none⟩) 1280 1280) rfl) (by rfl) _ _ (by rfl) (by rfl) _ Tryd.underlying36 (by rfl) ?_; simp only [Act.put, List.setIfInBounds_toArray, List.set_cons_zero, List.set_cons_succ])
  refine wpQuiet_nil ?_
  refine wpTree_pure _ _ _ (by rfl) (by rfl) ?_
  dsimp only [List.filterMap, List.getElem?_cons_zero, List.getElem?_cons_succ]
  repeat (go_big_quiet_step (fail))
  refine wpQuiet_nil ?_
  refine wpTree_takeL _ _ _ (by rfl) (by rfl) (hC0) ?_
  dsimp only [List.filterMap, List.getElem?_cons_zero, List.getElem?_cons_succ]
  (refine wpQuiet_load_cell (fun w' hw' => Near.cell_ hw' HK.out.1.off.2.2.2.1 HK.out.1.d) (by rfl) _ _ (by rfl) (by rfl) _ Tryd.underlying22 (by rfl) ?_; simp only [Act.put, List.setIfInBounds_toArray, List.set_cons_zero, List.set_cons_succ])
  refine wpQuiet_nil ?_
  refine wpTree_one _ rfl ?_
  go_wp2_with fail
  refine (jdwrite (8 + k) 256 1280 (some ⟨sg, 0, none⟩) (X.take 256) (by rw [List.length_take, HK.out.1.len]; rfl) ((Bytes.near HK.out.1.e hC0 (fun ad e => by injection e with e; rw [← e]; exact HK.out.1.off.2.2.2.2)).take 256) (fun ad e => by injection e with e; rw [← e]; exact HK.out.1.off.2.2.2.2) (by rw [List.length_take, HK.out.1.len]; omega) (by rw [List.length_take, HK.out.1.len]; omega) (HK.out.2.near (Near.refl _ _).drew)).mono ?_
  rintro e w2 ⟨rfl, hd2, hn2⟩
  have hC2 := hC0.trans hn2
  have HR := Lib.hid (And.intro hd2 hC2)
  clear hd2 hn2 HK
  go_wp2_with fail
  refine TreeQ.in_ hC2 ?_
  refine wpTree_pure _ _ _ (by rfl) (by rfl) ?_
  dsimp only [List.filterMap, List.getElem?_cons_zero, List.getElem?_cons_succ]
  repeat (go_big_quiet_step (fail))
  refine wpQuiet_nil ?_
  refine wpTree_done ?_
  clear hC2
  go_wp2
  go_ret
  exact ⟨rfl, HR.out⟩
end
end Go.Proofs.YtfoegmjpfkmggaaDoor

/- What Format's closures write. Conditions: the disk is up; the headers lie in a known block apart from the disk's. -/
namespace Go.Proofs.YtfoegmjpfkmggaaDoor
open Go.RowKit
section
variable {w : World} {db nb : Nat} {p : Pl} {L : List UInt8}
set_option maxRecDepth 100000 in
set_option maxHeartbeats 1000000 in
theorem jfmt2_any (A : Option Addr) (c : Nat) (H : List UInt8) (hH : H.length = 4096) (hc : 4096 ≤ c) (hd0 : Blk w db 22 #[.pointer (some ⟨p.gd, 0, none⟩)]) (hn : Blk w nb 36 #[.slice A 4096 c]) (hby : Bytes w A H) (hA : ∀ ad, A = some ad → ad.block ∉ p.all none) (hd : JD w p L) :
    Calls Tryd.prog 43 #[.pointer (some ⟨db, 0, none⟩), .pointer (some ⟨nb, 0, none⟩)] w fun e w' => e = .returned (.int .i64 0) ∧ JD w' p (wr L (256 * 8) H) ∧ Near (p.all none) w w' := by
  have c0 := hd0.at_ 0 (v := .pointer (some ⟨p.gd, 0, none⟩)) rfl
  have c1 := hn.at_ 0 (v := .slice A 4096 c) rfl
  have HW := Lib.hid (jdwrite 8 4096 c A H hH.symm hby hA (by omega) (by omega) hd)
  clear hd0 hn hby hA hd
  go_enter Tryd.func43, Tryd.ntmps43
  go_wp2_with fail
  refine HW.out.mono ?_
  rintro e w2 ⟨rfl, hd2, hn2⟩
  have HR := Lib.hid (And.intro hd2 hn2)
  clear hd2 hn2 HW c0 c1
  go_wp2
  go_ret
  exact ⟨rfl, HR.out⟩
set_option maxRecDepth 100000 in
set_option maxHeartbeats 1000000 in
theorem jfmt1_any (hd0 : Blk w db 22 #[.pointer (some ⟨p.gd, 0, none⟩)]) (hoff : db ∉ p.all none) (hd : JD w p L) :
    Calls Tryd.prog 42 #[.pointer (some ⟨db, 0, none⟩)] w fun e w' => e = .returned (.int .i64 0) ∧ (∃ Z : List UInt8, Z = List.replicate 20480 0 ∧ JD w' p (wr L (256 * 24) Z)) ∧ Near (p.all none) w w' := by
  have c0 := hd0.at_ 0 (v := .pointer (some ⟨p.gd, 0, none⟩)) rfl
  have HD := Lib.hid (And.intro hd hd.lt)
  have hC0 : Near (p.all none) w w.drew := (Near.refl _ _).drew
  clear hd0 hd
  go_enter Tryd.func42, Tryd.ntmps42
  go_wp2_with fail
  refine wp_region_tree (Near (p.all none) w) [] (PlanT.takes [0] (.opt 1 (.opt 2 (PlanT.takes [3] .done) .no) .no)) (by kernel_rfl) (by kernel_rfl) (hC0) ?_
  refine wpTree_takeL _ _ _ (by rfl) (by rfl) (hC0) ?_
  dsimp only [List.filterMap, List.getElem?_cons_zero, List.getElem?_cons_succ]
  (refine wpQuiet_load_cell (fun w' hw' => Near.cell_ hw' hoff c0) (by rfl) _ _ (by rfl) (by rfl) _ Tryd.underlying22 (by rfl) ?_; simp only [Act.put, List.setIfInBounds_toArray, List.set_cons_zero, List.set_cons_succ])
  refine wpQuiet_nil ?_
  refine wpTree_one _ rfl ?_
  go_wp2_with (first
    | ((with_reducible show wpList _ _ _ ((⟨some 3, _, _, _, _, _⟩ : Oper) :: _) _ _); refine wpList_make_bytes (o := ⟨some 3, _, _, _, _, _⟩) _ (by rfl) _ _ _ (by rfl) 5 Tryd.underlying36 u8info .i64 .i64 20480 20480 20480 20480 (by rfl) (by rfl) (by rfl) (by rfl) (by omega) (by omega) ?_; intro w3 hb3 hB3 hz3; obtain ⟨Z, hZ⟩ : ∃ Z : List UInt8, Z = List.replicate 20480 0 := ⟨_, rfl⟩; rw [← hZ] at hb3; have H3 := Lib.hid (And.intro hb3 (And.intro hB3 hZ)); clear hb3 hB3 hz3 hZ)
    | fail)
  have hn3 : Near [] w w3 := (Near.refl _ _).drew.trans (Near.below H3.out.2.1)
  have hn3p : Near (p.all none) w w3 := hn3.wider (fun x hx => by cases hx)
  have hZl : Z.length = 20480 := by rw [H3.out.2.2]; exact List.length_replicate ..
  have hsz : w.drew.heap.size ∉ p.all none := fun hx => by have := HD.out.2 _ hx; rw [World.size_drew] at this; omega
  have HW := Lib.hid (jdwrite 24 20480 20480 (some ⟨w.drew.heap.size, 0, none⟩) Z hZl.symm (Blk.bytes H3.out.1) (fun ad e => by injection e with e; rw [← e]; exact hsz) (by omega) (by omega) (HD.out.1.near hn3))
  refine TreeQ.in_ hn3p ?_
  refine wpTree_one _ rfl ?_
  clear hsz hn3
  go_wp2_with fail
  refine HW.out.mono ?_
  rintro e w4 ⟨rfl, hd4, hn4⟩
  have hn4p : Near (p.all none) w w4 := hn3p.trans hn4
  have HE := Lib.hid (And.intro hd4 (And.intro hn4p H3.out.2.2))
  clear hd4 hn4 hn3p HW
  go_wp2_with fail
  refine TreeQ.in_ hn4p ?_
  refine wpTree_pure _ _ _ (by rfl) (by rfl) ?_
  dsimp only [List.filterMap, List.getElem?_cons_zero, List.getElem?_cons_succ]
  repeat (go_big_quiet_step (fail))
  refine wpQuiet_nil ?_
  refine wpTree_done ?_
  clear hn4p hC0
  go_wp2
  go_ret
  exact ⟨rfl, ⟨Z, HE.out.2.2, HE.out.1⟩, HE.out.2.1⟩
end
end Go.Proofs.YtfoegmjpfkmggaaDoor

/- What Format's three functions do, one behind the other. Conditions: the disk is up; the headers lie in a known block apart from the disk's. -/
namespace Go.Proofs.YtfoegmjpfkmggaaDoor
open Go.RowKit
theorem callFmt1 (args : Array Value) (w : World) : (callFunc 42 args).run Tryd.prog w = .ok (.enter 42 args) w := Tryd.call42 args w
theorem callFmt2 (args : Array Value) (w : World) : (callFunc 43 args).run Tryd.prog w = .ok (.enter 43 args) w := Tryd.call43 args w
theorem callFlushJ (args : Array Value) (w : World) : (callFunc 27 args).run Tryd.prog w = .ok (.enter 27 args) w := Tryd.call27 args w
section
variable {w : World} {db nb g4 : Nat} {p : Pl} {L : List UInt8}
theorem jfmtall (A : Option Addr) (c : Nat) (H : List UInt8) (hH : H.length = 4096) (hc : 4096 ≤ c) (hd0 : Blk w db 22 #[.pointer (some ⟨p.gd, 0, none⟩)]) (hn : Blk w nb 36 #[.slice A 4096 c]) (hby : Bytes w A H) (hA : ∀ ad, A = some ad → ad.block ∉ p.all none) (hoff : db ∉ p.all none ∧ nb ∉ p.all none ∧ g4 ∉ p.all none)
    (hb : Blk w g4 63 #[.func (.func 42) #[] #[.pointer (some ⟨db, 0, none⟩)], .func (.func 43) #[] #[.pointer (some ⟨db, 0, none⟩), .pointer (some ⟨nb, 0, none⟩)], .func (.func 27) #[.pointer (some ⟨p.gd, 0, none⟩)] #[]]) (hd : JD w p L) :
    Calls Tryd.prog 23 #[.slice (some ⟨g4, 0, none⟩) 3 3] w fun e w' => e = .returned (.int .i64 0) ∧ (∃ Z : List UInt8, Z = List.replicate 20480 0 ∧ JD w' p (jfmt L Z H)) ∧ Near (p.all none) w w' := by
  refine (jall_any [(42, #[], #[.pointer (some ⟨db, 0, none⟩)]), (43, #[], #[.pointer (some ⟨db, 0, none⟩), .pointer (some ⟨nb, 0, none⟩)]), (27, #[.pointer (some ⟨p.gd, 0, none⟩)], #[])] g4 3 3
    (fun i w' => (∃ Z : List UInt8, Z = List.replicate 20480 0 ∧ JD w' p (if i = 0 then L else if i = 1 then wr L (256 * 24) Z else jfmt L Z H)) ∧ Near (p.all none) w w') w rfl (by omega) ?_ ?_ ?_ ⟨⟨_, rfl, hd⟩, Near.refl _ _⟩).mono ?_
  · rintro i w' hi ⟨_, hk⟩
    have hb' := hb.near hk hoff.2.2
    have hi4 : i < 3 := hi
    rcases (by omega : i = 0 ∨ i = 1 ∨ i = 2) with rfl | rfl | rfl <;> exact hb'.at_ _ rfl
  · intro i hi args w'
    have hi4 : i < 3 := hi
    rcases (by omega : i = 0 ∨ i = 1 ∨ i = 2) with rfl | rfl | rfl
    · exact callFmt1 args w'
    · exact callFmt2 args w'
    · exact callFlushJ args w'
  · rintro i w' hi ⟨⟨Z, hZ, hd'⟩, hk⟩
    have hi4 : i < 3 := hi
    rcases (by omega : i = 0 ∨ i = 1 ∨ i = 2) with rfl | rfl | rfl
    · refine (jfmt1_any (hd0.near hk hoff.1) hoff.1 hd').mono ?_
      rintro e w2 ⟨rfl, h1, h2⟩
      exact ⟨rfl, h1, hk.trans h2⟩
    · refine (jfmt2_any A c H hH hc (hd0.near hk hoff.1) (hn.near hk hoff.2.1) (Bytes.near hby hk hA) hA hd').mono ?_
      rintro e w2 ⟨rfl, h1, h2⟩
      exact ⟨rfl, ⟨Z, hZ, h1⟩, hk.trans h2⟩
    · refine (jdflush hd').mono ?_
      rintro e w2 ⟨rfl, h1, h2⟩
      exact ⟨rfl, ⟨Z, hZ, h1⟩, hk.trans h2⟩
  · rintro e w' ⟨rfl, ⟨Z, hZ, h1⟩, h2⟩
    exact ⟨rfl, ⟨Z, hZ, h1⟩, h2⟩
end
end Go.Proofs.YtfoegmjpfkmggaaDoor

/- The headers of slots that are unwritten, one behind the other; a slot of which nothing is known but that it is empty. Plain facts. No condition. -/
namespace Go.Proofs.YtfoegmjpfkmggaaDoor
open Go.RowKit
def jheads (k : Nat) : List UInt8 := (List.range k).flatMap fun (n : Nat) => Hd.bytes (Slot.fU (n : Int)) []
theorem jheads_succ (k : Nat) : jheads (k + 1) = jheads k ++ Hd.bytes (Slot.fU k) [] := by unfold jheads; rw [List.range_succ, List.flatMap_append]; simp
theorem jheads_length (k : Nat) : (jheads k).length = 256 * k := by
  induction k with
  | zero => rfl
  | succ k ih => rw [jheads_succ, List.length_append, ih, Hd.bytes_length]; simp; omega
theorem jheads_at (n : Nat) : ∀ k, n < k → ((jheads k).drop (256 * n)).take 256 = Hd.bytes (Slot.fU n) []
  | 0, h => by omega
  | k + 1, h => by
    have hl := jheads_length k
    have hb : (Hd.bytes (Slot.fU k) []).length = 256 := by rw [Hd.bytes_length]; rfl
    rw [jheads_succ]
    by_cases e : n = k
    · subst e
      rw [List.drop_append_of_le_length (by omega), List.drop_eq_nil_of_le (by omega), List.nil_append, ← hb, List.take_length]
    · rw [List.drop_append_of_le_length (by omega), List.take_append_of_le_length (by rw [List.length_drop]; omega)]
      exact jheads_at n k (by omega)
end Go.Proofs.YtfoegmjpfkmggaaDoor

/- Format, whole. Condition: the disk is up, has no fuse and at least 104 sectors. -/
namespace Go.Proofs.YtfoegmjpfkmggaaDoor
open Go.RowKit
def JFmRel (w : World) (p : Pl) (v : Value) (wr : World) : Prop :=
  ∃ (k : Nat) (s : Value) (sp : List UInt8), k ≤ 16 ∧ v = .int .i64 (k : Int) ∧ Blk wr w.heap.size 22 #[.pointer (some ⟨p.gd, 0, none⟩)] ∧ Blk wr (w.heap.size + 1) 36 #[s] ∧ OwnB 5 wr (w.heap.size + 2) s (jheads k) sp ∧ Below w.heap.size w wr
section
variable {w : World} {p : Pl} {L : List UInt8}
set_option maxRecDepth 100000 in
set_option maxHeartbeats 2000000 in
theorem jformat_any (h : JD w p L) : Calls Tryd.prog 19 #[.pointer (some ⟨p.gd, 0, none⟩)] w fun e w' => e = .returned (.int .i64 0) ∧ (∃ Z : List UInt8, Z = List.replicate 20480 0 ∧ JD w' p (jfmt L Z (jheads 16))) ∧ Near (p.all none) w w' := by
  have hB1 := (Below.refl w.heap.size w).alloc (Nat.le_refl _) (.cells #[.pointer (some ⟨p.gd, 0, none⟩)] 22)
  have hB2 := hB1.alloc (by simp) (.cells #[.slice none 0 0] 36)
  have hr := jready_jd (h.near (Near.below hB1))
  have hd2 := (Blk.new w 22 #[.pointer (some ⟨p.gd, 0, none⟩)]).alloc (.cells #[.slice none 0 0] 36)
  have hn2 := Blk.new' (w.alloc (.cells #[.pointer (some ⟨p.gd, 0, none⟩)] 22)) 36 #[.slice none 0 0] (n := w.heap.size + 1) (by simp)
  have H0 := Lib.hid (And.intro hd2 (And.intro hn2 hB2))
  have HD := Lib.hid h
  clear h hB1 hB2 hd2 hn2
  go_enter Tryd.func19, Tryd.ntmps19
  go_wp2_with fail
  refine hr.mono ?_
  rintro e w1 ⟨rfl, hw⟩
  obtain rfl := hw.symm
  clear hw hr
  go_wp2_with fail
  generalize (w.alloc (.cells #[.pointer (some ⟨p.gd, 0, none⟩)] 22)).alloc (.cells #[.slice none 0 0] 36) = w2 at H0 ⊢
  go_loopw [13] (fun v wr => JFmRel w p v wr) (fun v _ => 16 - (intOf v).toNat)
  case atStart => exact ⟨0, _, [], Nat.zero_le _, rfl, H0.out.1, H0.out.2.1, OwnsC.nil _ _ _ _, H0.out.2.2⟩
  case round =>
    obtain ⟨k, s, sp, hk, rfl, hd0, hnb, ho, hB⟩ := hrel
    obtain ⟨A, c, rfl, hc, hc2, hby⟩ := OwnB.open_ ho
    rw [jheads_length k] at hc ho hnb
    have HR := Lib.hid (And.intro hd0 (And.intro hnb (And.intro ho hB)))
    have HB := Lib.hid (And.intro hby (And.intro hc hc2))
    clear H0 hd0 hnb ho hB hby hc hc2
    by_cases hlt : k < 16
    · go_wp2_with fail
      refine (sunw_any (k : Int) wr).mono ?_
      rintro e w3 ⟨E, rfl, hE, -, hEn, hEl, hbx⟩
      rw [show Slot.unw (k : Int) = (0, Hd.bytes (Slot.fU (k : Int)) []) by unfold Slot.unw; rw [if_neg (by omega)]] at hEl ⊢
      have hl256 : (Hd.bytes (Slot.fU (k : Int)) []).length = 256 := by rw [Hd.bytes_length]; rfl
      have hjs := Lib.hid (jheads_succ k)
      obtain ⟨EA, En, El⟩ := E
      dsimp only at hEl hEn
      rw [← hEl] at hl256 hjs
      clear hEl
      rw [hl256] at hEn
      subst hEn
      have hE3 : Bytes w3 EA El := hE.bytes
      have hn3 := HR.out.2.1.below hbx HR.out.2.1.lt
      have hd3 := HR.out.1.below hbx HR.out.1.lt
      have ho3 := OwnsC.below HR.out.2.2.1 hbx (fun j hj => (OwnsC.lt HR.out.2.2.1 j hj).2)
      have hB3 := HR.out.2.2.2.trans (hbx.mono HR.out.2.2.2.size)
      have hs3 : w.heap.size + 2 ≤ w3.heap.size := by have := hn3.lt; omega
      have c1 := hn3.at_ 0 (v := .slice A (256 * k) c) rfl
      have H3 := Lib.hid (And.intro hE3 (And.intro hn3 (And.intro hd3 (And.intro ho3 (And.intro hB3 (And.intro hs3 hl256))))))
      clear hE hE3 hn3 hd3 ho3 hB3 hs3 hbx hl256
      unfold Ent.val
      dsimp only
      rw [H3.out.2.2.2.2.2.2]
      go_wp2_with (first
        | (((with_reducible show wpList _ _ _ ((⟨some 23, _, _, _, _, _⟩ : Oper) :: _) _ _); skip); refine wpList_append_bytes (o := ⟨some 23, _, _, _, _, _⟩) (by rfl) _ _ _ (by rfl) (w.heap.size + 2) _ Tryd.underlying36 u8info (.slice A (256 * k) c) (jheads k) sp (by rfl) H3.out.2.2.2.1 EA 256 El (by rw [H3.out.2.2.2.2.2.2]; rfl) H3.out.1 (by rw [jheads_length, H3.out.2.2.2.2.2.2]; omega) H3.out.2.2.2.2.2.1 ?_; intro v5 w5 sp5 ho5 hg5 _ _; obtain ⟨A5, c5, rfl, -, -, -⟩ := OwnB.open_ ho5; have hb5 := (Below.refl (w.heap.size + 2) w3).grown hg5 H3.out.2.2.2.2.2.1 (fun j hj => (OwnsC.lt H3.out.2.2.2.1 j hj).1); have hn5 := H3.out.2.1.below hb5 (Nat.lt_succ_self _); have hd5 := H3.out.2.2.1.below hb5 (by omega); have hB5 := H3.out.2.2.2.2.1.trans (hb5.mono (by omega)); have f5 := hn5.frozen 0; have q5 := hn5.at_ 0 (v := .slice A (256 * k) c) rfl; have HX := Lib.hid (And.intro ho5 (And.intro hn5 (And.intro hd5 hB5))); clear ho5 hg5 hb5 hd5 hB5)
        | fail)
      rw [← List.length_append]
      have hu := (Upd.refl (w.heap.size + 1) w5).set 0 (.slice A5 (jheads k ++ El).length c5)
      refine ⟨⟨k + 1, .slice A5 (jheads k ++ El).length c5, sp5, by omega, by go_num, HX.out.2.2.1.upd hu (by omega), (HX.out.2.1.set_ 0 (.slice A5 (jheads k ++ El).length c5)).sub rfl, ?_, HX.out.2.2.2.upd hu (by omega)⟩, by simp [intOf]; omega⟩
      rw [hjs.out]
      exact OwnsC.off HX.out.1 (fun e => by have := (OwnsC.lt HX.out.1 _ e).1; omega) _
    · obtain rfl : k = 16 := by omega
      have c0 := HR.out.1.at_ 0 (v := .pointer (some ⟨p.gd, 0, none⟩)) rfl
      have hP := HD.out.lt
      have hoff : ∀ x, w.heap.size ≤ x → x ∉ p.all none := fun x hx hm => by have := hP x hm; omega
      have hA : ∀ ad, A = some ad → ad.block ∉ p.all none := fun ad e => hoff _ (by have := (OwnsC.lt HR.out.2.2.1 ad.block (by rw [e]; rfl)).1; omega)
      have HO := Lib.hid (And.intro hoff hA)
      clear hoff hA hlt hk hP
      go_wp2_with fail
      have ha := (Below.refl wr.heap.size wr).alloc (Nat.le_refl _) (.cells #[.func (.func 42) #[] #[.pointer (some ⟨w.heap.size, 0, none⟩)], .func (.func 43) #[] #[.pointer (some ⟨w.heap.size, 0, none⟩), .pointer (some ⟨w.heap.size + 1, 0, none⟩)], .func (.func 27) #[.pointer (some ⟨p.gd, 0, none⟩)] #[]] 63)
      have hw := HR.out.2.2.2.trans (ha.mono HR.out.2.2.2.size)
      refine (jfmtall A c (jheads 16) (jheads_length 16) HB.out.2.1 (HR.out.1.below ha HR.out.1.lt) (HR.out.2.1.below ha HR.out.2.1.lt) (Bytes.below HB.out.1 ha) HO.out.2 ⟨HO.out.1 _ (Nat.le_refl _), HO.out.1 _ (Nat.le_succ _), HO.out.1 _ HR.out.2.2.2.size⟩ (Blk.new wr _ _) (HD.out.near (Near.below hw))).mono ?_
      rintro e w6 ⟨rfl, hz, hn⟩
      have HE := Lib.hid (And.intro hz ((Near.below (X := p.all none) hw).trans hn))
      clear hz hn ha hw c0
      go_wp2
      go_ret
      exact ⟨rfl, HE.out⟩
end
end Go.Proofs.YtfoegmjpfkmggaaDoor

/- Open: how all slots are. Condition: the disk is up, has no fuse and 104 sectors. -/
namespace Go.Proofs.YtfoegmjpfkmggaaDoor
open Go.RowKit
/-- How the slots are, once the first k have been looked at. -/
def jopd (L : List UInt8) (k : Nat) : List SlT := (List.range 16).map fun n => if n < k then Slot.judge (jhd L n) (jpr L n) n else (0, 0, 0, false)
theorem jopd_length (L : List UInt8) (k : Nat) : (jopd L k).length = 16 := by unfold jopd; simp
theorem jopd_0 (L : List UInt8) : jopd L 0 = List.replicate 16 (0, 0, 0, false) := by unfold jopd; rfl
theorem jopd_at (L : List UInt8) (k i : Nat) (h : i < (jopd L k).length) : (jopd L k)[i] = if i < k then Slot.judge (jhd L i) (jpr L i) i else (0, 0, 0, false) := by
  have e : (jopd L k)[i]? = some (if i < k then Slot.judge (jhd L i) (jpr L i) i else (0, 0, 0, false)) := by
    have h16 : i < 16 := by rw [jopd_length] at h; exact h
    unfold jopd
    simp [h16]
  rw [List.getElem?_eq_getElem h] at e
  exact Option.some.inj e
theorem jopd_succ (L : List UInt8) (k : Nat) : (jopd L k).set k (Slot.judge (jhd L k) (jpr L k) k) = jopd L (k + 1) := by
  apply List.ext_getElem
  · rw [List.length_set, jopd_length, jopd_length]
  · intro i h1 h2
    rw [List.getElem_set, jopd_at L (k + 1) i h2]
    by_cases e : k = i
    · subst e
      rw [if_pos rfl, if_pos (by omega)]
    · rw [if_neg e, jopd_at]
      by_cases hi : i < k
      · rw [if_pos hi, if_pos (by omega)]
      · rw [if_neg hi, if_neg (by omega)]
theorem jz_eq (gd : Nat) (L : List UInt8) : Tryd.zeroCells52.setIfInBounds 0 (.pointer (some ⟨gd, 0, none⟩)) = jc gd (jopd L 0) := by rw [jopd_0]; rfl
def JOpRel (w : World) (p : Pl) (L : List UInt8) (v : Value) (wr : World) : Prop :=
  ∃ k : Nat, k ≤ 16 ∧ v = .int .i64 (k : Int) ∧ JR wr w.heap.size p L (jopd L k) ∧ Below w.heap.size w wr
section
variable {w : World} {p : Pl} {L : List UInt8}
theorem jdread1 (k : Nat) (hk : k < 16) (h : JD w p L) : Calls Tryd.prog 30 #[.pointer (some ⟨p.gd, 0, none⟩), .int .i64 ((8 + k : Nat) : Int), .int .i64 1] w fun e w' => ∃ g, e = .returned (.tuple #[.slice (some ⟨g, 0, none⟩) 256 256, .int .i64 0]) ∧
    w.heap.size ≤ g ∧ Bytes w' (some ⟨g, 0, none⟩) (jhd L k) ∧ Below w.heap.size w w' := by
  refine (jdread (8 + k) 1 (by omega) h).mono ?_
  rintro e w1 ⟨g, rfl, hg, hb, hB⟩
  exact ⟨g, rfl, hg, hb.bytes, hB⟩
theorem jdread5 (k : Nat) (hk : k < 16) (h : JD w p L) : Calls Tryd.prog 30 #[.pointer (some ⟨p.gd, 0, none⟩), .int .i64 ((24 + 5 * k : Nat) : Int), .int .i64 5] w fun e w' => ∃ g, e = .returned (.tuple #[.slice (some ⟨g, 0, none⟩) 1280 1280, .int .i64 0]) ∧
    w.heap.size ≤ g ∧ Bytes w' (some ⟨g, 0, none⟩) (jpr L k) ∧ Below w.heap.size w w' := by
  refine (jdread (24 + 5 * k) 5 (by omega) h).mono ?_
  rintro e w1 ⟨g, rfl, hg, hb, hB⟩
  exact ⟨g, rfl, hg, hb.bytes, hB⟩
set_option maxRecDepth 100000 in
set_option maxHeartbeats 4000000 in
theorem jopen_any (h : JD w p L) : Calls Tryd.prog 10 #[.pointer (some ⟨p.gd, 0, none⟩)] w fun e w' => ∃ gj, e = .returned (.tuple #[.pointer (some ⟨gj, 0, none⟩), .int .i64 0]) ∧ w.heap.size ≤ gj ∧ JR w' gj p L (jopd L 16) ∧ Below w.heap.size w w' := by
  have hr := jready_jd h
  have hB := (Below.refl w.heap.size w).alloc (Nat.le_refl _) (.cells (jc p.gd (jopd L 0)) 52)
  have hJ : JR (w.alloc (.cells (jc p.gd (jopd L 0)) 52)) w.heap.size p L (jopd L 0) := ⟨h.near (Near.below hB), Blk.new w 52 _, jopd_length _ _⟩
  have H0 := Lib.hid (And.intro hJ hB)
  have HL := Lib.hid h.len
  clear h hB hJ
  go_enter Tryd.func10, Tryd.ntmps10
  go_wp2_with fail
  refine hr.mono ?_
  rintro e w1 ⟨rfl, hw⟩
  obtain rfl := hw.symm
  clear hw hr
  have hjz := jz_eq p.gd L
  go_wp2_with fail
  clear hjz
  generalize w.alloc (.cells (jc p.gd (jopd L 0)) 52) = w1 at H0 ⊢
  go_loopw [19] (fun v wr => JOpRel w p L v wr) (fun v _ => 16 - (intOf v).toNat)
  case atStart => exact ⟨0, Nat.zero_le _, rfl, H0.out.1, H0.out.2⟩
  case round =>
    obtain ⟨k, hk, rfl, hJ, hB⟩ := hrel
    have HR := Lib.hid (And.intro hJ hB)
    clear hJ hB
    by_cases hlt : k < 16
    · have k1 : wrap64 (8 + (k : Int)) = ((8 + k : Nat) : Int) := by unfold wrap64; omega
      go_wp2_with fail
      refine (jdread1 k hlt HR.out.1.jd).mono ?_
      rintro e w2 ⟨g1, rfl, hg1, hb1, hB1⟩
      have H2 := Lib.hid (And.intro (HR.out.1.below hB1) (And.intro hb1 hB1))
      clear hg1 hb1 hB1 k1
      go_wp2_with fail
      refine (jplace_any (k : Int) (by omega) _).mono ?_
      rintro e w2' ⟨rfl, hw⟩
      obtain rfl := hw.symm
      clear hw
      rw [show (24 : Int) + 5 * (k : Int) = ((24 + 5 * k : Nat) : Int) by omega]
      go_wp2_with fail
      refine (jdread5 k hlt H2.out.1.jd).mono ?_
      rintro e w3 ⟨g2, rfl, hg2, hb2, hB2⟩
      have H3 := Lib.hid (And.intro (H2.out.1.below hB2) (And.intro (Bytes.below H2.out.2.1 hB2) (And.intro hb2 (H2.out.2.2.trans (hB2.mono H2.out.2.2.size)))))
      clear hg2 hb2 hB2 H2
      go_wp2_with fail
      have hC0 : Near [w.heap.size] w3 w3.drew := (Near.refl _ _).drew
      have hN0 : Near [] w3 w3.drew := (Near.refl _ _).drew
      refine wp_region_tree (Near [w.heap.size] w3) [] (PlanT.takes [0, 1, 2, 3, 4, 6, 7] (.opt 5 (PlanT.takes [8] (.opt 9 .done .no)) .no)) (by kernel_rfl) (by kernel_rfl) (hC0) ?_
      refine wpTree_pure _ _ _ (by rfl) (by rfl) ?_
      dsimp only [List.filterMap, List.getElem?_cons_zero, List.getElem?_cons_succ]
      repeat (go_big_quiet_step (fail))
      refine wpQuiet_nil ?_
      refine wpTree_one _ rfl ?_
      go_wp2_with fail
      refine (judge_any (some ⟨g1, 0, none⟩) (some ⟨g2, 0, none⟩) 256 256 1280 1280 (jhd L k) (jpr L k) (k : Int) (by omega) ⟨(jhd_length HL.out hlt).symm, by omega, by omega⟩ ⟨(jpr_length HL.out hlt).symm, by omega, by omega, by omega⟩ w3.drew (Bytes.near H3.out.2.1 hN0 (fun _ _ => by simp)) (Bytes.near H3.out.2.2.1 hN0 (fun _ _ => by simp))).mono ?_
      rintro e w4 ⟨rfl, hB4⟩
      have hN4 : Near [] w3 w4 := hN0.trans (Near.below hB4)
      have hBB : Below w.heap.size w w4 := ((HR.out.2.trans (H3.out.2.2.2.mono HR.out.2.size)).drew).trans (hB4.mono (by have := HR.out.2.size; have := H3.out.2.2.2.size; rw [World.size_drew]; omega))
      have H4 := Lib.hid (And.intro (H3.out.1.near hN4) (And.intro hN4 hBB))
      have hs := Lib.hid (jopd_succ L k)
      clear hB4 hN4 hN0 hBB
      unfold stv
      generalize Slot.judge (jhd L k) (jpr L k) (k : Int) = x at hs ⊢
      go_wp2_with fail
      refine TreeQ.in_ (H4.out.2.1.wider (fun x hx => by cases hx)) ?_
      refine wpTree_pure _ _ _ (by rfl) (by rfl) ?_
      dsimp only [List.filterMap, List.getElem?_cons_zero, List.getElem?_cons_succ]
      repeat (go_big_quiet_step (fail))
      refine wpQuiet_nil ?_
      refine wpTree_one _ rfl ?_
      have hJd := H4.out.1.jb
      go_wp2_with (first
        | ((with_reducible show wpList _ _ _ ((⟨none, _, _, _, _, _⟩ : Oper) :: _) _ _); refine wpList_store_in (o := ⟨none, _, _, _, _, _⟩) hJd (by rfl) _ _ _ (by rfl) (1 + k * 4) (by rfl) #[.int .i64 x.1, .int .i64 x.2.1, .int .i64 x.2.2.1, .bool x.2.2.2] (by rfl) sizeSt (by rfl) (by rw [jc_size, jopd_length]; omega) (st_one _ _ _ _) ?_; intro w7 hg7 hu7)
        | fail)
      have hn7 : Near [w.heap.size] w3 w7 := (H4.out.2.1.wider (fun x hx => by cases hx)).trans (Near.upd hu7 (List.mem_singleton_self _))
      refine TreeQ.in_ hn7 ?_
      refine wpTree_done ?_
      have hb7 : Blk w7 w.heap.size 52 (jc p.gd (jopd L (k + 1))) := by
        rw [← hs.out, ← jc_set p.gd (jopd L k) k x (by rw [jopd_length]; exact hlt), show 1 + 4 * k = 1 + k * 4 by omega]
        exact hg7
      have hgj := H4.out.1.off
      have hd7 : JD w7 p L := H4.out.1.jd.near' (Near.upd hu7 (List.mem_singleton_self _)) (by
        unfold Pl.all at hgj
        simp at hgj ⊢
        exact ⟨fun e => hgj.1 e.symm, fun e => hgj.2.1 e.symm, fun e => hgj.2.2 e.symm⟩)
      have HE := Lib.hid (And.intro (JR.mk hd7 hb7 (jopd_length _ _)) (H4.out.2.2.upd hu7 (Nat.le_refl _)))
      clear hn7 hb7 hd7 hgj hg7 hu7 hJd hC0
      go_wp2_with fail
      exact ⟨⟨k + 1, by omega, by go_num, HE.out.1, HE.out.2⟩, by simp [intOf]; omega⟩
    · obtain rfl : k = 16 := by omega
      clear hlt hk
      go_wp2
      go_ret2
      exact ⟨_, rfl, Nat.le_refl _, HR.out⟩
end
end Go.Proofs.YtfoegmjpfkmggaaDoor

/- A slot's bytes of a prepare: the program's and the document's. Conditions: the body can be read; the numbers are what Go's types hold. -/
namespace Go.Proofs.YtfoegmjpfkmggaaDoor
open Go.RowKit
theorem Ent.nil_is (w : World) : Ent.Is w ⟨none, 0, []⟩ := ⟨Nat.le_refl _, by simp, .inl ⟨rfl, rfl⟩⟩
theorem Ent.nil_blk (b : Nat) : ∀ g, Ent.blk ⟨none, 0, []⟩ = some g → b ≤ g := fun g h => (by cases h)
set_option maxRecDepth 100000 in
set_option maxHeartbeats 2000000 in
theorem sbytes_any (f : HdF) (A : Option Addr) (n c : Nat) (body : List UInt8) (w : World) (hn : n = body.length) (hby : Bytes w A body) (hc : n ≤ c ∧ c ≤ 9223372036854775807) (hin : Hd.in_ f) :
    Calls Tryd.prog 21 #[.agg (msgc f (.slice A n c))] w fun e w' => ∃ E : Ent, e = .returned (.tuple #[E.val, .int .i64 (Slot.bytes f body).1]) ∧ E.Is w' ∧ (∀ g, E.blk = some g → w.heap.size ≤ g) ∧ E.n = E.l.length ∧
      E.l = (Slot.bytes f body).2 ∧ Below w.heap.size w w' := by
  have hm := Blk.new w 38 (msgc f (.slice A n c))
  have hB := (Below.refl w.heap.size w).alloc (Nat.le_refl _) (.cells (msgc f (.slice A n c)) 38)
  replace hby := Bytes.below hby hB
  have HN := Lib.hid hn
  have HC := Lib.hid hc
  have HIN := Lib.hid hin
  clear hn hc hin
  go_enter Tryd.func21, Tryd.ntmps21
  go_wp2_with (first
    | ((with_reducible show wpList _ _ _ ((⟨some 8, _, _, _, _, _⟩ : Oper) :: _) _ _); refine wpList_load_blk (o := ⟨some 8, _, _, _, _, _⟩) (hm) (by rfl) _ _ (by rfl) (by rfl) _ Tryd.underlying38 (by rfl) (sizeMsg) (msgc_size _ _) ?_)
    | fail)
  generalize w.alloc (.cells (msgc f (.slice A n c)) 38) = w1 at hm hB hby ⊢
  generalize hs0 : w.heap.size = s0 at hm ⊢
  have HS0 := Lib.hid hs0
  clear hs0
  refine (hseal_any f A n c body w1 HN.out hby HC.out HIN.out).mono ?_
  have hlt1 := hm.lt
  rintro e w2 ⟨E, rfl, hE, hEg, hEn, hEl, hbx⟩
  (replace hm := keep hbx hm; replace hB := hB.trans (hbx.mono hB.size))
  have hsz2 := hbx.size
  clear hbx hby HIN HN HC
  rcases Msg.seal_cases f body with ⟨hs, hl3, hok⟩ | ⟨co, hco, hs⟩
  · have hbl := Hd.bytes_length (setF f 2 body.length) body
    obtain ⟨X, hX⟩ : ∃ X, X = Hd.bytes (setF f 2 body.length) body := ⟨_, rfl⟩
    rw [← hX] at hs hbl
    have HSB := Lib.hid (show Slot.bytes f body = if Slot.is f (Slot.of (f 5)) = true then (0, fillN 1280 X) else (2, []) by unfold Slot.bytes; rw [hs, if_pos rfl])
    rw [hs] at hEl ⊢
    dsimp only at hEl ⊢
    obtain ⟨A2, n2, l2⟩ := E
    dsimp only at hEn hEl
    subst hEl hEn
    have HE := Lib.hid (And.intro hE (And.intro hEg (And.intro hbl hl3)))
    dsimp only [Ent.val]
    clear hE hEg hbl hl3 hs hX hok
    go_wp2_with fail
    refine wp_region_tree (Below w2.heap.size w2) [] (PlanT.takes [0, 2, 3] (PlanT.takes [1, 4] (.opt 5 (.opt 6 (PlanT.takes [7] .done) .no) .no))) (by kernel_rfl) (by kernel_rfl) ((Below.refl _ _).drew) ?_
    refine wpTree_pure _ _ _ (by rfl) (by rfl) ?_
    dsimp only [List.filterMap, List.getElem?_cons_zero, List.getElem?_cons_succ]
    repeat (go_big_quiet_step (fail))
    refine wpQuiet_nil ?_
    refine wpTree_takeL _ _ _ (by rfl) (by rfl) ((Below.refl _ _).drew) ?_
    dsimp only [List.filterMap, List.getElem?_cons_zero, List.getElem?_cons_succ]
    (refine wpQuiet_load_mid (fun w' hw' => hd_mid hm w' hw') (by rfl) _ _ (by rfl) (by rfl) _ Tryd.underlying35 (by rfl) (sizeHd) (by rw [Array.length_toList, hdc_size]) ?_; simp only [Act.put, List.setIfInBounds_toArray, List.set_cons_zero, List.set_cons_succ])
    (refine wpQuiet_load_cell (fun w' hw' => (hm.below hw' hm.lt).at_ 5 (msgc_at f _ 5 (by omega))) (by rfl) _ _ (by rfl) (by rfl) _ Tryd.underlying3 (by rfl) ?_; simp only [Act.put, List.setIfInBounds_toArray, List.set_cons_zero, List.set_cons_succ])
    refine wpQuiet_nil ?_
    rw [Array.toArray_toList]
    refine wpTree_one _ rfl ?_
    go_wp2_with fail
    refine (sof_any (f 5) _).mono ?_
    rintro e w3 ⟨rfl, hw3⟩
    have hC3 : Below w2.heap.size w2 w3 := by rw [hw3]; exact (Below.refl _ _).drew
    clear hw3
    obtain ⟨o, ho⟩ : ∃ o, o = Slot.of (f 5) := ⟨_, rfl⟩
    rw [← ho]
    have HO := Lib.hid ho
    clear ho
    go_wp2_with fail
    refine TreeQ.in_ hC3 ?_
    refine wpTree_one _ rfl ?_
    go_wp2_with fail
    refine (sis_any f o w3).mono ?_
    rintro e w4 ⟨rfl, hbx⟩
    have hC4 := hC3.trans (hbx.mono hC3.size)
    clear hbx hC3
    obtain ⟨q, hq⟩ : ∃ q, q = Slot.is f o := ⟨_, rfl⟩
    rw [← hq]
    rw [HO.out] at hq
    have HQ := Lib.hid hq
    clear hq
    go_wp2_with fail
    refine TreeQ.in_ hC4 ?_
    refine wpTree_pure _ _ _ (by rfl) (by rfl) ?_
    dsimp only [List.filterMap, List.getElem?_cons_zero, List.getElem?_cons_succ]
    repeat (go_big_quiet_step (fail))
    refine wpQuiet_nil ?_
    refine wpTree_done ?_
    have hB4 := hB.trans (hC4.mono hB.size)
    have hm4 := hm.below hC4 hm.lt
    clear hm hB
    cases q
    · have HB := Lib.hid hB4
      clear hB4 hm4 hC4
      go_wp2
      go_ret2
      rw [HSB.out, ← HQ.out]
      exact ⟨⟨none, 0, []⟩, rfl, Ent.nil_is _, Ent.nil_blk _, rfl, rfl, HB.out⟩
    · have hX4 : Bytes w4 A2 l2 := Bytes.below (Ent.Is.bytes HE.out.1) hC4
      have hXl : l2.length ≤ 1280 := by have := HE.out.2.2; omega
      have hc4 := hC4.size
      clear hC4
      go_wp2_with (first
        | ((with_reducible show wpList _ _ _ ((⟨some 23, _, _, _, _, _⟩ : Oper) :: _) _ _); refine wpList_make_bytes (o := ⟨some 23, _, _, _, _, _⟩) _ (by rfl) _ _ _ (by rfl) _ Tryd.underlying36 u8info .i64 .i64 _ _ (1280) (1280) (by rfl) (by rfl) (by first | rfl | omega) (by first | rfl | omega) (by omega) (by omega) ?_; intro w5 h5 hb5 hs5; have hX5 := hX4.below hb5)
        | (show wpList _ _ _ ((⟨some 26, _, _, _, _, _⟩ : Oper) :: _) _ _; refine wpList_copy_bytes (o := ⟨some 26, _, _, _, _, _⟩) (by rfl) _ _ _ _ (by rfl) 5 Tryd.underlying36 size1 w4.heap.size 1280 1280 A2 l2.length l2.length (by rfl) (by rfl) (List.replicate 1280 0) l2 _ h5 rfl hX5 (by simpa using hXl) hXl ?_; intro w6 h6 hu6; have HBX := Lib.hid ((hB4.trans (hb5.mono hB4.size)).upd hu6 (by have := hB4.size; omega)); have H6 := Lib.hid h6; clear h5 hb5 hu6 hX5 hs5 hB4)
        | fail)
      go_ret2
      rw [HSB.out, ← HQ.out, if_pos rfl]
      have hfl := fillN_length 1280 l2 hXl
      refine ⟨⟨some ⟨w4.heap.size, 0, none⟩, 1280, fillN 1280 l2⟩, by unfold Ent.val; simp only; rw [hfl]; rfl, ⟨by simp only; omega, by simp only; omega, .inr ⟨w4.heap.size, 5, rfl, H6.out.sub ?_⟩⟩, fun g h => ?_, by simp only; omega, rfl, HBX.out⟩
      · unfold fillN; rw [List.drop_replicate]
      · unfold Ent.blk at h; simp at h; have := HS0.out; omega
  · have HSB := Lib.hid (show Slot.bytes f body = (co, []) by unfold Slot.bytes; rw [hs, if_neg hco])
    rw [hs] at hEl ⊢
    have hc0 : (co != 0) = true := by rw [bne_iff_ne]; exact hco
    dsimp only
    have HB := Lib.hid hB
    clear hE hEg hEn hEl hs hco hm hB
    go_wp2
    go_ret2
    rw [HSB.out]
    exact ⟨⟨none, 0, []⟩, rfl, Ent.nil_is _, Ent.nil_blk _, rfl, rfl, HB.out⟩
end Go.Proofs.YtfoegmjpfkmggaaDoor

/- How two states of slots are compared; a prepare without a body and its slot's bytes. No condition. -/
namespace Go
end Go
namespace Go.Proofs.YtfoegmjpfkmggaaDoor
open Go.RowKit
theorem noselSt : Tryd.prog.eqGuardType Tryd.prog.depth 47 = false := by kernel_rfl
theorem heldSt : Tryd.prog.stoodInHeld 47 = false := by kernel_rfl
abbrev SSt := Int × Int × Int × Bool
set_option maxRecDepth 100000 in
set_option maxHeartbeats 1000000 in
theorem eqSt (w : World) (x y : SSt) : (Op.equalIn 10000 47 (stv x) (stv y)).run Tryd.prog w = .ok (decide (x = y)) w := by
  obtain ⟨a1, a2, a3, a4⟩ := x
  obtain ⟨b1, b2, b3, b4⟩ := y
  unfold stv
  have hu : Tryd.prog.underlying 47 = some (.struct (Tryd.prog.fieldsOf 47)) := by kernel_rfl
  rw [show (10000 : Nat) = 9999 + 1 from rfl, run_equalIn_struct w 9999 47 _ _ hu heldSt]
  have e : Tryd.prog.fieldsOf 47 = (match Tryd.prog.underlying 47 with | some (.struct fs) => fs | _ => #[]) := rfl
  rw [e, Tryd.underlying47]
  have ei := Tryd.underlying3
  have ej := Tryd.underlying4
  simp [Op.eqFields, part, go_sem, ei, ej]
  by_cases h1 : a1 = b1 <;> by_cases h2 : a2 = b2 <;> by_cases h3 : a3 = b3 <;> cases a4 <;> cases b4 <;> simp [h1, h2, h3]
/-! ### A prepare without a body -/
def fP (op vw : Int) : HdF := fun i => if i = 0 then 2 else if i = 3 then vw else if i = 5 then op else 0
theorem fP_ok (op vw : Int) (h : 1 ≤ op ∧ op ≤ 1000 ∧ 0 ≤ vw ∧ vw ≤ 1000) : Hd.ok (fP op vw) = true ∧ Hd.in_ (fP op vw) ∧ setF (fP op vw) 2 0 = fP op vw ∧ Slot.is (fP op vw) (Slot.of op) = true := by
  refine ⟨?_, by unfold Hd.in_ fP; simp, setF_self _ _ _ rfl, ?_⟩
  · unfold Hd.ok tenI numOk fP
    simp
    omega
  · unfold Slot.is fP
    simp
    omega
end Go.Proofs.YtfoegmjpfkmggaaDoor

/- The chapter's examples of slots that each statement looks at. No condition. -/
namespace Go.Proofs.YtfoegmjpfkmggaaDoor
open Go.RowKit
theorem Slot.put_same (F G : HdF) (D : List UInt8) (z : Bool) : Slot.put (true, F, D) (2, G) true z = (1, F 5, F 3, false) := by simp [Slot.put]
end Go.Proofs.YtfoegmjpfkmggaaDoor

/- A slot's bytes of a prepare: what they are, what they say. Plain facts. No condition. -/
namespace Go.Proofs.YtfoegmjpfkmggaaDoor
open Go.RowKit
/-- A slot's bytes of a prepare: what they say. -/
theorem Slot.bytes_say (f : HdF) (l : List UInt8) (hin : Hd.in_ f) (hl : l.length ≤ 1024) (hok : Hd.ok (setF f 2 l.length) = true) (hi : Slot.is f (Slot.of (f 5)) = true) :
    ∃ F, (fillN 1280 (Hd.bytes (setF f 2 l.length) l)).length = 1280 ∧ (fillN 1280 (Hd.bytes (setF f 2 l.length) l)).take (256 + l.length) = Hd.bytes (setF f 2 l.length) l ∧
      Slot.prep (fillN 1280 (Hd.bytes (setF f 2 l.length) l)) (Slot.of (f 5)) = (true, F, l) ∧ Slot.kind ((fillN 1280 (Hd.bytes (setF f 2 l.length) l)).take 256) (Slot.of (f 5)) = (2, F) ∧ Hd.same F (setF f 2 l.length) := by
  have hbl := Hd.bytes_length (setF f 2 l.length) l
  have ht : (fillN 1280 (Hd.bytes (setF f 2 l.length) l)).take (256 + l.length) = Hd.bytes (setF f 2 l.length) l := by
    rw [fillN_take _ _ _ (by omega), ← hbl, List.take_length]
  have hi2 : Slot.is (setF f 2 l.length) (Slot.of (f 5)) = true := by
    have : Slot.is (setF f 2 l.length) (Slot.of (f 5)) = Slot.is f (Slot.of (f 5)) := by unfold Slot.is setF; simp
    rw [this]; exact hi
  have hin2 := setF_in f l.length hin
  obtain ⟨h1, h2, h3⟩ := Slot.prep_bytes _ _ l (Slot.of (f 5)) ht hok hin2 (by unfold setF; rw [if_pos rfl]) hi2
  refine ⟨_, fillN_length _ _ (by omega), ht, h1, ?_, h2⟩
  rw [h3]
  exact Slot.kind_bytes _ l _ hok hin2 hi2
end Go.Proofs.YtfoegmjpfkmggaaDoor

/- Put. Conditions: the journal is known; the message's bytes can be read. -/
namespace Go.Proofs.YtfoegmjpfkmggaaDoor
open Go.RowKit
def jslot (f : HdF) : Nat := (Slot.of (f 5)).toNat
theorem jslot_lt (f : HdF) : jslot f < 16 ∧ Slot.of (f 5) = (jslot f : Int) := by unfold jslot Slot.of; split <;> omega
theorem callPut1 (args : Array Value) (w : World) : (callFunc 24 args).run Tryd.prog w = .ok (.enter 24 args) w := Tryd.call24 args w
theorem callPut2 (args : Array Value) (w : World) : (callFunc 28 args).run Tryd.prog w = .ok (.enter 28 args) w := Tryd.call28 args w
theorem callFlush (args : Array Value) (w : World) : (callFunc 27 args).run Tryd.prog w = .ok (.enter 27 args) w := Tryd.call27 args w
section
variable {w : World} {gj : Nat} {p : Pl} {L : List UInt8} {l : List SlT}
/-- What a Put's four functions do. -/
theorem jputall {jb nb bb sg k g4 : Nat} {X : List UInt8} (h : PutK w jb nb bb gj sg p k X) (hd : JD w p L) (hb : Blk w g4 63 #[.func (.func 24) #[] #[.pointer (some ⟨jb, 0, none⟩), .pointer (some ⟨nb, 0, none⟩), .pointer (some ⟨bb, 0, none⟩)], .func (.func 27) #[.pointer (some ⟨p.gd, 0, none⟩)] #[], .func (.func 28) #[] #[.pointer (some ⟨jb, 0, none⟩), .pointer (some ⟨nb, 0, none⟩), .pointer (some ⟨bb, 0, none⟩)], .func (.func 27) #[.pointer (some ⟨p.gd, 0, none⟩)] #[]]) (hg4 : g4 ∉ p.all none) :
    Calls Tryd.prog 23 #[.slice (some ⟨g4, 0, none⟩) 4 4] w fun e w' => e = .returned (.int .i64 0) ∧ JD w' p (wr (wr L (256 * (24 + 5 * k)) X) (256 * (8 + k)) (X.take 256)) ∧ Near (p.all none) w w' := by
  refine (jall_any [(24, #[], #[.pointer (some ⟨jb, 0, none⟩), .pointer (some ⟨nb, 0, none⟩), .pointer (some ⟨bb, 0, none⟩)]), (27, #[.pointer (some ⟨p.gd, 0, none⟩)], #[]), (28, #[], #[.pointer (some ⟨jb, 0, none⟩), .pointer (some ⟨nb, 0, none⟩), .pointer (some ⟨bb, 0, none⟩)]), (27, #[.pointer (some ⟨p.gd, 0, none⟩)], #[])] g4 4 4
    (fun i w' => JD w' p (if i = 0 then L else if i ≤ 2 then wr L (256 * (24 + 5 * k)) X else wr (wr L (256 * (24 + 5 * k)) X) (256 * (8 + k)) (X.take 256)) ∧ Near (p.all none) w w') w rfl (by omega) ?_ ?_ ?_ ⟨hd, Near.refl _ _⟩).mono ?_
  · rintro i w' hi ⟨_, hn⟩
    have hb' := hb.near hn hg4
    have hi4 : i < 4 := hi
    rcases (by omega : i = 0 ∨ i = 1 ∨ i = 2 ∨ i = 3) with rfl | rfl | rfl | rfl <;> exact hb'.at_ _ rfl
  · intro i hi args w'
    have hi4 : i < 4 := hi
    rcases (by omega : i = 0 ∨ i = 1 ∨ i = 2 ∨ i = 3) with rfl | rfl | rfl | rfl
    · exact callPut1 args w'
    · exact callFlush args w'
    · exact callPut2 args w'
    · exact callFlush args w'
  · rintro i w' hi ⟨hd', hn⟩
    have hi4 : i < 4 := hi
    have hK := h.near hn
    rcases (by omega : i = 0 ∨ i = 1 ∨ i = 2 ∨ i = 3) with rfl | rfl | rfl | rfl
    · refine (jput1_any hK hd').mono ?_
      rintro e w2 ⟨rfl, h1, h2⟩
      exact ⟨rfl, h1, hn.trans h2⟩
    · refine (jdflush hd').mono ?_
      rintro e w2 ⟨rfl, h1, h2⟩
      exact ⟨rfl, h1, hn.trans h2⟩
    · refine (jput2_any hK hd').mono ?_
      rintro e w2 ⟨rfl, h1, h2⟩
      exact ⟨rfl, h1, hn.trans h2⟩
    · refine (jdflush hd').mono ?_
      rintro e w2 ⟨rfl, h1, h2⟩
      exact ⟨rfl, h1, hn.trans h2⟩
  · rintro e w' ⟨rfl, h1, h2⟩
    exact ⟨rfl, h1, h2⟩
end
end Go.Proofs.YtfoegmjpfkmggaaDoor

/- The plain journal: what Get answers; the slots behind a Format; what a Put changes in the rings' bytes. Plain facts. No condition. -/
namespace Go.Proofs.YtfoegmjpfkmggaaDoor
open Go.RowKit
theorem jp_zeros_read : (Hd.read (List.replicate 256 (0 : UInt8))).1 ≠ 0 := Hd.read_no _ (by decide +kernel)
theorem jp_zeros_prep (n : Int) : Slot.prep (List.replicate 1280 (0 : UInt8)) n = Slot.no := by
  unfold Slot.prep
  rw [if_neg (by rw [List.length_replicate]; omega), if_pos (by rw [List.take_replicate]; exact jp_zeros_read)]
theorem jp_judge_empty (n : Nat) (hn : n < 16) : Slot.judge (Hd.bytes (Slot.fU n) []) (List.replicate 1280 (0 : UInt8)) n = (4, 0, 0, false) := by
  rw [Slot.judge_in _ _ _ (by omega), jp_zeros_prep, Slot.kind_unw n (by omega)]
  have h : ((List.replicate 1280 (0 : UInt8)).all (· == 0)) = true := by rw [List.all_eq_true]; intro x hx; rw [List.eq_of_mem_replicate hx]; rfl
  rw [h]
  generalize decide (Hd.bytes (Slot.fU n) [] = (List.replicate 1280 (0 : UInt8)).take 256) = s
  simp [Slot.put, Slot.no]
/-- Behind a Format all slots are empty. -/
theorem jopd_fmt (L : List UInt8) (hL : 26624 ≤ L.length) : jopd (jfmt L (List.replicate 20480 0) (jheads 16)) 16 = List.replicate 16 (4, 0, 0, false) := by
  have hZ : (List.replicate 20480 (0 : UInt8)).length = 20480 := List.length_replicate ..
  have hH : (jheads 16).length = 4096 := jheads_length 16
  apply List.ext_getElem
  · rw [jopd_length, List.length_replicate]
  · intro i h1 h2
    have hi : i < 16 := by rw [jopd_length] at h1; exact h1
    rw [jopd_at, if_pos hi, List.getElem_replicate, jhd_fmt hL hZ hH hi, jpr_fmt hL hZ hH hi, jheads_at i 16 hi, List.drop_replicate, List.take_replicate, show min 1280 (20480 - 1280 * i) = 1280 by omega]
    exact jp_judge_empty i hi
def jst (l : List SlT) (n : Nat) : SlT := l.getD n (0, 0, 0, false)
def jsl (op : Int) : Nat := (Slot.of op).toNat
theorem jsl_lt (op : Int) : jsl op < 16 ∧ Slot.of op = (jsl op : Int) := by unfold jsl Slot.of; split <;> omega
theorem jst_at {l : List SlT} {n : Nat} (h : n < l.length) : l[n] = jst l n := by unfold jst; rw [List.getD_eq_getElem?_getD, List.getElem?_eq_getElem h]; rfl
/-- What Get answers, and how the slots are then. -/
def jgood (L : List UInt8) (l : List SlT) (op : Int) : Bool :=
  (Slot.prep (jpr L (jsl op)) (jsl op)).1 && ((Slot.prep (jpr L (jsl op)) (jsl op)).2.1 5 == op) && ((Slot.prep (jpr L (jsl op)) (jsl op)).2.1 3 == (jst l (jsl op)).2.2.1)
def jget (L : List UInt8) (l : List SlT) (op : Int) : (Int × HdF × List UInt8) × List SlT :=
  if op < 1 then ((6, Hd.none_, []), l)
  else if (jst l (jsl op)).2.1 ≠ op ∨ ((jst l (jsl op)).1 ≠ 1 ∧ (jst l (jsl op)).1 ≠ 3) then ((6, Hd.none_, []), l)
  else if (jst l (jsl op)).1 = 3 then ((13, Hd.none_, []), l)
  else if jgood L l op = true then ((0, (Slot.prep (jpr L (jsl op)) (jsl op)).2.1, (Slot.prep (jpr L (jsl op)) (jsl op)).2.2), l)
  else ((13, Hd.none_, []), l.set (jsl op) (3, op, (jst l (jsl op)).2.2.1, false))
/-- The rings behind a Put. -/
def jwr (L X : List UInt8) (k : Nat) : List UInt8 := wr (wr L (256 * (24 + 5 * k)) X) (256 * (8 + k)) (X.take 256)
theorem jwr_length {L X : List UInt8} {k : Nat} (h : 26624 ≤ L.length) (hX : X.length = 1280) (hk : k < 16) : (jwr L X k).length = L.length := by
  have h1 : (wr L (256 * (24 + 5 * k)) X).length = L.length := wr_length (by omega)
  have h2 : (X.take 256).length = 256 := by rw [List.length_take]; omega
  unfold jwr
  rw [wr_length (by omega), h1]
theorem jhd_jwr {L X : List UInt8} {k n : Nat} (h : 26624 ≤ L.length) (hX : X.length = 1280) (hk : k < 16) (hn : n < 16) : jhd (jwr L X k) n = if n = k then X.take 256 else jhd L n := by
  have h1 : (wr L (256 * (24 + 5 * k)) X).length = L.length := wr_length (by omega)
  have h2 : (X.take 256).length = 256 := by rw [List.length_take]; omega
  unfold jwr
  rw [jhd_wr_hd (by omega) h2 hk hn, jhd_wr_pr h hX hk hn]
theorem jpr_jwr {L X : List UInt8} {k n : Nat} (h : 26624 ≤ L.length) (hX : X.length = 1280) (hk : k < 16) (hn : n < 16) : jpr (jwr L X k) n = if n = k then X else jpr L n := by
  have h1 : (wr L (256 * (24 + 5 * k)) X).length = L.length := wr_length (by omega)
  have h2 : (X.take 256).length = 256 := by rw [List.length_take]; omega
  unfold jwr
  rw [jpr_wr_hd (by omega) h2 hk, jpr_wr_pr h hX hk hn]
end Go.Proofs.YtfoegmjpfkmggaaDoor

/- Append of values of any size; worlds behind it. Plain facts over any program. No condition. -/
namespace Go
open Go.RowKit
theorem Near.grown {w w' : World} {row : Option Nat} {X : List Nat} (h : w.grownBy w' row) (hX : ∀ k, row = some k → k ∈ X) : Near X w w' := ⟨h.os, h.tape, h.output, h.size, fun k hk hn => h.block k hk fun e => hn (hX k e.symm)⟩
section
variable {P : Program} {w : World}
theorem wpList_append_vals {ops : Array Oper} {rest : List Oper} {o : Oper} {a : Act} {Q : Exit → Act → World → Prop} (hgd : o.guard = none) (s x : Operand) (t : TypeId)
    (ho : o.op = .call { callee := .builtin .append, args := #[s, x], argTypes := #[t, t] })
    (base : Nat) (e : TypeId) (z : Value) (size bytes : Nat) (ht : P.underlying t = some (.slice e)) (hi : (P.info? e).map (fun i => (i.zero, i.size, i.bytes)) = some (some z, size, bytes)) (hzs : z.cells.size = size) (hsz : 0 < size)
    (v : Value) (n : Nat) (xs sp : List Value) (hs : a.eval s = v) (hown : OwnsC e size w base v n xs sp)
    (A : Option Addr) (m c : Nat) (news : List Value) (hx : a.eval x = .slice A m c) (hl : news.length = m * size) (hr : Reads w A news) (h1 : ∀ u ∈ news, u.oneCell' = true)
    (h63 : n + m ≤ maxLen) (hbytes : (n + m) * bytes ≤ 140737488355328) (hbase : base ≤ w.heap.size)
    (h : ∀ v' w' sp', OwnsC e size w' base v' (n + m) (xs ++ news) sp' → w.grownBy w' v.ownBlock → (v'.ownBlock = v.ownBlock ∨ v'.ownBlock = some w.heap.size) → (v' = .slice none 0 0 ↔ v = .slice none 0 0 ∧ m = 0) → wpList P ops Q rest (a.put o.dst v') w') : wpList P ops Q (o :: rest) a w :=
  wpList_plain hgd fun _ hK => wp_append_all s x t ho base e z size bytes ht hi hzs hsz v n xs sp hs hown A m c news hx hl hr h1 h63 hbytes hbase fun v' w' sp' h1 h2 h3 _ h5 => hK _ _ (h v' w' sp' h1 h2 h3 h5)
end
end Go

/- Slots of a journal that was made: a new slice of all of them. Condition: the journal is known. -/
namespace Go.Proofs.YtfoegmjpfkmggaaDoor
open Go.RowKit
section
variable {w : World} {gj : Nat} {p : Pl} {L : List UInt8} {l : List SlT}
theorem infoSt : (Tryd.prog.info? 47).map (fun i => (i.zero, i.size, i.bytes)) = some (some (.agg #[.int .i64 0, .int .i64 0, .int .i64 0, .bool false]), 4, 32) := by kernel_rfl
set_option maxRecDepth 100000 in
set_option maxHeartbeats 2000000 in
theorem jslots_any (h : JR w gj p L l) : Calls Tryd.prog 13 #[.pointer (some ⟨gj, 0, none⟩)] w fun e w' => ∃ v, e = .returned v ∧ (∃ sp, OwnsC 47 4 w' w.heap.size v 16 (slcs l) sp) ∧ Below w.heap.size w w' := by
  have hn := jnone_any h
  have hl16 : (slcs l).length = 16 * 4 := by rw [slcs_length, h.n16]
  have hr : Reads w (some ⟨gj, 1, none⟩) (slcs l) := fun _ => ⟨gj, 1, rfl, fun j v hv => by
    rw [h.jb.cell]
    unfold jc
    rw [List.getElem?_toArray, show 1 + j = j + 1 by omega, List.getElem?_cons_succ]
    exact hv⟩
  have ho1 : ∀ u ∈ slcs l, u.oneCell' = true := List.all_eq_true.1 (slcs_one l)
  have HH := Lib.hid (And.intro hl16 (And.intro hr ho1))
  clear h hl16 hr ho1
  go_enter Tryd.func13, Tryd.ntmps13
  go_wp2_with fail
  refine hn.mono ?_
  rintro e w1 ⟨rfl, hw⟩
  obtain rfl := hw.symm
  clear hw hn
  go_wp2_with (first
    | ((with_reducible show wpList _ _ _ ((⟨some 9, _, _, _, _, _⟩ : Oper) :: _) _ _); refine wpList_append_vals (o := ⟨some 9, _, _, _, _, _⟩) (by rfl) _ _ _ (by rfl) w.heap.size 47 _ 4 32 Tryd.underlying44 infoSt (by rfl) (by omega) (.slice none 0 0) 0 [] [] (by rfl) (OwnsC.nil _ _ _ _) (some ⟨gj, 1, none⟩) 16 16 (slcs l) (by rfl) HH.out.1 HH.out.2.1 HH.out.2.2 (by simp [maxLen]) (by omega) (Nat.le_refl _) ?_; intro v2 w2 sp2 ho2 hg2 _ _; have HX := Lib.hid (And.intro ho2 ((Below.refl w.heap.size w).grown hg2 (Nat.le_refl _) (fun j hj => by cases hj))); clear ho2 hg2)
    | fail)
  go_ret
  exact ⟨v2, rfl, ⟨sp2, HX.out.1⟩, HX.out.2⟩
end
end Go.Proofs.YtfoegmjpfkmggaaDoor
