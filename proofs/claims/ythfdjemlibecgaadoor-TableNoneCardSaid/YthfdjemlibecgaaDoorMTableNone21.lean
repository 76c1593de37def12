/- The tables' laws: the chapter's table is written and asked. Condition: the library's table is there. -/
import Derived.Test.YthfdjemlibecgaaDoorMTableNone20
import Derived.Test.YthfdjemlibecgaaDoorTie
import Derived.Test.YthfdjemlibecgaaDoorCards
import Derived.SevenTiedAt
namespace Go.Proofs.YthfdjemlibecgaaDoor
open Go.RowKit
theorem abc_pack : ppack abcL = (0, [abcL]) := by kernel_rfl
theorem abc_find1 : pfind abcL [97] = some ([97], [49], false, ()) := by kernel_rfl
theorem abc_find2 : pfind abcL [100] = none := by kernel_rfl
theorem abc_cnt : cnts (tG 8 0).L 0 = 8 := by decide +kernel
theorem abc_ix : kbytes ((ppack abcL).2.map gkey) = [1, 97] := by decide +kernel
theorem abc_bd : ((ppack abcL).2.map gbody).length = 1 := by decide +kernel
theorem abc_bl : ∀ b ∈ (ppack abcL).2.map gbody, b.length ≤ 860 := by decide +kernel
def abD (s : Int) : Nat → Dsk := tD 8 s ((ppack abcL).2.map gbody) (kbytes ((ppack abcL).2.map gkey)) (Dsk.new (104 + 4 * 8))
theorem abc_puts : Puts 5 ((ppack abcL).2.map gbody) (kbytes ((ppack abcL).2.map gkey)) (2, 5, ()) (tG 8) (abD 5) (tk 5) ∧ TWr 8 5 ((ppack abcL).2.map gbody) (kbytes ((ppack abcL).2.map gkey)) (Dsk.new (104 + 4 * 8)).N 2 (abD 5 2) := by
  have h := puts_new (n := 8) (s := 5) (bs := (ppack abcL).2.map gbody) (ix := kbytes ((ppack abcL).2.map gkey)) (d := Dsk.new (104 + 4 * 8)) (by decide) (by decide) (by rw [abc_bd]; omega) abc_bl (by rw [abc_ix]; decide) (by omega) (by rw [abc_bd]; omega) ⟨Dsk.Ok.new (by omega), rfl, Nat.le_refl _⟩
  rw [abc_bd] at h
  exact h
theorem abc_get (key : List UInt8) : tget (tG 8 2) (abD 5 2) none (2, 5, ()) key = ((match pfind abcL key with | none => 6 | some _ => 0), (pfind abcL key).getD pnone, tG 8 2) ∧ ∀ a b : Nat, a ≤ b → b < (topen (tG 8 2) (abD 5 2) none (2, 5, ())).2.1.2.length → key < (topen (tG 8 2) (abD 5 2) none (2, 5, ())).2.1.2.getD a [] → key < (topen (tG 8 2) (abD 5 2) none (2, 5, ())).2.1.2.getD b [] := by
  have hl : (ppack abcL).2.length = 1 := by rw [abc_pack]; rfl
  have h := table_get (n := 8) (s := 5) (l := abcL) (N := (Dsk.new (104 + 4 * 8)).N) (d := abD 5 2) (g := tG 8 2) (by rw [abc_pack]) (by rw [hl]; exact abc_puts.2) (by decide) (by decide) (by omega) (by rw [hl]; omega) rfl key
  rw [hl, show tk 5 1 = ((2 : Int), (5 : Int), ()) from rfl] at h
  exact h
set_option maxRecDepth 100000 in
set_option maxHeartbeats 4000000 in
theorem tawake_any (w : World) (hT : Tab w) : Calls Tryd.prog 56 #[] w fun e w' => e = .returned (.bool true) ∧ Below w.heap.size w w' := by
  have HT := Lib.hid hT
  have hz := zeroPairrun
  clear hT
  go_enter Tryd.func56, Tryd.ntmps56
  go_wp2_with fail
  refine (tmade_any 8 (by omega) (by omega) w).mono ?_
  rintro e w1 ⟨gp, dp, rfl, ⟨q, rfl, rfl, hgf, hG, hall⟩, hb1⟩
  have H1 := Lib.hid (And.intro hgf (And.intro (show GridR w1 q (tG 8 0) (abD 5 0) none from hG) (And.intro hall hb1)))
  clear hgf hG hall hb1
  go_wp2_with fail
  refine (abc_any w1).mono ?_
  rintro e w2 ⟨b, rfl, hP, hX, hb2, -⟩
  have hb02 := H1.out.2.2.2.trans (hb2.mono H1.out.2.2.2.size)
  have hbu := tbuild_any (w := w2) (q := q) (G := tG 8) (D := abD 5) (R := tk 5) (root := (2, 5, ())) (s := 5) (H1.out.2.1.below hb2) (HT.out.below hb02) (fun hm => by have := H1.out.2.2.1 _ hm; have := HT.out.1; omega) (some ⟨b, 0, none⟩) 3 abcL (by decide) hP (hX q.all (fun x hx => H1.out.2.1.lt x hx)) (by rw [abc_pack]) (by decide) (by decide) (by rw [abc_cnt, abc_pack]; decide) abc_puts.1 [97] [99] ⟨_, rfl, rfl⟩ ⟨_, rfl, rfl⟩
  rw [show (ppack abcL).2.length = 1 by rw [abc_pack]; rfl] at hbu
  rw [show ((abcL.length : Nat) : Int) = 3 from rfl] at hbu
  have H2 := Lib.hid hb02
  clear hP hX hb2 hb02
  go_wp2_with fail
  refine hbu.mono ?_
  rintro e w3 ⟨fv, lv, sf, sl, rfl, hf, hl, q3, e1, e2, e3, hG3, hN3, hA3⟩
  obtain ⟨F, cf, rfl, -, -, hbf⟩ := OwnB.open_ hf
  obtain ⟨L, cl, rfl, -, -, hbl⟩ := OwnB.open_ hl
  have hall3 : ∀ x ∈ q3.all, w.heap.size ≤ x := fun x hx => by
    rcases hA3 x hx with h | h
    · exact H1.out.2.2.1 x h
    · exact Nat.le_trans H2.out.size h
  have hb03 : Below w.heap.size w w3 := H2.out.trans (hN3.toBelow (fun x hx => H1.out.2.2.1 x hx) H2.out.size)
  have H3 := Lib.hid (And.intro hb03 (And.intro hG3 (And.intro hall3 (And.intro hbf (And.intro hbl e1)))))
  clear hbu hf hl e2 e3 hG3 hN3 hA3 hall3 hb03 hbf hbl e1
  go_wp2_with (first
    | ((with_reducible show wpList _ _ _ ((⟨some 22, _, _, _, _, _⟩ : Oper) :: _) _ _); refine wpList_bytes_mark (o := ⟨some 22, _, _, _, _, _⟩) (by rfl) _ _ _ (by rfl) Tryd.underlying44 Tryd.underlying5 [97] 1 (w3.heap.size + 1) (Blk.new' (w3.alloc (.cells #[.int .i64 2, .int .i64 5, .int .i64 3, .slice F 1 cf, .slice L 1 cl] 111)) 5 #[.int .u8 97] (n := w3.heap.size + 1) (by simp)) (by rfl) ?_; intro w4 hb4 hu4)
    | ((with_reducible show wpList _ _ _ ((⟨some 24, _, _, _, _, _⟩ : Oper) :: _) _ _); refine wpList_bytes_const (o := ⟨some 24, _, _, _, _, _⟩) (by rfl) _ _ _ (by rfl) Tryd.underlying44 Tryd.underlying5 [99] _ (by rfl) 1 (by rfl) ?_; intro w5 hb5 hk5 hsz; clear hsz)
    | fail)
  have hb34 : Below w3.heap.size w3 w4 := (((Below.refl w3.heap.size w3).alloc (Nat.le_refl _) (.cells #[.int .i64 2, .int .i64 5, .int .i64 3, .slice F 1 cf, .slice L 1 cl] 111)).alloc (by simp) (.cells #[.int .u8 97] 5)).upd hu4 (by omega)
  have hg4 : Blk w4 w3.heap.size 111 #[.int .i64 2, .int .i64 5, .int .i64 3, .slice F 1 cf, .slice L 1 cl] := (((Blk.new w3 111 #[.int .i64 2, .int .i64 5, .int .i64 3, .slice F 1 cf, .slice L 1 cl]).alloc (.cells #[.int .u8 97] 5)).upd hu4 (by omega))
  have hs4 := hg4.lt
  have hb46 := hk5.alloc hk5.size (.cells #[.int .i64 2, .int .i64 5, .int .i64 3, .slice (some ⟨w3.heap.size + 1, 0, none⟩) 1 1, .slice (some ⟨w4.heap.size, 0, none⟩) 1 1] 111)
  have hg6 := Blk.new w5 111 #[.int .i64 2, .int .i64 5, .int .i64 3, .slice (some ⟨w3.heap.size + 1, 0, none⟩) 1 1, .slice (some ⟨w4.heap.size, 0, none⟩) 1 1]
  have hb36 := hb34.trans (hb46.mono hb34.size)
  have hb06 := H3.out.1.trans (hb36.mono H3.out.1.size)
  have hd : Below (w5.alloc (.cells #[.int .i64 2, .int .i64 5, .int .i64 3, .slice (some ⟨w3.heap.size + 1, 0, none⟩) 1 1, .slice (some ⟨w4.heap.size, 0, none⟩) 1 1] 111)).heap.size (w5.alloc (.cells #[.int .i64 2, .int .i64 5, .int .i64 3, .slice (some ⟨w3.heap.size + 1, 0, none⟩) 1 1, .slice (some ⟨w4.heap.size, 0, none⟩) 1 1] 111)) (w5.alloc (.cells #[.int .i64 2, .int .i64 5, .int .i64 3, .slice (some ⟨w3.heap.size + 1, 0, none⟩) 1 1, .slice (some ⟨w4.heap.size, 0, none⟩) 1 1] 111)).drew := (Below.refl _ _).drew
  have H6 := Lib.hid (And.intro (hb06.drew) (And.intro (H3.out.2.1.below hb36.drew) (And.intro (Bytes.below H3.out.2.2.2.1 hb36.drew) (And.intro (Bytes.below H3.out.2.2.2.2.1 hb36.drew) (And.intro (Bytes.below hb4 hb46.drew) (Bytes.below hb5 ((Below.refl w5.heap.size w5).alloc (Nat.le_refl _) (.cells #[.int .i64 2, .int .i64 5, .int .i64 3, .slice (some ⟨w3.heap.size + 1, 0, none⟩) 1 1, .slice (some ⟨w4.heap.size, 0, none⟩) 1 1] 111)).drew))))))
  have hc := And.intro ((hg4.below hb46 hs4).drew) hg6.drew
  clear hb34 hg4 hs4 hb46 hg6 hb36 hb06 hd hb4 hu4 hb5 hk5
  rw [← H3.out.2.2.2.2.2] at *
  generalize hc6 : w4.heap.size = c6 at *
  generalize hb6 : w5.heap.size = b6 at *
  clear hc6 hb6
  refine wp_region_tree (fun w' => Blk w' w3.heap.size 111 #[.int .i64 2, .int .i64 5, .int .i64 3, .slice F 1 cf, .slice L 1 cl] ∧ Blk w' b6 111 #[.int .i64 2, .int .i64 5, .int .i64 3, .slice (some ⟨w3.heap.size + 1, 0, none⟩) 1 1, .slice (some ⟨c6, 0, none⟩) 1 1]) [] (PlanT.takes [0, 1, 2] (PlanT.takes [3, 4] (.opt 5 (PlanT.takes [6, 7, 8] (PlanT.takes [9] (.opt 10 (PlanT.takes [11] (.opt 12 (.opt 13 (PlanT.takes [14, 15, 16, 18] (PlanT.takes [17] (.opt 19 (PlanT.takes [20, 21] .done) .no))) .no) .no)) .no))) .no))) (by kernel_rfl) (by kernel_rfl) (hc) ?_
  refine wpTree_pure _ _ _ (by rfl) (by rfl) ?_
  dsimp only [List.filterMap, List.getElem?_cons_zero, List.getElem?_cons_succ]
  repeat (go_big_quiet_step (fail))
  refine wpQuiet_nil ?_
  refine wpTree_takeL _ _ _ (by rfl) (by rfl) (hc) ?_
  dsimp only [List.filterMap, List.getElem?_cons_zero, List.getElem?_cons_succ]
  (refine wpQuiet_want' (by rfl) ?_; refine wpQuiet_load_blk (fun w' hw' => hw'.1) (by rfl) _ _ (by rfl) (by rfl) _ Tryd.underlying111 (by rfl) (sizeRun) (by rfl) ?_; simp only [Act.put, List.setIfInBounds_toArray, List.set_cons_zero, List.set_cons_succ])
  (refine wpQuiet_want' (by rfl) ?_; refine wpQuiet_load_blk (fun w' hw' => hw'.2) (by rfl) _ _ (by rfl) (by rfl) _ Tryd.underlying111 (by rfl) (sizeRun) (by rfl) ?_; simp only [Act.put, List.setIfInBounds_toArray, List.set_cons_zero, List.set_cons_succ])
  refine wpQuiet_nil ?_
  generalize (w5.alloc (.cells #[.int .i64 2, .int .i64 5, .int .i64 3, .slice (some ⟨w3.heap.size + 1, 0, none⟩) 1 1, .slice (some ⟨c6, 0, none⟩) 1 1] 111)).drew = w6 at H6 hc ⊢
  refine wpTree_one _ rfl ?_
  go_wp2_with fail
  have hsr := sameRun_eq (2, 5, ()) 3 F L (some ⟨w3.heap.size + 1, 0, none⟩) (some ⟨c6, 0, none⟩) cf cl 1 1 [97] [99] w6 H6.out.2.2.1 H6.out.2.2.2.1 H6.out.2.2.2.2.1 H6.out.2.2.2.2.2
  unfold runv at hsr
  refine hsr.mono ?_
  rintro e w7 ⟨rfl, hb7⟩
  have hc7 := And.intro (hc.1.below hb7 hc.1.lt) (hc.2.below hb7 hc.2.lt)
  have H7 := Lib.hid (And.intro (H6.out.1.trans (hb7.mono H6.out.1.size)) (H6.out.2.1.below hb7))
  clear hsr hb7 hc H6
  go_wp2_with fail
  refine TreeQ.in_ hc7 ?_
  refine wpTree_pure _ _ _ (by rfl) (by rfl) ?_
  dsimp only [List.filterMap, List.getElem?_cons_zero, List.getElem?_cons_succ]
  repeat (go_big_quiet_step (fail))
  refine wpQuiet_nil ?_
  refine wpTree_takeL _ _ _ (by rfl) (by rfl) (hc7) ?_
  dsimp only [List.filterMap, List.getElem?_cons_zero, List.getElem?_cons_succ]
  (refine wpQuiet_want' (by rfl) ?_; refine wpQuiet_load_blk (fun w' hw' => hw'.1) (by rfl) _ _ (by rfl) (by rfl) _ Tryd.underlying111 (by rfl) (sizeRun) (by rfl) ?_; simp only [Act.put, List.setIfInBounds_toArray, List.set_cons_zero, List.set_cons_succ])
  refine wpQuiet_nil ?_
  refine wpTree_one _ rfl ?_
  go_wp2_with fail
  refine (abc_any w7).mono ?_
  rintro e w8 ⟨b8, rfl, -, -, hb8, a0, b0, hr8, hp8, ha0, hb0⟩
  have hc8 := And.intro (hc7.1.below hb8 hc7.1.lt) (hc7.2.below hb8 hc7.2.lt)
  have H8 := Lib.hid (And.intro (H7.out.1.trans (hb8.mono H7.out.1.size)) (And.intro (H7.out.2.below hb8) (And.intro hp8 (And.intro (fun hm => by have := H7.out.2.lt a0 hm; omega : a0 ∉ q3.all) (fun hm => by have := H7.out.2.lt b0 hm; omega : b0 ∉ q3.all)))))
  clear hc7 hb8 hp8 ha0 hb0 H7
  go_wp2_with fail
  refine TreeQ.in_ hc8 ?_
  refine wpTree_pure _ _ _ (by rfl) (by rfl) ?_
  dsimp only [List.filterMap, List.getElem?_cons_zero, List.getElem?_cons_succ]
  repeat (go_big_quiet_step (fail))
  refine wpQuiet_nil ?_
  refine wpTree_one _ rfl ?_
  go_wp2_with (first
    | ((with_reducible show wpList _ _ _ ((⟨some 38, _, _, _, _, _⟩ : Oper) :: _) _ _); refine wpList_want (by rfl) ?_; refine wpList_load_mid (o := ⟨some 38, _, _, _, _, _⟩) hr8 (by rfl) _ _ (by rfl) (by rfl) _ Tryd.underlying115 (by rfl) sizePair (by rfl) ?_)
    | fail)
  refine TreeQ.in_ hc8 ?_
  refine wpTree_one _ rfl ?_
  go_wp2_with fail
  have hg1 := gets_any (w := w8) (q := q3) (g := tG 8 2) (g2 := tG 8 2) (d := abD 5 2) (f := none) H8.out.2.1 (by decide) (2, 5, ()) 3 F L 1 cf 1 cl [97] (by decide) ([97], [49], false, ()) (some ⟨a0, 0, none⟩) (some ⟨b0, 0, none⟩) 1 1 0
    (fun w' hn => ⟨by decide, by decide, by decide, by decide, Bytes.near H8.out.2.2.1.k hn (fun ad e => by injection e with e; subst e; exact H8.out.2.2.2.1), Bytes.near H8.out.2.2.1.v hn (fun ad e => by injection e with e; subst e; exact H8.out.2.2.2.2)⟩)
    (by rw [(abc_get [97]).1, abc_find1]; rfl) (abc_get [97]).2
  unfold runv pairc at hg1
  refine hg1.mono ?_
  rintro e w9 ⟨rfl, hp9⟩
  have hc9 := And.intro (hp9.blk H8.out.2.1 hc8.1 (by decide)) (hp9.blk H8.out.2.1 hc8.2 (by decide))
  obtain ⟨q9, e1, -, -, hG9, hN9, hA9⟩ := hp9
  have hsz := H8.out.1.size
  have H9 := Lib.hid (And.intro (H8.out.1.trans (hN9.toBelow (fun x hx => H3.out.2.2.1 x hx) hsz)) (And.intro hG9 (fun x hx => (hA9 x hx).elim (fun h => H3.out.2.2.1 x h) (fun h => Nat.le_trans hsz h) : ∀ x ∈ q9.all, w.heap.size ≤ x)))
  clear hg1 hG9 hN9 hA9 hc8 hr8 hsz
  go_wp2_with fail
  refine TreeQ.in_ hc9 ?_
  refine wpTree_pure _ _ _ (by rfl) (by rfl) ?_
  dsimp only [List.filterMap, List.getElem?_cons_zero, List.getElem?_cons_succ]
  repeat (go_big_quiet_step (fail))
  refine wpQuiet_nil ?_
  refine wpTree_takeL _ _ _ (by rfl) (by rfl) (hc9) ?_
  dsimp only [List.filterMap, List.getElem?_cons_zero, List.getElem?_cons_succ]
  (refine wpQuiet_want' (by rfl) ?_; refine wpQuiet_load_blk (fun w' hw' => hw'.1) (by rfl) _ _ (by rfl) (by rfl) _ Tryd.underlying111 (by rfl) (sizeRun) (by rfl) ?_; simp only [Act.put, List.setIfInBounds_toArray, List.set_cons_zero, List.set_cons_succ])
  refine wpQuiet_nil ?_
  refine wpTree_one _ rfl ?_
  go_wp2_with fail
  have hg2 := gets_any (w := w9) (q := q9) (g := tG 8 2) (g2 := tG 8 2) (d := abD 5 2) (f := none) H9.out.2.1 (by decide) (2, 5, ()) 3 F L 1 cf 1 cl [100] (by decide) pnone none none 0 0 6
    (fun w' hn => ⟨by decide, by decide, by decide, by decide, Reads.nil _ _, Reads.nil _ _⟩)
    (by rw [(abc_get [100]).1, abc_find2]; rfl) (abc_get [100]).2
  rw [e1] at hg2
  unfold runv pairc at hg2
  refine hg2.mono ?_
  rintro e w10 ⟨rfl, hp10⟩
  have hc10 := And.intro (hp10.blk H9.out.2.1 hc9.1 (by decide)) (hp10.blk H9.out.2.1 hc9.2 (by decide))
  obtain ⟨q10, -, -, -, -, hN10, -⟩ := hp10
  have H10 := Lib.hid (H9.out.1.trans (hN10.toBelow (fun x hx => H9.out.2.2 x hx) H9.out.1.size))
  clear hg2 hN10 hc9
  go_wp2_with fail
  refine TreeQ.in_ hc10 ?_
  refine wpTree_pure _ _ _ (by rfl) (by rfl) ?_
  dsimp only [List.filterMap, List.getElem?_cons_zero, List.getElem?_cons_succ]
  repeat (go_big_quiet_step (fail))
  refine wpQuiet_nil ?_
  refine wpTree_done ?_
  clear hc10
  go_wp2_with fail
  go_ret
  exact ⟨rfl, H10.out⟩
end Go.Proofs.YthfdjemlibecgaaDoor

/- TableNone: a grid that is nil, or that nobody made. Condition: the library's table is there. -/
namespace Go.Proofs.YthfdjemlibecgaaDoor
open Go.RowKit
def TNoneRel (w : World) (v : Value) (wr : World) : Prop := ∃ k : Nat, k ≤ 2 ∧ v = .int .i64 (k : Int) ∧ Blk wr w.heap.size 95 noGrid ∧ Blk wr (w.heap.size + 1) 25 #[.pointer none, .pointer (some ⟨w.heap.size, 0, none⟩)] ∧ Below w.heap.size w wr
set_option maxRecDepth 100000 in
set_option maxHeartbeats 8000000 in
theorem tableNone_law (A : Option Addr) (m cap : Nat) (w : World) (hT : Tab w) (hm : m ≤ 9223372036854775807) :
    Calls Tryd.prog 10 #[.slice A m cap] w fun e w' => e = .returned (.bool true) ∧ Below w.heap.size w w' := by
  have HT := Lib.hid hT
  have hz := zeroPairrun
  clear hT
  by_cases hlen : m ≤ 200
  case neg =>
    have kn : decide ((m : Int) > 200) = true := decide_eq_true (by omega)
    have kn2 : decide (200 < m) = true := decide_eq_true (by omega)
    go_enter Tryd.func10, Tryd.ntmps10
    go_wp2_with fail
    refine (tawake_any _ HT.out).mono ?_
    rintro e w2 ⟨rfl, hbx⟩
    have HB2 := Lib.hid hbx
    clear hbx
    go_wp2
    go_ret
    exact ⟨rfl, HB2.out⟩
  have kn : decide ((m : Int) > 200) = false := decide_eq_false (by omega)
  have kn2 : decide (200 < m) = false := decide_eq_false (by omega)
  clear hlen
  go_enter Tryd.func10, Tryd.ntmps10
  go_wp2_with fail
  go_loopw [4] (fun v wr => TNoneRel w v wr) (fun v _ => 2 - (intOf v).toNat)
  case atStart =>
    refine ⟨0, by omega, rfl, ?_, ?_, ?_⟩
    · exact (Blk.new w _ _).alloc _
    · exact Blk.new' _ _ _ (by simp)
    · exact ((Below.refl _ _).alloc (Nat.le_refl _) _).alloc (by simp) _
  case round =>
    obtain ⟨k, hk, rfl, hg, hgs, hB⟩ := hrel
    clear kn kn2
    by_cases k2 : k = 2
    · subst k2
      have H := Lib.hid hB
      clear hg hgs hB
      go_wp2_with fail
      refine (tawake_any wr (HT.out.below H.out)).mono ?_
      rintro e w2 ⟨rfl, hB2⟩
      go_wp2
      go_ret
      exact ⟨rfl, H.out.trans (hB2.mono H.out.size)⟩
    have kd : decide ((k : Int) < 2) = true := decide_eq_true (by omega)
    have kd2 : decide (k < 2) = true := decide_eq_true (by omega)
    obtain ⟨G, d0, hng⟩ : ∃ G, wr.cell? ⟨w.heap.size + 1, k, none⟩ = some (.pointer G) ∧ NoGrid G wr := by
      have : k = 0 ∨ k = 1 := by omega
      rcases this with rfl | rfl
      · exact ⟨none, hgs.at_ 0 rfl, .inl rfl⟩
      · exact ⟨_, hgs.at_ 1 rfl, .inr ⟨_, rfl, hg⟩⟩
    have hk2 : k < 2 := by omega
    have H := Lib.hid (And.intro hg (And.intro hgs (And.intro hB hng)))
    clear hg hgs hB hng k2 hk
    go_wp2_with (first
      | ((with_reducible show wpList _ _ _ ((⟨some 36, _, _, _, _, _⟩ : Oper) :: _) _ _); refine wpList_bytes_const (o := ⟨some 36, _, _, _, _, _⟩) (by rfl) _ _ _ (by rfl) Tryd.underlying44 Tryd.underlying5 [97] _ (by rfl) 1 (by rfl) ?_; intro w1 hb1 hk1 hsz; clear hsz)
      | fail)
    have hb2 := hk1.alloc hk1.size (.cells #[.slice (some ⟨wr.heap.size, 0, none⟩) 1 1, .slice none 0 0, .bool false] 115)
    have H2 := Lib.hid hb2
    have hbu := tbuild_no G _ (H.out.2.2.2.below hb2) (some ⟨w1.heap.size, 0, none⟩) 1 1 0
    unfold runv at hbu
    clear hb1 hk1 hb2
    refine hbu.mono ?_
    rintro e w2 ⟨rfl, hbx⟩
    have hbw2 := H2.out.trans (hbx.mono H2.out.size)
    have hb3 := hbw2.alloc hbw2.size (.cells #[.int .i64 0, .int .i64 0, .int .i64 0, .slice none 0 0, .slice none 0 0] 111)
    have hg6 := Blk.new w2 111 #[.int .i64 0, .int .i64 0, .int .i64 0, .slice none 0 0, .slice none 0 0]
    have hget := tget_no G _ (H.out.2.2.2.below hb3) (0, 0, ()) 0 none none 0 0 0 0 A m cap
    unfold runv at hget
    have H3 := Lib.hid (And.intro hb3 hg6)
    clear hbu hbx hbw2 hb3 H2
    go_wp2_with (first
      | ((with_reducible show wpList _ _ _ ((⟨some 44, _, _, _, _, _⟩ : Oper) :: _) _ _); refine wpList_load_blk (o := ⟨some 44, _, _, _, _, _⟩) (hg6) (by rfl) _ _ (by rfl) (by rfl) _ Tryd.underlying111 (by rfl) (sizeRun) (by rfl) ?_)
      | fail)
    refine hget.mono ?_
    rintro e w4 ⟨rfl, hbx⟩
    have hb4 := (H3.out.1.trans (hbx.mono H3.out.1.size)).alloc (Nat.le_trans H3.out.1.size hbx.size) (.cells #[.slice none 0 0, .slice none 0 0, .bool false] 115)
    have hg64 := (H3.out.2.below hbx H3.out.2.lt).alloc (.cells #[.slice none 0 0, .slice none 0 0, .bool false] 115)
    have hal := tall_no G _ (H.out.2.2.2.below hb4) (0, 0, ()) 0 none none 0 0 0 0
    unfold runv at hal
    have H4 := Lib.hid (And.intro hb4 hg64)
    clear hget hbx hb4 hg6 H3
    go_wp2_with (first
      | ((with_reducible show wpList _ _ _ ((⟨some 51, _, _, _, _, _⟩ : Oper) :: _) _ _); refine wpList_load_blk (o := ⟨some 51, _, _, _, _, _⟩) (hg64) (by rfl) _ _ (by rfl) (by rfl) _ Tryd.underlying111 (by rfl) (sizeRun) (by rfl) ?_)
      | fail)
    refine hal.mono ?_
    rintro e w5 ⟨rfl, hbx⟩
    have hb5 := H4.out.1.trans (hbx.mono H4.out.1.size)
    have hg65 := H4.out.2.below hbx H4.out.2.lt
    have hbt := tbetween_no G _ (H.out.2.2.2.below hb5) (0, 0, ()) 0 none none 0 0 0 0 A none m cap 0 0
    unfold runv at hbt
    have H5 := Lib.hid (And.intro hb5 hg65)
    clear hal hbx hb5 hg64 H4
    go_wp2_with (first
      | ((with_reducible show wpList _ _ _ ((⟨some 57, _, _, _, _, _⟩ : Oper) :: _) _ _); refine wpList_load_blk (o := ⟨some 57, _, _, _, _, _⟩) (hg65) (by rfl) _ _ (by rfl) (by rfl) _ Tryd.underlying111 (by rfl) (sizeRun) (by rfl) ?_)
      | fail)
    refine hbt.mono ?_
    rintro e w6 ⟨rfl, hbx⟩
    have hb6 := H5.out.1.trans (hbx.mono H5.out.1.size)
    have hg66 := H5.out.2.below hbx H5.out.2.lt
    have hbk := tblocks_no G _ (H.out.2.2.2.below hb6) (0, 0, ()) 0 none none 0 0 0 0
    unfold runv at hbk
    have H6 := Lib.hid (And.intro hb6 hg66)
    clear hbt hbx hb6 hg65 H5
    go_wp2_with (first
      | ((with_reducible show wpList _ _ _ ((⟨some 64, _, _, _, _, _⟩ : Oper) :: _) _ _); refine wpList_load_blk (o := ⟨some 64, _, _, _, _, _⟩) (hg66) (by rfl) _ _ (by rfl) (by rfl) _ Tryd.underlying111 (by rfl) (sizeRun) (by rfl) ?_)
      | fail)
    refine hbk.mono ?_
    rintro e w7 ⟨rfl, hbx⟩
    have hb7 := H6.out.1.trans (hbx.mono H6.out.1.size)
    have hg67 := H6.out.2.below hbx H6.out.2.lt
    have hdr := tdrop_no G _ (H.out.2.2.2.below hb7) (0, 0, ()) 0 none none 0 0 0 0
    unfold runv at hdr
    have H7 := Lib.hid (And.intro hb7 hg67)
    clear hbk hbx hb7 hg66 H6
    go_wp2_with (first
      | ((with_reducible show wpList _ _ _ ((⟨some 88, _, _, _, _, _⟩ : Oper) :: _) _ _); refine wpList_want (by rfl) ?_; refine wpList_load_blk (o := ⟨some 88, _, _, _, _, _⟩) (hg67) (by rfl) _ _ (by rfl) (by rfl) _ Tryd.underlying111 (by rfl) (sizeRun) (by rfl) ?_)
      | fail)
    refine hdr.mono ?_
    rintro e w8 ⟨rfl, hbx⟩
    have hb8 := H7.out.1.trans (hbx.mono H7.out.1.size)
    have HF := Lib.hid (show TNoneRel w (.int .i64 ((k + 1 : Nat) : Int)) w8 from ⟨k + 1, by omega, rfl, H.out.1.below hb8 H.out.1.lt, H.out.2.1.below hb8 H.out.2.1.lt, H.out.2.2.1.trans (hb8.mono H.out.2.2.1.size)⟩)
    clear hdr hbx hb8 hg67 H7 d0
    go_wp2_with fail
    go_roundw
    case rel => exact HF.out
    case measure => exact meas_up (i := k) (m := 2) rfl rfl hk2
end Go.Proofs.YthfdjemlibecgaaDoor

/- TableNone: for every input the law returns true and the arguments read as they did. Condition: the table of Go's library is as its initialiser lays it (tied to the program's text by the card). -/
namespace Go.Proofs.YthfdjemlibecgaaDoor
open Go.ChangeShapes Go.WideShapes Go.ChangeAt Go.RowKit
theorem tableNone_args (A : Option Addr) (c : Nat) (l : List UInt8) (W : World) (hl : l.length ≤ c) (hc : c ≤ 9223372036854775807) (hT : Tab W) :
    Calls Tryd.prog 10 #[.slice A l.length c] W fun e w' => e = .returned (.bool true) ∧ Below W.heap.size W w' :=
  tableNone_law A l.length c W hT (Nat.le_trans hl hc)
set_option maxRecDepth 100000 in
theorem tableNone_lifted (os : Os) (started : os.Started) (H : Type) (enc : TypeId × Value → H) :
    ReturnsInHanded {} Tryd.checked os 10 .any (fun w args => (Rows.tableNoneSpec.pre enc Tryd.prog Tryd.f10 [] false w args ∧ laidMetH Tryd.prog laid1 w) ∧ sizedMet enc Tryd.prog Tryd.f10 (OpenSpec.ofChange Rows.tableNoneSpec) false w args) (Rows.tableNoneSpec.post enc Tryd.prog Tryd.f10 false true false false) := by
  refine returnsInHanded_of_change_and (C := Tryd.checked) (X := fun w _ => laidMetH Tryd.prog laid1 w) (fun _ _ _ hh h => h.of_heap hh) Tryd.own started (by kernel_rfl) Tryd.func10
    (ChangeSpec.witness_shaped (enc := enc) (C := Tryd.checked) (os := os) (X := fun w _ => laidMetH Tryd.prog laid1 w) false (World.doorLaid Tryd.prog 400 os) #[.slice none 0 0] 8 rfl (World.shaped_of_RefB (by kernel_rfl) (by kernel_rfl)) (by kernel_rfl) (by kernel_rfl) (by kernel_rfl) (door_met os _)) ?_
  intro W base args ds gs before hval0 hW _ _ hL _
  have hT : Tab W := of_laid hL
  have hval : ∀ (j : Nat) t v, Tryd.f10.params[j]? = some t → args[j]? = some v → Value.okWide Tryd.prog W .any base t v := hval0
  have hW' := hW
  obtain ⟨p, q, hA0, hV, rfl, hfz, hnd⟩ := hW
  have hA : DataW.TrodAll enc Tryd.prog W 0 (fun _ => true) true Tryd.f10.params.toList args.toList ds p := hA0
  rw [Tryd.params10] at hA hval
  obtain ⟨v0, d0, rfl, rfl, h0⟩ := trodAll_one hA
  obtain ⟨rfl, rfl⟩ := trodVars_none hV
  have h0k := h0
  obtain ⟨l, hx0⟩ := Sh.open_ (P := Tryd.prog) (.slice .byte) (by kernel_rfl) h0
  obtain ⟨A, c, rfl, hlc, hcm, hb⟩ := arg_bytes Tryd.underlying44 (hval 0 44 v0 rfl rfl) hx0
  clear hA0 hval0
  simp only [List.append_nil] at hW'
  have hlt : ∀ x ∈ p, x.block < W.heap.size := fun x hx => by simpa using hW'.lt x hx
  refine (tableNone_args A c l W hlc hcm hT).mono fun e W' ⟨he, hw⟩ => ?_
  subst he
  refine ⟨_, rfl, _, _, _, [], p, [], hW', ?_, ?_, rfl, hw.frame _, fun h => by cases h⟩
  · exact trodAll_mk1 (shut_bool Tryd.underlying4 true)
  · exact trodAll_mk1 (Below.trod Tryd.laidOut (by kernel_rfl) (of_decide_eq_true (by kernel_rfl)) h0k hw (fun x hx => hlt x (by simpa using hx)))
theorem tableNone_holds : Rows.TableNoneSaid :=
  OpenClaim.holds_of_wide 10 Tryd.f10 rfl rfl rfl rfl rfl rfl rfl ⟨rfl, rfl, rfl, rfl, rfl⟩ rfl rfl rfl rfl rfl (by kernel_rfl) Tryd.func10 (by kernel_rfl)
    (of_decide_eq_true (by kernel_rfl)) (by unfold Func.isWrapper; rw [if_neg (by decide +kernel)]; exact ⟨rfl, rfl⟩)
    (fun os started H enc _ => tableNone_lifted os started H enc)
theorem tableNone_card : Rows.TableNoneCardSaid :=
  Claim7.holds_tied_plain_at .later [] [.data] true Rows.tableNoneCard.stood.harness false
    tableNone_holds (fun _ h => by cases h) (by kernel_rfl) (fun _ h => by cases h) tableNone_row_tie rfl ⟨rfl, rfl⟩ (by kernel_rfl) rfl
    (fun f fn hf hfn => by
      obtain rfl : f = 10 := Option.some.inj ((show Tryd.prog.funcNamed Rows.tableNoneRow.func = some 10 by kernel_rfl).symm.trans hf) |>.symm
      obtain rfl : fn = Tryd.f10 := (Option.some.inj (Tryd.func10.symm.trans hfn)).symm
      exact ⟨by kernel_rfl, fun j t ht => by
        rw [Tryd.params10] at ht
        have hm : t ∈ [44] := by simpa using Array.mem_of_getElem? ht
        have hall : ([44].all fun u => !Tryd.prog.wantsStandIn u) = true := by kernel_rfl
        exact (show Tryd.prog.wantsStandIn t = false by simpa using List.all_eq_true.1 hall t hm)⟩)
    (by kernel_rfl)
end Go.Proofs.YthfdjemlibecgaaDoor
