/- The fields that a header's bytes say, as the program reads them one run behind the other. Plain facts. No condition. -/
import Derived.Test.YtekdcjaljjlemaaDoorMSlotWrites9
import Derived.Deep.MidRow
namespace Go.Proofs.YtekdcjaljjlemaaDoor
open Go.RowKit
theorem getD_drop (l : List UInt8) (k p : Nat) : (l.drop k).getD p 0 = l.getD (k + p) 0 := by
  simp [List.getD_eq_getElem?_getD, List.getElem?_drop]
theorem getD_take (l : List UInt8) (k p : Nat) (h : p < k) : (l.take k).getD p 0 = l.getD p 0 := by
  simp [List.getD_eq_getElem?_getD, List.getElem?_take, h]
theorem at4_drop (l : List UInt8) (k p : Nat) : at4 (l.drop k) p = at4 l (k + p) := by
  unfold at4; rw [getD_drop, getD_drop, getD_drop, getD_drop]; simp only [Nat.add_assoc]
theorem at8_drop (l : List UInt8) (k p : Nat) : at8 (l.drop k) p = at8 l (k + p) := by
  unfold at8; rw [at4_drop, at4_drop]; simp only [Nat.add_assoc]
theorem at4_take (l : List UInt8) (k p : Nat) (h : p + 3 < k) : at4 (l.take k) p = at4 l p := by
  unfold at4; rw [getD_take _ _ _ (by omega), getD_take _ _ _ (by omega), getD_take _ _ _ (by omega), getD_take _ _ _ (by omega)]
theorem at8_take (l : List UInt8) (k p : Nat) (h : p + 7 < k) : at8 (l.take k) p = at8 l p := by
  unfold at8; rw [at4_take _ _ _ (by omega), at4_take _ _ _ (by omega)]
theorem hdc_setU (f : HdF) (i : Nat) (v : Int) (h : i = 9 ∨ i = 10 ∨ i = 13) : (hdc f).setIfInBounds i (.int .u64 v) = hdc (setF f i v) := by
  unfold hdc
  rw [arr_set]
  refine arr_congr fun j _ => ?_
  unfold hdv setF
  by_cases e : j = i
  · subst e; rw [if_pos rfl, if_pos h, if_pos rfl]
  · rw [if_neg e, if_neg e]
theorem hdc_congr {f g : HdF} (h : ∀ i, i < 16 → f i = g i) : hdc f = hdc g := arr_congr fun i hi => by unfold hdv; rw [h i hi]
def Hd.f1 (raw : List UInt8) : HdF := stepsF zeroHd (raw.drop 32) [0, 1, 2, 3, 4, 5, 6, 7, 8] 9
def Hd.f2 (raw : List UInt8) : HdF := setF (setF (Hd.f1 raw) 9 (at8 raw 76)) 10 (at8 raw 68)
def Hd.f3 (raw : List UInt8) : HdF := stepsF (Hd.f2 raw) (raw.drop 84) [11, 12] 2
def Hd.f4 (raw : List UInt8) : HdF := setF (Hd.f3 raw) 13 (at8 raw 92)
def Hd.f5 (raw : List UInt8) : HdF := stepsF (Hd.f4 raw) (raw.drop 100) [14, 15] 2
theorem Hd.f5_parse (raw : List UInt8) : hdc (Hd.f5 raw) = hdc (Hd.parse raw) := hdc_congr fun i hi => by
  have : i = 0 ∨ i = 1 ∨ i = 2 ∨ i = 3 ∨ i = 4 ∨ i = 5 ∨ i = 6 ∨ i = 7 ∨ i = 8 ∨ i = 9 ∨ i = 10 ∨ i = 11 ∨ i = 12 ∨ i = 13 ∨ i = 14 ∨ i = 15 := by omega
  rcases this with rfl | rfl | rfl | rfl | rfl | rfl | rfl | rfl | rfl | rfl | rfl | rfl | rfl | rfl | rfl | rfl <;>
    simp [Hd.f5, Hd.f4, Hd.f3, Hd.f2, Hd.f1, stepsF, setF, Hd.parse, at4_drop]
theorem Hd.f3_13 (raw : List UInt8) : Hd.f3 raw 13 = 0 := by simp [Hd.f3, Hd.f2, Hd.f1, stepsF, setF, zeroHd]
theorem Hd.parse_nat (raw : List UInt8) : Hd.nat (Hd.parse raw) := by
  intro i hi
  have h : ∀ p, (0 : Int) ≤ (at4 raw p : Int) ∧ (at4 raw p : Int) < 4294967296 := fun p => by have := at4_lt raw p; omega
  simp only [thirteen, List.mem_cons, List.not_mem_nil, or_false] at hi
  rcases hi with rfl | rfl | rfl | rfl | rfl | rfl | rfl | rfl | rfl | rfl | rfl | rfl | rfl <;> (simp only [Hd.parse]; exact h _)
/-- A run of fields read. -/
theorem hfours_at (b bo cap hb n pb m o : Nat) (f : HdF) (raw : List UInt8) (idx : List Nat) (hr : raw.length = n + o) (hm : idx.length = m) (h4 : 4 * m ≤ n) (hlen : n ≤ 1000000) (w : World)
    (hraw : Bytes w (some ⟨b, bo, none⟩) (raw.drop o)) (hg : Blk w hb 26 (hdc f)) (hp : ∃ t, Blk w pb t (pts hb idx)) (hi : ∀ i ∈ idx, i ∈ thirteen) (hne : pb ≠ hb ∧ b ≠ hb) (hm0 : 0 < m) :
    Calls Tryd.prog 38 #[.slice (some ⟨b, bo, none⟩) n cap, .slice (some ⟨pb, 0, none⟩) m m] w fun e w' =>
      e = .returned (.tuple #[]) ∧ Blk w' hb 26 (hdc (stepsF f (raw.drop o) idx m)) ∧ Upd hb w w' := by
  obtain ⟨t, hp⟩ := hp
  have hl : (raw.drop o).length = n := by rw [List.length_drop]; omega
  subst hl hm
  obtain ⟨b2, bo2, e, hlt, hc⟩ := hraw.at_ (by omega)
  simp only [Option.some.injEq, Addr.mk.injEq, and_true] at e
  obtain ⟨rfl, rfl⟩ := e
  have h13 : ∀ i ∈ thirteen, i < 16 ∧ i ≠ 9 ∧ i ≠ 10 ∧ i ≠ 13 := by decide
  refine hfours_any b bo cap hb f (raw.drop o) idx pb 0 idx.length h4 hlen w hc hg (fun j hj => ?_) (fun j hj => ?_) hne
  · refine hp.at_ (0 + j) ?_
    rw [Nat.zero_add]; unfold pts
    rw [List.getElem?_toArray, List.getElem?_map, List.getElem?_eq_getElem hj, List.getD_eq_getElem?_getD, List.getElem?_eq_getElem hj]; rfl
  · have : idx.getD j 0 ∈ idx := by rw [List.getD_eq_getElem?_getD, List.getElem?_eq_getElem hj]; exact List.getElem_mem hj
    exact h13 _ (hi _ this)
end Go.Proofs.YtekdcjaljjlemaaDoor

/- A store of a whole struct or array into the middle of an own block. Plain facts over any program. Condition: the block is long enough. -/
namespace Go
open Go.RowKit
def setAll (cs : Array Value) : Nat → List Value → Array Value
  | _, [] => cs
  | o, v :: r => setAll (cs.setIfInBounds o v) (o + 1) r
theorem Blk.setCells {g : Nat} {t : TypeId} : ∀ (vs : List Value) (o : Nat) (w : World) (cs : Array Value), Blk w g t cs → Blk (w.setCells g o vs) g t (setAll cs o vs)
  | [], _, _, _, h => h
  | v :: r, o, _, _, h => Blk.setCells r (o + 1) _ _ (h.set_ o v)
theorem Upd.setCells {g : Nat} {w0 : World} : ∀ (vs : List Value) (o : Nat) (w : World), Upd g w0 w → Upd g w0 (w.setCells g o vs)
  | [], _, _, h => h
  | v :: r, o, _, h => Upd.setCells r (o + 1) _ (h.set o v)
theorem wpList_store_in {P : Program} {w : World} {Q : Exit → Act → World → Prop} {ops : Array Oper} {rest : List Oper} {o : Oper} {a : Act} {g : Nat} {t : TypeId} {cs : Array Value} (hb : Blk w g t cs) (hgd : o.guard = none) (ty : TypeId) (x y : Operand) (ho : o.op = .store ty x y)
    (k : Nat) (hx : a.eval x = .pointer (some ⟨g, k, none⟩)) (vs : Array Value) (hy : a.eval y = .agg vs) {n : Nat} (hi : (P.info? ty).map (·.size) = some n) (hs : vs.size = n) (hk : k + n ≤ cs.size) (h1 : vs.all (·.oneCell') = true)
    (h : ∀ w', Blk w' g t (setAll cs k vs.toList) → Upd g w w' → wpList P ops Q rest (a.put o.dst undef) w') : wpList P ops Q (o :: rest) a w :=
  wpList_store_mid hgd ty x y ho g k vs hx hy (fun j hj => ⟨by rw [hb.cell, Array.getElem?_eq_getElem (by omega)]; rfl, hb.frozen _⟩) (by rw [hs]; exact hi) h1
    (h _ (Blk.setCells vs.toList k w cs hb) (Upd.setCells vs.toList k w (Upd.refl g w)))
end Go

/- A header's bytes read, by the program. Condition: the bytes can be read. -/
namespace Go.Proofs.YtekdcjaljjlemaaDoor
open Go.RowKit
theorem none_zero : Hd.none_ = zeroHd := rfl
def HTRel (w : World) (hb g1 : Nat) (raw : List UInt8) (v : Value) (wr : World) : Prop :=
  ∃ j : Nat, j ≤ 8 ∧ v = .int .i64 (j : Int) ∧ Blk wr hb 26 (hdc (setF (Hd.f3 raw) 13 (lpart raw 92 j))) ∧ Blk wr (g1 + 1 + 1) 73 (pts hb [14, 15]) ∧ Upd hb w wr
set_option maxRecDepth 100000 in
set_option maxHeartbeats 4000000 in
theorem hhead_any (A : Option Addr) (n c : Nat) (raw : List UInt8) (hn : n = raw.length) (hc : n ≤ c) (hc2 : c ≤ 9223372036854775807) (w : World) (hby : Bytes w A raw) :
    Calls Tryd.prog 24 #[.slice A n c] w fun e w' => e = .returned (.tuple #[.agg (hdc (Hd.read raw).2), .int .i64 (Hd.read raw).1]) ∧ Below w.heap.size w w' := by
  by_cases h1 : n = 256
  case neg =>
    have hrd : Hid (Hd.read raw = (4, Hd.none_)) := Lib.hid (by unfold Hd.read; rw [if_pos (by omega)])
    rw [hrd.out]
    clear hn hby
    have H1 : ((n : Int) != 256) = true := by rw [bne_iff_ne]; omega
    go_enter Tryd.func24, Tryd.ntmps24
    go_wp2_with (first
      | (show wpList _ _ _ ((⟨none, _, _, _, _, _⟩ : Oper) :: _) _ _; refine wpList_store_blk (o := ⟨none, _, _, _, _, _⟩) ((Blk.new w 26 #[.int .i64 0, .int .i64 0, .int .i64 0, .int .i64 0, .int .i64 0, .int .i64 0, .int .i64 0, .int .i64 0, .int .i64 0, .int .u64 0, .int .u64 0, .int .i64 0, .int .i64 0, .int .u64 0, .int .i64 0, .int .i64 0]).sub zeroHd_cells.symm) (by rfl) _ _ _ (by rfl) (by rfl) (hdc zeroHd) (by rfl) (sizeHd) (hdc_size _) (hdc_size _) (hdc_one _) ?_; intro w2 h2 hu2; have hB2 := Lib.hid (((Below.refl w.heap.size w).alloc (Nat.le_refl _) (.cells #[.int .i64 0, .int .i64 0, .int .i64 0, .int .i64 0, .int .i64 0, .int .i64 0, .int .i64 0, .int .i64 0, .int .i64 0, .int .u64 0, .int .u64 0, .int .i64 0, .int .i64 0, .int .u64 0, .int .i64 0, .int .i64 0] 26)).upd hu2 (Nat.le_refl _)))
      | fail)
    refine bodyPost_ret (results_row_tmp (by rfl) _ _ w.heap.size _ _ _ (by rfl) h2 Tryd.underlying26 (by rfl) (by rw [hdc_size]; exact sizeHd)) rfl ⟨rfl, hB2.out⟩
  subst h1
  obtain ⟨b, off, rfl, hbl, hcell⟩ := hby.at_ (by omega)
  have HN : Hid (raw.length = 256) := Lib.hid hn.symm
  clear hn hcell
  have hg0 := (Blk.new w 26 #[.int .i64 0, .int .i64 0, .int .i64 0, .int .i64 0, .int .i64 0, .int .i64 0, .int .i64 0, .int .i64 0, .int .i64 0, .int .u64 0, .int .u64 0, .int .i64 0, .int .i64 0, .int .u64 0, .int .i64 0, .int .i64 0]).sub zeroHd_cells.symm
  have hB0 : Below w.heap.size w (w.alloc (.cells #[.int .i64 0, .int .i64 0, .int .i64 0, .int .i64 0, .int .i64 0, .int .i64 0, .int .i64 0, .int .i64 0, .int .i64 0, .int .u64 0, .int .u64 0, .int .i64 0, .int .i64 0, .int .u64 0, .int .i64 0, .int .i64 0] 26)) := (Below.refl _ _).alloc (Nat.le_refl _) _
  have hc16 : ¬ c = 16 := by omega
  have hc32 : ¬ c = 32 := by omega
  have hb1 := Bytes.below hby hB0
  go_enter Tryd.func24, Tryd.ntmps24
  go_wp2_with fail
  generalize hw1 : w.alloc (.cells #[.int .i64 0, .int .i64 0, .int .i64 0, .int .i64 0, .int .i64 0, .int .i64 0, .int .i64 0, .int .i64 0, .int .i64 0, .int .u64 0, .int .u64 0, .int .i64 0, .int .i64 0, .int .u64 0, .int .i64 0, .int .i64 0] 26) = w1 at hg0 hB0 hb1 ⊢
  clear hw1
  obtain ⟨g0, hgn⟩ : ∃ g0, g0 = w.heap.size := ⟨_, rfl⟩
  rw [← hgn] at hg0 hbl ⊢
  have HGN := Lib.hid hgn
  clear hgn hby
  obtain ⟨T, hT⟩ : ∃ T, T = raw.take 16 := ⟨_, rfl⟩
  obtain ⟨D, hD⟩ : ∃ D, D = raw.drop 16 := ⟨_, rfl⟩
  have hTl : T.length = 16 := by rw [hT, List.length_take, HN.out]; rfl
  have hDl : D.length = 240 := by rw [hD, List.length_drop, HN.out]
  have hbD : Bytes w1 (some ⟨b, off + 16, none⟩) D := by
    have h := hb1.drop (k := 16) (cap := c) (by omega)
    rw [if_neg hc16, ← hD] at h
    simpa [Addr.add_lit] using h
  have hbT : Bytes w1 (some ⟨b, off, none⟩) T := by rw [hT]; exact hb1.take 16
  have HT := Lib.hid hT
  have HD := Lib.hid hD
  have HTl := Lib.hid hTl
  have HDl := Lib.hid hDl
  clear hT hD hTl hDl
  refine wp_region_planT (Below w1.heap.size w1) [] [(true, 0), (true, 1), (true, 2), (true, 3), (true, 4), (true, 5), (false, 6), (true, 7)] (by kernel_rfl) (by kernel_rfl) ((Below.refl _ _).drew) ?_
  refine wpPlan_pure [0, 1, 2, 3, 4] [(true, 5), (false, 6), (true, 7)] _ (by rfl) (by rfl) ?_
  dsimp only [List.filterMap, List.getElem?_cons_zero, List.getElem?_cons_succ]
  repeat (go_big_quiet_step (fail))
  refine wpQuiet_array (by rfl) _ _ (by rfl) 16 _ Tryd.underlying70 (some ⟨b, off, none⟩) 16 c (by rfl) (Nat.le_refl _) ?_
  simp only [Act.put, List.setIfInBounds_toArray, List.set_cons_zero, List.set_cons_succ]
  refine wpQuiet_nil ?_
  refine wpPlan_takeL [5] [(false, 6), (true, 7)] _ (by rfl) (by rfl) (Below.refl _ _).drew ?_
  dsimp only [List.filterMap, List.getElem?_cons_zero, List.getElem?_cons_succ]
  refine wpQuiet_load_mid (fun w' hw' => (Bytes.below hbT hw').range) (by rfl) _ _ (by rfl) (by rfl) _ Tryd.underlying70 (by rfl) size16 (by rw [List.length_map]; exact HTl.out) ?_
  simp only [Act.put, List.setIfInBounds_toArray, List.set_cons_zero, List.set_cons_succ]
  refine wpQuiet_nil ?_
  refine wpPlan_forceL _ rfl ?_
  go_wp2_with fail
  refine (right_seal_any (some ⟨b, off + 16, none⟩) 240 (c - 16) D T HDl.out.symm (by rw [HDl.out]; omega) ⟨by rw [HDl.out]; omega, by omega⟩ HTl.out w1.drew hbD).mono ?_
  rintro e w2 ⟨rfl, hbx⟩
  have hBx : Below w1.heap.size w1 w2 := (Below.refl _ _).drew.trans hbx
  have hb2 := Bytes.below hb1 hBx
  have hg2 := keep hBx hg0
  have hB2 := hB0.trans (hBx.mono hB0.size)
  clear hbx hbD hbT hb1 hg0 hB0
  have hHB := Lib.hid hB2
  by_cases hseal : Sha.sum D = T
  case neg =>
    have hrd : Hid (Hd.read raw = (12, Hd.none_)) := Lib.hid (by
      unfold Hd.read
      rw [if_neg (by rw [HN.out]; simp), if_pos (by rw [← HT.out, ← HD.out]; exact hseal)])
    rw [decide_eq_false hseal]
    go_wp2_with fail
    refine PlanQ.in_ hBx ?_
    refine wpPlan_pure [7] [] _ (by rfl) (by rfl) ?_
    dsimp only [List.filterMap, List.getElem?_cons_zero, List.getElem?_cons_succ]
    repeat (go_big_quiet_step (fail))
    refine wpQuiet_nil ?_
    refine wpPlan_tidy ?_
    clear hseal hBx hB2
    go_wp2_with (first
      | (show wpList _ _ _ ((⟨none, _, _, _, _, _⟩ : Oper) :: _) _ _; refine wpList_store_blk (o := ⟨none, _, _, _, _, _⟩) (hg2) (by rfl) _ _ _ (by rfl) (by rfl) (hdc zeroHd) (by rfl) (sizeHd) (hdc_size _) (hdc_size _) (hdc_one _) ?_; intro w3 h3 hu3)
      | fail)
    refine bodyPost_ret (results_row_tmp (by rfl) _ _ g0 _ _ _ (by rfl) h3 Tryd.underlying26 (by rfl) (by rw [hdc_size]; exact sizeHd)) rfl ⟨by rw [hrd.out]; rfl, hHB.out.upd hu3 (by rw [HGN.out]; exact Nat.le_refl _)⟩
  rw [decide_eq_true hseal]
  have HSEAL : Hid (Sha.sum (raw.drop 16) = raw.take 16) := Lib.hid (by rw [← HD.out, ← HT.out]; exact hseal)
  go_wp2_with fail
  refine PlanQ.in_ hBx ?_
  refine wpPlan_pure [7] [] _ (by rfl) (by rfl) ?_
  dsimp only [List.filterMap, List.getElem?_cons_zero, List.getElem?_cons_succ]
  repeat (go_big_quiet_step (fail))
  refine wpQuiet_nil ?_
  refine wpPlan_tidy ?_
  clear hseal hBx hB2
  have CUT : ∀ (k : Nat) (wx : World), k < 256 → Bytes wx (some ⟨b, off, none⟩) raw → Bytes wx (some ⟨b, off + k, none⟩) (raw.drop k) := fun k wx hk h => by
    have h := h.drop (k := k) (cap := c) (by omega)
    rw [if_neg (by omega)] at h
    simpa [Addr.add_lit] using h
  have HCUT := Lib.hid CUT
  have hh := (Blk.new w2 26 #[.int .i64 0, .int .i64 0, .int .i64 0, .int .i64 0, .int .i64 0, .int .i64 0, .int .i64 0, .int .i64 0, .int .i64 0, .int .u64 0, .int .u64 0, .int .i64 0, .int .i64 0, .int .u64 0, .int .i64 0, .int .i64 0]).sub zeroHd_cells.symm
  have hbx := Lib.hid ((Below.refl w2.heap.size w2).alloc (Nat.le_refl _) (.cells #[.int .i64 0, .int .i64 0, .int .i64 0, .int .i64 0, .int .i64 0, .int .i64 0, .int .i64 0, .int .i64 0, .int .i64 0, .int .u64 0, .int .u64 0, .int .i64 0, .int .i64 0, .int .u64 0, .int .i64 0, .int .i64 0] 26))
  have hgl := hg2.lt
  clear CUT
  go_wp2_with fail
  generalize hw3 : w2.alloc (.cells #[.int .i64 0, .int .i64 0, .int .i64 0, .int .i64 0, .int .i64 0, .int .i64 0, .int .i64 0, .int .i64 0, .int .i64 0, .int .u64 0, .int .u64 0, .int .i64 0, .int .i64 0, .int .u64 0, .int .i64 0, .int .i64 0] 26) = w3 at hh hbx ⊢
  clear hw3
  have hBx := hbx.out
  (replace hg2 := keep hBx hg2; replace hb2 := keep hBx hb2)
  replace hHB := Lib.hid (hHB.out.trans (hBx.mono hHB.out.size))
  clear hBx hbx
  generalize w2.heap.size = hb at hh hgl ⊢
  refine (numbers_any hb w3).mono ?_
  rintro e w4 ⟨rfl, hbx⟩
  (replace hg2 := keep hbx hg2; replace hb2 := keep hbx hb2; replace hh := keep hbx hh)
  replace hHB := Lib.hid (hHB.out.trans (hbx.mono hHB.out.size))
  clear hbx
  have b1 := Blk.new w4 72 (pts hb [0, 1, 2, 3, 4, 5, 6, 7, 8])
  have b2 := Blk.new (w4.alloc (.cells (pts hb [0, 1, 2, 3, 4, 5, 6, 7, 8]) 72)) 73 (pts hb [11, 12])
  have b3 := Blk.new ((w4.alloc (.cells (pts hb [0, 1, 2, 3, 4, 5, 6, 7, 8]) 72)).alloc (.cells (pts hb [11, 12]) 73)) 73 (pts hb [14, 15])
  replace b1 := (b1.alloc (.cells (pts hb [11, 12]) 73)).alloc (.cells (pts hb [14, 15]) 73)
  replace b2 := b2.alloc (.cells (pts hb [14, 15]) 73)
  rw [show (w4.alloc (.cells (pts hb [0, 1, 2, 3, 4, 5, 6, 7, 8]) 72)).heap.size = w4.heap.size + 1 by simp] at b2
  rw [show ((w4.alloc (.cells (pts hb [0, 1, 2, 3, 4, 5, 6, 7, 8]) 72)).alloc (.cells (pts hb [11, 12]) 73)).heap.size = w4.heap.size + 1 + 1 by simp] at b3
  have hB2 := (((Below.refl w4.heap.size w4).alloc (Nat.le_refl _) (.cells (pts hb [0, 1, 2, 3, 4, 5, 6, 7, 8]) 72)).alloc (by simp) (.cells (pts hb [11, 12]) 73)).alloc (by simp; omega) (.cells (pts hb [14, 15]) 73)
  have hlt3 := hh.lt
  (replace hg2 := keep hB2 hg2; replace hb2 := keep hB2 hb2; replace hh := keep hB2 hh)
  have H2 := Lib.hid (And.intro b1 (And.intro b2 (And.intro b3 (And.intro hg2 (And.intro hb2 (And.intro hh (And.intro hlt3 (hHB.out.trans (hB2.mono hHB.out.size)))))))))
  clear b1 b2 b3 hg2 hb2 hh hB2 hlt3 hHB
  simp only [pts, pt, List.map_cons, List.map_nil] at H2 ⊢
  go_wp2_with fail
  obtain ⟨b1, b2, b3, hg2, hb2, hh, hlt3, hB⟩ := H2.out
  clear H2
  generalize ((w4.alloc _).alloc _).alloc _ = w5 at b1 b2 b3 hg2 hb2 hh hB ⊢
  generalize w4.heap.size = g1 at b1 b2 b3 hlt3 ⊢
  have hHB := Lib.hid hB
  clear hB
  refine wp_region_planT (fun _ => True) [] [(true, 0), (true, 1), (true, 2), (false, 3)] (by kernel_rfl) (by kernel_rfl) (trivial) ?_
  refine wpPlan_pure [0, 1, 2] [(false, 3)] _ (by rfl) (by rfl) ?_
  dsimp only [List.filterMap, List.getElem?_cons_zero, List.getElem?_cons_succ]
  repeat (go_big_quiet_step (fail))
  refine wpQuiet_nil ?_
  refine wpPlan_forceL _ rfl ?_
  go_wp2_with fail
  refine (hfours_at b (off + 32) (c - 32) hb 224 g1 9 32 zeroHd raw [0, 1, 2, 3, 4, 5, 6, 7, 8] HN.out rfl (by omega) (by omega) w5.drew (HCUT.out 32 w5.drew (by omega) hb2) hh.drew ⟨_, b1.drew⟩ (by decide) (by omega) (by omega)).mono ?_
  rintro e w6 ⟨rfl, hh6, hu6⟩
  replace hg2 := hg2.drew.upd hu6 (by omega)
  replace b2 := b2.drew.upd hu6 (by omega)
  replace b3 := b3.drew.upd hu6 (by omega)
  have hgb : g0 ≤ hb := by omega
  replace hHB := Lib.hid (hHB.out.drew.upd hu6 (by rw [← HGN.out]; exact hgb))
  have hby : Bytes w6 (some ⟨b, off, none⟩) raw := Bytes.upd (w := w5.drew) hb2 hu6 (by intro ad e; cases e; show b ≠ hb; omega)
  clear b1 hu6 hb2 hh
  rw [show stepsF zeroHd (raw.drop 32) [0, 1, 2, 3, 4, 5, 6, 7, 8] 9 = Hd.f1 raw from rfl] at hh6
  go_wp2_with fail
  refine PlanQ.in_ trivial ?_
  refine wpPlan_tidy ?_
  have h16 : ((raw.drop 68).take 16).length = 16 := by rw [List.length_take, List.length_drop, HN.out]; rfl
  have hrd := uread_any (some ⟨b, off + 68, none⟩) (c - 68) ((raw.drop 68).take 16) h16 w6 ((HCUT.out 68 w6 (by omega) hby).take 16)
  rw [h16] at hrd
  have hlo : at8 ((raw.drop 68).take 16) 0 = at8 raw 68 := by rw [at8_take _ _ _ (by omega), at8_drop]
  have hhi : at8 ((raw.drop 68).take 16) 8 = at8 raw 76 := by rw [at8_take _ _ _ (by omega), at8_drop]
  rw [hlo, hhi] at hrd
  have HRD := Lib.hid hrd
  clear hrd h16 hlo hhi
  have hc68 : ¬ c = 68 := by omega
  go_wp2_with fail
  refine HRD.out.mono ?_
  clear HRD
  rintro e w7 ⟨rfl, hbx⟩
  have hz9 := hh6.lt
  (replace hg2 := keep hbx hg2; replace b2 := keep hbx b2; replace b3 := keep hbx b3; replace hby := keep hbx hby; replace hh6 := keep hbx hh6)
  replace hHB := Lib.hid (hHB.out.trans (hbx.mono hHB.out.size))
  clear hbx
  go_wp2_with (first
    | (show wpList _ _ _ ((⟨none, _, _, _, _, _⟩ : Oper) :: _) _ _; refine wpList_store_in (o := ⟨none, _, _, _, _, _⟩) hh6 (by rfl) _ _ _ (by rfl) 9 (by rfl) (u128c (at8 raw 76) (at8 raw 68)) (by rfl) sizeU (by rfl) (by rw [hdc_size]; omega) (by simp [u128c, Value.oneCell']) ?_; intro w8 hh8 hu8)
    | fail)
  replace hh8 := hh8.sub (show setAll (hdc (Hd.f1 raw)) 9 (u128c (at8 raw 76) (at8 raw 68)).toList = hdc (Hd.f2 raw) by
    show ((hdc (Hd.f1 raw)).setIfInBounds 9 _).setIfInBounds 10 _ = _
    rw [hdc_setU _ 9 _ (by omega), hdc_setU _ 10 _ (by omega)]; rfl)
  replace hg2 := hg2.upd hu8 (by omega)
  replace b2 := b2.upd hu8 (by omega)
  replace b3 := b3.upd hu8 (by omega)
  replace hHB := Lib.hid (hHB.out.upd hu8 (by rw [← HGN.out]; exact hgb))
  replace hby : Bytes w8 (some ⟨b, off, none⟩) raw := Bytes.upd hby hu8 (by intro ad e; cases e; show b ≠ hb; omega)
  clear hu8 hh6
  simp only [Act.put]
  go_wp2_with fail
  refine wp_region_planT (fun _ => True) [] [(true, 0), (true, 1), (true, 2), (false, 3)] (by kernel_rfl) (by kernel_rfl) (trivial) ?_
  refine wpPlan_pure [0, 1, 2] [(false, 3)] _ (by rfl) (by rfl) ?_
  dsimp only [List.filterMap, List.getElem?_cons_zero, List.getElem?_cons_succ]
  repeat (go_big_quiet_step (fail))
  refine wpQuiet_nil ?_
  refine wpPlan_forceL _ rfl ?_
  go_wp2_with fail
  refine (hfours_at b (off + 84) (c - 84) hb 172 (g1 + 1) 2 84 (Hd.f2 raw) raw [11, 12] HN.out rfl (by omega) (by omega) w8.drew (HCUT.out 84 w8.drew (by omega) hby) hh8.drew ⟨_, b2.drew⟩ (by decide) (by omega) (by omega)).mono ?_
  rintro e w9 ⟨rfl, hh9, hu9⟩
  replace hg2 := hg2.drew.upd hu9 (by omega)
  replace b3 := b3.drew.upd hu9 (by omega)
  replace hHB := Lib.hid (hHB.out.drew.upd hu9 (by rw [← HGN.out]; exact hgb))
  replace hby : Bytes w9 (some ⟨b, off, none⟩) raw := Bytes.upd (w := w8.drew) hby hu9 (by intro ad e; cases e; show b ≠ hb; omega)
  clear b2 hu9 hh8
  rw [show stepsF (Hd.f2 raw) (raw.drop 84) [11, 12] 2 = Hd.f3 raw from rfl] at hh9
  go_wp2_with fail
  refine PlanQ.in_ trivial ?_
  refine wpPlan_tidy ?_
  have hh9' := hh9.sub (show hdc (Hd.f3 raw) = hdc (setF (Hd.f3 raw) 13 (lpart raw 92 0)) from hdc_congr fun i _ => by
    unfold setF; by_cases e : i = 13
    · rw [if_pos e, e, Hd.f3_13]; rfl
    · rw [if_neg e])
  clear hh9
  have HX9 := Lib.hid (And.intro hg2 (And.intro hby hHB.out))
  clear hg2 hHB
  have hcb : ∀ j, j < 256 → w9.cell? ⟨b, off + j, none⟩ = some (.int .u8 (iu8 (raw.getD j 0))) := fun j hj => by
    obtain ⟨b', off', e, _, hc'⟩ := hby.at_ (by rw [HN.out]; omega)
    cases e
    exact hc' j (by rw [HN.out]; omega)
  clear hby
  go_wp2_with fail
  go_loopw [43] (fun v wr => HTRel w9 hb g1 raw v wr) (fun v _ => 8 - (intOf v).toNat)
  case atStart => exact ⟨0, by omega, rfl, hh9', b3, Upd.refl _ _⟩
  case round =>
    obtain ⟨j, hj, rfl, hg, hbj, hu⟩ := hrel
    clear hh9' b3
    by_cases hlt : j < 8
    · have o1 := lpart_or raw 92 j
      have q1 := lpart_lt raw 92 j
      have d1 : wr.cell? ⟨b, off + (92 + j), none⟩ = some (.int .u8 (iu8 (raw.getD (92 + j) 0))) := (World.cell?_of_block (hu.block b (by omega))).trans (hcb (92 + j) (by omega))
      have dlo : wr.cell? ⟨hb, 13, none⟩ = some (.int .u64 (lpart raw 92 j : Nat)) := (hg.at_ 13 (hdc_u _ 13 (by omega))).trans (by simp [setF])
      have f0 := hg.frozen 13
      have hset : setF (setF (Hd.f3 raw) 13 (lpart raw 92 j : Nat)) 13 (lpart raw 92 (j + 1) : Nat) = setF (Hd.f3 raw) 13 (lpart raw 92 (j + 1) : Nat) := by
        funext i; unfold setF; split <;> rfl
      have HR0 : Hid (HTRel w9 hb g1 raw (.int .i64 ((j + 1 : Nat) : Int)) ((wr.setCell ⟨hb, 13, none⟩ (.int .u64 (lpart raw 92 (j + 1) : Nat))).drew)) := Lib.hid
        ⟨j + 1, by omega, rfl, ((hg.set_ 13 _).sub (by rw [hdc_setU _ 13 _ (by omega), hset])).drew, (hbj.off (by omega) _).drew, (hu.set 13 _).drewH⟩
      generalize raw.getD (92 + j) 0 = x at d1 o1
      generalize lpart raw 92 j = lo at dlo o1 q1 hg hset
      generalize lpart raw 92 (j + 1) = lo' at o1 HR0
      have HR := HR0
      clear hset HR0
      have hcase : j = 0 ∨ j = 1 ∨ j = 2 ∨ j = 3 ∨ j = 4 ∨ j = 5 ∨ j = 6 ∨ j = 7 := by omega
      have HO := Lib.hid (And.intro o1 q1)
      clear hg hu hbj o1 q1 hcb
      rcases hcase with rfl | rfl | rfl | rfl | rfl | rfl | rfl | rfl
      · have e1 : bits .or .u64 (lo : Int) (IntKind.u64.wrap (IntKind.u64.wrap (iu8 x))) = ((lo' : Nat) : Int) := by rw [← HO.out.1, ← Int.mul_one (IntKind.u64.wrap (iu8 x))]; exact orU lo 0 1 x (by decide) (by omega) HO.out.2
        go_wp2_with fail
        refine wp_region_planT (fun w' => w'.cell? ⟨hb, 13, none⟩ = some (.int .u64 (lo : Nat)) ∧ w'.cell? ⟨b, off + 92, none⟩ = some (.int .u8 (iu8 x))) [13] [(true, 0), (true, 2), (true, 3), (true, 4), (true, 5), (true, 8), (true, 9), (true, 1), (true, 6), (true, 7), (true, 10), (true, 11), (true, 12), (false, 13)] (by kernel_rfl) (by kernel_rfl) (⟨dlo, d1⟩) ?_
        refine wpPlan_pure [0, 2, 3, 4, 5, 8, 9] [(true, 1), (true, 6), (true, 7), (true, 10), (true, 11), (true, 12), (false, 13)] _ (by rfl) (by rfl) ?_
        dsimp only [List.filterMap, List.getElem?_cons_zero, List.getElem?_cons_succ]
        repeat (go_big_quiet_step (fail))
        refine wpQuiet_nil ?_
        refine wpPlan_takeL [1, 6] [(true, 7), (true, 10), (true, 11), (true, 12), (false, 13)] _ (by rfl) (by rfl) (⟨dlo, d1⟩) ?_
        dsimp only [List.filterMap, List.getElem?_cons_zero, List.getElem?_cons_succ]
        (refine wpQuiet_load_cell (fun w' hw' => hw'.1) (by rfl) _ _ (by rfl) (by rfl) _ Tryd.underlying22 (by rfl) ?_; simp only [Act.put, List.setIfInBounds_toArray, List.set_cons_zero, List.set_cons_succ])
        (refine wpQuiet_load_cell (fun w' hw' => hw'.2) (by rfl) _ _ (by rfl) (by rfl) _ Tryd.underlying5 (by rfl) ?_; simp only [Act.put, List.setIfInBounds_toArray, List.set_cons_zero, List.set_cons_succ])
        refine wpQuiet_nil ?_
        refine wpPlan_pure [7, 10, 11, 12] [(false, 13)] _ (by rfl) (by rfl) ?_
        dsimp only [List.filterMap, List.getElem?_cons_zero, List.getElem?_cons_succ]
        repeat (go_big_quiet_step (fail))
        refine wpQuiet_nil ?_
        refine wpPlan_forceL _ rfl ?_
        go_wp2_with fail
        refine PlanQ.out (by rfl) ?_
        refine wpPlan_tidy ?_
        go_wp2
        go_roundw
        case rel => exact HR.out
        case measure => simp [intOf]
      · have e1 : bits .or .u64 (lo : Int) (IntKind.u64.wrap (IntKind.u64.wrap (iu8 x) * 256)) = ((lo' : Nat) : Int) := by rw [← HO.out.1]; exact orU lo 1 256 x (by decide) (by omega) HO.out.2
        go_wp2_with fail
        refine wp_region_planT (fun w' => w'.cell? ⟨hb, 13, none⟩ = some (.int .u64 (lo : Nat)) ∧ w'.cell? ⟨b, off + 93, none⟩ = some (.int .u8 (iu8 x))) [13] [(true, 0), (true, 2), (true, 3), (true, 4), (true, 5), (true, 8), (true, 9), (true, 1), (true, 6), (true, 7), (true, 10), (true, 11), (true, 12), (false, 13)] (by kernel_rfl) (by kernel_rfl) (⟨dlo, d1⟩) ?_
        refine wpPlan_pure [0, 2, 3, 4, 5, 8, 9] [(true, 1), (true, 6), (true, 7), (true, 10), (true, 11), (true, 12), (false, 13)] _ (by rfl) (by rfl) ?_
        dsimp only [List.filterMap, List.getElem?_cons_zero, List.getElem?_cons_succ]
        repeat (go_big_quiet_step (fail))
        refine wpQuiet_nil ?_
        refine wpPlan_takeL [1, 6] [(true, 7), (true, 10), (true, 11), (true, 12), (false, 13)] _ (by rfl) (by rfl) (⟨dlo, d1⟩) ?_
        dsimp only [List.filterMap, List.getElem?_cons_zero, List.getElem?_cons_succ]
        (refine wpQuiet_load_cell (fun w' hw' => hw'.1) (by rfl) _ _ (by rfl) (by rfl) _ Tryd.underlying22 (by rfl) ?_; simp only [Act.put, List.setIfInBounds_toArray, List.set_cons_zero, List.set_cons_succ])
        (refine wpQuiet_load_cell (fun w' hw' => hw'.2) (by rfl) _ _ (by rfl) (by rfl) _ Tryd.underlying5 (by rfl) ?_; simp only [Act.put, List.setIfInBounds_toArray, List.set_cons_zero, List.set_cons_succ])
        refine wpQuiet_nil ?_
        refine wpPlan_pure [7, 10, 11, 12] [(false, 13)] _ (by rfl) (by rfl) ?_
        dsimp only [List.filterMap, List.getElem?_cons_zero, List.getElem?_cons_succ]
        repeat (go_big_quiet_step (fail))
        refine wpQuiet_nil ?_
        refine wpPlan_forceL _ rfl ?_
        go_wp2_with fail
        refine PlanQ.out (by rfl) ?_
        refine wpPlan_tidy ?_
        go_wp2
        go_roundw
        case rel => exact HR.out
        case measure => simp [intOf]
      · have e1 : bits .or .u64 (lo : Int) (IntKind.u64.wrap (IntKind.u64.wrap (iu8 x) * 65536)) = ((lo' : Nat) : Int) := by rw [← HO.out.1]; exact orU lo 2 65536 x (by decide) (by omega) HO.out.2
        go_wp2_with fail
        refine wp_region_planT (fun w' => w'.cell? ⟨hb, 13, none⟩ = some (.int .u64 (lo : Nat)) ∧ w'.cell? ⟨b, off + 94, none⟩ = some (.int .u8 (iu8 x))) [13] [(true, 0), (true, 2), (true, 3), (true, 4), (true, 5), (true, 8), (true, 9), (true, 1), (true, 6), (true, 7), (true, 10), (true, 11), (true, 12), (false, 13)] (by kernel_rfl) (by kernel_rfl) (⟨dlo, d1⟩) ?_
        refine wpPlan_pure [0, 2, 3, 4, 5, 8, 9] [(true, 1), (true, 6), (true, 7), (true, 10), (true, 11), (true, 12), (false, 13)] _ (by rfl) (by rfl) ?_
        dsimp only [List.filterMap, List.getElem?_cons_zero, List.getElem?_cons_succ]
        repeat (go_big_quiet_step (fail))
        refine wpQuiet_nil ?_
        refine wpPlan_takeL [1, 6] [(true, 7), (true, 10), (true, 11), (true, 12), (false, 13)] _ (by rfl) (by rfl) (⟨dlo, d1⟩) ?_
        dsimp only [List.filterMap, List.getElem?_cons_zero, List.getElem?_cons_succ]
        (refine wpQuiet_load_cell (fun w' hw' => hw'.1) (by rfl) _ _ (by rfl) (by rfl) _ Tryd.underlying22 (by rfl) ?_; simp only [Act.put, List.setIfInBounds_toArray, List.set_cons_zero, List.set_cons_succ])
        (refine wpQuiet_load_cell (fun w' hw' => hw'.2) (by rfl) _ _ (by rfl) (by rfl) _ Tryd.underlying5 (by rfl) ?_; simp only [Act.put, List.setIfInBounds_toArray, List.set_cons_zero, List.set_cons_succ])
        refine wpQuiet_nil ?_
        refine wpPlan_pure [7, 10, 11, 12] [(false, 13)] _ (by rfl) (by rfl) ?_
        dsimp only [List.filterMap, List.getElem?_cons_zero, List.getElem?_cons_succ]
        repeat (go_big_quiet_step (fail))
        refine wpQuiet_nil ?_
        refine wpPlan_forceL _ rfl ?_
        go_wp2_with fail
        refine PlanQ.out (by rfl) ?_
        refine wpPlan_tidy ?_
        go_wp2
        go_roundw
        case rel => exact HR.out
        case measure => simp [intOf]
      · have e1 : bits .or .u64 (lo : Int) (IntKind.u64.wrap (IntKind.u64.wrap (iu8 x) * 16777216)) = ((lo' : Nat) : Int) := by rw [← HO.out.1]; exact orU lo 3 16777216 x (by decide) (by omega) HO.out.2
        go_wp2_with fail
        refine wp_region_planT (fun w' => w'.cell? ⟨hb, 13, none⟩ = some (.int .u64 (lo : Nat)) ∧ w'.cell? ⟨b, off + 95, none⟩ = some (.int .u8 (iu8 x))) [13] [(true, 0), (true, 2), (true, 3), (true, 4), (true, 5), (true, 8), (true, 9), (true, 1), (true, 6), (true, 7), (true, 10), (true, 11), (true, 12), (false, 13)] (by kernel_rfl) (by kernel_rfl) (⟨dlo, d1⟩) ?_
        refine wpPlan_pure [0, 2, 3, 4, 5, 8, 9] [(true, 1), (true, 6), (true, 7), (true, 10), (true, 11), (true, 12), (false, 13)] _ (by rfl) (by rfl) ?_
        dsimp only [List.filterMap, List.getElem?_cons_zero, List.getElem?_cons_succ]
        repeat (go_big_quiet_step (fail))
        refine wpQuiet_nil ?_
        refine wpPlan_takeL [1, 6] [(true, 7), (true, 10), (true, 11), (true, 12), (false, 13)] _ (by rfl) (by rfl) (⟨dlo, d1⟩) ?_
        dsimp only [List.filterMap, List.getElem?_cons_zero, List.getElem?_cons_succ]
        (refine wpQuiet_load_cell (fun w' hw' => hw'.1) (by rfl) _ _ (by rfl) (by rfl) _ Tryd.underlying22 (by rfl) ?_; simp only [Act.put, List.setIfInBounds_toArray, List.set_cons_zero, List.set_cons_succ])
        (refine wpQuiet_load_cell (fun w' hw' => hw'.2) (by rfl) _ _ (by rfl) (by rfl) _ Tryd.underlying5 (by rfl) ?_; simp only [Act.put, List.setIfInBounds_toArray, List.set_cons_zero, List.set_cons_succ])
        refine wpQuiet_nil ?_
        refine wpPlan_pure [7, 10, 11, 12] [(false, 13)] _ (by rfl) (by rfl) ?_
        dsimp only [List.filterMap, List.getElem?_cons_zero, List.getElem?_cons_succ]
        repeat (go_big_quiet_step (fail))
        refine wpQuiet_nil ?_
        refine wpPlan_forceL _ rfl ?_
        go_wp2_with fail
        refine PlanQ.out (by rfl) ?_
        refine wpPlan_tidy ?_
        go_wp2
        go_roundw
        case rel => exact HR.out
        case measure => simp [intOf]
      · have e1 : bits .or .u64 (lo : Int) (IntKind.u64.wrap (IntKind.u64.wrap (iu8 x) * 4294967296)) = ((lo' : Nat) : Int) := by rw [← HO.out.1]; exact orU lo 4 4294967296 x (by decide) (by omega) HO.out.2
        go_wp2_with fail
        refine wp_region_planT (fun w' => w'.cell? ⟨hb, 13, none⟩ = some (.int .u64 (lo : Nat)) ∧ w'.cell? ⟨b, off + 96, none⟩ = some (.int .u8 (iu8 x))) [13] [(true, 0), (true, 2), (true, 3), (true, 4), (true, 5), (true, 8), (true, 9), (true, 1), (true, 6), (true, 7), (true, 10), (true, 11), (true, 12), (false, 13)] (by kernel_rfl) (by kernel_rfl) (⟨dlo, d1⟩) ?_
        refine wpPlan_pure [0, 2, 3, 4, 5, 8, 9] [(true, 1), (true, 6), (true, 7), (true, 10), (true, 11), (true, 12), (false, 13)] _ (by rfl) (by rfl) ?_
        dsimp only [List.filterMap, List.getElem?_cons_zero, List.getElem?_cons_succ]
        repeat (go_big_quiet_step (fail))
        refine wpQuiet_nil ?_
        refine wpPlan_takeL [1, 6] [(true, 7), (true, 10), (true, 11), (true, 12), (false, 13)] _ (by rfl) (by rfl) (⟨dlo, d1⟩) ?_
        dsimp only [List.filterMap, List.getElem?_cons_zero, List.getElem?_cons_succ]
        (refine wpQuiet_load_cell (fun w' hw' => hw'.1) (by rfl) _ _ (by rfl) (by rfl) _ Tryd.underlying22 (by rfl) ?_; simp only [Act.put, List.setIfInBounds_toArray, List.set_cons_zero, List.set_cons_succ])
        (refine wpQuiet_load_cell (fun w' hw' => hw'.2) (by rfl) _ _ (by rfl) (by rfl) _ Tryd.underlying5 (by rfl) ?_; simp only [Act.put, List.setIfInBounds_toArray, List.set_cons_zero, List.set_cons_succ])
        refine wpQuiet_nil ?_
        refine wpPlan_pure [7, 10, 11, 12] [(false, 13)] _ (by rfl) (by rfl) ?_
        dsimp only [List.filterMap, List.getElem?_cons_zero, List.getElem?_cons_succ]
        repeat (go_big_quiet_step (fail))
        refine wpQuiet_nil ?_
        refine wpPlan_forceL _ rfl ?_
        go_wp2_with fail
        refine PlanQ.out (by rfl) ?_
        refine wpPlan_tidy ?_
        go_wp2
        go_roundw
        case rel => exact HR.out
        case measure => simp [intOf]
      · have e1 : bits .or .u64 (lo : Int) (IntKind.u64.wrap (IntKind.u64.wrap (iu8 x) * 1099511627776)) = ((lo' : Nat) : Int) := by rw [← HO.out.1]; exact orU lo 5 1099511627776 x (by decide) (by omega) HO.out.2
        go_wp2_with fail
        refine wp_region_planT (fun w' => w'.cell? ⟨hb, 13, none⟩ = some (.int .u64 (lo : Nat)) ∧ w'.cell? ⟨b, off + 97, none⟩ = some (.int .u8 (iu8 x))) [13] [(true, 0), (true, 2), (true, 3), (true, 4), (true, 5), (true, 8), (true, 9), (true, 1), (true, 6), (true, 7), (true, 10), (true, 11), (true, 12), (false, 13)] (by kernel_rfl) (by kernel_rfl) (⟨dlo, d1⟩) ?_
        refine wpPlan_pure [0, 2, 3, 4, 5, 8, 9] [(true, 1), (true, 6), (true, 7), (true, 10), (true, 11), (true, 12), (false, 13)] _ (by rfl) (by rfl) ?_
        dsimp only [List.filterMap, List.getElem?_cons_zero, List.getElem?_cons_succ]
        repeat (go_big_quiet_step (fail))
        refine wpQuiet_nil ?_
        refine wpPlan_takeL [1, 6] [(true, 7), (true, 10), (true, 11), (true, 12), (false, 13)] _ (by rfl) (by rfl) (⟨dlo, d1⟩) ?_
        dsimp only [List.filterMap, List.getElem?_cons_zero, List.getElem?_cons_succ]
        (refine wpQuiet_load_cell (fun w' hw' => hw'.1) (by rfl) _ _ (by rfl) (by rfl) _ Tryd.underlying22 (by rfl) ?_; simp only [Act.put, List.setIfInBounds_toArray, List.set_cons_zero, List.set_cons_succ])
        (refine wpQuiet_load_cell (fun w' hw' => hw'.2) (by rfl) _ _ (by rfl) (by rfl) _ Tryd.underlying5 (by rfl) ?_; simp only [Act.put, List.setIfInBounds_toArray, List.set_cons_zero, List.set_cons_succ])
        refine wpQuiet_nil ?_
        refine wpPlan_pure [7, 10, 11, 12] [(false, 13)] _ (by rfl) (by rfl) ?_
        dsimp only [List.filterMap, List.getElem?_cons_zero, List.getElem?_cons_succ]
        repeat (go_big_quiet_step (fail))
        refine wpQuiet_nil ?_
        refine wpPlan_forceL _ rfl ?_
        go_wp2_with fail
        refine PlanQ.out (by rfl) ?_
        refine wpPlan_tidy ?_
        go_wp2
        go_roundw
        case rel => exact HR.out
        case measure => simp [intOf]
      · have e1 : bits .or .u64 (lo : Int) (IntKind.u64.wrap (IntKind.u64.wrap (iu8 x) * 281474976710656)) = ((lo' : Nat) : Int) := by rw [← HO.out.1]; exact orU lo 6 281474976710656 x (by decide) (by omega) HO.out.2
        go_wp2_with fail
        refine wp_region_planT (fun w' => w'.cell? ⟨hb, 13, none⟩ = some (.int .u64 (lo : Nat)) ∧ w'.cell? ⟨b, off + 98, none⟩ = some (.int .u8 (iu8 x))) [13] [(true, 0), (true, 2), (true, 3), (true, 4), (true, 5), (true, 8), (true, 9), (true, 1), (true, 6), (true, 7), (true, 10), (true, 11), (true, 12), (false, 13)] (by kernel_rfl) (by kernel_rfl) (⟨dlo, d1⟩) ?_
        refine wpPlan_pure [0, 2, 3, 4, 5, 8, 9] [(true, 1), (true, 6), (true, 7), (true, 10), (true, 11), (true, 12), (false, 13)] _ (by rfl) (by rfl) ?_
        dsimp only [List.filterMap, List.getElem?_cons_zero, List.getElem?_cons_succ]
        repeat (go_big_quiet_step (fail))
        refine wpQuiet_nil ?_
        refine wpPlan_takeL [1, 6] [(true, 7), (true, 10), (true, 11), (true, 12), (false, 13)] _ (by rfl) (by rfl) (⟨dlo, d1⟩) ?_
        dsimp only [List.filterMap, List.getElem?_cons_zero, List.getElem?_cons_succ]
        (refine wpQuiet_load_cell (fun w' hw' => hw'.1) (by rfl) _ _ (by rfl) (by rfl) _ Tryd.underlying22 (by rfl) ?_; simp only [Act.put, List.setIfInBounds_toArray, List.set_cons_zero, List.set_cons_succ])
        (refine wpQuiet_load_cell (fun w' hw' => hw'.2) (by rfl) _ _ (by rfl) (by rfl) _ Tryd.underlying5 (by rfl) ?_; simp only [Act.put, List.setIfInBounds_toArray, List.set_cons_zero, List.set_cons_succ])
        refine wpQuiet_nil ?_
        refine wpPlan_pure [7, 10, 11, 12] [(false, 13)] _ (by rfl) (by rfl) ?_
        dsimp only [List.filterMap, List.getElem?_cons_zero, List.getElem?_cons_succ]
        repeat (go_big_quiet_step (fail))
        refine wpQuiet_nil ?_
        refine wpPlan_forceL _ rfl ?_
        go_wp2_with fail
        refine PlanQ.out (by rfl) ?_
        refine wpPlan_tidy ?_
        go_wp2
        go_roundw
        case rel => exact HR.out
        case measure => simp [intOf]
      · have e1 : bits .or .u64 (lo : Int) (IntKind.u64.wrap (IntKind.u64.wrap (iu8 x) * 72057594037927936)) = ((lo' : Nat) : Int) := by rw [← HO.out.1]; exact orU lo 7 72057594037927936 x (by decide) (by omega) HO.out.2
        go_wp2_with fail
        refine wp_region_planT (fun w' => w'.cell? ⟨hb, 13, none⟩ = some (.int .u64 (lo : Nat)) ∧ w'.cell? ⟨b, off + 99, none⟩ = some (.int .u8 (iu8 x))) [13] [(true, 0), (true, 2), (true, 3), (true, 4), (true, 5), (true, 8), (true, 9), (true, 1), (true, 6), (true, 7), (true, 10), (true, 11), (true, 12), (false, 13)] (by kernel_rfl) (by kernel_rfl) (⟨dlo, d1⟩) ?_
        refine wpPlan_pure [0, 2, 3, 4, 5, 8, 9] [(true, 1), (true, 6), (true, 7), (true, 10), (true, 11), (true, 12), (false, 13)] _ (by rfl) (by rfl) ?_
        dsimp only [List.filterMap, List.getElem?_cons_zero, List.getElem?_cons_succ]
        repeat (go_big_quiet_step (fail))
        refine wpQuiet_nil ?_
        refine wpPlan_takeL [1, 6] [(true, 7), (true, 10), (true, 11), (true, 12), (false, 13)] _ (by rfl) (by rfl) (⟨dlo, d1⟩) ?_
        dsimp only [List.filterMap, List.getElem?_cons_zero, List.getElem?_cons_succ]
        (refine wpQuiet_load_cell (fun w' hw' => hw'.1) (by rfl) _ _ (by rfl) (by rfl) _ Tryd.underlying22 (by rfl) ?_; simp only [Act.put, List.setIfInBounds_toArray, List.set_cons_zero, List.set_cons_succ])
        (refine wpQuiet_load_cell (fun w' hw' => hw'.2) (by rfl) _ _ (by rfl) (by rfl) _ Tryd.underlying5 (by rfl) ?_; simp only [Act.put, List.setIfInBounds_toArray, List.set_cons_zero, List.set_cons_succ])
        refine wpQuiet_nil ?_
        refine wpPlan_pure [7, 10, 11, 12] [(false, 13)] _ (by rfl) (by rfl) ?_
        dsimp only [List.filterMap, List.getElem?_cons_zero, List.getElem?_cons_succ]
        repeat (go_big_quiet_step (fail))
        refine wpQuiet_nil ?_
        refine wpPlan_forceL _ rfl ?_
        go_wp2_with fail
        refine PlanQ.out (by rfl) ?_
        refine wpPlan_tidy ?_
        go_wp2
        go_roundw
        case rel => exact HR.out
        case measure => simp [intOf]
    · obtain rfl : j = 8 := by omega
      rw [lpart_8] at hg
      rw [show setF (Hd.f3 raw) 13 (at8 raw 92 : Nat) = Hd.f4 raw from rfl] at hg
      obtain ⟨hg2, hby, hHB0⟩ := HX9.out
      replace hg2 := hg2.upd hu (by omega)
      replace hby := Bytes.upd hby hu (by intro ad e; cases e; show b ≠ hb; omega)
      have hHB := Lib.hid (hHB0.upd hu (by rw [← HGN.out]; exact hgb))
      clear HX9 hHB0 hu hj hlt hcb
      rw [show ((8 : Nat) : Int) = 8 from rfl]
      go_wp2_with fail
      refine wp_region_planT (fun _ => True) [] [(true, 0), (true, 1), (true, 2), (false, 3)] (by kernel_rfl) (by kernel_rfl) (trivial) ?_
      refine wpPlan_pure [0, 1, 2] [(false, 3)] _ (by rfl) (by rfl) ?_
      dsimp only [List.filterMap, List.getElem?_cons_zero, List.getElem?_cons_succ]
      repeat (go_big_quiet_step (fail))
      refine wpQuiet_nil ?_
      refine wpPlan_forceL _ rfl ?_
      go_wp2_with fail
      refine (hfours_at b (off + 100) (c - 100) hb 156 (g1 + 1 + 1) 2 100 (Hd.f4 raw) raw [14, 15] HN.out rfl (by omega) (by omega) wr.drew (HCUT.out 100 wr.drew (by omega) hby) hg.drew ⟨_, hbj.drew⟩ (by decide) (by omega) (by omega)).mono ?_
      rintro e w10 ⟨rfl, hh, hu⟩
      replace hg2 := hg2.drew.upd hu (by omega)
      replace hHB := Lib.hid (hHB.out.drew.upd hu (by rw [← HGN.out]; exact hgb))
      replace hby : Bytes w10 (some ⟨b, off, none⟩) raw := Bytes.upd (w := wr.drew) hby hu (by intro ad e; cases e; show b ≠ hb; omega)
      clear hbj hu hg
      replace hh := hh.sub (show hdc (stepsF (Hd.f4 raw) (raw.drop 100) [14, 15] 2) = hdc (Hd.parse raw) from Hd.f5_parse raw)
      obtain ⟨f, hf⟩ : ∃ f, f = Hd.parse raw := ⟨_, rfl⟩
      rw [← hf] at hh
      have HF := Lib.hid hf
      obtain ⟨S, hS⟩ : ∃ S, S = (raw.drop 16).take 16 := ⟨_, rfl⟩
      have hSl : S.length = 16 := by rw [hS, List.length_take, List.length_drop, HN.out]; rfl
      have hbS : Bytes w10 (some ⟨b, off + 16, none⟩) S := by rw [hS]; exact (HCUT.out 16 w10 (by omega) hby).take 16
      have HS := Lib.hid hS
      clear hS hf
      obtain ⟨L, hL⟩ : ∃ L, L = List.replicate 16 (0 : UInt8) ++ Hd.rest f S := ⟨_, rfl⟩
      have hcLaid : ∀ w', Calls Tryd.prog 40 #[.agg (hdc f), .agg (S.map u8v).toArray] w' fun e w'' => e = .returned (.agg (L.map u8v).toArray) ∧ Below w'.heap.size w' w'' := fun w' => by
        rw [hL]
        exact hlaid_any f S hSl (by rw [HF.out]; exact Hd.parse_nat raw) (by rw [HF.out]; exact Hd.parse_in raw) w'
      have HLL : Hid (L.length = 256) := Lib.hid (by rw [hL, List.length_append, Hd.rest_length f _ hSl, List.length_replicate])
      have HL := Lib.hid hL
      have HSL := Lib.hid hSl
      clear hL hSl
      have a256 := alloc256
      go_wp2_with fail
      refine PlanQ.in_ trivial ?_
      refine wpPlan_tidy ?_
      go_wp2_with fail
      refine wp_region_tree (Below w10.heap.size w10) [] (PlanT.takes [1, 2, 3] (PlanT.takes [0, 4] (.opt 5 (.opt 6 (.opt 7 .done .no) .no) (.opt 6 (.opt 5 (.opt 7 .done .no) .no) .no)))) (by kernel_rfl) (by kernel_rfl) ((Below.refl _ _).drew) ?_
      refine wpTree_pure _ _ _ (by rfl) (by rfl) ?_
      dsimp only [List.filterMap, List.getElem?_cons_zero, List.getElem?_cons_succ]
      repeat (go_big_quiet_step (fail))
      refine wpQuiet_array (by rfl) _ _ (by rfl) 16 _ Tryd.underlying70 (some ⟨b, off + 16, none⟩) 16 (c - 16) (by rfl) (Nat.le_refl _) ?_
      simp only [Act.put, List.setIfInBounds_toArray, List.set_cons_zero, List.set_cons_succ]
      refine wpQuiet_nil ?_
      refine wpTree_takeL _ _ _ (by rfl) (by rfl) ((Below.refl _ _).drew) ?_
      dsimp only [List.filterMap, List.getElem?_cons_zero, List.getElem?_cons_succ]
      (refine wpQuiet_load_blk (fun w' hw' => hh.below hw' hh.lt) (by rfl) _ _ (by rfl) (by rfl) _ Tryd.underlying26 (by rfl) (sizeHd) (hdc_size _) ?_; simp only [Act.put, List.setIfInBounds_toArray, List.set_cons_zero, List.set_cons_succ])
      (refine wpQuiet_load_mid (fun w' hw' => (Bytes.below hbS hw').range) (by rfl) _ _ (by rfl) (by rfl) _ Tryd.underlying70 (by rfl) (size16) (by rw [List.length_map]; exact HSL.out) ?_; simp only [Act.put, List.setIfInBounds_toArray, List.set_cons_zero, List.set_cons_succ])
      refine wpQuiet_nil ?_
      apply share (α := Nat) (F := fun ga wZ => Blk wZ ga 81 (L.map u8v).toArray ∧ Below w10.heap.size w10 wZ ∧ w10.heap.size ≤ ga)
      · intro KK
        refine wpTree_opt _ rfl ?_ (wpTree_one _ rfl ?_)
        · go_wp2_with fail
          refine (hcLaid _).mono ?_
          rintro e w6 ⟨rfl, hb6⟩
          have hc6 : Below w10.heap.size w10 w6 := (Below.refl _ _).drew.trans (hb6.mono (Nat.le_refl _))
          go_wp2_with fail
          refine TreeQ.in_ hc6 ?_
          refine wpTree_one _ rfl ?_
          go_wp2_with fail
          refine TreeQ.in_ (hc6.alloc hc6.size _) ?_
          refine wpTree_one _ rfl ?_
          go_wp2_with (first
            | (show wpList _ _ _ ((⟨none, _, _, _, _, _⟩ : Oper) :: _) _ _; refine wpList_store_blk (o := ⟨none, _, _, _, _, _⟩) (Blk.new w6 81 zero256) (by rfl) _ _ _ (by rfl) (by rfl) ((L.map u8v).toArray) (by rfl) (size256) (arr_size _ _) (by simpa using HLL.out) (u8_all _) ?_; intro w7 h7 hu7)
            | fail)
          have hc7 := (hc6.alloc hc6.size _).upd hu7 hc6.size
          refine TreeQ.in_ hc7 ?_
          refine wpTree_done ?_
          have hge := hc6.size
          generalize w6.heap.size = ga at *
          exact KK ga w7 ⟨h7, hc7, hge⟩
        · go_wp2_with fail
          have hc6 : Below w10.heap.size w10 (w10.alloc (.cells zero256 81)).drew := ((Below.refl _ _).alloc (Nat.le_refl _) _).drew
          have h6 : Blk (w10.alloc (.cells zero256 81)).drew w10.heap.size 81 zero256 := (Blk.new w10 _ _).drew
          have hge : w10.heap.size ≤ w10.heap.size := Nat.le_refl _
          generalize hwx : (w10.alloc (.cells zero256 81)).drew = wx at hc6 h6 ⊢
          clear hwx
          refine TreeQ.in_ hc6 ?_
          refine wpTree_one _ rfl ?_
          go_wp2_with fail
          refine (hcLaid wx).mono ?_
          rintro e w6 ⟨rfl, hb6⟩
          have h7 := keep hb6 h6
          have hc7 := hc6.trans (hb6.mono hc6.size)
          go_wp2_with fail
          refine TreeQ.in_ hc7 ?_
          refine wpTree_one _ rfl ?_
          go_wp2_with (first
            | (show wpList _ _ _ ((⟨none, _, _, _, _, _⟩ : Oper) :: _) _ _; refine wpList_store_blk (o := ⟨none, _, _, _, _, _⟩) (h7) (by rfl) _ _ _ (by rfl) (by rfl) ((L.map u8v).toArray) (by rfl) (size256) (arr_size _ _) (by simpa using HLL.out) (u8_all _) ?_; intro w8 h8 hu8)
            | fail)
          have hc8 := hc7.upd hu8 hge
          refine TreeQ.in_ hc8 ?_
          refine wpTree_done ?_
          exact KK w10.heap.size w8 ⟨h8, hc8, hge⟩
      · clear hcLaid a256
        rintro ga wZ ⟨hga, hbx, hge⟩
        have hgah := hh.lt
        (replace hg2 := keep hbx hg2; replace hby := keep hbx hby; replace hh := keep hbx hh)
        replace hHB := Lib.hid (hHB.out.trans (hbx.mono hHB.out.size))
        clear hbx hbS
        go_wp2_with fail
        refine wp_region_tree (Below wZ.heap.size wZ) [] (PlanT.takes [0] (.opt 1 (PlanT.takes [2, 3, 4, 6, 7] (PlanT.takes [5, 8] (PlanT.takes [9, 10] .done))) .no)) (by kernel_rfl) (by kernel_rfl) ((Below.refl _ _).drew) ?_
        refine wpTree_takeL _ _ _ (by rfl) (by rfl) ((Below.refl _ _).drew) ?_
        dsimp only [List.filterMap, List.getElem?_cons_zero, List.getElem?_cons_succ]
        (refine wpQuiet_load_blk (fun w' hw' => hh.below hw' hh.lt) (by rfl) _ _ (by rfl) (by rfl) _ Tryd.underlying26 (by rfl) (sizeHd) (hdc_size _) ?_; simp only [Act.put, List.setIfInBounds_toArray, List.set_cons_zero, List.set_cons_succ])
        refine wpQuiet_nil ?_
        refine wpTree_one _ rfl ?_
        go_wp2_with fail
        refine (hcheck_any f _).mono ?_
        rintro e w11 ⟨rfl, hbx⟩
        have hBx : Below wZ.heap.size wZ w11 := (Below.refl _ _).drew.trans hbx
        have hRl := Hd.rest_length f S HSL.out
        have hbR : Bytes wZ (some ⟨ga, 16, none⟩) (Hd.rest f S) := by
          have h := hga.bytes.drop (k := 16) (cap := 256) (.inl (by omega))
          rw [if_neg (by omega)] at h
          rw [HL.out, show (List.replicate 16 (0 : UInt8) ++ Hd.rest f S).drop 16 = Hd.rest f S from List.drop_left (l₁ := List.replicate 16 (0 : UInt8))] at h
          simpa [Addr.add_lit] using h
        have hbD := HCUT.out 16 wZ (by omega) hby
        have hDl : (raw.drop 16).length = 240 := by rw [List.length_drop, HN.out]
        have HRD := Lib.hid (And.intro hRl hDl)
        have HRB := Lib.hid (And.intro hbR hbD)
        clear hRl hDl hbR hbD
        (replace hg2 := keep hBx hg2; replace hby := keep hBx hby; replace hh := keep hBx hh; replace hga := keep hBx hga)
        replace hHB := Lib.hid (hHB.out.trans (hBx.mono hHB.out.size))
        clear hbx
        by_cases hok : Hd.ok f = true
        · rw [show Hd.code f = 0 by unfold Hd.code; rw [hok]; rfl]
          have HOK := Lib.hid hok
          clear hok
          go_wp2_with fail
          refine TreeQ.in_ hBx ?_
          refine wpTree_pure _ _ _ (by rfl) (by rfl) ?_
          dsimp only [List.filterMap, List.getElem?_cons_zero, List.getElem?_cons_succ]
          repeat (go_big_quiet_step (fail))
          refine wpQuiet_nil ?_
          refine wpTree_takeL _ _ _ (by rfl) (by rfl) (hBx) ?_
          dsimp only [List.filterMap, List.getElem?_cons_zero, List.getElem?_cons_succ]
          (refine wpQuiet_want' (by rfl) ?_; refine wpQuiet_convert_str (by rfl) 27 9 5 _ (by rfl) Tryd.underlying27 Tryd.underlying5 Tryd.underlying9 (some ⟨ga, 16, none⟩) (240) (240) (Hd.rest f S) (by rfl) (HRD.out.1.symm) (fun w' hw' => Bytes.below HRB.out.1 hw') ?_; simp only [Act.put, List.setIfInBounds_toArray, List.set_cons_zero, List.set_cons_succ])
          (refine wpQuiet_want' (by rfl) ?_; refine wpQuiet_convert_str (by rfl) 27 9 5 _ (by rfl) Tryd.underlying27 Tryd.underlying5 Tryd.underlying9 (some ⟨b, off + 16, none⟩) (240) (c - 16) (raw.drop 16) (by rfl) (HRD.out.2.symm) (fun w' hw' => Bytes.below HRB.out.2 hw') ?_; simp only [Act.put, List.setIfInBounds_toArray, List.set_cons_zero, List.set_cons_succ])
          refine wpQuiet_nil ?_
          refine wpTree_pure _ _ _ (by rfl) (by rfl) ?_
          dsimp only [List.filterMap, List.getElem?_cons_zero, List.getElem?_cons_succ]
          repeat (go_big_quiet_step (fail))
          refine wpQuiet_nil ?_
          refine wpTree_done ?_
          rw [str_beq]
          by_cases heq : Hd.rest f S = raw.drop 16
          · rw [decide_eq_true heq]
            have hrd : Hid (Hd.read raw = (0, f)) := Lib.hid (by
              unfold Hd.read
              rw [if_neg (by rw [HN.out]; simp), if_neg (by rw [HSEAL.out]; simp), ← HF.out, ← HS.out, if_pos ⟨HOK.out, heq⟩])
            clear heq hBx HRB HRD HCUT hge hgah hgl hlt3 hgb hbl hz9
            go_wp2_with (first
              | (show wpList _ _ _ ((⟨some 82, _, _, _, _, _⟩ : Oper) :: _) _ _; refine wpList_load_blk (o := ⟨some 82, _, _, _, _, _⟩) (hh) (by rfl) _ _ (by rfl) (by rfl) _ Tryd.underlying26 (by rfl) (sizeHd) (hdc_size _) ?_)
              | (show wpList _ _ _ ((⟨none, _, _, _, _, _⟩ : Oper) :: _) _ _; refine wpList_store_blk (o := ⟨none, _, _, _, _, _⟩) (hg2) (by rfl) _ _ _ (by rfl) (by rfl) (hdc f) (by rfl) (sizeHd) (hdc_size _) (hdc_size _) (hdc_one _) ?_; intro w3 h3 hu3)
              | fail)
            refine bodyPost_ret (results_row_tmp (by rfl) _ _ g0 _ _ _ (by rfl) h3 Tryd.underlying26 (by rfl) (by rw [hdc_size]; exact sizeHd)) rfl ⟨by rw [hrd.out]; rfl, hHB.out.upd hu3 (by rw [HGN.out]; exact Nat.le_refl _)⟩
          · rw [decide_eq_false heq]
            have hrd : Hid (Hd.read raw = (4, Hd.none_)) := Lib.hid (by
              unfold Hd.read
              rw [if_neg (by rw [HN.out]; simp), if_neg (by rw [HSEAL.out]; simp), ← HF.out, ← HS.out, if_neg (fun h => heq h.2)])
            clear heq hBx HRB HRD HCUT hge hgah hgl hlt3 hgb hbl hz9
            go_wp2_with (first
              | (show wpList _ _ _ ((⟨none, _, _, _, _, _⟩ : Oper) :: _) _ _; refine wpList_store_blk (o := ⟨none, _, _, _, _, _⟩) (hg2) (by rfl) _ _ _ (by rfl) (by rfl) (hdc zeroHd) (by rfl) (sizeHd) (hdc_size _) (hdc_size _) (hdc_one _) ?_; intro w3 h3 hu3)
              | fail)
            refine bodyPost_ret (results_row_tmp (by rfl) _ _ g0 _ _ _ (by rfl) h3 Tryd.underlying26 (by rfl) (by rw [hdc_size]; exact sizeHd)) rfl ⟨by rw [hrd.out]; rfl, hHB.out.upd hu3 (by rw [HGN.out]; exact Nat.le_refl _)⟩
        · have hrd : Hid (Hd.read raw = (4, Hd.none_)) := Lib.hid (by
            unfold Hd.read
            rw [if_neg (by rw [HN.out]; simp), if_neg (by rw [HSEAL.out]; simp), ← HF.out, ← HS.out, if_neg (fun h => hok h.1)])
          rw [show Hd.code f = 2 by unfold Hd.code; rw [if_neg hok]]
          clear hok
          go_wp2_with fail
          refine TreeQ.in_ hBx ?_
          refine wpTree_pure _ _ _ (by rfl) (by rfl) ?_
          dsimp only [List.filterMap, List.getElem?_cons_zero, List.getElem?_cons_succ]
          repeat (go_big_quiet_step (fail))
          refine wpQuiet_nil ?_
          refine wpTree_takeL _ _ _ (by rfl) (by rfl) (hBx) ?_
          dsimp only [List.filterMap, List.getElem?_cons_zero, List.getElem?_cons_succ]
          repeat (go_big_quiet_step (fail))
          refine wpQuiet_nil ?_
          refine wpTree_pure _ _ _ (by rfl) (by rfl) ?_
          dsimp only [List.filterMap, List.getElem?_cons_zero, List.getElem?_cons_succ]
          repeat (go_big_quiet_step (fail))
          refine wpQuiet_nil ?_
          refine wpTree_done ?_
          clear hBx HRB HRD HCUT hge hgah hgl hlt3 hgb hbl hz9
          go_wp2_with (first
            | (show wpList _ _ _ ((⟨none, _, _, _, _, _⟩ : Oper) :: _) _ _; refine wpList_store_blk (o := ⟨none, _, _, _, _, _⟩) (hg2) (by rfl) _ _ _ (by rfl) (by rfl) (hdc zeroHd) (by rfl) (sizeHd) (hdc_size _) (hdc_size _) (hdc_one _) ?_; intro w3 h3 hu3)
            | fail)
          refine bodyPost_ret (results_row_tmp (by rfl) _ _ g0 _ _ _ (by rfl) h3 Tryd.underlying26 (by rfl) (by rw [hdc_size]; exact sizeHd)) rfl ⟨by rw [hrd.out]; rfl, hHB.out.upd hu3 (by rw [HGN.out]; exact Nat.le_refl _)⟩
end Go.Proofs.YtekdcjaljjlemaaDoor
