/- May a header be: the program's answer. No condition. -/
import Derived.Test.YtekdcjaljjlemaaDoorMSlotWrites5
namespace Go.Proofs.YtekdcjaljjlemaaDoor
open Go.RowKit
def hdv (f : HdF) (i : Nat) : Value := if i = 9 ∨ i = 10 ∨ i = 13 then .int .u64 (f i) else .int .i64 (f i)
def hdc (f : HdF) : Array Value := arr 16 (hdv f)
theorem hdc_at (f : HdF) (i : Nat) (h : i < 16) (h9 : i ≠ 9) (h10 : i ≠ 10) (h13 : i ≠ 13) : (hdc f)[i]? = some (.int .i64 (f i)) := by
  unfold hdc; rw [arr_at _ h]; unfold hdv; rw [if_neg (by omega)]
theorem hdc_u (f : HdF) (i : Nat) (h : i = 9 ∨ i = 10 ∨ i = 13) : (hdc f)[i]? = some (.int .u64 (f i)) := by
  unfold hdc; rw [arr_at _ (by omega)]; unfold hdv; rw [if_pos h]
theorem ptrinfo : (Tryd.prog.info? 71).map (fun i => (i.zero, i.size, i.bytes)) = some (some (.pointer none), 1, 8) := by kernel_rfl
theorem _root_.Go.Blk.reads {w : World} {g : Nat} {t : TypeId} {cs : Array Value} (h : Blk w g t cs) (o : Nat) (l : List Value) (hl : ∀ j v, l[j]? = some v → cs[o + j]? = some v) : Reads w (some ⟨g, o, none⟩) l := fun _ => ⟨g, o, rfl, fun j v hv => h.at_ (o + j) (hl j v hv)⟩
theorem pts_at (hb : Nat) (l : List Nat) (o : Nat) : ∀ j v, ((l.drop o).map (pt hb))[j]? = some v → (pts hb l)[o + j]? = some v := by
  intro j v hv
  unfold pts
  rw [List.getElem?_toArray, List.getElem?_map]
  rw [List.getElem?_map, List.getElem?_drop] at hv
  exact hv
theorem pt_one (hb : Nat) (l : List Nat) : ∀ u ∈ l.map (pt hb), u.oneCell' = true := by
  intro u hu; simp only [List.mem_map] at hu; obtain ⟨i, _, rfl⟩ := hu; rfl
def Hd.code (f : HdF) : Int := if Hd.ok f then 0 else 2
def ChkRel (f : HdF) (v : Value) : Prop := ∃ k : Nat, k ≤ 10 ∧ v = .int .i64 (k : Int) ∧ ∀ j, j < k → numOk (f (tenI.getD j 0)) = true
theorem hcheck_any (f : HdF) (w : World) :
    Calls Tryd.prog 41 #[.agg (hdc f)] w fun e w' => e = .returned (.int .i64 (Hd.code f)) ∧ Below w.heap.size w w' := by
  have hg := Blk.new w 26 (hdc f)
  have hB0 := (Below.refl w.heap.size w).alloc (Nat.le_refl _) (.cells (hdc f) 26)
  go_enter Tryd.func41, Tryd.ntmps41
  go_wp2_with fail
  generalize hw0 : w.alloc (.cells (hdc f) 26) = w0 at hg hB0 ⊢
  have hlt := hg.lt
  clear hw0
  refine (numbers_any w.heap.size w0).mono ?_
  rintro e w1 ⟨rfl, hB1⟩
  have hg1 := hg.below hB1 hlt
  have hB01 := hB0.trans (hB1.mono hB0.size)
  have HB01 := Lib.hid hB01
  clear hB01
  generalize w.heap.size = hb at hg1 hlt ⊢
  have b1 := Blk.new w1 72 (pts hb [0, 1, 2, 3, 4, 5, 6, 7, 8])
  have b2 := Blk.new (w1.alloc (.cells (pts hb [0, 1, 2, 3, 4, 5, 6, 7, 8]) 72)) 73 (pts hb [11, 12])
  have b3 := Blk.new ((w1.alloc (.cells (pts hb [0, 1, 2, 3, 4, 5, 6, 7, 8]) 72)).alloc (.cells (pts hb [11, 12]) 73)) 73 (pts hb [14, 15])
  replace b1 := (b1.alloc (.cells (pts hb [11, 12]) 73)).alloc (.cells (pts hb [14, 15]) 73)
  replace b2 := b2.alloc (.cells (pts hb [14, 15]) 73)
  rw [show (w1.alloc (.cells (pts hb [0, 1, 2, 3, 4, 5, 6, 7, 8]) 72)).heap.size = w1.heap.size + 1 by simp] at b2
  rw [show ((w1.alloc (.cells (pts hb [0, 1, 2, 3, 4, 5, 6, 7, 8]) 72)).alloc (.cells (pts hb [11, 12]) 73)).heap.size = w1.heap.size + 1 + 1 by simp] at b3
  have hB2 := (((Below.refl w1.heap.size w1).alloc (Nat.le_refl _) (.cells (pts hb [0, 1, 2, 3, 4, 5, 6, 7, 8]) 72)).alloc (by simp) (.cells (pts hb [11, 12]) 73)).alloc (by simp; omega) (.cells (pts hb [14, 15]) 73)
  have hg2 := hg1.below hB2 hg1.lt
  have H2 := Lib.hid (And.intro b1 (And.intro b2 (And.intro b3 (And.intro hg2 hB2))))
  clear b1 b2 b3 hg2 hB2 hg hB0 hB1
  simp only [pts, pt, List.map_cons, List.map_nil] at H2 ⊢
  go_wp2_with fail
  obtain ⟨b1, b2, b3, hg2, hB2⟩ := H2.out
  clear H2
  generalize ((w1.alloc _).alloc _).alloc _ = w2 at b1 b2 b3 hg2 hB2 ⊢
  generalize w1.heap.size = g1 at b1 b2 b3 ⊢
  have r1 : Reads w2.drew (some ⟨g1, 3, none⟩) ([3, 4, 5, 6, 7, 8].map (pt hb)) := Blk.reads (cs := pts hb [0, 1, 2, 3, 4, 5, 6, 7, 8]) b1.drew 3 _ (pts_at hb [0, 1, 2, 3, 4, 5, 6, 7, 8] 3)
  have r2 : Reads w2.drew (some ⟨g1 + 1, 0, none⟩) ([11, 12].map (pt hb)) := Blk.reads (cs := pts hb [11, 12]) b2.drew 0 _ (pts_at hb [11, 12] 0)
  have hl3 := b3.lt
  refine wp_region_planT (fun _ => True) [] [(true, 0), (true, 1), (true, 3), (true, 6), (false, 2), (false, 4), (true, 5)] (by kernel_rfl) (by kernel_rfl) (trivial) ?_
  refine wpPlan_pure [0, 1, 3, 6] [(false, 2), (false, 4), (true, 5)] _ (by rfl) (by rfl) ?_
  dsimp only [List.filterMap, List.getElem?_cons_zero, List.getElem?_cons_succ]
  repeat (go_big_quiet_step (fail))
  refine wpQuiet_nil ?_
  refine wpPlan_forceL _ rfl ?_
  go_wp2_with (first
    | (show wpList _ _ _ ((⟨some 15, _, _, _, _, _⟩ : Oper) :: _) _ _; refine wpList_append_full (o := ⟨some 15, _, _, _, _, _⟩) (by rfl) _ _ _ (by rfl) w2.drew.heap.size _ _ 1 8 Tryd.underlying78 ptrinfo (by rfl) (by omega) (some ⟨g1, 3, none⟩) 6 ([3, 4, 5, 6, 7, 8].map (pt hb)) (by rfl) (by rfl) (by omega) r1 (some ⟨g1 + 1, 0, none⟩) 2 2 ([11, 12].map (pt hb)) (by rfl) (by rfl) r2 (by omega) (by unfold maxLen; omega) (by omega) (Nat.le_refl _) ?_; intro v3 w3 sp3 ho3 hb3 hv3)
    | fail)
  refine PlanQ.in_ trivial ?_
  have r3 : Reads w3 (some ⟨g1 + 1 + 1, 0, none⟩) ([14, 15].map (pt hb)) := Blk.reads (cs := pts hb [14, 15]) (b3.drew.below hb3 hl3) 0 _ (pts_at hb [14, 15] 0)
  have hg3 := hg2.drew.below hb3 hg2.lt
  refine wpPlan_forceL _ rfl ?_
  go_wp2_with (first
    | (show wpList _ _ _ ((⟨some 17, _, _, _, _, _⟩ : Oper) :: _) _ _; refine wpList_append_all (o := ⟨some 17, _, _, _, _, _⟩) (by rfl) _ _ _ (by rfl) w2.drew.heap.size _ _ 1 8 Tryd.underlying78 ptrinfo (by rfl) (by omega) v3 8 _ sp3 (by rfl) ho3 (some ⟨g1 + 1 + 1, 0, none⟩) 2 2 ([14, 15].map (pt hb)) (by rfl) (by rfl) r3 (pt_one _ _) (by unfold maxLen; omega) (by omega) hb3.size ?_; intro v4 w4 sp4 ho4 hg4)
    | fail)
  refine PlanQ.in_ trivial ?_
  have hb4 := hb3.grown hg4 hb3.size (fun k hk => by rw [hv3] at hk; cases hk; exact Nat.le_refl _)
  have hgh := hg2.drew.below hb4 hg2.lt
  have hB12 := HB01.out.trans (hB2.mono HB01.out.size)
  have hB4 := hB12.drew.trans (hb4.mono hB12.drew.size)
  obtain ⟨A4, c4, rfl, _, _, hr4, _⟩ := OwnsC.reads ho4
  obtain ⟨bb, off, rfl, hc4⟩ := hr4 (by simp)
  have hpc : ∀ k, k < 10 → w4.cell? ⟨bb, off + k, none⟩ = some (.pointer (some ⟨hb, tenI.getD k 0, none⟩)) := fun k hk => hc4 k _ (by
    have : k = 0 ∨ k = 1 ∨ k = 2 ∨ k = 3 ∨ k = 4 ∨ k = 5 ∨ k = 6 ∨ k = 7 ∨ k = 8 ∨ k = 9 := by omega
    rcases this with rfl | rfl | rfl | rfl | rfl | rfl | rfl | rfl | rfl | rfl <;> rfl)
  have hfc : ∀ i, i < 16 → i ≠ 9 → i ≠ 10 → i ≠ 13 → w4.cell? ⟨hb, i, none⟩ = some (.int .i64 (f i)) := fun i h1 h2 h3 h4 => hgh.at_ i (hdc_at f i h1 h2 h3 h4)
  have HB := Lib.hid hB4
  clear hB4 hB12 hB2 HB01 hc4 hr4 ho4 hg4 hb4 hgh hg3 hg2 hg1 r3 r1 r2 hb3 ho3 b1 b2 b3 hl3
  refine wpPlan_pure [5] [] _ (by rfl) (by rfl) ?_
  dsimp only [List.filterMap, List.getElem?_cons_zero, List.getElem?_cons_succ]
  repeat (go_big_quiet_step (fail))
  refine wpQuiet_nil ?_
  refine wpPlan_tidy ?_
  go_wp2_with fail
  go_loop [19] (fun v => ChkRel f v) (fun v => 10 - (intOf v).toNat)
  case atStart => exact ⟨0, by omega, rfl, fun j hj => by omega⟩
  case round =>
    obtain ⟨k, hk, rfl, hall⟩ := hrel
    by_cases hk10 : k < 10
    · have hmem : tenI.getD k 0 ∈ tenI ∧ tenI.getD k 0 < 16 ∧ tenI.getD k 0 ≠ 9 ∧ tenI.getD k 0 ≠ 10 ∧ tenI.getD k 0 ≠ 13 := by
        have : k = 0 ∨ k = 1 ∨ k = 2 ∨ k = 3 ∨ k = 4 ∨ k = 5 ∨ k = 6 ∨ k = 7 ∨ k = 8 ∨ k = 9 := by omega
        rcases this with rfl | rfl | rfl | rfl | rfl | rfl | rfl | rfl | rfl | rfl <;> decide
      have d0 := hpc k hk10
      have d1 := hfc _ hmem.2.1 hmem.2.2.1 hmem.2.2.2.1 hmem.2.2.2.2
      by_cases hok : numOk (f (tenI.getD k 0)) = true
      · have hall' : ∀ j, j < k + 1 → numOk (f (tenI.getD j 0)) = true := fun j hj => by
          by_cases e : j = k
          · subst e; exact hok
          · exact hall j (by omega)
        have HA := Lib.hid hall'
        generalize tenI.getD k 0 = i at d0 d1 hok
        generalize f i = x at d1 hok
        obtain ⟨x1, x2⟩ : 0 ≤ x ∧ x ≤ 1073741824 := by simpa [numOk] using hok
        clear hall hall' hok hmem hpc hfc
        go_wp2
        go_round
        case rel =>
          have hch : ChkRel f (.int .i64 ((k : Int) + 1)) := ⟨k + 1, by omega, by go_num, HA.out⟩
          exact ⟨_, _, _, hch, rfl, rfl, rfl⟩
        case measure => simp [intOf]; omega
      · have hbad : Hd.code f = 2 := by
          unfold Hd.code; rw [if_neg]
          intro h
          have := (Hd.ok_spec h).2 _ hmem.1
          exact hok (by unfold numOk; rw [decide_eq_true this.1, decide_eq_true this.2]; rfl)
        have HC := Lib.hid hbad
        generalize tenI.getD k 0 = i at d0 d1 hok
        generalize f i = x at d1 hok
        have hx : x < 0 ∨ 1073741824 < x := by
          have : ¬ (0 ≤ x ∧ x ≤ 1073741824) := by simpa [numOk] using hok
          omega
        clear hall hok hmem hpc hfc hbad
        by_cases hx0 : x < 0
        · go_wp2
          go_ret
          exact ⟨ret_int HC.out.symm, HB.out⟩
        · have hx1 : 1073741824 < x := by omega
          go_wp2
          go_ret
          exact ⟨ret_int HC.out.symm, HB.out⟩
    · obtain rfl : k = 10 := by omega
      have hten : (tenI.all fun i => numOk (f i)) = true := by
        have := fun j hj => hall j hj
        simp only [tenI, List.all_cons, List.all_nil, Bool.and_true, Bool.and_eq_true]
        exact ⟨hall 0 (by omega), hall 1 (by omega), hall 2 (by omega), hall 3 (by omega), hall 4 (by omega), hall 5 (by omega), hall 6 (by omega), hall 7 (by omega), hall 8 (by omega), hall 9 (by omega)⟩
      have hcode : Hd.code f = if 1 ≤ f 0 ∧ f 0 ≤ 31 ∧ 0 ≤ f 1 ∧ f 1 ≤ 6 ∧ 0 ≤ f 2 ∧ f 2 ≤ 1024 then 0 else 2 := by
        unfold Hd.code Hd.ok
        rw [hten]
        simp only [Bool.and_true, Bool.and_eq_true, decide_eq_true_eq, and_assoc]
      have HC := Lib.hid hcode
      have d0 := hfc 0 (by omega) (by omega) (by omega) (by omega)
      have d1 := hfc 1 (by omega) (by omega) (by omega) (by omega)
      have d2 := hfc 2 (by omega) (by omega) (by omega) (by omega)
      generalize f 0 = x0 at d0 HC
      generalize f 1 = x1 at d1 HC
      generalize f 2 = x2 at d2 HC
      clear hpc hfc hall hten hcode
      go_wp2
      all_goals
        go_ret
        refine ⟨?_, HB.out⟩
        have hc := HC.out
        rw [hc]
        first
          | (rw [if_pos ⟨by omega, by omega, by omega, by omega, by omega, by omega⟩]; rfl)
          | (rw [if_neg (by simp [*] at *; omega)]; rfl)
end Go.Proofs.YtekdcjaljjlemaaDoor

/- Four bytes read as a number. Plain facts. -/
namespace Go.Proofs.YtekdcjaljjlemaaDoor
open Go.RowKit
theorem or_sum (a b k : Nat) (n : Nat) (hn : n = 2 ^ k) (ha : a < n) : a ||| (b * n) = a + b * n := by
  subst hn
  rw [Nat.mul_comm, Nat.or_comm, ← Nat.two_pow_add_eq_or_of_lt ha, Nat.add_comm]
theorem i64_or_nat (a b : Nat) (ha : a < 9223372036854775808) (hb : b < 9223372036854775808) : bits .or .i64 (a : Int) (b : Int) = ((a ||| b : Nat) : Int) := by
  have h2 : a ||| b < 2 ^ 63 := Nat.or_lt_two_pow (by omega) (by omega)
  show IntKind.i64.wrap ((BitVec.ofInt 64 (a : Int) ||| BitVec.ofInt 64 (b : Int)).toNat : Int) = _
  rw [BitVec.toNat_or, ofInt_u64 a (by omega), ofInt_u64 b (by omega), IntWalk.i64_left, IntWalk.wrap64_in _ ⟨by omega, by omega⟩]
theorem or4 (x0 x1 x2 x3 : UInt8) : bits BinOp.or IntKind.i64 (bits BinOp.or IntKind.i64 (bits BinOp.or IntKind.i64 (wrap64 (iu8 x0)) (wrap64 (wrap64 (iu8 x1) * 256))) (wrap64 (wrap64 (iu8 x2) * 65536))) (wrap64 (wrap64 (iu8 x3) * 16777216)) = (un4 x0 x1 x2 x3 : Int) := by
  have h0 := x0.toNat_lt; have h1 := x1.toNat_lt; have h2 := x2.toNat_lt; have h3 := x3.toNat_lt
  unfold iu8
  rw [IntWalk.wrap64_in (x0.toNat : Int) (by omega), IntWalk.wrap64_in (x1.toNat : Int) (by omega), IntWalk.wrap64_in (x2.toNat : Int) (by omega), IntWalk.wrap64_in (x3.toNat : Int) (by omega),
    IntWalk.wrap64_in ((x1.toNat : Int) * 256) (by omega), IntWalk.wrap64_in ((x2.toNat : Int) * 65536) (by omega), IntWalk.wrap64_in ((x3.toNat : Int) * 16777216) (by omega)]
  rw [show (x1.toNat : Int) * 256 = ((x1.toNat * 256 : Nat) : Int) by simp, show (x2.toNat : Int) * 65536 = ((x2.toNat * 65536 : Nat) : Int) by simp, show (x3.toNat : Int) * 16777216 = ((x3.toNat * 16777216 : Nat) : Int) by simp]
  rw [i64_or_nat _ _ (by omega) (by omega), or_sum _ _ 8 256 (by decide) (by omega), i64_or_nat _ _ (by omega) (by omega), or_sum _ _ 16 65536 (by decide) (by omega), i64_or_nat _ _ (by omega) (by omega), or_sum _ _ 24 16777216 (by decide) (by omega)]
  unfold un4
  omega
end Go.Proofs.YtekdcjaljjlemaaDoor

/- Fields read from bytes, four each. Conditions: the bytes can be read; the header lies in a block of its own. -/
namespace Go.Proofs.YtekdcjaljjlemaaDoor
open Go.RowKit
theorem _root_.Go.Upd.drewH {g : Nat} {a b : World} (h : Upd g a b) : Upd g a b.drew := ⟨h.os, h.tape, h.output, h.size, h.block⟩
def setF (f : HdF) (i : Nat) (v : Int) : HdF := fun x => if x = i then v else f x
theorem hdc_set (f : HdF) (i : Nat) (v : Int) (h9 : i ≠ 9) (h10 : i ≠ 10) (h13 : i ≠ 13) : (hdc f).setIfInBounds i (.int .i64 v) = hdc (setF f i v) := by
  unfold hdc
  rw [arr_set]
  refine arr_congr fun j _ => ?_
  unfold hdv setF
  by_cases e : j = i
  · subst e; rw [if_pos rfl, if_neg (by omega), if_pos rfl]
  · rw [if_neg e, if_neg e]
def stepsF (f : HdF) (raw : List UInt8) (idx : List Nat) : Nat → HdF
  | 0 => f
  | j + 1 => setF (stepsF f raw idx j) (idx.getD j 0) (at4 raw (4 * j))
def FrsRel (w : World) (hb : Nat) (f : HdF) (raw : List UInt8) (idx : List Nat) (v : Value) (wr : World) : Prop :=
  ∃ j : Nat, j ≤ idx.length ∧ v = .int .i64 (j : Int) ∧ Blk wr hb 26 (hdc (stepsF f raw idx j)) ∧ Upd hb w wr
set_option maxRecDepth 100000 in
set_option maxHeartbeats 2000000 in
theorem hfours_any (bb bo cap hb : Nat) (f : HdF) (raw : List UInt8) (idx : List Nat) (pb po pc : Nat) (h4 : 4 * idx.length ≤ raw.length) (hlen : raw.length ≤ 1000000) (w : World)
    (hraw : ∀ j, j < raw.length → w.cell? ⟨bb, bo + j, none⟩ = some (.int .u8 (iu8 (raw.getD j 0)))) (hg : Blk w hb 26 (hdc f))
    (hp : ∀ j, j < idx.length → w.cell? ⟨pb, po + j, none⟩ = some (.pointer (some ⟨hb, idx.getD j 0, none⟩)))
    (hi : ∀ j, j < idx.length → idx.getD j 0 < 16 ∧ idx.getD j 0 ≠ 9 ∧ idx.getD j 0 ≠ 10 ∧ idx.getD j 0 ≠ 13) (hne : pb ≠ hb ∧ bb ≠ hb) :
    Calls Tryd.prog 38 #[.slice (some ⟨bb, bo, none⟩) raw.length cap, .slice (some ⟨pb, po, none⟩) idx.length pc] w fun e w' =>
      e = .returned (.tuple #[]) ∧ Blk w' hb 26 (hdc (stepsF f raw idx idx.length)) ∧ Upd hb w w' := by
  go_enter Tryd.func38, Tryd.ntmps38
  go_wp2
  go_loopw [8] (fun v wr => FrsRel w hb f raw idx v wr) (fun v _ => idx.length - (intOf v).toNat)
  case atStart => exact ⟨0, by omega, rfl, hg, Upd.refl _ _⟩
  case round =>
    obtain ⟨j, hj, rfl, hgj, hu⟩ := hrel
    clear hg
    by_cases hjl : j < idx.length
    · have dp := (World.cell?_of_block (hu.block pb hne.1)).trans (hp j hjl)
      obtain ⟨i1, i2, i3, i4⟩ := hi j hjl
      have dr : ∀ k, k < raw.length → wr.cell? ⟨bb, bo + k, none⟩ = some (.int .u8 (iu8 (raw.getD k 0))) := fun k hk => (World.cell?_of_block (hu.block bb hne.2)).trans (hraw k hk)
      have r0 := dr (4 * j) (by omega)
      have r1 := dr (4 * j + 1) (by omega)
      have r2 := dr (4 * j + 2) (by omega)
      have r3 := dr (4 * j + 3) (by omega)
      have hst : stepsF f raw idx (j + 1) = setF (stepsF f raw idx j) (idx.getD j 0) (at4 raw (4 * j)) := rfl
      unfold at4 at hst
      generalize raw.getD (4 * j) 0 = x0 at r0 hst
      generalize raw.getD (4 * j + 1) 0 = x1 at r1 hst
      generalize raw.getD (4 * j + 2) 0 = x2 at r2 hst
      generalize raw.getD (4 * j + 3) 0 = x3 at r3 hst
      generalize idx.getD j 0 = i at dp i1 i2 i3 i4 hst
      have fz := hgj.frozen i
      have dz : wr.cell? ⟨hb, i, none⟩ = some (.int .i64 (stepsF f raw idx j i)) := hgj.at_ i (hdc_at _ i i1 i2 i3 i4)
      have hnx := (hgj.set_ i (.int .i64 (un4 x0 x1 x2 x3))).sub ((hdc_set _ i _ i2 i3 i4).trans (by rw [← hst]))
      have HN := Lib.hid (And.intro hnx (hu.set i (.int .i64 (un4 x0 x1 x2 x3))))
      generalize stepsF f raw idx j i = y at dz
      have h4r : 4 * j + 3 < raw.length := by omega
      have e4 := or4 x0 x1 x2 x3
      have HF := Lib.hid (And.intro hraw (And.intro hp hi))
      clear hnx hst hgj hu dr hraw hp hi i1 i2 i3 i4
      go_wp2_with fail
      refine wp_region_planT (fun w' => w'.cell? ⟨bb, bo + 4 * j, none⟩ = some (.int .u8 (iu8 x0)) ∧ w'.cell? ⟨bb, bo + (4 * j + 1), none⟩ = some (.int .u8 (iu8 x1)) ∧ w'.cell? ⟨bb, bo + (4 * j + 2), none⟩ = some (.int .u8 (iu8 x2)) ∧ w'.cell? ⟨bb, bo + (4 * j + 3), none⟩ = some (.int .u8 (iu8 x3))) [35] [(true, 0), (true, 1), (true, 2), (true, 3), (true, 4), (true, 7), (true, 8), (true, 9), (true, 10), (true, 11), (true, 16), (true, 17), (true, 18), (true, 19), (true, 20), (true, 25), (true, 26), (true, 27), (true, 28), (true, 29), (true, 5), (true, 12), (true, 21), (true, 30), (true, 6), (true, 13), (true, 14), (true, 15), (true, 22), (true, 23), (true, 24), (true, 31), (true, 32), (true, 33), (true, 34), (false, 35)] (by kernel_rfl) (by kernel_rfl) (⟨r0, r1, r2, r3⟩) ?_
      refine wpPlan_pure [0, 1, 2, 3, 4, 7, 8, 9, 10, 11, 16, 17, 18, 19, 20, 25, 26, 27, 28, 29] [(true, 5), (true, 12), (true, 21), (true, 30), (true, 6), (true, 13), (true, 14), (true, 15), (true, 22), (true, 23), (true, 24), (true, 31), (true, 32), (true, 33), (true, 34), (false, 35)] _ (by rfl) (by rfl) ?_
      dsimp only [List.filterMap, List.getElem?_cons_zero, List.getElem?_cons_succ]
      repeat (go_big_quiet_step (fail))
      refine wpQuiet_nil ?_
      refine wpPlan_takeL [5, 12, 21, 30] [(true, 6), (true, 13), (true, 14), (true, 15), (true, 22), (true, 23), (true, 24), (true, 31), (true, 32), (true, 33), (true, 34), (false, 35)] _ (by rfl) (by rfl) (⟨r0, r1, r2, r3⟩) ?_
      dsimp only [List.filterMap, List.getElem?_cons_zero, List.getElem?_cons_succ]
      (refine wpQuiet_load_cell (fun w' hw' => hw'.1) (by rfl) _ _ (by rfl) (by rfl) _ Tryd.underlying5 (by rfl) ?_; simp only [Act.put, List.setIfInBounds_toArray, List.set_cons_zero, List.set_cons_succ])
      (refine wpQuiet_load_cell (fun w' hw' => hw'.2.1) (by rfl) _ _ (by rfl) (by rfl) _ Tryd.underlying5 (by rfl) ?_; simp only [Act.put, List.setIfInBounds_toArray, List.set_cons_zero, List.set_cons_succ])
      (refine wpQuiet_load_cell (fun w' hw' => hw'.2.2.1) (by rfl) _ _ (by rfl) (by rfl) _ Tryd.underlying5 (by rfl) ?_; simp only [Act.put, List.setIfInBounds_toArray, List.set_cons_zero, List.set_cons_succ])
      (refine wpQuiet_load_cell (fun w' hw' => hw'.2.2.2) (by rfl) _ _ (by rfl) (by rfl) _ Tryd.underlying5 (by rfl) ?_; simp only [Act.put, List.setIfInBounds_toArray, List.set_cons_zero, List.set_cons_succ])
      refine wpQuiet_nil ?_
      refine wpPlan_pure [6, 13, 14, 15, 22, 23, 24, 31, 32, 33, 34] [(false, 35)] _ (by rfl) (by rfl) ?_
      dsimp only [List.filterMap, List.getElem?_cons_zero, List.getElem?_cons_succ]
      repeat (go_big_quiet_step (fail))
      refine wpQuiet_nil ?_
      refine wpPlan_forceL _ rfl ?_
      go_wp2_with fail
      refine PlanQ.out (by rfl) ?_
      refine wpPlan_tidy ?_
      go_wp2
      go_roundw
      case rel => exact ⟨j + 1, by omega, by go_num, HN.out.1.drew, HN.out.2.drewH⟩
      case measure => simp [intOf]; omega
    · obtain rfl : j = idx.length := by omega
      have HG := Lib.hid (And.intro hgj hu)
      clear hgj hu hp hi hraw
      go_wp2
      refine bodyPost_end (v := .tuple #[]) (by simp [results]) rfl ⟨rfl, HG.out.1, HG.out.2⟩
end Go.Proofs.YtekdcjaljjlemaaDoor

/- Four bytes of a number laid at a place of a list. Plain facts. -/
namespace Go.Proofs.YtekdcjaljjlemaaDoor
open Go.RowKit
def put4 (L : List UInt8) (off n : Nat) : List UInt8 := L.take off ++ (le4 n ++ L.drop (off + 4))
def put4r (L : List UInt8) (off n j : Nat) : List UInt8 := L.take off ++ ((le4 n).take j ++ L.drop (off + j))
theorem put4r_zero (L : List UInt8) (off n : Nat) : put4r L off n 0 = L := by unfold put4r; simp
theorem put4r_four (L : List UInt8) (off n : Nat) : put4r L off n 4 = put4 L off n := rfl
theorem put4r_length (L : List UInt8) (off n j : Nat) (h : off + 4 ≤ L.length) (hj : j ≤ 4) : (put4r L off n j).length = L.length := by
  unfold put4r; rw [List.length_append, List.length_append, List.length_take, List.length_take, List.length_drop, le4_length]; omega
theorem put4_length (L : List UInt8) (off n : Nat) (h : off + 4 ≤ L.length) : (put4 L off n).length = L.length := put4r_length L off n 4 h (Nat.le_refl _)
theorem put4r_set (L : List UInt8) (off n j : Nat) (h : off + 4 ≤ L.length) (hj : j < 4) (b : UInt8) (hb : b = (le4 n).getD j 0) :
    ((put4r L off n j).map u8v).toArray.setIfInBounds (off + j) (.int .u8 (iu8 b)) = ((put4r L off n (j + 1)).map u8v).toArray := by
  apply Array.ext'
  simp only [List.setIfInBounds_toArray]
  have e : Value.int .u8 (iu8 b) = u8v b := rfl
  rw [e, ← List.map_set]
  congr 1
  subst hb
  unfold put4r
  have h1 : (L.take off).length = off := by rw [List.length_take]; omega
  rw [List.set_append_right _ _ (by omega), h1, Nat.add_sub_cancel_left]
  congr 1
  have h2 : ((le4 n).take j).length = j := by rw [List.length_take, le4_length]; omega
  rw [List.set_append_right _ _ (by omega), h2, Nat.sub_self]
  have hd : L.drop (off + j) = L[off + j]'(by omega) :: L.drop (off + (j + 1)) := by
    rw [List.drop_eq_getElem_cons (by omega)]; rfl
  rw [hd, List.set_cons_zero]
  have ht : (le4 n).take (j + 1) = (le4 n).take j ++ [(le4 n).getD j 0] := by
    rw [List.take_succ_eq_append_getElem (by rw [le4_length]; omega)]
    congr 2
    simp [List.getD, show j < (le4 n).length by rw [le4_length]; omega]
  rw [ht]; simp
theorem le4_v0 (n : Nat) : (n : Int) % 256 = iu8 ((le4 n).getD 0 0) := by show _ = iu8 (UInt8.ofNat (n % 256)); rw [iu8_ofNat_mod]
theorem le4_v1 (n : Nat) : (n : Int) / 256 % 256 = iu8 ((le4 n).getD 1 0) := by show _ = iu8 (UInt8.ofNat (n / 256 % 256)); rw [iu8_ofNat_mod]; omega
theorem le4_v2 (n : Nat) : (n : Int) / 65536 % 256 = iu8 ((le4 n).getD 2 0) := by show _ = iu8 (UInt8.ofNat (n / 65536 % 256)); rw [iu8_ofNat_mod]; omega
theorem le4_v3 (n : Nat) (h : n < 4294967296) : (n : Int) / 16777216 = iu8 ((le4 n).getD 3 0) := by show _ = iu8 (UInt8.ofNat (n / 16777216 % 256)); rw [iu8_ofNat_mod]; omega
theorem u8_lit (n : Nat) (h : n < 256) : (n : Int) = iu8 (UInt8.ofNat n) := (iu8_ofNat n h).symm
end Go.Proofs.YtekdcjaljjlemaaDoor

/- A number of 128 bits as bytes: what both functions answer. Condition: its halves are from 0 on and below 2^64. -/
namespace Go.Proofs.YtekdcjaljjlemaaDoor
open Go.RowKit
def b8 (x k : Nat) : UInt8 := UInt8.ofNat (x / 256 ^ k % 256)
theorem le8_b8 (x : Nat) : le8 x = [b8 x 0, b8 x 1, b8 x 2, b8 x 3, b8 x 4, b8 x 5, b8 x 6, b8 x 7] := by
  unfold le8 le4 b8
  simp only [List.cons_append, List.nil_append, List.cons.injEq, and_true]
  refine ⟨?_, ?_, ?_, ?_, ?_, ?_, ?_, ?_⟩ <;> (congr 1 <;> simp only [Nat.reducePow] <;> omega)
def idb (lo hi j i : Nat) : UInt8 := if i % 8 < j then (if i < 8 then b8 lo i else b8 hi (i - 8)) else 0
def idv (lo hi j i : Nat) : Value := u8v (idb lo hi j i)
theorem idv_all (lo hi : Nat) : arr 16 (idv lo hi 8) = ((le8 lo ++ le8 hi).map u8v).toArray := by
  rw [le8_b8 lo, le8_b8 hi]
  rfl
theorem idv_succ (lo hi j : Nat) (hj : j < 8) : ((arr 16 (idv lo hi j)).setIfInBounds j (.int .u8 (iu8 (b8 lo j)))).setIfInBounds (8 + j) (.int .u8 (iu8 (b8 hi j))) = arr 16 (idv lo hi (j + 1)) := by
  rw [arr_set, arr_set]
  refine arr_congr fun i hi => ?_
  unfold idv idb
  by_cases e1 : i = 8 + j
  · rw [if_pos e1, if_pos (by omega), if_neg (by omega), e1, Nat.add_sub_cancel_left]; rfl
  · rw [if_neg e1]
    by_cases e2 : i = j
    · rw [if_pos e2, if_pos (by omega), if_pos (by omega), e2]; rfl
    · rw [if_neg e2]
      by_cases e3 : i % 8 < j
      · have e4 : i % 8 < j + 1 := by omega
        simp only [e3, e4, if_true]
      · have e4 : ¬ i % 8 < j + 1 := by omega
        simp only [e3, e4, if_false]
theorem b8_v (x k : Nat) : ((x / 256 ^ k % 256 : Nat) : Int) = iu8 (b8 x k) := by unfold b8; rw [iu8_ofNat _ (Nat.mod_lt _ (by omega))]
theorem b8_0 (x : Nat) : (x : Int) % 256 = iu8 (b8 x 0) := by rw [← b8_v]; simp
theorem b8_k (x k P : Nat) (h : P = 256 ^ k) : (x : Int) / (P : Int) % 256 = iu8 (b8 x k) := by rw [← b8_v, ← h]; simp
theorem b8_1 (x : Nat) : (x : Int) / 256 % 256 = iu8 (b8 x 1) := by have h := b8_k x 1 256 (by decide); exact h
theorem b8_2 (x : Nat) : (x : Int) / 65536 % 256 = iu8 (b8 x 2) := by have h := b8_k x 2 65536 (by decide); exact h
theorem b8_3 (x : Nat) : (x : Int) / 16777216 % 256 = iu8 (b8 x 3) := by have h := b8_k x 3 16777216 (by decide); exact h
theorem b8_4 (x : Nat) : (x : Int) / 4294967296 % 256 = iu8 (b8 x 4) := by have h := b8_k x 4 4294967296 (by decide); exact h
theorem b8_5 (x : Nat) : (x : Int) / 1099511627776 % 256 = iu8 (b8 x 5) := by have h := b8_k x 5 1099511627776 (by decide); exact h
theorem b8_6 (x : Nat) : (x : Int) / 281474976710656 % 256 = iu8 (b8 x 6) := by have h := b8_k x 6 281474976710656 (by decide); exact h
theorem b8_7 (x : Nat) : (x : Int) / 72057594037927936 % 256 = iu8 (b8 x 7) := by have h := b8_k x 7 72057594037927936 (by decide); exact h
def IdRel (w : World) (g lo hi : Nat) (v : Value) (wr : World) : Prop := ∃ j : Nat, j ≤ 8 ∧ v = .int .i64 (j : Int) ∧ Blk wr g 70 (arr 16 (idv lo hi j)) ∧ Upd g w wr
theorem size16' : (Tryd.prog.info? 70).map (·.size) = some 16 := by kernel_rfl
set_option maxRecDepth 100000 in
set_option maxHeartbeats 2000000 in
theorem rid_any (hi lo : Nat) (w : World) :
    Calls Tryd.prog 61 #[.agg #[.int .u64 (hi : Nat), .int .u64 (lo : Nat)]] w fun e w' => e = .returned (.agg (arr 16 (idv lo hi 8))) ∧ Below w.heap.size w w' := by
  go_enter Tryd.func61, Tryd.ntmps61
  go_wp2_with fail
  generalize hw3 : ((w.alloc (.cells #[.int .u64 (hi : Nat), .int .u64 (lo : Nat)] 24)).alloc _).alloc _ = w3
  have h0 : Blk w3 w.heap.size 24 #[.int .u64 (hi : Nat), .int .u64 (lo : Nat)] := by rw [← hw3]; exact ((Blk.new w _ _).alloc _).alloc _
  have h1 : Blk w3 (w.heap.size + 1) 70 (arr 16 (idv 0 0 0)) := by rw [← hw3]; exact (Blk.new' (w.alloc _) _ _ (by simp)).alloc _
  have h2 : Blk w3 (w.heap.size + 1 + 1) 70 (arr 16 (idv lo hi 0)) := by rw [← hw3]; exact Blk.new' _ _ _ (by simp)
  have hB := Lib.hid (show Below w.heap.size w w3 by rw [← hw3]; exact (((Below.refl _ _).alloc (Nat.le_refl _) _).alloc (by simp) _).alloc (by simp; omega) _)
  have dhi : w3.cell? ⟨w.heap.size, 0, none⟩ = some (.int .u64 (hi : Nat)) := h0.at_ 0 rfl
  have dlo : w3.cell? ⟨w.heap.size, 1, none⟩ = some (.int .u64 (lo : Nat)) := h0.at_ 1 rfl
  clear hw3 h0
  obtain ⟨s0, hs0⟩ : ∃ s0, s0 = w.heap.size := ⟨_, rfl⟩
  have hge : w.heap.size ≤ s0 + 1 + 1 := by omega
  have hge2 : w.heap.size ≤ s0 + 1 := by omega
  rw [← hs0] at dhi dlo h1 h2 ⊢
  clear hs0
  go_loopw [4] (fun v wr => IdRel w3 (s0 + 1 + 1) lo hi v wr) (fun v _ => 8 - (intOf v).toNat)
  case atStart => exact ⟨0, by omega, rfl, h2, Upd.refl _ _⟩
  case round =>
    obtain ⟨j, hj, rfl, hg, hu⟩ := hrel
    have ehi := (World.cell?_of_block (hu.block s0 (by omega))).trans dhi
    have elo := (World.cell?_of_block (hu.block s0 (by omega))).trans dlo
    have H1 := Lib.hid (And.intro h1 (And.intro dhi dlo))
    clear dhi dlo h1 h2
    by_cases hlt : j < 8
    · have f1 := hg.frozen j
      have f2 := hg.frozen (8 + j)
      have c1 : wr.cell? ⟨s0 + 1 + 1, j, none⟩ = some (u8v (idb lo hi j j)) := hg.at_ j (arr_at _ (by omega))
      have c2 : wr.cell? ⟨s0 + 1 + 1, 8 + j, none⟩ = some (u8v (idb lo hi j (8 + j))) := hg.at_ (8 + j) (arr_at _ (by omega))
      generalize u8v (idb lo hi j j) = y1 at c1
      generalize u8v (idb lo hi j (8 + j)) = y2 at c2
      have hs := ((hg.set_ j (.int .u8 (iu8 (b8 lo j)))).set_ (8 + j) (.int .u8 (iu8 (b8 hi j)))).sub (idv_succ lo hi j hlt)
      have HN := Lib.hid (And.intro hs ((hu.set j (.int .u8 (iu8 (b8 lo j)))).set (8 + j) (.int .u8 (iu8 (b8 hi j)))))
      clear hs hg hu
      have hcase : j = 0 ∨ j = 1 ∨ j = 2 ∨ j = 3 ∨ j = 4 ∨ j = 5 ∨ j = 6 ∨ j = 7 := by omega
      rcases hcase with rfl | rfl | rfl | rfl | rfl | rfl | rfl | rfl
      · go_wp2
        rw [b8_0, b8_0]
        exact ⟨⟨1, by omega, rfl, HN.out⟩, by simp [intOf]⟩
      · go_wp2
        rw [b8_1, b8_1]
        exact ⟨⟨2, by omega, rfl, HN.out⟩, by simp [intOf]⟩
      · go_wp2
        rw [b8_2, b8_2]
        exact ⟨⟨3, by omega, rfl, HN.out⟩, by simp [intOf]⟩
      · go_wp2
        rw [b8_3, b8_3]
        exact ⟨⟨4, by omega, rfl, HN.out⟩, by simp [intOf]⟩
      · go_wp2
        rw [b8_4, b8_4]
        exact ⟨⟨5, by omega, rfl, HN.out⟩, by simp [intOf]⟩
      · go_wp2
        rw [b8_5, b8_5]
        exact ⟨⟨6, by omega, rfl, HN.out⟩, by simp [intOf]⟩
      · go_wp2
        rw [b8_6, b8_6]
        exact ⟨⟨7, by omega, rfl, HN.out⟩, by simp [intOf]⟩
      · go_wp2
        rw [b8_7, b8_7]
        exact ⟨⟨8, by omega, rfl, HN.out⟩, by simp [intOf]⟩
    · obtain rfl : j = 8 := by omega
      have hz := H1.out.1.upd hu (show s0 + 1 ≠ s0 + 1 + 1 by omega)
      have hB2 := hB.out
      rw [idv_all] at hg
      have h16 : (le8 lo ++ le8 hi).length = 16 := rfl
      obtain ⟨l, hl⟩ : ∃ l, l = le8 lo ++ le8 hi := ⟨_, rfl⟩
      rw [← hl] at hg h16
      have HL := Lib.hid hl
      have HU := Lib.hid hu
      clear hu hj hlt H1 hl
      go_wp2_with (first
        | (show wpList _ _ _ ((⟨some 26, _, _, _, _, _⟩ : Oper) :: _) _ _; refine wpList_load_blk (o := ⟨some 26, _, _, _, _, _⟩) (hg) (by rfl) _ _ (by rfl) (by rfl) _ Tryd.underlying70 (by rfl) (size16') (by simp [h16]) ?_)
        | (show wpList _ _ _ ((⟨none, _, _, _, _, _⟩ : Oper) :: _) _ _; refine wpList_store_blk (o := ⟨none, _, _, _, _, _⟩) (hz) (by rfl) _ _ _ (by rfl) (by rfl) ((l.map u8v).toArray) (by rfl) (size16') (arr_size _ _) (by simp [h16]) (u8_all _) ?_; intro w5 h5 hu5; have HB5 := Lib.hid ((hB.out.upd HU.out hge).upd hu5 hge2))
        | fail)
      refine bodyPost_ret (results_cell_row (by rfl) _ _ _ _ _ _ _ (by rfl) h5 Tryd.underlying70 (by rfl) (size16'.trans (by simp [h16]))) rfl ⟨by rw [idv_all, HL.out], HB5.out⟩
end Go.Proofs.YtekdcjaljjlemaaDoor

/- The document's function that lays a number of so many bytes. Conditions: the number is below 2^64; at most eight bytes; at most 100000 were laid. -/
namespace Go
open Go.RowKit
theorem grown_alloc {w w' : World} {o : Obj} {row : Option Nat} (h : (w.alloc o).grownBy w' row) : w.grownBy w' row := by
  have h0 := World.grownBy_alloc w o row
  exact ⟨h.1.trans h0.1, h.2.trans h0.2, h.3.trans h0.3, Nat.le_trans h0.4 h.4, fun k hk hr => (h.5 k (Nat.lt_of_lt_of_le hk h0.4) hr).trans (h0.5 k hk hr)⟩
theorem grown_trans {w w1 w' : World} {row r : Option Nat} (h0 : w.grownBy w1 row) (h : w1.grownBy w' r) (hr : r = row ∨ ∃ k, r = some k ∧ w.heap.size ≤ k) : w.grownBy w' row :=
  ⟨h.1.trans h0.1, h.2.trans h0.2, h.3.trans h0.3, Nat.le_trans h0.4 h.4, fun k hk hne => (h.5 k (Nat.lt_of_lt_of_le hk h0.4) (by
    rcases hr with e | ⟨j, e, hj⟩
    · rw [e]; exact hne
    · rw [e]; intro e2; injection e2 with e2; omega)).trans (h0.5 k hk hne)⟩
theorem World.alloc_size (w : World) (o : Obj) : (w.alloc o).heap.size = w.heap.size + 1 := by simp
end Go
namespace Go.Proofs.YtekdcjaljjlemaaDoor
open Go.RowKit
/-- The number's first bytes, the lowest first. -/
def leb (n s : Nat) : List UInt8 := (le8 n).take s
theorem leb_8 (n : Nat) : leb n 8 = le8 n := List.take_of_length_le (by rw [le8_length]; omega)
theorem leb_4 (n : Nat) (h : n < 4294967296) : leb n 4 = le4 n := by
  unfold leb le8
  rw [Nat.mod_eq_of_lt h, List.take_append_of_le_length (by rw [le4_length]; omega), List.take_of_length_le (by rw [le4_length]; omega)]
theorem leb_length (n s : Nat) (h : s ≤ 8) : (leb n s).length = s := by unfold leb; rw [List.length_take, le8_length]; omega
theorem leb_snoc (n i : Nat) (h : i < 8) : (le8 n).take i ++ [b8 n i] = (le8 n).take (i + 1) := by
  rw [List.take_succ_eq_append_getElem (by rw [le8_length]; omega)]
  have : i = 0 ∨ i = 1 ∨ i = 2 ∨ i = 3 ∨ i = 4 ∨ i = 5 ∨ i = 6 ∨ i = 7 := by omega
  rcases this with rfl | rfl | rfl | rfl | rfl | rfl | rfl | rfl <;> simp [le8_b8]
def PutRel (w0 : World) (base s n : Nat) (l : List UInt8) (row : Option Nat) (v v7 : Value) (wr : World) : Prop :=
  ∃ (i : Nat) (sp : List UInt8), i ≤ s ∧ v7 = .int .i64 (i : Int) ∧ OwnB 5 wr base v (l ++ (le8 n).take i) sp ∧ w0.grownBy wr row ∧ (v.ownBlock = row ∨ ∃ k, v.ownBlock = some k ∧ w0.heap.size ≤ k)
theorem put_next {w0 wr : World} {base s : Nat} {l : List UInt8} {row r : Option Nat} (n i : Nat) (v1 : Value) (w1 : World) (sp1 : List UInt8) (hi : i < s ∧ i < 8) (ho : OwnB 5 w1 base v1 ((l ++ (le8 n).take i) ++ [b8 n i]) sp1)
    (hg : wr.grownBy w1 r) (hw : v1.ownBlock = r ∨ ∃ k, v1.ownBlock = some k ∧ (wr.alloc (.cells #[.int .u8 (iu8 (b8 n i))] 5)).heap.size ≤ k) (hgr : w0.grownBy wr row) (hwv : r = row ∨ ∃ k, r = some k ∧ w0.heap.size ≤ k) :
    PutRel w0 base s n l row v1 (.int .i64 (i + 1 : Nat)) w1 := by
  refine ⟨i + 1, sp1, hi.1, rfl, by rw [List.append_assoc, leb_snoc n i hi.2] at ho; exact ho, grown_trans hgr hg hwv, ?_⟩
  rcases hw with e | ⟨k, e, hk⟩
  · rw [e]; exact hwv
  · rw [World.alloc_size] at hk
    exact .inr ⟨k, e, by have := hgr.size; omega⟩
set_option maxHeartbeats 4000000 in
theorem rput4_any (base : Nat) (v : Value) (l sp : List UInt8) (n s : Nat) (hs : s ≤ 8) (hl : l.length ≤ 100000) (w : World) (hbase : base ≤ w.heap.size) (ho : OwnB 5 w base v l sp) :
    Calls Tryd.prog 60 #[v, .int .u64 (n : Int), .int .i64 (s : Int)] w fun e w' => ∃ v' sp', e = .returned v' ∧ OwnB 5 w' base v' (l ++ leb n s) sp' ∧ w.grownBy w' v.ownBlock ∧ (v'.ownBlock = v.ownBlock ∨ ∃ k, v'.ownBlock = some k ∧ w.heap.size ≤ k) := by
  go_enter Tryd.func60, Tryd.ntmps60
  obtain ⟨row, hrow⟩ : ∃ row, row = v.ownBlock := ⟨_, rfl⟩
  rw [← hrow]
  go_wp2_with fail
  go_loopw [0, 7] (fun v v7 wr => PutRel w base s n l row v v7 wr) (fun _ v _ => s - (intOf v).toNat)
  case atStart => exact ⟨0, sp, by omega, rfl, by simpa using ho, World.grownBy.refl _ _, .inl hrow.symm⟩
  case round =>
    clear ho hrow
    obtain ⟨i, sp, his, rfl, hown, hgr, hwv⟩ := hrel
    by_cases hlt : i < s
    · have hsz := hgr.size
      have hcase : i = 0 ∨ i = 1 ∨ i = 2 ∨ i = 3 ∨ i = 4 ∨ i = 5 ∨ i = 6 ∨ i = 7 := by omega
      rcases hcase with rfl | rfl | rfl | rfl | rfl | rfl | rfl | rfl
      · go_wp2_with (first
          | (show wpList _ _ _ ((⟨some 20, _, _, _, _, _⟩ : Oper) :: _) _ _; rw [b8_0];
              refine wpList_append_bytes (o := ⟨some 20, _, _, _, _, _⟩) (by rfl) _ _ _ (by rfl) base _ Tryd.underlying27 u8info _ (l ++ (le8 n).take 0) sp (by rfl) (hown.alloc _) (some ⟨wr.heap.size, 0, none⟩) 1 [b8 n 0] (by rfl) (bytes_lit wr _ [b8 n 0]) (by rw [List.length_append, List.length_take, le8_length]; simp; omega) (by rw [World.alloc_size]; omega) ?_; intro v1 w1 sp1 ho1 hg1 hw1 _)
          | fail)
        go_roundw
        case rel => exact put_next n 0 v1 w1 sp1 (by omega) ho1 (grown_alloc hg1) (hw1.imp id fun h => ⟨_, h, Nat.le_refl _⟩) hgr hwv
        case measure => simp [intOf]; omega
      · go_wp2_with (first
          | (show wpList _ _ _ ((⟨some 20, _, _, _, _, _⟩ : Oper) :: _) _ _; rw [b8_1];
              refine wpList_append_bytes (o := ⟨some 20, _, _, _, _, _⟩) (by rfl) _ _ _ (by rfl) base _ Tryd.underlying27 u8info _ (l ++ (le8 n).take 1) sp (by rfl) (hown.alloc _) (some ⟨wr.heap.size, 0, none⟩) 1 [b8 n 1] (by rfl) (bytes_lit wr _ [b8 n 1]) (by rw [List.length_append, List.length_take, le8_length]; simp; omega) (by rw [World.alloc_size]; omega) ?_; intro v1 w1 sp1 ho1 hg1 hw1 _)
          | fail)
        go_roundw
        case rel => exact put_next n 1 v1 w1 sp1 (by omega) ho1 (grown_alloc hg1) (hw1.imp id fun h => ⟨_, h, Nat.le_refl _⟩) hgr hwv
        case measure => simp [intOf]; omega
      · go_wp2_with (first
          | (show wpList _ _ _ ((⟨some 20, _, _, _, _, _⟩ : Oper) :: _) _ _; rw [b8_2];
              refine wpList_append_bytes (o := ⟨some 20, _, _, _, _, _⟩) (by rfl) _ _ _ (by rfl) base _ Tryd.underlying27 u8info _ (l ++ (le8 n).take 2) sp (by rfl) (hown.alloc _) (some ⟨wr.heap.size, 0, none⟩) 1 [b8 n 2] (by rfl) (bytes_lit wr _ [b8 n 2]) (by rw [List.length_append, List.length_take, le8_length]; simp; omega) (by rw [World.alloc_size]; omega) ?_; intro v1 w1 sp1 ho1 hg1 hw1 _)
          | fail)
        go_roundw
        case rel => exact put_next n 2 v1 w1 sp1 (by omega) ho1 (grown_alloc hg1) (hw1.imp id fun h => ⟨_, h, Nat.le_refl _⟩) hgr hwv
        case measure => simp [intOf]; omega
      · go_wp2_with (first
          | (show wpList _ _ _ ((⟨some 20, _, _, _, _, _⟩ : Oper) :: _) _ _; rw [b8_3];
              refine wpList_append_bytes (o := ⟨some 20, _, _, _, _, _⟩) (by rfl) _ _ _ (by rfl) base _ Tryd.underlying27 u8info _ (l ++ (le8 n).take 3) sp (by rfl) (hown.alloc _) (some ⟨wr.heap.size, 0, none⟩) 1 [b8 n 3] (by rfl) (bytes_lit wr _ [b8 n 3]) (by rw [List.length_append, List.length_take, le8_length]; simp; omega) (by rw [World.alloc_size]; omega) ?_; intro v1 w1 sp1 ho1 hg1 hw1 _)
          | fail)
        go_roundw
        case rel => exact put_next n 3 v1 w1 sp1 (by omega) ho1 (grown_alloc hg1) (hw1.imp id fun h => ⟨_, h, Nat.le_refl _⟩) hgr hwv
        case measure => simp [intOf]; omega
      · go_wp2_with (first
          | (show wpList _ _ _ ((⟨some 20, _, _, _, _, _⟩ : Oper) :: _) _ _; rw [b8_4];
              refine wpList_append_bytes (o := ⟨some 20, _, _, _, _, _⟩) (by rfl) _ _ _ (by rfl) base _ Tryd.underlying27 u8info _ (l ++ (le8 n).take 4) sp (by rfl) (hown.alloc _) (some ⟨wr.heap.size, 0, none⟩) 1 [b8 n 4] (by rfl) (bytes_lit wr _ [b8 n 4]) (by rw [List.length_append, List.length_take, le8_length]; simp; omega) (by rw [World.alloc_size]; omega) ?_; intro v1 w1 sp1 ho1 hg1 hw1 _)
          | fail)
        go_roundw
        case rel => exact put_next n 4 v1 w1 sp1 (by omega) ho1 (grown_alloc hg1) (hw1.imp id fun h => ⟨_, h, Nat.le_refl _⟩) hgr hwv
        case measure => simp [intOf]; omega
      · go_wp2_with (first
          | (show wpList _ _ _ ((⟨some 20, _, _, _, _, _⟩ : Oper) :: _) _ _; rw [b8_5];
              refine wpList_append_bytes (o := ⟨some 20, _, _, _, _, _⟩) (by rfl) _ _ _ (by rfl) base _ Tryd.underlying27 u8info _ (l ++ (le8 n).take 5) sp (by rfl) (hown.alloc _) (some ⟨wr.heap.size, 0, none⟩) 1 [b8 n 5] (by rfl) (bytes_lit wr _ [b8 n 5]) (by rw [List.length_append, List.length_take, le8_length]; simp; omega) (by rw [World.alloc_size]; omega) ?_; intro v1 w1 sp1 ho1 hg1 hw1 _)
          | fail)
        go_roundw
        case rel => exact put_next n 5 v1 w1 sp1 (by omega) ho1 (grown_alloc hg1) (hw1.imp id fun h => ⟨_, h, Nat.le_refl _⟩) hgr hwv
        case measure => simp [intOf]; omega
      · go_wp2_with (first
          | (show wpList _ _ _ ((⟨some 20, _, _, _, _, _⟩ : Oper) :: _) _ _; rw [b8_6];
              refine wpList_append_bytes (o := ⟨some 20, _, _, _, _, _⟩) (by rfl) _ _ _ (by rfl) base _ Tryd.underlying27 u8info _ (l ++ (le8 n).take 6) sp (by rfl) (hown.alloc _) (some ⟨wr.heap.size, 0, none⟩) 1 [b8 n 6] (by rfl) (bytes_lit wr _ [b8 n 6]) (by rw [List.length_append, List.length_take, le8_length]; simp; omega) (by rw [World.alloc_size]; omega) ?_; intro v1 w1 sp1 ho1 hg1 hw1 _)
          | fail)
        go_roundw
        case rel => exact put_next n 6 v1 w1 sp1 (by omega) ho1 (grown_alloc hg1) (hw1.imp id fun h => ⟨_, h, Nat.le_refl _⟩) hgr hwv
        case measure => simp [intOf]; omega
      · go_wp2_with (first
          | (show wpList _ _ _ ((⟨some 20, _, _, _, _, _⟩ : Oper) :: _) _ _; rw [b8_7];
              refine wpList_append_bytes (o := ⟨some 20, _, _, _, _, _⟩) (by rfl) _ _ _ (by rfl) base _ Tryd.underlying27 u8info _ (l ++ (le8 n).take 7) sp (by rfl) (hown.alloc _) (some ⟨wr.heap.size, 0, none⟩) 1 [b8 n 7] (by rfl) (bytes_lit wr _ [b8 n 7]) (by rw [List.length_append, List.length_take, le8_length]; simp; omega) (by rw [World.alloc_size]; omega) ?_; intro v1 w1 sp1 ho1 hg1 hw1 _)
          | fail)
        go_roundw
        case rel => exact put_next n 7 v1 w1 sp1 (by omega) ho1 (grown_alloc hg1) (hw1.imp id fun h => ⟨_, h, Nat.le_refl _⟩) hgr hwv
        case measure => simp [intOf]; omega
    · obtain rfl : i = s := by omega
      have HX := Lib.hid (And.intro hown (And.intro hgr hwv))
      clear hown hgr hwv
      go_wp2
      go_ret
      exact ⟨_, sp, rfl, HX.out⟩
end Go.Proofs.YtekdcjaljjlemaaDoor

/- A number of 128 bits as bytes: what the program's function answers. Condition: its halves are from 0 on. -/
namespace Go.Proofs.YtekdcjaljjlemaaDoor
open Go.RowKit
set_option maxRecDepth 100000 in
set_option maxHeartbeats 2000000 in
theorem id_any (hi lo : Nat) (w : World) :
    Calls Tryd.prog 56 #[.agg #[.int .u64 (hi : Nat), .int .u64 (lo : Nat)]] w fun e w' => e = .returned (.agg (arr 16 (idv lo hi 8))) ∧ Below w.heap.size w w' := by
  go_enter Tryd.func56, Tryd.ntmps56
  go_wp2_with fail
  generalize hw3 : ((w.alloc (.cells #[.int .u64 (hi : Nat), .int .u64 (lo : Nat)] 24)).alloc _).alloc _ = w3
  have h0 : Blk w3 w.heap.size 24 #[.int .u64 (hi : Nat), .int .u64 (lo : Nat)] := by rw [← hw3]; exact ((Blk.new w _ _).alloc _).alloc _
  have h1 : Blk w3 (w.heap.size + 1) 70 (arr 16 (idv 0 0 0)) := by rw [← hw3]; exact (Blk.new' (w.alloc _) _ _ (by simp)).alloc _
  have h2 : Blk w3 (w.heap.size + 1 + 1) 70 (arr 16 (idv lo hi 0)) := by rw [← hw3]; exact Blk.new' _ _ _ (by simp)
  have hB := Lib.hid (show Below w.heap.size w w3 by rw [← hw3]; exact (((Below.refl _ _).alloc (Nat.le_refl _) _).alloc (by simp) _).alloc (by simp; omega) _)
  have dhi : w3.cell? ⟨w.heap.size, 0, none⟩ = some (.int .u64 (hi : Nat)) := h0.at_ 0 rfl
  have dlo : w3.cell? ⟨w.heap.size, 1, none⟩ = some (.int .u64 (lo : Nat)) := h0.at_ 1 rfl
  clear hw3 h0
  obtain ⟨s0, hs0⟩ : ∃ s0, s0 = w.heap.size := ⟨_, rfl⟩
  have hge : w.heap.size ≤ s0 + 1 + 1 := by omega
  have hge2 : w.heap.size ≤ s0 + 1 := by omega
  rw [← hs0] at dhi dlo h1 h2 ⊢
  clear hs0
  go_loopw [5] (fun v wr => IdRel w3 (s0 + 1 + 1) lo hi v wr) (fun v _ => 8 - (intOf v).toNat)
  case atStart => exact ⟨0, by omega, rfl, h2, Upd.refl _ _⟩
  case round =>
    obtain ⟨j, hj, rfl, hg, hu⟩ := hrel
    have ehi := (World.cell?_of_block (hu.block s0 (by omega))).trans dhi
    have elo := (World.cell?_of_block (hu.block s0 (by omega))).trans dlo
    have H1 := Lib.hid (And.intro h1 (And.intro dhi dlo))
    clear dhi dlo h1 h2
    have KL : ∀ i v, (wr.setCell ⟨s0 + 1 + 1, i, none⟩ v).cell? ⟨s0, 1, none⟩ = some (.int .u64 (lo : Nat)) := fun i v => (World.cell?_of_block (((Upd.refl (s0 + 1 + 1) wr).set i v).block s0 (by omega))).trans elo
    have KH : ∀ i v, (wr.setCell ⟨s0 + 1 + 1, i, none⟩ v).cell? ⟨s0, 0, none⟩ = some (.int .u64 (hi : Nat)) := fun i v => (World.cell?_of_block (((Upd.refl (s0 + 1 + 1) wr).set i v).block s0 (by omega))).trans ehi
    by_cases hlt : j < 8
    · have f1 := hg.frozen j
      have f2 := hg.frozen (8 + j)
      have c1 : wr.cell? ⟨s0 + 1 + 1, j, none⟩ = some (u8v (idb lo hi j j)) := hg.at_ j (arr_at _ (by omega))
      have c2 : wr.cell? ⟨s0 + 1 + 1, 8 + j, none⟩ = some (u8v (idb lo hi j (8 + j))) := hg.at_ (8 + j) (arr_at _ (by omega))
      generalize u8v (idb lo hi j j) = y1 at c1
      generalize u8v (idb lo hi j (8 + j)) = y2 at c2
      have hs := ((hg.set_ j (.int .u8 (iu8 (b8 lo j)))).set_ (8 + j) (.int .u8 (iu8 (b8 hi j)))).sub (idv_succ lo hi j hlt)
      have HN := Lib.hid (And.intro hs ((hu.set j (.int .u8 (iu8 (b8 lo j)))).set (8 + j) (.int .u8 (iu8 (b8 hi j)))))
      clear hs hg hu
      have hcase : j = 0 ∨ j = 1 ∨ j = 2 ∨ j = 3 ∨ j = 4 ∨ j = 5 ∨ j = 6 ∨ j = 7 := by omega
      rcases hcase with rfl | rfl | rfl | rfl | rfl | rfl | rfl | rfl
      · go_wp2_with fail
        refine wp_region_planT (fun w' => w'.cell? ⟨s0, 1, none⟩ = some (.int .u64 (lo : Nat)) ∧ w'.cell? ⟨s0, 0, none⟩ = some (.int .u64 (hi : Nat))) [18] [(true, 0), (true, 1), (true, 2), (true, 3), (true, 5), (true, 6), (true, 9), (true, 11), (true, 12), (true, 4), (true, 10), (true, 7), (true, 8), (true, 13), (true, 14), (true, 15), (false, 16), (true, 17), (false, 18)] (by kernel_rfl) (by kernel_rfl) (⟨elo, ehi⟩) ?_
        refine wpPlan_pure [0, 1, 2, 3, 5, 6, 9, 11, 12] [(true, 4), (true, 10), (true, 7), (true, 8), (true, 13), (true, 14), (true, 15), (false, 16), (true, 17), (false, 18)] _ (by rfl) (by rfl) ?_
        dsimp only [List.filterMap, List.getElem?_cons_zero, List.getElem?_cons_succ]
        repeat (go_big_quiet_step (fail))
        refine wpQuiet_nil ?_
        refine wpPlan_takeL [4, 10] [(true, 7), (true, 8), (true, 13), (true, 14), (true, 15), (false, 16), (true, 17), (false, 18)] _ (by rfl) (by rfl) (⟨elo, ehi⟩) ?_
        dsimp only [List.filterMap, List.getElem?_cons_zero, List.getElem?_cons_succ]
        (refine wpQuiet_load_cell (fun w' hw' => hw'.1) (by rfl) _ _ (by rfl) (by rfl) _ Tryd.underlying22 (by rfl) ?_; simp only [Act.put, List.setIfInBounds_toArray, List.set_cons_zero, List.set_cons_succ])
        (refine wpQuiet_load_cell (fun w' hw' => hw'.2) (by rfl) _ _ (by rfl) (by rfl) _ Tryd.underlying22 (by rfl) ?_; simp only [Act.put, List.setIfInBounds_toArray, List.set_cons_zero, List.set_cons_succ])
        refine wpQuiet_nil ?_
        refine wpPlan_pure [7, 8, 13, 14, 15] [(false, 16), (true, 17), (false, 18)] _ (by rfl) (by rfl) ?_
        dsimp only [List.filterMap, List.getElem?_cons_zero, List.getElem?_cons_succ]
        repeat (go_big_quiet_step (fail))
        refine wpQuiet_nil ?_
        refine wpPlan_forceL _ rfl ?_
        go_wp2_with fail
        refine PlanQ.in_ ⟨KL _ _, KH _ _⟩ ?_
        refine wpPlan_pure [17] [(false, 18)] _ (by rfl) (by rfl) ?_
        dsimp only [List.filterMap, List.getElem?_cons_zero, List.getElem?_cons_succ]
        repeat (go_big_quiet_step (fail))
        refine wpQuiet_nil ?_
        refine wpPlan_forceL _ rfl ?_
        go_wp2_with fail
        refine PlanQ.out (by rfl) ?_
        refine wpPlan_tidy ?_
        go_wp2
        rw [b8_0, b8_0]
        exact ⟨⟨1, by omega, rfl, HN.out.1.drew, HN.out.2.drewH⟩, by simp [intOf]⟩
      · go_wp2_with fail
        refine wp_region_planT (fun w' => w'.cell? ⟨s0, 1, none⟩ = some (.int .u64 (lo : Nat)) ∧ w'.cell? ⟨s0, 0, none⟩ = some (.int .u64 (hi : Nat))) [18] [(true, 0), (true, 1), (true, 2), (true, 3), (true, 5), (true, 6), (true, 9), (true, 11), (true, 12), (true, 4), (true, 10), (true, 7), (true, 8), (true, 13), (true, 14), (true, 15), (false, 16), (true, 17), (false, 18)] (by kernel_rfl) (by kernel_rfl) (⟨elo, ehi⟩) ?_
        refine wpPlan_pure [0, 1, 2, 3, 5, 6, 9, 11, 12] [(true, 4), (true, 10), (true, 7), (true, 8), (true, 13), (true, 14), (true, 15), (false, 16), (true, 17), (false, 18)] _ (by rfl) (by rfl) ?_
        dsimp only [List.filterMap, List.getElem?_cons_zero, List.getElem?_cons_succ]
        repeat (go_big_quiet_step (fail))
        refine wpQuiet_nil ?_
        refine wpPlan_takeL [4, 10] [(true, 7), (true, 8), (true, 13), (true, 14), (true, 15), (false, 16), (true, 17), (false, 18)] _ (by rfl) (by rfl) (⟨elo, ehi⟩) ?_
        dsimp only [List.filterMap, List.getElem?_cons_zero, List.getElem?_cons_succ]
        (refine wpQuiet_load_cell (fun w' hw' => hw'.1) (by rfl) _ _ (by rfl) (by rfl) _ Tryd.underlying22 (by rfl) ?_; simp only [Act.put, List.setIfInBounds_toArray, List.set_cons_zero, List.set_cons_succ])
        (refine wpQuiet_load_cell (fun w' hw' => hw'.2) (by rfl) _ _ (by rfl) (by rfl) _ Tryd.underlying22 (by rfl) ?_; simp only [Act.put, List.setIfInBounds_toArray, List.set_cons_zero, List.set_cons_succ])
        refine wpQuiet_nil ?_
        refine wpPlan_pure [7, 8, 13, 14, 15] [(false, 16), (true, 17), (false, 18)] _ (by rfl) (by rfl) ?_
        dsimp only [List.filterMap, List.getElem?_cons_zero, List.getElem?_cons_succ]
        repeat (go_big_quiet_step (fail))
        refine wpQuiet_nil ?_
        refine wpPlan_forceL _ rfl ?_
        go_wp2_with fail
        refine PlanQ.in_ ⟨KL _ _, KH _ _⟩ ?_
        refine wpPlan_pure [17] [(false, 18)] _ (by rfl) (by rfl) ?_
        dsimp only [List.filterMap, List.getElem?_cons_zero, List.getElem?_cons_succ]
        repeat (go_big_quiet_step (fail))
        refine wpQuiet_nil ?_
        refine wpPlan_forceL _ rfl ?_
        go_wp2_with fail
        refine PlanQ.out (by rfl) ?_
        refine wpPlan_tidy ?_
        go_wp2
        rw [b8_1, b8_1]
        exact ⟨⟨2, by omega, rfl, HN.out.1.drew, HN.out.2.drewH⟩, by simp [intOf]⟩
      · go_wp2_with fail
        refine wp_region_planT (fun w' => w'.cell? ⟨s0, 1, none⟩ = some (.int .u64 (lo : Nat)) ∧ w'.cell? ⟨s0, 0, none⟩ = some (.int .u64 (hi : Nat))) [18] [(true, 0), (true, 1), (true, 2), (true, 3), (true, 5), (true, 6), (true, 9), (true, 11), (true, 12), (true, 4), (true, 10), (true, 7), (true, 8), (true, 13), (true, 14), (true, 15), (false, 16), (true, 17), (false, 18)] (by kernel_rfl) (by kernel_rfl) (⟨elo, ehi⟩) ?_
        refine wpPlan_pure [0, 1, 2, 3, 5, 6, 9, 11, 12] [(true, 4), (true, 10), (true, 7), (true, 8), (true, 13), (true, 14), (true, 15), (false, 16), (true, 17), (false, 18)] _ (by rfl) (by rfl) ?_
        dsimp only [List.filterMap, List.getElem?_cons_zero, List.getElem?_cons_succ]
        repeat (go_big_quiet_step (fail))
        refine wpQuiet_nil ?_
        refine wpPlan_takeL [4, 10] [(true, 7), (true, 8), (true, 13), (true, 14), (true, 15), (false, 16), (true, 17), (false, 18)] _ (by rfl) (by rfl) (⟨elo, ehi⟩) ?_
        dsimp only [List.filterMap, List.getElem?_cons_zero, List.getElem?_cons_succ]
        (refine wpQuiet_load_cell (fun w' hw' => hw'.1) (by rfl) _ _ (by rfl) (by rfl) _ Tryd.underlying22 (by rfl) ?_; simp only [Act.put, List.setIfInBounds_toArray, List.set_cons_zero, List.set_cons_succ])
        (refine wpQuiet_load_cell (fun w' hw' => hw'.2) (by rfl) _ _ (by rfl) (by rfl) _ Tryd.underlying22 (by rfl) ?_; simp only [Act.put, List.setIfInBounds_toArray, List.set_cons_zero, List.set_cons_succ])
        refine wpQuiet_nil ?_
        refine wpPlan_pure [7, 8, 13, 14, 15] [(false, 16), (true, 17), (false, 18)] _ (by rfl) (by rfl) ?_
        dsimp only [List.filterMap, List.getElem?_cons_zero, List.getElem?_cons_succ]
        repeat (go_big_quiet_step (fail))
        refine wpQuiet_nil ?_
        refine wpPlan_forceL _ rfl ?_
        go_wp2_with fail
        refine PlanQ.in_ ⟨KL _ _, KH _ _⟩ ?_
        refine wpPlan_pure [17] [(false, 18)] _ (by rfl) (by rfl) ?_
        dsimp only [List.filterMap, List.getElem?_cons_zero, List.getElem?_cons_succ]
        repeat (go_big_quiet_step (fail))
        refine wpQuiet_nil ?_
        refine wpPlan_forceL _ rfl ?_
        go_wp2_with fail
        refine PlanQ.out (by rfl) ?_
        refine wpPlan_tidy ?_
        go_wp2
        rw [b8_2, b8_2]
        exact ⟨⟨3, by omega, rfl, HN.out.1.drew, HN.out.2.drewH⟩, by simp [intOf]⟩
      · go_wp2_with fail
        refine wp_region_planT (fun w' => w'.cell? ⟨s0, 1, none⟩ = some (.int .u64 (lo : Nat)) ∧ w'.cell? ⟨s0, 0, none⟩ = some (.int .u64 (hi : Nat))) [18] [(true, 0), (true, 1), (true, 2), (true, 3), (true, 5), (true, 6), (true, 9), (true, 11), (true, 12), (true, 4), (true, 10), (true, 7), (true, 8), (true, 13), (true, 14), (true, 15), (false, 16), (true, 17), (false, 18)] (by kernel_rfl) (by kernel_rfl) (⟨elo, ehi⟩) ?_
        refine wpPlan_pure [0, 1, 2, 3, 5, 6, 9, 11, 12] [(true, 4), (true, 10), (true, 7), (true, 8), (true, 13), (true, 14), (true, 15), (false, 16), (true, 17), (false, 18)] _ (by rfl) (by rfl) ?_
        dsimp only [List.filterMap, List.getElem?_cons_zero, List.getElem?_cons_succ]
        repeat (go_big_quiet_step (fail))
        refine wpQuiet_nil ?_
        refine wpPlan_takeL [4, 10] [(true, 7), (true, 8), (true, 13), (true, 14), (true, 15), (false, 16), (true, 17), (false, 18)] _ (by rfl) (by rfl) (⟨elo, ehi⟩) ?_
        dsimp only [List.filterMap, List.getElem?_cons_zero, List.getElem?_cons_succ]
        (refine wpQuiet_load_cell (fun w' hw' => hw'.1) (by rfl) _ _ (by rfl) (by rfl) _ Tryd.underlying22 (by rfl) ?_; simp only [Act.put, List.setIfInBounds_toArray, List.set_cons_zero, List.set_cons_succ])
        (refine wpQuiet_load_cell (fun w' hw' => hw'.2) (by rfl) _ _ (by rfl) (by rfl) _ Tryd.underlying22 (by rfl) ?_; simp only [Act.put, List.setIfInBounds_toArray, List.set_cons_zero, List.set_cons_succ])
        refine wpQuiet_nil ?_
        refine wpPlan_pure [7, 8, 13, 14, 15] [(false, 16), (true, 17), (false, 18)] _ (by rfl) (by rfl) ?_
        dsimp only [List.filterMap, List.getElem?_cons_zero, List.getElem?_cons_succ]
        repeat (go_big_quiet_step (fail))
        refine wpQuiet_nil ?_
        refine wpPlan_forceL _ rfl ?_
        go_wp2_with fail
        refine PlanQ.in_ ⟨KL _ _, KH _ _⟩ ?_
        refine wpPlan_pure [17] [(false, 18)] _ (by rfl) (by rfl) ?_
        dsimp only [List.filterMap, List.getElem?_cons_zero, List.getElem?_cons_succ]
        repeat (go_big_quiet_step (fail))
        refine wpQuiet_nil ?_
        refine wpPlan_forceL _ rfl ?_
        go_wp2_with fail
        refine PlanQ.out (by rfl) ?_
        refine wpPlan_tidy ?_
        go_wp2
        rw [b8_3, b8_3]
        exact ⟨⟨4, by omega, rfl, HN.out.1.drew, HN.out.2.drewH⟩, by simp [intOf]⟩
      · go_wp2_with fail
        refine wp_region_planT (fun w' => w'.cell? ⟨s0, 1, none⟩ = some (.int .u64 (lo : Nat)) ∧ w'.cell? ⟨s0, 0, none⟩ = some (.int .u64 (hi : Nat))) [18] [(true, 0), (true, 1), (true, 2), (true, 3), (true, 5), (true, 6), (true, 9), (true, 11), (true, 12), (true, 4), (true, 10), (true, 7), (true, 8), (true, 13), (true, 14), (true, 15), (false, 16), (true, 17), (false, 18)] (by kernel_rfl) (by kernel_rfl) (⟨elo, ehi⟩) ?_
        refine wpPlan_pure [0, 1, 2, 3, 5, 6, 9, 11, 12] [(true, 4), (true, 10), (true, 7), (true, 8), (true, 13), (true, 14), (true, 15), (false, 16), (true, 17), (false, 18)] _ (by rfl) (by rfl) ?_
        dsimp only [List.filterMap, List.getElem?_cons_zero, List.getElem?_cons_succ]
        repeat (go_big_quiet_step (fail))
        refine wpQuiet_nil ?_
        refine wpPlan_takeL [4, 10] [(true, 7), (true, 8), (true, 13), (true, 14), (true, 15), (false, 16), (true, 17), (false, 18)] _ (by rfl) (by rfl) (⟨elo, ehi⟩) ?_
        dsimp only [List.filterMap, List.getElem?_cons_zero, List.getElem?_cons_succ]
        (refine wpQuiet_load_cell (fun w' hw' => hw'.1) (by rfl) _ _ (by rfl) (by rfl) _ Tryd.underlying22 (by rfl) ?_; simp only [Act.put, List.setIfInBounds_toArray, List.set_cons_zero, List.set_cons_succ])
        (refine wpQuiet_load_cell (fun w' hw' => hw'.2) (by rfl) _ _ (by rfl) (by rfl) _ Tryd.underlying22 (by rfl) ?_; simp only [Act.put, List.setIfInBounds_toArray, List.set_cons_zero, List.set_cons_succ])
        refine wpQuiet_nil ?_
        refine wpPlan_pure [7, 8, 13, 14, 15] [(false, 16), (true, 17), (false, 18)] _ (by rfl) (by rfl) ?_
        dsimp only [List.filterMap, List.getElem?_cons_zero, List.getElem?_cons_succ]
        repeat (go_big_quiet_step (fail))
        refine wpQuiet_nil ?_
        refine wpPlan_forceL _ rfl ?_
        go_wp2_with fail
        refine PlanQ.in_ ⟨KL _ _, KH _ _⟩ ?_
        refine wpPlan_pure [17] [(false, 18)] _ (by rfl) (by rfl) ?_
        dsimp only [List.filterMap, List.getElem?_cons_zero, List.getElem?_cons_succ]
        repeat (go_big_quiet_step (fail))
        refine wpQuiet_nil ?_
        refine wpPlan_forceL _ rfl ?_
        go_wp2_with fail
        refine PlanQ.out (by rfl) ?_
        refine wpPlan_tidy ?_
        go_wp2
        rw [b8_4, b8_4]
        exact ⟨⟨5, by omega, rfl, HN.out.1.drew, HN.out.2.drewH⟩, by simp [intOf]⟩
      · go_wp2_with fail
        refine wp_region_planT (fun w' => w'.cell? ⟨s0, 1, none⟩ = some (.int .u64 (lo : Nat)) ∧ w'.cell? ⟨s0, 0, none⟩ = some (.int .u64 (hi : Nat))) [18] [(true, 0), (true, 1), (true, 2), (true, 3), (true, 5), (true, 6), (true, 9), (true, 11), (true, 12), (true, 4), (true, 10), (true, 7), (true, 8), (true, 13), (true, 14), (true, 15), (false, 16), (true, 17), (false, 18)] (by kernel_rfl) (by kernel_rfl) (⟨elo, ehi⟩) ?_
        refine wpPlan_pure [0, 1, 2, 3, 5, 6, 9, 11, 12] [(true, 4), (true, 10), (true, 7), (true, 8), (true, 13), (true, 14), (true, 15), (false, 16), (true, 17), (false, 18)] _ (by rfl) (by rfl) ?_
        dsimp only [List.filterMap, List.getElem?_cons_zero, List.getElem?_cons_succ]
        repeat (go_big_quiet_step (fail))
        refine wpQuiet_nil ?_
        refine wpPlan_takeL [4, 10] [(true, 7), (true, 8), (true, 13), (true, 14), (true, 15), (false, 16), (true, 17), (false, 18)] _ (by rfl) (by rfl) (⟨elo, ehi⟩) ?_
        dsimp only [List.filterMap, List.getElem?_cons_zero, List.getElem?_cons_succ]
        (refine wpQuiet_load_cell (fun w' hw' => hw'.1) (by rfl) _ _ (by rfl) (by rfl) _ Tryd.underlying22 (by rfl) ?_; simp only [Act.put, List.setIfInBounds_toArray, List.set_cons_zero, List.set_cons_succ])
        (refine wpQuiet_load_cell (fun w' hw' => hw'.2) (by rfl) _ _ (by rfl) (by rfl) _ Tryd.underlying22 (by rfl) ?_; simp only [Act.put, List.setIfInBounds_toArray, List.set_cons_zero, List.set_cons_succ])
        refine wpQuiet_nil ?_
        refine wpPlan_pure [7, 8, 13, 14, 15] [(false, 16), (true, 17), (false, 18)] _ (by rfl) (by rfl) ?_
        dsimp only [List.filterMap, List.getElem?_cons_zero, List.getElem?_cons_succ]
        repeat (go_big_quiet_step (fail))
        refine wpQuiet_nil ?_
        refine wpPlan_forceL _ rfl ?_
        go_wp2_with fail
        refine PlanQ.in_ ⟨KL _ _, KH _ _⟩ ?_
        refine wpPlan_pure [17] [(false, 18)] _ (by rfl) (by rfl) ?_
        dsimp only [List.filterMap, List.getElem?_cons_zero, List.getElem?_cons_succ]
        repeat (go_big_quiet_step (fail))
        refine wpQuiet_nil ?_
        refine wpPlan_forceL _ rfl ?_
        go_wp2_with fail
        refine PlanQ.out (by rfl) ?_
        refine wpPlan_tidy ?_
        go_wp2
        rw [b8_5, b8_5]
        exact ⟨⟨6, by omega, rfl, HN.out.1.drew, HN.out.2.drewH⟩, by simp [intOf]⟩
      · go_wp2_with fail
        refine wp_region_planT (fun w' => w'.cell? ⟨s0, 1, none⟩ = some (.int .u64 (lo : Nat)) ∧ w'.cell? ⟨s0, 0, none⟩ = some (.int .u64 (hi : Nat))) [18] [(true, 0), (true, 1), (true, 2), (true, 3), (true, 5), (true, 6), (true, 9), (true, 11), (true, 12), (true, 4), (true, 10), (true, 7), (true, 8), (true, 13), (true, 14), (true, 15), (false, 16), (true, 17), (false, 18)] (by kernel_rfl) (by kernel_rfl) (⟨elo, ehi⟩) ?_
        refine wpPlan_pure [0, 1, 2, 3, 5, 6, 9, 11, 12] [(true, 4), (true, 10), (true, 7), (true, 8), (true, 13), (true, 14), (true, 15), (false, 16), (true, 17), (false, 18)] _ (by rfl) (by rfl) ?_
        dsimp only [List.filterMap, List.getElem?_cons_zero, List.getElem?_cons_succ]
        repeat (go_big_quiet_step (fail))
        refine wpQuiet_nil ?_
        refine wpPlan_takeL [4, 10] [(true, 7), (true, 8), (true, 13), (true, 14), (true, 15), (false, 16), (true, 17), (false, 18)] _ (by rfl) (by rfl) (⟨elo, ehi⟩) ?_
        dsimp only [List.filterMap, List.getElem?_cons_zero, List.getElem?_cons_succ]
        (refine wpQuiet_load_cell (fun w' hw' => hw'.1) (by rfl) _ _ (by rfl) (by rfl) _ Tryd.underlying22 (by rfl) ?_; simp only [Act.put, List.setIfInBounds_toArray, List.set_cons_zero, List.set_cons_succ])
        (refine wpQuiet_load_cell (fun w' hw' => hw'.2) (by rfl) _ _ (by rfl) (by rfl) _ Tryd.underlying22 (by rfl) ?_; simp only [Act.put, List.setIfInBounds_toArray, List.set_cons_zero, List.set_cons_succ])
        refine wpQuiet_nil ?_
        refine wpPlan_pure [7, 8, 13, 14, 15] [(false, 16), (true, 17), (false, 18)] _ (by rfl) (by rfl) ?_
        dsimp only [List.filterMap, List.getElem?_cons_zero, List.getElem?_cons_succ]
        repeat (go_big_quiet_step (fail))
        refine wpQuiet_nil ?_
        refine wpPlan_forceL _ rfl ?_
        go_wp2_with fail
        refine PlanQ.in_ ⟨KL _ _, KH _ _⟩ ?_
        refine wpPlan_pure [17] [(false, 18)] _ (by rfl) (by rfl) ?_
        dsimp only [List.filterMap, List.getElem?_cons_zero, List.getElem?_cons_succ]
        repeat (go_big_quiet_step (fail))
        refine wpQuiet_nil ?_
        refine wpPlan_forceL _ rfl ?_
        go_wp2_with fail
        refine PlanQ.out (by rfl) ?_
        refine wpPlan_tidy ?_
        go_wp2
        rw [b8_6, b8_6]
        exact ⟨⟨7, by omega, rfl, HN.out.1.drew, HN.out.2.drewH⟩, by simp [intOf]⟩
      · go_wp2_with fail
        refine wp_region_planT (fun w' => w'.cell? ⟨s0, 1, none⟩ = some (.int .u64 (lo : Nat)) ∧ w'.cell? ⟨s0, 0, none⟩ = some (.int .u64 (hi : Nat))) [18] [(true, 0), (true, 1), (true, 2), (true, 3), (true, 5), (true, 6), (true, 9), (true, 11), (true, 12), (true, 4), (true, 10), (true, 7), (true, 8), (true, 13), (true, 14), (true, 15), (false, 16), (true, 17), (false, 18)] (by kernel_rfl) (by kernel_rfl) (⟨elo, ehi⟩) ?_
        refine wpPlan_pure [0, 1, 2, 3, 5, 6, 9, 11, 12] [(true, 4), (true, 10), (true, 7), (true, 8), (true, 13), (true, 14), (true, 15), (false, 16), (true, 17), (false, 18)] _ (by rfl) (by rfl) ?_
        dsimp only [List.filterMap, List.getElem?_cons_zero, List.getElem?_cons_succ]
        repeat (go_big_quiet_step (fail))
        refine wpQuiet_nil ?_
        refine wpPlan_takeL [4, 10] [(true, 7), (true, 8), (true, 13), (true, 14), (true, 15), (false, 16), (true, 17), (false, 18)] _ (by rfl) (by rfl) (⟨elo, ehi⟩) ?_
        dsimp only [List.filterMap, List.getElem?_cons_zero, List.getElem?_cons_succ]
        (refine wpQuiet_load_cell (fun w' hw' => hw'.1) (by rfl) _ _ (by rfl) (by rfl) _ Tryd.underlying22 (by rfl) ?_; simp only [Act.put, List.setIfInBounds_toArray, List.set_cons_zero, List.set_cons_succ])
        (refine wpQuiet_load_cell (fun w' hw' => hw'.2) (by rfl) _ _ (by rfl) (by rfl) _ Tryd.underlying22 (by rfl) ?_; simp only [Act.put, List.setIfInBounds_toArray, List.set_cons_zero, List.set_cons_succ])
        refine wpQuiet_nil ?_
        refine wpPlan_pure [7, 8, 13, 14, 15] [(false, 16), (true, 17), (false, 18)] _ (by rfl) (by rfl) ?_
        dsimp only [List.filterMap, List.getElem?_cons_zero, List.getElem?_cons_succ]
        repeat (go_big_quiet_step (fail))
        refine wpQuiet_nil ?_
        refine wpPlan_forceL _ rfl ?_
        go_wp2_with fail
        refine PlanQ.in_ ⟨KL _ _, KH _ _⟩ ?_
        refine wpPlan_pure [17] [(false, 18)] _ (by rfl) (by rfl) ?_
        dsimp only [List.filterMap, List.getElem?_cons_zero, List.getElem?_cons_succ]
        repeat (go_big_quiet_step (fail))
        refine wpQuiet_nil ?_
        refine wpPlan_forceL _ rfl ?_
        go_wp2_with fail
        refine PlanQ.out (by rfl) ?_
        refine wpPlan_tidy ?_
        go_wp2
        rw [b8_7, b8_7]
        exact ⟨⟨8, by omega, rfl, HN.out.1.drew, HN.out.2.drewH⟩, by simp [intOf]⟩
    · obtain rfl : j = 8 := by omega
      have hz := H1.out.1.upd hu (show s0 + 1 ≠ s0 + 1 + 1 by omega)
      have hB2 := hB.out
      rw [idv_all] at hg
      have h16 : (le8 lo ++ le8 hi).length = 16 := rfl
      obtain ⟨l, hl⟩ : ∃ l, l = le8 lo ++ le8 hi := ⟨_, rfl⟩
      rw [← hl] at hg h16
      have HL := Lib.hid hl
      have HU := Lib.hid hu
      clear hu hj hlt H1 hl
      go_wp2_with (first
        | (show wpList _ _ _ ((⟨some 26, _, _, _, _, _⟩ : Oper) :: _) _ _; refine wpList_load_blk (o := ⟨some 26, _, _, _, _, _⟩) (hg) (by rfl) _ _ (by rfl) (by rfl) _ Tryd.underlying70 (by rfl) (size16') (by simp [h16]) ?_)
        | (show wpList _ _ _ ((⟨none, _, _, _, _, _⟩ : Oper) :: _) _ _; refine wpList_store_blk (o := ⟨none, _, _, _, _, _⟩) (hz) (by rfl) _ _ _ (by rfl) (by rfl) ((l.map u8v).toArray) (by rfl) (size16') (arr_size _ _) (by simp [h16]) (u8_all _) ?_; intro w5 h5 hu5; have HB5 := Lib.hid ((hB.out.upd HU.out hge).upd hu5 hge2))
        | fail)
      refine bodyPost_ret (results_cell_row (by rfl) _ _ _ _ _ _ _ (by rfl) h5 Tryd.underlying70 (by rfl) (size16'.trans (by simp [h16]))) rfl ⟨by rw [idv_all, HL.out], HB5.out⟩
end Go.Proofs.YtekdcjaljjlemaaDoor

/- What a call hands back whose first result lies in a block; reads over an Upd step. Plain facts over any program. No condition. -/
namespace Go
open Go.RowKit
theorem Bytes.range {w : World} {b off : Nat} {l : List UInt8} (h : Bytes w (some ⟨b, off, none⟩) l) : w.rangeAt b off (l.map u8v) := fun j v hv => by
  have hne : l.map u8v ≠ [] := by intro e; rw [e] at hv; simp at hv
  obtain ⟨b', off', e, hc⟩ := h hne
  simp only [Option.some.injEq, Addr.mk.injEq, and_true] at e
  rw [e.1, e.2]; exact hc j v hv
theorem Upd.cell {g : Nat} {w w' : World} (u : Upd g w w') {p : Addr} (hp : p.block ≠ g) : w'.cell? p = w.cell? p := by
  unfold World.cell?
  rw [u.block p.block hp]
theorem Reads.upd {g : Nat} {w w' : World} {A : Option Addr} {xs : List Value} (h : Reads w A xs) (u : Upd g w w') (hA : ∀ ad, A = some ad → ad.block ≠ g) : Reads w' A xs := fun hn => by
  obtain ⟨b, off, rfl, hc⟩ := h hn
  exact ⟨b, off, rfl, fun j v hv => (u.cell (p := ⟨b, off + j, none⟩) (hA ⟨b, off, none⟩ rfl)).trans (hc j v hv)⟩
theorem results_row_tmp {P : Program} {fn : Func} {p q : Tmp} {ty : TypeId} (h : fn.results = #[.cell p ty, .tmp q]) (tmps : Array Value) (w : World) (g : Nat) (t : TypeId) (cs : Array Value) (d : TypeDesc)
    (hp : tmps.getD p undef = .pointer (some ⟨g, 0, none⟩)) (hg : Blk w g t cs)
    (hu : P.underlying ty = some d) (hd : (match d with | .struct _ | .array _ _ => true | _ => false) = true) (hi : (P.info? ty).map (·.size) = some cs.size) :
    (results fn tmps).run P w = .ok (.tuple #[.agg cs, tmps.getD q undef]) w := by
  have hp' : tmps[p]?.getD undef = .pointer (some ⟨g, 0, none⟩) := by simpa using hp
  simp [results, h, hp', asAddr, run_loadVar_row w g t ty cs (0, 0) d hg hu hd hi]
end Go
