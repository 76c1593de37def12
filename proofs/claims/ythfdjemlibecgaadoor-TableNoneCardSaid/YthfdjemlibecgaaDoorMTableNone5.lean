/- A block's bytes, as the program lays them. Conditions: the block may be, its lists can be read. -/
import Derived.Test.YthfdjemlibecgaaDoorMTableNone4
namespace Go
open Go.RowKit
namespace Proofs.YthfdjemlibecgaaDoor
theorem arr_const (n : Nat) (v : Value) : arr n (fun _ => v) = (List.replicate n v).toArray := by
  apply Array.ext_getElem?; intro i
  rw [arr_get, List.getElem?_toArray, List.getElem?_replicate]
theorem zero1024_list : zero1024 = ((List.replicate 1024 (0 : UInt8)).map u8v).toArray := by
  rw [List.map_replicate]; exact arr_const 1024 _
/-- A list of 1,024 bytes of which the first are these, the others noughts. -/
def pad (P : List UInt8) : List UInt8 := P ++ List.replicate (1024 - P.length) 0
theorem pad_length (P : List UInt8) (h : P.length ≤ 1024) : (pad P).length = 1024 := by unfold pad; rw [List.length_append, List.length_replicate]; omega
theorem pad_put (P : List UInt8) (n : Nat) (h : P.length + 4 ≤ 1024) : put4 (pad P) P.length n = pad (P ++ le4 n) := by
  unfold put4 pad
  rw [List.take_left, List.drop_append, List.drop_of_length_le (by omega), List.nil_append, List.drop_replicate, List.length_append, le4_length, List.append_assoc]
  congr 3
  omega
theorem pad_zero : List.replicate 1024 (0 : UInt8) = pad (List.replicate 16 0) := by unfold pad; rw [List.length_replicate, List.replicate_append_replicate]
/-- The numbers ahead of the refs. -/
def GB.nums (b : GBT) : List Nat := [b.1.toNat, b.2.1.1.toNat, b.2.1.2.1.toNat, b.2.2.1.length, b.2.2.2.1.length]
def numsBytes (l : List Nat) : List UInt8 := l.flatMap le4
theorem numsBytes_length (l : List Nat) : (numsBytes l).length = 4 * l.length := by
  induction l with
  | nil => rfl
  | cons n l ih => unfold numsBytes at *; rw [List.flatMap_cons, List.length_append, ih, List.length_cons, le4_length]; omega
theorem numsBytes_snoc (l : List Nat) (n : Nat) : numsBytes (l ++ [n]) = numsBytes l ++ le4 n := by unfold numsBytes; simp
theorem GB.head_nums (b : GBT) : numsBytes (GB.nums b) = GB.head b := by unfold numsBytes GB.nums GB.head; simp
theorem refsBytes_snoc (l : List RefT) (r : RefT) : refsBytes (l ++ [r]) = refsBytes l ++ (le4 r.1.toNat ++ le4 r.2.1.toNat) := by unfold refsBytes refBytes; simp
/-- What the call's own blocks hold: the block in its box, the result's noughts, the bytes so far. -/
structure LInv (w0 : World) (bx : Array Value) (L : List UInt8) (wr : World) : Prop where
  box : Blk wr w0.heap.size 46 bx
  res : Blk wr (w0.heap.size + 1) 186 zero1024
  raw : Blk wr (w0.heap.size + 1 + 1) 186 (L.map u8v).toArray
  bel : Below w0.heap.size w0 wr
theorem LInv.upd {w0 : World} {bx : Array Value} {L L' : List UInt8} {wr w' : World} (h : LInv w0 bx L wr) (u : Upd (w0.heap.size + 1 + 1) wr w') (hg : Blk w' (w0.heap.size + 1 + 1) 186 (L'.map u8v).toArray) : LInv w0 bx L' w' :=
  ⟨h.box.upd u (by omega), h.res.upd u (by omega), hg, h.bel.upd u (by omega)⟩
theorem LInv.below {w0 : World} {bx : Array Value} {L : List UInt8} {wr w' : World} (h : LInv w0 bx L wr) (hb : Below wr.heap.size wr w') : LInv w0 bx L w' :=
  ⟨keep hb h.box, keep hb h.res, keep hb h.raw, h.bel.trans (hb.mono h.bel.size)⟩
theorem LInv.drew {w0 : World} {bx : Array Value} {L : List UInt8} {wr : World} (h : LInv w0 bx L wr) : LInv w0 bx L wr.drew := ⟨h.box, h.res, h.raw, h.bel.drew⟩
instance {w0 : World} {bx : Array Value} {L : List UInt8} {w w' : World} : KeepsTo w w' (LInv w0 bx L w) (LInv w0 bx L w') := ⟨fun hb h => h.below hb⟩
def NumRel (w : World) (bx : Array Value) (b : GBT) (v v26 : Value) (wr : World) : Prop :=
  ∃ i : Nat, i ≤ 5 ∧ v26 = .int .i64 (i : Int) ∧ v = .slice (some ⟨w.heap.size + 1 + 1, 16 + 4 * i, none⟩) (1008 - 4 * i) (1008 - 4 * i) ∧ LInv w bx (pad (List.replicate 16 0 ++ numsBytes ((GB.nums b).take i))) wr
def RefRel (w : World) (bx : Array Value) (b : GBT) (v v37 : Value) (wr : World) : Prop :=
  ∃ i o : Nat, i ≤ b.2.2.1.length ∧ (i < 16 → o = 36 + 8 * i) ∧ v37 = .int .i64 (i : Int) ∧ v = .slice (some ⟨w.heap.size + 1 + 1, o, none⟩) (128 - 8 * i) (128 - 8 * i) ∧ LInv w bx (pad (List.replicate 16 0 ++ (GB.head b ++ refsBytes (b.2.2.1.take i)))) wr
set_option maxHeartbeats 2000000 in
set_option maxRecDepth 100000 in
theorem laid_any (k ra rs : Nat) (A B : Option Addr) (c d : Nat) (l : List RefT) (body : List UInt8) (hok : GB.ok ((k : Int), ((ra : Int), (rs : Int), ()), l, body, ()) = true) (w : World) (hr : Refs w A l) (hb : Bytes w B body) :
    Calls Tryd.prog 130 #[.agg #[.int .i64 k, .int .i64 ra, .int .i64 rs, .slice A l.length c, .slice B body.length d]] w fun e w' =>
      e = .returned (.agg ((GB.bytes ((k : Int), ((ra : Int), (rs : Int), ()), l, body, ())).map u8v).toArray) ∧ Below w.heap.size w w' := by
  obtain ⟨⟨k1, k2⟩, hrf, hn, hbl, hall⟩ := GB.ok_spec hok
  obtain ⟨r1, r2, r3, r4⟩ := refOk_spec hrf
  simp only at k1 k2 r1 r2 r3 r4 hn hbl hall
  have HOK := Lib.hid hok
  have HALL := Lib.hid hall
  clear hok hrf hall
  obtain ⟨b, hbd⟩ : ∃ b : GBT, b = ((k : Int), ((ra : Int), (rs : Int), ()), l, body, ()) := ⟨_, rfl⟩
  rw [← hbd] at HOK ⊢
  have HBD := Lib.hid hbd
  clear hbd
  have a1024 := alloc1024
  have hL : LInv w #[.int .i64 k, .int .i64 ra, .int .i64 rs, .slice A l.length c, .slice B body.length d] (pad (List.replicate 16 0 ++ numsBytes ((GB.nums b).take 0))) (((w.alloc (.cells #[.int .i64 k, .int .i64 ra, .int .i64 rs, .slice A l.length c, .slice B body.length d] 46)).alloc (.cells zero1024 186)).alloc (.cells zero1024 186)) := by
    refine ⟨((Blk.new _ _ _).alloc _).alloc _, (Blk.new' _ _ _ (by simp)).alloc _, ?_, (((Below.refl _ _).alloc (Nat.le_refl _) _).alloc (by simp) _).alloc (by simp; omega) _⟩
    have := Blk.new' ((w.alloc (.cells #[.int .i64 k, .int .i64 ra, .int .i64 rs, .slice A l.length c, .slice B body.length d] 46)).alloc (.cells zero1024 186)) 186 zero1024 (n := w.heap.size + 1 + 1) (by simp)
    refine this.sub ?_
    rw [zero1024_list, pad_zero]; simp [numsBytes]
  go_enter Tryd.func130, Tryd.ntmps130
  go_wp2_with fail
  generalize ((w.alloc (.cells #[.int .i64 k, .int .i64 ra, .int .i64 rs, .slice A l.length c, .slice B body.length d] 46)).alloc (.cells zero1024 186)).alloc (.cells zero1024 186) = w1 at hL ⊢
  clear a1024
  go_loopw [4, 26] (fun v v26 wr => NumRel w #[.int .i64 k, .int .i64 ra, .int .i64 rs, .slice A l.length c, .slice B body.length d] b v v26 wr) (fun _ v _ => 5 - (intOf v).toNat)
  case atStart => exact ⟨0, by omega, rfl, rfl, hL⟩
  case round =>
    clear hL
    obtain ⟨i, hi, rfl, rfl, hI⟩ := hrel
    by_cases hlt : i < 5
    · have hstep : ∀ n : Nat, (GB.nums b)[i]? = some n → n < 4294967296 → Calls Tryd.prog 154 #[.slice (some ⟨w.heap.size + 1 + 1, 16 + 4 * i, none⟩) (1008 - 4 * i) (1008 - 4 * i), .int .i64 n] wr fun e w' =>
          e = .returned (.slice (some ⟨w.heap.size + 1 + 1, 16 + 4 * (i + 1), none⟩) (1008 - 4 * (i + 1)) (1008 - 4 * (i + 1))) ∧ LInv w #[.int .i64 k, .int .i64 ra, .int .i64 rs, .slice A l.length c, .slice B body.length d] (pad (List.replicate 16 0 ++ numsBytes ((GB.nums b).take (i + 1)))) w' := by
        intro n hin hn4
        have hil : i < (GB.nums b).length := by simp [GB.nums]; omega
        have hpl : (List.replicate 16 (0 : UInt8) ++ numsBytes ((GB.nums b).take i)).length = 16 + 4 * i := by
          rw [List.length_append, List.length_replicate, numsBytes_length, List.length_take]; omega
        refine (gbFour_any (w.heap.size + 1 + 1) (16 + 4 * i) (1008 - 4 * i) (1008 - 4 * i) n _ _ (by omega) (by rw [pad_length _ (by rw [hpl]; omega)]; omega) hn4 wr hI.raw).mono ?_
        rintro e w' ⟨rfl, hg, hu⟩
        refine ⟨?_, hI.upd hu ?_⟩
        · rw [if_neg (by omega)]
          congr 2
        · refine hg.sub ?_
          congr 2
          have := pad_put (List.replicate 16 (0 : UInt8) ++ numsBytes ((GB.nums b).take i)) n (by rw [hpl]; omega)
          rw [hpl] at this
          rw [this, List.append_assoc, ← numsBytes_snoc, List.take_succ_eq_append_getElem hil]
          congr 4
          rw [List.getElem?_eq_getElem hil] at hin
          simpa using hin.symm
      have HS := Lib.hid hstep
      clear hstep
      have hcase : i = 0 ∨ i = 1 ∨ i = 2 ∨ i = 3 ∨ i = 4 := by omega
      have hi5 := idx5 (.int .i64 k) (.int .i64 ra) (.int .i64 rs) (.int .i64 l.length) (.int .i64 body.length) wr
      rcases hcase with rfl | rfl | rfl | rfl | rfl
      · have i0 := hi5.1
        clear hi5
        go_wp2_with fail
        refine (HS.out k (by rw [HBD.out]; simp [GB.nums]) (by omega)).mono ?_
        rintro e w2 ⟨rfl, hI2⟩
        go_wp2
        exact ⟨⟨1, by omega, rfl, rfl, hI2⟩, by simp [intOf]⟩
      · have i0 := hi5.2.1
        clear hi5
        go_wp2_with fail
        refine (HS.out ra (by rw [HBD.out]; simp [GB.nums]) (by omega)).mono ?_
        rintro e w2 ⟨rfl, hI2⟩
        go_wp2
        exact ⟨⟨2, by omega, rfl, rfl, hI2⟩, by simp [intOf]⟩
      · have i0 := hi5.2.2.1
        clear hi5
        go_wp2_with fail
        refine (HS.out rs (by rw [HBD.out]; simp [GB.nums]) (by omega)).mono ?_
        rintro e w2 ⟨rfl, hI2⟩
        go_wp2
        exact ⟨⟨3, by omega, rfl, rfl, hI2⟩, by simp [intOf]⟩
      · have i0 := hi5.2.2.2.1
        clear hi5
        go_wp2_with fail
        refine (HS.out l.length (by rw [HBD.out]; simp [GB.nums]) (by omega)).mono ?_
        rintro e w2 ⟨rfl, hI2⟩
        go_wp2
        exact ⟨⟨4, by omega, rfl, rfl, hI2⟩, by simp [intOf]⟩
      · have i0 := hi5.2.2.2.2
        clear hi5
        go_wp2_with fail
        refine (HS.out body.length (by rw [HBD.out]; simp [GB.nums]) (by omega)).mono ?_
        rintro e w2 ⟨rfl, hI2⟩
        go_wp2
        exact ⟨⟨5, by omega, rfl, rfl, hI2⟩, by simp [intOf]⟩
    · obtain rfl : i = 5 := by omega
      have hI0 : LInv w #[.int .i64 k, .int .i64 ra, .int .i64 rs, .slice A l.length c, .slice B body.length d] (pad (List.replicate 16 0 ++ (GB.head b ++ refsBytes (b.2.2.1.take 0)))) wr := by
        have e : (GB.nums b).take 5 = GB.nums b := by simp [GB.nums]
        rw [e, GB.head_nums] at hI
        simpa [refsBytes] using hI
      clear hI
      have e221 : Hid (b.2.2.1 = l) := Lib.hid (by rw [HBD.out])
      have e222 : Hid (b.2.2.2.1 = body) := Lib.hid (by rw [HBD.out])
      have dx3 : wr.cell? ⟨w.heap.size, 3, none⟩ = some (.slice A l.length c) := hI0.box.at_ 3 (by simp)
      go_wp2_with fail
      clear dx3
      go_loopw [4, 37] (fun v v37 wr => RefRel w #[.int .i64 k, .int .i64 ra, .int .i64 rs, .slice A l.length c, .slice B body.length d] b v v37 wr) (fun _ v _ => l.length - (intOf v).toNat)
      case atStart => exact ⟨0, 36, by omega, fun _ => rfl, rfl, rfl, hI0⟩
      case round =>
        clear hI0
        obtain ⟨i, o, hi, ho, rfl, rfl, hI⟩ := hrel
        rw [e221.out] at hi
        by_cases hlt : i < l.length
        · obtain rfl : o = 36 + 8 * i := ho (by omega)
          have hrr := Refs.below hr hI.bel
          obtain ⟨rb, roff, rfl, hrb, hcells⟩ := hrr (by omega)
          obtain ⟨d1, d2⟩ := hcells i hlt
          have hri := refOk_spec (HALL.out l[i] (List.getElem_mem hlt))
          obtain ⟨x, hx⟩ : ∃ x : Nat, l[i].1 = (x : Int) := ⟨l[i].1.toNat, by omega⟩
          obtain ⟨y, hy⟩ : ∃ y : Nat, l[i].2.1 = (y : Int) := ⟨l[i].2.1.toNat, by omega⟩
          have HR : Hid (b.2.2.1.take (i + 1) = b.2.2.1.take i ++ [((x : Int), (y : Int), ())]) := Lib.hid (by
            rw [e221.out, List.take_succ_eq_append_getElem hlt, ← hx, ← hy])
          rw [hx] at d1 hri
          rw [hy] at d2 hri
          clear hx hy hcells hrr
          go_wp2_with (first
            | ((with_reducible show wpList _ _ _ ((⟨some 40, _, _, _, _, _⟩ : Oper) :: _) _ _); refine wpList_load_mid (o := ⟨some 40, _, _, _, _, _⟩) (range2 (b := rb) (off := roff + i * 2) (u := .int .i64 x) (v := .int .i64 y) (d1) (d2)) (by rfl) _ _ (by rfl) (by rfl) _ Tryd.underlying23 (by rfl) size_ref (by rfl) ?_)
            | fail)
          have hgr := Blk.new wr 23 #[.int .i64 x, .int .i64 y]
          have hI4 : LInv w #[.int .i64 k, .int .i64 ra, .int .i64 rs, .slice (some ⟨rb, roff, none⟩) l.length c, .slice B body.length d] (pad (List.replicate 16 0 ++ (GB.head b ++ refsBytes (b.2.2.1.take i)))) (wr.alloc (.cells #[.int .i64 x, .int .i64 y] 23)) := hI.below ((Below.refl _ _).alloc (Nat.le_refl _) _)
          have hne : w.heap.size + 1 + 1 ≠ wr.heap.size := by have := hI.raw.lt; omega
          generalize wr.alloc (.cells #[.int .i64 x, .int .i64 y] 23) = w4 at hgr hI4 ⊢
          generalize wr.heap.size = gr at hgr hne ⊢
          clear d1 d2 hrb hI ho
          have hpl : (List.replicate 16 (0 : UInt8) ++ (GB.head b ++ refsBytes (b.2.2.1.take i))).length = 36 + 8 * i := by
            rw [List.length_append, List.length_replicate, List.length_append, GB.head_length, refsBytes_length, List.length_take, e221.out]; omega
          refine wp_region_plan (fun w' => Blk w' gr 23 #[.int .i64 x, .int .i64 y]) [] [(true, 0), (true, 1), (true, 4), (true, 2), (true, 5), (false, 3), (false, 6), (false, 7)] (by kernel_rfl) (by kernel_rfl) (fun c a a' w h q => ⟨h ▸ q.1, q.2⟩) hgr.drew ?_
          refine wpPlan_pure [0, 1, 4] [(true, 2), (true, 5), (false, 3), (false, 6), (false, 7)] _ (by rfl) (by rfl) ?_
          dsimp only [List.filterMap, List.getElem?_cons_zero, List.getElem?_cons_succ]
          repeat (go_big_quiet_step (fail))
          refine wpQuiet_nil ?_
          refine wpPlan_takeL [2, 5] [(false, 3), (false, 6), (false, 7)] _ (by rfl) (by rfl) hgr.drew ?_
          dsimp only [List.filterMap, List.getElem?_cons_zero, List.getElem?_cons_succ]
          (refine wpQuiet_load_cell (fun w' hw' => Blk.at_ (v := .int .i64 x) hw' 0 (by simp)) (by rfl) _ _ (by rfl) (by rfl) _ Tryd.underlying3 (by rfl) ?_; simp only [Act.put, List.setIfInBounds_toArray, List.set_cons_zero, List.set_cons_succ])
          (refine wpQuiet_load_cell (fun w' hw' => Blk.at_ (v := .int .i64 y) hw' 1 (by simp)) (by rfl) _ _ (by rfl) (by rfl) _ Tryd.underlying3 (by rfl) ?_; simp only [Act.put, List.setIfInBounds_toArray, List.set_cons_zero, List.set_cons_succ])
          refine wpQuiet_nil ?_
          refine wpPlan_forceL _ rfl ?_
          go_wp2_with fail
          refine (gbFour_any (w.heap.size + 1 + 1) (36 + 8 * i) (128 - 8 * i) (128 - 8 * i) x _ _ (by omega) (by rw [pad_length _ (by rw [hpl]; omega)]; omega) (by omega) w4.drew hI4.drew.raw).mono ?_
          rintro e w5 ⟨rfl, hg5, hu5⟩
          have hpp := pad_put (List.replicate 16 (0 : UInt8) ++ (GB.head b ++ refsBytes (b.2.2.1.take i))) x (by rw [hpl]; omega)
          rw [hpl] at hpp
          rw [hpp] at hg5
          have hI5 := hI4.drew.upd hu5 hg5
          have hgr5 := hgr.drew.upd hu5 (Ne.symm hne)
          clear hg5 hu5 hI4 hgr hpp
          rw [if_neg (by omega)]
          go_wp2_with fail
          refine PlanQ.in_ hgr5 ?_
          refine wpPlan_forceL _ rfl ?_
          have hpl5 : (List.replicate 16 (0 : UInt8) ++ (GB.head b ++ refsBytes (b.2.2.1.take i)) ++ le4 x).length = 36 + 8 * i + 4 := by
            rw [List.length_append, hpl, le4_length]
          go_wp2_with fail
          refine (gbFour_any (w.heap.size + 1 + 1) (36 + 8 * i + 4) (128 - 8 * i - 4) (128 - 8 * i - 4) y _ _ (by omega) (by rw [pad_length _ (by rw [hpl5]; omega)]; omega) (by omega) w5 hI5.raw).mono ?_
          rintro e w6 ⟨rfl, hg6, hu6⟩
          have hpp := pad_put (List.replicate 16 (0 : UInt8) ++ (GB.head b ++ refsBytes (b.2.2.1.take i)) ++ le4 x) y (by rw [hpl5]; omega)
          rw [hpl5] at hpp
          rw [hpp] at hg6
          have hI6 := hI5.upd hu6 hg6
          have hgr6 := hgr5.upd hu6 (Ne.symm hne)
          clear hg6 hu6 hI5 hgr5 hpp
          have HI6 : Hid (LInv w #[.int .i64 k, .int .i64 ra, .int .i64 rs, .slice (some ⟨rb, roff, none⟩) l.length c, .slice B body.length d] (pad (List.replicate 16 0 ++ (GB.head b ++ refsBytes (b.2.2.1.take (i + 1))))) w6) := Lib.hid (by
            rw [HR.out, refsBytes_snoc]
            simpa using hI6)
          clear hI6
          obtain ⟨o2, ho2⟩ : ∃ o2, o2 = (if 128 - 8 * i - 4 = 4 then 36 + 8 * i + 4 else 36 + 8 * i + 4 + 4) := ⟨_, rfl⟩
          have HO2 : Hid (i + 1 < 16 → o2 = 36 + 8 * (i + 1)) := Lib.hid (fun h => by rw [ho2, if_neg (by omega)]; omega)
          rw [← ho2]
          clear ho2
          have e8 : 128 - 8 * i - 4 - 4 = 128 - 8 * (i + 1) := by omega
          rw [e8]
          clear e8
          go_wp2_with fail
          refine PlanQ.in_ hgr6 ?_
          refine wpPlan_forceL _ rfl ?_
          go_wp2_with fail
          refine PlanQ.in_ hgr6 ?_
          refine wpPlan_nil ?_
          go_wp2
          refine ⟨?_, ?_⟩
          · (repeat apply Exists.intro)
            exact ⟨⟨i + 1, o2, by rw [e221.out]; omega, HO2.out, by go_num, rfl, HI6.out⟩, rfl⟩
          · simp [intOf]; omega
        · obtain rfl : i = l.length := by omega
          have hI7 : LInv w #[.int .i64 k, .int .i64 ra, .int .i64 rs, .slice A l.length c, .slice B body.length d] (pad (List.replicate 16 0 ++ (GB.head b ++ refsBytes l))) wr := by
            rw [e221.out, List.take_length] at hI
            exact hI
          clear hI ho
          have hpl : (List.replicate 16 (0 : UInt8) ++ (GB.head b ++ refsBytes l)).length = 36 + 8 * l.length := by
            rw [List.length_append, List.length_replicate, List.length_append, GB.head_length, refsBytes_length]; omega
          go_wp2_with fail
          refine wp_region_plan (fun w' => Blk w' w.heap.size 46 #[.int .i64 k, .int .i64 ra, .int .i64 rs, .slice A l.length c, .slice B body.length d]) [] [(true, 0), (true, 1), (true, 2), (false, 3)] (by kernel_rfl) (by kernel_rfl) (fun c a a' w h q => ⟨h ▸ q.1, q.2⟩) hI7.box.drew ?_
          refine wpPlan_pure [0, 1] [(true, 2), (false, 3)] _ (by rfl) (by rfl) ?_
          dsimp only [List.filterMap, List.getElem?_cons_zero, List.getElem?_cons_succ]
          repeat (go_big_quiet_step (fail))
          refine wpQuiet_nil ?_
          refine wpPlan_takeL [2] [(false, 3)] _ (by rfl) (by rfl) hI7.box.drew ?_
          dsimp only [List.filterMap, List.getElem?_cons_zero, List.getElem?_cons_succ]
          (refine wpQuiet_load_cell (fun w' hw' => Blk.at_ (v := .slice B body.length d) hw' 4 (by simp)) (by rfl) _ _ (by rfl) (by rfl) _ Tryd.underlying44 (by rfl) ?_; simp only [Act.put, List.setIfInBounds_toArray, List.set_cons_zero, List.set_cons_succ])
          refine wpQuiet_nil ?_
          refine wpPlan_forceL _ rfl ?_
          have hbb := Bytes.below hb hI7.drew.bel
          have hI7' := hI7.drew
          clear hI7
          refine wpList_copy_at (by rfl) _ _ _ _ (by rfl) 5 Tryd.underlying44 size1 (w.heap.size + 1 + 1) 164 860 860 B body.length d (by rfl) (by rfl) _ body _ hI7'.raw rfl hbb (by rw [pad_length _ (by rw [hpl]; omega)]; omega) hbl ?_
          intro w5 hg5 hu5
          have hI5 := hI7'.upd hu5 hg5
          clear hg5 hu5 hI7' hbb
          refine wpList_nil ?_
          refine PlanQ.in_ hI5.box ?_
          refine wpPlan_nil ?_
          simp only [Act.put, List.setIfInBounds_toArray, List.set_cons_zero, List.set_cons_succ]
          have hB5 : Hid ((List.replicate 16 (0 : UInt8) ++ GB.rest b).length = 1024 ∧ LInv w #[.int .i64 k, .int .i64 ra, .int .i64 rs, .slice A l.length c, .slice B body.length d] (List.replicate 16 0 ++ GB.rest b) w5) := Lib.hid (by
            have hlen := GB.rest_length b (by rw [e221.out]; omega) (by rw [e222.out]; omega)
            refine ⟨by rw [List.length_append, hlen]; rfl, ?_⟩
            have e : (pad (List.replicate 16 0 ++ (GB.head b ++ refsBytes l))).take 164 ++ (body ++ (pad (List.replicate 16 0 ++ (GB.head b ++ refsBytes l))).drop (164 + body.length)) = List.replicate 16 0 ++ GB.rest b := by
              unfold pad GB.rest GB.tail
              rw [e221.out, e222.out, hpl]
              rw [List.take_append, List.take_of_length_le (by rw [hpl]; omega), List.take_replicate, List.drop_append, List.drop_of_length_le (by rw [hpl]; omega), List.drop_replicate, hpl]
              simp only [List.append_assoc, List.nil_append]
              congr 4
              · congr 1; omega
              · congr 2; omega
            rw [e] at hI5; exact hI5)
          clear hI5
          obtain ⟨hlen5, hI5⟩ := hB5.out
          clear hB5 hpl hi hlt hb hr
          have hLr : Bytes w5 (some ⟨w.heap.size + 1 + 1, 16, none⟩) (GB.rest b) := by
            have h := hI5.raw.bytes.drop (k := 16) (cap := 1024) (.inl (by omega))
            have e : (List.replicate 16 (0 : UInt8) ++ GB.rest b).drop 16 = GB.rest b := by
              conv => lhs; lhs; rw [show 16 = (List.replicate 16 (0 : UInt8)).length from rfl]
              exact List.drop_left ..
            rw [e] at h
            simpa [Addr.add_lit] using h
          have hl8 : (GB.rest b).length = 1008 := by rw [List.length_append, List.length_replicate] at hlen5; omega
          have HL8 := Lib.hid hl8
          have HL5 := Lib.hid hlen5
          clear hl8 hlen5
          go_wp2_with fail
          rw [show (1008 : Nat) = (GB.rest b).length from HL8.out.symm]
          refine (sum_any (some ⟨w.heap.size + 1 + 1, 16, none⟩) (GB.rest b).length (GB.rest b) (Nat.le_refl _) (by rw [HL8.out]; omega) w5 hLr).mono ?_
          rintro e w6 ⟨rfl, hbx⟩
          (replace hI5 := keep hbx hI5; clear hbx hLr)
          have hs16 := Sha.sum_length (GB.rest b)
          have HSS : Hid (GB.bytes b = Sha.sum (GB.rest b) ++ GB.rest b) := Lib.hid rfl
          obtain ⟨S, hS⟩ : ∃ S, S = Sha.sum (GB.rest b) := ⟨_, rfl⟩
          rw [← hS] at hs16 HSS ⊢
          clear hS
          have a16 := alloc16
          go_wp2_with (first
            | ((with_reducible show wpList _ _ _ ((⟨none, _, _, _, _, _⟩ : Oper) :: _) _ _); refine wpList_store_blk (o := ⟨none, _, _, _, _, _⟩) (Blk.new w6 184 zero16) (by rfl) _ _ _ (by rfl) (by rfl) (S.map u8v).toArray (by rfl) size16 (arr_size _ _) (by simp [hs16]) (u8_all _) ?_; intro w7 h7 hux; have hbx := ((Below.refl _ _).alloc (Nat.le_refl _) (.cells zero16 184)).upd hux (Nat.le_refl w6.heap.size); replace hI5 := keep hbx hI5; clear hux hbx)
            | fail)
          simp only [Act.put]
          have hne : w.heap.size + 1 + 1 ≠ w6.heap.size := fun e => by
            have h1 : Blk w7 w6.heap.size 186 _ := e ▸ hI5.raw
            have h2 := h1.symm.trans h7
            simp at h2
          refine wp_region_plan (fun w' => w' = w7.drew) [2] [(true, 0), (true, 1), (false, 2)] (by kernel_rfl) (by kernel_rfl) (fun c a a' w h q => ⟨h ▸ q.1, q.2⟩) rfl ?_
          refine wpPlan_pure [0, 1] [(false, 2)] _ (by rfl) (by rfl) ?_
          dsimp only [List.filterMap, List.getElem?_cons_zero, List.getElem?_cons_succ]
          repeat (go_big_quiet_step (fail))
          refine wpQuiet_nil ?_
          refine wpPlan_forceL _ rfl ?_
          refine wpList_copy_at (by rfl) _ _ _ _ (by rfl) 5 Tryd.underlying44 size1 (w.heap.size + 1 + 1) 0 1024 1024 (some ⟨w6.heap.size, 0, none⟩) 16 16 (by rfl) (by rfl) _ S _ hI5.drew.raw hs16 h7.drew.bytes (by rw [HL5.out, hs16]; omega) (by omega) ?_
          intro w8 hg8 hu8
          have hI8 := hI5.drew.upd hu8 hg8
          clear hg8 hu8 hI5 h7
          refine wpList_nil ?_
          refine PlanQ.out (by rfl) ?_
          refine wpPlan_nil ?_
          simp only [Act.put, List.setIfInBounds_toArray, List.set_cons_zero, List.set_cons_succ]
          have HI8 : LInv w #[.int .i64 k, .int .i64 ra, .int .i64 rs, .slice A l.length c, .slice B body.length d] (GB.bytes b) w8 := by
            have e : (List.replicate 16 (0 : UInt8) ++ GB.rest b).take 0 ++ (S ++ (List.replicate 16 (0 : UInt8) ++ GB.rest b).drop (0 + S.length)) = GB.bytes b := by
              rw [HSS.out, List.take_zero, List.nil_append, Nat.zero_add, hs16]
              congr 1
            rw [e] at hI8; exact hI8
          have HLB : Hid ((GB.bytes b).length = 1024) := Lib.hid (by rw [HSS.out, List.length_append, hs16, HL8.out])
          clear hI8
          go_wp2_with (first
            | (show wpList _ _ _ ((⟨some 58, _, _, _, _, _⟩ : Oper) :: _) _ _; refine wpList_load_blk (o := ⟨some 58, _, _, _, _, _⟩) HI8.raw (by rfl) _ _ (by rfl) (by rfl) _ Tryd.underlying186 (by rfl) size1024 (by simpa using HLB.out) ?_)
            | (show wpList _ _ _ ((⟨none, _, _, _, _, _⟩ : Oper) :: _) _ _; refine wpList_store_blk (o := ⟨none, _, _, _, _, _⟩) HI8.res (by rfl) _ _ _ (by rfl) (by rfl) ((GB.bytes b).map u8v).toArray (by rfl) size1024 (arr_size _ _) (by simpa using HLB.out) (u8_all _) ?_; intro w9 h9 hu9)
            | fail)
          refine bodyPost_ret (results_cell_row (by rfl) _ _ _ _ _ _ _ (by rfl) h9 Tryd.underlying186 (by rfl) (by rw [size1024]; simpa using HLB.out.symm)) rfl ⟨rfl, HI8.bel.upd hu9 (by omega)⟩
end Proofs.YthfdjemlibecgaaDoor
end Go

/- Comparisons, guarded operations and picks in a region that draws its order. Plain facts over any program. No condition. -/
namespace Go
open Go.RowKit
section
variable {P : Program} {ops : Array Oper} {C : World → Prop} {Q : Act → Prop} {rest : List Oper} {a : Act}
theorem wpQuiet_want' {dst : Option Tmp} {op : Op} {ty : TypeId} {pos : String} {af : Array Edge} {g : Option (Nat × Bool)}
    (hw : Region.wanted ⟨dst, op, ty, pos, af, g⟩ (yielded ops a.tmps) = true) (h : wpQuiet P ops C Q (⟨dst, op, ty, pos, af, none⟩ :: rest) a) : wpQuiet P ops C Q (⟨dst, op, ty, pos, af, g⟩ :: rest) a := by
  unfold wpQuiet at h ⊢
  rw [if_pos hw]
  rw [if_pos (by simp [Region.wanted])] at h
  exact h
theorem wpQuiet_eql_bytes {o : Oper} (hgd : o.guard = none) (t e r : TypeId) (x y : Operand) (ho : o.op = .binOp .eql t x y r) (n : Nat)
    (ht : P.underlying t = some (.array n e)) (he : P.underlying e = some (.int .u8)) (hsz : (P.info? e).map (·.size) = some 1) (hm : P.eqGuardType P.depth t = false)
    (l l' : List UInt8) (hx : a.eval x = .agg (l.map u8v).toArray) (hy : a.eval y = .agg (l'.map u8v).toArray) (hl : l.length = n) (hl' : l'.length = n) (b : Bool) (hbb : b = decide (l = l'))
    (h : wpQuiet P ops C Q rest (a.put o.dst (.bool b))) : wpQuiet P ops C Q (o :: rest) a := by
  subst hbb
  refine wpQuiet_step fun K hK => ?_
  rw [if_pos (by simp [Region.wanted, hgd])]
  refine ⟨_, fun w hw => ?_, hK _ h⟩
  obtain ⟨i, hi, hs⟩ := Option.map_eq_some_iff.1 hsz
  have hsz' : ∀ w, (sizeOf e).run P w = .ok 1 w := fun w => by simp [sizeOf, typeInfo, hi, hs]
  have h1 := run_eql_bytes (P := P) w t e n ht he hsz' l l' hl hl'
  rw [u8v_cell] at h1
  have h2 : (l == l') = decide (l = l') := by by_cases h : l = l' <;> simp [h]
  rw [h2] at h1
  unfold Oper.quietAt execOp
  simp only [ho, hx, hy, Sem.run_bind, run_eqGuard_agg w .eql t x y _ _ hm, h1, Result.andThen_ok, Sem.run_pure]
  exact ⟨rfl, rfl⟩
theorem wpQuiet_eql_bool {o : Oper} (hgd : o.guard = none) (t r : TypeId) (x y : Operand) (ho : o.op = .binOp .eql t x y r) (ht : P.underlying t = some .bool) (u v b : Bool) (hx : a.eval x = .bool u) (hy : a.eval y = .bool v) (hb : b = (u == v))
    (h : wpQuiet P ops C Q rest (a.put o.dst (.bool b))) : wpQuiet P ops C Q (o :: rest) a := by
  subst hb
  refine wpQuiet_step fun K hK => ?_
  rw [if_pos (by simp [Region.wanted, hgd])]
  refine ⟨_, fun w hw => ?_, hK _ h⟩
  have h1 : (binOp .eql t (.bool u) (.bool v)).run P w = .ok (.bool (u == v)) w := by
    simp [binOp, run_equal_bool w t u v ht]
  have h2 : (eqGuard .eql t x y (.bool u) (.bool v)).run P w = .ok () w := by simp [eqGuard]
  unfold Oper.quietAt execOp
  simp only [ho, hx, hy, Sem.run_bind, h1, h2, Result.andThen_ok, Sem.run_pure]
  exact ⟨rfl, rfl⟩
theorem wpQuiet_pick {o : Oper} (hgd : o.guard = none) (z x y : Operand) (ho : o.op = .pick z x y) (u : Bool) (hz : a.eval z = .bool u) (v : Value) (hv : (if u then a.eval x else a.eval y) = v)
    (h : wpQuiet P ops C Q rest (a.put o.dst v)) : wpQuiet P ops C Q (o :: rest) a := by
  subst hv
  refine wpQuiet_step fun K hK => ?_
  rw [if_pos (by simp [Region.wanted, hgd])]
  refine ⟨_, fun w hw => ?_, hK _ h⟩
  unfold Oper.quietAt execOp
  simp only [ho, hz, asBool, Sem.run_bind, Result.andThen_ok, Sem.run_pure]
  exact ⟨rfl, rfl⟩
end
end Go

/- A block's bytes told, and read, by the program. Conditions: the lists can be read. -/
namespace Go
open Go.RowKit
/-- Arrays of bytes compared, where they are asked to differ. -/
theorem wpQuiet_neq_bytesG {P : Program} {ops : Array Oper} {C : World → Prop} {Q : Act → Prop} {rest : List Oper} {a : Act} {o : Oper} (hgd : o.guard = none) (t e r : TypeId) (x y : Operand) (ho : o.op = .binOp .neq t x y r) (n : Nat)
    (ht : P.underlying t = some (.array n e)) (he : P.underlying e = some (.int .u8)) (hsz : (P.info? e).map (·.size) = some 1) (hm : P.eqGuardType P.depth t = false)
    (l l' : List UInt8) (hx : a.eval x = .agg (l.map u8v).toArray) (hy : a.eval y = .agg (l'.map u8v).toArray) (hl : l.length = n) (hl' : l'.length = n) (b : Bool) (hbb : b = !decide (l = l'))
    (h : wpQuiet P ops C Q rest (a.put o.dst (.bool b))) : wpQuiet P ops C Q (o :: rest) a := by
  subst hbb
  refine wpQuiet_step fun K hK => ?_
  rw [if_pos (by simp [Region.wanted, hgd])]
  refine ⟨_, fun w hw => ?_, hK _ h⟩
  obtain ⟨i, hi, hs⟩ := Option.map_eq_some_iff.1 hsz
  have hsz' : ∀ w, (sizeOf e).run P w = .ok 1 w := fun w => by simp [sizeOf, typeInfo, hi, hs]
  have h1 := run_eql_bytes (P := P) w t e n ht he hsz' l l' hl hl'
  rw [u8v_cell] at h1
  have h2 : (l == l') = decide (l = l') := by by_cases h : l = l' <;> simp [h]
  rw [h2] at h1
  have h3 : (binOp .neq t (.agg (l.map u8v).toArray) (.agg (l'.map u8v).toArray)).run P w = .ok (.bool (!decide (l = l'))) w := by
    simp only [binOp, Sem.run_bind] at h1 ⊢
    generalize (Op.equal t (.agg (l.map u8v).toArray) (.agg (l'.map u8v).toArray)).run P w = r at h1 ⊢
    cases r with
    | ok v w' => simp only [Result.andThen_ok, Sem.run_pure, Result.ok.injEq, Value.bool.injEq] at h1 ⊢; exact ⟨by rw [h1.1], h1.2⟩
    | halt v w' => simp [Result.andThen] at h1
  unfold Oper.quietAt execOp
  simp only [ho, hx, hy, Sem.run_bind, run_eqGuard_agg w .neq t x y _ _ hm, h3, Result.andThen_ok, Sem.run_pure]
  exact ⟨rfl, rfl⟩
theorem wpList_append_allG {P : Program} {w : World} {Q : Exit → Act → World → Prop} {ops : Array Oper} {rest : List Oper} {o : Oper} {a : Act} (hgd : o.guard = none) (s x : Operand) (t : TypeId)
    (ho : o.op = .call { callee := .builtin .append, args := #[s, x], argTypes := #[t, t] })
    (base : Nat) (e : TypeId) (z : Value) (size bytes : Nat) (ht : P.underlying t = some (.slice e)) (hi : (P.info? e).map (fun i => (i.zero, i.size, i.bytes)) = some (some z, size, bytes)) (hzs : z.cells.size = size) (hsz : 0 < size)
    (v : Value) (n : Nat) (xs sp : List Value) (hs : a.eval s = v) (hown : OwnsC e size w base v n xs sp)
    (A : Option Addr) (m c : Nat) (news : List Value) (hx : a.eval x = .slice A m c) (hl : news.length = m * size) (hr : Reads w A news) (h1 : ∀ u ∈ news, u.oneCell' = true)
    (h63 : n + m ≤ maxLen) (hbytes : (n + m) * bytes ≤ 140737488355328) (hbase : base ≤ w.heap.size)
    (h : ∀ v' w' sp', OwnsC e size w' base v' (n + m) (xs ++ news) sp' → w.grownBy w' v.ownBlock → wpList P ops Q rest (a.put o.dst v') w') : wpList P ops Q (o :: rest) a w :=
  wpList_plain hgd fun _ hK => wp_append_all s x t ho base e z size bytes ht hi hzs hsz v n xs sp hs hown A m c news hx hl hr h1 h63 hbytes hbase fun v' w' sp' h2 h3 _ _ _ => hK _ _ (h v' w' sp' h2 h3)
namespace Proofs.YthfdjemlibecgaaDoor
def refCells (l : List RefT) : List Value := l.flatMap fun r => [.int .i64 r.1, .int .i64 r.2.1]
theorem refCells_length (l : List RefT) : (refCells l).length = l.length * 2 := by
  induction l with
  | nil => rfl
  | cons r l ih => unfold refCells at *; rw [List.flatMap_cons, List.length_append, ih]; simp; omega
theorem refCells_at (l : List RefT) : ∀ i, (h : i < l.length) → (refCells l)[i * 2]? = some (.int .i64 l[i].1) ∧ (refCells l)[i * 2 + 1]? = some (.int .i64 l[i].2.1) := by
  induction l with
  | nil => intro i h; simp at h
  | cons r l ih =>
    intro i h
    have e : refCells (r :: l) = .int .i64 r.1 :: .int .i64 r.2.1 :: refCells l := rfl
    rw [e]
    cases i with
    | zero => exact ⟨rfl, rfl⟩
    | succ i =>
      obtain ⟨h1, h2⟩ := ih i (by simpa using h)
      rw [show (i + 1) * 2 = i * 2 + 1 + 1 by omega]
      exact ⟨by simpa using h1, by simpa using h2⟩
theorem Refs.of {w : World} {A : Option Addr} {l : List RefT} (h : Reads w A (refCells l)) : Refs w A l := fun hp => by
  have h0 := refCells_at l 0 hp
  obtain ⟨b, off, e, hc⟩ := h (by intro e; rw [e] at h0; simp at h0)
  refine ⟨b, off, e, World.block_lt_of_cell? w _ (hc 0 _ h0.1), fun i hi => ?_⟩
  obtain ⟨h1, h2⟩ := refCells_at l i hi
  exact ⟨hc _ _ h1, by rw [Nat.add_assoc]; exact hc _ _ h2⟩
theorem Refs.reads {w : World} {A : Option Addr} {l : List RefT} (h : Refs w A l) : Reads w A (refCells l) := fun hn => by
  have hp : 0 < l.length := by
    rcases Nat.eq_zero_or_pos l.length with h0 | h0
    · rw [List.eq_nil_of_length_eq_zero h0] at hn; exact absurd rfl hn
    · exact h0
  obtain ⟨b, off, e, _, hc⟩ := h hp
  refine ⟨b, off, e, fun j v hv => ?_⟩
  have hj : j < (refCells l).length := by
    rcases Nat.lt_or_ge j (refCells l).length with h1 | h1
    · exact h1
    · rw [List.getElem?_eq_none h1] at hv; cases hv
  rw [refCells_length] at hj
  obtain ⟨h1, h2⟩ := refCells_at l (j / 2) (by omega)
  obtain ⟨c1, c2⟩ := hc (j / 2) (by omega)
  have hj2 : j = j / 2 * 2 ∨ j = j / 2 * 2 + 1 := by omega
  rcases hj2 with hh | hh
  · rw [hh] at hv ⊢; rw [h1] at hv; cases hv; exact c1
  · rw [hh] at hv ⊢; rw [h2] at hv; cases hv; rw [← Nat.add_assoc]; exact c2
theorem refCells_one (l : List RefT) : ∀ u ∈ refCells l, u.oneCell' = true := fun u hu => by
  unfold refCells at hu
  simp only [List.mem_flatMap] at hu
  obtain ⟨r, _, hr⟩ := hu
  simp at hr
  rcases hr with rfl | rfl <;> rfl
theorem sizeGB : (Tryd.prog.info? 46).map (·.size) = some 5 := by kernel_rfl
theorem bytes_ok (k ra rs : Int) (A B : Option Addr) (c d : Nat) (l : List RefT) (body : List UInt8) (hok : GB.ok (k, (ra, rs, ()), l, body, ()) = true) (w : World) (hr : Refs w A l) (hb : Bytes w B body) :
    Calls Tryd.prog 99 #[.agg #[.int .i64 k, .int .i64 ra, .int .i64 rs, .slice A l.length c, .slice B body.length d]] w fun e w' => ∃ g, e = .returned (.tuple #[.slice (some ⟨g, 0, none⟩) 1024 1024, .int .i64 0]) ∧
      w.heap.size ≤ g ∧ Blk w' g 186 ((GB.bytes (k, (ra, rs, ()), l, body, ())).map u8v).toArray ∧ Below w.heap.size w w' := by
  obtain ⟨⟨k1, k2⟩, hrf, hn, hbl, hall⟩ := GB.ok_spec hok
  obtain ⟨r1, r2, r3, r4⟩ := refOk_spec hrf
  simp only at k1 k2 r1 r2 r3 r4 hn hbl
  clear hrf hall
  obtain ⟨k, rfl⟩ := Int.eq_ofNat_of_zero_le (show 0 ≤ k by omega)
  obtain ⟨ra, rfl⟩ := Int.eq_ofNat_of_zero_le (show 0 ≤ ra by omega)
  obtain ⟨rs, rfl⟩ := Int.eq_ofNat_of_zero_le r3
  have hlen := GB.bytes_length ((k : Int), ((ra : Int), (rs : Int), ()), l, body, ()) hn hbl
  have HOK := Lib.hid hok
  clear hok
  have hg := Blk.new w 46 #[.int .i64 k, .int .i64 ra, .int .i64 rs, .slice A l.length c, .slice B body.length d]
  have hB : Below w.heap.size w (w.alloc (.cells #[.int .i64 k, .int .i64 ra, .int .i64 rs, .slice A l.length c, .slice B body.length d] 46)) := (Below.refl _ _).alloc (Nat.le_refl _) _
  have a1024 := alloc1024
  generalize hL : GB.bytes ((k : Int), ((ra : Int), (rs : Int), ()), l, body, ()) = L at hlen ⊢
  have HL := Lib.hid hL
  clear hL
  go_enter Tryd.func99, Tryd.ntmps99
  go_wp2_with fail
  generalize w.alloc (.cells #[.int .i64 k, .int .i64 ra, .int .i64 rs, .slice A l.length c, .slice B body.length d] 46) = w1 at hg hB ⊢
  replace hr := Refs.below hr hB
  replace hb := Bytes.below hb hB
  refine (check_any k ra rs A B c d l body (by omega) (by omega) w1 hr).mono ?_
  rintro e w2 ⟨rfl, hbx⟩
  (replace hr := keep hbx hr; replace hb := keep hbx hb; replace hg := keep hbx hg; replace hB := hB.trans (hbx.mono hB.size); clear hbx)
  rw [GB.code_ok HOK.out]
  go_wp2_with (first
    | (show wpList _ _ _ ((⟨some 11, _, _, _, _, _⟩ : Oper) :: _) _ _; refine wpList_load_blk (o := ⟨some 11, _, _, _, _, _⟩) hg (by rfl) _ _ (by rfl) (by rfl) _ Tryd.underlying46 (by rfl) sizeGB (by simp) ?_)
    | fail)
  refine (laid_any k ra rs A B c d l body HOK.out w2 hr hb).mono ?_
  rintro e w3 ⟨rfl, hbx⟩
  (replace hB := hB.trans (hbx.mono hB.size); clear hbx hg)
  rw [HL.out]
  go_wp2_with (first
    | (show wpList _ _ _ ((⟨none, _, _, _, _, _⟩ : Oper) :: _) _ _; refine wpList_store_blk (o := ⟨none, _, _, _, _, _⟩) (Blk.new w3 186 zero1024) (by rfl) _ _ _ (by rfl) (by rfl) (L.map u8v).toArray (by rfl) size1024 (arr_size _ _) (by simpa using hlen) (u8_all _) ?_; intro w4 h4 hu4; have hB4 := (hB.alloc hB.size (.cells zero1024 186)).upd hu4 hB.size)
    | fail)
  go_ret2
  exact ⟨w3.heap.size, rfl, hB.size, h4, hB4⟩
theorem bytes_no (k ra rs : Int) (A B : Option Addr) (c d : Nat) (l : List RefT) (body : List UInt8) (hl : l.length ≤ 1000) (hbl : body.length ≤ 5000) (hok : GB.ok (k, (ra, rs, ()), l, body, ()) = false) (w : World) (hr : Refs w A l) :
    Calls Tryd.prog 99 #[.agg #[.int .i64 k, .int .i64 ra, .int .i64 rs, .slice A l.length c, .slice B body.length d]] w fun e w' => e = .returned (.tuple #[.slice none 0 0, .int .i64 2]) ∧ Below w.heap.size w w' := by
  have hB : Below w.heap.size w (w.alloc (.cells #[.int .i64 k, .int .i64 ra, .int .i64 rs, .slice A l.length c, .slice B body.length d] 46)) := (Below.refl _ _).alloc (Nat.le_refl _) _
  have HOK := Lib.hid hok
  clear hok
  go_enter Tryd.func99, Tryd.ntmps99
  go_wp2_with fail
  generalize w.alloc (.cells #[.int .i64 k, .int .i64 ra, .int .i64 rs, .slice A l.length c, .slice B body.length d] 46) = w1 at hB ⊢
  replace hr := Refs.below hr hB
  refine (check_any k ra rs A B c d l body hl hbl w1 hr).mono ?_
  rintro e w2 ⟨rfl, hbx⟩
  (replace hB := hB.trans (hbx.mono hB.size); clear hbx)
  rw [GB.code_no HOK.out]
  go_wp2
  go_ret2
  exact ⟨rfl, hB⟩
end Proofs.YthfdjemlibecgaaDoor
end Go

/- A block as an argument: what its cells are. Plain facts of this program. No condition. -/
namespace Go.Proofs.YthfdjemlibecgaaDoor
open Go.RowKit
def refSh : Sh := .cons (.int .i64) (.cons (.int .i64) .nil)
def gbSh : Sh := .cons (.int .i64) (.cons refSh (.cons (.slice refSh) (.cons (.slice .byte) .nil)))
theorem refSh_is {w : World} {r : refSh.T} {cs : List Value} (h : Sh.Is w refSh r cs) : cs = [.int .i64 r.1, .int .i64 r.2.1] := by
  obtain ⟨c1, c2, rfl, _, hx, c3, c4, rfl, _, hy, hz⟩ := h
  obtain ⟨rfl, _, _⟩ := hx
  obtain ⟨rfl, _, _⟩ := hy
  have hz : c4 = [] := hz
  subst hz
  rfl
theorem Refs.both {w : World} {B : Option Addr} {ts : List RefT} {rows : List (List Value)} (h : Both (fun (d : refSh.T) r => r.length = refSh.size ∧ Sh.Is w refSh d r) ts rows) (hr : Reads w B rows.flatten) : Refs w B ts := by
  have hat : ∀ i, (hi : i < ts.length) → rows.flatten[i * 2]? = some (.int .i64 ts[i].1) ∧ rows.flatten[i * 2 + 1]? = some (.int .i64 ts[i].2.1) := by
    intro i hi
    obtain ⟨r, h1, h2, h3⟩ := both_at h i hi
    obtain rfl := refSh_is h2
    refine ⟨?_, ?_⟩
    · have := h3 0 (by decide)
      rw [show i * refSh.size + 0 = i * 2 by simp [refSh, Sh.size]] at this
      rw [this]; rfl
    · have := h3 1 (by decide)
      rw [show i * refSh.size + 1 = i * 2 + 1 by simp [refSh, Sh.size]] at this
      rw [this]; rfl
  intro hp
  have hne : rows.flatten ≠ [] := by intro e; have := (hat 0 hp).1; rw [e] at this; simp at this
  obtain ⟨b, off, e, hc⟩ := hr hne
  exact ⟨b, off, e, World.block_lt_of_cell? w _ (hc _ _ (hat 0 hp).1), fun i hi => ⟨hc _ _ (hat i hi).1, by rw [Nat.add_assoc]; exact hc _ _ (hat i hi).2⟩⟩
theorem gbSh_is {w : World} {x : gbSh.T} {cs : List Value} (h : Sh.Is w gbSh x cs) : ∃ A c B d, cs = [.int .i64 x.1, .int .i64 x.2.1.1, .int .i64 x.2.1.2.1, .slice A x.2.2.1.length c, .slice B x.2.2.2.1.length d] ∧
    x.2.2.1.length ≤ c ∧ x.2.2.2.1.length ≤ d ∧ c ≤ 9223372036854775807 ∧ d ≤ 9223372036854775807 ∧ Refs w A x.2.2.1 ∧ Bytes w B x.2.2.2.1 := by
  obtain ⟨c1, c2, rfl, _, hx, c3, c4, rfl, _, hy, c5, c6, rfl, _, hz, c7, c8, rfl, _, hu, hv⟩ := h
  obtain ⟨rfl, _, _⟩ := hx
  obtain rfl := refSh_is hy
  obtain ⟨A, c, rows, rfl, h2, h3, h4, h5⟩ := hz
  obtain ⟨B, d, rfl, h6, h7, h8⟩ := Sh.Is.bytes hu
  have hv : c8 = [] := hv
  subst hv
  exact ⟨A, c, B, d, rfl, h2, h6, by simpa [maxLen] using h3, by simpa [maxLen] using h7, Refs.both h4 h5, h8⟩
end Go.Proofs.YthfdjemlibecgaaDoor

/- Bytes copied. Condition: the list can be read. -/
namespace Go
open Go.RowKit
namespace Proofs.YthfdjemlibecgaaDoor
theorem copyBytes_any (A : Option Addr) (n c : Nat) (l : List UInt8) (hn : n = l.length) (hl : l.length ≤ 140737488351300) (w : World) (h : Bytes w A l) :
    Calls Tryd.prog 102 #[.slice A n c] w fun e w' => ∃ v sp, e = .returned v ∧ OwnB 5 w' w.heap.size v l sp ∧ Below w.heap.size w w' := by
  subst hn
  have hb1 : Bytes (w.alloc (.cells #[] 5)) A l := h.below ((Below.refl _ _).alloc (Nat.le_refl _) _)
  have ho0 : OwnB 5 (w.alloc (.cells #[] 5)) w.heap.size (.slice (some ⟨w.heap.size, 0, none⟩) 0 0) [] [] := by
    have := OwnsC.lit (e := 5) (size := 1) (base := w.heap.size) w #[] 0 (by simp) (by simp) (by simp)
    unfold OwnB; simpa using this
  go_enter Tryd.func102, Tryd.ntmps102
  go_wp2_with (show wpList _ _ _ ((⟨some 5, _, _, _, _, _⟩ : Oper) :: _) _ _; refine wpList_append_bytes (o := ⟨some 5, _, _, _, _, _⟩) (by rfl) _ _ _ (by rfl) w.heap.size _ Tryd.underlying44 u8info (.slice (some ⟨w.heap.size, 0, none⟩) 0 0) [] [] (by rfl) ho0 A c l (by rfl) hb1 (by simp; omega) (by simp) ?_; intro v1 w1 sp1 ho1 hg1 _ _; have hbz := ((Below.refl w.heap.size w).alloc (Nat.le_refl _) (.cells #[] 5)).grown hg1 (by simp) (fun k hk => by have := (OwnsC.lt ho0 k hk).1; omega); clear hb1 ho0 hg1)
  go_ret
  exact ⟨_, sp1, rfl, by simpa using ho1, hbz⟩
end Proofs.YthfdjemlibecgaaDoor
end Go

/- Pairs, their bytes, and how they are put into groups for data blocks. Plain facts. No condition. -/
namespace Go
/-! ### Pairs and their bytes -/
abbrev PairT := List UInt8 × List UInt8 × Bool × Unit
def pnone : PairT := ([], [], false, ())
def pbytes (p : PairT) : List UInt8 := UInt8.ofNat p.1.length :: (p.1 ++ (if p.2.2.1 then [255] else UInt8.ofNat p.2.1.length :: p.2.1))
def pok (p : PairT) : Bool := decide (1 ≤ p.1.length) && (decide (p.1.length ≤ 32) && (decide (p.2.1.length ≤ 128) && (!p.2.2.1 || decide (p.2.1.length = 0))))
theorem pok_spec {p : PairT} (h : pok p = true) : 1 ≤ p.1.length ∧ p.1.length ≤ 32 ∧ p.2.1.length ≤ 128 ∧ (p.2.2.1 = true → p.2.1 = []) := by
  unfold pok at h
  simp only [Bool.and_eq_true, decide_eq_true_eq, Bool.or_eq_true, Bool.not_eq_true'] at h
  exact ⟨h.1, h.2.1, h.2.2.1, fun e => by rcases h.2.2.2 with h | h; · rw [e] at h; cases h
                                          · exact List.eq_nil_of_length_eq_zero h⟩
/-- Is each key ahead of the next one? -/
def psorted : List PairT → Bool
  | [] => true
  | a :: l => (match l with | [] => true | b :: _ => decide (a.1 < b.1)) && psorted l
theorem psorted_iff : ∀ (l : List PairT), psorted l = true ↔ ∀ (i : Nat) (h : i + 1 < l.length), (l[i]'(by omega)).1 < l[i + 1].1
  | [] => by simp [psorted]
  | [a] => by simp [psorted]
  | a :: b :: l => by
    rw [psorted, Bool.and_eq_true, decide_eq_true_eq, psorted_iff (b :: l)]
    constructor
    · rintro ⟨h1, h2⟩ i hi
      cases i with
      | zero => exact h1
      | succ i => exact h2 i (by simp only [List.length_cons] at hi ⊢; omega)
    · intro h
      exact ⟨h 0 (by simp), fun i hi => h (i + 1) (by simp only [List.length_cons] at hi ⊢; omega)⟩
theorem bl_trans {a b c : List UInt8} (h : a < b) (k : b < c) : a < c := List.lt_trans h k
theorem bl_irrefl (a : List UInt8) : ¬ a < a := List.lt_irrefl a
theorem bl_asymm {a b : List UInt8} (h : a < b) : ¬ b < a := List.lt_asymm h
theorem bl_total {a b : List UInt8} (h : ¬ a < b) : a = b ∨ b < a := by
  by_cases e : b < a
  · exact .inr e
  · exact .inl (List.le_antisymm (List.not_lt.1 e) (List.not_lt.1 h))
theorem psorted_pair : ∀ {l : List PairT}, psorted l = true → l.Pairwise (fun a b => a.1 < b.1)
  | [], _ => List.Pairwise.nil
  | [a], _ => by simp
  | a :: b :: l, h => by
    rw [psorted, Bool.and_eq_true, decide_eq_true_eq] at h
    have h2 := psorted_pair h.2
    refine List.Pairwise.cons ?_ h2
    intro x hx
    rcases List.mem_cons.1 hx with rfl | hx
    · exact h.1
    · exact bl_trans h.1 (List.rel_of_pairwise_cons h2 hx)
theorem pair_psorted : ∀ {l : List PairT}, l.Pairwise (fun a b => a.1 < b.1) → psorted l = true
  | [], _ => rfl
  | [a], _ => rfl
  | a :: b :: l, h => by
    rw [psorted, Bool.and_eq_true, decide_eq_true_eq]
    obtain ⟨h1, h2⟩ := List.pairwise_cons.1 h
    exact ⟨h1 b (List.mem_cons_self), pair_psorted h2⟩
/-! ### Groups: the data blocks' pairs -/
def gbody (g : List PairT) : List UInt8 := g.flatMap pbytes
def gkey (g : List PairT) : List UInt8 := (g.headD pnone).1
def padd (G : List (List PairT)) (p : PairT) : List (List PairT) :=
  match G.getLast? with
  | none => [[p]]
  | some g => if 860 < (gbody g).length + (pbytes p).length then G ++ [[p]] else G.dropLast ++ [g ++ [p]]
def pgroups (l : List PairT) : List (List PairT) := l.foldl padd []
/-- Of pairs: an error, or the groups. -/
def ppack (l : List PairT) : Int × List (List PairT) := if l = [] ∨ 64 < l.length ∨ psorted l = false ∨ l.all pok = false then (2, []) else (0, pgroups l)
theorem pbytes_length (p : PairT) : (pbytes p).length = p.1.length + 2 + (if p.2.2.1 then 0 else p.2.1.length) := by
  unfold pbytes
  split <;> simp <;> omega
theorem pok_length {p : PairT} (h : pok p = true) : 3 ≤ (pbytes p).length ∧ (pbytes p).length ≤ 162 := by
  obtain ⟨h1, h2, h3, h4⟩ := pok_spec h
  rw [pbytes_length]
  split <;> omega
theorem gbody_append (g k : List PairT) : gbody (g ++ k) = gbody g ++ gbody k := by unfold gbody; rw [List.flatMap_append]
theorem gbody_one (p : PairT) : gbody [p] = pbytes p := by unfold gbody; simp
/-- What stays as pairs are added. -/
structure GrOk (G : List (List PairT)) (l : List PairT) : Prop where
  flat : G.flatten = l
  ne : ∀ g ∈ G, g ≠ []
  small : ∀ g ∈ G, (gbody g).length ≤ 860
  full : ∀ g ∈ G.dropLast, 699 ≤ (gbody g).length
theorem GrOk.nil : GrOk [] [] := ⟨rfl, by simp, by simp, by simp⟩
theorem getLast_split {α : Type} {G : List α} {g : α} (h : G.getLast? = some g) : G = G.dropLast ++ [g] := by
  have hne : G ≠ [] := by intro e; rw [e] at h; cases h
  have := List.dropLast_concat_getLast hne
  rw [List.getLast?_eq_some_getLast hne] at h
  injection h with h
  rw [← h]; exact this.symm
theorem GrOk.add {G : List (List PairT)} {l : List PairT} (h : GrOk G l) {p : PairT} (hp : pok p = true) : GrOk (padd G p) (l ++ [p]) := by
  have hlen := pok_length hp
  unfold padd
  cases hg : G.getLast? with
  | none =>
    have : G = [] := by simpa using hg
    subst this
    have hl : l = [] := by rw [← h.flat]; rfl
    subst hl
    exact ⟨rfl, by simp, by simp [gbody_one]; omega, by simp⟩
  | some g =>
    have hs := getLast_split hg
    have hm : g ∈ G := List.mem_of_getLast? hg
    simp only
    split
    · rename_i hbig
      refine ⟨by rw [List.flatten_append, h.flat]; rfl, ?_, ?_, ?_⟩
      · intro x hx
        rcases List.mem_append.1 hx with hx | hx
        · exact h.ne x hx
        · rw [List.mem_singleton.1 hx]; simp
      · intro x hx
        rcases List.mem_append.1 hx with hx | hx
        · exact h.small x hx
        · rw [List.mem_singleton.1 hx, gbody_one]; omega
      · intro x hx
        rw [List.dropLast_concat] at hx
        rw [hs] at hx
        rcases List.mem_append.1 hx with hx | hx
        · exact h.full x hx
        · rw [List.mem_singleton.1 hx]; omega
    · rename_i hbig
      refine ⟨?_, ?_, ?_, ?_⟩
      · have := h.flat
        rw [hs, List.flatten_append] at this
        rw [List.flatten_append, ← this]
        simp
      · intro x hx
        rcases List.mem_append.1 hx with hx | hx
        · exact h.ne x (List.dropLast_subset _ hx)
        · rw [List.mem_singleton.1 hx]; simp
      · intro x hx
        rcases List.mem_append.1 hx with hx | hx
        · exact h.small x (List.dropLast_subset _ hx)
        · rw [List.mem_singleton.1 hx, gbody_append, gbody_one, List.length_append]; omega
      · intro x hx
        rw [List.dropLast_concat] at hx
        exact h.full x hx
theorem GrOk.all : ∀ (l : List PairT) {G : List (List PairT)} {k : List PairT}, GrOk G k → l.all pok = true → GrOk (l.foldl padd G) (k ++ l)
  | [], _, _, h, _ => by simpa using h
  | p :: l, _, _, h, hp => by
    rw [List.all_cons, Bool.and_eq_true] at hp
    have := GrOk.all l (h.add hp.1) hp.2
    rw [List.append_assoc] at this
    exact this
theorem pgroups_ok {l : List PairT} (h : l.all pok = true) : GrOk (pgroups l) l := GrOk.all l GrOk.nil h
theorem gbody_flatten : ∀ (G : List (List PairT)), (gbody G.flatten).length = (G.map fun g => (gbody g).length).sum
  | [] => rfl
  | g :: G => by rw [List.flatten_cons, gbody_append, List.length_append, gbody_flatten G]; rfl
theorem gbody_bound : ∀ (l : List PairT), l.all pok = true → 3 * l.length ≤ (gbody l).length ∧ (gbody l).length ≤ 162 * l.length
  | [], _ => by simp [gbody]
  | p :: l, h => by
    rw [List.all_cons, Bool.and_eq_true] at h
    have h1 := pok_length h.1
    have h2 := gbody_bound l h.2
    rw [show p :: l = [p] ++ l from rfl, gbody_append, gbody_one, List.length_append, List.length_append, List.length_singleton]
    omega
theorem sum_least : ∀ (G : List Nat) (k : Nat), (∀ x ∈ G, k ≤ x) → k * G.length ≤ G.sum
  | [], _, _ => by simp
  | a :: G, k, h => by
    have h1 := h a (by simp)
    have h2 := sum_least G k (fun x hx => h x (by simp [hx]))
    rw [List.length_cons, List.sum_cons, Nat.mul_add]; omega
/-- There are at most 15 blocks. -/
theorem pgroups_few {l : List PairT} (h : l.all pok = true) (hl : l.length ≤ 64) : (pgroups l).length ≤ 15 := by
  have hG := pgroups_ok h
  have hb := (gbody_bound l h).2
  generalize pgroups l = G at hG
  rcases hq : G.getLast? with _ | g
  · have : G = [] := by simpa using hq
    subst this; simp
  · have hs := getLast_split hq
    have h1 := gbody_flatten G
    rw [hG.flat] at h1
    have h2 := sum_least (G.dropLast.map fun g => (gbody g).length) 699 (fun x hx => by obtain ⟨g, hg, rfl⟩ := List.mem_map.1 hx; exact hG.full g hg)
    rw [hs, List.map_append, List.sum_append] at h1
    rw [List.length_map] at h2
    have h3 : G.length = G.dropLast.length + 1 := by
      have := congrArg List.length hs
      rw [List.length_append, List.length_singleton] at this
      exact this
    omega
theorem pgroups_ne {l : List PairT} (h : l.all pok = true) (hl : l ≠ []) : pgroups l ≠ [] := fun e => by
  have := (pgroups_ok h).flat
  rw [e] at this
  exact hl this.symm
end Go

/- The bytes of a data block and of an index block, read. Plain facts. No condition. -/
namespace Go
/-! ### A data block's bytes, read -/
def pval (k : List UInt8) : List UInt8 → Option (PairT × List UInt8)
  | [] => none
  | m :: s => if m = 255 then some ((k, [], true, ()), s) else if s.length < m.toNat then none else some ((k, s.take m.toNat, false, ()), s.drop m.toNat)
def ptake : List UInt8 → Option (PairT × List UInt8)
  | [] => none
  | n :: r => if r.length ≤ n.toNat then none else pval (r.take n.toNat) (r.drop n.toNat)
theorem ptake_cons (n : UInt8) (r : List UInt8) : ptake (n :: r) = if r.length ≤ n.toNat then none else pval (r.take n.toNat) (r.drop n.toNat) := rfl
theorem pval_cons (k : List UInt8) (m : UInt8) (s : List UInt8) : pval k (m :: s) = if m = 255 then some ((k, [], true, ()), s) else if s.length < m.toNat then none else some ((k, s.take m.toNat, false, ()), s.drop m.toNat) := rfl
theorem pval_len {k b s : List UInt8} {p : PairT} (h : pval k b = some (p, s)) : s.length < b.length := by
  cases b with
  | nil => cases h
  | cons m r =>
    rw [pval_cons] at h
    split at h
    · injection h with h; injection h with h1 h2; subst h2; simp
    · split at h
      · cases h
      · injection h with h; injection h with h1 h2; subst h2; rw [List.length_cons, List.length_drop]; omega
theorem ptake_len {b s : List UInt8} {p : PairT} (h : ptake b = some (p, s)) : s.length < b.length := by
  cases b with
  | nil => cases h
  | cons n r =>
    rw [ptake_cons] at h
    split at h
    · cases h
    · have := pval_len h
      rw [List.length_drop] at this
      rw [List.length_cons]; omega
/-- The pairs of bytes. -/
def pparse : Nat → List UInt8 → Option (List PairT)
  | _, [] => some []
  | 0, _ :: _ => none
  | f + 1, n :: r => match ptake (n :: r) with
    | none => none
    | some (p, s) => if pok p = true then (match pparse f s with | none => none | some l => some (p :: l)) else none
theorem pparse_fuel : ∀ (f f' : Nat) (b : List UInt8), b.length ≤ f → b.length ≤ f' → pparse f b = pparse f' b
  | f, f', [], _, _ => by cases f <;> cases f' <;> rfl
  | 0, _, _ :: _, h, _ => by simp at h
  | _ + 1, 0, _ :: _, _, h => by simp at h
  | f + 1, f' + 1, n :: r, h, h' => by
    unfold pparse
    cases ht : ptake (n :: r) with
    | none => rfl
    | some x =>
      obtain ⟨p, s⟩ := x
      have hl := ptake_len ht
      simp only
      rw [pparse_fuel f f' s (by omega) (by omega)]
def parse (b : List UInt8) : Option (List PairT) := pparse b.length b
theorem parse_nil : parse [] = some [] := rfl
theorem parse_none {b : List UInt8} (hb : b ≠ []) (h : ptake b = none) : parse b = none := by
  cases b with
  | nil => exact absurd rfl hb
  | cons n r =>
    unfold parse
    rw [List.length_cons]
    unfold pparse
    rw [h]
theorem parse_bad {b s : List UInt8} {p : PairT} (h : ptake b = some (p, s)) (hp : pok p = false) : parse b = none := by
  cases b with
  | nil => cases h
  | cons n r =>
    unfold parse
    rw [List.length_cons]
    unfold pparse
    rw [h]
    simp only
    rw [if_neg (by rw [hp]; simp)]
theorem parse_some {b s : List UInt8} {p : PairT} (h : ptake b = some (p, s)) (hp : pok p = true) : parse b = (parse s).map (p :: ·) := by
  cases b with
  | nil => cases h
  | cons n r =>
    have hl := ptake_len h
    show pparse (r.length + 1) (n :: r) = (pparse s.length s).map (p :: ·)
    rw [show pparse (r.length + 1) (n :: r) = (match ptake (n :: r) with | none => none | some (p, s) => if pok p = true then (match pparse r.length s with | none => none | some l => some (p :: l)) else none) from rfl, h]
    simp only
    rw [if_pos hp, pparse_fuel r.length s.length s (by rw [List.length_cons] at hl; omega) (Nat.le_refl _)]
    generalize pparse s.length s = x
    cases x <;> rfl
/-- What has been taken, and what is left: what it comes to. -/
def pfin (o : List PairT) (s : List UInt8) : Int × List PairT :=
  match parse s with
  | none => (13, [])
  | some l => if o ++ l = [] ∨ psorted (o ++ l) = false then (13, []) else (0, o ++ l)
def punpack (b : List UInt8) : Int × List PairT := pfin [] b
theorem pfin_none {o : List PairT} {s : List UInt8} (h : parse s = none) : pfin o s = (13, []) := by unfold pfin; rw [h]
theorem pfin_step {o : List PairT} {s s' : List UInt8} {p : PairT} (h : ptake s = some (p, s')) (hp : pok p = true) : pfin o s = pfin (o ++ [p]) s' := by
  unfold pfin
  rw [parse_some h hp]
  cases parse s' with
  | none => rfl
  | some l => simp only [Option.map_some, List.append_assoc, List.singleton_append]
theorem pfin_end (o : List PairT) : pfin o [] = if o = [] ∨ psorted o = false then (13, []) else (0, o) := by
  unfold pfin
  rw [parse_nil]
  simp only [List.append_nil]
theorem ofNat_toNat {n : Nat} (h : n < 256) : (UInt8.ofNat n).toNat = n := by simp [UInt8.toNat_ofNat']; omega
theorem ptake_pbytes {p : PairT} (h : pok p = true) (s : List UInt8) : ptake (pbytes p ++ s) = some (p, s) := by
  obtain ⟨h1, h2, h3, h4⟩ := pok_spec h
  obtain ⟨k, v, g, u⟩ := p
  simp only at h1 h2 h3 h4
  unfold pbytes
  simp only [List.cons_append]
  rw [ptake_cons, ofNat_toNat (by omega)]
  cases g
  · simp only [Bool.false_eq_true, if_false, List.append_assoc, List.cons_append]
    rw [if_neg (by simp), List.drop_left, List.take_left, pval_cons, if_neg (by intro e; have := congrArg UInt8.toNat e; rw [ofNat_toNat (by omega)] at this; have : v.length = 255 := this; omega), ofNat_toNat (by omega), if_neg (by simp), List.take_left, List.drop_left]
  · have := h4 rfl
    subst this
    simp only [if_true, List.append_assoc, List.cons_append, List.nil_append]
    rw [if_neg (by simp), List.drop_left, List.take_left, pval_cons, if_pos rfl]
theorem parse_gbody : ∀ (g : List PairT), g.all pok = true → parse (gbody g) = some g
  | [], _ => rfl
  | p :: g, h => by
    rw [List.all_cons, Bool.and_eq_true] at h
    rw [show p :: g = [p] ++ g from rfl, gbody_append, gbody_one, parse_some (ptake_pbytes h.1 _) h.1, parse_gbody g h.2]
    rfl
theorem punpack_gbody {g : List PairT} (h : g.all pok = true) (hs : psorted g = true) (hne : g ≠ []) : punpack (gbody g) = (0, g) := by
  unfold punpack pfin
  rw [parse_gbody g h]
  simp only [List.nil_append]
  rw [if_neg (by rw [hs]; simp [hne])]
/-! ### An index block's bytes, read -/
def kbytes (ks : List (List UInt8)) : List UInt8 := ks.flatMap fun k => UInt8.ofNat k.length :: k
def kparseF : Nat → List UInt8 → Option (List (List UInt8))
  | _, [] => some []
  | 0, _ :: _ => none
  | f + 1, n :: r => if r.length < n.toNat then none else (match kparseF f (r.drop n.toNat) with | none => none | some l => some (r.take n.toNat :: l))
theorem kparse_fuel : ∀ (f f' : Nat) (b : List UInt8), b.length ≤ f → b.length ≤ f' → kparseF f b = kparseF f' b
  | f, f', [], _, _ => by cases f <;> cases f' <;> rfl
  | 0, _, _ :: _, h, _ => by simp at h
  | _ + 1, 0, _ :: _, _, h => by simp at h
  | f + 1, f' + 1, n :: r, h, h' => by
    unfold kparseF
    simp only [List.length_cons] at h h'
    rw [kparse_fuel f f' (r.drop n.toNat) (by rw [List.length_drop]; omega) (by rw [List.length_drop]; omega)]
def kparse (b : List UInt8) : Option (List (List UInt8)) := kparseF b.length b
theorem kparse_nil : kparse [] = some [] := rfl
theorem kparse_none {n : UInt8} {r : List UInt8} (h : r.length < n.toNat) : kparse (n :: r) = none := by
  unfold kparse
  rw [List.length_cons]
  unfold kparseF
  rw [if_pos h]
theorem kparse_some {n : UInt8} {r : List UInt8} (h : n.toNat ≤ r.length) : kparse (n :: r) = (kparse (r.drop n.toNat)).map (r.take n.toNat :: ·) := by
  unfold kparse
  rw [List.length_cons]
  conv => lhs; unfold kparseF
  rw [if_neg (by omega), kparse_fuel r.length (r.drop n.toNat).length _ (by rw [List.length_drop]; omega) (Nat.le_refl _)]
  cases kparseF (r.drop n.toNat).length (r.drop n.toNat) <;> rfl
theorem kparse_kbytes : ∀ (ks : List (List UInt8)), (∀ k ∈ ks, k.length < 256) → kparse (kbytes ks) = some ks
  | [], _ => rfl
  | k :: ks, h => by
    have hk := h k (by simp)
    have e : kbytes (k :: ks) = UInt8.ofNat k.length :: (k ++ kbytes ks) := by unfold kbytes; simp
    rw [e, kparse_some (by rw [ofNat_toNat hk]; simp), ofNat_toNat hk]
    simp only [List.drop_left, List.take_left]
    rw [kparse_kbytes ks (fun x hx => h x (by simp [hx]))]
    rfl
/-- What has been taken of an index, and what is left. -/
def kfin (o : List (List UInt8)) (s : List UInt8) : Option (List (List UInt8)) := (kparse s).map (o ++ ·)
theorem kfin_step {o : List (List UInt8)} {n : UInt8} {r : List UInt8} (h : n.toNat ≤ r.length) : kfin o (n :: r) = kfin (o ++ [r.take n.toNat]) (r.drop n.toNat) := by
  unfold kfin
  rw [kparse_some h]
  cases kparse (r.drop n.toNat) <;> simp
end Go

/- Sorted pairs in groups: a key is looked for, what lies between two keys. Plain facts. No condition. -/
namespace Go
/-! ### A sorted list in groups -/
/-- How many of the keys are not behind this one. -/
def kbef (ks : List (List UInt8)) (key : List UInt8) : Nat := ks.countP fun k => !decide (key < k)
def pfind (l : List PairT) (key : List UInt8) : Option PairT := l.find? fun p => decide (p.1 = key)
theorem countP_at {ks : List (List UInt8)} {key : List UInt8} {j : Nat} (hj : j < ks.length) (h1 : ∀ i (h : i < ks.length), i ≤ j → ¬ key < ks[i]) (h2 : ∀ i (h : i < ks.length), j < i → key < ks[i]) : kbef ks key = j + 1 := by
  unfold kbef
  rw [← List.take_append_drop (j + 1) ks, List.countP_append]
  have e1 : (ks.take (j + 1)).countP (fun k => !decide (key < k)) = (ks.take (j + 1)).length := by
    rw [List.countP_eq_length]
    intro k hk
    obtain ⟨i, hi, rfl⟩ := List.mem_iff_getElem.1 hk
    rw [List.length_take] at hi
    rw [List.getElem_take]
    have := h1 i (by omega) (by omega)
    simpa using this
  have e2 : (ks.drop (j + 1)).countP (fun k => !decide (key < k)) = 0 := by
    rw [List.countP_eq_zero]
    intro k hk
    obtain ⟨i, hi, rfl⟩ := List.mem_iff_getElem.1 hk
    rw [List.length_drop] at hi
    rw [List.getElem_drop]
    have := h2 (j + 1 + i) (by omega) (by omega)
    simpa using this
  rw [e1, e2, List.length_take]; omega
/-- Sorted pairs in groups, none of which is empty. -/
structure GrSo (G : List (List PairT)) : Prop where
  so : G.flatten.Pairwise (fun a b => a.1 < b.1)
  ne : ∀ g ∈ G, g ≠ []
theorem GrSo.tail {g : List PairT} {G : List (List PairT)} (h : GrSo (g :: G)) : GrSo G :=
  ⟨by have := h.so; rw [List.flatten_cons] at this; exact (List.pairwise_append.1 this).2.1, fun x hx => h.ne x (by simp [hx])⟩
theorem GrSo.group {G : List (List PairT)} (h : GrSo G) : ∀ g ∈ G, g.Pairwise (fun a b => a.1 < b.1) := fun g hg => (List.pairwise_flatten.1 h.so).1 g hg
theorem GrSo.apart {G : List (List PairT)} (h : GrSo G) {i j : Nat} (hi : i < j) (hj : j < G.length) : ∀ a ∈ G[i]'(by omega), ∀ b ∈ G[j], a.1 < b.1 := by
  have := (List.pairwise_flatten.1 h.so).2
  exact List.pairwise_iff_getElem.1 this i j (by omega) hj hi
theorem gkey_mem {g : List PairT} (h : g ≠ []) : ∃ a ∈ g, gkey g = a.1 := by
  cases g with
  | nil => exact absurd rfl h
  | cons a g => exact ⟨a, by simp, rfl⟩
theorem gkey_least {g : List PairT} (h : g.Pairwise (fun a b => a.1 < b.1)) {a : PairT} (ha : a ∈ g) : ¬ a.1 < gkey g := by
  cases g with
  | nil => cases ha
  | cons b g =>
    rcases List.mem_cons.1 ha with rfl | ha
    · exact bl_irrefl _
    · exact bl_asymm (List.rel_of_pairwise_cons h ha)
theorem GrSo.keys {G : List (List PairT)} (h : GrSo G) {i j : Nat} (hi : i < j) (hj : j < G.length) : gkey (G[i]'(by omega)) < gkey G[j] := by
  obtain ⟨a, ha, ea⟩ := gkey_mem (h.ne _ (List.getElem_mem (show i < G.length by omega)))
  obtain ⟨b, hb, eb⟩ := gkey_mem (h.ne _ (List.getElem_mem hj))
  rw [ea, eb]
  exact h.apart hi hj a ha b hb
theorem GrSo.mono {G : List (List PairT)} (h : GrSo G) (key : List UInt8) {a b : Nat} (hab : a ≤ b) (hb : b < G.length) (hk : key < gkey (G[a]'(by omega))) : key < gkey G[b] := by
  rcases Nat.eq_or_lt_of_le hab with e | e
  · subst e; exact hk
  · exact bl_trans hk (h.keys e hb)
theorem pfind_none {l : List PairT} {key : List UInt8} (h : ∀ p ∈ l, p.1 ≠ key) : pfind l key = none := by
  unfold pfind
  rw [List.find?_eq_none]
  intro p hp
  simpa using h p hp
theorem pfind_some {l : List PairT} {key : List UInt8} (hs : l.Pairwise (fun a b => a.1 < b.1)) {p : PairT} (hp : p ∈ l) (hk : p.1 = key) : pfind l key = some p := by
  induction l with
  | nil => cases hp
  | cons a l ih =>
    unfold pfind
    rw [List.find?_cons]
    rcases List.mem_cons.1 hp with rfl | hm
    · rw [hk]; simp
    · have := List.rel_of_pairwise_cons hs hm
      rw [decide_eq_false (by intro e; rw [e, ← hk] at this; exact bl_irrefl _ this)]
      exact ih (List.pairwise_cons.1 hs).2 hm
theorem kbef_at {G : List (List PairT)} (h : GrSo G) {j : Nat} (hj : j < G.length) {x : PairT} (hx : x ∈ G[j]) : kbef (G.map gkey) x.1 = j + 1 := by
  refine countP_at (by rw [List.length_map]; exact hj) (fun i hi hij => ?_) (fun i hi hij => ?_)
  · rw [List.getElem_map]
    rw [List.length_map] at hi
    rcases Nat.eq_or_lt_of_le hij with e | e
    · subst e; exact gkey_least (h.group _ (List.getElem_mem hi)) hx
    · intro hk
      obtain ⟨a, ha, ea⟩ := gkey_mem (h.ne _ (List.getElem_mem hi))
      rw [ea] at hk
      exact bl_asymm hk (h.apart e hj a ha x hx)
  · rw [List.getElem_map]
    rw [List.length_map] at hi
    obtain ⟨b, hb, eb⟩ := gkey_mem (h.ne _ (List.getElem_mem hi))
    rw [eb]
    exact h.apart hij hi x hx b hb
theorem kbef_le (ks : List (List UInt8)) (key : List UInt8) : kbef ks key ≤ ks.length := List.countP_le_length
/-- A key's pair, looked for in the group that alone may have it. -/
theorem find_groups {G : List (List PairT)} (h : GrSo G) (key : List UInt8) : pfind G.flatten key = if kbef (G.map gkey) key = 0 then none else pfind (G.getD (kbef (G.map gkey) key - 1) []) key := by
  by_cases hx : ∃ x ∈ G.flatten, x.1 = key
  · obtain ⟨x, hx, rfl⟩ := hx
    obtain ⟨g, hg, hxg⟩ := List.mem_flatten.1 hx
    obtain ⟨j, hj, rfl⟩ := List.mem_iff_getElem.1 hg
    rw [kbef_at h hj hxg, if_neg (by omega), Nat.add_sub_cancel, pfind_some h.so hx rfl, List.getD_eq_getElem?_getD, List.getElem?_eq_getElem hj, Option.getD_some, pfind_some (h.group _ hg) hxg rfl]
  · have hn : ∀ p ∈ G.flatten, p.1 ≠ key := fun p hp e => hx ⟨p, hp, e⟩
    rw [pfind_none hn]
    split
    · rfl
    · rename_i h0
      refine (pfind_none fun p hp => hn p ?_).symm
      have := kbef_le (G.map gkey) key
      rw [List.length_map] at this
      rw [List.getD_eq_getElem?_getD, List.getElem?_eq_getElem (by omega), Option.getD_some] at hp
      exact List.mem_flatten.2 ⟨_, List.getElem_mem (by omega), hp⟩
/-- Between two keys. -/
def pbelow (to key : List UInt8) : Bool := decide (to = []) || decide (key < to)
def inside (fr to : List UInt8) (p : PairT) : Bool := !decide (p.1 < fr) && pbelow to p.1
def used (ks : List (List UInt8)) (fr to : List UInt8) (i : Nat) : Bool := pbelow to (ks.getD i []) && (decide (i + 1 = ks.length) || decide (fr < ks.getD (i + 1) []))
theorem unused {G : List (List PairT)} (h : GrSo G) {fr to : List UInt8} {i : Nat} (hi : i < G.length) (hu : used (G.map gkey) fr to i = false) : (G[i]).filter (inside fr to) = [] := by
  rw [List.filter_eq_nil_iff]
  intro x hx
  unfold used at hu
  rw [Bool.and_eq_false_iff] at hu
  unfold inside
  rcases hu with hu | hu
  · rw [List.getD_eq_getElem?_getD, List.getElem?_map, List.getElem?_eq_getElem hi, Option.map_some, Option.getD_some] at hu
    unfold pbelow at hu ⊢
    rw [Bool.or_eq_false_iff, decide_eq_false_iff_not, decide_eq_false_iff_not] at hu
    have hb := gkey_least (h.group _ (List.getElem_mem hi)) hx
    have : ¬ x.1 < to := fun e => by
      rcases bl_total hb with e1 | e1
      · rw [e1] at e; exact hu.2 e
      · exact hu.2 (bl_trans e1 e)
    rw [decide_eq_false hu.1, decide_eq_false this]
    simp
  · rw [Bool.or_eq_false_iff, decide_eq_false_iff_not, decide_eq_false_iff_not] at hu
    obtain ⟨h1, h2⟩ := hu
    rw [List.length_map] at h1
    have hj : i + 1 < G.length := by omega
    rw [List.getD_eq_getElem?_getD, List.getElem?_map, List.getElem?_eq_getElem hj, Option.map_some, Option.getD_some] at h2
    obtain ⟨b, hb, eb⟩ := gkey_mem (h.ne _ (List.getElem_mem hj))
    have hxb := h.apart (Nat.lt_succ_self i) hj x hx b hb
    rw [← eb] at hxb
    have : x.1 < fr := by
      rcases bl_total h2 with e1 | e1
      · rw [e1]; exact hxb
      · exact bl_trans hxb e1
    rw [decide_eq_true this]
    simp
theorem flatMap_getD {α β : Type} (f : List α → List β) : ∀ (G : List (List α)), (List.range G.length).flatMap (fun i => f (G.getD i [])) = G.flatMap f
  | [] => rfl
  | g :: G => by
    rw [List.length_cons, List.range_succ_eq_map, List.flatMap_cons, List.flatMap_cons, List.flatMap_map]
    congr 1
    exact flatMap_getD f G
theorem between_groups {G : List (List PairT)} (h : GrSo G) (fr to : List UInt8) : (List.range G.length).flatMap (fun i => if used (G.map gkey) fr to i = true then (G.getD i []).filter (inside fr to) else []) = G.flatten.filter (inside fr to) := by
  rw [List.filter_flatten, ← List.flatMap_def, ← flatMap_getD (fun g => g.filter (inside fr to)) G]
  unfold List.flatMap
  congr 1
  refine List.map_congr_left fun i hi => ?_
  have hi := List.mem_range.1 hi
  split
  · rfl
  · rename_i hu
    rw [List.getD_eq_getElem?_getD, List.getElem?_eq_getElem hi, Option.getD_some]
    exact (unused h hi (by simpa using hu)).symm
end Go
