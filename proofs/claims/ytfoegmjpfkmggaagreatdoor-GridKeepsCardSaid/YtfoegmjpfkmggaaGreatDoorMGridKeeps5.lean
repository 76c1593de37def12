/- copy(d, s), d in an own block of bytes from a place on. Plain facts over any program. No condition. -/
import Derived.Test.YtfoegmjpfkmggaaGreatDoorMGridKeeps4
namespace Go
open Go.RowKit
/-- copy(d, s), d in an own block of bytes from a place on. -/
theorem wpList_copy_at {P : Program} {w : World} {ops : Array Oper} {rest : List Oper} {o : Oper} {a : Act} {Q : Exit → Act → World → Prop} (hgd : o.guard = none) (d s : Operand) (dT sT : TypeId)
    (ho : o.op = .call { callee := .builtin .copy, args := #[d, s], argTypes := #[dT, sT] }) (elem : TypeId) (hu : P.underlying dT = some (.slice elem)) (hsz : (P.info? elem).map (·.size) = some 1)
    (g off dLen dCap : Nat) (A : Option Addr) (sLen sCap : Nat) (hd : a.eval d = .slice (some ⟨g, off, none⟩) dLen dCap) (hs : a.eval s = .slice A sLen sCap)
    (cur l : List UInt8) (t : TypeId) (hg : Blk w g t (cur.map u8v).toArray) (hn : l.length = sLen) (hb : Bytes w A l) (hfit : off + l.length ≤ cur.length) (hfit2 : l.length ≤ dLen)
    (h : ∀ w', Blk w' g t ((cur.take off ++ (l ++ cur.drop (off + l.length))).map u8v).toArray → Upd g w w' → wpList P ops Q rest (a.put o.dst (goInt l.length)) w') : wpList P ops Q (o :: rest) a w := by
  by_cases h0 : l.length = 0
  · obtain rfl : l = [] := List.eq_nil_of_length_eq_zero h0
    simp at hn
    subst hn
    refine wpList_copy_nothing hgd d s dT sT ho elem hu hsz _ A dLen dCap 0 sCap hd hs (by simp) ?_
    exact h w (by simpa using hg) ⟨rfl, rfl, rfl, rfl, fun _ _ => rfl⟩
  · obtain ⟨b, soff, rfl, _, hc⟩ := hb.at_ (by omega)
    have := wpList_copy_own (Q := Q) (rest := rest) (ops := ops) (w := w) hgd d s dT sT ho elem hu hsz g off dLen dCap ⟨b, soff, none⟩ sLen sCap hd hs (cur.map u8v).toArray t hg (l.map u8v) (by rw [List.length_map, hn]; exact (Nat.min_eq_left (by omega)).symm)
      (fun j v hv => by
        have hj : j < l.length := by
          rcases Nat.lt_or_ge j l.length with h1 | h1
          · exact h1
          · simp [List.getElem?_eq_none h1] at hv
        have h2 := hc j hj
        simp [hj] at hv
        rw [Addr.add_lit, h2, ← hv]; simp [u8v, hj]) (by simpa using hfit) (u8v_one l)
    refine this ?_
    have e1 : ((((cur.map u8v).toArray.toList.take off) ++ (l.map u8v ++ (cur.map u8v).toArray.toList.drop (off + (l.map u8v).length))).toArray) = ((cur.take off ++ (l ++ cur.drop (off + l.length))).map u8v).toArray := by simp
    rw [e1]
    have e2 : ((l.map u8v).length : Int) = (l.length : Int) := by simp
    rw [e2]
    exact h _ (hg.setRow _) (Upd.setRow _ _ _)
end Go

/- A block's bytes, as the program lays them. Conditions: the block may be, its lists can be read. -/
namespace Go
open Go.RowKit
namespace Proofs.YtfoegmjpfkmggaaGreatDoor
theorem arr_const (n : Nat) (v : Value) : arr n (fun _ => v) = (List.replicate n v).toArray := by
  apply Array.ext_getElem?; intro i
  rw [arr_get, List.getElem?_toArray, List.getElem?_replicate]
theorem zero1024_list : zero1024 = ((List.replicate 1024 (0 : UInt8)).map u8v).toArray := by
  rw [List.map_replicate]; exact arr_const 1024 _
/-- A list of 1,024 bytes of which the first are these, the others noughts. -/
def pad (P : List UInt8) : List UInt8 := P ++ List.replicate (1024 - P.length) 0
theorem pad_length (P : List UInt8) (h : P.length ≤ 1024) : (pad P).length = 1024 := by unfold pad; rw [List.length_append, List.length_replicate]; omega
theorem pad_put (P : List UInt8) (n : Nat) (h : P.length + 4 ≤ 1024) : put4 (pad P) P.length n = pad (P ++ le4 n) := by
  unfold put4 pad
  rw [List.take_left, List.drop_append, List.drop_of_length_le (by omega), List.nil_append, List.drop_replicate, List.length_append, le4_length, List.append_assoc]
  congr 3
  omega
theorem pad_zero : List.replicate 1024 (0 : UInt8) = pad (List.replicate 16 0) := by unfold pad; rw [List.length_replicate, List.replicate_append_replicate]
/-- The numbers ahead of the refs. -/
def GB.nums (b : GBT) : List Nat := [b.1.toNat, b.2.1.1.toNat, b.2.1.2.1.toNat, b.2.2.1.length, b.2.2.2.1.length]
def numsBytes (l : List Nat) : List UInt8 := l.flatMap le4
theorem numsBytes_length (l : List Nat) : (numsBytes l).length = 4 * l.length := by
  induction l with
  | nil => rfl
  | cons n l ih => unfold numsBytes at *; rw [List.flatMap_cons, List.length_append, ih, List.length_cons, le4_length]; omega
theorem numsBytes_snoc (l : List Nat) (n : Nat) : numsBytes (l ++ [n]) = numsBytes l ++ le4 n := by unfold numsBytes; simp
theorem GB.head_nums (b : GBT) : numsBytes (GB.nums b) = GB.head b := by unfold numsBytes GB.nums GB.head; simp
theorem refsBytes_snoc (l : List RefT) (r : RefT) : refsBytes (l ++ [r]) = refsBytes l ++ (le4 r.1.toNat ++ le4 r.2.1.toNat) := by unfold refsBytes refBytes; simp
/-- What the call's own blocks hold: the block in its box, the result's noughts, the bytes so far. -/
structure LInv (w0 : World) (bx : Array Value) (L : List UInt8) (wr : World) : Prop where
  box : Blk wr w0.heap.size 116 bx
  res : Blk wr (w0.heap.size + 1) 210 zero1024
  raw : Blk wr (w0.heap.size + 1 + 1) 210 (L.map u8v).toArray
  bel : Below w0.heap.size w0 wr
theorem LInv.upd {w0 : World} {bx : Array Value} {L L' : List UInt8} {wr w' : World} (h : LInv w0 bx L wr) (u : Upd (w0.heap.size + 1 + 1) wr w') (hg : Blk w' (w0.heap.size + 1 + 1) 210 (L'.map u8v).toArray) : LInv w0 bx L' w' :=
  ⟨h.box.upd u (by omega), h.res.upd u (by omega), hg, h.bel.upd u (by omega)⟩
theorem LInv.below {w0 : World} {bx : Array Value} {L : List UInt8} {wr w' : World} (h : LInv w0 bx L wr) (hb : Below wr.heap.size wr w') : LInv w0 bx L w' :=
  ⟨keep hb h.box, keep hb h.res, keep hb h.raw, h.bel.trans (hb.mono h.bel.size)⟩
theorem LInv.drew {w0 : World} {bx : Array Value} {L : List UInt8} {wr : World} (h : LInv w0 bx L wr) : LInv w0 bx L wr.drew := ⟨h.box, h.res, h.raw, h.bel.drew⟩
instance {w0 : World} {bx : Array Value} {L : List UInt8} {w w' : World} : KeepsTo w w' (LInv w0 bx L w) (LInv w0 bx L w') := ⟨fun hb h => h.below hb⟩
def NumRel (w : World) (bx : Array Value) (b : GBT) (v v26 : Value) (wr : World) : Prop :=
  ∃ i : Nat, i ≤ 5 ∧ v26 = .int .i64 (i : Int) ∧ v = .slice (some ⟨w.heap.size + 1 + 1, 16 + 4 * i, none⟩) (1008 - 4 * i) (1008 - 4 * i) ∧ LInv w bx (pad (List.replicate 16 0 ++ numsBytes ((GB.nums b).take i))) wr
def RefRel (w : World) (bx : Array Value) (b : GBT) (v v37 : Value) (wr : World) : Prop :=
  ∃ i o : Nat, i ≤ b.2.2.1.length ∧ (i < 16 → o = 36 + 8 * i) ∧ v37 = .int .i64 (i : Int) ∧ v = .slice (some ⟨w.heap.size + 1 + 1, o, none⟩) (128 - 8 * i) (128 - 8 * i) ∧ LInv w bx (pad (List.replicate 16 0 ++ (GB.head b ++ refsBytes (b.2.2.1.take i)))) wr
set_option maxHeartbeats 2000000 in
set_option maxRecDepth 100000 in
theorem laid_any (k ra rs : Nat) (A B : Option Addr) (c d : Nat) (l : List RefT) (body : List UInt8) (hok : GB.ok ((k : Int), ((ra : Int), (rs : Int), ()), l, body, ()) = true) (w : World) (hr : Refs w A l) (hb : Bytes w B body) :
    Calls Tryz.prog 143 #[.agg #[.int .i64 k, .int .i64 ra, .int .i64 rs, .slice A l.length c, .slice B body.length d]] w fun e w' =>
      e = .returned (.agg ((GB.bytes ((k : Int), ((ra : Int), (rs : Int), ()), l, body, ())).map u8v).toArray) ∧ Below w.heap.size w w' := by
  obtain ⟨⟨k1, k2⟩, hrf, hn, hbl, hall⟩ := GB.ok_spec hok
  obtain ⟨r1, r2, r3, r4⟩ := refOk_spec hrf
  simp only at k1 k2 r1 r2 r3 r4 hn hbl hall
  have HOK := Lib.hid hok
  have HALL := Lib.hid hall
  clear hok hrf hall
  obtain ⟨b, hbd⟩ : ∃ b : GBT, b = ((k : Int), ((ra : Int), (rs : Int), ()), l, body, ()) := ⟨_, rfl⟩
  rw [← hbd] at HOK ⊢
  have HBD := Lib.hid hbd
  clear hbd
  have a1024 := alloc1024
  have hL : LInv w #[.int .i64 k, .int .i64 ra, .int .i64 rs, .slice A l.length c, .slice B body.length d] (pad (List.replicate 16 0 ++ numsBytes ((GB.nums b).take 0))) (((w.alloc (.cells #[.int .i64 k, .int .i64 ra, .int .i64 rs, .slice A l.length c, .slice B body.length d] 116)).alloc (.cells zero1024 210)).alloc (.cells zero1024 210)) := by
    refine ⟨((Blk.new _ _ _).alloc _).alloc _, (Blk.new' _ _ _ (by simp)).alloc _, ?_, (((Below.refl _ _).alloc (Nat.le_refl _) _).alloc (by simp) _).alloc (by simp; omega) _⟩
    have := Blk.new' ((w.alloc (.cells #[.int .i64 k, .int .i64 ra, .int .i64 rs, .slice A l.length c, .slice B body.length d] 116)).alloc (.cells zero1024 210)) 210 zero1024 (n := w.heap.size + 1 + 1) (by simp)
    refine this.sub ?_
    rw [zero1024_list, pad_zero]; simp [numsBytes]
  go_enter Tryz.func143, Tryz.ntmps143
  go_wp2_with fail
  generalize ((w.alloc (.cells #[.int .i64 k, .int .i64 ra, .int .i64 rs, .slice A l.length c, .slice B body.length d] 116)).alloc (.cells zero1024 210)).alloc (.cells zero1024 210) = w1 at hL ⊢
  clear a1024
  go_loopw [4, 26] (fun v v26 wr => NumRel w #[.int .i64 k, .int .i64 ra, .int .i64 rs, .slice A l.length c, .slice B body.length d] b v v26 wr) (fun _ v _ => 5 - (intOf v).toNat)
  case atStart => exact ⟨0, by omega, rfl, rfl, hL⟩
  case round =>
    clear hL
    obtain ⟨i, hi, rfl, rfl, hI⟩ := hrel
    by_cases hlt : i < 5
    · have hstep : ∀ n : Nat, (GB.nums b)[i]? = some n → n < 4294967296 → Calls Tryz.prog 170 #[.slice (some ⟨w.heap.size + 1 + 1, 16 + 4 * i, none⟩) (1008 - 4 * i) (1008 - 4 * i), .int .i64 n] wr fun e w' =>
          e = .returned (.slice (some ⟨w.heap.size + 1 + 1, 16 + 4 * (i + 1), none⟩) (1008 - 4 * (i + 1)) (1008 - 4 * (i + 1))) ∧ LInv w #[.int .i64 k, .int .i64 ra, .int .i64 rs, .slice A l.length c, .slice B body.length d] (pad (List.replicate 16 0 ++ numsBytes ((GB.nums b).take (i + 1)))) w' := by
        intro n hin hn4
        have hil : i < (GB.nums b).length := by simp [GB.nums]; omega
        have hpl : (List.replicate 16 (0 : UInt8) ++ numsBytes ((GB.nums b).take i)).length = 16 + 4 * i := by
          rw [List.length_append, List.length_replicate, numsBytes_length, List.length_take]; omega
        refine (gbFour_any (w.heap.size + 1 + 1) (16 + 4 * i) (1008 - 4 * i) (1008 - 4 * i) n _ _ (by omega) (by rw [pad_length _ (by rw [hpl]; omega)]; omega) hn4 wr hI.raw).mono ?_
        rintro e w' ⟨rfl, hg, hu⟩
        refine ⟨?_, hI.upd hu ?_⟩
        · rw [if_neg (by omega)]
          congr 2
        · refine hg.sub ?_
          congr 2
          have := pad_put (List.replicate 16 (0 : UInt8) ++ numsBytes ((GB.nums b).take i)) n (by rw [hpl]; omega)
          rw [hpl] at this
          rw [this, List.append_assoc, ← numsBytes_snoc, List.take_succ_eq_append_getElem hil]
          congr 4
          rw [List.getElem?_eq_getElem hil] at hin
          simpa using hin.symm
      have HS := Lib.hid hstep
      clear hstep
      have hcase : i = 0 ∨ i = 1 ∨ i = 2 ∨ i = 3 ∨ i = 4 := by omega
      have hi5 := idx5 (.int .i64 k) (.int .i64 ra) (.int .i64 rs) (.int .i64 l.length) (.int .i64 body.length) wr
      rcases hcase with rfl | rfl | rfl | rfl | rfl
      · have i0 := hi5.1
        clear hi5
        go_wp2_with fail
        refine (HS.out k (by rw [HBD.out]; simp [GB.nums]) (by omega)).mono ?_
        rintro e w2 ⟨rfl, hI2⟩
        go_wp2
        exact ⟨⟨1, by omega, rfl, rfl, hI2⟩, by simp [intOf]⟩
      · have i0 := hi5.2.1
        clear hi5
        go_wp2_with fail
        refine (HS.out ra (by rw [HBD.out]; simp [GB.nums]) (by omega)).mono ?_
        rintro e w2 ⟨rfl, hI2⟩
        go_wp2
        exact ⟨⟨2, by omega, rfl, rfl, hI2⟩, by simp [intOf]⟩
      · have i0 := hi5.2.2.1
        clear hi5
        go_wp2_with fail
        refine (HS.out rs (by rw [HBD.out]; simp [GB.nums]) (by omega)).mono ?_
        rintro e w2 ⟨rfl, hI2⟩
        go_wp2
        exact ⟨⟨3, by omega, rfl, rfl, hI2⟩, by simp [intOf]⟩
      · have i0 := hi5.2.2.2.1
        clear hi5
        go_wp2_with fail
        refine (HS.out l.length (by rw [HBD.out]; simp [GB.nums]) (by omega)).mono ?_
        rintro e w2 ⟨rfl, hI2⟩
        go_wp2
        exact ⟨⟨4, by omega, rfl, rfl, hI2⟩, by simp [intOf]⟩
      · have i0 := hi5.2.2.2.2
        clear hi5
        go_wp2_with fail
        refine (HS.out body.length (by rw [HBD.out]; simp [GB.nums]) (by omega)).mono ?_
        rintro e w2 ⟨rfl, hI2⟩
        go_wp2
        exact ⟨⟨5, by omega, rfl, rfl, hI2⟩, by simp [intOf]⟩
    · obtain rfl : i = 5 := by omega
      have hI0 : LInv w #[.int .i64 k, .int .i64 ra, .int .i64 rs, .slice A l.length c, .slice B body.length d] (pad (List.replicate 16 0 ++ (GB.head b ++ refsBytes (b.2.2.1.take 0)))) wr := by
        have e : (GB.nums b).take 5 = GB.nums b := by simp [GB.nums]
        rw [e, GB.head_nums] at hI
        simpa [refsBytes] using hI
      clear hI
      have e221 : Hid (b.2.2.1 = l) := Lib.hid (by rw [HBD.out])
      have e222 : Hid (b.2.2.2.1 = body) := Lib.hid (by rw [HBD.out])
      have dx3 : wr.cell? ⟨w.heap.size, 3, none⟩ = some (.slice A l.length c) := hI0.box.at_ 3 (by simp)
      go_wp2_with fail
      clear dx3
      go_loopw [4, 37] (fun v v37 wr => RefRel w #[.int .i64 k, .int .i64 ra, .int .i64 rs, .slice A l.length c, .slice B body.length d] b v v37 wr) (fun _ v _ => l.length - (intOf v).toNat)
      case atStart => exact ⟨0, 36, by omega, fun _ => rfl, rfl, rfl, hI0⟩
      case round =>
        clear hI0
        obtain ⟨i, o, hi, ho, rfl, rfl, hI⟩ := hrel
        rw [e221.out] at hi
        by_cases hlt : i < l.length
        · obtain rfl : o = 36 + 8 * i := ho (by omega)
          have hrr := Refs.below hr hI.bel
          obtain ⟨rb, roff, rfl, hrb, hcells⟩ := hrr (by omega)
          obtain ⟨d1, d2⟩ := hcells i hlt
          have hri := refOk_spec (HALL.out l[i] (List.getElem_mem hlt))
          obtain ⟨x, hx⟩ : ∃ x : Nat, l[i].1 = (x : Int) := ⟨l[i].1.toNat, by omega⟩
          obtain ⟨y, hy⟩ : ∃ y : Nat, l[i].2.1 = (y : Int) := ⟨l[i].2.1.toNat, by omega⟩
          have HR : Hid (b.2.2.1.take (i + 1) = b.2.2.1.take i ++ [((x : Int), (y : Int), ())]) := Lib.hid (by
            rw [e221.out, List.take_succ_eq_append_getElem hlt, ← hx, ← hy])
          rw [hx] at d1 hri
          rw [hy] at d2 hri
          clear hx hy hcells hrr
          go_wp2_with (first
            | ((with_reducible show wpList _ _ _ ((⟨some 40, _, _, _, _, _⟩ : Oper) :: _) _ _); refine wpList_load_mid (o := ⟨some 40, _, _, _, _, _⟩) (range2 (b := rb) (off := roff + i * 2) (u := .int .i64 x) (v := .int .i64 y) (d1) (d2)) (by rfl) _ _ (by rfl) (by rfl) _ Tryz.underlying113 (by rfl) size_ref (by rfl) ?_)
            | fail)
          have hgr := Blk.new wr 113 #[.int .i64 x, .int .i64 y]
          have hI4 : LInv w #[.int .i64 k, .int .i64 ra, .int .i64 rs, .slice (some ⟨rb, roff, none⟩) l.length c, .slice B body.length d] (pad (List.replicate 16 0 ++ (GB.head b ++ refsBytes (b.2.2.1.take i)))) (wr.alloc (.cells #[.int .i64 x, .int .i64 y] 113)) := hI.below ((Below.refl _ _).alloc (Nat.le_refl _) _)
          have hne : w.heap.size + 1 + 1 ≠ wr.heap.size := by have := hI.raw.lt; omega
          generalize wr.alloc (.cells #[.int .i64 x, .int .i64 y] 113) = w4 at hgr hI4 ⊢
          generalize wr.heap.size = gr at hgr hne ⊢
          clear d1 d2 hrb hI ho
          have hpl : (List.replicate 16 (0 : UInt8) ++ (GB.head b ++ refsBytes (b.2.2.1.take i))).length = 36 + 8 * i := by
            rw [List.length_append, List.length_replicate, List.length_append, GB.head_length, refsBytes_length, List.length_take, e221.out]; omega
          refine wp_region_plan (fun w' => Blk w' gr 113 #[.int .i64 x, .int .i64 y]) [] [(true, 0), (true, 1), (true, 4), (true, 2), (true, 5), (false, 3), (false, 6), (false, 7)] (by kernel_rfl) (by kernel_rfl) (fun c a a' w h q => ⟨h ▸ q.1, q.2⟩) hgr.drew ?_
          refine wpPlan_pure [0, 1, 4] [(true, 2), (true, 5), (false, 3), (false, 6), (false, 7)] _ (by rfl) (by rfl) ?_
          dsimp only [List.filterMap, List.getElem?_cons_zero, List.getElem?_cons_succ]
          repeat (go_big_quiet_step (fail))
          refine wpQuiet_nil ?_
          refine wpPlan_takeL [2, 5] [(false, 3), (false, 6), (false, 7)] _ (by rfl) (by rfl) hgr.drew ?_
          dsimp only [List.filterMap, List.getElem?_cons_zero, List.getElem?_cons_succ]
          (refine wpQuiet_load_cell (fun w' hw' => Blk.at_ (v := .int .i64 x) hw' 0 (by simp)) (by rfl) _ _ (by rfl) (by rfl) _ Tryz.underlying3 (by rfl) ?_; simp only [Act.put, List.setIfInBounds_toArray, List.set_cons_zero, List.set_cons_succ])
          (refine wpQuiet_load_cell (fun w' hw' => Blk.at_ (v := .int .i64 y) hw' 1 (by simp)) (by rfl) _ _ (by rfl) (by rfl) _ Tryz.underlying3 (by rfl) ?_; simp only [Act.put, List.setIfInBounds_toArray, List.set_cons_zero, List.set_cons_succ])
          refine wpQuiet_nil ?_
          refine wpPlan_forceL _ rfl ?_
          go_wp2_with fail
          refine (gbFour_any (w.heap.size + 1 + 1) (36 + 8 * i) (128 - 8 * i) (128 - 8 * i) x _ _ (by omega) (by rw [pad_length _ (by rw [hpl]; omega)]; omega) (by omega) w4.drew hI4.drew.raw).mono ?_
          rintro e w5 ⟨rfl, hg5, hu5⟩
          have hpp := pad_put (List.replicate 16 (0 : UInt8) ++ (GB.head b ++ refsBytes (b.2.2.1.take i))) x (by rw [hpl]; omega)
          rw [hpl] at hpp
          rw [hpp] at hg5
          have hI5 := hI4.drew.upd hu5 hg5
          have hgr5 := hgr.drew.upd hu5 (Ne.symm hne)
          clear hg5 hu5 hI4 hgr hpp
          rw [if_neg (by omega)]
          go_wp2_with fail
          refine PlanQ.in_ hgr5 ?_
          refine wpPlan_forceL _ rfl ?_
          have hpl5 : (List.replicate 16 (0 : UInt8) ++ (GB.head b ++ refsBytes (b.2.2.1.take i)) ++ le4 x).length = 36 + 8 * i + 4 := by
            rw [List.length_append, hpl, le4_length]
          go_wp2_with fail
          refine (gbFour_any (w.heap.size + 1 + 1) (36 + 8 * i + 4) (128 - 8 * i - 4) (128 - 8 * i - 4) y _ _ (by omega) (by rw [pad_length _ (by rw [hpl5]; omega)]; omega) (by omega) w5 hI5.raw).mono ?_
          rintro e w6 ⟨rfl, hg6, hu6⟩
          have hpp := pad_put (List.replicate 16 (0 : UInt8) ++ (GB.head b ++ refsBytes (b.2.2.1.take i)) ++ le4 x) y (by rw [hpl5]; omega)
          rw [hpl5] at hpp
          rw [hpp] at hg6
          have hI6 := hI5.upd hu6 hg6
          have hgr6 := hgr5.upd hu6 (Ne.symm hne)
          clear hg6 hu6 hI5 hgr5 hpp
          have HI6 : Hid (LInv w #[.int .i64 k, .int .i64 ra, .int .i64 rs, .slice (some ⟨rb, roff, none⟩) l.length c, .slice B body.length d] (pad (List.replicate 16 0 ++ (GB.head b ++ refsBytes (b.2.2.1.take (i + 1))))) w6) := Lib.hid (by
            rw [HR.out, refsBytes_snoc]
            simpa using hI6)
          clear hI6
          obtain ⟨o2, ho2⟩ : ∃ o2, o2 = (if 128 - 8 * i - 4 = 4 then 36 + 8 * i + 4 else 36 + 8 * i + 4 + 4) := ⟨_, rfl⟩
          have HO2 : Hid (i + 1 < 16 → o2 = 36 + 8 * (i + 1)) := Lib.hid (fun h => by rw [ho2, if_neg (by omega)]; omega)
          rw [← ho2]
          clear ho2
          have e8 : 128 - 8 * i - 4 - 4 = 128 - 8 * (i + 1) := by omega
          rw [e8]
          clear e8
          go_wp2_with fail
          refine PlanQ.in_ hgr6 ?_
          refine wpPlan_forceL _ rfl ?_
          go_wp2_with fail
          refine PlanQ.in_ hgr6 ?_
          refine wpPlan_nil ?_
          go_wp2
          refine ⟨?_, ?_⟩
          · (repeat apply Exists.intro)
            exact ⟨⟨i + 1, o2, by rw [e221.out]; omega, HO2.out, by go_num, rfl, HI6.out⟩, rfl⟩
          · simp [intOf]; omega
        · obtain rfl : i = l.length := by omega
          have hI7 : LInv w #[.int .i64 k, .int .i64 ra, .int .i64 rs, .slice A l.length c, .slice B body.length d] (pad (List.replicate 16 0 ++ (GB.head b ++ refsBytes l))) wr := by
            rw [e221.out, List.take_length] at hI
            exact hI
          clear hI ho
          have hpl : (List.replicate 16 (0 : UInt8) ++ (GB.head b ++ refsBytes l)).length = 36 + 8 * l.length := by
            rw [List.length_append, List.length_replicate, List.length_append, GB.head_length, refsBytes_length]; omega
          go_wp2_with fail
          refine wp_region_plan (fun w' => Blk w' w.heap.size 116 #[.int .i64 k, .int .i64 ra, .int .i64 rs, .slice A l.length c, .slice B body.length d]) [] [(true, 0), (true, 1), (true, 2), (false, 3)] (by kernel_rfl) (by kernel_rfl) (fun c a a' w h q => ⟨h ▸ q.1, q.2⟩) hI7.box.drew ?_
          refine wpPlan_pure [0, 1] [(true, 2), (false, 3)] _ (by rfl) (by rfl) ?_
          dsimp only [List.filterMap, List.getElem?_cons_zero, List.getElem?_cons_succ]
          repeat (go_big_quiet_step (fail))
          refine wpQuiet_nil ?_
          refine wpPlan_takeL [2] [(false, 3)] _ (by rfl) (by rfl) hI7.box.drew ?_
          dsimp only [List.filterMap, List.getElem?_cons_zero, List.getElem?_cons_succ]
          (refine wpQuiet_load_cell (fun w' hw' => Blk.at_ (v := .slice B body.length d) hw' 4 (by simp)) (by rfl) _ _ (by rfl) (by rfl) _ Tryz.underlying39 (by rfl) ?_; simp only [Act.put, List.setIfInBounds_toArray, List.set_cons_zero, List.set_cons_succ])
          refine wpQuiet_nil ?_
          refine wpPlan_forceL _ rfl ?_
          have hbb := Bytes.below hb hI7.drew.bel
          have hI7' := hI7.drew
          clear hI7
          refine wpList_copy_at (by rfl) _ _ _ _ (by rfl) 5 Tryz.underlying39 size1 (w.heap.size + 1 + 1) 164 860 860 B body.length d (by rfl) (by rfl) _ body _ hI7'.raw rfl hbb (by rw [pad_length _ (by rw [hpl]; omega)]; omega) hbl ?_
          intro w5 hg5 hu5
          have hI5 := hI7'.upd hu5 hg5
          clear hg5 hu5 hI7' hbb
          refine wpList_nil ?_
          refine PlanQ.in_ hI5.box ?_
          refine wpPlan_nil ?_
          simp only [Act.put, List.setIfInBounds_toArray, List.set_cons_zero, List.set_cons_succ]
          have hB5 : Hid ((List.replicate 16 (0 : UInt8) ++ GB.rest b).length = 1024 ∧ LInv w #[.int .i64 k, .int .i64 ra, .int .i64 rs, .slice A l.length c, .slice B body.length d] (List.replicate 16 0 ++ GB.rest b) w5) := Lib.hid (by
            have hlen := GB.rest_length b (by rw [e221.out]; omega) (by rw [e222.out]; omega)
            refine ⟨by rw [List.length_append, hlen]; rfl, ?_⟩
            have e : (pad (List.replicate 16 0 ++ (GB.head b ++ refsBytes l))).take 164 ++ (body ++ (pad (List.replicate 16 0 ++ (GB.head b ++ refsBytes l))).drop (164 + body.length)) = List.replicate 16 0 ++ GB.rest b := by
              unfold pad GB.rest GB.tail
              rw [e221.out, e222.out, hpl]
              rw [List.take_append, List.take_of_length_le (by rw [hpl]; omega), List.take_replicate, List.drop_append, List.drop_of_length_le (by rw [hpl]; omega), List.drop_replicate, hpl]
              simp only [List.append_assoc, List.nil_append]
              congr 4
              · congr 1; omega
              · congr 2; omega
            rw [e] at hI5; exact hI5)
          clear hI5
          obtain ⟨hlen5, hI5⟩ := hB5.out
          clear hB5 hpl hi hlt hb hr
          have hLr : Bytes w5 (some ⟨w.heap.size + 1 + 1, 16, none⟩) (GB.rest b) := by
            have h := hI5.raw.bytes.drop (k := 16) (cap := 1024) (.inl (by omega))
            have e : (List.replicate 16 (0 : UInt8) ++ GB.rest b).drop 16 = GB.rest b := by
              conv => lhs; lhs; rw [show 16 = (List.replicate 16 (0 : UInt8)).length from rfl]
              exact List.drop_left ..
            rw [e] at h
            simpa [Addr.add_lit] using h
          have hl8 : (GB.rest b).length = 1008 := by rw [List.length_append, List.length_replicate] at hlen5; omega
          have HL8 := Lib.hid hl8
          have HL5 := Lib.hid hlen5
          clear hl8 hlen5
          go_wp2_with fail
          rw [show (1008 : Nat) = (GB.rest b).length from HL8.out.symm]
          refine (sum_any (some ⟨w.heap.size + 1 + 1, 16, none⟩) (GB.rest b).length (GB.rest b) (Nat.le_refl _) (by rw [HL8.out]; omega) w5 hLr).mono ?_
          rintro e w6 ⟨rfl, hbx⟩
          (replace hI5 := keep hbx hI5; clear hbx hLr)
          have hs16 := Sha.sum_length (GB.rest b)
          have HSS : Hid (GB.bytes b = Sha.sum (GB.rest b) ++ GB.rest b) := Lib.hid rfl
          obtain ⟨S, hS⟩ : ∃ S, S = Sha.sum (GB.rest b) := ⟨_, rfl⟩
          rw [← hS] at hs16 HSS ⊢
          clear hS
          have a16 := alloc16
          go_wp2_with (first
            | ((with_reducible show wpList _ _ _ ((⟨none, _, _, _, _, _⟩ : Oper) :: _) _ _); refine wpList_store_blk (o := ⟨none, _, _, _, _, _⟩) (Blk.new w6 150 zero16) (by rfl) _ _ _ (by rfl) (by rfl) (S.map u8v).toArray (by rfl) size16 (arr_size _ _) (by simp [hs16]) (u8_all _) ?_; intro w7 h7 hux; have hbx := ((Below.refl _ _).alloc (Nat.le_refl _) (.cells zero16 150)).upd hux (Nat.le_refl w6.heap.size); replace hI5 := keep hbx hI5; clear hux hbx)
            | fail)
          simp only [Act.put]
          have hne : w.heap.size + 1 + 1 ≠ w6.heap.size := fun e => by
            have h1 : Blk w7 w6.heap.size 210 _ := e ▸ hI5.raw
            have h2 := h1.symm.trans h7
            simp at h2
          refine wp_region_plan (fun w' => w' = w7.drew) [2] [(true, 0), (true, 1), (false, 2)] (by kernel_rfl) (by kernel_rfl) (fun c a a' w h q => ⟨h ▸ q.1, q.2⟩) rfl ?_
          refine wpPlan_pure [0, 1] [(false, 2)] _ (by rfl) (by rfl) ?_
          dsimp only [List.filterMap, List.getElem?_cons_zero, List.getElem?_cons_succ]
          repeat (go_big_quiet_step (fail))
          refine wpQuiet_nil ?_
          refine wpPlan_forceL _ rfl ?_
          refine wpList_copy_at (by rfl) _ _ _ _ (by rfl) 5 Tryz.underlying39 size1 (w.heap.size + 1 + 1) 0 1024 1024 (some ⟨w6.heap.size, 0, none⟩) 16 16 (by rfl) (by rfl) _ S _ hI5.drew.raw hs16 h7.drew.bytes (by rw [HL5.out, hs16]; omega) (by omega) ?_
          intro w8 hg8 hu8
          have hI8 := hI5.drew.upd hu8 hg8
          clear hg8 hu8 hI5 h7
          refine wpList_nil ?_
          refine PlanQ.out (by rfl) ?_
          refine wpPlan_nil ?_
          simp only [Act.put, List.setIfInBounds_toArray, List.set_cons_zero, List.set_cons_succ]
          have HI8 : LInv w #[.int .i64 k, .int .i64 ra, .int .i64 rs, .slice A l.length c, .slice B body.length d] (GB.bytes b) w8 := by
            have e : (List.replicate 16 (0 : UInt8) ++ GB.rest b).take 0 ++ (S ++ (List.replicate 16 (0 : UInt8) ++ GB.rest b).drop (0 + S.length)) = GB.bytes b := by
              rw [HSS.out, List.take_zero, List.nil_append, Nat.zero_add, hs16]
              congr 1
            rw [e] at hI8; exact hI8
          have HLB : Hid ((GB.bytes b).length = 1024) := Lib.hid (by rw [HSS.out, List.length_append, hs16, HL8.out])
          clear hI8
          go_wp2_with (first
            | (show wpList _ _ _ ((⟨some 58, _, _, _, _, _⟩ : Oper) :: _) _ _; refine wpList_load_blk (o := ⟨some 58, _, _, _, _, _⟩) HI8.raw (by rfl) _ _ (by rfl) (by rfl) _ Tryz.underlying210 (by rfl) size1024 (by simpa using HLB.out) ?_)
            | (show wpList _ _ _ ((⟨none, _, _, _, _, _⟩ : Oper) :: _) _ _; refine wpList_store_blk (o := ⟨none, _, _, _, _, _⟩) HI8.res (by rfl) _ _ _ (by rfl) (by rfl) ((GB.bytes b).map u8v).toArray (by rfl) size1024 (arr_size _ _) (by simpa using HLB.out) (u8_all _) ?_; intro w9 h9 hu9)
            | fail)
          refine bodyPost_ret (results_cell_row (by rfl) _ _ _ _ _ _ _ (by rfl) h9 Tryz.underlying210 (by rfl) (by rw [size1024]; simpa using HLB.out.symm)) rfl ⟨rfl, HI8.bel.upd hu9 (by omega)⟩
end Proofs.YtfoegmjpfkmggaaGreatDoor
end Go

/- Comparisons, guarded operations and picks in a region that draws its order. Plain facts over any program. No condition. -/
namespace Go
open Go.RowKit
section
variable {P : Program} {ops : Array Oper} {C : World → Prop} {Q : Act → Prop} {rest : List Oper} {a : Act}
theorem wpQuiet_want' {dst : Option Tmp} {op : Op} {ty : TypeId} {pos : String} {af : Array Edge} {g : Option (Nat × Bool)}
    (hw : Region.wanted ⟨dst, op, ty, pos, af, g⟩ (yielded ops a.tmps) = true) (h : wpQuiet P ops C Q (⟨dst, op, ty, pos, af, none⟩ :: rest) a) : wpQuiet P ops C Q (⟨dst, op, ty, pos, af, g⟩ :: rest) a := by
  unfold wpQuiet at h ⊢
  rw [if_pos hw]
  rw [if_pos (by simp [Region.wanted])] at h
  exact h
end
end Go

/- A block's bytes told, and read, by the program. Conditions: the lists can be read. -/
namespace Go
open Go.RowKit
/-- Arrays of bytes compared, where they are asked to differ. -/
theorem wpQuiet_neq_bytesG {P : Program} {ops : Array Oper} {C : World → Prop} {Q : Act → Prop} {rest : List Oper} {a : Act} {o : Oper} (hgd : o.guard = none) (t e r : TypeId) (x y : Operand) (ho : o.op = .binOp .neq t x y r) (n : Nat)
    (ht : P.underlying t = some (.array n e)) (he : P.underlying e = some (.int .u8)) (hsz : (P.info? e).map (·.size) = some 1) (hm : P.eqGuardType P.depth t = false)
    (l l' : List UInt8) (hx : a.eval x = .agg (l.map u8v).toArray) (hy : a.eval y = .agg (l'.map u8v).toArray) (hl : l.length = n) (hl' : l'.length = n) (b : Bool) (hbb : b = !decide (l = l'))
    (h : wpQuiet P ops C Q rest (a.put o.dst (.bool b))) : wpQuiet P ops C Q (o :: rest) a := by
  subst hbb
  refine wpQuiet_step fun K hK => ?_
  rw [if_pos (by simp [Region.wanted, hgd])]
  refine ⟨_, fun w hw => ?_, hK _ h⟩
  obtain ⟨i, hi, hs⟩ := Option.map_eq_some_iff.1 hsz
  have hsz' : ∀ w, (sizeOf e).run P w = .ok 1 w := fun w => by simp [sizeOf, typeInfo, hi, hs]
  have h1 := run_eql_bytes (P := P) w t e n ht he hsz' l l' hl hl'
  rw [u8v_cell] at h1
  have h2 : (l == l') = decide (l = l') := by by_cases h : l = l' <;> simp [h]
  rw [h2] at h1
  have h3 : (binOp .neq t (.agg (l.map u8v).toArray) (.agg (l'.map u8v).toArray)).run P w = .ok (.bool (!decide (l = l'))) w := by
    simp only [binOp, Sem.run_bind] at h1 ⊢
    generalize (Op.equal t (.agg (l.map u8v).toArray) (.agg (l'.map u8v).toArray)).run P w = r at h1 ⊢
    cases r with
    | ok v w' => simp only [Result.andThen_ok, Sem.run_pure, Result.ok.injEq, Value.bool.injEq] at h1 ⊢; exact ⟨by rw [h1.1], h1.2⟩
    | halt v w' => simp [Result.andThen] at h1
  unfold Oper.quietAt execOp
  simp only [ho, hx, hy, Sem.run_bind, run_eqGuard_agg w .neq t x y _ _ hm, h3, Result.andThen_ok, Sem.run_pure]
  exact ⟨rfl, rfl⟩
theorem wpList_append_allG {P : Program} {w : World} {Q : Exit → Act → World → Prop} {ops : Array Oper} {rest : List Oper} {o : Oper} {a : Act} (hgd : o.guard = none) (s x : Operand) (t : TypeId)
    (ho : o.op = .call { callee := .builtin .append, args := #[s, x], argTypes := #[t, t] })
    (base : Nat) (e : TypeId) (z : Value) (size bytes : Nat) (ht : P.underlying t = some (.slice e)) (hi : (P.info? e).map (fun i => (i.zero, i.size, i.bytes)) = some (some z, size, bytes)) (hzs : z.cells.size = size) (hsz : 0 < size)
    (v : Value) (n : Nat) (xs sp : List Value) (hs : a.eval s = v) (hown : OwnsC e size w base v n xs sp)
    (A : Option Addr) (m c : Nat) (news : List Value) (hx : a.eval x = .slice A m c) (hl : news.length = m * size) (hr : Reads w A news) (h1 : ∀ u ∈ news, u.oneCell' = true)
    (h63 : n + m ≤ maxLen) (hbytes : (n + m) * bytes ≤ 140737488355328) (hbase : base ≤ w.heap.size)
    (h : ∀ v' w' sp', OwnsC e size w' base v' (n + m) (xs ++ news) sp' → w.grownBy w' v.ownBlock → wpList P ops Q rest (a.put o.dst v') w') : wpList P ops Q (o :: rest) a w :=
  wpList_plain hgd fun _ hK => wp_append_all s x t ho base e z size bytes ht hi hzs hsz v n xs sp hs hown A m c news hx hl hr h1 h63 hbytes hbase fun v' w' sp' h2 h3 _ _ _ => hK _ _ (h v' w' sp' h2 h3)
namespace Proofs.YtfoegmjpfkmggaaGreatDoor
def refCells (l : List RefT) : List Value := l.flatMap fun r => [.int .i64 r.1, .int .i64 r.2.1]
theorem refCells_length (l : List RefT) : (refCells l).length = l.length * 2 := by
  induction l with
  | nil => rfl
  | cons r l ih => unfold refCells at *; rw [List.flatMap_cons, List.length_append, ih]; simp; omega
theorem refCells_at (l : List RefT) : ∀ i, (h : i < l.length) → (refCells l)[i * 2]? = some (.int .i64 l[i].1) ∧ (refCells l)[i * 2 + 1]? = some (.int .i64 l[i].2.1) := by
  induction l with
  | nil => intro i h; simp at h
  | cons r l ih =>
    intro i h
    have e : refCells (r :: l) = .int .i64 r.1 :: .int .i64 r.2.1 :: refCells l := rfl
    rw [e]
    cases i with
    | zero => exact ⟨rfl, rfl⟩
    | succ i =>
      obtain ⟨h1, h2⟩ := ih i (by simpa using h)
      rw [show (i + 1) * 2 = i * 2 + 1 + 1 by omega]
      exact ⟨by simpa using h1, by simpa using h2⟩
theorem Refs.of {w : World} {A : Option Addr} {l : List RefT} (h : Reads w A (refCells l)) : Refs w A l := fun hp => by
  have h0 := refCells_at l 0 hp
  obtain ⟨b, off, e, hc⟩ := h (by intro e; rw [e] at h0; simp at h0)
  refine ⟨b, off, e, World.block_lt_of_cell? w _ (hc 0 _ h0.1), fun i hi => ?_⟩
  obtain ⟨h1, h2⟩ := refCells_at l i hi
  exact ⟨hc _ _ h1, by rw [Nat.add_assoc]; exact hc _ _ h2⟩
theorem Refs.reads {w : World} {A : Option Addr} {l : List RefT} (h : Refs w A l) : Reads w A (refCells l) := fun hn => by
  have hp : 0 < l.length := by
    rcases Nat.eq_zero_or_pos l.length with h0 | h0
    · rw [List.eq_nil_of_length_eq_zero h0] at hn; exact absurd rfl hn
    · exact h0
  obtain ⟨b, off, e, _, hc⟩ := h hp
  refine ⟨b, off, e, fun j v hv => ?_⟩
  have hj : j < (refCells l).length := by
    rcases Nat.lt_or_ge j (refCells l).length with h1 | h1
    · exact h1
    · rw [List.getElem?_eq_none h1] at hv; cases hv
  rw [refCells_length] at hj
  obtain ⟨h1, h2⟩ := refCells_at l (j / 2) (by omega)
  obtain ⟨c1, c2⟩ := hc (j / 2) (by omega)
  have hj2 : j = j / 2 * 2 ∨ j = j / 2 * 2 + 1 := by omega
  rcases hj2 with hh | hh
  · rw [hh] at hv ⊢; rw [h1] at hv; cases hv; exact c1
  · rw [hh] at hv ⊢; rw [h2] at hv; cases hv; rw [← Nat.add_assoc]; exact c2
theorem refCells_one (l : List RefT) : ∀ u ∈ refCells l, u.oneCell' = true := fun u hu => by
  unfold refCells at hu
  simp only [List.mem_flatMap] at hu
  obtain ⟨r, _, hr⟩ := hu
  simp at hr
  rcases hr with rfl | rfl <;> rfl
theorem sizeGB : (Tryz.prog.info? 116).map (·.size) = some 5 := by kernel_rfl
theorem bytes_ok (k ra rs : Int) (A B : Option Addr) (c d : Nat) (l : List RefT) (body : List UInt8) (hok : GB.ok (k, (ra, rs, ()), l, body, ()) = true) (w : World) (hr : Refs w A l) (hb : Bytes w B body) :
    Calls Tryz.prog 148 #[.agg #[.int .i64 k, .int .i64 ra, .int .i64 rs, .slice A l.length c, .slice B body.length d]] w fun e w' => ∃ g, e = .returned (.tuple #[.slice (some ⟨g, 0, none⟩) 1024 1024, .int .i64 0]) ∧
      w.heap.size ≤ g ∧ Blk w' g 210 ((GB.bytes (k, (ra, rs, ()), l, body, ())).map u8v).toArray ∧ Below w.heap.size w w' := by
  obtain ⟨⟨k1, k2⟩, hrf, hn, hbl, hall⟩ := GB.ok_spec hok
  obtain ⟨r1, r2, r3, r4⟩ := refOk_spec hrf
  simp only at k1 k2 r1 r2 r3 r4 hn hbl
  clear hrf hall
  obtain ⟨k, rfl⟩ := Int.eq_ofNat_of_zero_le (show 0 ≤ k by omega)
  obtain ⟨ra, rfl⟩ := Int.eq_ofNat_of_zero_le (show 0 ≤ ra by omega)
  obtain ⟨rs, rfl⟩ := Int.eq_ofNat_of_zero_le r3
  have hlen := GB.bytes_length ((k : Int), ((ra : Int), (rs : Int), ()), l, body, ()) hn hbl
  have HOK := Lib.hid hok
  clear hok
  have hg := Blk.new w 116 #[.int .i64 k, .int .i64 ra, .int .i64 rs, .slice A l.length c, .slice B body.length d]
  have hB : Below w.heap.size w (w.alloc (.cells #[.int .i64 k, .int .i64 ra, .int .i64 rs, .slice A l.length c, .slice B body.length d] 116)) := (Below.refl _ _).alloc (Nat.le_refl _) _
  have a1024 := alloc1024
  generalize hL : GB.bytes ((k : Int), ((ra : Int), (rs : Int), ()), l, body, ()) = L at hlen ⊢
  have HL := Lib.hid hL
  clear hL
  go_enter Tryz.func148, Tryz.ntmps148
  go_wp2_with fail
  generalize w.alloc (.cells #[.int .i64 k, .int .i64 ra, .int .i64 rs, .slice A l.length c, .slice B body.length d] 116) = w1 at hg hB ⊢
  replace hr := Refs.below hr hB
  replace hb := Bytes.below hb hB
  refine (check_any k ra rs A B c d l body (by omega) (by omega) w1 hr).mono ?_
  rintro e w2 ⟨rfl, hbx⟩
  (replace hr := keep hbx hr; replace hb := keep hbx hb; replace hg := keep hbx hg; replace hB := hB.trans (hbx.mono hB.size); clear hbx)
  rw [GB.code_ok HOK.out]
  go_wp2_with (first
    | (show wpList _ _ _ ((⟨some 11, _, _, _, _, _⟩ : Oper) :: _) _ _; refine wpList_load_blk (o := ⟨some 11, _, _, _, _, _⟩) hg (by rfl) _ _ (by rfl) (by rfl) _ Tryz.underlying116 (by rfl) sizeGB (by simp) ?_)
    | fail)
  refine (laid_any k ra rs A B c d l body HOK.out w2 hr hb).mono ?_
  rintro e w3 ⟨rfl, hbx⟩
  (replace hB := hB.trans (hbx.mono hB.size); clear hbx hg)
  rw [HL.out]
  go_wp2_with (first
    | (show wpList _ _ _ ((⟨none, _, _, _, _, _⟩ : Oper) :: _) _ _; refine wpList_store_blk (o := ⟨none, _, _, _, _, _⟩) (Blk.new w3 210 zero1024) (by rfl) _ _ _ (by rfl) (by rfl) (L.map u8v).toArray (by rfl) size1024 (arr_size _ _) (by simpa using hlen) (u8_all _) ?_; intro w4 h4 hu4; have hB4 := (hB.alloc hB.size (.cells zero1024 210)).upd hu4 hB.size)
    | fail)
  go_ret2
  exact ⟨w3.heap.size, rfl, hB.size, h4, hB4⟩
end Proofs.YtfoegmjpfkmggaaGreatDoor
end Go

/- What a call hands back whose first result lies in a block; reads over an Upd step. Plain facts over any program. No condition. -/
namespace Go
open Go.RowKit
theorem Bytes.range {w : World} {b off : Nat} {l : List UInt8} (h : Bytes w (some ⟨b, off, none⟩) l) : w.rangeAt b off (l.map u8v) := fun j v hv => by
  have hne : l.map u8v ≠ [] := by intro e; rw [e] at hv; simp at hv
  obtain ⟨b', off', e, hc⟩ := h hne
  simp only [Option.some.injEq, Addr.mk.injEq, and_true] at e
  rw [e.1, e.2]; exact hc j v hv
theorem Upd.cell {g : Nat} {w w' : World} (u : Upd g w w') {p : Addr} (hp : p.block ≠ g) : w'.cell? p = w.cell? p := by
  unfold World.cell?
  rw [u.block p.block hp]
theorem Reads.upd {g : Nat} {w w' : World} {A : Option Addr} {xs : List Value} (h : Reads w A xs) (u : Upd g w w') (hA : ∀ ad, A = some ad → ad.block ≠ g) : Reads w' A xs := fun hn => by
  obtain ⟨b, off, rfl, hc⟩ := h hn
  exact ⟨b, off, rfl, fun j v hv => (u.cell (p := ⟨b, off + j, none⟩) (hA ⟨b, off, none⟩ rfl)).trans (hc j v hv)⟩
theorem results_row_tmp {P : Program} {fn : Func} {p q : Tmp} {ty : TypeId} (h : fn.results = #[.cell p ty, .tmp q]) (tmps : Array Value) (w : World) (g : Nat) (t : TypeId) (cs : Array Value) (d : TypeDesc)
    (hp : tmps.getD p undef = .pointer (some ⟨g, 0, none⟩)) (hg : Blk w g t cs)
    (hu : P.underlying ty = some d) (hd : (match d with | .struct _ | .array _ _ => true | _ => false) = true) (hi : (P.info? ty).map (·.size) = some cs.size) :
    (results fn tmps).run P w = .ok (.tuple #[.agg cs, tmps.getD q undef]) w := by
  have hp' : tmps[p]?.getD undef = .pointer (some ⟨g, 0, none⟩) := by simpa using hp
  simp [results, h, hp', asAddr, run_loadVar_row w g t ty cs (0, 0) d hg hu hd hi]
end Go

/- A block's bytes read, by the program. Condition: the bytes can be read. -/
namespace Go
open Go.RowKit
namespace Proofs.YtfoegmjpfkmggaaGreatDoor
open Go.RowKit
/-- What is told of a block that was read. -/
def ReadPost (b : GBT) (code : Int) (w : World) (e : Ending) (w' : World) : Prop :=
  ∃ A2 c2 B2 d2, e = .returned (.tuple #[.agg #[.int .i64 b.1, .int .i64 b.2.1.1, .int .i64 b.2.1.2.1, .slice A2 b.2.2.1.length c2, .slice B2 b.2.2.2.1.length d2], .int .i64 code]) ∧
    Refs w' A2 b.2.2.1 ∧ Bytes w' B2 b.2.2.2.1 ∧ b.2.2.1.length ≤ c2 ∧ b.2.2.2.1.length ≤ d2 ∧ d2 ≤ 9223372036854775807 ∧ Below w.heap.size w w' ∧ (∀ ad, A2 = some ad → w.heap.size ≤ ad.block) ∧ ∀ ad, B2 = some ad → w.heap.size ≤ ad.block
theorem ReadPost.none {code : Int} {w w' : World} (hB : Below w.heap.size w w') : ReadPost GB.none_ code w (.returned (.tuple #[.agg #[.int .i64 0, .int .i64 0, .int .i64 0, .slice none 0 0, .slice none 0 0], .int .i64 code])) w' :=
  ⟨Option.none, 0, Option.none, 0, rfl, fun h => absurd h (by simp [GB.none_]), Reads.nil _ _, Nat.le_refl _, Nat.le_refl _, by omega, hB, (fun _ e => by cases e), (fun _ e => by cases e)⟩
def zeroGB : Array Value := #[.int .i64 0, .int .i64 0, .int .i64 0, .slice none 0 0, .slice none 0 0]
theorem zeroGB_one : zeroGB.all (·.oneCell') = true := by simp [zeroGB, Value.oneCell']
/-- The refs that bytes say. -/
def refsOf (raw : List UInt8) (M : Nat) : List RefT := (List.range M).map (fun i => ((at4 raw (36 + 8 * i) : Int), (at4 raw (36 + 8 * i + 4) : Int), ()))
theorem refsOf_succ (raw : List UInt8) (i : Nat) : refsOf raw (i + 1) = refsOf raw i ++ [((at4 raw (36 + 8 * i) : Int), (at4 raw (36 + 8 * i + 4) : Int), ())] := by
  unfold refsOf; rw [List.range_succ, List.map_append]; rfl
theorem refsOf_length (raw : List UInt8) (M : Nat) : (refsOf raw M).length = M := by simp [refsOf]
theorem refCells_snoc (l : List RefT) (x y : Int) : refCells (l ++ [(x, y, ())]) = refCells l ++ [.int .i64 x, .int .i64 y] := by unfold refCells; simp
theorem infoRef : (Tryz.prog.info? 113).map (fun i => (i.zero, i.size, i.bytes)) = some (some (.agg #[.int .i64 0, .int .i64 0]), 2, 16) := by kernel_rfl
theorem GB.bytes_iff (P : GBT) (raw : List UInt8) (h : Sha.sum (raw.drop 16) = raw.take 16) : GB.bytes P = raw ↔ GB.rest P = raw.drop 16 := by
  constructor
  · intro e
    rw [← e]
    unfold GB.bytes
    rw [← Sha.sum_len (GB.rest P), List.drop_left]
  · intro e
    unfold GB.bytes
    rw [e, h, List.take_append_drop]
theorem nosel1024 : Tryz.prog.eqGuardType Tryz.prog.depth 210 = false := by kernel_rfl
/-- Ahead of each ref that is read. -/
def ReadRel (w : World) (g0 gb : Nat) (k a s : Int) (raw : List UInt8) (M : Nat) (v : Value) (wr : World) : Prop :=
  ∃ (i : Nat) (v3 : Value) (sp : List Value), i ≤ M ∧ v = .int .i64 (i : Int) ∧ Blk wr g0 116 zeroGB ∧ Blk wr gb 116 #[.int .i64 k, .int .i64 a, .int .i64 s, v3, .slice none 0 0] ∧
    OwnsC 113 2 wr (gb + 1) v3 i (refCells (refsOf raw i)) sp ∧ Below w.heap.size w wr
set_option maxHeartbeats 2000000 in
set_option maxRecDepth 100000 in
theorem gbRead_any (A : Option Addr) (n c : Nat) (raw : List UInt8) (hn : n = raw.length) (hc : n ≤ c) (hc2 : c ≤ 9223372036854775807) (w : World) (hb : Bytes w A raw) :
    Calls Tryz.prog 102 #[.slice A n c] w (ReadPost (GB.read raw).2 (GB.read raw).1 w) := by
  by_cases h1 : n = 1024
  case neg =>
    have hrd : Hid (GB.read raw = (4, GB.none_)) := Lib.hid (by unfold GB.read; rw [if_pos (by omega)])
    rw [hrd.out]
    clear hn
    have H1 : ((n : Int) != 1024) = true := by rw [bne_iff_ne]; omega
    go_enter Tryz.func102, Tryz.ntmps102
    go_wp2
    refine bodyPost_ret (results_row_tmp (by rfl) _ _ w.heap.size _ _ _ (by rfl) (Blk.new _ _ _) Tryz.underlying116 (by rfl) sizeGB) rfl (ReadPost.none ((Below.refl _ _).alloc (Nat.le_refl _) _))
  subst h1
  obtain ⟨b, off, rfl, hbl, hcell⟩ := hb.at_ (by omega)
  have HN : Hid (raw.length = 1024) := Lib.hid hn.symm
  clear hn hcell
  have hg0 := Blk.new w 116 zeroGB
  have hB0 : Below w.heap.size w (w.alloc (.cells zeroGB 116)) := (Below.refl _ _).alloc (Nat.le_refl _) _
  have hc16 : ¬ c = 16 := by omega
  have hb1 := Bytes.below hb hB0
  go_enter Tryz.func102, Tryz.ntmps102
  go_wp2_with fail
  generalize hw1 : w.alloc (.cells #[.int .i64 0, .int .i64 0, .int .i64 0, .slice none 0 0, .slice none 0 0] 116) = w1
  have hw1' : w.alloc (.cells zeroGB 116) = w1 := hw1
  rw [hw1'] at hg0 hB0 hb1
  clear hw1 hw1'
  obtain ⟨g0, hgn⟩ : ∃ g0, g0 = w.heap.size := ⟨_, rfl⟩
  rw [← hgn] at hg0 ⊢
  have HGN := Lib.hid hgn
  clear hgn
  obtain ⟨T, hT⟩ : ∃ T, T = raw.take 16 := ⟨_, rfl⟩
  obtain ⟨D, hD⟩ : ∃ D, D = raw.drop 16 := ⟨_, rfl⟩
  have hTl : T.length = 16 := by rw [hT, List.length_take, HN.out]; rfl
  have hDl : D.length = 1008 := by rw [hD, List.length_drop, HN.out]
  have hbD : Bytes w1 (some ⟨b, off + 16, none⟩) D := by
    have h := hb1.drop (k := 16) (cap := c) (by omega)
    rw [if_neg hc16, ← hD] at h
    simpa [Addr.add_lit] using h
  have hbT : Bytes w1 (some ⟨b, off, none⟩) T := by rw [hT]; exact hb1.take 16
  have HT := Lib.hid hT
  have HD := Lib.hid hD
  have HTl := Lib.hid hTl
  have HDl := Lib.hid hDl
  clear hT hD hTl hDl
  refine wp_region_plan (Below w1.heap.size w1) [] [(true, 0), (true, 1), (true, 2), (true, 3), (true, 4), (true, 5), (false, 6), (false, 7)] (by kernel_rfl) (by kernel_rfl) (fun c a a' w h q => ⟨h ▸ q.1, q.2⟩) (Below.refl _ _).drew ?_
  refine wpPlan_pure [0, 1, 2, 3, 4] [(true, 5), (false, 6), (false, 7)] _ (by rfl) (by rfl) ?_
  dsimp only [List.filterMap, List.getElem?_cons_zero, List.getElem?_cons_succ]
  repeat (go_big_quiet_step (fail))
  refine wpQuiet_array (by rfl) _ _ (by rfl) 16 _ Tryz.underlying150 (some ⟨b, off, none⟩) 16 c (by rfl) (Nat.le_refl _) ?_
  simp only [Act.put, List.setIfInBounds_toArray, List.set_cons_zero, List.set_cons_succ]
  refine wpQuiet_nil ?_
  refine wpPlan_takeL [5] [(false, 6), (false, 7)] _ (by rfl) (by rfl) (Below.refl _ _).drew ?_
  dsimp only [List.filterMap, List.getElem?_cons_zero, List.getElem?_cons_succ]
  refine wpQuiet_load_mid (fun w' hw' => (Bytes.below hbT hw').range) (by rfl) _ _ (by rfl) (by rfl) _ Tryz.underlying150 (by rfl) size16 (by rw [List.length_map]; exact HTl.out) ?_
  simp only [Act.put, List.setIfInBounds_toArray, List.set_cons_zero, List.set_cons_succ]
  refine wpQuiet_nil ?_
  refine wpPlan_forceL _ rfl ?_
  go_wp2_with fail
  refine (right_seal_any (some ⟨b, off + 16, none⟩) 1008 (c - 16) D T HDl.out.symm (by rw [HDl.out]; omega) ⟨by rw [HDl.out]; omega, by omega⟩ HTl.out w1.drew hbD).mono ?_
  rintro e w2 ⟨rfl, hbx⟩
  have hBx : Below w1.heap.size w1 w2 := (Below.refl _ _).drew.trans hbx
  have hb2 := Bytes.below hb1 hBx
  have hg2 := keep hBx hg0
  have hB2 := hB0.trans (hBx.mono hB0.size)
  clear hbx hbD hbT hb1 hg0 hB0
  go_wp2_with fail
  refine PlanQ.in_ hBx ?_
  refine wpPlan_forceL _ rfl ?_
  by_cases hseal : Sha.sum D = T
  case neg =>
    have hrd : Hid (GB.read raw = (12, GB.none_)) := Lib.hid (by
      unfold GB.read
      rw [if_neg (by rw [HN.out]; simp), if_pos (by rw [← HT.out, ← HD.out]; exact hseal)])
    rw [decide_eq_false hseal]
    go_wp2_with fail
    refine PlanQ.in_ hBx ?_
    refine wpPlan_nil ?_
    clear hseal
    go_wp2_with (first
      | ((with_reducible show wpList _ _ _ ((⟨none, _, _, _, _, _⟩ : Oper) :: _) _ _); refine wpList_store_blk (o := ⟨none, _, _, _, _, _⟩) (hg2) (by rfl) _ _ _ (by rfl) (by rfl) (zeroGB) (by rfl) (sizeGB) (by rfl) (by rfl) (by exact zeroGB_one) ?_; intro w3 h3 hu3)
      | fail)
    refine bodyPost_ret (results_row_tmp (by rfl) _ _ g0 _ _ _ (by rfl) h3 Tryz.underlying116 (by rfl) sizeGB) rfl ?_
    rw [hrd.out]
    exact ReadPost.none (hB2.upd hu3 (by rw [HGN.out]; exact Nat.le_refl _))
  rw [decide_eq_true hseal]
  have HSEAL : Hid (Sha.sum (raw.drop 16) = raw.take 16) := Lib.hid (by rw [← HD.out, ← HT.out]; exact hseal)
  go_wp2_with fail
  refine PlanQ.in_ hBx ?_
  refine wpPlan_nil ?_
  clear hseal hBx
  have num : ∀ (p : Nat) (wx : World), p + 4 ≤ 1024 → Bytes wx (some ⟨b, off, none⟩) raw → Calls Tryz.prog 141 #[.slice (some ⟨b, off, none⟩) 1024 c, .int .i64 p] wx fun e w' => e = .returned (.int .i64 (at4 raw p)) ∧ Below wx.heap.size wx w' := fun p wx hp hbx => by
    have := number_any (some ⟨b, off, none⟩) c p raw (by rw [HN.out]; exact hp) (by rw [HN.out]; omega) wx hbx
    rw [HN.out] at this
    exact this
  have NUM := Lib.hid num
  clear num
  go_wp2_with fail
  refine (NUM.out 16 w2 (by omega) hb2).mono ?_
  rintro e w3 ⟨rfl, hbx⟩
  (replace hb2 := keep hbx hb2; replace hg2 := keep hbx hg2; replace hB2 := hB2.trans (hbx.mono hB2.size); clear hbx)
  go_wp2_with fail
  refine (NUM.out 20 w3 (by omega) hb2).mono ?_
  rintro e w4 ⟨rfl, hbx⟩
  (replace hb2 := keep hbx hb2; replace hg2 := keep hbx hg2; replace hB2 := hB2.trans (hbx.mono hB2.size); clear hbx)
  go_wp2_with fail
  refine (NUM.out 24 w4 (by omega) hb2).mono ?_
  rintro e w5 ⟨rfl, hbx⟩
  (replace hb2 := keep hbx hb2; replace hg2 := keep hbx hg2; replace hB2 := hB2.trans (hbx.mono hB2.size); clear hbx)
  go_wp2_with fail
  have hbx := (Below.refl w5.heap.size w5).alloc (Nat.le_refl _) (.cells #[.int .i64 (at4 raw 16), .int .i64 (at4 raw 20), .int .i64 (at4 raw 24), .slice none 0 0, .slice none 0 0] 116)
  have hgb := Blk.new w5 116 #[.int .i64 (at4 raw 16), .int .i64 (at4 raw 20), .int .i64 (at4 raw 24), .slice none 0 0, .slice none 0 0]
  have hgne : g0 < w5.heap.size := hg2.lt
  generalize w5.alloc (.cells #[.int .i64 (at4 raw 16), .int .i64 (at4 raw 20), .int .i64 (at4 raw 24), .slice none 0 0, .slice none 0 0] 116) = w6 at hbx hgb ⊢
  have hgw : w.heap.size ≤ w5.heap.size := hB2.size
  (replace hb2 := keep hbx hb2; replace hg2 := keep hbx hg2; replace hB2 := hB2.trans (hbx.mono hB2.size); clear hbx)
  generalize w5.heap.size = gb at hgne hgw hgb ⊢
  refine (NUM.out 28 w6 (by omega) hb2).mono ?_
  rintro e w7 ⟨rfl, hbx⟩
  (replace hb2 := keep hbx hb2; replace hg2 := keep hbx hg2; replace hgb := keep hbx hgb; replace hB2 := hB2.trans (hbx.mono hB2.size); clear hbx)
  go_wp2_with fail
  refine (NUM.out 32 w7 (by omega) hb2).mono ?_
  rintro e w8 ⟨rfl, hbx⟩
  (replace hb2 := keep hbx hb2; replace hg2 := keep hbx hg2; replace hgb := keep hbx hgb; replace hB2 := hB2.trans (hbx.mono hB2.size); clear hbx)
  have hm := at4_lt raw 28
  have hz := at4_lt raw 32
  obtain ⟨M, hM⟩ : ∃ M, M = at4 raw 28 := ⟨_, rfl⟩
  obtain ⟨Z, hZ⟩ : ∃ Z, Z = at4 raw 32 := ⟨_, rfl⟩
  rw [← hM] at hm ⊢
  rw [← hZ] at hz ⊢
  have HM := Lib.hid hM
  have HZ := Lib.hid hZ
  clear hM hZ
  by_cases hbig : 16 < M ∨ 860 < Z
  case pos =>
    have hrd : Hid (GB.read raw = (4, GB.none_)) := Lib.hid (by
      unfold GB.read
      rw [if_neg (by rw [HN.out]; simp), if_neg (by rw [HSEAL.out]; simp), ← HM.out, ← HZ.out, if_pos hbig])
    by_cases hM16 : 16 < M
    all_goals
      go_wp2_with (first
        | ((with_reducible show wpList _ _ _ ((⟨none, _, _, _, _, _⟩ : Oper) :: _) _ _); refine wpList_store_blk (o := ⟨none, _, _, _, _, _⟩) (hg2) (by rfl) _ _ _ (by rfl) (by rfl) (zeroGB) (by rfl) (sizeGB) (by rfl) (by rfl) (by exact zeroGB_one) ?_; intro w3 h3 hu3)
        | fail)
      refine bodyPost_ret (results_row_tmp (by rfl) _ _ g0 _ _ _ (by rfl) h3 Tryz.underlying116 (by rfl) sizeGB) rfl ?_
      rw [hrd.out]
      exact ReadPost.none (hB2.upd hu3 (by rw [HGN.out]; exact Nat.le_refl _))
  have hM16 : ¬ 16 < M := fun h => hbig (.inl h)
  have hZ16 : ¬ 860 < Z := fun h => hbig (.inr h)
  clear hbig
  go_wp2_with fail
  go_loopw [41] (fun v wr => ReadRel w g0 gb (at4 raw 16) (at4 raw 20) (at4 raw 24) raw M v wr) (fun v _ => M - (intOf v).toNat)
  case atStart => exact ⟨0, _, [], by omega, rfl, hg2, hgb, OwnsC.nil _ _ _ _, hB2⟩
  case round =>
    clear hg2 hgb hb2 hB2
    obtain ⟨i, v3, sp, hi, rfl, hg2, hgb, hown, hBr⟩ := hrel
    have hbr := Bytes.below hb hBr
    have hgl := hgb.lt
    by_cases hlt : i < M
    · go_wp2_with fail
      refine wp_region_plan (fun w' => Blk w' gb 116 #[.int .i64 (at4 raw 16), .int .i64 (at4 raw 20), .int .i64 (at4 raw 24), v3, .slice none 0 0]) [17]
        [(true, 0), (true, 2), (true, 3), (true, 4), (true, 5), (true, 7), (true, 8), (true, 9), (true, 10), (true, 11), (true, 1), (false, 6), (false, 12), (true, 13), (false, 14), (false, 15), (true, 16), (false, 17)] (by kernel_rfl) (by kernel_rfl) (fun c a a' w h q => ⟨h ▸ q.1, q.2⟩) hgb.drew ?_
      refine wpPlan_pure [0, 2, 3, 4, 5, 7, 8, 9, 10, 11] [(true, 1), (false, 6), (false, 12), (true, 13), (false, 14), (false, 15), (true, 16), (false, 17)] _ (by rfl) (by rfl) ?_
      dsimp only [List.filterMap, List.getElem?_cons_zero, List.getElem?_cons_succ]
      repeat (go_big_quiet_step (fail))
      refine wpQuiet_nil ?_
      refine wpPlan_takeL [1] [(false, 6), (false, 12), (true, 13), (false, 14), (false, 15), (true, 16), (false, 17)] _ (by rfl) (by rfl) hgb.drew ?_
      dsimp only [List.filterMap, List.getElem?_cons_zero, List.getElem?_cons_succ]
      (refine wpQuiet_load_cell (fun w' hw' => Blk.at_ (v := v3) hw' 3 (by simp)) (by rfl) _ _ (by rfl) (by rfl) _ Tryz.underlying114 (by rfl) ?_; simp only [Act.put, List.setIfInBounds_toArray, List.set_cons_zero, List.set_cons_succ])
      refine wpQuiet_nil ?_
      refine wpPlan_forceL _ rfl ?_
      go_wp2_with fail
      rw [show (36 : Int) + 8 * (i : Int) = ((36 + 8 * i : Nat) : Int) by omega]
      refine (NUM.out (36 + 8 * i) wr.drew (by omega) hbr).mono ?_
      rintro e w9 ⟨rfl, hbx⟩
      have hgb9 := keep hbx hgb.drew
      have hg29 := keep hbx hg2.drew
      have hown9 : OwnsC 113 2 w9 (gb + 1) v3 i (refCells (refsOf raw i)) sp := OwnsC.ownBelow (w := wr.drew) hown hbx
      have hB9 := hBr.drew.trans (hbx.mono hBr.size)
      have hb9 := Bytes.below hb hB9
      clear hbx hgb hg2 hown hBr hbr hgl
      go_wp2_with fail
      refine PlanQ.in_ hgb9 ?_
      refine wpPlan_forceL _ rfl ?_
      go_wp2_with fail
      rw [show (36 : Int) + 8 * (i : Int) + 4 = ((36 + 8 * i + 4 : Nat) : Int) by omega]
      refine (NUM.out (36 + 8 * i + 4) w9 (by omega) hb9).mono ?_
      rintro e w10 ⟨rfl, hbx⟩
      (replace hgb9 := keep hbx hgb9; replace hg29 := keep hbx hg29; replace hown9 := keep hbx hown9; replace hB9 := hB9.trans (hbx.mono hB9.size); clear hbx hb9)
      go_wp2_with fail
      refine PlanQ.in_ hgb9 ?_
      refine wpPlan_pure [13] [(false, 14), (false, 15), (true, 16), (false, 17)] _ (by rfl) (by rfl) ?_
      dsimp only [List.filterMap, List.getElem?_cons_zero, List.getElem?_cons_succ]
      repeat (go_big_quiet_step (fail))
      refine wpQuiet_nil ?_
      refine wpPlan_forceL _ rfl ?_
      go_wp2_with fail
      have hbx := (Below.refl w10.heap.size w10).alloc (Nat.le_refl _) (.cells #[.int .i64 (at4 raw (36 + 8 * i)), .int .i64 (at4 raw (36 + 8 * i + 4))] 113)
      have hnew := (Blk.new w10 113 #[.int .i64 (at4 raw (36 + 8 * i)), .int .i64 (at4 raw (36 + 8 * i + 4))])
      generalize w10.alloc (.cells #[.int .i64 (at4 raw (36 + 8 * i)), .int .i64 (at4 raw (36 + 8 * i + 4))] 113) = w11 at hbx hnew ⊢
      (replace hgb9 := keep hbx hgb9; replace hg29 := keep hbx hg29; replace hown9 := keep hbx hown9; replace hB9 := hB9.trans (hbx.mono hB9.size); clear hbx)
      refine PlanQ.in_ hgb9 ?_
      refine wpPlan_forceL _ rfl ?_
      have hrd : Reads w11 (some ⟨w10.heap.size, 0, none⟩) [.int .i64 (at4 raw (36 + 8 * i)), .int .i64 (at4 raw (36 + 8 * i + 4))] := fun _ => ⟨_, 0, rfl, fun j v hv => by
        rw [Nat.zero_add, hnew.cell]; simpa using hv⟩
      have hgl := hgb9.lt
      refine wpList_append_allG (by rfl) _ _ _ (by rfl) (gb + 1) 113 (.agg #[.int .i64 0, .int .i64 0]) 2 16 Tryz.underlying114 infoRef (by rfl) (by omega) v3 i (refCells (refsOf raw i)) sp (by rfl) hown9 (some ⟨w10.heap.size, 0, none⟩) 1 1 _ (by rfl) (by rfl) hrd (by simp [Value.oneCell']) (by unfold maxLen; omega) (by omega) (by omega) ?_
      intro v12 w12 sp12 hown12 hgr12
      obtain ⟨A12, c12, rfl, _, _, _, _⟩ := OwnsC.reads hown12
      have hne12 : v3.ownBlock ≠ some gb := fun e => by have := (OwnsC.lt hown9 gb e).1; omega
      have hne0 : v3.ownBlock ≠ some g0 := fun e => by have := (OwnsC.lt hown9 g0 e).1; omega
      have hgb12 : Blk w12 gb 116 #[.int .i64 (at4 raw 16), .int .i64 (at4 raw 20), .int .i64 (at4 raw 24), v3, .slice none 0 0] := (hgr12.block gb hgl (Ne.symm hne12)).trans hgb9
      have hg012 : Blk w12 g0 116 zeroGB := (hgr12.block g0 hg29.lt (Ne.symm hne0)).trans hg29
      have hB12 : Below w.heap.size w w12 := hB9.grown hgr12 hB9.size (fun k hk => by have := (OwnsC.lt hown9 k hk).1; omega)
      clear hgr12 hown9 hB9 hgb9 hg29 hrd hnew
      refine wpList_nil ?_
      refine PlanQ.in_ hgb12 ?_
      simp only [Act.put, List.setIfInBounds_toArray, List.set_cons_zero, List.set_cons_succ]
      refine wpPlan_pure [16] [(false, 17)] _ (by rfl) (by rfl) ?_
      dsimp only [List.filterMap, List.getElem?_cons_zero, List.getElem?_cons_succ]
      repeat (go_big_quiet_step (fail))
      refine wpQuiet_nil ?_
      refine wpPlan_forceL _ rfl ?_
      have d3 := hgb12.at_ (v := v3) 3 (by simp)
      have f3 := hgb12.frozen 3
      have hgb13 := (hgb12.set_ 3 (.slice A12 (i + 1) c12)).sub (cs' := #[.int .i64 (at4 raw 16), .int .i64 (at4 raw 20), .int .i64 (at4 raw 24), .slice A12 (i + 1) c12, .slice none 0 0]) (by simp)
      have hg013 := hg012.off (c := gb) (by omega) (i := 3) (.slice A12 (i + 1) c12)
      have hown13 := OwnsC.off (c := gb) (i := 3) hown12 (fun e => by have := (OwnsC.lt hown12 gb e).1; omega) (.slice A12 (i + 1) c12)
      have hB13 := hB12.set_ (c := gb) (i := 3) (by omega) (.slice A12 (i + 1) c12)
      have HOWN : Hid (OwnsC 113 2 (w12.setCell ⟨gb, 3, none⟩ (.slice A12 (i + 1) c12)) (gb + 1) (.slice A12 (i + 1) c12) (i + 1) (refCells (refsOf raw (i + 1))) sp12) := Lib.hid (by
        rw [refsOf_succ, refCells_snoc]; exact hown13)
      clear hown12 hown13 hgb12 hg012 hB12
      go_wp2_with fail
      refine PlanQ.out (by rfl) ?_
      refine wpPlan_nil ?_
      clear d3 f3
      go_wp2
      first
        | (go_roundw
           case rel => exact ⟨i + 1, _, sp12, by omega, by go_num, hg013, hgb13, HOWN.out, hB13⟩
           case measure => simp [intOf]; omega)
        | (refine ⟨?_, ?_⟩
           · (repeat apply Exists.intro)
             exact ⟨⟨i + 1, _, sp12, by omega, by go_num, hg013, hgb13, HOWN.out, hB13⟩, rfl⟩
           · simp [intOf]; omega)
    · obtain rfl : i = M := by omega
      obtain ⟨A3, c3, rfl, hc3, hc3m, hr3, _⟩ := OwnsC.reads hown
      clear hr3
      obtain ⟨BD, hBD⟩ : ∃ BD, BD = (raw.drop 164).take Z := ⟨_, rfl⟩
      have hBDl : Hid (BD.length = Z) := Lib.hid (by rw [hBD, List.length_take, List.length_drop, HN.out]; omega)
      have hbBD : Bytes wr (some ⟨b, off + 164, none⟩) BD := by
        have h := hbr.drop (k := 164) (cap := c) (by omega)
        rw [if_neg (by omega)] at h
        have h2 := h.take Z
        rw [← hBD] at h2
        simpa [Addr.add_lit] using h2
      have HBD := Lib.hid hBD
      clear hBD
      go_wp2_with (first
        | (show wpList _ _ _ ((⟨some 66, _, _, _, _, _⟩ : Oper) :: _) _ _; refine wpList_append_bytes (o := ⟨some 66, _, _, _, _, _⟩) (by rfl) _ _ _ (by rfl) (gb + 1) _ Tryz.underlying39 u8info (.slice none 0 0) [] [] (by rfl) (OwnsC.nil _ _ _ _) (some ⟨b, off + 164, none⟩) (c - 164) BD (by rw [hBDl.out]; show Value.slice _ _ _ = _; congr 1 <;> omega) hbBD (by simp; rw [hBDl.out]; omega) (by omega) ?_; intro v4 w4 sp4 ho4 hg4 _ _; have hbx := (Below.refl wr.heap.size wr).grown hg4 (Nat.le_refl _) (fun k hk => by cases hk); obtain ⟨A4, c4, rfl, hc4, hm4, hs4⟩ := OwnB.open_ ho4; (rw [List.nil_append] at ho4 hc4 hs4 ⊢); (replace hown := keep hbx hown; replace hgb := keep hbx hgb; replace hg2 := keep hbx hg2; replace hbr := keep hbx hbr; replace hBr := hBr.trans (hbx.mono hBr.size)); have d4 := hgb.at_ (v := .slice none 0 0) 4 (by simp); have f4 := hgb.frozen 4; clear hbx hg4 hbBD)
        | fail)
      have hown5 := OwnsC.off (c := gb) (i := 4) hown (fun e => by have := (OwnsC.lt hown gb e).1; omega) (.slice A4 BD.length c4)
      have ho5 : OwnB 5 (w4.setCell ⟨gb, 4, none⟩ (.slice A4 BD.length c4)) (gb + 1) (.slice A4 BD.length c4) BD sp4 := OwnsC.off (c := gb) (i := 4) ho4 (fun e => by have := (OwnsC.lt ho4 gb e).1; omega) (.slice A4 BD.length c4)
      have hgb5 := (hgb.set_ 4 (.slice A4 BD.length c4)).sub (cs' := #[.int .i64 (at4 raw 16), .int .i64 (at4 raw 20), .int .i64 (at4 raw 24), .slice A3 i c3, .slice A4 BD.length c4]) (by simp)
      have hg05 := hg2.off (c := gb) (by omega) (i := 4) (.slice A4 BD.length c4)
      have hB5 := hBr.set_ (c := gb) (i := 4) (by omega) (.slice A4 BD.length c4)
      generalize w4.setCell ⟨gb, 4, none⟩ (.slice A4 BD.length c4) = w5 at hown5 ho5 hgb5 hg05 hB5 ⊢
      clear hown ho4 hgb hg2 hBr hbr d4 f4 hs4
      have hbr5 := Bytes.below hb hB5
      obtain ⟨_, _, e3, _, _, hr3, _⟩ := OwnsC.reads hown5
      simp only [Value.slice.injEq] at e3
      obtain ⟨rfl, _, rfl⟩ := e3
      have hA3 : ∀ ad, A3 = some ad → g0 < ad.block := fun ad had => by
        have := (OwnsC.lt hown5 ad.block (by rw [had]; rfl)).1
        omega
      have hrefs : Refs w5 A3 (refsOf raw i) := Refs.of hr3
      have hrl : Hid ((refsOf raw i).length = i) := Lib.hid (refsOf_length raw i)
      obtain ⟨_, _, e4, _, _, hbd5⟩ := OwnB.open_ ho5
      simp only [Value.slice.injEq] at e4
      obtain ⟨rfl, _, rfl⟩ := e4
      have hA4 : ∀ ad, A4 = some ad → g0 < ad.block := fun ad had => by
        have := (OwnsC.lt ho5 ad.block (by rw [had]; rfl)).1
        omega
      clear hr3 hown5 ho5
      have hP : Hid (GB.parse raw = ((at4 raw 16 : Int), ((at4 raw 20 : Int), (at4 raw 24 : Int), ()), refsOf raw i, BD, ())) := Lib.hid (by
        unfold GB.parse
        rw [← HM.out, ← HZ.out, ← HBD.out]; rfl)
      have hread : Hid (GB.read raw = if GB.ok (GB.parse raw) = true ∧ GB.rest (GB.parse raw) = raw.drop 16 then (0, GB.parse raw) else (4, GB.none_)) := Lib.hid (by
        unfold GB.read
        rw [if_neg (by rw [HN.out]; simp), if_neg (by rw [HSEAL.out]; simp), ← HM.out, ← HZ.out, if_neg (by omega)])
      have chk : ∀ wx, Refs wx A3 (refsOf raw i) → Calls Tryz.prog 142 #[.agg #[.int .i64 (at4 raw 16), .int .i64 (at4 raw 20), .int .i64 (at4 raw 24), .slice A3 i c3, .slice A4 BD.length c4]] wx fun e w' => e = .returned (.int .i64 (GB.code (GB.parse raw))) ∧ Below wx.heap.size wx w' := fun wx hx => by
        have := check_any (at4 raw 16) (at4 raw 20) (at4 raw 24) A3 A4 c3 c4 (refsOf raw i) BD (by rw [hrl.out]; omega) (by rw [hBDl.out]; omega) wx hx
        rw [hrl.out, ← hP.out] at this
        exact this
      have CHK := Lib.hid chk
      have lay : GB.ok (GB.parse raw) = true → ∀ wx, Refs wx A3 (refsOf raw i) → Bytes wx A4 BD → Calls Tryz.prog 143 #[.agg #[.int .i64 (at4 raw 16), .int .i64 (at4 raw 20), .int .i64 (at4 raw 24), .slice A3 i c3, .slice A4 BD.length c4]] wx fun e w' => e = .returned (.agg ((GB.bytes (GB.parse raw)).map u8v).toArray) ∧ Below wx.heap.size wx w' := fun hok wx hx hy => by
        have := laid_any (at4 raw 16) (at4 raw 20) (at4 raw 24) A3 A4 c3 c4 (refsOf raw i) BD (by rw [← hP.out]; exact hok) wx hx hy
        rw [hrl.out, ← hP.out] at this
        exact this
      have LAY := Lib.hid lay
      clear chk lay
      refine wp_region_plan (Below w5.heap.size w5) [] [(true, 0), (false, 1), (true, 2), (true, 3), (true, 6), (true, 7), (true, 4), (true, 8), (false, 5), (true, 9), (true, 10)] (by kernel_rfl) (by kernel_rfl) (fun c a a' w h q => ⟨h ▸ q.1, q.2⟩) (Below.refl _ _).drew ?_
      refine wpPlan_takeL [0] [(false, 1), (true, 2), (true, 3), (true, 6), (true, 7), (true, 4), (true, 8), (false, 5), (true, 9), (true, 10)] _ (by rfl) (by rfl) (Below.refl _ _).drew ?_
      dsimp only [List.filterMap, List.getElem?_cons_zero, List.getElem?_cons_succ]
      refine wpQuiet_load_blk (fun w' hw' => hgb5.below hw' hgb5.lt) (by rfl) _ _ (by rfl) (by rfl) _ Tryz.underlying116 (by rfl) sizeGB (by rfl) ?_
      simp only [Act.put, List.setIfInBounds_toArray, List.set_cons_zero, List.set_cons_succ]
      refine wpQuiet_nil ?_
      refine wpPlan_forceL _ rfl ?_
      go_wp2_with fail
      refine (CHK.out w5.drew hrefs).mono ?_
      rintro e w6 ⟨rfl, hbx⟩
      have hC6 : Below w5.heap.size w5 w6 := (Below.refl _ _).drew.trans hbx
      clear hbx
      cases hok : GB.ok (GB.parse raw)
      · have hrd : Hid (GB.read raw = (4, GB.none_)) := Lib.hid (by rw [hread.out, if_neg (by rw [hok]; simp)])
        rw [GB.code_no hok]
        clear hok
        go_wp2_with fail
        refine PlanQ.in_ hC6 ?_
        refine wpPlan_pure [2, 3, 6, 7] [(true, 4), (true, 8), (false, 5), (true, 9), (true, 10)] _ (by rfl) (by rfl) ?_
        dsimp only [List.filterMap, List.getElem?_cons_zero, List.getElem?_cons_succ]
        repeat (go_big_quiet_step (fail))
        refine wpQuiet_nil ?_
        refine wpPlan_takeL [4, 8] [(false, 5), (true, 9), (true, 10)] _ (by rfl) (by rfl) hC6 ?_
        dsimp only [List.filterMap, List.getElem?_cons_zero, List.getElem?_cons_succ]
        repeat (go_big_quiet_step (fail))
        refine wpQuiet_nil ?_
        refine wpPlan_forceL _ rfl ?_
        go_wp2_with fail
        refine PlanQ.in_ hC6 ?_
        refine wpPlan_pure [9, 10] [] _ (by rfl) (by rfl) ?_
        dsimp only [List.filterMap, List.getElem?_cons_zero, List.getElem?_cons_succ]
        repeat (go_big_quiet_step (fail))
        refine wpQuiet_nil ?_
        refine wpPlan_nil ?_
        have hg06 := keep hC6 hg05
        have hB6 := hB5.trans (hC6.mono hB5.size)
        go_wp2_with (first
          | ((with_reducible show wpList _ _ _ ((⟨none, _, _, _, _, _⟩ : Oper) :: _) _ _); refine wpList_store_blk (o := ⟨none, _, _, _, _, _⟩) (hg06) (by rfl) _ _ _ (by rfl) (by rfl) (zeroGB) (by rfl) (sizeGB) (by rfl) (by rfl) (by exact zeroGB_one) ?_; intro w3 h3 hu3)
          | fail)
        refine bodyPost_ret (results_row_tmp (by rfl) _ _ g0 _ _ _ (by rfl) h3 Tryz.underlying116 (by rfl) sizeGB) rfl ?_
        rw [hrd.out]
        exact ReadPost.none (hB6.upd hu3 (by rw [HGN.out]; exact Nat.le_refl _))
      · rw [GB.code_ok hok]
        have HOK := Lib.hid hok
        clear hok
        go_wp2_with fail
        refine PlanQ.in_ hC6 ?_
        refine wpPlan_pure [2, 3, 6, 7] [(true, 4), (true, 8), (false, 5), (true, 9), (true, 10)] _ (by rfl) (by rfl) ?_
        dsimp only [List.filterMap, List.getElem?_cons_zero, List.getElem?_cons_succ]
        repeat (go_big_quiet_step (fail))
        refine wpQuiet_want' (by rfl) ?_
        refine wpQuiet_array (by rfl) _ _ (by rfl) 1024 _ Tryz.underlying210 (some ⟨b, off, none⟩) 1024 c (by rfl) (Nat.le_refl _) ?_
        simp only [Act.put, List.setIfInBounds_toArray, List.set_cons_zero, List.set_cons_succ]
        refine wpQuiet_nil ?_
        refine wpPlan_takeL [4, 8] [(false, 5), (true, 9), (true, 10)] _ (by rfl) (by rfl) hC6 ?_
        dsimp only [List.filterMap, List.getElem?_cons_zero, List.getElem?_cons_succ]
        refine wpQuiet_want' (by rfl) ?_
        refine wpQuiet_load_blk (fun w' hw' => hgb5.below hw' hgb5.lt) (by rfl) _ _ (by rfl) (by rfl) _ Tryz.underlying116 (by rfl) sizeGB (by rfl) ?_
        simp only [Act.put, List.setIfInBounds_toArray, List.set_cons_zero, List.set_cons_succ]
        refine wpQuiet_want' (by rfl) ?_
        refine wpQuiet_load_mid (fun w' hw' => (Bytes.below hbr5 hw').range) (by rfl) _ _ (by rfl) (by rfl) _ Tryz.underlying210 (by rfl) size1024 (by rw [List.length_map]; exact HN.out) ?_
        simp only [Act.put, List.setIfInBounds_toArray, List.set_cons_zero, List.set_cons_succ]
        refine wpQuiet_nil ?_
        refine wpPlan_forceL _ rfl ?_
        have hr6 := keep hC6 hrefs
        have hd6 := keep hC6 hbd5
        go_wp2_with fail
        refine (LAY.out HOK.out w6 hr6 hd6).mono ?_
        rintro e w7 ⟨rfl, hbx⟩
        have hC7 : Below w5.heap.size w5 w7 := hC6.trans (hbx.mono hC6.size)
        clear hbx hC6 hr6 hd6
        go_wp2_with fail
        refine PlanQ.in_ hC7 ?_
        have hPl : (GB.bytes (GB.parse raw)).length = 1024 := by
          obtain ⟨_, _, h3, h4, _⟩ := GB.ok_spec HOK.out
          exact GB.bytes_length _ h3 h4
        refine wpPlan_pure [9, 10] [] _ (by rfl) (by rfl) ?_
        dsimp only [List.filterMap, List.getElem?_cons_zero, List.getElem?_cons_succ]
        refine wpQuiet_want' (by rfl) ?_
        refine wpQuiet_neq_bytesG (by rfl) _ _ _ _ _ (by rfl) 1024 Tryz.underlying210 Tryz.underlying5 size1 nosel1024 (GB.bytes (GB.parse raw)) raw (by rfl) (by rfl) hPl HN.out _ rfl ?_
        simp only [Act.put, List.setIfInBounds_toArray, List.set_cons_zero, List.set_cons_succ]
        repeat (go_big_quiet_step (fail))
        refine wpQuiet_nil ?_
        refine wpPlan_nil ?_
        have hg07 := keep hC7 hg05
        have hgb7 := keep hC7 hgb5
        have hB7 := hB5.trans (hC7.mono hB5.size)
        have hr7 := keep hC7 hrefs
        have hd7 := keep hC7 hbd5
        clear hPl hC7 hg05 hgb5 hB5 hrefs hbd5 hbr5
        by_cases heq : GB.bytes (GB.parse raw) = raw
        · have hrd : Hid (GB.read raw = (0, GB.parse raw)) := Lib.hid (by rw [hread.out, if_pos ⟨HOK.out, (GB.bytes_iff _ _ HSEAL.out).1 heq⟩])
          rw [decide_eq_true heq]
          clear heq
          go_wp2_with (first
            | ((with_reducible show wpList _ _ _ ((⟨some 80, _, _, _, _, _⟩ : Oper) :: _) _ _); refine wpList_load_blk (o := ⟨some 80, _, _, _, _, _⟩) (hgb7) (by rfl) _ _ (by rfl) (by rfl) _ Tryz.underlying116 (by rfl) (sizeGB) (by rfl) ?_)
            | ((with_reducible show wpList _ _ _ ((⟨none, _, _, _, _, _⟩ : Oper) :: _) _ _); refine wpList_store_blk (o := ⟨none, _, _, _, _, _⟩) (hg07) (by rfl) _ _ _ (by rfl) (by rfl) (#[.int .i64 (at4 raw 16), .int .i64 (at4 raw 20), .int .i64 (at4 raw 24), .slice A3 i c3, .slice A4 BD.length c4]) (by rfl) (sizeGB) (by rfl) (by rfl) (by simp [Value.oneCell']) ?_; intro w8 h8 hu8)
            | fail)
          refine bodyPost_ret (results_row_tmp (by rfl) _ _ g0 _ _ _ (by rfl) h8 Tryz.underlying116 (by rfl) sizeGB) rfl ?_
          rw [hrd.out, hP.out]
          refine ⟨A3, c3, A4, c4, ?_, Refs.of (Reads.upd (Refs.reads hr7) hu8 (fun ad e => Nat.ne_of_gt (hA3 ad e))), Reads.upd hd7 hu8 (fun ad e => Nat.ne_of_gt (hA4 ad e)), by rw [hrl.out]; exact hc3, hc4, hm4, hB7.upd hu8 (by rw [HGN.out]; exact Nat.le_refl _), fun ad e => by have := hA3 ad e; rw [HGN.out] at this; exact Nat.le_of_lt this, fun ad e => by have := hA4 ad e; rw [HGN.out] at this; exact Nat.le_of_lt this⟩
          simp only [hrl.out]
          rfl
        · have hrd : Hid (GB.read raw = (4, GB.none_)) := Lib.hid (by rw [hread.out, if_neg (fun h => heq ((GB.bytes_iff _ _ HSEAL.out).2 h.2))])
          rw [decide_eq_false heq]
          clear heq
          go_wp2_with (first
            | ((with_reducible show wpList _ _ _ ((⟨none, _, _, _, _, _⟩ : Oper) :: _) _ _); refine wpList_store_blk (o := ⟨none, _, _, _, _, _⟩) (hg07) (by rfl) _ _ _ (by rfl) (by rfl) (zeroGB) (by rfl) (sizeGB) (by rfl) (by rfl) (by exact zeroGB_one) ?_; intro w8 h8 hu8)
            | fail)
          refine bodyPost_ret (results_row_tmp (by rfl) _ _ g0 _ _ _ (by rfl) h8 Tryz.underlying116 (by rfl) sizeGB) rfl ?_
          rw [hrd.out]
          exact ReadPost.none (hB7.upd hu8 (by rw [HGN.out]; exact Nat.le_refl _))
end Proofs.YtfoegmjpfkmggaaGreatDoor
end Go
