/- A block's bytes, as the program lays them. Conditions: the block may be, its lists can be read. -/
import Derived.Test.YtfpcldnefpmgcaaGridF
import Derived.Test.YtfpcldnefpmgcaaGridZ
namespace Go
open Go.RowKit
/-- copy(d, s), d in an own block of bytes from a place on. -/
theorem wpList_copy_at {P : Program} {w : World} {ops : Array Oper} {rest : List Oper} {o : Oper} {a : Act} {Q : Exit → Act → World → Prop} (hgd : o.guard = none) (d s : Operand) (dT sT : TypeId)
    (ho : o.op = .call { callee := .builtin .copy, args := #[d, s], argTypes := #[dT, sT] }) (elem : TypeId) (hu : P.underlying dT = some (.slice elem)) (hsz : (P.info? elem).map (·.size) = some 1)
    (g off dLen dCap : Nat) (A : Option Addr) (sLen sCap : Nat) (hd : a.eval d = .slice (some ⟨g, off, none⟩) dLen dCap) (hs : a.eval s = .slice A sLen sCap)
    (cur l : List UInt8) (t : TypeId) (hg : Blk w g t (cur.map u8v).toArray) (hn : l.length = sLen) (hb : Bytes w A l) (hfit : off + l.length ≤ cur.length) (hfit2 : l.length ≤ dLen)
    (h : ∀ w', Blk w' g t ((cur.take off ++ (l ++ cur.drop (off + l.length))).map u8v).toArray → Upd g w w' → wpList P ops Q rest (a.put o.dst (goInt l.length)) w') : wpList P ops Q (o :: rest) a w := by
  by_cases h0 : l.length = 0
  · obtain rfl : l = [] := List.eq_nil_of_length_eq_zero h0
    simp at hn
    subst hn
    refine wpList_copy_nothing hgd d s dT sT ho elem hu hsz _ A dLen dCap 0 sCap hd hs (by simp) ?_
    exact h w (by simpa using hg) ⟨rfl, rfl, rfl, rfl, fun _ _ => rfl⟩
  · obtain ⟨b, soff, rfl, _, hc⟩ := hb.at_ (by omega)
    have := wpList_copy_own (Q := Q) (rest := rest) (ops := ops) (w := w) hgd d s dT sT ho elem hu hsz g off dLen dCap ⟨b, soff, none⟩ sLen sCap hd hs (cur.map u8v).toArray t hg (l.map u8v) (by rw [List.length_map, hn]; exact (Nat.min_eq_left (by omega)).symm)
      (fun j v hv => by
        have hj : j < l.length := by
          rcases Nat.lt_or_ge j l.length with h1 | h1
          · exact h1
          · simp [List.getElem?_eq_none h1] at hv
        have h2 := hc j hj
        simp [hj] at hv
        rw [Addr.add_lit, h2, ← hv]; simp [u8v, hj]) (by simpa using hfit) (u8v_one l)
    refine this ?_
    have e1 : ((((cur.map u8v).toArray.toList.take off) ++ (l.map u8v ++ (cur.map u8v).toArray.toList.drop (off + (l.map u8v).length))).toArray) = ((cur.take off ++ (l ++ cur.drop (off + l.length))).map u8v).toArray := by simp
    rw [e1]
    have e2 : ((l.map u8v).length : Int) = (l.length : Int) := by simp
    rw [e2]
    exact h _ (hg.setRow _) (Upd.setRow _ _ _)
namespace Proofs.Ytfpcldnefpmgcaa
theorem arr_const (n : Nat) (v : Value) : arr n (fun _ => v) = (List.replicate n v).toArray := by
  apply Array.ext_getElem?; intro i
  rw [arr_get, List.getElem?_toArray, List.getElem?_replicate]
theorem zero1024_list : zero1024 = ((List.replicate 1024 (0 : UInt8)).map u8v).toArray := by
  rw [List.map_replicate]; exact arr_const 1024 _
/-- A list of 1,024 bytes of which the first are these, the others noughts. -/
def pad (P : List UInt8) : List UInt8 := P ++ List.replicate (1024 - P.length) 0
theorem pad_length (P : List UInt8) (h : P.length ≤ 1024) : (pad P).length = 1024 := by unfold pad; rw [List.length_append, List.length_replicate]; omega
theorem pad_put (P : List UInt8) (n : Nat) (h : P.length + 4 ≤ 1024) : put4 (pad P) P.length n = pad (P ++ le4 n) := by
  unfold put4 pad
  rw [List.take_left, List.drop_append, List.drop_of_length_le (by omega), List.nil_append, List.drop_replicate, List.length_append, le4_length, List.append_assoc]
  congr 3
  omega
theorem pad_zero : List.replicate 1024 (0 : UInt8) = pad (List.replicate 16 0) := by unfold pad; rw [List.length_replicate, List.replicate_append_replicate]
/-- The numbers ahead of the refs. -/
def GB.nums (b : GBT) : List Nat := [b.1.toNat, b.2.1.1.toNat, b.2.1.2.1.toNat, b.2.2.1.length, b.2.2.2.1.length]
def numsBytes (l : List Nat) : List UInt8 := l.flatMap le4
theorem numsBytes_length (l : List Nat) : (numsBytes l).length = 4 * l.length := by
  induction l with
  | nil => rfl
  | cons n l ih => unfold numsBytes at *; rw [List.flatMap_cons, List.length_append, ih, List.length_cons, le4_length]; omega
theorem numsBytes_snoc (l : List Nat) (n : Nat) : numsBytes (l ++ [n]) = numsBytes l ++ le4 n := by unfold numsBytes; simp
theorem GB.head_nums (b : GBT) : numsBytes (GB.nums b) = GB.head b := by unfold numsBytes GB.nums GB.head; simp
theorem refsBytes_snoc (l : List RefT) (r : RefT) : refsBytes (l ++ [r]) = refsBytes l ++ (le4 r.1.toNat ++ le4 r.2.1.toNat) := by unfold refsBytes refBytes; simp
/-- What the call's own blocks hold: the block in its box, the result's noughts, the bytes so far. -/
structure LInv (w0 : World) (bx : Array Value) (L : List UInt8) (wr : World) : Prop where
  box : Blk wr w0.heap.size 45 bx
  res : Blk wr (w0.heap.size + 1) 72 zero1024
  raw : Blk wr (w0.heap.size + 1 + 1) 72 (L.map u8v).toArray
  bel : Below w0.heap.size w0 wr
theorem LInv.upd {w0 : World} {bx : Array Value} {L L' : List UInt8} {wr w' : World} (h : LInv w0 bx L wr) (u : Upd (w0.heap.size + 1 + 1) wr w') (hg : Blk w' (w0.heap.size + 1 + 1) 72 (L'.map u8v).toArray) : LInv w0 bx L' w' :=
  ⟨h.box.upd u (by omega), h.res.upd u (by omega), hg, h.bel.upd u (by omega)⟩
theorem LInv.below {w0 : World} {bx : Array Value} {L : List UInt8} {wr w' : World} (h : LInv w0 bx L wr) (hb : Below wr.heap.size wr w') : LInv w0 bx L w' :=
  ⟨keep hb h.box, keep hb h.res, keep hb h.raw, h.bel.trans (hb.mono h.bel.size)⟩
theorem LInv.drew {w0 : World} {bx : Array Value} {L : List UInt8} {wr : World} (h : LInv w0 bx L wr) : LInv w0 bx L wr.drew := ⟨h.box, h.res, h.raw, h.bel.drew⟩
instance {w0 : World} {bx : Array Value} {L : List UInt8} {w w' : World} : KeepsTo w w' (LInv w0 bx L w) (LInv w0 bx L w') := ⟨fun hb h => h.below hb⟩
def NumRel (w : World) (bx : Array Value) (b : GBT) (v v26 : Value) (wr : World) : Prop :=
  ∃ i : Nat, i ≤ 5 ∧ v26 = .int .i64 (i : Int) ∧ v = .slice (some ⟨w.heap.size + 1 + 1, 16 + 4 * i, none⟩) (1008 - 4 * i) (1008 - 4 * i) ∧ LInv w bx (pad (List.replicate 16 0 ++ numsBytes ((GB.nums b).take i))) wr
def RefRel (w : World) (bx : Array Value) (b : GBT) (v v37 : Value) (wr : World) : Prop :=
  ∃ i o : Nat, i ≤ b.2.2.1.length ∧ (i < 16 → o = 36 + 8 * i) ∧ v37 = .int .i64 (i : Int) ∧ v = .slice (some ⟨w.heap.size + 1 + 1, o, none⟩) (128 - 8 * i) (128 - 8 * i) ∧ LInv w bx (pad (List.replicate 16 0 ++ (GB.head b ++ refsBytes (b.2.2.1.take i)))) wr
set_option maxHeartbeats 2000000 in
set_option maxRecDepth 100000 in
theorem laid_any (k ra rs : Nat) (A B : Option Addr) (c d : Nat) (l : List RefT) (body : List UInt8) (hok : GB.ok ((k : Int), ((ra : Int), (rs : Int), ()), l, body, ()) = true) (w : World) (hr : Refs w A l) (hb : Bytes w B body) :
    Calls Try.prog 47 #[.agg #[.int .i64 k, .int .i64 ra, .int .i64 rs, .slice A l.length c, .slice B body.length d]] w fun e w' =>
      e = .returned (.agg ((GB.bytes ((k : Int), ((ra : Int), (rs : Int), ()), l, body, ())).map u8v).toArray) ∧ Below w.heap.size w w' := by
  obtain ⟨⟨k1, k2⟩, hrf, hn, hbl, hall⟩ := GB.ok_spec hok
  obtain ⟨r1, r2, r3, r4⟩ := refOk_spec hrf
  simp only at k1 k2 r1 r2 r3 r4 hn hbl hall
  have HOK := Lib.hid hok
  have HALL := Lib.hid hall
  clear hok hrf hall
  obtain ⟨b, hbd⟩ : ∃ b : GBT, b = ((k : Int), ((ra : Int), (rs : Int), ()), l, body, ()) := ⟨_, rfl⟩
  rw [← hbd] at HOK ⊢
  have HBD := Lib.hid hbd
  clear hbd
  have a1024 := alloc1024
  have hL : LInv w #[.int .i64 k, .int .i64 ra, .int .i64 rs, .slice A l.length c, .slice B body.length d] (pad (List.replicate 16 0 ++ numsBytes ((GB.nums b).take 0))) (((w.alloc (.cells #[.int .i64 k, .int .i64 ra, .int .i64 rs, .slice A l.length c, .slice B body.length d] 45)).alloc (.cells zero1024 72)).alloc (.cells zero1024 72)) := by
    refine ⟨((Blk.new _ _ _).alloc _).alloc _, (Blk.new' _ _ _ (by simp)).alloc _, ?_, (((Below.refl _ _).alloc (Nat.le_refl _) _).alloc (by simp) _).alloc (by simp; omega) _⟩
    have := Blk.new' ((w.alloc (.cells #[.int .i64 k, .int .i64 ra, .int .i64 rs, .slice A l.length c, .slice B body.length d] 45)).alloc (.cells zero1024 72)) 72 zero1024 (n := w.heap.size + 1 + 1) (by simp)
    refine this.sub ?_
    rw [zero1024_list, pad_zero]; simp [numsBytes]
  go_enter Try.func47, Try.ntmps47
  go_wp2_with fail
  generalize ((w.alloc (.cells #[.int .i64 k, .int .i64 ra, .int .i64 rs, .slice A l.length c, .slice B body.length d] 45)).alloc (.cells zero1024 72)).alloc (.cells zero1024 72) = w1 at hL ⊢
  clear a1024
  go_loopw [4, 26] (fun v v26 wr => NumRel w #[.int .i64 k, .int .i64 ra, .int .i64 rs, .slice A l.length c, .slice B body.length d] b v v26 wr) (fun _ v _ => 5 - (intOf v).toNat)
  case atStart => exact ⟨0, by omega, rfl, rfl, hL⟩
  case round =>
    clear hL
    obtain ⟨i, hi, rfl, rfl, hI⟩ := hrel
    by_cases hlt : i < 5
    · have hstep : ∀ n : Nat, (GB.nums b)[i]? = some n → n < 4294967296 → Calls Try.prog 55 #[.slice (some ⟨w.heap.size + 1 + 1, 16 + 4 * i, none⟩) (1008 - 4 * i) (1008 - 4 * i), .int .i64 n] wr fun e w' =>
          e = .returned (.slice (some ⟨w.heap.size + 1 + 1, 16 + 4 * (i + 1), none⟩) (1008 - 4 * (i + 1)) (1008 - 4 * (i + 1))) ∧ LInv w #[.int .i64 k, .int .i64 ra, .int .i64 rs, .slice A l.length c, .slice B body.length d] (pad (List.replicate 16 0 ++ numsBytes ((GB.nums b).take (i + 1)))) w' := by
        intro n hin hn4
        have hil : i < (GB.nums b).length := by simp [GB.nums]; omega
        have hpl : (List.replicate 16 (0 : UInt8) ++ numsBytes ((GB.nums b).take i)).length = 16 + 4 * i := by
          rw [List.length_append, List.length_replicate, numsBytes_length, List.length_take]; omega
        refine (four_any (w.heap.size + 1 + 1) (16 + 4 * i) (1008 - 4 * i) (1008 - 4 * i) n _ _ (by omega) (by rw [pad_length _ (by rw [hpl]; omega)]; omega) hn4 wr hI.raw).mono ?_
        rintro e w' ⟨rfl, hg, hu⟩
        refine ⟨?_, hI.upd hu ?_⟩
        · rw [if_neg (by omega)]
          congr 2
        · refine hg.sub ?_
          congr 2
          have := pad_put (List.replicate 16 (0 : UInt8) ++ numsBytes ((GB.nums b).take i)) n (by rw [hpl]; omega)
          rw [hpl] at this
          rw [this, List.append_assoc, ← numsBytes_snoc, List.take_succ_eq_append_getElem hil]
          congr 4
          rw [List.getElem?_eq_getElem hil] at hin
          simpa using hin.symm
      have HS := Lib.hid hstep
      clear hstep
      have hcase : i = 0 ∨ i = 1 ∨ i = 2 ∨ i = 3 ∨ i = 4 := by omega
      have hi5 := idx5 (.int .i64 k) (.int .i64 ra) (.int .i64 rs) (.int .i64 l.length) (.int .i64 body.length) wr
      rcases hcase with rfl | rfl | rfl | rfl | rfl
      · have i0 := hi5.1
        clear hi5
        go_wp2_with fail
        refine (HS.out k (by rw [HBD.out]; simp [GB.nums]) (by omega)).mono ?_
        rintro e w2 ⟨rfl, hI2⟩
        go_wp2
        exact ⟨⟨1, by omega, rfl, rfl, hI2⟩, by simp [intOf]⟩
      · have i0 := hi5.2.1
        clear hi5
        go_wp2_with fail
        refine (HS.out ra (by rw [HBD.out]; simp [GB.nums]) (by omega)).mono ?_
        rintro e w2 ⟨rfl, hI2⟩
        go_wp2
        exact ⟨⟨2, by omega, rfl, rfl, hI2⟩, by simp [intOf]⟩
      · have i0 := hi5.2.2.1
        clear hi5
        go_wp2_with fail
        refine (HS.out rs (by rw [HBD.out]; simp [GB.nums]) (by omega)).mono ?_
        rintro e w2 ⟨rfl, hI2⟩
        go_wp2
        exact ⟨⟨3, by omega, rfl, rfl, hI2⟩, by simp [intOf]⟩
      · have i0 := hi5.2.2.2.1
        clear hi5
        go_wp2_with fail
        refine (HS.out l.length (by rw [HBD.out]; simp [GB.nums]) (by omega)).mono ?_
        rintro e w2 ⟨rfl, hI2⟩
        go_wp2
        exact ⟨⟨4, by omega, rfl, rfl, hI2⟩, by simp [intOf]⟩
      · have i0 := hi5.2.2.2.2
        clear hi5
        go_wp2_with fail
        refine (HS.out body.length (by rw [HBD.out]; simp [GB.nums]) (by omega)).mono ?_
        rintro e w2 ⟨rfl, hI2⟩
        go_wp2
        exact ⟨⟨5, by omega, rfl, rfl, hI2⟩, by simp [intOf]⟩
    · obtain rfl : i = 5 := by omega
      have hI0 : LInv w #[.int .i64 k, .int .i64 ra, .int .i64 rs, .slice A l.length c, .slice B body.length d] (pad (List.replicate 16 0 ++ (GB.head b ++ refsBytes (b.2.2.1.take 0)))) wr := by
        have e : (GB.nums b).take 5 = GB.nums b := by simp [GB.nums]
        rw [e, GB.head_nums] at hI
        simpa [refsBytes] using hI
      clear hI
      have e221 : Hid (b.2.2.1 = l) := Lib.hid (by rw [HBD.out])
      have e222 : Hid (b.2.2.2.1 = body) := Lib.hid (by rw [HBD.out])
      have dx3 : wr.cell? ⟨w.heap.size, 3, none⟩ = some (.slice A l.length c) := hI0.box.at_ 3 (by simp)
      go_wp2_with fail
      clear dx3
      go_loopw [4, 37] (fun v v37 wr => RefRel w #[.int .i64 k, .int .i64 ra, .int .i64 rs, .slice A l.length c, .slice B body.length d] b v v37 wr) (fun _ v _ => l.length - (intOf v).toNat)
      case atStart => exact ⟨0, 36, by omega, fun _ => rfl, rfl, rfl, hI0⟩
      case round =>
        clear hI0
        obtain ⟨i, o, hi, ho, rfl, rfl, hI⟩ := hrel
        rw [e221.out] at hi
        by_cases hlt : i < l.length
        · obtain rfl : o = 36 + 8 * i := ho (by omega)
          have hrr := Refs.below hr hI.bel
          obtain ⟨rb, roff, rfl, hrb, hcells⟩ := hrr (by omega)
          obtain ⟨d1, d2⟩ := hcells i hlt
          have hri := refOk_spec (HALL.out l[i] (List.getElem_mem hlt))
          obtain ⟨x, hx⟩ : ∃ x : Nat, l[i].1 = (x : Int) := ⟨l[i].1.toNat, by omega⟩
          obtain ⟨y, hy⟩ : ∃ y : Nat, l[i].2.1 = (y : Int) := ⟨l[i].2.1.toNat, by omega⟩
          have HR : Hid (b.2.2.1.take (i + 1) = b.2.2.1.take i ++ [((x : Int), (y : Int), ())]) := Lib.hid (by
            rw [e221.out, List.take_succ_eq_append_getElem hlt, ← hx, ← hy])
          rw [hx] at d1 hri
          rw [hy] at d2 hri
          clear hx hy hcells hrr
          go_wp2_with (first
            | (show wpList _ _ _ ((⟨some 40, _, _, _, _, _⟩ : Oper) :: _) _ _; refine wpList_load_mid (o := ⟨some 40, _, _, _, _, _⟩) (range2 (b := rb) (off := roff + i * 2) (u := .int .i64 x) (v := .int .i64 y) (d1) (d2)) (by rfl) _ _ (by rfl) (by rfl) _ Try.underlying42 (by rfl) size_ref (by rfl) ?_)
            | fail)
          have hgr := Blk.new wr 42 #[.int .i64 x, .int .i64 y]
          have hI4 : LInv w #[.int .i64 k, .int .i64 ra, .int .i64 rs, .slice (some ⟨rb, roff, none⟩) l.length c, .slice B body.length d] (pad (List.replicate 16 0 ++ (GB.head b ++ refsBytes (b.2.2.1.take i)))) (wr.alloc (.cells #[.int .i64 x, .int .i64 y] 42)) := hI.below ((Below.refl _ _).alloc (Nat.le_refl _) _)
          have hne : w.heap.size + 1 + 1 ≠ wr.heap.size := by have := hI.raw.lt; omega
          generalize wr.alloc (.cells #[.int .i64 x, .int .i64 y] 42) = w4 at hgr hI4 ⊢
          generalize wr.heap.size = gr at hgr hne ⊢
          clear d1 d2 hrb hI ho
          have hpl : (List.replicate 16 (0 : UInt8) ++ (GB.head b ++ refsBytes (b.2.2.1.take i))).length = 36 + 8 * i := by
            rw [List.length_append, List.length_replicate, List.length_append, GB.head_length, refsBytes_length, List.length_take, e221.out]; omega
          refine wp_region_plan (fun w' => Blk w' gr 42 #[.int .i64 x, .int .i64 y]) [] [(true, 0), (true, 1), (true, 4), (true, 2), (true, 5), (false, 3), (false, 6), (false, 7)] (by kernel_rfl) (by kernel_rfl) (fun c a a' w h q => ⟨h ▸ q.1, q.2⟩) hgr.drew ?_
          refine wpPlan_pure [0, 1, 4] [(true, 2), (true, 5), (false, 3), (false, 6), (false, 7)] _ (by rfl) (by rfl) ?_
          dsimp only [List.filterMap, List.getElem?_cons_zero, List.getElem?_cons_succ]
          repeat (go_big_quiet_step (fail))
          refine wpQuiet_nil ?_
          refine wpPlan_takeL [2, 5] [(false, 3), (false, 6), (false, 7)] _ (by rfl) (by rfl) hgr.drew ?_
          dsimp only [List.filterMap, List.getElem?_cons_zero, List.getElem?_cons_succ]
          (refine wpQuiet_load_cell (fun w' hw' => Blk.at_ (v := .int .i64 x) hw' 0 (by simp)) (by rfl) _ _ (by rfl) (by rfl) _ Try.underlying3 (by rfl) ?_; simp only [Act.put, List.setIfInBounds_toArray, List.set_cons_zero, List.set_cons_succ])
          (refine wpQuiet_load_cell (fun w' hw' => Blk.at_ (v := .int .i64 y) hw' 1 (by simp)) (by rfl) _ _ (by rfl) (by rfl) _ Try.underlying3 (by rfl) ?_; simp only [Act.put, List.setIfInBounds_toArray, List.set_cons_zero, List.set_cons_succ])
          refine wpQuiet_nil ?_
          refine wpPlan_forceL _ rfl ?_
          go_wp2_with fail
          refine (four_any (w.heap.size + 1 + 1) (36 + 8 * i) (128 - 8 * i) (128 - 8 * i) x _ _ (by omega) (by rw [pad_length _ (by rw [hpl]; omega)]; omega) (by omega) w4.drew hI4.drew.raw).mono ?_
          rintro e w5 ⟨rfl, hg5, hu5⟩
          have hpp := pad_put (List.replicate 16 (0 : UInt8) ++ (GB.head b ++ refsBytes (b.2.2.1.take i))) x (by rw [hpl]; omega)
          rw [hpl] at hpp
          rw [hpp] at hg5
          have hI5 := hI4.drew.upd hu5 hg5
          have hgr5 := hgr.drew.upd hu5 (Ne.symm hne)
          clear hg5 hu5 hI4 hgr hpp
          rw [if_neg (by omega)]
          go_wp2_with fail
          refine PlanQ.in_ hgr5 ?_
          refine wpPlan_forceL _ rfl ?_
          have hpl5 : (List.replicate 16 (0 : UInt8) ++ (GB.head b ++ refsBytes (b.2.2.1.take i)) ++ le4 x).length = 36 + 8 * i + 4 := by
            rw [List.length_append, hpl, le4_length]
          go_wp2_with fail
          refine (four_any (w.heap.size + 1 + 1) (36 + 8 * i + 4) (128 - 8 * i - 4) (128 - 8 * i - 4) y _ _ (by omega) (by rw [pad_length _ (by rw [hpl5]; omega)]; omega) (by omega) w5 hI5.raw).mono ?_
          rintro e w6 ⟨rfl, hg6, hu6⟩
          have hpp := pad_put (List.replicate 16 (0 : UInt8) ++ (GB.head b ++ refsBytes (b.2.2.1.take i)) ++ le4 x) y (by rw [hpl5]; omega)
          rw [hpl5] at hpp
          rw [hpp] at hg6
          have hI6 := hI5.upd hu6 hg6
          have hgr6 := hgr5.upd hu6 (Ne.symm hne)
          clear hg6 hu6 hI5 hgr5 hpp
          have HI6 : Hid (LInv w #[.int .i64 k, .int .i64 ra, .int .i64 rs, .slice (some ⟨rb, roff, none⟩) l.length c, .slice B body.length d] (pad (List.replicate 16 0 ++ (GB.head b ++ refsBytes (b.2.2.1.take (i + 1))))) w6) := Lib.hid (by
            rw [HR.out, refsBytes_snoc]
            simpa using hI6)
          clear hI6
          obtain ⟨o2, ho2⟩ : ∃ o2, o2 = (if 128 - 8 * i - 4 = 4 then 36 + 8 * i + 4 else 36 + 8 * i + 4 + 4) := ⟨_, rfl⟩
          have HO2 : Hid (i + 1 < 16 → o2 = 36 + 8 * (i + 1)) := Lib.hid (fun h => by rw [ho2, if_neg (by omega)]; omega)
          rw [← ho2]
          clear ho2
          have e8 : 128 - 8 * i - 4 - 4 = 128 - 8 * (i + 1) := by omega
          rw [e8]
          clear e8
          go_wp2_with fail
          refine PlanQ.in_ hgr6 ?_
          refine wpPlan_forceL _ rfl ?_
          go_wp2_with fail
          refine PlanQ.in_ hgr6 ?_
          refine wpPlan_nil ?_
          go_wp2
          refine ⟨?_, ?_⟩
          · (repeat apply Exists.intro)
            exact ⟨⟨i + 1, o2, by rw [e221.out]; omega, HO2.out, by go_num, rfl, HI6.out⟩, rfl⟩
          · simp [intOf]; omega
        · obtain rfl : i = l.length := by omega
          have hI7 : LInv w #[.int .i64 k, .int .i64 ra, .int .i64 rs, .slice A l.length c, .slice B body.length d] (pad (List.replicate 16 0 ++ (GB.head b ++ refsBytes l))) wr := by
            rw [e221.out, List.take_length] at hI
            exact hI
          clear hI ho
          have hpl : (List.replicate 16 (0 : UInt8) ++ (GB.head b ++ refsBytes l)).length = 36 + 8 * l.length := by
            rw [List.length_append, List.length_replicate, List.length_append, GB.head_length, refsBytes_length]; omega
          go_wp2_with fail
          refine wp_region_plan (fun w' => Blk w' w.heap.size 45 #[.int .i64 k, .int .i64 ra, .int .i64 rs, .slice A l.length c, .slice B body.length d]) [] [(true, 0), (true, 1), (true, 2), (false, 3)] (by kernel_rfl) (by kernel_rfl) (fun c a a' w h q => ⟨h ▸ q.1, q.2⟩) hI7.box.drew ?_
          refine wpPlan_pure [0, 1] [(true, 2), (false, 3)] _ (by rfl) (by rfl) ?_
          dsimp only [List.filterMap, List.getElem?_cons_zero, List.getElem?_cons_succ]
          repeat (go_big_quiet_step (fail))
          refine wpQuiet_nil ?_
          refine wpPlan_takeL [2] [(false, 3)] _ (by rfl) (by rfl) hI7.box.drew ?_
          dsimp only [List.filterMap, List.getElem?_cons_zero, List.getElem?_cons_succ]
          (refine wpQuiet_load_cell (fun w' hw' => Blk.at_ (v := .slice B body.length d) hw' 4 (by simp)) (by rfl) _ _ (by rfl) (by rfl) _ Try.underlying22 (by rfl) ?_; simp only [Act.put, List.setIfInBounds_toArray, List.set_cons_zero, List.set_cons_succ])
          refine wpQuiet_nil ?_
          refine wpPlan_forceL _ rfl ?_
          have hbb := Bytes.below hb hI7.drew.bel
          have hI7' := hI7.drew
          clear hI7
          refine wpList_copy_at (by rfl) _ _ _ _ (by rfl) 5 Try.underlying22 size1 (w.heap.size + 1 + 1) 164 860 860 B body.length d (by rfl) (by rfl) _ body _ hI7'.raw rfl hbb (by rw [pad_length _ (by rw [hpl]; omega)]; omega) hbl ?_
          intro w5 hg5 hu5
          have hI5 := hI7'.upd hu5 hg5
          clear hg5 hu5 hI7' hbb
          refine wpList_nil ?_
          refine PlanQ.in_ hI5.box ?_
          refine wpPlan_nil ?_
          simp only [Act.put, List.setIfInBounds_toArray, List.set_cons_zero, List.set_cons_succ]
          have hB5 : Hid ((List.replicate 16 (0 : UInt8) ++ GB.rest b).length = 1024 ∧ LInv w #[.int .i64 k, .int .i64 ra, .int .i64 rs, .slice A l.length c, .slice B body.length d] (List.replicate 16 0 ++ GB.rest b) w5) := Lib.hid (by
            have hlen := GB.rest_length b (by rw [e221.out]; omega) (by rw [e222.out]; omega)
            refine ⟨by rw [List.length_append, hlen]; rfl, ?_⟩
            have e : (pad (List.replicate 16 0 ++ (GB.head b ++ refsBytes l))).take 164 ++ (body ++ (pad (List.replicate 16 0 ++ (GB.head b ++ refsBytes l))).drop (164 + body.length)) = List.replicate 16 0 ++ GB.rest b := by
              unfold pad GB.rest GB.tail
              rw [e221.out, e222.out, hpl]
              rw [List.take_append, List.take_of_length_le (by rw [hpl]; omega), List.take_replicate, List.drop_append, List.drop_of_length_le (by rw [hpl]; omega), List.drop_replicate, hpl]
              simp only [List.append_assoc, List.nil_append]
              congr 4
              · congr 1; omega
              · congr 2; omega
            rw [e] at hI5; exact hI5)
          clear hI5
          obtain ⟨hlen5, hI5⟩ := hB5.out
          clear hB5 hpl hi hlt hb hr
          have hLr : Bytes w5 (some ⟨w.heap.size + 1 + 1, 16, none⟩) (GB.rest b) := by
            have h := hI5.raw.bytes.drop (k := 16) (cap := 1024) (.inl (by omega))
            have e : (List.replicate 16 (0 : UInt8) ++ GB.rest b).drop 16 = GB.rest b := by
              conv => lhs; lhs; rw [show 16 = (List.replicate 16 (0 : UInt8)).length from rfl]
              exact List.drop_left ..
            rw [e] at h
            simpa [Addr.add_lit] using h
          have hl8 : (GB.rest b).length = 1008 := by rw [List.length_append, List.length_replicate] at hlen5; omega
          have HL8 := Lib.hid hl8
          have HL5 := Lib.hid hlen5
          clear hl8 hlen5
          go_wp2_with fail
          rw [show (1008 : Nat) = (GB.rest b).length from HL8.out.symm]
          refine (sum_any (some ⟨w.heap.size + 1 + 1, 16, none⟩) (GB.rest b).length (GB.rest b) (Nat.le_refl _) (by rw [HL8.out]; omega) w5 hLr).mono ?_
          rintro e w6 ⟨rfl, hbx⟩
          (replace hI5 := keep hbx hI5; clear hbx hLr)
          have hs16 := Sha.sum_length (GB.rest b)
          have HSS : Hid (GB.bytes b = Sha.sum (GB.rest b) ++ GB.rest b) := Lib.hid rfl
          obtain ⟨S, hS⟩ : ∃ S, S = Sha.sum (GB.rest b) := ⟨_, rfl⟩
          rw [← hS] at hs16 HSS ⊢
          clear hS
          have a16 := alloc16
          go_wp2_with (first
            | (show wpList _ _ _ ((⟨none, _, _, _, _, _⟩ : Oper) :: _) _ _; refine wpList_store_blk (o := ⟨none, _, _, _, _, _⟩) (Blk.new w6 23 zero16) (by rfl) _ _ _ (by rfl) (by rfl) (S.map u8v).toArray (by rfl) size16 (arr_size _ _) (by simp [hs16]) (u8_all _) ?_; intro w7 h7 hux; have hbx := ((Below.refl _ _).alloc (Nat.le_refl _) (.cells zero16 23)).upd hux (Nat.le_refl w6.heap.size); replace hI5 := keep hbx hI5; clear hux hbx)
            | fail)
          simp only [Act.put]
          have hne : w.heap.size + 1 + 1 ≠ w6.heap.size := fun e => by
            have h1 : Blk w7 w6.heap.size 72 _ := e ▸ hI5.raw
            have h2 := h1.symm.trans h7
            simp at h2
          refine wp_region_plan (fun w' => w' = w7.drew) [2] [(true, 0), (true, 1), (false, 2)] (by kernel_rfl) (by kernel_rfl) (fun c a a' w h q => ⟨h ▸ q.1, q.2⟩) rfl ?_
          refine wpPlan_pure [0, 1] [(false, 2)] _ (by rfl) (by rfl) ?_
          dsimp only [List.filterMap, List.getElem?_cons_zero, List.getElem?_cons_succ]
          repeat (go_big_quiet_step (fail))
          refine wpQuiet_nil ?_
          refine wpPlan_forceL _ rfl ?_
          refine wpList_copy_at (by rfl) _ _ _ _ (by rfl) 5 Try.underlying22 size1 (w.heap.size + 1 + 1) 0 1024 1024 (some ⟨w6.heap.size, 0, none⟩) 16 16 (by rfl) (by rfl) _ S _ hI5.drew.raw hs16 h7.drew.bytes (by rw [HL5.out, hs16]; omega) (by omega) ?_
          intro w8 hg8 hu8
          have hI8 := hI5.drew.upd hu8 hg8
          clear hg8 hu8 hI5 h7
          refine wpList_nil ?_
          refine PlanQ.out (by rfl) ?_
          refine wpPlan_nil ?_
          simp only [Act.put, List.setIfInBounds_toArray, List.set_cons_zero, List.set_cons_succ]
          have HI8 : LInv w #[.int .i64 k, .int .i64 ra, .int .i64 rs, .slice A l.length c, .slice B body.length d] (GB.bytes b) w8 := by
            have e : (List.replicate 16 (0 : UInt8) ++ GB.rest b).take 0 ++ (S ++ (List.replicate 16 (0 : UInt8) ++ GB.rest b).drop (0 + S.length)) = GB.bytes b := by
              rw [HSS.out, List.take_zero, List.nil_append, Nat.zero_add, hs16]
              congr 1
            rw [e] at hI8; exact hI8
          have HLB : Hid ((GB.bytes b).length = 1024) := Lib.hid (by rw [HSS.out, List.length_append, hs16, HL8.out])
          clear hI8
          go_wp2_with (first
            | (show wpList _ _ _ ((⟨some 58, _, _, _, _, _⟩ : Oper) :: _) _ _; refine wpList_load_blk (o := ⟨some 58, _, _, _, _, _⟩) HI8.raw (by rfl) _ _ (by rfl) (by rfl) _ Try.underlying72 (by rfl) size1024 (by simpa using HLB.out) ?_)
            | (show wpList _ _ _ ((⟨none, _, _, _, _, _⟩ : Oper) :: _) _ _; refine wpList_store_blk (o := ⟨none, _, _, _, _, _⟩) HI8.res (by rfl) _ _ _ (by rfl) (by rfl) ((GB.bytes b).map u8v).toArray (by rfl) size1024 (arr_size _ _) (by simpa using HLB.out) (u8_all _) ?_; intro w9 h9 hu9)
            | fail)
          refine bodyPost_ret (results_cell_row (by rfl) _ _ _ _ _ _ _ (by rfl) h9 Try.underlying72 (by rfl) (by rw [size1024]; simpa using HLB.out.symm)) rfl ⟨rfl, HI8.bel.upd hu9 (by omega)⟩
end Proofs.Ytfpcldnefpmgcaa
end Go
