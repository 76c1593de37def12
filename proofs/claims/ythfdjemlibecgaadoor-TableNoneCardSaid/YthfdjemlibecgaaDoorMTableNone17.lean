/- A block is let go, what was let go is settled; the set's bytes and counts; a flush. Conditions: the grid is known. -/
import Derived.Test.YthfdjemlibecgaaDoorMTableNone16
namespace Go.Proofs.YthfdjemlibecgaaDoor
open Go.RowKit
theorem Dsk.flush_N (d : Dsk) (f : Option Fus) : (d.flush f).2.1.N = d.N := by
  unfold Dsk.flush chg
  split
  · rfl
  split
  · rfl
  · split <;> rfl
/-- A grid's set is changed where it stands. -/
theorem GridR.setIn {w w' : World} {q : GPl} {g : Grd} {d : Dsk} {f : Option Fus} {L : List Nat} (h : GridR w q g d f) (hs : Blk w' q.gs 197 (setCells L)) (hu : Near [q.gs] w w') (hL : SetOk L) (hlen : L.length = g.n) : GridR w' q { g with L := L } d f := by
  have hap := h.apart
  obtain ⟨wv, sp, h1, h2, h3⟩ := h.wn
  exact ⟨h.dk.nearX hu (fun x hx hm => hap.s (List.mem_singleton.1 hm ▸ hx)), hs, h.mp.near hu (fun hm => hap.si (List.mem_singleton.1 hm).symm),
    ⟨wv, sp, h1, h2.near hu (fun hm => hap.gs (List.mem_singleton.1 hm)), OwnsC.nearO h3 hu (fun x hx hm => (hap.wo x (h1 ▸ hx)).2.1 (List.mem_singleton.1 hm))⟩, ⟨h.ok.h1, h.ok.h512, hlen, hL, h.ok.room, h.ok.nd⟩, h.ne⟩
section
variable {w : World} {q : GPl} {g : Grd} {d : Dsk} {f : Option Fus}
theorem GPost.setIn {L : List Nat} {w1 w' : World} (h0 : GridR w q g d f) (hB : Below w.heap.size w w1) (hs : Blk w' q.gs 197 (setCells L)) (hu : Upd q.gs w1 w') (hL : SetOk L) (hlen : L.length = g.n) : GPost w q { g with L := L } d f w' :=
  ⟨q, rfl, rfl, rfl, (h0.below hB).setIn hs (Near.upd hu (List.mem_singleton_self _)) hL hlen, (Near.below hB).trans (Near.upd hu (GPl.mem.2 (.inr (.inl rfl)))), fun _ hx => .inl hx⟩
set_option maxRecDepth 100000 in
theorem gsettle_any (h : GridR w q g d f) : Calls Tryd.prog 33 #[.pointer (some ⟨q.gg, 0, none⟩)] w fun e w' => e = .returned (.int .i64 (cnt g.L g.L.length : Nat)) ∧ GPost w q { g with L := setl g.L } d f w' := by
  obtain ⟨wv, hb⟩ := h.blk
  have d2 := hb.at_ 2 (v := .pointer (some ⟨q.gs, 0, none⟩)) rfl
  have hn := gnone_any h
  have hs := settle_any g.L h.ok.set (by have := h.ok.len; have := h.ok.h1; omega) q.gs w h.st
  have H0 := Lib.hid h
  clear h hb
  go_enter Tryd.func33, Tryd.ntmps33
  go_wp2_with fail
  refine hn.mono ?_
  rintro e w1 ⟨rfl, hw⟩
  obtain rfl := hw.symm
  clear hn hw
  go_wp2_with fail
  refine hs.mono ?_
  rintro e w2 ⟨rfl, hst, hu⟩
  have HP := Lib.hid (GPost.setIn H0.out (Below.refl _ _) hst hu H0.out.ok.set.setl ((setl_length _).trans H0.out.ok.len))
  clear hs hst hu
  go_wp2
  go_ret
  exact ⟨rfl, HP.out⟩
set_option maxRecDepth 100000 in
theorem gcounts_any (h : GridR w q g d f) : Calls Tryd.prog 59 #[.pointer (some ⟨q.gg, 0, none⟩)] w fun e w' => e = .returned (.tuple #[.int .i64 (cnts g.L 0 : Nat), .int .i64 (cnts g.L 1 : Nat), .int .i64 (cnts g.L 2 : Nat)]) ∧ Below w.heap.size w w' := by
  obtain ⟨wv, hb⟩ := h.blk
  have d2 := hb.at_ 2 (v := .pointer (some ⟨q.gs, 0, none⟩)) rfl
  have hn := gnone_any h
  have hs := counts_any g.L h.ok.set (by have := h.ok.len; have := h.ok.h1; omega) q.gs w h.st
  clear h hb
  go_enter Tryd.func59, Tryd.ntmps59
  go_wp2_with fail
  refine hn.mono ?_
  rintro e w1 ⟨rfl, hw⟩
  obtain rfl := hw.symm
  clear hn hw
  go_wp2_with fail
  refine hs.mono ?_
  rintro e w2 ⟨rfl, hB⟩
  have HB := Lib.hid hB
  clear hs hB
  go_wp2
  go_ret3
  exact ⟨rfl, HB.out⟩
set_option maxRecDepth 100000 in
theorem gfree_any (h : GridR w q g d f) : Calls Tryd.prog 60 #[.pointer (some ⟨q.gg, 0, none⟩)] w fun e w' => e = .returned (.slice (some ⟨w.heap.size, 0, none⟩) (2 + (g.L.length + 3) / 4) (2 + (g.L.length + 3) / 4)) ∧ Blk w' w.heap.size 5 ((enc g.L).map u8v).toArray ∧ Below w.heap.size w w' := by
  obtain ⟨wv, hb⟩ := h.blk
  have d2 := hb.at_ 2 (v := .pointer (some ⟨q.gs, 0, none⟩)) rfl
  have hn := gnone_any h
  have hs := bytes_any g.L h.ok.set (by have := h.ok.len; have := h.ok.h1; omega) q.gs w h.st
  clear h hb
  go_enter Tryd.func60, Tryd.ntmps60
  go_wp2_with fail
  refine hn.mono ?_
  rintro e w1 ⟨rfl, hw⟩
  obtain rfl := hw.symm
  clear hn hw
  go_wp2_with fail
  refine hs.mono ?_
  rintro e w2 ⟨rfl, hst, hB⟩
  have HB := Lib.hid (And.intro hst hB)
  clear hs hst hB
  go_wp2
  go_ret
  exact ⟨rfl, HB.out⟩
set_option maxRecDepth 100000 in
theorem gflush_any (h : GridR w q g d f) : Calls Tryd.prog 57 #[.pointer (some ⟨q.gg, 0, none⟩)] w fun e w' => e = .returned (.int .i64 (d.flush f).1) ∧ GPost w q g (d.flush f).2.1 (d.flush f).2.2 w' := by
  obtain ⟨wv, hb⟩ := h.blk
  have d0 := hb.at_ 0 (v := .pointer (some ⟨q.p.gd, 0, none⟩)) rfl
  have hn := gnone_any h
  have hs := flush_ok' w h.dk
  have H0 := Lib.hid h
  clear h hb
  go_enter Tryd.func57, Tryd.ntmps57
  go_wp2_with fail
  refine hn.mono ?_
  rintro e w1 ⟨rfl, hw⟩
  obtain rfl := hw.symm
  clear hn hw
  go_wp2_with fail
  refine hs.mono ?_
  rintro e w2 ⟨rfl, hdk, hN⟩
  have HP := Lib.hid (show GPost w q g (d.flush f).2.1 (d.flush f).2.2 w2 from ⟨q, rfl, rfl, rfl, H0.out.wrote hdk hN (Dsk.flush_N d f), hN.wider (fun x hx => GPl.mem.2 (.inr (.inr (.inr (.inr hx))))), fun _ hx => .inl hx⟩)
  clear hs hdk hN
  go_wp2
  go_ret
  exact ⟨rfl, HP.out⟩
set_option maxRecDepth 100000 in
theorem grelease_any (h : GridR w q g d f) (r : RefT) (hb1 : -9223372036854775808 ≤ r.1) (hb2 : r.1 ≤ 9223372036854775807) : Calls Tryd.prog 31 #[.pointer (some ⟨q.gg, 0, none⟩), .agg #[.int .i64 r.1, .int .i64 r.2.1]] w fun e w' => e = .returned (.int .i64 (turnCode g.L r.1 1)) ∧ GPost w q { g with L := turnL g.L r.1 1 2 } d f w' := by
  have hB := (Below.refl w.heap.size w).alloc (Nat.le_refl _) (.cells #[.int .i64 r.1, .int .i64 r.2.1] 23)
  have hbr := Blk.new w 23 #[.int .i64 r.1, .int .i64 r.2.1]
  have hn := gnone_any (h.below hB)
  have H0 := Lib.hid (And.intro h (And.intro hB (And.intro hbr (h.below hB))))
  have HR := Lib.hid (And.intro hb1 hb2)
  clear h hB hbr hb1 hb2
  go_enter Tryd.func31, Tryd.ntmps31
  go_wp2_with fail
  generalize (w.alloc (.cells #[.int .i64 r.1, .int .i64 r.2.1] 23)) = w1 at H0 hn ⊢
  refine hn.mono ?_
  rintro e w2 ⟨rfl, hw⟩
  obtain rfl := hw.symm
  clear hn hw
  go_wp2_with fail
  have hC0 : Near [q.gs] w1 w1.drew := (Near.refl _ _).drew
  have hG : Hid (∀ w', Near [q.gs] w1 w' → w'.cell? ⟨q.gg, 2, none⟩ = some (.pointer (some ⟨q.gs, 0, none⟩)) ∧ w'.cell? ⟨w.heap.size, 0, none⟩ = some (.int .i64 r.1)) := Lib.hid fun w' hw' => by
    obtain ⟨wv, hb⟩ := H0.out.2.2.2.blk
    have hap := H0.out.2.2.2.apart
    have hlt : q.gs < w.heap.size := H0.out.1.lt q.gs (GPl.mem.2 (.inr (.inl rfl)))
    exact ⟨(hb.near hw' (fun hm => hap.gs (List.mem_singleton.1 hm))).at_ 2 rfl, (H0.out.2.2.1.near hw' (fun hm => by have := List.mem_singleton.1 hm; omega)).at_ 0 rfl⟩
  refine wp_region_tree (Near [q.gs] w1) [] (PlanT.takes [0, 1, 2, 4] (PlanT.takes [3, 5] (.opt 6 (PlanT.takes [7] .done) .no))) (by kernel_rfl) (by kernel_rfl) (hC0) ?_
  refine wpTree_pure _ _ _ (by rfl) (by rfl) ?_
  dsimp only [List.filterMap, List.getElem?_cons_zero, List.getElem?_cons_succ]
  repeat (go_big_quiet_step (fail))
  refine wpQuiet_nil ?_
  refine wpTree_takeL _ _ _ (by rfl) (by rfl) (hC0) ?_
  dsimp only [List.filterMap, List.getElem?_cons_zero, List.getElem?_cons_succ]
  (refine wpQuiet_load_cell (fun w' hw' => (hG.out w' hw').1) (by rfl) _ _ (by rfl) (by rfl) _ Tryd.underlying92 (by rfl) ?_; simp only [Act.put, List.setIfInBounds_toArray, List.set_cons_zero, List.set_cons_succ])
  (refine wpQuiet_load_cell (fun w' hw' => (hG.out w' hw').2) (by rfl) _ _ (by rfl) (by rfl) _ Tryd.underlying3 (by rfl) ?_; simp only [Act.put, List.setIfInBounds_toArray, List.set_cons_zero, List.set_cons_succ])
  refine wpQuiet_nil ?_
  refine wpTree_one _ rfl ?_
  have hB1 : Below w1.heap.size w1 w1.drew := (Below.refl _ _).drew
  have hG1 := H0.out.2.2.2.below hB1
  have hs := release_any g.L hG1.ok.set (by have := hG1.ok.len; have := hG1.ok.h1; omega) q.gs r.1 HR.out.1 HR.out.2 w1.drew hG1.st
  go_wp2_with fail
  refine hs.mono ?_
  rintro e w2 ⟨rfl, hst, hu⟩
  have HP := Lib.hid (GPost.setIn H0.out.1 (H0.out.2.1.trans (hB1.mono H0.out.2.1.size)) hst hu (H0.out.1.ok.set.turn r.1 1 2 (by omega)) ((turnL_length _ _ _ _).trans H0.out.1.ok.len))
  have hC2 := hC0.trans (Near.upd hu (List.mem_singleton_self _))
  clear hs hst hu hG1 hG hC0
  go_wp2_with fail
  refine TreeQ.in_ hC2 ?_
  refine wpTree_pure _ _ _ (by rfl) (by rfl) ?_
  dsimp only [List.filterMap, List.getElem?_cons_zero, List.getElem?_cons_succ]
  repeat (go_big_quiet_step (fail))
  refine wpQuiet_nil ?_
  refine wpTree_done ?_
  go_wp2_with fail
  go_ret
  exact ⟨rfl, HP.out⟩
end
end Go.Proofs.YthfdjemlibecgaaDoor

/- Which bytes are a set's, plainly. No condition. -/
namespace Go.Proofs.YthfdjemlibecgaaDoor
open Go.RowKit
/-- How the bytes say block i (from nought on) is. -/
def crumb (b : List UInt8) (i : Nat) : Nat := (b.getD (2 + i / 4) 0).toNat / 4 ^ (i % 4) % 4
def rdn (b : List UInt8) : Nat := (b.getD 0 0).toNat + 256 * (b.getD 1 0).toNat
def rdF (n : Nat) (f : Nat → Nat) : List Nat := (List.range n).map f
def rd (b : List UInt8) : List Nat := rdF (rdn b) (crumb b)
theorem rdF_length (n : Nat) (f : Nat → Nat) : (rdF n f).length = n := by simp [rdF]
theorem rdF_getD (n : Nat) (f : Nat → Nat) (i : Nat) : (rdF n f).getD i 0 = if i < n then f i else 0 := by
  unfold rdF
  rw [List.getD_eq_getElem?_getD, List.getElem?_map]
  by_cases h : i < n
  · rw [List.getElem?_range h, if_pos h]; rfl
  · rw [if_neg h, List.getElem?_eq_none (by simp; omega)]; rfl
theorem rdF_set (n : Nat) (f : Nat → Nat) (k : Nat) (hk : k < n) : (rdF n (cutAt f k)).set k (f k) = rdF n (cutAt f (k + 1)) := by
  apply List.ext_getElem?
  intro i
  rw [List.getElem?_set]
  unfold rdF
  by_cases hi : i < n
  · rw [List.getElem?_map, List.getElem?_map, List.getElem?_range hi]
    by_cases e : k = i
    · subst e; rw [if_pos rfl, if_pos (by simpa using hk)]; simp [cutAt]
    · rw [if_neg e]
      simp only [Option.map_some, cutAt]
      by_cases h2 : i < k
      · rw [if_pos h2, if_pos (by omega)]
      · rw [if_neg h2, if_neg (by omega)]
  · rw [if_neg (by omega), List.getElem?_eq_none (by simp; omega), List.getElem?_eq_none (by simp; omega)]
theorem rdF_zero (n : Nat) (f : Nat → Nat) : rdF n (cutAt f 0) = List.replicate n 0 := by
  unfold rdF
  apply List.ext_getElem
  · simp
  · intro i h1 h2; simp [cutAt]
theorem rdF_all (n : Nat) (f : Nat → Nat) : rdF n (cutAt f n) = rdF n f := by
  unfold rdF
  refine List.map_congr_left fun i hi => ?_
  have := List.mem_range.1 hi
  unfold cutAt; rw [if_pos this]
/-- Whether the bytes are a set's, but for the last look. -/
def rdPre (b : List UInt8) : Bool := decide (2 ≤ b.length) && decide (1 ≤ rdn b) && decide (rdn b ≤ 512) && decide (b.length = 2 + (rdn b + 3) / 4)
def rdBig (b : List UInt8) : Bool := (List.range (rdn b)).all fun i => decide (crumb b i ≤ 2)
def rdOk (b : List UInt8) : Bool := rdPre b && rdBig b && decide (enc (rd b) = b)
theorem rdPre_iff (b : List UInt8) : rdPre b = true ↔ 2 ≤ b.length ∧ 1 ≤ rdn b ∧ rdn b ≤ 512 ∧ b.length = 2 + (rdn b + 3) / 4 := by
  unfold rdPre; simp only [Bool.and_eq_true, decide_eq_true_eq]; exact ⟨fun ⟨⟨⟨a, b⟩, c⟩, d⟩ => ⟨a, b, c, d⟩, fun ⟨a, b, c, d⟩ => ⟨⟨⟨a, b⟩, c⟩, d⟩⟩
theorem rdBig_iff (b : List UInt8) : rdBig b = true ↔ ∀ i, i < rdn b → crumb b i ≤ 2 := by
  unfold rdBig; rw [List.all_eq_true]; exact ⟨fun h i hi => by simpa using h i (List.mem_range.2 hi), fun h i hi => by simpa using h i (List.mem_range.1 hi)⟩
theorem rdOk_iff (b : List UInt8) : rdOk b = true ↔ rdPre b = true ∧ rdBig b = true ∧ enc (rd b) = b := by
  unfold rdOk; simp only [Bool.and_eq_true, decide_eq_true_eq]; exact ⟨fun ⟨⟨a, b⟩, c⟩ => ⟨a, b, c⟩, fun ⟨a, b, c⟩ => ⟨⟨a, b⟩, c⟩⟩
theorem rd_ok {b : List UInt8} (h1 : rdPre b = true) (h2 : rdBig b = true) : SetOk (rd b) :=
  ⟨by unfold rd; rw [rdF_length]; exact ((rdPre_iff b).1 h1).2.2.1, fun i => by
    unfold rd; rw [rdF_getD]
    split
    · rename_i h; exact (rdBig_iff b).1 h2 i h
    · exact Nat.zero_le _⟩
theorem rd_length (b : List UInt8) : (rd b).length = rdn b := rdF_length _ _
end Go.Proofs.YthfdjemlibecgaaDoor

/- The program's set of blocks, read from bytes. Condition: the bytes can be read. -/
namespace Go.Proofs.YthfdjemlibecgaaDoor
open Go.RowKit
/-- What reading answers. -/
def ReadSet (T : TypeId) (cells : List Nat → Array Value) (b : List UInt8) (w : World) (e : Ending) (w' : World) : Prop :=
  if rdOk b = true then ∃ g, w.heap.size ≤ g ∧ e = .returned (.tuple #[.pointer (some ⟨g, 0, none⟩), .int .i64 0]) ∧ Blk w' g T (cells (rd b)) ∧ Below w.heap.size w w'
  else e = .returned (.tuple #[.pointer none, .int .i64 4]) ∧ Below w.heap.size w w'
theorem ReadSet.no {T : TypeId} {cells : List Nat → Array Value} {b : List UInt8} {w w' : World} (h : rdOk b = false) (hB : Below w.heap.size w w') : ReadSet T cells b w (.returned (.tuple #[.pointer none, .int .i64 4])) w' := by
  unfold ReadSet; rw [if_neg (by rw [h]; simp)]; exact ⟨rfl, hB⟩
theorem or256 (x y : Nat) (hx : x < 256) (hy : y < 256) : bits .or .i64 (x : Int) ((y : Int) * 256) = ((x + 256 * y : Nat) : Int) := by
  have h := i64_or_nat09 x (256 * y) (by omega) (by omega)
  have e : ((256 * y : Nat) : Int) = (y : Int) * 256 := by omega
  rw [e] at h
  rw [h, Nat.or_comm, nat_join 8 (256 * y) x (by omega) (by omega)]
  congr 1; omega
theorem crumb_w (b : List UInt8) (k j r : Nat) (hj : j = k / 4) (hr : r = k % 4) : bits .and .u8 (iu8 (b.getD (2 + j) 0) / 2 ^ (2 * r)) 3 = (crumb b k : Nat) := by
  subst hj hr
  unfold crumb
  have hz := (b.getD (2 + k / 4) 0).toNat_lt
  have e : iu8 (b.getD (2 + k / 4) 0) / 2 ^ (2 * (k % 4)) = (((b.getD (2 + k / 4) 0).toNat / 4 ^ (k % 4) : Nat) : Int) := by
    unfold iu8
    rw [show (4 : Nat) = 2 ^ 2 from rfl, ← Nat.pow_mul]; simp
  rw [e]
  have h := u8_and_nat ((b.getD (2 + k / 4) 0).toNat / 4 ^ (k % 4)) 3 (Nat.lt_of_le_of_lt (Nat.div_le_self _ _) hz) (by omega)
  rw [nat_mask2] at h
  exact h
/-- Ahead of each block. -/
def SetRdRel (b : List UInt8) (g n : Nat) (w1 : World) (v : Value) (wr : World) : Prop :=
  ∃ k : Nat, k ≤ n ∧ v = .int .i64 ((k : Int) + 1) ∧ (∀ i, i < k → crumb b i ≤ 2) ∧ Blk wr g 197 (setCells (rdF n (cutAt (crumb b) k))) ∧ Upd g w1 wr
set_option maxRecDepth 100000 in
set_option maxHeartbeats 2000000 in
theorem setRead_any (A : Option Addr) (c : Nat) (b : List UInt8) (w : World) (hb : Bytes w A b) (hl : b.length ≤ 9223372036854775807) :
    Calls Tryd.prog 112 #[.slice A b.length c] w (ReadSet 197 setCells b w) := by
  by_cases h2 : b.length < 2
  · have hno : rdOk b = false := by
      cases h : rdOk b
      · rfl
      · have := ((rdPre_iff b).1 ((rdOk_iff b).1 h).1).1; omega
    go_enter Tryd.func112, Tryd.ntmps112
    go_wp2
    go_ret2
    exact ReadSet.no hno (Below.refl _ _)
  obtain ⟨bb, off, rfl, hbl, hcell⟩ := hb.at_ (by omega)
  have hc0 := hcell 0 (by omega)
  have hc1 := hcell 1 (by omega)
  have x0 := iu8_lo (b.getD 0 0)
  have x1 := iu8_hi (b.getD 0 0)
  have y0 := iu8_lo (b.getD 1 0)
  have y1 := iu8_hi (b.getD 1 0)
  have hor : bits .or .i64 (iu8 (b.getD 0 0)) (iu8 (b.getD 1 0) * 256) = (rdn b : Nat) := or256 _ _ (b.getD 0 0).toNat_lt (b.getD 1 0).toNat_lt
  have hn16 : rdn b < 65536 := by unfold rdn; have := (b.getD 0 0).toNat_lt; have := (b.getD 1 0).toNat_lt; omega
  generalize iu8 (b.getD 0 0) = x at hc0 hor x0 x1
  generalize iu8 (b.getD 1 0) = y at hc1 hor y0 y1
  have h2' : 2 ≤ (b.length : Int) := by omega
  have h2a : 0 < (b.length : Int) := by omega
  have h2b : 1 < (b.length : Int) := by omega
  rw [Nat.add_zero] at hc0
  have HC := Lib.hid hcell
  have HB := Lib.hid hb
  obtain ⟨n, hn⟩ : ∃ n, n = rdn b := ⟨_, rfl⟩
  rw [← hn] at hor hn16
  have HN := Lib.hid hn
  clear hcell hb hn
  have CC : ∀ w', Below w.heap.size w w' → w'.cell? ⟨bb, off, none⟩ = some (.int .u8 x) ∧ w'.cell? ⟨bb, off + 1, none⟩ = some (.int .u8 y) := fun w' hB =>
    ⟨(hB.cell (p := ⟨bb, off, none⟩) hbl).trans hc0, (hB.cell (p := ⟨bb, off + 1, none⟩) hbl).trans hc1⟩
  by_cases hnb : n < 1 ∨ 512 < n
  · have hno : rdOk b = false := by
      cases h : rdOk b
      · rfl
      · have := (rdPre_iff b).1 ((rdOk_iff b).1 h).1; have := HN.out; omega
    have hnew := new_bad (n : Int) (by omega) w.drew
    clear hnb
    go_enter Tryd.func112, Tryd.ntmps112
    go_wp2
    refine wp_region_planT (fun w' => w'.cell? ⟨bb, off, none⟩ = some (.int .u8 x) ∧ w'.cell? ⟨bb, off + 1, none⟩ = some (.int .u8 y)) [] [(true, 0), (true, 1), (true, 4), (true, 5), (true, 2), (true, 6), (true, 3), (true, 7), (true, 8), (true, 9), (false, 10), (true, 11), (true, 12), (true, 13), (true, 14), (true, 15)] (by kernel_rfl) (by kernel_rfl) (⟨hc0, hc1⟩) ?_
    refine wpPlan_pure [0, 1, 4, 5] [(true, 2), (true, 6), (true, 3), (true, 7), (true, 8), (true, 9), (false, 10), (true, 11), (true, 12), (true, 13), (true, 14), (true, 15)] _ (by rfl) (by rfl) ?_
    dsimp only [List.filterMap, List.getElem?_cons_zero, List.getElem?_cons_succ]
    repeat (go_big_quiet_step (fail))
    refine wpQuiet_nil ?_
    refine wpPlan_takeL [2, 6] [(true, 3), (true, 7), (true, 8), (true, 9), (false, 10), (true, 11), (true, 12), (true, 13), (true, 14), (true, 15)] _ (by rfl) (by rfl) (⟨hc0, hc1⟩) ?_
    dsimp only [List.filterMap, List.getElem?_cons_zero, List.getElem?_cons_succ]
    (refine wpQuiet_load_cell (fun w' hw' => hw'.1) (by rfl) _ _ (by rfl) (by rfl) _ Tryd.underlying5 (by rfl) ?_; simp only [Act.put, List.setIfInBounds_toArray, List.set_cons_zero, List.set_cons_succ])
    (refine wpQuiet_load_cell (fun w' hw' => hw'.2) (by rfl) _ _ (by rfl) (by rfl) _ Tryd.underlying5 (by rfl) ?_; simp only [Act.put, List.setIfInBounds_toArray, List.set_cons_zero, List.set_cons_succ])
    refine wpQuiet_nil ?_
    refine wpPlan_pure [3, 7, 8, 9] [(false, 10), (true, 11), (true, 12), (true, 13), (true, 14), (true, 15)] _ (by rfl) (by rfl) ?_
    dsimp only [List.filterMap, List.getElem?_cons_zero, List.getElem?_cons_succ]
    repeat (go_big_quiet_step (fail))
    refine wpQuiet_nil ?_
    refine wpPlan_forceL _ rfl ?_
    go_wp2_with fail
    refine hnew.mono ?_
    rintro e w' ⟨rfl, rfl⟩
    go_wp2_with fail
    refine PlanQ.in_ ⟨hc0, hc1⟩ ?_
    refine wpPlan_pure [11, 12, 13, 14, 15] [] _ (by rfl) (by rfl) ?_
    dsimp only [List.filterMap, List.getElem?_cons_zero, List.getElem?_cons_succ]
    repeat (go_big_quiet_step (fail))
    refine wpQuiet_nil ?_
    refine wpPlan_tidy ?_
    go_wp2
    go_ret2
    exact ReadSet.no hno (Below.refl _ _).drew
  have hnew := setNew_any n (by omega) (by omega) w.drew
  have hn1 : 1 ≤ n := by omega
  have hn2 : n ≤ 512 := by omega
  clear hnb
  go_enter Tryd.func112, Tryd.ntmps112
  go_wp2
  refine wp_region_planT (fun w' => w'.cell? ⟨bb, off, none⟩ = some (.int .u8 x) ∧ w'.cell? ⟨bb, off + 1, none⟩ = some (.int .u8 y)) [] [(true, 0), (true, 1), (true, 4), (true, 5), (true, 2), (true, 6), (true, 3), (true, 7), (true, 8), (true, 9), (false, 10), (true, 11), (true, 12), (true, 13), (true, 14), (true, 15)] (by kernel_rfl) (by kernel_rfl) (⟨hc0, hc1⟩) ?_
  refine wpPlan_pure [0, 1, 4, 5] [(true, 2), (true, 6), (true, 3), (true, 7), (true, 8), (true, 9), (false, 10), (true, 11), (true, 12), (true, 13), (true, 14), (true, 15)] _ (by rfl) (by rfl) ?_
  dsimp only [List.filterMap, List.getElem?_cons_zero, List.getElem?_cons_succ]
  repeat (go_big_quiet_step (fail))
  refine wpQuiet_nil ?_
  refine wpPlan_takeL [2, 6] [(true, 3), (true, 7), (true, 8), (true, 9), (false, 10), (true, 11), (true, 12), (true, 13), (true, 14), (true, 15)] _ (by rfl) (by rfl) (⟨hc0, hc1⟩) ?_
  dsimp only [List.filterMap, List.getElem?_cons_zero, List.getElem?_cons_succ]
  (refine wpQuiet_load_cell (fun w' hw' => hw'.1) (by rfl) _ _ (by rfl) (by rfl) _ Tryd.underlying5 (by rfl) ?_; simp only [Act.put, List.setIfInBounds_toArray, List.set_cons_zero, List.set_cons_succ])
  (refine wpQuiet_load_cell (fun w' hw' => hw'.2) (by rfl) _ _ (by rfl) (by rfl) _ Tryd.underlying5 (by rfl) ?_; simp only [Act.put, List.setIfInBounds_toArray, List.set_cons_zero, List.set_cons_succ])
  refine wpQuiet_nil ?_
  refine wpPlan_pure [3, 7, 8, 9] [(false, 10), (true, 11), (true, 12), (true, 13), (true, 14), (true, 15)] _ (by rfl) (by rfl) ?_
  dsimp only [List.filterMap, List.getElem?_cons_zero, List.getElem?_cons_succ]
  repeat (go_big_quiet_step (fail))
  refine wpQuiet_nil ?_
  refine wpPlan_forceL _ rfl ?_
  go_wp2_with fail
  refine hnew.mono ?_
  rintro e w1 ⟨rfl, hs1, hB1⟩
  have hB1' : Below w.heap.size w w1 := (Below.refl _ _).drew.trans hB1
  have hlt1 := hs1.lt
  have d1 : w1.cell? ⟨w.heap.size, 0, none⟩ = some (.int .i64 (n : Int)) := hs1.at_ 0 (by rw [setCells, arr_at _ (by omega), setv_0, List.length_replicate])
  have HS1 := Lib.hid hs1
  clear hs1 hB1 hnew
  go_wp2_with fail
  refine PlanQ.in_ (CC _ hB1') ?_
  refine wpPlan_pure [11, 12, 13, 14, 15] [] _ (by rfl) (by rfl) ?_
  dsimp only [List.filterMap, List.getElem?_cons_zero, List.getElem?_cons_succ]
  repeat (go_big_quiet_step (fail))
  refine wpQuiet_nil ?_
  refine wpPlan_tidy ?_
  by_cases hlen : b.length = 2 + (n + 3) / 4
  · have hlen' : (2 : Int) + ((n : Int) + 3) / 4 = b.length := by omega
    have HL := Lib.hid hlen
    have hle2 : (b.length : Int) ≤ 130 := by omega
    clear hlen
    have ht : ((b.length : Int) != (b.length : Int)) = false := by simp
    have hpre : rdPre b = true := (rdPre_iff b).2 ⟨by omega, by have := HN.out; omega, by have := HN.out; omega, by rw [HL.out, HN.out]⟩
    clear ht
    have ht : ((b.length : Int) != (b.length : Int)) = false := by simp
    go_wp2
    clear ht d1
    go_loopw [6] (fun v wr => SetRdRel b w.heap.size n w1 v wr) (fun v _ => n + 1 - (intOf v).toNat)
    case atStart => exact ⟨0, by omega, rfl, fun i hi => by omega, HS1.out.sub (by rw [rdF_zero]), Upd.refl _ _⟩
    case round =>
      obtain ⟨k, hk, rfl, hbig, hw, hu⟩ := hrel
      have hBr : Below w.heap.size w wr := hB1'.upd hu (Nat.le_refl _)
      have d1 : wr.cell? ⟨w.heap.size, 0, none⟩ = some (.int .i64 (n : Int)) := hw.at_ 0 (by rw [setCells, arr_at _ (by omega), setv_0, rdF_length])
      by_cases hkn : k < n
      · obtain ⟨j, hj⟩ : ∃ j : Nat, j = k / 4 := ⟨_, rfl⟩
        obtain ⟨r, hr⟩ : ∃ r : Nat, r = k % 4 := ⟨_, rfl⟩
        have ej : (k : Int) / 4 = j := by omega
        have er : (k : Int) % 4 = r := by omega
        have hr4 : r < 4 := by omega
        have hlenN := HL.out
        have hjm : 2 + j < b.length := by omega
        have hz := (hBr.cell (p := ⟨bb, off + (2 + j), none⟩) hbl).trans (HC.out (2 + j) hjm)
        have hcr := crumb_w b k j r hj hr
        have hle3 : crumb b k ≤ 3 := by unfold crumb; omega
        generalize iu8 (b.getD (2 + j) 0) = z at hz hcr
        obtain ⟨cv, hcv⟩ : ∃ cv, cv = crumb b k := ⟨_, rfl⟩
        rw [← hcv] at hcr hle3
        have HCV := Lib.hid hcv
        have HW := Lib.hid hw
        have HU := Lib.hid hu
        have HB2 := Lib.hid hbig
        clear hw hu hbig hcv hj hr hlenN
        by_cases h3 : 2 < cv
        · have hno : rdOk b = false := by
            cases h : rdOk b
            · rfl
            · have := (rdBig_iff b).1 ((rdOk_iff b).1 h).2.1 k (by rw [← HN.out]; exact hkn); rw [← HCV.out] at this; omega
          go_wp2
          go_ret2
          exact ReadSet.no hno hBr
        · have hcv2 : cv ≤ 2 := by omega
          have hset := set_any (rdF n (cutAt (crumb b) k)) w.heap.size k cv hcv2 (by rw [rdF_length]; exact hkn) (by rw [rdF_length]; exact hn2) wr HW.out
          rw [show (rdF n (cutAt (crumb b) k)).set k cv = rdF n (cutAt (crumb b) (k + 1)) by rw [HCV.out]; exact rdF_set n (crumb b) k hkn] at hset
          go_wp2_with fail
          refine hset.mono ?_
          rintro e w2 ⟨rfl, hw2, hu2⟩
          have HW2 := Lib.hid hw2
          have HU2 := Lib.hid hu2
          clear hset hw2 hu2
          go_wp2
          go_roundw
          case rel => exact ⟨k + 1, by omega, by go_num, fun i hi => (by
            by_cases e : i = k
            · subst e; rw [← HCV.out]; exact hcv2
            · exact HB2.out i (by omega)), HW2.out, HU.out.trans HU2.out⟩
          case measure => simp [intOf]; omega
      · obtain rfl : k = n := by omega
        have hbg : rdBig b = true := (rdBig_iff b).2 fun i hi => hbig i (by rw [HN.out]; exact hi)
        have hok := rd_ok hpre hbg
        have hw2 : Blk wr w.heap.size 197 (setCells (rd b)) := hw.sub (by rw [rdF_all]; unfold rd; rw [HN.out])
        have hlr : 0 < (rd b).length := by rw [rd_length, ← HN.out]; omega
        have HW := Lib.hid hw2
        have hbr : Bytes wr (some ⟨bb, off, none⟩) b := Bytes.below HB.out hBr
        clear hw hu hbig hw2
        go_wp2
        refine wp_region_planT (fun w' => Bytes w' (some ⟨bb, off, none⟩) b) [] [(true, 0), (true, 3), (true, 4), (false, 1), (false, 2), (true, 5)] (by kernel_rfl) (by kernel_rfl) hbr ?_
        refine wpPlan_pure [0, 3] [(true, 4), (false, 1), (false, 2), (true, 5)] _ (by rfl) (by rfl) ?_
        dsimp only [List.filterMap, List.getElem?_cons_zero, List.getElem?_cons_succ]
        repeat (go_big_quiet_step (fail))
        refine wpQuiet_nil ?_
        refine wpPlan_takeL [4] [(false, 1), (false, 2), (true, 5)] _ (by rfl) (by rfl) hbr ?_
        dsimp only [List.filterMap, List.getElem?_cons_zero, List.getElem?_cons_succ]
        refine wpQuiet_convert_str (by rfl) 44 9 5 _ (by rfl) Tryd.underlying44 Tryd.underlying5 Tryd.underlying9 (some ⟨bb, off, none⟩) b.length c b (by rfl) rfl (fun w' hw' => hw') ?_
        simp only [Act.put, List.setIfInBounds_toArray, List.set_cons_zero, List.set_cons_succ]
        refine wpQuiet_nil ?_
        refine wpPlan_forceL _ rfl ?_
        go_wp2_with fail
        refine (bytes_any (rd b) hok hlr w.heap.size wr.drew HW.out.drew).mono ?_
        rintro e w3 ⟨rfl, hO, hB3⟩
        have hs3 : Blk w3 w.heap.size 197 (setCells (rd b)) := HW.out.drew.below hB3 HW.out.lt
        have hBB : Below w.heap.size w w3 := hBr.drew.trans (hB3.mono hBr.size)
        have hbr3 : Bytes w3 (some ⟨bb, off, none⟩) b := Bytes.below HB.out hBB
        have hel := enc_length (rd b)
        have hOb := hO.bytes
        have HS3 := Lib.hid hs3
        clear hO hs3 hB3
        go_wp2_with fail
        refine PlanQ.in_ hbr3 ?_
        refine wpPlan_forceL _ rfl ?_
        go_wp2_with (first
          | (show wpList _ _ _ ((⟨some 69, _, _, _, _, _⟩ : Oper) :: _) _ _; refine wpList_convert_str (o := ⟨some 69, _, _, _, _, _⟩) (by rfl) 44 9 5 _ (by rfl) Tryd.underlying44 Tryd.underlying5 Tryd.underlying9 (some ⟨wr.drew.heap.size, 0, none⟩) (2 + ((rd b).length + 3) / 4) (2 + ((rd b).length + 3) / 4) (enc (rd b)) (by rfl) hel.symm hOb ?_)
          | fail)
        refine PlanQ.in_ hbr3 ?_
        have hne : ((str (enc (rd b))).toList == (str b).toList) = decide (enc (rd b) = b) := str_beq _ _
        by_cases he : enc (rd b) = b
        · rw [decide_eq_true he] at hne
          have hne' : ((str (enc (rd b))).toList == (str b).toList) = true := hne
          have hyes : rdOk b = true := (rdOk_iff b).2 ⟨hpre, hbg, he⟩
          have HE := Lib.hid he
          clear hne he
          refine wpPlan_pure [5] [] _ (by rfl) (by rfl) ?_
          dsimp only [List.filterMap, List.getElem?_cons_zero, List.getElem?_cons_succ]
          repeat (go_big_quiet_step (fail))
          refine wpQuiet_nil ?_
          refine wpPlan_tidy ?_
          go_wp2
          go_ret2
          unfold ReadSet
          rw [if_pos hyes]
          exact ⟨w.heap.size, Nat.le_refl _, rfl, HS3.out, hBB⟩
        · rw [decide_eq_false he] at hne
          have hne' : ((str (enc (rd b))).toList == (str b).toList) = false := hne
          have hno : rdOk b = false := by
            cases h : rdOk b
            · rfl
            · exact absurd ((rdOk_iff b).1 h).2.2 he
          clear hne he
          refine wpPlan_pure [5] [] _ (by rfl) (by rfl) ?_
          dsimp only [List.filterMap, List.getElem?_cons_zero, List.getElem?_cons_succ]
          repeat (go_big_quiet_step (fail))
          refine wpQuiet_nil ?_
          refine wpPlan_tidy ?_
          go_wp2
          go_ret2
          exact ReadSet.no hno hBB
  · have hno : rdOk b = false := by
      cases h : rdOk b
      · rfl
      · have := (rdPre_iff b).1 ((rdOk_iff b).1 h).1; have := HN.out; omega
    have ht : ((b.length : Int) != 2 + ((n : Int) + 3) / 4) = true := by rw [bne_iff_ne]; omega
    have hle : 2 + ((n : Int) + 3) / 4 ≤ 200 := by omega
    clear hlen
    go_wp2
    go_ret2
    exact ReadSet.no hno hB1'
end Go.Proofs.YthfdjemlibecgaaDoor

/- Another set is a grid's: Reset; a grid is made of a set: Open. Conditions: the grid, or the disk, is known; the bytes can be read. -/
namespace Go.Proofs.YthfdjemlibecgaaDoor
open Go.RowKit
theorem cnts3 (L : List Nat) (h : ∀ i, L.getD i 0 ≤ 2) : cnts L 0 + cnts L 1 + cnts L 2 = L.length := by
  induction L with
  | nil => rfl
  | cons x L ih =>
    have h0 := h 0
    have h1 := ih (fun i => by have := h (i + 1); simpa using this)
    have hx : x = 0 ∨ x = 1 ∨ x = 2 := by simp at h0; omega
    unfold cnts at h1 ⊢
    rcases hx with rfl | rfl | rfl <;> simp <;> omega
theorem Near.mix {X Y : List Nat} {w w1 w2 : World} (h : Near X w w1) (k : Near Y w1 w2) (hY : ∀ y ∈ Y, y ∈ X ∨ w.heap.size ≤ y) : Near X w w2 :=
  ⟨k.os.trans h.os, k.tape.trans h.tape, k.output.trans h.output, Nat.le_trans h.size k.size, fun j hj hn => (k.block j (Nat.lt_of_lt_of_le hj h.size) (fun hm => (hY j hm).elim hn (fun h => by omega))).trans (h.block j hj hn)⟩
/-- Behind the last store: another set, that came since. -/
theorem GPost.last' {w w1 : World} {q : GPl} {g : Grd} {d : Dsk} {f : Option Fus} {L : List Nat} {gS : Nat} (hB : Below w.heap.size w w1)
    (hST : GridR (w1.setCell ⟨q.gg, 2, none⟩ (.pointer (some ⟨gS, 0, none⟩))) { q with gs := gS } { g with L := L } d f ∧ Upd q.gg w1 (w1.setCell ⟨q.gg, 2, none⟩ (.pointer (some ⟨gS, 0, none⟩)))) (hg : w.heap.size ≤ gS) :
    GPost w q { g with L := L } d f (w1.setCell ⟨q.gg, 2, none⟩ (.pointer (some ⟨gS, 0, none⟩))) := by
  refine ⟨{ q with gs := gS }, rfl, rfl, rfl, hST.1, (Near.below hB).trans (Near.upd hST.2 (GPl.mem.2 (.inl rfl))), fun y hy => ?_⟩
  rcases GPl.mem.1 hy with e | e | e | e | e
  · exact .inl (GPl.mem.2 (.inl e))
  · exact .inr (by rw [e]; exact hg)
  · exact .inl (GPl.mem.2 (.inr (.inr (.inl e))))
  · exact .inl (GPl.mem.2 (.inr (.inr (.inr (.inl e)))))
  · exact .inl (GPl.mem.2 (.inr (.inr (.inr (.inr e)))))
/-- What a Reset answers. -/
def greset (g : Grd) (b : List UInt8) : Int × Grd := if rdOk b = true ∧ (rd b).length = g.n then (0, { g with L := rd b }) else (4, g)
section
variable {w : World} {q : GPl} {g : Grd} {d : Dsk} {f : Option Fus}
set_option maxRecDepth 100000 in
set_option maxHeartbeats 2000000 in
theorem greset_any (h : GridR w q g d f) (A : Option Addr) (n c : Nat) (b : List UInt8) (hn : n = b.length) (hb : Bytes w A b) (hl : b.length ≤ 9223372036854775807) :
    Calls Tryd.prog 58 #[.pointer (some ⟨q.gg, 0, none⟩), .slice A n c] w fun e w' => e = .returned (.int .i64 (greset g b).1) ∧ GPost w q (greset g b).2 d f w' := by
  subst hn
  have hn := gnone_any h
  have hr := setRead_any A c b w hb hl
  have H0 := Lib.hid h
  clear h hb hl
  go_enter Tryd.func58, Tryd.ntmps58
  go_wp2_with fail
  refine hn.mono ?_
  rintro e w1 ⟨rfl, hw⟩
  obtain rfl := hw.symm
  clear hn hw
  go_wp2_with fail
  refine hr.mono ?_
  rintro e w2 hR
  by_cases hok : rdOk b = true
  case neg =>
    unfold ReadSet at hR
    rw [if_neg hok] at hR
    obtain ⟨rfl, hB⟩ := hR
    have HL : Hid (greset g b = (4, g)) := Lib.hid (if_neg (fun h => hok h.1))
    have HP := Lib.hid (GPost.same H0.out hB)
    clear hB hr hok
    go_wp2
    go_ret
    rw [HL.out]
    exact ⟨rfl, HP.out⟩
  unfold ReadSet at hR
  rw [if_pos hok] at hR
  obtain ⟨gS, hgS, rfl, hst, hB⟩ := hR
  have hpre := (rdOk_iff b).1 hok
  have hset := rd_ok hpre.1 hpre.2.1
  have hlen := rd_length b
  have hrn := (rdPre_iff b).1 hpre.1
  have hc := counts_any (rd b) hset (by omega) gS w2 hst
  have hsum := cnts3 (rd b) hset.le
  have H2 := Lib.hid (And.intro hst (And.intro hB (And.intro hset (And.intro hgS hok))))
  have hn512 : (rd b).length ≤ 512 := hset.len
  clear hr hok hst hB hpre hset hgS hrn hlen
  go_wp2_with fail
  refine hc.mono ?_
  rintro e w3 ⟨rfl, hbx⟩
  have hB3 := H2.out.2.1.trans (hbx.mono H2.out.2.1.size)
  have hst3 := H2.out.1.below hbx H2.out.1.lt
  have hG3 := H0.out.below hB3
  obtain ⟨wv, hgb⟩ := hG3.blk
  have d1 := hgb.at_ 1 (v := .int .i64 (g.n : Int)) rfl
  have d2 := hgb.at_ 2 (v := .pointer (some ⟨q.gs, 0, none⟩)) rfl
  have f2 := hgb.frozen 2
  have H3 := Lib.hid (And.intro hB3 (And.intro hst3 hG3))
  have hw1 : wrap64 ((cnts (rd b) 0 : Int) + (cnts (rd b) 1 : Int)) = (cnts (rd b) 0 : Int) + (cnts (rd b) 1 : Int) := w64_in (by omega)
  have hw2 : wrap64 ((cnts (rd b) 0 : Int) + (cnts (rd b) 1 : Int) + (cnts (rd b) 2 : Int)) = ((rd b).length : Int) := by rw [w64_in (by omega)]; omega
  clear hc hbx hB3 hst3 hG3 hgb
  by_cases he : (rd b).length = g.n
  case neg =>
    have HL : Hid (greset g b = (4, g)) := Lib.hid (if_neg (fun h => he h.2))
    have kn : (((rd b).length : Int) != (g.n : Int)) = true := by rw [bne_iff_ne]; omega
    clear hsum hn512 d2 f2
    go_wp2
    go_ret
    rw [HL.out]
    exact ⟨rfl, GPost.same H0.out H3.out.1⟩
  have HL : Hid (greset g b = (0, { g with L := rd b })) := Lib.hid (if_pos ⟨H2.out.2.2.2.2, he⟩)
  have kn : (((rd b).length : Int) != (g.n : Int)) = false := by rw [he]; simp
  have hST := GridR.setTo H3.out.2.2 H3.out.2.1 H2.out.2.2.1 he
  have HP := Lib.hid (GPost.last' H3.out.1 hST H2.out.2.2.2.1)
  clear hsum hn512 hST he
  go_wp2
  go_ret
  rw [HL.out]
  exact ⟨rfl, HP.out⟩
end
/-- What an Open leaves. -/
def GOpenPost (w : World) (p : Pl) (gf : Option Nat) (d : Dsk) (f : Option Fus) (n : Nat) (b : List UInt8) (e : Ending) (w' : World) : Prop :=
  (if rdOk b = true ∧ (rd b).length = n then ∃ q : GPl, q.p = p ∧ q.gf = gf ∧ e = .returned (.tuple #[.pointer (some ⟨q.gg, 0, none⟩), .int .i64 0]) ∧ GridR w' q ⟨n, rd b, []⟩ d f ∧ (∀ x ∈ q.all, x ∈ p.all gf ∨ w.heap.size ≤ x)
   else e = .returned (.tuple #[.pointer none, .int .i64 4])) ∧ Near (p.all gf) w w'
section
variable {w : World} {p : Pl} {gf : Option Nat} {d : Dsk} {f : Option Fus}
set_option maxRecDepth 100000 in
set_option maxHeartbeats 2000000 in
theorem gopen_any (h : DkOk w p gf d f) (ho : d.isOut f = false) (n : Nat) (h1 : 1 ≤ n) (h2 : n ≤ 512) (hr : 104 + 4 * n ≤ d.N) (A : Option Addr) (m c : Nat) (b : List UInt8) (hn : m = b.length) (hb : Bytes w A b) (hl : b.length ≤ 9223372036854775807) :
    Calls Tryd.prog 61 #[.pointer (some ⟨p.gd, 0, none⟩), .int .i64 (n : Int), .slice A m c] w (GOpenPost w p gf d f n b) := by
  have hnew := gnew_any h ho n h1 h2 hr
  have H0 := Lib.hid (And.intro h (And.intro hb (And.intro hl hn)))
  clear h ho h1 h2 hr hb hl hn
  go_enter Tryd.func61, Tryd.ntmps61
  go_wp2_with fail
  refine hnew.mono ?_
  rintro e w1 ⟨q, hqp, hqf, rfl, hG, hge, hB⟩
  have hrs := greset_any hG A m c b H0.out.2.2.2 (Bytes.below H0.out.2.1 hB) H0.out.2.2.1
  have H1 := Lib.hid (And.intro hqp (And.intro hqf (And.intro hge hB)))
  clear hnew hqp hqf hge hG hB
  go_wp2_with fail
  refine hrs.mono ?_
  rintro e w2 ⟨rfl, q', e1, e2, e3, k1, k2, k3⟩
  have hq1 : ∀ x ∈ q.all, x ∈ p.all gf ∨ w.heap.size ≤ x := fun x hx => by
    rcases GPl.mem.1 hx with e | e | e | e | e
    · exact .inr (e ▸ H1.out.2.2.1.1)
    · exact .inr (e ▸ H1.out.2.2.1.2.1)
    · exact .inr (e ▸ H1.out.2.2.1.2.2.1)
    · rw [H1.out.2.2.1.2.2.2] at e; cases e
    · rw [H1.out.1, H1.out.2.1] at e; exact .inl e
  have hN := Near.mix (Near.below (X := p.all gf) H1.out.2.2.2) k2 hq1
  have hq2 : ∀ x ∈ q'.all, x ∈ p.all gf ∨ w.heap.size ≤ x := fun x hx => (k3 x hx).elim (hq1 x) (fun h => .inr (Nat.le_trans H1.out.2.2.2.size h))
  by_cases hc : rdOk b = true ∧ (rd b).length = n
  · have hg : greset ⟨n, List.replicate n 0, []⟩ b = (0, ⟨n, rd b, []⟩) := if_pos hc
    rw [hg] at k1 ⊢
    have H2 := Lib.hid (And.intro k1 (And.intro hN (And.intro hq2 (And.intro e1 (And.intro (e2.trans H1.out.1) (And.intro (e3.trans H1.out.2.1) hc))))))
    clear hg k1 hN hq2 e1 e2 e3 hc k2 k3 hq1 hrs
    go_wp2
    go_ret2
    unfold GOpenPost
    refine ⟨?_, H2.out.2.1⟩
    rw [if_pos H2.out.2.2.2.2.2.2]
    exact ⟨q', H2.out.2.2.2.2.1, H2.out.2.2.2.2.2.1, by rw [H2.out.2.2.2.1]; rfl, H2.out.1, H2.out.2.2.1⟩
  · have hg : greset ⟨n, List.replicate n 0, []⟩ b = (4, ⟨n, List.replicate n 0, []⟩) := if_neg hc
    rw [hg] at ⊢
    have H2 := Lib.hid (And.intro hN hc)
    clear hg k1 hN hq2 e1 e2 e3 hc k2 k3 hq1 hrs
    go_wp2
    go_ret2
    unfold GOpenPost
    refine ⟨?_, H2.out.1⟩
    rw [if_neg H2.out.2]
    rfl
end
end Go.Proofs.YthfdjemlibecgaaDoor

/- An index block of the grid is read: the program's none and open. Condition: the grid is known. -/
namespace Go
open Go.RowKit
theorem run_cutB {P : Program} (w : World) (t e : TypeId) (ht : P.underlying t = some (.slice e)) (hsz : (P.info? e).map (·.size) = some 1) (A : Option Addr) (n c : Nat) (k k2 : IntKind) (lo hi : Nat) (h1 : lo ≤ hi) (h2 : hi ≤ c) :
    (Instr.sliceAt t (.slice A n c) (some (.int k (lo : Int))) (some (.int k2 (hi : Int))) none).run P w = .ok (.slice (if c = lo then A else A.map (·.add lo)) (hi - lo) (c - lo)) w := by
  obtain ⟨i, hi0, hs⟩ := Option.map_eq_some_iff.1 hsz
  have hsz' : (sizeOf e).run P w = .ok 1 w := by simp [sizeOf, typeInfo, hi0, hs]
  have hb1 : (Instr.sliceBound (.int k2 (hi : Int)) c .sliceAcap).run P w = .ok hi w := by
    have := run_sliceBound (P := P) w k2 (hi : Int) c .sliceAcap (by omega) (by omega)
    simpa using this
  have hb2 : (Instr.sliceBound (.int k (lo : Int)) hi .sliceB).run P w = .ok lo w := by
    have := run_sliceBound (P := P) w k (lo : Int) hi .sliceB (by omega) (by omega)
    simpa using this
  simp [Instr.sliceAt, Instr.slice, run_underlying ht, Instr.sliceBounds, hb1, hb2, hsz']
/-- s[lo:hi] of bytes, in a class of worlds. -/
theorem wpQuiet_cutB {P : Program} {ops : Array Oper} {C : World → Prop} {Q : Act → Prop} {rest : List Oper} {o : Oper} {a : Act} (hgd : o.guard = none) (t : TypeId) (x lo hi : Operand) (ho : o.op = .slice t x (some lo) (some hi) none) (e : TypeId)
    (ht : P.underlying t = some (.slice e)) (hsz : (P.info? e).map (·.size) = some 1) (A : Option Addr) (n c : Nat) (k k2 : IntKind) (L H : Nat) (hx : a.eval x = .slice A n c) (hlo : a.eval lo = .int k (L : Int)) (hhi : a.eval hi = .int k2 (H : Int)) (h1 : L ≤ H) (h2 : H ≤ c)
    (h : wpQuiet P ops C Q rest (a.put o.dst (.slice (if c = L then A else A.map (·.add L)) (H - L) (c - L)))) : wpQuiet P ops C Q (o :: rest) a := by
  refine wpQuiet_step fun K hK => ?_
  rw [if_pos (by simp [Region.wanted, hgd])]
  refine ⟨_, fun w hw => ?_, hK _ h⟩
  unfold Oper.quietAt execOp
  simp only [ho, hx, hlo, hhi, Option.map_some, Option.map_none, run_cutB w t e ht hsz A n c k k2 L H h1 h2, Sem.run_bind, Result.andThen_ok, Sem.run_pure]
  exact ⟨rfl, rfl⟩
theorem Bytes.cutB {w : World} {A : Option Addr} {l : List UInt8} (h : Bytes w A l) {lo hi c : Nat} (h2 : hi ≤ l.length) (hc : l.length ≤ c) : Bytes w (if c = lo then A else A.map (·.add lo)) ((l.drop lo).take (hi - lo)) :=
  (h.drop (k := lo) (cap := c) (by omega)).take _
namespace Proofs.YthfdjemlibecgaaDoor
/-- A grid that is there is one. -/
theorem tnone_any {w : World} {q : GPl} {g : Grd} {d : Dsk} {f : Option Fus} (h : GridR w q g d f) : Calls Tryd.prog 115 #[.pointer (some ⟨q.gg, 0, none⟩)] w fun e w' => e = .returned (.bool false) ∧ Below w.heap.size w w' := by
  have hc := gcounts_any h
  have h3 := cnts3 g.L h.ok.set.le
  have hl := h.ok.len
  have h1 := h.ok.h1
  have h5 := h.ok.h512
  generalize cnts g.L 0 = a at hc h3
  generalize cnts g.L 1 = b at hc h3
  generalize cnts g.L 2 = c at hc h3
  have ha : a ≤ 512 := by omega
  have hb : b ≤ 512 := by omega
  have hc5 : c ≤ 512 := by omega
  have hs : ¬ (a + b + c = 0) := by omega
  clear h h3 hl h1 h5
  have k1 : wrap64 ((a : Int) + (b : Int)) = ((a + b : Nat) : Int) := by rw [w64_in (by omega)]; omega
  have k2 : wrap64 (((a + b : Nat) : Int) + (c : Int)) = ((a + b + c : Nat) : Int) := by rw [w64_in (by omega)]; omega
  have k3 : (((a + b + c : Nat) : Int) == 0) = false := beq_eq_false_iff_ne.2 (by omega)
  have k4 : ((a : Int) + (b : Int) + (c : Int) == 0) = false := beq_eq_false_iff_ne.2 (by omega)
  have HK := Lib.hid hs
  clear hs
  go_enter Tryd.func115, Tryd.ntmps115
  go_wp2_with fail
  refine hc.mono ?_
  rintro e w1 ⟨rfl, hbx⟩
  have HB := Lib.hid hbx
  clear hc hbx
  go_wp2_with fail
  go_ret
  exact ⟨rfl, HB.out⟩
end Proofs.YthfdjemlibecgaaDoor
end Go
