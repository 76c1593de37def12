/- A header's bytes, as the program lays them. Conditions: the numbers of four bytes are from 0 on and below 2^32, the others below 2^64. -/
import Derived.Test.YtekdcjaljjlemaaDoorMSlotWrites7
namespace Go.Proofs.YtekdcjaljjlemaaDoor
open Go.RowKit
def zero256 : Array Value := arr 256 fun _ => .int .u8 0
theorem size256 : (Tryd.prog.info? 81).map (·.size) = some 256 := by kernel_rfl
theorem alloc256 (w : World) : (zeroValue 81).run Tryd.prog w = .ok (.agg zero256) w := by
  have h : (Tryd.prog.info? 81).map (fun i => (i.zero, i.size)) = some (some (.agg zero256), 256) := by kernel_rfl
  exact (zero_of_info h).1 w
/-- A list of 256 bytes of which the first are these, the others noughts. -/
def fill (P : List UInt8) : List UInt8 := P ++ List.replicate (256 - P.length) 0
theorem fill_length (P : List UInt8) (h : P.length ≤ 256) : (fill P).length = 256 := by unfold fill; rw [List.length_append, List.length_replicate]; omega
theorem fill_copy (P l : List UInt8) (h : P.length + l.length ≤ 256) : (fill P).take P.length ++ (l ++ (fill P).drop (P.length + l.length)) = fill (P ++ l) := by
  unfold fill
  rw [List.take_left, List.drop_append, List.drop_of_length_le (by omega), List.nil_append, List.drop_replicate, List.length_append, List.append_assoc]
  congr 3
  omega
theorem fill_four (P l : List UInt8) (n : Nat) (hl : l.length = n) (h : P.length + n ≤ 256) : P ++ (l ++ (List.replicate (256 - P.length) (0 : UInt8)).drop n) = fill (P ++ l) := by
  unfold fill
  rw [List.drop_replicate, List.length_append, List.append_assoc, hl]
  congr 3
  omega
theorem fill_snoc (P : List UInt8) (b : UInt8) (h : P.length < 256) : (fill P).set P.length b = fill (P ++ [b]) := by
  unfold fill
  rw [List.set_append_right _ _ (Nat.le_refl _), Nat.sub_self, List.length_append, List.append_assoc]
  congr 1
  obtain ⟨n, hn⟩ : ∃ n, 256 - P.length = n + 1 := ⟨255 - P.length, by omega⟩
  rw [hn, List.replicate_succ, List.set_cons_zero, show 256 - (P.length + [b].length) = n by simp; omega]
  rfl
theorem fill_zero : List.replicate 256 (0 : UInt8) = fill (List.replicate 16 0) := by unfold fill; rw [List.length_replicate, List.replicate_append_replicate]
theorem arr_const' (n : Nat) (v : Value) : arr n (fun _ => v) = (List.replicate n v).toArray := by
  apply Array.ext_getElem?; intro i
  rw [arr_get, List.getElem?_toArray, List.getElem?_replicate]
theorem zero256_list : zero256 = ((fill (List.replicate 16 0)).map u8v).toArray := by
  rw [← fill_zero, List.map_replicate]; exact arr_const' 256 _
theorem set_u8 (L : List UInt8) (i : Nat) (b : UInt8) : ((L.map u8v).toArray).setIfInBounds i (.int .u8 (iu8 b)) = ((L.set i b).map u8v).toArray := by simp [List.map_set, u8v]
def thirteen : List Nat := [0, 1, 2, 3, 4, 5, 6, 7, 8, 11, 12, 14, 15]
def Hd.nat (f : HdF) : Prop := ∀ i ∈ thirteen, 0 ≤ f i ∧ f i < 4294967296
/-- What the call's own blocks hold: the header in its box, the seal in its, the result's noughts, the bytes so far. -/
structure HInv (w0 : World) (s0 : Nat) (f : HdF) (s L : List UInt8) (wr : World) : Prop where
  box : Blk wr s0 26 (hdc f)
  sl : Blk wr (s0 + 1) 70 (s.map u8v).toArray
  res : Blk wr (s0 + 1 + 1) 81 zero256
  raw : Blk wr (s0 + 1 + 1 + 1) 81 (L.map u8v).toArray
  bel : Below s0 w0 wr
theorem HInv.upd {w0 : World} {s0 : Nat} {f : HdF} {s L L' : List UInt8} {wr w' : World} (h : HInv w0 s0 f s L wr) (u : Upd (s0 + 1 + 1 + 1) wr w') (hg : Blk w' (s0 + 1 + 1 + 1) 81 (L'.map u8v).toArray) : HInv w0 s0 f s L' w' :=
  ⟨h.box.upd u (by omega), h.sl.upd u (by omega), h.res.upd u (by omega), hg, h.bel.upd u (by omega)⟩
theorem HInv.below {w0 : World} {s0 : Nat} {f : HdF} {s L : List UInt8} {wr w' : World} (h : HInv w0 s0 f s L wr) (hb : Below wr.heap.size wr w') : HInv w0 s0 f s L w' :=
  ⟨keep hb h.box, keep hb h.sl, keep hb h.res, keep hb h.raw, h.bel.trans (hb.mono (by have := h.box.lt; omega))⟩
theorem HInv.drew {w0 : World} {s0 : Nat} {f : HdF} {s L : List UInt8} {wr : World} (h : HInv w0 s0 f s L wr) : HInv w0 s0 f s L wr.drew := ⟨h.box, h.sl, h.res, h.raw, h.bel.drew⟩
instance {w0 : World} {s0 : Nat} {f : HdF} {s L : List UInt8} {w w' : World} : KeepsTo w w' (HInv w0 s0 f s L w) (HInv w0 s0 f s L w') := ⟨fun hb h => h.below hb⟩
theorem hfour_fill (g hb n len pb m : Nat) (t : TypeId) (f : HdF) (P : List UInt8) (idx : List Nat) (hn : P.length = n) (hm : idx.length = m) (h4 : n + len = 256) (hl : 4 * m ≤ len) (w : World) (hg : Blk w g t ((fill P).map u8v).toArray)
    (hp : Blk w pb t (pts hb idx) ∨ ∃ t', Blk w pb t' (pts hb idx)) (hbx : Blk w hb 26 (hdc f)) (hf : Hd.nat f) (hi : ∀ i ∈ idx, i ∈ thirteen) (hne : pb ≠ g ∧ hb ≠ g) :
    Calls Tryd.prog 55 #[.slice (some ⟨g, n, none⟩) len len, .slice (some ⟨pb, 0, none⟩) m m] w fun e w' =>
      e = .returned (.tuple #[]) ∧ Blk w' g t ((fill (P ++ four_ f idx)).map u8v).toArray ∧ Upd g w w' := by
  subst hn hm
  have hp' : ∀ j, j < idx.length → w.cell? ⟨pb, 0 + j, none⟩ = some (.pointer (some ⟨hb, idx.getD j 0, none⟩)) := fun j hj => by
    have hc : (pts hb idx)[0 + j]? = some (.pointer (some ⟨hb, idx.getD j 0, none⟩)) := by
      rw [Nat.zero_add]; unfold pts
      rw [List.getElem?_toArray, List.getElem?_map, List.getElem?_eq_getElem hj, List.getD_eq_getElem?_getD, List.getElem?_eq_getElem hj]; rfl
    rcases hp with h | ⟨t', h⟩
    · exact h.at_ _ hc
    · exact h.at_ _ hc
  have hmem : ∀ j, j < idx.length → idx.getD j 0 ∈ thirteen := fun j hj => by
    rw [List.getD_eq_getElem?_getD, List.getElem?_eq_getElem hj]; exact hi _ (List.getElem_mem hj)
  have h13 : ∀ i ∈ thirteen, i < 16 ∧ i ≠ 9 ∧ i ≠ 10 ∧ i ≠ 13 := by decide
  refine (hfour_any g len len hb t f P (List.replicate (256 - P.length) 0) idx pb 0 idx.length hl (by rw [List.length_replicate]; omega) (by omega) w hg hp' (fun j hj => ?_) hne).mono ?_
  · have hm := hmem j hj
    obtain ⟨h1, h2, h3, h5⟩ := h13 _ hm
    exact ⟨hbx.at_ _ (hdc_at f _ h1 h2 h3 h5), hf _ hm⟩
  · rintro e w' ⟨he, hg', hu⟩
    refine ⟨he, ?_, hu⟩
    rw [fill_four P (four_ f idx) (4 * idx.length) (four_length f idx) (by omega)] at hg'
    exact hg'
def TimeRel (w0 : World) (s0 : Nat) (f : HdF) (s P : List UInt8) (T g1 : Nat) (v : Value) (wr : World) : Prop :=
  ∃ j : Nat, j ≤ 8 ∧ v = .int .i64 (j : Int) ∧ HInv w0 s0 f s (fill (P ++ (le8 T).take j)) wr ∧ Blk wr (g1 + 1 + 1) 73 (pts s0 [14, 15])
theorem time_step (P : List UInt8) (T j : Nat) (hP : P.length = 92) (hj : j < 8) (b : UInt8) (hb : b = b8 T j) : (fill (P ++ (le8 T).take j)).set (92 + j) b = fill (P ++ (le8 T).take (j + 1)) := by
  subst hb
  have hl : (P ++ (le8 T).take j).length = 92 + j := by rw [List.length_append, List.length_take, le8_length]; omega
  have h := fill_snoc (P ++ (le8 T).take j) (b8 T j) (by omega)
  rw [hl] at h
  rw [h, List.append_assoc, List.take_succ_eq_append_getElem (by rw [le8_length]; omega)]
  congr 4
  have : j = 0 ∨ j = 1 ∨ j = 2 ∨ j = 3 ∨ j = 4 ∨ j = 5 ∨ j = 6 ∨ j = 7 := by omega
  rcases this with rfl | rfl | rfl | rfl | rfl | rfl | rfl | rfl <;> simp [le8_b8]
set_option maxRecDepth 100000 in
set_option maxHeartbeats 4000000 in
theorem hlaid_any (f : HdF) (s : List UInt8) (hs : s.length = 16) (hf : Hd.nat f) (hin : Hd.in_ f) (w : World) :
    Calls Tryd.prog 40 #[.agg (hdc f), .agg (s.map u8v).toArray] w fun e w' => e = .returned (.agg ((List.replicate 16 0 ++ Hd.rest f s).map u8v).toArray) ∧ Below w.heap.size w w' := by
  have a256 := alloc256
  obtain ⟨s0, hs0⟩ : ∃ s0, s0 = w.heap.size := ⟨_, rfl⟩
  have hI : HInv w s0 f s (fill (List.replicate 16 0)) ((((w.alloc (.cells (hdc f) 26)).alloc (.cells (s.map u8v).toArray 70)).alloc (.cells zero256 81)).alloc (.cells zero256 81)) := by
    subst hs0
    refine ⟨(((Blk.new _ _ _).alloc _).alloc _).alloc _, ((Blk.new' _ _ _ (by simp)).alloc _).alloc _, (Blk.new' _ _ _ (by simp)).alloc _, ?_, ((((Below.refl _ _).alloc (Nat.le_refl _) _).alloc (by simp) _).alloc (by simp; omega) _).alloc (by simp; omega) _⟩
    have := Blk.new' (((w.alloc (.cells (hdc f) 26)).alloc (.cells (s.map u8v).toArray 70)).alloc (.cells zero256 81)) 81 zero256 (n := w.heap.size + 1 + 1 + 1) (by simp)
    exact this.sub zero256_list
  go_enter Tryd.func40, Tryd.ntmps40
  go_wp2_with fail
  rw [← hs0]
  have HS0 := Lib.hid hs0
  clear hs0
  generalize (((w.alloc (.cells (hdc f) 26)).alloc (.cells (s.map u8v).toArray 70)).alloc (.cells zero256 81)).alloc (.cells zero256 81) = w1 at hI ⊢
  clear a256
  refine wp_region_planT (fun _ => True) [2] [(true, 0), (true, 1), (false, 2)] (by kernel_rfl) (by kernel_rfl) (trivial) ?_
  refine wpPlan_pure [0, 1] [(false, 2)] _ (by rfl) (by rfl) ?_
  dsimp only [List.filterMap, List.getElem?_cons_zero, List.getElem?_cons_succ]
  repeat (go_big_quiet_step (fail))
  refine wpQuiet_nil ?_
  refine wpPlan_forceL _ rfl ?_
  refine wpList_copy_at (by rfl) _ _ _ _ (by rfl) 5 Tryd.underlying27 size1 (s0 + 1 + 1 + 1) 16 240 240 (some ⟨s0 + 1, 0, none⟩) 16 16 (by rfl) (by rfl) _ s _ hI.drew.raw hs hI.drew.sl.bytes (by rw [fill_length _ (by simp), hs]; omega) (by omega) ?_
  intro w2 hg2 hu2
  have hI2 := hI.drew.upd hu2 hg2
  rw [show (fill (List.replicate 16 0)).take 16 ++ (s ++ (fill (List.replicate 16 0)).drop (16 + s.length)) = fill (List.replicate 16 0 ++ s) from fill_copy (List.replicate 16 0) s (by rw [List.length_replicate, hs]; omega)] at hI2
  clear hg2 hu2 hI
  have hP : (List.replicate 16 (0 : UInt8) ++ s).length = 32 := by rw [List.length_append, List.length_replicate, hs]
  have HREST : Hid (List.replicate 16 (0 : UInt8) ++ Hd.rest f s = (List.replicate 16 0 ++ s) ++ (Hd.mid f ++ List.replicate 148 0)) := Lib.hid (by unfold Hd.rest; rw [List.append_assoc])
  generalize List.replicate 16 (0 : UInt8) ++ s = P at hI2 hP HREST
  refine wpList_nil ?_
  refine PlanQ.out (by rfl) ?_
  refine wpPlan_tidy ?_
  simp only [Act.put, List.setIfInBounds_toArray, List.set_cons_zero, List.set_cons_succ]
  go_wp2_with fail
  refine (numbers_any s0 w2).mono ?_
  rintro e w3 ⟨rfl, hbx⟩
  (replace hI2 := keep hbx hI2; clear hbx)
  have b1 := Blk.new w3 72 (pts s0 [0, 1, 2, 3, 4, 5, 6, 7, 8])
  have b2 := Blk.new (w3.alloc (.cells (pts s0 [0, 1, 2, 3, 4, 5, 6, 7, 8]) 72)) 73 (pts s0 [11, 12])
  have b3 := Blk.new ((w3.alloc (.cells (pts s0 [0, 1, 2, 3, 4, 5, 6, 7, 8]) 72)).alloc (.cells (pts s0 [11, 12]) 73)) 73 (pts s0 [14, 15])
  replace b1 := (b1.alloc (.cells (pts s0 [11, 12]) 73)).alloc (.cells (pts s0 [14, 15]) 73)
  replace b2 := b2.alloc (.cells (pts s0 [14, 15]) 73)
  rw [show (w3.alloc (.cells (pts s0 [0, 1, 2, 3, 4, 5, 6, 7, 8]) 72)).heap.size = w3.heap.size + 1 by simp] at b2
  rw [show ((w3.alloc (.cells (pts s0 [0, 1, 2, 3, 4, 5, 6, 7, 8]) 72)).alloc (.cells (pts s0 [11, 12]) 73)).heap.size = w3.heap.size + 1 + 1 by simp] at b3
  have hB2 := (((Below.refl w3.heap.size w3).alloc (Nat.le_refl _) (.cells (pts s0 [0, 1, 2, 3, 4, 5, 6, 7, 8]) 72)).alloc (by simp) (.cells (pts s0 [11, 12]) 73)).alloc (by simp; omega) (.cells (pts s0 [14, 15]) 73)
  have hI3 := hI2.below hB2
  have hlt3 := hI2.raw.lt
  have H2 := Lib.hid (And.intro b1 (And.intro b2 (And.intro b3 (And.intro hI3 hlt3))))
  clear b1 b2 b3 hI2 hI3 hB2 hlt3
  simp only [pts, pt, List.map_cons, List.map_nil] at H2 ⊢
  go_wp2_with fail
  obtain ⟨b1, b2, b3, hI3, hlt3⟩ := H2.out
  clear H2
  generalize ((w3.alloc _).alloc _).alloc _ = w4 at b1 b2 b3 hI3 ⊢
  generalize w3.heap.size = g1 at b1 b2 b3 hlt3 ⊢
  refine wp_region_planT (fun w' => w' = w4.drew) [2] [(true, 0), (true, 1), (false, 2)] (by kernel_rfl) (by kernel_rfl) (rfl) ?_
  refine wpPlan_pure [0, 1] [(false, 2)] _ (by rfl) (by rfl) ?_
  dsimp only [List.filterMap, List.getElem?_cons_zero, List.getElem?_cons_succ]
  repeat (go_big_quiet_step (fail))
  refine wpQuiet_nil ?_
  refine wpPlan_forceL _ rfl ?_
  go_wp2_with fail
  refine (hfour_fill (s0 + 1 + 1 + 1) s0 32 224 g1 9 81 f P [0, 1, 2, 3, 4, 5, 6, 7, 8] hP rfl rfl (by omega) w4.drew hI3.drew.raw (.inr ⟨_, b1.drew⟩) hI3.drew.box hf (by decide) (by omega)).mono ?_
  rintro e w5 ⟨rfl, hg5, hu5⟩
  have hI5 := hI3.drew.upd hu5 hg5
  replace b2 := b2.drew.upd hu5 (by omega)
  replace b3 := b3.drew.upd hu5 (by omega)
  clear b1 hg5 hu5 hI3
  obtain ⟨P5, hP5⟩ : ∃ P5, P5 = P ++ four_ f [0, 1, 2, 3, 4, 5, 6, 7, 8] := ⟨_, rfl⟩
  have hl5 : P5.length = 68 := by rw [hP5, List.length_append, hP, four_length]; rfl
  rw [← hP5] at hI5
  have HP5 := Lib.hid hP5
  clear hP5
  go_wp2_with fail
  refine PlanQ.out (by rfl) ?_
  refine wpPlan_tidy ?_
  obtain ⟨hi, hhi⟩ : ∃ n : Nat, f 9 = (n : Int) := ⟨(f 9).toNat, by have := hin.1; omega⟩
  obtain ⟨lo, hlo⟩ : ∃ n : Nat, f 10 = (n : Int) := ⟨(f 10).toNat, by have := hin.2.2.1; omega⟩
  obtain ⟨T, hT⟩ : ∃ n : Nat, f 13 = (n : Int) := ⟨(f 13).toNat, by have := hin.2.2.2.2.1; omega⟩
  have d9 : w5.cell? ⟨s0, 9, none⟩ = some (.int .u64 (hi : Nat)) := (hI5.box.at_ 9 (hdc_u f 9 (by omega))).trans (by rw [hhi])
  have d10 : w5.cell? ⟨s0, 9 + 1, none⟩ = some (.int .u64 (lo : Nat)) := (hI5.box.at_ 10 (hdc_u f 10 (by omega))).trans (by rw [hlo])
  have HN := Lib.hid (And.intro hhi (And.intro hlo hT))
  have HF := Lib.hid (And.intro hf hin)
  clear hhi hlo hT hf hin
  go_wp2_with (first
    | (show wpList _ _ _ ((⟨some 23, _, _, _, _, _⟩ : Oper) :: _) _ _; refine wpList_load_mid (o := ⟨some 23, _, _, _, _, _⟩) (range2 (b := s0) (off := 9) (u := .int .u64 (hi : Nat)) (v := .int .u64 (lo : Nat)) (d9) (d10)) (by rfl) _ _ (by rfl) (by rfl) _ Tryd.underlying24 (by rfl) sizeU (by rfl) ?_)
    | fail)
  refine (id_any hi lo w5).mono ?_
  rintro e w6 ⟨rfl, hbx⟩
  (replace hI5 := keep hbx hI5; replace b2 := keep hbx b2; replace b3 := keep hbx b3; clear hbx d9 d10)
  rw [idv_all]
  have hid : (le8 lo ++ le8 hi).length = 16 := rfl
  obtain ⟨S, hS⟩ : ∃ S, S = le8 lo ++ le8 hi := ⟨_, rfl⟩
  rw [← hS] at hid ⊢
  have HS := Lib.hid hS
  clear hS
  have a16 := alloc16
  go_wp2_with (first
    | (show wpList _ _ _ ((⟨none, _, _, _, _, _⟩ : Oper) :: _) _ _; refine wpList_store_blk (o := ⟨none, _, _, _, _, _⟩) (Blk.new w6 70 zero16) (by rfl) _ _ _ (by rfl) (by rfl) (S.map u8v).toArray (by rfl) size16 (arr_size _ _) (by simp [hid]) (u8_all _) ?_; intro w7 h7 hux; have hbx := ((Below.refl _ _).alloc (Nat.le_refl _) (.cells zero16 70)).upd hux (Nat.le_refl w6.heap.size); replace hI5 := keep hbx hI5; replace b2 := keep hbx b2; replace b3 := keep hbx b3; clear hux hbx)
    | fail)
  clear a16
  simp only [Act.put]
  refine wp_region_planT (fun _ => True) [2] [(true, 0), (true, 1), (false, 2)] (by kernel_rfl) (by kernel_rfl) (trivial) ?_
  refine wpPlan_pure [0, 1] [(false, 2)] _ (by rfl) (by rfl) ?_
  dsimp only [List.filterMap, List.getElem?_cons_zero, List.getElem?_cons_succ]
  repeat (go_big_quiet_step (fail))
  refine wpQuiet_nil ?_
  refine wpPlan_forceL _ rfl ?_
  refine wpList_copy_at (by rfl) _ _ _ _ (by rfl) 5 Tryd.underlying27 size1 (s0 + 1 + 1 + 1) 68 188 188 (some ⟨w6.heap.size, 0, none⟩) 16 16 (by rfl) (by rfl) _ S _ hI5.drew.raw hid h7.drew.bytes (by rw [fill_length _ (by omega), hid]; omega) (by omega) ?_
  intro w8 hg8 hu8
  have hI8 := hI5.drew.upd hu8 hg8
  replace b2 := b2.drew.upd hu8 (by omega)
  replace b3 := b3.drew.upd hu8 (by omega)
  rw [show (fill P5).take 68 ++ (S ++ (fill P5).drop (68 + S.length)) = fill (P5 ++ S) by rw [← hl5]; exact fill_copy P5 S (by omega)] at hI8
  clear hg8 hu8 hI5 h7
  obtain ⟨P8, hP8⟩ : ∃ P8, P8 = P5 ++ S := ⟨_, rfl⟩
  have hl8 : P8.length = 84 := by rw [hP8, List.length_append, hl5, hid]
  rw [← hP8] at hI8
  have HP8 := Lib.hid hP8
  clear hP8 hid
  refine wpList_nil ?_
  refine PlanQ.out (by rfl) ?_
  refine wpPlan_tidy ?_
  simp only [Act.put, List.setIfInBounds_toArray, List.set_cons_zero, List.set_cons_succ]
  go_wp2_with fail
  refine wp_region_planT (fun w' => w' = w8.drew) [2] [(true, 0), (true, 1), (false, 2)] (by kernel_rfl) (by kernel_rfl) (rfl) ?_
  refine wpPlan_pure [0, 1] [(false, 2)] _ (by rfl) (by rfl) ?_
  dsimp only [List.filterMap, List.getElem?_cons_zero, List.getElem?_cons_succ]
  repeat (go_big_quiet_step (fail))
  refine wpQuiet_nil ?_
  refine wpPlan_forceL _ rfl ?_
  go_wp2_with fail
  refine (hfour_fill (s0 + 1 + 1 + 1) s0 84 172 (g1 + 1) 2 81 f P8 [11, 12] hl8 rfl rfl (by omega) w8.drew hI8.drew.raw (.inr ⟨_, b2.drew⟩) hI8.drew.box HF.out.1 (by decide) (by omega)).mono ?_
  rintro e w9 ⟨rfl, hg9, hu9⟩
  have hI9 := hI8.drew.upd hu9 hg9
  replace b3 := b3.drew.upd hu9 (by omega)
  clear b2 hg9 hu9 hI8
  obtain ⟨P9, hP9⟩ : ∃ P9, P9 = P8 ++ four_ f [11, 12] := ⟨_, rfl⟩
  have hl9 : P9.length = 92 := by rw [hP9, List.length_append, hl8, four_length]; rfl
  rw [← hP9] at hI9
  have HP9 := Lib.hid hP9
  clear hP9
  go_wp2_with fail
  refine PlanQ.out (by rfl) ?_
  refine wpPlan_tidy ?_
  go_wp2_with fail
  go_loopw [31] (fun v wr => TimeRel w s0 f s P9 T g1 v wr) (fun v _ => 8 - (intOf v).toNat)
  case atStart => exact ⟨0, by omega, rfl, by simpa using hI9, b3⟩
  case round =>
    obtain ⟨j, hj, rfl, hIj, hbj⟩ := hrel
    clear hI9 b3
    by_cases hlt : j < 8
    · have d13 : wr.cell? ⟨s0, 13, none⟩ = some (.int .u64 (T : Nat)) := (hIj.box.at_ 13 (hdc_u f 13 (by omega))).trans (by rw [HN.out.2.2])
      have fz := hIj.raw.frozen (92 + j)
      have hst := time_step P9 T j hl9 hlt _ rfl
      have HX : Hid (HInv w s0 f s (fill (P9 ++ (le8 T).take (j + 1))) (wr.setCell ⟨s0 + 1 + 1 + 1, 92 + j, none⟩ (.int .u8 (iu8 (b8 T j)))) ∧ Blk (wr.setCell ⟨s0 + 1 + 1 + 1, 92 + j, none⟩ (.int .u8 (iu8 (b8 T j)))) (g1 + 1 + 1) 73 (pts s0 [14, 15])) :=
        Lib.hid ⟨hIj.upd ((Upd.refl _ _).set _ _) ((hIj.raw.set_ (92 + j) (.int .u8 (iu8 (b8 T j)))).sub (by rw [set_u8, hst])), hbj.off (by omega) _⟩
      have dz : ∃ v, wr.cell? ⟨s0 + 1 + 1 + 1, 92 + j, none⟩ = some v := ⟨_, hIj.raw.at_ (92 + j) (by rw [List.getElem?_toArray, List.getElem?_map, List.getElem?_eq_getElem (by rw [fill_length _ (by rw [List.length_append, List.length_take, le8_length]; omega)]; omega)]; rfl)⟩
      obtain ⟨v, dz⟩ := dz
      clear hst hIj hbj
      have hcase : j = 0 ∨ j = 1 ∨ j = 2 ∨ j = 3 ∨ j = 4 ∨ j = 5 ∨ j = 6 ∨ j = 7 := by omega
      rcases hcase with rfl | rfl | rfl | rfl | rfl | rfl | rfl | rfl
      · go_wp2
        rw [b8_0]
        exact ⟨⟨1, by omega, rfl, HX.out⟩, by simp [intOf]⟩
      · go_wp2
        rw [b8_1]
        exact ⟨⟨2, by omega, rfl, HX.out⟩, by simp [intOf]⟩
      · go_wp2
        rw [b8_2]
        exact ⟨⟨3, by omega, rfl, HX.out⟩, by simp [intOf]⟩
      · go_wp2
        rw [b8_3]
        exact ⟨⟨4, by omega, rfl, HX.out⟩, by simp [intOf]⟩
      · go_wp2
        rw [b8_4]
        exact ⟨⟨5, by omega, rfl, HX.out⟩, by simp [intOf]⟩
      · go_wp2
        rw [b8_5]
        exact ⟨⟨6, by omega, rfl, HX.out⟩, by simp [intOf]⟩
      · go_wp2
        rw [b8_6]
        exact ⟨⟨7, by omega, rfl, HX.out⟩, by simp [intOf]⟩
      · go_wp2
        rw [b8_7]
        exact ⟨⟨8, by omega, rfl, HX.out⟩, by simp [intOf]⟩
    · obtain rfl : j = 8 := by omega
      rw [show (le8 T).take 8 = le8 T from rfl] at hIj
      obtain ⟨P10, hP10⟩ : ∃ P10, P10 = P9 ++ le8 T := ⟨_, rfl⟩
      have hl10 : P10.length = 100 := by rw [hP10, List.length_append, hl9, le8_length]
      rw [← hP10] at hIj
      have HP10 := Lib.hid hP10
      clear hP10 hj hlt
      rw [show ((8 : Nat) : Int) = 8 from rfl]
      go_wp2_with fail
      refine wp_region_planT (fun w' => w' = wr.drew) [2] [(true, 0), (true, 1), (false, 2)] (by kernel_rfl) (by kernel_rfl) (rfl) ?_
      refine wpPlan_pure [0, 1] [(false, 2)] _ (by rfl) (by rfl) ?_
      dsimp only [List.filterMap, List.getElem?_cons_zero, List.getElem?_cons_succ]
      repeat (go_big_quiet_step (fail))
      refine wpQuiet_nil ?_
      refine wpPlan_forceL _ rfl ?_
      go_wp2_with fail
      refine (hfour_fill (s0 + 1 + 1 + 1) s0 100 156 (g1 + 1 + 1) 2 81 f P10 [14, 15] hl10 rfl rfl (by omega) wr.drew hIj.drew.raw (.inr ⟨_, hbj.drew⟩) hIj.drew.box HF.out.1 (by decide) (by omega)).mono ?_
      rintro e w11 ⟨rfl, hg11, hu11⟩
      have hI11 := hIj.drew.upd hu11 hg11
      clear hg11 hu11 hIj hbj
      go_wp2_with fail
      refine PlanQ.out (by rfl) ?_
      refine wpPlan_tidy ?_
      have HZ : Hid (fill (P10 ++ four_ f [14, 15]) = List.replicate 16 0 ++ Hd.rest f s) := Lib.hid (by
        have hl : (P10 ++ four_ f [14, 15]).length = 108 := by rw [List.length_append, hl10, four_length]; rfl
        unfold fill
        rw [HREST.out, hl, HP10.out, HP9.out, HP8.out, HP5.out, HS.out]
        unfold Hd.mid
        rw [HN.out.1, HN.out.2.1, HN.out.2.2]
        simp only [List.append_assoc, Int.toNat_natCast])
      have HL : Hid ((List.replicate 16 (0 : UInt8) ++ Hd.rest f s).length = 256) := Lib.hid (by rw [List.length_append, Hd.rest_length f s hs, List.length_replicate])
      rw [HZ.out] at hI11
      obtain ⟨R, hR⟩ : ∃ R, R = List.replicate 16 (0 : UInt8) ++ Hd.rest f s := ⟨_, rfl⟩
      rw [← hR] at hI11 HL
      have HR := Lib.hid hR
      clear hR
      go_wp2_with (first
        | (show wpList _ _ _ ((⟨some 47, _, _, _, _, _⟩ : Oper) :: _) _ _; refine wpList_load_blk (o := ⟨some 47, _, _, _, _, _⟩) (hI11.raw) (by rfl) _ _ (by rfl) (by rfl) _ Tryd.underlying81 (by rfl) (size256) (by simpa using HL.out) ?_)
        | (show wpList _ _ _ ((⟨none, _, _, _, _, _⟩ : Oper) :: _) _ _; refine wpList_store_blk (o := ⟨none, _, _, _, _, _⟩) (hI11.res) (by rfl) _ _ _ (by rfl) (by rfl) ((R.map u8v).toArray) (by rfl) (size256) (arr_size _ _) (by simpa using HL.out) (u8_all _) ?_; intro w12 h12 hu12; have HB12 := Lib.hid (hI11.bel.upd hu12 (by omega)))
        | fail)
      refine bodyPost_ret (results_cell_row (by rfl) _ _ _ _ _ _ _ (by rfl) h12 Tryd.underlying81 (by rfl) (by rw [size256]; simpa using HL.out.symm)) rfl ⟨by rw [HR.out], by rw [← HS0.out]; exact HB12.out⟩
end Go.Proofs.YtekdcjaljjlemaaDoor

/- append(s, make([]byte, n)...) as the program's text has it: noughts behind an own list. Plain facts over any program. No condition. -/
namespace Go
open Go.RowKit
section
variable {P : Program} (w : World)
theorem run_append_zeros (base : Nat) (t tx ty e : TypeId) (k : IntKind) (i : TypeInfo) (ht : P.underlying t = some (.slice e)) (htx : P.underlying tx = some (.int k)) (hi : P.info? e = some i) (hz : i.zero = some (.int .u8 0))
    (hsize : i.size = 1) (hby : i.bytes = 1) (v : Value) (l sp : List UInt8) (hown : OwnB e w base v l sp) (m : Nat) (h63 : l.length + m ≤ 140737488355328) (hbase : base ≤ w.heap.size) :
    ∃ v' w' sp', (Builtin.append_ #[t, tx] ty #[v, .int .i64 (m : Int)]).run P w = .ok v' w' ∧ OwnB e w' base v' (l ++ List.replicate m 0) sp' ∧ w.grownBy w' v.ownBlock ∧
      (v'.ownBlock = v.ownBlock ∨ v'.ownBlock = some w.heap.size) := by
  have hwr : IntKind.i64.wrap (m : Int) = m := by rw [IntKind.wrap_i64]; omega
  have hzc : ∀ j, Builtin.zeroCells (Value.int .u8 0).cells j = ((List.replicate j (0 : UInt8)).map u8v).toArray := fun j => by
    unfold Builtin.zeroCells
    apply Array.ext_getElem?
    intro a
    rw [List.map_replicate]
    by_cases ha : a < j
    · simp [Value.cells, ha, Nat.mod_one]; rfl
    · simp [Value.cells, ha]
  have hA : ∀ w' : World, (asInt (.int .i64 (m : Int))).run P w' = .ok (m : Int) w' := fun w' => by simp [asInt, asIntOf]
  have hA0 : ∀ w' : World, (asInt (.int .i64 0)).run P w' = .ok 0 w' := fun w' => by simp [asInt, asIntOf]
  have hw0 : IntKind.i64.wrap 0 = 0 := by rw [IntKind.wrap_i64]; omega
  have hi63 : IntKind.i64.wrap (m : Int) = m := hwr
  have n0 : ¬ ((m : Int) < 0) := by omega
  have n1 : ¬ (281474976710656 < (m : Int)) := by omega
  have grown : ∀ (old : Nat) (row : Option Nat),
      OwnB e (w.drew.alloc (.cells ((l.map u8v).toArray ++ ((List.replicate m (0 : UInt8)).map u8v).toArray ++ ((List.replicate (grownCap w (l.length + m) old e - (l.length + m)) (0 : UInt8)).map u8v).toArray) e)) base
        (.slice (some ⟨w.heap.size, 0, none⟩) (l.length + m) (grownCap w (l.length + m) old e)) (l ++ List.replicate m 0) (List.replicate (grownCap w (l.length + m) old e - (l.length + m)) 0) ∧
      w.grownBy (w.drew.alloc (.cells ((l.map u8v).toArray ++ ((List.replicate m (0 : UInt8)).map u8v).toArray ++ ((List.replicate (grownCap w (l.length + m) old e - (l.length + m)) (0 : UInt8)).map u8v).toArray) e)) row := by
    intro old row
    refine ⟨.inr ⟨w.heap.size, _, by simp, hbase, ?_, by simpa using grownCap_ge w (l.length + m) old e, grownCap_le_maxLen w (l.length + m) old e (by unfold maxLen; omega), by simp, by simp⟩, ⟨rfl, rfl, rfl, by simp, fun k (hk : k < w.drew.heap.size) _ => Below.heap_alloc w.drew _ k hk⟩⟩
    refine (Blk.new w.drew e _).sub ?_
    simp
  rcases hown with ⟨rfl, hl0, hx0, hs0⟩ | ⟨g, cap, rfl, hbg, hg, hnc, hcm, hxl, hspl⟩
  · obtain rfl : l = [] := List.eq_nil_of_length_eq_zero hl0
    obtain rfl : sp = [] := by simpa using hs0
    rcases Nat.eq_zero_or_pos m with hm | hm
    · subst hm
      refine ⟨.slice none 0 0, w, [], ?_, OwnsC.nil e 1 w base, World.grownBy.refl w _, .inl rfl⟩
      simp [Builtin.append_, run_underlying ht, run_underlying htx, sizeOf, typeInfo, hi, hA0, hby, hw0]
    · have hgr := grown 0 (Value.ownBlock (.slice none 0 0))
      simp only [List.length_nil, Nat.zero_add] at hgr ⊢
      refine ⟨_, _, _, ?_, hgr.1, hgr.2, .inr rfl⟩
      have h5 : ¬ (m = 0) := by omega
      have h63' : ¬ (9223372036854775807 < (m : Int)) := by omega
      have h48' : ¬ (281474976710656 < Builtin.nextslicecap m 0) := by rw [nextslicecap_zero hm]; omega
      simp [Builtin.append_, run_underlying ht, run_underlying htx, sizeOf, typeInfo, zeroValue, hi, hz, hA, hsize, hby, hwr, n0, n1, h5, h63', h48', Question.forced, run_firstCells_none, newRow, grownCap, hzc]
  · by_cases hroom : l.length + m ≤ cap
    · rcases Nat.eq_zero_or_pos m with hm | hm
      · subst hm
        refine ⟨_, w, sp, ?_, by rw [List.replicate_zero, List.append_nil]; exact .inr ⟨g, cap, rfl, hbg, hg, hnc, hcm, hxl, hspl⟩, World.grownBy.refl w _, .inl rfl⟩
        simp [Builtin.append_, run_underlying ht, run_underlying htx, sizeOf, typeInfo, hi, hA0, hby, hw0, hnc, storeCells]
      · have hspl' : sp.length = cap - l.length := by simpa using hspl
        have hst := run_storeCells_at P g (l.length * 1) e ((List.replicate m (0 : UInt8)).map u8v) 0 ((l.map u8v ++ sp.map u8v).toArray) w hg (by simp; omega) (u8v_one _)
        simp only [Nat.add_zero, Nat.mul_one] at hst
        have h5 : ¬ (m = 0) := by omega
        refine ⟨.slice (some ⟨g, 0, none⟩) (l.length + m) cap, w.setRow g (((l.map u8v ++ sp.map u8v).toArray.toList.take l.length ++ (List.replicate m (0 : UInt8)).map u8v ++ (l.map u8v ++ sp.map u8v).toArray.toList.drop (l.length + ((List.replicate m (0 : UInt8)).map u8v).length)).toArray), sp.drop m, ?_, .inr ⟨g, cap, by simp, hbg, ?_, by simpa using hroom, hcm, by simp, ?_⟩, ⟨rfl, rfl, rfl, by simp, fun k _ hk => setRow_other w g k _ (fun e => hk (by simp [Value.ownBlock, e]))⟩, .inl rfl⟩
        rotate_left
        · refine (Blk.setRow (cs := (l.map u8v ++ sp.map u8v).toArray) hg _).sub ?_
          simp [List.drop_append]
        · simp; omega
        · simp [Builtin.append_, run_underlying ht, run_underlying htx, sizeOf, typeInfo, zeroValue, hi, hz, hA, hsize, hby, hwr, n0, n1, h5, hroom, hzc, Addr.add_lit]
          simp at hst
          rw [hst]
          simp
    · have hgr := grown cap (Value.ownBlock (.slice (some ⟨g, 0, none⟩) l.length cap))
      refine ⟨_, _, _, ?_, hgr.1, hgr.2, .inr rfl⟩
      have h5 : ¬ (m = 0) := by omega
      have h63' : ¬ (9223372036854775807 < ((l.length : Int) + (m : Int))) := by omega
      have h48' : ¬ (281474976710656 < Builtin.nextslicecap (l.length + m) cap) := by
        have := growslice_fits (need := l.length + m) (old := cap) (bytes := 1) (by omega) (by omega)
        omega
      have hfo := run_firstCells_some (P := P) w.drew 1 l.length ⟨g, 0, none⟩ l.length cap (l.map u8v) (by simp) (fun j u hu => by
        rw [Addr.add_lit, Nat.zero_add]
        have : w.cell? ⟨g, j, none⟩ = some u := by
          rw [Blk.cell hg]
          simp only [List.getElem?_toArray]
          rw [List.getElem?_append_left (List.getElem?_eq_some_iff.1 hu).1]; exact hu
        exact this)
      simp [Builtin.append_, run_underlying ht, run_underlying htx, sizeOf, typeInfo, zeroValue, hi, hz, hA, hsize, hby, hwr, n0, n1, h5, hroom, h63', h48', Question.forced, hfo, newRow, grownCap, hzc]
theorem wpList_append_zeros {w : World} {ops : Array Oper} {rest : List Oper} {o : Oper} {a : Act} {Q : Exit → Act → World → Prop} (hgd : o.guard = none) (s x : Operand) (t tx : TypeId)
    (ho : o.op = .call { callee := .builtin .append, args := #[s, x], argTypes := #[t, tx] })
    (base : Nat) (e : TypeId) (k : IntKind) (ht : P.underlying t = some (.slice e)) (htx : P.underlying tx = some (.int k)) (hi : (P.info? e).map (fun i => (i.zero, i.size, i.bytes)) = some (some (.int .u8 0), 1, 1))
    (v : Value) (l sp : List UInt8) (hs : a.eval s = v) (hown : OwnB e w base v l sp) (m : Nat) (hx : a.eval x = .int .i64 (m : Int)) (hlen : l.length + m ≤ 140737488355328) (hbase : base ≤ w.heap.size)
    (h : ∀ v' w' sp', OwnB e w' base v' (l ++ List.replicate m 0) sp' → w.grownBy w' v.ownBlock → (v'.ownBlock = v.ownBlock ∨ v'.ownBlock = some w.heap.size) → wpList P ops Q rest (a.put o.dst v') w') : wpList P ops Q (o :: rest) a w := by
  obtain ⟨i, hi0, hz, hsize, hby⟩ := info_parts hi
  obtain ⟨v', w', sp', hrun, h2, h3, h4⟩ := run_append_zeros (P := P) w base t tx o.type e k i ht htx hi0 hz hsize hby v l sp hown m hlen hbase
  refine wpList_plain hgd fun _ hK => ?_
  unfold Oper.wp execOp
  simp only [ho, resolve, invoke, builtin, Sem.run_bind, Sem.run_pure, Result.andThen_ok, List.map_toArray, List.map_cons, List.map_nil, hs, hx, hrun]
  exact hK _ _ (h v' w' sp' h2 h3 h4)
end
end Go

/- A header's bytes behind its seal, the document's. Conditions: the numbers of four bytes are from 0 on and below 2^32, the others below 2^64. -/
namespace Go.Proofs.YtekdcjaljjlemaaDoor
open Go.RowKit
def nine : List Nat := [0, 1, 2, 3, 4, 5, 6, 7, 8]
theorem nine_snoc (i : Nat) (h : i < 9) : nine.take (i + 1) = nine.take i ++ [i] := by
  have : i = 0 ∨ i = 1 ∨ i = 2 ∨ i = 3 ∨ i = 4 ∨ i = 5 ∨ i = 6 ∨ i = 7 ∨ i = 8 := by omega
  rcases this with rfl | rfl | rfl | rfl | rfl | rfl | rfl | rfl | rfl <;> rfl
def nines (f : HdF) : Array Value := #[.int .i64 (f 0), .int .i64 (f 1), .int .i64 (f 2), .int .i64 (f 3), .int .i64 (f 4), .int .i64 (f 5), .int .i64 (f 6), .int .i64 (f 7), .int .i64 (f 8)]
theorem nines_at (f : HdF) (i : Nat) (h : i < 9) : (nines f)[i]? = some (.int .i64 (f i)) := by
  have : i = 0 ∨ i = 1 ∨ i = 2 ∨ i = 3 ∨ i = 4 ∨ i = 5 ∨ i = 6 ∨ i = 7 ∨ i = 8 := by omega
  rcases this with rfl | rfl | rfl | rfl | rfl | rfl | rfl | rfl | rfl <;> rfl
def NineRel (w2 : World) (f : HdF) (s : List UInt8) (gl : Nat) (v5 v7 : Value) (wr : World) : Prop :=
  ∃ (i : Nat) (sp : List UInt8), i ≤ 9 ∧ v7 = .int .i64 (i : Int) ∧ OwnB 5 wr w2.heap.size v5 (s ++ four_ f (nine.take i)) sp ∧ Below w2.heap.size w2 wr ∧ Blk wr gl 3 (nines f) ∧ v5.ownBlock ≠ some gl
set_option maxRecDepth 100000 in
set_option maxHeartbeats 4000000 in
theorem rhbehind_any (f : HdF) (s : List UInt8) (hs : s.length = 16) (hf : Hd.nat f) (hin : Hd.in_ f) (w : World) :
    Calls Tryd.prog 45 #[.agg (hdc f), .agg (s.map u8v).toArray] w fun e w' => ∃ v sp, e = .returned v ∧ OwnB 5 w' w.heap.size v (Hd.rest f s) sp ∧ Below w.heap.size w w' := by
  have hb0 := (Blk.new w 26 (hdc f)).alloc (.cells (s.map u8v).toArray 70)
  have hb1 := Blk.new' (w.alloc (.cells (hdc f) 26)) 70 (s.map u8v).toArray (n := w.heap.size + 1) (by simp)
  have hB := Lib.hid (((Below.refl w.heap.size w).alloc (Nat.le_refl _) (.cells (hdc f) 26)).alloc (by simp) (.cells (s.map u8v).toArray 70))
  have HF := Lib.hid hf
  have HIN := Lib.hid hin
  have HS := Lib.hid hs
  clear hf hin hs
  go_enter Tryd.func45, Tryd.ntmps45
  go_wp2_with (first
    | (show wpList _ _ _ ((⟨some 11, _, _, _, _, _⟩ : Oper) :: _) _ _; go_must (generalize hw2 : (w.alloc (.cells (hdc f) 26)).alloc (.cells (s.map u8v).toArray 70) = w2 at hb0 hb1 hB ⊢); go_must (have hsz2 : w2.heap.size = w.heap.size + 1 + 1 := by simp [← hw2]); go_must (clear hw2); go_must (rw [← hsz2]); go_must (generalize hs0 : w.heap.size = s0 at hb0 hb1 hB hsz2 ⊢); go_must (have ho3 := OwnB.lit0 (e := 5) w2 (Nat.le_refl _)); go_must (have hS3 := (hb1.alloc (.cells #[] 5)).bytes); go_must (have hB3 : Below w2.heap.size w2 (w2.alloc (.cells #[] 5)) := (Below.refl _ _).alloc (Nat.le_refl _) _); go_must (refine wpList_append_bytes (o := ⟨some 11, _, _, _, _, _⟩) (by rfl) _ _ _ (by rfl) w2.heap.size _ Tryd.underlying27 u8info (.slice (some ⟨w2.heap.size, 0, none⟩) 0 0) [] [] (by rfl) ho3 (some ⟨s0 + 1, 0, none⟩) 16 s (by rw [HS.out]; rfl) hS3 (by rw [HS.out, List.length_nil]; omega) hB3.size ?_); go_must (intro v4 w4 sp4 ho4 hg4 _ _); go_must (have hB4 := hB3.grown hg4 hB3.size (fun k hk => (OwnsC.lt ho3 k hk).1)); go_must (rw [List.nil_append] at ho4); go_must (clear ho3 hS3 hB3 hg4); go_must (have hbx := hb0.below hB4 hb0.lt); go_must (have c0 := hbx.at_ 0 (hdc_at f 0 (by omega) (by omega) (by omega) (by omega))); go_must (have c1 := hbx.at_ 1 (hdc_at f 1 (by omega) (by omega) (by omega) (by omega))); go_must (have c2 := hbx.at_ 2 (hdc_at f 2 (by omega) (by omega) (by omega) (by omega))); go_must (have c3 := hbx.at_ 3 (hdc_at f 3 (by omega) (by omega) (by omega) (by omega))); go_must (have c4 := hbx.at_ 4 (hdc_at f 4 (by omega) (by omega) (by omega) (by omega))); go_must (have c5 := hbx.at_ 5 (hdc_at f 5 (by omega) (by omega) (by omega) (by omega))); go_must (have c6 := hbx.at_ 6 (hdc_at f 6 (by omega) (by omega) (by omega) (by omega))); go_must (have c7 := hbx.at_ 7 (hdc_at f 7 (by omega) (by omega) (by omega) (by omega))); go_must (have c8 := hbx.at_ 8 (hdc_at f 8 (by omega) (by omega) (by omega) (by omega))); go_must (have HL := Lib.hid (And.intro ho4 (And.intro hB4 hsz2))); go_must (clear ho4 hB4 hbx hsz2))
    | fail)
  clear c0 c1 c2 c3 c4 c5 c6 c7 c8
  have hgl : w4.heap.size = w4.heap.size := rfl
  have HST : Hid (NineRel w2 f s w4.heap.size v4 (.int .i64 0) (w4.alloc (.cells (nines f) 3))) := Lib.hid (by
    obtain ⟨ho4, hB4, hsz2⟩ := HL.out
    refine ⟨0, sp4, by omega, rfl, ?_, hB4.alloc hB4.size _, Blk.new _ _ _, fun e => by have := (OwnsC.lt ho4 _ e).2; omega⟩
    rw [show s ++ four_ f (nine.take 0) = s by simp [four_]]
    exact ho4.alloc _)
  have hge := HL.out.2.1.size
  have HSZ := Lib.hid HL.out.2.2
  clear HL hgl
  rw [show (#[.int .i64 (f 0), .int .i64 (f 1), .int .i64 (f 2), .int .i64 (f 3), .int .i64 (f 4), .int .i64 (f 5), .int .i64 (f 6), .int .i64 (f 7), .int .i64 (f 8)] : Array Value) = nines f from rfl]
  generalize w4.alloc (.cells (nines f) 3) = w5 at HST ⊢
  generalize w4.heap.size = gl at HST hge ⊢
  go_loopw [5, 7] (fun v5 v7 wr => NineRel w2 f s gl v5 v7 wr) (fun _ v _ => 9 - (intOf v).toNat)
  case atStart => exact HST.out
  case round =>
    clear HST
    obtain ⟨i, sp, hi9, rfl, hown, hBr, hgb, hne⟩ := hrel
    have hsz := hBr.size
    by_cases hlt : i < 9
    · obtain ⟨N, hN⟩ : ∃ N : Nat, f i = (N : Int) := ⟨(f i).toNat, by have := (HF.out i (by simp [thirteen]; omega)).1; omega⟩
      have hN2 : N < 4294967296 := by have := (HF.out i (by simp [thirteen]; omega)).2; omega
      have d0 : wr.cell? ⟨gl, i, none⟩ = some (.int .i64 (N : Int)) := by rw [hgb.at_ i (nines_at f i hlt), hN]
      have HN := Lib.hid hN
      have hl : (s ++ four_ f (nine.take i)).length ≤ 100000 := by rw [List.length_append, four_length, List.length_take, HS.out]; have := Nat.min_le_left i nine.length; omega
      have HU : Hid ((s ++ four_ f (nine.take i)) ++ leb N 4 = s ++ four_ f (nine.take (i + 1))) := Lib.hid (by rw [nine_snoc i hlt, four_snoc, HN.out, leb_4 N hN2, Int.toNat_natCast, List.append_assoc])
      clear hN
      go_wp2_with fail
      refine (rput4_any w2.heap.size _ _ sp N 4 (by omega) hl wr hsz hown).mono ?_
      rintro e w6 ⟨v6, sp6, rfl, ho6, hg6, hw6⟩
      have hB6 := hBr.grown hg6 hsz (fun k hk => (OwnsC.lt hown k hk).1)
      have hgb6 : Blk w6 gl 3 (nines f) := (hg6.block _ hgb.lt (fun e => hne e.symm)).trans hgb
      have hne6 : v6.ownBlock ≠ some gl := by
        rcases hw6 with e | ⟨k, e, hk⟩
        · rw [e]; exact hne
        · rw [e]; intro e2; injection e2 with e2; have := hgb.lt; omega
      rw [HU.out] at ho6
      clear d0 hown hBr hgb hne hg6 hw6 hl
      go_wp2
      go_roundw
      case rel => exact ⟨i + 1, sp6, by omega, by go_num, ho6, hB6, hgb6, hne6⟩
      case measure => simp [intOf]; omega
    · obtain rfl : i = 9 := by omega
      clear hgb hne
      rw [show nine.take 9 = [0, 1, 2, 3, 4, 5, 6, 7, 8] from rfl] at hown
      obtain ⟨hi, hhi⟩ : ∃ n : Nat, f 9 = (n : Int) := ⟨(f 9).toNat, by have := HIN.out.1; omega⟩
      obtain ⟨lo, hlo⟩ : ∃ n : Nat, f 10 = (n : Int) := ⟨(f 10).toNat, by have := HIN.out.2.2.1; omega⟩
      obtain ⟨T, hT⟩ : ∃ n : Nat, f 13 = (n : Int) := ⟨(f 13).toNat, by have := HIN.out.2.2.2.2.1; omega⟩
      have hT2 : T < 18446744073709551616 := by have := HIN.out.2.2.2.2.2; omega
      have hbx := hb0.below hBr hb0.lt
      have d9 : wr.cell? ⟨s0, 9, none⟩ = some (.int .u64 (hi : Nat)) := (hbx.at_ 9 (hdc_u f 9 (by omega))).trans (by rw [hhi])
      have d10 : wr.cell? ⟨s0, 9 + 1, none⟩ = some (.int .u64 (lo : Nat)) := (hbx.at_ 10 (hdc_u f 10 (by omega))).trans (by rw [hlo])
      have HN := Lib.hid (And.intro hhi (And.intro hlo hT))
      clear hhi hlo hT hbx
      go_wp2_with (first
        | (show wpList _ _ _ ((⟨some 45, _, _, _, _, _⟩ : Oper) :: _) _ _; refine wpList_load_mid (o := ⟨some 45, _, _, _, _, _⟩) (range2 (b := s0) (off := 9) (u := .int .u64 (hi : Nat)) (v := .int .u64 (lo : Nat)) (d9) (d10)) (by rfl) _ _ (by rfl) (by rfl) _ Tryd.underlying24 (by rfl) sizeU (by rfl) ?_)
        | fail)
      refine (rid_any hi lo wr).mono ?_
      rintro e w6 ⟨rfl, hbx⟩
      (replace hown := keep hbx hown)
      have hB6 := hBr.trans (hbx.mono hsz)
      clear hbx d9 d10 hBr hsz
      rw [idv_all]
      have hid : (le8 lo ++ le8 hi).length = 16 := rfl
      obtain ⟨S, hS⟩ : ∃ S, S = le8 lo ++ le8 hi := ⟨_, rfl⟩
      rw [← hS] at hid ⊢
      have HS2 := Lib.hid hS
      have HID := Lib.hid hid
      clear hS hid
      have a16 := alloc16
      obtain ⟨C0, hC0⟩ : ∃ C0, C0 = s ++ four_ f [0, 1, 2, 3, 4, 5, 6, 7, 8] := ⟨_, rfl⟩
      have hl0 : C0.length = 52 := by rw [hC0, List.length_append, four_length, HS.out]; rfl
      rw [← hC0] at hown
      have HC0 := Lib.hid hC0
      have HL0 := Lib.hid hl0
      clear hC0 hl0
      have hz6 := hB6.size
      have hid := HID.out
      go_wp2_with (first
        | (show wpList _ _ _ ((⟨none, _, _, _, _, _⟩ : Oper) :: _) _ _; refine wpList_store_blk (o := ⟨none, _, _, _, _, _⟩) (Blk.new w6 70 zero16) (by rfl) _ _ _ (by rfl) (by rfl) (S.map u8v).toArray (by rfl) size16 (arr_size _ _) (by simp [hid]) (u8_all _) ?_; intro w7 h7 hux; have hbx := ((Below.refl _ _).alloc (Nat.le_refl _) (.cells zero16 70)).upd hux (Nat.le_refl w6.heap.size); replace hown := keep hbx hown; replace hB6 := hB6.trans (hbx.mono hB6.size); clear hux hbx)
        | (show wpList _ _ _ ((⟨some 49, _, _, _, _, _⟩ : Oper) :: _) _ _; refine wpList_append_bytes (o := ⟨some 49, _, _, _, _, _⟩) (by rfl) _ _ _ (by rfl) w2.heap.size _ Tryd.underlying27 u8info _ C0 sp (by rfl) hown (some ⟨w6.heap.size, 0, none⟩) 16 S (by rw [hid]; rfl) h7.bytes (by rw [hid, HL0.out]; omega) hB6.size ?_; intro v8 w8 sp8 ho8 hg8 _ _; have hB8 := hB6.grown hg8 hB6.size (fun k hk => (OwnsC.lt hown k hk).1); clear hg8 hown hB6 h7 a16; obtain ⟨C8, hC8⟩ : ∃ C8, C8 = C0 ++ S := ⟨_, rfl⟩; have hl8 : C8.length = 68 := (by rw [hC8, List.length_append, hid, HL0.out]); rw [← hC8] at ho8; have HC8 := Lib.hid hC8; have HL8 := Lib.hid hl8; clear hC8 hl8 hid hz6; obtain ⟨N11, hN11⟩ : ∃ n : Nat, f 11 = (n : Int) := ⟨(f 11).toNat, by have := (HF.out 11 (by simp [thirteen])).1; omega⟩; (have hM11 : N11 < 4294967296 := by have := (HF.out 11 (by simp [thirteen])).2; omega); have hC9 : Hid (leb N11 4 = le4 (f 11).toNat) := Lib.hid (by rw [hN11, leb_4 N11 hM11, Int.toNat_natCast]); have hbx9 := hb0.below hB8 hb0.lt; have e9 := (hbx9.at_ 11 (hdc_at f 11 (by omega) (by omega) (by omega) (by omega))).trans (by rw [hN11]); (have hn9 : C8.length ≤ 100000 := by rw [HL8.out]; omega); have hsz9 := hB8.size; clear hbx9)
        | fail)
      go_wp2_with fail
      refine (rput4_any w2.heap.size v8 C8 sp8 N11 4 (by omega) hn9 w8 hsz9 ho8).mono ?_
      rintro e w9 ⟨v9, sp9, rfl, ho9, hg9, hw9⟩
      have hB9 := hB8.grown hg9 hsz9 (fun k hk => (OwnsC.lt ho8 k hk).1)
      obtain ⟨C9, hD9⟩ : ∃ C, C = C8 ++ leb N11 4 := ⟨_, rfl⟩
      have hl9 : C9.length = 72 := by rw [hD9, List.length_append, leb_length _ _ (by omega), HL8.out]
      rw [← hD9] at ho9
      have HC9 := Lib.hid hD9
      have HL9 := Lib.hid hl9
      clear hD9 hl9 hg9 hw9 ho8 hB8 e9 hn9 hsz9
      clear hN11 hM11
      obtain ⟨N12, hN12⟩ : ∃ n : Nat, f 12 = (n : Int) := ⟨(f 12).toNat, by have := (HF.out 12 (by simp [thirteen])).1; omega⟩
      have hM12 : N12 < 4294967296 := by have := (HF.out 12 (by simp [thirteen])).2; omega
      have hC10 : Hid (leb N12 4 = le4 (f 12).toNat) := Lib.hid (by rw [hN12, leb_4 N12 hM12, Int.toNat_natCast])
      have hbx10 := hb0.below hB9 hb0.lt
      have e10 := (hbx10.at_ 12 (hdc_at f 12 (by omega) (by omega) (by omega) (by omega))).trans (by rw [hN12])
      have hn10 : C9.length ≤ 100000 := by rw [HL9.out]; omega
      have hsz10 := hB9.size
      clear hbx10
      go_wp2_with fail
      refine (rput4_any w2.heap.size v9 C9 sp9 N12 4 (by omega) hn10 w9 hsz10 ho9).mono ?_
      rintro e w10 ⟨v10, sp10, rfl, ho10, hg10, hw10⟩
      have hB10 := hB9.grown hg10 hsz10 (fun k hk => (OwnsC.lt ho9 k hk).1)
      obtain ⟨C10, hD10⟩ : ∃ C, C = C9 ++ leb N12 4 := ⟨_, rfl⟩
      have hl10 : C10.length = 76 := by rw [hD10, List.length_append, leb_length _ _ (by omega), HL9.out]
      rw [← hD10] at ho10
      have HC10 := Lib.hid hD10
      have HL10 := Lib.hid hl10
      clear hD10 hl10 hg10 hw10 ho9 hB9 e10 hn10 hsz10
      clear hN12 hM12
      have hC11 : Hid (leb T 8 = le8 (f 13).toNat) := Lib.hid (by rw [HN.out.2.2, leb_8, Int.toNat_natCast])
      have hbx11 := hb0.below hB10 hb0.lt
      have e11 := (hbx11.at_ 13 (hdc_u f 13 (by omega))).trans (by rw [HN.out.2.2])
      have hn11 : C10.length ≤ 100000 := by rw [HL10.out]; omega
      have hsz11 := hB10.size
      clear hbx11
      go_wp2_with fail
      refine (rput4_any w2.heap.size v10 C10 sp10 T 8 (by omega) hn11 w10 hsz11 ho10).mono ?_
      rintro e w11 ⟨v11, sp11, rfl, ho11, hg11, hw11⟩
      have hB11 := hB10.grown hg11 hsz11 (fun k hk => (OwnsC.lt ho10 k hk).1)
      obtain ⟨C11, hD11⟩ : ∃ C, C = C10 ++ leb T 8 := ⟨_, rfl⟩
      have hl11 : C11.length = 84 := by rw [hD11, List.length_append, leb_length _ _ (by omega), HL10.out]
      rw [← hD11] at ho11
      have HC11 := Lib.hid hD11
      have HL11 := Lib.hid hl11
      clear hD11 hl11 hg11 hw11 ho10 hB10 e11 hn11 hsz11
      obtain ⟨N14, hN14⟩ : ∃ n : Nat, f 14 = (n : Int) := ⟨(f 14).toNat, by have := (HF.out 14 (by simp [thirteen])).1; omega⟩
      have hM14 : N14 < 4294967296 := by have := (HF.out 14 (by simp [thirteen])).2; omega
      have hC12 : Hid (leb N14 4 = le4 (f 14).toNat) := Lib.hid (by rw [hN14, leb_4 N14 hM14, Int.toNat_natCast])
      have hbx12 := hb0.below hB11 hb0.lt
      have e12 := (hbx12.at_ 14 (hdc_at f 14 (by omega) (by omega) (by omega) (by omega))).trans (by rw [hN14])
      have hn12 : C11.length ≤ 100000 := by rw [HL11.out]; omega
      have hsz12 := hB11.size
      clear hbx12
      go_wp2_with fail
      refine (rput4_any w2.heap.size v11 C11 sp11 N14 4 (by omega) hn12 w11 hsz12 ho11).mono ?_
      rintro e w12 ⟨v12, sp12, rfl, ho12, hg12, hw12⟩
      have hB12 := hB11.grown hg12 hsz12 (fun k hk => (OwnsC.lt ho11 k hk).1)
      obtain ⟨C12, hD12⟩ : ∃ C, C = C11 ++ leb N14 4 := ⟨_, rfl⟩
      have hl12 : C12.length = 88 := by rw [hD12, List.length_append, leb_length _ _ (by omega), HL11.out]
      rw [← hD12] at ho12
      have HC12 := Lib.hid hD12
      have HL12 := Lib.hid hl12
      clear hD12 hl12 hg12 hw12 ho11 hB11 e12 hn12 hsz12
      clear hN14 hM14
      obtain ⟨N15, hN15⟩ : ∃ n : Nat, f 15 = (n : Int) := ⟨(f 15).toNat, by have := (HF.out 15 (by simp [thirteen])).1; omega⟩
      have hM15 : N15 < 4294967296 := by have := (HF.out 15 (by simp [thirteen])).2; omega
      have hC13 : Hid (leb N15 4 = le4 (f 15).toNat) := Lib.hid (by rw [hN15, leb_4 N15 hM15, Int.toNat_natCast])
      have hbx13 := hb0.below hB12 hb0.lt
      have e13 := (hbx13.at_ 15 (hdc_at f 15 (by omega) (by omega) (by omega) (by omega))).trans (by rw [hN15])
      have hn13 : C12.length ≤ 100000 := by rw [HL12.out]; omega
      have hsz13 := hB12.size
      clear hbx13
      go_wp2_with fail
      refine (rput4_any w2.heap.size v12 C12 sp12 N15 4 (by omega) hn13 w12 hsz13 ho12).mono ?_
      rintro e w13 ⟨v13, sp13, rfl, ho13, hg13, hw13⟩
      have hB13 := hB12.grown hg13 hsz13 (fun k hk => (OwnsC.lt ho12 k hk).1)
      obtain ⟨C13, hD13⟩ : ∃ C, C = C12 ++ leb N15 4 := ⟨_, rfl⟩
      have hl13 : C13.length = 92 := by rw [hD13, List.length_append, leb_length _ _ (by omega), HL12.out]
      rw [← hD13] at ho13
      have HC13 := Lib.hid hD13
      have HL13 := Lib.hid hl13
      clear hD13 hl13 hg13 hw13 ho12 hB12 e13 hn13 hsz13
      clear hN15 hM15
      have HX : Hid (C13 ++ List.replicate 148 0 = Hd.rest f s) := Lib.hid (by
        rw [HC13.out, HC12.out, HC11.out, HC10.out, HC9.out, HC8.out, HC0.out, HS2.out, hC9.out, hC10.out, hC11.out, hC12.out, hC13.out]
        unfold Hd.rest Hd.mid
        rw [HN.out.1, HN.out.2.1, Int.toNat_natCast, Int.toNat_natCast]
        simp [four_])
      obtain ⟨A13, c13, rfl, _⟩ := OwnB.open_ ho13
      have hsz := hB13.size
      rw [HL13.out] at ho13 ⊢
      go_wp2_with (first
        | (show wpList _ _ _ ((⟨some 78, _, _, _, _, _⟩ : Oper) :: _) _ _; refine wpList_append_zeros (o := ⟨some 78, _, _, _, _, _⟩) (by rfl) _ _ _ _ (by rfl) w2.heap.size _ .i64 Tryd.underlying27 Tryd.underlying3 u8info _ C13 sp13 (by rfl) ho13 148 (by rfl) (by rw [HL13.out]; omega) hsz ?_; intro v14 w14 sp14 ho14 hg14 _; have hB14 := hB13.grown hg14 hsz (fun k hk => (OwnsC.lt ho13 k hk).1); clear hg14 ho13 hB13)
        | fail)
      rw [HX.out] at ho14
      go_ret
      exact ⟨_, _, rfl, OwnsC.base_ ho14 (by rw [HSZ.out]; omega), by rw [hs0]; exact hB.out.trans (hB14.mono (by have := hB.out.size; omega))⟩
end Go.Proofs.YtekdcjaljjlemaaDoor

/- A region that draws its order, by a plan that branches: some operations are taken first wherever they may come, of the others each that may come next is followed. Plain facts over any program. No condition. -/
namespace Go
/-- The plan: take i first; or one of several may come (opt i r more: i, then r; or one of more; no: none else). -/
inductive PlanT where
  | done
  | take (i : Nat) (r : PlanT)
  | opt (i : Nat) (r more : PlanT)
  | no
def PlanT.heads : PlanT → List Nat
  | .opt i _ m => i :: m.heads
  | _ => []
def Region.treeB (md : Region.Mode) (ops : Array Oper) (Z : List Nat) : PlanT → Bool → Nat → Array Bool → Bool
  | .done, _, n, s => decide (n = 0) && (Region.ready md ops s).isEmpty
  | .take i r, _, n, s => match n with
    | 0 => false
    | n + 1 => (Region.ready md ops s).contains i && Region.free md ops s i && (Z.all fun z => Region.waitsFor md ops z i) && Region.treeB md ops Z r true n (s.setIfInBounds i true)
  | .opt i r m, first, n, s => match n with
    | 0 => false
    | n + 1 => (!first || decide (Region.ready md ops s = i :: m.heads)) && Region.treeB md ops Z r true n (s.setIfInBounds i true) && Region.treeB md ops Z m false (n + 1) s
  | .no, first, _, _ => !first
def Region.treeZ (Z : List Nat) : PlanT → Bool → Bool
  | .done, _ => true
  | .take _ r, c => c && Region.treeZ Z r c
  | .opt i r m, c => Region.treeZ Z r (c && !Z.contains i) && Region.treeZ Z m c
  | .no, _ => true
section
variable {P : Program} {ops : Array Oper} {md : Region.Mode} {C : World → Prop} {Z : List Nat} {Q : Exit → Act → World → Prop}
def wpTree (P : Program) (ops : Array Oper) (C : World → Prop) (Z : List Nat) (Q : Exit → Act → World → Prop) : PlanT → Act → World → Prop
  | .done, a, w => Q .normal a w
  | .take i r, a, w => match ops[i]? with
    | some o => ∃ v, YieldsC P ops C o v a ∧ (C w → wpTree P ops C Z Q r (a.put o.dst v) w)
    | none => False
  | .opt i r m, a, w => wpOp P ops Q i (fun a' w' => (i ∈ Z ∨ C w') ∧ wpTree P ops C Z Q r a' w') a w ∧ wpTree P ops C Z Q m a w
  | .no, _, _ => True
theorem anyC_of_tree (hns : Region.noSelect ops = true) (hQ : ∀ c a a' w, a'.defers = a.defers → Q (.panic c) a' w → Q (.panic c) a w) :
    ∀ (t : PlanT) (c : Bool) (n : Nat) (s : Array Bool) (a : Act) (w : World), Region.treeZ Z t c = true → (c = true → C w) → wpTree P ops C Z Q t a w →
      (Region.treeB md ops Z t true n s = true → wpAnyC P md ops C Z Q n s a w) ∧
      (∀ m, n = m + 1 → Region.treeB md ops Z t false n s = true → ∀ i ∈ t.heads, wpOp P ops Q i (fun a' w' => (i ∈ Z ∨ C w') ∧ wpAnyC P md ops C Z Q m (s.setIfInBounds i true) a' w') a w) := by
  intro t
  induction t with
  | done =>
    intro c n s a w _ _ h
    refine ⟨fun hB => ?_, fun m _ _ i hi => by cases hi⟩
    simp only [Region.treeB, Bool.and_eq_true, decide_eq_true_eq] at hB
    obtain ⟨rfl, hB⟩ := hB
    exact ⟨by simpa using hB, h⟩
  | no =>
    intro c n s a w _ _ _
    exact ⟨fun hB => by simp [Region.treeB] at hB, fun m _ _ i hi => by cases hi⟩
  | take i r ih =>
    intro c n s a w hz hC h
    refine ⟨fun hB => ?_, fun m _ _ i hi => by cases hi⟩
    cases n with
    | zero => simp [Region.treeB] at hB
    | succ n =>
      simp only [Region.treeB, Bool.and_eq_true] at hB
      simp only [Region.treeZ, Bool.and_eq_true] at hz
      obtain ⟨⟨⟨h1, h2⟩, h3⟩, h4⟩ := hB
      have hr : i ∈ Region.ready md ops s := by simpa using h1
      obtain ⟨_, oi, hoi, _⟩ := mem_ready.1 hr
      simp only [wpTree, hoi] at h
      obtain ⟨v, hy, hn⟩ := h
      exact wpAnyC_first hoi hns hQ (fun z hz => List.all_eq_true.1 h3 z hz) n s a w (Region.free_spec hoi h2) hr hy (hC hz.1) ((ih c n _ _ _ hz.2 hC (hn (hC hz.1))).1 h4)
  | opt i r m ihr ihm =>
    intro c n s a w hz hC h
    simp only [Region.treeZ, Bool.and_eq_true] at hz
    obtain ⟨h1, h2⟩ := h
    have key : ∀ k first, n = k + 1 → Region.treeB md ops Z (.opt i r m) first n s = true → ∀ j ∈ (PlanT.opt i r m).heads, wpOp P ops Q j (fun a' w' => (j ∈ Z ∨ C w') ∧ wpAnyC P md ops C Z Q k (s.setIfInBounds j true) a' w') a w := by
      intro k first hn hB j hj
      subst hn
      simp only [Region.treeB, Bool.and_eq_true] at hB
      obtain ⟨⟨_, hr⟩, hm⟩ := hB
      simp only [PlanT.heads, List.mem_cons] at hj
      rcases hj with rfl | hj
      · refine wpOp_mono (fun a' w' h' => ⟨h'.1, (ihr (c && !Z.contains j) k _ a' w' hz.1 (fun hc => ?_) h'.2).1 hr⟩) h1
        simp only [Bool.and_eq_true, Bool.not_eq_true'] at hc
        refine h'.1.resolve_left fun hmm => ?_
        rw [List.contains_iff_mem.2 hmm] at hc
        cases hc.2
      · exact (ihm c (k + 1) s a w hz.2 hC h2).2 k rfl hm j hj
    refine ⟨fun hB => ?_, fun k hk hB => key k false hk hB⟩
    cases n with
    | zero => simp [Region.treeB] at hB
    | succ n =>
      have hk := key n true rfl hB
      simp only [Region.treeB, Bool.and_eq_true, Bool.not_true, Bool.false_or, decide_eq_true_eq] at hB
      refine ⟨fun h0 => (by rw [hB.1.1] at h0; cases h0), fun j hj => ?_⟩
      rw [hB.1.1] at hj
      exact hk j hj
/-- **THE REGION, BY A PLAN THAT BRANCHES.** -/
theorem wp_region_tree {id : Nat} {a : Act} {w : World} {l : List Oper} {Q : Exit → Act → World → Prop} (C : World → Prop) (Z : List Nat) (t : PlanT) (hm : P.follows .mixedOrders = true)
    (hB : (Region.noSelect l.toArray && Region.treeB .any l.toArray Z t true l.toArray.size (Array.replicate l.toArray.size false) && Region.treeZ Z t true) = true)
    (hC : C w.drew) (h : wpTree P l.toArray C Z (tidy Q) t a w.drew) : (Code.region id l.toArray true).wp P Q a w := by
  simp only [Bool.and_eq_true] at hB
  refine wp_mono (Q := tidy Q) ?_ (tidy_le Q)
  refine wp_region_any hm ?_
  exact wpAny_of_C _ _ _ _ ((anyC_of_tree hB.1.1 (fun _ _ _ _ _ q => q.elim) t true _ _ a w.drew hB.2 (fun _ => hC) h).1 hB.1.2)
theorem wpIn_region_tree {F : Fence} {n : Nat} {id : Nat} {a : Act} {w : World} {l : List Oper} {Q : Exit → Act → World → Prop} (C : World → Prop) (Z : List Nat) (t : PlanT) (hm : P.follows .mixedOrders = true)
    (hB : (Region.noSelect l.toArray && Region.treeB .any l.toArray Z t true l.toArray.size (Array.replicate l.toArray.size false) && Region.treeZ Z t true) = true)
    (hc : (l.toArray.all fun o => o.op.calmB) = true)
    (hC : C w.drew) (h : wpTree P l.toArray C Z (tidy Q) t a w.drew) : (Code.region id l.toArray true).wpIn F n P Q a w := by
  simp only [Bool.and_eq_true] at hB
  refine wpIn_mono (wpIn_region_any (Q := tidy Q) hm (anyIn_of_any hc _ _ _ _ ?_)) (tidy_le Q)
  rw [strict_tidy]
  exact wpAny_of_C _ _ _ _ ((anyC_of_tree hB.1.1 (fun _ _ _ _ _ q => q.elim) t true _ _ a w.drew hB.2 (fun _ => hC) h).1 hB.1.2)
def PlanT.takes : List Nat → PlanT → PlanT
  | [], r => r
  | i :: is, r => .take i (PlanT.takes is r)
theorem wpTree_take {w : World} (is : List Nat) (r : PlanT) : ∀ (a : Act), ((is.filterMap fun i => ops[i]?).all fun o => o.op.stillB) = true → (is.all fun i => decide (i < ops.size)) = true →
    C w → wpQuiet P ops C (fun a' => wpTree P ops C Z Q r a' w) (is.filterMap fun i => ops[i]?) a → wpTree P ops C Z Q (PlanT.takes is r) a w := by
  induction is with
  | nil => intro a _ _ _ h; exact h
  | cons i is ih =>
    intro a hs hlt hC h
    simp only [List.all_cons, Bool.and_eq_true, decide_eq_true_eq] at hlt
    have hi : ops[i]? = some ops[i] := Array.getElem?_eq_getElem hlt.1
    simp only [List.filterMap_cons, hi, List.all_cons, Bool.and_eq_true] at hs h
    have hq : qOp P ops C i (wpQuiet P ops C (fun a' => wpTree P ops C Z Q r a' w) (is.filterMap fun i => ops[i]?)) a := by unfold qOp; simp only [hi]; exact h
    obtain ⟨v, hy, hK⟩ := yieldsIn_of_qOp hi hq
    simp only [PlanT.takes, wpTree, hi]
    exact ⟨v, yieldsC_of hs.1 hy, fun _ => ih _ hs.2 hlt.2 hC hK⟩
/-- Operations that are taken first, read in a class of worlds. -/
theorem wpTree_takeL {l : List Oper} {w : World} (is : List Nat) (r : PlanT) (a : Act) (hs : ((is.filterMap fun i => l[i]?).all fun o => o.op.stillB) = true) (hlt : (is.all fun i => decide (i < l.length)) = true)
    (hC : C w) (h : wpQuiet P l.toArray C (fun a' => wpTree P l.toArray C Z Q r a' w) (is.filterMap fun i => l[i]?) a) : wpTree P l.toArray C Z Q (PlanT.takes is r) a w := by
  have e : (is.filterMap fun i => l.toArray[i]?) = is.filterMap fun i => l[i]? := by congr 1; funext i; exact List.getElem?_toArray ..
  exact wpTree_take is r a (by rw [e]; exact hs) (by simpa using hlt) hC (by rw [e]; exact h)
theorem wpTree_pure {l : List Oper} {w : World} (is : List Nat) (r : PlanT) : ∀ (a : Act), ((is.filterMap fun i => l[i]?).all fun o => o.op.stillB) = true → (is.all fun i => decide (i < l.length)) = true →
    wpQuiet P l.toArray (fun _ => True) (fun a' => wpTree P l.toArray C Z Q r a' w) (is.filterMap fun i => l[i]?) a → wpTree P l.toArray C Z Q (PlanT.takes is r) a w := by
  induction is with
  | nil => intro a _ _ h; exact h
  | cons i is ih =>
    intro a hs hlt h
    simp only [List.all_cons, Bool.and_eq_true, decide_eq_true_eq] at hlt
    have hi : l[i]? = some l[i] := List.getElem?_eq_getElem hlt.1
    have hi' : l.toArray[i]? = some l[i] := by rw [List.getElem?_toArray]; exact hi
    simp only [List.filterMap_cons, hi, List.all_cons, Bool.and_eq_true] at hs h
    have hq : qOp P l.toArray (fun _ => True) i (wpQuiet P l.toArray (fun _ => True) (fun a' => wpTree P l.toArray C Z Q r a' w) (is.filterMap fun i => l[i]?)) a := by unfold qOp; simp only [hi']; exact h
    obtain ⟨v, hy, hK⟩ := yieldsIn_of_qOp hi' hq
    have hy' := yieldsC_of hs.1 hy
    simp only [PlanT.takes, wpTree, hi']
    refine ⟨v, ?_, fun _ => ih _ hs.2 hlt.2 hK⟩
    rcases hy' with ⟨h1, h2⟩ | h1
    · exact .inl ⟨h1, fun w _ => h2 w trivial⟩
    · exact .inr h1
/-- What is asked behind an operation that came. -/
def TreeQ (P : Program) (ops : Array Oper) (C : World → Prop) (Z : List Nat) (Q : Exit → Act → World → Prop) (i : Nat) (r : PlanT) : Exit → Act → World → Prop
  | .normal, a, w => (i ∈ Z ∨ C w) ∧ wpTree P ops C Z Q r a w
  | e, a, w => Q e a w
theorem wpTree_opt {l : List Oper} {a : Act} {w : World} {i : Nat} {r m : PlanT} (o : Oper) (ho : l[i]? = some o) (h : wpList P l.toArray (TreeQ P l.toArray C Z Q i r) [o] a w) (hm : wpTree P l.toArray C Z Q m a w) : wpTree P l.toArray C Z Q (.opt i r m) a w := by
  refine ⟨?_, hm⟩
  have ho' : l.toArray[i]? = some o := by rw [List.getElem?_toArray]; exact ho
  unfold wpOp
  simp only [ho']
  unfold wpList at h
  have hmono : ∀ {a : Act} {w : World}, o.wp P a w (wpList P l.toArray (TreeQ P l.toArray C Z Q i r) []) (TreeQ P l.toArray C Z Q i r) → o.wp P a w (fun a' w' => (i ∈ Z ∨ C w') ∧ wpTree P l.toArray C Z Q r a' w') Q := by
    intro a w h
    unfold Oper.wp at h ⊢
    generalize (execOp a.eval o).run P w = rr at *
    cases rr with
    | ok n w' =>
      cases n <;> simp only [Oper.upon] at h ⊢
      case value u => exact h
      case skip => exact h
      case defer d => exact h
      case enter f args =>
        refine Calls.mono h fun e w'' he => ?_
        cases e <;> exact he
      case row row args => exact Rows.mono h fun u w'' he => he
    | halt x w' => cases x <;> simp only [Oper.upon] at h ⊢; exact h
  split
  · rename_i hw
    rw [if_pos hw] at h
    rcases h with h | ⟨h1, h2⟩
    · exact .inl (hmono h)
    · exact .inr ⟨h1, h2⟩
  · rename_i hw
    rw [if_neg hw] at h
    exact h
/-- The only one that may come. -/
theorem wpTree_one {l : List Oper} {a : Act} {w : World} {i : Nat} {r : PlanT} (o : Oper) (ho : l[i]? = some o) (h : wpList P l.toArray (TreeQ P l.toArray C Z Q i r) [o] a w) : wpTree P l.toArray C Z Q (.opt i r .no) a w :=
  wpTree_opt o ho h trivial
theorem wpTree_done {a : Act} {w : World} (h : Q .normal a w) : wpTree P ops C Z (tidy Q) .done a w := h
theorem TreeQ.in_ {a : Act} {w : World} {i : Nat} {r : PlanT} (hC : C w) (h : wpTree P ops C Z Q r a w) : TreeQ P ops C Z Q i r .normal a w := ⟨.inr hC, h⟩
theorem TreeQ.out {a : Act} {w : World} {i : Nat} {r : PlanT} (hz : Z.contains i = true) (h : wpTree P ops C Z Q r a w) : TreeQ P ops C Z Q i r .normal a w := ⟨.inl (by simpa using hz), h⟩
/-- What branches share: the rest is shown once. (By 'apply': G is found in the first branch.) -/
theorem share {α : Type} {F G : α → World → Prop} {goal : Prop} (main : (∀ x w, F x w → G x w) → goal) (tail : ∀ x w, F x w → G x w) : goal := main tail
end
end Go

/- append(s, x...) where the room suffices: in place. Plain facts over any program. Condition: the slice begins at its block's front. -/
namespace Go
open Go.RowKit
theorem wpList_append_room {P : Program} {w : World} {ops : Array Oper} {rest : List Oper} {o : Oper} {a : Act} {Q : Exit → Act → World → Prop} (hgd : o.guard = none) (s x : Operand) (t : TypeId)
    (ho : o.op = .call { callee := .builtin .append, args := #[s, x], argTypes := #[t, t] })
    (e : TypeId) (ht : P.underlying t = some (.slice e)) (hi : (P.info? e).map (fun i => (i.zero, i.size, i.bytes)) = some (some (.int .u8 0), 1, 1))
    (g n cap : Nat) (l sp : List UInt8) (hn : l.length = n) (hs : a.eval s = .slice (some ⟨g, 0, none⟩) n cap) (hg : Blk w g e ((l ++ sp).map u8v).toArray) (hcap : n + sp.length = cap)
    (A : Option Addr) (m c : Nat) (xs : List UInt8) (hm : xs.length = m) (hx : a.eval x = .slice A m c) (hr : Bytes w A xs) (hroom : m ≤ sp.length)
    (h : ∀ w', Blk w' g e ((l ++ (xs ++ sp.drop m)).map u8v).toArray → Upd g w w' → wpList P ops Q rest (a.put o.dst (.slice (some ⟨g, 0, none⟩) (n + m) cap)) w') : wpList P ops Q (o :: rest) a w := by
  subst hn hm
  refine wpList_plain hgd fun _ hK => ?_
  obtain ⟨i, hi0, hz, hsize, hby⟩ := info_parts hi
  rcases Nat.eq_zero_or_pos xs.length with h0 | h0
  · obtain rfl : xs = [] := List.eq_nil_of_length_eq_zero h0
    have hrun : (Builtin.append_ #[t, t] o.type #[.slice (some ⟨g, 0, none⟩) l.length cap, .slice A 0 c]).run P w = .ok (.slice (some ⟨g, 0, none⟩) l.length cap) w := by
      have hf : ∀ (s : Nat), (Builtin.firstCells s 0 (.slice A 0 c)).run P w = .ok #[] w := fun s => by
        cases A <;> simp [Builtin.firstCells, loadCells, loadCellsFrom]
      have hle : l.length ≤ cap := by omega
      simp [Builtin.append_, run_underlying ht, sizeOf, typeInfo, hi0, Builtin.lenOf, hf, hle, storeCells]
    unfold Oper.wp execOp
    simp only [List.length_nil] at hx
    simp only [ho, resolve, invoke, builtin, Sem.run_bind, Sem.run_pure, Result.andThen_ok, List.map_toArray, List.map_cons, List.map_nil, hs, hx, hrun]
    exact hK _ _ (h w (by simpa using hg) (Upd.refl g w))
  · have hne : xs.map u8v ≠ [] := by intro e; simp at e; rw [e] at h0; simp at h0
    obtain ⟨b, off, rfl, hc⟩ := hr hne
    have hrun := run_append_room (P := P) w t o.type e i ht hi0 g l.length cap ((l ++ sp).map u8v).toArray hg ⟨b, off, none⟩ xs.length c (xs.map u8v) (by simp [hsize]) (fun j u hu => by rw [Addr.add_lit]; exact hc j u hu) (u8v_one xs) (by omega) (by rw [hsize]; simp; omega)
    unfold Oper.wp execOp
    simp only [ho, resolve, invoke, builtin, Sem.run_bind, Sem.run_pure, Result.andThen_ok, List.map_toArray, List.map_cons, List.map_nil, hs, hx]
    rw [hrun]
    refine hK _ _ (h _ ((Blk.setRow hg _).sub ?_) (Upd.setRow _ _ _))
    simp [hsize, List.drop_append]
end Go

/- A message's bytes, as the program lays them: one whose header may not be, or whose body is too long. Conditions: the body can be read. -/
namespace Go.Proofs.YtekdcjaljjlemaaDoor
open Go.RowKit
def msgc (f : HdF) (v : Value) : Array Value := arr 17 fun i => if i < 16 then hdv f i else v
theorem msgc_16 (f : HdF) (v : Value) : (msgc f v)[16]? = some v := by unfold msgc; rw [arr_at _ (by omega), if_neg (by omega)]
theorem msgc_hd (f : HdF) (v : Value) (i : Nat) (h : i < 16) : (msgc f v)[i]? = (hdc f)[i]? := by unfold msgc hdc; rw [arr_at _ (by omega), arr_at _ h, if_pos h]
theorem sizeHd : (Tryd.prog.info? 26).map (·.size) = some 16 := by kernel_rfl
theorem sizeMsg : (Tryd.prog.info? 29).map (·.size) = some 17 := by kernel_rfl
theorem hdc_size (f : HdF) : (hdc f).size = 16 := arr_size _ _
theorem hdc_one (f : HdF) : (hdc f).all (·.oneCell') = true := by
  rw [Array.all_eq_true]
  intro i hi
  have h := hdc_size f
  have : (hdc f)[i]? = some (hdv f i) := arr_at _ (by omega)
  rw [Array.getElem?_eq_getElem hi] at this
  rw [Option.some.inj this]
  unfold hdv; split <;> rfl
theorem hd_range {w : World} {g : Nat} {t : TypeId} {f : HdF} {v : Value} (h : Blk w g t (msgc f v)) : w.rangeAt g 0 (hdc f).toList := Blk.range h 0 _ fun j u hu => by
  rw [Array.getElem?_toList] at hu
  have hj : j < 16 := by
    rcases Nat.lt_or_ge j 16 with h1 | h1
    · exact h1
    · rw [Array.getElem?_eq_none (by rw [hdc_size]; omega)] at hu; cases hu
  rw [Nat.zero_add, msgc_hd f v j hj]; exact hu
def zeroHd : HdF := fun _ => 0
theorem zeroHd_cells : hdc zeroHd = #[.int .i64 0, .int .i64 0, .int .i64 0, .int .i64 0, .int .i64 0, .int .i64 0, .int .i64 0, .int .i64 0, .int .i64 0, .int .u64 0, .int .u64 0, .int .i64 0, .int .i64 0, .int .u64 0, .int .i64 0, .int .i64 0] := by
  rfl
theorem hseal_long (f : HdF) (A : Option Addr) (c : Nat) (body : List UInt8) (w : World) (hlong : 1024 < body.length) :
    Calls Tryd.prog 28 #[.agg (msgc f (.slice A body.length c))] w fun e w' => e = .returned (.tuple #[.slice none 0 0, .int .i64 3]) ∧ Below w.heap.size w w' := by
  have hg := Blk.new w 29 (msgc f (.slice A body.length c))
  have hB := Lib.hid ((Below.refl w.heap.size w).alloc (Nat.le_refl _) (.cells (msgc f (.slice A body.length c)) 29))
  have d16 := hg.at_ 16 (msgc_16 f _)
  clear hg
  go_enter Tryd.func28, Tryd.ntmps28
  go_wp2
  go_ret2
  exact ⟨rfl, hB.out⟩
set_option maxHeartbeats 1000000 in
theorem hseal_no (f : HdF) (A : Option Addr) (c : Nat) (body : List UInt8) (w : World) (hlong : body.length ≤ 1024) (hno : Hd.ok (setF f 2 body.length) = false) :
    Calls Tryd.prog 28 #[.agg (msgc f (.slice A body.length c))] w fun e w' => e = .returned (.tuple #[.slice none 0 0, .int .i64 2]) ∧ Below w.heap.size w w' := by
  have hg := Blk.new w 29 (msgc f (.slice A body.length c))
  have hB := Lib.hid ((Below.refl w.heap.size w).alloc (Nat.le_refl _) (.cells (msgc f (.slice A body.length c)) 29))
  have d16 := hg.at_ 16 (msgc_16 f _)
  have HR := Lib.hid (hd_range hg)
  have HG := Lib.hid hg
  have HNO := Lib.hid hno
  clear hg hno
  go_enter Tryd.func28, Tryd.ntmps28
  go_wp2_with (first
    | (show wpList _ _ _ ((⟨some 14, _, _, _, _, _⟩ : Oper) :: _) _ _; refine wpList_load_mid (o := ⟨some 14, _, _, _, _, _⟩) HR.out (by rfl) _ _ (by rfl) (by rfl) _ Tryd.underlying26 (by rfl) sizeHd (by rw [Array.length_toList, hdc_size]) ?_; rw [Array.toArray_toList]; clear HR d16; generalize World.alloc w _ = w1 at HG hB ⊢; have hlt := HG.out.lt)
    | (show wpList _ _ _ ((⟨none, _, _, _, _, _⟩ : Oper) :: _) _ _; refine wpList_store_blk (o := ⟨none, _, _, _, _, _⟩) ((Blk.new w1 26 #[.int .i64 0, .int .i64 0, .int .i64 0, .int .i64 0, .int .i64 0, .int .i64 0, .int .i64 0, .int .i64 0, .int .i64 0, .int .u64 0, .int .u64 0, .int .i64 0, .int .i64 0, .int .u64 0, .int .i64 0, .int .i64 0]).sub zeroHd_cells.symm) (by rfl) _ _ _ (by rfl) (by rfl) (hdc f) (by rfl) (sizeHd) (hdc_size _) (hdc_size _) (hdc_one _) ?_; intro w2 h2 hu2; have hbx := ((Below.refl w1.heap.size w1).alloc (Nat.le_refl _) (.cells #[.int .i64 0, .int .i64 0, .int .i64 0, .int .i64 0, .int .i64 0, .int .i64 0, .int .i64 0, .int .i64 0, .int .i64 0, .int .u64 0, .int .u64 0, .int .i64 0, .int .i64 0, .int .u64 0, .int .i64 0, .int .i64 0] 26)).upd hu2 (Nat.le_refl _); have HG2 := Lib.hid (HG.out.below hbx hlt); have HB2 := Lib.hid (hB.out.trans (hbx.mono hB.out.size)); have d16 := HG2.out.at_ 16 (msgc_16 f _); have fz := h2.frozen 2; have dz := h2.at_ 2 (hdc_at f 2 (by omega) (by omega) (by omega) (by omega)); have HS := Lib.hid (And.intro ((h2.set_ 2 (.int .i64 (body.length : Nat))).sub (hdc_set f 2 _ (by omega) (by omega) (by omega))) (And.intro (HG2.out.off (c := w1.heap.size) (i := 2) (by omega) (.int .i64 (body.length : Nat))) (HB2.out.set_ (c := w1.heap.size) (i := 2) (by omega) (.int .i64 (body.length : Nat))))); clear hu2 hbx HG hB HG2 HB2 h2)
    | (show wpList _ _ _ ((⟨some 19, _, _, _, _, _⟩ : Oper) :: _) _ _; clear fz dz d16; generalize World.setCell w2 _ _ = w3 at HS ⊢; generalize w1.heap.size = hb at HS hlt ⊢; obtain ⟨hh, hG, hB⟩ := HS.out; clear HS; (show wpList _ _ _ ((⟨some 19, _, _, _, _, _⟩ : Oper) :: _) _ _; refine wpList_load_blk (o := ⟨some 19, _, _, _, _, _⟩) (hh) (by rfl) _ _ (by rfl) (by rfl) _ Tryd.underlying26 (by rfl) (sizeHd) (hdc_size _) ?_))
    | fail)
  refine (hcheck_any _ w3).mono ?_
  rintro e w4 ⟨rfl, hbx⟩
  (replace hB := hB.trans (hbx.mono hB.size); clear hbx hG hh)
  rw [show Hd.code (setF f 2 body.length) = 2 by unfold Hd.code; rw [HNO.out]; rfl]
  go_wp2
  go_ret2
  exact ⟨rfl, hB⟩
end Go.Proofs.YtekdcjaljjlemaaDoor
