/- The document's set of blocks: its bytes. Conditions: its two blocks are known; each number is 0, 1 or 2. -/
import Derived.Test.YtkjcidbhepminaaDoorRefS2
import Derived.Test.YtkjcidbhepminaaDoorFreeR
namespace Go.Proofs.YtkjcidbhepminaaDoor
open Go.RowKit
theorem OwnB.blk {e : TypeId} {w : World} {base g n cap : Nat} {l sp : List UInt8} (h : OwnB e w base (.slice (some ⟨g, 0, none⟩) n cap) l sp) : Blk w g e ((l ++ sp).map u8v).toArray ∧ base ≤ g ∧ n = l.length := by
  rcases h with ⟨h0, _⟩ | ⟨g', cap', hv, hb, hg, hc, hm, hl, hs⟩
  · cases h0
  · injection hv with h1 h2 h3
    injection h1 with h1
    injection h1 with h1
    subst h1
    exact ⟨by simpa using hg, hb, h2⟩
theorem OwnB.store_ {e : TypeId} {w : World} {base g cap n i : Nat} {l sp : List UInt8} (h : OwnB e w base (.slice (some ⟨g, 0, none⟩) n cap) l sp) (hi : i < l.length) (y : UInt8) :
    OwnB e (w.setCell ⟨g, i, none⟩ (u8v y)) base (.slice (some ⟨g, 0, none⟩) n cap) (l.set i y) sp := by
  rcases h with ⟨h0, _⟩ | ⟨g', cap', hv, hb, hg, hc, hm, hl, hs⟩
  · cases h0
  · injection hv with h1 h2 h3
    injection h1 with h1
    injection h1 with h1
    subst h1 h3 h2
    refine .inr ⟨g, cap, by rw [List.length_set], hb, ?_, by rw [List.length_set]; exact hc, hm, by simp, by rw [List.length_set]; exact hs⟩
    have hb2 : Blk w g e (l.map u8v ++ sp.map u8v).toArray := hg
    have h2 := hb2.set_ i (u8v y)
    refine Blk.sub h2 ?_
    apply Array.ext'
    simp only [List.setIfInBounds_toArray]
    rw [List.set_append_left _ _ (by simpa using hi), List.map_set]
theorem OwnB.drew_ {e : TypeId} {w : World} {base : Nat} {v : Value} {l sp : List UInt8} (h : OwnB e w base v l sp) : OwnB e w.drew base v l sp := h
/-- The bytes when k blocks are written; when the byte of block k stands. -/
def lstK (n : Nat) (f : Nat → Nat) (k : Nat) : List UInt8 := encH n ++ (List.range ((k + 3) / 4)).map fun j => UInt8.ofNat (q4 (cutAt f k) j)
def midK (n : Nat) (f : Nat → Nat) (k : Nat) : List UInt8 := encH n ++ (List.range (k / 4 + 1)).map fun j => UInt8.ofNat (q4 (cutAt f k) j)
theorem lstK_length (n : Nat) (f : Nat → Nat) (k : Nat) : (lstK n f k).length = 2 + (k + 3) / 4 := by simp [lstK, encH]; omega
theorem midK_length (n : Nat) (f : Nat → Nat) (k : Nat) : (midK n f k).length = 3 + k / 4 := by simp [midK, encH]; omega
theorem midK_app (n : Nat) (f : Nat → Nat) (hf : ∀ i, f i ≤ 2) (k : Nat) (h : k % 4 = 0) : lstK n f k ++ [0] = midK n f k := by
  unfold lstK midK
  have e : (k + 3) / 4 = k / 4 := by omega
  have hq := q4_low f hf k
  rw [h] at hq
  rw [e, List.range_succ, List.map_append, List.append_assoc]
  congr 2
  simp
  have : q4 (cutAt f k) (k / 4) = 0 := by omega
  rw [this]; rfl
theorem midK_same (n : Nat) (f : Nat → Nat) (k : Nat) (h : k % 4 ≠ 0) : lstK n f k = midK n f k := by
  unfold lstK midK
  have e : (k + 3) / 4 = k / 4 + 1 := by omega
  rw [e]
theorem midK_at (n : Nat) (f : Nat → Nat) (k : Nat) : (midK n f k)[2 + k / 4]? = some (UInt8.ofNat (q4 (cutAt f k) (k / 4))) := by
  unfold midK
  rw [List.getElem?_append_right (by simp [encH])]
  simp [encH]
theorem lstK_succ (n : Nat) (f : Nat → Nat) (k : Nat) : (midK n f k).set (2 + k / 4) (UInt8.ofNat (q4 (cutAt f (k + 1)) (k / 4))) = lstK n f (k + 1) := by
  have hs := q4_step f k
  apply List.ext_getElem?
  intro i
  rw [List.getElem?_set]
  have e : (k + 1 + 3) / 4 = k / 4 + 1 := by omega
  unfold midK lstK
  rw [e]
  by_cases hi : i < 2
  · rw [if_neg (by omega), List.getElem?_append_left (by simp [encH]; omega), List.getElem?_append_left (by simp [encH]; omega)]
  · obtain ⟨t, rfl⟩ : ∃ t, i = 2 + t := ⟨i - 2, by omega⟩
    rw [List.getElem?_append_right (by simp [encH]), List.getElem?_append_right (by simp [encH])]
    have e2 : 2 + t - (encH n).length = t := by simp [encH]
    rw [e2]
    by_cases hb : t < k / 4 + 1
    · rw [List.getElem?_map, List.getElem?_map, List.getElem?_range hb]
      by_cases ht : t = k / 4
      · subst ht; rw [if_pos rfl, if_pos (by simp [encH]; omega)]; rfl
      · rw [if_neg (by omega)]
        simp only [Option.map_some]
        rw [hs t, if_neg ht]
    · rw [if_neg (by omega), List.getElem?_eq_none (by simp; omega), List.getElem?_eq_none (by simp; omega)]
theorem lstK_all (L : List Nat) : lstK L.length (fun i => L.getD i 0) L.length = enc L := by
  unfold lstK enc encF
  congr 2
  funext j
  congr 2
  funext i
  unfold cutAt
  split
  · rfl
  · rw [List.getD_eq_getElem?_getD, List.getElem?_eq_none (by omega)]; rfl
theorem lstK_zero (n : Nat) (f : Nat → Nat) : lstK n f 0 = encH n := by simp [lstK]
def RByt (L : List Nat) (w : World) (b v : Value) (wr : World) : Prop :=
  ∃ (k g cap : Nat) (sp : List UInt8), k ≤ L.length ∧ v = .int .i64 (k : Int) ∧ b = .slice (some ⟨g, 0, none⟩) (lstK L.length (fun i => L.getD i 0) k).length cap ∧ w.heap.size ≤ g ∧
    OwnB 5 wr w.heap.size (.slice (some ⟨g, 0, none⟩) (lstK L.length (fun i => L.getD i 0) k).length cap) (lstK L.length (fun i => L.getD i 0) k) sp ∧ Below w.heap.size w wr
set_option maxRecDepth 100000 in
set_option maxHeartbeats 2000000 in
theorem rsbytes_any (L : List Nat) (hok : SetOk L) (r q : Nat) (w : World) (h : RefAt w r q L) :
    Calls Tryd.prog 24 #[.pointer (some ⟨r, 0, none⟩)] w fun e w' => ∃ v sp, e = .returned v ∧ OwnB 5 w' w.heap.size v (enc L) sp ∧ Below w.heap.size w w' := by
  have hl := hok.len
  have hrl := h.hd.lt
  have hql := h.tl.lt
  have d0 := h.d0
  have e1 : (L.length : Int) % 256 = iu8 (UInt8.ofNat (L.length % 256)) := by rw [iu8_ofNat_mod]
  have e2 : (L.length : Int) / 256 = iu8 (UInt8.ofNat (L.length / 256)) := by rw [iu8_ofNat _ (by omega)]; omega
  go_enter Tryd.func24, Tryd.ntmps24
  go_wp2
  refine wp_region_planT (fun w' => w'.cell? ⟨r, 0, none⟩ = some (.slice (some ⟨q, 0, none⟩) L.length L.length)) [] [(true, 0), (true, 1), (true, 2), (true, 6), (true, 7), (true, 8), (true, 3), (true, 9), (true, 4), (true, 5), (true, 10), (true, 11), (true, 12), (false, 13), (true, 14)] (by kernel_rfl) (by kernel_rfl) (d0) ?_
  refine wpPlan_pure [0, 1, 2, 6, 7, 8] [(true, 3), (true, 9), (true, 4), (true, 5), (true, 10), (true, 11), (true, 12), (false, 13), (true, 14)] _ (by rfl) (by rfl) ?_
  dsimp only [List.filterMap, List.getElem?_cons_zero, List.getElem?_cons_succ]
  repeat (go_big_quiet_step (fail))
  refine wpQuiet_nil ?_
  refine wpPlan_takeL [3, 9] [(true, 4), (true, 5), (true, 10), (true, 11), (true, 12), (false, 13), (true, 14)] _ (by rfl) (by rfl) (d0) ?_
  dsimp only [List.filterMap, List.getElem?_cons_zero, List.getElem?_cons_succ]
  (refine wpQuiet_load_cell (fun w' hw' => hw') (by rfl) _ _ (by rfl) (by rfl) _ Tryd.underlying52 (by rfl) ?_; simp only [Act.put, List.setIfInBounds_toArray, List.set_cons_zero, List.set_cons_succ])
  (refine wpQuiet_load_cell (fun w' hw' => hw') (by rfl) _ _ (by rfl) (by rfl) _ Tryd.underlying52 (by rfl) ?_; simp only [Act.put, List.setIfInBounds_toArray, List.set_cons_zero, List.set_cons_succ])
  refine wpQuiet_nil ?_
  refine wpPlan_pure [4, 5, 10, 11, 12] [(false, 13), (true, 14)] _ (by rfl) (by rfl) ?_
  dsimp only [List.filterMap, List.getElem?_cons_zero, List.getElem?_cons_succ]
  repeat (go_big_quiet_step (fail))
  refine wpQuiet_nil ?_
  refine wpPlan_forceL _ rfl ?_
  go_wp2
  have ho0 : OwnB 5 ((w.alloc (.cells #[.int .u8 (iu8 (UInt8.ofNat (L.length % 256))), .int .u8 (iu8 (UInt8.ofNat (L.length / 256)))] 5)).drew) w.heap.size (.slice (some ⟨w.heap.size, 0, none⟩) 2 2) (encH L.length) [] := by
    have := OwnsC.lit (e := 5) (size := 1) (base := w.heap.size) w ((encH L.length).map u8v).toArray 2 (Nat.le_refl _) (by unfold maxLen; omega) (by simp [encH])
    exact this
  have hb0 : Below w.heap.size w ((w.alloc (.cells #[.int .u8 (iu8 (UInt8.ofNat (L.length % 256))), .int .u8 (iu8 (UInt8.ofNat (L.length / 256)))] 5)).drew) := ((Below.refl _ _).alloc (Nat.le_refl _) _).drew
  generalize (w.alloc _).drew = w1 at ho0 hb0 ⊢
  have d1 := (h.below hb0).d0
  refine PlanQ.in_ d1 ?_
  refine wpPlan_pure [14] [] _ (by rfl) (by rfl) ?_
  dsimp only [List.filterMap, List.getElem?_cons_zero, List.getElem?_cons_succ]
  repeat (go_big_quiet_step (fail))
  refine wpQuiet_nil ?_
  refine wpPlan_tidy ?_
  go_wp2
  clear e1 e2 d1
  go_loopw [3, 4] (fun b v wr => RByt L w b v wr) (fun _ v _ => L.length - (intOf v).toNat)
  case atStart => exact ⟨0, w.heap.size, 2, [], by omega, rfl, by rw [lstK_zero]; rfl, Nat.le_refl _, by rw [lstK_zero]; exact ho0, hb0⟩
  case round =>
    clear ho0 hb0 d0
    obtain ⟨k, g, cap, sp, hk, rfl, rfl, hg, ho, hB⟩ := hrel
    have hR := h.below hB
    have d0 := hR.d0
    by_cases hkl : k < L.length
    · have d1 := hR.at_ k hkl
      have hle := hok.le k
      have hnext := lstK_succ L.length (fun i => L.getD i 0) k
      have hst := q4_step (fun i => L.getD i 0) k (k / 4)
      rw [if_pos rfl] at hst
      have h170 := q4_lt (cutAt_le hok.le (k + 1)) (k / 4)
      have hmat := midK_at L.length (fun i => L.getD i 0) k
      have hml := midK_length L.length (fun i => L.getD i 0) k
      obtain ⟨x, hx⟩ : ∃ x, x = L.getD k 0 := ⟨_, rfl⟩
      obtain ⟨Q0, hQ0⟩ : ∃ y, y = q4 (cutAt (fun i => L.getD i 0) k) (k / 4) := ⟨_, rfl⟩
      obtain ⟨Q1, hQ1⟩ : ∃ y, y = q4 (cutAt (fun i => L.getD i 0) (k + 1)) (k / 4) := ⟨_, rfl⟩
      obtain ⟨m, hm⟩ : ∃ m, m = midK L.length (fun i => L.getD i 0) k := ⟨_, rfl⟩
      rw [← hQ0, ← hm] at hmat
      rw [← hQ1, ← hm] at hnext
      rw [← hx] at d1 hle
      have hst' : Q1 = Q0 + x * 4 ^ (k % 4) := by rw [hQ1, hQ0, hx]; exact hst
      rw [← hQ1] at h170
      rw [← hm] at hml
      have hxx := hx
      clear hst hQ0 hQ1 hx
      obtain ⟨r4, hr4⟩ : ∃ r4, r4 = k % 4 := ⟨_, rfl⟩
      obtain ⟨j4, hj4⟩ : ∃ j4, j4 = k / 4 := ⟨_, rfl⟩
      rw [← hr4] at hst'
      rw [← hj4] at hmat hnext hml
      have er : (k : Int) % 4 = r4 := by omega
      have hr44 : r4 < 4 := by omega
      have h4 : (4 : Nat) ^ r4 ≤ 64 := by
        have : r4 = 0 ∨ r4 = 1 ∨ r4 = 2 ∨ r4 = 3 := by omega
        rcases this with rfl | rfl | rfl | rfl <;> decide
      have h5 : x * 4 ^ r4 ≤ 2 * 64 := Nat.mul_le_mul hle h4
      have h6 : (x : Int) * 2 ^ (2 * r4) = ((x * 4 ^ r4 : Nat) : Int) := by
        rw [show (4 : Nat) = 2 ^ 2 from rfl, ← Nat.pow_mul]; simp
      have hsum : (iu8 (UInt8.ofNat Q0) + ((x * 4 ^ r4 : Nat) : Int)) % 256 = iu8 (UInt8.ofNat Q1) := by
        rw [iu8_ofNat _ (by omega), iu8_ofNat _ (by omega)]; omega
      generalize x * 4 ^ r4 = z at h5 h6 hsum hst'
      obtain ⟨n1, hn1⟩ : ∃ n1, n1 = 2 + j4 := ⟨_, rfl⟩
      rw [← hn1] at hmat hnext
      have hml1 : m.length = n1 + 1 := by omega
      have hl2 : (lstK L.length (fun i => L.getD i 0) (k + 1)).length = n1 + 1 := by rw [lstK_length]; omega
      have HL2 := Lib.hid hl2
      have HX := Lib.hid hxx
      have HN1 := Lib.hid hn1
      have hjk : j4 ≤ 512 := by omega
      have hn1b : n1 ≤ 600 := by omega
      clear hml hl2 hxx d1 hR d0
      by_cases h0 : r4 = 0
      · have hll : (lstK L.length (fun i => L.getD i 0) k).length = n1 := by rw [lstK_length]; omega
        have happ : lstK L.length (fun i => L.getD i 0) k ++ [0] = m := by rw [hm]; exact midK_app _ _ hok.le k (by omega)
        rw [hll] at ho ⊢
        obtain ⟨l1, hl1⟩ : ∃ l1, l1 = lstK L.length (fun i => L.getD i 0) k := ⟨_, rfl⟩
        rw [← hl1] at ho happ hll
        have hoa := OwnsC.alloc ho (.cells #[.int .u8 0] 5)
        have hBa := hB.alloc hB.size (.cells #[.int .u8 0] 5)
        have hbz : Bytes (wr.alloc (.cells #[.int .u8 0] 5)) (some ⟨wr.heap.size, 0, none⟩) [0] := bytes_lit wr 5 [0]
        have hgsz := hB.size
        have HAP := Lib.hid happ
        have HM := Lib.hid hm
        have er0 : (k : Int) % 4 = 0 := by omega
        have ZD := Lib.hid (And.intro hr4 hj4)
        have hd0a := (h.below hB).d0
        have hml3 : l1.length ≤ 600 := by omega
        have HLL := Lib.hid hll
        clear hll happ hm er ho hr4 hj4 hn1 hl1 h4
        subst h0
        have hzx : z = x := by simp at h6; omega
        subst hzx
        clear h6
        go_wp2_with (first
          | (show wpList _ _ _ ((⟨some 34, _, _, _, _, _⟩ : Oper) :: _) _ _; refine wpList_append_bytes (o := ⟨some 34, _, _, _, _, _⟩) (by rfl) _ _ _ (by rfl) (w.heap.size) _ Tryd.underlying36 u8info (_) (l1) (sp) (by rfl) (hoa) (some ⟨wr.heap.size, 0, none⟩) (1) ([0]) (by first | rfl | simp) (hbz) (by first | omega | (simp; omega)) (by simp; omega) ?_; intro v1 w2 sp1 ho1 hg1 _ _; have hB1 := hBa.grown hg1 (by simp; omega) (fun k hk => (OwnsC.lt hoa k hk).1); rw [HAP.out] at ho1; obtain ⟨g1, cap1, rfl, _⟩ := OwnB.at_ ho1 (by omega); rw [hml1] at ho1 ⊢; clear hoa hBa hbz hg1 hB)
          | fail)
        obtain ⟨hblk, hgb, _⟩ := OwnB.blk ho1
        have dM : World.cell? w2 ⟨g1, n1, none⟩ = some (.int .u8 (iu8 (UInt8.ofNat Q0))) := hblk.at_ n1 (by rw [List.getElem?_toArray, List.getElem?_map, List.getElem?_append_left (by omega), hmat]; rfl)
        have fM := hblk.frozen n1
        have hR2 := h.below hB1
        have d0' := hR2.d0
        have d1' : World.cell? w2 ⟨q, k, none⟩ = some (.int .i64 (z : Nat)) := by have := hR2.at_ k hkl; rw [← HX.out] at this; exact this
        have hst2 := OwnB.store_ ho1 (i := n1) (by omega) (UInt8.ofNat Q1)
        rw [hnext] at hst2
        have hB2 := hB1.set_ (c := g1) (i := n1) hgb (u8v (UInt8.ofNat Q1))
        have HF := Lib.hid (And.intro hst2 hB2)
        have HH := Lib.hid h
        clear hblk hR2 hst2 hB2 ho1 hB1 hnext hmat h hst' hml1
        refine wp_region_planT (fun w' => w' = World.drew w2) [20] [(true, 0), (true, 1), (true, 2), (true, 3), (true, 4), (true, 6), (true, 7), (true, 8), (true, 10), (true, 13), (true, 14), (true, 15), (true, 5), (true, 9), (true, 11), (true, 12), (true, 16), (true, 17), (true, 18), (true, 19), (false, 20)] (by kernel_rfl) (by kernel_rfl) rfl ?_
        refine wpPlan_takeL [0, 1, 2, 3, 4, 6, 7, 8, 10, 13, 14, 15, 5, 9, 11, 12, 16, 17, 18, 19] [(false, 20)] _ (by rfl) (by rfl) (rfl) ?_
        dsimp only [List.filterMap, List.getElem?_cons_zero, List.getElem?_cons_succ]
        repeat (go_big_quiet_step (fail))
        refine wpQuiet_nil ?_
        refine wpPlan_forceL _ rfl ?_
        go_wp2
        refine PlanQ.out (by rfl) (wpPlan_tidy ?_)
        go_wp2
        clear hsum h5 h170
        go_roundw
        case rel => exact ⟨k + 1, g1, cap1, sp1, by omega, by go_num, by rw [HL2.out], hgb, by rw [HL2.out]; exact OwnB.drew_ HF.out.1, HF.out.2.drew⟩
        case measure => clear dM fM d0' d1' hle; simp [intOf]; omega
      · have hsame : lstK L.length (fun i => L.getD i 0) k = m := by rw [hm]; exact midK_same _ _ k (by omega)
        rw [hsame, hml1] at ho
        rw [hsame, hml1]
        have er0 : (((k : Int) % 4) == 0) = false := by simp; omega
        have er1 : ((r4 : Int) == 0) = false := by simp; omega
        have HM := Lib.hid (And.intro hm (And.intro hr4 hj4))
        clear hsame hm hr4 hj4 hn1
        have hd0a := (h.below hB).d0
        go_wp2
        obtain ⟨hblk, hgb, _⟩ := OwnB.blk ho
        have dM : World.cell? wr ⟨g, n1, none⟩ = some (.int .u8 (iu8 (UInt8.ofNat Q0))) := hblk.at_ n1 (by rw [List.getElem?_toArray, List.getElem?_map, List.getElem?_append_left (by omega), hmat]; rfl)
        have fM := hblk.frozen n1
        have hR2 := h.below hB
        have d0' := hR2.d0
        have d1' : World.cell? wr ⟨q, k, none⟩ = some (.int .i64 (x : Nat)) := by have := hR2.at_ k hkl; rw [← HX.out] at this; exact this
        have hst2 := OwnB.store_ ho (i := n1) (by omega) (UInt8.ofNat Q1)
        rw [hnext] at hst2
        have hB2 := hB.set_ (c := g) (i := n1) hgb (u8v (UInt8.ofNat Q1))
        have HF := Lib.hid (And.intro hst2 hB2)
        have HH := Lib.hid h
        clear hblk hR2 hst2 hB2 ho hB hnext hmat h hst' h4 hml1
        refine wp_region_planT (fun w' => w' = World.drew wr) [20] [(true, 0), (true, 1), (true, 2), (true, 3), (true, 4), (true, 6), (true, 7), (true, 8), (true, 10), (true, 13), (true, 14), (true, 15), (true, 5), (true, 9), (true, 11), (true, 12), (true, 16), (true, 17), (true, 18), (true, 19), (false, 20)] (by kernel_rfl) (by kernel_rfl) rfl ?_
        refine wpPlan_takeL [0, 1, 2, 3, 4, 6, 7, 8, 10, 13, 14, 15, 5, 9, 11, 12, 16, 17, 18, 19] [(false, 20)] _ (by rfl) (by rfl) (rfl) ?_
        dsimp only [List.filterMap, List.getElem?_cons_zero, List.getElem?_cons_succ]
        repeat (go_big_quiet_step (fail))
        refine wpQuiet_nil ?_
        refine wpPlan_forceL _ rfl ?_
        go_wp2
        refine PlanQ.out (by rfl) (wpPlan_tidy ?_)
        go_wp2
        clear hsum h5 h170
        go_roundw
        case rel => exact ⟨k + 1, g, cap, sp, by omega, by go_num, by rw [HL2.out], hgb, by rw [HL2.out]; exact OwnB.drew_ HF.out.1, HF.out.2.drew⟩
        case measure => clear dM fM d0' d1' hle; simp [intOf]; omega
    · obtain rfl : k = L.length := by omega
      have HO := Lib.hid (And.intro ho hB)
      clear ho hB hR h
      go_wp2
      go_ret
      exact ⟨_, sp, rfl, by rw [← lstK_all]; exact HO.out.1, HO.out.2⟩
end Go.Proofs.YtkjcidbhepminaaDoor
