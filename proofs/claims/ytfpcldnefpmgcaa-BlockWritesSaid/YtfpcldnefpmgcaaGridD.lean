/- A block's bytes read, by the program. Condition: the bytes can be read. -/
import Derived.Test.YtfpcldnefpmgcaaGridR
namespace Go
open Go.RowKit
theorem Bytes.range {w : World} {b off : Nat} {l : List UInt8} (h : Bytes w (some ⟨b, off, none⟩) l) : w.rangeAt b off (l.map u8v) := fun j v hv => by
  have hne : l.map u8v ≠ [] := by intro e; rw [e] at hv; simp at hv
  obtain ⟨b', off', e, hc⟩ := h hne
  simp only [Option.some.injEq, Addr.mk.injEq, and_true] at e
  rw [e.1, e.2]; exact hc j v hv
theorem Upd.cell {g : Nat} {w w' : World} (u : Upd g w w') {p : Addr} (hp : p.block ≠ g) : w'.cell? p = w.cell? p := by
  unfold World.cell?
  rw [u.block p.block hp]
theorem Reads.upd {g : Nat} {w w' : World} {A : Option Addr} {xs : List Value} (h : Reads w A xs) (u : Upd g w w') (hA : ∀ ad, A = some ad → ad.block ≠ g) : Reads w' A xs := fun hn => by
  obtain ⟨b, off, rfl, hc⟩ := h hn
  exact ⟨b, off, rfl, fun j v hv => (u.cell (p := ⟨b, off + j, none⟩) (hA ⟨b, off, none⟩ rfl)).trans (hc j v hv)⟩
theorem results_row_tmp {P : Program} {fn : Func} {p q : Tmp} {ty : TypeId} (h : fn.results = #[.cell p ty, .tmp q]) (tmps : Array Value) (w : World) (g : Nat) (t : TypeId) (cs : Array Value) (d : TypeDesc)
    (hp : tmps.getD p undef = .pointer (some ⟨g, 0, none⟩)) (hg : Blk w g t cs)
    (hu : P.underlying ty = some d) (hd : (match d with | .struct _ | .array _ _ => true | _ => false) = true) (hi : (P.info? ty).map (·.size) = some cs.size) :
    (results fn tmps).run P w = .ok (.tuple #[.agg cs, tmps.getD q undef]) w := by
  have hp' : tmps[p]?.getD undef = .pointer (some ⟨g, 0, none⟩) := by simpa using hp
  simp [results, h, hp', asAddr, run_loadVar_row w g t ty cs (0, 0) d hg hu hd hi]
namespace Proofs.Ytfpcldnefpmgcaa
open Go.RowKit
/-- What is told of a block that was read. -/
def ReadPost (b : GBT) (code : Int) (w : World) (e : Ending) (w' : World) : Prop :=
  ∃ A2 c2 B2 d2, e = .returned (.tuple #[.agg #[.int .i64 b.1, .int .i64 b.2.1.1, .int .i64 b.2.1.2.1, .slice A2 b.2.2.1.length c2, .slice B2 b.2.2.2.1.length d2], .int .i64 code]) ∧
    Refs w' A2 b.2.2.1 ∧ Bytes w' B2 b.2.2.2.1 ∧ b.2.2.1.length ≤ c2 ∧ b.2.2.2.1.length ≤ d2 ∧ d2 ≤ 9223372036854775807 ∧ Below w.heap.size w w'
theorem ReadPost.none {code : Int} {w w' : World} (hB : Below w.heap.size w w') : ReadPost GB.none_ code w (.returned (.tuple #[.agg #[.int .i64 0, .int .i64 0, .int .i64 0, .slice none 0 0, .slice none 0 0], .int .i64 code])) w' :=
  ⟨Option.none, 0, Option.none, 0, rfl, fun h => absurd h (by simp [GB.none_]), Reads.nil _ _, Nat.le_refl _, Nat.le_refl _, by omega, hB⟩
def zeroGB : Array Value := #[.int .i64 0, .int .i64 0, .int .i64 0, .slice none 0 0, .slice none 0 0]
theorem zeroGB_one : zeroGB.all (·.oneCell') = true := by simp [zeroGB, Value.oneCell']
/-- The refs that bytes say. -/
def refsOf (raw : List UInt8) (M : Nat) : List RefT := (List.range M).map (fun i => ((at4 raw (36 + 8 * i) : Int), (at4 raw (36 + 8 * i + 4) : Int), ()))
theorem refsOf_succ (raw : List UInt8) (i : Nat) : refsOf raw (i + 1) = refsOf raw i ++ [((at4 raw (36 + 8 * i) : Int), (at4 raw (36 + 8 * i + 4) : Int), ())] := by
  unfold refsOf; rw [List.range_succ, List.map_append]; rfl
theorem refsOf_length (raw : List UInt8) (M : Nat) : (refsOf raw M).length = M := by simp [refsOf]
theorem refCells_snoc (l : List RefT) (x y : Int) : refCells (l ++ [(x, y, ())]) = refCells l ++ [.int .i64 x, .int .i64 y] := by unfold refCells; simp
theorem infoRef : (Try.prog.info? 42).map (fun i => (i.zero, i.size, i.bytes)) = some (some (.agg #[.int .i64 0, .int .i64 0]), 2, 16) := by kernel_rfl
theorem GB.bytes_iff (P : GBT) (raw : List UInt8) (h : Sha.sum (raw.drop 16) = raw.take 16) : GB.bytes P = raw ↔ GB.rest P = raw.drop 16 := by
  constructor
  · intro e
    rw [← e]
    unfold GB.bytes
    rw [← Sha.sum_len (GB.rest P), List.drop_left]
  · intro e
    unfold GB.bytes
    rw [e, h, List.take_append_drop]
theorem nosel1024 : Try.prog.eqGuardType Try.prog.depth 72 = false := by kernel_rfl
/-- Ahead of each ref that is read. -/
def ReadRel (w : World) (g0 gb : Nat) (k a s : Int) (raw : List UInt8) (M : Nat) (v : Value) (wr : World) : Prop :=
  ∃ (i : Nat) (v3 : Value) (sp : List Value), i ≤ M ∧ v = .int .i64 (i : Int) ∧ Blk wr g0 45 zeroGB ∧ Blk wr gb 45 #[.int .i64 k, .int .i64 a, .int .i64 s, v3, .slice none 0 0] ∧
    Own 42 2 wr (gb + 1) v3 i (refCells (refsOf raw i)) sp ∧ Below w.heap.size w wr
set_option maxHeartbeats 2000000 in
set_option maxRecDepth 100000 in
theorem read_any (A : Option Addr) (n c : Nat) (raw : List UInt8) (hn : n = raw.length) (hc : n ≤ c) (hc2 : c ≤ 9223372036854775807) (w : World) (hb : Bytes w A raw) :
    Calls Try.prog 36 #[.slice A n c] w (ReadPost (GB.read raw).2 (GB.read raw).1 w) := by
  by_cases h1 : n = 1024
  case neg =>
    have hrd : Hid (GB.read raw = (4, GB.none_)) := Lib.hid (by unfold GB.read; rw [if_pos (by omega)])
    rw [hrd.out]
    clear hn
    have H1 : ((n : Int) != 1024) = true := by rw [bne_iff_ne]; omega
    go_enter Try.func36, Try.ntmps36
    go_wp2
    refine bodyPost_ret (results_row_tmp (by rfl) _ _ w.heap.size _ _ _ (by rfl) (Blk.new _ _ _) Try.underlying45 (by rfl) sizeGB) rfl (ReadPost.none ((Below.refl _ _).alloc (Nat.le_refl _) _))
  subst h1
  obtain ⟨b, off, rfl, hbl, hcell⟩ := hb.at_ (by omega)
  have HN : Hid (raw.length = 1024) := Lib.hid hn.symm
  clear hn hcell
  have hg0 := Blk.new w 45 zeroGB
  have hB0 : Below w.heap.size w (w.alloc (.cells zeroGB 45)) := (Below.refl _ _).alloc (Nat.le_refl _) _
  have hc16 : ¬ c = 16 := by omega
  have hb1 := Bytes.below hb hB0
  go_enter Try.func36, Try.ntmps36
  go_wp2_with fail
  generalize hw1 : w.alloc (.cells #[.int .i64 0, .int .i64 0, .int .i64 0, .slice none 0 0, .slice none 0 0] 45) = w1
  have hw1' : w.alloc (.cells zeroGB 45) = w1 := hw1
  rw [hw1'] at hg0 hB0 hb1
  clear hw1 hw1'
  obtain ⟨g0, hgn⟩ : ∃ g0, g0 = w.heap.size := ⟨_, rfl⟩
  rw [← hgn] at hg0 ⊢
  have HGN := Lib.hid hgn
  clear hgn
  obtain ⟨T, hT⟩ : ∃ T, T = raw.take 16 := ⟨_, rfl⟩
  obtain ⟨D, hD⟩ : ∃ D, D = raw.drop 16 := ⟨_, rfl⟩
  have hTl : T.length = 16 := by rw [hT, List.length_take, HN.out]; rfl
  have hDl : D.length = 1008 := by rw [hD, List.length_drop, HN.out]
  have hbD : Bytes w1 (some ⟨b, off + 16, none⟩) D := by
    have h := hb1.drop (k := 16) (cap := c) (by omega)
    rw [if_neg hc16, ← hD] at h
    simpa [Addr.add_lit] using h
  have hbT : Bytes w1 (some ⟨b, off, none⟩) T := by rw [hT]; exact hb1.take 16
  have HT := Lib.hid hT
  have HD := Lib.hid hD
  have HTl := Lib.hid hTl
  have HDl := Lib.hid hDl
  clear hT hD hTl hDl
  refine wp_region_plan (Below w1.heap.size w1) [] [(true, 0), (true, 1), (true, 2), (true, 3), (true, 4), (true, 5), (false, 6), (false, 7)] (by kernel_rfl) (by kernel_rfl) (fun c a a' w h q => ⟨h ▸ q.1, q.2⟩) (Below.refl _ _).drew ?_
  refine wpPlan_pure [0, 1, 2, 3, 4] [(true, 5), (false, 6), (false, 7)] _ (by rfl) (by rfl) ?_
  dsimp only [List.filterMap, List.getElem?_cons_zero, List.getElem?_cons_succ]
  repeat (go_big_quiet_step (fail))
  refine wpQuiet_array (by rfl) _ _ (by rfl) 16 _ Try.underlying23 (some ⟨b, off, none⟩) 16 c (by rfl) (Nat.le_refl _) ?_
  simp only [Act.put, List.setIfInBounds_toArray, List.set_cons_zero, List.set_cons_succ]
  refine wpQuiet_nil ?_
  refine wpPlan_takeL [5] [(false, 6), (false, 7)] _ (by rfl) (by rfl) (Below.refl _ _).drew ?_
  dsimp only [List.filterMap, List.getElem?_cons_zero, List.getElem?_cons_succ]
  refine wpQuiet_load_mid (fun w' hw' => (Bytes.below hbT hw').range) (by rfl) _ _ (by rfl) (by rfl) _ Try.underlying23 (by rfl) size16 (by rw [List.length_map]; exact HTl.out) ?_
  simp only [Act.put, List.setIfInBounds_toArray, List.set_cons_zero, List.set_cons_succ]
  refine wpQuiet_nil ?_
  refine wpPlan_forceL _ rfl ?_
  go_wp2_with fail
  refine (right_seal_any (some ⟨b, off + 16, none⟩) 1008 (c - 16) D T HDl.out.symm (by rw [HDl.out]; omega) ⟨by rw [HDl.out]; omega, by omega⟩ HTl.out w1.drew hbD).mono ?_
  rintro e w2 ⟨rfl, hbx⟩
  have hBx : Below w1.heap.size w1 w2 := (Below.refl _ _).drew.trans hbx
  have hb2 := Bytes.below hb1 hBx
  have hg2 := keep hBx hg0
  have hB2 := hB0.trans (hBx.mono hB0.size)
  clear hbx hbD hbT hb1 hg0 hB0
  go_wp2_with fail
  refine PlanQ.in_ hBx ?_
  refine wpPlan_forceL _ rfl ?_
  by_cases hseal : Sha.sum D = T
  case neg =>
    have hrd : Hid (GB.read raw = (12, GB.none_)) := Lib.hid (by
      unfold GB.read
      rw [if_neg (by rw [HN.out]; simp), if_pos (by rw [← HT.out, ← HD.out]; exact hseal)])
    rw [decide_eq_false hseal]
    go_wp2_with fail
    refine PlanQ.in_ hBx ?_
    refine wpPlan_nil ?_
    clear hseal
    go_wp2_with (first
      | (show wpList _ _ _ ((⟨none, _, _, _, _, _⟩ : Oper) :: _) _ _; refine wpList_store_blk (o := ⟨none, _, _, _, _, _⟩) (hg2) (by rfl) _ _ _ (by rfl) (by rfl) (zeroGB) (by rfl) (sizeGB) (by rfl) (by rfl) (by exact zeroGB_one) ?_; intro w3 h3 hu3)
      | fail)
    refine bodyPost_ret (results_row_tmp (by rfl) _ _ g0 _ _ _ (by rfl) h3 Try.underlying45 (by rfl) sizeGB) rfl ?_
    rw [hrd.out]
    exact ReadPost.none (hB2.upd hu3 (by rw [HGN.out]; exact Nat.le_refl _))
  rw [decide_eq_true hseal]
  have HSEAL : Hid (Sha.sum (raw.drop 16) = raw.take 16) := Lib.hid (by rw [← HD.out, ← HT.out]; exact hseal)
  go_wp2_with fail
  refine PlanQ.in_ hBx ?_
  refine wpPlan_nil ?_
  clear hseal hBx
  have num : ∀ (p : Nat) (wx : World), p + 4 ≤ 1024 → Bytes wx (some ⟨b, off, none⟩) raw → Calls Try.prog 51 #[.slice (some ⟨b, off, none⟩) 1024 c, .int .i64 p] wx fun e w' => e = .returned (.int .i64 (at4 raw p)) ∧ Below wx.heap.size wx w' := fun p wx hp hbx => by
    have := number_any (some ⟨b, off, none⟩) c p raw (by rw [HN.out]; exact hp) (by rw [HN.out]; omega) wx hbx
    rw [HN.out] at this
    exact this
  have NUM := Lib.hid num
  clear num
  go_wp2_with fail
  refine (NUM.out 16 w2 (by omega) hb2).mono ?_
  rintro e w3 ⟨rfl, hbx⟩
  (replace hb2 := keep hbx hb2; replace hg2 := keep hbx hg2; replace hB2 := hB2.trans (hbx.mono hB2.size); clear hbx)
  go_wp2_with fail
  refine (NUM.out 20 w3 (by omega) hb2).mono ?_
  rintro e w4 ⟨rfl, hbx⟩
  (replace hb2 := keep hbx hb2; replace hg2 := keep hbx hg2; replace hB2 := hB2.trans (hbx.mono hB2.size); clear hbx)
  go_wp2_with fail
  refine (NUM.out 24 w4 (by omega) hb2).mono ?_
  rintro e w5 ⟨rfl, hbx⟩
  (replace hb2 := keep hbx hb2; replace hg2 := keep hbx hg2; replace hB2 := hB2.trans (hbx.mono hB2.size); clear hbx)
  go_wp2_with fail
  have hbx := (Below.refl w5.heap.size w5).alloc (Nat.le_refl _) (.cells #[.int .i64 (at4 raw 16), .int .i64 (at4 raw 20), .int .i64 (at4 raw 24), .slice none 0 0, .slice none 0 0] 45)
  have hgb := Blk.new w5 45 #[.int .i64 (at4 raw 16), .int .i64 (at4 raw 20), .int .i64 (at4 raw 24), .slice none 0 0, .slice none 0 0]
  have hgne : g0 < w5.heap.size := hg2.lt
  generalize w5.alloc (.cells #[.int .i64 (at4 raw 16), .int .i64 (at4 raw 20), .int .i64 (at4 raw 24), .slice none 0 0, .slice none 0 0] 45) = w6 at hbx hgb ⊢
  have hgw : w.heap.size ≤ w5.heap.size := hB2.size
  (replace hb2 := keep hbx hb2; replace hg2 := keep hbx hg2; replace hB2 := hB2.trans (hbx.mono hB2.size); clear hbx)
  generalize w5.heap.size = gb at hgne hgw hgb ⊢
  refine (NUM.out 28 w6 (by omega) hb2).mono ?_
  rintro e w7 ⟨rfl, hbx⟩
  (replace hb2 := keep hbx hb2; replace hg2 := keep hbx hg2; replace hgb := keep hbx hgb; replace hB2 := hB2.trans (hbx.mono hB2.size); clear hbx)
  go_wp2_with fail
  refine (NUM.out 32 w7 (by omega) hb2).mono ?_
  rintro e w8 ⟨rfl, hbx⟩
  (replace hb2 := keep hbx hb2; replace hg2 := keep hbx hg2; replace hgb := keep hbx hgb; replace hB2 := hB2.trans (hbx.mono hB2.size); clear hbx)
  have hm := at4_lt raw 28
  have hz := at4_lt raw 32
  obtain ⟨M, hM⟩ : ∃ M, M = at4 raw 28 := ⟨_, rfl⟩
  obtain ⟨Z, hZ⟩ : ∃ Z, Z = at4 raw 32 := ⟨_, rfl⟩
  rw [← hM] at hm ⊢
  rw [← hZ] at hz ⊢
  have HM := Lib.hid hM
  have HZ := Lib.hid hZ
  clear hM hZ
  by_cases hbig : 16 < M ∨ 860 < Z
  case pos =>
    have hrd : Hid (GB.read raw = (4, GB.none_)) := Lib.hid (by
      unfold GB.read
      rw [if_neg (by rw [HN.out]; simp), if_neg (by rw [HSEAL.out]; simp), ← HM.out, ← HZ.out, if_pos hbig])
    by_cases hM16 : 16 < M
    all_goals
      go_wp2_with (first
        | (show wpList _ _ _ ((⟨none, _, _, _, _, _⟩ : Oper) :: _) _ _; refine wpList_store_blk (o := ⟨none, _, _, _, _, _⟩) (hg2) (by rfl) _ _ _ (by rfl) (by rfl) (zeroGB) (by rfl) (sizeGB) (by rfl) (by rfl) (by exact zeroGB_one) ?_; intro w3 h3 hu3)
        | fail)
      refine bodyPost_ret (results_row_tmp (by rfl) _ _ g0 _ _ _ (by rfl) h3 Try.underlying45 (by rfl) sizeGB) rfl ?_
      rw [hrd.out]
      exact ReadPost.none (hB2.upd hu3 (by rw [HGN.out]; exact Nat.le_refl _))
  have hM16 : ¬ 16 < M := fun h => hbig (.inl h)
  have hZ16 : ¬ 860 < Z := fun h => hbig (.inr h)
  clear hbig
  go_wp2_with fail
  go_loopw [41] (fun v wr => ReadRel w g0 gb (at4 raw 16) (at4 raw 20) (at4 raw 24) raw M v wr) (fun v _ => M - (intOf v).toNat)
  case atStart => exact ⟨0, _, [], by omega, rfl, hg2, hgb, Own.nil _ _ _ _, hB2⟩
  case round =>
    clear hg2 hgb hb2 hB2
    obtain ⟨i, v3, sp, hi, rfl, hg2, hgb, hown, hBr⟩ := hrel
    have hbr := Bytes.below hb hBr
    have hgl := hgb.lt
    by_cases hlt : i < M
    · go_wp2_with fail
      refine wp_region_plan (fun w' => Blk w' gb 45 #[.int .i64 (at4 raw 16), .int .i64 (at4 raw 20), .int .i64 (at4 raw 24), v3, .slice none 0 0]) [17]
        [(true, 0), (true, 2), (true, 3), (true, 4), (true, 5), (true, 7), (true, 8), (true, 9), (true, 10), (true, 11), (true, 1), (false, 6), (false, 12), (true, 13), (false, 14), (false, 15), (true, 16), (false, 17)] (by kernel_rfl) (by kernel_rfl) (fun c a a' w h q => ⟨h ▸ q.1, q.2⟩) hgb.drew ?_
      refine wpPlan_pure [0, 2, 3, 4, 5, 7, 8, 9, 10, 11] [(true, 1), (false, 6), (false, 12), (true, 13), (false, 14), (false, 15), (true, 16), (false, 17)] _ (by rfl) (by rfl) ?_
      dsimp only [List.filterMap, List.getElem?_cons_zero, List.getElem?_cons_succ]
      repeat (go_big_quiet_step (fail))
      refine wpQuiet_nil ?_
      refine wpPlan_takeL [1] [(false, 6), (false, 12), (true, 13), (false, 14), (false, 15), (true, 16), (false, 17)] _ (by rfl) (by rfl) hgb.drew ?_
      dsimp only [List.filterMap, List.getElem?_cons_zero, List.getElem?_cons_succ]
      (refine wpQuiet_load_cell (fun w' hw' => Blk.at_ (v := v3) hw' 3 (by simp)) (by rfl) _ _ (by rfl) (by rfl) _ Try.underlying43 (by rfl) ?_; simp only [Act.put, List.setIfInBounds_toArray, List.set_cons_zero, List.set_cons_succ])
      refine wpQuiet_nil ?_
      refine wpPlan_forceL _ rfl ?_
      go_wp2_with fail
      rw [show (36 : Int) + 8 * (i : Int) = ((36 + 8 * i : Nat) : Int) by omega]
      refine (NUM.out (36 + 8 * i) wr.drew (by omega) hbr).mono ?_
      rintro e w9 ⟨rfl, hbx⟩
      have hgb9 := keep hbx hgb.drew
      have hg29 := keep hbx hg2.drew
      have hown9 : Own 42 2 w9 (gb + 1) v3 i (refCells (refsOf raw i)) sp := Own.ownBelow (w := wr.drew) hown hbx
      have hB9 := hBr.drew.trans (hbx.mono hBr.size)
      have hb9 := Bytes.below hb hB9
      clear hbx hgb hg2 hown hBr hbr hgl
      go_wp2_with fail
      refine PlanQ.in_ hgb9 ?_
      refine wpPlan_forceL _ rfl ?_
      go_wp2_with fail
      rw [show (36 : Int) + 8 * (i : Int) + 4 = ((36 + 8 * i + 4 : Nat) : Int) by omega]
      refine (NUM.out (36 + 8 * i + 4) w9 (by omega) hb9).mono ?_
      rintro e w10 ⟨rfl, hbx⟩
      (replace hgb9 := keep hbx hgb9; replace hg29 := keep hbx hg29; replace hown9 := keep hbx hown9; replace hB9 := hB9.trans (hbx.mono hB9.size); clear hbx hb9)
      go_wp2_with fail
      refine PlanQ.in_ hgb9 ?_
      refine wpPlan_pure [13] [(false, 14), (false, 15), (true, 16), (false, 17)] _ (by rfl) (by rfl) ?_
      dsimp only [List.filterMap, List.getElem?_cons_zero, List.getElem?_cons_succ]
      repeat (go_big_quiet_step (fail))
      refine wpQuiet_nil ?_
      refine wpPlan_forceL _ rfl ?_
      go_wp2_with fail
      have hbx := (Below.refl w10.heap.size w10).alloc (Nat.le_refl _) (.cells #[.int .i64 (at4 raw (36 + 8 * i)), .int .i64 (at4 raw (36 + 8 * i + 4))] 42)
      have hnew := (Blk.new w10 42 #[.int .i64 (at4 raw (36 + 8 * i)), .int .i64 (at4 raw (36 + 8 * i + 4))])
      generalize w10.alloc (.cells #[.int .i64 (at4 raw (36 + 8 * i)), .int .i64 (at4 raw (36 + 8 * i + 4))] 42) = w11 at hbx hnew ⊢
      (replace hgb9 := keep hbx hgb9; replace hg29 := keep hbx hg29; replace hown9 := keep hbx hown9; replace hB9 := hB9.trans (hbx.mono hB9.size); clear hbx)
      refine PlanQ.in_ hgb9 ?_
      refine wpPlan_forceL _ rfl ?_
      have hrd : Reads w11 (some ⟨w10.heap.size, 0, none⟩) [.int .i64 (at4 raw (36 + 8 * i)), .int .i64 (at4 raw (36 + 8 * i + 4))] := fun _ => ⟨_, 0, rfl, fun j v hv => by
        rw [Nat.zero_add, hnew.cell]; simpa using hv⟩
      have hgl := hgb9.lt
      refine wpList_append_all (by rfl) _ _ _ (by rfl) (gb + 1) 42 (.agg #[.int .i64 0, .int .i64 0]) 2 16 Try.underlying43 infoRef (by rfl) (by omega) v3 i (refCells (refsOf raw i)) sp (by rfl) hown9 (some ⟨w10.heap.size, 0, none⟩) 1 1 _ (by rfl) (by rfl) hrd (by simp [Value.oneCell']) (by unfold maxLen; omega) (by omega) (by omega) ?_
      intro v12 w12 sp12 hown12 hgr12
      obtain ⟨A12, c12, rfl, _, _, _, _⟩ := Own.reads hown12
      have hne12 : v3.ownBlock ≠ some gb := fun e => by have := (Own.lt hown9 gb e).1; omega
      have hne0 : v3.ownBlock ≠ some g0 := fun e => by have := (Own.lt hown9 g0 e).1; omega
      have hgb12 : Blk w12 gb 45 #[.int .i64 (at4 raw 16), .int .i64 (at4 raw 20), .int .i64 (at4 raw 24), v3, .slice none 0 0] := (hgr12.block gb hgl (Ne.symm hne12)).trans hgb9
      have hg012 : Blk w12 g0 45 zeroGB := (hgr12.block g0 hg29.lt (Ne.symm hne0)).trans hg29
      have hB12 : Below w.heap.size w w12 := hB9.grown hgr12 hB9.size (fun k hk => by have := (Own.lt hown9 k hk).1; omega)
      clear hgr12 hown9 hB9 hgb9 hg29 hrd hnew
      refine wpList_nil ?_
      refine PlanQ.in_ hgb12 ?_
      simp only [Act.put, List.setIfInBounds_toArray, List.set_cons_zero, List.set_cons_succ]
      refine wpPlan_pure [16] [(false, 17)] _ (by rfl) (by rfl) ?_
      dsimp only [List.filterMap, List.getElem?_cons_zero, List.getElem?_cons_succ]
      repeat (go_big_quiet_step (fail))
      refine wpQuiet_nil ?_
      refine wpPlan_forceL _ rfl ?_
      have d3 := hgb12.at_ (v := v3) 3 (by simp)
      have f3 := hgb12.frozen 3
      have hgb13 := (hgb12.set_ 3 (.slice A12 (i + 1) c12)).sub (cs' := #[.int .i64 (at4 raw 16), .int .i64 (at4 raw 20), .int .i64 (at4 raw 24), .slice A12 (i + 1) c12, .slice none 0 0]) (by simp)
      have hg013 := hg012.off (c := gb) (by omega) (i := 3) (.slice A12 (i + 1) c12)
      have hown13 := Own.off (c := gb) (i := 3) hown12 (fun e => by have := (Own.lt hown12 gb e).1; omega) (.slice A12 (i + 1) c12)
      have hB13 := hB12.set_ (c := gb) (i := 3) (by omega) (.slice A12 (i + 1) c12)
      have HOWN : Hid (Own 42 2 (w12.setCell ⟨gb, 3, none⟩ (.slice A12 (i + 1) c12)) (gb + 1) (.slice A12 (i + 1) c12) (i + 1) (refCells (refsOf raw (i + 1))) sp12) := Lib.hid (by
        rw [refsOf_succ, refCells_snoc]; exact hown13)
      clear hown12 hown13 hgb12 hg012 hB12
      go_wp2_with fail
      refine PlanQ.out (by rfl) ?_
      refine wpPlan_nil ?_
      clear d3 f3
      go_wp2
      first
        | (go_roundw
           case rel => exact ⟨i + 1, _, sp12, by omega, by go_num, hg013, hgb13, HOWN.out, hB13⟩
           case measure => simp [intOf]; omega)
        | (refine ⟨?_, ?_⟩
           · (repeat apply Exists.intro)
             exact ⟨⟨i + 1, _, sp12, by omega, by go_num, hg013, hgb13, HOWN.out, hB13⟩, rfl⟩
           · simp [intOf]; omega)
    · obtain rfl : i = M := by omega
      obtain ⟨A3, c3, rfl, hc3, hc3m, hr3, _⟩ := Own.reads hown
      clear hr3
      obtain ⟨BD, hBD⟩ : ∃ BD, BD = (raw.drop 164).take Z := ⟨_, rfl⟩
      have hBDl : Hid (BD.length = Z) := Lib.hid (by rw [hBD, List.length_take, List.length_drop, HN.out]; omega)
      have hbBD : Bytes wr (some ⟨b, off + 164, none⟩) BD := by
        have h := hbr.drop (k := 164) (cap := c) (by omega)
        rw [if_neg (by omega)] at h
        have h2 := h.take Z
        rw [← hBD] at h2
        simpa [Addr.add_lit] using h2
      have HBD := Lib.hid hBD
      clear hBD
      go_wp2_with (first
        | (show wpList _ _ _ ((⟨some 66, _, _, _, _, _⟩ : Oper) :: _) _ _; refine wpList_append_bytes (o := ⟨some 66, _, _, _, _, _⟩) (by rfl) _ _ _ (by rfl) (gb + 1) _ Try.underlying22 u8info (.slice none 0 0) [] [] (by rfl) (Own.nil _ _ _ _) (some ⟨b, off + 164, none⟩) (c - 164) BD (by rw [hBDl.out]; show Value.slice _ _ _ = _; congr 1 <;> omega) hbBD (by simp; rw [hBDl.out]; omega) (by omega) ?_; intro v4 w4 sp4 ho4 hg4 _ _; have hbx := (Below.refl wr.heap.size wr).grown hg4 (Nat.le_refl _) (fun k hk => by cases hk); obtain ⟨A4, c4, rfl, hc4, hm4, hs4⟩ := OwnB.open_ ho4; (rw [List.nil_append] at ho4 hc4 hs4 ⊢); (replace hown := keep hbx hown; replace hgb := keep hbx hgb; replace hg2 := keep hbx hg2; replace hbr := keep hbx hbr; replace hBr := hBr.trans (hbx.mono hBr.size)); have d4 := hgb.at_ (v := .slice none 0 0) 4 (by simp); have f4 := hgb.frozen 4; clear hbx hg4 hbBD)
        | fail)
      have hown5 := Own.off (c := gb) (i := 4) hown (fun e => by have := (Own.lt hown gb e).1; omega) (.slice A4 BD.length c4)
      have ho5 : OwnB 5 (w4.setCell ⟨gb, 4, none⟩ (.slice A4 BD.length c4)) (gb + 1) (.slice A4 BD.length c4) BD sp4 := Own.off (c := gb) (i := 4) ho4 (fun e => by have := (Own.lt ho4 gb e).1; omega) (.slice A4 BD.length c4)
      have hgb5 := (hgb.set_ 4 (.slice A4 BD.length c4)).sub (cs' := #[.int .i64 (at4 raw 16), .int .i64 (at4 raw 20), .int .i64 (at4 raw 24), .slice A3 i c3, .slice A4 BD.length c4]) (by simp)
      have hg05 := hg2.off (c := gb) (by omega) (i := 4) (.slice A4 BD.length c4)
      have hB5 := hBr.set_ (c := gb) (i := 4) (by omega) (.slice A4 BD.length c4)
      generalize w4.setCell ⟨gb, 4, none⟩ (.slice A4 BD.length c4) = w5 at hown5 ho5 hgb5 hg05 hB5 ⊢
      clear hown ho4 hgb hg2 hBr hbr d4 f4 hs4
      have hbr5 := Bytes.below hb hB5
      obtain ⟨_, _, e3, _, _, hr3, _⟩ := Own.reads hown5
      simp only [Value.slice.injEq] at e3
      obtain ⟨rfl, _, rfl⟩ := e3
      have hA3 : ∀ ad, A3 = some ad → ad.block ≠ g0 := fun ad had => by
        have := (Own.lt hown5 ad.block (by rw [had]; rfl)).1
        omega
      have hrefs : Refs w5 A3 (refsOf raw i) := Refs.of hr3
      have hrl : Hid ((refsOf raw i).length = i) := Lib.hid (refsOf_length raw i)
      obtain ⟨_, _, e4, _, _, hbd5⟩ := OwnB.open_ ho5
      simp only [Value.slice.injEq] at e4
      obtain ⟨rfl, _, rfl⟩ := e4
      have hA4 : ∀ ad, A4 = some ad → ad.block ≠ g0 := fun ad had => by
        have := (Own.lt ho5 ad.block (by rw [had]; rfl)).1
        omega
      clear hr3 hown5 ho5
      have hP : Hid (GB.parse raw = ((at4 raw 16 : Int), ((at4 raw 20 : Int), (at4 raw 24 : Int), ()), refsOf raw i, BD, ())) := Lib.hid (by
        unfold GB.parse
        rw [← HM.out, ← HZ.out, ← HBD.out]; rfl)
      have hread : Hid (GB.read raw = if GB.ok (GB.parse raw) = true ∧ GB.rest (GB.parse raw) = raw.drop 16 then (0, GB.parse raw) else (4, GB.none_)) := Lib.hid (by
        unfold GB.read
        rw [if_neg (by rw [HN.out]; simp), if_neg (by rw [HSEAL.out]; simp), ← HM.out, ← HZ.out, if_neg (by omega)])
      have chk : ∀ wx, Refs wx A3 (refsOf raw i) → Calls Try.prog 32 #[.agg #[.int .i64 (at4 raw 16), .int .i64 (at4 raw 20), .int .i64 (at4 raw 24), .slice A3 i c3, .slice A4 BD.length c4]] wx fun e w' => e = .returned (.int .i64 (GB.code (GB.parse raw))) ∧ Below wx.heap.size wx w' := fun wx hx => by
        have := check_any (at4 raw 16) (at4 raw 20) (at4 raw 24) A3 A4 c3 c4 (refsOf raw i) BD (by rw [hrl.out]; omega) (by rw [hBDl.out]; omega) wx hx
        rw [hrl.out, ← hP.out] at this
        exact this
      have CHK := Lib.hid chk
      have lay : GB.ok (GB.parse raw) = true → ∀ wx, Refs wx A3 (refsOf raw i) → Bytes wx A4 BD → Calls Try.prog 47 #[.agg #[.int .i64 (at4 raw 16), .int .i64 (at4 raw 20), .int .i64 (at4 raw 24), .slice A3 i c3, .slice A4 BD.length c4]] wx fun e w' => e = .returned (.agg ((GB.bytes (GB.parse raw)).map u8v).toArray) ∧ Below wx.heap.size wx w' := fun hok wx hx hy => by
        have := laid_any (at4 raw 16) (at4 raw 20) (at4 raw 24) A3 A4 c3 c4 (refsOf raw i) BD (by rw [← hP.out]; exact hok) wx hx hy
        rw [hrl.out, ← hP.out] at this
        exact this
      have LAY := Lib.hid lay
      clear chk lay
      refine wp_region_plan (Below w5.heap.size w5) [] [(true, 0), (false, 1), (true, 2), (true, 3), (true, 6), (true, 7), (true, 4), (true, 8), (false, 5), (true, 9), (true, 10)] (by kernel_rfl) (by kernel_rfl) (fun c a a' w h q => ⟨h ▸ q.1, q.2⟩) (Below.refl _ _).drew ?_
      refine wpPlan_takeL [0] [(false, 1), (true, 2), (true, 3), (true, 6), (true, 7), (true, 4), (true, 8), (false, 5), (true, 9), (true, 10)] _ (by rfl) (by rfl) (Below.refl _ _).drew ?_
      dsimp only [List.filterMap, List.getElem?_cons_zero, List.getElem?_cons_succ]
      refine wpQuiet_load_blk (fun w' hw' => hgb5.below hw' hgb5.lt) (by rfl) _ _ (by rfl) (by rfl) _ Try.underlying45 (by rfl) sizeGB (by rfl) ?_
      simp only [Act.put, List.setIfInBounds_toArray, List.set_cons_zero, List.set_cons_succ]
      refine wpQuiet_nil ?_
      refine wpPlan_forceL _ rfl ?_
      go_wp2_with fail
      refine (CHK.out w5.drew hrefs).mono ?_
      rintro e w6 ⟨rfl, hbx⟩
      have hC6 : Below w5.heap.size w5 w6 := (Below.refl _ _).drew.trans hbx
      clear hbx
      cases hok : GB.ok (GB.parse raw)
      · have hrd : Hid (GB.read raw = (4, GB.none_)) := Lib.hid (by rw [hread.out, if_neg (by rw [hok]; simp)])
        rw [GB.code_no hok]
        clear hok
        go_wp2_with fail
        refine PlanQ.in_ hC6 ?_
        refine wpPlan_pure [2, 3, 6, 7] [(true, 4), (true, 8), (false, 5), (true, 9), (true, 10)] _ (by rfl) (by rfl) ?_
        dsimp only [List.filterMap, List.getElem?_cons_zero, List.getElem?_cons_succ]
        repeat (go_big_quiet_step (fail))
        refine wpQuiet_nil ?_
        refine wpPlan_takeL [4, 8] [(false, 5), (true, 9), (true, 10)] _ (by rfl) (by rfl) hC6 ?_
        dsimp only [List.filterMap, List.getElem?_cons_zero, List.getElem?_cons_succ]
        repeat (go_big_quiet_step (fail))
        refine wpQuiet_nil ?_
        refine wpPlan_forceL _ rfl ?_
        go_wp2_with fail
        refine PlanQ.in_ hC6 ?_
        refine wpPlan_pure [9, 10] [] _ (by rfl) (by rfl) ?_
        dsimp only [List.filterMap, List.getElem?_cons_zero, List.getElem?_cons_succ]
        repeat (go_big_quiet_step (fail))
        refine wpQuiet_nil ?_
        refine wpPlan_nil ?_
        have hg06 := keep hC6 hg05
        have hB6 := hB5.trans (hC6.mono hB5.size)
        go_wp2_with (first
          | (show wpList _ _ _ ((⟨none, _, _, _, _, _⟩ : Oper) :: _) _ _; refine wpList_store_blk (o := ⟨none, _, _, _, _, _⟩) (hg06) (by rfl) _ _ _ (by rfl) (by rfl) (zeroGB) (by rfl) (sizeGB) (by rfl) (by rfl) (by exact zeroGB_one) ?_; intro w3 h3 hu3)
          | fail)
        refine bodyPost_ret (results_row_tmp (by rfl) _ _ g0 _ _ _ (by rfl) h3 Try.underlying45 (by rfl) sizeGB) rfl ?_
        rw [hrd.out]
        exact ReadPost.none (hB6.upd hu3 (by rw [HGN.out]; exact Nat.le_refl _))
      · rw [GB.code_ok hok]
        have HOK := Lib.hid hok
        clear hok
        go_wp2_with fail
        refine PlanQ.in_ hC6 ?_
        refine wpPlan_pure [2, 3, 6, 7] [(true, 4), (true, 8), (false, 5), (true, 9), (true, 10)] _ (by rfl) (by rfl) ?_
        dsimp only [List.filterMap, List.getElem?_cons_zero, List.getElem?_cons_succ]
        repeat (go_big_quiet_step (fail))
        refine wpQuiet_want' (by rfl) ?_
        refine wpQuiet_array (by rfl) _ _ (by rfl) 1024 _ Try.underlying72 (some ⟨b, off, none⟩) 1024 c (by rfl) (Nat.le_refl _) ?_
        simp only [Act.put, List.setIfInBounds_toArray, List.set_cons_zero, List.set_cons_succ]
        refine wpQuiet_nil ?_
        refine wpPlan_takeL [4, 8] [(false, 5), (true, 9), (true, 10)] _ (by rfl) (by rfl) hC6 ?_
        dsimp only [List.filterMap, List.getElem?_cons_zero, List.getElem?_cons_succ]
        refine wpQuiet_want' (by rfl) ?_
        refine wpQuiet_load_blk (fun w' hw' => hgb5.below hw' hgb5.lt) (by rfl) _ _ (by rfl) (by rfl) _ Try.underlying45 (by rfl) sizeGB (by rfl) ?_
        simp only [Act.put, List.setIfInBounds_toArray, List.set_cons_zero, List.set_cons_succ]
        refine wpQuiet_want' (by rfl) ?_
        refine wpQuiet_load_mid (fun w' hw' => (Bytes.below hbr5 hw').range) (by rfl) _ _ (by rfl) (by rfl) _ Try.underlying72 (by rfl) size1024 (by rw [List.length_map]; exact HN.out) ?_
        simp only [Act.put, List.setIfInBounds_toArray, List.set_cons_zero, List.set_cons_succ]
        refine wpQuiet_nil ?_
        refine wpPlan_forceL _ rfl ?_
        have hr6 := keep hC6 hrefs
        have hd6 := keep hC6 hbd5
        go_wp2_with fail
        refine (LAY.out HOK.out w6 hr6 hd6).mono ?_
        rintro e w7 ⟨rfl, hbx⟩
        have hC7 : Below w5.heap.size w5 w7 := hC6.trans (hbx.mono hC6.size)
        clear hbx hC6 hr6 hd6
        go_wp2_with fail
        refine PlanQ.in_ hC7 ?_
        have hPl : (GB.bytes (GB.parse raw)).length = 1024 := by
          obtain ⟨_, _, h3, h4, _⟩ := GB.ok_spec HOK.out
          exact GB.bytes_length _ h3 h4
        refine wpPlan_pure [9, 10] [] _ (by rfl) (by rfl) ?_
        dsimp only [List.filterMap, List.getElem?_cons_zero, List.getElem?_cons_succ]
        refine wpQuiet_want' (by rfl) ?_
        refine wpQuiet_neq_bytes (by rfl) _ _ _ _ _ (by rfl) 1024 Try.underlying72 Try.underlying5 size1 nosel1024 (GB.bytes (GB.parse raw)) raw (by rfl) (by rfl) hPl HN.out _ rfl ?_
        simp only [Act.put, List.setIfInBounds_toArray, List.set_cons_zero, List.set_cons_succ]
        repeat (go_big_quiet_step (fail))
        refine wpQuiet_nil ?_
        refine wpPlan_nil ?_
        have hg07 := keep hC7 hg05
        have hgb7 := keep hC7 hgb5
        have hB7 := hB5.trans (hC7.mono hB5.size)
        have hr7 := keep hC7 hrefs
        have hd7 := keep hC7 hbd5
        clear hPl hC7 hg05 hgb5 hB5 hrefs hbd5 hbr5
        by_cases heq : GB.bytes (GB.parse raw) = raw
        · have hrd : Hid (GB.read raw = (0, GB.parse raw)) := Lib.hid (by rw [hread.out, if_pos ⟨HOK.out, (GB.bytes_iff _ _ HSEAL.out).1 heq⟩])
          rw [decide_eq_true heq]
          clear heq
          go_wp2_with (first
            | (show wpList _ _ _ ((⟨some 80, _, _, _, _, _⟩ : Oper) :: _) _ _; refine wpList_load_blk (o := ⟨some 80, _, _, _, _, _⟩) (hgb7) (by rfl) _ _ (by rfl) (by rfl) _ Try.underlying45 (by rfl) (sizeGB) (by rfl) ?_)
            | (show wpList _ _ _ ((⟨none, _, _, _, _, _⟩ : Oper) :: _) _ _; refine wpList_store_blk (o := ⟨none, _, _, _, _, _⟩) (hg07) (by rfl) _ _ _ (by rfl) (by rfl) (#[.int .i64 (at4 raw 16), .int .i64 (at4 raw 20), .int .i64 (at4 raw 24), .slice A3 i c3, .slice A4 BD.length c4]) (by rfl) (sizeGB) (by rfl) (by rfl) (by simp [Value.oneCell']) ?_; intro w8 h8 hu8)
            | fail)
          refine bodyPost_ret (results_row_tmp (by rfl) _ _ g0 _ _ _ (by rfl) h8 Try.underlying45 (by rfl) sizeGB) rfl ?_
          rw [hrd.out, hP.out]
          refine ⟨A3, c3, A4, c4, ?_, Refs.of (Reads.upd (Refs.reads hr7) hu8 hA3), Reads.upd hd7 hu8 hA4, by rw [hrl.out]; exact hc3, hc4, hm4, hB7.upd hu8 (by rw [HGN.out]; exact Nat.le_refl _)⟩
          simp only [hrl.out]
          rfl
        · have hrd : Hid (GB.read raw = (4, GB.none_)) := Lib.hid (by rw [hread.out, if_neg (fun h => heq ((GB.bytes_iff _ _ HSEAL.out).2 h.2))])
          rw [decide_eq_false heq]
          clear heq
          go_wp2_with (first
            | (show wpList _ _ _ ((⟨none, _, _, _, _, _⟩ : Oper) :: _) _ _; refine wpList_store_blk (o := ⟨none, _, _, _, _, _⟩) (hg07) (by rfl) _ _ _ (by rfl) (by rfl) (zeroGB) (by rfl) (sizeGB) (by rfl) (by rfl) (by exact zeroGB_one) ?_; intro w8 h8 hu8)
            | fail)
          refine bodyPost_ret (results_row_tmp (by rfl) _ _ g0 _ _ _ (by rfl) h8 Try.underlying45 (by rfl) sizeGB) rfl ?_
          rw [hrd.out]
          exact ReadPost.none (hB7.upd hu8 (by rw [HGN.out]; exact Nat.le_refl _))
end Proofs.Ytfpcldnefpmgcaa
end Go
