/- The document's bytes of a block, behind its seal, as a call; and with it. Conditions: the block may be, its lists can be read. -/
import Derived.Test.YtfpcldnefpmgcaaRef10B
import Derived.Test.YtfpcldnefpmgcaaGridL
namespace Go
open Go.RowKit
theorem grown_far {B : Nat} {w w' : World} {row : Option Nat} (h : w.grownBy w' row) (hB : B ≤ w.heap.size) (hr : ∀ k, row = some k → B ≤ k) : Below B w w' := (Below.refl B w).grown h hB hr
end Go
namespace Go.Proofs.Ytfpcldnefpmgcaa
open Go.RowKit
/-- What the document's bytes are when i refs' places are laid. -/
def GB.upTo (b : GBT) (i : Nat) : List UInt8 := GB.head b ++ (refsBytes (b.2.2.1.take i) ++ List.replicate (8 * (i - b.2.2.1.length)) 0)
theorem le4_zero : le4 0 = [0, 0, 0, 0] := rfl
theorem GB.upTo_ref (b : GBT) (i : Nat) (h : i < b.2.2.1.length) : GB.upTo b (i + 1) = GB.upTo b i ++ le4 b.2.2.1[i].1.toNat ++ le4 b.2.2.1[i].2.1.toNat := by
  unfold GB.upTo
  rw [show i + 1 - b.2.2.1.length = 0 by omega, show i - b.2.2.1.length = 0 by omega, List.take_succ_eq_append_getElem h, refsBytes_snoc]
  simp
theorem GB.upTo_none (b : GBT) (i : Nat) (h : b.2.2.1.length ≤ i) : GB.upTo b (i + 1) = GB.upTo b i ++ le4 0 ++ le4 0 := by
  unfold GB.upTo
  rw [List.take_of_length_le (by omega), List.take_of_length_le h, show 8 * (i + 1 - b.2.2.1.length) = 8 * (i - b.2.2.1.length) + 8 by omega, ← List.replicate_append_replicate]
  simp [le4_zero]
theorem GB.upTo_length (b : GBT) (i : Nat) : (GB.upTo b i).length ≤ 20 + 8 * b.2.2.1.length + 8 * i := by
  unfold GB.upTo
  rw [List.length_append, List.length_append, GB.head_length, refsBytes_length, List.length_replicate, List.length_take]
  have := Nat.min_le_right i b.2.2.1.length
  omega
theorem GB.upTo_all (b : GBT) (h1 : b.2.2.1.length ≤ 16) : (GB.upTo b 16).length = 148 := by
  unfold GB.upTo
  rw [List.length_append, List.length_append, GB.head_length, refsBytes_length, List.length_replicate, List.length_take]
  omega
theorem GB.upTo_rest (b : GBT) (h1 : b.2.2.1.length ≤ 16) (h2 : b.2.2.2.1.length ≤ 860) : GB.upTo b 16 ++ b.2.2.2.1 ++ List.replicate (1008 - (GB.upTo b 16 ++ b.2.2.2.1).length) 0 = GB.rest b := by
  have hl : (GB.upTo b 16 ++ b.2.2.2.1).length = 148 + b.2.2.2.1.length := by
    unfold GB.upTo
    rw [List.length_append, List.length_append, List.length_append, GB.head_length, refsBytes_length, List.length_replicate, List.length_take]
    omega
  rw [hl]
  unfold GB.rest GB.tail GB.upTo
  rw [List.take_of_length_le h1, show 8 * (16 - b.2.2.1.length) = 128 - 8 * b.2.2.1.length by omega, show 1008 - (148 + b.2.2.2.1.length) = 860 - b.2.2.2.1.length by omega]
  simp
def NumsRel (w1 : World) (nums : List Nat) (v3 v5 : Value) (wr : World) : Prop :=
  ∃ (i : Nat) (sp : List UInt8), i ≤ 5 ∧ v5 = .int .i64 (i : Int) ∧ OwnB 5 wr w1.heap.size v3 (numsBytes (nums.take i)) sp ∧ Below w1.heap.size w1 wr
def RefsRel (w1 : World) (b : GBT) (v3 v6 : Value) (wr : World) : Prop :=
  ∃ (i : Nat) (sp : List UInt8), i ≤ 16 ∧ v6 = .int .i64 (i : Int) ∧ OwnB 5 wr w1.heap.size v3 (GB.upTo b i) sp ∧ Below w1.heap.size w1 wr
set_option maxHeartbeats 2000000 in
theorem behind_any (k ra rs : Int) (A B : Option Addr) (c d : Nat) (l : List RefT) (body : List UInt8) (hok : GB.ok (k, (ra, rs, ()), l, body, ()) = true) (w : World) (hr : Refs w A l) (hb : Bytes w B body) :
    Calls Try.prog 48 #[.agg #[.int .i64 k, .int .i64 ra, .int .i64 rs, .slice A l.length c, .slice B body.length d]] w
      fun e w' => ∃ v sp, e = .returned v ∧ OwnB 5 w' w.heap.size v (GB.rest (k, (ra, rs, ()), l, body, ())) sp ∧ Below w.heap.size w w' := by
  obtain ⟨⟨k1, k2⟩, hrf, hn, hbl, hall⟩ := GB.ok_spec hok
  obtain ⟨r1, r2, r3, r4⟩ := refOk_spec hrf
  simp only at k1 k2 r1 r2 r3 r4 hn hbl hall
  clear hrf hok
  have HALL := Lib.hid hall
  clear hall
  go_enter Try.func48, Try.ntmps48
  go_wp2_with fail
  have hbx := (((Below.refl w.heap.size w).alloc (Nat.le_refl _) (.cells #[.int .i64 k, .int .i64 ra, .int .i64 rs, .slice A l.length c, .slice B body.length d] 45)).alloc (by simp) (.cells #[.int .i64 k, .int .i64 ra, .int .i64 rs, .int .i64 (l.length : Int), .int .i64 (body.length : Int)] 3))
  have hg := (Blk.new w 45 #[.int .i64 k, .int .i64 ra, .int .i64 rs, .slice A l.length c, .slice B body.length d]).alloc (.cells #[.int .i64 k, .int .i64 ra, .int .i64 rs, .int .i64 (l.length : Int), .int .i64 (body.length : Int)] 3)
  have hi := Blk.new' (w.alloc (.cells #[.int .i64 k, .int .i64 ra, .int .i64 rs, .slice A l.length c, .slice B body.length d] 45)) 3 #[.int .i64 k, .int .i64 ra, .int .i64 rs, .int .i64 (l.length : Int), .int .i64 (body.length : Int)] (n := w.heap.size + 1) (by simp)
  have hs1 : ((w.alloc (.cells #[.int .i64 k, .int .i64 ra, .int .i64 rs, .slice A l.length c, .slice B body.length d] 45)).alloc (.cells #[.int .i64 k, .int .i64 ra, .int .i64 rs, .int .i64 (l.length : Int), .int .i64 (body.length : Int)] 3)).heap.size = w.heap.size + 2 := by simp
  generalize (w.alloc (.cells #[.int .i64 k, .int .i64 ra, .int .i64 rs, .slice A l.length c, .slice B body.length d] 45)).alloc (.cells #[.int .i64 k, .int .i64 ra, .int .i64 rs, .int .i64 (l.length : Int), .int .i64 (body.length : Int)] 3) = w1 at hbx hg hi hs1 ⊢
  have HS1 := Lib.hid hs1
  clear hs1
  have hr1 := hr.below hbx
  have hb1 := Bytes.below hb hbx
  have HB := Lib.hid hbx
  have HI := Lib.hid hi
  have HG := Lib.hid hg
  have HR := Lib.hid hr1
  have HBB := Lib.hid hb1
  clear hbx hi hg hr hb hr1 hb1
  go_loopw [3, 5] (fun v3 v5 wr => NumsRel w1 (GB.nums (k, (ra, rs, ()), l, body, ())) v3 v5 wr) (fun _ v _ => 5 - (intOf v).toNat)
  case atStart => exact ⟨0, [], by omega, rfl, Own.nil _ _ _ _, Below.refl _ _⟩
  case round =>
    obtain ⟨i, sp, hi5, rfl, hown, hBr⟩ := hrel
    by_cases hlt : i < 5
    · have hiw := HI.out.below hBr HI.out.lt
      obtain ⟨N, hN, hN2, d0⟩ : ∃ N : Nat, N < 4294967296 ∧ (GB.nums (k, (ra, rs, ()), l, body, ())).take (i + 1) = (GB.nums (k, (ra, rs, ()), l, body, ())).take i ++ [N] ∧ wr.cell? ⟨w.heap.size + 1, i, none⟩ = some (.int .i64 (N : Int)) := by
        rcases (show i = 0 ∨ i = 1 ∨ i = 2 ∨ i = 3 ∨ i = 4 by omega) with rfl | rfl | rfl | rfl | rfl
        · exact ⟨k.toNat, by omega, rfl, by rw [hiw.cell]; simp; omega⟩
        · exact ⟨ra.toNat, by omega, rfl, by rw [hiw.cell]; simp; omega⟩
        · exact ⟨rs.toNat, by omega, rfl, by rw [hiw.cell]; simp; omega⟩
        · exact ⟨l.length, by omega, rfl, by rw [hiw.cell]; simp⟩
        · exact ⟨body.length, by omega, rfl, by rw [hiw.cell]; simp⟩
      clear hiw
      have HN2 := Lib.hid hN2
      clear hN2
      have hsz := hBr.size
      have hlen : (numsBytes ((GB.nums (k, (ra, rs, ()), l, body, ())).take i)).length ≤ 100000 := by
        rw [numsBytes_length, List.length_take]; have := Nat.min_le_left i (GB.nums (k, (ra, rs, ()), l, body, ())).length; omega
      have hkeep := hown.lt
      go_wp2_with fail
      refine (rput_any w1.heap.size _ _ sp N hN hlen wr hsz hown).mono ?_
      rintro e w2 ⟨v2, sp2, rfl, ho2, hgr, _⟩
      have hB2 := hBr.grown hgr hsz (fun k hk => (hkeep k hk).1)
      clear d0 hown hBr hkeep hgr hlen
      go_wp2
      go_roundw
      case rel => exact ⟨i + 1, sp2, by omega, by go_num, by rw [HN2.out, numsBytes_snoc]; exact ho2, hB2⟩
      case measure => simp [intOf]; omega
    · obtain rfl : i = 5 := by omega
      go_wp2_with fail
      go_loopw [3, 6] (fun v3 v6 wr => RefsRel w1 (k, (ra, rs, ()), l, body, ()) v3 v6 wr) (fun _ v _ => 16 - (intOf v).toNat)
      case atStart =>
        refine ⟨0, sp, by omega, rfl, ?_, hBr⟩
        have : numsBytes ((GB.nums (k, (ra, rs, ()), l, body, ())).take 5) = GB.upTo (k, (ra, rs, ()), l, body, ()) 0 := by
          rw [List.take_of_length_le (by simp [GB.nums]), GB.head_nums]; unfold GB.upTo; simp [refsBytes]
        rw [← this]; exact hown
      case round =>
        clear hown hBr hi5 hlt
        obtain ⟨i, sp, hi16, rfl, hown, hBr⟩ := hrel
        have hsz := hBr.size
        by_cases hlt : i < 16
        · have hul : (GB.upTo (k, (ra, rs, ()), l, body, ()) i).length ≤ 1000 := by have := GB.upTo_length (k, (ra, rs, ()), l, body, ()) i; simp only at this; omega
          have hg0 := HG.out.below hBr HG.out.lt
          have hgl := HG.out.lt
          by_cases hli : i < l.length
          · obtain ⟨b, off, rfl, hbl, hcells⟩ := (HR.out.below hBr) (by omega)
            obtain ⟨d1, d2⟩ := hcells i hli
            have HU := Lib.hid (GB.upTo_ref (k, (ra, rs, ()), l, body, ()) i hli)
            have hxy := refOk_spec (HALL.out l[i] (List.getElem_mem hli))
            have HX := Lib.hid (show l[i].1 = (l[i].1.toNat : Int) by omega)
            have HY := Lib.hid (show l[i].2.1 = (l[i].2.1.toNat : Int) by omega)
            rw [HX.out] at d1
            rw [HY.out] at d2
            have hX : l[i].1.toNat < 4294967296 := by omega
            have hY : l[i].2.1.toNat < 4294967296 := by omega
            clear HX HY hxy hcells
            simp only at HU
            generalize l[i].1.toNat = X at d1 HU hX
            generalize l[i].2.1.toNat = Y at d2 HU hY
            have dx : (wr.alloc (.cells #[.int .i64 0, .int .i64 0] 42)).cell? ⟨w.heap.size, 3, none⟩ = some (.slice (some ⟨b, off, none⟩) l.length c) := (hg0.alloc _).at_ 3 (by simp)
            have da : (wr.alloc (.cells #[.int .i64 0, .int .i64 0] 42)).cell? ⟨b, off + i * 2, none⟩ = some (.int .i64 (X : Int)) := (World.cell?_of_block (Below.heap_alloc wr _ b hbl)).trans d1
            have db : (wr.alloc (.cells #[.int .i64 0, .int .i64 0] 42)).cell? ⟨b, off + i * 2 + 1, none⟩ = some (.int .i64 (Y : Int)) := (World.cell?_of_block (Below.heap_alloc wr _ b hbl)).trans d2
            clear d1 d2 hg0 hbl
            go_wp2_with (first
              | (show wpList _ _ _ ((⟨some 48, _, _, _, _, _⟩ : Oper) :: _) _ _; refine wpList_load_mid (o := ⟨some 48, _, _, _, _, _⟩) (range2 (b := b) (off := off + i * 2) (u := .int .i64 (X : Int)) (v := .int .i64 (Y : Int)) (da) (db)) (by rfl) _ _ (by rfl) (by rfl) _ Try.underlying42 (by rfl) size_ref (by rfl) ?_)
              | fail)
            clear dx da db
            have hgr := Blk.new wr 42 #[.int .i64 (X : Int), .int .i64 (Y : Int)]
            have hB2 := hBr.alloc hsz (.cells #[.int .i64 (X : Int), .int .i64 (Y : Int)] 42)
            have ho2 := hown.alloc (.cells #[.int .i64 (X : Int), .int .i64 (Y : Int)] 42)
            have hkeep : ∀ k, u3.ownBlock = some k → w1.heap.size ≤ k ∧ k < wr.heap.size := hown.lt
            generalize wr.alloc (.cells #[.int .i64 (X : Int), .int .i64 (Y : Int)] 42) = w2 at hgr hB2 ho2 ⊢
            clear hown
            refine wp_region_plan (fun w' => Blk w' wr.heap.size 42 #[.int .i64 (X : Int), .int .i64 (Y : Int)]) [] [(true, 0), (true, 1), (true, 4), (true, 2), (true, 5), (false, 3), (false, 6), (true, 7)] (by kernel_rfl) (by kernel_rfl) (fun c a a' w h q => ⟨h ▸ q.1, q.2⟩) hgr.drew ?_
            refine wpPlan_pure [0, 1, 4] [(true, 2), (true, 5), (false, 3), (false, 6), (true, 7)] _ (by rfl) (by rfl) ?_
            dsimp only [List.filterMap, List.getElem?_cons_zero, List.getElem?_cons_succ]
            repeat (go_big_quiet_step (fail))
            refine wpQuiet_nil ?_
            refine wpPlan_takeL [2, 5] [(false, 3), (false, 6), (true, 7)] _ (by rfl) (by rfl) hgr.drew ?_
            dsimp only [List.filterMap, List.getElem?_cons_zero, List.getElem?_cons_succ]
            (refine wpQuiet_load_cell (fun w' hw' => Blk.at_ (v := .int .i64 (X : Int)) hw' 0 (by simp)) (by rfl) _ _ (by rfl) (by rfl) _ Try.underlying3 (by rfl) ?_; simp only [Act.put, List.setIfInBounds_toArray, List.set_cons_zero, List.set_cons_succ])
            (refine wpQuiet_load_cell (fun w' hw' => Blk.at_ (v := .int .i64 (Y : Int)) hw' 1 (by simp)) (by rfl) _ _ (by rfl) (by rfl) _ Try.underlying3 (by rfl) ?_; simp only [Act.put, List.setIfInBounds_toArray, List.set_cons_zero, List.set_cons_succ])
            refine wpQuiet_nil ?_
            refine wpPlan_forceL _ rfl ?_
            go_wp2_with fail
            refine (rput_any w1.heap.size u3 _ sp X hX (by omega) w2.drew hB2.size ho2).mono ?_
            rintro e w3 ⟨v3, sp3, rfl, ho3, hg3, hw3⟩
            have hB3 := hB2.drew.grown hg3 hB2.size (fun k hk => (hkeep k hk).1)
            have hgr3 : Blk w3 wr.heap.size 42 #[.int .i64 (X : Int), .int .i64 (Y : Int)] := (hg3.block _ hgr.lt (fun e => by have := (hkeep _ e.symm).2; omega)).trans hgr
            have hne3 : some wr.heap.size ≠ v3.ownBlock := fun e => by
              rcases hw3 with h | ⟨k, h, hk⟩
              · have := (hkeep _ (h ▸ e.symm)).2; omega
              · rw [h] at e; have := hgr.lt; have hk' : w2.heap.size ≤ k := hk; injection e with e; omega
            clear hg3 hw3 ho2 hB2 hgr
            go_wp2_with fail
            refine PlanQ.in_ hgr3 ?_
            refine wpPlan_forceL _ rfl ?_
            go_wp2_with fail
            refine (rput_any w1.heap.size v3 _ sp3 Y hY (by rw [List.length_append, le4_length]; omega) w3 hB3.size ho3).mono ?_
            rintro e w4 ⟨v4, sp4, rfl, ho4, hg4, _⟩
            have hB4 := hB3.grown hg4 hB3.size (fun k hk => (ho3.lt k hk).1)
            have hgr4 : Blk w4 wr.heap.size 42 #[.int .i64 (X : Int), .int .i64 (Y : Int)] := (hg4.block _ hgr3.lt hne3).trans hgr3
            clear hg4 ho3 hB3 hgr3 hne3
            go_wp2_with fail
            refine PlanQ.in_ hgr4 ?_
            refine wpPlan_pure [7] [] _ (by rfl) (by rfl) ?_
            dsimp only [List.filterMap, List.getElem?_cons_zero, List.getElem?_cons_succ]
            repeat (go_big_quiet_step (fail))
            refine wpQuiet_nil ?_
            refine wpPlan_nil ?_
            clear hgr4
            go_wp2
            refine ⟨?_, ?_⟩
            · (repeat apply Exists.intro)
              exact ⟨⟨i + 1, sp4, by omega, by go_num, by rw [HU.out]; exact ho4, hB4⟩, rfl⟩
            · simp [intOf]; omega
          · have HU := Lib.hid (GB.upTo_none (k, (ra, rs, ()), l, body, ()) i (by simpa using hli))
            obtain ⟨X, hX0⟩ : ∃ X : Nat, X = 0 := ⟨0, rfl⟩
            obtain ⟨Y, hY0⟩ : ∃ Y : Nat, Y = 0 := ⟨0, rfl⟩
            have dx : (wr.alloc (.cells #[.int .i64 0, .int .i64 0] 42)).cell? ⟨w.heap.size, 3, none⟩ = some (.slice A l.length c) := (hg0.alloc _).at_ 3 (by simp)
            clear hg0
            go_wp2_with fail
            clear dx
            rw [show (#[Value.int .i64 0, Value.int .i64 0] : Array Value) = #[.int .i64 (X : Int), .int .i64 (Y : Int)] by rw [hX0, hY0]; rfl]
            rw [show le4 0 = le4 X by rw [hX0]] at HU
            have hX : X < 4294967296 := by omega
            have hY : Y < 4294967296 := by omega
            replace HU : Hid (GB.upTo (k, (ra, rs, ()), l, body, ()) (i + 1) = GB.upTo (k, (ra, rs, ()), l, body, ()) i ++ le4 X ++ le4 Y) := Lib.hid (by rw [HU.out, hX0, hY0])
            clear hX0 hY0
            have hgr := Blk.new wr 42 #[.int .i64 (X : Int), .int .i64 (Y : Int)]
            have hB2 := hBr.alloc hsz (.cells #[.int .i64 (X : Int), .int .i64 (Y : Int)] 42)
            have ho2 := hown.alloc (.cells #[.int .i64 (X : Int), .int .i64 (Y : Int)] 42)
            have hkeep : ∀ k, u3.ownBlock = some k → w1.heap.size ≤ k ∧ k < wr.heap.size := hown.lt
            generalize wr.alloc (.cells #[.int .i64 (X : Int), .int .i64 (Y : Int)] 42) = w2 at hgr hB2 ho2 ⊢
            clear hown
            refine wp_region_plan (fun w' => Blk w' wr.heap.size 42 #[.int .i64 (X : Int), .int .i64 (Y : Int)]) [] [(true, 0), (true, 1), (true, 4), (true, 2), (true, 5), (false, 3), (false, 6), (true, 7)] (by kernel_rfl) (by kernel_rfl) (fun c a a' w h q => ⟨h ▸ q.1, q.2⟩) hgr.drew ?_
            refine wpPlan_pure [0, 1, 4] [(true, 2), (true, 5), (false, 3), (false, 6), (true, 7)] _ (by rfl) (by rfl) ?_
            dsimp only [List.filterMap, List.getElem?_cons_zero, List.getElem?_cons_succ]
            repeat (go_big_quiet_step (fail))
            refine wpQuiet_nil ?_
            refine wpPlan_takeL [2, 5] [(false, 3), (false, 6), (true, 7)] _ (by rfl) (by rfl) hgr.drew ?_
            dsimp only [List.filterMap, List.getElem?_cons_zero, List.getElem?_cons_succ]
            (refine wpQuiet_load_cell (fun w' hw' => Blk.at_ (v := .int .i64 (X : Int)) hw' 0 (by simp)) (by rfl) _ _ (by rfl) (by rfl) _ Try.underlying3 (by rfl) ?_; simp only [Act.put, List.setIfInBounds_toArray, List.set_cons_zero, List.set_cons_succ])
            (refine wpQuiet_load_cell (fun w' hw' => Blk.at_ (v := .int .i64 (Y : Int)) hw' 1 (by simp)) (by rfl) _ _ (by rfl) (by rfl) _ Try.underlying3 (by rfl) ?_; simp only [Act.put, List.setIfInBounds_toArray, List.set_cons_zero, List.set_cons_succ])
            refine wpQuiet_nil ?_
            refine wpPlan_forceL _ rfl ?_
            go_wp2_with fail
            refine (rput_any w1.heap.size u3 _ sp X hX (by omega) w2.drew hB2.size ho2).mono ?_
            rintro e w3 ⟨v3, sp3, rfl, ho3, hg3, hw3⟩
            have hB3 := hB2.drew.grown hg3 hB2.size (fun k hk => (hkeep k hk).1)
            have hgr3 : Blk w3 wr.heap.size 42 #[.int .i64 (X : Int), .int .i64 (Y : Int)] := (hg3.block _ hgr.lt (fun e => by have := (hkeep _ e.symm).2; omega)).trans hgr
            have hne3 : some wr.heap.size ≠ v3.ownBlock := fun e => by
              rcases hw3 with h | ⟨k, h, hk⟩
              · have := (hkeep _ (h ▸ e.symm)).2; omega
              · rw [h] at e; have := hgr.lt; have hk' : w2.heap.size ≤ k := hk; injection e with e; omega
            clear hg3 hw3 ho2 hB2 hgr
            go_wp2_with fail
            refine PlanQ.in_ hgr3 ?_
            refine wpPlan_forceL _ rfl ?_
            go_wp2_with fail
            refine (rput_any w1.heap.size v3 _ sp3 Y hY (by rw [List.length_append, le4_length]; omega) w3 hB3.size ho3).mono ?_
            rintro e w4 ⟨v4, sp4, rfl, ho4, hg4, _⟩
            have hB4 := hB3.grown hg4 hB3.size (fun k hk => (ho3.lt k hk).1)
            have hgr4 : Blk w4 wr.heap.size 42 #[.int .i64 (X : Int), .int .i64 (Y : Int)] := (hg4.block _ hgr3.lt hne3).trans hgr3
            clear hg4 ho3 hB3 hgr3 hne3
            go_wp2_with fail
            refine PlanQ.in_ hgr4 ?_
            refine wpPlan_pure [7] [] _ (by rfl) (by rfl) ?_
            dsimp only [List.filterMap, List.getElem?_cons_zero, List.getElem?_cons_succ]
            repeat (go_big_quiet_step (fail))
            refine wpQuiet_nil ?_
            refine wpPlan_nil ?_
            clear hgr4
            go_wp2
            refine ⟨?_, ?_⟩
            · (repeat apply Exists.intro)
              exact ⟨⟨i + 1, sp4, by omega, by go_num, by rw [HU.out]; exact ho4, hB4⟩, rfl⟩
            · simp [intOf]; omega
        · obtain rfl : i = 16 := by omega
          have HREST := Lib.hid (GB.upTo_rest (k, (ra, rs, ()), l, body, ()) hn hbl)
          have hul : (GB.upTo (k, (ra, rs, ()), l, body, ()) 16).length ≤ 148 := Nat.le_of_eq (GB.upTo_all (k, (ra, rs, ()), l, body, ()) hn)
          have hg0 := HG.out.below hBr HG.out.lt
          have d4 : wr.cell? ⟨w.heap.size, 4, none⟩ = some (.slice B body.length d) := hg0.at_ 4 (by simp)
          have hbb := Bytes.below HBB.out hBr
          clear hg0
          dsimp only at HREST
          generalize GB.upTo (k, (ra, rs, ()), l, body, ()) 16 = U at hown hul HREST
          go_wp2_with (first
            | (show wpList _ _ _ ((⟨some 59, _, _, _, _, _⟩ : Oper) :: _) _ _; refine wpList_append_bytes (o := ⟨some 59, _, _, _, _, _⟩) (by rfl) _ _ _ (by rfl) (w1.heap.size) _ Try.underlying22 u8info (_) (U) (sp) (by rfl) (hown) (B) (d) (body) (by first | rfl | simp) (hbb) (by first | omega | (simp; omega)) (hsz) ?_; intro v5 w5 sp5 ho5 hg5 _ _; have hB5 := hBr.grown hg5 hsz (fun k hk => (hown.lt k hk).1); obtain ⟨A5, c5, rfl, _⟩ := OwnB.open_ ho5; rw [List.length_append] at ho5; clear d4 hbb hg5 hown hBr)
            | (show wpList _ _ _ ((⟨some 64, _, _, _, _, _⟩ : Oper) :: _) _ _; refine wpList_append_zeros (o := ⟨some 64, _, _, _, _, _⟩) (by rfl) _ _ _ _ (by rfl) w1.heap.size _ .i64 Try.underlying22 Try.underlying3 u8info _ (U ++ body) sp5 (by rfl) ho5 (1008 - (U.length + body.length)) (by show Value.int _ _ = _; congr 1; omega) (by rw [List.length_append]; omega) hB5.size ?_; intro v6 w6 sp6 ho6 hg6 _; have hB6 := hB5.grown hg6 hB5.size (fun k hk => (ho5.lt k hk).1); clear hg6 ho5 hB5)
            | fail)
          rw [← List.length_append, HREST.out] at ho6
          go_ret
          exact ⟨_, _, rfl, ho6.base_ HB.out.size, HB.out.trans (hB6.mono HB.out.size)⟩
end Go.Proofs.Ytfpcldnefpmgcaa
