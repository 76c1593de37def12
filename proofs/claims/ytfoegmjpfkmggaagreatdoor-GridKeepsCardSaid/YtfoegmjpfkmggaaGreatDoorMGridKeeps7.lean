/- What Write does to a disk, sector by sector. Conditions: the bytes can be read, are as many as the sectors, and lie apart from the disk's; the sectors are there. -/
import Derived.Test.YtfoegmjpfkmggaaGreatDoorMGridKeeps6
namespace Go.Proofs.YtfoegmjpfkmggaaGreatDoor
open Go.RowKit
section
variable {gd gl gm N c : Nat} {L : List UInt8} {es : Array MapEntry} {out : Bool} {fz : Option Nat} {ops : Int}
theorem DiskB.near {w w' : World} {X : List Nat} (h : DiskB w gd gl gm N L es c out fz ops) (k : Near X w w') (hX : gd ∉ X ∧ gl ∉ X ∧ gm ∉ X) : DiskB w' gd gl gm N L es c out fz ops :=
  ⟨h.1.near k hX.1, h.2.1.near k hX.2.1, h.2.2.near k hX.2.2⟩
theorem sec_mid (w : World) (h : Blk w gl 102 (L.map u8v).toArray) (i : Nat) (_ : 256 * (i + 1) ≤ L.length) : w.rangeAt gl (256 * i) ((sec L i).map u8v) := Blk.range h (256 * i) _ fun j v hv => by
  rw [List.getElem?_toArray, List.getElem?_map]
  unfold sec at hv
  rw [List.getElem?_map, List.getElem?_take] at hv
  split at hv
  · rw [List.getElem?_drop] at hv; exact hv
  · simp at hv
theorem sec_mid' (w : World) (h : Blk w gl 102 (L.map u8v).toArray) (i : Nat) (hi : 256 * (i + 1) ≤ L.length) : w.rangeAt gl (i * 256) ((sec L i).map u8v) := by rw [Nat.mul_comm]; exact sec_mid w h i hi
theorem sec_length (i : Nat) (hi : 256 * (i + 1) ≤ L.length) : (sec L i).length = 256 := by unfold sec; rw [List.length_take, List.length_drop]; omega
theorem sizeSec : (Tryz.prog.info? 102).map (·.size) = some 256 := by kernel_rfl
theorem allocSec (w : World) : (zeroValue 102).run Tryz.prog w = .ok (.agg zeroSec) w := by
  have h : (Tryz.prog.info? 102).map (fun i => (i.zero, i.size)) = some (some (.agg zeroSec), 256) := by kernel_rfl
  exact (zero_of_info h).1 w
theorem zeroSec_list : zeroSec = ((List.replicate 256 (0 : UInt8)).map u8v).toArray := by
  rw [List.map_replicate]
  apply Array.ext_getElem?; intro i
  unfold zeroSec
  rw [arr_get, List.getElem?_toArray, List.getElem?_replicate]
  rfl
theorem sec_one (l : List UInt8) : (l.map u8v).toArray.all (·.oneCell') = true := u8_all l
/-- What the last round leaves. -/
def WrRel (w : World) (old : Nat → Option (List UInt8)) (gd gl gm N at_ n : Nat) (L b : List UInt8) (out : Bool) (fz : Option Nat) (ops : Int) (v : Value) (wr : World) : Prop :=
  ∃ (i : Nat) (es : Array MapEntry) (c : Nat), i ≤ n ∧ v = .int .i64 (i : Int) ∧ DiskB wr gd gl gm N (Go.wr L (256 * at_) (b.take (256 * i))) es c out fz ops ∧ OldIs es c (oldW old L at_ i) ∧ Near [gl, gm] w wr
set_option maxRecDepth 100000 in
set_option maxHeartbeats 4000000 in
theorem write1_any (gn gp ga gb n at_ cap : Nat) (A : Option Addr) (b : List UInt8) (w : World) (hn : Blk w gn 3 #[.int .i64 (n : Int)]) (hp : Blk w gp 25 #[.pointer (some ⟨gd, 0, none⟩)]) (ha : Blk w ga 3 #[.int .i64 (at_ : Int)]) (hb : Blk w gb 39 #[.slice A b.length cap])
    (hby : Bytes w A b) (hA : ∀ ad, A = some ad → ad.block ∉ [gl, gm]) (hbl : b.length = 256 * n) (hcap : b.length ≤ cap) (hat : at_ + n ≤ N) (hN : N ≤ 65536) (hL : L.length = N * 256)
    (hd : DiskB w gd gl gm N L es c out fz ops) {old : Nat → Option (List UInt8)} (hes : OldIs es c old) (hX : gn ∉ [gl, gm] ∧ gp ∉ [gl, gm] ∧ ga ∉ [gl, gm] ∧ gb ∉ [gl, gm] ∧ gd ∉ [gl, gm] ∧ gl ≠ gm) :
    Calls Tryz.prog 81 #[.pointer (some ⟨gn, 0, none⟩), .pointer (some ⟨gp, 0, none⟩), .pointer (some ⟨ga, 0, none⟩), .pointer (some ⟨gb, 0, none⟩)] w fun e w' => e = .returned (.tuple #[]) ∧
      ∃ es' c', DiskB w' gd gl gm N (Go.wr L (256 * at_) b) es' c' out fz ops ∧ OldIs es' c' (oldW old L at_ n) ∧ Near [gl, gm] w w' := by
  have HH := Lib.hid (And.intro hn (And.intro hp (And.intro ha (And.intro hb (And.intro hby hA)))))
  have HN := Lib.hid (And.intro hbl (And.intro hcap (And.intro hat (And.intro hN hL))))
  have HX := Lib.hid hX
  have hS : WrRel w old gd gl gm N at_ n L b out fz ops (.int .i64 0) w := ⟨0, es, c, Nat.zero_le _, rfl, by rw [Nat.mul_zero, List.take_zero, wr_nil]; exact hd, by rw [oldW_zero]; exact hes, Near.refl _ _⟩
  have dn := hn.at_ 0 (v := .int .i64 (n : Int)) rfl
  clear hn hp ha hb hby hA hbl hcap hat hN hL hd hes hX
  go_enter Tryz.func81, Tryz.ntmps81
  go_wp2_with fail
  go_loopw [8] (fun v wr => WrRel w old gd gl gm N at_ n L b out fz ops v wr) (fun v _ => n - (intOf v).toNat)
  case atStart => exact hS
  case round =>
    clear hS dn
    obtain ⟨i, es1, c1, hi, rfl, hd, ho, hnr⟩ := hrel
    have hk := ho.keys
    have hsv := ho.vals
    by_cases hlt : i < n
    case neg =>
      obtain rfl : i = n := by omega
      have HD := Lib.hid (show ∃ es' c', DiskB wr gd gl gm N (Go.wr L (256 * at_) b) es' c' out fz ops ∧ OldIs es' c' (oldW old L at_ i) ∧ Near [gl, gm] w wr from
        ⟨es1, c1, by rw [← HN.out.1, List.take_length] at hd; exact hd, ho, hnr⟩)
      clear hd ho hk hsv hnr
      go_wp2
      refine bodyPost_end (v := .tuple #[]) (by simp [results]) rfl ⟨rfl, HD.out⟩
    have hp1 := HH.out.2.1.near hnr HX.out.2.1
    have ha1 := HH.out.2.2.1.near hnr HX.out.2.2.1
    have hb1 := HH.out.2.2.2.1.near hnr HX.out.2.2.2.1
    have hby1 := Bytes.near HH.out.2.2.2.2.1 hnr HH.out.2.2.2.2.2
    have hai : at_ + i < 65536 := by have := HN.out; omega
    have hX0 : ∀ g, g ∉ ([] : List Nat) := fun g h => by cases h
    have aS := allocSec
    have HXM := Lib.hid (show gp ∉ [gm] ∧ ga ∉ [gm] ∧ gd ∉ [gm] ∧ gl ∉ [gm] ∧ gb ∉ [gm] by have h := HX.out; simp at h ⊢; omega)
    have HXL := Lib.hid (show gp ∉ [gl] ∧ ga ∉ [gl] ∧ gb ∉ [gl] ∧ gd ∉ [gl] ∧ gm ∉ [gl] by have h := HX.out; simp at h ⊢; omega)
    have hiN : at_ + i < N := by have := HN.out; omega
    have HR := Lib.hid (And.intro hk (And.intro hsv hnr))
    obtain ⟨lv, hlv, hgv⟩ := SecVals.get hsv ((at_ : Int) + i)
    rw [← zeroSec_list] at hgv
    have HLV := Lib.hid (And.intro hlv hgv)
    obtain ⟨q, hq⟩ : ∃ q, q = (mget es1 ((at_ : Int) + i)).isSome := ⟨_, rfl⟩
    have HQ := Lib.hid hq
    have HO := Lib.hid (And.intro ho (show q = (old (at_ + i)).isSome by rw [hq, show ((at_ : Int) + i) = ((at_ + i : Nat) : Int) by omega, ho.get, oldW_at]; cases old (at_ + i) <;> rfl))
    clear ho hk hsv hnr hlv hgv hq
    go_wp2_with fail
    refine wp_region_tree (Near [] wr) [] (PlanT.takes [5] (PlanT.takes [0, 4] (PlanT.takes [1, 2, 6] (PlanT.takes [3] (.opt 7 (PlanT.takes [8, 9, 10] (.opt 11 (.opt 12 (PlanT.takes [13] .done) .no) .no)) (.opt 11 (.opt 7 (PlanT.takes [8, 9, 10] (.opt 12 (PlanT.takes [13] .done) .no)) .no) .no)))))) (by kernel_rfl) (by kernel_rfl) ((Near.refl _ _).drew) ?_
    refine wpTree_pure _ _ _ (by rfl) (by rfl) ?_
    dsimp only [List.filterMap, List.getElem?_cons_zero, List.getElem?_cons_succ]
    repeat (go_big_quiet_step (fail))
    refine wpQuiet_nil ?_
    refine wpTree_takeL _ _ _ (by rfl) (by rfl) ((Near.refl _ _).drew) ?_
    dsimp only [List.filterMap, List.getElem?_cons_zero, List.getElem?_cons_succ]
    (refine wpQuiet_load_cell (fun w' hw' => (Blk.near hp1 hw' (hX0 _)).at_ 0 (v := .pointer (some ⟨gd, 0, none⟩)) rfl) (by rfl) _ _ (by rfl) (by rfl) _ Tryz.underlying25 (by rfl) ?_; simp only [Act.put, List.setIfInBounds_toArray, List.set_cons_zero, List.set_cons_succ])
    (refine wpQuiet_load_cell (fun w' hw' => (Blk.near ha1 hw' (hX0 _)).at_ 0 (v := .int .i64 (at_ : Int)) rfl) (by rfl) _ _ (by rfl) (by rfl) _ Tryz.underlying3 (by rfl) ?_; simp only [Act.put, List.setIfInBounds_toArray, List.set_cons_zero, List.set_cons_succ])
    refine wpQuiet_nil ?_
    refine wpTree_pure _ _ _ (by rfl) (by rfl) ?_
    dsimp only [List.filterMap, List.getElem?_cons_zero, List.getElem?_cons_succ]
    repeat (go_big_quiet_step (fail))
    refine wpQuiet_nil ?_
    refine wpTree_takeL _ _ _ (by rfl) (by rfl) ((Near.refl _ _).drew) ?_
    dsimp only [List.filterMap, List.getElem?_cons_zero, List.getElem?_cons_succ]
    (refine wpQuiet_load_cell (fun w' hw' => (Blk.near hd.1 hw' (hX0 _)).at_ 1 (v := .map (some gm)) rfl) (by rfl) _ _ (by rfl) (by rfl) _ Tryz.underlying97 (by rfl) ?_; simp only [Act.put, List.setIfInBounds_toArray, List.set_cons_zero, List.set_cons_succ])
    refine wpQuiet_nil ?_
    refine wpTree_opt _ rfl ?_ (wpTree_one _ rfl ?_)
    · refine wpList_lookup_int (by rfl) _ _ _ _ _ (by rfl) Tryz.underlying97 Tryz.underlying3 gm es1 c1 hd.2.2.drew HR.out.1 ((at_ : Int) + i) (.agg zeroSec) (allocSec _) (by rfl) (by rfl) ?_
      rw [HLV.out.2, ← HQ.out]
      go_wp2_with fail
      refine TreeQ.in_ (Near.refl _ _).drew ?_
      refine wpTree_pure _ _ _ (by rfl) (by rfl) ?_
      dsimp only [List.filterMap, List.getElem?_cons_zero, List.getElem?_cons_succ]
      repeat (go_big_quiet_step (fail))
      refine wpQuiet_nil ?_
      refine wpTree_one _ rfl ?_
      go_wp2_with fail
      have hz := ((Blk.new wr 102 zeroSec).sub zeroSec_list).drew
      have hC2 : Near [] wr (World.drew (World.alloc wr (.cells zeroSec 102))) := (Near.below ((Below.refl _ _).alloc (Nat.le_refl _) _)).drew
      generalize World.drew (World.alloc wr (.cells zeroSec 102)) = w4 at hz hC2 ⊢
      refine TreeQ.in_ hC2 ?_
      refine wpTree_one _ rfl ?_
      go_wp2_with (first
        | ((with_reducible show wpList _ _ _ ((⟨none, _, _, _, _, _⟩ : Oper) :: _) _ _); refine wpList_store_blk (o := ⟨none, _, _, _, _, _⟩) (hz) (by rfl) _ _ _ (by rfl) (by rfl) ((lv.map u8v).toArray) (by rfl) (sizeSec) (by simp) (by simp [HLV.out.1]) (sec_one _) ?_; intro w5 h5 hu5)
        | fail)
      have hC5 : Near [] wr w5 := hC2.new hu5 (Nat.le_refl _)
      refine TreeQ.in_ hC5 ?_
      refine wpTree_pure _ _ _ (by rfl) (by rfl) ?_
      dsimp only [List.filterMap, List.getElem?_cons_zero, List.getElem?_cons_succ]
      repeat (go_big_quiet_step (fail))
      refine wpQuiet_nil ?_
      refine wpTree_done ?_
      clear hz h5 hu5 hC2 aS
      have hnr5 : Near [gl, gm] w w5 := HR.out.2.2.trans (hC5.wider (fun x hx => by cases hx))
      replace hd := hd.near hC5 ⟨hX0 _, hX0 _, hX0 _⟩
      replace hp1 := hp1.near hC5 (hX0 _)
      replace ha1 := ha1.near hC5 (hX0 _)
      replace hb1 := hb1.near hC5 (hX0 _)
      replace hby1 := Bytes.near hby1 hC5 (fun ad _ => hX0 _)
      have HK := Lib.hid (And.intro HR.out.1 (And.intro HR.out.2.1 hnr5))
      clear HR hC5 hnr5 HQ
      cases q
      · have hC5m := (Near.refl [gm] w5).drew
        have hLl : (Go.wr L (256 * at_) (b.take (256 * i))).length = N * 256 := by rw [wr_length (by rw [List.length_take]; have := HN.out; omega)]; exact HN.out.2.2.2.2
        obtain ⟨L1, hL1⟩ : ∃ L1, L1 = Go.wr L (256 * at_) (b.take (256 * i)) := ⟨_, rfl⟩
        rw [← hL1] at hd hLl
        have HL1 := Lib.hid (And.intro hL1 hLl)
        clear hL1 hLl
        go_wp2_with fail
        refine wp_region_tree (Near [gm] w5) [] (PlanT.takes [5, 12] (PlanT.takes [0, 4, 7, 11] (PlanT.takes [1, 2, 6, 8, 9, 13] (PlanT.takes [3, 10] (PlanT.takes [14] (PlanT.takes [15] (.opt 16 .done .no))))))) (by kernel_rfl) (by kernel_rfl) (hC5m) ?_
        refine wpTree_pure _ _ _ (by rfl) (by rfl) ?_
        dsimp only [List.filterMap, List.getElem?_cons_zero, List.getElem?_cons_succ]
        repeat (go_big_quiet_step (fail))
        refine wpQuiet_nil ?_
        refine wpTree_takeL _ _ _ (by rfl) (by rfl) (hC5m) ?_
        dsimp only [List.filterMap, List.getElem?_cons_zero, List.getElem?_cons_succ]
        (refine wpQuiet_load_cell (fun w' hw' => (Blk.near hp1 hw' (HXM.out.1)).at_ 0 (v := .pointer (some ⟨gd, 0, none⟩)) rfl) (by rfl) _ _ (by rfl) (by rfl) _ Tryz.underlying25 (by rfl) ?_; simp only [Act.put, List.setIfInBounds_toArray, List.set_cons_zero, List.set_cons_succ])
        (refine wpQuiet_load_cell (fun w' hw' => (Blk.near ha1 hw' (HXM.out.2.1)).at_ 0 (v := .int .i64 (at_ : Int)) rfl) (by rfl) _ _ (by rfl) (by rfl) _ Tryz.underlying3 (by rfl) ?_; simp only [Act.put, List.setIfInBounds_toArray, List.set_cons_zero, List.set_cons_succ])
        (refine wpQuiet_load_cell (fun w' hw' => (Blk.near hp1 hw' (HXM.out.1)).at_ 0 (v := .pointer (some ⟨gd, 0, none⟩)) rfl) (by rfl) _ _ (by rfl) (by rfl) _ Tryz.underlying25 (by rfl) ?_; simp only [Act.put, List.setIfInBounds_toArray, List.set_cons_zero, List.set_cons_succ])
        (refine wpQuiet_load_cell (fun w' hw' => (Blk.near ha1 hw' (HXM.out.2.1)).at_ 0 (v := .int .i64 (at_ : Int)) rfl) (by rfl) _ _ (by rfl) (by rfl) _ Tryz.underlying3 (by rfl) ?_; simp only [Act.put, List.setIfInBounds_toArray, List.set_cons_zero, List.set_cons_succ])
        refine wpQuiet_nil ?_
        refine wpTree_pure _ _ _ (by rfl) (by rfl) ?_
        dsimp only [List.filterMap, List.getElem?_cons_zero, List.getElem?_cons_succ]
        repeat (go_big_quiet_step (fail))
        refine wpQuiet_nil ?_
        refine wpTree_takeL _ _ _ (by rfl) (by rfl) (hC5m) ?_
        dsimp only [List.filterMap, List.getElem?_cons_zero, List.getElem?_cons_succ]
        (refine wpQuiet_load_cell (fun w' hw' => (Blk.near hd.1 hw' (HXM.out.2.2.1)).at_ 1 (v := .map (some gm)) rfl) (by rfl) _ _ (by rfl) (by rfl) _ Tryz.underlying97 (by rfl) ?_; simp only [Act.put, List.setIfInBounds_toArray, List.set_cons_zero, List.set_cons_succ])
        (refine wpQuiet_load_cell (fun w' hw' => (Blk.near hd.1 hw' (HXM.out.2.2.1)).at_ 0 (v := .slice (some ⟨gl, 0, none⟩) N N) rfl) (by rfl) _ _ (by rfl) (by rfl) _ Tryz.underlying96 (by rfl) ?_; simp only [Act.put, List.setIfInBounds_toArray, List.set_cons_zero, List.set_cons_succ])
        refine wpQuiet_nil ?_
        refine wpTree_pure _ _ _ (by rfl) (by rfl) ?_
        dsimp only [List.filterMap, List.getElem?_cons_zero, List.getElem?_cons_succ]
        repeat (go_big_quiet_step (fail))
        refine wpQuiet_nil ?_
        refine wpTree_takeL _ _ _ (by rfl) (by rfl) (hC5m) ?_
        dsimp only [List.filterMap, List.getElem?_cons_zero, List.getElem?_cons_succ]
        (refine wpQuiet_load_mid (fun w' hw' => sec_mid' w' (hd.2.1.near hw' HXM.out.2.2.2.1) (at_ + i) (by rw [HL1.out.2]; omega)) (by rfl) _ _ (by rfl) (by rfl) _ Tryz.underlying102 (by rfl) (sizeSec) (by rw [List.length_map, sec_length _ (by rw [HL1.out.2]; omega)]) ?_; simp only [Act.put, List.setIfInBounds_toArray, List.set_cons_zero, List.set_cons_succ])
        refine wpQuiet_nil ?_
        refine wpTree_one _ rfl ?_
        refine wpList_mapUpdate_int (by rfl) _ _ _ _ _ _ (by rfl) Tryz.underlying97 Tryz.underlying3 gm es1 c1 hd.2.2.drew HK.out.1 ((at_ : Int) + i) (.agg ((sec L1 (at_ + i)).map u8v).toArray) (by rfl) (by rfl) (by rfl) ?_
        intro w6 hm6 hu6
        have hC6 : Near [gm] w5 w6 := hC5m.trans (Near.upd hu6 (List.mem_singleton.2 rfl))
        go_wp2_with fail
        refine TreeQ.in_ hC6 ?_
        refine wpTree_done ?_
        have hsl : (sec L1 (at_ + i)).length = 256 := sec_length _ (by rw [HL1.out.2]; omega)
        have hik : IntKeys (mput es1 c1 ((at_ : Int) + i) (.agg ((sec L1 (at_ + i)).map u8v).toArray)).1.toList := HK.out.1.put
        have hsv : SecVals (mput es1 c1 ((at_ : Int) + i) (.agg ((sec L1 (at_ + i)).map u8v).toArray)).1.toList := HK.out.2.1.put hsl
        have ho2 : OldIs (mput es1 c1 ((at_ : Int) + i) (.agg ((sec L1 (at_ + i)).map u8v).toArray)).1 (mput es1 c1 ((at_ : Int) + i) (.agg ((sec L1 (at_ + i)).map u8v).toArray)).2 (oldW old L at_ (i + 1)) := by
          have hn0 : old (at_ + i) = none := by have h := HO.out.2; cases hx : old (at_ + i) with
            | none => rfl
            | some l => rw [hx] at h; cases h
          have h1 := HO.out.1.put (k := at_ + i) (l := sec L1 (at_ + i)) (by rw [oldW_at]; exact hn0) hsl
          have e1 : sec L1 (at_ + i) = sec L (at_ + i) := by rw [HL1.out.1]; exact sec_wr_behind (by have := HN.out; omega) (by have := HN.out; omega)
          rw [show ((at_ + i : Nat) : Int) = (at_ : Int) + i by omega] at h1
          rw [← oldW_new hn0, ← e1]; exact h1
        replace hd : DiskB w6 gd gl gm N L1 _ _ out fz ops := ⟨hd.1.near hC6 HXM.out.2.2.1, hd.2.1.near hC6 HXM.out.2.2.2.1, hm6⟩
        generalize (mput es1 c1 ((at_ : Int) + i) (.agg ((sec L1 (at_ + i)).map u8v).toArray)).1 = es2 at hd hik hsv ho2
        generalize (mput es1 c1 ((at_ : Int) + i) (.agg ((sec L1 (at_ + i)).map u8v).toArray)).2 = c2 at hd ho2
        rw [HL1.out.1] at hd
        have hk2 := And.intro hik (And.intro ho2 (HK.out.2.2.trans (hC6.wider (fun x hx => by simp at hx; simp [hx]))))
        replace hp1 := hp1.near hC6 HXM.out.1
        replace ha1 := ha1.near hC6 HXM.out.2.1
        replace hb1 := hb1.near hC6 HXM.out.2.2.2.2
        replace hby1 := Bytes.near hby1 hC6 (fun ad e => by have h := HH.out.2.2.2.2.2 ad e; simp at h ⊢; exact h.2)
        have HK2 := Lib.hid hk2
        clear hC6 hm6 hu6 hsl hik hsv ho2 hk2 hC5m HK HL1 HO
        have hC7 := (Near.refl [gl] w6).drew
        have hsb : (sec b i).length = 256 := sec_length _ (by have := HN.out; omega)
        obtain ⟨bb, boff, hAe, hbl0, -⟩ := hby1.at_ (by have := HN.out; omega)
        have hcn : ¬ cap = i * 256 := by have := HN.out; omega
        have hc2 : (i + 1) * 256 ≤ cap := by have := HN.out; omega
        have hc3 : i * 256 ≤ cap := by omega
        have hbm : Bytes w6 (some ⟨bb, boff + i * 256, none⟩) (sec b i) := by
          have h := hby1.drop (k := i * 256) (cap := cap) (.inl (by omega))
          rw [if_neg hcn, hAe] at h
          have h2 := h.take 256
          rw [Nat.mul_comm i 256] at h2
          unfold sec
          rw [Nat.mul_comm i 256]
          simpa [Addr.add_lit] using h2
        have hbbl : bb ∉ [gl] := by have h := HH.out.2.2.2.2.2 _ hAe; simp at h ⊢; exact h.1
        subst hAe
        have HSB := Lib.hid (And.intro hsb (And.intro hbm hbbl))
        clear hsb hbm hbbl hbl0
        go_wp2_with fail
        refine wp_region_tree (Near [gl] w6) [] (PlanT.takes [5, 8, 9, 10, 11, 12] (PlanT.takes [0, 4, 7] (PlanT.takes [1, 2, 6, 13, 14] (PlanT.takes [3, 15] (PlanT.takes [16] (.opt 17 .done .no)))))) (by kernel_rfl) (by kernel_rfl) (hC7) ?_
        refine wpTree_pure _ _ _ (by rfl) (by rfl) ?_
        dsimp only [List.filterMap, List.getElem?_cons_zero, List.getElem?_cons_succ]
        repeat (go_big_quiet_step (fail))
        refine wpQuiet_nil ?_
        refine wpTree_takeL _ _ _ (by rfl) (by rfl) (hC7) ?_
        dsimp only [List.filterMap, List.getElem?_cons_zero, List.getElem?_cons_succ]
        (refine wpQuiet_load_cell (fun w' hw' => (Blk.near hp1 hw' (HXL.out.1)).at_ 0 (v := .pointer (some ⟨gd, 0, none⟩)) rfl) (by rfl) _ _ (by rfl) (by rfl) _ Tryz.underlying25 (by rfl) ?_; simp only [Act.put, List.setIfInBounds_toArray, List.set_cons_zero, List.set_cons_succ])
        (refine wpQuiet_load_cell (fun w' hw' => (Blk.near ha1 hw' (HXL.out.2.1)).at_ 0 (v := .int .i64 (at_ : Int)) rfl) (by rfl) _ _ (by rfl) (by rfl) _ Tryz.underlying3 (by rfl) ?_; simp only [Act.put, List.setIfInBounds_toArray, List.set_cons_zero, List.set_cons_succ])
        (refine wpQuiet_load_cell (fun w' hw' => (Blk.near hb1 hw' (HXL.out.2.2.1)).at_ 0 (v := .slice (some ⟨bb, boff, none⟩) b.length cap) rfl) (by rfl) _ _ (by rfl) (by rfl) _ Tryz.underlying39 (by rfl) ?_; simp only [Act.put, List.setIfInBounds_toArray, List.set_cons_zero, List.set_cons_succ])
        refine wpQuiet_nil ?_
        refine wpTree_pure _ _ _ (by rfl) (by rfl) ?_
        dsimp only [List.filterMap, List.getElem?_cons_zero, List.getElem?_cons_succ]
        repeat (go_big_quiet_step (fail))
        refine wpQuiet_array (by rfl) _ _ (by rfl) 256 _ Tryz.underlying102 (some ⟨bb, boff + i * 256, none⟩) ((i + 1) * 256 - i * 256) (cap - i * 256) (by rfl) (by omega) ?_
        simp only [Act.put, List.setIfInBounds_toArray, List.set_cons_zero, List.set_cons_succ]
        refine wpQuiet_nil ?_
        refine wpTree_takeL _ _ _ (by rfl) (by rfl) (hC7) ?_
        dsimp only [List.filterMap, List.getElem?_cons_zero, List.getElem?_cons_succ]
        (refine wpQuiet_load_cell (fun w' hw' => (Blk.near hd.1 hw' (HXL.out.2.2.2.1)).at_ 0 (v := .slice (some ⟨gl, 0, none⟩) N N) rfl) (by rfl) _ _ (by rfl) (by rfl) _ Tryz.underlying96 (by rfl) ?_; simp only [Act.put, List.setIfInBounds_toArray, List.set_cons_zero, List.set_cons_succ])
        (refine wpQuiet_load_mid (fun w' hw' => Bytes.range (Bytes.near HSB.out.2.1 hw' (fun ad e => by cases e; exact HSB.out.2.2))) (by rfl) _ _ (by rfl) (by rfl) _ Tryz.underlying102 (by rfl) (sizeSec) (by rw [List.length_map, HSB.out.1]) ?_; simp only [Act.put, List.setIfInBounds_toArray, List.set_cons_zero, List.set_cons_succ])
        refine wpQuiet_nil ?_
        refine wpTree_pure _ _ _ (by rfl) (by rfl) ?_
        dsimp only [List.filterMap, List.getElem?_cons_zero, List.getElem?_cons_succ]
        repeat (go_big_quiet_step (fail))
        refine wpQuiet_nil ?_
        have hlw : (Go.wr L (256 * at_) (b.take (256 * i))).length = N * 256 := by rw [wr_length (by rw [List.length_take]; have := HN.out; omega)]; exact HN.out.2.2.2.2
        have hlt2 : (b.take (256 * i)).length = 256 * i := by rw [List.length_take]; have := HN.out; omega
        refine wpTree_one _ rfl ?_
        refine wpList_store_in hd.2.1.drew (by rfl) _ _ _ (by rfl) ((at_ + i) * 256) (by rfl) ((sec b i).map u8v).toArray (by rfl) sizeSec (by rw [List.size_toArray, List.length_map, HSB.out.1]) (by rw [List.size_toArray, List.length_map, hlw]; omega) (sec_one _) ?_
        intro w8 h8 hu8
        have hC8 : Near [gl] w6 w8 := hC7.trans (Near.upd hu8 (List.mem_singleton.2 rfl))
        have e8 : setAll ((Go.wr L (256 * at_) (b.take (256 * i))).map u8v).toArray ((at_ + i) * 256) ((sec b i).map u8v).toArray.toList = ((Go.wr L (256 * at_) (b.take (256 * (i + 1)))).map u8v).toArray := by
          rw [List.toList_toArray, setAll_wr _ _ _ (by rw [hlw, HSB.out.1]; omega)]
          have e1 : (at_ + i) * 256 = 256 * at_ + (b.take (256 * i)).length := by rw [hlt2]; omega
          rw [e1, wr_wr (by rw [hlt2, HSB.out.1]; have := HN.out; omega)]
          have e2 : b.take (256 * i) ++ sec b i = b.take (256 * (i + 1)) := by unfold sec; rw [Nat.mul_add, Nat.mul_one, List.take_add]
          rw [e2]
        rw [e8] at h8
        replace hd : DiskB w8 gd gl gm N _ _ _ out fz ops := ⟨hd.1.near hC8 HXL.out.2.2.2.1, h8, hd.2.2.near hC8 HXL.out.2.2.2.2⟩
        have HF := Lib.hid (show WrRel w old gd gl gm N at_ n L b out fz ops (.int .i64 ((i + 1 : Nat) : Int)) w8 from
          ⟨i + 1, es2, c2, by omega, rfl, hd, HK2.out.2.1, HK2.out.2.2.trans (hC8.wider (fun x hx => by simp at hx; simp [hx]))⟩)
        go_wp2_with fail
        refine TreeQ.in_ hC8 ?_
        refine wpTree_done ?_
        clear hd e8 h8 hu8 hC8 hp1 ha1 hb1 hby1 HSB HK2
        go_wp2
        go_roundw
        case rel => exact HF.out
        case measure => simp [intOf]; omega
      · have ho2 : OldIs es1 c1 (oldW old L at_ (i + 1)) := by
          have h := HO.out.2
          cases hx : old (at_ + i) with
          | none => rw [hx] at h; cases h
          | some l => rw [oldW_has hx]; exact HO.out.1
        have HK2 := Lib.hid (And.intro HK.out.1 (And.intro ho2 HK.out.2.2))
        clear HK HO ho2
        have hC7 := (Near.refl [gl] w5).drew
        have hsb : (sec b i).length = 256 := sec_length _ (by have := HN.out; omega)
        obtain ⟨bb, boff, hAe, hbl0, -⟩ := hby1.at_ (by have := HN.out; omega)
        have hcn : ¬ cap = i * 256 := by have := HN.out; omega
        have hc2 : (i + 1) * 256 ≤ cap := by have := HN.out; omega
        have hc3 : i * 256 ≤ cap := by omega
        have hbm : Bytes w5 (some ⟨bb, boff + i * 256, none⟩) (sec b i) := by
          have h := hby1.drop (k := i * 256) (cap := cap) (.inl (by omega))
          rw [if_neg hcn, hAe] at h
          have h2 := h.take 256
          rw [Nat.mul_comm i 256] at h2
          unfold sec
          rw [Nat.mul_comm i 256]
          simpa [Addr.add_lit] using h2
        have hbbl : bb ∉ [gl] := by have h := HH.out.2.2.2.2.2 _ hAe; simp at h ⊢; exact h.1
        subst hAe
        have HSB := Lib.hid (And.intro hsb (And.intro hbm hbbl))
        clear hsb hbm hbbl hbl0
        go_wp2_with fail
        refine wp_region_tree (Near [gl] w5) [] (PlanT.takes [5, 8, 9, 10, 11, 12] (PlanT.takes [0, 4, 7] (PlanT.takes [1, 2, 6, 13, 14] (PlanT.takes [3, 15] (PlanT.takes [16] (.opt 17 .done .no)))))) (by kernel_rfl) (by kernel_rfl) (hC7) ?_
        refine wpTree_pure _ _ _ (by rfl) (by rfl) ?_
        dsimp only [List.filterMap, List.getElem?_cons_zero, List.getElem?_cons_succ]
        repeat (go_big_quiet_step (fail))
        refine wpQuiet_nil ?_
        refine wpTree_takeL _ _ _ (by rfl) (by rfl) (hC7) ?_
        dsimp only [List.filterMap, List.getElem?_cons_zero, List.getElem?_cons_succ]
        (refine wpQuiet_load_cell (fun w' hw' => (Blk.near hp1 hw' (HXL.out.1)).at_ 0 (v := .pointer (some ⟨gd, 0, none⟩)) rfl) (by rfl) _ _ (by rfl) (by rfl) _ Tryz.underlying25 (by rfl) ?_; simp only [Act.put, List.setIfInBounds_toArray, List.set_cons_zero, List.set_cons_succ])
        (refine wpQuiet_load_cell (fun w' hw' => (Blk.near ha1 hw' (HXL.out.2.1)).at_ 0 (v := .int .i64 (at_ : Int)) rfl) (by rfl) _ _ (by rfl) (by rfl) _ Tryz.underlying3 (by rfl) ?_; simp only [Act.put, List.setIfInBounds_toArray, List.set_cons_zero, List.set_cons_succ])
        (refine wpQuiet_load_cell (fun w' hw' => (Blk.near hb1 hw' (HXL.out.2.2.1)).at_ 0 (v := .slice (some ⟨bb, boff, none⟩) b.length cap) rfl) (by rfl) _ _ (by rfl) (by rfl) _ Tryz.underlying39 (by rfl) ?_; simp only [Act.put, List.setIfInBounds_toArray, List.set_cons_zero, List.set_cons_succ])
        refine wpQuiet_nil ?_
        refine wpTree_pure _ _ _ (by rfl) (by rfl) ?_
        dsimp only [List.filterMap, List.getElem?_cons_zero, List.getElem?_cons_succ]
        repeat (go_big_quiet_step (fail))
        refine wpQuiet_array (by rfl) _ _ (by rfl) 256 _ Tryz.underlying102 (some ⟨bb, boff + i * 256, none⟩) ((i + 1) * 256 - i * 256) (cap - i * 256) (by rfl) (by omega) ?_
        simp only [Act.put, List.setIfInBounds_toArray, List.set_cons_zero, List.set_cons_succ]
        refine wpQuiet_nil ?_
        refine wpTree_takeL _ _ _ (by rfl) (by rfl) (hC7) ?_
        dsimp only [List.filterMap, List.getElem?_cons_zero, List.getElem?_cons_succ]
        (refine wpQuiet_load_cell (fun w' hw' => (Blk.near hd.1 hw' (HXL.out.2.2.2.1)).at_ 0 (v := .slice (some ⟨gl, 0, none⟩) N N) rfl) (by rfl) _ _ (by rfl) (by rfl) _ Tryz.underlying96 (by rfl) ?_; simp only [Act.put, List.setIfInBounds_toArray, List.set_cons_zero, List.set_cons_succ])
        (refine wpQuiet_load_mid (fun w' hw' => Bytes.range (Bytes.near HSB.out.2.1 hw' (fun ad e => by cases e; exact HSB.out.2.2))) (by rfl) _ _ (by rfl) (by rfl) _ Tryz.underlying102 (by rfl) (sizeSec) (by rw [List.length_map, HSB.out.1]) ?_; simp only [Act.put, List.setIfInBounds_toArray, List.set_cons_zero, List.set_cons_succ])
        refine wpQuiet_nil ?_
        refine wpTree_pure _ _ _ (by rfl) (by rfl) ?_
        dsimp only [List.filterMap, List.getElem?_cons_zero, List.getElem?_cons_succ]
        repeat (go_big_quiet_step (fail))
        refine wpQuiet_nil ?_
        have hlw : (Go.wr L (256 * at_) (b.take (256 * i))).length = N * 256 := by rw [wr_length (by rw [List.length_take]; have := HN.out; omega)]; exact HN.out.2.2.2.2
        have hlt2 : (b.take (256 * i)).length = 256 * i := by rw [List.length_take]; have := HN.out; omega
        refine wpTree_one _ rfl ?_
        refine wpList_store_in hd.2.1.drew (by rfl) _ _ _ (by rfl) ((at_ + i) * 256) (by rfl) ((sec b i).map u8v).toArray (by rfl) sizeSec (by rw [List.size_toArray, List.length_map, HSB.out.1]) (by rw [List.size_toArray, List.length_map, hlw]; omega) (sec_one _) ?_
        intro w8 h8 hu8
        have hC8 : Near [gl] w5 w8 := hC7.trans (Near.upd hu8 (List.mem_singleton.2 rfl))
        have e8 : setAll ((Go.wr L (256 * at_) (b.take (256 * i))).map u8v).toArray ((at_ + i) * 256) ((sec b i).map u8v).toArray.toList = ((Go.wr L (256 * at_) (b.take (256 * (i + 1)))).map u8v).toArray := by
          rw [List.toList_toArray, setAll_wr _ _ _ (by rw [hlw, HSB.out.1]; omega)]
          have e1 : (at_ + i) * 256 = 256 * at_ + (b.take (256 * i)).length := by rw [hlt2]; omega
          rw [e1, wr_wr (by rw [hlt2, HSB.out.1]; have := HN.out; omega)]
          have e2 : b.take (256 * i) ++ sec b i = b.take (256 * (i + 1)) := by unfold sec; rw [Nat.mul_add, Nat.mul_one, List.take_add]
          rw [e2]
        rw [e8] at h8
        replace hd : DiskB w8 gd gl gm N _ _ _ out fz ops := ⟨hd.1.near hC8 HXL.out.2.2.2.1, h8, hd.2.2.near hC8 HXL.out.2.2.2.2⟩
        have HF := Lib.hid (show WrRel w old gd gl gm N at_ n L b out fz ops (.int .i64 ((i + 1 : Nat) : Int)) w8 from
          ⟨i + 1, es1, c1, by omega, rfl, hd, HK2.out.2.1, HK2.out.2.2.trans (hC8.wider (fun x hx => by simp at hx; simp [hx]))⟩)
        go_wp2_with fail
        refine TreeQ.in_ hC8 ?_
        refine wpTree_done ?_
        clear hd e8 h8 hu8 hC8 hp1 ha1 hb1 hby1 HSB HK2
        go_wp2
        go_roundw
        case rel => exact HF.out
        case measure => simp [intOf]; omega
    · go_wp2_with fail
      have hz := ((Blk.new wr 102 zeroSec).sub zeroSec_list).drew
      have hC2 : Near [] wr (World.drew (World.alloc wr (.cells zeroSec 102))) := (Near.below ((Below.refl _ _).alloc (Nat.le_refl _) _)).drew
      generalize World.drew (World.alloc wr (.cells zeroSec 102)) = w4 at hz hC2 ⊢
      refine TreeQ.in_ hC2 ?_
      refine wpTree_one _ rfl ?_
      refine wpList_lookup_int (by rfl) _ _ _ _ _ (by rfl) Tryz.underlying97 Tryz.underlying3 gm es1 c1 (hd.near hC2 ⟨hX0 _, hX0 _, hX0 _⟩).2.2 HR.out.1 ((at_ : Int) + i) (.agg zeroSec) (allocSec _) (by rfl) (by rfl) ?_
      rw [HLV.out.2, ← HQ.out]
      go_wp2_with fail
      refine TreeQ.in_ hC2 ?_
      refine wpTree_pure _ _ _ (by rfl) (by rfl) ?_
      dsimp only [List.filterMap, List.getElem?_cons_zero, List.getElem?_cons_succ]
      repeat (go_big_quiet_step (fail))
      refine wpQuiet_nil ?_
      refine wpTree_one _ rfl ?_
      go_wp2_with (first
        | ((with_reducible show wpList _ _ _ ((⟨none, _, _, _, _, _⟩ : Oper) :: _) _ _); refine wpList_store_blk (o := ⟨none, _, _, _, _, _⟩) (hz) (by rfl) _ _ _ (by rfl) (by rfl) ((lv.map u8v).toArray) (by rfl) (sizeSec) (by simp) (by simp [HLV.out.1]) (sec_one _) ?_; intro w5 h5 hu5)
        | fail)
      have hC5 : Near [] wr w5 := hC2.new hu5 (Nat.le_refl _)
      refine TreeQ.in_ hC5 ?_
      refine wpTree_pure _ _ _ (by rfl) (by rfl) ?_
      dsimp only [List.filterMap, List.getElem?_cons_zero, List.getElem?_cons_succ]
      repeat (go_big_quiet_step (fail))
      refine wpQuiet_nil ?_
      refine wpTree_done ?_
      clear hz h5 hu5 hC2 aS
      have hnr5 : Near [gl, gm] w w5 := HR.out.2.2.trans (hC5.wider (fun x hx => by cases hx))
      replace hd := hd.near hC5 ⟨hX0 _, hX0 _, hX0 _⟩
      replace hp1 := hp1.near hC5 (hX0 _)
      replace ha1 := ha1.near hC5 (hX0 _)
      replace hb1 := hb1.near hC5 (hX0 _)
      replace hby1 := Bytes.near hby1 hC5 (fun ad _ => hX0 _)
      have HK := Lib.hid (And.intro HR.out.1 (And.intro HR.out.2.1 hnr5))
      clear HR hC5 hnr5 HQ
      cases q
      · have hC5m := (Near.refl [gm] w5).drew
        have hLl : (Go.wr L (256 * at_) (b.take (256 * i))).length = N * 256 := by rw [wr_length (by rw [List.length_take]; have := HN.out; omega)]; exact HN.out.2.2.2.2
        obtain ⟨L1, hL1⟩ : ∃ L1, L1 = Go.wr L (256 * at_) (b.take (256 * i)) := ⟨_, rfl⟩
        rw [← hL1] at hd hLl
        have HL1 := Lib.hid (And.intro hL1 hLl)
        clear hL1 hLl
        go_wp2_with fail
        refine wp_region_tree (Near [gm] w5) [] (PlanT.takes [5, 12] (PlanT.takes [0, 4, 7, 11] (PlanT.takes [1, 2, 6, 8, 9, 13] (PlanT.takes [3, 10] (PlanT.takes [14] (PlanT.takes [15] (.opt 16 .done .no))))))) (by kernel_rfl) (by kernel_rfl) (hC5m) ?_
        refine wpTree_pure _ _ _ (by rfl) (by rfl) ?_
        dsimp only [List.filterMap, List.getElem?_cons_zero, List.getElem?_cons_succ]
        repeat (go_big_quiet_step (fail))
        refine wpQuiet_nil ?_
        refine wpTree_takeL _ _ _ (by rfl) (by rfl) (hC5m) ?_
        dsimp only [List.filterMap, List.getElem?_cons_zero, List.getElem?_cons_succ]
        (refine wpQuiet_load_cell (fun w' hw' => (Blk.near hp1 hw' (HXM.out.1)).at_ 0 (v := .pointer (some ⟨gd, 0, none⟩)) rfl) (by rfl) _ _ (by rfl) (by rfl) _ Tryz.underlying25 (by rfl) ?_; simp only [Act.put, List.setIfInBounds_toArray, List.set_cons_zero, List.set_cons_succ])
        (refine wpQuiet_load_cell (fun w' hw' => (Blk.near ha1 hw' (HXM.out.2.1)).at_ 0 (v := .int .i64 (at_ : Int)) rfl) (by rfl) _ _ (by rfl) (by rfl) _ Tryz.underlying3 (by rfl) ?_; simp only [Act.put, List.setIfInBounds_toArray, List.set_cons_zero, List.set_cons_succ])
        (refine wpQuiet_load_cell (fun w' hw' => (Blk.near hp1 hw' (HXM.out.1)).at_ 0 (v := .pointer (some ⟨gd, 0, none⟩)) rfl) (by rfl) _ _ (by rfl) (by rfl) _ Tryz.underlying25 (by rfl) ?_; simp only [Act.put, List.setIfInBounds_toArray, List.set_cons_zero, List.set_cons_succ])
        (refine wpQuiet_load_cell (fun w' hw' => (Blk.near ha1 hw' (HXM.out.2.1)).at_ 0 (v := .int .i64 (at_ : Int)) rfl) (by rfl) _ _ (by rfl) (by rfl) _ Tryz.underlying3 (by rfl) ?_; simp only [Act.put, List.setIfInBounds_toArray, List.set_cons_zero, List.set_cons_succ])
        refine wpQuiet_nil ?_
        refine wpTree_pure _ _ _ (by rfl) (by rfl) ?_
        dsimp only [List.filterMap, List.getElem?_cons_zero, List.getElem?_cons_succ]
        repeat (go_big_quiet_step (fail))
        refine wpQuiet_nil ?_
        refine wpTree_takeL _ _ _ (by rfl) (by rfl) (hC5m) ?_
        dsimp only [List.filterMap, List.getElem?_cons_zero, List.getElem?_cons_succ]
        (refine wpQuiet_load_cell (fun w' hw' => (Blk.near hd.1 hw' (HXM.out.2.2.1)).at_ 1 (v := .map (some gm)) rfl) (by rfl) _ _ (by rfl) (by rfl) _ Tryz.underlying97 (by rfl) ?_; simp only [Act.put, List.setIfInBounds_toArray, List.set_cons_zero, List.set_cons_succ])
        (refine wpQuiet_load_cell (fun w' hw' => (Blk.near hd.1 hw' (HXM.out.2.2.1)).at_ 0 (v := .slice (some ⟨gl, 0, none⟩) N N) rfl) (by rfl) _ _ (by rfl) (by rfl) _ Tryz.underlying96 (by rfl) ?_; simp only [Act.put, List.setIfInBounds_toArray, List.set_cons_zero, List.set_cons_succ])
        refine wpQuiet_nil ?_
        refine wpTree_pure _ _ _ (by rfl) (by rfl) ?_
        dsimp only [List.filterMap, List.getElem?_cons_zero, List.getElem?_cons_succ]
        repeat (go_big_quiet_step (fail))
        refine wpQuiet_nil ?_
        refine wpTree_takeL _ _ _ (by rfl) (by rfl) (hC5m) ?_
        dsimp only [List.filterMap, List.getElem?_cons_zero, List.getElem?_cons_succ]
        (refine wpQuiet_load_mid (fun w' hw' => sec_mid' w' (hd.2.1.near hw' HXM.out.2.2.2.1) (at_ + i) (by rw [HL1.out.2]; omega)) (by rfl) _ _ (by rfl) (by rfl) _ Tryz.underlying102 (by rfl) (sizeSec) (by rw [List.length_map, sec_length _ (by rw [HL1.out.2]; omega)]) ?_; simp only [Act.put, List.setIfInBounds_toArray, List.set_cons_zero, List.set_cons_succ])
        refine wpQuiet_nil ?_
        refine wpTree_one _ rfl ?_
        refine wpList_mapUpdate_int (by rfl) _ _ _ _ _ _ (by rfl) Tryz.underlying97 Tryz.underlying3 gm es1 c1 hd.2.2.drew HK.out.1 ((at_ : Int) + i) (.agg ((sec L1 (at_ + i)).map u8v).toArray) (by rfl) (by rfl) (by rfl) ?_
        intro w6 hm6 hu6
        have hC6 : Near [gm] w5 w6 := hC5m.trans (Near.upd hu6 (List.mem_singleton.2 rfl))
        go_wp2_with fail
        refine TreeQ.in_ hC6 ?_
        refine wpTree_done ?_
        have hsl : (sec L1 (at_ + i)).length = 256 := sec_length _ (by rw [HL1.out.2]; omega)
        have hik : IntKeys (mput es1 c1 ((at_ : Int) + i) (.agg ((sec L1 (at_ + i)).map u8v).toArray)).1.toList := HK.out.1.put
        have hsv : SecVals (mput es1 c1 ((at_ : Int) + i) (.agg ((sec L1 (at_ + i)).map u8v).toArray)).1.toList := HK.out.2.1.put hsl
        have ho2 : OldIs (mput es1 c1 ((at_ : Int) + i) (.agg ((sec L1 (at_ + i)).map u8v).toArray)).1 (mput es1 c1 ((at_ : Int) + i) (.agg ((sec L1 (at_ + i)).map u8v).toArray)).2 (oldW old L at_ (i + 1)) := by
          have hn0 : old (at_ + i) = none := by have h := HO.out.2; cases hx : old (at_ + i) with
            | none => rfl
            | some l => rw [hx] at h; cases h
          have h1 := HO.out.1.put (k := at_ + i) (l := sec L1 (at_ + i)) (by rw [oldW_at]; exact hn0) hsl
          have e1 : sec L1 (at_ + i) = sec L (at_ + i) := by rw [HL1.out.1]; exact sec_wr_behind (by have := HN.out; omega) (by have := HN.out; omega)
          rw [show ((at_ + i : Nat) : Int) = (at_ : Int) + i by omega] at h1
          rw [← oldW_new hn0, ← e1]; exact h1
        replace hd : DiskB w6 gd gl gm N L1 _ _ out fz ops := ⟨hd.1.near hC6 HXM.out.2.2.1, hd.2.1.near hC6 HXM.out.2.2.2.1, hm6⟩
        generalize (mput es1 c1 ((at_ : Int) + i) (.agg ((sec L1 (at_ + i)).map u8v).toArray)).1 = es2 at hd hik hsv ho2
        generalize (mput es1 c1 ((at_ : Int) + i) (.agg ((sec L1 (at_ + i)).map u8v).toArray)).2 = c2 at hd ho2
        rw [HL1.out.1] at hd
        have hk2 := And.intro hik (And.intro ho2 (HK.out.2.2.trans (hC6.wider (fun x hx => by simp at hx; simp [hx]))))
        replace hp1 := hp1.near hC6 HXM.out.1
        replace ha1 := ha1.near hC6 HXM.out.2.1
        replace hb1 := hb1.near hC6 HXM.out.2.2.2.2
        replace hby1 := Bytes.near hby1 hC6 (fun ad e => by have h := HH.out.2.2.2.2.2 ad e; simp at h ⊢; exact h.2)
        have HK2 := Lib.hid hk2
        clear hC6 hm6 hu6 hsl hik hsv ho2 hk2 hC5m HK HL1 HO
        have hC7 := (Near.refl [gl] w6).drew
        have hsb : (sec b i).length = 256 := sec_length _ (by have := HN.out; omega)
        obtain ⟨bb, boff, hAe, hbl0, -⟩ := hby1.at_ (by have := HN.out; omega)
        have hcn : ¬ cap = i * 256 := by have := HN.out; omega
        have hc2 : (i + 1) * 256 ≤ cap := by have := HN.out; omega
        have hc3 : i * 256 ≤ cap := by omega
        have hbm : Bytes w6 (some ⟨bb, boff + i * 256, none⟩) (sec b i) := by
          have h := hby1.drop (k := i * 256) (cap := cap) (.inl (by omega))
          rw [if_neg hcn, hAe] at h
          have h2 := h.take 256
          rw [Nat.mul_comm i 256] at h2
          unfold sec
          rw [Nat.mul_comm i 256]
          simpa [Addr.add_lit] using h2
        have hbbl : bb ∉ [gl] := by have h := HH.out.2.2.2.2.2 _ hAe; simp at h ⊢; exact h.1
        subst hAe
        have HSB := Lib.hid (And.intro hsb (And.intro hbm hbbl))
        clear hsb hbm hbbl hbl0
        go_wp2_with fail
        refine wp_region_tree (Near [gl] w6) [] (PlanT.takes [5, 8, 9, 10, 11, 12] (PlanT.takes [0, 4, 7] (PlanT.takes [1, 2, 6, 13, 14] (PlanT.takes [3, 15] (PlanT.takes [16] (.opt 17 .done .no)))))) (by kernel_rfl) (by kernel_rfl) (hC7) ?_
        refine wpTree_pure _ _ _ (by rfl) (by rfl) ?_
        dsimp only [List.filterMap, List.getElem?_cons_zero, List.getElem?_cons_succ]
        repeat (go_big_quiet_step (fail))
        refine wpQuiet_nil ?_
        refine wpTree_takeL _ _ _ (by rfl) (by rfl) (hC7) ?_
        dsimp only [List.filterMap, List.getElem?_cons_zero, List.getElem?_cons_succ]
        (refine wpQuiet_load_cell (fun w' hw' => (Blk.near hp1 hw' (HXL.out.1)).at_ 0 (v := .pointer (some ⟨gd, 0, none⟩)) rfl) (by rfl) _ _ (by rfl) (by rfl) _ Tryz.underlying25 (by rfl) ?_; simp only [Act.put, List.setIfInBounds_toArray, List.set_cons_zero, List.set_cons_succ])
        (refine wpQuiet_load_cell (fun w' hw' => (Blk.near ha1 hw' (HXL.out.2.1)).at_ 0 (v := .int .i64 (at_ : Int)) rfl) (by rfl) _ _ (by rfl) (by rfl) _ Tryz.underlying3 (by rfl) ?_; simp only [Act.put, List.setIfInBounds_toArray, List.set_cons_zero, List.set_cons_succ])
        (refine wpQuiet_load_cell (fun w' hw' => (Blk.near hb1 hw' (HXL.out.2.2.1)).at_ 0 (v := .slice (some ⟨bb, boff, none⟩) b.length cap) rfl) (by rfl) _ _ (by rfl) (by rfl) _ Tryz.underlying39 (by rfl) ?_; simp only [Act.put, List.setIfInBounds_toArray, List.set_cons_zero, List.set_cons_succ])
        refine wpQuiet_nil ?_
        refine wpTree_pure _ _ _ (by rfl) (by rfl) ?_
        dsimp only [List.filterMap, List.getElem?_cons_zero, List.getElem?_cons_succ]
        repeat (go_big_quiet_step (fail))
        refine wpQuiet_array (by rfl) _ _ (by rfl) 256 _ Tryz.underlying102 (some ⟨bb, boff + i * 256, none⟩) ((i + 1) * 256 - i * 256) (cap - i * 256) (by rfl) (by omega) ?_
        simp only [Act.put, List.setIfInBounds_toArray, List.set_cons_zero, List.set_cons_succ]
        refine wpQuiet_nil ?_
        refine wpTree_takeL _ _ _ (by rfl) (by rfl) (hC7) ?_
        dsimp only [List.filterMap, List.getElem?_cons_zero, List.getElem?_cons_succ]
        (refine wpQuiet_load_cell (fun w' hw' => (Blk.near hd.1 hw' (HXL.out.2.2.2.1)).at_ 0 (v := .slice (some ⟨gl, 0, none⟩) N N) rfl) (by rfl) _ _ (by rfl) (by rfl) _ Tryz.underlying96 (by rfl) ?_; simp only [Act.put, List.setIfInBounds_toArray, List.set_cons_zero, List.set_cons_succ])
        (refine wpQuiet_load_mid (fun w' hw' => Bytes.range (Bytes.near HSB.out.2.1 hw' (fun ad e => by cases e; exact HSB.out.2.2))) (by rfl) _ _ (by rfl) (by rfl) _ Tryz.underlying102 (by rfl) (sizeSec) (by rw [List.length_map, HSB.out.1]) ?_; simp only [Act.put, List.setIfInBounds_toArray, List.set_cons_zero, List.set_cons_succ])
        refine wpQuiet_nil ?_
        refine wpTree_pure _ _ _ (by rfl) (by rfl) ?_
        dsimp only [List.filterMap, List.getElem?_cons_zero, List.getElem?_cons_succ]
        repeat (go_big_quiet_step (fail))
        refine wpQuiet_nil ?_
        have hlw : (Go.wr L (256 * at_) (b.take (256 * i))).length = N * 256 := by rw [wr_length (by rw [List.length_take]; have := HN.out; omega)]; exact HN.out.2.2.2.2
        have hlt2 : (b.take (256 * i)).length = 256 * i := by rw [List.length_take]; have := HN.out; omega
        refine wpTree_one _ rfl ?_
        refine wpList_store_in hd.2.1.drew (by rfl) _ _ _ (by rfl) ((at_ + i) * 256) (by rfl) ((sec b i).map u8v).toArray (by rfl) sizeSec (by rw [List.size_toArray, List.length_map, HSB.out.1]) (by rw [List.size_toArray, List.length_map, hlw]; omega) (sec_one _) ?_
        intro w8 h8 hu8
        have hC8 : Near [gl] w6 w8 := hC7.trans (Near.upd hu8 (List.mem_singleton.2 rfl))
        have e8 : setAll ((Go.wr L (256 * at_) (b.take (256 * i))).map u8v).toArray ((at_ + i) * 256) ((sec b i).map u8v).toArray.toList = ((Go.wr L (256 * at_) (b.take (256 * (i + 1)))).map u8v).toArray := by
          rw [List.toList_toArray, setAll_wr _ _ _ (by rw [hlw, HSB.out.1]; omega)]
          have e1 : (at_ + i) * 256 = 256 * at_ + (b.take (256 * i)).length := by rw [hlt2]; omega
          rw [e1, wr_wr (by rw [hlt2, HSB.out.1]; have := HN.out; omega)]
          have e2 : b.take (256 * i) ++ sec b i = b.take (256 * (i + 1)) := by unfold sec; rw [Nat.mul_add, Nat.mul_one, List.take_add]
          rw [e2]
        rw [e8] at h8
        replace hd : DiskB w8 gd gl gm N _ _ _ out fz ops := ⟨hd.1.near hC8 HXL.out.2.2.2.1, h8, hd.2.2.near hC8 HXL.out.2.2.2.2⟩
        have HF := Lib.hid (show WrRel w old gd gl gm N at_ n L b out fz ops (.int .i64 ((i + 1 : Nat) : Int)) w8 from
          ⟨i + 1, es2, c2, by omega, rfl, hd, HK2.out.2.1, HK2.out.2.2.trans (hC8.wider (fun x hx => by simp at hx; simp [hx]))⟩)
        go_wp2_with fail
        refine TreeQ.in_ hC8 ?_
        refine wpTree_done ?_
        clear hd e8 h8 hu8 hC8 hp1 ha1 hb1 hby1 HSB HK2
        go_wp2
        go_roundw
        case rel => exact HF.out
        case measure => simp [intOf]; omega
      · have ho2 : OldIs es1 c1 (oldW old L at_ (i + 1)) := by
          have h := HO.out.2
          cases hx : old (at_ + i) with
          | none => rw [hx] at h; cases h
          | some l => rw [oldW_has hx]; exact HO.out.1
        have HK2 := Lib.hid (And.intro HK.out.1 (And.intro ho2 HK.out.2.2))
        clear HK HO ho2
        have hC7 := (Near.refl [gl] w5).drew
        have hsb : (sec b i).length = 256 := sec_length _ (by have := HN.out; omega)
        obtain ⟨bb, boff, hAe, hbl0, -⟩ := hby1.at_ (by have := HN.out; omega)
        have hcn : ¬ cap = i * 256 := by have := HN.out; omega
        have hc2 : (i + 1) * 256 ≤ cap := by have := HN.out; omega
        have hc3 : i * 256 ≤ cap := by omega
        have hbm : Bytes w5 (some ⟨bb, boff + i * 256, none⟩) (sec b i) := by
          have h := hby1.drop (k := i * 256) (cap := cap) (.inl (by omega))
          rw [if_neg hcn, hAe] at h
          have h2 := h.take 256
          rw [Nat.mul_comm i 256] at h2
          unfold sec
          rw [Nat.mul_comm i 256]
          simpa [Addr.add_lit] using h2
        have hbbl : bb ∉ [gl] := by have h := HH.out.2.2.2.2.2 _ hAe; simp at h ⊢; exact h.1
        subst hAe
        have HSB := Lib.hid (And.intro hsb (And.intro hbm hbbl))
        clear hsb hbm hbbl hbl0
        go_wp2_with fail
        refine wp_region_tree (Near [gl] w5) [] (PlanT.takes [5, 8, 9, 10, 11, 12] (PlanT.takes [0, 4, 7] (PlanT.takes [1, 2, 6, 13, 14] (PlanT.takes [3, 15] (PlanT.takes [16] (.opt 17 .done .no)))))) (by kernel_rfl) (by kernel_rfl) (hC7) ?_
        refine wpTree_pure _ _ _ (by rfl) (by rfl) ?_
        dsimp only [List.filterMap, List.getElem?_cons_zero, List.getElem?_cons_succ]
        repeat (go_big_quiet_step (fail))
        refine wpQuiet_nil ?_
        refine wpTree_takeL _ _ _ (by rfl) (by rfl) (hC7) ?_
        dsimp only [List.filterMap, List.getElem?_cons_zero, List.getElem?_cons_succ]
        (refine wpQuiet_load_cell (fun w' hw' => (Blk.near hp1 hw' (HXL.out.1)).at_ 0 (v := .pointer (some ⟨gd, 0, none⟩)) rfl) (by rfl) _ _ (by rfl) (by rfl) _ Tryz.underlying25 (by rfl) ?_; simp only [Act.put, List.setIfInBounds_toArray, List.set_cons_zero, List.set_cons_succ])
        (refine wpQuiet_load_cell (fun w' hw' => (Blk.near ha1 hw' (HXL.out.2.1)).at_ 0 (v := .int .i64 (at_ : Int)) rfl) (by rfl) _ _ (by rfl) (by rfl) _ Tryz.underlying3 (by rfl) ?_; simp only [Act.put, List.setIfInBounds_toArray, List.set_cons_zero, List.set_cons_succ])
        (refine wpQuiet_load_cell (fun w' hw' => (Blk.near hb1 hw' (HXL.out.2.2.1)).at_ 0 (v := .slice (some ⟨bb, boff, none⟩) b.length cap) rfl) (by rfl) _ _ (by rfl) (by rfl) _ Tryz.underlying39 (by rfl) ?_; simp only [Act.put, List.setIfInBounds_toArray, List.set_cons_zero, List.set_cons_succ])
        refine wpQuiet_nil ?_
        refine wpTree_pure _ _ _ (by rfl) (by rfl) ?_
        dsimp only [List.filterMap, List.getElem?_cons_zero, List.getElem?_cons_succ]
        repeat (go_big_quiet_step (fail))
        refine wpQuiet_array (by rfl) _ _ (by rfl) 256 _ Tryz.underlying102 (some ⟨bb, boff + i * 256, none⟩) ((i + 1) * 256 - i * 256) (cap - i * 256) (by rfl) (by omega) ?_
        simp only [Act.put, List.setIfInBounds_toArray, List.set_cons_zero, List.set_cons_succ]
        refine wpQuiet_nil ?_
        refine wpTree_takeL _ _ _ (by rfl) (by rfl) (hC7) ?_
        dsimp only [List.filterMap, List.getElem?_cons_zero, List.getElem?_cons_succ]
        (refine wpQuiet_load_cell (fun w' hw' => (Blk.near hd.1 hw' (HXL.out.2.2.2.1)).at_ 0 (v := .slice (some ⟨gl, 0, none⟩) N N) rfl) (by rfl) _ _ (by rfl) (by rfl) _ Tryz.underlying96 (by rfl) ?_; simp only [Act.put, List.setIfInBounds_toArray, List.set_cons_zero, List.set_cons_succ])
        (refine wpQuiet_load_mid (fun w' hw' => Bytes.range (Bytes.near HSB.out.2.1 hw' (fun ad e => by cases e; exact HSB.out.2.2))) (by rfl) _ _ (by rfl) (by rfl) _ Tryz.underlying102 (by rfl) (sizeSec) (by rw [List.length_map, HSB.out.1]) ?_; simp only [Act.put, List.setIfInBounds_toArray, List.set_cons_zero, List.set_cons_succ])
        refine wpQuiet_nil ?_
        refine wpTree_pure _ _ _ (by rfl) (by rfl) ?_
        dsimp only [List.filterMap, List.getElem?_cons_zero, List.getElem?_cons_succ]
        repeat (go_big_quiet_step (fail))
        refine wpQuiet_nil ?_
        have hlw : (Go.wr L (256 * at_) (b.take (256 * i))).length = N * 256 := by rw [wr_length (by rw [List.length_take]; have := HN.out; omega)]; exact HN.out.2.2.2.2
        have hlt2 : (b.take (256 * i)).length = 256 * i := by rw [List.length_take]; have := HN.out; omega
        refine wpTree_one _ rfl ?_
        refine wpList_store_in hd.2.1.drew (by rfl) _ _ _ (by rfl) ((at_ + i) * 256) (by rfl) ((sec b i).map u8v).toArray (by rfl) sizeSec (by rw [List.size_toArray, List.length_map, HSB.out.1]) (by rw [List.size_toArray, List.length_map, hlw]; omega) (sec_one _) ?_
        intro w8 h8 hu8
        have hC8 : Near [gl] w5 w8 := hC7.trans (Near.upd hu8 (List.mem_singleton.2 rfl))
        have e8 : setAll ((Go.wr L (256 * at_) (b.take (256 * i))).map u8v).toArray ((at_ + i) * 256) ((sec b i).map u8v).toArray.toList = ((Go.wr L (256 * at_) (b.take (256 * (i + 1)))).map u8v).toArray := by
          rw [List.toList_toArray, setAll_wr _ _ _ (by rw [hlw, HSB.out.1]; omega)]
          have e1 : (at_ + i) * 256 = 256 * at_ + (b.take (256 * i)).length := by rw [hlt2]; omega
          rw [e1, wr_wr (by rw [hlt2, HSB.out.1]; have := HN.out; omega)]
          have e2 : b.take (256 * i) ++ sec b i = b.take (256 * (i + 1)) := by unfold sec; rw [Nat.mul_add, Nat.mul_one, List.take_add]
          rw [e2]
        rw [e8] at h8
        replace hd : DiskB w8 gd gl gm N _ _ _ out fz ops := ⟨hd.1.near hC8 HXL.out.2.2.2.1, h8, hd.2.2.near hC8 HXL.out.2.2.2.2⟩
        have HF := Lib.hid (show WrRel w old gd gl gm N at_ n L b out fz ops (.int .i64 ((i + 1 : Nat) : Int)) w8 from
          ⟨i + 1, es1, c1, by omega, rfl, hd, HK2.out.2.1, HK2.out.2.2.trans (hC8.wider (fun x hx => by simp at hx; simp [hx]))⟩)
        go_wp2_with fail
        refine TreeQ.in_ hC8 ?_
        refine wpTree_done ?_
        clear hd e8 h8 hu8 hC8 hp1 ha1 hb1 hby1 HSB HK2
        go_wp2
        go_roundw
        case rel => exact HF.out
        case measure => simp [intOf]; omega
end
end Go.Proofs.YtfoegmjpfkmggaaGreatDoor

/- A disk as plain data, and what its calls do to it; where it lies. Plain facts. No condition. -/
namespace Go
open Go.RowKit
/-- A disk: its sectors' bytes, the old bytes of its loose sectors, is it out, its changes. -/
structure Dsk where
  N : Nat
  L : List UInt8
  old : Nat → Option (List UInt8)
  out : Bool
  ops : Int
structure Fus where
  left : Int
  gone : Bool
def Dsk.isOut (d : Dsk) (f : Option Fus) : Bool := d.out || (match f with | none => false | some f => f.gone)
structure Dsk.Ok (d : Dsk) : Prop where
  n1 : 1 ≤ d.N
  n2 : d.N ≤ 65536
  len : d.L.length = d.N * 256
  old : ∀ k l, d.old k = some l → k < d.N ∧ l.length = 256
/-- One more change. -/
def Dsk.tick (d : Dsk) : Dsk := { d with ops := wrap64 (d.ops + 1) }
def chg (d : Dsk) (f : Option Fus) (g : Dsk → Dsk) : Int × Dsk × Option Fus :=
  match f with
  | none => (0, g d.tick, none)
  | some f => if f.left = 0 then (11, d, some { f with gone := true }) else (0, g d.tick, some { f with left := wrap64 (f.left - 1) })
/-- What a write does. -/
def Dsk.put (d : Dsk) (at_ : Nat) (b : List UInt8) : Dsk := { d with L := wr d.L (256 * at_) b, old := oldW d.old d.L at_ (b.length / 256) }
def Dsk.write (d : Dsk) (f : Option Fus) (at_ : Int) (b : List UInt8) : Int × Dsk × Option Fus :=
  if d.isOut f = true then (11, d, f)
  else if b.length / 256 = 0 ∨ b.length % 256 ≠ 0 then (2, d, f)
  else if at_ < 0 ∨ (d.N : Int) - (b.length / 256 : Nat) < at_ then (5, d, f)
  else chg d f fun d => d.put at_.toNat b
def Dsk.safe (d : Dsk) : Dsk := { d with old := fun _ => none }
def Dsk.flush (d : Dsk) (f : Option Fus) : Int × Dsk × Option Fus := if d.isOut f = true then (11, d, f) else chg d f Dsk.safe
def Dsk.read (d : Dsk) (f : Option Fus) (at_ n : Int) : List UInt8 × Int :=
  if d.isOut f = true then ([], 11)
  else if n < 0 ∨ at_ < 0 ∨ (d.N : Int) < at_ ∨ (d.N : Int) - at_ < n then ([], 5)
  else ((d.L.drop (256 * at_.toNat)).take (256 * n.toNat), 0)
def Dsk.turn (d : Dsk) (s a : Int) (m : UInt8) : Int × Dsk :=
  if s < 0 ∨ (d.N : Int) ≤ s ∨ a < 0 ∨ 256 ≤ a then (5, d)
  else (0, { d with L := d.L.set (s.toNat * 256 + a.toNat) (d.L.getD (s.toNat * 256 + a.toNat) 0 ^^^ m) })
/-- Which sectors are loose. -/
def Dsk.loose (d : Dsk) : List Nat := (List.range d.N).filter fun k => (d.old k).isSome
/-- What a crash makes of the bytes, loose sector by loose sector; how many stayed. -/
def crashL (old : Nat → Option (List UInt8)) (keeps : List Bool) (tear : Int) : List Nat → Nat → Nat → List UInt8 → List UInt8
  | [], _, _, L => L
  | k :: ks, i, stay, L =>
    if keeps.getD i false = false then crashL old keeps tear ks (i + 1) stay (wr L (256 * k) ((old k).getD []))
    else if (stay : Int) = tear then crashL old keeps tear ks (i + 1) (stay + 1) (wr L (256 * k + 128) (((old k).getD []).drop 128))
    else crashL old keeps tear ks (i + 1) (stay + 1) L
def Dsk.crash (d : Dsk) (keeps : List Bool) (tear : Int) : Dsk := { d with L := crashL d.old keeps tear d.loose 0 0 d.L, old := fun _ => none, out := false }
def Dsk.new (N : Nat) : Dsk := ⟨N, List.replicate (N * 256) 0, fun _ => none, false, 0⟩
section
variable {d : Dsk}
theorem Dsk.Ok.new {N : Nat} (h : 1 ≤ N ∧ N ≤ 65536) : (Dsk.new N).Ok := ⟨h.1, h.2, List.length_replicate .., fun k l h => by cases h⟩
theorem Dsk.Ok.tick (h : d.Ok) : d.tick.Ok := ⟨h.n1, h.n2, h.len, h.old⟩
theorem sec_len {L : List UInt8} {i : Nat} (hi : 256 * (i + 1) ≤ L.length) : (sec L i).length = 256 := by unfold sec; rw [List.length_take, List.length_drop]; omega
theorem Dsk.Ok.put (h : d.Ok) {at_ : Nat} {b : List UInt8} (hb : b.length % 256 = 0) (hat : at_ + b.length / 256 ≤ d.N) : (d.put at_ b).Ok := by
  have hl := h.len
  refine ⟨h.n1, h.n2, ?_, fun k l hk => ?_⟩
  · show (wr d.L (256 * at_) b).length = _
    rw [wr_length (by omega)]; exact hl
  · show k < d.N ∧ _
    have hk : oldW d.old d.L at_ (b.length / 256) k = some l := hk
    unfold oldW at hk
    split at hk
    · rename_i hc
      injection hk with hk
      cases ho : d.old k with
      | none => rw [ho] at hk; rw [← hk]; exact ⟨by omega, sec_len (by omega)⟩
      | some m => rw [ho] at hk; rw [← hk]; exact h.old k m ho
    · exact h.old k l hk
theorem Dsk.Ok.safe (h : d.Ok) : d.safe.Ok := ⟨h.n1, h.n2, h.len, fun k l h => by cases h⟩
theorem chg_ok {f : Option Fus} {g : Dsk → Dsk} (h : d.Ok) (hg : (g d.tick).Ok) : (chg d f g).2.1.Ok := by
  unfold chg
  split
  · exact hg
  · split
    · exact h
    · exact hg
theorem Dsk.write_ok {f : Option Fus} {at_ : Int} {b : List UInt8} (h : d.Ok) : (d.write f at_ b).2.1.Ok := by
  unfold Dsk.write
  split
  · exact h
  split
  · exact h
  split
  · exact h
  · exact chg_ok h (h.tick.put (by omega) (by show _ ≤ d.N; omega))
theorem Dsk.flush_ok {f : Option Fus} (h : d.Ok) : (d.flush f).2.1.Ok := by
  unfold Dsk.flush
  split
  · exact h
  · exact chg_ok h h.tick.safe
theorem Dsk.turn_ok {s a : Int} {m : UInt8} (h : d.Ok) : (d.turn s a m).2.Ok := by
  unfold Dsk.turn
  split
  · exact h
  · exact ⟨h.n1, h.n2, by rw [List.length_set]; exact h.len, h.old⟩
theorem Dsk.loose_mem {k : Nat} : k ∈ d.loose ↔ k < d.N ∧ (d.old k).isSome = true := by unfold Dsk.loose; rw [List.mem_filter, List.mem_range]
theorem crashL_length {old : Nat → Option (List UInt8)} {keeps : List Bool} {tear : Int} {N : Nat} (ho : ∀ k l, old k = some l → l.length = 256) : ∀ (ks : List Nat) (i stay : Nat) (L : List UInt8), (∀ k ∈ ks, k < N ∧ (old k).isSome = true) → L.length = N * 256 → (crashL old keeps tear ks i stay L).length = N * 256
  | [], _, _, L, _, hL => hL
  | k :: ks, i, stay, L, hk, hL => by
    have hks := fun x hx => hk x (.tail _ hx)
    obtain ⟨h1, h2⟩ := hk k (.head _)
    obtain ⟨l, hl⟩ := Option.isSome_iff_exists.1 h2
    have h3 := ho k l hl
    unfold crashL
    rw [hl]
    split
    · exact crashL_length ho ks _ _ _ hks (by rw [wr_length (by show _ + l.length ≤ _; omega)]; exact hL)
    split
    · exact crashL_length ho ks _ _ _ hks (by rw [wr_length (by show _ + (l.drop 128).length ≤ _; rw [List.length_drop]; omega)]; exact hL)
    · exact crashL_length ho ks _ _ _ hks hL
theorem Dsk.crash_ok {keeps : List Bool} {tear : Int} (h : d.Ok) : (d.crash keeps tear).Ok :=
  ⟨h.n1, h.n2, crashL_length (fun k l hk => (h.old k l hk).2) _ _ _ _ (fun k hk => Dsk.loose_mem.1 hk) h.len, fun k l h => by cases h⟩
end
theorem Blk.apart {w : World} {g g' : Nat} {t t' : TypeId} {cs cs' : Array Value} (h : Blk w g t cs) (h' : Blk w g' t' cs') (hne : t ≠ t') : g ≠ g' := fun e => by
  subst e
  have h1 : w.heap[g]? = some (.cells cs t) := h
  have h2 : w.heap[g]? = some (.cells cs' t') := h'
  rw [h1] at h2
  injection h2 with h2
  injection h2 with _ h2
  exact hne h2
theorem Blk.offMap {w : World} {g g' : Nat} {t : TypeId} {cs : Array Value} {es : Array MapEntry} {c : Nat} (h : Blk w g t cs) (h' : MapB w g' es c) : g ≠ g' := fun e => by
  subst e
  have h1 : w.heap[g]? = some (.cells cs t) := h
  have h2 : w.heap[g]? = some (.map es c) := h'
  rw [h1] at h2
  cases h2
end Go
namespace Go.Proofs.YtfoegmjpfkmggaaGreatDoor
open Go.RowKit
/-- Where a disk's blocks are: itself, its sectors, its map. -/
structure Pl where
  gd : Nat
  gl : Nat
  gm : Nat
def Pl.all (p : Pl) (gf : Option Nat) : List Nat := [p.gd, p.gl, p.gm] ++ gf.toList
def DskR (w : World) (p : Pl) (gf : Option Nat) (d : Dsk) : Prop := ∃ es c, DiskB w p.gd p.gl p.gm d.N d.L es c d.out gf d.ops ∧ OldIs es c d.old
def FusR (w : World) (gf : Option Nat) (f : Option Fus) : Prop := match gf, f with
  | none, none => True
  | some g, some f => FuseB w g f.left f.gone
  | _, _ => False
section
variable {w w' : World} {p : Pl} {gf : Option Nat} {d : Dsk} {f : Option Fus}
theorem DskR.apart (h : DskR w p gf d) : p.gd ≠ p.gl ∧ p.gd ≠ p.gm ∧ p.gl ≠ p.gm := by
  obtain ⟨es, c, ⟨h1, h2, h3⟩, _⟩ := h
  exact ⟨h1.apart h2 (by decide), h1.offMap h3, h2.offMap h3⟩
theorem FusR.has {g : Nat} (h : FusR w (some g) f) : ∃ x, f = some x ∧ FuseB w g x.left x.gone := by
  cases f with
  | none => cases h
  | some x => exact ⟨x, rfl, h⟩
theorem FusR.none_ (h : FusR w none f) : f = none := by
  cases f with
  | none => rfl
  | some x => cases h
theorem DskR.off (h : DskR w p gf d) (hf : FusR w gf f) {g : Nat} (hg : gf = some g) : g ≠ p.gd ∧ g ≠ p.gl ∧ g ≠ p.gm := by
  obtain ⟨es, c, ⟨h1, h2, h3⟩, _⟩ := h
  subst hg
  obtain ⟨x, rfl, hx⟩ := hf.has
  have hx : Blk w g _ _ := hx
  exact ⟨hx.apart h1 (by decide), hx.apart h2 (by decide), hx.offMap h3⟩
theorem DskR.near {X : List Nat} (h : DskR w p gf d) (k : Near X w w') (hX : p.gd ∉ X ∧ p.gl ∉ X ∧ p.gm ∉ X) : DskR w' p gf d := by
  obtain ⟨es, c, h1, h2⟩ := h
  exact ⟨es, c, h1.near k hX, h2⟩
theorem FusR.near {X : List Nat} (h : FusR w gf f) (k : Near X w w') (hX : ∀ g, gf = some g → g ∉ X) : FusR w' gf f := by
  cases gf with
  | none => obtain rfl := h.none_; exact trivial
  | some g =>
    obtain ⟨x, rfl, hx⟩ := h.has
    exact (show FuseB w' g x.left x.gone from Blk.near (hx : Blk w g _ _) k (hX g rfl))
theorem DskR.lt (h : DskR w p gf d) : p.gd < w.heap.size ∧ p.gl < w.heap.size ∧ p.gm < w.heap.size := by
  obtain ⟨es, c, ⟨h1, h2, h3⟩, _⟩ := h
  exact ⟨h1.lt, h2.lt, h3.lt⟩
theorem FusR.lt (h : FusR w gf f) {g : Nat} (hg : gf = some g) : g < w.heap.size := by
  subst hg
  obtain ⟨x, rfl, hx⟩ := h.has
  exact Blk.lt (hx : Blk w g _ _)
theorem isOut_all (h : DskR w p gf d) (hf : FusR w gf f) : Calls Tryz.prog 119 #[.pointer (some ⟨p.gd, 0, none⟩)] w fun e w' => e = .returned (.bool (d.isOut f)) ∧ w' = w := by
  obtain ⟨es, c, h1, _⟩ := h
  cases gf with
  | none =>
    obtain rfl := hf.none_
    have := isOut_none w h1
    simpa [Dsk.isOut] using this
  | some g =>
    obtain ⟨x, rfl, hx⟩ := hf.has
    exact isOut_some g x.left x.gone w h1 hx
theorem ready_all (h : DskR w p gf d) (hf : FusR w gf f) : Calls Tryz.prog 79 #[.pointer (some ⟨p.gd, 0, none⟩)] w fun e w' => e = .returned (.int .i64 (if d.isOut f = true then 11 else 0)) ∧ w' = w := by
  have h0 := h
  obtain ⟨es, c, h1, _⟩ := h
  exact ready_made w (d.isOut f) (fun w' e => by rw [e]; exact isOut_all h0 hf) h1
theorem up_all (h : DskR w p gf d) (hf : FusR w gf f) : Calls Tryz.prog 93 #[.pointer (some ⟨p.gd, 0, none⟩)] w fun e w' => e = .returned (.bool (!d.isOut f)) ∧ w' = w := by
  have h0 := h
  obtain ⟨es, c, h1, _⟩ := h
  exact up_made w (d.isOut f) (fun w' e => by rw [e]; exact isOut_all h0 hf) h1
theorem sectors_all (h : DskR w p gf d) : Calls Tryz.prog 92 #[.pointer (some ⟨p.gd, 0, none⟩)] w fun e w' => e = .returned (.int .i64 (d.N : Int)) ∧ w' = w := by
  obtain ⟨es, c, h1, _⟩ := h
  exact sectors_made w h1
end
theorem new_all (N : Nat) (h : 1 ≤ N ∧ N ≤ 65536) (w : World) : Calls Tryz.prog 21 #[.int .i64 (N : Int)] w fun e w' => ∃ p : Pl, e = .returned (.tuple #[.pointer (some ⟨p.gd, 0, none⟩), .int .i64 0]) ∧ DskR w' p none (Dsk.new N) ∧ (w.heap.size ≤ p.gd ∧ w.heap.size ≤ p.gl ∧ w.heap.size ≤ p.gm) ∧ Below w.heap.size w w' := by
  refine (new_any N h w).mono ?_
  rintro e w' ⟨gd, gl, gm, rfl, hd, hs, hb⟩
  exact ⟨⟨gd, gl, gm⟩, rfl, ⟨#[], 0, hd, OldIs.nil 0⟩, ⟨hs.1, hs.2.1, hs.2.2.1⟩, hb⟩
end Go.Proofs.YtfoegmjpfkmggaaGreatDoor

/- A change of a disk, whatever its fuse; Flush. Conditions: what is to be done keeps to its contract. -/
namespace Go.Proofs.YtfoegmjpfkmggaaGreatDoor
open Go.RowKit
section
variable {w w' : World} {p : Pl} {gf : Option Nat} {d : Dsk} {f : Option Fus}
theorem DskR.ticked (h : DskR w p gf d) : DskR (w.setCell ⟨p.gd, 4, none⟩ (.int .i64 (wrap64 (d.ops + 1)))) p gf d.tick := by
  have hne := h.apart
  obtain ⟨es, c, h1, h2⟩ := h
  exact ⟨es, c, h1.ops_ ⟨hne.1, hne.2.1⟩ _, h2⟩
set_option maxRecDepth 100000 in
set_option maxHeartbeats 1000000 in
theorem change_all (hd : DskR w p gf d) (hf : FusR w gf f) (k : Nat) (caps : Array Value) (g : Dsk → Dsk) (hcall : ∀ (args : Array Value) (w : World), (callFunc k args).run Tryz.prog w = .ok (.enter k args) w)
    (hk : ∀ w', DskR w' p gf d.tick → Near (p.gd :: gf.toList) w w' → Calls Tryz.prog k caps w' fun e w'' => e = .returned (.tuple #[]) ∧ DskR w'' p gf (g d.tick) ∧ Near [p.gl, p.gm] w' w'') :
    Calls Tryz.prog 80 #[.pointer (some ⟨p.gd, 0, none⟩), .func (.func k) #[] caps] w fun e w' => e = .returned (.int .i64 (chg d f g).1) ∧ DskR w' p gf (chg d f g).2.1 ∧ FusR w' gf (chg d f g).2.2 ∧ Near (p.all gf) w w' := by
  have hoff := fun g hg => hd.off hf (g := g) hg
  cases gf with
  | none =>
    obtain rfl := hf.none_
    have hK := Lib.hid (hk _ hd.ticked (Near.upd ((Upd.refl p.gd w).set 4 _) (.head _)))
    obtain ⟨es, c, h, ho⟩ := hd
    have d3 := h.1.at_ 3 (v := .pointer none) rfl
    have d4 := h.1.at_ 4 (v := .int .i64 d.ops) rfl
    have f4 := h.1.frozen 4
    have HN := Lib.hid (show Near [p.gd, p.gl, p.gm] w (w.setCell ⟨p.gd, 4, none⟩ (.int .i64 (wrap64 (d.ops + 1)))) from Near.upd ((Upd.refl p.gd w).set 4 _) (.head _))
    clear h hk ho hoff hf
    go_enter Tryz.func80, Tryz.ntmps80
    go_wp2_with fail
    refine hK.out.mono ?_
    rintro e w2 ⟨rfl, hq, hn⟩
    have HQ := Lib.hid (And.intro hq (HN.out.trans (hn.wider (fun x hx => by simp at hx; simp [hx]))))
    clear hq hn hK d3 d4 f4 HN
    go_wp2
    go_ret
    exact ⟨rfl, HQ.out.1, trivial, HQ.out.2⟩
  | some gq =>
    obtain ⟨x, rfl, hx⟩ := hf.has
    have hx : Blk w gq 179 #[.int .i64 x.left, .bool x.gone] := hx
    have hofq := hoff gq rfl
    have hd0 := hd
    obtain ⟨es, c, h, ho⟩ := hd
    have d3 := h.1.at_ 3 (v := .pointer (some ⟨gq, 0, none⟩)) rfl
    have q0 := hx.at_ 0 (v := .int .i64 x.left) rfl
    by_cases hz : x.left = 0
    · have hu := (Upd.refl gq w).set 1 (.bool true)
      have f1 := hx.frozen 1
      have q1 := hx.at_ 1 (v := .bool x.gone) rfl
      have HR := Lib.hid (show DskR (w.setCell ⟨gq, 1, none⟩ (.bool true)) p (some gq) d ∧ FusR (w.setCell ⟨gq, 1, none⟩ (.bool true)) (some gq) (some { x with gone := true }) ∧ Near (p.all (some gq)) w (w.setCell ⟨gq, 1, none⟩ (.bool true)) from
        ⟨hd0.near (Near.upd hu (List.mem_singleton.2 rfl)) (by simp; exact ⟨fun e => hofq.1 e.symm, fun e => hofq.2.1 e.symm, fun e => hofq.2.2 e.symm⟩), (hx.set_ 1 (.bool true)).sub rfl, Near.upd hu (by simp [Pl.all])⟩)
      have e1 : chg d (some x) g = (11, d, some { x with gone := true }) := if_pos hz
      rw [e1]
      rw [hz] at q0
      clear h ho hd0 hx hk hoff hofq e1 hz hu hf
      go_enter Tryz.func80, Tryz.ntmps80
      go_wp2
      go_ret
      exact ⟨rfl, HR.out⟩
    · have hu := (Upd.refl gq w).set 0 (.int .i64 (wrap64 (x.left - 1)))
      have f0 := hx.frozen 0
      have hn1 := Near.upd hu (List.mem_singleton.2 rfl)
      have hX1 : p.gd ∉ [gq] ∧ p.gl ∉ [gq] ∧ p.gm ∉ [gq] := by simp; exact ⟨fun e => hofq.1 e.symm, fun e => hofq.2.1 e.symm, fun e => hofq.2.2 e.symm⟩
      have hd1 := hd0.near hn1 hX1
      have hx1 : Blk (w.setCell ⟨gq, 0, none⟩ (.int .i64 (wrap64 (x.left - 1)))) gq 179 #[.int .i64 (wrap64 (x.left - 1)), .bool x.gone] := (hx.set_ 0 _).sub rfl
      have h1 := h.1.near hn1 hX1.1
      have d4 := h1.at_ 4 (v := .int .i64 d.ops) rfl
      have f4 := h1.frozen 4
      have hn2 := Near.upd ((Upd.refl p.gd (w.setCell ⟨gq, 0, none⟩ (.int .i64 (wrap64 (x.left - 1))))).set 4 (.int .i64 (wrap64 (d.ops + 1)))) (List.mem_singleton.2 rfl)
      have hn12 : Near (p.gd :: [gq]) w ((w.setCell ⟨gq, 0, none⟩ (.int .i64 (wrap64 (x.left - 1)))).setCell ⟨p.gd, 4, none⟩ (.int .i64 (wrap64 (d.ops + 1)))) := (hn1.wider (fun x hx => by simp at hx; simp [hx])).trans (hn2.wider (fun x hx => by simp at hx; simp [hx]))
      have hx2 := hx1.near hn2 (by simp; exact hofq.1)
      have HK := Lib.hid (And.intro (hk _ hd1.ticked hn12) (And.intro hn12 (And.intro hx2 hofq)))
      have e1 : chg d (some x) g = (0, g d.tick, some { x with left := wrap64 (x.left - 1) }) := if_neg hz
      rw [e1]
      have hz2 : (x.left == 0) = false := by simp [hz]
      clear h ho hd0 hx hk hoff hofq e1 hu hf hn1 hX1 hd1 hx1 h1 hn2 hn12 hx2 hz
      go_enter Tryz.func80, Tryz.ntmps80
      go_wp2_with fail
      refine HK.out.1.mono ?_
      rintro e w2 ⟨rfl, hq, hn⟩
      have HQ := Lib.hid (show DskR w2 p (some gq) (g d.tick) ∧ FusR w2 (some gq) (some { x with left := wrap64 (x.left - 1) }) ∧ Near (p.all (some gq)) w w2 from
        ⟨hq, HK.out.2.2.1.near hn (by simp; exact HK.out.2.2.2.2), (HK.out.2.1.wider (fun x hx => by simp at hx; rcases hx with rfl | rfl <;> simp [Pl.all])).trans (hn.wider (fun x hx => by simp at hx; rcases hx with rfl | rfl <;> simp [Pl.all]))⟩)
      clear hq hn HK d3 q0 f0 d4 f4 hz2
      go_wp2
      go_ret
      exact ⟨rfl, HQ.out⟩
theorem callFl1 (args : Array Value) (w : World) : (callFunc 82 args).run Tryz.prog w = .ok (.enter 82 args) w := Tryz.call82 args w
set_option maxRecDepth 100000 in
theorem flush1_all (gp : Nat) (hp : Blk w gp 25 #[.pointer (some ⟨p.gd, 0, none⟩)]) (hd : DskR w p gf d) :
    Calls Tryz.prog 82 #[.pointer (some ⟨gp, 0, none⟩)] w fun e w' => e = .returned (.tuple #[]) ∧ DskR w' p gf d.safe ∧ Near [p.gl, p.gm] w w' := by
  have hX := hd.apart
  obtain ⟨es, c, hd, ho⟩ := hd
  have dp := hp.at_ 0 (v := .pointer (some ⟨p.gd, 0, none⟩)) rfl
  have d1 := hd.1.at_ 1 (v := .map (some p.gm)) rfl
  go_enter Tryz.func82, Tryz.ntmps82
  go_wp2_with (first
    | (refine wpList_clear_map (by rfl) _ _ _ (by rfl) Tryz.underlying97 p.gm es c hd.2.2 (by rfl) ?_; intro w2 hm2 hu2)
    | fail)
  have hn := Near.upd hu2 (List.mem_singleton.2 rfl)
  have HR := Lib.hid (show DskR w2 p gf d.safe ∧ Near [p.gl, p.gm] w w2 from ⟨⟨#[], c, ⟨hd.1.near hn (by simp; exact hX.2.1), hd.2.1.near hn (by simp; exact hX.2.2), hm2⟩, OldIs.nil c⟩, hn.wider (fun x hx => by simp at hx; simp [hx])⟩)
  clear hp hd hX dp d1 hm2 hu2 ho hn
  go_wp2
  refine bodyPost_end (v := .tuple #[]) (by simp [results]) rfl ⟨rfl, HR.out⟩
set_option maxRecDepth 100000 in
set_option maxHeartbeats 1000000 in
theorem flush_all (hd : DskR w p gf d) (hf : FusR w gf f) :
    Calls Tryz.prog 36 #[.pointer (some ⟨p.gd, 0, none⟩)] w fun e w' => e = .returned (.int .i64 (d.flush f).1) ∧ DskR w' p gf (d.flush f).2.1 ∧ FusR w' gf (d.flush f).2.2 ∧ Near (p.all gf) w w' := by
  have HH := Lib.hid (And.intro hd hf)
  have hlt := Lib.hid (And.intro hd.lt (fun g hg => hf.lt (g := g) hg))
  clear hd hf
  by_cases hq : d.isOut f = true
  all_goals
    first
      | rw [show d.flush f = (11, d, f) from if_pos hq]
      | rw [show d.flush f = chg d f Dsk.safe from if_neg hq]
    go_enter Tryz.func36, Tryz.ntmps36
    go_wp2_with fail
    have hp := Blk.new w 25 #[.pointer (some ⟨p.gd, 0, none⟩)]
    have hnr := Near.below (X := []) ((Below.refl w.heap.size w).alloc (Nat.le_refl _) (.cells #[.pointer (some ⟨p.gd, 0, none⟩)] 25))
    generalize w.alloc (.cells #[.pointer (some ⟨p.gd, 0, none⟩)] 25) = w3 at hp hnr ⊢
    have hX0 : ∀ g, g ∉ ([] : List Nat) := fun g h => by cases h
    have hd3 := HH.out.1.near hnr ⟨hX0 _, hX0 _, hX0 _⟩
    have hf3 := HH.out.2.near hnr (fun g _ => hX0 g)
    have HE := Lib.hid (And.intro hd3 (And.intro hf3 (And.intro hnr hp)))
    refine (ready_all hd3 hf3).mono ?_
    rintro e w4 ⟨rfl, hw⟩
    obtain rfl := hw.symm
    have dp := hp.at_ 0 (v := .pointer (some ⟨p.gd, 0, none⟩)) rfl
    clear hw hp hnr hd3 hf3
  · have HR := Lib.hid (show DskR w3 p gf d ∧ FusR w3 gf f ∧ Near (p.all gf) w w3 from ⟨HE.out.1, HE.out.2.1, HE.out.2.2.1.wider (fun x hx => by cases hx)⟩)
    rw [if_pos hq]
    clear HE hlt hq
    go_wp2
    go_ret
    exact ⟨rfl, HR.out⟩
  · rw [if_neg hq]
    clear hq
    go_wp2_with fail
    clear dp
    refine (change_all HE.out.1 HE.out.2.1 82 _ Dsk.safe callFl1 (fun w7 hd7 hn7 => ?_)).mono ?_
    · refine flush1_all w.heap.size (HE.out.2.2.2.near hn7 ?_) hd7
      have h := hlt.out
      simp
      exact ⟨by omega, fun e => by have := h.2 _ e; omega⟩
    · rintro e w8 ⟨rfl, h1, h2, h4⟩
      have HR := Lib.hid (And.intro h1 (And.intro h2 (show Near (p.all gf) w w8 from (HE.out.2.2.1.wider (fun x hx => by cases hx)).trans h4)))
      clear h1 h2 h4 hlt HE
      go_wp2
      go_ret
      exact ⟨rfl, HR.out⟩
end
end Go.Proofs.YtfoegmjpfkmggaaGreatDoor
