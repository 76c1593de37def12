/- What Write does to a disk, sector by sector. Conditions: the bytes can be read, are as many as the sectors, and lie apart from the disk's; the sectors are there. -/
import Derived.Test.YtmhfehhpfkjloaaM66
namespace Go.Proofs.Ytmhfehhpfkjloaa
open Go.RowKit
section
variable {gd gl gm N c : Nat} {L : List UInt8} {es : Array MapEntry} {out : Bool} {fz : Option Nat} {ops : Int}
theorem DiskB.near {w w' : World} {X : List Nat} (h : DiskB w gd gl gm N L es c out fz ops) (k : Near X w w') (hX : gd ∉ X ∧ gl ∉ X ∧ gm ∉ X) : DiskB w' gd gl gm N L es c out fz ops :=
  ⟨h.1.near k hX.1, h.2.1.near k hX.2.1, h.2.2.near k hX.2.2⟩
theorem sec_mid (w : World) (h : Blk w gl 113 (L.map u8v).toArray) (i : Nat) (_ : 256 * (i + 1) ≤ L.length) : w.rangeAt gl (256 * i) ((sec L i).map u8v) := Blk.range h (256 * i) _ fun j v hv => by
  rw [List.getElem?_toArray, List.getElem?_map]
  unfold sec at hv
  rw [List.getElem?_map, List.getElem?_take] at hv
  split at hv
  · rw [List.getElem?_drop] at hv; exact hv
  · simp at hv
theorem sec_mid' (w : World) (h : Blk w gl 113 (L.map u8v).toArray) (i : Nat) (hi : 256 * (i + 1) ≤ L.length) : w.rangeAt gl (i * 256) ((sec L i).map u8v) := by rw [Nat.mul_comm]; exact sec_mid w h i hi
theorem sec_length (i : Nat) (hi : 256 * (i + 1) ≤ L.length) : (sec L i).length = 256 := by unfold sec; rw [List.length_take, List.length_drop]; omega
theorem sizeSec : (Try.prog.info? 113).map (·.size) = some 256 := by kernel_rfl
theorem allocSec (w : World) : (zeroValue 113).run Try.prog w = .ok (.agg zeroSec) w := by
  have h : (Try.prog.info? 113).map (fun i => (i.zero, i.size)) = some (some (.agg zeroSec), 256) := by kernel_rfl
  exact (zero_of_info h).1 w
theorem zeroSec_list : zeroSec = ((List.replicate 256 (0 : UInt8)).map u8v).toArray := by
  rw [List.map_replicate]
  apply Array.ext_getElem?; intro i
  unfold zeroSec
  rw [arr_get, List.getElem?_toArray, List.getElem?_replicate]
  rfl
theorem sec_one (l : List UInt8) : (l.map u8v).toArray.all (·.oneCell') = true := u8_all l
/-- What the last round leaves. -/
def WrRel (w : World) (old : Nat → Option (List UInt8)) (gd gl gm N at_ n : Nat) (L b : List UInt8) (out : Bool) (fz : Option Nat) (ops : Int) (v : Value) (wr : World) : Prop :=
  ∃ (i : Nat) (es : Array MapEntry) (c : Nat), i ≤ n ∧ v = .int .i64 (i : Int) ∧ DiskB wr gd gl gm N (Go.wr L (256 * at_) (b.take (256 * i))) es c out fz ops ∧ OldIs es c (oldW old L at_ i) ∧ Near [gl, gm] w wr
set_option maxRecDepth 100000 in
set_option maxHeartbeats 4000000 in
theorem write1_any (gn gp ga gb n at_ cap : Nat) (A : Option Addr) (b : List UInt8) (w : World) (hn : Blk w gn 3 #[.int .i64 (n : Int)]) (hp : Blk w gp 27 #[.pointer (some ⟨gd, 0, none⟩)]) (ha : Blk w ga 3 #[.int .i64 (at_ : Int)]) (hb : Blk w gb 43 #[.slice A b.length cap])
    (hby : Bytes w A b) (hA : ∀ ad, A = some ad → ad.block ∉ [gl, gm]) (hbl : b.length = 256 * n) (hcap : b.length ≤ cap) (hat : at_ + n ≤ N) (hN : N ≤ 65536) (hL : L.length = N * 256)
    (hd : DiskB w gd gl gm N L es c out fz ops) {old : Nat → Option (List UInt8)} (hes : OldIs es c old) (hX : gn ∉ [gl, gm] ∧ gp ∉ [gl, gm] ∧ ga ∉ [gl, gm] ∧ gb ∉ [gl, gm] ∧ gd ∉ [gl, gm] ∧ gl ≠ gm) :
    Calls Try.prog 72 #[.pointer (some ⟨gn, 0, none⟩), .pointer (some ⟨gp, 0, none⟩), .pointer (some ⟨ga, 0, none⟩), .pointer (some ⟨gb, 0, none⟩)] w fun e w' => e = .returned (.tuple #[]) ∧
      ∃ es' c', DiskB w' gd gl gm N (Go.wr L (256 * at_) b) es' c' out fz ops ∧ OldIs es' c' (oldW old L at_ n) ∧ Near [gl, gm] w w' := by
  have HH := Lib.hid (And.intro hn (And.intro hp (And.intro ha (And.intro hb (And.intro hby hA)))))
  have HN := Lib.hid (And.intro hbl (And.intro hcap (And.intro hat (And.intro hN hL))))
  have HX := Lib.hid hX
  have hS : WrRel w old gd gl gm N at_ n L b out fz ops (.int .i64 0) w := ⟨0, es, c, Nat.zero_le _, rfl, by rw [Nat.mul_zero, List.take_zero, wr_nil]; exact hd, by rw [oldW_zero]; exact hes, Near.refl _ _⟩
  have dn := hn.at_ 0 (v := .int .i64 (n : Int)) rfl
  clear hn hp ha hb hby hA hbl hcap hat hN hL hd hes hX
  go_enter Try.func72, Try.ntmps72
  go_wp2_with fail
  go_loopw [8] (fun v wr => WrRel w old gd gl gm N at_ n L b out fz ops v wr) (fun v _ => n - (intOf v).toNat)
  case atStart => exact hS
  case round =>
    clear hS dn
    obtain ⟨i, es1, c1, hi, rfl, hd, ho, hnr⟩ := hrel
    have hk := ho.keys
    have hsv := ho.vals
    by_cases hlt : i < n
    case neg =>
      obtain rfl : i = n := by omega
      have HD := Lib.hid (show ∃ es' c', DiskB wr gd gl gm N (Go.wr L (256 * at_) b) es' c' out fz ops ∧ OldIs es' c' (oldW old L at_ i) ∧ Near [gl, gm] w wr from
        ⟨es1, c1, by rw [← HN.out.1, List.take_length] at hd; exact hd, ho, hnr⟩)
      clear hd ho hk hsv hnr
      go_wp2
      refine bodyPost_end (v := .tuple #[]) (by simp [results]) rfl ⟨rfl, HD.out⟩
    have hp1 := HH.out.2.1.near hnr HX.out.2.1
    have ha1 := HH.out.2.2.1.near hnr HX.out.2.2.1
    have hb1 := HH.out.2.2.2.1.near hnr HX.out.2.2.2.1
    have hby1 := Bytes.near HH.out.2.2.2.2.1 hnr HH.out.2.2.2.2.2
    have hai : at_ + i < 65536 := by have := HN.out; omega
    have hX0 : ∀ g, g ∉ ([] : List Nat) := fun g h => by cases h
    have aS := allocSec
    have HXM := Lib.hid (show gp ∉ [gm] ∧ ga ∉ [gm] ∧ gd ∉ [gm] ∧ gl ∉ [gm] ∧ gb ∉ [gm] by have h := HX.out; simp at h ⊢; omega)
    have HXL := Lib.hid (show gp ∉ [gl] ∧ ga ∉ [gl] ∧ gb ∉ [gl] ∧ gd ∉ [gl] ∧ gm ∉ [gl] by have h := HX.out; simp at h ⊢; omega)
    have hiN : at_ + i < N := by have := HN.out; omega
    have HR := Lib.hid (And.intro hk (And.intro hsv hnr))
    obtain ⟨lv, hlv, hgv⟩ := SecVals.get hsv ((at_ : Int) + i)
    rw [← zeroSec_list] at hgv
    have HLV := Lib.hid (And.intro hlv hgv)
    obtain ⟨q, hq⟩ : ∃ q, q = (mget es1 ((at_ : Int) + i)).isSome := ⟨_, rfl⟩
    have HQ := Lib.hid hq
    have HO := Lib.hid (And.intro ho (show q = (old (at_ + i)).isSome by rw [hq, show ((at_ : Int) + i) = ((at_ + i : Nat) : Int) by omega, ho.get, oldW_at]; cases old (at_ + i) <;> rfl))
    clear ho hk hsv hnr hlv hgv hq
    go_wp2_with fail
    refine wp_region_tree (Near [] wr) [] (PlanT.takes [5] (PlanT.takes [0, 4] (PlanT.takes [1, 2, 6] (PlanT.takes [3] (.opt 7 (PlanT.takes [8, 9, 10] (.opt 11 (.opt 12 (PlanT.takes [13] .done) .no) .no)) (.opt 11 (.opt 7 (PlanT.takes [8, 9, 10] (.opt 12 (PlanT.takes [13] .done) .no)) .no) .no)))))) (by kernel_rfl) (by kernel_rfl) ((Near.refl _ _).drew) ?_
    refine wpTree_pure _ _ _ (by rfl) (by rfl) ?_
    dsimp only [List.filterMap, List.getElem?_cons_zero, List.getElem?_cons_succ]
    repeat (go_big_quiet_step (fail))
    refine wpQuiet_nil ?_
    refine wpTree_takeL _ _ _ (by rfl) (by rfl) ((Near.refl _ _).drew) ?_
    dsimp only [List.filterMap, List.getElem?_cons_zero, List.getElem?_cons_succ]
    (refine wpQuiet_load_cell (fun w' hw' => (Blk.near hp1 hw' (hX0 _)).at_ 0 (v := .pointer (some ⟨gd, 0, none⟩)) rfl) (by rfl) _ _ (by rfl) (by rfl) _ Try.underlying27 (by rfl) ?_; simp only [Act.put, List.setIfInBounds_toArray, List.set_cons_zero, List.set_cons_succ])
    (refine wpQuiet_load_cell (fun w' hw' => (Blk.near ha1 hw' (hX0 _)).at_ 0 (v := .int .i64 (at_ : Int)) rfl) (by rfl) _ _ (by rfl) (by rfl) _ Try.underlying3 (by rfl) ?_; simp only [Act.put, List.setIfInBounds_toArray, List.set_cons_zero, List.set_cons_succ])
    refine wpQuiet_nil ?_
    refine wpTree_pure _ _ _ (by rfl) (by rfl) ?_
    dsimp only [List.filterMap, List.getElem?_cons_zero, List.getElem?_cons_succ]
    repeat (go_big_quiet_step (fail))
    refine wpQuiet_nil ?_
    refine wpTree_takeL _ _ _ (by rfl) (by rfl) ((Near.refl _ _).drew) ?_
    dsimp only [List.filterMap, List.getElem?_cons_zero, List.getElem?_cons_succ]
    (refine wpQuiet_load_cell (fun w' hw' => (Blk.near hd.1 hw' (hX0 _)).at_ 1 (v := .map (some gm)) rfl) (by rfl) _ _ (by rfl) (by rfl) _ Try.underlying29 (by rfl) ?_; simp only [Act.put, List.setIfInBounds_toArray, List.set_cons_zero, List.set_cons_succ])
    refine wpQuiet_nil ?_
    refine wpTree_opt _ rfl ?_ (wpTree_one _ rfl ?_)
    · refine wpList_lookup_int (by rfl) _ _ _ _ _ (by rfl) Try.underlying29 Try.underlying3 gm es1 c1 hd.2.2.drew HR.out.1 ((at_ : Int) + i) (.agg zeroSec) (allocSec _) (by rfl) (by rfl) ?_
      rw [HLV.out.2, ← HQ.out]
      go_wp2_with fail
      refine TreeQ.in_ (Near.refl _ _).drew ?_
      refine wpTree_pure _ _ _ (by rfl) (by rfl) ?_
      dsimp only [List.filterMap, List.getElem?_cons_zero, List.getElem?_cons_succ]
      repeat (go_big_quiet_step (fail))
      refine wpQuiet_nil ?_
      refine wpTree_one _ rfl ?_
      go_wp2_with fail
      have hz := ((Blk.new wr 113 zeroSec).sub zeroSec_list).drew
      have hC2 : Near [] wr (World.drew (World.alloc wr (.cells zeroSec 113))) := (Near.below ((Below.refl _ _).alloc (Nat.le_refl _) _)).drew
      generalize World.drew (World.alloc wr (.cells zeroSec 113)) = w4 at hz hC2 ⊢
      refine TreeQ.in_ hC2 ?_
      refine wpTree_one _ rfl ?_
      go_wp2_with (first
        | ((with_reducible show wpList _ _ _ ((⟨none, _, _, _, _, _⟩ : Oper) :: _) _ _); refine wpList_store_blk (o := ⟨none, _, _, _, _, _⟩) (hz) (by rfl) _ _ _ (by rfl) (by rfl) ((lv.map u8v).toArray) (by rfl) (sizeSec) (by simp) (by simp [HLV.out.1]) (sec_one _) ?_; intro w5 h5 hu5)
        | fail)
      have hC5 : Near [] wr w5 := hC2.new hu5 (Nat.le_refl _)
      refine TreeQ.in_ hC5 ?_
      refine wpTree_pure _ _ _ (by rfl) (by rfl) ?_
      dsimp only [List.filterMap, List.getElem?_cons_zero, List.getElem?_cons_succ]
      repeat (go_big_quiet_step (fail))
      refine wpQuiet_nil ?_
      refine wpTree_done ?_
      clear hz h5 hu5 hC2 aS
      have hnr5 : Near [gl, gm] w w5 := HR.out.2.2.trans (hC5.wider (fun x hx => by cases hx))
      replace hd := hd.near hC5 ⟨hX0 _, hX0 _, hX0 _⟩
      replace hp1 := hp1.near hC5 (hX0 _)
      replace ha1 := ha1.near hC5 (hX0 _)
      replace hb1 := hb1.near hC5 (hX0 _)
      replace hby1 := Bytes.near hby1 hC5 (fun ad _ => hX0 _)
      have HK := Lib.hid (And.intro HR.out.1 (And.intro HR.out.2.1 hnr5))
      clear HR hC5 hnr5 HQ
      cases q
      · have hC5m := (Near.refl [gm] w5).drew
        have hLl : (Go.wr L (256 * at_) (b.take (256 * i))).length = N * 256 := by rw [wr_length (by rw [List.length_take]; have := HN.out; omega)]; exact HN.out.2.2.2.2
        obtain ⟨L1, hL1⟩ : ∃ L1, L1 = Go.wr L (256 * at_) (b.take (256 * i)) := ⟨_, rfl⟩
        rw [← hL1] at hd hLl
        have HL1 := Lib.hid (And.intro hL1 hLl)
        clear hL1 hLl
        go_wp2_with fail
        refine wp_region_tree (Near [gm] w5) [] (PlanT.takes [5, 12] (PlanT.takes [0, 4, 7, 11] (PlanT.takes [1, 2, 6, 8, 9, 13] (PlanT.takes [3, 10] (PlanT.takes [14] (PlanT.takes [15] (.opt 16 .done .no))))))) (by kernel_rfl) (by kernel_rfl) (hC5m) ?_
        refine wpTree_pure _ _ _ (by rfl) (by rfl) ?_
        dsimp only [List.filterMap, List.getElem?_cons_zero, List.getElem?_cons_succ]
        repeat (go_big_quiet_step (fail))
        refine wpQuiet_nil ?_
        refine wpTree_takeL _ _ _ (by rfl) (by rfl) (hC5m) ?_
        dsimp only [List.filterMap, List.getElem?_cons_zero, List.getElem?_cons_succ]
        (refine wpQuiet_load_cell (fun w' hw' => (Blk.near hp1 hw' (HXM.out.1)).at_ 0 (v := .pointer (some ⟨gd, 0, none⟩)) rfl) (by rfl) _ _ (by rfl) (by rfl) _ Try.underlying27 (by rfl) ?_; simp only [Act.put, List.setIfInBounds_toArray, List.set_cons_zero, List.set_cons_succ])
        (refine wpQuiet_load_cell (fun w' hw' => (Blk.near ha1 hw' (HXM.out.2.1)).at_ 0 (v := .int .i64 (at_ : Int)) rfl) (by rfl) _ _ (by rfl) (by rfl) _ Try.underlying3 (by rfl) ?_; simp only [Act.put, List.setIfInBounds_toArray, List.set_cons_zero, List.set_cons_succ])
        (refine wpQuiet_load_cell (fun w' hw' => (Blk.near hp1 hw' (HXM.out.1)).at_ 0 (v := .pointer (some ⟨gd, 0, none⟩)) rfl) (by rfl) _ _ (by rfl) (by rfl) _ Try.underlying27 (by rfl) ?_; simp only [Act.put, List.setIfInBounds_toArray, List.set_cons_zero, List.set_cons_succ])
        (refine wpQuiet_load_cell (fun w' hw' => (Blk.near ha1 hw' (HXM.out.2.1)).at_ 0 (v := .int .i64 (at_ : Int)) rfl) (by rfl) _ _ (by rfl) (by rfl) _ Try.underlying3 (by rfl) ?_; simp only [Act.put, List.setIfInBounds_toArray, List.set_cons_zero, List.set_cons_succ])
        refine wpQuiet_nil ?_
        refine wpTree_pure _ _ _ (by rfl) (by rfl) ?_
        dsimp only [List.filterMap, List.getElem?_cons_zero, List.getElem?_cons_succ]
        repeat (go_big_quiet_step (fail))
        refine wpQuiet_nil ?_
        refine wpTree_takeL _ _ _ (by rfl) (by rfl) (hC5m) ?_
        dsimp only [List.filterMap, List.getElem?_cons_zero, List.getElem?_cons_succ]
        (refine wpQuiet_load_cell (fun w' hw' => (Blk.near hd.1 hw' (HXM.out.2.2.1)).at_ 1 (v := .map (some gm)) rfl) (by rfl) _ _ (by rfl) (by rfl) _ Try.underlying29 (by rfl) ?_; simp only [Act.put, List.setIfInBounds_toArray, List.set_cons_zero, List.set_cons_succ])
        (refine wpQuiet_load_cell (fun w' hw' => (Blk.near hd.1 hw' (HXM.out.2.2.1)).at_ 0 (v := .slice (some ⟨gl, 0, none⟩) N N) rfl) (by rfl) _ _ (by rfl) (by rfl) _ Try.underlying28 (by rfl) ?_; simp only [Act.put, List.setIfInBounds_toArray, List.set_cons_zero, List.set_cons_succ])
        refine wpQuiet_nil ?_
        refine wpTree_pure _ _ _ (by rfl) (by rfl) ?_
        dsimp only [List.filterMap, List.getElem?_cons_zero, List.getElem?_cons_succ]
        repeat (go_big_quiet_step (fail))
        refine wpQuiet_nil ?_
        refine wpTree_takeL _ _ _ (by rfl) (by rfl) (hC5m) ?_
        dsimp only [List.filterMap, List.getElem?_cons_zero, List.getElem?_cons_succ]
        (refine wpQuiet_load_mid (fun w' hw' => sec_mid' w' (hd.2.1.near hw' HXM.out.2.2.2.1) (at_ + i) (by rw [HL1.out.2]; omega)) (by rfl) _ _ (by rfl) (by rfl) _ Try.underlying113 (by rfl) (sizeSec) (by rw [List.length_map, sec_length _ (by rw [HL1.out.2]; omega)]) ?_; simp only [Act.put, List.setIfInBounds_toArray, List.set_cons_zero, List.set_cons_succ])
        refine wpQuiet_nil ?_
        refine wpTree_one _ rfl ?_
        refine wpList_mapUpdate_int (by rfl) _ _ _ _ _ _ (by rfl) Try.underlying29 Try.underlying3 gm es1 c1 hd.2.2.drew HK.out.1 ((at_ : Int) + i) (.agg ((sec L1 (at_ + i)).map u8v).toArray) (by rfl) (by rfl) (by rfl) ?_
        intro w6 hm6 hu6
        have hC6 : Near [gm] w5 w6 := hC5m.trans (Near.upd hu6 (List.mem_singleton.2 rfl))
        go_wp2_with fail
        refine TreeQ.in_ hC6 ?_
        refine wpTree_done ?_
        have hsl : (sec L1 (at_ + i)).length = 256 := sec_length _ (by rw [HL1.out.2]; omega)
        have hik : IntKeys (mput es1 c1 ((at_ : Int) + i) (.agg ((sec L1 (at_ + i)).map u8v).toArray)).1.toList := HK.out.1.put
        have hsv : SecVals (mput es1 c1 ((at_ : Int) + i) (.agg ((sec L1 (at_ + i)).map u8v).toArray)).1.toList := HK.out.2.1.put hsl
        have ho2 : OldIs (mput es1 c1 ((at_ : Int) + i) (.agg ((sec L1 (at_ + i)).map u8v).toArray)).1 (mput es1 c1 ((at_ : Int) + i) (.agg ((sec L1 (at_ + i)).map u8v).toArray)).2 (oldW old L at_ (i + 1)) := by
          have hn0 : old (at_ + i) = none := by have h := HO.out.2; cases hx : old (at_ + i) with
            | none => rfl
            | some l => rw [hx] at h; cases h
          have h1 := HO.out.1.put (k := at_ + i) (l := sec L1 (at_ + i)) (by rw [oldW_at]; exact hn0) hsl
          have e1 : sec L1 (at_ + i) = sec L (at_ + i) := by rw [HL1.out.1]; exact sec_wr_behind (by have := HN.out; omega) (by have := HN.out; omega)
          rw [show ((at_ + i : Nat) : Int) = (at_ : Int) + i by omega] at h1
          rw [← oldW_new hn0, ← e1]; exact h1
        replace hd : DiskB w6 gd gl gm N L1 _ _ out fz ops := ⟨hd.1.near hC6 HXM.out.2.2.1, hd.2.1.near hC6 HXM.out.2.2.2.1, hm6⟩
        generalize (mput es1 c1 ((at_ : Int) + i) (.agg ((sec L1 (at_ + i)).map u8v).toArray)).1 = es2 at hd hik hsv ho2
        generalize (mput es1 c1 ((at_ : Int) + i) (.agg ((sec L1 (at_ + i)).map u8v).toArray)).2 = c2 at hd ho2
        rw [HL1.out.1] at hd
        have hk2 := And.intro hik (And.intro ho2 (HK.out.2.2.trans (hC6.wider (fun x hx => by simp at hx; simp [hx]))))
        replace hp1 := hp1.near hC6 HXM.out.1
        replace ha1 := ha1.near hC6 HXM.out.2.1
        replace hb1 := hb1.near hC6 HXM.out.2.2.2.2
        replace hby1 := Bytes.near hby1 hC6 (fun ad e => by have h := HH.out.2.2.2.2.2 ad e; simp at h ⊢; exact h.2)
        have HK2 := Lib.hid hk2
        clear hC6 hm6 hu6 hsl hik hsv ho2 hk2 hC5m HK HL1 HO
        have hC7 := (Near.refl [gl] w6).drew
        have hsb : (sec b i).length = 256 := sec_length _ (by have := HN.out; omega)
        obtain ⟨bb, boff, hAe, hbl0, -⟩ := hby1.at_ (by have := HN.out; omega)
        have hcn : ¬ cap = i * 256 := by have := HN.out; omega
        have hc2 : (i + 1) * 256 ≤ cap := by have := HN.out; omega
        have hc3 : i * 256 ≤ cap := by omega
        have hbm : Bytes w6 (some ⟨bb, boff + i * 256, none⟩) (sec b i) := by
          have h := hby1.drop (k := i * 256) (cap := cap) (.inl (by omega))
          rw [if_neg hcn, hAe] at h
          have h2 := h.take 256
          rw [Nat.mul_comm i 256] at h2
          unfold sec
          rw [Nat.mul_comm i 256]
          simpa [Addr.add_lit] using h2
        have hbbl : bb ∉ [gl] := by have h := HH.out.2.2.2.2.2 _ hAe; simp at h ⊢; exact h.1
        subst hAe
        have HSB := Lib.hid (And.intro hsb (And.intro hbm hbbl))
        clear hsb hbm hbbl hbl0
        go_wp2_with fail
        refine wp_region_tree (Near [gl] w6) [] (PlanT.takes [5, 8, 9, 10, 11, 12] (PlanT.takes [0, 4, 7] (PlanT.takes [1, 2, 6, 13, 14] (PlanT.takes [3, 15] (PlanT.takes [16] (.opt 17 .done .no)))))) (by kernel_rfl) (by kernel_rfl) (hC7) ?_
        refine wpTree_pure _ _ _ (by rfl) (by rfl) ?_
        dsimp only [List.filterMap, List.getElem?_cons_zero, List.getElem?_cons_succ]
        repeat (go_big_quiet_step (fail))
        refine wpQuiet_nil ?_
        refine wpTree_takeL _ _ _ (by rfl) (by rfl) (hC7) ?_
        dsimp only [List.filterMap, List.getElem?_cons_zero, List.getElem?_cons_succ]
        (refine wpQuiet_load_cell (fun w' hw' => (Blk.near hp1 hw' (HXL.out.1)).at_ 0 (v := .pointer (some ⟨gd, 0, none⟩)) rfl) (by rfl) _ _ (by rfl) (by rfl) _ Try.underlying27 (by rfl) ?_; simp only [Act.put, List.setIfInBounds_toArray, List.set_cons_zero, List.set_cons_succ])
        (refine wpQuiet_load_cell (fun w' hw' => (Blk.near ha1 hw' (HXL.out.2.1)).at_ 0 (v := .int .i64 (at_ : Int)) rfl) (by rfl) _ _ (by rfl) (by rfl) _ Try.underlying3 (by rfl) ?_; simp only [Act.put, List.setIfInBounds_toArray, List.set_cons_zero, List.set_cons_succ])
        (refine wpQuiet_load_cell (fun w' hw' => (Blk.near hb1 hw' (HXL.out.2.2.1)).at_ 0 (v := .slice (some ⟨bb, boff, none⟩) b.length cap) rfl) (by rfl) _ _ (by rfl) (by rfl) _ Try.underlying43 (by rfl) ?_; simp only [Act.put, List.setIfInBounds_toArray, List.set_cons_zero, List.set_cons_succ])
        refine wpQuiet_nil ?_
        refine wpTree_pure _ _ _ (by rfl) (by rfl) ?_
        dsimp only [List.filterMap, List.getElem?_cons_zero, List.getElem?_cons_succ]
        repeat (go_big_quiet_step (fail))
        refine wpQuiet_array (by rfl) _ _ (by rfl) 256 _ Try.underlying113 (some ⟨bb, boff + i * 256, none⟩) ((i + 1) * 256 - i * 256) (cap - i * 256) (by rfl) (by omega) ?_
        simp only [Act.put, List.setIfInBounds_toArray, List.set_cons_zero, List.set_cons_succ]
        refine wpQuiet_nil ?_
        refine wpTree_takeL _ _ _ (by rfl) (by rfl) (hC7) ?_
        dsimp only [List.filterMap, List.getElem?_cons_zero, List.getElem?_cons_succ]
        (refine wpQuiet_load_cell (fun w' hw' => (Blk.near hd.1 hw' (HXL.out.2.2.2.1)).at_ 0 (v := .slice (some ⟨gl, 0, none⟩) N N) rfl) (by rfl) _ _ (by rfl) (by rfl) _ Try.underlying28 (by rfl) ?_; simp only [Act.put, List.setIfInBounds_toArray, List.set_cons_zero, List.set_cons_succ])
        (refine wpQuiet_load_mid (fun w' hw' => Bytes.range (Bytes.near HSB.out.2.1 hw' (fun ad e => by cases e; exact HSB.out.2.2))) (by rfl) _ _ (by rfl) (by rfl) _ Try.underlying113 (by rfl) (sizeSec) (by rw [List.length_map, HSB.out.1]) ?_; simp only [Act.put, List.setIfInBounds_toArray, List.set_cons_zero, List.set_cons_succ])
        refine wpQuiet_nil ?_
        refine wpTree_pure _ _ _ (by rfl) (by rfl) ?_
        dsimp only [List.filterMap, List.getElem?_cons_zero, List.getElem?_cons_succ]
        repeat (go_big_quiet_step (fail))
        refine wpQuiet_nil ?_
        have hlw : (Go.wr L (256 * at_) (b.take (256 * i))).length = N * 256 := by rw [wr_length (by rw [List.length_take]; have := HN.out; omega)]; exact HN.out.2.2.2.2
        have hlt2 : (b.take (256 * i)).length = 256 * i := by rw [List.length_take]; have := HN.out; omega
        refine wpTree_one _ rfl ?_
        refine wpList_store_in hd.2.1.drew (by rfl) _ _ _ (by rfl) ((at_ + i) * 256) (by rfl) ((sec b i).map u8v).toArray (by rfl) sizeSec (by rw [List.size_toArray, List.length_map, HSB.out.1]) (by rw [List.size_toArray, List.length_map, hlw]; omega) (sec_one _) ?_
        intro w8 h8 hu8
        have hC8 : Near [gl] w6 w8 := hC7.trans (Near.upd hu8 (List.mem_singleton.2 rfl))
        have e8 : setAll ((Go.wr L (256 * at_) (b.take (256 * i))).map u8v).toArray ((at_ + i) * 256) ((sec b i).map u8v).toArray.toList = ((Go.wr L (256 * at_) (b.take (256 * (i + 1)))).map u8v).toArray := by
          rw [List.toList_toArray, setAll_wr _ _ _ (by rw [hlw, HSB.out.1]; omega)]
          have e1 : (at_ + i) * 256 = 256 * at_ + (b.take (256 * i)).length := by rw [hlt2]; omega
          rw [e1, wr_wr (by rw [hlt2, HSB.out.1]; have := HN.out; omega)]
          have e2 : b.take (256 * i) ++ sec b i = b.take (256 * (i + 1)) := by unfold sec; rw [Nat.mul_add, Nat.mul_one, List.take_add]
          rw [e2]
        rw [e8] at h8
        replace hd : DiskB w8 gd gl gm N _ _ _ out fz ops := ⟨hd.1.near hC8 HXL.out.2.2.2.1, h8, hd.2.2.near hC8 HXL.out.2.2.2.2⟩
        have HF := Lib.hid (show WrRel w old gd gl gm N at_ n L b out fz ops (.int .i64 ((i + 1 : Nat) : Int)) w8 from
          ⟨i + 1, es2, c2, by omega, rfl, hd, HK2.out.2.1, HK2.out.2.2.trans (hC8.wider (fun x hx => by simp at hx; simp [hx]))⟩)
        go_wp2_with fail
        refine TreeQ.in_ hC8 ?_
        refine wpTree_done ?_
        clear hd e8 h8 hu8 hC8 hp1 ha1 hb1 hby1 HSB HK2
        go_wp2
        go_roundw
        case rel => exact HF.out
        case measure => simp [intOf]; omega
      · have ho2 : OldIs es1 c1 (oldW old L at_ (i + 1)) := by
          have h := HO.out.2
          cases hx : old (at_ + i) with
          | none => rw [hx] at h; cases h
          | some l => rw [oldW_has hx]; exact HO.out.1
        have HK2 := Lib.hid (And.intro HK.out.1 (And.intro ho2 HK.out.2.2))
        clear HK HO ho2
        have hC7 := (Near.refl [gl] w5).drew
        have hsb : (sec b i).length = 256 := sec_length _ (by have := HN.out; omega)
        obtain ⟨bb, boff, hAe, hbl0, -⟩ := hby1.at_ (by have := HN.out; omega)
        have hcn : ¬ cap = i * 256 := by have := HN.out; omega
        have hc2 : (i + 1) * 256 ≤ cap := by have := HN.out; omega
        have hc3 : i * 256 ≤ cap := by omega
        have hbm : Bytes w5 (some ⟨bb, boff + i * 256, none⟩) (sec b i) := by
          have h := hby1.drop (k := i * 256) (cap := cap) (.inl (by omega))
          rw [if_neg hcn, hAe] at h
          have h2 := h.take 256
          rw [Nat.mul_comm i 256] at h2
          unfold sec
          rw [Nat.mul_comm i 256]
          simpa [Addr.add_lit] using h2
        have hbbl : bb ∉ [gl] := by have h := HH.out.2.2.2.2.2 _ hAe; simp at h ⊢; exact h.1
        subst hAe
        have HSB := Lib.hid (And.intro hsb (And.intro hbm hbbl))
        clear hsb hbm hbbl hbl0
        go_wp2_with fail
        refine wp_region_tree (Near [gl] w5) [] (PlanT.takes [5, 8, 9, 10, 11, 12] (PlanT.takes [0, 4, 7] (PlanT.takes [1, 2, 6, 13, 14] (PlanT.takes [3, 15] (PlanT.takes [16] (.opt 17 .done .no)))))) (by kernel_rfl) (by kernel_rfl) (hC7) ?_
        refine wpTree_pure _ _ _ (by rfl) (by rfl) ?_
        dsimp only [List.filterMap, List.getElem?_cons_zero, List.getElem?_cons_succ]
        repeat (go_big_quiet_step (fail))
        refine wpQuiet_nil ?_
        refine wpTree_takeL _ _ _ (by rfl) (by rfl) (hC7) ?_
        dsimp only [List.filterMap, List.getElem?_cons_zero, List.getElem?_cons_succ]
        (refine wpQuiet_load_cell (fun w' hw' => (Blk.near hp1 hw' (HXL.out.1)).at_ 0 (v := .pointer (some ⟨gd, 0, none⟩)) rfl) (by rfl) _ _ (by rfl) (by rfl) _ Try.underlying27 (by rfl) ?_; simp only [Act.put, List.setIfInBounds_toArray, List.set_cons_zero, List.set_cons_succ])
        (refine wpQuiet_load_cell (fun w' hw' => (Blk.near ha1 hw' (HXL.out.2.1)).at_ 0 (v := .int .i64 (at_ : Int)) rfl) (by rfl) _ _ (by rfl) (by rfl) _ Try.underlying3 (by rfl) ?_; simp only [Act.put, List.setIfInBounds_toArray, List.set_cons_zero, List.set_cons_succ])
        (refine wpQuiet_load_cell (fun w' hw' => (Blk.near hb1 hw' (HXL.out.2.2.1)).at_ 0 (v := .slice (some ⟨bb, boff, none⟩) b.length cap) rfl) (by rfl) _ _ (by rfl) (by rfl) _ Try.underlying43 (by rfl) ?_; simp only [Act.put, List.setIfInBounds_toArray, List.set_cons_zero, List.set_cons_succ])
        refine wpQuiet_nil ?_
        refine wpTree_pure _ _ _ (by rfl) (by rfl) ?_
        dsimp only [List.filterMap, List.getElem?_cons_zero, List.getElem?_cons_succ]
        repeat (go_big_quiet_step (fail))
        refine wpQuiet_array (by rfl) _ _ (by rfl) 256 _ Try.underlying113 (some ⟨bb, boff + i * 256, none⟩) ((i + 1) * 256 - i * 256) (cap - i * 256) (by rfl) (by omega) ?_
        simp only [Act.put, List.setIfInBounds_toArray, List.set_cons_zero, List.set_cons_succ]
        refine wpQuiet_nil ?_
        refine wpTree_takeL _ _ _ (by rfl) (by rfl) (hC7) ?_
        dsimp only [List.filterMap, List.getElem?_cons_zero, List.getElem?_cons_succ]
        (refine wpQuiet_load_cell (fun w' hw' => (Blk.near hd.1 hw' (HXL.out.2.2.2.1)).at_ 0 (v := .slice (some ⟨gl, 0, none⟩) N N) rfl) (by rfl) _ _ (by rfl) (by rfl) _ Try.underlying28 (by rfl) ?_; simp only [Act.put, List.setIfInBounds_toArray, List.set_cons_zero, List.set_cons_succ])
        (refine wpQuiet_load_mid (fun w' hw' => Bytes.range (Bytes.near HSB.out.2.1 hw' (fun ad e => by cases e; exact HSB.out.2.2))) (by rfl) _ _ (by rfl) (by rfl) _ Try.underlying113 (by rfl) (sizeSec) (by rw [List.length_map, HSB.out.1]) ?_; simp only [Act.put, List.setIfInBounds_toArray, List.set_cons_zero, List.set_cons_succ])
        refine wpQuiet_nil ?_
        refine wpTree_pure _ _ _ (by rfl) (by rfl) ?_
        dsimp only [List.filterMap, List.getElem?_cons_zero, List.getElem?_cons_succ]
        repeat (go_big_quiet_step (fail))
        refine wpQuiet_nil ?_
        have hlw : (Go.wr L (256 * at_) (b.take (256 * i))).length = N * 256 := by rw [wr_length (by rw [List.length_take]; have := HN.out; omega)]; exact HN.out.2.2.2.2
        have hlt2 : (b.take (256 * i)).length = 256 * i := by rw [List.length_take]; have := HN.out; omega
        refine wpTree_one _ rfl ?_
        refine wpList_store_in hd.2.1.drew (by rfl) _ _ _ (by rfl) ((at_ + i) * 256) (by rfl) ((sec b i).map u8v).toArray (by rfl) sizeSec (by rw [List.size_toArray, List.length_map, HSB.out.1]) (by rw [List.size_toArray, List.length_map, hlw]; omega) (sec_one _) ?_
        intro w8 h8 hu8
        have hC8 : Near [gl] w5 w8 := hC7.trans (Near.upd hu8 (List.mem_singleton.2 rfl))
        have e8 : setAll ((Go.wr L (256 * at_) (b.take (256 * i))).map u8v).toArray ((at_ + i) * 256) ((sec b i).map u8v).toArray.toList = ((Go.wr L (256 * at_) (b.take (256 * (i + 1)))).map u8v).toArray := by
          rw [List.toList_toArray, setAll_wr _ _ _ (by rw [hlw, HSB.out.1]; omega)]
          have e1 : (at_ + i) * 256 = 256 * at_ + (b.take (256 * i)).length := by rw [hlt2]; omega
          rw [e1, wr_wr (by rw [hlt2, HSB.out.1]; have := HN.out; omega)]
          have e2 : b.take (256 * i) ++ sec b i = b.take (256 * (i + 1)) := by unfold sec; rw [Nat.mul_add, Nat.mul_one, List.take_add]
          rw [e2]
        rw [e8] at h8
        replace hd : DiskB w8 gd gl gm N _ _ _ out fz ops := ⟨hd.1.near hC8 HXL.out.2.2.2.1, h8, hd.2.2.near hC8 HXL.out.2.2.2.2⟩
        have HF := Lib.hid (show WrRel w old gd gl gm N at_ n L b out fz ops (.int .i64 ((i + 1 : Nat) : Int)) w8 from
          ⟨i + 1, es1, c1, by omega, rfl, hd, HK2.out.2.1, HK2.out.2.2.trans (hC8.wider (fun x hx => by simp at hx; simp [hx]))⟩)
        go_wp2_with fail
        refine TreeQ.in_ hC8 ?_
        refine wpTree_done ?_
        clear hd e8 h8 hu8 hC8 hp1 ha1 hb1 hby1 HSB HK2
        go_wp2
        go_roundw
        case rel => exact HF.out
        case measure => simp [intOf]; omega
    · go_wp2_with fail
      have hz := ((Blk.new wr 113 zeroSec).sub zeroSec_list).drew
      have hC2 : Near [] wr (World.drew (World.alloc wr (.cells zeroSec 113))) := (Near.below ((Below.refl _ _).alloc (Nat.le_refl _) _)).drew
      generalize World.drew (World.alloc wr (.cells zeroSec 113)) = w4 at hz hC2 ⊢
      refine TreeQ.in_ hC2 ?_
      refine wpTree_one _ rfl ?_
      refine wpList_lookup_int (by rfl) _ _ _ _ _ (by rfl) Try.underlying29 Try.underlying3 gm es1 c1 (hd.near hC2 ⟨hX0 _, hX0 _, hX0 _⟩).2.2 HR.out.1 ((at_ : Int) + i) (.agg zeroSec) (allocSec _) (by rfl) (by rfl) ?_
      rw [HLV.out.2, ← HQ.out]
      go_wp2_with fail
      refine TreeQ.in_ hC2 ?_
      refine wpTree_pure _ _ _ (by rfl) (by rfl) ?_
      dsimp only [List.filterMap, List.getElem?_cons_zero, List.getElem?_cons_succ]
      repeat (go_big_quiet_step (fail))
      refine wpQuiet_nil ?_
      refine wpTree_one _ rfl ?_
      go_wp2_with (first
        | ((with_reducible show wpList _ _ _ ((⟨none, _, _, _, _, _⟩ : Oper) :: _) _ _); refine wpList_store_blk (o := ⟨none, _, _, _, _, _⟩) (hz) (by rfl) _ _ _ (by rfl) (by rfl) ((lv.map u8v).toArray) (by rfl) (sizeSec) (by simp) (by simp [HLV.out.1]) (sec_one _) ?_; intro w5 h5 hu5)
        | fail)
      have hC5 : Near [] wr w5 := hC2.new hu5 (Nat.le_refl _)
      refine TreeQ.in_ hC5 ?_
      refine wpTree_pure _ _ _ (by rfl) (by rfl) ?_
      dsimp only [List.filterMap, List.getElem?_cons_zero, List.getElem?_cons_succ]
      repeat (go_big_quiet_step (fail))
      refine wpQuiet_nil ?_
      refine wpTree_done ?_
      clear hz h5 hu5 hC2 aS
      have hnr5 : Near [gl, gm] w w5 := HR.out.2.2.trans (hC5.wider (fun x hx => by cases hx))
      replace hd := hd.near hC5 ⟨hX0 _, hX0 _, hX0 _⟩
      replace hp1 := hp1.near hC5 (hX0 _)
      replace ha1 := ha1.near hC5 (hX0 _)
      replace hb1 := hb1.near hC5 (hX0 _)
      replace hby1 := Bytes.near hby1 hC5 (fun ad _ => hX0 _)
      have HK := Lib.hid (And.intro HR.out.1 (And.intro HR.out.2.1 hnr5))
      clear HR hC5 hnr5 HQ
      cases q
      · have hC5m := (Near.refl [gm] w5).drew
        have hLl : (Go.wr L (256 * at_) (b.take (256 * i))).length = N * 256 := by rw [wr_length (by rw [List.length_take]; have := HN.out; omega)]; exact HN.out.2.2.2.2
        obtain ⟨L1, hL1⟩ : ∃ L1, L1 = Go.wr L (256 * at_) (b.take (256 * i)) := ⟨_, rfl⟩
        rw [← hL1] at hd hLl
        have HL1 := Lib.hid (And.intro hL1 hLl)
        clear hL1 hLl
        go_wp2_with fail
        refine wp_region_tree (Near [gm] w5) [] (PlanT.takes [5, 12] (PlanT.takes [0, 4, 7, 11] (PlanT.takes [1, 2, 6, 8, 9, 13] (PlanT.takes [3, 10] (PlanT.takes [14] (PlanT.takes [15] (.opt 16 .done .no))))))) (by kernel_rfl) (by kernel_rfl) (hC5m) ?_
        refine wpTree_pure _ _ _ (by rfl) (by rfl) ?_
        dsimp only [List.filterMap, List.getElem?_cons_zero, List.getElem?_cons_succ]
        repeat (go_big_quiet_step (fail))
        refine wpQuiet_nil ?_
        refine wpTree_takeL _ _ _ (by rfl) (by rfl) (hC5m) ?_
        dsimp only [List.filterMap, List.getElem?_cons_zero, List.getElem?_cons_succ]
        (refine wpQuiet_load_cell (fun w' hw' => (Blk.near hp1 hw' (HXM.out.1)).at_ 0 (v := .pointer (some ⟨gd, 0, none⟩)) rfl) (by rfl) _ _ (by rfl) (by rfl) _ Try.underlying27 (by rfl) ?_; simp only [Act.put, List.setIfInBounds_toArray, List.set_cons_zero, List.set_cons_succ])
        (refine wpQuiet_load_cell (fun w' hw' => (Blk.near ha1 hw' (HXM.out.2.1)).at_ 0 (v := .int .i64 (at_ : Int)) rfl) (by rfl) _ _ (by rfl) (by rfl) _ Try.underlying3 (by rfl) ?_; simp only [Act.put, List.setIfInBounds_toArray, List.set_cons_zero, List.set_cons_succ])
        (refine wpQuiet_load_cell (fun w' hw' => (Blk.near hp1 hw' (HXM.out.1)).at_ 0 (v := .pointer (some ⟨gd, 0, none⟩)) rfl) (by rfl) _ _ (by rfl) (by rfl) _ Try.underlying27 (by rfl) ?_; simp only [Act.put, List.setIfInBounds_toArray, List.set_cons_zero, List.set_cons_succ])
        (refine wpQuiet_load_cell (fun w' hw' => (Blk.near ha1 hw' (HXM.out.2.1)).at_ 0 (v := .int .i64 (at_ : Int)) rfl) (by rfl) _ _ (by rfl) (by rfl) _ Try.underlying3 (by rfl) ?_; simp only [Act.put, List.setIfInBounds_toArray, List.set_cons_zero, List.set_cons_succ])
        refine wpQuiet_nil ?_
        refine wpTree_pure _ _ _ (by rfl) (by rfl) ?_
        dsimp only [List.filterMap, List.getElem?_cons_zero, List.getElem?_cons_succ]
        repeat (go_big_quiet_step (fail))
        refine wpQuiet_nil ?_
        refine wpTree_takeL _ _ _ (by rfl) (by rfl) (hC5m) ?_
        dsimp only [List.filterMap, List.getElem?_cons_zero, List.getElem?_cons_succ]
        (refine wpQuiet_load_cell (fun w' hw' => (Blk.near hd.1 hw' (HXM.out.2.2.1)).at_ 1 (v := .map (some gm)) rfl) (by rfl) _ _ (by rfl) (by rfl) _ Try.underlying29 (by rfl) ?_; simp only [Act.put, List.setIfInBounds_toArray, List.set_cons_zero, List.set_cons_succ])
        (refine wpQuiet_load_cell (fun w' hw' => (Blk.near hd.1 hw' (HXM.out.2.2.1)).at_ 0 (v := .slice (some ⟨gl, 0, none⟩) N N) rfl) (by rfl) _ _ (by rfl) (by rfl) _ Try.underlying28 (by rfl) ?_; simp only [Act.put, List.setIfInBounds_toArray, List.set_cons_zero, List.set_cons_succ])
        refine wpQuiet_nil ?_
        refine wpTree_pure _ _ _ (by rfl) (by rfl) ?_
        dsimp only [List.filterMap, List.getElem?_cons_zero, List.getElem?_cons_succ]
        repeat (go_big_quiet_step (fail))
        refine wpQuiet_nil ?_
        refine wpTree_takeL _ _ _ (by rfl) (by rfl) (hC5m) ?_
        dsimp only [List.filterMap, List.getElem?_cons_zero, List.getElem?_cons_succ]
        (refine wpQuiet_load_mid (fun w' hw' => sec_mid' w' (hd.2.1.near hw' HXM.out.2.2.2.1) (at_ + i) (by rw [HL1.out.2]; omega)) (by rfl) _ _ (by rfl) (by rfl) _ Try.underlying113 (by rfl) (sizeSec) (by rw [List.length_map, sec_length _ (by rw [HL1.out.2]; omega)]) ?_; simp only [Act.put, List.setIfInBounds_toArray, List.set_cons_zero, List.set_cons_succ])
        refine wpQuiet_nil ?_
        refine wpTree_one _ rfl ?_
        refine wpList_mapUpdate_int (by rfl) _ _ _ _ _ _ (by rfl) Try.underlying29 Try.underlying3 gm es1 c1 hd.2.2.drew HK.out.1 ((at_ : Int) + i) (.agg ((sec L1 (at_ + i)).map u8v).toArray) (by rfl) (by rfl) (by rfl) ?_
        intro w6 hm6 hu6
        have hC6 : Near [gm] w5 w6 := hC5m.trans (Near.upd hu6 (List.mem_singleton.2 rfl))
        go_wp2_with fail
        refine TreeQ.in_ hC6 ?_
        refine wpTree_done ?_
        have hsl : (sec L1 (at_ + i)).length = 256 := sec_length _ (by rw [HL1.out.2]; omega)
        have hik : IntKeys (mput es1 c1 ((at_ : Int) + i) (.agg ((sec L1 (at_ + i)).map u8v).toArray)).1.toList := HK.out.1.put
        have hsv : SecVals (mput es1 c1 ((at_ : Int) + i) (.agg ((sec L1 (at_ + i)).map u8v).toArray)).1.toList := HK.out.2.1.put hsl
        have ho2 : OldIs (mput es1 c1 ((at_ : Int) + i) (.agg ((sec L1 (at_ + i)).map u8v).toArray)).1 (mput es1 c1 ((at_ : Int) + i) (.agg ((sec L1 (at_ + i)).map u8v).toArray)).2 (oldW old L at_ (i + 1)) := by
          have hn0 : old (at_ + i) = none := by have h := HO.out.2; cases hx : old (at_ + i) with
            | none => rfl
            | some l => rw [hx] at h; cases h
          have h1 := HO.out.1.put (k := at_ + i) (l := sec L1 (at_ + i)) (by rw [oldW_at]; exact hn0) hsl
          have e1 : sec L1 (at_ + i) = sec L (at_ + i) := by rw [HL1.out.1]; exact sec_wr_behind (by have := HN.out; omega) (by have := HN.out; omega)
          rw [show ((at_ + i : Nat) : Int) = (at_ : Int) + i by omega] at h1
          rw [← oldW_new hn0, ← e1]; exact h1
        replace hd : DiskB w6 gd gl gm N L1 _ _ out fz ops := ⟨hd.1.near hC6 HXM.out.2.2.1, hd.2.1.near hC6 HXM.out.2.2.2.1, hm6⟩
        generalize (mput es1 c1 ((at_ : Int) + i) (.agg ((sec L1 (at_ + i)).map u8v).toArray)).1 = es2 at hd hik hsv ho2
        generalize (mput es1 c1 ((at_ : Int) + i) (.agg ((sec L1 (at_ + i)).map u8v).toArray)).2 = c2 at hd ho2
        rw [HL1.out.1] at hd
        have hk2 := And.intro hik (And.intro ho2 (HK.out.2.2.trans (hC6.wider (fun x hx => by simp at hx; simp [hx]))))
        replace hp1 := hp1.near hC6 HXM.out.1
        replace ha1 := ha1.near hC6 HXM.out.2.1
        replace hb1 := hb1.near hC6 HXM.out.2.2.2.2
        replace hby1 := Bytes.near hby1 hC6 (fun ad e => by have h := HH.out.2.2.2.2.2 ad e; simp at h ⊢; exact h.2)
        have HK2 := Lib.hid hk2
        clear hC6 hm6 hu6 hsl hik hsv ho2 hk2 hC5m HK HL1 HO
        have hC7 := (Near.refl [gl] w6).drew
        have hsb : (sec b i).length = 256 := sec_length _ (by have := HN.out; omega)
        obtain ⟨bb, boff, hAe, hbl0, -⟩ := hby1.at_ (by have := HN.out; omega)
        have hcn : ¬ cap = i * 256 := by have := HN.out; omega
        have hc2 : (i + 1) * 256 ≤ cap := by have := HN.out; omega
        have hc3 : i * 256 ≤ cap := by omega
        have hbm : Bytes w6 (some ⟨bb, boff + i * 256, none⟩) (sec b i) := by
          have h := hby1.drop (k := i * 256) (cap := cap) (.inl (by omega))
          rw [if_neg hcn, hAe] at h
          have h2 := h.take 256
          rw [Nat.mul_comm i 256] at h2
          unfold sec
          rw [Nat.mul_comm i 256]
          simpa [Addr.add_lit] using h2
        have hbbl : bb ∉ [gl] := by have h := HH.out.2.2.2.2.2 _ hAe; simp at h ⊢; exact h.1
        subst hAe
        have HSB := Lib.hid (And.intro hsb (And.intro hbm hbbl))
        clear hsb hbm hbbl hbl0
        go_wp2_with fail
        refine wp_region_tree (Near [gl] w6) [] (PlanT.takes [5, 8, 9, 10, 11, 12] (PlanT.takes [0, 4, 7] (PlanT.takes [1, 2, 6, 13, 14] (PlanT.takes [3, 15] (PlanT.takes [16] (.opt 17 .done .no)))))) (by kernel_rfl) (by kernel_rfl) (hC7) ?_
        refine wpTree_pure _ _ _ (by rfl) (by rfl) ?_
        dsimp only [List.filterMap, List.getElem?_cons_zero, List.getElem?_cons_succ]
        repeat (go_big_quiet_step (fail))
        refine wpQuiet_nil ?_
        refine wpTree_takeL _ _ _ (by rfl) (by rfl) (hC7) ?_
        dsimp only [List.filterMap, List.getElem?_cons_zero, List.getElem?_cons_succ]
        (refine wpQuiet_load_cell (fun w' hw' => (Blk.near hp1 hw' (HXL.out.1)).at_ 0 (v := .pointer (some ⟨gd, 0, none⟩)) rfl) (by rfl) _ _ (by rfl) (by rfl) _ Try.underlying27 (by rfl) ?_; simp only [Act.put, List.setIfInBounds_toArray, List.set_cons_zero, List.set_cons_succ])
        (refine wpQuiet_load_cell (fun w' hw' => (Blk.near ha1 hw' (HXL.out.2.1)).at_ 0 (v := .int .i64 (at_ : Int)) rfl) (by rfl) _ _ (by rfl) (by rfl) _ Try.underlying3 (by rfl) ?_; simp only [Act.put, List.setIfInBounds_toArray, List.set_cons_zero, List.set_cons_succ])
        (refine wpQuiet_load_cell (fun w' hw' => (Blk.near hb1 hw' (HXL.out.2.2.1)).at_ 0 (v := .slice (some ⟨bb, boff, none⟩) b.length cap) rfl) (by rfl) _ _ (by rfl) (by rfl) _ Try.underlying43 (by rfl) ?_; simp only [Act.put, List.setIfInBounds_toArray, List.set_cons_zero, List.set_cons_succ])
        refine wpQuiet_nil ?_
        refine wpTree_pure _ _ _ (by rfl) (by rfl) ?_
        dsimp only [List.filterMap, List.getElem?_cons_zero, List.getElem?_cons_succ]
        repeat (go_big_quiet_step (fail))
        refine wpQuiet_array (by rfl) _ _ (by rfl) 256 _ Try.underlying113 (some ⟨bb, boff + i * 256, none⟩) ((i + 1) * 256 - i * 256) (cap - i * 256) (by rfl) (by omega) ?_
        simp only [Act.put, List.setIfInBounds_toArray, List.set_cons_zero, List.set_cons_succ]
        refine wpQuiet_nil ?_
        refine wpTree_takeL _ _ _ (by rfl) (by rfl) (hC7) ?_
        dsimp only [List.filterMap, List.getElem?_cons_zero, List.getElem?_cons_succ]
        (refine wpQuiet_load_cell (fun w' hw' => (Blk.near hd.1 hw' (HXL.out.2.2.2.1)).at_ 0 (v := .slice (some ⟨gl, 0, none⟩) N N) rfl) (by rfl) _ _ (by rfl) (by rfl) _ Try.underlying28 (by rfl) ?_; simp only [Act.put, List.setIfInBounds_toArray, List.set_cons_zero, List.set_cons_succ])
        (refine wpQuiet_load_mid (fun w' hw' => Bytes.range (Bytes.near HSB.out.2.1 hw' (fun ad e => by cases e; exact HSB.out.2.2))) (by rfl) _ _ (by rfl) (by rfl) _ Try.underlying113 (by rfl) (sizeSec) (by rw [List.length_map, HSB.out.1]) ?_; simp only [Act.put, List.setIfInBounds_toArray, List.set_cons_zero, List.set_cons_succ])
        refine wpQuiet_nil ?_
        refine wpTree_pure _ _ _ (by rfl) (by rfl) ?_
        dsimp only [List.filterMap, List.getElem?_cons_zero, List.getElem?_cons_succ]
        repeat (go_big_quiet_step (fail))
        refine wpQuiet_nil ?_
        have hlw : (Go.wr L (256 * at_) (b.take (256 * i))).length = N * 256 := by rw [wr_length (by rw [List.length_take]; have := HN.out; omega)]; exact HN.out.2.2.2.2
        have hlt2 : (b.take (256 * i)).length = 256 * i := by rw [List.length_take]; have := HN.out; omega
        refine wpTree_one _ rfl ?_
        refine wpList_store_in hd.2.1.drew (by rfl) _ _ _ (by rfl) ((at_ + i) * 256) (by rfl) ((sec b i).map u8v).toArray (by rfl) sizeSec (by rw [List.size_toArray, List.length_map, HSB.out.1]) (by rw [List.size_toArray, List.length_map, hlw]; omega) (sec_one _) ?_
        intro w8 h8 hu8
        have hC8 : Near [gl] w6 w8 := hC7.trans (Near.upd hu8 (List.mem_singleton.2 rfl))
        have e8 : setAll ((Go.wr L (256 * at_) (b.take (256 * i))).map u8v).toArray ((at_ + i) * 256) ((sec b i).map u8v).toArray.toList = ((Go.wr L (256 * at_) (b.take (256 * (i + 1)))).map u8v).toArray := by
          rw [List.toList_toArray, setAll_wr _ _ _ (by rw [hlw, HSB.out.1]; omega)]
          have e1 : (at_ + i) * 256 = 256 * at_ + (b.take (256 * i)).length := by rw [hlt2]; omega
          rw [e1, wr_wr (by rw [hlt2, HSB.out.1]; have := HN.out; omega)]
          have e2 : b.take (256 * i) ++ sec b i = b.take (256 * (i + 1)) := by unfold sec; rw [Nat.mul_add, Nat.mul_one, List.take_add]
          rw [e2]
        rw [e8] at h8
        replace hd : DiskB w8 gd gl gm N _ _ _ out fz ops := ⟨hd.1.near hC8 HXL.out.2.2.2.1, h8, hd.2.2.near hC8 HXL.out.2.2.2.2⟩
        have HF := Lib.hid (show WrRel w old gd gl gm N at_ n L b out fz ops (.int .i64 ((i + 1 : Nat) : Int)) w8 from
          ⟨i + 1, es2, c2, by omega, rfl, hd, HK2.out.2.1, HK2.out.2.2.trans (hC8.wider (fun x hx => by simp at hx; simp [hx]))⟩)
        go_wp2_with fail
        refine TreeQ.in_ hC8 ?_
        refine wpTree_done ?_
        clear hd e8 h8 hu8 hC8 hp1 ha1 hb1 hby1 HSB HK2
        go_wp2
        go_roundw
        case rel => exact HF.out
        case measure => simp [intOf]; omega
      · have ho2 : OldIs es1 c1 (oldW old L at_ (i + 1)) := by
          have h := HO.out.2
          cases hx : old (at_ + i) with
          | none => rw [hx] at h; cases h
          | some l => rw [oldW_has hx]; exact HO.out.1
        have HK2 := Lib.hid (And.intro HK.out.1 (And.intro ho2 HK.out.2.2))
        clear HK HO ho2
        have hC7 := (Near.refl [gl] w5).drew
        have hsb : (sec b i).length = 256 := sec_length _ (by have := HN.out; omega)
        obtain ⟨bb, boff, hAe, hbl0, -⟩ := hby1.at_ (by have := HN.out; omega)
        have hcn : ¬ cap = i * 256 := by have := HN.out; omega
        have hc2 : (i + 1) * 256 ≤ cap := by have := HN.out; omega
        have hc3 : i * 256 ≤ cap := by omega
        have hbm : Bytes w5 (some ⟨bb, boff + i * 256, none⟩) (sec b i) := by
          have h := hby1.drop (k := i * 256) (cap := cap) (.inl (by omega))
          rw [if_neg hcn, hAe] at h
          have h2 := h.take 256
          rw [Nat.mul_comm i 256] at h2
          unfold sec
          rw [Nat.mul_comm i 256]
          simpa [Addr.add_lit] using h2
        have hbbl : bb ∉ [gl] := by have h := HH.out.2.2.2.2.2 _ hAe; simp at h ⊢; exact h.1
        subst hAe
        have HSB := Lib.hid (And.intro hsb (And.intro hbm hbbl))
        clear hsb hbm hbbl hbl0
        go_wp2_with fail
        refine wp_region_tree (Near [gl] w5) [] (PlanT.takes [5, 8, 9, 10, 11, 12] (PlanT.takes [0, 4, 7] (PlanT.takes [1, 2, 6, 13, 14] (PlanT.takes [3, 15] (PlanT.takes [16] (.opt 17 .done .no)))))) (by kernel_rfl) (by kernel_rfl) (hC7) ?_
        refine wpTree_pure _ _ _ (by rfl) (by rfl) ?_
        dsimp only [List.filterMap, List.getElem?_cons_zero, List.getElem?_cons_succ]
        repeat (go_big_quiet_step (fail))
        refine wpQuiet_nil ?_
        refine wpTree_takeL _ _ _ (by rfl) (by rfl) (hC7) ?_
        dsimp only [List.filterMap, List.getElem?_cons_zero, List.getElem?_cons_succ]
        (refine wpQuiet_load_cell (fun w' hw' => (Blk.near hp1 hw' (HXL.out.1)).at_ 0 (v := .pointer (some ⟨gd, 0, none⟩)) rfl) (by rfl) _ _ (by rfl) (by rfl) _ Try.underlying27 (by rfl) ?_; simp only [Act.put, List.setIfInBounds_toArray, List.set_cons_zero, List.set_cons_succ])
        (refine wpQuiet_load_cell (fun w' hw' => (Blk.near ha1 hw' (HXL.out.2.1)).at_ 0 (v := .int .i64 (at_ : Int)) rfl) (by rfl) _ _ (by rfl) (by rfl) _ Try.underlying3 (by rfl) ?_; simp only [Act.put, List.setIfInBounds_toArray, List.set_cons_zero, List.set_cons_succ])
        (refine wpQuiet_load_cell (fun w' hw' => (Blk.near hb1 hw' (HXL.out.2.2.1)).at_ 0 (v := .slice (some ⟨bb, boff, none⟩) b.length cap) rfl) (by rfl) _ _ (by rfl) (by rfl) _ Try.underlying43 (by rfl) ?_; simp only [Act.put, List.setIfInBounds_toArray, List.set_cons_zero, List.set_cons_succ])
        refine wpQuiet_nil ?_
        refine wpTree_pure _ _ _ (by rfl) (by rfl) ?_
        dsimp only [List.filterMap, List.getElem?_cons_zero, List.getElem?_cons_succ]
        repeat (go_big_quiet_step (fail))
        refine wpQuiet_array (by rfl) _ _ (by rfl) 256 _ Try.underlying113 (some ⟨bb, boff + i * 256, none⟩) ((i + 1) * 256 - i * 256) (cap - i * 256) (by rfl) (by omega) ?_
        simp only [Act.put, List.setIfInBounds_toArray, List.set_cons_zero, List.set_cons_succ]
        refine wpQuiet_nil ?_
        refine wpTree_takeL _ _ _ (by rfl) (by rfl) (hC7) ?_
        dsimp only [List.filterMap, List.getElem?_cons_zero, List.getElem?_cons_succ]
        (refine wpQuiet_load_cell (fun w' hw' => (Blk.near hd.1 hw' (HXL.out.2.2.2.1)).at_ 0 (v := .slice (some ⟨gl, 0, none⟩) N N) rfl) (by rfl) _ _ (by rfl) (by rfl) _ Try.underlying28 (by rfl) ?_; simp only [Act.put, List.setIfInBounds_toArray, List.set_cons_zero, List.set_cons_succ])
        (refine wpQuiet_load_mid (fun w' hw' => Bytes.range (Bytes.near HSB.out.2.1 hw' (fun ad e => by cases e; exact HSB.out.2.2))) (by rfl) _ _ (by rfl) (by rfl) _ Try.underlying113 (by rfl) (sizeSec) (by rw [List.length_map, HSB.out.1]) ?_; simp only [Act.put, List.setIfInBounds_toArray, List.set_cons_zero, List.set_cons_succ])
        refine wpQuiet_nil ?_
        refine wpTree_pure _ _ _ (by rfl) (by rfl) ?_
        dsimp only [List.filterMap, List.getElem?_cons_zero, List.getElem?_cons_succ]
        repeat (go_big_quiet_step (fail))
        refine wpQuiet_nil ?_
        have hlw : (Go.wr L (256 * at_) (b.take (256 * i))).length = N * 256 := by rw [wr_length (by rw [List.length_take]; have := HN.out; omega)]; exact HN.out.2.2.2.2
        have hlt2 : (b.take (256 * i)).length = 256 * i := by rw [List.length_take]; have := HN.out; omega
        refine wpTree_one _ rfl ?_
        refine wpList_store_in hd.2.1.drew (by rfl) _ _ _ (by rfl) ((at_ + i) * 256) (by rfl) ((sec b i).map u8v).toArray (by rfl) sizeSec (by rw [List.size_toArray, List.length_map, HSB.out.1]) (by rw [List.size_toArray, List.length_map, hlw]; omega) (sec_one _) ?_
        intro w8 h8 hu8
        have hC8 : Near [gl] w5 w8 := hC7.trans (Near.upd hu8 (List.mem_singleton.2 rfl))
        have e8 : setAll ((Go.wr L (256 * at_) (b.take (256 * i))).map u8v).toArray ((at_ + i) * 256) ((sec b i).map u8v).toArray.toList = ((Go.wr L (256 * at_) (b.take (256 * (i + 1)))).map u8v).toArray := by
          rw [List.toList_toArray, setAll_wr _ _ _ (by rw [hlw, HSB.out.1]; omega)]
          have e1 : (at_ + i) * 256 = 256 * at_ + (b.take (256 * i)).length := by rw [hlt2]; omega
          rw [e1, wr_wr (by rw [hlt2, HSB.out.1]; have := HN.out; omega)]
          have e2 : b.take (256 * i) ++ sec b i = b.take (256 * (i + 1)) := by unfold sec; rw [Nat.mul_add, Nat.mul_one, List.take_add]
          rw [e2]
        rw [e8] at h8
        replace hd : DiskB w8 gd gl gm N _ _ _ out fz ops := ⟨hd.1.near hC8 HXL.out.2.2.2.1, h8, hd.2.2.near hC8 HXL.out.2.2.2.2⟩
        have HF := Lib.hid (show WrRel w old gd gl gm N at_ n L b out fz ops (.int .i64 ((i + 1 : Nat) : Int)) w8 from
          ⟨i + 1, es1, c1, by omega, rfl, hd, HK2.out.2.1, HK2.out.2.2.trans (hC8.wider (fun x hx => by simp at hx; simp [hx]))⟩)
        go_wp2_with fail
        refine TreeQ.in_ hC8 ?_
        refine wpTree_done ?_
        clear hd e8 h8 hu8 hC8 hp1 ha1 hb1 hby1 HSB HK2
        go_wp2
        go_roundw
        case rel => exact HF.out
        case measure => simp [intOf]; omega
end
end Go.Proofs.Ytmhfehhpfkjloaa

/- Comparisons, guarded operations and picks in a region that draws its order. Plain facts over any program. No condition. -/
namespace Go
open Go.RowKit
section
variable {P : Program} {ops : Array Oper} {C : World → Prop} {Q : Act → Prop} {rest : List Oper} {a : Act}
theorem wpQuiet_want' {dst : Option Tmp} {op : Op} {ty : TypeId} {pos : String} {af : Array Edge} {g : Option (Nat × Bool)}
    (hw : Region.wanted ⟨dst, op, ty, pos, af, g⟩ (yielded ops a.tmps) = true) (h : wpQuiet P ops C Q (⟨dst, op, ty, pos, af, none⟩ :: rest) a) : wpQuiet P ops C Q (⟨dst, op, ty, pos, af, g⟩ :: rest) a := by
  unfold wpQuiet at h ⊢
  rw [if_pos hw]
  rw [if_pos (by simp [Region.wanted])] at h
  exact h
theorem wpQuiet_eql_bytes {o : Oper} (hgd : o.guard = none) (t e r : TypeId) (x y : Operand) (ho : o.op = .binOp .eql t x y r) (n : Nat)
    (ht : P.underlying t = some (.array n e)) (he : P.underlying e = some (.int .u8)) (hsz : (P.info? e).map (·.size) = some 1) (hm : P.eqGuardType P.depth t = false)
    (l l' : List UInt8) (hx : a.eval x = .agg (l.map u8v).toArray) (hy : a.eval y = .agg (l'.map u8v).toArray) (hl : l.length = n) (hl' : l'.length = n) (b : Bool) (hbb : b = decide (l = l'))
    (h : wpQuiet P ops C Q rest (a.put o.dst (.bool b))) : wpQuiet P ops C Q (o :: rest) a := by
  subst hbb
  refine wpQuiet_step fun K hK => ?_
  rw [if_pos (by simp [Region.wanted, hgd])]
  refine ⟨_, fun w hw => ?_, hK _ h⟩
  obtain ⟨i, hi, hs⟩ := Option.map_eq_some_iff.1 hsz
  have hsz' : ∀ w, (sizeOf e).run P w = .ok 1 w := fun w => by simp [sizeOf, typeInfo, hi, hs]
  have h1 := run_eql_bytes (P := P) w t e n ht he hsz' l l' hl hl'
  rw [u8v_cell] at h1
  have h2 : (l == l') = decide (l = l') := by by_cases h : l = l' <;> simp [h]
  rw [h2] at h1
  unfold Oper.quietAt execOp
  simp only [ho, hx, hy, Sem.run_bind, run_eqGuard_agg w .eql t x y _ _ hm, h1, Result.andThen_ok, Sem.run_pure]
  exact ⟨rfl, rfl⟩
theorem wpQuiet_eql_bool {o : Oper} (hgd : o.guard = none) (t r : TypeId) (x y : Operand) (ho : o.op = .binOp .eql t x y r) (ht : P.underlying t = some .bool) (u v b : Bool) (hx : a.eval x = .bool u) (hy : a.eval y = .bool v) (hb : b = (u == v))
    (h : wpQuiet P ops C Q rest (a.put o.dst (.bool b))) : wpQuiet P ops C Q (o :: rest) a := by
  subst hb
  refine wpQuiet_step fun K hK => ?_
  rw [if_pos (by simp [Region.wanted, hgd])]
  refine ⟨_, fun w hw => ?_, hK _ h⟩
  have h1 : (binOp .eql t (.bool u) (.bool v)).run P w = .ok (.bool (u == v)) w := by
    simp [binOp, run_equal_bool w t u v ht]
  have h2 : (eqGuard .eql t x y (.bool u) (.bool v)).run P w = .ok () w := by simp [eqGuard]
  unfold Oper.quietAt execOp
  simp only [ho, hx, hy, Sem.run_bind, h1, h2, Result.andThen_ok, Sem.run_pure]
  exact ⟨rfl, rfl⟩
theorem wpQuiet_pick {o : Oper} (hgd : o.guard = none) (z x y : Operand) (ho : o.op = .pick z x y) (u : Bool) (hz : a.eval z = .bool u) (v : Value) (hv : (if u then a.eval x else a.eval y) = v)
    (h : wpQuiet P ops C Q rest (a.put o.dst v)) : wpQuiet P ops C Q (o :: rest) a := by
  subst hv
  refine wpQuiet_step fun K hK => ?_
  rw [if_pos (by simp [Region.wanted, hgd])]
  refine ⟨_, fun w hw => ?_, hK _ h⟩
  unfold Oper.quietAt execOp
  simp only [ho, hz, asBool, Sem.run_bind, Result.andThen_ok, Sem.run_pure]
  exact ⟨rfl, rfl⟩
end
end Go

/- Three boxes of a call. Plain facts. No condition. -/
namespace Go.Proofs.Ytmhfehhpfkjloaa
open Go.RowKit
section
variable {gd gl gm N c : Nat} {L : List UInt8} {es : Array MapEntry} {out : Bool} {fz : Option Nat} {ops : Int}
theorem DiskB.drew {w : World} (h : DiskB w gd gl gm N L es c out fz ops) : DiskB w.drew gd gl gm N L es c out fz ops := ⟨h.1.drew, h.2.1.drew, h.2.2.drew⟩
theorem DiskB.apart {w : World} (h : DiskB w gd gl gm N L es c out fz ops) : gd < w.heap.size ∧ gl < w.heap.size ∧ gm < w.heap.size := ⟨h.1.lt, h.2.1.lt, h.2.2.lt⟩
theorem boxes3 (w : World) (t1 t2 t3 : TypeId) (v1 v2 v3 : Value) : Blk (((w.alloc (.cells #[v1] t1)).alloc (.cells #[v2] t2)).alloc (.cells #[v3] t3)) w.heap.size t1 #[v1] ∧ Blk (((w.alloc (.cells #[v1] t1)).alloc (.cells #[v2] t2)).alloc (.cells #[v3] t3)) (w.heap.size + 1) t2 #[v2] ∧
    Blk (((w.alloc (.cells #[v1] t1)).alloc (.cells #[v2] t2)).alloc (.cells #[v3] t3)) (w.heap.size + 1 + 1) t3 #[v3] ∧ Near [] w (((w.alloc (.cells #[v1] t1)).alloc (.cells #[v2] t2)).alloc (.cells #[v3] t3)) ∧ (((w.alloc (.cells #[v1] t1)).alloc (.cells #[v2] t2)).alloc (.cells #[v3] t3)).heap.size = w.heap.size + 3 := by
  have h0 := Blk.new w t1 #[v1]
  have h1 := Blk.new (w.alloc (.cells #[v1] t1)) t2 #[v2]
  have h2 := Blk.new ((w.alloc (.cells #[v1] t1)).alloc (.cells #[v2] t2)) t3 #[v3]
  have e1 : (w.alloc (.cells #[v1] t1)).heap.size = w.heap.size + 1 := by simp only [World.size_alloc]
  have e2 : ((w.alloc (.cells #[v1] t1)).alloc (.cells #[v2] t2)).heap.size = w.heap.size + 1 + 1 := by simp only [World.size_alloc]
  rw [e1] at h1
  rw [e2] at h2
  have b1 := (Below.refl (w.alloc (.cells #[v1] t1)).heap.size (w.alloc (.cells #[v1] t1))).alloc (Nat.le_refl _) (.cells #[v2] t2)
  have b2 := (Below.refl ((w.alloc (.cells #[v1] t1)).alloc (.cells #[v2] t2)).heap.size ((w.alloc (.cells #[v1] t1)).alloc (.cells #[v2] t2))).alloc (Nat.le_refl _) (.cells #[v3] t3)
  refine ⟨(h0.below b1 h0.lt).below b2 (h0.below b1 h0.lt).lt, h1.below b2 h1.lt, h2, ?_, by simp only [World.size_alloc]⟩
  exact (Near.below ((Below.refl w.heap.size w).alloc (Nat.le_refl _) _)).trans ((Near.below b1).trans (Near.below b2))
theorem callWr1 (args : Array Value) (w : World) : (callFunc 72 args).run Try.prog w = .ok (.enter 72 args) w := Try.call72 args w
end
end Go.Proofs.Ytmhfehhpfkjloaa

/- append(s, x...) where the room suffices: in place. Plain facts over any program. Condition: the slice begins at its block's front. -/
namespace Go
open Go.RowKit
theorem wpList_append_room {P : Program} {w : World} {ops : Array Oper} {rest : List Oper} {o : Oper} {a : Act} {Q : Exit → Act → World → Prop} (hgd : o.guard = none) (s x : Operand) (t : TypeId)
    (ho : o.op = .call { callee := .builtin .append, args := #[s, x], argTypes := #[t, t] })
    (e : TypeId) (ht : P.underlying t = some (.slice e)) (hi : (P.info? e).map (fun i => (i.zero, i.size, i.bytes)) = some (some (.int .u8 0), 1, 1))
    (g n cap : Nat) (l sp : List UInt8) (hn : l.length = n) (hs : a.eval s = .slice (some ⟨g, 0, none⟩) n cap) (hg : Blk w g e ((l ++ sp).map u8v).toArray) (hcap : n + sp.length = cap)
    (A : Option Addr) (m c : Nat) (xs : List UInt8) (hm : xs.length = m) (hx : a.eval x = .slice A m c) (hr : Bytes w A xs) (hroom : m ≤ sp.length)
    (h : ∀ w', Blk w' g e ((l ++ (xs ++ sp.drop m)).map u8v).toArray → Upd g w w' → wpList P ops Q rest (a.put o.dst (.slice (some ⟨g, 0, none⟩) (n + m) cap)) w') : wpList P ops Q (o :: rest) a w := by
  subst hn hm
  refine wpList_plain hgd fun _ hK => ?_
  obtain ⟨i, hi0, hz, hsize, hby⟩ := info_parts hi
  rcases Nat.eq_zero_or_pos xs.length with h0 | h0
  · obtain rfl : xs = [] := List.eq_nil_of_length_eq_zero h0
    have hrun : (Builtin.append_ #[t, t] o.type #[.slice (some ⟨g, 0, none⟩) l.length cap, .slice A 0 c]).run P w = .ok (.slice (some ⟨g, 0, none⟩) l.length cap) w := by
      have hf : ∀ (s : Nat), (Builtin.firstCells s 0 (.slice A 0 c)).run P w = .ok #[] w := fun s => by
        cases A <;> simp [Builtin.firstCells, loadCells, loadCellsFrom]
      have hle : l.length ≤ cap := by omega
      simp [Builtin.append_, run_underlying ht, sizeOf, typeInfo, hi0, Builtin.lenOf, hf, hle, storeCells]
    unfold Oper.wp execOp
    simp only [List.length_nil] at hx
    simp only [ho, resolve, invoke, builtin, Sem.run_bind, Sem.run_pure, Result.andThen_ok, List.map_toArray, List.map_cons, List.map_nil, hs, hx, hrun]
    exact hK _ _ (h w (by simpa using hg) (Upd.refl g w))
  · have hne : xs.map u8v ≠ [] := by intro e; simp at e; rw [e] at h0; simp at h0
    obtain ⟨b, off, rfl, hc⟩ := hr hne
    have hrun := run_append_room (P := P) w t o.type e i ht hi0 g l.length cap ((l ++ sp).map u8v).toArray hg ⟨b, off, none⟩ xs.length c (xs.map u8v) (by simp [hsize]) (fun j u hu => by rw [Addr.add_lit]; exact hc j u hu) (u8v_one xs) (by omega) (by rw [hsize]; simp; omega)
    unfold Oper.wp execOp
    simp only [ho, resolve, invoke, builtin, Sem.run_bind, Sem.run_pure, Result.andThen_ok, List.map_toArray, List.map_cons, List.map_nil, hs, hx]
    rw [hrun]
    refine hK _ _ (h _ ((Blk.setRow hg _).sub ?_) (Upd.setRow _ _ _))
    simp [hsize, List.drop_append]
end Go

/- Read, of a disk that is ready. Conditions: it is ready; the sectors are there. -/
namespace Go.Proofs.Ytmhfehhpfkjloaa
open Go.RowKit
section
variable {gd gl gm N c : Nat} {L : List UInt8} {es : Array MapEntry} {out : Bool} {fz : Option Nat} {ops : Int}
def RdRel (w : World) (at_ n : Nat) (L : List UInt8) (v9 v56 : Value) (wr : World) : Prop :=
  ∃ i, i ≤ n ∧ v9 = .slice (some ⟨w.heap.size, 0, none⟩) (256 * i) (256 * n) ∧ v56 = .int .i64 (i : Int) ∧ Blk wr w.heap.size 5 ((((L.drop (256 * at_)).take (256 * i)) ++ List.replicate (256 * (n - i)) 0).map u8v).toArray ∧ Below w.heap.size w wr
theorem sec_snoc (at_ i : Nat) : (L.drop (256 * at_)).take (256 * (i + 1)) = (L.drop (256 * at_)).take (256 * i) ++ sec L (at_ + i) := by
  unfold sec
  rw [Nat.mul_add 256 i, Nat.mul_one, List.take_add, List.drop_drop, Nat.mul_add]
theorem rdRel_step {w w7 : World} {at_ n i : Nat} (hlt : i + 1 ≤ n) (h7 : Blk w7 w.heap.size 5 ((((L.drop (256 * at_)).take (256 * i)) ++ (sec L (at_ + i) ++ (List.replicate (256 * (n - i)) 0).drop 256)).map u8v).toArray) (hB : Below w.heap.size w w7) :
    RdRel w at_ n L (.slice (some ⟨w.heap.size, 0, none⟩) (256 * i + 256) (256 * n)) (.int .i64 ((i + 1 : Nat) : Int)) w7 := by
  refine ⟨i + 1, hlt, by rw [Nat.mul_add, Nat.mul_one], rfl, ?_, hB⟩
  rw [sec_snoc, List.append_assoc]
  rw [List.drop_replicate, show 256 * (n - i) - 256 = 256 * (n - (i + 1)) by omega] at h7
  exact h7
set_option maxRecDepth 100000 in
set_option maxHeartbeats 4000000 in
theorem read_any (at_ n : Nat) (w : World) (hd : DiskB w gd gl gm N L es c out fz ops) (hr : Calls Try.prog 69 #[.pointer (some ⟨gd, 0, none⟩)] w fun e w' => e = .returned (.int .i64 0) ∧ w' = w) (hn : 1 ≤ n) (hat : at_ + n ≤ N) (hN : N ≤ 65536) (hL : L.length = N * 256) :
    Calls Try.prog 36 #[.pointer (some ⟨gd, 0, none⟩), .int .i64 (at_ : Int), .int .i64 (n : Int)] w fun e w' => ∃ g, e = .returned (.tuple #[.slice (some ⟨g, 0, none⟩) (256 * n) (256 * n), .int .i64 0]) ∧
      Blk w' g 5 (((L.drop (256 * at_)).take (256 * n)).map u8v).toArray ∧ Below w.heap.size w w' ∧ w.heap.size ≤ g := by
  have HN := Lib.hid (And.intro hat (And.intro hN (And.intro hL hn)))
  have d0 := hd.1.at_ 0 (v := .slice (some ⟨gl, 0, none⟩) N N) rfl
  have hc1 : decide ((n : Int) < 0) = false := by simp
  have hc2 : decide ((at_ : Int) < 0) = false := by simp
  have hc3 : decide (N < at_) = false := by simp; omega
  have hc5 : wrap64 ((n : Int) * 256) = ((256 * n : Nat) : Int) := by unfold wrap64; omega
  have hc4 : decide (wrap64 ((N : Int) - (at_ : Int)) < (n : Int)) = false := by rw [show wrap64 ((N : Int) - (at_ : Int)) = (N : Int) - at_ by unfold wrap64; omega]; simp; omega
  have hne : ¬ N = at_ := by omega
  have HD := Lib.hid hd
  clear hn hat hN hL
  go_enter Try.func36, Try.ntmps36
  go_wp2_with fail
  refine hr.mono ?_
  rintro e w4 ⟨rfl, hw⟩
  obtain rfl := hw.symm
  clear hw hr
  go_wp2_with (first
    | ((with_reducible show wpList _ _ _ ((⟨some 45, _, _, _, _, _⟩ : Oper) :: _) _ _); refine wpList_make_bytes (o := ⟨some 45, _, _, _, _, _⟩) _ (by rfl) _ _ _ (by rfl) _ Try.underlying43 u8info .i64 .i64 _ _ 0 (256 * n) (by rfl) (by rfl) (by rfl) (by omega) (by omega) (by have := HN.out; omega) ?_; intro w5 h5 hb5 hs5; have d05 := (hd.1.below hb5 hd.1.lt).at_ 0 (v := .slice (some ⟨gl, 0, none⟩) N N) rfl; have hat5 : at_ + n ≤ N := HN.out.1; have hc6 : wrap64 ((at_ : Int) + (n : Int)) = ((at_ + n : Nat) : Int) := by have := HN.out; unfold wrap64; omega)
    | fail)
  have hS : RdRel w at_ n L (.slice (some ⟨w.heap.size, 0, none⟩) 0 (256 * n)) (.int .i64 0) w5 := ⟨0, Nat.zero_le _, rfl, rfl, by simpa using h5, hb5⟩
  clear d0 hc1 hc2 hc3 hc4 hc5 hc6 hne h5 hb5 hs5 d05 hat5 hd
  simp only [Nat.add_sub_cancel_left]
  go_loopw [9, 56] (fun v9 v56 wr => RdRel w at_ n L v9 v56 wr) (fun _ v _ => n - (intOf v).toNat)
  case atStart => exact hS
  case round =>
    clear hS
    obtain ⟨i, hi, rfl, rfl, hg, hB⟩ := hrel
    by_cases hlt : i < n
    case neg =>
      obtain rfl : i = n := by omega
      rw [Nat.sub_self, Nat.mul_zero, List.replicate_zero, List.append_nil] at hg
      have HR := Lib.hid (And.intro hg hB)
      clear hg hB hi hlt
      go_wp2
      go_ret2
      exact ⟨_, rfl, HR.out.1, HR.out.2, Nat.le_refl _⟩
    have aS := allocSec
    have hib : i < 65536 := by have := HN.out; omega
    have hib2 : wrap64 ((i : Int) + 1) = ((i + 1 : Nat) : Int) := by unfold wrap64; omega
    have HG := Lib.hid (And.intro hg hB)
    clear hg hB
    have hdr := HD.out.below HG.out.2
    have hrd : wr.rangeAt gl (at_ * 256 + i * 256) ((sec L (at_ + i)).map u8v) := by rw [← Nat.add_mul]; exact sec_mid' wr hdr.2.1 (at_ + i) (by have := HN.out; omega)
    have hsl : (sec L (at_ + i)).length = 256 := sec_length _ (by have := HN.out; omega)
    have hz := (Blk.new wr 113 zeroSec).sub zeroSec_list
    have hbz := (Below.refl wr.heap.size wr).alloc (Nat.le_refl _) (.cells zeroSec 113)
    clear hdr
    go_wp2_with (first
      | ((with_reducible show wpList _ _ _ ((⟨some 59, _, _, _, _, _⟩ : Oper) :: _) _ _); refine wpList_load_mid (o := ⟨some 59, _, _, _, _, _⟩) hrd (by rfl) _ _ (by rfl) (by rfl) _ Try.underlying113 (by rfl) sizeSec (by rw [List.length_map]; exact hsl) ?_)
      | ((with_reducible show wpList _ _ _ ((⟨none, _, _, _, _, _⟩ : Oper) :: _) _ _); refine wpList_store_blk (o := ⟨none, _, _, _, _, _⟩) (hz) (by rfl) _ _ _ (by rfl) (by rfl) (((sec L (at_ + i)).map u8v).toArray) (by rfl) (sizeSec) (by simp) (by rw [List.size_toArray, List.length_map]; exact hsl) (sec_one _) ?_; intro w6 h6 hu6; have hg6 := (HG.out.1.below hbz HG.out.1.lt).upd hu6 (Nat.ne_of_lt HG.out.1.lt); have hB6 := HG.out.2.trans ((hbz.upd hu6 (Nat.le_refl _)).mono HG.out.2.size); have hby6 := h6.bytes; clear HG hrd hz hbz h6 hu6)
      | ((with_reducible show wpList _ _ _ ((⟨some 62, _, _, _, _, _⟩ : Oper) :: _) _ _); refine wpList_append_room (o := ⟨some 62, _, _, _, _, _⟩) (by rfl) _ _ _ (by rfl) _ Try.underlying43 u8info w.heap.size (256 * i) (256 * n) ((L.drop (256 * at_)).take (256 * i)) (List.replicate (256 * (n - i)) 0) (by rw [List.length_take, List.length_drop]; have := HN.out; omega) (by rfl) hg6 (by rw [List.length_replicate]; omega) (some ⟨wr.heap.size, 0, none⟩) 256 256 (sec L (at_ + i)) hsl (by rfl) hby6 (by rw [List.length_replicate]; omega) ?_; intro w7 h7 hu7; have HE := Lib.hid (show RdRel w at_ n L (.slice (some ⟨w.heap.size, 0, none⟩) (256 * i + 256) (256 * n)) (.int .i64 ((i + 1 : Nat) : Int)) w7 from rdRel_step (by omega) h7 (hB6.upd hu7 (Nat.le_refl _))); clear hg6 hB6 hby6 h7 hu7)
      | fail)
    go_roundw
    case rel => exact HE.out
    case measure => simp [intOf]; omega
end
end Go.Proofs.Ytmhfehhpfkjloaa

/- What a disk that is nil, or that nobody made, answers. No condition. -/
namespace Go.Proofs.Ytmhfehhpfkjloaa
open Go.RowKit
/-- A disk that is nil, or that nobody made. -/
def NoDisk (D : Option Addr) (w : World) : Prop := D = none ∨ ∃ g, D = some ⟨g, 0, none⟩ ∧ Blk w g 32 noDisk
theorem NoDisk.near {D : Option Addr} {w w' : World} (h : NoDisk D w) (k : Near [] w w') : NoDisk D w' := by
  rcases h with rfl | ⟨g, rfl, h⟩
  · exact .inl rfl
  · exact .inr ⟨g, rfl, h.near k (fun x => by cases x)⟩
section
variable (D : Option Addr) (w : World) (h : NoDisk D w)
include h
theorem none_no : Calls Try.prog 68 #[.pointer D] w fun e w' => e = .returned (.bool true) ∧ w' = w := by
  rcases h with rfl | ⟨g, rfl, h⟩
  · exact none_nil w
  · exact none_zero g w h
theorem ready_no : Calls Try.prog 69 #[.pointer D] w fun e w' => e = .returned (.int .i64 1) ∧ w' = w := by
  rcases h with rfl | ⟨g, rfl, h⟩
  · exact ready_nil w
  · exact ready_zero g w h
theorem sectors_no : Calls Try.prog 52 #[.pointer D] w fun e w' => e = .returned (.int .i64 0) ∧ w' = w := by
  rcases h with rfl | ⟨g, rfl, h⟩
  · exact sectors_nil w
  · exact sectors_zero g w h
theorem turn_no (s a m : Int) : Calls Try.prog 33 #[.pointer D, .int .i64 s, .int .i64 a, .int .u8 m] w fun e w' => e = .returned (.int .i64 1) ∧ w' = w := by
  go_enter Try.func33, Try.ntmps33
  go_wp2_with fail
  refine (none_no D w h).mono ?_
  rintro e w1 ⟨rfl, hw⟩
  obtain rfl := hw.symm
  clear h hw
  go_wp2
  go_ret
  exact ⟨rfl, rfl⟩
theorem crash_no (v : Value) (t : Int) : Calls Try.prog 41 #[.pointer D, v, .int .i64 t] w fun e w' => e = .returned (.int .i64 1) ∧ w' = w := by
  go_enter Try.func41, Try.ntmps41
  go_wp2_with fail
  refine (none_no D w h).mono ?_
  rintro e w1 ⟨rfl, hw⟩
  obtain rfl := hw.symm
  clear h hw
  go_wp2
  go_ret
  exact ⟨rfl, rfl⟩
theorem loose_no : Calls Try.prog 47 #[.pointer D] w fun e w' => e = .returned (.slice none 0 0) ∧ w' = w := by
  go_enter Try.func47, Try.ntmps47
  go_wp2_with fail
  refine (none_no D w h).mono ?_
  rintro e w1 ⟨rfl, hw⟩
  obtain rfl := hw.symm
  clear h hw
  go_wp2
  go_ret
  exact ⟨rfl, rfl⟩
theorem ops_no : Calls Try.prog 48 #[.pointer D] w fun e w' => e = .returned (.int .i64 0) ∧ w' = w := by
  go_enter Try.func48, Try.ntmps48
  go_wp2_with fail
  refine (none_no D w h).mono ?_
  rintro e w1 ⟨rfl, hw⟩
  obtain rfl := hw.symm
  clear h hw
  go_wp2
  go_ret
  exact ⟨rfl, rfl⟩
theorem up_no : Calls Try.prog 44 #[.pointer D] w fun e w' => e = .returned (.bool false) ∧ w' = w := by
  go_enter Try.func44, Try.ntmps44
  go_wp2_with fail
  refine (none_no D w h).mono ?_
  rintro e w1 ⟨rfl, hw⟩
  obtain rfl := hw.symm
  clear h hw
  go_wp2
  go_ret
  exact ⟨rfl, rfl⟩
theorem clone_no : Calls Try.prog 53 #[.pointer D] w fun e w' => e = .returned (.pointer none) ∧ w' = w := by
  go_enter Try.func53, Try.ntmps53
  go_wp2_with fail
  refine (none_no D w h).mono ?_
  rintro e w1 ⟨rfl, hw⟩
  obtain rfl := hw.symm
  clear h hw
  go_wp2
  go_ret
  exact ⟨rfl, rfl⟩
theorem read_no (a n : Int) : Calls Try.prog 36 #[.pointer D, .int .i64 a, .int .i64 n] w fun e w' => e = .returned (.tuple #[.slice none 0 0, .int .i64 1]) ∧ w' = w := by
  go_enter Try.func36, Try.ntmps36
  go_wp2_with fail
  refine (ready_no D w h).mono ?_
  rintro e w1 ⟨rfl, hw⟩
  obtain rfl := hw.symm
  clear h hw
  go_wp2
  go_ret2
  exact ⟨rfl, rfl⟩
theorem flush_no : Calls Try.prog 43 #[.pointer D] w fun e w' => e = .returned (.int .i64 1) ∧ Near [] w w' := by
  go_enter Try.func43, Try.ntmps43
  go_wp2_with fail
  have hnr := Near.below (X := []) ((Below.refl w.heap.size w).alloc (Nat.le_refl _) (.cells #[.pointer D] 27))
  refine (ready_no D _ (h.near hnr)).mono ?_
  rintro e w1 ⟨rfl, hw⟩
  obtain rfl := hw.symm
  clear h hw
  have HR := Lib.hid hnr
  clear hnr
  go_wp2
  go_ret
  exact ⟨rfl, HR.out⟩
theorem write_no (a : Int) (A : Option Addr) (n c : Nat) : Calls Try.prog 39 #[.pointer D, .int .i64 a, .slice A n c] w fun e w' => e = .returned (.int .i64 1) ∧ Near [] w w' := by
  go_enter Try.func39, Try.ntmps39
  go_wp2_with fail
  have hnr := (boxes3 w 27 3 43 (.pointer D) (.int .i64 a) (.slice A n c)).2.2.2.1
  refine (ready_no D _ (h.near hnr)).mono ?_
  rintro e w1 ⟨rfl, hw⟩
  obtain rfl := hw.symm
  clear h hw
  have HR := Lib.hid hnr
  clear hnr
  go_wp2
  go_ret
  exact ⟨rfl, HR.out⟩
end
end Go.Proofs.Ytmhfehhpfkjloaa
