/- What the kit asks of lists that shall share no memory: each is written over, and the others stay. Conditions: they lie whole in blocks of their own, or are nil. -/
import Derived.Test.YtekdcjaljjlemaaDoorMSlotWrites4
import Derived.Deep.MidRow
import Derived.OrdersIn
import Derived.Test.YtekdcjaljjlemaaDoorRows
namespace Go
open Go.RowKit
/-- A list that lies whole in a block, or none: its address, its length, all its bytes up to its capacity. -/
structure Ent where
  A : Option Addr
  n : Nat
  l : List UInt8
def Ent.val (e : Ent) : Value := .slice e.A e.n e.l.length
def Ent.blk (e : Ent) : Option Nat := e.A.map (·.block)
def Ent.Is (w : World) (e : Ent) : Prop :=
  e.n ≤ e.l.length ∧ e.l.length ≤ 140737488351232 ∧ ((e.A = none ∧ e.l = []) ∨ ∃ g t, e.A = some ⟨g, 0, none⟩ ∧ Blk w g t (e.l.map u8v).toArray)
theorem Ent.Is.bytes {w : World} {e : Ent} (h : e.Is w) : Bytes w e.A e.l := by
  obtain ⟨_, _, ⟨h1, h2⟩ | ⟨g, t, h1, h2⟩⟩ := h
  · rw [h1, h2]; exact Reads.nil _ _
  · rw [h1]; exact h2.bytes
theorem Ent.Is.kept {w w' : World} {row : Option Nat} {e : Ent} (h : e.Is w) (hg : w.grownBy w' row) (hne : ∀ g, e.blk = some g → some g ≠ row) : e.Is w' := by
  obtain ⟨h1, h2, h3 | ⟨g, t, h3, h4⟩⟩ := h
  · exact ⟨h1, h2, .inl h3⟩
  · exact ⟨h1, h2, .inr ⟨g, t, h3, (hg.block g h4.lt (hne g (by unfold Ent.blk; rw [h3]; rfl))).trans h4⟩⟩
theorem Ent.Is.below {w w' : World} {e : Ent} {B : Nat} (h : e.Is w) (hb : Below B w w') (hlt : ∀ g, e.blk = some g → g < B) : e.Is w' := by
  obtain ⟨h1, h2, h3 | ⟨g, t, h3, h4⟩⟩ := h
  · exact ⟨h1, h2, .inl h3⟩
  · exact ⟨h1, h2, .inr ⟨g, t, h3, h4.below hb (hlt g (by unfold Ent.blk; rw [h3]; rfl))⟩⟩
theorem Ent.Is.lt {w : World} {e : Ent} (h : e.Is w) : ∀ g, e.blk = some g → g < w.heap.size := by
  intro g hg
  obtain ⟨_, _, ⟨h3, _⟩ | ⟨g', t, h3, h4⟩⟩ := h
  · unfold Ent.blk at hg; rw [h3] at hg; cases hg
  · unfold Ent.blk at hg; rw [h3] at hg; simp at hg; subst hg; exact h4.lt
theorem Upd.grownBy {w w' : World} {g : Nat} (u : Upd g w w') : w.grownBy w' (some g) := ⟨u.os, u.tape, u.output, by rw [u.size]; exact Nat.le_refl _, fun k _ hk => u.block k (fun e => hk (by rw [e]))⟩
end Go
namespace Go.Proofs.YtekdcjaljjlemaaDoor
open Go.RowKit
def Ent.over (e : Ent) : Ent := ⟨e.A, e.n, Proofs.YtekdcjaljjlemaaDoor.over e.l⟩
theorem Ent.over_over (e : Ent) : Ent.over (Ent.over e) = e := by unfold Ent.over; rw [Proofs.YtekdcjaljjlemaaDoor.over_over]
theorem over_ent (e : Ent) (w : World) (h : e.Is w) : Calls Tryd.prog 32 #[e.val] w fun r w' => r = .returned (.tuple #[]) ∧ (Ent.over e).Is w' ∧ w.grownBy w' e.blk := by
  obtain ⟨A, n, l⟩ := e
  obtain ⟨h1, h2, ⟨h3, h4⟩ | ⟨g, t, h3, h4⟩⟩ := h
  · simp only at h1 h2 h3 h4
    subst h3 h4
    obtain rfl : n = 0 := by simpa using h1
    refine (over_nil w).mono ?_
    rintro r w' ⟨rfl, rfl⟩
    exact ⟨rfl, ⟨by simp [Ent.over, Proofs.YtekdcjaljjlemaaDoor.over], by simp [Ent.over, Proofs.YtekdcjaljjlemaaDoor.over], .inl ⟨rfl, by simp [Ent.over, Proofs.YtekdcjaljjlemaaDoor.over]⟩⟩, World.grownBy.refl _ _⟩
  · simp only at h1 h2 h3 h4
    subst h3
    refine (over_any g n l.length l h1 rfl (by omega) w t h4).mono ?_
    rintro r w' ⟨rfl, hg, hu⟩
    exact ⟨rfl, ⟨by simpa [Ent.over, over_length] using h1, by simpa [Ent.over, over_length] using h2, .inr ⟨g, t, rfl, hg⟩⟩, hu.grownBy⟩
theorem nils_cells (n : Nat) : madeCells (Value.slice none 0 0).cells (n * 1) = (List.replicate n (Value.slice none 0 0)).toArray := by
  unfold madeCells
  apply Array.ext_getElem?
  intro a
  by_cases ha : a < n
  · simp [Value.cells, ha, Nat.mod_one]
  · simp [Value.cells, ha]
theorem infoBytes : (Tryd.prog.info? 27).map (fun i => (i.zero, i.size, i.bytes)) = some (some (.slice none 0 0), 1, 24) := by kernel_rfl
def ApartSt (gl : Nat) (es : List Ent) (wr : World) : Prop := Blk wr gl 27 (es.map Ent.val).toArray ∧ ∀ e ∈ es, e.Is wr
def Apart0 (base : Nat) (w : World) (gl : Nat) (es : List Ent) (v : Value) (wr : World) : Prop :=
  ∃ i : Nat, i ≤ es.length ∧ v = .int .i64 (i : Int) ∧ ApartSt gl es wr ∧ Below base w wr
def Apart1 (wi : World) (gw : Nat) (es : List Ent) (v : Value) (wr : World) : Prop :=
  ∃ (k : Nat) (cs : List Value), k ≤ es.length ∧ cs.length = k ∧ v = .int .i64 (k : Int) ∧ Blk wr gw 27 (cs ++ List.replicate (es.length - k) (Value.slice none 0 0)).toArray ∧
    (∀ (j : Nat) (v : Value) (e : Ent), cs[j]? = some v → es[j]? = some e → ∃ sp, OwnB 5 wr (gw + 1) v e.l sp) ∧ Below gw wi wr
def Apart2 (wj : World) (n : Nat) (v : Value) (wr : World) : Prop := ∃ k : Nat, k ≤ n ∧ v = .int .i64 (k : Int) ∧ Below wj.heap.size wj wr
theorem Ent.over_val (e : Ent) : (Ent.over e).val = e.val := by unfold Ent.over Ent.val; rw [over_length]
set_option maxHeartbeats 2000000 in
theorem apart_any (base gl c : Nat) (es : List Ent) (hes : es.length ≤ 1000) (w : World) (hbase : base ≤ w.heap.size) (hst : ApartSt gl es w)
    (hd : ∀ i j (hi : i < es.length) (hj : j < es.length), i ≠ j → ∀ g, es[i].blk = some g → es[j].blk ≠ some g) (hgl : ∀ e ∈ es, e.blk ≠ some gl) (hb : ∀ e ∈ es, ∀ g, e.blk = some g → base ≤ g) :
    Calls Tryd.prog 16 #[.slice (some ⟨gl, 0, none⟩) es.length c] w fun e w' => e = .returned (.bool true) ∧ Below base w w' := by
  have HD := Lib.hid hd
  have HGL := Lib.hid hgl
  have HB := Lib.hid hb
  clear hd hgl hb
  go_enter Tryd.func16, Tryd.ntmps16
  go_wp2_with fail
  go_loopw [3] (fun v wr => Apart0 base w gl es v wr) (fun v _ => es.length - (intOf v).toNat)
  case atStart => exact ⟨0, by omega, rfl, hst, Below.refl _ _⟩
  case round =>
    clear hst
    obtain ⟨i, hi, rfl, hst, hBr⟩ := hrel
    have HST := Lib.hid hst
    clear hst
    revert wr
    intro wi hBr HST
    by_cases hlt : i < es.length
    · go_wp2_with (first
        | (show wpList _ _ _ ((⟨some 15, _, _, _, _, _⟩ : Oper) :: _) _ _; refine wpList_make_zero _ (o := ⟨some 15, _, _, _, _, _⟩) (by rfl) _ _ _ (by rfl) 27 (.slice none 0 0) 1 24 Tryd.underlying38 infoBytes .i64 .i64 es.length es.length (by rfl) (by rfl) (Nat.le_refl _) (by omega) (by omega) _ (nils_cells es.length) ?_; intro w2 hw2 hbx hs2)
        | fail)
      go_loopw [5] (fun v wr => Apart1 wi wi.heap.size es v wr) (fun v _ => es.length - (intOf v).toNat)
      case atStart => exact ⟨0, [], by omega, rfl, rfl, by simpa using hw2, fun j v e h => by simp at h, hbx⟩
      case round =>
        clear hw2 hbx hs2
        obtain ⟨k, cs, hk, hcl, rfl, hgw, hown, hBk⟩ := hrel
        have HCL := Lib.hid hcl
        have HOWN := Lib.hid hown
        clear hcl hown
        by_cases hlk : k < es.length
        · have hgl3 := HST.out.1.below hBk HST.out.1.lt
          have hi3 : es[k].Is wr := (HST.out.2 es[k] (List.getElem_mem hlk)).below hBk (fun g hg => (HST.out.2 es[k] (List.getElem_mem hlk)).lt g hg)
          have hv3 : (es.map Ent.val).toArray[k]? = some es[k].val := by simp [hlk]
          have HE := Lib.hid (show es[k]? = some es[k] from List.getElem?_eq_getElem hlk)
          generalize es[k] = e at hi3 hv3 HE
          obtain ⟨A, n, l⟩ := e
          have hby := hi3.bytes
          obtain ⟨hn1, hn2, _⟩ := hi3
          simp only at hn1 hn2 hby
          have hv4 : (es.map Ent.val).toArray[k]? = some (.slice A n l.length) := hv3
          clear hv3
          have hgwl := hgw.lt
          go_wp2_with fail
          refine wp_region_plan (Below wr.heap.size wr) [14] [(true, 0), (true, 1), (true, 2), (true, 3), (true, 4), (true, 6), (true, 7), (true, 8), (true, 5), (true, 9), (true, 10), (true, 11), (false, 12), (true, 13), (false, 14)] (by kernel_rfl) (by kernel_rfl) (fun c a a' w h q => ⟨h ▸ q.1, q.2⟩) (Below.refl _ _).drew ?_
          refine wpPlan_pure [0, 1, 2, 3, 4, 6, 7, 8] [(true, 5), (true, 9), (true, 10), (true, 11), (false, 12), (true, 13), (false, 14)] _ (by rfl) (by rfl) ?_
          dsimp only [List.filterMap, List.getElem?_cons_zero, List.getElem?_cons_succ]
          repeat (go_big_quiet_step (fail))
          refine wpQuiet_nil ?_
          refine wpPlan_takeL [5, 9] [(true, 10), (true, 11), (false, 12), (true, 13), (false, 14)] _ (by rfl) (by rfl) (Below.refl _ _).drew ?_
          dsimp only [List.filterMap, List.getElem?_cons_zero, List.getElem?_cons_succ]
          (refine wpQuiet_load_cell (fun w' hw' => Blk.at_ (v := .slice A n l.length) (hgl3.below hw' hgl3.lt) k hv4) (by rfl) _ _ (by rfl) (by rfl) _ Tryd.underlying27 (by rfl) ?_; simp only [Act.put, List.setIfInBounds_toArray, List.set_cons_zero, List.set_cons_succ])
          (refine wpQuiet_load_cell (fun w' hw' => Blk.at_ (v := .slice A n l.length) (hgl3.below hw' hgl3.lt) k hv4) (by rfl) _ _ (by rfl) (by rfl) _ Tryd.underlying27 (by rfl) ?_; simp only [Act.put, List.setIfInBounds_toArray, List.set_cons_zero, List.set_cons_succ])
          refine wpQuiet_nil ?_
          refine wpPlan_pure [10, 11] [(false, 12), (true, 13), (false, 14)] _ (by rfl) (by rfl) ?_
          dsimp only [List.filterMap, List.getElem?_cons_zero, List.getElem?_cons_succ]
          repeat (go_big_quiet_step (fail))
          refine wpQuiet_nil ?_
          refine wpPlan_forceL _ rfl ?_
          go_wp2_with fail
          refine (copyBytes_any A l.length l.length l rfl (by omega) wr.drew hby).mono ?_
          rintro e w4 ⟨v4, sp4, rfl, ho4, hbx⟩
          have hC4 : Below wr.heap.size wr w4 := (Below.refl wr.heap.size wr).drew.trans (hbx.mono (Nat.le_refl _))
          have hgw4 := hgw.below hC4 hgwl
          obtain ⟨A4, c4, rfl, _, _, _⟩ := OwnB.open_ ho4
          have hcl := HCL.out
          have hrep : List.replicate (es.length - k) (Value.slice none 0 0) = Value.slice none 0 0 :: List.replicate (es.length - (k + 1)) (Value.slice none 0 0) := by
            rw [show es.length - k = es.length - (k + 1) + 1 by omega, List.replicate_succ]
          have d0 : w4.cell? ⟨wi.heap.size, k, none⟩ = some (.slice none 0 0) := hgw4.at_ k (by
            rw [List.getElem?_toArray, List.getElem?_append_right (by omega), hcl, Nat.sub_self, hrep]; rfl)
          have f0 := hgw4.frozen k
          have hgw5 := Lib.hid ((hgw4.set_ k (.slice A4 l.length c4)).sub (show _ = ((cs ++ [Value.slice A4 l.length c4]) ++ List.replicate (es.length - (k + 1)) (Value.slice none 0 0)).toArray by
            rw [List.setIfInBounds_toArray, List.set_append_right _ _ (by omega), hcl, Nat.sub_self, hrep, List.set_cons_zero]; simp))
          have hB5 := Lib.hid ((hBk.trans (hC4.mono hBk.size)).set_ (c := wi.heap.size) (i := k) (Nat.le_refl _) (.slice A4 l.length c4))
          have HOWN5 : Hid (∀ (j : Nat) (v : Value) (e : Ent), (cs ++ [Value.slice A4 l.length c4])[j]? = some v → es[j]? = some e → ∃ sp, OwnB 5 (w4.setCell ⟨wi.heap.size, k, none⟩ (.slice A4 l.length c4)) (wi.heap.size + 1) v e.l sp) := Lib.hid (by
            intro j v e hj he
            rcases Nat.lt_trichotomy j k with h | h | h
            · rw [List.getElem?_append_left (by omega)] at hj
              obtain ⟨sp, ho⟩ := HOWN.out j v e hj he
              exact ⟨sp, OwnsC.off (OwnsC.ownBelow ho hC4) (fun hh => by have := (OwnsC.lt ho _ hh).1; omega) _⟩
            · subst h
              rw [List.getElem?_append_right (by omega), hcl, Nat.sub_self] at hj
              simp at hj
              subst hj
              rw [HE.out] at he
              cases he
              exact ⟨sp4, OwnsC.off (OwnsC.base_ ho4 hgwl) (fun hh => by have h1 := (OwnsC.lt ho4 _ hh).1; have h2 : wr.heap.size ≤ wi.heap.size := h1; omega) _⟩
            · rw [List.getElem?_eq_none (by simp; omega)] at hj; cases hj)
          clear hbx hcl hrep hgw4 ho4 hgw hBk hby hgl3
          go_wp2_with fail
          refine PlanQ.in_ hC4 ?_
          clear hC4
          refine wpPlan_pure [13] [(false, 14)] _ (by rfl) (by rfl) ?_
          dsimp only [List.filterMap, List.getElem?_cons_zero, List.getElem?_cons_succ]
          repeat (go_big_quiet_step (fail))
          refine wpQuiet_nil ?_
          refine wpPlan_forceL _ rfl ?_
          go_wp2_with fail
          refine PlanQ.out (by rfl) ?_
          refine wpPlan_nil ?_
          go_wp2
          go_roundw
          case rel => exact ⟨k + 1, cs ++ [Value.slice A4 l.length c4], by omega, by have := HCL.out; simp [this], by go_num, hgw5.out, HOWN5.out, hB5.out⟩
          case measure => simp [intOf]; omega
        · obtain rfl : k = es.length := by omega
          have hgw' := Lib.hid (hgw.sub (show _ = cs.toArray by simp))
          have hgl3 := HST.out.1.below hBk HST.out.1.lt
          have his : ∀ e ∈ es, e.Is wr := fun e he => (HST.out.2 e he).below hBk (fun g hg => (HST.out.2 e he).lt g hg)
          have hv3 : (es.map Ent.val).toArray[i]? = some es[i].val := by simp [hlt]
          have d0 : wr.cell? ⟨gl, i, none⟩ = some es[i].val := hgl3.at_ i hv3
          have HIS := Lib.hid his
          have hgll := hgl3.lt
          have hgwl := hgw.lt
          have HG3 := Lib.hid hgl3
          obtain ⟨ev, hev⟩ : ∃ v, v = es[i].val := ⟨_, rfl⟩
          rw [← hev] at d0
          have HEV := Lib.hid hev
          clear hv3 his hgl3 hgw hev
          go_wp2_with fail
          rw [HEV.out]
          refine (over_ent es[i] wr (HIS.out es[i] (List.getElem_mem hlt))).mono ?_
          rintro e wj ⟨rfl, hov, hgr⟩
          have hblk : ∀ g, es[i].blk = some g → g < wi.heap.size := (HST.out.2 es[i] (List.getElem_mem hlt)).lt
          have hglj : Blk wj gl 27 (es.map Ent.val).toArray := (hgr.block gl hgll (fun e => HGL.out es[i] (List.getElem_mem hlt) e.symm)).trans HG3.out
          have hgwj : Blk wj wi.heap.size 27 cs.toArray := (hgr.block _ hgwl (fun e => by have := hblk _ e.symm; omega)).trans hgw'.out
          have HISJ : Hid (∀ m, (hm : m < es.length) → m ≠ i → es[m].Is wj) := Lib.hid (fun m hm hne => (HIS.out es[m] (List.getElem_mem hm)).kept hgr (fun g hg e => HD.out m i hm hlt hne g hg e.symm))
          have HOWNJ : Hid (∀ (j : Nat) (v : Value) (e : Ent), cs[j]? = some v → es[j]? = some e → ∃ sp, OwnB 5 wj (wi.heap.size + 1) v e.l sp) := Lib.hid (fun j v e h1 h2 => by
            obtain ⟨sp, ho⟩ := HOWN.out j v e h1 h2
            refine ⟨sp, OwnsC.kept ho hgr ?_⟩
            cases hvb : v.ownBlock with
            | none => exact .inl rfl
            | some g => exact .inr (fun hh => by have h3 := (OwnsC.lt ho _ hvb).1; have h4 := hblk g hh.symm; omega))
          have hB0 := HB.out es[i] (List.getElem_mem hlt)
          have hsi := hBr.size
          have hsk := hBk.size
          have hbi : base ≤ wi.heap.size := by omega
          have hBj := (hBr.trans (hBk.mono hbi)).grown hgr (by omega) hB0
          have HOV := Lib.hid hov
          have HGLJ := Lib.hid hglj
          have HGWJ := Lib.hid hgwj
          have HBJ := Lib.hid hBj
          clear d0 hov hglj hgwj hBj HOWN HIS HG3 hgw' hBk hgr
          go_wp2_with fail
          go_loopw [6] (fun v wr => Apart2 wj es.length v wr) (fun v _ => es.length - (intOf v).toNat)
          case atStart => exact ⟨0, by omega, rfl, Below.refl _ _⟩
          case round =>
            obtain ⟨k, hk2, rfl, hBj2⟩ := hrel
            have hgl4 := HGLJ.out.below hBj2 HGLJ.out.lt
            have hgw4 := HGWJ.out.below hBj2 HGWJ.out.lt
            by_cases hlk2 : k < es.length
            · by_cases hki : k = i
              · subst hki
                go_wp2_with fail
                refine wp_region_plan (Below wr.heap.size wr) [] [(true, 0), (true, 1), (true, 2), (true, 3), (true, 4), (true, 5), (true, 6), (true, 8), (true, 9), (true, 10), (true, 14), (true, 15), (true, 16), (true, 7), (true, 11), (true, 17), (true, 12), (true, 13), (false, 18), (true, 19), (true, 20)] (by kernel_rfl) (by kernel_rfl) (fun c a a' w h q => ⟨h ▸ q.1, q.2⟩) (Below.refl _ _).drew ?_
                refine wpPlan_pure [0, 1, 2, 3, 4, 5, 6, 8, 9, 10, 14, 15, 16] [(true, 7), (true, 11), (true, 17), (true, 12), (true, 13), (false, 18), (true, 19), (true, 20)] _ (by rfl) (by rfl) ?_
                dsimp only [List.filterMap, List.getElem?_cons_zero, List.getElem?_cons_succ]
                repeat (go_big_quiet_step (fail))
                refine wpQuiet_nil ?_
                refine wpPlan_takeL [7, 11, 17] [(true, 12), (true, 13), (false, 18), (true, 19), (true, 20)] _ (by rfl) (by rfl) (Below.refl _ _).drew ?_
                dsimp only [List.filterMap, List.getElem?_cons_zero, List.getElem?_cons_succ]
                repeat (go_big_quiet_step (fail))
                refine wpQuiet_nil ?_
                refine wpPlan_pure [12, 13] [(false, 18), (true, 19), (true, 20)] _ (by rfl) (by rfl) ?_
                dsimp only [List.filterMap, List.getElem?_cons_zero, List.getElem?_cons_succ]
                repeat (go_big_quiet_step (fail))
                refine wpQuiet_nil ?_
                refine wpPlan_forceL _ rfl ?_
                go_wp2_with fail
                refine PlanQ.in_ (Below.refl _ _).drew ?_
                refine wpPlan_pure [19, 20] [] _ (by rfl) (by rfl) ?_
                dsimp only [List.filterMap, List.getElem?_cons_zero, List.getElem?_cons_succ]
                repeat (go_big_quiet_step (fail))
                refine wpQuiet_nil ?_
                refine wpPlan_nil ?_
                go_wp2
                go_roundw
                case rel => exact ⟨k + 1, by omega, by go_num, hBj2.drew⟩
                case measure => simp [intOf]; omega
              · have hisk := HISJ.out k hlk2 hki
                have hv4 : (es.map Ent.val).toArray[k]? = some es[k].val := by simp [hlk2]
                have HE : es[k]? = some es[k] := List.getElem?_eq_getElem hlk2
                generalize es[k] = e at hisk hv4 HE
                obtain ⟨A, n, l⟩ := e
                have hcl := HCL.out
                have hck : cs[k]? = some (cs[k]'(by omega)) := List.getElem?_eq_getElem (by omega)
                generalize (cs[k]'(by omega)) = v5 at hck
                obtain ⟨sp5, ho5⟩ := HOWNJ.out k v5 _ hck HE
                obtain ⟨A5, c5, rfl, _, _, hb5⟩ := OwnB.open_ ho5
                have hc5 : cs.toArray[k]? = some (.slice A5 l.length c5) := by rw [List.getElem?_toArray]; exact hck
                have hby4 := Bytes.below hisk.bytes hBj2
                obtain ⟨hn1, hn2, _⟩ := hisk
                replace hb5 := Bytes.below hb5 hBj2
                simp only at hn1 hn2 hby4 hb5 hc5
                replace hv4 : (es.map Ent.val).toArray[k]? = some (.slice A n l.length) := hv4
                clear HE hck ho5 hcl
                have H1 : ((k : Int) != (i : Int)) = true := by rw [bne_iff_ne]; omega
                go_wp2_with fail
                refine wp_region_plan (Below wr.heap.size wr) [] [(true, 0), (true, 1), (true, 2), (true, 3), (true, 4), (true, 5), (true, 6), (true, 8), (true, 9), (true, 10), (true, 14), (true, 15), (true, 16), (true, 7), (true, 11), (true, 17), (true, 12), (true, 13), (false, 18), (true, 19), (true, 20)] (by kernel_rfl) (by kernel_rfl) (fun c a a' w h q => ⟨h ▸ q.1, q.2⟩) (Below.refl _ _).drew ?_
                refine wpPlan_pure [0, 1, 2, 3, 4, 5, 6, 8, 9, 10, 14, 15, 16] [(true, 7), (true, 11), (true, 17), (true, 12), (true, 13), (false, 18), (true, 19), (true, 20)] _ (by rfl) (by rfl) ?_
                dsimp only [List.filterMap, List.getElem?_cons_zero, List.getElem?_cons_succ]
                repeat (go_big_quiet_step (fail))
                refine wpQuiet_nil ?_
                refine wpPlan_takeL [7, 11, 17] [(true, 12), (true, 13), (false, 18), (true, 19), (true, 20)] _ (by rfl) (by rfl) (Below.refl _ _).drew ?_
                dsimp only [List.filterMap, List.getElem?_cons_zero, List.getElem?_cons_succ]
                (refine wpQuiet_want' (by rfl) ?_; refine wpQuiet_load_cell (fun w' hw' => Blk.at_ (v := .slice A n l.length) (hgl4.below hw' hgl4.lt) k hv4) (by rfl) _ _ (by rfl) (by rfl) _ Tryd.underlying27 (by rfl) ?_; simp only [Act.put, List.setIfInBounds_toArray, List.set_cons_zero, List.set_cons_succ])
                (refine wpQuiet_want' (by rfl) ?_; refine wpQuiet_load_cell (fun w' hw' => Blk.at_ (v := .slice A n l.length) (hgl4.below hw' hgl4.lt) k hv4) (by rfl) _ _ (by rfl) (by rfl) _ Tryd.underlying27 (by rfl) ?_; simp only [Act.put, List.setIfInBounds_toArray, List.set_cons_zero, List.set_cons_succ])
                (refine wpQuiet_want' (by rfl) ?_; refine wpQuiet_load_cell (fun w' hw' => Blk.at_ (v := .slice A5 l.length c5) (hgw4.below hw' hgw4.lt) k hc5) (by rfl) _ _ (by rfl) (by rfl) _ Tryd.underlying27 (by rfl) ?_; simp only [Act.put, List.setIfInBounds_toArray, List.set_cons_zero, List.set_cons_succ])
                refine wpQuiet_nil ?_
                refine wpPlan_pure [12, 13] [(false, 18), (true, 19), (true, 20)] _ (by rfl) (by rfl) ?_
                dsimp only [List.filterMap, List.getElem?_cons_zero, List.getElem?_cons_succ]
                repeat (go_big_quiet_step (fail))
                refine wpQuiet_nil ?_
                refine wpPlan_forceL _ rfl ?_
                go_wp2_with fail
                refine (sameBytes_any A A5 l.length l.length l.length c5 l l rfl rfl wr.drew hby4 hb5).mono ?_
                rintro e wz ⟨rfl, rfl⟩
                rw [decide_eq_true rfl]
                go_wp2_with fail
                refine PlanQ.in_ (Below.refl _ _).drew ?_
                refine wpPlan_pure [19, 20] [] _ (by rfl) (by rfl) ?_
                dsimp only [List.filterMap, List.getElem?_cons_zero, List.getElem?_cons_succ]
                repeat (go_big_quiet_step (fail))
                refine wpQuiet_nil ?_
                refine wpPlan_nil ?_
                go_wp2
                go_roundw
                case rel => exact ⟨k + 1, by omega, by go_num, hBj2.drew⟩
                case measure => simp [intOf]; omega
            · obtain rfl : k = es.length := by omega
              have hv3 : (es.map Ent.val).toArray[i]? = some es[i].val := by simp [hlt]
              have d0 : wr.cell? ⟨gl, i, none⟩ = some es[i].val := hgl4.at_ i hv3
              have hov := (HOV.out).below hBj2 (fun g hg => HOV.out.lt g hg)
              have HIS4 : Hid (∀ m, (hm : m < es.length) → m ≠ i → es[m].Is wr) := Lib.hid (fun m hm hne => (HISJ.out m hm hne).below hBj2 (fun g hg => (HISJ.out m hm hne).lt g hg))
              have hB4 := HBJ.out.trans (hBj2.mono (by have := HBJ.out.size; omega))
              obtain ⟨ev, hev⟩ : ∃ v, v = es[i].val := ⟨_, rfl⟩
              rw [← hev] at d0
              have HEV := Lib.hid hev
              have HG4 := Lib.hid hgl4
              have hgll4 := hgl4.lt
              clear hv3 hev hgw4 hgl4 hBj2
              go_wp2_with fail
              rw [HEV.out, ← Ent.over_val]
              refine (over_ent (Ent.over es[i]) wr hov).mono ?_
              rintro e w5 ⟨rfl, hov5, hgr5⟩
              rw [Ent.over_over] at hov5
              have hgl5 : Blk w5 gl 27 (es.map Ent.val).toArray := (hgr5.block gl hgll4 (fun e => HGL.out es[i] (List.getElem_mem hlt) e.symm)).trans HG4.out
              have hst5 : ApartSt gl es w5 := ⟨hgl5, fun e he => by
                obtain ⟨m, hm, rfl⟩ := List.getElem_of_mem he
                by_cases hmi : m = i
                · subst hmi; exact hov5
                · exact (HIS4.out m hm hmi).kept hgr5 (fun g hg e => HD.out m i hm hlt hmi g hg e.symm)⟩
              have hB5 := hB4.grown hgr5 (by have := hB4.size; omega) hB0
              have HST5 := Lib.hid hst5
              have HB5 := Lib.hid hB5
              clear d0 hov hov5 hgr5 hgl5 hst5 hB5 hB4
              go_wp2
              go_roundw
              case rel => exact ⟨i + 1, by omega, by go_num, HST5.out, HB5.out⟩
              case measure => simp [intOf]; omega
    · obtain rfl : i = es.length := by omega
      go_wp2
      go_ret
      exact ⟨rfl, hBr⟩
end Go.Proofs.YtekdcjaljjlemaaDoor

/- The bytes of a block of the grid, as plain lists: what they are, how they are read back. Plain facts. No condition. -/
namespace Go.Proofs.YtekdcjaljjlemaaDoor
theorem Sha.sum_len (l : List UInt8) : (Sha.sum l).length = 16 := by simp [Sha.sum, Sha.out]
/-! ### Numbers of four bytes, the lowest first -/
def le4 (n : Nat) : List UInt8 := [UInt8.ofNat (n % 256), UInt8.ofNat (n / 256 % 256), UInt8.ofNat (n / 65536 % 256), UInt8.ofNat (n / 16777216 % 256)]
def un4 (a b c d : UInt8) : Nat := a.toNat + 256 * b.toNat + 65536 * c.toNat + 16777216 * d.toNat
def at4 (l : List UInt8) (p : Nat) : Nat := un4 (l.getD p 0) (l.getD (p + 1) 0) (l.getD (p + 2) 0) (l.getD (p + 3) 0)
theorem le4_length (n : Nat) : (le4 n).length = 4 := rfl
theorem toNat_ofNat' (n : Nat) (h : n < 256) : (UInt8.ofNat n).toNat = n := UInt8.toNat_ofNat_of_lt' (by simpa [UInt8.size] using h)
theorem un4_lt (a b c d : UInt8) : un4 a b c d < 4294967296 := by
  have := a.toNat_lt; have := b.toNat_lt; have := c.toNat_lt; have := d.toNat_lt
  unfold un4; omega
theorem at4_lt (l : List UInt8) (p : Nat) : at4 l p < 4294967296 := un4_lt _ _ _ _
theorem un4_le4 (n : Nat) (h : n < 4294967296) : un4 (UInt8.ofNat (n % 256)) (UInt8.ofNat (n / 256 % 256)) (UInt8.ofNat (n / 65536 % 256)) (UInt8.ofNat (n / 16777216 % 256)) = n := by
  unfold un4
  rw [toNat_ofNat' _ (Nat.mod_lt _ (by omega)), toNat_ofNat' _ (Nat.mod_lt _ (by omega)), toNat_ofNat' _ (Nat.mod_lt _ (by omega)), toNat_ofNat' _ (Nat.mod_lt _ (by omega))]
  omega
theorem getD_app (a b : List UInt8) (k : Nat) : (a ++ b).getD (a.length + k) 0 = b.getD k 0 := by
  simp only [List.getD_eq_getElem?_getD]; rw [List.getElem?_append_right (by omega), Nat.add_sub_cancel_left]
theorem at4_app (a b : List UInt8) (p : Nat) : at4 (a ++ b) (a.length + p) = at4 b p := by
  unfold at4
  rw [Nat.add_assoc, Nat.add_assoc, Nat.add_assoc, getD_app, getD_app, getD_app, getD_app]
theorem at4_app' (a b : List UInt8) (p q : Nat) (h : q = a.length + p) : at4 (a ++ b) q = at4 b p := h ▸ at4_app a b p
theorem at4_le4 (n : Nat) (h : n < 4294967296) (r : List UInt8) : at4 (le4 n ++ r) 0 = n := by
  unfold at4 le4
  simp only [List.cons_append, List.nil_append]
  exact un4_le4 n h
/-! ### A block -/
abbrev RefT := Int × Int × Unit
abbrev GBT := Int × RefT × List RefT × List UInt8 × Unit
def refOk (r : RefT) : Bool := decide (1 ≤ r.1) && decide (r.1 ≤ 512) && decide (0 ≤ r.2.1) && decide (r.2.1 ≤ 1073741824)
def GB.kind (b : GBT) : Int := b.1
def GB.ref (b : GBT) : RefT := b.2.1
def GB.refs (b : GBT) : List RefT := b.2.2.1
def GB.body (b : GBT) : List UInt8 := b.2.2.2.1
def GB.ok (b : GBT) : Bool := decide (1 ≤ b.1) && decide (b.1 ≤ 15) && refOk b.2.1 && decide (b.2.2.1.length ≤ 16) && decide (b.2.2.2.1.length ≤ 860) && b.2.2.1.all refOk
def refBytes (r : RefT) : List UInt8 := le4 r.1.toNat ++ le4 r.2.1.toNat
def refsBytes (l : List RefT) : List UInt8 := l.flatMap refBytes
/-- What stands behind a block's seal. -/
def GB.head (b : GBT) : List UInt8 := le4 b.1.toNat ++ (le4 b.2.1.1.toNat ++ (le4 b.2.1.2.1.toNat ++ (le4 b.2.2.1.length ++ le4 b.2.2.2.1.length)))
def GB.tail (b : GBT) : List UInt8 := b.2.2.2.1 ++ List.replicate (860 - b.2.2.2.1.length) 0
def GB.rest (b : GBT) : List UInt8 := GB.head b ++ (refsBytes b.2.2.1 ++ (List.replicate (128 - 8 * b.2.2.1.length) 0 ++ GB.tail b))
def GB.bytes (b : GBT) : List UInt8 := Sha.sum (GB.rest b) ++ GB.rest b
theorem refsBytes_length (l : List RefT) : (refsBytes l).length = 8 * l.length := by
  induction l with
  | nil => rfl
  | cons r l ih => unfold refsBytes at *; rw [List.flatMap_cons, List.length_append, ih, List.length_cons]; simp [refBytes, le4_length]; omega
theorem GB.ok_spec {b : GBT} (h : GB.ok b = true) : (1 ≤ b.1 ∧ b.1 ≤ 15) ∧ refOk b.2.1 = true ∧ b.2.2.1.length ≤ 16 ∧ b.2.2.2.1.length ≤ 860 ∧ ∀ r ∈ b.2.2.1, refOk r = true := by
  simp only [GB.ok, Bool.and_eq_true, decide_eq_true_eq, List.all_eq_true] at h
  obtain ⟨⟨⟨⟨⟨h1, h2⟩, h3⟩, h4⟩, h5⟩, h6⟩ := h
  exact ⟨⟨h1, h2⟩, h3, h4, h5, h6⟩
theorem refOk_spec {r : RefT} (h : refOk r = true) : 1 ≤ r.1 ∧ r.1 ≤ 512 ∧ 0 ≤ r.2.1 ∧ r.2.1 ≤ 1073741824 := by
  simp only [refOk, Bool.and_eq_true, decide_eq_true_eq] at h
  exact ⟨h.1.1.1, h.1.1.2, h.1.2, h.2⟩
theorem GB.head_length (b : GBT) : (GB.head b).length = 20 := rfl
theorem GB.tail_length (b : GBT) (h : b.2.2.2.1.length ≤ 860) : (GB.tail b).length = 860 := by
  unfold GB.tail; rw [List.length_append, List.length_replicate]; omega
theorem GB.rest_length (b : GBT) (h1 : b.2.2.1.length ≤ 16) (h2 : b.2.2.2.1.length ≤ 860) : (GB.rest b).length = 1008 := by
  unfold GB.rest
  rw [List.length_append, List.length_append, List.length_append, GB.head_length, refsBytes_length, List.length_replicate, GB.tail_length b h2]; omega
theorem GB.bytes_length (b : GBT) (h1 : b.2.2.1.length ≤ 16) (h2 : b.2.2.2.1.length ≤ 860) : (GB.bytes b).length = 1024 := by
  unfold GB.bytes; rw [List.length_append, Sha.sum_len, GB.rest_length b h1 h2]
/-- What the bytes of a block say. -/
def GB.parse (raw : List UInt8) : GBT :=
  ((at4 raw 16 : Int), ((at4 raw 20 : Int), (at4 raw 24 : Int), ()), (List.range (at4 raw 28)).map (fun i => ((at4 raw (36 + 8 * i) : Int), (at4 raw (36 + 8 * i + 4) : Int), ())), (raw.drop 164).take (at4 raw 32), ())
def GB.none_ : GBT := (0, (0, 0, ()), [], [], ())
/-- Which block bytes are: the error's number, and the block. -/
def GB.read (raw : List UInt8) : Int × GBT :=
  if raw.length ≠ 1024 then (4, GB.none_)
  else if Sha.sum (raw.drop 16) ≠ raw.take 16 then (12, GB.none_)
  else if 16 < at4 raw 28 ∨ 860 < at4 raw 32 then (4, GB.none_)
  else if GB.ok (GB.parse raw) = true ∧ GB.rest (GB.parse raw) = raw.drop 16 then (0, GB.parse raw) else (4, GB.none_)
theorem at4_refs (l : List RefT) (r : List UInt8) (hok : ∀ x ∈ l, refOk x = true) : ∀ i, (h : i < l.length) → (at4 (refsBytes l ++ r) (8 * i) : Int) = l[i].1 ∧ (at4 (refsBytes l ++ r) (8 * i + 4) : Int) = l[i].2.1 := by
  induction l with
  | nil => intro i h; simp at h
  | cons x l ih =>
    intro i h
    have e : refsBytes (x :: l) ++ r = le4 x.1.toNat ++ (le4 x.2.1.toNat ++ (refsBytes l ++ r)) := by simp [refsBytes, refBytes]
    rw [e]
    obtain ⟨h1, h2, h3, h4⟩ := refOk_spec (hok x (by simp))
    cases i with
    | zero =>
      refine ⟨?_, ?_⟩
      · rw [Nat.mul_zero, at4_le4 _ (by omega)]; simp; omega
      · rw [at4_app' _ _ 0 _ (by simp [le4_length]), at4_le4 _ (by omega)]; simp; omega
    | succ i =>
      obtain ⟨e1, e2⟩ := ih (fun x hx => hok x (by simp [hx])) i (by simpa using h)
      refine ⟨?_, ?_⟩
      · rw [at4_app' _ _ (8 * i + 4) _ (by simp [le4_length]; omega), at4_app' _ _ (8 * i) _ (by simp [le4_length]; omega), e1]; simp
      · rw [at4_app' _ _ (8 * i + 8) _ (by simp [le4_length]; omega), at4_app' _ _ (8 * i + 4) _ (by simp [le4_length]; omega), e2]; simp
theorem GB.parse_bytes (b : GBT) (h : GB.ok b = true) : GB.parse (GB.bytes b) = b := by
  obtain ⟨⟨k1, k2⟩, hr, hn, hb, hall⟩ := GB.ok_spec h
  obtain ⟨r1, r2, r3, r4⟩ := refOk_spec hr
  obtain ⟨kind, ⟨addr, stamp, ⟨⟩⟩, refs, body, ⟨⟩⟩ := b
  simp only at k1 k2 r1 r2 r3 r4 hn hb hall
  have e0 : GB.bytes (kind, (addr, stamp, ()), refs, body, ()) = Sha.sum (GB.rest (kind, (addr, stamp, ()), refs, body, ())) ++ (le4 kind.toNat ++ (le4 addr.toNat ++ (le4 stamp.toNat ++ (le4 refs.length ++ (le4 body.length ++ (refsBytes refs ++ (List.replicate (128 - 8 * refs.length) 0 ++ (body ++ List.replicate (860 - body.length) 0)))))))) := by
    simp [GB.bytes, GB.rest, GB.head, GB.tail]
  generalize Sha.sum (GB.rest (kind, (addr, stamp, ()), refs, body, ())) = S at e0
  have hS : ∃ S : List UInt8, S.length = 16 ∧ GB.bytes (kind, (addr, stamp, ()), refs, body, ()) = S ++ (le4 kind.toNat ++ (le4 addr.toNat ++ (le4 stamp.toNat ++ (le4 refs.length ++ (le4 body.length ++ (refsBytes refs ++ (List.replicate (128 - 8 * refs.length) 0 ++ (body ++ List.replicate (860 - body.length) 0)))))))) :=
    ⟨Sha.sum (GB.rest (kind, (addr, stamp, ()), refs, body, ())), Sha.sum_len _, by simp [GB.bytes, GB.rest, GB.head, GB.tail]⟩
  clear e0 S
  obtain ⟨S, hS, e⟩ := hS
  rw [e]
  have a16 : at4 (S ++ (le4 kind.toNat ++ (le4 addr.toNat ++ (le4 stamp.toNat ++ (le4 refs.length ++ (le4 body.length ++ (refsBytes refs ++ (List.replicate (128 - 8 * refs.length) 0 ++ (body ++ List.replicate (860 - body.length) 0))))))))) 16 = kind.toNat := by
    rw [at4_app' _ _ 0 _ (by omega), at4_le4 _ (by omega)]
  have a20 : at4 (S ++ (le4 kind.toNat ++ (le4 addr.toNat ++ (le4 stamp.toNat ++ (le4 refs.length ++ (le4 body.length ++ (refsBytes refs ++ (List.replicate (128 - 8 * refs.length) 0 ++ (body ++ List.replicate (860 - body.length) 0))))))))) 20 = addr.toNat := by
    rw [at4_app' _ _ 4 _ (by omega), at4_app' _ _ 0 _ (by simp [le4_length]), at4_le4 _ (by omega)]
  have a24 : at4 (S ++ (le4 kind.toNat ++ (le4 addr.toNat ++ (le4 stamp.toNat ++ (le4 refs.length ++ (le4 body.length ++ (refsBytes refs ++ (List.replicate (128 - 8 * refs.length) 0 ++ (body ++ List.replicate (860 - body.length) 0))))))))) 24 = stamp.toNat := by
    rw [at4_app' _ _ 8 _ (by omega), at4_app' _ _ 4 _ (by simp [le4_length]), at4_app' _ _ 0 _ (by simp [le4_length]), at4_le4 _ (by omega)]
  have a28 : at4 (S ++ (le4 kind.toNat ++ (le4 addr.toNat ++ (le4 stamp.toNat ++ (le4 refs.length ++ (le4 body.length ++ (refsBytes refs ++ (List.replicate (128 - 8 * refs.length) 0 ++ (body ++ List.replicate (860 - body.length) 0))))))))) 28 = refs.length := by
    rw [at4_app' _ _ 12 _ (by omega), at4_app' _ _ 8 _ (by simp [le4_length]), at4_app' _ _ 4 _ (by simp [le4_length]), at4_app' _ _ 0 _ (by simp [le4_length]), at4_le4 _ (by omega)]
  have a32 : at4 (S ++ (le4 kind.toNat ++ (le4 addr.toNat ++ (le4 stamp.toNat ++ (le4 refs.length ++ (le4 body.length ++ (refsBytes refs ++ (List.replicate (128 - 8 * refs.length) 0 ++ (body ++ List.replicate (860 - body.length) 0))))))))) 32 = body.length := by
    rw [at4_app' _ _ 16 _ (by omega), at4_app' _ _ 12 _ (by simp [le4_length]), at4_app' _ _ 8 _ (by simp [le4_length]), at4_app' _ _ 4 _ (by simp [le4_length]), at4_app' _ _ 0 _ (by simp [le4_length]), at4_le4 _ (by omega)]
  have hsplit : S ++ (le4 kind.toNat ++ (le4 addr.toNat ++ (le4 stamp.toNat ++ (le4 refs.length ++ (le4 body.length ++ (refsBytes refs ++ (List.replicate (128 - 8 * refs.length) 0 ++ (body ++ List.replicate (860 - body.length) 0)))))))) = (S ++ GB.head (kind, (addr, stamp, ()), refs, body, ())) ++ (refsBytes refs ++ (List.replicate (128 - 8 * refs.length) 0 ++ (body ++ List.replicate (860 - body.length) 0))) := by
    simp [GB.head]
  have hpre : (S ++ GB.head (kind, (addr, stamp, ()), refs, body, ())).length = 36 := by rw [List.length_append, hS]; rfl
  have aref : ∀ i, (h : i < refs.length) → ∀ j, j < 8 → at4 (S ++ (le4 kind.toNat ++ (le4 addr.toNat ++ (le4 stamp.toNat ++ (le4 refs.length ++ (le4 body.length ++ (refsBytes refs ++ (List.replicate (128 - 8 * refs.length) 0 ++ (body ++ List.replicate (860 - body.length) 0))))))))) (36 + 8 * i + j) = at4 (refsBytes refs ++ (List.replicate (128 - 8 * refs.length) 0 ++ (body ++ List.replicate (860 - body.length) 0))) (8 * i + j) := by
    intro i h j hj
    rw [hsplit, at4_app' _ _ (8 * i + j) _ (by rw [hpre]; omega)]
  unfold GB.parse
  rw [a16, a20, a24, a28, a32]
  have hrefs : (List.range refs.length).map (fun i => ((at4 (S ++ (le4 kind.toNat ++ (le4 addr.toNat ++ (le4 stamp.toNat ++ (le4 refs.length ++ (le4 body.length ++ (refsBytes refs ++ (List.replicate (128 - 8 * refs.length) 0 ++ (body ++ List.replicate (860 - body.length) 0))))))))) (36 + 8 * i) : Int), (at4 (S ++ (le4 kind.toNat ++ (le4 addr.toNat ++ (le4 stamp.toNat ++ (le4 refs.length ++ (le4 body.length ++ (refsBytes refs ++ (List.replicate (128 - 8 * refs.length) 0 ++ (body ++ List.replicate (860 - body.length) 0))))))))) (36 + 8 * i + 4) : Int), ())) = refs := by
    apply List.ext_getElem
    · simp
    · intro i h1 h2
      simp only [List.getElem_map, List.getElem_range]
      obtain ⟨e1, e2⟩ := at4_refs refs (List.replicate (128 - 8 * refs.length) 0 ++ (body ++ List.replicate (860 - body.length) 0)) hall i h2
      have f1 := aref i h2 0 (by omega)
      have f2 := aref i h2 4 (by omega)
      rw [Nat.add_zero] at f1
      rw [Nat.add_zero] at f1
      rw [f1, f2, e1, e2]
  rw [hrefs]
  have hbody : ((S ++ (le4 kind.toNat ++ (le4 addr.toNat ++ (le4 stamp.toNat ++ (le4 refs.length ++ (le4 body.length ++ (refsBytes refs ++ (List.replicate (128 - 8 * refs.length) 0 ++ (body ++ List.replicate (860 - body.length) 0))))))))).drop 164).take body.length = body := by
    have e1 : S ++ (le4 kind.toNat ++ (le4 addr.toNat ++ (le4 stamp.toNat ++ (le4 refs.length ++ (le4 body.length ++ (refsBytes refs ++ (List.replicate (128 - 8 * refs.length) 0 ++ (body ++ List.replicate (860 - body.length) 0)))))))) = ((S ++ GB.head (kind, (addr, stamp, ()), refs, body, ())) ++ (refsBytes refs ++ List.replicate (128 - 8 * refs.length) 0)) ++ (body ++ List.replicate (860 - body.length) 0) := by
      rw [hsplit]; simp
    have hl : ((S ++ GB.head (kind, (addr, stamp, ()), refs, body, ())) ++ (refsBytes refs ++ List.replicate (128 - 8 * refs.length) 0)).length = 164 := by
      rw [List.length_append, hpre, List.length_append, refsBytes_length, List.length_replicate]; omega
    rw [e1, ← hl, List.drop_left, List.take_left]
  rw [hbody]
  simp only [Prod.mk.injEq, and_true]
  omega
theorem GB.read_bytes (b : GBT) (h : GB.ok b = true) : GB.read (GB.bytes b) = (0, b) := by
  obtain ⟨_, _, hn, hb, _⟩ := GB.ok_spec h
  have hp := GB.parse_bytes b h
  have e1 : (GB.bytes b).drop 16 = GB.rest b := by unfold GB.bytes; rw [← Sha.sum_len (GB.rest b), List.drop_left]
  have e2 : (GB.bytes b).take 16 = Sha.sum (GB.rest b) := by unfold GB.bytes; rw [← Sha.sum_len (GB.rest b), List.take_left]
  have e3 : at4 (GB.bytes b) 28 = b.2.2.1.length := by
    have := congrArg (fun x : GBT => x.2.2.1.length) hp
    simpa [GB.parse] using this
  have e4 : at4 (GB.bytes b) 32 = b.2.2.2.1.length ∨ at4 (GB.bytes b) 32 > 860 := by
    have := congrArg (fun x : GBT => x.2.2.2.1.length) hp
    simp only [GB.parse, List.length_take, List.length_drop, GB.bytes_length b hn hb] at this
    omega
  have e5 : at4 (GB.bytes b) 32 = b.2.2.2.1.length := by
    have hh : GB.bytes b = (Sha.sum (GB.rest b) ++ (le4 b.1.toNat ++ (le4 b.2.1.1.toNat ++ (le4 b.2.1.2.1.toNat ++ le4 b.2.2.1.length)))) ++ (le4 b.2.2.2.1.length ++ (refsBytes b.2.2.1 ++ (List.replicate (128 - 8 * b.2.2.1.length) 0 ++ GB.tail b))) := by
      conv => lhs; unfold GB.bytes
      conv => lhs; rhs; unfold GB.rest GB.head
      simp
    rw [hh, at4_app' _ _ 0 _ (by simp [le4_length, Sha.sum_len]), at4_le4 _ (by omega)]
  clear e4
  unfold GB.read
  rw [if_neg (by rw [GB.bytes_length b hn hb]; simp), e1, e2, if_neg (by simp), e3, e5, if_neg (by omega), hp, if_pos ⟨h, rfl⟩]
theorem GB.read_cases (raw : List UInt8) : (GB.read raw).1 = 4 ∧ (GB.read raw).2 = GB.none_ ∨ (GB.read raw).1 = 12 ∧ (GB.read raw).2 = GB.none_ ∨
    GB.read raw = (0, GB.parse raw) ∧ GB.ok (GB.parse raw) = true ∧ GB.bytes (GB.parse raw) = raw := by
  unfold GB.read
  by_cases h1 : raw.length ≠ 1024
  · rw [if_pos h1]; exact .inl ⟨rfl, rfl⟩
  · rw [if_neg h1]
    by_cases h2 : Sha.sum (raw.drop 16) ≠ raw.take 16
    · rw [if_pos h2]; exact .inr (.inl ⟨rfl, rfl⟩)
    · rw [if_neg h2]
      by_cases h3 : 16 < at4 raw 28 ∨ 860 < at4 raw 32
      · rw [if_pos h3]; exact .inl ⟨rfl, rfl⟩
      · rw [if_neg h3]
        by_cases h4 : GB.ok (GB.parse raw) = true ∧ GB.rest (GB.parse raw) = raw.drop 16
        · rw [if_pos h4]
          refine .inr (.inr ⟨rfl, h4.1, ?_⟩)
          have h2' : Sha.sum (raw.drop 16) = raw.take 16 := by simpa using h2
          unfold GB.bytes
          rw [h4.2, h2', List.take_append_drop]
        · rw [if_neg h4]; exact .inl ⟨rfl, rfl⟩
end Go.Proofs.YtekdcjaljjlemaaDoor

/- A message's header, its bytes, how they are read back. Plain facts. No condition. -/
namespace Go.Proofs.YtekdcjaljjlemaaDoor
/-! ### Numbers of eight bytes, the lowest first -/
def le8 (n : Nat) : List UInt8 := le4 (n % 4294967296) ++ le4 (n / 4294967296)
def at8 (l : List UInt8) (p : Nat) : Nat := at4 l p + 4294967296 * at4 l (p + 4)
theorem le8_length (n : Nat) : (le8 n).length = 8 := rfl
theorem at8_lt (l : List UInt8) (p : Nat) : at8 l p < 18446744073709551616 := by
  have := at4_lt l p; have := at4_lt l (p + 4); unfold at8; omega
theorem at8_app' (a b : List UInt8) (p q : Nat) (h : q = a.length + p) : at8 (a ++ b) q = at8 b p := by
  unfold at8; rw [at4_app' a b p q h, at4_app' a b (p + 4) (q + 4) (by omega)]
theorem at8_le8 (n : Nat) (h : n < 18446744073709551616) (r : List UInt8) : at8 (le8 n ++ r) 0 = n := by
  unfold at8 le8
  rw [List.append_assoc, at4_le4 _ (Nat.mod_lt _ (by omega)), at4_app' _ _ 0 _ (by simp [le4_length]), at4_le4 _ (by omega)]
  omega
/-! ### A header: sixteen numbers: Command, Replica, Size, View, LogView, Op, Parent, Commit, Mark; Client (high, low); Request, Operation; Time; Address, Stamp -/
abbrev HdF := Nat → Int
def tenI : List Nat := [3, 4, 5, 6, 7, 8, 11, 12, 14, 15]
def numOk (x : Int) : Bool := decide (0 ≤ x) && decide (x ≤ 1073741824)
def Hd.ok (f : HdF) : Bool := decide (1 ≤ f 0) && decide (f 0 ≤ 31) && decide (0 ≤ f 1) && decide (f 1 ≤ 6) && decide (0 ≤ f 2) && decide (f 2 ≤ 1024) && tenI.all fun i => numOk (f i)
/-- The numbers are what Go's types hold. -/
def Hd.in_ (f : HdF) : Prop := 0 ≤ f 9 ∧ f 9 < 18446744073709551616 ∧ 0 ≤ f 10 ∧ f 10 < 18446744073709551616 ∧ 0 ≤ f 13 ∧ f 13 < 18446744073709551616
def four_ (f : HdF) (l : List Nat) : List UInt8 := l.flatMap fun i => le4 (f i).toNat
/-- The fields' bytes. -/
def Hd.mid (f : HdF) : List UInt8 := four_ f [0, 1, 2, 3, 4, 5, 6, 7, 8] ++ (le8 (f 10).toNat ++ (le8 (f 9).toNat ++ (four_ f [11, 12] ++ (le8 (f 13).toNat ++ four_ f [14, 15]))))
/-- What stands behind a header's seal, s being the body's. -/
def Hd.rest (f : HdF) (s : List UInt8) : List UInt8 := s ++ (Hd.mid f ++ List.replicate 148 0)
def Hd.head (f : HdF) (s : List UInt8) : List UInt8 := Sha.sum (Hd.rest f s) ++ Hd.rest f s
def Hd.bytes (f : HdF) (body : List UInt8) : List UInt8 := Hd.head f (Sha.sum body) ++ body
theorem Hd.mid_length (f : HdF) : (Hd.mid f).length = 76 := rfl
theorem Hd.rest_length (f : HdF) (s : List UInt8) (hs : s.length = 16) : (Hd.rest f s).length = 240 := by
  unfold Hd.rest; rw [List.length_append, List.length_append, Hd.mid_length, List.length_replicate, hs]
theorem Hd.head_length (f : HdF) (s : List UInt8) (hs : s.length = 16) : (Hd.head f s).length = 256 := by
  unfold Hd.head; rw [List.length_append, Sha.sum_len, Hd.rest_length f s hs]
/-- What the bytes of a header say. -/
def Hd.parse (r : List UInt8) : HdF := fun i =>
  if i < 9 then at4 r (32 + 4 * i) else if i = 9 then at8 r 76 else if i = 10 then at8 r 68 else if i = 11 then at4 r 84 else if i = 12 then at4 r 88 else if i = 13 then at8 r 92 else if i = 14 then at4 r 100 else at4 r 104
theorem Hd.parse_in (r : List UInt8) : Hd.in_ (Hd.parse r) := by
  have h1 := at8_lt r 76; have h2 := at8_lt r 68; have h3 := at8_lt r 92
  unfold Hd.in_ Hd.parse
  simp
  omega
/-- Two headers are the same. -/
def Hd.same (f g : HdF) : Prop := ∀ i, i < 16 → f i = g i
theorem Hd.ok_spec {f : HdF} (h : Hd.ok f = true) : (1 ≤ f 0 ∧ f 0 ≤ 31 ∧ 0 ≤ f 1 ∧ f 1 ≤ 6 ∧ 0 ≤ f 2 ∧ f 2 ≤ 1024) ∧ ∀ i ∈ tenI, 0 ≤ f i ∧ f i ≤ 1073741824 := by
  simp only [Hd.ok, Bool.and_eq_true, decide_eq_true_eq, List.all_eq_true, numOk] at h
  exact ⟨⟨h.1.1.1.1.1.1, h.1.1.1.1.1.2, h.1.1.1.1.2, h.1.1.1.2, h.1.1.2, h.1.2⟩, h.2⟩
theorem Hd.ok_nat {f : HdF} (h : Hd.ok f = true) : ∀ i ∈ [0, 1, 2, 3, 4, 5, 6, 7, 8, 11, 12, 14, 15], 0 ≤ f i ∧ f i < 4294967296 := by
  obtain ⟨h1, h2⟩ := Hd.ok_spec h
  intro i hi
  by_cases h3 : i < 3
  · have : i = 0 ∨ i = 1 ∨ i = 2 := by omega
    rcases this with rfl | rfl | rfl <;> omega
  · have := h2 i (by simp [tenI] at hi ⊢; omega)
    omega
theorem Hd.same_ok {f g : HdF} (h : Hd.same f g) : Hd.ok f = Hd.ok g := by
  unfold Hd.ok
  rw [h 0 (by omega), h 1 (by omega), h 2 (by omega)]
  congr 1
  simp only [tenI, List.all_cons, List.all_nil]
  rw [h 3 (by omega), h 4 (by omega), h 5 (by omega), h 6 (by omega), h 7 (by omega), h 8 (by omega), h 11 (by omega), h 12 (by omega), h 14 (by omega), h 15 (by omega)]
theorem Hd.same_mid {f g : HdF} (h : Hd.same f g) : Hd.mid f = Hd.mid g := by
  unfold Hd.mid four_
  simp only [List.flatMap_cons, List.flatMap_nil]
  rw [h 0 (by omega), h 1 (by omega), h 2 (by omega), h 3 (by omega), h 4 (by omega), h 5 (by omega), h 6 (by omega), h 7 (by omega), h 8 (by omega), h 9 (by omega), h 10 (by omega), h 11 (by omega), h 12 (by omega), h 13 (by omega), h 14 (by omega), h 15 (by omega)]
theorem at4_four (f : HdF) (l : List Nat) (r : List UInt8) (j i : Nat) (hj : l[j]? = some i) (hf : 0 ≤ f i ∧ f i < 4294967296) : (at4 (four_ f l ++ r) (4 * j) : Int) = f i := by
  induction l generalizing j with
  | nil => simp at hj
  | cons x l ih =>
    have e : four_ f (x :: l) ++ r = le4 (f x).toNat ++ (four_ f l ++ r) := by simp [four_]
    rw [e]
    cases j with
    | zero =>
      simp only [List.getElem?_cons_zero, Option.some.injEq] at hj
      subst hj
      rw [Nat.mul_zero, at4_le4 _ (by omega)]; omega
    | succ j =>
      simp only [List.getElem?_cons_succ] at hj
      rw [at4_app' _ _ (4 * j) _ (by rw [le4_length]; omega)]
      exact ih j hj
theorem four_length (f : HdF) (l : List Nat) : (four_ f l).length = 4 * l.length := by
  induction l with
  | nil => rfl
  | cons x l ih => unfold four_ at *; rw [List.flatMap_cons, List.length_append, ih, le4_length, List.length_cons]; omega
/-- What was written is read. -/
theorem Hd.parse_head (f : HdF) (S s t : List UInt8) (hS : S.length = 16) (hs : s.length = 16) (hok : Hd.ok f = true) (hin : Hd.in_ f) : Hd.same (Hd.parse (S ++ (s ++ (Hd.mid f ++ t)))) f := by
  have hn := Hd.ok_nat hok
  have h32 : (S ++ s).length = 32 := by rw [List.length_append, hS, hs]
  rw [← List.append_assoc]
  generalize S ++ s = Q at h32
  have e : Q ++ (Hd.mid f ++ t) = Q ++ (four_ f [0, 1, 2, 3, 4, 5, 6, 7, 8] ++ (le8 (f 10).toNat ++ (le8 (f 9).toNat ++ (four_ f [11, 12] ++ (le8 (f 13).toNat ++ (four_ f [14, 15] ++ t)))))) := by simp [Hd.mid]
  rw [e]
  obtain ⟨i1, i2, i3, i4, i5, i6⟩ := hin
  have l9 : (four_ f [0, 1, 2, 3, 4, 5, 6, 7, 8]).length = 36 := rfl
  have l2 : (four_ f [11, 12]).length = 8 := rfl
  have l2' : (four_ f [14, 15]).length = 8 := rfl
  intro i hi
  unfold Hd.parse
  by_cases h9 : i < 9
  · rw [if_pos h9, at4_app' _ _ (4 * i) _ (by omega)]
    exact at4_four f _ _ i i (by
      have : i = 0 ∨ i = 1 ∨ i = 2 ∨ i = 3 ∨ i = 4 ∨ i = 5 ∨ i = 6 ∨ i = 7 ∨ i = 8 := by omega
      rcases this with rfl | rfl | rfl | rfl | rfl | rfl | rfl | rfl | rfl <;> rfl) (hn i (by
      have : i = 0 ∨ i = 1 ∨ i = 2 ∨ i = 3 ∨ i = 4 ∨ i = 5 ∨ i = 6 ∨ i = 7 ∨ i = 8 := by omega
      simp; omega))
  · rw [if_neg h9]
    have : i = 9 ∨ i = 10 ∨ i = 11 ∨ i = 12 ∨ i = 13 ∨ i = 14 ∨ i = 15 := by omega
    rcases this with rfl | rfl | rfl | rfl | rfl | rfl | rfl
    · rw [if_pos rfl, at8_app' _ _ 44 _ (by omega), at8_app' _ _ 8 _ (by omega), at8_app' _ _ 0 _ (by rw [le8_length]), at8_le8 _ (by omega)]; omega
    · rw [if_neg (by omega), if_pos rfl, at8_app' _ _ 36 _ (by omega), at8_app' _ _ 0 _ (by omega), at8_le8 _ (by omega)]; omega
    · simp only [show ¬ (11 = 9) by omega, show ¬ (11 = 10) by omega, if_false, if_true]
      rw [at4_app' _ _ 52 _ (by omega), at4_app' _ _ 16 _ (by omega), at4_app' _ _ 8 _ (by rw [le8_length]), at4_app' _ _ 0 _ (by rw [le8_length])]
      exact at4_four f [11, 12] _ 0 11 rfl (hn 11 (by simp))
    · simp only [show ¬ (12 = 9) by omega, show ¬ (12 = 10) by omega, show ¬ (12 = 11) by omega, if_false, if_true]
      rw [at4_app' _ _ 56 _ (by omega), at4_app' _ _ 20 _ (by omega), at4_app' _ _ 12 _ (by rw [le8_length]), at4_app' _ _ 4 _ (by rw [le8_length])]
      exact at4_four f [11, 12] _ 1 12 rfl (hn 12 (by simp))
    · simp only [show ¬ (13 = 9) by omega, show ¬ (13 = 10) by omega, show ¬ (13 = 11) by omega, show ¬ (13 = 12) by omega, if_false, if_true]
      rw [at8_app' _ _ 60 _ (by omega), at8_app' _ _ 24 _ (by omega), at8_app' _ _ 16 _ (by rw [le8_length]), at8_app' _ _ 8 _ (by rw [le8_length]), at8_app' _ _ 0 _ (by rw [l2]), at8_le8 _ (by omega)]; omega
    · simp only [show ¬ (14 = 9) by omega, show ¬ (14 = 10) by omega, show ¬ (14 = 11) by omega, show ¬ (14 = 12) by omega, show ¬ (14 = 13) by omega, if_false, if_true]
      rw [at4_app' _ _ 68 _ (by omega), at4_app' _ _ 32 _ (by omega), at4_app' _ _ 24 _ (by rw [le8_length]), at4_app' _ _ 16 _ (by rw [le8_length]), at4_app' _ _ 8 _ (by rw [l2]), at4_app' _ _ 0 _ (by rw [le8_length])]
      exact at4_four f [14, 15] _ 0 14 rfl (hn 14 (by simp))
    · simp only [show ¬ (15 = 9) by omega, show ¬ (15 = 10) by omega, show ¬ (15 = 11) by omega, show ¬ (15 = 12) by omega, show ¬ (15 = 13) by omega, show ¬ (15 = 14) by omega, if_false]
      rw [at4_app' _ _ 72 _ (by omega), at4_app' _ _ 36 _ (by omega), at4_app' _ _ 28 _ (by rw [le8_length]), at4_app' _ _ 20 _ (by rw [le8_length]), at4_app' _ _ 12 _ (by rw [l2]), at4_app' _ _ 4 _ (by rw [le8_length])]
      exact at4_four f [14, 15] _ 1 15 rfl (hn 15 (by simp))
/-! ### Which header, which message bytes are -/
def Hd.none_ : HdF := fun _ => 0
def Hd.read (r : List UInt8) : Int × HdF :=
  if r.length ≠ 256 then (4, Hd.none_)
  else if Sha.sum (r.drop 16) ≠ r.take 16 then (12, Hd.none_)
  else if Hd.ok (Hd.parse r) = true ∧ Hd.rest (Hd.parse r) ((r.drop 16).take 16) = r.drop 16 then (0, Hd.parse r) else (4, Hd.none_)
def Msg.read (r : List UInt8) : Int × HdF × List UInt8 :=
  if r.length < 256 then (4, Hd.none_, [])
  else if (Hd.read (r.take 256)).1 ≠ 0 then ((Hd.read (r.take 256)).1, Hd.none_, [])
  else if ((r.length - 256 : Nat) : Int) ≠ Hd.parse (r.take 256) 2 then (4, Hd.none_, [])
  else if Sha.sum (r.drop 256) ≠ (r.drop 16).take 16 then (12, Hd.none_, []) else (0, Hd.parse (r.take 256), r.drop 256)
theorem Hd.read_cases (r : List UInt8) : (Hd.read r = (4, Hd.none_) ∨ Hd.read r = (12, Hd.none_)) ∨ (Hd.read r = (0, Hd.parse r) ∧ r.length = 256 ∧ Hd.ok (Hd.parse r) = true ∧ Hd.head (Hd.parse r) ((r.drop 16).take 16) = r) := by
  unfold Hd.read
  by_cases h1 : r.length ≠ 256
  · rw [if_pos h1]; exact .inl (.inl rfl)
  rw [if_neg h1]
  by_cases h2 : Sha.sum (r.drop 16) ≠ r.take 16
  · rw [if_pos h2]; exact .inl (.inr rfl)
  rw [if_neg h2]
  by_cases h3 : Hd.ok (Hd.parse r) = true ∧ Hd.rest (Hd.parse r) ((r.drop 16).take 16) = r.drop 16
  · rw [if_pos h3]
    refine .inr ⟨rfl, by simpa using h1, h3.1, ?_⟩
    unfold Hd.head
    rw [h3.2, show Sha.sum (r.drop 16) = r.take 16 by simpa using h2, List.take_append_drop]
  · rw [if_neg h3]; exact .inl (.inl rfl)
theorem Hd.read_head (f : HdF) (s : List UInt8) (hs : s.length = 16) (hok : Hd.ok f = true) (hin : Hd.in_ f) : (Hd.read (Hd.head f s)).1 = 0 ∧ Hd.same (Hd.read (Hd.head f s)).2 f := by
  have hsame : Hd.same (Hd.parse (Hd.head f s)) f := Hd.parse_head f _ s _ (Sha.sum_len _) hs hok hin
  have e1 : (Hd.head f s).drop 16 = Hd.rest f s := by unfold Hd.head; rw [← Sha.sum_len (Hd.rest f s), List.drop_left]
  have e2 : (Hd.head f s).take 16 = Sha.sum (Hd.rest f s) := by unfold Hd.head; rw [← Sha.sum_len (Hd.rest f s), List.take_left]
  have e3 : (Hd.rest f s).take 16 = s := by unfold Hd.rest; rw [← hs, List.take_left]
  have e4 : Hd.rest (Hd.parse (Hd.head f s)) s = Hd.rest f s := by unfold Hd.rest; rw [Hd.same_mid hsame]
  unfold Hd.read
  rw [if_neg (by rw [Hd.head_length f s hs]; simp), e1, e2, if_neg (by simp), e3, e4, if_pos ⟨by rw [Hd.same_ok hsame]; exact hok, rfl⟩]
  exact ⟨rfl, hsame⟩
end Go.Proofs.YtekdcjaljjlemaaDoor

/- Loads of whole arrays and structs out of the middle of a block. Plain facts. Condition: the cells are known. -/
namespace Go.Proofs.YtekdcjaljjlemaaDoor
open Go.RowKit
/-- A load of a whole array or struct out of the middle of a block. -/
theorem wpList_load_mid {P : Program} {w : World} {Q : Exit → Act → World → Prop} {ops : Array Oper} {rest : List Oper} {o : Oper} {a : Act} {b off : Nat} {cs : List Value} (hb : w.rangeAt b off cs) (hgd : o.guard = none) (ty : TypeId) (x : Operand) (ho : o.op = .load ty x)
    (hx : a.eval x = .pointer (some ⟨b, off, none⟩)) (d : TypeDesc) (hu : P.underlying ty = some d) (hd : d.isRow = true) {n : Nat} (hi : (P.info? ty).map (·.size) = some n) (hn : cs.length = n)
    (h : wpList P ops Q rest (a.put o.dst (.agg cs.toArray)) w) : wpList P ops Q (o :: rest) a w :=
  wpList_run (.agg cs.toArray) hgd (by
    unfold execOp
    simp only [ho, hx, Instr.loadAt, Instr.sureAddr, Sem.run_bind, Sem.run_pure, Result.andThen_ok, run_loadVar_mid w b off ty cs d hb hu hd (hn ▸ hi)]) h
theorem range2 {w : World} {b off : Nat} {u v : Value} (h1 : w.cell? ⟨b, off, none⟩ = some u) (h2 : w.cell? ⟨b, off + 1, none⟩ = some v) : w.rangeAt b off [u, v] := fun j x hx => by
  match j with
  | 0 => simp at hx; subst hx; exact h1
  | 1 => simp at hx; subst hx; exact h2
theorem Blk.range {w : World} {b : Nat} {t : TypeId} {cs : Array Value} (h : Blk w b t cs) (o : Nat) (l : List Value) (hl : ∀ j v, l[j]? = some v → cs[o + j]? = some v) : w.rangeAt b o l := fun j v hv => h.at_ (o + j) (hl j v hv)
end Go.Proofs.YtekdcjaljjlemaaDoor

/- A region that draws its order, by a plan, inside a fence (the round of a loop over an iterator, too): operations that call nothing. Plain facts over any program. No condition. -/
namespace Go
section
variable {P : Program} {ops : Array Oper} {md : Region.Mode} {F : Fence} {n : Nat}
/-- An operation that yields a value or nothing, and calls nothing. -/
def Op.calmB : Op → Bool
  | .store .. => true
  | .call _ => false
  | o => o.stillB
theorem calm_about {o : Oper} (h : o.op.calmB = true) (w : World) (ρ : Operand → Value) : o.about P w ρ = none := by
  unfold Oper.about
  cases ho : o.op <;> first | rfl | skip
  rw [ho] at h
  simp [Op.calmB] at h
theorem calm_semAt {o : Oper} (h : o.op.calmB = true) (ρ : Operand → Value) (ro : Option Nat) : Oper.semAt ro ρ o = execOp ρ o :=
  Oper.semAt_eq ro ρ o fun c hc => by rw [hc] at h; simp [Op.calmB, Op.stillB, Op.valued] at h
theorem calm_run {o : Oper} (h : o.op.calmB = true) (ρ : Operand → Value) (w w' : World) (x : Next) (hr : (execOp ρ o).run P w = .ok x w') : (∃ v, x = .value v) ∨ x = .skip := by
  by_cases hs : o.op.stillB = true
  · exact .inl (still_run hs ρ w w' x hr)
  · obtain ⟨dst, op, type, pos, after, guard⟩ := o
    cases op
    case store t x y =>
      right
      simp only [execOp, Sem.run_bind] at hr
      generalize (Instr.storeAt _ _ _).run P w = r at hr
      cases r with
      | ok x w2 => simp only [Result.andThen_ok, Sem.run_pure, Result.ok.injEq] at hr; exact hr.1.symm
      | halt x w2 => simp [Result.andThen] at hr
    all_goals first | exact absurd h hs | (simp [Op.calmB] at h; done)
/-- The same ends but the machine's outgrowing. -/
def strict (Q : Exit → Act → World → Prop) : Exit → Act → World → Prop
  | .outgrown, _, _ => False
  | e, a, w => Q e a w
theorem strict_le (Q : Exit → Act → World → Prop) (e : Exit) (a : Act) (w : World) (h : strict Q e a w) : Q e a w := by
  cases e <;> first | exact h | exact h.elim
@[go_sem] theorem strict_normal (Q : Exit → Act → World → Prop) (a : Act) (w : World) : strict Q .normal a w = Q .normal a w := rfl
theorem opIn_of_op {Q : Exit → Act → World → Prop} {i : Nat} {K K' : Act → World → Prop} {a : Act} {w : World} (hc : (ops.all fun o => o.op.calmB) = true) (hk : ∀ a w, K a w → K' a w)
    (h : wpOp P ops (strict Q) i K a w) : wpOpIn F n P ops Q i K' a w := by
  unfold wpOp at h
  unfold wpOpIn
  cases ho : ops[i]? with
  | none => rw [ho] at h; exact hk _ _ h
  | some o =>
    rw [ho] at h
    have hco : o.op.calmB = true := by
      have := Array.all_eq_true'.1 hc o (Array.mem_of_getElem? ho)
      simpa using this
    simp only at h ⊢
    split
    · rename_i hw
      rw [if_pos hw] at h
      have hlet : ¬ LetsOut (strict Q) := fun ⟨_, _, hq⟩ => hq
      have h1 := h.resolve_right fun hh => hlet hh.2
      unfold Oper.wp at h1
      unfold Oper.wpIn
      refine ⟨fun f hf => (by rw [calm_about hco] at hf; cases hf), ?_⟩
      rw [calm_semAt hco]
      cases hr : (execOp a.eval o).run P w with
      | ok x w' =>
        rw [hr] at h1
        rcases calm_run hco _ _ _ _ hr with ⟨v, rfl⟩ | rfl
        · exact hk _ _ h1
        · exact hk _ _ h1
      | halt x w' =>
        rw [hr] at h1
        cases x <;> first | exact h1 | exact h1.elim
    · rename_i hw
      rw [if_neg hw] at h
      exact ⟨fun f hf => (by rw [calm_about hco] at hf; cases hf), hk _ _ h⟩
theorem anyIn_of_any {Q : Exit → Act → World → Prop} (hc : (ops.all fun o => o.op.calmB) = true) : ∀ (fuel : Nat) (s : Array Bool) (a : Act) (w : World), wpAny P md ops (strict Q) fuel s a w → wpAnyIn F n P md ops Q fuel s a w
  | 0, _, _, _, h => h
  | fuel + 1, _, _, _, h => ⟨h.1, fun i hi => opIn_of_op hc (fun a w => anyIn_of_any hc fuel _ a w) (h.2 i hi)⟩
/-- The plain end alone. -/
def tidy (Q : Exit → Act → World → Prop) : Exit → Act → World → Prop
  | .normal, a, w => Q .normal a w
  | _, _, _ => False
theorem tidy_le (Q : Exit → Act → World → Prop) (e : Exit) (a : Act) (w : World) (h : tidy Q e a w) : Q e a w := by
  cases e <;> first | exact h | exact h.elim
@[go_sem] theorem tidy_normal (Q : Exit → Act → World → Prop) (a : Act) (w : World) : tidy Q .normal a w = Q .normal a w := rfl
theorem wpPlan_tidy {C : World → Prop} {Z : List Nat} {Q : Exit → Act → World → Prop} {a : Act} {w : World} (h : Q .normal a w) : wpPlan P ops C Z (tidy Q) [] a w := h
theorem strict_tidy (Q : Exit → Act → World → Prop) : strict (tidy Q) = tidy Q := by
  funext e a w
  cases e <;> rfl
/-- **THE REGION, BY A PLAN, where it neither panics nor outgrows the machine.** -/
theorem wp_region_planT {id : Nat} {a : Act} {w : World} {l : List Oper} {Q : Exit → Act → World → Prop} (C : World → Prop) (Z : List Nat) (pl : List (Bool × Nat)) (hm : P.follows .mixedOrders = true)
    (hB : (Region.noSelect l.toArray && Region.planB .any l.toArray Z pl (Array.replicate l.toArray.size false) && Region.planZ Z pl true && decide (pl.length = l.toArray.size)) = true)
    (hC : C w.drew) (h : wpPlan P l.toArray C Z (tidy Q) pl a w.drew) : (Code.region id l.toArray true).wp P Q a w :=
  wp_mono (wp_region_plan C Z pl hm hB (fun _ _ _ _ _ q => q.elim) hC h) (tidy_le Q)
/-- **THE REGION, BY A PLAN, INSIDE A FENCE.** -/
theorem wpIn_region_planT {id : Nat} {a : Act} {w : World} {l : List Oper} {Q : Exit → Act → World → Prop} (C : World → Prop) (Z : List Nat) (pl : List (Bool × Nat)) (hm : P.follows .mixedOrders = true)
    (hB : (Region.noSelect l.toArray && Region.planB .any l.toArray Z pl (Array.replicate l.toArray.size false) && Region.planZ Z pl true && decide (pl.length = l.toArray.size)) = true)
    (hc : (l.toArray.all fun o => o.op.calmB) = true)
    (hC : C w.drew) (h : wpPlan P l.toArray C Z (tidy Q) pl a w.drew) : (Code.region id l.toArray true).wpIn F n P Q a w := by
  simp only [Bool.and_eq_true, decide_eq_true_eq] at hB
  obtain ⟨⟨⟨h1, h2⟩, h3⟩, h4⟩ := hB
  refine wpIn_mono (wpIn_region_any (Q := tidy Q) hm (anyIn_of_any hc _ _ _ _ ?_)) (tidy_le Q)
  rw [← h4, strict_tidy]
  exact wpAny_of_C _ _ _ _ (anyC_of_plan h1 (fun _ _ _ _ _ q => q.elim) pl true _ a w.drew (by rw [h4]; exact h2) h3 (fun _ => hC) h)
end
end Go

/- The fields of a header as pointers. No condition. -/
namespace Go.Proofs.YtekdcjaljjlemaaDoor
open Go.RowKit
def pt (hb i : Nat) : Value := .pointer (some ⟨hb, i, none⟩)
def pts (hb : Nat) (l : List Nat) : Array Value := (l.map (pt hb)).toArray
theorem results_cells3 {P : Program} {fn : Func} {p1 p2 p3 : Tmp} {t1 t2 t3 : TypeId} (h : fn.results = #[.cell p1 t1, .cell p2 t2, .cell p3 t3]) (tmps : Array Value) (w : World) (g1 g2 g3 : Nat) (v1 v2 v3 : Value)
    (hp1 : tmps.getD p1 undef = .pointer (some ⟨g1, 0, none⟩)) (hp2 : tmps.getD p2 undef = .pointer (some ⟨g2, 0, none⟩)) (hp3 : tmps.getD p3 undef = .pointer (some ⟨g3, 0, none⟩))
    (h1 : (loadVar t1 ⟨g1, 0, none⟩).run P w = .ok v1 w) (h2 : (loadVar t2 ⟨g2, 0, none⟩).run P w = .ok v2 w) (h3 : (loadVar t3 ⟨g3, 0, none⟩).run P w = .ok v3 w) :
    (results fn tmps).run P w = .ok (.tuple #[v1, v2, v3]) w := by
  have hp1' : tmps[p1]?.getD undef = .pointer (some ⟨g1, 0, none⟩) := by simpa using hp1
  have hp2' : tmps[p2]?.getD undef = .pointer (some ⟨g2, 0, none⟩) := by simpa using hp2
  have hp3' : tmps[p3]?.getD undef = .pointer (some ⟨g3, 0, none⟩) := by simpa using hp3
  simp [results, h, hp1', hp2', hp3', asAddr, h1, h2, h3]
theorem size9p : (Tryd.prog.info? 72).map (·.size) = some 9 := by kernel_rfl
theorem size2p : (Tryd.prog.info? 73).map (·.size) = some 2 := by kernel_rfl
theorem numbers_any (hb : Nat) (w : World) :
    Calls Tryd.prog 37 #[.pointer (some ⟨hb, 0, none⟩)] w fun e w' => e = .returned (.tuple #[.agg (pts hb [0, 1, 2, 3, 4, 5, 6, 7, 8]), .agg (pts hb [11, 12]), .agg (pts hb [14, 15])]) ∧ Below w.heap.size w w' := by
  go_enter Tryd.func37, Tryd.ntmps37
  go_wp2_with fail
  refine wp_region_planT (fun _ => True) [44] [(true, 0), (true, 1), (true, 2), (true, 3), (true, 4), (true, 5), (true, 6), (true, 7), (true, 8), (true, 9), (true, 10), (true, 11), (true, 12), (true, 13), (true, 14), (true, 15), (true, 16), (true, 17), (true, 18), (true, 19), (true, 20), (true, 21), (true, 22), (true, 23), (true, 24), (true, 25), (true, 26), (true, 27), (true, 28), (true, 29), (true, 30), (true, 31), (true, 32), (true, 33), (true, 34), (true, 35), (true, 36), (true, 37), (true, 38), (true, 39), (true, 40), (true, 41), (false, 42), (false, 43), (false, 44)] (by kernel_rfl) (by kernel_rfl) (trivial) ?_
  refine wpPlan_pure [0, 1, 2, 3, 4, 5, 6, 7, 8, 9, 10, 11, 12, 13, 14, 15, 16, 17, 18, 19, 20, 21, 22, 23, 24, 25, 26, 27, 28, 29, 30, 31, 32, 33, 34, 35, 36, 37, 38, 39, 40, 41] [(false, 42), (false, 43), (false, 44)] _ (by rfl) (by rfl) ?_
  dsimp only [List.filterMap, List.getElem?_cons_zero, List.getElem?_cons_succ]
  repeat (go_big_quiet_step (fail))
  refine wpQuiet_nil ?_
  refine wpPlan_forceL _ rfl ?_
  go_wp2_with fail
  refine PlanQ.in_ trivial ?_
  refine wpPlan_forceL _ rfl ?_
  go_wp2_with fail
  refine PlanQ.in_ trivial ?_
  refine wpPlan_forceL _ rfl ?_
  go_wp2_with fail
  refine PlanQ.in_ trivial ?_
  refine wpPlan_tidy ?_
  go_wp2
  have b1 := Blk.new w 72 (pts hb [0, 1, 2, 3, 4, 5, 6, 7, 8])
  have b2 := Blk.new (w.alloc (.cells (pts hb [0, 1, 2, 3, 4, 5, 6, 7, 8]) 72)) 73 (pts hb [11, 12])
  have b3 := Blk.new ((w.alloc (.cells (pts hb [0, 1, 2, 3, 4, 5, 6, 7, 8]) 72)).alloc (.cells (pts hb [11, 12]) 73)) 73 (pts hb [14, 15])
  replace b1 := (b1.alloc (.cells (pts hb [11, 12]) 73)).alloc (.cells (pts hb [14, 15]) 73)
  replace b2 := b2.alloc (.cells (pts hb [14, 15]) 73)
  rw [show (w.alloc (.cells (pts hb [0, 1, 2, 3, 4, 5, 6, 7, 8]) 72)).heap.size = w.heap.size + 1 by simp] at b2
  rw [show ((w.alloc (.cells (pts hb [0, 1, 2, 3, 4, 5, 6, 7, 8]) 72)).alloc (.cells (pts hb [11, 12]) 73)).heap.size = w.heap.size + 1 + 1 by simp] at b3
  have hB := ((((Below.refl w.heap.size w).alloc (Nat.le_refl _) (.cells (pts hb [0, 1, 2, 3, 4, 5, 6, 7, 8]) 72)).alloc (by simp) (.cells (pts hb [11, 12]) 73)).alloc (by simp; omega) (.cells (pts hb [14, 15]) 73)).drew
  refine bodyPost_ret (results_cells3 (by rfl) _ _ w.heap.size (w.heap.size + 1) (w.heap.size + 1 + 1) _ _ _ (by rfl) (by rfl) (by rfl)
    (run_loadVar_row _ _ _ _ _ _ _ b1.drew Tryd.underlying72 (by rfl) size9p) (run_loadVar_row _ _ _ _ _ _ _ b2.drew Tryd.underlying73 (by rfl) size2p) (run_loadVar_row _ _ _ _ _ _ _ b3.drew Tryd.underlying73 (by rfl) size2p)) rfl ⟨rfl, hB⟩
end Go.Proofs.YtekdcjaljjlemaaDoor

/- Append onto a slice that is full: the list stands in a new block, whatever the old one lay in. Plain facts over any program. No condition. -/
namespace Go
open Go.RowKit
section
variable {P : Program} (w : World)
theorem run_append_full (base : Nat) (t ty e : TypeId) (i : TypeInfo) (z : Value) (size bytes : Nat) (ht : P.underlying t = some (.slice e)) (hi : P.info? e = some i) (hz : i.zero = some z)
    (hsize : i.size = size) (hby : i.bytes = bytes) (hzs : z.cells.size = size) (hsz : 0 < size)
    (A0 : Option Addr) (n : Nat) (olds : List Value) (hl0 : olds.length = n * size) (hn0 : 0 < n) (hr0 : Reads w A0 olds)
    (A : Option Addr) (m c : Nat) (news : List Value) (hl : news.length = m * size) (hr : Reads w A news) (hm : 0 < m)
    (h63 : n + m ≤ maxLen) (hbytes : (n + m) * bytes ≤ 140737488355328) (hbase : base ≤ w.heap.size) :
    ∃ v' w' sp', (Builtin.append_ #[t, t] ty #[.slice A0 n n, .slice A m c]).run P w = .ok v' w' ∧ OwnsC e size w' base v' (n + m) (olds ++ news) sp' ∧ w.grownBy w' none ∧ v'.ownBlock = some w.heap.size := by
  subst hsize
  subst hby
  have hne : news ≠ [] := by intro h; have := Nat.mul_pos hm hsz; rw [h] at hl; simp only [List.length_nil] at hl; omega
  have hne0 : olds ≠ [] := by intro h; have := Nat.mul_pos hn0 hsz; rw [h] at hl0; simp only [List.length_nil] at hl0; omega
  obtain ⟨b, off, rfl, hc⟩ := hr hne
  obtain ⟨g, o0, rfl, hc0⟩ := hr0 hne0
  have hnews : ∀ j u, news[j]? = some u → w.cell? ((⟨b, off, none⟩ : Addr).add j) = some u := fun j u hu => by rw [Addr.add_lit]; exact hc j u hu
  have holds : ∀ j u, olds[j]? = some u → w.cell? ((⟨g, o0, none⟩ : Addr).add j) = some u := fun j u hu => by rw [Addr.add_lit]; exact hc0 j u hu
  have hsmall : n + m ≤ 9223372036854775807 := by simp only [maxLen] at h63; omega
  have hlen : (olds ++ news).length = (n + m) * i.size := by rw [List.length_append, hl0, hl, Nat.add_mul]
  have hrun := run_append_grow (P := P) w t ty e i z ht hi hz ⟨g, o0, none⟩ n n olds hl0 holds ⟨b, off, none⟩ m c news hl hnews (by omega) (by omega) (growslice_fits (by omega) hbytes)
  refine ⟨_, _, (Builtin.zeroCells z.cells (grownCap w (n + m) n e - (n + m))).toList, hrun, .inr ⟨w.heap.size, _, rfl, hbase, ?_, grownCap_ge w (n + m) n e, grownCap_le_maxLen w (n + m) n e h63, hlen, ?_⟩, ⟨rfl, rfl, rfl, by simp, fun k (hk : k < w.drew.heap.size) _ => Below.heap_alloc w.drew _ k hk⟩, rfl⟩
  · have := Blk.new w.drew e (olds.toArray ++ news.toArray ++ Builtin.zeroCells z.cells (grownCap w (n + m) n e - (n + m)))
    refine this.sub ?_
    simp
  · rw [Array.length_toList, size_zeroCells, hzs]
end
section
variable {P : Program} {w : World}
theorem wpList_append_full {ops : Array Oper} {rest : List Oper} {o : Oper} {a : Act} {Q : Exit → Act → World → Prop} (hgd : o.guard = none) (s x : Operand) (t : TypeId)
    (ho : o.op = .call { callee := .builtin .append, args := #[s, x], argTypes := #[t, t] })
    (base : Nat) (e : TypeId) (z : Value) (size bytes : Nat) (ht : P.underlying t = some (.slice e)) (hi : (P.info? e).map (fun i => (i.zero, i.size, i.bytes)) = some (some z, size, bytes)) (hzs : z.cells.size = size) (hsz : 0 < size)
    (A0 : Option Addr) (n : Nat) (olds : List Value) (hs : a.eval s = .slice A0 n n) (hl0 : olds.length = n * size) (hn0 : 0 < n) (hr0 : Reads w A0 olds)
    (A : Option Addr) (m c : Nat) (news : List Value) (hx : a.eval x = .slice A m c) (hl : news.length = m * size) (hr : Reads w A news) (hm : 0 < m)
    (h63 : n + m ≤ maxLen) (hbytes : (n + m) * bytes ≤ 140737488355328) (hbase : base ≤ w.heap.size)
    (h : ∀ v' w' sp', OwnsC e size w' base v' (n + m) (olds ++ news) sp' → Below w.heap.size w w' → v'.ownBlock = some w.heap.size → wpList P ops Q rest (a.put o.dst v') w') : wpList P ops Q (o :: rest) a w := by
  refine wpList_plain hgd fun _ hK => ?_
  obtain ⟨i, hi0, hz, hsize, hby⟩ := info_parts hi
  obtain ⟨v', w', sp', hrun, h2, h3, h4⟩ := run_append_full (P := P) w base t o.type e i z size bytes ht hi0 hz hsize hby hzs hsz A0 n olds hl0 hn0 hr0 A m c news hl hr hm h63 hbytes hbase
  unfold Oper.wp execOp
  simp only [ho, resolve, invoke, builtin, Sem.run_bind, Sem.run_pure, Result.andThen_ok, List.map_toArray, List.map_cons, List.map_nil, hs, hx, hrun]
  exact hK _ _ (h v' w' sp' h2 ((Below.refl _ _).grown h3 (Nat.le_refl _) (fun k hk => by cases hk)) h4)
/-- The same of an own list. -/
theorem wpList_append_all {ops : Array Oper} {rest : List Oper} {o : Oper} {a : Act} {Q : Exit → Act → World → Prop} (hgd : o.guard = none) (s x : Operand) (t : TypeId)
    (ho : o.op = .call { callee := .builtin .append, args := #[s, x], argTypes := #[t, t] })
    (base : Nat) (e : TypeId) (z : Value) (size bytes : Nat) (ht : P.underlying t = some (.slice e)) (hi : (P.info? e).map (fun i => (i.zero, i.size, i.bytes)) = some (some z, size, bytes)) (hzs : z.cells.size = size) (hsz : 0 < size)
    (v : Value) (n : Nat) (xs sp : List Value) (hs : a.eval s = v) (hown : OwnsC e size w base v n xs sp)
    (A : Option Addr) (m c : Nat) (news : List Value) (hx : a.eval x = .slice A m c) (hl : news.length = m * size) (hr : Reads w A news) (h1 : ∀ u ∈ news, u.oneCell' = true)
    (h63 : n + m ≤ maxLen) (hbytes : (n + m) * bytes ≤ 140737488355328) (hbase : base ≤ w.heap.size)
    (h : ∀ v' w' sp', OwnsC e size w' base v' (n + m) (xs ++ news) sp' → w.grownBy w' v.ownBlock → wpList P ops Q rest (a.put o.dst v') w') : wpList P ops Q (o :: rest) a w :=
  wpList_plain hgd fun _ hK => wp_append_all s x t ho base e z size bytes ht hi hzs hsz v n xs sp hs hown A m c news hx hl hr h1 h63 hbytes hbase fun v' w' sp' h1 h2 _ _ _ => hK _ _ (h v' w' sp' h1 h2)
end
end Go
