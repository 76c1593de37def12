/- What the kit asks of lists that shall share no memory: each is written over, and the others stay. Conditions: they lie whole in blocks of their own, or are nil. -/
import Derived.Test.YtfpcldnefpmgcaaOver
import Derived.Test.YtfpcldnefpmgcaaKnown10
namespace Go
open Go.RowKit
/-- A list that lies whole in a block, or none: its address, its length, all its bytes up to its capacity. -/
structure Ent where
  A : Option Addr
  n : Nat
  l : List UInt8
def Ent.val (e : Ent) : Value := .slice e.A e.n e.l.length
def Ent.blk (e : Ent) : Option Nat := e.A.map (·.block)
def Ent.Is (w : World) (e : Ent) : Prop :=
  e.n ≤ e.l.length ∧ e.l.length ≤ 140737488351232 ∧ ((e.A = none ∧ e.l = []) ∨ ∃ g t, e.A = some ⟨g, 0, none⟩ ∧ Blk w g t (e.l.map u8v).toArray)
theorem Ent.Is.bytes {w : World} {e : Ent} (h : e.Is w) : Bytes w e.A e.l := by
  obtain ⟨_, _, ⟨h1, h2⟩ | ⟨g, t, h1, h2⟩⟩ := h
  · rw [h1, h2]; exact Reads.nil _ _
  · rw [h1]; exact h2.bytes
theorem Ent.Is.kept {w w' : World} {row : Option Nat} {e : Ent} (h : e.Is w) (hg : w.grownBy w' row) (hne : ∀ g, e.blk = some g → some g ≠ row) : e.Is w' := by
  obtain ⟨h1, h2, h3 | ⟨g, t, h3, h4⟩⟩ := h
  · exact ⟨h1, h2, .inl h3⟩
  · exact ⟨h1, h2, .inr ⟨g, t, h3, (hg.block g h4.lt (hne g (by unfold Ent.blk; rw [h3]; rfl))).trans h4⟩⟩
theorem Ent.Is.below {w w' : World} {e : Ent} {B : Nat} (h : e.Is w) (hb : Below B w w') (hlt : ∀ g, e.blk = some g → g < B) : e.Is w' := by
  obtain ⟨h1, h2, h3 | ⟨g, t, h3, h4⟩⟩ := h
  · exact ⟨h1, h2, .inl h3⟩
  · exact ⟨h1, h2, .inr ⟨g, t, h3, h4.below hb (hlt g (by unfold Ent.blk; rw [h3]; rfl))⟩⟩
theorem Ent.Is.lt {w : World} {e : Ent} (h : e.Is w) : ∀ g, e.blk = some g → g < w.heap.size := by
  intro g hg
  obtain ⟨_, _, ⟨h3, _⟩ | ⟨g', t, h3, h4⟩⟩ := h
  · unfold Ent.blk at hg; rw [h3] at hg; cases hg
  · unfold Ent.blk at hg; rw [h3] at hg; simp at hg; subst hg; exact h4.lt
theorem Upd.grownBy {w w' : World} {g : Nat} (u : Upd g w w') : w.grownBy w' (some g) := ⟨u.os, u.tape, u.output, by rw [u.size]; exact Nat.le_refl _, fun k _ hk => u.block k (fun e => hk (by rw [e]))⟩
end Go
namespace Go.Proofs.Ytfpcldnefpmgcaa
open Go.RowKit
def Ent.over (e : Ent) : Ent := ⟨e.A, e.n, Proofs.Ytfpcldnefpmgcaa.over e.l⟩
theorem Ent.over_over (e : Ent) : Ent.over (Ent.over e) = e := by unfold Ent.over; rw [Proofs.Ytfpcldnefpmgcaa.over_over]
theorem over_ent (e : Ent) (w : World) (h : e.Is w) : Calls Try.prog 46 #[e.val] w fun r w' => r = .returned (.tuple #[]) ∧ (Ent.over e).Is w' ∧ w.grownBy w' e.blk := by
  obtain ⟨A, n, l⟩ := e
  obtain ⟨h1, h2, ⟨h3, h4⟩ | ⟨g, t, h3, h4⟩⟩ := h
  · simp only at h1 h2 h3 h4
    subst h3 h4
    obtain rfl : n = 0 := by simpa using h1
    refine (over_nil w).mono ?_
    rintro r w' ⟨rfl, rfl⟩
    exact ⟨rfl, ⟨by simp [Ent.over, Proofs.Ytfpcldnefpmgcaa.over], by simp [Ent.over, Proofs.Ytfpcldnefpmgcaa.over], .inl ⟨rfl, by simp [Ent.over, Proofs.Ytfpcldnefpmgcaa.over]⟩⟩, World.grownBy.refl _ _⟩
  · simp only at h1 h2 h3 h4
    subst h3
    refine (over_any g n l.length l h1 rfl (by omega) w t h4).mono ?_
    rintro r w' ⟨rfl, hg, hu⟩
    exact ⟨rfl, ⟨by simpa [Ent.over, over_length] using h1, by simpa [Ent.over, over_length] using h2, .inr ⟨g, t, rfl, hg⟩⟩, hu.grownBy⟩
theorem nils_cells (n : Nat) : madeCells (Value.slice none 0 0).cells (n * 1) = (List.replicate n (Value.slice none 0 0)).toArray := by
  unfold madeCells
  apply Array.ext_getElem?
  intro a
  by_cases ha : a < n
  · simp [Value.cells, ha, Nat.mod_one]
  · simp [Value.cells, ha]
theorem infoBytes : (Try.prog.info? 22).map (fun i => (i.zero, i.size, i.bytes)) = some (some (.slice none 0 0), 1, 24) := by kernel_rfl
def ApartSt (gl : Nat) (es : List Ent) (wr : World) : Prop := Blk wr gl 22 (es.map Ent.val).toArray ∧ ∀ e ∈ es, e.Is wr
def Apart0 (base : Nat) (w : World) (gl : Nat) (es : List Ent) (v : Value) (wr : World) : Prop :=
  ∃ i : Nat, i ≤ es.length ∧ v = .int .i64 (i : Int) ∧ ApartSt gl es wr ∧ Below base w wr
def Apart1 (wi : World) (gw : Nat) (es : List Ent) (v : Value) (wr : World) : Prop :=
  ∃ (k : Nat) (cs : List Value), k ≤ es.length ∧ cs.length = k ∧ v = .int .i64 (k : Int) ∧ Blk wr gw 22 (cs ++ List.replicate (es.length - k) (Value.slice none 0 0)).toArray ∧
    (∀ (j : Nat) (v : Value) (e : Ent), cs[j]? = some v → es[j]? = some e → ∃ sp, OwnB 5 wr (gw + 1) v e.l sp) ∧ Below gw wi wr
def Apart2 (wj : World) (n : Nat) (v : Value) (wr : World) : Prop := ∃ k : Nat, k ≤ n ∧ v = .int .i64 (k : Int) ∧ Below wj.heap.size wj wr
theorem Ent.over_val (e : Ent) : (Ent.over e).val = e.val := by unfold Ent.over Ent.val; rw [over_length]
set_option maxHeartbeats 2000000 in
theorem apart_any (base gl c : Nat) (es : List Ent) (hes : es.length ≤ 1000) (w : World) (hbase : base ≤ w.heap.size) (hst : ApartSt gl es w)
    (hd : ∀ i j (hi : i < es.length) (hj : j < es.length), i ≠ j → ∀ g, es[i].blk = some g → es[j].blk ≠ some g) (hgl : ∀ e ∈ es, e.blk ≠ some gl) (hb : ∀ e ∈ es, ∀ g, e.blk = some g → base ≤ g) :
    Calls Try.prog 24 #[.slice (some ⟨gl, 0, none⟩) es.length c] w fun e w' => e = .returned (.bool true) ∧ Below base w w' := by
  have HD := Lib.hid hd
  have HGL := Lib.hid hgl
  have HB := Lib.hid hb
  clear hd hgl hb
  go_enter Try.func24, Try.ntmps24
  go_wp2_with fail
  go_loopw [3] (fun v wr => Apart0 base w gl es v wr) (fun v _ => es.length - (intOf v).toNat)
  case atStart => exact ⟨0, by omega, rfl, hst, Below.refl _ _⟩
  case round =>
    clear hst
    obtain ⟨i, hi, rfl, hst, hBr⟩ := hrel
    have HST := Lib.hid hst
    clear hst
    revert wr
    intro wi hBr HST
    by_cases hlt : i < es.length
    · go_wp2_with (first
        | (show wpList _ _ _ ((⟨some 15, _, _, _, _, _⟩ : Oper) :: _) _ _; refine wpList_make_zero _ (o := ⟨some 15, _, _, _, _, _⟩) (by rfl) _ _ _ (by rfl) 22 (.slice none 0 0) 1 24 Try.underlying33 infoBytes .i64 .i64 es.length es.length (by rfl) (by rfl) (Nat.le_refl _) (by omega) (by omega) _ (nils_cells es.length) ?_; intro w2 hw2 hbx hs2)
        | fail)
      go_loopw [5] (fun v wr => Apart1 wi wi.heap.size es v wr) (fun v _ => es.length - (intOf v).toNat)
      case atStart => exact ⟨0, [], by omega, rfl, rfl, by simpa using hw2, fun j v e h => by simp at h, hbx⟩
      case round =>
        clear hw2 hbx hs2
        obtain ⟨k, cs, hk, hcl, rfl, hgw, hown, hBk⟩ := hrel
        have HCL := Lib.hid hcl
        have HOWN := Lib.hid hown
        clear hcl hown
        by_cases hlk : k < es.length
        · have hgl3 := HST.out.1.below hBk HST.out.1.lt
          have hi3 : es[k].Is wr := (HST.out.2 es[k] (List.getElem_mem hlk)).below hBk (fun g hg => (HST.out.2 es[k] (List.getElem_mem hlk)).lt g hg)
          have hv3 : (es.map Ent.val).toArray[k]? = some es[k].val := by simp [hlk]
          have HE := Lib.hid (show es[k]? = some es[k] from List.getElem?_eq_getElem hlk)
          generalize es[k] = e at hi3 hv3 HE
          obtain ⟨A, n, l⟩ := e
          have hby := hi3.bytes
          obtain ⟨hn1, hn2, _⟩ := hi3
          simp only at hn1 hn2 hby
          have hv4 : (es.map Ent.val).toArray[k]? = some (.slice A n l.length) := hv3
          clear hv3
          have hgwl := hgw.lt
          go_wp2_with fail
          refine wp_region_plan (Below wr.heap.size wr) [14] [(true, 0), (true, 1), (true, 2), (true, 3), (true, 4), (true, 6), (true, 7), (true, 8), (true, 5), (true, 9), (true, 10), (true, 11), (false, 12), (true, 13), (false, 14)] (by kernel_rfl) (by kernel_rfl) (fun c a a' w h q => ⟨h ▸ q.1, q.2⟩) (Below.refl _ _).drew ?_
          refine wpPlan_pure [0, 1, 2, 3, 4, 6, 7, 8] [(true, 5), (true, 9), (true, 10), (true, 11), (false, 12), (true, 13), (false, 14)] _ (by rfl) (by rfl) ?_
          dsimp only [List.filterMap, List.getElem?_cons_zero, List.getElem?_cons_succ]
          repeat (go_big_quiet_step (fail))
          refine wpQuiet_nil ?_
          refine wpPlan_takeL [5, 9] [(true, 10), (true, 11), (false, 12), (true, 13), (false, 14)] _ (by rfl) (by rfl) (Below.refl _ _).drew ?_
          dsimp only [List.filterMap, List.getElem?_cons_zero, List.getElem?_cons_succ]
          (refine wpQuiet_load_cell (fun w' hw' => Blk.at_ (v := .slice A n l.length) (hgl3.below hw' hgl3.lt) k hv4) (by rfl) _ _ (by rfl) (by rfl) _ Try.underlying22 (by rfl) ?_; simp only [Act.put, List.setIfInBounds_toArray, List.set_cons_zero, List.set_cons_succ])
          (refine wpQuiet_load_cell (fun w' hw' => Blk.at_ (v := .slice A n l.length) (hgl3.below hw' hgl3.lt) k hv4) (by rfl) _ _ (by rfl) (by rfl) _ Try.underlying22 (by rfl) ?_; simp only [Act.put, List.setIfInBounds_toArray, List.set_cons_zero, List.set_cons_succ])
          refine wpQuiet_nil ?_
          refine wpPlan_pure [10, 11] [(false, 12), (true, 13), (false, 14)] _ (by rfl) (by rfl) ?_
          dsimp only [List.filterMap, List.getElem?_cons_zero, List.getElem?_cons_succ]
          repeat (go_big_quiet_step (fail))
          refine wpQuiet_nil ?_
          refine wpPlan_forceL _ rfl ?_
          go_wp2_with fail
          refine (copyBytes_any A l.length l.length l rfl (by omega) wr.drew hby).mono ?_
          rintro e w4 ⟨v4, sp4, rfl, ho4, hbx⟩
          have hC4 : Below wr.heap.size wr w4 := (Below.refl wr.heap.size wr).drew.trans (hbx.mono (Nat.le_refl _))
          have hgw4 := hgw.below hC4 hgwl
          obtain ⟨A4, c4, rfl, _, _, _⟩ := OwnB.open_ ho4
          have hcl := HCL.out
          have hrep : List.replicate (es.length - k) (Value.slice none 0 0) = Value.slice none 0 0 :: List.replicate (es.length - (k + 1)) (Value.slice none 0 0) := by
            rw [show es.length - k = es.length - (k + 1) + 1 by omega, List.replicate_succ]
          have d0 : w4.cell? ⟨wi.heap.size, k, none⟩ = some (.slice none 0 0) := hgw4.at_ k (by
            rw [List.getElem?_toArray, List.getElem?_append_right (by omega), hcl, Nat.sub_self, hrep]; rfl)
          have f0 := hgw4.frozen k
          have hgw5 := Lib.hid ((hgw4.set_ k (.slice A4 l.length c4)).sub (show _ = ((cs ++ [Value.slice A4 l.length c4]) ++ List.replicate (es.length - (k + 1)) (Value.slice none 0 0)).toArray by
            rw [List.setIfInBounds_toArray, List.set_append_right _ _ (by omega), hcl, Nat.sub_self, hrep, List.set_cons_zero]; simp))
          have hB5 := Lib.hid ((hBk.trans (hC4.mono hBk.size)).set_ (c := wi.heap.size) (i := k) (Nat.le_refl _) (.slice A4 l.length c4))
          have HOWN5 : Hid (∀ (j : Nat) (v : Value) (e : Ent), (cs ++ [Value.slice A4 l.length c4])[j]? = some v → es[j]? = some e → ∃ sp, OwnB 5 (w4.setCell ⟨wi.heap.size, k, none⟩ (.slice A4 l.length c4)) (wi.heap.size + 1) v e.l sp) := Lib.hid (by
            intro j v e hj he
            rcases Nat.lt_trichotomy j k with h | h | h
            · rw [List.getElem?_append_left (by omega)] at hj
              obtain ⟨sp, ho⟩ := HOWN.out j v e hj he
              exact ⟨sp, Own.off (Own.ownBelow ho hC4) (fun hh => by have := (Own.lt ho _ hh).1; omega) _⟩
            · subst h
              rw [List.getElem?_append_right (by omega), hcl, Nat.sub_self] at hj
              simp at hj
              subst hj
              rw [HE.out] at he
              cases he
              exact ⟨sp4, Own.off (Own.base_ ho4 hgwl) (fun hh => by have h1 := (Own.lt ho4 _ hh).1; have h2 : wr.heap.size ≤ wi.heap.size := h1; omega) _⟩
            · rw [List.getElem?_eq_none (by simp; omega)] at hj; cases hj)
          clear hbx hcl hrep hgw4 ho4 hgw hBk hby hgl3
          go_wp2_with fail
          refine PlanQ.in_ hC4 ?_
          clear hC4
          refine wpPlan_pure [13] [(false, 14)] _ (by rfl) (by rfl) ?_
          dsimp only [List.filterMap, List.getElem?_cons_zero, List.getElem?_cons_succ]
          repeat (go_big_quiet_step (fail))
          refine wpQuiet_nil ?_
          refine wpPlan_forceL _ rfl ?_
          go_wp2_with fail
          refine PlanQ.out (by rfl) ?_
          refine wpPlan_nil ?_
          go_wp2
          go_roundw
          case rel => exact ⟨k + 1, cs ++ [Value.slice A4 l.length c4], by omega, by have := HCL.out; simp [this], by go_num, hgw5.out, HOWN5.out, hB5.out⟩
          case measure => simp [intOf]; omega
        · obtain rfl : k = es.length := by omega
          have hgw' := Lib.hid (hgw.sub (show _ = cs.toArray by simp))
          have hgl3 := HST.out.1.below hBk HST.out.1.lt
          have his : ∀ e ∈ es, e.Is wr := fun e he => (HST.out.2 e he).below hBk (fun g hg => (HST.out.2 e he).lt g hg)
          have hv3 : (es.map Ent.val).toArray[i]? = some es[i].val := by simp [hlt]
          have d0 : wr.cell? ⟨gl, i, none⟩ = some es[i].val := hgl3.at_ i hv3
          have HIS := Lib.hid his
          have hgll := hgl3.lt
          have hgwl := hgw.lt
          have HG3 := Lib.hid hgl3
          obtain ⟨ev, hev⟩ : ∃ v, v = es[i].val := ⟨_, rfl⟩
          rw [← hev] at d0
          have HEV := Lib.hid hev
          clear hv3 his hgl3 hgw hev
          go_wp2_with fail
          rw [HEV.out]
          refine (over_ent es[i] wr (HIS.out es[i] (List.getElem_mem hlt))).mono ?_
          rintro e wj ⟨rfl, hov, hgr⟩
          have hblk : ∀ g, es[i].blk = some g → g < wi.heap.size := (HST.out.2 es[i] (List.getElem_mem hlt)).lt
          have hglj : Blk wj gl 22 (es.map Ent.val).toArray := (hgr.block gl hgll (fun e => HGL.out es[i] (List.getElem_mem hlt) e.symm)).trans HG3.out
          have hgwj : Blk wj wi.heap.size 22 cs.toArray := (hgr.block _ hgwl (fun e => by have := hblk _ e.symm; omega)).trans hgw'.out
          have HISJ : Hid (∀ m, (hm : m < es.length) → m ≠ i → es[m].Is wj) := Lib.hid (fun m hm hne => (HIS.out es[m] (List.getElem_mem hm)).kept hgr (fun g hg e => HD.out m i hm hlt hne g hg e.symm))
          have HOWNJ : Hid (∀ (j : Nat) (v : Value) (e : Ent), cs[j]? = some v → es[j]? = some e → ∃ sp, OwnB 5 wj (wi.heap.size + 1) v e.l sp) := Lib.hid (fun j v e h1 h2 => by
            obtain ⟨sp, ho⟩ := HOWN.out j v e h1 h2
            refine ⟨sp, Own.kept ho hgr ?_⟩
            cases hvb : v.ownBlock with
            | none => exact .inl rfl
            | some g => exact .inr (fun hh => by have h3 := (Own.lt ho _ hvb).1; have h4 := hblk g hh.symm; omega))
          have hB0 := HB.out es[i] (List.getElem_mem hlt)
          have hsi := hBr.size
          have hsk := hBk.size
          have hbi : base ≤ wi.heap.size := by omega
          have hBj := (hBr.trans (hBk.mono hbi)).grown hgr (by omega) hB0
          have HOV := Lib.hid hov
          have HGLJ := Lib.hid hglj
          have HGWJ := Lib.hid hgwj
          have HBJ := Lib.hid hBj
          clear d0 hov hglj hgwj hBj HOWN HIS HG3 hgw' hBk hgr
          go_wp2_with fail
          go_loopw [6] (fun v wr => Apart2 wj es.length v wr) (fun v _ => es.length - (intOf v).toNat)
          case atStart => exact ⟨0, by omega, rfl, Below.refl _ _⟩
          case round =>
            obtain ⟨k, hk2, rfl, hBj2⟩ := hrel
            have hgl4 := HGLJ.out.below hBj2 HGLJ.out.lt
            have hgw4 := HGWJ.out.below hBj2 HGWJ.out.lt
            by_cases hlk2 : k < es.length
            · by_cases hki : k = i
              · subst hki
                go_wp2_with fail
                refine wp_region_plan (Below wr.heap.size wr) [] [(true, 0), (true, 1), (true, 2), (true, 3), (true, 4), (true, 5), (true, 6), (true, 8), (true, 9), (true, 10), (true, 14), (true, 15), (true, 16), (true, 7), (true, 11), (true, 17), (true, 12), (true, 13), (false, 18), (true, 19), (true, 20)] (by kernel_rfl) (by kernel_rfl) (fun c a a' w h q => ⟨h ▸ q.1, q.2⟩) (Below.refl _ _).drew ?_
                refine wpPlan_pure [0, 1, 2, 3, 4, 5, 6, 8, 9, 10, 14, 15, 16] [(true, 7), (true, 11), (true, 17), (true, 12), (true, 13), (false, 18), (true, 19), (true, 20)] _ (by rfl) (by rfl) ?_
                dsimp only [List.filterMap, List.getElem?_cons_zero, List.getElem?_cons_succ]
                repeat (go_big_quiet_step (fail))
                refine wpQuiet_nil ?_
                refine wpPlan_takeL [7, 11, 17] [(true, 12), (true, 13), (false, 18), (true, 19), (true, 20)] _ (by rfl) (by rfl) (Below.refl _ _).drew ?_
                dsimp only [List.filterMap, List.getElem?_cons_zero, List.getElem?_cons_succ]
                repeat (go_big_quiet_step (fail))
                refine wpQuiet_nil ?_
                refine wpPlan_pure [12, 13] [(false, 18), (true, 19), (true, 20)] _ (by rfl) (by rfl) ?_
                dsimp only [List.filterMap, List.getElem?_cons_zero, List.getElem?_cons_succ]
                repeat (go_big_quiet_step (fail))
                refine wpQuiet_nil ?_
                refine wpPlan_forceL _ rfl ?_
                go_wp2_with fail
                refine PlanQ.in_ (Below.refl _ _).drew ?_
                refine wpPlan_pure [19, 20] [] _ (by rfl) (by rfl) ?_
                dsimp only [List.filterMap, List.getElem?_cons_zero, List.getElem?_cons_succ]
                repeat (go_big_quiet_step (fail))
                refine wpQuiet_nil ?_
                refine wpPlan_nil ?_
                go_wp2
                go_roundw
                case rel => exact ⟨k + 1, by omega, by go_num, hBj2.drew⟩
                case measure => simp [intOf]; omega
              · have hisk := HISJ.out k hlk2 hki
                have hv4 : (es.map Ent.val).toArray[k]? = some es[k].val := by simp [hlk2]
                have HE : es[k]? = some es[k] := List.getElem?_eq_getElem hlk2
                generalize es[k] = e at hisk hv4 HE
                obtain ⟨A, n, l⟩ := e
                have hcl := HCL.out
                have hck : cs[k]? = some (cs[k]'(by omega)) := List.getElem?_eq_getElem (by omega)
                generalize (cs[k]'(by omega)) = v5 at hck
                obtain ⟨sp5, ho5⟩ := HOWNJ.out k v5 _ hck HE
                obtain ⟨A5, c5, rfl, _, _, hb5⟩ := OwnB.open_ ho5
                have hc5 : cs.toArray[k]? = some (.slice A5 l.length c5) := by rw [List.getElem?_toArray]; exact hck
                have hby4 := Bytes.below hisk.bytes hBj2
                obtain ⟨hn1, hn2, _⟩ := hisk
                replace hb5 := Bytes.below hb5 hBj2
                simp only at hn1 hn2 hby4 hb5 hc5
                replace hv4 : (es.map Ent.val).toArray[k]? = some (.slice A n l.length) := hv4
                clear HE hck ho5 hcl
                have H1 : ((k : Int) != (i : Int)) = true := by rw [bne_iff_ne]; omega
                go_wp2_with fail
                refine wp_region_plan (Below wr.heap.size wr) [] [(true, 0), (true, 1), (true, 2), (true, 3), (true, 4), (true, 5), (true, 6), (true, 8), (true, 9), (true, 10), (true, 14), (true, 15), (true, 16), (true, 7), (true, 11), (true, 17), (true, 12), (true, 13), (false, 18), (true, 19), (true, 20)] (by kernel_rfl) (by kernel_rfl) (fun c a a' w h q => ⟨h ▸ q.1, q.2⟩) (Below.refl _ _).drew ?_
                refine wpPlan_pure [0, 1, 2, 3, 4, 5, 6, 8, 9, 10, 14, 15, 16] [(true, 7), (true, 11), (true, 17), (true, 12), (true, 13), (false, 18), (true, 19), (true, 20)] _ (by rfl) (by rfl) ?_
                dsimp only [List.filterMap, List.getElem?_cons_zero, List.getElem?_cons_succ]
                repeat (go_big_quiet_step (fail))
                refine wpQuiet_nil ?_
                refine wpPlan_takeL [7, 11, 17] [(true, 12), (true, 13), (false, 18), (true, 19), (true, 20)] _ (by rfl) (by rfl) (Below.refl _ _).drew ?_
                dsimp only [List.filterMap, List.getElem?_cons_zero, List.getElem?_cons_succ]
                (refine wpQuiet_want' (by rfl) ?_; refine wpQuiet_load_cell (fun w' hw' => Blk.at_ (v := .slice A n l.length) (hgl4.below hw' hgl4.lt) k hv4) (by rfl) _ _ (by rfl) (by rfl) _ Try.underlying22 (by rfl) ?_; simp only [Act.put, List.setIfInBounds_toArray, List.set_cons_zero, List.set_cons_succ])
                (refine wpQuiet_want' (by rfl) ?_; refine wpQuiet_load_cell (fun w' hw' => Blk.at_ (v := .slice A n l.length) (hgl4.below hw' hgl4.lt) k hv4) (by rfl) _ _ (by rfl) (by rfl) _ Try.underlying22 (by rfl) ?_; simp only [Act.put, List.setIfInBounds_toArray, List.set_cons_zero, List.set_cons_succ])
                (refine wpQuiet_want' (by rfl) ?_; refine wpQuiet_load_cell (fun w' hw' => Blk.at_ (v := .slice A5 l.length c5) (hgw4.below hw' hgw4.lt) k hc5) (by rfl) _ _ (by rfl) (by rfl) _ Try.underlying22 (by rfl) ?_; simp only [Act.put, List.setIfInBounds_toArray, List.set_cons_zero, List.set_cons_succ])
                refine wpQuiet_nil ?_
                refine wpPlan_pure [12, 13] [(false, 18), (true, 19), (true, 20)] _ (by rfl) (by rfl) ?_
                dsimp only [List.filterMap, List.getElem?_cons_zero, List.getElem?_cons_succ]
                repeat (go_big_quiet_step (fail))
                refine wpQuiet_nil ?_
                refine wpPlan_forceL _ rfl ?_
                go_wp2_with fail
                refine (sameBytes_any A A5 l.length l.length l.length c5 l l rfl rfl wr.drew hby4 hb5).mono ?_
                rintro e wz ⟨rfl, rfl⟩
                rw [decide_eq_true rfl]
                go_wp2_with fail
                refine PlanQ.in_ (Below.refl _ _).drew ?_
                refine wpPlan_pure [19, 20] [] _ (by rfl) (by rfl) ?_
                dsimp only [List.filterMap, List.getElem?_cons_zero, List.getElem?_cons_succ]
                repeat (go_big_quiet_step (fail))
                refine wpQuiet_nil ?_
                refine wpPlan_nil ?_
                go_wp2
                go_roundw
                case rel => exact ⟨k + 1, by omega, by go_num, hBj2.drew⟩
                case measure => simp [intOf]; omega
            · obtain rfl : k = es.length := by omega
              have hv3 : (es.map Ent.val).toArray[i]? = some es[i].val := by simp [hlt]
              have d0 : wr.cell? ⟨gl, i, none⟩ = some es[i].val := hgl4.at_ i hv3
              have hov := (HOV.out).below hBj2 (fun g hg => HOV.out.lt g hg)
              have HIS4 : Hid (∀ m, (hm : m < es.length) → m ≠ i → es[m].Is wr) := Lib.hid (fun m hm hne => (HISJ.out m hm hne).below hBj2 (fun g hg => (HISJ.out m hm hne).lt g hg))
              have hB4 := HBJ.out.trans (hBj2.mono (by have := HBJ.out.size; omega))
              obtain ⟨ev, hev⟩ : ∃ v, v = es[i].val := ⟨_, rfl⟩
              rw [← hev] at d0
              have HEV := Lib.hid hev
              have HG4 := Lib.hid hgl4
              have hgll4 := hgl4.lt
              clear hv3 hev hgw4 hgl4 hBj2
              go_wp2_with fail
              rw [HEV.out, ← Ent.over_val]
              refine (over_ent (Ent.over es[i]) wr hov).mono ?_
              rintro e w5 ⟨rfl, hov5, hgr5⟩
              rw [Ent.over_over] at hov5
              have hgl5 : Blk w5 gl 22 (es.map Ent.val).toArray := (hgr5.block gl hgll4 (fun e => HGL.out es[i] (List.getElem_mem hlt) e.symm)).trans HG4.out
              have hst5 : ApartSt gl es w5 := ⟨hgl5, fun e he => by
                obtain ⟨m, hm, rfl⟩ := List.getElem_of_mem he
                by_cases hmi : m = i
                · subst hmi; exact hov5
                · exact (HIS4.out m hm hmi).kept hgr5 (fun g hg e => HD.out m i hm hlt hmi g hg e.symm)⟩
              have hB5 := hB4.grown hgr5 (by have := hB4.size; omega) hB0
              have HST5 := Lib.hid hst5
              have HB5 := Lib.hid hB5
              clear d0 hov hov5 hgr5 hgl5 hst5 hB5 hB4
              go_wp2
              go_roundw
              case rel => exact ⟨i + 1, by omega, by go_num, HST5.out, HB5.out⟩
              case measure => simp [intOf]; omega
    · obtain rfl : i = es.length := by omega
      go_wp2
      go_ret
      exact ⟨rfl, hBr⟩
end Go.Proofs.Ytfpcldnefpmgcaa
