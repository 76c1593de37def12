/- GridKeeps: a step. Conditions: the statement's state is known; the lists can be read; the library's table is there. -/
import Derived.Test.YtfoegmjpfkmggaaGreatDoorMGridKeeps17
namespace Go.Proofs.YtfoegmjpfkmggaaGreatDoor
open Go.RowKit
theorem _root_.Go.Reads.lowR {w w' : World} {B : Nat} {A : Option Addr} {l : List Bool} (h : Reads w A (l.map Value.bool)) (hA : l ≠ [] → ∀ ad, A = some ad → ad.block < B) (k : Below B w w') : Reads w' A (l.map Value.bool) := fun hne => by
  obtain ⟨b, off, e, hc⟩ := h hne
  have hl : l ≠ [] := fun e => hne (by rw [e]; rfl)
  exact ⟨b, off, e, fun j v hv => (k.cell (p := ⟨b, off + j, none⟩) (show b < B from hA hl ⟨b, off, none⟩ e)).trans (hc j v hv)⟩
theorem kcells_take (l : List KB) (i : Nat) : kcells (l.take i) = (kcells l).take (i * 5) := by
  by_cases hi : i ≤ l.length
  · conv => rhs; rw [← List.take_append_drop i l, kcells_app]
    rw [List.take_left' (by rw [kcells_length, List.length_take]; omega)]
  · rw [List.take_of_length_le (by omega), List.take_of_length_le (by rw [kcells_length]; omega)]
theorem kcells_drop (l : List KB) (i : Nat) : kcells (l.drop i) = (kcells l).drop (i * 5) := by
  by_cases hi : i ≤ l.length
  · conv => rhs; rw [← List.take_append_drop i l, kcells_app]
    rw [List.drop_left' (by rw [kcells_length, List.length_take]; omega)]
  · rw [List.drop_eq_nil_of_le (by omega), List.drop_eq_nil_of_le (by rw [kcells_length]; omega)]; rfl
theorem reads_take {w : World} {b o : Nat} {l : List Value} (h : ∀ j v, l[j]? = some v → w.cell? ⟨b, o + j, none⟩ = some v) (k : Nat) : Reads w (some ⟨b, o, none⟩) (l.take k) := fun _ => ⟨b, o, rfl, fun j v hv => h j v (by
  rw [List.getElem?_take] at hv
  split at hv
  · exact hv
  · cases hv)⟩
theorem reads_drop {w : World} {b o c n : Nat} {l : List KB} (h : ∀ j v, (kcells l)[j]? = some v → w.cell? ⟨b, o + j, none⟩ = some v) (hc : l.length ≤ c) : Reads w (if c = n then some ⟨b, o, none⟩ else some ⟨b, o + n * 5, none⟩) (kcells (l.drop n)) := fun hne => by
  have hn : n < l.length := by
    rcases Nat.lt_or_ge n l.length with hh | hh
    · exact hh
    · rw [List.drop_eq_nil_of_le hh] at hne; exact absurd rfl hne
  refine ⟨b, o + n * 5, if_neg (by omega), fun j v hv => ?_⟩
  rw [kcells_drop, List.getElem?_drop] at hv
  have := h _ v hv
  rwa [← Nat.add_assoc] at this
set_option maxRecDepth 100000 in
set_option maxHeartbeats 16000000 in
theorem lfStep_any {B xp gp dp n : Nat} {Y : List Nat} {w : World} {g : Grd} {d : Dsk} {L G : List KB} (h : Lf B Y w xp gp dp n g d L G) (hT : ∀ W, Below B w W → Tab W) (kind which at_ tear : Int) (BA : Option Addr) (bc : Nat) (body : List UInt8) (m : UInt8) (KA : Option Addr) (keeps : List Bool) (kc : Nat) (stamp : Int)
    (hb : Bytes w BA body) (hbB : body ≠ [] → ∀ ad, BA = some ad → ad.block < B) (hbl : body.length ≤ 860) (hk : Reads w KA (keeps.map .bool)) (hkB : keeps ≠ [] → ∀ ad, KA = some ad → ad.block < B) (hkl : keeps.length ≤ 200) (hst : 0 ≤ stamp ∧ stamp ≤ 1000) :
    Calls Tryz.prog 19 #[.pointer (some ⟨xp, 0, none⟩), .agg (stpc kind which at_ tear BA body.length bc m KA keeps.length kc), .int .i64 stamp] w fun e w' => ∃ goes, e = .returned (.tuple #[.bool true, .bool goes]) ∧ Below B w w' ∧ (goes = true → ∃ Y' gp' g' d' L' G', Lf B Y' w' xp gp' dp n g' d' L' G') := by
  have hp6 : pickN kind 6 < 6 := by have := pickN_lt kind 6 (by omega); omega
  have hB1 : Below w.heap.size w (w.alloc (.cells (stpc kind which at_ tear BA body.length bc m KA keeps.length kc) 73)) := (Below.refl w.heap.size w).alloc (Nat.le_refl _) _
  have hsb : Blk (w.alloc (.cells (stpc kind which at_ tear BA body.length bc m KA keeps.length kc) 73)) w.heap.size 73 (stpc kind which at_ tear BA body.length bc m KA keeps.length kc) := Blk.new w _ _
  have ngL : NG 71 := by unfold NG; decide
  have ngS : NG 73 := by unfold NG; decide
  have ngB : NG 116 := by unfold NG; decide
  have hBw := h.gx.size
  obtain ⟨vl, vg, sl, sg, hV⟩ := h.v
  have hV1 := hV.below hB1
  obtain ⟨A3, c3, hvl, hc3, hc3m, hr3, -⟩ := OwnsC.reads hV1.ol
  obtain ⟨A4, c4, hvg, hc4, hc4m, hr4, -⟩ := OwnsC.reads hV1.og
  subst hvl hvg
  have H1 := Lib.hid (And.intro hV1 (And.intro hsb (And.intro (hB1.mono hBw) (And.intro hr3 (And.intro hr4 h.few)))))
  have HA := Lib.hid (And.intro hT (And.intro hb (And.intro hbB (And.intro hbl (And.intro hst (And.intro hBw (And.intro hk (And.intro hkB hkl))))))))
  have d0 := hsb.at_ 0 (v := .int .i64 kind) rfl
  clear h hB1 hsb hT hb hbB hbl hst hBw hk hkB hkl hV hV1 hr3 hr4 hc3 hc3m hc4 hc4m
  go_enter Tryz.func19, Tryz.ntmps19
  go_wp2_with fail
  clear d0
  generalize w.alloc (.cells (stpc kind which at_ tear BA body.length bc m KA keeps.length kc) 73) = w1 at H1 ⊢
  generalize w.heap.size = sb at H1 ⊢
  refine (pick_any kind 6 (by omega) (by omega) _).mono ?_
  rintro e w2 ⟨rfl, hw⟩
  obtain rfl := hw.symm
  clear hw
  have hsbk := H1.out.2.1
  have d2 := H1.out.1.xb.at_ 2 (v := .slice A3 L.length c3) rfl
  have d3 := H1.out.1.xb.at_ 3 (v := .slice A4 G.length c4) rfl
  have d1 := H1.out.1.xb.at_ 1 (v := .pointer (some ⟨gp, 0, none⟩)) rfl
  rcases (show pickN kind 6 = 0 ∨ pickN kind 6 = 1 ∨ pickN kind 6 = 2 ∨ pickN kind 6 = 3 ∨ pickN kind 6 = 4 ∨ pickN kind 6 = 5 by omega) with hp | hp | hp | hp | hp | hp
  all_goals
    rw [hp]
    clear hp hp6
  -- a block is written
  · clear d1 d2 d3
    go_wp2_with (first
      | ((with_reducible show wpList _ _ _ ((⟨some 18, _, _, _, _, _⟩ : Oper) :: _) _ _); refine wpList_load_blk (o := ⟨some 18, _, _, _, _, _⟩) (hsbk) (by rfl) _ _ (by rfl) (by rfl) _ Tryz.underlying73 (by rfl) (sizeStep) (by rfl) ?_)
      | fail)
    refine (lfWrite_any H1.out.1.lf (fun W k => HA.out.1 W (H1.out.2.2.1.trans k)) kind which at_ tear BA bc body m KA keeps.length kc stamp (HA.out.2.1.lowB HA.out.2.2.1 H1.out.2.2.1 HA.out.2.2.2.2.2.1) HA.out.2.2.1 HA.out.2.2.2.1 HA.out.2.2.2.2.1).mono ?_
    rintro e w2 ⟨rfl, hB, Y', g', d', L', hL⟩
    have H2 := Lib.hid (And.intro (H1.out.2.2.1.trans hB) hL)
    clear hB hL hsbk
    go_wp2
    go_ret2
    exact ⟨true, rfl, H2.out.1, fun _ => ⟨Y', gp, g', d', L', G, H2.out.2⟩⟩
  -- a block is let go
  · by_cases hL0 : 0 < L.length
    case neg =>
      have kn : decide ((L.length : Int) > 0) = false := decide_eq_false (by omega)
      have kn2 : (0 < L.length) = False := eq_false hL0
      have HE := Lib.hid (And.intro H1.out.1.lf H1.out.2.2.1)
      clear hL0 hsbk
      go_wp2
      go_ret2
      exact ⟨true, rfl, HE.out.2, fun _ => ⟨Y, gp, g, d, L, G, HE.out.1⟩⟩
    have kn : decide ((L.length : Int) > 0) = true := decide_eq_true (by omega)
    have HL0 := Lib.hid hL0
    have hwi : pickN which (L.length : Int) < L.length := by have := pickN_lt which (L.length : Int) (by omega); omega
    generalize hwq : pickN which (L.length : Int) = wi at hwi
    obtain ⟨x, hx0⟩ : ∃ x, L[wi]? = some x := ⟨_, List.getElem?_eq_getElem hwi⟩
    obtain ⟨b2, o2, rfl, hcl⟩ := H1.out.2.2.2.1 (fun e => by have := congrArg List.length e; rw [kcells_length, List.length_nil] at this; omega)
    have qa : ∀ j v, (kcs x)[j]? = some v → w1.cell? ⟨b2, o2 + wi * 5 + j, none⟩ = some v := fun j v hv => by rw [Nat.add_assoc]; exact hcl _ _ (kcells_at _ wi x hx0 j v hv)
    have hbl2 : b2 < w1.heap.size := World.block_lt_of_cell? w1 _ (qa 0 _ rfl)
    have HQ := Lib.hid (And.intro qa (And.intro hbl2 (And.intro hx0 (And.intro hwi hcl))))
    clear qa hcl hx0 hbl2 hL0 hsbk
    go_wp2_with fail
    clear kn d1 d2 d3
    have hC1 : Near [] w1 w1 := Near.refl _ _
    refine wp_region_tree (Near [] w1) [] (PlanT.takes [0, 2, 3, 4] (PlanT.takes [1, 5] (PlanT.takes [6] (.opt 7 (PlanT.takes [8] .done) .no)))) (by kernel_rfl) (by kernel_rfl) (hC1.drew) ?_
    refine wpTree_pure _ _ _ (by rfl) (by rfl) ?_
    dsimp only [List.filterMap, List.getElem?_cons_zero, List.getElem?_cons_succ]
    repeat (go_big_quiet_step (fail))
    refine wpQuiet_nil ?_
    refine wpTree_takeL _ _ _ (by rfl) (by rfl) (hC1.drew) ?_
    dsimp only [List.filterMap, List.getElem?_cons_zero, List.getElem?_cons_succ]
    (refine wpQuiet_load_cell (fun w' hw' => (hw'.cell H1.out.2.1.lt List.not_mem_nil).trans (H1.out.2.1.at_ 1 (v := .int .i64 which) rfl)) (by rfl) _ _ (by rfl) (by rfl) _ Tryz.underlying3 (by rfl) ?_; simp only [Act.put, List.setIfInBounds_toArray, List.set_cons_zero, List.set_cons_succ])
    (refine wpQuiet_load_cell (fun w' hw' => (hw'.cell H1.out.1.xb.lt List.not_mem_nil).trans (H1.out.1.xb.at_ 2 (v := .slice (some ⟨b2, o2, none⟩) L.length c3) rfl)) (by rfl) _ _ (by rfl) (by rfl) _ Tryz.underlying69 (by rfl) ?_; simp only [Act.put, List.setIfInBounds_toArray, List.set_cons_zero, List.set_cons_succ])
    refine wpQuiet_nil ?_
    refine wpTree_pure _ _ _ (by rfl) (by rfl) ?_
    dsimp only [List.filterMap, List.getElem?_cons_zero, List.getElem?_cons_succ]
    repeat (go_big_quiet_step (fail))
    refine wpQuiet_nil ?_
    refine wpTree_one _ rfl ?_
    go_wp2_with fail
    refine (pick_any which (L.length : Int) (by have := H1.out.2.2.2.2.2.2.1; omega) (by have := HL0.out; omega) _).mono ?_
    rintro e w2 ⟨rfl, hw⟩
    obtain rfl := hw.symm
    clear hw
    rw [hwq]
    go_wp2_with fail
    refine TreeQ.in_ hC1.drew ?_
    refine wpTree_pure _ _ _ (by rfl) (by rfl) ?_
    dsimp only [List.filterMap, List.getElem?_cons_zero, List.getElem?_cons_succ]
    repeat (go_big_quiet_step (fail))
    refine wpQuiet_nil ?_
    refine wpTree_done ?_
    have hBd : Below w1.heap.size w1 w1.drew := (Below.refl w1.heap.size w1).drew
    have HQ2 := Lib.hid (And.intro (H1.out.1.below hBd) (And.intro (H1.out.2.2.1.trans (hBd.mono H1.out.1.gx.size)) (And.intro (fun j v hv => (hBd.cell (p := ⟨b2, o2 + wi * 5 + j, none⟩) HQ.out.2.1).trans (HQ.out.1 j v hv)) (And.intro HQ.out.2.2.1 (And.intro HQ.out.2.2.2.1 (And.intro H1.out.2.2.2.2.2 hBd))))))
    clear hC1 hwq hBd
    generalize w1.drew = w2 at HQ2 ⊢
    have d2 := HQ2.out.1.xb.at_ 2 (v := .slice (some ⟨b2, o2, none⟩) L.length c3) rfl
    have hrg : w2.rangeAt b2 (o2 + wi * 5) (kcs x) := HQ2.out.2.2.1
    go_wp2_with (first
      | ((with_reducible show wpList _ _ _ ((⟨some 43, _, _, _, _, _⟩ : Oper) :: _) _ _); refine wpList_load_mid (o := ⟨some 43, _, _, _, _, _⟩) hrg (by rfl) _ _ (by rfl) (by rfl) _ Tryz.underlying116 (by rfl) sizeGB (by rfl) ?_)
      | ((with_reducible show wpList _ _ _ ((⟨none, _, _, _, _, _⟩ : Oper) :: _) _ _); refine wpList_store_blk (o := ⟨none, _, _, _, _, _⟩) ((Blk.new w2 116 #[.int .i64 0, .int .i64 0, .int .i64 0, .slice none 0 0, .slice none 0 0])) (by rfl) _ _ _ (by rfl) (by rfl) ((kcs x).toArray) (by rfl) (sizeGB) (by rfl) (by rfl) (by simp [kcs, Value.oneCell']) ?_; intro w3 h3 hu3)
      | fail)
    have hb3 : Below w2.heap.size w2 w3 := ((Below.refl w2.heap.size w2).alloc (Nat.le_refl _) _).upd hu3 (Nat.le_refl _)
    obtain ⟨A', c', hA', hcc, -, -, -⟩ := OwnsC.reads HQ2.out.1.ol
    have hc3' : L.length ≤ c3 := by cases hA'; exact hcc
    have hcl3 : ∀ j v, (kcells L)[j]? = some v → w3.cell? ⟨b2, o2 + j, none⟩ = some v := fun j v hv => ((HQ2.out.2.2.2.2.2.2.trans (hb3.mono HQ2.out.2.2.2.2.2.2.size)).cell (p := ⟨b2, o2 + j, none⟩) HQ.out.2.1).trans (HQ.out.2.2.2.2 j v hv)
    have H3 := Lib.hid (And.intro (HQ2.out.1.below hb3) (And.intro (HQ2.out.2.1.trans (hb3.mono HQ2.out.1.gx.size)) (And.intro h3 (And.intro hcl3 (And.intro hc3' (And.intro HQ2.out.2.2.2.2.1 (And.intro HQ2.out.2.2.2.1 (And.intro HQ2.out.2.2.2.2.2.1 (Nat.le_trans HQ2.out.1.gx.size (Nat.le_refl w2.heap.size))))))))))
    have hoff : ∀ b, ((Value.slice A4 G.length c4).ownBlock = some b) → b < w2.heap.size := fun b hb => HQ2.out.1.lt b (.inr hb)
    clear hb3 hA' hcc hc3' hcl3 hu3 d2 HQ hrg h3 H1
    generalize w2.heap.size = gb at H3 hoff ⊢
    have HO := Lib.hid hoff
    clear hoff HQ2
    have hl12 : L.length ≤ 12 := H3.out.2.2.2.2.2.2.2.1.2.1
    have k65 : wi < 65536 := by omega
    clear hl12
    -- the list without it
    simp only [Act.put]
    have hC3 : Near [] w3 w3 := Near.refl _ _
    refine wp_region_tree (Near [] w3) [19] (PlanT.takes [0, 2, 3, 4, 6, 9, 10, 11, 13, 14] (PlanT.takes [5, 12] (PlanT.takes [7, 15] (.opt 1 (.opt 8 (.opt 16 (.opt 17 (PlanT.takes [18] (.opt 19 .done .no)) .no) .no) .no) .no)))) (by kernel_rfl) (by kernel_rfl) hC3.drew ?_
    refine wpTree_pure _ _ _ (by rfl) (by rfl) ?_
    dsimp only [List.filterMap, List.getElem?_cons_zero, List.getElem?_cons_succ]
    repeat (go_big_quiet_step (fail))
    refine wpQuiet_nil ?_
    refine wpTree_takeL _ _ _ (by rfl) (by rfl) (hC3.drew) ?_
    dsimp only [List.filterMap, List.getElem?_cons_zero, List.getElem?_cons_succ]
    (refine wpQuiet_load_cell (fun w' hw' => (hw'.cell H3.out.1.xb.lt List.not_mem_nil).trans (H3.out.1.xb.at_ 2 (v := .slice (some ⟨b2, o2, none⟩) L.length c3) rfl)) (by rfl) _ _ (by rfl) (by rfl) _ Tryz.underlying69 (by rfl) ?_; simp only [Act.put, List.setIfInBounds_toArray, List.set_cons_zero, List.set_cons_succ])
    (refine wpQuiet_load_cell (fun w' hw' => (hw'.cell H3.out.1.xb.lt List.not_mem_nil).trans (H3.out.1.xb.at_ 2 (v := .slice (some ⟨b2, o2, none⟩) L.length c3) rfl)) (by rfl) _ _ (by rfl) (by rfl) _ Tryz.underlying69 (by rfl) ?_; simp only [Act.put, List.setIfInBounds_toArray, List.set_cons_zero, List.set_cons_succ])
    refine wpQuiet_nil ?_
    refine wpTree_pure _ _ _ (by rfl) (by rfl) ?_
    dsimp only [List.filterMap, List.getElem?_cons_zero, List.getElem?_cons_succ]
    refine wpQuiet_cutHiS (by rfl) 69 _ _ (by rfl) 116 Tryz.underlying69 sizeGB b2 o2 L.length c3 .i64 wi (by rfl) (by rfl) (by have h1 := H3.out.2.2.2.2.1; have h2 := H3.out.2.2.2.2.2.1; omega) ?_
    simp only [Act.put, List.setIfInBounds_toArray, List.set_cons_zero, List.set_cons_succ]
    refine wpQuiet_cutLoS (by rfl) 69 _ _ (by rfl) 116 Tryz.underlying69 sizeGB b2 o2 L.length c3 .i64 (wi + 1) (by rfl) (by rfl) (by have h2 := H3.out.2.2.2.2.2.1; omega) ?_
    simp only [Act.put, List.setIfInBounds_toArray, List.set_cons_zero, List.set_cons_succ]
    refine wpQuiet_nil ?_
    have hrT : Reads w3 (some ⟨b2, o2, none⟩) (kcells (L.take wi)) := by rw [kcells_take]; exact reads_take H3.out.2.2.2.1 _
    have hrD : Reads w3 (if c3 = wi + 1 then some ⟨b2, o2, none⟩ else some ⟨b2, o2 + (wi + 1) * 5, none⟩) (kcells (L.drop (wi + 1))) := reads_drop H3.out.2.2.2.1 H3.out.2.2.2.2.1
    generalize (if c3 = wi + 1 then some ⟨b2, o2, none⟩ else some ⟨b2, o2 + (wi + 1) * 5, none⟩ : Option Addr) = A6 at hrD ⊢
    have hlT : (L.take wi).length = wi := by rw [List.length_take]; omega
    have hlD : (L.drop (wi + 1)).length = L.length - (wi + 1) := List.length_drop
    have HRD := Lib.hid (And.intro hrT (And.intro hrD (And.intro hlT hlD)))
    clear hrT hrD hlT hlD
    refine wpTree_one _ rfl ?_
    go_wp2_with fail
    have hB4 : Below w3.heap.size w3 (w3.alloc (.cells #[] 116)).drew := ((Below.refl w3.heap.size w3).alloc (Nat.le_refl _) _).drew
    have ho4 : OwnsC 116 5 (w3.alloc (.cells #[] 116)).drew w3.heap.size (.slice (some ⟨w3.heap.size, 0, none⟩) 0 0) 0 [] [] := OwnsC.lit (e := 116) (size := 5) (base := w3.heap.size) w3 #[] 0 (Nat.le_refl _) (by simp) (by simp)
    have hl12 := H3.out.2.2.2.2.2.2.2.1
    refine TreeQ.in_ (Near.below hB4) ?_
    refine wpTree_one _ rfl ?_
    go_wp2_with (first
      | ((with_reducible show wpList _ _ _ ((⟨some 52, _, _, _, _, _⟩ : Oper) :: _) _ _); refine wpList_append_vals (o := ⟨some 52, _, _, _, _, _⟩) (by rfl) _ _ _ (by rfl) (w3.heap.size) 116 (.agg zeroGB) 5 72 Tryz.underlying69 infoGB (by rfl) (by omega) (.slice (some ⟨w3.heap.size, 0, none⟩) 0 0) (0) ([]) ([]) (by rfl) (ho4) (some ⟨b2, o2, none⟩) (wi) (c3) (kcells (L.take wi)) (by rfl) (by rw [kcells_length, HRD.out.2.2.1]) (HRD.out.1.below hB4) (kcells_one _) (by have := hl12; simp only [maxLen]; omega) (by have := hl12; omega) (hB4.size) ?_; intro v5 w5 sp5 ho5 hg5 hv5 _)
      | fail)
    have hB5 : Below w3.heap.size w3 w5 := hB4.grown hg5 hB4.size (fun k hk => Nat.le_of_eq (Option.some.inj hk))
    clear ho4 hg5 hv5 hB4
    rw [Nat.zero_add, List.nil_append] at ho5
    refine TreeQ.in_ (Near.below hB5) ?_
    refine wpTree_one _ rfl ?_
    go_wp2_with (first
      | ((with_reducible show wpList _ _ _ ((⟨some 60, _, _, _, _, _⟩ : Oper) :: _) _ _); refine wpList_append_vals (o := ⟨some 60, _, _, _, _, _⟩) (by rfl) _ _ _ (by rfl) (w3.heap.size) 116 (.agg zeroGB) 5 72 Tryz.underlying69 infoGB (by rfl) (by omega) (v5) (wi) (kcells (L.take wi)) (sp5) (by rfl) (ho5) (A6) (L.length - (wi + 1)) (c3 - (wi + 1)) (kcells (L.drop (wi + 1))) (by rfl) (by rw [kcells_length, HRD.out.2.2.2]) (HRD.out.2.1.below hB5) (kcells_one _) (by have := hl12; simp only [maxLen]; omega) (by have := hl12; omega) (hB5.size) ?_; intro v6 w6 sp6 ho6 hg6 hv6 _)
      | fail)
    have hB6 : Below w3.heap.size w3 w6 := hB5.grown hg6 hB5.size (fun k hk => (ho5.lt k hk).1)
    clear ho5 hg6 hv6 hB5
    obtain ⟨A7, c7, rfl, -, -, -, -⟩ := OwnsC.reads ho6
    refine TreeQ.in_ (Near.below hB6) ?_
    refine wpTree_one _ rfl ?_
    go_wp2_with fail
    refine TreeQ.in_ (Near.below hB6) ?_
    refine wpTree_pure _ _ _ (by rfl) (by rfl) ?_
    dsimp only [List.filterMap, List.getElem?_cons_zero, List.getElem?_cons_succ]
    repeat (go_big_quiet_step (fail))
    refine wpQuiet_nil ?_
    refine wpTree_one _ rfl ?_
    have hx6 := H3.out.1.xb.below hB6 H3.out.1.xb.lt
    have q2 := hx6.at_ 2 (v := .slice (some ⟨b2, o2, none⟩) L.length c3) rfl
    have f2 := hx6.frozen 2
    have hb6 := H3.out.2.2.1.below hB6 H3.out.2.2.1.lt
    have hg6 := H3.out.1.og.ownBelow hB6
    have hM6 : MS B Y gp dp g d w3 w6 := (⟨H3.out.1.gx, ⟨Below.refl _ _ |>.mono H3.out.1.gx.size, ⟨Nat.le_refl _, fun _ _ => rfl⟩⟩, H3.out.1.yR⟩ : MS B Y gp dp g d w3 w3).below hB6
    have hu := (Upd.refl xp w6).set 2 (.slice A7 (wi + (L.length - (wi + 1))) c7)
    have hN7 := Near.upd hu (List.mem_singleton_self xp)
    have hM7 := hM6.near hN7 (fun z hz => by rw [List.mem_singleton.1 hz]; exact ⟨H3.out.1.xB, _, _, hx6, ngL⟩)
    have hx7 : Blk (w6.setCell ⟨xp, 2, none⟩ (.slice A7 (wi + (L.length - (wi + 1))) c7)) xp 71 #[.pointer (some ⟨dp, 0, none⟩), .pointer (some ⟨gp, 0, none⟩), .slice A7 (wi + (L.length - (wi + 1))) c7, .slice A4 G.length c4, .int .i64 (n : Int)] := hx6.set_ 2 _
    have hl7 := OwnsC.nearO ho6 hN7 (ownApart ho6 hx6 (by decide))
    have hg7 := OwnsC.nearO hg6 hN7 (ownApart hg6 hx6 (by decide))
    have hb7 := hb6.near hN7 (fun hm => hx6.apart hb6 (by decide) (List.mem_singleton.1 hm).symm)
    have hsep : ∀ b, (Value.slice A7 (wi + (L.length - (wi + 1))) c7).ownBlock = some b → (Value.slice A4 G.length c4).ownBlock ≠ some b := fun b hb hgb => by
      have h1 := (ho6.lt b hb).1
      have h2 := (H3.out.1.og.lt b hgb).2
      omega
    have hseg : (Value.slice A7 (wi + (L.length - (wi + 1))) c7).ownBlock ≠ some gb := fun hb => by
      have h1 := (ho6.lt gb hb).1
      have h2 := H3.out.2.2.1.lt
      omega
    have H7 := Lib.hid (And.intro hM7 (And.intro hx7 (And.intro (hl7.base_ H3.out.1.gx.size) (And.intro hg7 (And.intro hb7 (And.intro hsep hseg))))))
    have hC6 := Lib.hid (Near.below (X := []) hB6)
    clear hx6 hb6 hg6 hM6 hu hN7 hM7 hx7 hl7 hg7 hb7 hsep hseg ho6 hB6 hl12 hC3
    go_wp2_with fail
    refine TreeQ.out (by rfl) ?_
    refine wpTree_done ?_
    generalize w6.setCell ⟨xp, 2, none⟩ (.slice A7 (wi + (L.length - (wi + 1))) c7) = w7 at H7 ⊢
    clear q2 f2 hC6
    go_wp2_with fail
    -- it is let go
    obtain ⟨X, hX⟩ : ∃ X : List Nat, X = (Value.slice A4 G.length c4).ownBlock.toList := ⟨_, rfl⟩
    have hXm : ∀ z ∈ X, (Value.slice A4 G.length c4).ownBlock = some z := fun z hz => by rw [hX] at hz; simpa using hz
    have hXo : ∀ z ∈ X, B ≤ z ∧ ∃ t cs, Blk w7 z t cs ∧ NG t := fun z hz => by
      obtain ⟨cs, hb⟩ := ownBlk H7.out.2.2.2.1 (hXm z hz)
      exact ⟨(H7.out.2.2.2.1.lt z (hXm z hz)).1, _, _, hb, ngB⟩
    have hXx : xp ∉ X := fun hm => by
      obtain ⟨cs, hb⟩ := ownBlk H7.out.2.2.2.1 (hXm xp hm)
      exact H7.out.2.1.apart hb (by decide) rfl
    have hXg : gb ∉ X := fun hm => by have := HO.out gb (hXm gb hm); omega
    have hXl : ∀ b, (Value.slice A7 (wi + (L.length - (wi + 1))) c7).ownBlock = some b → b ∉ X := fun b hb hm => H7.out.2.2.2.2.2.1 b hb (hXm b hm)
    have HXS := Lib.hid (And.intro hX (And.intro hXo (And.intro hXx (And.intro hXg hXl))))
    clear hX hXm hXo hXx hXg hXl
    have hC7 : Near X w7 w7 := Near.refl _ _
    refine wp_region_tree (Near X w7) [10] (PlanT.takes [0, 1, 2, 3] (PlanT.takes [4, 5] (.opt 6 (.opt 7 (.opt 8 (PlanT.takes [9] (.opt 10 .done .no)) .no) .no) .no))) (by kernel_rfl) (by kernel_rfl) hC7.drew ?_
    refine wpTree_pure _ _ _ (by rfl) (by rfl) ?_
    dsimp only [List.filterMap, List.getElem?_cons_zero, List.getElem?_cons_succ]
    repeat (go_big_quiet_step (fail))
    refine wpQuiet_nil ?_
    refine wpTree_takeL _ _ _ (by rfl) (by rfl) (hC7.drew) ?_
    dsimp only [List.filterMap, List.getElem?_cons_zero, List.getElem?_cons_succ]
    (refine wpQuiet_load_cell (fun w' hw' => (hw'.cell H7.out.2.1.lt HXS.out.2.2.1).trans (H7.out.2.1.at_ 3 (v := .slice A4 G.length c4) rfl)) (by rfl) _ _ (by rfl) (by rfl) _ Tryz.underlying69 (by rfl) ?_; simp only [Act.put, List.setIfInBounds_toArray, List.set_cons_zero, List.set_cons_succ])
    (refine wpQuiet_load_blk (fun w' hw' => (show Blk w' gb 116 #[.int .i64 x.1.1, .int .i64 x.1.2.1.1, .int .i64 x.1.2.1.2.1, .slice x.2.1 x.1.2.2.1.length x.2.2.1, .slice x.2.2.2.1 x.1.2.2.2.1.length x.2.2.2.2] from H7.out.2.2.2.2.1.near hw' HXS.out.2.2.2.1)) (by rfl) _ _ (by rfl) (by rfl) _ Tryz.underlying116 (by rfl) (sizeGB) (by rfl) ?_; simp only [Act.put, List.setIfInBounds_toArray, List.set_cons_zero, List.set_cons_succ])
    refine wpQuiet_nil ?_
    refine wpTree_one _ rfl ?_
    go_wp2_with fail
    have hb8 : Below w7.heap.size w7 (w7.alloc (.cells #[.int .i64 x.1.1, .int .i64 x.1.2.1.1, .int .i64 x.1.2.1.2.1, .slice x.2.1 x.1.2.2.1.length x.2.2.1, .slice x.2.2.2.1 x.1.2.2.2.1.length x.2.2.2.2] 116)).drew := ((Below.refl w7.heap.size w7).alloc (Nat.le_refl _) _).drew
    have hr8 : Reads (w7.alloc (.cells #[.int .i64 x.1.1, .int .i64 x.1.2.1.1, .int .i64 x.1.2.1.2.1, .slice x.2.1 x.1.2.2.1.length x.2.2.1, .slice x.2.2.2.1 x.1.2.2.2.1.length x.2.2.2.2] 116)).drew (some ⟨w7.heap.size, 0, none⟩) (kcs x) := reads_new w7 116 (kcs x)
    have hg8 := H7.out.2.2.2.1.ownBelow hb8
    have hl12 := H3.out.2.2.2.2.2.2.2.1
    refine TreeQ.in_ (Near.below hb8) ?_
    refine wpTree_one _ rfl ?_
    go_wp2_with (first
      | ((with_reducible show wpList _ _ _ ((⟨some 70, _, _, _, _, _⟩ : Oper) :: _) _ _); refine wpList_append_vals (o := ⟨some 70, _, _, _, _, _⟩) (by rfl) _ _ _ (by rfl) (B) 116 (.agg zeroGB) 5 72 Tryz.underlying69 infoGB (by rfl) (by omega) (.slice A4 G.length c4) (G.length) (kcells G) (sg) (by rfl) (hg8) (some ⟨w7.heap.size, 0, none⟩) (1) (1) (kcs x) (by rfl) (by rfl) (hr8) (by simp [kcs, Value.oneCell']) (by have := hl12; simp only [maxLen]; omega) (by have := hl12; omega) (Nat.le_trans H7.out.1.gx.size hb8.size) ?_; intro v9 w9 sp9 ho9 hg9 hv9 _)
      | fail)
    obtain ⟨A9, c9, rfl, -, -, -, -⟩ := OwnsC.reads ho9
    have hk9 : Near X w7 w9 := (Near.below hb8).trans (Near.grown hg9 (fun k hk => by rw [HXS.out.1]; rw [hk]; simp))
    have hv9x : ∀ b, (Value.slice A9 (G.length + 1) c9).ownBlock = some b → b ∈ X ∨ w7.heap.size ≤ b := fun b hb => by
      rcases hv9 with e | e
      · left; rw [HXS.out.1, ← e, hb]; simp
      · right; rw [hb] at e; injection e with e; rw [e]; exact hb8.size
    have hM9 := H7.out.1.near hk9 HXS.out.2.1
    have hx9 := H7.out.2.1.near hk9 HXS.out.2.2.1
    have hb9 := H7.out.2.2.2.2.1.near hk9 HXS.out.2.2.2.1
    have hl9 := OwnsC.nearO H7.out.2.2.1 hk9 HXS.out.2.2.2.2
    have hne9 : ∀ b, (Value.slice A7 (wi + (L.length - (wi + 1))) c7).ownBlock = some b → (Value.slice A9 (G.length + 1) c9).ownBlock ≠ some b := fun b hb hgb => by
      rcases hv9x b hgb with hm | hm
      · exact HXS.out.2.2.2.2 b hb hm
      · have := (H7.out.2.2.1.lt b hb).2; omega
    have q3 := hx9.at_ 3 (v := .slice A4 G.length c4) rfl
    have f3 := hx9.frozen 3
    have hu := (Upd.refl xp w9).set 3 (.slice A9 (G.length + 1) c9)
    have hN10 := Near.upd hu (List.mem_singleton_self xp)
    have hM10 := hM9.near hN10 (fun z hz => by rw [List.mem_singleton.1 hz]; exact ⟨H3.out.1.xB, _, _, hx9, ngL⟩)
    have hx10 : Blk (w9.setCell ⟨xp, 3, none⟩ (.slice A9 (G.length + 1) c9)) xp 71 #[.pointer (some ⟨dp, 0, none⟩), .pointer (some ⟨gp, 0, none⟩), (.slice A7 (wi + (L.length - (wi + 1))) c7), .slice A9 (G.length + 1) c9, .int .i64 (n : Int)] := hx9.set_ 3 _
    have hl10 := OwnsC.nearO hl9 hN10 (ownApart hl9 hx9 (by decide))
    have hg10 := OwnsC.nearO ho9 hN10 (ownApart ho9 hx9 (by decide))
    have hb10 := hb9.near hN10 (fun hm => hx9.apart hb9 (by decide) (List.mem_singleton.1 hm).symm)
    have H10 := Lib.hid (And.intro hM10 (And.intro hx10 (And.intro hl10 (And.intro hg10 (And.intro hb10 hne9)))))
    have hC9 := Lib.hid hk9
    clear hk9 hv9x hM9 hx9 hb9 hl9 hne9 hu hN10 hM10 hx10 hl10 hg10 hb10 ho9 hg9 hv9 hb8 hr8 hg8 hl12 hC7
    go_wp2_with fail
    refine TreeQ.in_ hC9.out ?_
    refine wpTree_one _ rfl ?_
    go_wp2_with fail
    refine TreeQ.in_ hC9.out ?_
    refine wpTree_pure _ _ _ (by rfl) (by rfl) ?_
    dsimp only [List.filterMap, List.getElem?_cons_zero, List.getElem?_cons_succ]
    repeat (go_big_quiet_step (fail))
    refine wpQuiet_nil ?_
    refine wpTree_one _ rfl ?_
    go_wp2_with fail
    refine TreeQ.out (by rfl) ?_
    refine wpTree_done ?_
    generalize w9.setCell ⟨xp, 3, none⟩ (.slice A9 (G.length + 1) c9) = w10 at H10 ⊢
    clear q3 f3 hC9
    go_wp2_with fail
    have hC10 : Soft w10 w10 := Soft.refl _
    refine wp_region_tree (Soft w10) [] (PlanT.takes [0, 1, 2, 4] (PlanT.takes [3, 5] (.opt 6 (PlanT.takes [7, 8, 9] .done) .no))) (by kernel_rfl) (by kernel_rfl) (hC10.drew) ?_
    refine wpTree_pure _ _ _ (by rfl) (by rfl) ?_
    dsimp only [List.filterMap, List.getElem?_cons_zero, List.getElem?_cons_succ]
    repeat (go_big_quiet_step (fail))
    refine wpQuiet_nil ?_
    refine wpTree_takeL _ _ _ (by rfl) (by rfl) (hC10.drew) ?_
    dsimp only [List.filterMap, List.getElem?_cons_zero, List.getElem?_cons_succ]
    (refine wpQuiet_load_cell (fun w' hw' => hw'.cell (i := 1) (v := .pointer (some ⟨gp, 0, none⟩)) H10.out.2.1 ngL rfl) (by rfl) _ _ (by rfl) (by rfl) _ Tryz.underlying65 (by rfl) ?_; simp only [Act.put, List.setIfInBounds_toArray, List.set_cons_zero, List.set_cons_succ])
    (refine wpQuiet_load_mid (fun w' hw' => range2 (b := gb) (off := 1) (u := .int .i64 x.1.2.1.1) (v := .int .i64 x.1.2.1.2.1) (hw'.cell (i := 1) H10.out.2.2.2.2.1 ngB rfl) (hw'.cell (i := 2) H10.out.2.2.2.2.1 ngB rfl)) (by rfl) _ _ (by rfl) (by rfl) _ Tryz.underlying113 (by rfl) (size_ref) (by rfl) ?_; simp only [Act.put, List.setIfInBounds_toArray, List.set_cons_zero, List.set_cons_succ])
    refine wpQuiet_nil ?_
    refine wpTree_one _ rfl ?_
    go_wp2_with fail
    have hxL : x ∈ L := List.mem_of_getElem? H3.out.2.2.2.2.2.2.1
    have hxm := H3.out.1.lf.mem (List.mem_append_left G hxL)
    have hp1 := H3.out.1.lif.pos hxm
    have hp2 := H3.out.1.lif.le _ hxm
    have hn12 := H3.out.1.lif.n12
    obtain ⟨ht0, hlif⟩ := H3.out.1.lif.release (i := wi) (b := x.1) (by rw [List.getElem?_map, H3.out.2.2.2.2.2.2.1]; rfl)
    have hB10 : Below w10.heap.size w10 w10.drew := (Below.refl w10.heap.size w10).drew
    have hrl := xtrelease (H10.out.1.gx.below hB10).1 x.1.2.1 (by unfold ba at hp1; omega) (by unfold ba at hp2; omega)
    rw [show turnCode g.L x.1.2.1.1 1 = 0 from ht0] at hrl
    refine hrl.mono ?_
    rintro e w11 ⟨rfl, hG, hS⟩
    replace hS : TS B Y w10 w11 := (TS.below hB10 H10.out.1.gx.size H10.out.1.gx.own).trans hS
    have hC11 := hS.so
    have hlen : (L.take wi ++ L.drop (wi + 1)).length = wi + (L.length - (wi + 1)) := by rw [List.length_append, List.length_take, List.length_drop]; omega
    have hks : ∀ z ∈ L.take wi ++ L.drop (wi + 1) ++ (G ++ [x]), z ∈ L ++ G := fun z hz => by
      rcases List.mem_append.1 hz with hz | hz
      · rcases List.mem_append.1 hz with hz | hz
        · exact List.mem_append_left _ (List.mem_of_mem_take hz)
        · exact List.mem_append_left _ (List.mem_of_mem_drop hz)
      · rcases List.mem_append.1 hz with hz | hz
        · exact List.mem_append_right _ hz
        · rw [List.mem_singleton.1 hz]; exact List.mem_append_left _ hxL
    have HE : Hid (Lf B Y w11 xp gp dp n { g with L := turnL g.L x.1.2.1.1 1 2 } d (L.take wi ++ L.drop (wi + 1)) (G ++ [x]) ∧ Below B w w11) := Lib.hid ⟨⟨hG, ⟨_, _, sp6, sp9, hS.so.blk H10.out.2.1 ngL, by rw [hlen, kcells_app]; exact OwnsC.soft H10.out.2.2.1 hS.so ngB, by rw [List.length_append, kcells_app]; exact OwnsC.soft H10.out.2.2.2.1 hS.so ngB, H10.out.2.2.2.2.2⟩,
      fun z hz => ((H3.out.1.ks z (hks z hz)).step H10.out.1.st).step hS.st, by rw [List.map_append, List.map_take, List.map_drop, List.map_append]; exact hlif, H3.out.1.xB, fun y hy => by obtain ⟨cs, hb⟩ := H10.out.1.yR y hy; exact ⟨cs, hS.st.same.blk hb hy⟩⟩, (H3.out.2.1.trans H10.out.1.st.bel).trans hS.bel⟩
    clear hks hlen hS hG hrl hB10 ht0 hlif hn12 hp1 hp2 hxm hxL
    go_wp2_with fail
    refine TreeQ.in_ hC11 ?_
    refine wpTree_pure _ _ _ (by rfl) (by rfl) ?_
    dsimp only [List.filterMap, List.getElem?_cons_zero, List.getElem?_cons_succ]
    repeat (go_big_quiet_step (fail))
    refine wpQuiet_nil ?_
    refine wpTree_done ?_
    clear hC11 hC10
    go_wp2
    go_ret2
    exact ⟨true, rfl, HE.out.2, fun _ => ⟨Y, gp, _, d, _, _, HE.out.1⟩⟩
  -- what was let go is settled
  · obtain ⟨dF, hfl, hfN, hfL, -⟩ := H1.out.1.lif.flush
    have HF := Lib.hid (And.intro hfl hfL)
    clear hfl hfN hfL
    have hx := H1.out.1.xb
    have f3 := hx.frozen 3
    have hu := (Upd.refl xp w1).set 3 (.slice none 0 0)
    have hN := Near.upd hu (List.mem_singleton_self xp)
    have hM : MS B Y gp dp g d w1 w1 := ⟨H1.out.1.gx, ⟨Below.refl _ _, ⟨Nat.le_refl _, fun _ _ => rfl⟩⟩, H1.out.1.yR⟩
    have hM2 := hM.near hN (fun z hz => by rw [List.mem_singleton.1 hz]; exact ⟨H1.out.1.xB, _, _, hx, ngL⟩)
    have hx2 : Blk (w1.setCell ⟨xp, 3, none⟩ (.slice none 0 0)) xp 71 #[.pointer (some ⟨dp, 0, none⟩), .pointer (some ⟨gp, 0, none⟩), .slice A3 L.length c3, .slice none 0 0, .int .i64 (n : Int)] := hx.set_ 3 _
    have hl2 := OwnsC.nearO H1.out.1.ol hN (ownApart H1.out.1.ol hx (by decide))
    have H2 := Lib.hid (And.intro hM2 (And.intro hx2 hl2))
    have e1 := hx2.at_ 1 (v := .pointer (some ⟨gp, 0, none⟩)) rfl
    clear hx hu hN hM hM2 hx2 hl2 hsbk
    go_wp2_with fail
    refine (xtflush H2.out.1.gx HF.out.1).mono ?_
    rintro e w3 ⟨rfl, hG, hS⟩
    have H3 := Lib.hid (And.intro hG (And.intro hS (hS.so.blk H2.out.2.1 ngL)))
    have q1 := H3.out.2.2.at_ 1 (v := .pointer (some ⟨gp, 0, none⟩)) rfl
    clear hG hS d1 d2 d3 f3 e1
    go_wp2_with fail
    have hst := xtsettle H3.out.1
    rw [show cnt g.L g.L.length = G.length by have := H1.out.1.lif.gone; rw [List.length_map] at this; exact this] at hst
    refine hst.mono ?_
    rintro e w4 ⟨rfl, hG, hS⟩
    have hT4 := H3.out.2.1.trans hS
    have HE : Hid (Lf B Y w4 xp gp dp n { g with L := setl g.L } dF L [] ∧ Below B w w4) := Lib.hid ⟨⟨hG, ⟨_, _, sl, [], hS.so.blk H3.out.2.2 ngL, OwnsC.soft H2.out.2.2 hT4.so ngB, OwnsC.nil _ _ _ _, fun k _ e => by cases e⟩, fun z hz => ((H1.out.1.ks z (by rw [List.append_nil] at hz; exact List.mem_append_left _ hz)).step H2.out.1.st).step hT4.st, HF.out.2.settle, H1.out.1.xB, fun y hy => by obtain ⟨cs, hb⟩ := H2.out.1.yR y hy; exact ⟨cs, hT4.st.same.blk hb hy⟩⟩, (H1.out.2.2.1.trans H2.out.1.st.bel).trans hT4.bel⟩
    clear hst hG hS hT4 q1
    go_wp2
    go_ret2
    exact ⟨true, by simp, HE.out.2, fun _ => ⟨Y, gp, _, dF, L, [], HE.out.1⟩⟩
  -- a flush
  · obtain ⟨dF, hfl, hfN, hfL, -⟩ := H1.out.1.lif.flush
    have HF := Lib.hid (And.intro hfl hfL)
    clear hfl hfN hfL hsbk
    go_wp2_with fail
    refine (xtflush H1.out.1.gx HF.out.1).mono ?_
    rintro e w3 ⟨rfl, hG, hS⟩
    have HE := Lib.hid (And.intro (H1.out.1.lf.ts hG hS HF.out.2) (H1.out.2.2.1.trans hS.bel))
    clear hG hS d1 d2 d3
    go_wp2
    go_ret2
    exact ⟨true, rfl, HE.out.2, fun _ => ⟨Y, gp, g, dF, L, G, HE.out.1⟩⟩
  -- a crash
  · clear d2 d3
    have hsbk2 := hsbk
    clear hsbk
    go_wp2_with fail
    refine (xtfree H1.out.1.gx).mono ?_
    rintro e w2 ⟨rfl, hyb, hG, hS⟩
    have hbS := hS.so.blk hsbk2 ngS
    have H2 := Lib.hid (And.intro (H1.out.1.ts hG hS H1.out.1.lif) (And.intro (H1.out.2.2.1.trans hS.bel) (And.intro hyb hbS)))
    generalize w1.heap.size = y at H2 ⊢
    clear hyb hG hS hbS hsbk2 d1
    go_wp2_with fail
    obtain ⟨dF, hfl, hfN, hfL, hfo⟩ := H2.out.1.lif.flush
    obtain ⟨hcN, hcL⟩ := hfL.crash hfo keeps tear
    have HF := Lib.hid (And.intro hfl (And.intro hfL (And.intro hcL (And.intro hfN hcN))))
    clear hfl hfN hfL hfo hcN hcL
    have ng5 : NG 5 := by unfold NG; decide
    obtain ⟨SC, hSC⟩ : ∃ SC, SC = stpc kind which at_ tear BA body.length bc m KA keeps.length kc := ⟨_, rfl⟩
    have hs3 : SC[3]? = some (.int .i64 tear) := by rw [hSC]; rfl
    have hs6 : SC[6]? = some (.slice KA keeps.length kc) := by rw [hSC]; rfl
    have HS := Lib.hid (And.intro hSC (And.intro hs3 hs6))
    clear hSC hs3 hs6
    have hC2 : (fun w' => w'.cell? ⟨xp, 0, none⟩ = some (.pointer (some ⟨dp, 0, none⟩)) ∧ Blk w' sb 73 SC) w2.drew := ⟨H2.out.1.xb.at_ 0 (v := .pointer (some ⟨dp, 0, none⟩)) rfl, by rw [HS.out.1]; exact H2.out.2.2.2⟩
    have d1 := H2.out.1.xb.at_ 1 (v := .pointer (some ⟨gp, 0, none⟩)) rfl
    refine wp_region_tree (fun w' => w'.cell? ⟨xp, 0, none⟩ = some (.pointer (some ⟨dp, 0, none⟩)) ∧ Blk w' sb 73 SC) [] (PlanT.takes [0, 1, 2] (.opt 3 (.opt 4 (PlanT.takes [5, 6, 7, 8, 9, 11, 13] (PlanT.takes [10, 12, 14] (.opt 15 (PlanT.takes [16, 17, 18, 19, 20] (.opt 21 (PlanT.takes [22, 23, 24] .done) .no)) .no))) .no) .no)) (by kernel_rfl) (by kernel_rfl) hC2 ?_
    refine wpTree_pure _ _ _ (by rfl) (by rfl) ?_
    dsimp only [List.filterMap, List.getElem?_cons_zero, List.getElem?_cons_succ]
    repeat (go_big_quiet_step (fail))
    refine wpQuiet_nil ?_
    refine wpTree_one _ rfl ?_
    go_wp2_with fail
    refine TreeQ.in_ hC2 ?_
    refine wpTree_one _ rfl ?_
    go_wp2_with fail
    have hB2 : Below w2.heap.size w2 w2.drew := (Below.refl w2.heap.size w2).drew
    refine (xtflush (H2.out.1.gx.below hB2).1 HF.out.1).mono ?_
    rintro e w3 ⟨rfl, hG, hS⟩
    replace hS : TS B Y w2 w3 := (TS.below hB2 H2.out.1.gx.size H2.out.1.gx.own).trans hS
    have hL3 := H2.out.1.ts hG hS HF.out.2.1
    have hs3 := hS.so.blk H2.out.2.2.2 ngS
    have hC3 : (fun w' => w'.cell? ⟨xp, 0, none⟩ = some (.pointer (some ⟨dp, 0, none⟩)) ∧ Blk w' sb 73 SC) w3 := ⟨hL3.xb.at_ 0 (v := .pointer (some ⟨dp, 0, none⟩)) rfl, by rw [HS.out.1]; exact hs3⟩
    have H3 := Lib.hid (And.intro hL3 (And.intro (H2.out.2.1.trans hS.bel) (And.intro (hS.so.blk H2.out.2.2.1 ng5) hs3)))
    clear hG hS hL3 hs3 hB2 hC2 d1
    go_wp2_with fail
    refine TreeQ.in_ hC3 ?_
    refine wpTree_pure _ _ _ (by rfl) (by rfl) ?_
    dsimp only [List.filterMap, List.getElem?_cons_zero, List.getElem?_cons_succ]
    repeat (go_big_quiet_step (fail))
    refine wpQuiet_nil ?_
    refine wpTree_takeL _ _ _ (by rfl) (by rfl) (hC3) ?_
    dsimp only [List.filterMap, List.getElem?_cons_zero, List.getElem?_cons_succ]
    (refine wpQuiet_want' (by rfl) ?_; refine wpQuiet_load_cell (fun w' hw' => hw'.1) (by rfl) _ _ (by rfl) (by rfl) _ Tryz.underlying25 (by rfl) ?_; simp only [Act.put, List.setIfInBounds_toArray, List.set_cons_zero, List.set_cons_succ])
    (refine wpQuiet_want' (by rfl) ?_; refine wpQuiet_load_cell (fun w' hw' => hw'.2.at_ 6 (v := .slice KA keeps.length kc) HS.out.2.2) (by rfl) _ _ (by rfl) (by rfl) _ Tryz.underlying29 (by rfl) ?_; simp only [Act.put, List.setIfInBounds_toArray, List.set_cons_zero, List.set_cons_succ])
    (refine wpQuiet_want' (by rfl) ?_; refine wpQuiet_load_cell (fun w' hw' => hw'.2.at_ 3 (v := .int .i64 tear) HS.out.2.1) (by rfl) _ _ (by rfl) (by rfl) _ Tryz.underlying3 (by rfl) ?_; simp only [Act.put, List.setIfInBounds_toArray, List.set_cons_zero, List.set_cons_succ])
    refine wpQuiet_nil ?_
    refine wpTree_one _ rfl ?_
    go_wp2_with fail
    refine (xtcrash H3.out.1.gx KA keeps kc tear (HA.out.2.2.2.2.2.2.1.lowR HA.out.2.2.2.2.2.2.2.1 H3.out.2.1) HA.out.2.2.2.2.2.2.2.1 (by have := HA.out.2.2.2.2.2.2.2.2; omega)).mono ?_
    rintro e w4 ⟨rfl, hG, hS⟩
    have hL4 := H3.out.1.ts hG hS HF.out.2.2.1
    have hs4 := hS.so.blk H3.out.2.2.2 ngS
    have hC4 : (fun w' => w'.cell? ⟨xp, 0, none⟩ = some (.pointer (some ⟨dp, 0, none⟩)) ∧ Blk w' sb 73 SC) w4 := ⟨hL4.xb.at_ 0 (v := .pointer (some ⟨dp, 0, none⟩)) rfl, by rw [HS.out.1]; exact hs4⟩
    have H4 := Lib.hid (And.intro hL4 (And.intro (H3.out.2.1.trans hS.bel) (And.intro (hS.so.blk H3.out.2.2.1 ng5) hs4)))
    clear hG hS hL4 hs4 hC3
    go_wp2_with fail
    refine TreeQ.in_ hC4 ?_
    refine wpTree_pure _ _ _ (by rfl) (by rfl) ?_
    dsimp only [List.filterMap, List.getElem?_cons_zero, List.getElem?_cons_succ]
    repeat (go_big_quiet_step (fail))
    refine wpQuiet_nil ?_
    refine wpTree_one _ rfl ?_
    go_wp2_with fail
    refine (lfOpens_any H4.out.1.lf y (2 + (g.L.length + 3) / 4) (enc_length _).symm H4.out.2.2.1).mono ?_
    rintro e w5 ⟨rfl, ⟨gp', hL⟩, hB, hbk⟩
    have hs5 := hbk _ _ _ H4.out.2.2.2 ngS (by decide)
    have hC5 : (fun w' => w'.cell? ⟨xp, 0, none⟩ = some (.pointer (some ⟨dp, 0, none⟩)) ∧ Blk w' sb 73 SC) w5 := ⟨by obtain ⟨_, _, _, _, hx, -⟩ := hL.xb; exact hx.at_ 0 (v := .pointer (some ⟨dp, 0, none⟩)) rfl, by rw [HS.out.1]; exact hs5⟩
    have HE := Lib.hid (And.intro hL (H4.out.2.1.trans hB))
    clear hL hB hbk hs5 hC4
    go_wp2_with fail
    refine TreeQ.in_ hC5 ?_
    refine wpTree_pure _ _ _ (by rfl) (by rfl) ?_
    dsimp only [List.filterMap, List.getElem?_cons_zero, List.getElem?_cons_succ]
    repeat (go_big_quiet_step (fail))
    refine wpQuiet_nil ?_
    refine wpTree_done ?_
    clear hC5
    go_wp2
    go_ret2
    exact ⟨true, rfl, HE.out.2, fun _ => ⟨Y, gp', g, _, L, G, HE.out.1⟩⟩
  -- a byte is turned
  · by_cases hL0 : 0 < L.length
    case neg =>
      have kn : decide ((L.length : Int) > 0) = false := decide_eq_false (by omega)
      have kn2 : (0 < L.length) = False := eq_false hL0
      have HE := Lib.hid (And.intro H1.out.1.lf H1.out.2.2.1)
      clear hL0 hsbk
      go_wp2
      go_ret2
      exact ⟨true, rfl, HE.out.2, fun _ => ⟨Y, gp, g, d, L, G, HE.out.1⟩⟩
    have kn : decide ((L.length : Int) > 0) = true := decide_eq_true (by omega)
    have HL0 := Lib.hid hL0
    go_wp2_with (first
      | ((with_reducible show wpList _ _ _ ((⟨some 153, _, _, _, _, _⟩ : Oper) :: _) _ _); refine wpList_load_blk (o := ⟨some 153, _, _, _, _, _⟩) (hsbk) (by rfl) _ _ (by rfl) (by rfl) _ Tryz.underlying73 (by rfl) (sizeStep) (by rfl) ?_)
      | fail)
    refine (lfTurn_any H1.out.1.lf HL0.out kind which at_ tear BA body.length bc m KA keeps.length kc).mono ?_
    rintro e w3 ⟨goes, rfl, hB, hgo⟩
    have HE := Lib.hid (And.intro (H1.out.2.2.1.trans hB) hgo)
    clear hB hgo hsbk kn hL0 d1 d2 d3
    go_wp2
    go_ret2
    refine ⟨goes, rfl, HE.out.1, fun hg => ?_⟩
    obtain ⟨d', hL⟩ := HE.out.2 hg
    exact ⟨Y, gp, g, d', L, G, hL⟩
end Go.Proofs.YtfoegmjpfkmggaaGreatDoor

/- The refs that are reached from one on, depth first, each once. Plain facts. No condition. -/
namespace Go.Proofs.YtfoegmjpfkmggaaGreatDoor
/-- From a ref on: what is met, and what has been seen then. (The number bounds the depth.) -/
def dfs (kids : RefT → List RefT) : Nat → List RefT → RefT → List RefT × List RefT
  | 0, S, _ => ([], S)
  | n + 1, S, r => if r ∈ S then ([], S) else ((kids r).foldl (fun (p : List RefT × List RefT) k => (p.1 ++ (dfs kids n p.2 k).1, (dfs kids n p.2 k).2)) ([r], S ++ [r]))
/-- The same from a list on. -/
def dfss (kids : RefT → List RefT) (n : Nat) (p : List RefT × List RefT) (l : List RefT) : List RefT × List RefT :=
  l.foldl (fun p k => (p.1 ++ (dfs kids n p.2 k).1, (dfs kids n p.2 k).2)) p
theorem dfs_old {kids : RefT → List RefT} {n : Nat} {S : List RefT} {r : RefT} (h : r ∈ S) : dfs kids (n + 1) S r = ([], S) := by unfold dfs; rw [if_pos h]
theorem dfs_new {kids : RefT → List RefT} {n : Nat} {S : List RefT} {r : RefT} (h : r ∉ S) : dfs kids (n + 1) S r = dfss kids n ([r], S ++ [r]) (kids r) := by
  conv => lhs; unfold dfs
  rw [if_neg h]; rfl
theorem dfss_nil {kids : RefT → List RefT} {n : Nat} {p : List RefT × List RefT} : dfss kids n p [] = p := rfl
theorem dfss_cons {kids : RefT → List RefT} {n : Nat} {p : List RefT × List RefT} {k : RefT} {l : List RefT} : dfss kids n p (k :: l) = dfss kids n (p.1 ++ (dfs kids n p.2 k).1, (dfs kids n p.2 k).2) l := rfl
theorem dfs_grows {kids : RefT → List RefT} : ∀ (n : Nat) (S : List RefT) (r : RefT), ∃ T, (dfs kids n S r).2 = S ++ T
  | 0, S, r => ⟨[], by simp [dfs]⟩
  | n + 1, S, r => by
    by_cases h : r ∈ S
    · rw [dfs_old h]; exact ⟨[], by simp⟩
    · rw [dfs_new h]
      have key : ∀ (l : List RefT) (p : List RefT × List RefT), ∃ T, (dfss kids n p l).2 = p.2 ++ T := by
        intro l
        induction l with
        | nil => intro p; exact ⟨[], by simp [dfss_nil]⟩
        | cons k l ih =>
          intro p
          rw [dfss_cons]
          obtain ⟨T1, h1⟩ := dfs_grows (kids := kids) n p.2 k
          obtain ⟨T2, h2⟩ := ih (p.1 ++ (dfs kids n p.2 k).1, (dfs kids n p.2 k).2)
          rw [h2, h1]
          exact ⟨T1 ++ T2, by simp⟩
      obtain ⟨T, hT⟩ := key (kids r) ([r], S ++ [r])
      rw [hT]
      exact ⟨[r] ++ T, by simp⟩
/-- How many of a universe have not been seen. -/
def unseen (U S : List RefT) : Nat := (U.filter fun u => decide (u ∉ S)).length
theorem unseen_mono {U S T : List RefT} (h : ∀ x ∈ S, x ∈ T) : unseen U T ≤ unseen U S := by
  unfold unseen
  rw [← List.countP_eq_length_filter, ← List.countP_eq_length_filter]
  exact List.countP_mono_left fun x _ hx => by simp only [decide_eq_true_eq] at hx ⊢; exact fun hs => hx (h x hs)
theorem unseen_less {U S : List RefT} {r : RefT} (hr : r ∈ U) (h : r ∉ S) : unseen U (S ++ [r]) < unseen U S := by
  unfold unseen
  induction U with
  | nil => cases hr
  | cons x U ih =>
    rw [List.filter_cons, List.filter_cons]
    rcases List.mem_cons.1 hr with rfl | hr'
    · have h1 := unseen_mono (U := U) (S := S) (T := S ++ [r]) (fun x hx => List.mem_append_left _ hx)
      unfold unseen at h1
      simp [h]
      simp only [decide_not] at h1
      simpa using Nat.lt_succ_of_le h1
    · have := ih hr'
      by_cases hx : x ∈ S
      · simp only [List.mem_append, hx, true_or, not_true_eq_false, decide_false, Bool.false_eq_true, if_false]
        simpa using this
      · by_cases hxr : x = r
        · subst hxr
          simp [hx]
          have h1 := unseen_mono (U := U) (S := S) (T := S ++ [x]) (fun y hy => List.mem_append_left _ hy)
          unfold unseen at h1
          simpa using Nat.lt_succ_of_le h1
        · simp only [List.mem_append, hx, hxr, List.mem_singleton, or_self, not_false_eq_true, decide_true, if_true, List.length_cons]
          simpa using this
end Go.Proofs.YtfoegmjpfkmggaaGreatDoor

/- A range over a function that keeps maps of its own and yields a fixed row of items. Plain facts over any program. No condition. -/
namespace Go
open Go.RowKit
section
variable {F : Fence} {n : Nat} {P : Program}
theorem Kept.refl (B : Nat) (W : World) : Kept B W W := ⟨rfl, rfl, rfl, Nat.le_refl _, fun _ _ _ => rfl, fun _ _ h _ => h⟩
theorem Kept.trans {B : Nat} {W W' W'' : World} (h : Kept B W W') (k : Kept B W' W'') : Kept B W W'' :=
  ⟨k.os.trans h.os, k.tape.trans h.tape, k.output.trans h.output, Nat.le_trans h.size k.size, fun j hj hl => (k.low j hj (Nat.lt_of_lt_of_le hl h.size)).trans (h.low j hj hl), fun j o ho hc => k.cells j o (h.cells j o ho hc) hc⟩
/-- Blocks that came later may be written as well. -/
theorem Kept.new {B g : Nat} {W W' W'' : World} (h : Kept B W W') (u : Upd g W' W'') (hg : W.heap.size ≤ g) (hB : B ≤ g) : Kept B W W'' :=
  ⟨u.os.trans h.os, u.tape.trans h.tape, u.output.trans h.output, by rw [u.size]; exact h.size, fun j hj hl => (u.block j (by omega)).trans (h.low j hj hl), fun j o ho hc => by
    have hj := (Array.getElem?_eq_some_iff.1 ho).1
    exact (u.block j (by omega)).trans (h.cells j o ho hc)⟩
/-- A map may be written. -/
theorem Kept.map {B g : Nat} {W W' : World} {es : Array MapEntry} {c : Nat} (u : Upd g W W') (hm : MapB W g es c) (hB : B ≤ g) : Kept B W W' :=
  ⟨u.os, u.tape, u.output, by rw [u.size]; exact Nat.le_refl _, fun j hj _ => u.block j (by omega), fun j o ho hc => by
    by_cases e : j = g
    · subst e
      have hm : W.heap[j]? = some (.map es c) := hm
      rw [hm] at ho; injection ho with ho; subst ho; cases hc
    · exact (u.block j e).trans ho⟩
end
end Go

/- A range over a function that keeps blocks of its own and yields a fixed row of items: the body keeps what came since the range began. Plain facts over any program. No condition. -/
namespace Go
open Go.RowKit
section
variable {F : Fence} {n : Nat} {P : Program}
/-- What came from B on and lay there lies there, but what the body calls its own. -/
structure Young (B : Nat) (X : List Nat) (W W' : World) : Prop where
  size : W.heap.size ≤ W'.heap.size
  same : ∀ (k : Nat) (o : Obj), B ≤ k → k ∉ X → W.heap[k]? = some o → W'.heap[k]? = some o
theorem Young.near {B : Nat} {X Y : List Nat} {W W' : World} (h : Near Y W W') (hX : ∀ x ∈ Y, x < B ∨ x ∈ X) : Young B X W W' :=
  ⟨h.size, fun k _ hB hn hk => (h.block k (Array.getElem?_eq_some_iff.1 hk).1 (fun e => (hX k e).elim (fun h => by omega) hn)).trans hk⟩
theorem Young.below {B : Nat} {X : List Nat} {W W' : World} (h : Below W.heap.size W W') : Young B X W W' := ⟨h.size, fun k _ _ _ hk => (h.block k (Array.getElem?_eq_some_iff.1 hk).1).trans hk⟩
theorem Young.trans {B : Nat} {X : List Nat} {W W' W'' : World} (h : Young B X W W') (k : Young B X W' W'') : Young B X W W'' := ⟨Nat.le_trans h.size k.size, fun j o hB hX hj => k.same j o hB hX (h.same j o hB hX hj)⟩
theorem Young.mono {B B' : Nat} {X : List Nat} {W W' : World} (h : Young B X W W') (hB : B ≤ B') : Young B' X W W' := ⟨h.size, fun j o hj hX ho => h.same j o (Nat.le_trans hB hj) hX ho⟩
/-- What the body calls its own grows by what came. -/
def Grown (X X' : List Nat) (W : World) : Prop := ∀ x ∈ X', x ∈ X ∨ W.heap.size ≤ x
theorem Grown.refl (X : List Nat) (W : World) : Grown X X W := fun _ h => .inl h
theorem Grown.trans {X X' X'' : List Nat} {W W' : World} (h : Grown X X' W) (k : Grown X' X'' W') (hs : W.heap.size ≤ W'.heap.size) : Grown X X'' W := fun x hx => (k x hx).elim (h x) fun h => .inr (Nat.le_trans hs h)
theorem Grown.mono {X X' : List Nat} {W W' : World} (h : Grown X X' W') (hs : W.heap.size ≤ W'.heap.size) : Grown X X' W := fun x hx => (h x hx).imp id fun h => Nat.le_trans hs h
theorem Grown.off {X X' : List Nat} {W : World} {x : Nat} (h : Grown X X' W) (hx : x ∉ X) (hl : x < W.heap.size) : x ∉ X' := fun hm => (h x hm).elim hx fun h => by omega
theorem Young.then_ {B : Nat} {X X' : List Nat} {W W' W'' : World} (h : Young B X W W') (g : Grown X X' W) (k : Young B X' W' W'') : Young B X W W'' :=
  ⟨Nat.le_trans h.size k.size, fun j o hB hX hj => k.same j o hB (g.off hX (Array.getElem?_eq_some_iff.1 hj).1) (h.same j o hB hX hj)⟩
theorem Young.put {B : Nat} {X : List Nat} (W : World) (l : Nat) (o : Obj) (hl : l < B) : Young B X W (W.putObj l o) := Young.near (putObj_near W l o) (fun x hx => .inl (by rw [List.mem_singleton.1 hx]; exact hl))
/-- The function's part: it may write what is no cells, where it came later; the body keeps what came since, but its own. -/
def RowOfY (F : Fence) (n : Nat) (P : Program) (gf : Nat) (lb : Array Value) (encs : Nat → Array Value) (I : Nat → List Nat → World → Prop) (N : Nat) : Prop :=
  ∀ (l : Nat) (J : Nat → List Nat → World → Prop) (Jx : World → Prop) (X : List Nat) (W : World), (∀ k X W, J k X W → I k X W) → (∀ k X W, J k X W → ∀ x ∈ X, x < W.heap.size) →
    (∀ k X W1 W2, J k X W1 → Kept W.heap.size W1 W2 → J k X W2) → (∀ W1 W2, Jx W1 → Kept W.heap.size W1 W2 → Jx W2) →
    (∀ k X W1, J k X W1 → k < N → YieldAt F (n - 1) P l (encs k) W1 fun e W' => (e = .returned (.bool true) ∧ ∃ X', J (k + 1) X' W' ∧ Young W.heap.size X W1 W' ∧ Grown X X' W1) ∨ (e = .returned (.bool false) ∧ Jx W')) →
    J 0 X W → CallsIn F n P gf (#[.func (.yield l) #[] #[]] ++ lb) W fun e W' => (∃ v, e = .returned v) ∧ ((∃ X', J N X' W') ∨ Jx W')
/-- How a round's body may end. -/
def rowPostY (B : Nat) (X : List Nat) (I : List Nat → World → Prop) (Ix : Code → World → Prop) (W : World) : Exit → Act → World → Prop
  | .normal, _, W' => Young B X W W' ∧ ∃ X', I X' W' ∧ Grown X X' W
  | .ret, _, W' => Young B X W W' ∧ Ix .ret W'
  | .exit i, _, W' => Young B X W W' ∧ Ix (.exit i) W'
  | .goto t, _, W' => Young B X W W' ∧ Ix (.goto t) W'
  | .panic _, _, _ => False
  | .outgrown, _, _ => False
theorem wpIn_rangeRowY {g : Operand} {ps : Array Tmp} {assign body : Code} {Q : Exit → Act → World → Prop} {a : Act} {w : World}
    (hro : F.round = none) (h1 : 1 ≤ n) {gf : Nat} {lb : Array Value} (hg : a.eval g = .func (.func gf) #[] lb) (hFg : F.fn gf) (eg : ∀ args w, (callFunc gf args).run P w = .ok (.enter gf args) w)
    (encs : Nat → Array Value) (hps : ∀ k, (encs k).size = ps.size) (N : Nat) (I : Nat → List Nat → World → Prop) (Ix : Code → World → Prop)
    (hIX : ∀ k X W, I k X W → ∀ x ∈ X, x < W.heap.size)
    (hI : ∀ k X W W', I k X W → Kept w.heap.size W W' → I k X W') (hIx : ∀ c W W', Ix c W → Kept w.heap.size W W' → Ix c W') {X0 : List Nat} (h0 : I 0 X0 w)
    (hrow : RowOfY F (n - 1) P gf lb encs I N)
    (hround : ∀ l k X W, w.heap.size ≤ l → l < W.heap.size → I k X W → k < N → assign.wpIn (F.inRound l) (n - 1 - 1) P
      (Exit.then (fun a₁ W₁ => Below W.heap.size W W₁ ∧ ∀ W₂, Kept w.heap.size W₁ W₂ → body.wpIn (F.inRound l) (n - 1 - 1) P (rowPostY w.heap.size X (I (k + 1)) Ix W₂) a₁ W₂) (fun _ _ _ => False))
      { tmps := (ps.zip (encs k)).foldl (fun t (p, v) => t.setIfInBounds p v) a.tmps, defers := [] } W)
    (hdone : ∀ D X W, w.heap.size ≤ D → I N X W → W.heap[D]? = some (.deferred (some [])) → Q .normal { a with defers := { target := .collected D, args := #[] } :: a.defers } W)
    (hstop : ∀ D c W, w.heap.size ≤ D → Ix c W → W.heap[D]? = some (.deferred (some [])) → c.wpIn F n P Q { a with defers := { target := .collected D, args := #[] } :: a.defers } W) :
    (Code.rangeFunc g ps assign body).wpIn F n P Q a w := by
  refine wpIn_rangeFunc fun fn hfn => ?_
  rw [hro]
  -- the loop's record, in a state; the two blocks that the loop lays
  let R : LoopState → Option Code → Obj := fun st pe => .loop { state := st, pending := pe, fn, tmps := a.tmps, params := ps, assign, body, defers := w.heap.size }
  let D := w.heap.size
  let l := w.heap.size + 1
  -- what the loop needs of a world, beside the caller's own
  let Bk : LoopState → Option Code → World → Prop := fun st pe W => W.heap[l]? = some (R st pe) ∧ W.heap[D]? = some (.deferred (some []))
  have bklt : ∀ {st pe W}, Bk st pe W → l < W.heap.size := fun h => (Array.getElem?_eq_some_iff.1 h.1).1
  have bkput : ∀ {st pe W} st' pe', Bk st pe W → Bk st' pe' (W.putObj l (R st' pe')) := fun st' pe' h =>
    ⟨World.putObj_heap_same (bklt h), (World.putObj_heap_other (by show D ≠ l; omega)).trans h.2⟩
  have bkput' : ∀ {st pe W} (o : Obj), Bk st pe W → (W.putObj l o).heap[D]? = some (.deferred (some [])) := fun o h => (World.putObj_heap_other (by show D ≠ l; omega)).trans h.2
  have bkbel : ∀ {st pe W W'}, Bk st pe W → Below W.heap.size W W' → Bk st pe W' := fun h k =>
    ⟨(k.block _ (bklt h)).trans h.1, (k.block _ (by have := bklt h; omega)).trans h.2⟩
  have low : ∀ {st pe W}, Bk st pe W → w.heap.size ≤ W.heap.size := fun h => by have := bklt h; omega
  have put : ∀ {st pe W} (o : Obj), Bk st pe W → Kept w.heap.size W (W.putObj l o) := fun o h => Kept.put (by show D ≤ l; omega) h.1 rfl
  -- the world behind the loop's entry
  let W1 := (w.alloc (.deferred (some []))).alloc (R .ready none)
  have e1 : Below w.heap.size w W1 := ((Below.refl _ w).alloc (Nat.le_refl _) _).alloc (by simp) _
  have b1 : Bk .ready none W1 := by
    refine ⟨?_, ?_⟩
    · have h := World.alloc_heap_new (w.alloc (.deferred (some []))) (R .ready none)
      rwa [World.size_alloc] at h
    · exact (Below.heap_alloc _ _ _ (by rw [World.size_alloc]; exact Nat.lt_succ_self _)).trans (World.alloc_heap_new w _)
  have hW1 : W1.heap.size = w.heap.size + 2 := by show ((w.alloc _).alloc _).heap.size = _; rw [World.size_alloc, World.size_alloc]
  have kw : ∀ {W W' : World}, Kept W1.heap.size W W' → Kept w.heap.size W W' := fun k => ⟨k.os, k.tape, k.output, k.size, fun j hj h => k.low j (by omega) h, k.cells⟩
  have bkkept : ∀ {st pe W W'}, Bk st pe W → Kept W1.heap.size W W' → Bk st pe W' := fun h k =>
    ⟨(k.low _ (by rw [hW1]; show w.heap.size + 1 < _; omega) (bklt h)).trans h.1, (k.low _ (by rw [hW1]; show w.heap.size < _; omega) (by have := bklt h; omega)).trans h.2⟩
  refine ⟨l, [{ target := .collected D, args := #[] }], W1, { target := .fn (.func gf) lb, args := #[.func (.yield l) #[] #[]] }, W1, gf, #[.func (.yield l) #[] #[]] ++ lb, W1,
    run_enterLoop_outer _ _ _ _ _, ?_, ?_, ?_, fun _ => h1, ?_⟩
  · simp only [resolve, hg]
    simp [go_sem]
  · intro f' hf'
    simp [Target.leads] at hf'
    exact hf' ▸ hFg
  · simp [invoke, go_sem, eg]
  refine (hrow l (fun k X W => (I k X W ∧ Bk .ready none W) ∧ D ∉ X ∧ l ∉ X) (fun W => ∃ c, Ix c W ∧ Bk .done (some c) W) X0 W1 (fun _ _ _ h => h.1.1) (fun k X W h => hIX k X W h.1.1)
    (fun k X W W' h b => ⟨⟨hI k X W W' h.1.1 (kw b), bkkept h.1.2 b⟩, h.2⟩) (fun W W' h b => by obtain ⟨c, hc, hb⟩ := h; exact ⟨c, hIx c W W' hc (kw b), bkkept hb b⟩) ?_ ⟨⟨hI 0 X0 w W1 h0 (Kept.below e1), b1⟩, fun hm => Nat.lt_irrefl _ (hIX 0 X0 w h0 _ hm), fun hm => Nat.not_succ_lt_self (hIX 0 X0 w h0 _ hm)⟩).mono ?_
  · -- a round
    rintro k X W ⟨⟨hi, hb⟩, hDX, hlX⟩ hk
    refine ⟨fn, _, assign, body, run_yield hb.1 (hps k), roundIn_of_wpIn hfn ?_⟩
    refine wpIn_mono (hround l k X W (by show D ≤ l; omega) (bklt hb) hi hk) ?_
    rintro e a1 W2 he
    cases e
    case normal =>
      obtain ⟨hB, hbody⟩ := he
      have hb2 := bkbel hb hB
      refine ⟨_, run_beginRound hb2.1 rfl, ?_⟩
      have hb3 := bkput .busy none hb2
      refine wpIn_mono (hbody _ (Kept.put (by show D ≤ l; omega) hb2.1 rfl)) ?_
      rintro e3 a3 W4 hp
      have fin : Young w.heap.size X (W2.putObj l (R .busy none)) W4 → Bk .busy none W4 := fun hkf => ⟨hkf.same _ _ (by show D ≤ l; omega) hlX hb3.1, hkf.same _ _ (Nat.le_refl _) hDX hb3.2⟩
      cases e3 with
      | normal =>
        obtain ⟨hy, X', hi', hg⟩ := hp
        have hb4 := fin hy
        have hs2 : W2.heap.size ≤ (W2.putObj l (R .busy none)).heap.size := (Young.put (B := W1.heap.size) (X := X) W2 l (R .busy none) (by rw [hW1]; show w.heap.size + 1 < _; omega)).size
        have hg1 := hg.mono (Nat.le_trans hB.size hs2)
        exact ⟨_, _, run_endRound none hb4.1, .inl ⟨rfl, X', ⟨⟨hI _ _ _ _ hi' (put _ hb4), bkput .ready none hb4⟩, hg1.off hDX (by have := bklt hb; show w.heap.size < _; omega), hg1.off hlX (bklt hb)⟩, ((Young.below hB).trans (Young.put W2 l _ (by rw [hW1]; show w.heap.size + 1 < _; omega))).trans ((hy.mono (by rw [hW1]; omega)).trans (Young.put W4 l _ (by rw [hW1]; show w.heap.size + 1 < _; omega))), hg1⟩⟩
      | ret =>
        have hb4 := fin hp.1
        exact ⟨_, _, run_endRound (some .ret) hb4.1, .inr ⟨rfl, .ret, hIx _ _ _ hp.2 (put _ hb4), bkput .done (some .ret) hb4⟩⟩
      | exit i =>
        have hb4 := fin hp.1
        exact ⟨_, _, run_endRound (some (.exit i)) hb4.1, .inr ⟨rfl, .exit i, hIx _ _ _ hp.2 (put _ hb4), bkput .done (some (.exit i)) hb4⟩⟩
      | goto t =>
        have hb4 := fin hp.1
        exact ⟨_, _, run_endRound (some (.goto t)) hb4.1, .inr ⟨rfl, .goto t, hIx _ _ _ hp.2 (put _ hb4), bkput .done (some (.goto t)) hb4⟩⟩
      | panic ch => exact hp.elim
      | outgrown => exact hp.elim
    all_goals exact he.elim
  · -- behind the function
    rintro e W2 ⟨⟨v, rfl⟩, (⟨X, ⟨hi, hb⟩, -⟩ | ⟨c, hc, hb⟩)⟩
    · exact ⟨none, _, run_endLoop hb.1 (by simp), hdone D X _ (Nat.le_refl _) (hI _ _ _ _ hi (put _ hb)) (bkput' _ hb)⟩
    · exact ⟨some c, _, run_endLoop hb.1 (by simp), hstop D c _ (Nat.le_refl _) (hIx _ _ _ hc (put _ hb)) (bkput' _ hb)⟩
end
end Go

/- An operation that calls nothing is carried out inside a fence as outside. Plain facts over any program. No condition. -/
namespace Go
section
variable {P : Program} {ops : Array Oper} {F : Fence} {n : Nat} {Q : Exit → Act → World → Prop} {a : Act} {w : World} {rest : List Oper}
theorem wpListIn_of {o : Oper} (hc : o.op.calmB = true) (h : wpList P ops (fun e a' w' => e = .normal ∧ wpListIn F n P ops Q rest a' w') [o] a w) : wpListIn F n P ops Q (o :: rest) a w := by
  simp only [wpList] at h
  simp only [wpListIn]
  split
  · rename_i hw
    rw [if_pos hw] at h
    have h1 := h.resolve_right fun hh => by obtain ⟨_, _, hq⟩ := hh.2; cases hq.1
    unfold Oper.wp at h1
    unfold Oper.wpIn
    refine ⟨fun f hf => (by rw [calm_about hc] at hf; cases hf), ?_⟩
    rw [calm_semAt hc]
    cases hr : (execOp a.eval o).run P w with
    | ok x w' =>
      rw [hr] at h1
      rcases calm_run hc _ _ _ _ hr with ⟨v, rfl⟩ | rfl
      · exact h1.2
      · exact h1.2
    | halt x w' =>
      rw [hr] at h1
      cases x <;> first | exact absurd h1.1 (by simp) | exact h1.elim
  · rename_i hw
    rw [if_neg hw] at h
    exact ⟨fun f hf => (by rw [calm_about hc] at hf; cases hf), h.2⟩
end
end Go

/- The refs that are reached from one on: the grid's reached. Conditions: the grid is known. -/
namespace Go.Proofs.YtfoegmjpfkmggaaGreatDoor
open Go.RowKit
attribute [local go_sem] Oper.semAt_some
theorem reached_any (gg : Nat) (r : RefT) (w : World) : Calls Tryz.prog 140 #[.pointer (some ⟨gg, 0, none⟩), .agg #[.int .i64 r.1, .int .i64 r.2.1]] w fun e w' => e = .returned (.func (.func 167) #[] #[.pointer (some ⟨w.heap.size, 0, none⟩), .pointer (some ⟨w.heap.size + 1, 0, none⟩)]) ∧
      w' = (w.alloc (.cells #[.pointer (some ⟨gg, 0, none⟩)] 65)).alloc (.cells #[.int .i64 r.1, .int .i64 r.2.1] 113) := by
  go_enter Tryz.func140, Tryz.ntmps140
  go_wp2
  go_ret
  exact ⟨rfl, rfl⟩
/-- What a ref names; whether it is there. -/
def gkids (g : Grd) (d : Dsk) (r : RefT) : List RefT := if g.of r = true then (match gthere d r with | some b => b.2.2.1 | none => []) else []
def gok (g : Grd) (d : Dsk) (r : RefT) : Bool := g.of r && (gthere d r).isSome
/-- The iterator's own blocks: where what was seen is kept, the grid's box, the yield's, its own. -/
structure RPl where
  gm : Nat
  bs : Nat
  bg : Nat
  by_ : Nat
  bw : Nat
  l : Nat
  ty : TypeId
  tw : TypeId
def RPl.frees (q : RPl) : Array Value := #[.pointer (some ⟨q.bs, 0, none⟩), .pointer (some ⟨q.bg, 0, none⟩), .pointer (some ⟨q.by_, 0, none⟩), .pointer (some ⟨q.bw, 0, none⟩)]
structure RFr (q : RPl) (gg : Nat) (S : List RefT) (W : World) : Prop where
  s : Blk W q.bs 164 #[.map (some q.gm)]
  g : Blk W q.bg 65 #[.pointer (some ⟨gg, 0, none⟩)]
  y : Blk W q.by_ q.ty #[.func (.yield q.l) #[] #[]]
  w : Blk W q.bw q.tw #[.func (.func 168) #[] q.frees]
  m : MapK W q.gm (fun _ : RefT => True) encRef (wantM S)
theorem RFr.below {q : RPl} {gg : Nat} {S : List RefT} {W W' : World} (h : RFr q gg S W) (k : Below W.heap.size W W') : RFr q gg S W' :=
  ⟨h.s.below k h.s.lt, h.g.below k h.g.lt, h.y.below k h.y.lt, h.w.below k h.w.lt, h.m.near (X := []) (Near.below k) List.not_mem_nil⟩
theorem RFr.young {q : RPl} {gg B : Nat} {X : List Nat} {S : List RefT} {W W' : World} (h : RFr q gg S W) (k : Young B X W W') (hg : B ≤ q.gm ∧ B ≤ q.bs ∧ B ≤ q.by_ ∧ B ≤ q.bw) (hx : q.gm ∉ X ∧ q.bs ∉ X ∧ q.by_ ∉ X ∧ q.bw ∉ X) (hb : Blk W' q.bg 65 #[.pointer (some ⟨gg, 0, none⟩)]) : RFr q gg S W' := by
  obtain ⟨es, c, h1, h2⟩ := h.m
  exact ⟨k.same _ _ hg.2.1 hx.2.1 h.s, hb, k.same _ _ hg.2.2.1 hx.2.2.1 h.y, k.same _ _ hg.2.2.2 hx.2.2.2 h.w, ⟨es, c, k.same _ _ hg.1 hx.1 h1, h2⟩⟩
end Go.Proofs.YtfoegmjpfkmggaaGreatDoor

/- The refs that are reached: how the walk's list grows. Plain facts. No condition. -/
namespace Go.Proofs.YtfoegmjpfkmggaaGreatDoor
theorem dfss_take {kids : RefT → List RefT} {n : Nat} {p : List RefT × List RefT} {L : List RefT} {t : Nat} (ht : t < L.length) :
    dfss kids n p (L.take (t + 1)) = ((dfss kids n p (L.take t)).1 ++ (dfs kids n (dfss kids n p (L.take t)).2 L[t]).1, (dfs kids n (dfss kids n p (L.take t)).2 L[t]).2) := by
  rw [List.take_succ_eq_append_getElem ht]
  unfold dfss
  rw [List.foldl_append]
  rfl
theorem dfss_grows {kids : RefT → List RefT} {n : Nat} (l : List RefT) : ∀ (p : List RefT × List RefT), ∃ T, (dfss kids n p l).2 = p.2 ++ T := by
  induction l with
  | nil => intro p; exact ⟨[], by simp [dfss_nil]⟩
  | cons x l ih =>
    intro p
    rw [dfss_cons]
    obtain ⟨T1, h1⟩ := dfs_grows (kids := kids) n p.2 x
    obtain ⟨T2, h2⟩ := ih (p.1 ++ (dfs kids n p.2 x).1, (dfs kids n p.2 x).2)
    rw [h2, h1]
    exact ⟨T1 ++ T2, by simp⟩
theorem dfss_pre1 {kids : RefT → List RefT} {n : Nat} (l : List RefT) : ∀ (p : List RefT × List RefT), ∃ T, (dfss kids n p l).1 = p.1 ++ T := by
  induction l with
  | nil => intro p; exact ⟨[], by simp [dfss_nil]⟩
  | cons x l ih =>
    intro p
    rw [dfss_cons]
    obtain ⟨T2, h2⟩ := ih (p.1 ++ (dfs kids n p.2 x).1, (dfs kids n p.2 x).2)
    rw [h2]
    exact ⟨(dfs kids n p.2 x).1 ++ T2, by simp⟩
/-- A part of the walk is the front of the whole. -/
theorem dfss_front {kids : RefT → List RefT} {n : Nat} {p : List RefT × List RefT} (L : List RefT) (t : Nat) : ∃ T, (dfss kids n p L).1 = (dfss kids n p (L.take t)).1 ++ T := by
  have h : dfss kids n p L = dfss kids n (dfss kids n p (L.take t)) (L.drop t) := by
    unfold dfss
    rw [← List.foldl_append, List.take_append_drop]
  rw [h]
  exact dfss_pre1 _ _
end Go.Proofs.YtfoegmjpfkmggaaGreatDoor
