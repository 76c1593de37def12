/- The law's parts are written to a grid. Conditions: they are few, and can be read; the grid is new. -/
import Derived.Test.YthfdjemlibecgaaDoorMFetchWhole21
namespace Go.Proofs.YthfdjemlibecgaaDoor
open Go.RowKit
def WtRel (B : Nat) (w : World) (Y : List Nat) (gp dp : Nat) (l : List PartT) (v6 v7 : Value) (W : World) : Prop := ∃ (i : Nat) (d : Dsk), i ≤ l.length ∧ v7 = .int .i64 (i : Int) ∧ WtS B w Y gp dp l i v6 d W
def NmRel (B : Nat) (w1 : World) (Y : List Nat) (gp dp : Nat) (g : Grd) (d : Dsk) (xs : List RefT) (v8 v9 : Value) (W : World) : Prop := ∃ k : Nat, k ≤ xs.length ∧ v9 = .int .i64 (k : Int) ∧ NmS B w1 Y gp dp g d xs k v8 W
set_option maxRecDepth 100000 in
set_option maxHeartbeats 8000000 in
theorem written_any {gp dp : Nat} {Y : List Nat} {w0 w : World} {d : Dsk} (A : Option Addr) (c : Nat) (l : List PartT) (hx : GX w0.heap.size Y w gp dp ⟨16, cL 16 0, []⟩ d) (hd : Wr l 0 d) (hT : Tab w0) (hf : fewP l = true) (hP : Parts w0 A l) (hB : Below w0.heap.size w0 w) :
    Calls Tryd.prog 39 #[.pointer (some ⟨gp, 0, none⟩), .slice A l.length c] w fun e w' => ∃ v d', e = .returned (.tuple #[v, .bool true]) ∧ WtS w0.heap.size w Y gp dp l l.length v d' w' := by
  obtain ⟨⟨hm1, hm2⟩, hfew⟩ := few_at hf
  obtain ⟨bp, op, rfl, hbp, hcp⟩ := hP hm1
  have hT0 := hx.own
  have HA := Lib.hid (And.intro hx (And.intro hd (And.intro hT (And.intro hf (And.intro hB (And.intro hfew (And.intro hbp (And.intro hcp hT0))))))))
  clear hx hd hT hf hB hfew hbp hcp hP hT0
  generalize hm : l.length = m at hm1 hm2
  have HM := Lib.hid hm
  clear hm
  have hzr := zeroRefrun
  go_enter Tryd.func39, Tryd.ntmps39
  go_wp2_with fail
  go_loopw [6, 7] (fun v6 v7 W => WtRel w0.heap.size w Y gp dp l v6 v7 W) (fun _ v _ => m - (intOf v).toNat)
  case atStart => exact ⟨0, d, Nat.zero_le _, rfl, HA.out.2.1, HA.out.1, ⟨[], OwnsC.nil _ _ _ _⟩, GStep.below (Below.refl _ _) HA.out.1.size HA.out.1.own⟩
  case round =>
    obtain ⟨i, d1, hi, rfl, hS⟩ := hrel
    obtain ⟨W1, hW1⟩ : ∃ x, x = wr := ⟨_, rfl⟩
    subst hW1
    rw [HM.out] at hi
    by_cases hlt : i < m
    case neg =>
      obtain rfl : i = m := by omega
      have H1 := Lib.hid hS
      clear hS hlt hi
      go_wp2_with fail
      go_ret2
      refine ⟨_, d1, rfl, ?_⟩
      exact H1.out
    have hil : i < l.length := by rw [HM.out]; exact hlt
    obtain ⟨A1, c1, A2, c2, k1, k2, k3, k4, k5, k6, k7, k8, k9⟩ := HA.out.2.2.2.2.2.2.2.1 i hil
    obtain ⟨p1, p2⟩ := HA.out.2.2.2.2.2.1 i hil
    have hwr := fun (h : Wr l i d1) => wr_write h HA.out.2.2.2.1 hil
    have HWR := Lib.hid hwr
    clear hwr
    generalize l[i] = p at k1 k2 k3 k4 k6 k8 k9 p1 p2 HWR
    have hcell : ∀ w', Below w0.heap.size w0 w' → w'.cell? ⟨bp, op + i * 3, none⟩ = some (.int .i64 p.1) ∧ w'.cell? ⟨bp, op + i * 3 + 1, none⟩ = some (.slice A1 p.2.1.length c1) ∧ w'.cell? ⟨bp, op + i * 3 + 2, none⟩ = some (.slice A2 p.2.2.1.length c2) ∧ Ints w' A1 p.2.1 ∧ Bytes w' A2 p.2.2.1 :=
      fun w' hw' => ⟨(hw'.cell (p := ⟨bp, op + i * 3, none⟩) HA.out.2.2.2.2.2.2.1).trans k1, (hw'.cell (p := ⟨bp, op + i * 3 + 1, none⟩) HA.out.2.2.2.2.2.2.1).trans k2, (hw'.cell (p := ⟨bp, op + i * 3 + 2, none⟩) HA.out.2.2.2.2.2.2.1).trans k3, Reads.below k8 hw', Bytes.below k9 hw'⟩
    have hbW : Below w0.heap.size w0 W1 := HA.out.2.2.2.2.1.trans hS.st.bel
    obtain ⟨sp6, ho6⟩ := hS.own
    have hlt6 := hS.gx.own
    obtain ⟨A6, c6, rfl, hc6, hc6m, hrd, -⟩ := OwnsC.reads ho6
    have HC := Lib.hid (And.intro hcell (And.intro hbW (And.intro hS (And.intro hlt6 (And.intro (Refs.of hrd) (And.intro ho6 (And.intro k4 (And.intro k6 (And.intro k7 (And.intro p1 p2))))))))))
    have HI := Lib.hid hlt
    have hp20 := p2
    clear hcell hbW hS hlt6 hrd hc6 hc6m k1 k2 k3 k4 k5 k6 k7 k8 k9 p1 p2 hil ho6
    go_wp2_with fail
    go_loopw [8, 9] (fun v8 v9 W => NmRel w0.heap.size W1 ((Value.slice A6 i c6).ownBlock.toList ++ Y) gp dp ⟨16, cL 16 i, []⟩ d1 (wnm p i) v8 v9 W) (fun _ v _ => 20 - (intOf v).toNat)
    case atStart => exact ⟨0, Nat.zero_le _, rfl, NmS.nil HC.out.2.2.1.gx⟩
    case round =>
      obtain ⟨k, hk, rfl, hN⟩ := hrel
      have hbk := HC.out.2.1.trans hN.st.bel
      obtain ⟨j1, j2, j3, jI, jB⟩ := HC.out.1 wr hbk
      obtain ⟨sp8, ho8⟩ := hN.own
      obtain ⟨A8, c8, rfl, hc8, hc8m, hrd8, -⟩ := OwnsC.reads ho8
      by_cases hend : k < (wnm p i).length
      case pos =>
        have hi0 : i ≠ 0 := fun e => by subst e; simp [wnm] at hend
        have hl := wnm_length p i hi0
        have hkl : k < p.2.1.length := by omega
        have hk16 : k < 16 := by omega
        have q1 : decide ((i : Int) > 0) = true := decide_eq_true (by omega)
        have q2 : decide ((k : Int) < 16) = true := decide_eq_true (by omega)
        obtain ⟨b1, o1, rfl, hc1⟩ := jI (fun e => by have := congrArg List.length e; simp at this; rw [this] at hkl; exact absurd hkl (Nat.not_lt_zero _))
        have d5 := hc1 k (.int .i64 p.2.1[k]) (by rw [List.getElem?_map, List.getElem?_eq_getElem hkl]; rfl)
        have hg := wnm_get hi0 hend hkl
        have hpl := pickN_lt p.2.1[k] (i : Int) (by omega)
        have hP1 := fun w => pick_any p.2.1[k] (i : Int) (by have := HI.out; omega) (by omega) w
        generalize p.2.1[k] = x at d5 hg hpl hP1
        generalize hpk : pickN x (i : Int) = pk at hg hpl hP1
        have hpk1 : pk < i := by omega
        have hR6 := HC.out.2.2.2.2.1
        have hln : (List.map wk (List.range i)).length = i := by simp
        have hR6w : Refs wr A6 (List.map wk (List.range i)) := hN.st.same.refs hR6 (fun ad e => by subst e; exact List.mem_append_left _ (Option.mem_toList.2 (ownOf HC.out.2.2.2.2.2.1)))
        obtain ⟨b6, o6, rfl, -, hc6⟩ := hR6w (by rw [hln]; omega)
        obtain ⟨d6, d7⟩ := hc6 pk (by rw [hln]; exact hpk1)
        rw [show (List.map wk (List.range i))[pk]'(by rw [hln]; exact hpk1) = wk pk by simp] at d6 d7
        have hbl := (Below.refl wr.heap.size wr).alloc (Nat.le_refl _) (.cells #[.int .i64 (wk pk).1, .int .i64 (wk pk).2.1] 23)
        have hra : Reads (wr.alloc (.cells #[.int .i64 (wk pk).1, .int .i64 (wk pk).2.1] 23)) (some ⟨wr.heap.size, 0, none⟩) [.int .i64 (wk pk).1, .int .i64 (wk pk).2.1] := reads_new wr 23 [.int .i64 (wk pk).1, .int .i64 (wk pk).2.1]
        have hN4 := hN.below hbl
        obtain ⟨sp9, ho9⟩ := hN4.own
        have H4 := Lib.hid (And.intro hN4 (And.intro ho9 (And.intro hra (And.intro hend (And.intro hg (And.intro hk16 (Nat.le_trans hN.st.bel.size hbl.size)))))))
        have hsz1 : W1.heap.size ≤ (wr.alloc (.cells #[.int .i64 (wk pk).1, .int .i64 (wk pk).2.1] 23)).heap.size := Nat.le_trans hN.st.same.size hbl.size
        clear hbl hra hN4 ho9 hR6 hR6w hln hc6 hc1 jI jB j1 j3 hN hrd8 hc8 hc8m hbk ho8 hl
        go_wp2_with fail
        refine (hP1 _).mono ?_
        rintro e w2 ⟨rfl, hw⟩
        obtain rfl := hw.symm
        clear hw hP1
        go_wp2_with (first
          | ((with_reducible show wpList _ _ _ ((⟨some 51, _, _, _, _, _⟩ : Oper) :: _) _ _); refine wpList_append_vals (o := ⟨some 51, _, _, _, _, _⟩) (by rfl) _ _ _ (by rfl) W1.heap.size 23 (.agg #[.int .i64 0, .int .i64 0]) 2 16 Tryd.underlying29 infoRef (by rfl) (by omega) (.slice A8 k c8) k (refCells ((wnm p i).take k)) sp9 (by rfl) H4.out.2.1 (some ⟨wr.heap.size, 0, none⟩) 1 1 [.int .i64 (wk pk).1, .int .i64 (wk pk).2.1] (by rfl) (by rfl) H4.out.2.2.1 (by simp [Value.oneCell']) (by simp only [maxLen]; omega) (by omega) hsz1 ?_; intro v' W5 sp5 ho5 hg5 hv5 hn5; refine stopped ?_)
          | fail)
        refine Stopped.mk ?_
        rw [← H4.out.2.2.2.2.1] at ho5
        have hN5 := H4.out.1.app HC.out.2.2.2.1 HC.out.2.1.size H4.out.2.2.2.1 ho5 hg5 hv5
        have H5 := Lib.hid hN5
        clear ho5 hg5 hv5 hn5 hN5 d5 d6 d7 j2 hsz1 hg
        go_wp2_with fail
        exact ⟨⟨k + 1, hend, rfl, H5.out⟩, by simp [intOf]; omega⟩
      have HN := Lib.hid (And.intro hN (And.intro hbk (And.intro (show k = (wnm p i).length by omega) (And.intro (Refs.of hrd8) hc8))))
      clear hN hrd8 hc8 hc8m ho8 hbk j1 j3 jI jB
      have hcase : i = 0 ∨ (i ≠ 0 ∧ ¬ k < p.2.1.length) ∨ (i ≠ 0 ∧ k < p.2.1.length ∧ ¬ k < 16) := by
        by_cases e : i = 0
        · exact .inl e
        · have := wnm_length p i e
          have := HN.out.2.2.1
          omega
      have hw15 := pickN_lt p.1 15 (by omega)
      have hk15 : wrap64 (1 + (pickN p.1 15 : Int)) = 1 + (pickN p.1 15 : Int) := w64_in (by omega)
      clear hend hw15
      rcases hcase with hi0 | ⟨hi0, hkn⟩ | ⟨hi0, hkn, hk16⟩
      · have q1 : decide ((i : Int) > 0) = false := decide_eq_false (by omega)
        clear j2
        go_wp2_with fail
        clear hi0 q1
        have hNd := HN.out.1.gx.below ((Below.refl wr.heap.size wr).drew)
        have HNR : Hid (Refs wr A8 (wnm p i)) := Lib.hid (by have h := HN.out.2.2.2.1; rwa [HN.out.2.2.1, List.take_length] at h)
        have hC0 : Below w0.heap.size w0 wr.drew := HN.out.2.1.drew
        refine wp_region_tree (Below w0.heap.size w0) [] (PlanT.takes [0, 1, 2, 3, 4, 8, 9, 10, 11, 12] (PlanT.takes [5, 13] (.opt 6 (PlanT.takes [7] (.opt 14 (PlanT.takes [15, 16, 17] (.opt 18 (.opt 19 (PlanT.takes [20] .done) .no) .no)) (.opt 18 (.opt 14 (PlanT.takes [15, 16, 17] (.opt 19 (PlanT.takes [20] .done) .no)) .no) .no))) (.opt 18 (.opt 6 (PlanT.takes [7] (.opt 14 (PlanT.takes [15, 16, 17] (.opt 19 (PlanT.takes [20] .done) .no)) .no)) .no) .no)))) (by kernel_rfl) (by kernel_rfl) (hC0) ?_
        refine wpTree_pure _ _ _ (by rfl) (by rfl) ?_
        dsimp only [List.filterMap, List.getElem?_cons_zero, List.getElem?_cons_succ]
        repeat (go_big_quiet_step (fail))
        refine wpQuiet_nil ?_
        refine wpTree_takeL _ _ _ (by rfl) (by rfl) (hC0) ?_
        dsimp only [List.filterMap, List.getElem?_cons_zero, List.getElem?_cons_succ]
        (refine wpQuiet_load_cell (fun w' hw' => (HC.out.1 w' hw').1) (by rfl) _ _ (by rfl) (by rfl) _ Tryd.underlying3 (by rfl) ?_; simp only [Act.put, List.setIfInBounds_toArray, List.set_cons_zero, List.set_cons_succ])
        (refine wpQuiet_load_cell (fun w' hw' => (HC.out.1 w' hw').2.2.1) (by rfl) _ _ (by rfl) (by rfl) _ Tryd.underlying44 (by rfl) ?_; simp only [Act.put, List.setIfInBounds_toArray, List.set_cons_zero, List.set_cons_succ])
        refine wpQuiet_nil ?_
        have HS := Lib.hid (And.intro hNd.1 (And.intro hC0 ((Below.refl wr.heap.size wr).drew)))
        clear hNd hC0
        generalize wr.drew = W at HS ⊢
        refine wpTree_opt _ rfl ?_ (wpTree_one _ rfl ?_)
        · go_wp2_with fail
          refine (pick_any p.1 15 (by omega) (by omega) _).mono ?_
          rintro e wp_ ⟨rfl, hw⟩
          obtain rfl := hw.symm
          clear hw
          go_wp2_with fail
          refine TreeQ.in_ HS.out.2.1 ?_
          refine wpTree_pure _ _ _ (by rfl) (by rfl) ?_
          dsimp only [List.filterMap, List.getElem?_cons_zero, List.getElem?_cons_succ]
          repeat (go_big_quiet_step (fail))
          refine wpQuiet_nil ?_
          refine wpTree_opt _ rfl ?_ (wpTree_one _ rfl ?_)
          · go_wp2_with fail
            obtain ⟨d2, hput, hWr⟩ := HWR.out HC.out.2.2.1.wr
            refine (xwrite HS.out.1 (HA.out.2.2.1.below HS.out.2.1) (1 + (pickN p.1 15 : Int)) 7 A8 A2 k c8 p.2.2.1.length c2 (wnm p i) p.2.2.1 HN.out.2.2.1 rfl (Nat.le_trans (wnm_len p i) (by omega)) (by have := HC.out.2.2.2.2.2.2.2.2.2.1; omega) (HNR.out.below HS.out.2.2) (HC.out.1 _ HS.out.2.1).2.2.2.2 hput).mono ?_
            rintro e W2 ⟨rfl, hG, hS⟩
            have HS3 := Lib.hid (And.intro hG (And.intro (HS.out.2.1.trans hS.bel) (And.intro (((HN.out.1.gx.below HS.out.2.2).2.sub (fun _ hy => List.mem_append_right _ hy)).trans (hS.sub (fun _ hy => List.mem_append_right _ hy))) hWr)))
            clear hput hWr hG hS HS
            go_wp2_with fail
            refine TreeQ.in_ HS3.out.2.1 ?_
            refine wpTree_pure _ _ _ (by rfl) (by rfl) ?_
            dsimp only [List.filterMap, List.getElem?_cons_zero, List.getElem?_cons_succ]
            repeat (go_big_quiet_step (fail))
            refine wpQuiet_nil ?_
            refine wpTree_one _ rfl ?_
            go_wp2_with fail
            have hbl := (Below.refl W2.heap.size W2).alloc (Nat.le_refl _) (.cells #[.int .i64 0, .int .i64 0] 23)
            have hbx := Blk.new W2 23 #[.int .i64 0, .int .i64 0]
            have HS4 := Lib.hid (And.intro (HS3.out.1.add hbl (Nat.le_refl _) hbx.lt) (And.intro (HS3.out.2.1.alloc HS3.out.2.1.size (.cells #[.int .i64 0, .int .i64 0] 23)) (And.intro (HS3.out.2.2.1.trans ((HS3.out.1.below hbl).2.sub (fun _ hy => List.mem_append_right _ hy))) (And.intro hbx (And.intro HS3.out.2.1.size HS3.out.2.2.2)))))
            have HGB := Lib.hid (show W2.heap.size ∉ (Value.slice A6 i c6).ownBlock.toList ++ Y from fun hm => by have := HC.out.2.2.2.1 _ hm; have := HN.out.1.st.bel.size; have := HS3.out.2.2.1.bel.size; omega)
            clear hbl hbx HS3
            generalize hW3 : W2.alloc (.cells #[.int .i64 0, .int .i64 0] 23) = W3 at HS4 ⊢
            clear hW3
            generalize W2.heap.size = gb at HS4 HGB ⊢
            refine TreeQ.in_ HS4.out.2.1 ?_
            refine wpTree_one _ rfl ?_
            have hb4 := HS4.out.2.2.2.1
            go_wp2_with (first
              | ((with_reducible show wpList _ _ _ ((⟨none, _, _, _, _, _⟩ : Oper) :: _) _ _); refine wpList_store_blk (o := ⟨none, _, _, _, _, _⟩) (hb4) (by rfl) _ _ _ (by rfl) (by rfl) (#[.int .i64 (wk i).1, .int .i64 (wk i).2.1]) (by rfl) (size_ref) (by rfl) (by rfl) (by simp [Value.oneCell']) ?_; intro W5 h5 hu5; refine stopped ?_)
              | fail)
            refine Stopped.mk ?_
            have hn5 : Near [gb] W3 W5 := Near.upd hu5 (List.mem_singleton_self gb)
            have hb5 : Below w0.heap.size W3 W5 := hn5.toBelow (fun x hx => by rw [List.mem_singleton.1 hx]; exact HS4.out.2.2.2.2.1) HS4.out.2.1.size
            have hY5 : ∀ y ∈ (Value.slice A6 i c6).ownBlock.toList ++ Y, y < W1.heap.size := HC.out.2.2.2.1
            have HS5 := Lib.hid (And.intro (HS4.out.1.wrote hn5 (fun x hx => by rw [List.mem_singleton.1 hx]; exact List.mem_cons_self ..)) (And.intro (HS4.out.2.1.trans hb5) (And.intro (HS4.out.2.2.1.trans ⟨hb5, hn5.size, fun y hy => hn5.block y (Nat.lt_of_lt_of_le (hY5 y hy) (Nat.le_trans HN.out.1.st.bel.size HS4.out.2.2.1.bel.size)) (fun hm => HGB.out (by rw [← List.mem_singleton.1 hm]; exact hy))⟩) (And.intro h5 HS4.out.2.2.2.2.2))))
            clear hn5 hb5 hY5 hu5 hb4 HS4
            refine TreeQ.in_ HS5.out.2.1 ?_
            refine wpTree_pure _ _ _ (by rfl) (by rfl) ?_
            dsimp only [List.filterMap, List.getElem?_cons_zero, List.getElem?_cons_succ]
            repeat (go_big_quiet_step (fail))
            refine wpQuiet_nil ?_
            refine wpTree_done ?_
            have hbl6 := (Below.refl W5.heap.size W5).alloc (Nat.le_refl _) (.cells #[.int .i64 (wk i).1, .int .i64 (wk i).2.1] 23)
            have hG6 := (HS5.out.1.below hbl6).1
            have hS6 := HN.out.1.st.trans (HS5.out.2.2.1.trans ((HS5.out.1.below hbl6).2.sub (fun _ hy => List.mem_cons_of_mem _ (List.mem_append_right _ hy))))
            have ho6 := hS6.same.owns HC.out.2.2.2.2.2.1 (fun x hx => List.mem_append_left _ (Option.mem_toList.2 hx))
            have hra : Reads (W5.alloc (.cells #[.int .i64 (wk i).1, .int .i64 (wk i).2.1] 23)) (some ⟨W5.heap.size, 0, none⟩) [.int .i64 (wk i).1, .int .i64 (wk i).2.1] := reads_new W5 23 [.int .i64 (wk i).1, .int .i64 (wk i).2.1]
            have hsz6 : w.heap.size ≤ (W5.alloc (.cells #[.int .i64 (wk i).1, .int .i64 (wk i).2.1] 23)).heap.size := Nat.le_trans HC.out.2.2.1.st.bel.size hS6.bel.size
            have HS6 := Lib.hid (And.intro hG6 (And.intro hS6 (And.intro ho6 (And.intro hra (And.intro hsz6 HS5.out.2.2.2.2)))))
            have hi16 : i < 16 := by have := HI.out; omega
            clear hbl6 hG6 hS6 ho6 hra hsz6 HS5
            go_wp2_with (first
              | ((with_reducible show wpList _ _ _ ((⟨some 73, _, _, _, _, _⟩ : Oper) :: _) _ _); refine wpList_load_blk (o := ⟨some 73, _, _, _, _, _⟩) (h5) (by rfl) _ _ (by rfl) (by rfl) _ Tryd.underlying23 (by rfl) (size_ref) (by rfl) ?_)
              | ((with_reducible show wpList _ _ _ ((⟨some 75, _, _, _, _, _⟩ : Oper) :: _) _ _); refine wpList_append_vals (o := ⟨some 75, _, _, _, _, _⟩) (by rfl) _ _ _ (by rfl) w.heap.size 23 (.agg #[.int .i64 0, .int .i64 0]) 2 16 Tryd.underlying29 infoRef (by rfl) (by omega) (.slice A6 i c6) i (refCells ((List.range i).map wk)) sp6 (by rfl) HS6.out.2.2.1 (some ⟨W5.heap.size, 0, none⟩) 1 1 [.int .i64 (wk i).1, .int .i64 (wk i).2.1] (by rfl) (by rfl) HS6.out.2.2.2.1 (by simp [Value.oneCell']) (by simp only [maxLen]; omega) (by omega) HS6.out.2.2.2.2.1 ?_; intro v' W7 sp7 ho7 hg7 hv7 hn7; refine stopped ?_)
              | fail)
            refine Stopped.mk ?_
            have hN7 := HC.out.2.2.1.app (E := gb :: (Value.slice A8 k c8).ownBlock.toList) HA.out.2.2.2.2.2.2.2.2 HA.out.1.size HS6.out.2.1 HS6.out.2.2.2.2.2 HS6.out.1 ho7 hg7 hv7
            have H7 := Lib.hid hN7
            clear ho7 hg7 hv7 hn7 hN7 HS6 h5
            go_wp2_with fail
            exact ⟨⟨i + 1, d2, by rw [HM.out]; exact HI.out, rfl, H7.out⟩, meas_up (i := i) rfl rfl HI.out⟩
          · go_wp2_with fail
            have hbl := (Below.refl W.heap.size W).alloc (Nat.le_refl _) (.cells #[.int .i64 0, .int .i64 0] 23)
            have hbx := Blk.new W 23 #[.int .i64 0, .int .i64 0]
            have HS2 := Lib.hid (And.intro (HS.out.1.add hbl (Nat.le_refl _) hbx.lt) (And.intro (HS.out.2.1.alloc HS.out.2.1.size (.cells #[.int .i64 0, .int .i64 0] 23)) (And.intro (HS.out.2.2.trans (hbl.mono HS.out.2.2.size)) (And.intro hbx HS.out.2.1.size))))
            have HGB := Lib.hid (show W.heap.size ∉ (Value.slice A6 i c6).ownBlock.toList ++ Y from fun hm => by have := HC.out.2.2.2.1 _ hm; have := HN.out.1.st.bel.size; have := HS.out.2.2.size; omega)
            clear hbl hbx HS
            generalize hWn : W.alloc (.cells #[.int .i64 0, .int .i64 0] 23) = Wn at HS2 ⊢
            clear hWn
            generalize W.heap.size = gb at HS2 HGB ⊢
            refine TreeQ.in_ HS2.out.2.1 ?_
            refine wpTree_one _ rfl ?_
            go_wp2_with fail
            obtain ⟨d2, hput, hWr⟩ := HWR.out HC.out.2.2.1.wr
            refine (xwrite HS2.out.1 (HA.out.2.2.1.below HS2.out.2.1) (1 + (pickN p.1 15 : Int)) 7 A8 A2 k c8 p.2.2.1.length c2 (wnm p i) p.2.2.1 HN.out.2.2.1 rfl (Nat.le_trans (wnm_len p i) (by omega)) (by have := HC.out.2.2.2.2.2.2.2.2.2.1; omega) (HNR.out.below HS2.out.2.2.1) (HC.out.1 _ HS2.out.2.1).2.2.2.2 hput).mono ?_
            rintro e W2 ⟨rfl, hG, hS⟩
            have HS3 := Lib.hid (And.intro hG (And.intro (HS2.out.2.1.trans hS.bel) (And.intro (((HN.out.1.gx.below HS2.out.2.2.1).2.sub (fun _ hy => List.mem_append_right _ hy)).trans (hS.sub (fun _ hy => List.mem_cons_of_mem _ (List.mem_append_right _ hy)))) (And.intro (hS.same.blk HS2.out.2.2.2.1 (List.mem_cons_self ..)) (And.intro HS2.out.2.2.2.2 hWr)))))
            clear hput hWr hG hS HS2
            go_wp2_with fail
            refine TreeQ.in_ HS3.out.2.1 ?_
            refine wpTree_pure _ _ _ (by rfl) (by rfl) ?_
            dsimp only [List.filterMap, List.getElem?_cons_zero, List.getElem?_cons_succ]
            repeat (go_big_quiet_step (fail))
            refine wpQuiet_nil ?_
            refine wpTree_one _ rfl ?_
            have hb4 := HS3.out.2.2.2.1
            go_wp2_with (first
              | ((with_reducible show wpList _ _ _ ((⟨none, _, _, _, _, _⟩ : Oper) :: _) _ _); refine wpList_store_blk (o := ⟨none, _, _, _, _, _⟩) (hb4) (by rfl) _ _ _ (by rfl) (by rfl) (#[.int .i64 (wk i).1, .int .i64 (wk i).2.1]) (by rfl) (size_ref) (by rfl) (by rfl) (by simp [Value.oneCell']) ?_; intro W5 h5 hu5; refine stopped ?_)
              | fail)
            refine Stopped.mk ?_
            have hn5 : Near [gb] W2 W5 := Near.upd hu5 (List.mem_singleton_self gb)
            have hb5 : Below w0.heap.size W2 W5 := hn5.toBelow (fun x hx => by rw [List.mem_singleton.1 hx]; exact HS3.out.2.2.2.2.1) HS3.out.2.1.size
            have hY5 : ∀ y ∈ (Value.slice A6 i c6).ownBlock.toList ++ Y, y < W1.heap.size := HC.out.2.2.2.1
            have HS5 := Lib.hid (And.intro (HS3.out.1.wrote hn5 (fun x hx => by rw [List.mem_singleton.1 hx]; exact List.mem_cons_self ..)) (And.intro (HS3.out.2.1.trans hb5) (And.intro (HS3.out.2.2.1.trans ⟨hb5, hn5.size, fun y hy => hn5.block y (Nat.lt_of_lt_of_le (hY5 y hy) (Nat.le_trans HN.out.1.st.bel.size HS3.out.2.2.1.bel.size)) (fun hm => HGB.out (by rw [← List.mem_singleton.1 hm]; exact hy))⟩) (And.intro h5 HS3.out.2.2.2.2.2))))
            clear hn5 hb5 hY5 hu5 hb4 HS3
            refine TreeQ.in_ HS5.out.2.1 ?_
            refine wpTree_pure _ _ _ (by rfl) (by rfl) ?_
            dsimp only [List.filterMap, List.getElem?_cons_zero, List.getElem?_cons_succ]
            repeat (go_big_quiet_step (fail))
            refine wpQuiet_nil ?_
            refine wpTree_done ?_
            have hbl6 := (Below.refl W5.heap.size W5).alloc (Nat.le_refl _) (.cells #[.int .i64 (wk i).1, .int .i64 (wk i).2.1] 23)
            have hG6 := (HS5.out.1.below hbl6).1
            have hS6 := HN.out.1.st.trans (HS5.out.2.2.1.trans ((HS5.out.1.below hbl6).2.sub (fun _ hy => List.mem_cons_of_mem _ (List.mem_append_right _ hy))))
            have ho6 := hS6.same.owns HC.out.2.2.2.2.2.1 (fun x hx => List.mem_append_left _ (Option.mem_toList.2 hx))
            have hra : Reads (W5.alloc (.cells #[.int .i64 (wk i).1, .int .i64 (wk i).2.1] 23)) (some ⟨W5.heap.size, 0, none⟩) [.int .i64 (wk i).1, .int .i64 (wk i).2.1] := reads_new W5 23 [.int .i64 (wk i).1, .int .i64 (wk i).2.1]
            have hsz6 : w.heap.size ≤ (W5.alloc (.cells #[.int .i64 (wk i).1, .int .i64 (wk i).2.1] 23)).heap.size := Nat.le_trans HC.out.2.2.1.st.bel.size hS6.bel.size
            have HS6 := Lib.hid (And.intro hG6 (And.intro hS6 (And.intro ho6 (And.intro hra (And.intro hsz6 HS5.out.2.2.2.2)))))
            have hi16 : i < 16 := by have := HI.out; omega
            clear hbl6 hG6 hS6 ho6 hra hsz6 HS5
            go_wp2_with (first
              | ((with_reducible show wpList _ _ _ ((⟨some 73, _, _, _, _, _⟩ : Oper) :: _) _ _); refine wpList_load_blk (o := ⟨some 73, _, _, _, _, _⟩) (h5) (by rfl) _ _ (by rfl) (by rfl) _ Tryd.underlying23 (by rfl) (size_ref) (by rfl) ?_)
              | ((with_reducible show wpList _ _ _ ((⟨some 75, _, _, _, _, _⟩ : Oper) :: _) _ _); refine wpList_append_vals (o := ⟨some 75, _, _, _, _, _⟩) (by rfl) _ _ _ (by rfl) w.heap.size 23 (.agg #[.int .i64 0, .int .i64 0]) 2 16 Tryd.underlying29 infoRef (by rfl) (by omega) (.slice A6 i c6) i (refCells ((List.range i).map wk)) sp6 (by rfl) HS6.out.2.2.1 (some ⟨W5.heap.size, 0, none⟩) 1 1 [.int .i64 (wk i).1, .int .i64 (wk i).2.1] (by rfl) (by rfl) HS6.out.2.2.2.1 (by simp [Value.oneCell']) (by simp only [maxLen]; omega) (by omega) HS6.out.2.2.2.2.1 ?_; intro v' W7 sp7 ho7 hg7 hv7 hn7; refine stopped ?_)
              | fail)
            refine Stopped.mk ?_
            have hN7 := HC.out.2.2.1.app (E := gb :: (Value.slice A8 k c8).ownBlock.toList) HA.out.2.2.2.2.2.2.2.2 HA.out.1.size HS6.out.2.1 HS6.out.2.2.2.2.2 HS6.out.1 ho7 hg7 hv7
            have H7 := Lib.hid hN7
            clear ho7 hg7 hv7 hn7 hN7 HS6 h5
            go_wp2_with fail
            exact ⟨⟨i + 1, d2, by rw [HM.out]; exact HI.out, rfl, H7.out⟩, meas_up (i := i) rfl rfl HI.out⟩
        · go_wp2_with fail
          have hbl := (Below.refl W.heap.size W).alloc (Nat.le_refl _) (.cells #[.int .i64 0, .int .i64 0] 23)
          have hbx := Blk.new W 23 #[.int .i64 0, .int .i64 0]
          have HS2 := Lib.hid (And.intro (HS.out.1.add hbl (Nat.le_refl _) hbx.lt) (And.intro (HS.out.2.1.alloc HS.out.2.1.size (.cells #[.int .i64 0, .int .i64 0] 23)) (And.intro (HS.out.2.2.trans (hbl.mono HS.out.2.2.size)) (And.intro hbx HS.out.2.1.size))))
          have HGB := Lib.hid (show W.heap.size ∉ (Value.slice A6 i c6).ownBlock.toList ++ Y from fun hm => by have := HC.out.2.2.2.1 _ hm; have := HN.out.1.st.bel.size; have := HS.out.2.2.size; omega)
          clear hbl hbx HS
          generalize hWn : W.alloc (.cells #[.int .i64 0, .int .i64 0] 23) = Wn at HS2 ⊢
          clear hWn
          generalize W.heap.size = gb at HS2 HGB ⊢
          refine TreeQ.in_ HS2.out.2.1 ?_
          refine wpTree_one _ rfl ?_
          go_wp2_with fail
          refine (pick_any p.1 15 (by omega) (by omega) _).mono ?_
          rintro e wp_ ⟨rfl, hw⟩
          obtain rfl := hw.symm
          clear hw
          go_wp2_with fail
          refine TreeQ.in_ HS2.out.2.1 ?_
          refine wpTree_pure _ _ _ (by rfl) (by rfl) ?_
          dsimp only [List.filterMap, List.getElem?_cons_zero, List.getElem?_cons_succ]
          repeat (go_big_quiet_step (fail))
          refine wpQuiet_nil ?_
          refine wpTree_one _ rfl ?_
          go_wp2_with fail
          obtain ⟨d2, hput, hWr⟩ := HWR.out HC.out.2.2.1.wr
          refine (xwrite HS2.out.1 (HA.out.2.2.1.below HS2.out.2.1) (1 + (pickN p.1 15 : Int)) 7 A8 A2 k c8 p.2.2.1.length c2 (wnm p i) p.2.2.1 HN.out.2.2.1 rfl (Nat.le_trans (wnm_len p i) (by omega)) (by have := HC.out.2.2.2.2.2.2.2.2.2.1; omega) (HNR.out.below HS2.out.2.2.1) (HC.out.1 _ HS2.out.2.1).2.2.2.2 hput).mono ?_
          rintro e W2 ⟨rfl, hG, hS⟩
          have HS3 := Lib.hid (And.intro hG (And.intro (HS2.out.2.1.trans hS.bel) (And.intro (((HN.out.1.gx.below HS2.out.2.2.1).2.sub (fun _ hy => List.mem_append_right _ hy)).trans (hS.sub (fun _ hy => List.mem_cons_of_mem _ (List.mem_append_right _ hy)))) (And.intro (hS.same.blk HS2.out.2.2.2.1 (List.mem_cons_self ..)) (And.intro HS2.out.2.2.2.2 hWr)))))
          clear hput hWr hG hS HS2
          go_wp2_with fail
          refine TreeQ.in_ HS3.out.2.1 ?_
          refine wpTree_pure _ _ _ (by rfl) (by rfl) ?_
          dsimp only [List.filterMap, List.getElem?_cons_zero, List.getElem?_cons_succ]
          repeat (go_big_quiet_step (fail))
          refine wpQuiet_nil ?_
          refine wpTree_one _ rfl ?_
          have hb4 := HS3.out.2.2.2.1
          go_wp2_with (first
            | ((with_reducible show wpList _ _ _ ((⟨none, _, _, _, _, _⟩ : Oper) :: _) _ _); refine wpList_store_blk (o := ⟨none, _, _, _, _, _⟩) (hb4) (by rfl) _ _ _ (by rfl) (by rfl) (#[.int .i64 (wk i).1, .int .i64 (wk i).2.1]) (by rfl) (size_ref) (by rfl) (by rfl) (by simp [Value.oneCell']) ?_; intro W5 h5 hu5; refine stopped ?_)
            | fail)
          refine Stopped.mk ?_
          have hn5 : Near [gb] W2 W5 := Near.upd hu5 (List.mem_singleton_self gb)
          have hb5 : Below w0.heap.size W2 W5 := hn5.toBelow (fun x hx => by rw [List.mem_singleton.1 hx]; exact HS3.out.2.2.2.2.1) HS3.out.2.1.size
          have hY5 : ∀ y ∈ (Value.slice A6 i c6).ownBlock.toList ++ Y, y < W1.heap.size := HC.out.2.2.2.1
          have HS5 := Lib.hid (And.intro (HS3.out.1.wrote hn5 (fun x hx => by rw [List.mem_singleton.1 hx]; exact List.mem_cons_self ..)) (And.intro (HS3.out.2.1.trans hb5) (And.intro (HS3.out.2.2.1.trans ⟨hb5, hn5.size, fun y hy => hn5.block y (Nat.lt_of_lt_of_le (hY5 y hy) (Nat.le_trans HN.out.1.st.bel.size HS3.out.2.2.1.bel.size)) (fun hm => HGB.out (by rw [← List.mem_singleton.1 hm]; exact hy))⟩) (And.intro h5 HS3.out.2.2.2.2.2))))
          clear hn5 hb5 hY5 hu5 hb4 HS3
          refine TreeQ.in_ HS5.out.2.1 ?_
          refine wpTree_pure _ _ _ (by rfl) (by rfl) ?_
          dsimp only [List.filterMap, List.getElem?_cons_zero, List.getElem?_cons_succ]
          repeat (go_big_quiet_step (fail))
          refine wpQuiet_nil ?_
          refine wpTree_done ?_
          have hbl6 := (Below.refl W5.heap.size W5).alloc (Nat.le_refl _) (.cells #[.int .i64 (wk i).1, .int .i64 (wk i).2.1] 23)
          have hG6 := (HS5.out.1.below hbl6).1
          have hS6 := HN.out.1.st.trans (HS5.out.2.2.1.trans ((HS5.out.1.below hbl6).2.sub (fun _ hy => List.mem_cons_of_mem _ (List.mem_append_right _ hy))))
          have ho6 := hS6.same.owns HC.out.2.2.2.2.2.1 (fun x hx => List.mem_append_left _ (Option.mem_toList.2 hx))
          have hra : Reads (W5.alloc (.cells #[.int .i64 (wk i).1, .int .i64 (wk i).2.1] 23)) (some ⟨W5.heap.size, 0, none⟩) [.int .i64 (wk i).1, .int .i64 (wk i).2.1] := reads_new W5 23 [.int .i64 (wk i).1, .int .i64 (wk i).2.1]
          have hsz6 : w.heap.size ≤ (W5.alloc (.cells #[.int .i64 (wk i).1, .int .i64 (wk i).2.1] 23)).heap.size := Nat.le_trans HC.out.2.2.1.st.bel.size hS6.bel.size
          have HS6 := Lib.hid (And.intro hG6 (And.intro hS6 (And.intro ho6 (And.intro hra (And.intro hsz6 HS5.out.2.2.2.2)))))
          have hi16 : i < 16 := by have := HI.out; omega
          clear hbl6 hG6 hS6 ho6 hra hsz6 HS5
          go_wp2_with (first
            | ((with_reducible show wpList _ _ _ ((⟨some 73, _, _, _, _, _⟩ : Oper) :: _) _ _); refine wpList_load_blk (o := ⟨some 73, _, _, _, _, _⟩) (h5) (by rfl) _ _ (by rfl) (by rfl) _ Tryd.underlying23 (by rfl) (size_ref) (by rfl) ?_)
            | ((with_reducible show wpList _ _ _ ((⟨some 75, _, _, _, _, _⟩ : Oper) :: _) _ _); refine wpList_append_vals (o := ⟨some 75, _, _, _, _, _⟩) (by rfl) _ _ _ (by rfl) w.heap.size 23 (.agg #[.int .i64 0, .int .i64 0]) 2 16 Tryd.underlying29 infoRef (by rfl) (by omega) (.slice A6 i c6) i (refCells ((List.range i).map wk)) sp6 (by rfl) HS6.out.2.2.1 (some ⟨W5.heap.size, 0, none⟩) 1 1 [.int .i64 (wk i).1, .int .i64 (wk i).2.1] (by rfl) (by rfl) HS6.out.2.2.2.1 (by simp [Value.oneCell']) (by simp only [maxLen]; omega) (by omega) HS6.out.2.2.2.2.1 ?_; intro v' W7 sp7 ho7 hg7 hv7 hn7; refine stopped ?_)
            | fail)
          refine Stopped.mk ?_
          have hN7 := HC.out.2.2.1.app (E := gb :: (Value.slice A8 k c8).ownBlock.toList) HA.out.2.2.2.2.2.2.2.2 HA.out.1.size HS6.out.2.1 HS6.out.2.2.2.2.2 HS6.out.1 ho7 hg7 hv7
          have H7 := Lib.hid hN7
          clear ho7 hg7 hv7 hn7 hN7 HS6 h5
          go_wp2_with fail
          exact ⟨⟨i + 1, d2, by rw [HM.out]; exact HI.out, rfl, H7.out⟩, meas_up (i := i) rfl rfl HI.out⟩
      · have q1 : decide ((i : Int) > 0) = true := decide_eq_true (by omega)
        have q2 : decide (k < p.2.1.length) = false := decide_eq_false hkn
        go_wp2_with fail
        clear hi0 hkn q1 q2 j2
        have hNd := HN.out.1.gx.below ((Below.refl wr.heap.size wr).drew)
        have HNR : Hid (Refs wr A8 (wnm p i)) := Lib.hid (by have h := HN.out.2.2.2.1; rwa [HN.out.2.2.1, List.take_length] at h)
        have hC0 : Below w0.heap.size w0 wr.drew := HN.out.2.1.drew
        refine wp_region_tree (Below w0.heap.size w0) [] (PlanT.takes [0, 1, 2, 3, 4, 8, 9, 10, 11, 12] (PlanT.takes [5, 13] (.opt 6 (PlanT.takes [7] (.opt 14 (PlanT.takes [15, 16, 17] (.opt 18 (.opt 19 (PlanT.takes [20] .done) .no) .no)) (.opt 18 (.opt 14 (PlanT.takes [15, 16, 17] (.opt 19 (PlanT.takes [20] .done) .no)) .no) .no))) (.opt 18 (.opt 6 (PlanT.takes [7] (.opt 14 (PlanT.takes [15, 16, 17] (.opt 19 (PlanT.takes [20] .done) .no)) .no)) .no) .no)))) (by kernel_rfl) (by kernel_rfl) (hC0) ?_
        refine wpTree_pure _ _ _ (by rfl) (by rfl) ?_
        dsimp only [List.filterMap, List.getElem?_cons_zero, List.getElem?_cons_succ]
        repeat (go_big_quiet_step (fail))
        refine wpQuiet_nil ?_
        refine wpTree_takeL _ _ _ (by rfl) (by rfl) (hC0) ?_
        dsimp only [List.filterMap, List.getElem?_cons_zero, List.getElem?_cons_succ]
        (refine wpQuiet_load_cell (fun w' hw' => (HC.out.1 w' hw').1) (by rfl) _ _ (by rfl) (by rfl) _ Tryd.underlying3 (by rfl) ?_; simp only [Act.put, List.setIfInBounds_toArray, List.set_cons_zero, List.set_cons_succ])
        (refine wpQuiet_load_cell (fun w' hw' => (HC.out.1 w' hw').2.2.1) (by rfl) _ _ (by rfl) (by rfl) _ Tryd.underlying44 (by rfl) ?_; simp only [Act.put, List.setIfInBounds_toArray, List.set_cons_zero, List.set_cons_succ])
        refine wpQuiet_nil ?_
        have HS := Lib.hid (And.intro hNd.1 (And.intro hC0 ((Below.refl wr.heap.size wr).drew)))
        clear hNd hC0
        generalize wr.drew = W at HS ⊢
        refine wpTree_opt _ rfl ?_ (wpTree_one _ rfl ?_)
        · go_wp2_with fail
          refine (pick_any p.1 15 (by omega) (by omega) _).mono ?_
          rintro e wp_ ⟨rfl, hw⟩
          obtain rfl := hw.symm
          clear hw
          go_wp2_with fail
          refine TreeQ.in_ HS.out.2.1 ?_
          refine wpTree_pure _ _ _ (by rfl) (by rfl) ?_
          dsimp only [List.filterMap, List.getElem?_cons_zero, List.getElem?_cons_succ]
          repeat (go_big_quiet_step (fail))
          refine wpQuiet_nil ?_
          refine wpTree_opt _ rfl ?_ (wpTree_one _ rfl ?_)
          · go_wp2_with fail
            obtain ⟨d2, hput, hWr⟩ := HWR.out HC.out.2.2.1.wr
            refine (xwrite HS.out.1 (HA.out.2.2.1.below HS.out.2.1) (1 + (pickN p.1 15 : Int)) 7 A8 A2 k c8 p.2.2.1.length c2 (wnm p i) p.2.2.1 HN.out.2.2.1 rfl (Nat.le_trans (wnm_len p i) (by omega)) (by have := HC.out.2.2.2.2.2.2.2.2.2.1; omega) (HNR.out.below HS.out.2.2) (HC.out.1 _ HS.out.2.1).2.2.2.2 hput).mono ?_
            rintro e W2 ⟨rfl, hG, hS⟩
            have HS3 := Lib.hid (And.intro hG (And.intro (HS.out.2.1.trans hS.bel) (And.intro (((HN.out.1.gx.below HS.out.2.2).2.sub (fun _ hy => List.mem_append_right _ hy)).trans (hS.sub (fun _ hy => List.mem_append_right _ hy))) hWr)))
            clear hput hWr hG hS HS
            go_wp2_with fail
            refine TreeQ.in_ HS3.out.2.1 ?_
            refine wpTree_pure _ _ _ (by rfl) (by rfl) ?_
            dsimp only [List.filterMap, List.getElem?_cons_zero, List.getElem?_cons_succ]
            repeat (go_big_quiet_step (fail))
            refine wpQuiet_nil ?_
            refine wpTree_one _ rfl ?_
            go_wp2_with fail
            have hbl := (Below.refl W2.heap.size W2).alloc (Nat.le_refl _) (.cells #[.int .i64 0, .int .i64 0] 23)
            have hbx := Blk.new W2 23 #[.int .i64 0, .int .i64 0]
            have HS4 := Lib.hid (And.intro (HS3.out.1.add hbl (Nat.le_refl _) hbx.lt) (And.intro (HS3.out.2.1.alloc HS3.out.2.1.size (.cells #[.int .i64 0, .int .i64 0] 23)) (And.intro (HS3.out.2.2.1.trans ((HS3.out.1.below hbl).2.sub (fun _ hy => List.mem_append_right _ hy))) (And.intro hbx (And.intro HS3.out.2.1.size HS3.out.2.2.2)))))
            have HGB := Lib.hid (show W2.heap.size ∉ (Value.slice A6 i c6).ownBlock.toList ++ Y from fun hm => by have := HC.out.2.2.2.1 _ hm; have := HN.out.1.st.bel.size; have := HS3.out.2.2.1.bel.size; omega)
            clear hbl hbx HS3
            generalize hW3 : W2.alloc (.cells #[.int .i64 0, .int .i64 0] 23) = W3 at HS4 ⊢
            clear hW3
            generalize W2.heap.size = gb at HS4 HGB ⊢
            refine TreeQ.in_ HS4.out.2.1 ?_
            refine wpTree_one _ rfl ?_
            have hb4 := HS4.out.2.2.2.1
            go_wp2_with (first
              | ((with_reducible show wpList _ _ _ ((⟨none, _, _, _, _, _⟩ : Oper) :: _) _ _); refine wpList_store_blk (o := ⟨none, _, _, _, _, _⟩) (hb4) (by rfl) _ _ _ (by rfl) (by rfl) (#[.int .i64 (wk i).1, .int .i64 (wk i).2.1]) (by rfl) (size_ref) (by rfl) (by rfl) (by simp [Value.oneCell']) ?_; intro W5 h5 hu5; refine stopped ?_)
              | fail)
            refine Stopped.mk ?_
            have hn5 : Near [gb] W3 W5 := Near.upd hu5 (List.mem_singleton_self gb)
            have hb5 : Below w0.heap.size W3 W5 := hn5.toBelow (fun x hx => by rw [List.mem_singleton.1 hx]; exact HS4.out.2.2.2.2.1) HS4.out.2.1.size
            have hY5 : ∀ y ∈ (Value.slice A6 i c6).ownBlock.toList ++ Y, y < W1.heap.size := HC.out.2.2.2.1
            have HS5 := Lib.hid (And.intro (HS4.out.1.wrote hn5 (fun x hx => by rw [List.mem_singleton.1 hx]; exact List.mem_cons_self ..)) (And.intro (HS4.out.2.1.trans hb5) (And.intro (HS4.out.2.2.1.trans ⟨hb5, hn5.size, fun y hy => hn5.block y (Nat.lt_of_lt_of_le (hY5 y hy) (Nat.le_trans HN.out.1.st.bel.size HS4.out.2.2.1.bel.size)) (fun hm => HGB.out (by rw [← List.mem_singleton.1 hm]; exact hy))⟩) (And.intro h5 HS4.out.2.2.2.2.2))))
            clear hn5 hb5 hY5 hu5 hb4 HS4
            refine TreeQ.in_ HS5.out.2.1 ?_
            refine wpTree_pure _ _ _ (by rfl) (by rfl) ?_
            dsimp only [List.filterMap, List.getElem?_cons_zero, List.getElem?_cons_succ]
            repeat (go_big_quiet_step (fail))
            refine wpQuiet_nil ?_
            refine wpTree_done ?_
            have hbl6 := (Below.refl W5.heap.size W5).alloc (Nat.le_refl _) (.cells #[.int .i64 (wk i).1, .int .i64 (wk i).2.1] 23)
            have hG6 := (HS5.out.1.below hbl6).1
            have hS6 := HN.out.1.st.trans (HS5.out.2.2.1.trans ((HS5.out.1.below hbl6).2.sub (fun _ hy => List.mem_cons_of_mem _ (List.mem_append_right _ hy))))
            have ho6 := hS6.same.owns HC.out.2.2.2.2.2.1 (fun x hx => List.mem_append_left _ (Option.mem_toList.2 hx))
            have hra : Reads (W5.alloc (.cells #[.int .i64 (wk i).1, .int .i64 (wk i).2.1] 23)) (some ⟨W5.heap.size, 0, none⟩) [.int .i64 (wk i).1, .int .i64 (wk i).2.1] := reads_new W5 23 [.int .i64 (wk i).1, .int .i64 (wk i).2.1]
            have hsz6 : w.heap.size ≤ (W5.alloc (.cells #[.int .i64 (wk i).1, .int .i64 (wk i).2.1] 23)).heap.size := Nat.le_trans HC.out.2.2.1.st.bel.size hS6.bel.size
            have HS6 := Lib.hid (And.intro hG6 (And.intro hS6 (And.intro ho6 (And.intro hra (And.intro hsz6 HS5.out.2.2.2.2)))))
            have hi16 : i < 16 := by have := HI.out; omega
            clear hbl6 hG6 hS6 ho6 hra hsz6 HS5
            go_wp2_with (first
              | ((with_reducible show wpList _ _ _ ((⟨some 73, _, _, _, _, _⟩ : Oper) :: _) _ _); refine wpList_load_blk (o := ⟨some 73, _, _, _, _, _⟩) (h5) (by rfl) _ _ (by rfl) (by rfl) _ Tryd.underlying23 (by rfl) (size_ref) (by rfl) ?_)
              | ((with_reducible show wpList _ _ _ ((⟨some 75, _, _, _, _, _⟩ : Oper) :: _) _ _); refine wpList_append_vals (o := ⟨some 75, _, _, _, _, _⟩) (by rfl) _ _ _ (by rfl) w.heap.size 23 (.agg #[.int .i64 0, .int .i64 0]) 2 16 Tryd.underlying29 infoRef (by rfl) (by omega) (.slice A6 i c6) i (refCells ((List.range i).map wk)) sp6 (by rfl) HS6.out.2.2.1 (some ⟨W5.heap.size, 0, none⟩) 1 1 [.int .i64 (wk i).1, .int .i64 (wk i).2.1] (by rfl) (by rfl) HS6.out.2.2.2.1 (by simp [Value.oneCell']) (by simp only [maxLen]; omega) (by omega) HS6.out.2.2.2.2.1 ?_; intro v' W7 sp7 ho7 hg7 hv7 hn7; refine stopped ?_)
              | fail)
            refine Stopped.mk ?_
            have hN7 := HC.out.2.2.1.app (E := gb :: (Value.slice A8 k c8).ownBlock.toList) HA.out.2.2.2.2.2.2.2.2 HA.out.1.size HS6.out.2.1 HS6.out.2.2.2.2.2 HS6.out.1 ho7 hg7 hv7
            have H7 := Lib.hid hN7
            clear ho7 hg7 hv7 hn7 hN7 HS6 h5
            go_wp2_with fail
            exact ⟨⟨i + 1, d2, by rw [HM.out]; exact HI.out, rfl, H7.out⟩, meas_up (i := i) rfl rfl HI.out⟩
          · go_wp2_with fail
            have hbl := (Below.refl W.heap.size W).alloc (Nat.le_refl _) (.cells #[.int .i64 0, .int .i64 0] 23)
            have hbx := Blk.new W 23 #[.int .i64 0, .int .i64 0]
            have HS2 := Lib.hid (And.intro (HS.out.1.add hbl (Nat.le_refl _) hbx.lt) (And.intro (HS.out.2.1.alloc HS.out.2.1.size (.cells #[.int .i64 0, .int .i64 0] 23)) (And.intro (HS.out.2.2.trans (hbl.mono HS.out.2.2.size)) (And.intro hbx HS.out.2.1.size))))
            have HGB := Lib.hid (show W.heap.size ∉ (Value.slice A6 i c6).ownBlock.toList ++ Y from fun hm => by have := HC.out.2.2.2.1 _ hm; have := HN.out.1.st.bel.size; have := HS.out.2.2.size; omega)
            clear hbl hbx HS
            generalize hWn : W.alloc (.cells #[.int .i64 0, .int .i64 0] 23) = Wn at HS2 ⊢
            clear hWn
            generalize W.heap.size = gb at HS2 HGB ⊢
            refine TreeQ.in_ HS2.out.2.1 ?_
            refine wpTree_one _ rfl ?_
            go_wp2_with fail
            obtain ⟨d2, hput, hWr⟩ := HWR.out HC.out.2.2.1.wr
            refine (xwrite HS2.out.1 (HA.out.2.2.1.below HS2.out.2.1) (1 + (pickN p.1 15 : Int)) 7 A8 A2 k c8 p.2.2.1.length c2 (wnm p i) p.2.2.1 HN.out.2.2.1 rfl (Nat.le_trans (wnm_len p i) (by omega)) (by have := HC.out.2.2.2.2.2.2.2.2.2.1; omega) (HNR.out.below HS2.out.2.2.1) (HC.out.1 _ HS2.out.2.1).2.2.2.2 hput).mono ?_
            rintro e W2 ⟨rfl, hG, hS⟩
            have HS3 := Lib.hid (And.intro hG (And.intro (HS2.out.2.1.trans hS.bel) (And.intro (((HN.out.1.gx.below HS2.out.2.2.1).2.sub (fun _ hy => List.mem_append_right _ hy)).trans (hS.sub (fun _ hy => List.mem_cons_of_mem _ (List.mem_append_right _ hy)))) (And.intro (hS.same.blk HS2.out.2.2.2.1 (List.mem_cons_self ..)) (And.intro HS2.out.2.2.2.2 hWr)))))
            clear hput hWr hG hS HS2
            go_wp2_with fail
            refine TreeQ.in_ HS3.out.2.1 ?_
            refine wpTree_pure _ _ _ (by rfl) (by rfl) ?_
            dsimp only [List.filterMap, List.getElem?_cons_zero, List.getElem?_cons_succ]
            repeat (go_big_quiet_step (fail))
            refine wpQuiet_nil ?_
            refine wpTree_one _ rfl ?_
            have hb4 := HS3.out.2.2.2.1
            go_wp2_with (first
              | ((with_reducible show wpList _ _ _ ((⟨none, _, _, _, _, _⟩ : Oper) :: _) _ _); refine wpList_store_blk (o := ⟨none, _, _, _, _, _⟩) (hb4) (by rfl) _ _ _ (by rfl) (by rfl) (#[.int .i64 (wk i).1, .int .i64 (wk i).2.1]) (by rfl) (size_ref) (by rfl) (by rfl) (by simp [Value.oneCell']) ?_; intro W5 h5 hu5; refine stopped ?_)
              | fail)
            refine Stopped.mk ?_
            have hn5 : Near [gb] W2 W5 := Near.upd hu5 (List.mem_singleton_self gb)
            have hb5 : Below w0.heap.size W2 W5 := hn5.toBelow (fun x hx => by rw [List.mem_singleton.1 hx]; exact HS3.out.2.2.2.2.1) HS3.out.2.1.size
            have hY5 : ∀ y ∈ (Value.slice A6 i c6).ownBlock.toList ++ Y, y < W1.heap.size := HC.out.2.2.2.1
            have HS5 := Lib.hid (And.intro (HS3.out.1.wrote hn5 (fun x hx => by rw [List.mem_singleton.1 hx]; exact List.mem_cons_self ..)) (And.intro (HS3.out.2.1.trans hb5) (And.intro (HS3.out.2.2.1.trans ⟨hb5, hn5.size, fun y hy => hn5.block y (Nat.lt_of_lt_of_le (hY5 y hy) (Nat.le_trans HN.out.1.st.bel.size HS3.out.2.2.1.bel.size)) (fun hm => HGB.out (by rw [← List.mem_singleton.1 hm]; exact hy))⟩) (And.intro h5 HS3.out.2.2.2.2.2))))
            clear hn5 hb5 hY5 hu5 hb4 HS3
            refine TreeQ.in_ HS5.out.2.1 ?_
            refine wpTree_pure _ _ _ (by rfl) (by rfl) ?_
            dsimp only [List.filterMap, List.getElem?_cons_zero, List.getElem?_cons_succ]
            repeat (go_big_quiet_step (fail))
            refine wpQuiet_nil ?_
            refine wpTree_done ?_
            have hbl6 := (Below.refl W5.heap.size W5).alloc (Nat.le_refl _) (.cells #[.int .i64 (wk i).1, .int .i64 (wk i).2.1] 23)
            have hG6 := (HS5.out.1.below hbl6).1
            have hS6 := HN.out.1.st.trans (HS5.out.2.2.1.trans ((HS5.out.1.below hbl6).2.sub (fun _ hy => List.mem_cons_of_mem _ (List.mem_append_right _ hy))))
            have ho6 := hS6.same.owns HC.out.2.2.2.2.2.1 (fun x hx => List.mem_append_left _ (Option.mem_toList.2 hx))
            have hra : Reads (W5.alloc (.cells #[.int .i64 (wk i).1, .int .i64 (wk i).2.1] 23)) (some ⟨W5.heap.size, 0, none⟩) [.int .i64 (wk i).1, .int .i64 (wk i).2.1] := reads_new W5 23 [.int .i64 (wk i).1, .int .i64 (wk i).2.1]
            have hsz6 : w.heap.size ≤ (W5.alloc (.cells #[.int .i64 (wk i).1, .int .i64 (wk i).2.1] 23)).heap.size := Nat.le_trans HC.out.2.2.1.st.bel.size hS6.bel.size
            have HS6 := Lib.hid (And.intro hG6 (And.intro hS6 (And.intro ho6 (And.intro hra (And.intro hsz6 HS5.out.2.2.2.2)))))
            have hi16 : i < 16 := by have := HI.out; omega
            clear hbl6 hG6 hS6 ho6 hra hsz6 HS5
            go_wp2_with (first
              | ((with_reducible show wpList _ _ _ ((⟨some 73, _, _, _, _, _⟩ : Oper) :: _) _ _); refine wpList_load_blk (o := ⟨some 73, _, _, _, _, _⟩) (h5) (by rfl) _ _ (by rfl) (by rfl) _ Tryd.underlying23 (by rfl) (size_ref) (by rfl) ?_)
              | ((with_reducible show wpList _ _ _ ((⟨some 75, _, _, _, _, _⟩ : Oper) :: _) _ _); refine wpList_append_vals (o := ⟨some 75, _, _, _, _, _⟩) (by rfl) _ _ _ (by rfl) w.heap.size 23 (.agg #[.int .i64 0, .int .i64 0]) 2 16 Tryd.underlying29 infoRef (by rfl) (by omega) (.slice A6 i c6) i (refCells ((List.range i).map wk)) sp6 (by rfl) HS6.out.2.2.1 (some ⟨W5.heap.size, 0, none⟩) 1 1 [.int .i64 (wk i).1, .int .i64 (wk i).2.1] (by rfl) (by rfl) HS6.out.2.2.2.1 (by simp [Value.oneCell']) (by simp only [maxLen]; omega) (by omega) HS6.out.2.2.2.2.1 ?_; intro v' W7 sp7 ho7 hg7 hv7 hn7; refine stopped ?_)
              | fail)
            refine Stopped.mk ?_
            have hN7 := HC.out.2.2.1.app (E := gb :: (Value.slice A8 k c8).ownBlock.toList) HA.out.2.2.2.2.2.2.2.2 HA.out.1.size HS6.out.2.1 HS6.out.2.2.2.2.2 HS6.out.1 ho7 hg7 hv7
            have H7 := Lib.hid hN7
            clear ho7 hg7 hv7 hn7 hN7 HS6 h5
            go_wp2_with fail
            exact ⟨⟨i + 1, d2, by rw [HM.out]; exact HI.out, rfl, H7.out⟩, meas_up (i := i) rfl rfl HI.out⟩
        · go_wp2_with fail
          have hbl := (Below.refl W.heap.size W).alloc (Nat.le_refl _) (.cells #[.int .i64 0, .int .i64 0] 23)
          have hbx := Blk.new W 23 #[.int .i64 0, .int .i64 0]
          have HS2 := Lib.hid (And.intro (HS.out.1.add hbl (Nat.le_refl _) hbx.lt) (And.intro (HS.out.2.1.alloc HS.out.2.1.size (.cells #[.int .i64 0, .int .i64 0] 23)) (And.intro (HS.out.2.2.trans (hbl.mono HS.out.2.2.size)) (And.intro hbx HS.out.2.1.size))))
          have HGB := Lib.hid (show W.heap.size ∉ (Value.slice A6 i c6).ownBlock.toList ++ Y from fun hm => by have := HC.out.2.2.2.1 _ hm; have := HN.out.1.st.bel.size; have := HS.out.2.2.size; omega)
          clear hbl hbx HS
          generalize hWn : W.alloc (.cells #[.int .i64 0, .int .i64 0] 23) = Wn at HS2 ⊢
          clear hWn
          generalize W.heap.size = gb at HS2 HGB ⊢
          refine TreeQ.in_ HS2.out.2.1 ?_
          refine wpTree_one _ rfl ?_
          go_wp2_with fail
          refine (pick_any p.1 15 (by omega) (by omega) _).mono ?_
          rintro e wp_ ⟨rfl, hw⟩
          obtain rfl := hw.symm
          clear hw
          go_wp2_with fail
          refine TreeQ.in_ HS2.out.2.1 ?_
          refine wpTree_pure _ _ _ (by rfl) (by rfl) ?_
          dsimp only [List.filterMap, List.getElem?_cons_zero, List.getElem?_cons_succ]
          repeat (go_big_quiet_step (fail))
          refine wpQuiet_nil ?_
          refine wpTree_one _ rfl ?_
          go_wp2_with fail
          obtain ⟨d2, hput, hWr⟩ := HWR.out HC.out.2.2.1.wr
          refine (xwrite HS2.out.1 (HA.out.2.2.1.below HS2.out.2.1) (1 + (pickN p.1 15 : Int)) 7 A8 A2 k c8 p.2.2.1.length c2 (wnm p i) p.2.2.1 HN.out.2.2.1 rfl (Nat.le_trans (wnm_len p i) (by omega)) (by have := HC.out.2.2.2.2.2.2.2.2.2.1; omega) (HNR.out.below HS2.out.2.2.1) (HC.out.1 _ HS2.out.2.1).2.2.2.2 hput).mono ?_
          rintro e W2 ⟨rfl, hG, hS⟩
          have HS3 := Lib.hid (And.intro hG (And.intro (HS2.out.2.1.trans hS.bel) (And.intro (((HN.out.1.gx.below HS2.out.2.2.1).2.sub (fun _ hy => List.mem_append_right _ hy)).trans (hS.sub (fun _ hy => List.mem_cons_of_mem _ (List.mem_append_right _ hy)))) (And.intro (hS.same.blk HS2.out.2.2.2.1 (List.mem_cons_self ..)) (And.intro HS2.out.2.2.2.2 hWr)))))
          clear hput hWr hG hS HS2
          go_wp2_with fail
          refine TreeQ.in_ HS3.out.2.1 ?_
          refine wpTree_pure _ _ _ (by rfl) (by rfl) ?_
          dsimp only [List.filterMap, List.getElem?_cons_zero, List.getElem?_cons_succ]
          repeat (go_big_quiet_step (fail))
          refine wpQuiet_nil ?_
          refine wpTree_one _ rfl ?_
          have hb4 := HS3.out.2.2.2.1
          go_wp2_with (first
            | ((with_reducible show wpList _ _ _ ((⟨none, _, _, _, _, _⟩ : Oper) :: _) _ _); refine wpList_store_blk (o := ⟨none, _, _, _, _, _⟩) (hb4) (by rfl) _ _ _ (by rfl) (by rfl) (#[.int .i64 (wk i).1, .int .i64 (wk i).2.1]) (by rfl) (size_ref) (by rfl) (by rfl) (by simp [Value.oneCell']) ?_; intro W5 h5 hu5; refine stopped ?_)
            | fail)
          refine Stopped.mk ?_
          have hn5 : Near [gb] W2 W5 := Near.upd hu5 (List.mem_singleton_self gb)
          have hb5 : Below w0.heap.size W2 W5 := hn5.toBelow (fun x hx => by rw [List.mem_singleton.1 hx]; exact HS3.out.2.2.2.2.1) HS3.out.2.1.size
          have hY5 : ∀ y ∈ (Value.slice A6 i c6).ownBlock.toList ++ Y, y < W1.heap.size := HC.out.2.2.2.1
          have HS5 := Lib.hid (And.intro (HS3.out.1.wrote hn5 (fun x hx => by rw [List.mem_singleton.1 hx]; exact List.mem_cons_self ..)) (And.intro (HS3.out.2.1.trans hb5) (And.intro (HS3.out.2.2.1.trans ⟨hb5, hn5.size, fun y hy => hn5.block y (Nat.lt_of_lt_of_le (hY5 y hy) (Nat.le_trans HN.out.1.st.bel.size HS3.out.2.2.1.bel.size)) (fun hm => HGB.out (by rw [← List.mem_singleton.1 hm]; exact hy))⟩) (And.intro h5 HS3.out.2.2.2.2.2))))
          clear hn5 hb5 hY5 hu5 hb4 HS3
          refine TreeQ.in_ HS5.out.2.1 ?_
          refine wpTree_pure _ _ _ (by rfl) (by rfl) ?_
          dsimp only [List.filterMap, List.getElem?_cons_zero, List.getElem?_cons_succ]
          repeat (go_big_quiet_step (fail))
          refine wpQuiet_nil ?_
          refine wpTree_done ?_
          have hbl6 := (Below.refl W5.heap.size W5).alloc (Nat.le_refl _) (.cells #[.int .i64 (wk i).1, .int .i64 (wk i).2.1] 23)
          have hG6 := (HS5.out.1.below hbl6).1
          have hS6 := HN.out.1.st.trans (HS5.out.2.2.1.trans ((HS5.out.1.below hbl6).2.sub (fun _ hy => List.mem_cons_of_mem _ (List.mem_append_right _ hy))))
          have ho6 := hS6.same.owns HC.out.2.2.2.2.2.1 (fun x hx => List.mem_append_left _ (Option.mem_toList.2 hx))
          have hra : Reads (W5.alloc (.cells #[.int .i64 (wk i).1, .int .i64 (wk i).2.1] 23)) (some ⟨W5.heap.size, 0, none⟩) [.int .i64 (wk i).1, .int .i64 (wk i).2.1] := reads_new W5 23 [.int .i64 (wk i).1, .int .i64 (wk i).2.1]
          have hsz6 : w.heap.size ≤ (W5.alloc (.cells #[.int .i64 (wk i).1, .int .i64 (wk i).2.1] 23)).heap.size := Nat.le_trans HC.out.2.2.1.st.bel.size hS6.bel.size
          have HS6 := Lib.hid (And.intro hG6 (And.intro hS6 (And.intro ho6 (And.intro hra (And.intro hsz6 HS5.out.2.2.2.2)))))
          have hi16 : i < 16 := by have := HI.out; omega
          clear hbl6 hG6 hS6 ho6 hra hsz6 HS5
          go_wp2_with (first
            | ((with_reducible show wpList _ _ _ ((⟨some 73, _, _, _, _, _⟩ : Oper) :: _) _ _); refine wpList_load_blk (o := ⟨some 73, _, _, _, _, _⟩) (h5) (by rfl) _ _ (by rfl) (by rfl) _ Tryd.underlying23 (by rfl) (size_ref) (by rfl) ?_)
            | ((with_reducible show wpList _ _ _ ((⟨some 75, _, _, _, _, _⟩ : Oper) :: _) _ _); refine wpList_append_vals (o := ⟨some 75, _, _, _, _, _⟩) (by rfl) _ _ _ (by rfl) w.heap.size 23 (.agg #[.int .i64 0, .int .i64 0]) 2 16 Tryd.underlying29 infoRef (by rfl) (by omega) (.slice A6 i c6) i (refCells ((List.range i).map wk)) sp6 (by rfl) HS6.out.2.2.1 (some ⟨W5.heap.size, 0, none⟩) 1 1 [.int .i64 (wk i).1, .int .i64 (wk i).2.1] (by rfl) (by rfl) HS6.out.2.2.2.1 (by simp [Value.oneCell']) (by simp only [maxLen]; omega) (by omega) HS6.out.2.2.2.2.1 ?_; intro v' W7 sp7 ho7 hg7 hv7 hn7; refine stopped ?_)
            | fail)
          refine Stopped.mk ?_
          have hN7 := HC.out.2.2.1.app (E := gb :: (Value.slice A8 k c8).ownBlock.toList) HA.out.2.2.2.2.2.2.2.2 HA.out.1.size HS6.out.2.1 HS6.out.2.2.2.2.2 HS6.out.1 ho7 hg7 hv7
          have H7 := Lib.hid hN7
          clear ho7 hg7 hv7 hn7 hN7 HS6 h5
          go_wp2_with fail
          exact ⟨⟨i + 1, d2, by rw [HM.out]; exact HI.out, rfl, H7.out⟩, meas_up (i := i) rfl rfl HI.out⟩
      · have q1 : decide ((i : Int) > 0) = true := decide_eq_true (by omega)
        have q2 : decide (k < p.2.1.length) = true := decide_eq_true hkn
        have q3 : decide ((k : Int) < 16) = false := decide_eq_false (by omega)
        go_wp2_with fail
        clear hi0 hkn hk16 q1 q2 q3 j2
        have hNd := HN.out.1.gx.below ((Below.refl wr.heap.size wr).drew)
        have HNR : Hid (Refs wr A8 (wnm p i)) := Lib.hid (by have h := HN.out.2.2.2.1; rwa [HN.out.2.2.1, List.take_length] at h)
        have hC0 : Below w0.heap.size w0 wr.drew := HN.out.2.1.drew
        refine wp_region_tree (Below w0.heap.size w0) [] (PlanT.takes [0, 1, 2, 3, 4, 8, 9, 10, 11, 12] (PlanT.takes [5, 13] (.opt 6 (PlanT.takes [7] (.opt 14 (PlanT.takes [15, 16, 17] (.opt 18 (.opt 19 (PlanT.takes [20] .done) .no) .no)) (.opt 18 (.opt 14 (PlanT.takes [15, 16, 17] (.opt 19 (PlanT.takes [20] .done) .no)) .no) .no))) (.opt 18 (.opt 6 (PlanT.takes [7] (.opt 14 (PlanT.takes [15, 16, 17] (.opt 19 (PlanT.takes [20] .done) .no)) .no)) .no) .no)))) (by kernel_rfl) (by kernel_rfl) (hC0) ?_
        refine wpTree_pure _ _ _ (by rfl) (by rfl) ?_
        dsimp only [List.filterMap, List.getElem?_cons_zero, List.getElem?_cons_succ]
        repeat (go_big_quiet_step (fail))
        refine wpQuiet_nil ?_
        refine wpTree_takeL _ _ _ (by rfl) (by rfl) (hC0) ?_
        dsimp only [List.filterMap, List.getElem?_cons_zero, List.getElem?_cons_succ]
        (refine wpQuiet_load_cell (fun w' hw' => (HC.out.1 w' hw').1) (by rfl) _ _ (by rfl) (by rfl) _ Tryd.underlying3 (by rfl) ?_; simp only [Act.put, List.setIfInBounds_toArray, List.set_cons_zero, List.set_cons_succ])
        (refine wpQuiet_load_cell (fun w' hw' => (HC.out.1 w' hw').2.2.1) (by rfl) _ _ (by rfl) (by rfl) _ Tryd.underlying44 (by rfl) ?_; simp only [Act.put, List.setIfInBounds_toArray, List.set_cons_zero, List.set_cons_succ])
        refine wpQuiet_nil ?_
        have HS := Lib.hid (And.intro hNd.1 (And.intro hC0 ((Below.refl wr.heap.size wr).drew)))
        clear hNd hC0
        generalize wr.drew = W at HS ⊢
        refine wpTree_opt _ rfl ?_ (wpTree_one _ rfl ?_)
        · go_wp2_with fail
          refine (pick_any p.1 15 (by omega) (by omega) _).mono ?_
          rintro e wp_ ⟨rfl, hw⟩
          obtain rfl := hw.symm
          clear hw
          go_wp2_with fail
          refine TreeQ.in_ HS.out.2.1 ?_
          refine wpTree_pure _ _ _ (by rfl) (by rfl) ?_
          dsimp only [List.filterMap, List.getElem?_cons_zero, List.getElem?_cons_succ]
          repeat (go_big_quiet_step (fail))
          refine wpQuiet_nil ?_
          refine wpTree_opt _ rfl ?_ (wpTree_one _ rfl ?_)
          · go_wp2_with fail
            obtain ⟨d2, hput, hWr⟩ := HWR.out HC.out.2.2.1.wr
            refine (xwrite HS.out.1 (HA.out.2.2.1.below HS.out.2.1) (1 + (pickN p.1 15 : Int)) 7 A8 A2 k c8 p.2.2.1.length c2 (wnm p i) p.2.2.1 HN.out.2.2.1 rfl (Nat.le_trans (wnm_len p i) (by omega)) (by have := HC.out.2.2.2.2.2.2.2.2.2.1; omega) (HNR.out.below HS.out.2.2) (HC.out.1 _ HS.out.2.1).2.2.2.2 hput).mono ?_
            rintro e W2 ⟨rfl, hG, hS⟩
            have HS3 := Lib.hid (And.intro hG (And.intro (HS.out.2.1.trans hS.bel) (And.intro (((HN.out.1.gx.below HS.out.2.2).2.sub (fun _ hy => List.mem_append_right _ hy)).trans (hS.sub (fun _ hy => List.mem_append_right _ hy))) hWr)))
            clear hput hWr hG hS HS
            go_wp2_with fail
            refine TreeQ.in_ HS3.out.2.1 ?_
            refine wpTree_pure _ _ _ (by rfl) (by rfl) ?_
            dsimp only [List.filterMap, List.getElem?_cons_zero, List.getElem?_cons_succ]
            repeat (go_big_quiet_step (fail))
            refine wpQuiet_nil ?_
            refine wpTree_one _ rfl ?_
            go_wp2_with fail
            have hbl := (Below.refl W2.heap.size W2).alloc (Nat.le_refl _) (.cells #[.int .i64 0, .int .i64 0] 23)
            have hbx := Blk.new W2 23 #[.int .i64 0, .int .i64 0]
            have HS4 := Lib.hid (And.intro (HS3.out.1.add hbl (Nat.le_refl _) hbx.lt) (And.intro (HS3.out.2.1.alloc HS3.out.2.1.size (.cells #[.int .i64 0, .int .i64 0] 23)) (And.intro (HS3.out.2.2.1.trans ((HS3.out.1.below hbl).2.sub (fun _ hy => List.mem_append_right _ hy))) (And.intro hbx (And.intro HS3.out.2.1.size HS3.out.2.2.2)))))
            have HGB := Lib.hid (show W2.heap.size ∉ (Value.slice A6 i c6).ownBlock.toList ++ Y from fun hm => by have := HC.out.2.2.2.1 _ hm; have := HN.out.1.st.bel.size; have := HS3.out.2.2.1.bel.size; omega)
            clear hbl hbx HS3
            generalize hW3 : W2.alloc (.cells #[.int .i64 0, .int .i64 0] 23) = W3 at HS4 ⊢
            clear hW3
            generalize W2.heap.size = gb at HS4 HGB ⊢
            refine TreeQ.in_ HS4.out.2.1 ?_
            refine wpTree_one _ rfl ?_
            have hb4 := HS4.out.2.2.2.1
            go_wp2_with (first
              | ((with_reducible show wpList _ _ _ ((⟨none, _, _, _, _, _⟩ : Oper) :: _) _ _); refine wpList_store_blk (o := ⟨none, _, _, _, _, _⟩) (hb4) (by rfl) _ _ _ (by rfl) (by rfl) (#[.int .i64 (wk i).1, .int .i64 (wk i).2.1]) (by rfl) (size_ref) (by rfl) (by rfl) (by simp [Value.oneCell']) ?_; intro W5 h5 hu5; refine stopped ?_)
              | fail)
            refine Stopped.mk ?_
            have hn5 : Near [gb] W3 W5 := Near.upd hu5 (List.mem_singleton_self gb)
            have hb5 : Below w0.heap.size W3 W5 := hn5.toBelow (fun x hx => by rw [List.mem_singleton.1 hx]; exact HS4.out.2.2.2.2.1) HS4.out.2.1.size
            have hY5 : ∀ y ∈ (Value.slice A6 i c6).ownBlock.toList ++ Y, y < W1.heap.size := HC.out.2.2.2.1
            have HS5 := Lib.hid (And.intro (HS4.out.1.wrote hn5 (fun x hx => by rw [List.mem_singleton.1 hx]; exact List.mem_cons_self ..)) (And.intro (HS4.out.2.1.trans hb5) (And.intro (HS4.out.2.2.1.trans ⟨hb5, hn5.size, fun y hy => hn5.block y (Nat.lt_of_lt_of_le (hY5 y hy) (Nat.le_trans HN.out.1.st.bel.size HS4.out.2.2.1.bel.size)) (fun hm => HGB.out (by rw [← List.mem_singleton.1 hm]; exact hy))⟩) (And.intro h5 HS4.out.2.2.2.2.2))))
            clear hn5 hb5 hY5 hu5 hb4 HS4
            refine TreeQ.in_ HS5.out.2.1 ?_
            refine wpTree_pure _ _ _ (by rfl) (by rfl) ?_
            dsimp only [List.filterMap, List.getElem?_cons_zero, List.getElem?_cons_succ]
            repeat (go_big_quiet_step (fail))
            refine wpQuiet_nil ?_
            refine wpTree_done ?_
            have hbl6 := (Below.refl W5.heap.size W5).alloc (Nat.le_refl _) (.cells #[.int .i64 (wk i).1, .int .i64 (wk i).2.1] 23)
            have hG6 := (HS5.out.1.below hbl6).1
            have hS6 := HN.out.1.st.trans (HS5.out.2.2.1.trans ((HS5.out.1.below hbl6).2.sub (fun _ hy => List.mem_cons_of_mem _ (List.mem_append_right _ hy))))
            have ho6 := hS6.same.owns HC.out.2.2.2.2.2.1 (fun x hx => List.mem_append_left _ (Option.mem_toList.2 hx))
            have hra : Reads (W5.alloc (.cells #[.int .i64 (wk i).1, .int .i64 (wk i).2.1] 23)) (some ⟨W5.heap.size, 0, none⟩) [.int .i64 (wk i).1, .int .i64 (wk i).2.1] := reads_new W5 23 [.int .i64 (wk i).1, .int .i64 (wk i).2.1]
            have hsz6 : w.heap.size ≤ (W5.alloc (.cells #[.int .i64 (wk i).1, .int .i64 (wk i).2.1] 23)).heap.size := Nat.le_trans HC.out.2.2.1.st.bel.size hS6.bel.size
            have HS6 := Lib.hid (And.intro hG6 (And.intro hS6 (And.intro ho6 (And.intro hra (And.intro hsz6 HS5.out.2.2.2.2)))))
            have hi16 : i < 16 := by have := HI.out; omega
            clear hbl6 hG6 hS6 ho6 hra hsz6 HS5
            go_wp2_with (first
              | ((with_reducible show wpList _ _ _ ((⟨some 73, _, _, _, _, _⟩ : Oper) :: _) _ _); refine wpList_load_blk (o := ⟨some 73, _, _, _, _, _⟩) (h5) (by rfl) _ _ (by rfl) (by rfl) _ Tryd.underlying23 (by rfl) (size_ref) (by rfl) ?_)
              | ((with_reducible show wpList _ _ _ ((⟨some 75, _, _, _, _, _⟩ : Oper) :: _) _ _); refine wpList_append_vals (o := ⟨some 75, _, _, _, _, _⟩) (by rfl) _ _ _ (by rfl) w.heap.size 23 (.agg #[.int .i64 0, .int .i64 0]) 2 16 Tryd.underlying29 infoRef (by rfl) (by omega) (.slice A6 i c6) i (refCells ((List.range i).map wk)) sp6 (by rfl) HS6.out.2.2.1 (some ⟨W5.heap.size, 0, none⟩) 1 1 [.int .i64 (wk i).1, .int .i64 (wk i).2.1] (by rfl) (by rfl) HS6.out.2.2.2.1 (by simp [Value.oneCell']) (by simp only [maxLen]; omega) (by omega) HS6.out.2.2.2.2.1 ?_; intro v' W7 sp7 ho7 hg7 hv7 hn7; refine stopped ?_)
              | fail)
            refine Stopped.mk ?_
            have hN7 := HC.out.2.2.1.app (E := gb :: (Value.slice A8 k c8).ownBlock.toList) HA.out.2.2.2.2.2.2.2.2 HA.out.1.size HS6.out.2.1 HS6.out.2.2.2.2.2 HS6.out.1 ho7 hg7 hv7
            have H7 := Lib.hid hN7
            clear ho7 hg7 hv7 hn7 hN7 HS6 h5
            go_wp2_with fail
            exact ⟨⟨i + 1, d2, by rw [HM.out]; exact HI.out, rfl, H7.out⟩, meas_up (i := i) rfl rfl HI.out⟩
          · go_wp2_with fail
            have hbl := (Below.refl W.heap.size W).alloc (Nat.le_refl _) (.cells #[.int .i64 0, .int .i64 0] 23)
            have hbx := Blk.new W 23 #[.int .i64 0, .int .i64 0]
            have HS2 := Lib.hid (And.intro (HS.out.1.add hbl (Nat.le_refl _) hbx.lt) (And.intro (HS.out.2.1.alloc HS.out.2.1.size (.cells #[.int .i64 0, .int .i64 0] 23)) (And.intro (HS.out.2.2.trans (hbl.mono HS.out.2.2.size)) (And.intro hbx HS.out.2.1.size))))
            have HGB := Lib.hid (show W.heap.size ∉ (Value.slice A6 i c6).ownBlock.toList ++ Y from fun hm => by have := HC.out.2.2.2.1 _ hm; have := HN.out.1.st.bel.size; have := HS.out.2.2.size; omega)
            clear hbl hbx HS
            generalize hWn : W.alloc (.cells #[.int .i64 0, .int .i64 0] 23) = Wn at HS2 ⊢
            clear hWn
            generalize W.heap.size = gb at HS2 HGB ⊢
            refine TreeQ.in_ HS2.out.2.1 ?_
            refine wpTree_one _ rfl ?_
            go_wp2_with fail
            obtain ⟨d2, hput, hWr⟩ := HWR.out HC.out.2.2.1.wr
            refine (xwrite HS2.out.1 (HA.out.2.2.1.below HS2.out.2.1) (1 + (pickN p.1 15 : Int)) 7 A8 A2 k c8 p.2.2.1.length c2 (wnm p i) p.2.2.1 HN.out.2.2.1 rfl (Nat.le_trans (wnm_len p i) (by omega)) (by have := HC.out.2.2.2.2.2.2.2.2.2.1; omega) (HNR.out.below HS2.out.2.2.1) (HC.out.1 _ HS2.out.2.1).2.2.2.2 hput).mono ?_
            rintro e W2 ⟨rfl, hG, hS⟩
            have HS3 := Lib.hid (And.intro hG (And.intro (HS2.out.2.1.trans hS.bel) (And.intro (((HN.out.1.gx.below HS2.out.2.2.1).2.sub (fun _ hy => List.mem_append_right _ hy)).trans (hS.sub (fun _ hy => List.mem_cons_of_mem _ (List.mem_append_right _ hy)))) (And.intro (hS.same.blk HS2.out.2.2.2.1 (List.mem_cons_self ..)) (And.intro HS2.out.2.2.2.2 hWr)))))
            clear hput hWr hG hS HS2
            go_wp2_with fail
            refine TreeQ.in_ HS3.out.2.1 ?_
            refine wpTree_pure _ _ _ (by rfl) (by rfl) ?_
            dsimp only [List.filterMap, List.getElem?_cons_zero, List.getElem?_cons_succ]
            repeat (go_big_quiet_step (fail))
            refine wpQuiet_nil ?_
            refine wpTree_one _ rfl ?_
            have hb4 := HS3.out.2.2.2.1
            go_wp2_with (first
              | ((with_reducible show wpList _ _ _ ((⟨none, _, _, _, _, _⟩ : Oper) :: _) _ _); refine wpList_store_blk (o := ⟨none, _, _, _, _, _⟩) (hb4) (by rfl) _ _ _ (by rfl) (by rfl) (#[.int .i64 (wk i).1, .int .i64 (wk i).2.1]) (by rfl) (size_ref) (by rfl) (by rfl) (by simp [Value.oneCell']) ?_; intro W5 h5 hu5; refine stopped ?_)
              | fail)
            refine Stopped.mk ?_
            have hn5 : Near [gb] W2 W5 := Near.upd hu5 (List.mem_singleton_self gb)
            have hb5 : Below w0.heap.size W2 W5 := hn5.toBelow (fun x hx => by rw [List.mem_singleton.1 hx]; exact HS3.out.2.2.2.2.1) HS3.out.2.1.size
            have hY5 : ∀ y ∈ (Value.slice A6 i c6).ownBlock.toList ++ Y, y < W1.heap.size := HC.out.2.2.2.1
            have HS5 := Lib.hid (And.intro (HS3.out.1.wrote hn5 (fun x hx => by rw [List.mem_singleton.1 hx]; exact List.mem_cons_self ..)) (And.intro (HS3.out.2.1.trans hb5) (And.intro (HS3.out.2.2.1.trans ⟨hb5, hn5.size, fun y hy => hn5.block y (Nat.lt_of_lt_of_le (hY5 y hy) (Nat.le_trans HN.out.1.st.bel.size HS3.out.2.2.1.bel.size)) (fun hm => HGB.out (by rw [← List.mem_singleton.1 hm]; exact hy))⟩) (And.intro h5 HS3.out.2.2.2.2.2))))
            clear hn5 hb5 hY5 hu5 hb4 HS3
            refine TreeQ.in_ HS5.out.2.1 ?_
            refine wpTree_pure _ _ _ (by rfl) (by rfl) ?_
            dsimp only [List.filterMap, List.getElem?_cons_zero, List.getElem?_cons_succ]
            repeat (go_big_quiet_step (fail))
            refine wpQuiet_nil ?_
            refine wpTree_done ?_
            have hbl6 := (Below.refl W5.heap.size W5).alloc (Nat.le_refl _) (.cells #[.int .i64 (wk i).1, .int .i64 (wk i).2.1] 23)
            have hG6 := (HS5.out.1.below hbl6).1
            have hS6 := HN.out.1.st.trans (HS5.out.2.2.1.trans ((HS5.out.1.below hbl6).2.sub (fun _ hy => List.mem_cons_of_mem _ (List.mem_append_right _ hy))))
            have ho6 := hS6.same.owns HC.out.2.2.2.2.2.1 (fun x hx => List.mem_append_left _ (Option.mem_toList.2 hx))
            have hra : Reads (W5.alloc (.cells #[.int .i64 (wk i).1, .int .i64 (wk i).2.1] 23)) (some ⟨W5.heap.size, 0, none⟩) [.int .i64 (wk i).1, .int .i64 (wk i).2.1] := reads_new W5 23 [.int .i64 (wk i).1, .int .i64 (wk i).2.1]
            have hsz6 : w.heap.size ≤ (W5.alloc (.cells #[.int .i64 (wk i).1, .int .i64 (wk i).2.1] 23)).heap.size := Nat.le_trans HC.out.2.2.1.st.bel.size hS6.bel.size
            have HS6 := Lib.hid (And.intro hG6 (And.intro hS6 (And.intro ho6 (And.intro hra (And.intro hsz6 HS5.out.2.2.2.2)))))
            have hi16 : i < 16 := by have := HI.out; omega
            clear hbl6 hG6 hS6 ho6 hra hsz6 HS5
            go_wp2_with (first
              | ((with_reducible show wpList _ _ _ ((⟨some 73, _, _, _, _, _⟩ : Oper) :: _) _ _); refine wpList_load_blk (o := ⟨some 73, _, _, _, _, _⟩) (h5) (by rfl) _ _ (by rfl) (by rfl) _ Tryd.underlying23 (by rfl) (size_ref) (by rfl) ?_)
              | ((with_reducible show wpList _ _ _ ((⟨some 75, _, _, _, _, _⟩ : Oper) :: _) _ _); refine wpList_append_vals (o := ⟨some 75, _, _, _, _, _⟩) (by rfl) _ _ _ (by rfl) w.heap.size 23 (.agg #[.int .i64 0, .int .i64 0]) 2 16 Tryd.underlying29 infoRef (by rfl) (by omega) (.slice A6 i c6) i (refCells ((List.range i).map wk)) sp6 (by rfl) HS6.out.2.2.1 (some ⟨W5.heap.size, 0, none⟩) 1 1 [.int .i64 (wk i).1, .int .i64 (wk i).2.1] (by rfl) (by rfl) HS6.out.2.2.2.1 (by simp [Value.oneCell']) (by simp only [maxLen]; omega) (by omega) HS6.out.2.2.2.2.1 ?_; intro v' W7 sp7 ho7 hg7 hv7 hn7; refine stopped ?_)
              | fail)
            refine Stopped.mk ?_
            have hN7 := HC.out.2.2.1.app (E := gb :: (Value.slice A8 k c8).ownBlock.toList) HA.out.2.2.2.2.2.2.2.2 HA.out.1.size HS6.out.2.1 HS6.out.2.2.2.2.2 HS6.out.1 ho7 hg7 hv7
            have H7 := Lib.hid hN7
            clear ho7 hg7 hv7 hn7 hN7 HS6 h5
            go_wp2_with fail
            exact ⟨⟨i + 1, d2, by rw [HM.out]; exact HI.out, rfl, H7.out⟩, meas_up (i := i) rfl rfl HI.out⟩
        · go_wp2_with fail
          have hbl := (Below.refl W.heap.size W).alloc (Nat.le_refl _) (.cells #[.int .i64 0, .int .i64 0] 23)
          have hbx := Blk.new W 23 #[.int .i64 0, .int .i64 0]
          have HS2 := Lib.hid (And.intro (HS.out.1.add hbl (Nat.le_refl _) hbx.lt) (And.intro (HS.out.2.1.alloc HS.out.2.1.size (.cells #[.int .i64 0, .int .i64 0] 23)) (And.intro (HS.out.2.2.trans (hbl.mono HS.out.2.2.size)) (And.intro hbx HS.out.2.1.size))))
          have HGB := Lib.hid (show W.heap.size ∉ (Value.slice A6 i c6).ownBlock.toList ++ Y from fun hm => by have := HC.out.2.2.2.1 _ hm; have := HN.out.1.st.bel.size; have := HS.out.2.2.size; omega)
          clear hbl hbx HS
          generalize hWn : W.alloc (.cells #[.int .i64 0, .int .i64 0] 23) = Wn at HS2 ⊢
          clear hWn
          generalize W.heap.size = gb at HS2 HGB ⊢
          refine TreeQ.in_ HS2.out.2.1 ?_
          refine wpTree_one _ rfl ?_
          go_wp2_with fail
          refine (pick_any p.1 15 (by omega) (by omega) _).mono ?_
          rintro e wp_ ⟨rfl, hw⟩
          obtain rfl := hw.symm
          clear hw
          go_wp2_with fail
          refine TreeQ.in_ HS2.out.2.1 ?_
          refine wpTree_pure _ _ _ (by rfl) (by rfl) ?_
          dsimp only [List.filterMap, List.getElem?_cons_zero, List.getElem?_cons_succ]
          repeat (go_big_quiet_step (fail))
          refine wpQuiet_nil ?_
          refine wpTree_one _ rfl ?_
          go_wp2_with fail
          obtain ⟨d2, hput, hWr⟩ := HWR.out HC.out.2.2.1.wr
          refine (xwrite HS2.out.1 (HA.out.2.2.1.below HS2.out.2.1) (1 + (pickN p.1 15 : Int)) 7 A8 A2 k c8 p.2.2.1.length c2 (wnm p i) p.2.2.1 HN.out.2.2.1 rfl (Nat.le_trans (wnm_len p i) (by omega)) (by have := HC.out.2.2.2.2.2.2.2.2.2.1; omega) (HNR.out.below HS2.out.2.2.1) (HC.out.1 _ HS2.out.2.1).2.2.2.2 hput).mono ?_
          rintro e W2 ⟨rfl, hG, hS⟩
          have HS3 := Lib.hid (And.intro hG (And.intro (HS2.out.2.1.trans hS.bel) (And.intro (((HN.out.1.gx.below HS2.out.2.2.1).2.sub (fun _ hy => List.mem_append_right _ hy)).trans (hS.sub (fun _ hy => List.mem_cons_of_mem _ (List.mem_append_right _ hy)))) (And.intro (hS.same.blk HS2.out.2.2.2.1 (List.mem_cons_self ..)) (And.intro HS2.out.2.2.2.2 hWr)))))
          clear hput hWr hG hS HS2
          go_wp2_with fail
          refine TreeQ.in_ HS3.out.2.1 ?_
          refine wpTree_pure _ _ _ (by rfl) (by rfl) ?_
          dsimp only [List.filterMap, List.getElem?_cons_zero, List.getElem?_cons_succ]
          repeat (go_big_quiet_step (fail))
          refine wpQuiet_nil ?_
          refine wpTree_one _ rfl ?_
          have hb4 := HS3.out.2.2.2.1
          go_wp2_with (first
            | ((with_reducible show wpList _ _ _ ((⟨none, _, _, _, _, _⟩ : Oper) :: _) _ _); refine wpList_store_blk (o := ⟨none, _, _, _, _, _⟩) (hb4) (by rfl) _ _ _ (by rfl) (by rfl) (#[.int .i64 (wk i).1, .int .i64 (wk i).2.1]) (by rfl) (size_ref) (by rfl) (by rfl) (by simp [Value.oneCell']) ?_; intro W5 h5 hu5; refine stopped ?_)
            | fail)
          refine Stopped.mk ?_
          have hn5 : Near [gb] W2 W5 := Near.upd hu5 (List.mem_singleton_self gb)
          have hb5 : Below w0.heap.size W2 W5 := hn5.toBelow (fun x hx => by rw [List.mem_singleton.1 hx]; exact HS3.out.2.2.2.2.1) HS3.out.2.1.size
          have hY5 : ∀ y ∈ (Value.slice A6 i c6).ownBlock.toList ++ Y, y < W1.heap.size := HC.out.2.2.2.1
          have HS5 := Lib.hid (And.intro (HS3.out.1.wrote hn5 (fun x hx => by rw [List.mem_singleton.1 hx]; exact List.mem_cons_self ..)) (And.intro (HS3.out.2.1.trans hb5) (And.intro (HS3.out.2.2.1.trans ⟨hb5, hn5.size, fun y hy => hn5.block y (Nat.lt_of_lt_of_le (hY5 y hy) (Nat.le_trans HN.out.1.st.bel.size HS3.out.2.2.1.bel.size)) (fun hm => HGB.out (by rw [← List.mem_singleton.1 hm]; exact hy))⟩) (And.intro h5 HS3.out.2.2.2.2.2))))
          clear hn5 hb5 hY5 hu5 hb4 HS3
          refine TreeQ.in_ HS5.out.2.1 ?_
          refine wpTree_pure _ _ _ (by rfl) (by rfl) ?_
          dsimp only [List.filterMap, List.getElem?_cons_zero, List.getElem?_cons_succ]
          repeat (go_big_quiet_step (fail))
          refine wpQuiet_nil ?_
          refine wpTree_done ?_
          have hbl6 := (Below.refl W5.heap.size W5).alloc (Nat.le_refl _) (.cells #[.int .i64 (wk i).1, .int .i64 (wk i).2.1] 23)
          have hG6 := (HS5.out.1.below hbl6).1
          have hS6 := HN.out.1.st.trans (HS5.out.2.2.1.trans ((HS5.out.1.below hbl6).2.sub (fun _ hy => List.mem_cons_of_mem _ (List.mem_append_right _ hy))))
          have ho6 := hS6.same.owns HC.out.2.2.2.2.2.1 (fun x hx => List.mem_append_left _ (Option.mem_toList.2 hx))
          have hra : Reads (W5.alloc (.cells #[.int .i64 (wk i).1, .int .i64 (wk i).2.1] 23)) (some ⟨W5.heap.size, 0, none⟩) [.int .i64 (wk i).1, .int .i64 (wk i).2.1] := reads_new W5 23 [.int .i64 (wk i).1, .int .i64 (wk i).2.1]
          have hsz6 : w.heap.size ≤ (W5.alloc (.cells #[.int .i64 (wk i).1, .int .i64 (wk i).2.1] 23)).heap.size := Nat.le_trans HC.out.2.2.1.st.bel.size hS6.bel.size
          have HS6 := Lib.hid (And.intro hG6 (And.intro hS6 (And.intro ho6 (And.intro hra (And.intro hsz6 HS5.out.2.2.2.2)))))
          have hi16 : i < 16 := by have := HI.out; omega
          clear hbl6 hG6 hS6 ho6 hra hsz6 HS5
          go_wp2_with (first
            | ((with_reducible show wpList _ _ _ ((⟨some 73, _, _, _, _, _⟩ : Oper) :: _) _ _); refine wpList_load_blk (o := ⟨some 73, _, _, _, _, _⟩) (h5) (by rfl) _ _ (by rfl) (by rfl) _ Tryd.underlying23 (by rfl) (size_ref) (by rfl) ?_)
            | ((with_reducible show wpList _ _ _ ((⟨some 75, _, _, _, _, _⟩ : Oper) :: _) _ _); refine wpList_append_vals (o := ⟨some 75, _, _, _, _, _⟩) (by rfl) _ _ _ (by rfl) w.heap.size 23 (.agg #[.int .i64 0, .int .i64 0]) 2 16 Tryd.underlying29 infoRef (by rfl) (by omega) (.slice A6 i c6) i (refCells ((List.range i).map wk)) sp6 (by rfl) HS6.out.2.2.1 (some ⟨W5.heap.size, 0, none⟩) 1 1 [.int .i64 (wk i).1, .int .i64 (wk i).2.1] (by rfl) (by rfl) HS6.out.2.2.2.1 (by simp [Value.oneCell']) (by simp only [maxLen]; omega) (by omega) HS6.out.2.2.2.2.1 ?_; intro v' W7 sp7 ho7 hg7 hv7 hn7; refine stopped ?_)
            | fail)
          refine Stopped.mk ?_
          have hN7 := HC.out.2.2.1.app (E := gb :: (Value.slice A8 k c8).ownBlock.toList) HA.out.2.2.2.2.2.2.2.2 HA.out.1.size HS6.out.2.1 HS6.out.2.2.2.2.2 HS6.out.1 ho7 hg7 hv7
          have H7 := Lib.hid hN7
          clear ho7 hg7 hv7 hn7 hN7 HS6 h5
          go_wp2_with fail
          exact ⟨⟨i + 1, d2, by rw [HM.out]; exact HI.out, rfl, H7.out⟩, meas_up (i := i) rfl rfl HI.out⟩
end Go.Proofs.YthfdjemlibecgaaDoor
