/- FetchNone: a fetch that is nil, or that nobody made. Condition: the library's table is there. -/
import Derived.Test.YthfdjemlibecgaaDoorMFetchNone19
import Derived.Test.YthfdjemlibecgaaDoorTie
import Derived.Test.YthfdjemlibecgaaDoorCards
import Derived.SevenTiedAt
namespace Go.Proofs.YthfdjemlibecgaaDoor
open Go.RowKit
set_option maxRecDepth 100000 in
set_option maxHeartbeats 4000000 in
theorem fPut_no (p : Option Addr) (ref : RefT) (v : Value) {w : World} (hn : NoFetch p w) : Calls Tryd.prog 15 #[.pointer p, .agg #[.int .i64 ref.1, .int .i64 ref.2.1], v] w fun e w' => e = .returned (.tuple #[.bool false, .int .i64 1]) ∧ Below w.heap.size w w' := by
  have hB := (((Below.refl w.heap.size w).alloc (Nat.le_refl _) (.cells #[.pointer p] 24)).alloc (by simp) (.cells #[.int .i64 ref.1, .int .i64 ref.2.1] 23)).alloc (by simp; omega) (.cells #[.int .i64 0] 30)
  have hbf := ((Blk.new w 24 #[.pointer p]).alloc (.cells #[.int .i64 ref.1, .int .i64 ref.2.1] 23)).alloc (.cells #[.int .i64 0] 30)
  have hbe := Blk.new' ((w.alloc (.cells #[.pointer p] 24)).alloc (.cells #[.int .i64 ref.1, .int .i64 ref.2.1] 23)) 30 #[.int .i64 0] (n := w.heap.size + 1 + 1) (by simp)
  have hn1 := fnone_no p (hn.below hB)
  have H1 := Lib.hid (And.intro hB hbe)
  have d0 := hbf.at_ 0 (v := .pointer p) rfl
  have d2 := hbe.at_ 0 (v := .int .i64 0) rfl
  have f2 := hbe.frozen 0
  clear hB hbf hbe hn
  refine callsIn_wide (n := 3).1 ?_
  refine callsIn_of_wp_marks Tryd.func15 rfl trivial ?_ rfl
  simp only [Tryd.ntmps15, List.size_toArray, List.length_cons, List.length_nil, Nat.reduceAdd, Nat.reduceSub, Array.replicate_succ, Array.replicate_zero, List.push_toArray, List.append_toArray, List.nil_append, List.cons_append]
  refine wpIn_wide.2 ?_
  go_wp2_with fail
  generalize (((w.alloc (.cells #[.pointer p] 24)).alloc (.cells #[.int .i64 ref.1, .int .i64 ref.2.1] 23)).alloc (.cells #[.int .i64 0] 30)) = w1 at H1 hn1 d0 d2 f2 ⊢
  refine hn1.mono ?_
  rintro e w1' ⟨rfl, hw⟩
  obtain rfl := hw.symm
  clear hw hn1
  go_wp2_with fail
  refine ⟨_, results_tmp_cell rfl _ _ (w.heap.size + 1 + 1) (.int .i64 1) _ rfl ((H1.out.2.set_ 0 _).at_ 0 rfl) Tryd.underlying30 rfl, rfl, ?_⟩
  exact H1.out.1.trans ((Near.upd ((Upd.refl _ _).set 0 _) (List.mem_singleton_self (w.heap.size + 1 + 1)) : Near [w.heap.size + 1 + 1] w1 _).toBelow (fun x hx => by rw [List.mem_singleton.1 hx]; omega) H1.out.1.size)
/-- What stands ahead of each round. -/
structure FNoneAt (w wr : World) (r : RefT) : Prop where
  ref : Blk wr w.heap.size 23 #[.int .i64 r.1, .int .i64 r.2.1]
  fet : Blk wr (w.heap.size + 1) 27 noFetch
  all : Blk wr (w.heap.size + 1 + 1) 24 #[.pointer none, .pointer (some ⟨w.heap.size + 1, 0, none⟩)]
theorem FNoneAt.below {w wr w' : World} {r : RefT} (h : FNoneAt w wr r) (k : Below wr.heap.size wr w') : FNoneAt w w' r :=
  ⟨h.ref.below k h.ref.lt, h.fet.below k h.fet.lt, h.all.below k h.all.lt⟩
def FNoneRel (w : World) (r : RefT) (v : Value) (wr : World) : Prop := ∃ k : Nat, k ≤ 2 ∧ v = .int .i64 (k : Int) ∧ FNoneAt w wr r ∧ Below w.heap.size w wr
set_option maxRecDepth 100000 in
set_option maxHeartbeats 8000000 in
theorem fetchNone_law (r : RefT) (w : World) (hT : Tab w) :
    Calls Tryd.prog 3 #[.agg #[.int .i64 r.1, .int .i64 r.2.1]] w fun e w' => e = .returned (.bool true) ∧ Below w.heap.size w w' := by
  have HT := Lib.hid hT
  have hzr := zeroRefrun
  clear hT
  go_enter Tryd.func3, Tryd.ntmps3
  go_wp2_with fail
  go_loopw [4] (fun v wr => FNoneRel w r v wr) (fun v _ => 2 - (intOf v).toNat)
  case atStart =>
    refine ⟨0, by omega, rfl, ⟨?_, ?_, ?_⟩, ?_⟩
    · exact ((Blk.new w _ _).alloc _).alloc _
    · exact (Blk.new' _ _ _ (by simp)).alloc _
    · exact Blk.new' _ _ _ (by simp)
    · exact (((Below.refl _ _).alloc (Nat.le_refl _) _).alloc (by simp) _).alloc (by simp; omega) _
  case round =>
    obtain ⟨k, hk, rfl, hN, hB⟩ := hrel
    by_cases k2 : k = 2
    · subst k2
      have H := Lib.hid (And.intro hN hB)
      have hr0 := hN.ref
      clear hN hB
      go_wp2_with (first
        | ((with_reducible show wpList _ _ _ ((⟨some 76, _, _, _, _, _⟩ : Oper) :: _) _ _); refine wpList_load_blk (o := ⟨some 76, _, _, _, _, _⟩) (hr0) (by rfl) _ _ (by rfl) (by rfl) _ Tryd.underlying23 (by rfl) (size_ref) (by rfl) ?_)
        | fail)
      refine (fnew_no none r (.inl rfl)).mono ?_
      rintro e w1 ⟨rfl, hB1⟩
      have H1 := Lib.hid (H.out.2.trans (hB1.mono H.out.2.size))
      clear hB1 hr0
      go_wp2_with fail
      refine (fawake_any w1 (HT.out.below H1.out)).mono ?_
      rintro e w2 ⟨rfl, hB2⟩
      have H2 := Lib.hid (H1.out.trans (hB2.mono H1.out.size))
      clear hB2
      go_wp2
      go_ret
      exact ⟨rfl, H2.out⟩
    by_cases k0 : k = 0
    · subst k0
      have d0 : wr.cell? ⟨w.heap.size + 1 + 1, 0, none⟩ = some (.pointer none) := hN.all.at_ 0 rfl
      have hk1 : ∀ w', Below wr.heap.size wr w' → FNoneAt w w' r ∧ NoFetch none w' ∧ w'.cell? ⟨w.heap.size + 1 + 1, 0, none⟩ = some (.pointer none) := fun w' hw' => ⟨hN.below hw', .inl rfl, (hN.below hw').all.at_ 0 rfl⟩
      have HK := Lib.hid hk1
      have HH := Lib.hid (And.intro hN hB)
      clear hN hB hk1 k2 hk
      go_wp2_with fail
      refine (flacks_no none 1 (HK.out wr (Below.refl _ _)).2.1).mono ?_
      rintro e w1 ⟨rfl, hb1⟩
      have HB1 := Lib.hid hb1
      clear hb1 d0
      go_wp2_with fail
      have hC0 : Below wr.heap.size wr w1.drew := HB1.out.drew
      refine wp_region_tree (Below wr.heap.size wr) [] (PlanT.takes [0, 1, 2] (PlanT.takes [3, 4] (.opt 5 (PlanT.takes [6, 7, 8, 9, 10] .done) .no))) (by kernel_rfl) (by kernel_rfl) (hC0) ?_
      refine wpTree_pure _ _ _ (by rfl) (by rfl) ?_
      dsimp only [List.filterMap, List.getElem?_cons_zero, List.getElem?_cons_succ]
      repeat (go_big_quiet_step (fail))
      refine wpQuiet_nil ?_
      refine wpTree_takeL _ _ _ (by rfl) (by rfl) (hC0) ?_
      dsimp only [List.filterMap, List.getElem?_cons_zero, List.getElem?_cons_succ]
      (refine wpQuiet_load_cell (fun w' hw' => (HK.out w' hw').2.2) (by rfl) _ _ (by rfl) (by rfl) _ Tryd.underlying24 (by rfl) ?_; simp only [Act.put, List.setIfInBounds_toArray, List.set_cons_zero, List.set_cons_succ])
      (refine wpQuiet_load_blk (fun w' hw' => (HK.out w' hw').1.ref) (by rfl) _ _ (by rfl) (by rfl) _ Tryd.underlying23 (by rfl) (size_ref) (by rfl) ?_; simp only [Act.put, List.setIfInBounds_toArray, List.set_cons_zero, List.set_cons_succ])
      refine wpQuiet_nil ?_
      refine wpTree_one _ rfl ?_
      go_wp2_with fail
      refine (fPut_no none r _ (HK.out _ hC0).2.1).mono ?_
      rintro e w2 ⟨rfl, hbx⟩
      have hC2 : Below wr.heap.size wr w2 := hC0.trans (hbx.mono hC0.size)
      have HB2 := Lib.hid hC2
      clear hbx hC0 HB1
      go_wp2_with fail
      refine TreeQ.in_ hC2 ?_
      refine wpTree_pure _ _ _ (by rfl) (by rfl) ?_
      dsimp only [List.filterMap, List.getElem?_cons_zero, List.getElem?_cons_succ]
      repeat (go_big_quiet_step (fail))
      refine wpQuiet_nil ?_
      refine wpTree_done ?_
      clear hC2
      have d2 := (HK.out w2 HB2.out).2.2
      go_wp2_with fail
      refine (fready_no none (HK.out w2 HB2.out).2.1).mono ?_
      rintro e w2' ⟨rfl, hw⟩
      obtain rfl := hw.symm
      clear hw
      go_wp2_with fail
      refine (froot_no none (HK.out w2 HB2.out).2.1).mono ?_
      rintro e w3 ⟨rfl, hbx⟩
      have HB3 := Lib.hid (HB2.out.trans (hbx.mono HB2.out.size))
      have d3 := (HK.out w3 HB3.out).2.2
      clear hbx d2
      go_wp2_with (first
        | ((with_reducible show wpList _ _ _ ((⟨some 65, _, _, _, _, _⟩ : Oper) :: _) _ _); refine wpList_want (by rfl) ?_; refine wpList_run (o := ⟨some 65, _, _, _, _, _⟩) (.bool false) (by rfl) (by rw [exec_neq_ref _ _ _ _ (by rfl) 0 0 0 0 (by rfl) (by rfl)]; rfl) ?_)
        | fail)
      refine (fhad_no none (HK.out w3 HB3.out).2.1).mono ?_
      rintro e w3' ⟨rfl, hw⟩
      obtain rfl := hw.symm
      clear hw
      go_wp2_with fail
      exact ⟨⟨1, by omega, rfl, (HK.out w3 HB3.out).1, HH.out.2.trans (HB3.out.mono HH.out.2.size)⟩, by simp [intOf]⟩
    · obtain rfl : k = 1 := by omega
      have d0 : wr.cell? ⟨w.heap.size + 1 + 1, 1, none⟩ = some (.pointer (some ⟨w.heap.size + 1, 0, none⟩)) := hN.all.at_ 1 rfl
      have hk1 : ∀ w', Below wr.heap.size wr w' → FNoneAt w w' r ∧ NoFetch (some ⟨w.heap.size + 1, 0, none⟩) w' ∧ w'.cell? ⟨w.heap.size + 1 + 1, 1, none⟩ = some (.pointer (some ⟨w.heap.size + 1, 0, none⟩)) := fun w' hw' => ⟨hN.below hw', .inr ⟨_, rfl, (hN.below hw').fet⟩, (hN.below hw').all.at_ 1 rfl⟩
      have HK := Lib.hid hk1
      have HH := Lib.hid (And.intro hN hB)
      clear hN hB hk1 k2 hk
      go_wp2_with fail
      refine (flacks_no (some ⟨w.heap.size + 1, 0, none⟩) 1 (HK.out wr (Below.refl _ _)).2.1).mono ?_
      rintro e w1 ⟨rfl, hb1⟩
      have HB1 := Lib.hid hb1
      clear hb1 d0
      go_wp2_with fail
      have hC0 : Below wr.heap.size wr w1.drew := HB1.out.drew
      refine wp_region_tree (Below wr.heap.size wr) [] (PlanT.takes [0, 1, 2] (PlanT.takes [3, 4] (.opt 5 (PlanT.takes [6, 7, 8, 9, 10] .done) .no))) (by kernel_rfl) (by kernel_rfl) (hC0) ?_
      refine wpTree_pure _ _ _ (by rfl) (by rfl) ?_
      dsimp only [List.filterMap, List.getElem?_cons_zero, List.getElem?_cons_succ]
      repeat (go_big_quiet_step (fail))
      refine wpQuiet_nil ?_
      refine wpTree_takeL _ _ _ (by rfl) (by rfl) (hC0) ?_
      dsimp only [List.filterMap, List.getElem?_cons_zero, List.getElem?_cons_succ]
      (refine wpQuiet_load_cell (fun w' hw' => (HK.out w' hw').2.2) (by rfl) _ _ (by rfl) (by rfl) _ Tryd.underlying24 (by rfl) ?_; simp only [Act.put, List.setIfInBounds_toArray, List.set_cons_zero, List.set_cons_succ])
      (refine wpQuiet_load_blk (fun w' hw' => (HK.out w' hw').1.ref) (by rfl) _ _ (by rfl) (by rfl) _ Tryd.underlying23 (by rfl) (size_ref) (by rfl) ?_; simp only [Act.put, List.setIfInBounds_toArray, List.set_cons_zero, List.set_cons_succ])
      refine wpQuiet_nil ?_
      refine wpTree_one _ rfl ?_
      go_wp2_with fail
      refine (fPut_no (some ⟨w.heap.size + 1, 0, none⟩) r _ (HK.out _ hC0).2.1).mono ?_
      rintro e w2 ⟨rfl, hbx⟩
      have hC2 : Below wr.heap.size wr w2 := hC0.trans (hbx.mono hC0.size)
      have HB2 := Lib.hid hC2
      clear hbx hC0 HB1
      go_wp2_with fail
      refine TreeQ.in_ hC2 ?_
      refine wpTree_pure _ _ _ (by rfl) (by rfl) ?_
      dsimp only [List.filterMap, List.getElem?_cons_zero, List.getElem?_cons_succ]
      repeat (go_big_quiet_step (fail))
      refine wpQuiet_nil ?_
      refine wpTree_done ?_
      clear hC2
      have d2 := (HK.out w2 HB2.out).2.2
      go_wp2_with fail
      refine (fready_no (some ⟨w.heap.size + 1, 0, none⟩) (HK.out w2 HB2.out).2.1).mono ?_
      rintro e w2' ⟨rfl, hw⟩
      obtain rfl := hw.symm
      clear hw
      go_wp2_with fail
      refine (froot_no (some ⟨w.heap.size + 1, 0, none⟩) (HK.out w2 HB2.out).2.1).mono ?_
      rintro e w3 ⟨rfl, hbx⟩
      have HB3 := Lib.hid (HB2.out.trans (hbx.mono HB2.out.size))
      have d3 := (HK.out w3 HB3.out).2.2
      clear hbx d2
      go_wp2_with (first
        | ((with_reducible show wpList _ _ _ ((⟨some 65, _, _, _, _, _⟩ : Oper) :: _) _ _); refine wpList_want (by rfl) ?_; refine wpList_run (o := ⟨some 65, _, _, _, _, _⟩) (.bool false) (by rfl) (by rw [exec_neq_ref _ _ _ _ (by rfl) 0 0 0 0 (by rfl) (by rfl)]; rfl) ?_)
        | fail)
      refine (fhad_no (some ⟨w.heap.size + 1, 0, none⟩) (HK.out w3 HB3.out).2.1).mono ?_
      rintro e w3' ⟨rfl, hw⟩
      obtain rfl := hw.symm
      clear hw
      go_wp2_with fail
      exact ⟨⟨2, by omega, rfl, (HK.out w3 HB3.out).1, HH.out.2.trans (HB3.out.mono HH.out.2.size)⟩, by simp [intOf]⟩
end Go.Proofs.YthfdjemlibecgaaDoor

/- FetchNone: for every input the law returns true and the argument reads as it did. Condition: the table of Go's library is as its initialiser lays it (tied to the program's text by the card). -/
namespace Go.Proofs.YthfdjemlibecgaaDoor
open Go.ChangeShapes Go.WideShapes Go.ChangeAt Go.RowKit
theorem fetchNone_args (x : refSh.T) (cs : List Value) (W : World) (hi : Sh.Is W refSh x cs) (hT : Tab W) :
    Calls Tryd.prog 3 #[.agg cs.toArray] W fun e w' => e = .returned (.bool true) ∧ Below W.heap.size W w' := by
  obtain rfl := refSh_is hi
  exact fetchNone_law x W hT
set_option maxRecDepth 100000 in
theorem fetchNone_lifted (os : Os) (started : os.Started) (H : Type) (enc : TypeId × Value → H) :
    ReturnsInHanded {} Tryd.checked os 3 .any (fun w args => (Rows.fetchNoneSpec.pre enc Tryd.prog Tryd.f3 [] false w args ∧ laidMetH Tryd.prog laid1 w) ∧ sizedMet enc Tryd.prog Tryd.f3 (OpenSpec.ofChange Rows.fetchNoneSpec) false w args) (Rows.fetchNoneSpec.post enc Tryd.prog Tryd.f3 false true false false) := by
  refine returnsInHanded_of_change_and (C := Tryd.checked) (X := fun w _ => laidMetH Tryd.prog laid1 w) (fun _ _ _ hh h => h.of_heap hh) Tryd.own started (by kernel_rfl) Tryd.func3
    (ChangeSpec.witness_shaped (enc := enc) (C := Tryd.checked) (os := os) (X := fun w _ => laidMetH Tryd.prog laid1 w) false (World.doorLaid Tryd.prog 400 os) #[.agg #[.int .i64 0, .int .i64 0]] 8 rfl (World.shaped_of_RefB (by kernel_rfl) (by kernel_rfl)) (by kernel_rfl) (by kernel_rfl) (by kernel_rfl) (door_met os _)) ?_
  intro W base args ds gs before hval0 hW _ _ hL _
  have hT : Tab W := of_laid hL
  have hval : ∀ (j : Nat) t v, Tryd.f3.params[j]? = some t → args[j]? = some v → Value.okWide Tryd.prog W .any base t v := hval0
  have hW' := hW
  obtain ⟨p, q, hA0, hV, rfl, hfz, hnd⟩ := hW
  have hA : DataW.TrodAll enc Tryd.prog W 0 (fun _ => true) true Tryd.f3.params.toList args.toList ds p := hA0
  rw [Tryd.params3] at hA hval
  obtain ⟨v0, d0, rfl, rfl, h0⟩ := trodAll_one hA
  obtain ⟨rfl, rfl⟩ := trodVars_none hV
  have h0k := h0
  obtain ⟨x, hx0⟩ := Sh.open_ (P := Tryd.prog) refSh (by kernel_rfl) h0
  obtain ⟨cs, rfl, hi⟩ := arg_agg Tryd.underlying23 rfl (hval 0 23 v0 rfl rfl) hx0
  clear hA0 hval0
  simp only [List.append_nil] at hW'
  have hlt : ∀ x ∈ p, x.block < W.heap.size := fun x hx => by simpa using hW'.lt x hx
  refine (fetchNone_args x cs W hi hT).mono fun e W' ⟨he, hw⟩ => ?_
  subst he
  refine ⟨_, rfl, _, _, _, [], p, [], hW', ?_, ?_, rfl, hw.frame _, fun h => by cases h⟩
  · exact trodAll_mk1 (shut_bool Tryd.underlying4 true)
  · exact trodAll_mk1 (Below.trod Tryd.laidOut (by kernel_rfl) (of_decide_eq_true (by kernel_rfl)) h0k hw (fun x hx => hlt x (by simpa using hx)))
theorem fetchNone_holds : Rows.FetchNoneSaid :=
  OpenClaim.holds_of_wide 3 Tryd.f3 rfl rfl rfl rfl rfl rfl rfl ⟨rfl, rfl, rfl, rfl, rfl⟩ rfl rfl rfl rfl rfl (by kernel_rfl) Tryd.func3 (by kernel_rfl)
    (of_decide_eq_true (by kernel_rfl)) (by unfold Func.isWrapper; rw [if_neg (by decide +kernel)]; exact ⟨rfl, rfl⟩)
    (fun os started H enc _ => fetchNone_lifted os started H enc)
theorem fetchNone_card : Rows.FetchNoneCardSaid :=
  Claim7.holds_tied_plain_at .later [] [.data] true Rows.fetchNoneCard.stood.harness false
    fetchNone_holds (fun _ h => by cases h) (by kernel_rfl) (fun _ h => by cases h) fetchNone_row_tie rfl ⟨rfl, rfl⟩ (by kernel_rfl) rfl
    (fun f fn hf hfn => by
      obtain rfl : f = 3 := Option.some.inj ((show Tryd.prog.funcNamed Rows.fetchNoneRow.func = some 3 by kernel_rfl).symm.trans hf) |>.symm
      obtain rfl : fn = Tryd.f3 := (Option.some.inj (Tryd.func3.symm.trans hfn)).symm
      exact ⟨by kernel_rfl, fun j t ht => by
        rw [Tryd.params3] at ht
        have hm : t ∈ [23] := by simpa using Array.mem_of_getElem? ht
        have hall : ([23].all fun u => !Tryd.prog.wantsStandIn u) = true := by kernel_rfl
        exact (show Tryd.prog.wantsStandIn t = false by simpa using List.all_eq_true.1 hall t hm)⟩)
    (by kernel_rfl)
end Go.Proofs.YthfdjemlibecgaaDoor
