/- What a ref names on a grid's disk: the grid's there. Conditions: the grid is known; the disk is not out; the ref is of the grid. -/
import Derived.Test.YthfdjemlibecgaaDoorMFetchWhole11
namespace Go
open Go.RowKit
theorem results_row_tmps {P : Program} {fn : Func} {p q r : Tmp} {ty : TypeId} (h : fn.results = #[.cell p ty, .tmp q, .tmp r]) (tmps : Array Value) (w : World) (g : Nat) (t : TypeId) (cs : Array Value) (d : TypeDesc)
    (hp : tmps.getD p undef = .pointer (some ⟨g, 0, none⟩)) (hg : Blk w g t cs)
    (hu : P.underlying ty = some d) (hd : (match d with | .struct _ | .array _ _ => true | _ => false) = true) (hi : (P.info? ty).map (·.size) = some cs.size) :
    (results fn tmps).run P w = .ok (.tuple #[.agg cs, tmps.getD q undef, tmps.getD r undef]) w := by
  have hp' : tmps[p]?.getD undef = .pointer (some ⟨g, 0, none⟩) := by simpa using hp
  simp [results, h, hp', asAddr, run_loadVar_row w g t ty cs (0, 0) d hg hu hd hi]
end Go
namespace Go.Proofs.YthfdjemlibecgaaDoor
open Go.RowKit
def gbc (b : GBT) (A : Option Addr) (c : Nat) (B : Option Addr) (e : Nat) : Array Value := #[.int .i64 b.1, .int .i64 b.2.1.1, .int .i64 b.2.1.2.1, .slice A b.2.2.1.length c, .slice B b.2.2.2.1.length e]
theorem zeroGBrun (w : World) : (zeroValue 46).run Tryd.prog w = .ok (.agg #[.int .i64 0, .int .i64 0, .int .i64 0, .slice none 0 0, .slice none 0 0]) w := by kernel_rfl
/-- A block and its bytes are told. -/
def GBTold (o : Option GBT) (raw : List UInt8) (w0 : World) (v1 v2 : Value) (w : World) : Prop :=
  ∃ A c B e C, v1 = .agg (gbc (o.getD GB.none_) A c B e) ∧ v2 = .slice C (if o.isSome then raw else []).length (if o.isSome then raw else []).length ∧
    Refs w A (o.getD GB.none_).2.2.1 ∧ Bytes w B (o.getD GB.none_).2.2.2.1 ∧ (o.getD GB.none_).2.2.1.length ≤ c ∧ (o.getD GB.none_).2.2.2.1.length ≤ e ∧ e ≤ 9223372036854775807 ∧
    (o.isSome = true → ∃ g, C = some ⟨g, 0, none⟩ ∧ w0.heap.size ≤ g ∧ Blk w g 5 (raw.map u8v).toArray) ∧ (∀ ad, A = some ad → w0.heap.size ≤ ad.block) ∧ ∀ ad, B = some ad → w0.heap.size ≤ ad.block
theorem GBTold.none_ (raw : List UInt8) (w0 w : World) : GBTold none raw w0 (.agg zeroGB) (.slice none 0 0) w :=
  ⟨none, 0, none, 0, none, rfl, rfl, fun h => absurd h (by simp [GB.none_]), Reads.nil _ _, Nat.le_refl _, Nat.le_refl _, by omega, (fun h => by cases h), (fun _ e => by cases e), (fun _ e => by cases e)⟩
theorem GBTold.below {o : Option GBT} {raw : List UInt8} {w0 w w' : World} {v1 v2 : Value} (h : GBTold o raw w0 v1 v2 w) (k : Below w.heap.size w w') : GBTold o raw w0 v1 v2 w' := by
  obtain ⟨A, c, B, e, C, h1, h2, h3, h4, h5, h6, h7, h8, h9⟩ := h
  refine ⟨A, c, B, e, C, h1, h2, h3.below k, Bytes.below h4 k, h5, h6, h7, fun hs => ?_, h9⟩
  obtain ⟨g, e1, e2, e3⟩ := h8 hs
  exact ⟨g, e1, e2, e3.below k e3.lt⟩
section
variable {w : World} {q : GPl} {g : Grd} {d : Dsk} {f : Option Fus}
set_option maxRecDepth 100000 in
set_option maxHeartbeats 4000000 in
theorem gthere_any (h : GridR w q g d f) (hq : d.isOut f = false) (r : RefT) (hr : g.of r = true) :
    Calls Tryd.prog 133 #[.pointer (some ⟨q.gg, 0, none⟩), .agg #[.int .i64 r.1, .int .i64 r.2.1]] w fun e w' => ∃ v1 v2, e = .returned (.tuple #[v1, v2, .bool (gthere d r).isSome]) ∧ GBTold (gthere d r) (gblk d r.1) w v1 v2 w' ∧ Below w.heap.size w w' := by
  obtain ⟨s1, s2, s3, s4⟩ := Grd.of_spec hr
  have h512 := h.ok.h512
  have hroom := h.ok.room
  obtain ⟨wv, hb⟩ := h.blk
  have hz := zeroGBrun
  have hB := ((Below.refl w.heap.size w).alloc (Nat.le_refl _) (.cells #[.int .i64 r.1, .int .i64 r.2.1] 23)).alloc (by simp) (.cells #[.int .i64 0, .int .i64 0, .int .i64 0, .slice none 0 0, .slice none 0 0] 46)
  have hbr := (Blk.new w 23 #[.int .i64 r.1, .int .i64 r.2.1]).alloc (.cells #[.int .i64 0, .int .i64 0, .int .i64 0, .slice none 0 0, .slice none 0 0] 46)
  have hbz := Blk.new' (w.alloc (.cells #[.int .i64 r.1, .int .i64 r.2.1] 23)) 46 #[.int .i64 0, .int .i64 0, .int .i64 0, .slice none 0 0, .slice none 0 0] (n := w.heap.size + 1) (by simp)
  have hgl : (gblk d r.1).length = 1024 := by
    unfold gblk gplace
    rw [List.length_take, List.length_drop, h.dk.ok.len]; omega
  have hrd : d.read f (gplace r.1) 4 = (gblk d r.1, 0) := by
    unfold Dsk.read
    rw [if_neg (by rw [hq]; simp), if_neg (by unfold gplace; omega)]
    rfl
  have H0 := Lib.hid (And.intro h (And.intro hB (And.intro hb (And.intro hbr (And.intro hbz (And.intro hgl hrd))))))
  have HS := Lib.hid (And.intro s1 (And.intro s2 h512))
  clear h hB hb hbr hbz hgl hrd s1 s2 s3 s4 h512 hroom hq hr
  go_enter Tryd.func133, Tryd.ntmps133
  go_wp2_with fail
  generalize (w.alloc (.cells #[.int .i64 r.1, .int .i64 r.2.1] 23)).alloc (.cells #[.int .i64 0, .int .i64 0, .int .i64 0, .slice none 0 0, .slice none 0 0] 46) = w1 at H0 ⊢
  have hC0 : Below w1.heap.size w1 w1.drew := (Below.refl _ _).drew
  have HG : Hid (∀ w', Below w1.heap.size w1 w' → GridR w' q g d f ∧ w'.cell? ⟨q.gg, 0, none⟩ = some (.pointer (some ⟨q.p.gd, 0, none⟩)) ∧ w'.cell? ⟨w.heap.size, 0, none⟩ = some (.int .i64 r.1)) := Lib.hid fun w' hw' => by
    have k := H0.out.2.1.trans (hw'.mono H0.out.2.1.size)
    exact ⟨H0.out.1.below k, (H0.out.2.2.1.below k H0.out.2.2.1.lt).at_ 0 rfl, (H0.out.2.2.2.1.below hw' H0.out.2.2.2.1.lt).at_ 0 rfl⟩
  refine wp_region_tree (Below w1.heap.size w1) [] (PlanT.takes [0, 1, 2, 4] (PlanT.takes [3, 5] (.opt 6 (.opt 7 (PlanT.takes [8, 9, 10, 11, 12] .done) .no) .no))) (by kernel_rfl) (by kernel_rfl) (hC0) ?_
  refine wpTree_pure _ _ _ (by rfl) (by rfl) ?_
  dsimp only [List.filterMap, List.getElem?_cons_zero, List.getElem?_cons_succ]
  repeat (go_big_quiet_step (fail))
  refine wpQuiet_nil ?_
  refine wpTree_takeL _ _ _ (by rfl) (by rfl) (hC0) ?_
  dsimp only [List.filterMap, List.getElem?_cons_zero, List.getElem?_cons_succ]
  (refine wpQuiet_load_cell (fun w' hw' => (HG.out w' hw').2.1) (by rfl) _ _ (by rfl) (by rfl) _ Tryd.underlying41 (by rfl) ?_; simp only [Act.put, List.setIfInBounds_toArray, List.set_cons_zero, List.set_cons_succ])
  (refine wpQuiet_load_cell (fun w' hw' => (HG.out w' hw').2.2) (by rfl) _ _ (by rfl) (by rfl) _ Tryd.underlying3 (by rfl) ?_; simp only [Act.put, List.setIfInBounds_toArray, List.set_cons_zero, List.set_cons_succ])
  refine wpQuiet_nil ?_
  refine wpTree_one _ rfl ?_
  go_wp2_with fail
  refine (gplace_any r.1 HS.out.1 (by have := HS.out.2; omega) _).mono ?_
  rintro e w2 ⟨rfl, hw2⟩
  have hC1 : Below w1.heap.size w1 w2 := by rw [hw2]; exact hC0
  clear hw2 hC0
  go_wp2_with fail
  refine TreeQ.in_ hC1 ?_
  refine wpTree_one _ rfl ?_
  go_wp2_with fail
  have hg2 := (HG.out _ hC1).1
  have hR := read_all (gplace r.1) 4 hg2.dk.dr hg2.dk.fr hg2.dk.ok
  rw [H0.out.2.2.2.2.2.2] at hR
  refine hR.mono ?_
  rintro e w3 ⟨C, rfl, (⟨-, gr, rfl, hgr, hraw⟩ | ⟨h0, -⟩), hbx⟩
  case inr => exact absurd rfl h0
  rw [H0.out.2.2.2.2.2.1]
  have hC2 := hC1.trans (hbx.mono hC1.size)
  have H3 := Lib.hid (And.intro hraw (And.intro hC2 (show w.heap.size + 2 ≤ gr from by have h1 := H0.out.2.2.2.2.1.lt; have h2 := hC1.size; omega)))
  clear hR hg2 hC1 hbx hraw hgr
  go_wp2_with fail
  refine TreeQ.in_ hC2 ?_
  refine wpTree_pure _ _ _ (by rfl) (by rfl) ?_
  dsimp only [List.filterMap, List.getElem?_cons_zero, List.getElem?_cons_succ]
  repeat (go_big_quiet_step (fail))
  refine wpQuiet_nil ?_
  refine wpTree_done ?_
  clear hC2
  go_wp2_with fail
  refine (gbRead_any (some ⟨gr, 0, none⟩) 1024 1024 (gblk d r.1) H0.out.2.2.2.2.2.1.symm (Nat.le_refl _) (by omega) w3 H3.out.1.bytes).mono ?_
  rintro e w4 ⟨A2, c2, B2, d2, rfl, hr2, hb2, hl2, hm2, hd2, hbx, hfA, hfB⟩
  obtain ⟨rd, hrd⟩ : ∃ x, x = GB.read (gblk d r.1) := ⟨_, rfl⟩
  rw [← hrd] at hr2 hb2 hl2 hm2 ⊢
  have HRD := Lib.hid hrd
  have hw3 : w.heap.size + 2 ≤ w3.heap.size := by have h1 := H0.out.2.2.2.2.1.lt; have h2 := H3.out.2.1.size; omega
  have HF := Lib.hid (And.intro (fun ad e => Nat.le_trans hw3 (hfA ad e)) (fun ad e => Nat.le_trans hw3 (hfB ad e)))
  clear hfA hfB hw3
  have hC3 := H3.out.2.1.trans (hbx.mono H3.out.2.1.size)
  have hr34 := H3.out.1.below hbx H3.out.1.lt
  have H4 := Lib.hid (And.intro hr2 (And.intro hb2 (And.intro hl2 (And.intro hm2 (And.intro hd2 (And.intro hC3 hr34))))))
  clear hrd hr2 hb2 hl2 hm2 hd2 hbx hC3 hr34
  obtain ⟨code, b⟩ := rd
  simp only at H4 ⊢
  by_cases hc : code = 0
  · subst hc
    by_cases he : b.2.1 = r
    · have HT : Hid (gthere d r = some b) := Lib.hid (by unfold gthere; rw [← HRD.out]; exact if_pos ⟨rfl, he⟩)
      have HN : Hid ((!((b.2.1.1 == r.1) && (b.2.1.2.1 == r.2.1))) = false) := Lib.hid (by rw [he]; simp)
      clear he
      go_wp2_with (first
        | ((with_reducible show wpList _ _ _ ((⟨none, _, _, _, _, _⟩ : Oper) :: _) _ _); refine wpList_store_blk (o := ⟨none, _, _, _, _, _⟩) ((Blk.new w4 46 #[.int .i64 0, .int .i64 0, .int .i64 0, .slice none 0 0, .slice none 0 0])) (by rfl) _ _ _ (by rfl) (by rfl) (gbc b A2 c2 B2 d2) (by rfl) (sizeGB) (by rfl) (by rfl) (by simp [gbc, Value.oneCell']) ?_; intro w5 h5 hu5; have hbx := ((Below.refl w4.heap.size w4).alloc (Nat.le_refl _) (.cells #[.int .i64 0, .int .i64 0, .int .i64 0, .slice none 0 0, .slice none 0 0] 46)).upd hu5 (Nat.le_refl _); have hC5 := H4.out.2.2.2.2.2.1.trans (hbx.mono H4.out.2.2.2.2.2.1.size); have hk2 := H0.out.2.2.2.1.below hC5 H0.out.2.2.2.1.lt; have hk3 := H0.out.2.2.2.2.1.below hC5 H0.out.2.2.2.2.1.lt; have hk4 := Lib.hid (And.intro (H4.out.1.below hbx) (And.intro (Bytes.below H4.out.2.1 hbx) (H4.out.2.2.2.2.2.2.below hbx H4.out.2.2.2.2.2.2.lt))); clear hu5 hbx)
        | (((with_reducible show wpList _ _ _ ((⟨some 33, _, _, _, _, _⟩ : Oper) :: _) _ _); refine wpList_want (by rfl) ?_; refine wpList_load_mid (o := ⟨some 33, _, _, _, _, _⟩) (range2 (b := w4.heap.size) (off := 1) (u := .int .i64 b.2.1.1) (v := .int .i64 b.2.1.2.1) (h5.at_ 1 (v := .int .i64 b.2.1.1) rfl) (h5.at_ 2 (v := .int .i64 b.2.1.2.1) rfl)) (by rfl) _ _ (by rfl) (by rfl) _ Tryd.underlying23 (by rfl) size_ref (by rfl) ?_))
        | ((with_reducible show wpList _ _ _ ((⟨some 34, _, _, _, _, _⟩ : Oper) :: _) _ _); refine wpList_want (by rfl) ?_; refine wpList_load_blk (o := ⟨some 34, _, _, _, _, _⟩) (hk2) (by rfl) _ _ (by rfl) (by rfl) _ Tryd.underlying23 (by rfl) (size_ref) (by rfl) ?_)
        | ((with_reducible show wpList _ _ _ ((⟨some 35, _, _, _, _, _⟩ : Oper) :: _) _ _); refine wpList_want (by rfl) ?_; refine wpList_run (o := ⟨some 35, _, _, _, _, _⟩) _ (by rfl) (exec_neq_ref _ _ _ _ (by rfl) b.2.1.1 b.2.1.2.1 r.1 r.2.1 (by rfl) (by rfl)) ?_; rw [HN.out])
        | ((with_reducible show wpList _ _ _ ((⟨some 38, _, _, _, _, _⟩ : Oper) :: _) _ _); refine wpList_load_blk (o := ⟨some 38, _, _, _, _, _⟩) (h5) (by rfl) _ _ (by rfl) (by rfl) _ Tryd.underlying46 (by rfl) (sizeGB) (by rfl) ?_)
        | ((with_reducible show wpList _ _ _ ((⟨none, _, _, _, _, _⟩ : Oper) :: _) _ _); refine wpList_store_blk (o := ⟨none, _, _, _, _, _⟩) (hk3) (by rfl) _ _ _ (by rfl) (by rfl) (gbc b A2 c2 B2 d2) (by rfl) (sizeGB) (by rfl) (by rfl) (by simp [gbc, Value.oneCell']) ?_; intro w6 h6 hu6)
        | fail)
      refine bodyPost_ret (results_row_tmps (by rfl) _ _ (w.heap.size + 1) _ _ _ (by rfl) h6 Tryd.underlying46 (by rfl) sizeGB) rfl ?_
      have hB6 := (H0.out.2.1.trans (hC5.mono H0.out.2.1.size)).upd hu6 (Nat.le_succ _)
      rw [HT.out]
      have k6 : Near [w.heap.size + 1] w5 w6 := Near.upd hu6 (List.mem_singleton_self _)
      have hA : ∀ ad, A2 = some ad → ad.block ≠ w.heap.size + 1 := fun ad e => by have := HF.out.1 ad e; omega
      have hBn : ∀ ad, B2 = some ad → ad.block ≠ w.heap.size + 1 := fun ad e => by have := HF.out.2 ad e; omega
      have hl : (gblk d r.1).length = 1024 := H0.out.2.2.2.2.2.1
      refine ⟨_, _, rfl, ⟨A2, c2, B2, d2, some ⟨gr, 0, none⟩, rfl, ?_, Refs.of (Reads.upd (Refs.reads hk4.out.1) hu6 hA), Reads.upd hk4.out.2.1 hu6 hBn, H4.out.2.2.1, H4.out.2.2.2.1, H4.out.2.2.2.2.1, fun _ => ⟨gr, rfl, by have := H3.out.2.2; omega, hk4.out.2.2.near k6 (by rw [List.mem_singleton]; have := H3.out.2.2; omega)⟩, fun ad e => by have := HF.out.1 ad e; omega, fun ad e => by have := HF.out.2 ad e; omega⟩, hB6⟩
      show Value.slice _ 1024 1024 = Value.slice _ (gblk d r.1).length (gblk d r.1).length
      rw [hl]
    · have HT : Hid (gthere d r = none) := Lib.hid (by unfold gthere; rw [← HRD.out]; exact if_neg fun x => he x.2)
      have HN : Hid ((!((b.2.1.1 == r.1) && (b.2.1.2.1 == r.2.1))) = true) := Lib.hid (by
        rw [Bool.not_eq_true', Bool.and_eq_false_iff]
        by_cases h1 : b.2.1.1 = r.1
        · right; rw [beq_eq_false_iff_ne]; exact fun h2 => he (Prod.ext h1 (Prod.ext h2 rfl))
        · left; rw [beq_eq_false_iff_ne]; exact h1)
      clear he
      go_wp2_with (first
        | ((with_reducible show wpList _ _ _ ((⟨none, _, _, _, _, _⟩ : Oper) :: _) _ _); refine wpList_store_blk (o := ⟨none, _, _, _, _, _⟩) ((Blk.new w4 46 #[.int .i64 0, .int .i64 0, .int .i64 0, .slice none 0 0, .slice none 0 0])) (by rfl) _ _ _ (by rfl) (by rfl) (gbc b A2 c2 B2 d2) (by rfl) (sizeGB) (by rfl) (by rfl) (by simp [gbc, Value.oneCell']) ?_; intro w5 h5 hu5; have hbx := ((Below.refl w4.heap.size w4).alloc (Nat.le_refl _) (.cells #[.int .i64 0, .int .i64 0, .int .i64 0, .slice none 0 0, .slice none 0 0] 46)).upd hu5 (Nat.le_refl _); have hC5 := H4.out.2.2.2.2.2.1.trans (hbx.mono H4.out.2.2.2.2.2.1.size); have hk2 := H0.out.2.2.2.1.below hC5 H0.out.2.2.2.1.lt; have hk3 := H0.out.2.2.2.2.1.below hC5 H0.out.2.2.2.2.1.lt; have hk4 := Lib.hid (And.intro (H4.out.1.below hbx) (And.intro (Bytes.below H4.out.2.1 hbx) (H4.out.2.2.2.2.2.2.below hbx H4.out.2.2.2.2.2.2.lt))); clear hu5 hbx)
        | (((with_reducible show wpList _ _ _ ((⟨some 33, _, _, _, _, _⟩ : Oper) :: _) _ _); refine wpList_want (by rfl) ?_; refine wpList_load_mid (o := ⟨some 33, _, _, _, _, _⟩) (range2 (b := w4.heap.size) (off := 1) (u := .int .i64 b.2.1.1) (v := .int .i64 b.2.1.2.1) (h5.at_ 1 (v := .int .i64 b.2.1.1) rfl) (h5.at_ 2 (v := .int .i64 b.2.1.2.1) rfl)) (by rfl) _ _ (by rfl) (by rfl) _ Tryd.underlying23 (by rfl) size_ref (by rfl) ?_))
        | ((with_reducible show wpList _ _ _ ((⟨some 34, _, _, _, _, _⟩ : Oper) :: _) _ _); refine wpList_want (by rfl) ?_; refine wpList_load_blk (o := ⟨some 34, _, _, _, _, _⟩) (hk2) (by rfl) _ _ (by rfl) (by rfl) _ Tryd.underlying23 (by rfl) (size_ref) (by rfl) ?_)
        | ((with_reducible show wpList _ _ _ ((⟨some 35, _, _, _, _, _⟩ : Oper) :: _) _ _); refine wpList_want (by rfl) ?_; refine wpList_run (o := ⟨some 35, _, _, _, _, _⟩) _ (by rfl) (exec_neq_ref _ _ _ _ (by rfl) b.2.1.1 b.2.1.2.1 r.1 r.2.1 (by rfl) (by rfl)) ?_; rw [HN.out])
        | ((with_reducible show wpList _ _ _ ((⟨none, _, _, _, _, _⟩ : Oper) :: _) _ _); refine wpList_store_blk (o := ⟨none, _, _, _, _, _⟩) (hk3) (by rfl) _ _ _ (by rfl) (by rfl) (zeroGB) (by rfl) (sizeGB) (by rfl) (by rfl) (by exact zeroGB_one) ?_; intro w6 h6 hu6)
        | fail)
      refine bodyPost_ret (results_row_tmps (by rfl) _ _ (w.heap.size + 1) _ _ _ (by rfl) h6 Tryd.underlying46 (by rfl) sizeGB) rfl ?_
      have hB6 := (H0.out.2.1.trans (hC5.mono H0.out.2.1.size)).upd hu6 (Nat.le_succ _)
      rw [HT.out]
      exact ⟨_, _, rfl, GBTold.none_ _ _ _, hB6⟩
  · have HT : Hid (gthere d r = none) := Lib.hid (by unfold gthere; rw [← HRD.out]; exact if_neg fun x => hc x.1)
    have hcb : (code != 0) = true := by rw [bne_iff_ne]; exact hc
    clear hc
    go_wp2_with (first
      | ((with_reducible show wpList _ _ _ ((⟨none, _, _, _, _, _⟩ : Oper) :: _) _ _); refine wpList_store_blk (o := ⟨none, _, _, _, _, _⟩) ((Blk.new w4 46 #[.int .i64 0, .int .i64 0, .int .i64 0, .slice none 0 0, .slice none 0 0])) (by rfl) _ _ _ (by rfl) (by rfl) (gbc b A2 c2 B2 d2) (by rfl) (sizeGB) (by rfl) (by rfl) (by simp [gbc, Value.oneCell']) ?_; intro w5 h5 hu5; have hbx := ((Below.refl w4.heap.size w4).alloc (Nat.le_refl _) (.cells #[.int .i64 0, .int .i64 0, .int .i64 0, .slice none 0 0, .slice none 0 0] 46)).upd hu5 (Nat.le_refl _); have hC5 := H4.out.2.2.2.2.2.1.trans (hbx.mono H4.out.2.2.2.2.2.1.size); have hk2 := H0.out.2.2.2.1.below hC5 H0.out.2.2.2.1.lt; have hk3 := H0.out.2.2.2.2.1.below hC5 H0.out.2.2.2.2.1.lt; have hk4 := Lib.hid (And.intro (H4.out.1.below hbx) (And.intro (Bytes.below H4.out.2.1 hbx) (H4.out.2.2.2.2.2.2.below hbx H4.out.2.2.2.2.2.2.lt))); clear hu5 hbx)
      | ((with_reducible show wpList _ _ _ ((⟨none, _, _, _, _, _⟩ : Oper) :: _) _ _); refine wpList_store_blk (o := ⟨none, _, _, _, _, _⟩) (hk3) (by rfl) _ _ _ (by rfl) (by rfl) (zeroGB) (by rfl) (sizeGB) (by rfl) (by rfl) (by exact zeroGB_one) ?_; intro w6 h6 hu6)
      | fail)
    refine bodyPost_ret (results_row_tmps (by rfl) _ _ (w.heap.size + 1) _ _ _ (by rfl) h6 Tryd.underlying46 (by rfl) sizeGB) rfl ?_
    have hB6 := (H0.out.2.1.trans (hC5.mono H0.out.2.1.size)).upd hu6 (Nat.le_succ _)
    rw [HT.out]
    exact ⟨_, _, rfl, GBTold.none_ _ _ _, hB6⟩
end
end Go.Proofs.YthfdjemlibecgaaDoor

/- The refs that are reached from one on, depth first, each once. Plain facts. No condition. -/
namespace Go.Proofs.YthfdjemlibecgaaDoor
/-- From a ref on: what is met, and what has been seen then. (The number bounds the depth.) -/
def dfs (kids : RefT → List RefT) : Nat → List RefT → RefT → List RefT × List RefT
  | 0, S, _ => ([], S)
  | n + 1, S, r => if r ∈ S then ([], S) else ((kids r).foldl (fun (p : List RefT × List RefT) k => (p.1 ++ (dfs kids n p.2 k).1, (dfs kids n p.2 k).2)) ([r], S ++ [r]))
/-- The same from a list on. -/
def dfss (kids : RefT → List RefT) (n : Nat) (p : List RefT × List RefT) (l : List RefT) : List RefT × List RefT :=
  l.foldl (fun p k => (p.1 ++ (dfs kids n p.2 k).1, (dfs kids n p.2 k).2)) p
theorem dfs_old {kids : RefT → List RefT} {n : Nat} {S : List RefT} {r : RefT} (h : r ∈ S) : dfs kids (n + 1) S r = ([], S) := by unfold dfs; rw [if_pos h]
theorem dfs_new {kids : RefT → List RefT} {n : Nat} {S : List RefT} {r : RefT} (h : r ∉ S) : dfs kids (n + 1) S r = dfss kids n ([r], S ++ [r]) (kids r) := by
  conv => lhs; unfold dfs
  rw [if_neg h]; rfl
theorem dfss_nil {kids : RefT → List RefT} {n : Nat} {p : List RefT × List RefT} : dfss kids n p [] = p := rfl
theorem dfss_cons {kids : RefT → List RefT} {n : Nat} {p : List RefT × List RefT} {k : RefT} {l : List RefT} : dfss kids n p (k :: l) = dfss kids n (p.1 ++ (dfs kids n p.2 k).1, (dfs kids n p.2 k).2) l := rfl
theorem dfss_pre {kids : RefT → List RefT} {n : Nat} (l : List RefT) : ∀ (A B S : List RefT), dfss kids n (A ++ B, S) l = (A ++ (dfss kids n (B, S) l).1, (dfss kids n (B, S) l).2) := by
  induction l with
  | nil => intro A B S; rfl
  | cons k l ih =>
    intro A B S
    rw [dfss_cons, dfss_cons, List.append_assoc, ih]
theorem dfs_grows {kids : RefT → List RefT} : ∀ (n : Nat) (S : List RefT) (r : RefT), ∃ T, (dfs kids n S r).2 = S ++ T
  | 0, S, r => ⟨[], by simp [dfs]⟩
  | n + 1, S, r => by
    by_cases h : r ∈ S
    · rw [dfs_old h]; exact ⟨[], by simp⟩
    · rw [dfs_new h]
      have key : ∀ (l : List RefT) (p : List RefT × List RefT), ∃ T, (dfss kids n p l).2 = p.2 ++ T := by
        intro l
        induction l with
        | nil => intro p; exact ⟨[], by simp [dfss_nil]⟩
        | cons k l ih =>
          intro p
          rw [dfss_cons]
          obtain ⟨T1, h1⟩ := dfs_grows (kids := kids) n p.2 k
          obtain ⟨T2, h2⟩ := ih (p.1 ++ (dfs kids n p.2 k).1, (dfs kids n p.2 k).2)
          rw [h2, h1]
          exact ⟨T1 ++ T2, by simp⟩
      obtain ⟨T, hT⟩ := key (kids r) ([r], S ++ [r])
      rw [hT]
      exact ⟨[r] ++ T, by simp⟩
/-- How many of a universe have not been seen. -/
def unseen (U S : List RefT) : Nat := (U.filter fun u => decide (u ∉ S)).length
theorem unseen_mono {U S T : List RefT} (h : ∀ x ∈ S, x ∈ T) : unseen U T ≤ unseen U S := by
  unfold unseen
  rw [← List.countP_eq_length_filter, ← List.countP_eq_length_filter]
  exact List.countP_mono_left fun x _ hx => by simp only [decide_eq_true_eq] at hx ⊢; exact fun hs => hx (h x hs)
theorem unseen_less {U S : List RefT} {r : RefT} (hr : r ∈ U) (h : r ∉ S) : unseen U (S ++ [r]) < unseen U S := by
  unfold unseen
  induction U with
  | nil => cases hr
  | cons x U ih =>
    rw [List.filter_cons, List.filter_cons]
    rcases List.mem_cons.1 hr with rfl | hr'
    · have h1 := unseen_mono (U := U) (S := S) (T := S ++ [r]) (fun x hx => List.mem_append_left _ hx)
      unfold unseen at h1
      simp [h]
      simp only [decide_not] at h1
      simpa using Nat.lt_succ_of_le h1
    · have := ih hr'
      by_cases hx : x ∈ S
      · simp only [List.mem_append, hx, true_or, not_true_eq_false, decide_false, Bool.false_eq_true, if_false]
        simpa using this
      · by_cases hxr : x = r
        · subst hxr
          simp [hx]
          have h1 := unseen_mono (U := U) (S := S) (T := S ++ [x]) (fun y hy => List.mem_append_left _ hy)
          unfold unseen at h1
          simpa using Nat.lt_succ_of_le h1
        · simp only [List.mem_append, hx, hxr, List.mem_singleton, or_self, not_false_eq_true, decide_true, if_true, List.length_cons]
          simpa using this
end Go.Proofs.YthfdjemlibecgaaDoor

/- A range over a function that keeps maps of its own and yields a fixed row of items. Plain facts over any program. No condition. -/
namespace Go
open Go.RowKit
section
variable {F : Fence} {n : Nat} {P : Program}
/-- The function's part: it may write what is no cells, where it came later. -/
def RowOfK (F : Fence) (n : Nat) (P : Program) (gf : Nat) (lb : Array Value) (encs : Nat → Array Value) (I : Nat → World → Prop) (N : Nat) : Prop :=
  ∀ (l : Nat) (J : Nat → World → Prop) (Jx : World → Prop) (W : World), (∀ k W, J k W → I k W) → (∀ k W1 W2, J k W1 → Kept W.heap.size W1 W2 → J k W2) → (∀ W1 W2, Jx W1 → Kept W.heap.size W1 W2 → Jx W2) →
    (∀ k W, J k W → k < N → YieldAt F (n - 1) P l (encs k) W fun e W' => (e = .returned (.bool true) ∧ J (k + 1) W') ∨ (e = .returned (.bool false) ∧ Jx W')) →
    J 0 W → CallsIn F n P gf (#[.func (.yield l) #[] #[]] ++ lb) W fun e W' => (∃ v, e = .returned v) ∧ (J N W' ∨ Jx W')
theorem Kept.refl (B : Nat) (W : World) : Kept B W W := ⟨rfl, rfl, rfl, Nat.le_refl _, fun _ _ _ => rfl, fun _ _ h _ => h⟩
theorem Kept.trans {B : Nat} {W W' W'' : World} (h : Kept B W W') (k : Kept B W' W'') : Kept B W W'' :=
  ⟨k.os.trans h.os, k.tape.trans h.tape, k.output.trans h.output, Nat.le_trans h.size k.size, fun j hj hl => (k.low j hj (Nat.lt_of_lt_of_le hl h.size)).trans (h.low j hj hl), fun j o ho hc => k.cells j o (h.cells j o ho hc) hc⟩
/-- Blocks that came later may be written as well. -/
theorem Kept.new {B g : Nat} {W W' W'' : World} (h : Kept B W W') (u : Upd g W' W'') (hg : W.heap.size ≤ g) (hB : B ≤ g) : Kept B W W'' :=
  ⟨u.os.trans h.os, u.tape.trans h.tape, u.output.trans h.output, by rw [u.size]; exact h.size, fun j hj hl => (u.block j (by omega)).trans (h.low j hj hl), fun j o ho hc => by
    have hj := (Array.getElem?_eq_some_iff.1 ho).1
    exact (u.block j (by omega)).trans (h.cells j o ho hc)⟩
/-- A map may be written. -/
theorem Kept.map {B g : Nat} {W W' : World} {es : Array MapEntry} {c : Nat} (u : Upd g W W') (hm : MapB W g es c) (hB : B ≤ g) : Kept B W W' :=
  ⟨u.os, u.tape, u.output, by rw [u.size]; exact Nat.le_refl _, fun j hj _ => u.block j (by omega), fun j o ho hc => by
    by_cases e : j = g
    · subst e
      have hm : W.heap[j]? = some (.map es c) := hm
      rw [hm] at ho; injection ho with ho; subst ho; cases hc
    · exact (u.block j e).trans ho⟩
theorem wpIn_rangeRowK {g : Operand} {ps : Array Tmp} {assign body : Code} {Q : Exit → Act → World → Prop} {a : Act} {w : World}
    (hro : F.round = none) (h1 : 1 ≤ n) {gf : Nat} {lb : Array Value} (hg : a.eval g = .func (.func gf) #[] lb) (hFg : F.fn gf) (eg : ∀ args w, (callFunc gf args).run P w = .ok (.enter gf args) w)
    (encs : Nat → Array Value) (hps : ∀ k, (encs k).size = ps.size) (N : Nat) (I : Nat → World → Prop) (Ix : Code → World → Prop)
    (hI : ∀ k W W', I k W → Kept w.heap.size W W' → I k W') (hIx : ∀ c W W', Ix c W → Kept w.heap.size W W' → Ix c W') (h0 : I 0 w)
    (hrow : RowOfK F (n - 1) P gf lb encs I N)
    (hround : ∀ l k W, w.heap.size ≤ l → l < W.heap.size → I k W → k < N → assign.wpIn (F.inRound l) (n - 1 - 1) P
      (Exit.then (fun a₁ W₁ => Below W.heap.size W W₁ ∧ ∀ W₂, Kept w.heap.size W₁ W₂ → body.wpIn (F.inRound l) (n - 1 - 1) P (rowPost w.heap.size (I (k + 1)) Ix W₂) a₁ W₂) (fun _ _ _ => False))
      { tmps := (ps.zip (encs k)).foldl (fun t (p, v) => t.setIfInBounds p v) a.tmps, defers := [] } W)
    (hdone : ∀ D W, w.heap.size ≤ D → I N W → W.heap[D]? = some (.deferred (some [])) → Q .normal { a with defers := { target := .collected D, args := #[] } :: a.defers } W)
    (hstop : ∀ D c W, w.heap.size ≤ D → Ix c W → W.heap[D]? = some (.deferred (some [])) → c.wpIn F n P Q { a with defers := { target := .collected D, args := #[] } :: a.defers } W) :
    (Code.rangeFunc g ps assign body).wpIn F n P Q a w := by
  refine wpIn_rangeFunc fun fn hfn => ?_
  rw [hro]
  -- the loop's record, in a state; the two blocks that the loop lays
  let R : LoopState → Option Code → Obj := fun st pe => .loop { state := st, pending := pe, fn, tmps := a.tmps, params := ps, assign, body, defers := w.heap.size }
  let D := w.heap.size
  let l := w.heap.size + 1
  -- what the loop needs of a world, beside the caller's own
  let Bk : LoopState → Option Code → World → Prop := fun st pe W => W.heap[l]? = some (R st pe) ∧ W.heap[D]? = some (.deferred (some []))
  have bklt : ∀ {st pe W}, Bk st pe W → l < W.heap.size := fun h => (Array.getElem?_eq_some_iff.1 h.1).1
  have bkput : ∀ {st pe W} st' pe', Bk st pe W → Bk st' pe' (W.putObj l (R st' pe')) := fun st' pe' h =>
    ⟨World.putObj_heap_same (bklt h), (World.putObj_heap_other (by show D ≠ l; omega)).trans h.2⟩
  have bkput' : ∀ {st pe W} (o : Obj), Bk st pe W → (W.putObj l o).heap[D]? = some (.deferred (some [])) := fun o h => (World.putObj_heap_other (by show D ≠ l; omega)).trans h.2
  have bkbel : ∀ {st pe W W'}, Bk st pe W → Below W.heap.size W W' → Bk st pe W' := fun h k =>
    ⟨(k.block _ (bklt h)).trans h.1, (k.block _ (by have := bklt h; omega)).trans h.2⟩
  have low : ∀ {st pe W}, Bk st pe W → w.heap.size ≤ W.heap.size := fun h => by have := bklt h; omega
  have put : ∀ {st pe W} (o : Obj), Bk st pe W → Kept w.heap.size W (W.putObj l o) := fun o h => Kept.put (by show D ≤ l; omega) h.1 rfl
  -- the world behind the loop's entry
  let W1 := (w.alloc (.deferred (some []))).alloc (R .ready none)
  have e1 : Below w.heap.size w W1 := ((Below.refl _ w).alloc (Nat.le_refl _) _).alloc (by simp) _
  have b1 : Bk .ready none W1 := by
    refine ⟨?_, ?_⟩
    · have h := World.alloc_heap_new (w.alloc (.deferred (some []))) (R .ready none)
      rwa [World.size_alloc] at h
    · exact (Below.heap_alloc _ _ _ (by rw [World.size_alloc]; exact Nat.lt_succ_self _)).trans (World.alloc_heap_new w _)
  have hW1 : W1.heap.size = w.heap.size + 2 := by show ((w.alloc _).alloc _).heap.size = _; rw [World.size_alloc, World.size_alloc]
  have kw : ∀ {W W' : World}, Kept W1.heap.size W W' → Kept w.heap.size W W' := fun k => ⟨k.os, k.tape, k.output, k.size, fun j hj h => k.low j (by omega) h, k.cells⟩
  have bkkept : ∀ {st pe W W'}, Bk st pe W → Kept W1.heap.size W W' → Bk st pe W' := fun h k =>
    ⟨(k.low _ (by rw [hW1]; show w.heap.size + 1 < _; omega) (bklt h)).trans h.1, (k.low _ (by rw [hW1]; show w.heap.size < _; omega) (by have := bklt h; omega)).trans h.2⟩
  refine ⟨l, [{ target := .collected D, args := #[] }], W1, { target := .fn (.func gf) lb, args := #[.func (.yield l) #[] #[]] }, W1, gf, #[.func (.yield l) #[] #[]] ++ lb, W1,
    run_enterLoop_outer _ _ _ _ _, ?_, ?_, ?_, fun _ => h1, ?_⟩
  · simp only [resolve, hg]
    simp [go_sem]
  · intro f' hf'
    simp [Target.leads] at hf'
    exact hf' ▸ hFg
  · simp [invoke, go_sem, eg]
  refine (hrow l (fun k W => I k W ∧ Bk .ready none W) (fun W => ∃ c, Ix c W ∧ Bk .done (some c) W) W1 (fun _ _ h => h.1)
    (fun k W W' h b => ⟨hI k W W' h.1 (kw b), bkkept h.2 b⟩) (fun W W' h b => by obtain ⟨c, hc, hb⟩ := h; exact ⟨c, hIx c W W' hc (kw b), bkkept hb b⟩) ?_ ⟨hI 0 w W1 h0 (Kept.below e1), b1⟩).mono ?_
  · -- a round
    rintro k W ⟨hi, hb⟩ hk
    refine ⟨fn, _, assign, body, run_yield hb.1 (hps k), roundIn_of_wpIn hfn ?_⟩
    refine wpIn_mono (hround l k W (by show D ≤ l; omega) (bklt hb) hi hk) ?_
    rintro e a1 W2 he
    cases e
    case normal =>
      obtain ⟨hB, hbody⟩ := he
      have hb2 := bkbel hb hB
      refine ⟨_, run_beginRound hb2.1 rfl, ?_⟩
      have hb3 := bkput .busy none hb2
      refine wpIn_mono (hbody _ (Kept.put (by show D ≤ l; omega) hb2.1 rfl)) ?_
      rintro e3 a3 W4 hp
      have fin : KeepsFrom w.heap.size (W2.putObj l (R .busy none)) W4 → Bk .busy none W4 := fun hkf => ⟨hkf.same _ _ (by show D ≤ l; omega) hb3.1 rfl, hkf.same _ _ (Nat.le_refl _) hb3.2 rfl⟩
      cases e3 with
      | normal =>
        have hb4 := fin hp.1
        exact ⟨_, _, run_endRound none hb4.1, .inl ⟨rfl, hI _ _ _ hp.2 (put _ hb4), bkput .ready none hb4⟩⟩
      | ret =>
        have hb4 := fin hp.1
        exact ⟨_, _, run_endRound (some .ret) hb4.1, .inr ⟨rfl, .ret, hIx _ _ _ hp.2 (put _ hb4), bkput .done (some .ret) hb4⟩⟩
      | exit i =>
        have hb4 := fin hp.1
        exact ⟨_, _, run_endRound (some (.exit i)) hb4.1, .inr ⟨rfl, .exit i, hIx _ _ _ hp.2 (put _ hb4), bkput .done (some (.exit i)) hb4⟩⟩
      | goto t =>
        have hb4 := fin hp.1
        exact ⟨_, _, run_endRound (some (.goto t)) hb4.1, .inr ⟨rfl, .goto t, hIx _ _ _ hp.2 (put _ hb4), bkput .done (some (.goto t)) hb4⟩⟩
      | panic ch => exact hp.elim
      | outgrown => exact hp.elim
    all_goals exact he.elim
  · -- behind the function
    rintro e W2 ⟨⟨v, rfl⟩, (⟨hi, hb⟩ | ⟨c, hc, hb⟩)⟩
    · exact ⟨none, _, run_endLoop hb.1 (by simp), hdone D _ (Nat.le_refl _) (hI _ _ _ hi (put _ hb)) (bkput' _ hb)⟩
    · exact ⟨some c, _, run_endLoop hb.1 (by simp), hstop D c _ (Nat.le_refl _) (hIx _ _ _ hc (put _ hb)) (bkput' _ hb)⟩
end
end Go

/- A range over a function that keeps blocks of its own and yields a fixed row of items: the body keeps what came since the range began. Plain facts over any program. No condition. -/
namespace Go
open Go.RowKit
section
variable {F : Fence} {n : Nat} {P : Program}
/-- What came from B on and lay there lies there, but what the body calls its own. -/
structure Young (B : Nat) (X : List Nat) (W W' : World) : Prop where
  size : W.heap.size ≤ W'.heap.size
  same : ∀ (k : Nat) (o : Obj), B ≤ k → k ∉ X → W.heap[k]? = some o → W'.heap[k]? = some o
theorem Young.near {B : Nat} {X Y : List Nat} {W W' : World} (h : Near Y W W') (hX : ∀ x ∈ Y, x < B ∨ x ∈ X) : Young B X W W' :=
  ⟨h.size, fun k _ hB hn hk => (h.block k (Array.getElem?_eq_some_iff.1 hk).1 (fun e => (hX k e).elim (fun h => by omega) hn)).trans hk⟩
theorem Young.below {B : Nat} {X : List Nat} {W W' : World} (h : Below W.heap.size W W') : Young B X W W' := ⟨h.size, fun k _ _ _ hk => (h.block k (Array.getElem?_eq_some_iff.1 hk).1).trans hk⟩
theorem Young.trans {B : Nat} {X : List Nat} {W W' W'' : World} (h : Young B X W W') (k : Young B X W' W'') : Young B X W W'' := ⟨Nat.le_trans h.size k.size, fun j o hB hX hj => k.same j o hB hX (h.same j o hB hX hj)⟩
theorem Young.mono {B B' : Nat} {X : List Nat} {W W' : World} (h : Young B X W W') (hB : B ≤ B') : Young B' X W W' := ⟨h.size, fun j o hj hX ho => h.same j o (Nat.le_trans hB hj) hX ho⟩
/-- What the body calls its own grows by what came. -/
def Grown (X X' : List Nat) (W : World) : Prop := ∀ x ∈ X', x ∈ X ∨ W.heap.size ≤ x
theorem Grown.refl (X : List Nat) (W : World) : Grown X X W := fun _ h => .inl h
theorem Grown.trans {X X' X'' : List Nat} {W W' : World} (h : Grown X X' W) (k : Grown X' X'' W') (hs : W.heap.size ≤ W'.heap.size) : Grown X X'' W := fun x hx => (k x hx).elim (h x) fun h => .inr (Nat.le_trans hs h)
theorem Grown.mono {X X' : List Nat} {W W' : World} (h : Grown X X' W') (hs : W.heap.size ≤ W'.heap.size) : Grown X X' W := fun x hx => (h x hx).imp id fun h => Nat.le_trans hs h
theorem Grown.off {X X' : List Nat} {W : World} {x : Nat} (h : Grown X X' W) (hx : x ∉ X) (hl : x < W.heap.size) : x ∉ X' := fun hm => (h x hm).elim hx fun h => by omega
theorem Young.then_ {B : Nat} {X X' : List Nat} {W W' W'' : World} (h : Young B X W W') (g : Grown X X' W) (k : Young B X' W' W'') : Young B X W W'' :=
  ⟨Nat.le_trans h.size k.size, fun j o hB hX hj => k.same j o hB (g.off hX (Array.getElem?_eq_some_iff.1 hj).1) (h.same j o hB hX hj)⟩
theorem Young.put {B : Nat} {X : List Nat} (W : World) (l : Nat) (o : Obj) (hl : l < B) : Young B X W (W.putObj l o) := Young.near (putObj_near W l o) (fun x hx => .inl (by rw [List.mem_singleton.1 hx]; exact hl))
/-- The function's part: it may write what is no cells, where it came later; the body keeps what came since, but its own. -/
def RowOfY (F : Fence) (n : Nat) (P : Program) (gf : Nat) (lb : Array Value) (encs : Nat → Array Value) (I : Nat → List Nat → World → Prop) (N : Nat) : Prop :=
  ∀ (l : Nat) (J : Nat → List Nat → World → Prop) (Jx : World → Prop) (X : List Nat) (W : World), (∀ k X W, J k X W → I k X W) → (∀ k X W, J k X W → ∀ x ∈ X, x < W.heap.size) →
    (∀ k X W1 W2, J k X W1 → Kept W.heap.size W1 W2 → J k X W2) → (∀ W1 W2, Jx W1 → Kept W.heap.size W1 W2 → Jx W2) →
    (∀ k X W1, J k X W1 → k < N → YieldAt F (n - 1) P l (encs k) W1 fun e W' => (e = .returned (.bool true) ∧ ∃ X', J (k + 1) X' W' ∧ Young W.heap.size X W1 W' ∧ Grown X X' W1) ∨ (e = .returned (.bool false) ∧ Jx W')) →
    J 0 X W → CallsIn F n P gf (#[.func (.yield l) #[] #[]] ++ lb) W fun e W' => (∃ v, e = .returned v) ∧ ((∃ X', J N X' W') ∨ Jx W')
/-- How a round's body may end. -/
def rowPostY (B : Nat) (X : List Nat) (I : List Nat → World → Prop) (Ix : Code → World → Prop) (W : World) : Exit → Act → World → Prop
  | .normal, _, W' => Young B X W W' ∧ ∃ X', I X' W' ∧ Grown X X' W
  | .ret, _, W' => Young B X W W' ∧ Ix .ret W'
  | .exit i, _, W' => Young B X W W' ∧ Ix (.exit i) W'
  | .goto t, _, W' => Young B X W W' ∧ Ix (.goto t) W'
  | .panic _, _, _ => False
  | .outgrown, _, _ => False
theorem wpIn_rangeRowY {g : Operand} {ps : Array Tmp} {assign body : Code} {Q : Exit → Act → World → Prop} {a : Act} {w : World}
    (hro : F.round = none) (h1 : 1 ≤ n) {gf : Nat} {lb : Array Value} (hg : a.eval g = .func (.func gf) #[] lb) (hFg : F.fn gf) (eg : ∀ args w, (callFunc gf args).run P w = .ok (.enter gf args) w)
    (encs : Nat → Array Value) (hps : ∀ k, (encs k).size = ps.size) (N : Nat) (I : Nat → List Nat → World → Prop) (Ix : Code → World → Prop)
    (hIX : ∀ k X W, I k X W → ∀ x ∈ X, x < W.heap.size)
    (hI : ∀ k X W W', I k X W → Kept w.heap.size W W' → I k X W') (hIx : ∀ c W W', Ix c W → Kept w.heap.size W W' → Ix c W') {X0 : List Nat} (h0 : I 0 X0 w)
    (hrow : RowOfY F (n - 1) P gf lb encs I N)
    (hround : ∀ l k X W, w.heap.size ≤ l → l < W.heap.size → I k X W → k < N → assign.wpIn (F.inRound l) (n - 1 - 1) P
      (Exit.then (fun a₁ W₁ => Below W.heap.size W W₁ ∧ ∀ W₂, Kept w.heap.size W₁ W₂ → body.wpIn (F.inRound l) (n - 1 - 1) P (rowPostY w.heap.size X (I (k + 1)) Ix W₂) a₁ W₂) (fun _ _ _ => False))
      { tmps := (ps.zip (encs k)).foldl (fun t (p, v) => t.setIfInBounds p v) a.tmps, defers := [] } W)
    (hdone : ∀ D X W, w.heap.size ≤ D → I N X W → W.heap[D]? = some (.deferred (some [])) → Q .normal { a with defers := { target := .collected D, args := #[] } :: a.defers } W)
    (hstop : ∀ D c W, w.heap.size ≤ D → Ix c W → W.heap[D]? = some (.deferred (some [])) → c.wpIn F n P Q { a with defers := { target := .collected D, args := #[] } :: a.defers } W) :
    (Code.rangeFunc g ps assign body).wpIn F n P Q a w := by
  refine wpIn_rangeFunc fun fn hfn => ?_
  rw [hro]
  -- the loop's record, in a state; the two blocks that the loop lays
  let R : LoopState → Option Code → Obj := fun st pe => .loop { state := st, pending := pe, fn, tmps := a.tmps, params := ps, assign, body, defers := w.heap.size }
  let D := w.heap.size
  let l := w.heap.size + 1
  -- what the loop needs of a world, beside the caller's own
  let Bk : LoopState → Option Code → World → Prop := fun st pe W => W.heap[l]? = some (R st pe) ∧ W.heap[D]? = some (.deferred (some []))
  have bklt : ∀ {st pe W}, Bk st pe W → l < W.heap.size := fun h => (Array.getElem?_eq_some_iff.1 h.1).1
  have bkput : ∀ {st pe W} st' pe', Bk st pe W → Bk st' pe' (W.putObj l (R st' pe')) := fun st' pe' h =>
    ⟨World.putObj_heap_same (bklt h), (World.putObj_heap_other (by show D ≠ l; omega)).trans h.2⟩
  have bkput' : ∀ {st pe W} (o : Obj), Bk st pe W → (W.putObj l o).heap[D]? = some (.deferred (some [])) := fun o h => (World.putObj_heap_other (by show D ≠ l; omega)).trans h.2
  have bkbel : ∀ {st pe W W'}, Bk st pe W → Below W.heap.size W W' → Bk st pe W' := fun h k =>
    ⟨(k.block _ (bklt h)).trans h.1, (k.block _ (by have := bklt h; omega)).trans h.2⟩
  have low : ∀ {st pe W}, Bk st pe W → w.heap.size ≤ W.heap.size := fun h => by have := bklt h; omega
  have put : ∀ {st pe W} (o : Obj), Bk st pe W → Kept w.heap.size W (W.putObj l o) := fun o h => Kept.put (by show D ≤ l; omega) h.1 rfl
  -- the world behind the loop's entry
  let W1 := (w.alloc (.deferred (some []))).alloc (R .ready none)
  have e1 : Below w.heap.size w W1 := ((Below.refl _ w).alloc (Nat.le_refl _) _).alloc (by simp) _
  have b1 : Bk .ready none W1 := by
    refine ⟨?_, ?_⟩
    · have h := World.alloc_heap_new (w.alloc (.deferred (some []))) (R .ready none)
      rwa [World.size_alloc] at h
    · exact (Below.heap_alloc _ _ _ (by rw [World.size_alloc]; exact Nat.lt_succ_self _)).trans (World.alloc_heap_new w _)
  have hW1 : W1.heap.size = w.heap.size + 2 := by show ((w.alloc _).alloc _).heap.size = _; rw [World.size_alloc, World.size_alloc]
  have kw : ∀ {W W' : World}, Kept W1.heap.size W W' → Kept w.heap.size W W' := fun k => ⟨k.os, k.tape, k.output, k.size, fun j hj h => k.low j (by omega) h, k.cells⟩
  have bkkept : ∀ {st pe W W'}, Bk st pe W → Kept W1.heap.size W W' → Bk st pe W' := fun h k =>
    ⟨(k.low _ (by rw [hW1]; show w.heap.size + 1 < _; omega) (bklt h)).trans h.1, (k.low _ (by rw [hW1]; show w.heap.size < _; omega) (by have := bklt h; omega)).trans h.2⟩
  refine ⟨l, [{ target := .collected D, args := #[] }], W1, { target := .fn (.func gf) lb, args := #[.func (.yield l) #[] #[]] }, W1, gf, #[.func (.yield l) #[] #[]] ++ lb, W1,
    run_enterLoop_outer _ _ _ _ _, ?_, ?_, ?_, fun _ => h1, ?_⟩
  · simp only [resolve, hg]
    simp [go_sem]
  · intro f' hf'
    simp [Target.leads] at hf'
    exact hf' ▸ hFg
  · simp [invoke, go_sem, eg]
  refine (hrow l (fun k X W => (I k X W ∧ Bk .ready none W) ∧ D ∉ X ∧ l ∉ X) (fun W => ∃ c, Ix c W ∧ Bk .done (some c) W) X0 W1 (fun _ _ _ h => h.1.1) (fun k X W h => hIX k X W h.1.1)
    (fun k X W W' h b => ⟨⟨hI k X W W' h.1.1 (kw b), bkkept h.1.2 b⟩, h.2⟩) (fun W W' h b => by obtain ⟨c, hc, hb⟩ := h; exact ⟨c, hIx c W W' hc (kw b), bkkept hb b⟩) ?_ ⟨⟨hI 0 X0 w W1 h0 (Kept.below e1), b1⟩, fun hm => Nat.lt_irrefl _ (hIX 0 X0 w h0 _ hm), fun hm => Nat.not_succ_lt_self (hIX 0 X0 w h0 _ hm)⟩).mono ?_
  · -- a round
    rintro k X W ⟨⟨hi, hb⟩, hDX, hlX⟩ hk
    refine ⟨fn, _, assign, body, run_yield hb.1 (hps k), roundIn_of_wpIn hfn ?_⟩
    refine wpIn_mono (hround l k X W (by show D ≤ l; omega) (bklt hb) hi hk) ?_
    rintro e a1 W2 he
    cases e
    case normal =>
      obtain ⟨hB, hbody⟩ := he
      have hb2 := bkbel hb hB
      refine ⟨_, run_beginRound hb2.1 rfl, ?_⟩
      have hb3 := bkput .busy none hb2
      refine wpIn_mono (hbody _ (Kept.put (by show D ≤ l; omega) hb2.1 rfl)) ?_
      rintro e3 a3 W4 hp
      have fin : Young w.heap.size X (W2.putObj l (R .busy none)) W4 → Bk .busy none W4 := fun hkf => ⟨hkf.same _ _ (by show D ≤ l; omega) hlX hb3.1, hkf.same _ _ (Nat.le_refl _) hDX hb3.2⟩
      cases e3 with
      | normal =>
        obtain ⟨hy, X', hi', hg⟩ := hp
        have hb4 := fin hy
        have hs2 : W2.heap.size ≤ (W2.putObj l (R .busy none)).heap.size := (Young.put (B := W1.heap.size) (X := X) W2 l (R .busy none) (by rw [hW1]; show w.heap.size + 1 < _; omega)).size
        have hg1 := hg.mono (Nat.le_trans hB.size hs2)
        exact ⟨_, _, run_endRound none hb4.1, .inl ⟨rfl, X', ⟨⟨hI _ _ _ _ hi' (put _ hb4), bkput .ready none hb4⟩, hg1.off hDX (by have := bklt hb; show w.heap.size < _; omega), hg1.off hlX (bklt hb)⟩, ((Young.below hB).trans (Young.put W2 l _ (by rw [hW1]; show w.heap.size + 1 < _; omega))).trans ((hy.mono (by rw [hW1]; omega)).trans (Young.put W4 l _ (by rw [hW1]; show w.heap.size + 1 < _; omega))), hg1⟩⟩
      | ret =>
        have hb4 := fin hp.1
        exact ⟨_, _, run_endRound (some .ret) hb4.1, .inr ⟨rfl, .ret, hIx _ _ _ hp.2 (put _ hb4), bkput .done (some .ret) hb4⟩⟩
      | exit i =>
        have hb4 := fin hp.1
        exact ⟨_, _, run_endRound (some (.exit i)) hb4.1, .inr ⟨rfl, .exit i, hIx _ _ _ hp.2 (put _ hb4), bkput .done (some (.exit i)) hb4⟩⟩
      | goto t =>
        have hb4 := fin hp.1
        exact ⟨_, _, run_endRound (some (.goto t)) hb4.1, .inr ⟨rfl, .goto t, hIx _ _ _ hp.2 (put _ hb4), bkput .done (some (.goto t)) hb4⟩⟩
      | panic ch => exact hp.elim
      | outgrown => exact hp.elim
    all_goals exact he.elim
  · -- behind the function
    rintro e W2 ⟨⟨v, rfl⟩, (⟨X, ⟨hi, hb⟩, -⟩ | ⟨c, hc, hb⟩)⟩
    · exact ⟨none, _, run_endLoop hb.1 (by simp), hdone D X _ (Nat.le_refl _) (hI _ _ _ _ hi (put _ hb)) (bkput' _ hb)⟩
    · exact ⟨some c, _, run_endLoop hb.1 (by simp), hstop D c _ (Nat.le_refl _) (hIx _ _ _ hc (put _ hb)) (bkput' _ hb)⟩
end
end Go

/- An operation that calls nothing is carried out inside a fence as outside. Plain facts over any program. No condition. -/
namespace Go
section
variable {P : Program} {ops : Array Oper} {F : Fence} {n : Nat} {Q : Exit → Act → World → Prop} {a : Act} {w : World} {rest : List Oper}
theorem wpListIn_of {o : Oper} (hc : o.op.calmB = true) (h : wpList P ops (fun e a' w' => e = .normal ∧ wpListIn F n P ops Q rest a' w') [o] a w) : wpListIn F n P ops Q (o :: rest) a w := by
  simp only [wpList] at h
  simp only [wpListIn]
  split
  · rename_i hw
    rw [if_pos hw] at h
    have h1 := h.resolve_right fun hh => by obtain ⟨_, _, hq⟩ := hh.2; cases hq.1
    unfold Oper.wp at h1
    unfold Oper.wpIn
    refine ⟨fun f hf => (by rw [calm_about hc] at hf; cases hf), ?_⟩
    rw [calm_semAt hc]
    cases hr : (execOp a.eval o).run P w with
    | ok x w' =>
      rw [hr] at h1
      rcases calm_run hc _ _ _ _ hr with ⟨v, rfl⟩ | rfl
      · exact h1.2
      · exact h1.2
    | halt x w' =>
      rw [hr] at h1
      cases x <;> first | exact absurd h1.1 (by simp) | exact h1.elim
  · rename_i hw
    rw [if_neg hw] at h
    exact ⟨fun f hf => (by rw [calm_about hc] at hf; cases hf), h.2⟩
end
end Go

/- The refs that are reached from one on: the grid's reached. Conditions: the grid is known. -/
namespace Go.Proofs.YthfdjemlibecgaaDoor
open Go.RowKit
attribute [local go_sem] Oper.semAt_some
theorem reached_any (gg : Nat) (r : RefT) (w : World) : Calls Tryd.prog 100 #[.pointer (some ⟨gg, 0, none⟩), .agg #[.int .i64 r.1, .int .i64 r.2.1]] w fun e w' => e = .returned (.func (.func 144) #[] #[.pointer (some ⟨w.heap.size, 0, none⟩), .pointer (some ⟨w.heap.size + 1, 0, none⟩)]) ∧
      w' = (w.alloc (.cells #[.pointer (some ⟨gg, 0, none⟩)] 25)).alloc (.cells #[.int .i64 r.1, .int .i64 r.2.1] 23) := by
  go_enter Tryd.func100, Tryd.ntmps100
  go_wp2
  go_ret
  exact ⟨rfl, rfl⟩
/-- What a ref names; whether it is there. -/
def gkids (g : Grd) (d : Dsk) (r : RefT) : List RefT := if g.of r = true then (match gthere d r with | some b => b.2.2.1 | none => []) else []
def gok (g : Grd) (d : Dsk) (r : RefT) : Bool := g.of r && (gthere d r).isSome
/-- The iterator's own blocks: where what was seen is kept, the grid's box, the yield's, its own. -/
structure RPl where
  gm : Nat
  bs : Nat
  bg : Nat
  by_ : Nat
  bw : Nat
  l : Nat
  ty : TypeId
  tw : TypeId
def RPl.frees (q : RPl) : Array Value := #[.pointer (some ⟨q.bs, 0, none⟩), .pointer (some ⟨q.bg, 0, none⟩), .pointer (some ⟨q.by_, 0, none⟩), .pointer (some ⟨q.bw, 0, none⟩)]
structure RFr (q : RPl) (gg : Nat) (S : List RefT) (W : World) : Prop where
  s : Blk W q.bs 93 #[.map (some q.gm)]
  g : Blk W q.bg 25 #[.pointer (some ⟨gg, 0, none⟩)]
  y : Blk W q.by_ q.ty #[.func (.yield q.l) #[] #[]]
  w : Blk W q.bw q.tw #[.func (.func 145) #[] q.frees]
  m : MapK W q.gm (fun _ : RefT => True) encRef (wantM S)
theorem RFr.below {q : RPl} {gg : Nat} {S : List RefT} {W W' : World} (h : RFr q gg S W) (k : Below W.heap.size W W') : RFr q gg S W' :=
  ⟨h.s.below k h.s.lt, h.g.below k h.g.lt, h.y.below k h.y.lt, h.w.below k h.w.lt, h.m.near (X := []) (Near.below k) List.not_mem_nil⟩
theorem RFr.young {q : RPl} {gg B : Nat} {X : List Nat} {S : List RefT} {W W' : World} (h : RFr q gg S W) (k : Young B X W W') (hg : B ≤ q.gm ∧ B ≤ q.bs ∧ B ≤ q.by_ ∧ B ≤ q.bw) (hx : q.gm ∉ X ∧ q.bs ∉ X ∧ q.by_ ∉ X ∧ q.bw ∉ X) (hb : Blk W' q.bg 25 #[.pointer (some ⟨gg, 0, none⟩)]) : RFr q gg S W' := by
  obtain ⟨es, c, h1, h2⟩ := h.m
  exact ⟨k.same _ _ hg.2.1 hx.2.1 h.s, hb, k.same _ _ hg.2.2.1 hx.2.2.1 h.y, k.same _ _ hg.2.2.2 hx.2.2.2 h.w, ⟨es, c, k.same _ _ hg.1 hx.1 h1, h2⟩⟩
end Go.Proofs.YthfdjemlibecgaaDoor

/- Append of values of any size; worlds behind it. Plain facts over any program. No condition. -/
namespace Go
open Go.RowKit
theorem Near.grown {w w' : World} {row : Option Nat} {X : List Nat} (h : w.grownBy w' row) (hX : ∀ k, row = some k → k ∈ X) : Near X w w' := ⟨h.os, h.tape, h.output, h.size, fun k hk hn => h.block k hk fun e => hn (hX k e.symm)⟩
theorem Near.grownNew {w w' w'' : World} {row : Option Nat} {X : List Nat} (h : Near X w w') (hg : w'.grownBy w'' row) (hX : ∀ k, row = some k → w.heap.size ≤ k) : Near X w w'' :=
  ⟨hg.os.trans h.os, hg.tape.trans h.tape, hg.output.trans h.output, Nat.le_trans h.size hg.size, fun k hk hn => (hg.block k (Nat.lt_of_lt_of_le hk h.size) fun e => by have := hX k e.symm; omega).trans (h.block k hk hn)⟩
theorem reads_new (w : World) (t : TypeId) (vs : List Value) : Reads (w.alloc (.cells vs.toArray t)) (some ⟨w.heap.size, 0, none⟩) vs := fun _ => ⟨w.heap.size, 0, rfl, fun j v hv => by rw [Nat.zero_add]; exact Blk.at_ (Blk.new w t vs.toArray) j (by rw [← Array.getElem?_toList]; exact hv)⟩
section
variable {P : Program} {w : World}
theorem wpList_append_vals {ops : Array Oper} {rest : List Oper} {o : Oper} {a : Act} {Q : Exit → Act → World → Prop} (hgd : o.guard = none) (s x : Operand) (t : TypeId)
    (ho : o.op = .call { callee := .builtin .append, args := #[s, x], argTypes := #[t, t] })
    (base : Nat) (e : TypeId) (z : Value) (size bytes : Nat) (ht : P.underlying t = some (.slice e)) (hi : (P.info? e).map (fun i => (i.zero, i.size, i.bytes)) = some (some z, size, bytes)) (hzs : z.cells.size = size) (hsz : 0 < size)
    (v : Value) (n : Nat) (xs sp : List Value) (hs : a.eval s = v) (hown : OwnsC e size w base v n xs sp)
    (A : Option Addr) (m c : Nat) (news : List Value) (hx : a.eval x = .slice A m c) (hl : news.length = m * size) (hr : Reads w A news) (h1 : ∀ u ∈ news, u.oneCell' = true)
    (h63 : n + m ≤ maxLen) (hbytes : (n + m) * bytes ≤ 140737488355328) (hbase : base ≤ w.heap.size)
    (h : ∀ v' w' sp', OwnsC e size w' base v' (n + m) (xs ++ news) sp' → w.grownBy w' v.ownBlock → (v'.ownBlock = v.ownBlock ∨ v'.ownBlock = some w.heap.size) → (v' = .slice none 0 0 ↔ v = .slice none 0 0 ∧ m = 0) → wpList P ops Q rest (a.put o.dst v') w') : wpList P ops Q (o :: rest) a w :=
  wpList_plain hgd fun _ hK => wp_append_all s x t ho base e z size bytes ht hi hzs hsz v n xs sp hs hown A m c news hx hl hr h1 h63 hbytes hbase fun v' w' sp' h1 h2 h3 _ h5 => hK _ _ (h v' w' sp' h1 h2 h3 h5)
end
end Go

/- A ref is wanted: the grid's want. Conditions: the grid is known. -/
namespace Go.Proofs.YthfdjemlibecgaaDoor
open Go.RowKit
theorem Near.toX {X Y : List Nat} {w w' : World} (h : Near X w w') (hs : ∀ x ∈ X, x ∈ Y) : Near Y w w' := h.wider hs
theorem refZero (w : World) : (zeroValue 4).run Tryd.prog w = .ok (.bool false) w := by kernel_rfl
/-- What want leaves: all stands where it stood but the list. -/
def GPostI (w : World) (q : GPl) (g : Grd) (d : Dsk) (f : Option Fus) (w' : World) : Prop := ∃ q' : GPl, (q'.gg = q.gg ∧ q'.p = q.p ∧ q'.gf = q.gf ∧ q'.gi = q.gi ∧ q'.gs = q.gs) ∧ GridR w' q' g d f ∧ Near q.all w w' ∧ ∀ x ∈ q'.all, x ∈ q.all ∨ w.heap.size ≤ x
theorem GPostI.same {w w' : World} {q : GPl} {g : Grd} {d : Dsk} {f : Option Fus} (h : GridR w q g d f) (k : Below w.heap.size w w') : GPostI w q g d f w' := ⟨q, ⟨rfl, rfl, rfl, rfl, rfl⟩, h.below k, Near.below k, fun _ hx => .inl hx⟩
theorem GPostI.post {w w' : World} {q : GPl} {g : Grd} {d : Dsk} {f : Option Fus} (h : GPostI w q g d f w') : GPost w q g d f w' := by
  obtain ⟨q', ⟨h1, h2, h3, -, -⟩, h4⟩ := h
  exact ⟨q', h1, h2, h3, h4⟩
section
variable {w : World} {q : GPl} {g : Grd} {d : Dsk} {f : Option Fus}
set_option maxRecDepth 100000 in
set_option maxHeartbeats 4000000 in
theorem gwant_anyI (h : GridR w q g d f) (hlen : g.W.length ≤ 1099511627776) (r : RefT) : Calls Tryd.prog 101 #[.pointer (some ⟨q.gg, 0, none⟩), .agg #[.int .i64 r.1, .int .i64 r.2.1]] w fun e w' => e = .returned (.tuple #[]) ∧ GPostI w q (g.want r) d f w' := by
  have hB := (Below.refl w.heap.size w).alloc (Nat.le_refl _) (.cells #[.int .i64 r.1, .int .i64 r.2.1] 23)
  have hr := Blk.new w 23 #[.int .i64 r.1, .int .i64 r.2.1]
  have hz := refZero
  have H0 := Lib.hid (And.intro h (And.intro hB (And.intro hr (h.below hB))))
  have HLT := Lib.hid h.lt
  clear h hB hr
  go_enter Tryd.func101, Tryd.ntmps101
  go_wp2_with fail
  generalize w.alloc (.cells #[.int .i64 r.1, .int .i64 r.2.1] 23) = w1 at H0 ⊢
  obtain ⟨wv, sp, ho1, hb, ho⟩ := H0.out.2.2.2.wn
  have HW := Lib.hid (And.intro ho1 (And.intro hb ho))
  clear ho1 hb ho
  have hC0 : Below w1.heap.size w1 w1.drew := (Below.refl _ _).drew
  have e1 : Hid (∀ w', Below w1.heap.size w1 w' → w'.cell? ⟨q.gg, 3, none⟩ = some (.map (some q.gi))) := Lib.hid fun w' hw' => (HW.out.2.1.below hw' HW.out.2.1.lt).at_ 3 (v := .map (some q.gi)) rfl
  refine wp_region_tree (Below w1.heap.size w1) [] (PlanT.takes [0, 1, 2] (PlanT.takes [3, 4] (.opt 5 (PlanT.takes [6] .done) .no))) (by kernel_rfl) (by kernel_rfl) (hC0) ?_
  refine wpTree_pure _ _ _ (by rfl) (by rfl) ?_
  dsimp only [List.filterMap, List.getElem?_cons_zero, List.getElem?_cons_succ]
  repeat (go_big_quiet_step (fail))
  refine wpQuiet_nil ?_
  refine wpTree_takeL _ _ _ (by rfl) (by rfl) (hC0) ?_
  dsimp only [List.filterMap, List.getElem?_cons_zero, List.getElem?_cons_succ]
  (refine wpQuiet_load_cell (fun w' hw' => e1.out w' hw') (by rfl) _ _ (by rfl) (by rfl) _ Tryd.underlying93 (by rfl) ?_; simp only [Act.put, List.setIfInBounds_toArray, List.set_cons_zero, List.set_cons_succ])
  (refine wpQuiet_load_blk (fun w' hw' => H0.out.2.2.1.below hw' H0.out.2.2.1.lt) (by rfl) _ _ (by rfl) (by rfl) _ Tryd.underlying23 (by rfl) (size_ref) (by rfl) ?_; simp only [Act.put, List.setIfInBounds_toArray, List.set_cons_zero, List.set_cons_succ])
  refine wpQuiet_nil ?_
  refine wpTree_one _ rfl ?_
  have hmp := H0.out.2.2.2.mp.near (X := []) (Near.below hC0) (by simp)
  go_wp2_with (first
    | ((with_reducible show wpList _ _ _ ((⟨some 9, _, _, _, _, _⟩ : Oper) :: _) _ _); refine wpList_lookup_k (o := ⟨some 9, _, _, _, _, _⟩) (by rfl) refKey _ 4 _ _ false (by rfl) Tryd.underlying93 hmp r trivial (.bool false) (refZero _) (by rfl) (by rfl) ?_; rw [if_neg (by decide), wantM_get])
    | fail)
  refine TreeQ.in_ hC0 ?_
  by_cases hr : r ∈ g.W
  · rw [decide_eq_true hr]
    have HQ := Lib.hid (And.intro (show g.want r = g from if_pos hr) (GPostI.same H0.out.1 (H0.out.2.1.trans (hC0.mono H0.out.2.1.size))))
    clear hr hmp hC0 e1
    refine wpTree_pure _ _ _ (by rfl) (by rfl) ?_
    dsimp only [List.filterMap, List.getElem?_cons_zero, List.getElem?_cons_succ]
    repeat (go_big_quiet_step (fail))
    refine wpQuiet_nil ?_
    refine wpTree_done ?_
    go_wp2
    go_end0
    exact ⟨rfl, by rw [HQ.out.1]; exact HQ.out.2⟩
  · rw [decide_eq_false hr]
    have HR := Lib.hid hr
    clear hr hmp
    refine wpTree_pure _ _ _ (by rfl) (by rfl) ?_
    dsimp only [List.filterMap, List.getElem?_cons_zero, List.getElem?_cons_succ]
    repeat (go_big_quiet_step (fail))
    refine wpQuiet_nil ?_
    refine wpTree_done ?_
    go_wp2_with fail
    have hC1 : Below w1.heap.size w1 w1.drew.drew := (Below.refl _ _).drew.drew
    refine wp_region_tree (Below w1.heap.size w1) [5] (PlanT.takes [0, 1, 2] (PlanT.takes [3, 4] (.opt 5 .done .no))) (by kernel_rfl) (by kernel_rfl) (hC1) ?_
    refine wpTree_pure _ _ _ (by rfl) (by rfl) ?_
    dsimp only [List.filterMap, List.getElem?_cons_zero, List.getElem?_cons_succ]
    repeat (go_big_quiet_step (fail))
    refine wpQuiet_nil ?_
    refine wpTree_takeL _ _ _ (by rfl) (by rfl) (hC1) ?_
    dsimp only [List.filterMap, List.getElem?_cons_zero, List.getElem?_cons_succ]
    (refine wpQuiet_load_cell (fun w' hw' => e1.out w' hw') (by rfl) _ _ (by rfl) (by rfl) _ Tryd.underlying93 (by rfl) ?_; simp only [Act.put, List.setIfInBounds_toArray, List.set_cons_zero, List.set_cons_succ])
    (refine wpQuiet_load_blk (fun w' hw' => H0.out.2.2.1.below hw' H0.out.2.2.1.lt) (by rfl) _ _ (by rfl) (by rfl) _ Tryd.underlying23 (by rfl) (size_ref) (by rfl) ?_; simp only [Act.put, List.setIfInBounds_toArray, List.set_cons_zero, List.set_cons_succ])
    refine wpQuiet_nil ?_
    refine wpTree_one _ rfl ?_
    have hmp := H0.out.2.2.2.mp.near (X := []) (Near.below hC1) (by simp)
    clear e1 hC0
    go_wp2_with (first
      | ((with_reducible show wpList _ _ _ ((⟨none, _, _, _, _, _⟩ : Oper) :: _) _ _); refine wpList_mapUpdate_k (o := ⟨none, _, _, _, _, _⟩) (by rfl) refKey _ 4 _ _ _ (by rfl) Tryd.underlying93 hmp r trivial (.bool true) (by rfl) (by rfl) (by rfl) ?_; intro w2 hm2 hu2; rw [wantM_put g.W r HR.out] at hm2)
      | fail)
    refine TreeQ.out (by rfl) ?_
    refine wpTree_done ?_
    have k2 : Near [q.gi] w1 w2 := (Near.below hC1).trans (Near.upd hu2 (List.mem_singleton_self _))
    have hap := H0.out.2.2.2.apart
    have hgi2 : q.gg ∉ [q.gi] := by rw [List.mem_singleton]; exact hap.gi
    have hb2 := HW.out.2.1.near k2 hgi2
    have hbr : w.heap.size ∉ [q.gi] := by
      rw [List.mem_singleton]
      intro e
      have := HLT.out q.gi (GPl.mem.2 (.inr (.inr (.inl rfl))))
      omega
    have hr2 := H0.out.2.2.1.near k2 hbr
    have ho2 := OwnsC.nearO HW.out.2.2 k2 (fun x hx hm => (hap.wo x (HW.out.1.symm.trans hx)).2.2 (List.mem_singleton.1 hm))
    have H2 := Lib.hid (And.intro hm2 (And.intro k2 (And.intro hb2 (And.intro hr2 (And.intro ho2 hap)))))
    clear hmp hm2 hu2 k2 hap hgi2 hb2 hbr hr2 ho2 hC1
    have hC2 : Near q.gw.toList w2 w2.drew := (Near.refl _ _).drew
    have hgg2 : q.gg ∉ q.gw.toList := by rw [Option.mem_toList]; exact fun e2 => (H2.out.2.2.2.2.2.wo _ e2).1 rfl
    have hbr2 : w.heap.size ∉ q.gw.toList := by
      rw [Option.mem_toList]
      intro e2
      have := HLT.out _ (GPl.mem.2 (.inr (.inr (.inr (.inl e2)))))
      omega
    obtain ⟨B, c, hwv, hlc, hcm, -, -⟩ := OwnsC.reads H2.out.2.2.2.2.1
    subst hwv
    go_wp2_with fail
    refine wp_region_tree (Near q.gw.toList w2) [10] (PlanT.takes [0, 1, 2, 3] (PlanT.takes [4, 5] (.opt 6 (.opt 7 (.opt 8 (PlanT.takes [9] (.opt 10 .done .no)) .no) .no) .no))) (by kernel_rfl) (by kernel_rfl) (hC2) ?_
    refine wpTree_pure _ _ _ (by rfl) (by rfl) ?_
    dsimp only [List.filterMap, List.getElem?_cons_zero, List.getElem?_cons_succ]
    repeat (go_big_quiet_step (fail))
    refine wpQuiet_nil ?_
    refine wpTree_takeL _ _ _ (by rfl) (by rfl) (hC2) ?_
    dsimp only [List.filterMap, List.getElem?_cons_zero, List.getElem?_cons_succ]
    (refine wpQuiet_load_cell (fun w' hw' => (H2.out.2.2.1.near hw' hgg2).at_ 4 (v := .slice B g.W.length c) rfl) (by rfl) _ _ (by rfl) (by rfl) _ Tryd.underlying29 (by rfl) ?_; simp only [Act.put, List.setIfInBounds_toArray, List.set_cons_zero, List.set_cons_succ])
    (refine wpQuiet_load_blk (fun w' hw' => H2.out.2.2.2.1.near hw' hbr2) (by rfl) _ _ (by rfl) (by rfl) _ Tryd.underlying23 (by rfl) (size_ref) (by rfl) ?_; simp only [Act.put, List.setIfInBounds_toArray, List.set_cons_zero, List.set_cons_succ])
    refine wpQuiet_nil ?_
    refine wpTree_one _ rfl ?_
    go_wp2_with fail
    have hra : Reads (w2.alloc (.cells #[.int .i64 r.1, .int .i64 r.2.1] 23)).drew (some ⟨w2.heap.size, 0, none⟩) [.int .i64 r.1, .int .i64 r.2.1] := Reads.below (reads_new w2 23 [.int .i64 r.1, .int .i64 r.2.1]) (Below.refl _ _).drew
    have hC3 : Below w2.heap.size w2 (w2.alloc (.cells #[.int .i64 r.1, .int .i64 r.2.1] 23)).drew := ((Below.refl _ _).alloc (Nat.le_refl _) _).drew
    have hoa := OwnsC.ownBelow H2.out.2.2.2.2.1 hC3
    refine TreeQ.in_ (Near.below hC3) ?_
    generalize (w2.alloc (.cells #[.int .i64 r.1, .int .i64 r.2.1] 23)).drew = w3 at hra hC3 hoa ⊢
    refine wpTree_one _ rfl ?_
    refine wpList_append_vals (by rfl) _ _ _ (by rfl) 0 23 (.agg #[.int .i64 0, .int .i64 0]) 2 16 Tryd.underlying29 infoRef (by rfl) (by omega) (.slice B g.W.length c) g.W.length (refCells g.W) sp (by rfl) hoa (some ⟨w2.heap.size, 0, none⟩) 1 1 [.int .i64 r.1, .int .i64 r.2.1] (by rfl) (by rfl) hra (by simp [Value.oneCell']) (by simp only [maxLen]; omega) (by omega) (by omega) ?_
    intro v4 w4 sp4 ho4 hg4 hv4 hn4
    have k3 : Near q.gw.toList w3 w4 := Near.grown hg4 (fun x hx => by rw [← HW.out.1, hx]; simp)
    go_wp2_with fail
    refine TreeQ.in_ ((Near.below hC3).trans k3) ?_
    have hap := H2.out.2.2.2.2.2
    have hne4 : v4.ownBlock ≠ some q.gg := by
      rcases hv4 with e | e
      · rw [e, HW.out.1]; exact fun e2 => (hap.wo _ e2).1 rfl
      · rw [e]; intro e2; injection e2 with e2
        have h1 := H2.out.2.2.1.lt
        have h2 := hC3.size
        omega
    have hgg : q.gg ∉ q.gw.toList := by rw [Option.mem_toList]; exact fun e2 => (hap.wo _ e2).1 rfl
    have hgi : q.gi ∉ q.gw.toList := by rw [Option.mem_toList]; exact fun e2 => (hap.wo _ e2).2.2 rfl
    have hb4 := (H2.out.2.2.1.below hC3 H2.out.2.2.1.lt).near k3 hgg
    have d4 := hb4.at_ 4 (v := .slice B g.W.length c) rfl
    have f4 := hb4.frozen 4
    have hm4 := (H2.out.1.near (X := []) (Near.below hC3) (by simp)).near k3 hgi
    have k14 : Near ([q.gi, q.gg] ++ q.gw.toList) w w4 := ((Near.below (X := [q.gi, q.gg] ++ q.gw.toList) H0.out.2.1).trans (H2.out.2.1.wider (fun x hx => by rw [List.mem_singleton.1 hx]; simp))).trans ((Near.below hC3).trans (k3.wider (fun x hx => by simp [hx])))
    have hnew : ∀ x, v4.ownBlock = some x → q.gw = some x ∨ w.heap.size ≤ x := fun x hx => by
      rcases hv4 with e | e
      · left; rw [← HW.out.1, ← e, hx]
      · right
        rw [hx] at e; injection e with e
        have h1 := H0.out.2.1.size
        have h2 := H2.out.2.1.size
        have h3 := hC3.size
        omega
    obtain ⟨B4, c4, rfl, -, -, -, -⟩ := OwnsC.reads ho4
    have H4 := Lib.hid (And.intro ho4 (And.intro hb4 (And.intro hm4 (And.intro k14 (And.intro hnew hne4)))))
    have hC4 : Near q.gw.toList w2 w4 := (Near.below hC3).trans k3
    clear ho4 hg4 hv4 hn4 k3 hne4 hgg hgi hb4 hm4 k14 hnew hoa hra hC3
    refine wpTree_one _ rfl ?_
    go_wp2_with fail
    refine TreeQ.in_ hC4 ?_
    refine wpTree_pure _ _ _ (by rfl) (by rfl) ?_
    dsimp only [List.filterMap, List.getElem?_cons_zero, List.getElem?_cons_succ]
    repeat (go_big_quiet_step (fail))
    refine wpQuiet_nil ?_
    refine wpTree_one _ rfl ?_
    go_wp2_with fail
    have hs5 : Blk (w4.setCell ⟨q.gg, 4, none⟩ (.slice B4 (g.W.length + 1) c4)) q.gg 95 (gridc q g.n (.slice B4 (g.W.length + 1) c4)) := H4.out.2.1.set_ 4 _
    have k5 : Near [q.gg] w4 (w4.setCell ⟨q.gg, 4, none⟩ (.slice B4 (g.W.length + 1) c4)) := Near.upd ((Upd.refl _ _).set 4 _) (List.mem_singleton_self _)
    generalize w4.setCell ⟨q.gg, 4, none⟩ (.slice B4 (g.W.length + 1) c4) = w5 at hs5 k5 ⊢
    have H5 := Lib.hid (And.intro hs5 k5)
    clear hs5 k5 d4 f4
    refine TreeQ.out (by rfl) ?_
    refine wpTree_done ?_
    go_wp2
    go_end0
    refine ⟨rfl, ⟨q.gg, q.gs, q.gi, (Value.slice B4 (g.W.length + 1) c4).ownBlock, q.p, q.gf⟩, ⟨rfl, rfl, rfl, rfl, rfl⟩, ?_, ?_, ?_⟩
    · have k05 : Near ([q.gi, q.gg] ++ q.gw.toList) w w5 := H4.out.2.2.2.1.trans (H5.out.2.wider (by simp))
      have hg := H0.out.1
      rw [show g.want r = { g with W := g.W ++ [r] } from if_neg HR.out]
      refine ⟨DkOk.nearX hg.dk k05 ?_, hg.st.near k05 ?_, H4.out.2.2.1.near H5.out.2 ?_, ⟨_, sp4, rfl, H5.out.1, ?_⟩, ?_, hg.ne⟩
      · intro x hx hm
        simp only [List.cons_append, List.nil_append, List.mem_cons, Option.mem_toList] at hm
        rcases hm with rfl | rfl | hm
        · exact hap.i hx
        · exact hap.g hx
        · exact hap.w _ hm hx
      · intro hm
        simp only [List.cons_append, List.nil_append, List.mem_cons, Option.mem_toList] at hm
        rcases hm with e | e | hm
        · exact hap.si e
        · exact hap.gs e.symm
        · exact (hap.wo _ hm).2.1 rfl
      · rw [List.mem_singleton]; exact fun e => hap.gi e.symm
      · have h := OwnsC.nearO H4.out.1 H5.out.2 (fun x hx hm => H4.out.2.2.2.2.2 (by rw [hx, List.mem_singleton.1 hm]))
        rw [List.length_append]
        show OwnsC 23 2 w5 0 _ (g.W.length + 1) (refCells (g.W ++ [r])) sp4
        have e : refCells (g.W ++ [r]) = refCells g.W ++ [.int .i64 r.1, .int .i64 r.2.1] := refCells_snoc g.W r.1 r.2.1
        rw [e]; exact h
      · have ho := hg.ok
        exact ⟨ho.h1, ho.h512, ho.len, ho.set, ho.room, List.nodup_append.2 ⟨ho.nd, by simp, fun x hx y hy e => by
          rw [List.mem_singleton] at hy
          subst hy; subst e
          exact HR.out hx⟩⟩
    · exact (H4.out.2.2.2.1.trans (H5.out.2.wider (by simp))).wider (fun x hx => by
        simp only [List.cons_append, List.nil_append, List.mem_cons, Option.mem_toList] at hx
        rcases hx with rfl | rfl | hx
        · exact GPl.mem.2 (.inr (.inr (.inl rfl)))
        · exact GPl.mem.2 (.inl rfl)
        · exact GPl.mem.2 (.inr (.inr (.inr (.inl hx)))))
    · intro x hx
      rcases GPl.mem.1 hx with rfl | rfl | rfl | hx | hx
      · exact .inl (GPl.mem.2 (.inl rfl))
      · exact .inl (GPl.mem.2 (.inr (.inl rfl)))
      · exact .inl (GPl.mem.2 (.inr (.inr (.inl rfl))))
      · rcases H4.out.2.2.2.2.1 x hx with e | e
        · exact .inl (GPl.mem.2 (.inr (.inr (.inr (.inl e)))))
        · exact .inr e
      · exact .inl (GPl.mem.2 (.inr (.inr (.inr (.inr hx)))))
theorem gwant_any (h : GridR w q g d f) (hlen : g.W.length ≤ 1099511627776) (r : RefT) : Calls Tryd.prog 101 #[.pointer (some ⟨q.gg, 0, none⟩), .agg #[.int .i64 r.1, .int .i64 r.2.1]] w fun e w' => e = .returned (.tuple #[]) ∧ GPost w q (g.want r) d f w' :=
  (gwant_anyI h hlen r).mono fun _ _ h => ⟨h.1, h.2.post⟩
end
end Go.Proofs.YthfdjemlibecgaaDoor

/- The refs that are reached: how the walk's list grows. Plain facts. No condition. -/
namespace Go.Proofs.YthfdjemlibecgaaDoor
theorem dfss_take {kids : RefT → List RefT} {n : Nat} {p : List RefT × List RefT} {L : List RefT} {t : Nat} (ht : t < L.length) :
    dfss kids n p (L.take (t + 1)) = ((dfss kids n p (L.take t)).1 ++ (dfs kids n (dfss kids n p (L.take t)).2 L[t]).1, (dfs kids n (dfss kids n p (L.take t)).2 L[t]).2) := by
  rw [List.take_succ_eq_append_getElem ht]
  unfold dfss
  rw [List.foldl_append]
  rfl
theorem dfss_grows {kids : RefT → List RefT} {n : Nat} (l : List RefT) : ∀ (p : List RefT × List RefT), ∃ T, (dfss kids n p l).2 = p.2 ++ T := by
  induction l with
  | nil => intro p; exact ⟨[], by simp [dfss_nil]⟩
  | cons x l ih =>
    intro p
    rw [dfss_cons]
    obtain ⟨T1, h1⟩ := dfs_grows (kids := kids) n p.2 x
    obtain ⟨T2, h2⟩ := ih (p.1 ++ (dfs kids n p.2 x).1, (dfs kids n p.2 x).2)
    rw [h2, h1]
    exact ⟨T1 ++ T2, by simp⟩
theorem dfss_pre1 {kids : RefT → List RefT} {n : Nat} (l : List RefT) : ∀ (p : List RefT × List RefT), ∃ T, (dfss kids n p l).1 = p.1 ++ T := by
  induction l with
  | nil => intro p; exact ⟨[], by simp [dfss_nil]⟩
  | cons x l ih =>
    intro p
    rw [dfss_cons]
    obtain ⟨T2, h2⟩ := ih (p.1 ++ (dfs kids n p.2 x).1, (dfs kids n p.2 x).2)
    rw [h2]
    exact ⟨(dfs kids n p.2 x).1 ++ T2, by simp⟩
/-- A part of the walk is the front of the whole. -/
theorem dfss_front {kids : RefT → List RefT} {n : Nat} {p : List RefT × List RefT} (L : List RefT) (t : Nat) : ∃ T, (dfss kids n p L).1 = (dfss kids n p (L.take t)).1 ++ T := by
  have h : dfss kids n p L = dfss kids n (dfss kids n p (L.take t)) (L.drop t) := by
    unfold dfss
    rw [← List.foldl_append, List.take_append_drop]
  rw [h]
  exact dfss_pre1 _ _
end Go.Proofs.YthfdjemlibecgaaDoor
