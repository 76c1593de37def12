/- The blocks of a disk behind a write, and a turned byte. Plain facts. No condition. -/
import Derived.Test.YtgkljncigbiffaaDoorMTableMap10
namespace Go.Proofs.YtgkljncigbiffaaDoor
open Go.RowKit
/-- A disk that is not out, with room for so many blocks. -/
structure Rm (d : Dsk) (n : Nat) : Prop where
  ok : d.Ok
  out : d.out = false
  room : 104 + 4 * n ≤ d.N
/-- A block is written, where there is no fuse. -/
theorem gwrite {d : Dsk} {n : Nat} (h : Rm d n) {a : Int} (h1 : 1 ≤ a) (h2 : a ≤ (n : Int)) {b : List UInt8} (hb : b.length = 1024) :
    ∃ d', d.write none (gplace a) b = (0, d', none) ∧ Rm d' n ∧ d'.N = d.N ∧ gblk d' a = b ∧ ∀ c, 1 ≤ c → c ≤ (n : Int) → c ≠ a → gblk d' c = gblk d c := by
  have hr := h.room
  have hl := h.ok.len
  have hp : (gplace a).toNat = 104 + 4 * (a.toNat - 1) := by unfold gplace; omega
  have hw : d.write none (gplace a) b = (0, d.tick.put (gplace a).toNat b, none) := by
    unfold Dsk.write Dsk.isOut
    rw [if_neg (by rw [h.out]; simp), if_neg (by omega), if_neg (by rw [hb]; unfold gplace; omega)]
    rfl
  have hok := Dsk.write_ok (f := none) (at_ := gplace a) (b := b) h.ok
  rw [hw] at hok
  have hfit : 256 * (gplace a).toNat + b.length ≤ d.L.length := by rw [hl]; omega
  refine ⟨_, hw, ⟨hok, h.out, hr⟩, rfl, ?_, fun c k1 k2 hne => ?_⟩
  · show ((wr d.L (256 * (gplace a).toNat) b).drop (256 * (gplace a).toNat)).take 1024 = b
    rw [← hb]; exact wr_mid (by omega)
  · show ((wr d.L (256 * (gplace a).toNat) b).drop (256 * (gplace c).toNat)).take 1024 = _
    have hc : (gplace c).toNat = 104 + 4 * (c.toNat - 1) := by unfold gplace; omega
    exact wr_off hfit (by rw [hb]; omega)
/-- A byte of a block is turned. -/
theorem gturn {d : Dsk} {n : Nat} (h : Rm d n) {a : Int} (h1 : 1 ≤ a) (h2 : a ≤ (n : Int)) {i : Nat} (hi : i < 1024) (m : UInt8) :
    ∃ d', d.turn (gplace a + (i / 256 : Nat)) ((i % 256 : Nat) : Int) m = (0, d') ∧ Rm d' n ∧ d'.N = d.N ∧ gblk d' a = flip (gblk d a) i m ∧ ∀ c, 1 ≤ c → c ≤ (n : Int) → c ≠ a → gblk d' c = gblk d c := by
  have hr := h.room
  have hl := h.ok.len
  have hp : (gplace a).toNat = 104 + 4 * (a.toNat - 1) := by unfold gplace; omega
  have hs : (gplace a + (i / 256 : Nat)).toNat = (gplace a).toNat + i / 256 := by unfold gplace; omega
  have hpos : ((gplace a).toNat + i / 256) * 256 + i % 256 = 256 * (gplace a).toNat + i := by omega
  have e : d.turn (gplace a + (i / 256 : Nat)) ((i % 256 : Nat) : Int) m = (0, { d with L := d.L.set (256 * (gplace a).toNat + i) (d.L.getD (256 * (gplace a).toNat + i) 0 ^^^ m) }) := by
    unfold Dsk.turn
    rw [if_neg (by unfold gplace; omega), hs, Int.toNat_natCast, hpos]
  have hok := Dsk.turn_ok (s := gplace a + (i / 256 : Nat)) (a := ((i % 256 : Nat) : Int)) (m := m) h.ok
  rw [e] at hok
  refine ⟨_, e, ⟨hok, h.out, hr⟩, rfl, ?_, fun c k1 k2 hne => ?_⟩
  · unfold gblk flip
    have hg : ((d.L.drop (256 * (gplace a).toNat)).take 1024).getD i 0 = d.L.getD (256 * (gplace a).toNat + i) 0 := by
      rw [List.getD_eq_getElem?_getD, List.getElem?_take, if_pos hi, List.getElem?_drop, List.getD_eq_getElem?_getD]
    apply List.ext_getElem?
    intro j
    rw [hg]
    by_cases hj : j < 1024
    · rw [List.getElem?_take, if_pos hj, List.getElem?_drop]
      by_cases hq : j = i
      · subst hq
        rw [List.getElem?_set_self (by rw [hl]; omega), List.getElem?_set_self (by rw [List.length_take, List.length_drop, hl]; omega)]
      · rw [List.getElem?_set_ne (by omega), List.getElem?_set_ne (fun e => hq e.symm), List.getElem?_take, if_pos hj, List.getElem?_drop]
    · rw [List.getElem?_eq_none (by rw [List.length_take]; omega), List.getElem?_eq_none (by rw [List.length_set, List.length_take]; omega)]
  · unfold gblk
    have hc : (gplace c).toNat = 104 + 4 * (c.toNat - 1) := by unfold gplace; omega
    apply List.ext_getElem?
    intro j
    rw [List.getElem?_take, List.getElem?_take]
    by_cases hj : j < 1024
    · rw [if_pos hj, if_pos hj, List.getElem?_drop, List.getElem?_drop, List.getElem?_set_ne (by omega)]
    · rw [if_neg hj, if_neg hj]
/-- What is there. -/
theorem gthere_some {d : Dsk} {b : GBT} (hok : GB.ok b = true) (h : gblk d b.2.1.1 = GB.bytes b) : gthere d b.2.1 = some b := by
  unfold gthere
  rw [h, GB.read_bytes b hok, if_pos ⟨rfl, rfl⟩]
theorem gthere_bad {d : Dsk} {r : RefT} (h : (GB.read (gblk d r.1)).1 ≠ 0) : gthere d r = none := by
  unfold gthere
  rw [if_neg fun x => h x.1]
end Go.Proofs.YtgkljncigbiffaaDoor

/- What a ref names on a grid's disk: the grid's there. Conditions: the grid is known; the disk is not out; the ref is of the grid. -/
namespace Go
open Go.RowKit
theorem results_row_tmps {P : Program} {fn : Func} {p q r : Tmp} {ty : TypeId} (h : fn.results = #[.cell p ty, .tmp q, .tmp r]) (tmps : Array Value) (w : World) (g : Nat) (t : TypeId) (cs : Array Value) (d : TypeDesc)
    (hp : tmps.getD p undef = .pointer (some ⟨g, 0, none⟩)) (hg : Blk w g t cs)
    (hu : P.underlying ty = some d) (hd : (match d with | .struct _ | .array _ _ => true | _ => false) = true) (hi : (P.info? ty).map (·.size) = some cs.size) :
    (results fn tmps).run P w = .ok (.tuple #[.agg cs, tmps.getD q undef, tmps.getD r undef]) w := by
  have hp' : tmps[p]?.getD undef = .pointer (some ⟨g, 0, none⟩) := by simpa using hp
  simp [results, h, hp', asAddr, run_loadVar_row w g t ty cs (0, 0) d hg hu hd hi]
end Go
namespace Go.Proofs.YtgkljncigbiffaaDoor
open Go.RowKit
def gbc (b : GBT) (A : Option Addr) (c : Nat) (B : Option Addr) (e : Nat) : Array Value := #[.int .i64 b.1, .int .i64 b.2.1.1, .int .i64 b.2.1.2.1, .slice A b.2.2.1.length c, .slice B b.2.2.2.1.length e]
theorem zeroGBrun (w : World) : (zeroValue 91).run Tryd.prog w = .ok (.agg #[.int .i64 0, .int .i64 0, .int .i64 0, .slice none 0 0, .slice none 0 0]) w := by kernel_rfl
/-- A block and its bytes are told. -/
def GBTold (o : Option GBT) (raw : List UInt8) (w0 : World) (v1 v2 : Value) (w : World) : Prop :=
  ∃ A c B e C, v1 = .agg (gbc (o.getD GB.none_) A c B e) ∧ v2 = .slice C (if o.isSome then raw else []).length (if o.isSome then raw else []).length ∧
    Refs w A (o.getD GB.none_).2.2.1 ∧ Bytes w B (o.getD GB.none_).2.2.2.1 ∧ (o.getD GB.none_).2.2.1.length ≤ c ∧ (o.getD GB.none_).2.2.2.1.length ≤ e ∧ e ≤ 9223372036854775807 ∧
    (o.isSome = true → ∃ g, C = some ⟨g, 0, none⟩ ∧ w0.heap.size ≤ g ∧ Blk w g 5 (raw.map u8v).toArray) ∧ (∀ ad, A = some ad → w0.heap.size ≤ ad.block) ∧ ∀ ad, B = some ad → w0.heap.size ≤ ad.block
theorem GBTold.none_ (raw : List UInt8) (w0 w : World) : GBTold none raw w0 (.agg zeroGB) (.slice none 0 0) w :=
  ⟨none, 0, none, 0, none, rfl, rfl, fun h => absurd h (by simp [GB.none_]), Reads.nil _ _, Nat.le_refl _, Nat.le_refl _, by omega, (fun h => by cases h), (fun _ e => by cases e), (fun _ e => by cases e)⟩
theorem GBTold.below {o : Option GBT} {raw : List UInt8} {w0 w w' : World} {v1 v2 : Value} (h : GBTold o raw w0 v1 v2 w) (k : Below w.heap.size w w') : GBTold o raw w0 v1 v2 w' := by
  obtain ⟨A, c, B, e, C, h1, h2, h3, h4, h5, h6, h7, h8, h9⟩ := h
  refine ⟨A, c, B, e, C, h1, h2, h3.below k, Bytes.below h4 k, h5, h6, h7, fun hs => ?_, h9⟩
  obtain ⟨g, e1, e2, e3⟩ := h8 hs
  exact ⟨g, e1, e2, e3.below k e3.lt⟩
section
variable {w : World} {q : GPl} {g : Grd} {d : Dsk} {f : Option Fus}
set_option maxRecDepth 100000 in
set_option maxHeartbeats 4000000 in
theorem gthere_any (h : GridR w q g d f) (hq : d.isOut f = false) (r : RefT) (hr : g.of r = true) :
    Calls Tryd.prog 121 #[.pointer (some ⟨q.gg, 0, none⟩), .agg #[.int .i64 r.1, .int .i64 r.2.1]] w fun e w' => ∃ v1 v2, e = .returned (.tuple #[v1, v2, .bool (gthere d r).isSome]) ∧ GBTold (gthere d r) (gblk d r.1) w v1 v2 w' ∧ Below w.heap.size w w' := by
  obtain ⟨s1, s2, s3, s4⟩ := Grd.of_spec hr
  have h512 := h.ok.h512
  have hroom := h.ok.room
  obtain ⟨wv, hb⟩ := h.blk
  have hz := zeroGBrun
  have hB := ((Below.refl w.heap.size w).alloc (Nat.le_refl _) (.cells #[.int .i64 r.1, .int .i64 r.2.1] 33)).alloc (by simp) (.cells #[.int .i64 0, .int .i64 0, .int .i64 0, .slice none 0 0, .slice none 0 0] 91)
  have hbr := (Blk.new w 33 #[.int .i64 r.1, .int .i64 r.2.1]).alloc (.cells #[.int .i64 0, .int .i64 0, .int .i64 0, .slice none 0 0, .slice none 0 0] 91)
  have hbz := Blk.new' (w.alloc (.cells #[.int .i64 r.1, .int .i64 r.2.1] 33)) 91 #[.int .i64 0, .int .i64 0, .int .i64 0, .slice none 0 0, .slice none 0 0] (n := w.heap.size + 1) (by simp)
  have hgl : (gblk d r.1).length = 1024 := by
    unfold gblk gplace
    rw [List.length_take, List.length_drop, h.dk.ok.len]; omega
  have hrd : d.read f (gplace r.1) 4 = (gblk d r.1, 0) := by
    unfold Dsk.read
    rw [if_neg (by rw [hq]; simp), if_neg (by unfold gplace; omega)]
    rfl
  have H0 := Lib.hid (And.intro h (And.intro hB (And.intro hb (And.intro hbr (And.intro hbz (And.intro hgl hrd))))))
  have HS := Lib.hid (And.intro s1 (And.intro s2 h512))
  clear h hB hb hbr hbz hgl hrd s1 s2 s3 s4 h512 hroom hq hr
  go_enter Tryd.func121, Tryd.ntmps121
  go_wp2_with fail
  generalize (w.alloc (.cells #[.int .i64 r.1, .int .i64 r.2.1] 33)).alloc (.cells #[.int .i64 0, .int .i64 0, .int .i64 0, .slice none 0 0, .slice none 0 0] 91) = w1 at H0 ⊢
  have hC0 : Below w1.heap.size w1 w1.drew := (Below.refl _ _).drew
  have HG : Hid (∀ w', Below w1.heap.size w1 w' → GridR w' q g d f ∧ w'.cell? ⟨q.gg, 0, none⟩ = some (.pointer (some ⟨q.p.gd, 0, none⟩)) ∧ w'.cell? ⟨w.heap.size, 0, none⟩ = some (.int .i64 r.1)) := Lib.hid fun w' hw' => by
    have k := H0.out.2.1.trans (hw'.mono H0.out.2.1.size)
    exact ⟨H0.out.1.below k, (H0.out.2.2.1.below k H0.out.2.2.1.lt).at_ 0 rfl, (H0.out.2.2.2.1.below hw' H0.out.2.2.2.1.lt).at_ 0 rfl⟩
  refine wp_region_tree (Below w1.heap.size w1) [] (PlanT.takes [0, 1, 2, 4] (PlanT.takes [3, 5] (.opt 6 (.opt 7 (PlanT.takes [8, 9, 10, 11, 12] .done) .no) .no))) (by kernel_rfl) (by kernel_rfl) (hC0) ?_
  refine wpTree_pure _ _ _ (by rfl) (by rfl) ?_
  dsimp only [List.filterMap, List.getElem?_cons_zero, List.getElem?_cons_succ]
  repeat (go_big_quiet_step (fail))
  refine wpQuiet_nil ?_
  refine wpTree_takeL _ _ _ (by rfl) (by rfl) (hC0) ?_
  dsimp only [List.filterMap, List.getElem?_cons_zero, List.getElem?_cons_succ]
  (refine wpQuiet_load_cell (fun w' hw' => (HG.out w' hw').2.1) (by rfl) _ _ (by rfl) (by rfl) _ Tryd.underlying25 (by rfl) ?_; simp only [Act.put, List.setIfInBounds_toArray, List.set_cons_zero, List.set_cons_succ])
  (refine wpQuiet_load_cell (fun w' hw' => (HG.out w' hw').2.2) (by rfl) _ _ (by rfl) (by rfl) _ Tryd.underlying3 (by rfl) ?_; simp only [Act.put, List.setIfInBounds_toArray, List.set_cons_zero, List.set_cons_succ])
  refine wpQuiet_nil ?_
  refine wpTree_one _ rfl ?_
  go_wp2_with fail
  refine (gplace_any r.1 HS.out.1 (by have := HS.out.2; omega) _).mono ?_
  rintro e w2 ⟨rfl, hw2⟩
  have hC1 : Below w1.heap.size w1 w2 := by rw [hw2]; exact hC0
  clear hw2 hC0
  go_wp2_with fail
  refine TreeQ.in_ hC1 ?_
  refine wpTree_one _ rfl ?_
  go_wp2_with fail
  have hg2 := (HG.out _ hC1).1
  have hR := read_all (gplace r.1) 4 hg2.dk.dr hg2.dk.fr hg2.dk.ok
  rw [H0.out.2.2.2.2.2.2] at hR
  refine hR.mono ?_
  rintro e w3 ⟨C, rfl, (⟨-, gr, rfl, hgr, hraw⟩ | ⟨h0, -⟩), hbx⟩
  case inr => exact absurd rfl h0
  rw [H0.out.2.2.2.2.2.1]
  have hC2 := hC1.trans (hbx.mono hC1.size)
  have H3 := Lib.hid (And.intro hraw (And.intro hC2 (show w.heap.size + 2 ≤ gr from by have h1 := H0.out.2.2.2.2.1.lt; have h2 := hC1.size; omega)))
  clear hR hg2 hC1 hbx hraw hgr
  go_wp2_with fail
  refine TreeQ.in_ hC2 ?_
  refine wpTree_pure _ _ _ (by rfl) (by rfl) ?_
  dsimp only [List.filterMap, List.getElem?_cons_zero, List.getElem?_cons_succ]
  repeat (go_big_quiet_step (fail))
  refine wpQuiet_nil ?_
  refine wpTree_done ?_
  clear hC2
  go_wp2_with fail
  refine (gbRead_any (some ⟨gr, 0, none⟩) 1024 1024 (gblk d r.1) H0.out.2.2.2.2.2.1.symm (Nat.le_refl _) (by omega) w3 H3.out.1.bytes).mono ?_
  rintro e w4 ⟨A2, c2, B2, d2, rfl, hr2, hb2, hl2, hm2, hd2, hbx, hfA, hfB⟩
  obtain ⟨rd, hrd⟩ : ∃ x, x = GB.read (gblk d r.1) := ⟨_, rfl⟩
  rw [← hrd] at hr2 hb2 hl2 hm2 ⊢
  have HRD := Lib.hid hrd
  have hw3 : w.heap.size + 2 ≤ w3.heap.size := by have h1 := H0.out.2.2.2.2.1.lt; have h2 := H3.out.2.1.size; omega
  have HF := Lib.hid (And.intro (fun ad e => Nat.le_trans hw3 (hfA ad e)) (fun ad e => Nat.le_trans hw3 (hfB ad e)))
  clear hfA hfB hw3
  have hC3 := H3.out.2.1.trans (hbx.mono H3.out.2.1.size)
  have hr34 := H3.out.1.below hbx H3.out.1.lt
  have H4 := Lib.hid (And.intro hr2 (And.intro hb2 (And.intro hl2 (And.intro hm2 (And.intro hd2 (And.intro hC3 hr34))))))
  clear hrd hr2 hb2 hl2 hm2 hd2 hbx hC3 hr34
  obtain ⟨code, b⟩ := rd
  simp only at H4 ⊢
  by_cases hc : code = 0
  · subst hc
    by_cases he : b.2.1 = r
    · have HT : Hid (gthere d r = some b) := Lib.hid (by unfold gthere; rw [← HRD.out]; exact if_pos ⟨rfl, he⟩)
      have HN : Hid ((!((b.2.1.1 == r.1) && (b.2.1.2.1 == r.2.1))) = false) := Lib.hid (by rw [he]; simp)
      clear he
      go_wp2_with (first
        | ((with_reducible show wpList _ _ _ ((⟨none, _, _, _, _, _⟩ : Oper) :: _) _ _); refine wpList_store_blk (o := ⟨none, _, _, _, _, _⟩) ((Blk.new w4 91 #[.int .i64 0, .int .i64 0, .int .i64 0, .slice none 0 0, .slice none 0 0])) (by rfl) _ _ _ (by rfl) (by rfl) (gbc b A2 c2 B2 d2) (by rfl) (sizeGB) (by rfl) (by rfl) (by simp [gbc, Value.oneCell']) ?_; intro w5 h5 hu5; have hbx := ((Below.refl w4.heap.size w4).alloc (Nat.le_refl _) (.cells #[.int .i64 0, .int .i64 0, .int .i64 0, .slice none 0 0, .slice none 0 0] 91)).upd hu5 (Nat.le_refl _); have hC5 := H4.out.2.2.2.2.2.1.trans (hbx.mono H4.out.2.2.2.2.2.1.size); have hk2 := H0.out.2.2.2.1.below hC5 H0.out.2.2.2.1.lt; have hk3 := H0.out.2.2.2.2.1.below hC5 H0.out.2.2.2.2.1.lt; have hk4 := Lib.hid (And.intro (H4.out.1.below hbx) (And.intro (Bytes.below H4.out.2.1 hbx) (H4.out.2.2.2.2.2.2.below hbx H4.out.2.2.2.2.2.2.lt))); clear hu5 hbx)
        | (((with_reducible show wpList _ _ _ ((⟨some 33, _, _, _, _, _⟩ : Oper) :: _) _ _); refine wpList_want (by rfl) ?_; refine wpList_load_mid (o := ⟨some 33, _, _, _, _, _⟩) (range2 (b := w4.heap.size) (off := 1) (u := .int .i64 b.2.1.1) (v := .int .i64 b.2.1.2.1) (h5.at_ 1 (v := .int .i64 b.2.1.1) rfl) (h5.at_ 2 (v := .int .i64 b.2.1.2.1) rfl)) (by rfl) _ _ (by rfl) (by rfl) _ Tryd.underlying33 (by rfl) size_ref (by rfl) ?_))
        | ((with_reducible show wpList _ _ _ ((⟨some 34, _, _, _, _, _⟩ : Oper) :: _) _ _); refine wpList_want (by rfl) ?_; refine wpList_load_blk (o := ⟨some 34, _, _, _, _, _⟩) (hk2) (by rfl) _ _ (by rfl) (by rfl) _ Tryd.underlying33 (by rfl) (size_ref) (by rfl) ?_)
        | ((with_reducible show wpList _ _ _ ((⟨some 35, _, _, _, _, _⟩ : Oper) :: _) _ _); refine wpList_want (by rfl) ?_; refine wpList_run (o := ⟨some 35, _, _, _, _, _⟩) _ (by rfl) (exec_neq_ref _ _ _ _ (by rfl) b.2.1.1 b.2.1.2.1 r.1 r.2.1 (by rfl) (by rfl)) ?_; rw [HN.out])
        | ((with_reducible show wpList _ _ _ ((⟨some 38, _, _, _, _, _⟩ : Oper) :: _) _ _); refine wpList_load_blk (o := ⟨some 38, _, _, _, _, _⟩) (h5) (by rfl) _ _ (by rfl) (by rfl) _ Tryd.underlying91 (by rfl) (sizeGB) (by rfl) ?_)
        | ((with_reducible show wpList _ _ _ ((⟨none, _, _, _, _, _⟩ : Oper) :: _) _ _); refine wpList_store_blk (o := ⟨none, _, _, _, _, _⟩) (hk3) (by rfl) _ _ _ (by rfl) (by rfl) (gbc b A2 c2 B2 d2) (by rfl) (sizeGB) (by rfl) (by rfl) (by simp [gbc, Value.oneCell']) ?_; intro w6 h6 hu6)
        | fail)
      refine bodyPost_ret (results_row_tmps (by rfl) _ _ (w.heap.size + 1) _ _ _ (by rfl) h6 Tryd.underlying91 (by rfl) sizeGB) rfl ?_
      have hB6 := (H0.out.2.1.trans (hC5.mono H0.out.2.1.size)).upd hu6 (Nat.le_succ _)
      rw [HT.out]
      have k6 : Near [w.heap.size + 1] w5 w6 := Near.upd hu6 (List.mem_singleton_self _)
      have hA : ∀ ad, A2 = some ad → ad.block ≠ w.heap.size + 1 := fun ad e => by have := HF.out.1 ad e; omega
      have hBn : ∀ ad, B2 = some ad → ad.block ≠ w.heap.size + 1 := fun ad e => by have := HF.out.2 ad e; omega
      have hl : (gblk d r.1).length = 1024 := H0.out.2.2.2.2.2.1
      refine ⟨_, _, rfl, ⟨A2, c2, B2, d2, some ⟨gr, 0, none⟩, rfl, ?_, Refs.of (Reads.upd (Refs.reads hk4.out.1) hu6 hA), Reads.upd hk4.out.2.1 hu6 hBn, H4.out.2.2.1, H4.out.2.2.2.1, H4.out.2.2.2.2.1, fun _ => ⟨gr, rfl, by have := H3.out.2.2; omega, hk4.out.2.2.near k6 (by rw [List.mem_singleton]; have := H3.out.2.2; omega)⟩, fun ad e => by have := HF.out.1 ad e; omega, fun ad e => by have := HF.out.2 ad e; omega⟩, hB6⟩
      show Value.slice _ 1024 1024 = Value.slice _ (gblk d r.1).length (gblk d r.1).length
      rw [hl]
    · have HT : Hid (gthere d r = none) := Lib.hid (by unfold gthere; rw [← HRD.out]; exact if_neg fun x => he x.2)
      have HN : Hid ((!((b.2.1.1 == r.1) && (b.2.1.2.1 == r.2.1))) = true) := Lib.hid (by
        rw [Bool.not_eq_true', Bool.and_eq_false_iff]
        by_cases h1 : b.2.1.1 = r.1
        · right; rw [beq_eq_false_iff_ne]; exact fun h2 => he (Prod.ext h1 (Prod.ext h2 rfl))
        · left; rw [beq_eq_false_iff_ne]; exact h1)
      clear he
      go_wp2_with (first
        | ((with_reducible show wpList _ _ _ ((⟨none, _, _, _, _, _⟩ : Oper) :: _) _ _); refine wpList_store_blk (o := ⟨none, _, _, _, _, _⟩) ((Blk.new w4 91 #[.int .i64 0, .int .i64 0, .int .i64 0, .slice none 0 0, .slice none 0 0])) (by rfl) _ _ _ (by rfl) (by rfl) (gbc b A2 c2 B2 d2) (by rfl) (sizeGB) (by rfl) (by rfl) (by simp [gbc, Value.oneCell']) ?_; intro w5 h5 hu5; have hbx := ((Below.refl w4.heap.size w4).alloc (Nat.le_refl _) (.cells #[.int .i64 0, .int .i64 0, .int .i64 0, .slice none 0 0, .slice none 0 0] 91)).upd hu5 (Nat.le_refl _); have hC5 := H4.out.2.2.2.2.2.1.trans (hbx.mono H4.out.2.2.2.2.2.1.size); have hk2 := H0.out.2.2.2.1.below hC5 H0.out.2.2.2.1.lt; have hk3 := H0.out.2.2.2.2.1.below hC5 H0.out.2.2.2.2.1.lt; have hk4 := Lib.hid (And.intro (H4.out.1.below hbx) (And.intro (Bytes.below H4.out.2.1 hbx) (H4.out.2.2.2.2.2.2.below hbx H4.out.2.2.2.2.2.2.lt))); clear hu5 hbx)
        | (((with_reducible show wpList _ _ _ ((⟨some 33, _, _, _, _, _⟩ : Oper) :: _) _ _); refine wpList_want (by rfl) ?_; refine wpList_load_mid (o := ⟨some 33, _, _, _, _, _⟩) (range2 (b := w4.heap.size) (off := 1) (u := .int .i64 b.2.1.1) (v := .int .i64 b.2.1.2.1) (h5.at_ 1 (v := .int .i64 b.2.1.1) rfl) (h5.at_ 2 (v := .int .i64 b.2.1.2.1) rfl)) (by rfl) _ _ (by rfl) (by rfl) _ Tryd.underlying33 (by rfl) size_ref (by rfl) ?_))
        | ((with_reducible show wpList _ _ _ ((⟨some 34, _, _, _, _, _⟩ : Oper) :: _) _ _); refine wpList_want (by rfl) ?_; refine wpList_load_blk (o := ⟨some 34, _, _, _, _, _⟩) (hk2) (by rfl) _ _ (by rfl) (by rfl) _ Tryd.underlying33 (by rfl) (size_ref) (by rfl) ?_)
        | ((with_reducible show wpList _ _ _ ((⟨some 35, _, _, _, _, _⟩ : Oper) :: _) _ _); refine wpList_want (by rfl) ?_; refine wpList_run (o := ⟨some 35, _, _, _, _, _⟩) _ (by rfl) (exec_neq_ref _ _ _ _ (by rfl) b.2.1.1 b.2.1.2.1 r.1 r.2.1 (by rfl) (by rfl)) ?_; rw [HN.out])
        | ((with_reducible show wpList _ _ _ ((⟨none, _, _, _, _, _⟩ : Oper) :: _) _ _); refine wpList_store_blk (o := ⟨none, _, _, _, _, _⟩) (hk3) (by rfl) _ _ _ (by rfl) (by rfl) (zeroGB) (by rfl) (sizeGB) (by rfl) (by rfl) (by exact zeroGB_one) ?_; intro w6 h6 hu6)
        | fail)
      refine bodyPost_ret (results_row_tmps (by rfl) _ _ (w.heap.size + 1) _ _ _ (by rfl) h6 Tryd.underlying91 (by rfl) sizeGB) rfl ?_
      have hB6 := (H0.out.2.1.trans (hC5.mono H0.out.2.1.size)).upd hu6 (Nat.le_succ _)
      rw [HT.out]
      exact ⟨_, _, rfl, GBTold.none_ _ _ _, hB6⟩
  · have HT : Hid (gthere d r = none) := Lib.hid (by unfold gthere; rw [← HRD.out]; exact if_neg fun x => hc x.1)
    have hcb : (code != 0) = true := by rw [bne_iff_ne]; exact hc
    clear hc
    go_wp2_with (first
      | ((with_reducible show wpList _ _ _ ((⟨none, _, _, _, _, _⟩ : Oper) :: _) _ _); refine wpList_store_blk (o := ⟨none, _, _, _, _, _⟩) ((Blk.new w4 91 #[.int .i64 0, .int .i64 0, .int .i64 0, .slice none 0 0, .slice none 0 0])) (by rfl) _ _ _ (by rfl) (by rfl) (gbc b A2 c2 B2 d2) (by rfl) (sizeGB) (by rfl) (by rfl) (by simp [gbc, Value.oneCell']) ?_; intro w5 h5 hu5; have hbx := ((Below.refl w4.heap.size w4).alloc (Nat.le_refl _) (.cells #[.int .i64 0, .int .i64 0, .int .i64 0, .slice none 0 0, .slice none 0 0] 91)).upd hu5 (Nat.le_refl _); have hC5 := H4.out.2.2.2.2.2.1.trans (hbx.mono H4.out.2.2.2.2.2.1.size); have hk2 := H0.out.2.2.2.1.below hC5 H0.out.2.2.2.1.lt; have hk3 := H0.out.2.2.2.2.1.below hC5 H0.out.2.2.2.2.1.lt; have hk4 := Lib.hid (And.intro (H4.out.1.below hbx) (And.intro (Bytes.below H4.out.2.1 hbx) (H4.out.2.2.2.2.2.2.below hbx H4.out.2.2.2.2.2.2.lt))); clear hu5 hbx)
      | ((with_reducible show wpList _ _ _ ((⟨none, _, _, _, _, _⟩ : Oper) :: _) _ _); refine wpList_store_blk (o := ⟨none, _, _, _, _, _⟩) (hk3) (by rfl) _ _ _ (by rfl) (by rfl) (zeroGB) (by rfl) (sizeGB) (by rfl) (by rfl) (by exact zeroGB_one) ?_; intro w6 h6 hu6)
      | fail)
    refine bodyPost_ret (results_row_tmps (by rfl) _ _ (w.heap.size + 1) _ _ _ (by rfl) h6 Tryd.underlying91 (by rfl) sizeGB) rfl ?_
    have hB6 := (H0.out.2.1.trans (hC5.mono H0.out.2.1.size)).upd hu6 (Nat.le_succ _)
    rw [HT.out]
    exact ⟨_, _, rfl, GBTold.none_ _ _ _, hB6⟩
end
end Go.Proofs.YtgkljncigbiffaaDoor

/- A ref is looked at: the grid's look, Read, Raw. Conditions: the grid is known. -/
namespace Go.Proofs.YtgkljncigbiffaaDoor
open Go.RowKit
theorem Near.bytes {X : List Nat} {w w' : World} {A : Option Addr} {l : List UInt8} (h : Bytes w A l) (k : Near X w w') (hn : ∀ ad, A = some ad → ad.block ∉ X) : Bytes w' A l := fun hne => by
  obtain ⟨b, off, e, hc⟩ := h hne
  refine ⟨b, off, e, fun j v hv => ?_⟩
  have h1 := hc j v hv
  exact (k.cell (p := ⟨b, off + j, none⟩) (World.block_lt_of_cell? w _ h1) (hn ⟨b, off, none⟩ e)).trans h1
theorem Refs.near {X : List Nat} {w w' : World} {A : Option Addr} {l : List RefT} (h : Refs w A l) (k : Near X w w') (hn : ∀ ad, A = some ad → ad.block ∉ X) : Refs w' A l := fun hp => by
  obtain ⟨b, off, e, hlt, hc⟩ := h hp
  exact ⟨b, off, e, Nat.lt_of_lt_of_le hlt k.size, fun i hi => ⟨(k.cell (p := ⟨b, off + i * 2, none⟩) hlt (hn ⟨b, off, none⟩ e)).trans (hc i hi).1, (k.cell (p := ⟨b, off + i * 2 + 1, none⟩) hlt (hn ⟨b, off, none⟩ e)).trans (hc i hi).2⟩⟩
theorem GBTold.near {o : Option GBT} {raw : List UInt8} {w0 w w' : World} {v1 v2 : Value} {X : List Nat} (h : GBTold o raw w0 v1 v2 w) (k : Near X w w') (hX : ∀ x ∈ X, x < w0.heap.size) : GBTold o raw w0 v1 v2 w' := by
  obtain ⟨A, c, B, e, C, h1, h2, h3, h4, h5, h6, h7, h8, h9, h10⟩ := h
  refine ⟨A, c, B, e, C, h1, h2, h3.near k (fun ad e hx => by have := hX _ hx; have := h9 ad e; omega), Near.bytes h4 k (fun ad e hx => by have := hX _ hx; have := h10 ad e; omega), h5, h6, h7, fun hs => ?_, h9, h10⟩
  obtain ⟨g, e1, e2, e3⟩ := h8 hs
  exact ⟨g, e1, e2, e3.near k (fun hx => by have := hX _ hx; omega)⟩
theorem GBTold.base {o : Option GBT} {raw : List UInt8} {w0 w1 w : World} {v1 v2 : Value} (h : GBTold o raw w1 v1 v2 w) (hb : w0.heap.size ≤ w1.heap.size) : GBTold o raw w0 v1 v2 w := by
  obtain ⟨A, c, B, e, C, h1, h2, h3, h4, h5, h6, h7, h8, h9, h10⟩ := h
  refine ⟨A, c, B, e, C, h1, h2, h3, h4, h5, h6, h7, fun hs => ?_, fun ad e => Nat.le_trans hb (h9 ad e), fun ad e => Nat.le_trans hb (h10 ad e)⟩
  obtain ⟨g, e1, e2, e3⟩ := h8 hs
  exact ⟨g, e1, Nat.le_trans hb e2, e3⟩
theorem gbc_one (b : GBT) (A : Option Addr) (c : Nat) (B : Option Addr) (e : Nat) : (gbc b A c B e).all (·.oneCell') = true := by simp [gbc, Value.oneCell']
/-- What a look answers: the error's number, the block, the grid. -/
def glook (g : Grd) (d : Dsk) (f : Option Fus) (r : RefT) : Int × Option GBT × Grd :=
  if d.isOut f = true then (11, none, g) else if g.of r = false then (2, none, g) else match gthere d r with | some b => (0, some b, g) | none => (13, none, g.want r)
/-- What a look leaves: where it finds, nothing that was there changes. -/
def LPost (w : World) (q : GPl) (b : Bool) (g : Grd) (d : Dsk) (f : Option Fus) (w' : World) : Prop := GPost w q g d f w' ∧ (b = true → Below w.heap.size w w')
theorem GPost.trans1 {w w1 w' : World} {q : GPl} {g : Grd} {d : Dsk} {f : Option Fus} (hB : Below w.heap.size w w1) (h : GPost w1 q g d f w') : GPost w q g d f w' := by
  obtain ⟨q', e1, e2, e3, h1, h2, h3⟩ := h
  exact ⟨q', e1, e2, e3, h1, (Near.below hB).trans h2, fun x hx => (h3 x hx).imp id fun k => Nat.le_trans hB.size k⟩
/-- Behind it a block that came later is written. -/
theorem GPost.upd {w w1 w' : World} {q : GPl} {g : Grd} {d : Dsk} {f : Option Fus} {x : Nat} (h : GPost w q g d f w1) (u : Upd x w1 w') (hx : w.heap.size ≤ x) (hx2 : ∀ q' : GPl, GridR w1 q' g d f → x ∉ q'.all) : GPost w q g d f w' := by
  obtain ⟨q', e1, e2, e3, h1, h2, h3⟩ := h
  exact ⟨q', e1, e2, e3, h1.near (Near.upd u (List.mem_singleton_self _)) (fun y hy hm => hx2 q' h1 (List.mem_singleton.1 hm ▸ hy)), h2.new u hx, h3⟩
/-- A block that holds a block of the grid's is none of a grid's own. -/
theorem GridR.offGB {w : World} {q : GPl} {g : Grd} {d : Dsk} {f : Option Fus} {x : Nat} {cs : Array Value} (h : GridR w q g d f) (hb : Blk w x 91 cs) : x ∉ q.all := by
  obtain ⟨wv, sp, h1, h2, h3⟩ := h.wn
  obtain ⟨es, c, hm, -⟩ := h.mp
  intro hx
  rcases GPl.mem.1 hx with e | e | e | e | e
  · exact hb.apart h2 (by decide) e
  · exact hb.apart h.st (by decide) e
  · exact hb.offMap hm e
  · obtain ⟨cs', hb'⟩ := ownBlk h3 (h1.trans e)
    exact hb.apart hb' (by decide) rfl
  · exact h.dk.off hb (by decide) (by decide) (by decide) e
section
variable {w : World} {q : GPl} {g : Grd} {d : Dsk} {f : Option Fus}
set_option maxRecDepth 100000 in
set_option maxHeartbeats 4000000 in
theorem glook_any (h : GridR w q g d f) (hlen : g.W.length ≤ 1099511627776) (r : RefT) :
    Calls Tryd.prog 83 #[.pointer (some ⟨q.gg, 0, none⟩), .agg #[.int .i64 r.1, .int .i64 r.2.1]] w fun e w' => ∃ v1 v2, e = .returned (.tuple #[v1, v2, .int .i64 (glook g d f r).1]) ∧ GBTold (glook g d f r).2.1 (gblk d r.1) w v1 v2 w' ∧ LPost w q (glook g d f r).2.1.isSome (glook g d f r).2.2 d f w' := by
  have hz := zeroGBrun
  have hB := ((Below.refl w.heap.size w).alloc (Nat.le_refl _) (.cells #[.int .i64 r.1, .int .i64 r.2.1] 33)).alloc (by simp) (.cells #[.int .i64 0, .int .i64 0, .int .i64 0, .slice none 0 0, .slice none 0 0] 91)
  have hbr := (Blk.new w 33 #[.int .i64 r.1, .int .i64 r.2.1]).alloc (.cells #[.int .i64 0, .int .i64 0, .int .i64 0, .slice none 0 0, .slice none 0 0] 91)
  have hbz := Blk.new' (w.alloc (.cells #[.int .i64 r.1, .int .i64 r.2.1] 33)) 91 #[.int .i64 0, .int .i64 0, .int .i64 0, .slice none 0 0, .slice none 0 0] (n := w.heap.size + 1) (by simp)
  have H0 := Lib.hid (And.intro h (And.intro hB (And.intro hbr (And.intro hbz (And.intro (h.below hB) hlen)))))
  clear h hB hbr hbz hlen
  go_enter Tryd.func83, Tryd.ntmps83
  go_wp2_with fail
  generalize (w.alloc (.cells #[.int .i64 r.1, .int .i64 r.2.1] 33)).alloc (.cells #[.int .i64 0, .int .i64 0, .int .i64 0, .slice none 0 0, .slice none 0 0] 91) = w1 at H0 ⊢
  refine (gready_any H0.out.2.2.2.2.1).mono ?_
  rintro e w2 ⟨rfl, hw⟩
  obtain rfl := hw.symm
  clear hw
  by_cases hq : d.isOut f = true
  · have HL : Hid (glook g d f r = (11, none, g)) := Lib.hid (if_pos hq)
    rw [if_pos hq]
    have hbz := H0.out.2.2.2.1
    clear hq
    go_wp2_with (first
      | ((with_reducible show wpList _ _ _ ((⟨none, _, _, _, _, _⟩ : Oper) :: _) _ _); refine wpList_store_blk (o := ⟨none, _, _, _, _, _⟩) (hbz) (by rfl) _ _ _ (by rfl) (by rfl) (zeroGB) (by rfl) (sizeGB) (by rfl) (by rfl) (by exact zeroGB_one) ?_; intro w6 h6 hu6)
      | fail)
    refine bodyPost_ret (results_row_tmps (by rfl) _ _ (w.heap.size + 1) _ _ _ (by rfl) h6 Tryd.underlying91 (by rfl) sizeGB) rfl ?_
    rw [HL.out]
    exact ⟨_, _, rfl, GBTold.none_ _ _ _, GPost.same H0.out.1 (H0.out.2.1.upd hu6 (Nat.le_succ _)), fun h => by cases h⟩
  rw [if_neg hq]
  have HQ := Lib.hid (show d.isOut f = false by simpa using hq)
  have hbr := H0.out.2.2.1
  clear hq
  go_wp2_with (first
    | ((with_reducible show wpList _ _ _ ((⟨some 18, _, _, _, _, _⟩ : Oper) :: _) _ _); refine wpList_load_blk (o := ⟨some 18, _, _, _, _, _⟩) (hbr) (by rfl) _ _ (by rfl) (by rfl) _ Tryd.underlying33 (by rfl) (size_ref) (by rfl) ?_)
    | fail)
  refine (gof_any H0.out.2.2.2.2.1 r).mono ?_
  rintro e w2 ⟨rfl, hbx⟩
  have hB2 := H0.out.2.1.trans (hbx.mono H0.out.2.1.size)
  have H2 := Lib.hid (And.intro (H0.out.2.2.1.below hbx H0.out.2.2.1.lt) (And.intro (H0.out.2.2.2.1.below hbx H0.out.2.2.2.1.lt) (And.intro (H0.out.2.2.2.2.1.below hbx) hB2)))
  clear hbx hbr hB2
  by_cases ho : g.of r = true
  case neg =>
    have ho' : g.of r = false := by simpa using ho
    have HL : Hid (glook g d f r = (2, none, g)) := Lib.hid (by unfold glook; rw [if_neg (by rw [HQ.out]; simp), if_pos ho'])
    rw [ho']
    have hbz := H2.out.2.1
    clear ho ho'
    go_wp2_with (first
      | ((with_reducible show wpList _ _ _ ((⟨none, _, _, _, _, _⟩ : Oper) :: _) _ _); refine wpList_store_blk (o := ⟨none, _, _, _, _, _⟩) (hbz) (by rfl) _ _ _ (by rfl) (by rfl) (zeroGB) (by rfl) (sizeGB) (by rfl) (by rfl) (by exact zeroGB_one) ?_; intro w6 h6 hu6)
      | fail)
    refine bodyPost_ret (results_row_tmps (by rfl) _ _ (w.heap.size + 1) _ _ _ (by rfl) h6 Tryd.underlying91 (by rfl) sizeGB) rfl ?_
    rw [HL.out]
    exact ⟨_, _, rfl, GBTold.none_ _ _ _, GPost.same H0.out.1 (H2.out.2.2.2.upd hu6 (Nat.le_succ _)), fun h => by cases h⟩
  rw [ho]
  have hbr := H2.out.1
  have HO := Lib.hid ho
  clear ho
  go_wp2_with (first
    | ((with_reducible show wpList _ _ _ ((⟨some 24, _, _, _, _, _⟩ : Oper) :: _) _ _); refine wpList_load_blk (o := ⟨some 24, _, _, _, _, _⟩) (hbr) (by rfl) _ _ (by rfl) (by rfl) _ Tryd.underlying33 (by rfl) (size_ref) (by rfl) ?_)
    | fail)
  refine (gthere_any H2.out.2.2.1 HQ.out r HO.out).mono ?_
  rintro e w3 ⟨v1, v2, rfl, hT, hbx⟩
  have hsz : w.heap.size + 2 ≤ w2.heap.size := H2.out.2.1.lt
  have H3 := Lib.hid (And.intro (H2.out.1.below hbx H2.out.1.lt) (And.intro (H2.out.2.1.below hbx H2.out.2.1.lt) (And.intro (H2.out.2.2.1.below hbx) (And.intro (H2.out.2.2.2.trans (hbx.mono H2.out.2.2.2.size)) hsz))))
  have HT := Lib.hid hT
  obtain ⟨A, c, B, e, C, rfl, rfl, -⟩ := hT
  clear hbx hbr hsz
  have hT2 := HT.out
  cases hth : gthere d r with
  | some b =>
    have HL : Hid (glook g d f r = (0, some b, g)) := Lib.hid (by unfold glook; rw [if_neg (by rw [HQ.out]; simp), if_neg (by rw [HO.out]; simp), hth])
    rw [hth] at HT
    clear hth hT2
    simp only [Option.isSome_some, Option.getD_some, if_true]
    go_wp2_with (first
      | ((with_reducible show wpList _ _ _ ((⟨none, _, _, _, _, _⟩ : Oper) :: _) _ _); refine wpList_store_blk (o := ⟨none, _, _, _, _, _⟩) ((Blk.new w3 91 #[.int .i64 0, .int .i64 0, .int .i64 0, .slice none 0 0, .slice none 0 0])) (by rfl) _ _ _ (by rfl) (by rfl) (gbc b A c B e) (by rfl) (sizeGB) (by rfl) (by rfl) (gbc_one _ _ _ _ _) ?_; intro w4 h4 hu4; have hbx := ((Below.refl w3.heap.size w3).alloc (Nat.le_refl _) (.cells #[.int .i64 0, .int .i64 0, .int .i64 0, .slice none 0 0, .slice none 0 0] 91)).upd hu4 (Nat.le_refl _); have hk3 := H3.out.2.1.below hbx H3.out.2.1.lt; have hT4 := Lib.hid (And.intro (HT.out.below hbx) (H3.out.2.2.2.1.trans (hbx.mono H3.out.2.2.2.1.size))); clear hu4 hbx)
      | ((with_reducible show wpList _ _ _ ((⟨some 35, _, _, _, _, _⟩ : Oper) :: _) _ _); refine wpList_load_blk (o := ⟨some 35, _, _, _, _, _⟩) (h4) (by rfl) _ _ (by rfl) (by rfl) _ Tryd.underlying91 (by rfl) (sizeGB) (by rfl) ?_)
      | ((with_reducible show wpList _ _ _ ((⟨none, _, _, _, _, _⟩ : Oper) :: _) _ _); refine wpList_store_blk (o := ⟨none, _, _, _, _, _⟩) (hk3) (by rfl) _ _ _ (by rfl) (by rfl) (gbc b A c B e) (by rfl) (sizeGB) (by rfl) (by rfl) (gbc_one _ _ _ _ _) ?_; intro w6 h6 hu6)
      | fail)
    refine bodyPost_ret (results_row_tmps (by rfl) _ _ (w.heap.size + 1) _ _ _ (by rfl) h6 Tryd.underlying91 (by rfl) sizeGB) rfl ?_
    rw [HL.out]
    have k6 : Near [w.heap.size + 1] w4 w6 := Near.upd hu6 (List.mem_singleton_self _)
    refine ⟨_, _, rfl, (hT4.out.1.near k6 (fun x hx => by rw [List.mem_singleton.1 hx]; have := H3.out.2.2.2.2; omega)).base H2.out.2.2.2.size, GPost.same H0.out.1 (hT4.out.2.upd hu6 (Nat.le_succ _)), fun _ => hT4.out.2.upd hu6 (Nat.le_succ _)⟩
  | none =>
    have HL : Hid (glook g d f r = (13, none, g.want r)) := Lib.hid (by unfold glook; rw [if_neg (by rw [HQ.out]; simp), if_neg (by rw [HO.out]; simp), hth])
    rw [hth] at HT
    clear hth hT2
    simp only [Option.isSome_none, Option.getD_none, Bool.false_eq_true, if_false]
    go_wp2_with (first
      | ((with_reducible show wpList _ _ _ ((⟨none, _, _, _, _, _⟩ : Oper) :: _) _ _); refine wpList_store_blk (o := ⟨none, _, _, _, _, _⟩) ((Blk.new w3 91 #[.int .i64 0, .int .i64 0, .int .i64 0, .slice none 0 0, .slice none 0 0])) (by rfl) _ _ _ (by rfl) (by rfl) (gbc GB.none_ A c B e) (by rfl) (sizeGB) (by rfl) (by rfl) (gbc_one _ _ _ _ _) ?_; intro w4 h4 hu4; have hbx := ((Below.refl w3.heap.size w3).alloc (Nat.le_refl _) (.cells #[.int .i64 0, .int .i64 0, .int .i64 0, .slice none 0 0, .slice none 0 0] 91)).upd hu4 (Nat.le_refl _); have hk1 := H3.out.1.below hbx H3.out.1.lt; have hk3 := H3.out.2.1.below hbx H3.out.2.1.lt; have hG4 := Lib.hid (And.intro (H3.out.2.2.1.below hbx) (H3.out.2.2.2.1.trans (hbx.mono H3.out.2.2.2.1.size))); clear hu4 hbx)
      | ((with_reducible show wpList _ _ _ ((⟨some 32, _, _, _, _, _⟩ : Oper) :: _) _ _); refine wpList_load_blk (o := ⟨some 32, _, _, _, _, _⟩) (hk1) (by rfl) _ _ (by rfl) (by rfl) _ Tryd.underlying33 (by rfl) (size_ref) (by rfl) ?_)
      | fail)
    refine (gwant_any hG4.out.1 H0.out.2.2.2.2.2 r).mono ?_
    rintro e w5 ⟨rfl, hP⟩
    have hoff := hG4.out.1.offGB hk3
    have hbz : Blk w5 (w.heap.size + 1) 91 #[.int .i64 0, .int .i64 0, .int .i64 0, .slice none 0 0, .slice none 0 0] := by
      obtain ⟨q', -, -, -, -, k, -⟩ := hP
      exact hk3.near k hoff
    have HP := Lib.hid (GPost.trans1 hG4.out.2 hP)
    have hbz0 := Lib.hid hbz
    clear hP hoff hk1 hk3
    go_wp2_with (first
      | ((with_reducible show wpList _ _ _ ((⟨none, _, _, _, _, _⟩ : Oper) :: _) _ _); refine wpList_store_blk (o := ⟨none, _, _, _, _, _⟩) (hbz) (by rfl) _ _ _ (by rfl) (by rfl) (zeroGB) (by rfl) (sizeGB) (by rfl) (by rfl) (by exact zeroGB_one) ?_; intro w6 h6 hu6)
      | fail)
    refine bodyPost_ret (results_row_tmps (by rfl) _ _ (w.heap.size + 1) _ _ _ (by rfl) h6 Tryd.underlying91 (by rfl) sizeGB) rfl ?_
    rw [HL.out]
    exact ⟨_, _, rfl, GBTold.none_ _ _ _, HP.out.upd hu6 (Nat.le_succ _) (fun q' hq' => hq'.offGB hbz0.out), fun h => by cases h⟩
end
end Go.Proofs.YtgkljncigbiffaaDoor

/- A block is read, or its bytes: the grid's Read. Conditions: the grid is known. -/
namespace Go.Proofs.YtgkljncigbiffaaDoor
open Go.RowKit
theorem GPost.below {w w1 w' : World} {q : GPl} {g : Grd} {d : Dsk} {f : Option Fus} (h : GPost w q g d f w1) (k : Below w1.heap.size w1 w') : GPost w q g d f w' := by
  obtain ⟨q', e1, e2, e3, h1, h2, h3⟩ := h
  exact ⟨q', e1, e2, e3, h1.below k, h2.trans (Near.below k), h3⟩
section
variable {w : World} {q : GPl} {g : Grd} {d : Dsk} {f : Option Fus}
set_option maxRecDepth 100000 in
set_option maxHeartbeats 4000000 in
theorem gread_any (h : GridR w q g d f) (hlen : g.W.length ≤ 1099511627776) (r : RefT) :
    Calls Tryd.prog 104 #[.pointer (some ⟨q.gg, 0, none⟩), .agg #[.int .i64 r.1, .int .i64 r.2.1]] w fun e w' => ∃ v1, e = .returned (.tuple #[v1, .int .i64 (glook g d f r).1]) ∧ (∃ v2, GBTold (glook g d f r).2.1 (gblk d r.1) w v1 v2 w') ∧ LPost w q (glook g d f r).2.1.isSome (glook g d f r).2.2 d f w' := by
  have hz := zeroGBrun
  have hB := ((Below.refl w.heap.size w).alloc (Nat.le_refl _) (.cells #[.int .i64 r.1, .int .i64 r.2.1] 33)).alloc (by simp) (.cells #[.int .i64 0, .int .i64 0, .int .i64 0, .slice none 0 0, .slice none 0 0] 91)
  have hbr := (Blk.new w 33 #[.int .i64 r.1, .int .i64 r.2.1]).alloc (.cells #[.int .i64 0, .int .i64 0, .int .i64 0, .slice none 0 0, .slice none 0 0] 91)
  have hbz := Blk.new' (w.alloc (.cells #[.int .i64 r.1, .int .i64 r.2.1] 33)) 91 #[.int .i64 0, .int .i64 0, .int .i64 0, .slice none 0 0, .slice none 0 0] (n := w.heap.size + 1) (by simp)
  have H0 := Lib.hid (And.intro h (And.intro hB (And.intro (h.below hB) hlen)))
  clear h hB hlen
  go_enter Tryd.func104, Tryd.ntmps104
  go_wp2_with (first
    | ((with_reducible show wpList _ _ _ ((⟨some 11, _, _, _, _, _⟩ : Oper) :: _) _ _); refine wpList_load_blk (o := ⟨some 11, _, _, _, _, _⟩) (hbr) (by rfl) _ _ (by rfl) (by rfl) _ Tryd.underlying33 (by rfl) (size_ref) (by rfl) ?_)
    | fail)
  clear hbr
  generalize (w.alloc (.cells #[.int .i64 r.1, .int .i64 r.2.1] 33)).alloc (.cells #[.int .i64 0, .int .i64 0, .int .i64 0, .slice none 0 0, .slice none 0 0] 91) = w1 at H0 hbz ⊢
  refine (glook_any H0.out.2.2.1 H0.out.2.2.2 r).mono ?_
  rintro e w2 ⟨v1, v2, rfl, hT, hP⟩
  have hoff := H0.out.2.2.1.offGB hbz
  have hbz2 : Blk w2 (w.heap.size + 1) 91 #[.int .i64 0, .int .i64 0, .int .i64 0, .slice none 0 0, .slice none 0 0] := by
    obtain ⟨⟨q', -, -, -, -, k, -⟩, -⟩ := hP
    exact hbz.near k hoff
  have HLT := Lib.hid hbz.lt
  clear hoff hbz
  have hPP := Lib.hid (GPost.trans1 H0.out.2.1 hP.1)
  have hPF := Lib.hid (fun h => H0.out.2.1.trans ((hP.2 h).mono H0.out.2.1.size))
  have hTT := Lib.hid hT
  obtain ⟨A, c, B, e, C, rfl, -⟩ := hT
  clear hP
  go_wp2_with (first
    | ((with_reducible show wpList _ _ _ ((⟨none, _, _, _, _, _⟩ : Oper) :: _) _ _); refine wpList_store_blk (o := ⟨none, _, _, _, _, _⟩) ((Blk.new w2 91 #[.int .i64 0, .int .i64 0, .int .i64 0, .slice none 0 0, .slice none 0 0])) (by rfl) _ _ _ (by rfl) (by rfl) (gbc ((glook g d f r).2.1.getD GB.none_) A c B e) (by rfl) (sizeGB) (by rfl) (by rfl) (gbc_one _ _ _ _ _) ?_; intro w4 h4 hu4; have hbx := ((Below.refl w2.heap.size w2).alloc (Nat.le_refl _) (.cells #[.int .i64 0, .int .i64 0, .int .i64 0, .slice none 0 0, .slice none 0 0] 91)).upd hu4 (Nat.le_refl _); have hk3 := hbz2.below hbx hbz2.lt; have hT4 := Lib.hid (And.intro (hTT.out.below hbx) (And.intro (hPP.out.below hbx) (fun h => (hPF.out h).trans (hbx.mono (hPF.out h).size)))); clear hu4 hbx)
    | ((with_reducible show wpList _ _ _ ((⟨some 16, _, _, _, _, _⟩ : Oper) :: _) _ _); refine wpList_load_blk (o := ⟨some 16, _, _, _, _, _⟩) (h4) (by rfl) _ _ (by rfl) (by rfl) _ Tryd.underlying91 (by rfl) (sizeGB) (by rfl) ?_)
    | ((with_reducible show wpList _ _ _ ((⟨none, _, _, _, _, _⟩ : Oper) :: _) _ _); refine wpList_store_blk (o := ⟨none, _, _, _, _, _⟩) (hk3) (by rfl) _ _ _ (by rfl) (by rfl) (gbc ((glook g d f r).2.1.getD GB.none_) A c B e) (by rfl) (sizeGB) (by rfl) (by rfl) (gbc_one _ _ _ _ _) ?_; intro w6 h6 hu6; have hk0 := Lib.hid hk3)
    | fail)
  have k6 : Near [w.heap.size + 1] w4 w6 := Near.upd hu6 (List.mem_singleton_self _)
  refine bodyPost_ret (results_row_tmp (by rfl) _ _ (w.heap.size + 1) _ _ _ (by rfl) h6 Tryd.underlying91 (by rfl) sizeGB) rfl ?_
  exact ⟨_, rfl, ⟨_, (hT4.out.1.near k6 (fun x hx => by rw [List.mem_singleton.1 hx]; exact HLT.out)).base H0.out.2.1.size⟩, hT4.out.2.1.upd hu6 (Nat.le_succ _) (fun q' hq' => hq'.offGB hk0.out), fun h => (hT4.out.2.2 h).upd hu6 (Nat.le_succ _)⟩
end
end Go.Proofs.YtgkljncigbiffaaDoor

/- A block is written: the grid's Write. Conditions: the grid is known; the lists can be read; the library's table is there. -/
namespace Go.Proofs.YtgkljncigbiffaaDoor
open Go.RowKit
theorem zeroRefrun (w : World) : (zeroValue 33).run Tryd.prog w = .ok (.agg #[.int .i64 0, .int .i64 0]) w := by kernel_rfl
/-- What a write answers: the error's number, the ref, the grid, the disk, its fuse. -/
def gput (g : Grd) (d : Dsk) (f : Option Fus) (k : Int) (l : List RefT) (m : List UInt8) (s : Int) : (Int × RefT) × Grd × Dsk × Option Fus :=
  if d.isOut f = true then ((11, (0, 0, ())), g, d, f)
  else if GB.ok (k, (1, s, ()), l, m, ()) = false then ((2, (0, 0, ())), g, d, f)
  else if acqE g.L ≠ 0 then ((acqE g.L, (0, 0, ())), g, d, f)
  else if (d.write f (gplace (acqN g.L)) (GB.bytes (k, (acqN g.L, s, ()), l, m, ()))).1 ≠ 0 then (((d.write f (gplace (acqN g.L)) (GB.bytes (k, (acqN g.L, s, ()), l, m, ()))).1, (0, 0, ())), g, (d.write f (gplace (acqN g.L)) (GB.bytes (k, (acqN g.L, s, ()), l, m, ()))).2)
  else ((0, (acqN g.L, s, ())), { g with L := acqL g.L }, (d.write f (gplace (acqN g.L)) (GB.bytes (k, (acqN g.L, s, ()), l, m, ()))).2)
theorem GB.ok_at {k a s : Int} {l : List RefT} {m : List UInt8} (h : GB.ok (k, (1, s, ()), l, m, ()) = true) (h1 : 1 ≤ a) (h2 : a ≤ 512) : GB.ok (k, (a, s, ()), l, m, ()) = true := by
  unfold GB.ok refOk at *
  simp only [Bool.and_eq_true, decide_eq_true_eq] at *
  obtain ⟨⟨⟨⟨⟨a1, a2⟩, ⟨⟨⟨b1, b2⟩, b3⟩, b4⟩⟩, c1⟩, c2⟩, c3⟩ := h
  exact ⟨⟨⟨⟨⟨a1, a2⟩, ⟨⟨⟨h1, h2⟩, b3⟩, b4⟩⟩, c1⟩, c2⟩, c3⟩
theorem acq_range {L : List Nat} (hok : SetOk L) (h : ¬ acqE L ≠ 0) : 1 ≤ acqN L ∧ acqN L ≤ (L.length : Int) ∧ acqN L ≤ 512 := by
  have hl := hok.len
  unfold acqE acqN at *
  split at h
  · rename_i h1
    rw [if_pos h1]; omega
  · exact absurd (by decide) h
theorem Dsk.write_N (d : Dsk) (f : Option Fus) (a : Int) (b : List UInt8) : (d.write f a b).2.1.N = d.N := by
  unfold Dsk.write chg
  split
  · rfl
  split
  · rfl
  split
  · rfl
  split
  · rfl
  · split <;> rfl
theorem GridR.wrote {w w' : World} {q : GPl} {g : Grd} {d d2 : Dsk} {f f2 : Option Fus} (h : GridR w q g d f) (hk : DkOk w' q.p q.gf d2 f2) (k : Near (q.p.all q.gf) w w') (hN : d2.N = d.N) : GridR w' q g d2 f2 := by
  have hap := h.apart
  obtain ⟨wv, sp, h1, h2, h3⟩ := h.wn
  exact ⟨hk, h.st.near k hap.s, h.mp.near k hap.i, ⟨wv, sp, h1, h2.near k hap.g, OwnsC.nearO h3 k (fun x hx => hap.w x (h1 ▸ hx))⟩, ⟨h.ok.h1, h.ok.h512, h.ok.len, h.ok.set, by rw [hN]; exact h.ok.room, h.ok.nd⟩, h.ne⟩
/-- Another set is a grid's. -/
theorem GridR.setTo {w : World} {q : GPl} {g : Grd} {d : Dsk} {f : Option Fus} {gS : Nat} {L : List Nat} (h : GridR w q g d f) (hs : Blk w gS 203 (setCells L)) (hL : SetOk L) (hlen : L.length = g.n) :
    GridR (w.setCell ⟨q.gg, 2, none⟩ (.pointer (some ⟨gS, 0, none⟩))) { q with gs := gS } { g with L := L } d f ∧ Upd q.gg w (w.setCell ⟨q.gg, 2, none⟩ (.pointer (some ⟨gS, 0, none⟩))) := by
  have hu : Upd q.gg w (w.setCell ⟨q.gg, 2, none⟩ (.pointer (some ⟨gS, 0, none⟩))) := (Upd.refl _ _).set 2 _
  have hap := h.apart
  have k : Near [q.gg] w (w.setCell ⟨q.gg, 2, none⟩ (.pointer (some ⟨gS, 0, none⟩))) := Near.upd hu (List.mem_singleton_self _)
  obtain ⟨wv, sp, h1, h2, h3⟩ := h.wn
  exact ⟨⟨h.dk.nearX k (fun x hx hm => hap.g (List.mem_singleton.1 hm ▸ hx)), hs.near k (fun hm => hs.apart h2 (by decide) (List.mem_singleton.1 hm)), h.mp.near k (fun hm => hap.gi (List.mem_singleton.1 hm).symm),
    ⟨wv, sp, h1, h2.set_ 2 _, OwnsC.nearO h3 k (fun x hx hm => (hap.wo x (h1 ▸ hx)).1 (List.mem_singleton.1 hm))⟩, ⟨h.ok.h1, h.ok.h512, hlen, hL, h.ok.room, h.ok.nd⟩, h.ne⟩, hu⟩
/-- A block that came since is written last. -/
theorem GPost.last {w w1 w' : World} {q q' : GPl} {g0 g : Grd} {d0 d : Dsk} {f0 f : Option Fus} {x : Nat} (h0 : GridR w q g0 d0 f0) (e1 : q'.gg = q.gg) (e2 : q'.p = q.p) (e3 : q'.gf = q.gf) (h : GridR w1 q' g d f) (k : Near q.all w w1) (hs : ∀ y ∈ q'.all, y ∈ q.all ∨ x < y) (u : Upd x w1 w') (hx : w.heap.size ≤ x) : GPost w q g d f w' := by
  refine ⟨q', e1, e2, e3, h.near (Near.upd u (List.mem_singleton_self _)) (fun y hy hm => ?_), k.new u hx, fun y hy => (hs y hy).imp id fun hl => by omega⟩
  have hm := List.mem_singleton.1 hm
  subst hm
  rcases hs _ hy with h | h
  · have := h0.lt _ h; omega
  · omega
theorem GridR.offRef {w : World} {q : GPl} {g : Grd} {d : Dsk} {f : Option Fus} (h : GridR w q g d f) {x : Nat} (hx : w.heap.size ≤ x) : x ∉ q.all := fun hm => by have := h.lt x hm; omega
section
variable {w : World} {q : GPl} {g : Grd} {d : Dsk} {f : Option Fus}
set_option maxRecDepth 100000 in
set_option maxHeartbeats 8000000 in
theorem gwrite_any (h : GridR w q g d f) (k s : Int) (A B : Option Addr) (n c m e1 : Nat) (l : List RefT) (body : List UInt8) (hn : n = l.length) (hm : m = body.length) (hl : l.length ≤ 1000) (hbl : body.length ≤ 5000) (hr : Refs w A l) (hb : Bytes w B body) (hT : Tab w) :
    Calls Tryd.prog 51 #[.pointer (some ⟨q.gg, 0, none⟩), .int .i64 k, .slice A n c, .slice B m e1, .int .i64 s] w fun e w' => e = .returned (.tuple #[.agg #[.int .i64 (gput g d f k l body s).1.2.1, .int .i64 (gput g d f k l body s).1.2.2.1], .int .i64 (gput g d f k l body s).1.1]) ∧
      GPost w q (gput g d f k l body s).2.1 (gput g d f k l body s).2.2.1 (gput g d f k l body s).2.2.2 w' := by
  subst hn hm
  have hz := zeroGBrun
  have hzr := zeroRefrun
  have hB := (Below.refl w.heap.size w).alloc (Nat.le_refl _) (.cells #[.int .i64 0, .int .i64 0] 33)
  have hb0 := Blk.new w 33 #[.int .i64 0, .int .i64 0]
  have H0 := Lib.hid (And.intro h (And.intro hB (And.intro hb0 (And.intro (h.below hB) (And.intro hl (And.intro hbl (And.intro (hr.below hB) (And.intro (Bytes.below hb hB) (Tab.below hT hB)))))))))
  have HW := Lib.hid (And.intro hr (And.intro hb hT))
  clear h hB hb0 hl hbl hr hb hT
  go_enter Tryd.func51, Tryd.ntmps51
  go_wp2_with fail
  generalize w.alloc (.cells #[.int .i64 0, .int .i64 0] 33) = w1 at H0 ⊢
  refine (gready_any H0.out.2.2.2.1).mono ?_
  rintro e w2 ⟨rfl, hw⟩
  obtain rfl := hw.symm
  clear hw
  by_cases hq : d.isOut f = true
  · have HL : Hid (gput g d f k l body s = ((11, (0, 0, ())), g, d, f)) := Lib.hid (if_pos hq)
    rw [if_pos hq]
    have hbz := H0.out.2.2.1
    clear hq
    go_wp2_with (first
      | ((with_reducible show wpList _ _ _ ((⟨none, _, _, _, _, _⟩ : Oper) :: _) _ _); refine wpList_store_blk (o := ⟨none, _, _, _, _, _⟩) (hbz) (by rfl) _ _ _ (by rfl) (by rfl) (#[.int .i64 0, .int .i64 0]) (by rfl) (size_ref) (by rfl) (by rfl) (by simp [Value.oneCell']) ?_; intro w6 h6 hu6)
      | fail)
    refine bodyPost_ret (results_row_tmp (by rfl) _ _ w.heap.size _ _ _ (by rfl) h6 Tryd.underlying33 (by rfl) size_ref) rfl ?_
    rw [HL.out]
    exact ⟨rfl, GPost.same H0.out.1 (H0.out.2.1.upd hu6 (Nat.le_refl _))⟩
  rw [if_neg hq]
  have HQ := Lib.hid (show d.isOut f = false by simpa using hq)
  clear hq
  go_wp2_with (first
    | ((with_reducible show wpList _ _ _ ((⟨none, _, _, _, _, _⟩ : Oper) :: _) _ _); refine wpList_store_blk (o := ⟨none, _, _, _, _, _⟩) ((Blk.new w1 91 #[.int .i64 0, .int .i64 0, .int .i64 0, .slice none 0 0, .slice none 0 0])) (by rfl) _ _ _ (by rfl) (by rfl) (#[.int .i64 k, .int .i64 1, .int .i64 s, .slice A l.length c, .slice B body.length e1]) (by rfl) (sizeGB) (by rfl) (by rfl) (by simp [Value.oneCell']) ?_; intro w2 h2 hu2; have hbx := ((Below.refl w1.heap.size w1).alloc (Nat.le_refl _) (.cells #[.int .i64 0, .int .i64 0, .int .i64 0, .slice none 0 0, .slice none 0 0] 91)).upd hu2 (Nat.le_refl _); have H2 := Lib.hid (And.intro h2 (And.intro (H0.out.2.1.trans (hbx.mono H0.out.2.1.size)) (And.intro (H0.out.2.2.1.below hbx H0.out.2.2.1.lt) (And.intro (H0.out.2.2.2.1.below hbx) (And.intro (H0.out.2.2.2.2.2.2.1.below hbx) (And.intro (Bytes.below H0.out.2.2.2.2.2.2.2.1 hbx) (And.intro (Tab.below H0.out.2.2.2.2.2.2.2.2 hbx) H0.out.2.2.1.lt))))))); clear hu2 hbx)
    | ((with_reducible show wpList _ _ _ ((⟨some 32, _, _, _, _, _⟩ : Oper) :: _) _ _); refine wpList_load_blk (o := ⟨some 32, _, _, _, _, _⟩) (h2) (by rfl) _ _ (by rfl) (by rfl) _ Tryd.underlying91 (by rfl) (sizeGB) (by rfl) ?_)
    | fail)
  have hsz1 := H2.out.2.2.2.2.2.2.2
  generalize w1.heap.size = gB at H2 h2 hsz1 ⊢
  clear h2
  refine (check_any k 1 s A B c e1 l body H0.out.2.2.2.2.1 H0.out.2.2.2.2.2.1 w2 H2.out.2.2.2.2.1).mono ?_
  rintro e w3 ⟨rfl, hbx⟩
  have H3 := Lib.hid (And.intro (H2.out.1.below hbx H2.out.1.lt) (And.intro (H2.out.2.1.trans (hbx.mono H2.out.2.1.size)) (And.intro (H2.out.2.2.1.below hbx H2.out.2.2.1.lt) (And.intro (H2.out.2.2.2.1.below hbx) (And.intro (H2.out.2.2.2.2.1.below hbx) (And.intro (Bytes.below H2.out.2.2.2.2.2.1 hbx) (Tab.below H2.out.2.2.2.2.2.2.1 hbx)))))))
  clear hbx H2
  by_cases hok : GB.ok (k, (1, s, ()), l, body, ()) = true
  case neg =>
    have hok' : GB.ok (k, (1, s, ()), l, body, ()) = false := by simpa using hok
    have HL : Hid (gput g d f k l body s = ((2, (0, 0, ())), g, d, f)) := Lib.hid (by unfold gput; rw [if_neg (by rw [HQ.out]; simp), if_pos hok'])
    rw [GB.code_no hok']
    have hbz := H3.out.2.2.1
    clear hok hok'
    go_wp2_with (first
      | ((with_reducible show wpList _ _ _ ((⟨none, _, _, _, _, _⟩ : Oper) :: _) _ _); refine wpList_store_blk (o := ⟨none, _, _, _, _, _⟩) (hbz) (by rfl) _ _ _ (by rfl) (by rfl) (#[.int .i64 0, .int .i64 0]) (by rfl) (size_ref) (by rfl) (by rfl) (by simp [Value.oneCell']) ?_; intro w6 h6 hu6)
      | fail)
    refine bodyPost_ret (results_row_tmp (by rfl) _ _ w.heap.size _ _ _ (by rfl) h6 Tryd.underlying33 (by rfl) size_ref) rfl ?_
    rw [HL.out]
    exact ⟨rfl, GPost.same H0.out.1 (H3.out.2.1.upd hu6 (Nat.le_refl _))⟩
  rw [GB.code_ok hok]
  have HOK := Lib.hid hok
  clear hok
  obtain ⟨wv, hgb⟩ := H3.out.2.2.2.1.blk
  have d2 := hgb.at_ 2 (v := .pointer (some ⟨q.gs, 0, none⟩)) rfl
  clear hgb
  go_wp2_with fail
  have hok3 := H3.out.2.2.2.1.ok
  refine (clone_any g.L (by have := hok3.len; have := hok3.h1; omega) q.gs w3 H3.out.2.2.2.1.st).mono ?_
  rintro e w4 ⟨rfl, hcs, hbx⟩
  have H4 := Lib.hid (And.intro (H3.out.1.below hbx H3.out.1.lt) (And.intro (H3.out.2.1.trans (hbx.mono H3.out.2.1.size)) (And.intro (H3.out.2.2.1.below hbx H3.out.2.2.1.lt) (And.intro (H3.out.2.2.2.1.below hbx) (And.intro (H3.out.2.2.2.2.1.below hbx) (And.intro (Bytes.below H3.out.2.2.2.2.2.1 hbx) (And.intro (Tab.below H3.out.2.2.2.2.2.2 hbx) (And.intro H3.out.1.lt (And.intro H3.out.2.1.size H3.out.2.2.1.lt)))))))))
  clear hbx d2 hok3
  generalize w3.heap.size = gS at hcs H4 ⊢
  clear H3
  go_wp2_with fail
  have hok4 := H4.out.2.2.2.1.ok
  refine (acquire_any g.L hok4.set (by have := hok4.len; have := hok4.h1; omega) gS w4 hcs H4.out.2.2.2.2.2.2.1).mono ?_
  rintro e w5 ⟨rfl, hcs5, hu5⟩
  have hB5 := H4.out.2.1.upd hu5 H4.out.2.2.2.2.2.2.2.2.1
  have H5 := Lib.hid (And.intro (H4.out.1.upd hu5 (Nat.ne_of_lt H4.out.2.2.2.2.2.2.2.1)) (And.intro hB5 (And.intro (H4.out.2.2.1.upd hu5 (Nat.ne_of_lt H4.out.2.2.2.2.2.2.2.2.2)) (And.intro hcs5 (And.intro (H0.out.1.below hB5) (And.intro hcs5.lt H4.out.2.2.2.2.2.2.2.2.2))))))
  have HS := Lib.hid hok4.set
  have HN := Lib.hid hok4
  clear hB5 hcs5 hu5 hcs H4 hok4
  by_cases he : acqE g.L ≠ 0
  · have HL : Hid (gput g d f k l body s = ((acqE g.L, (0, 0, ())), g, d, f)) := Lib.hid (by unfold gput; rw [if_neg (by rw [HQ.out]; simp), if_neg (by rw [HOK.out]; simp), if_pos he])
    have he8 : acqE g.L = 8 := by unfold acqE at he ⊢; split at he <;> simp_all
    rw [he8] at HL ⊢
    have hbz := H5.out.2.2.1
    clear he he8
    go_wp2_with (first
      | ((with_reducible show wpList _ _ _ ((⟨none, _, _, _, _, _⟩ : Oper) :: _) _ _); refine wpList_store_blk (o := ⟨none, _, _, _, _, _⟩) (hbz) (by rfl) _ _ _ (by rfl) (by rfl) (#[.int .i64 0, .int .i64 0]) (by rfl) (size_ref) (by rfl) (by rfl) (by simp [Value.oneCell']) ?_; intro w6 h6 hu6)
      | fail)
    refine bodyPost_ret (results_row_tmp (by rfl) _ _ w.heap.size _ _ _ (by rfl) h6 Tryd.underlying33 (by rfl) size_ref) rfl ?_
    rw [HL.out]
    exact ⟨rfl, GPost.same H0.out.1 (H5.out.2.1.upd hu6 (Nat.le_refl _))⟩
  have he0 : acqE g.L = 0 := by simpa using he
  have hra := acq_range HS.out he
  have HL0 : Hid (gput g d f k l body s = if (d.write f (gplace (acqN g.L)) (GB.bytes (k, (acqN g.L, s, ()), l, body, ()))).1 ≠ 0 then (((d.write f (gplace (acqN g.L)) (GB.bytes (k, (acqN g.L, s, ()), l, body, ()))).1, (0, 0, ())), g, (d.write f (gplace (acqN g.L)) (GB.bytes (k, (acqN g.L, s, ()), l, body, ()))).2)
    else ((0, (acqN g.L, s, ())), { g with L := acqL g.L }, (d.write f (gplace (acqN g.L)) (GB.bytes (k, (acqN g.L, s, ()), l, body, ()))).2)) := Lib.hid (by unfold gput; rw [if_neg (by rw [HQ.out]; simp), if_neg (by rw [HOK.out]; simp), if_neg he])
  have HA := Lib.hid hra
  have HOA := Lib.hid (GB.ok_at HOK.out hra.1 hra.2.2)
  rw [he0]
  clear he he0 hra
  have dB := H5.out.1.at_ 1 (v := .int .i64 1) rfl
  have fB := H5.out.1.frozen 1
  have hB12 : Blk (w5.setCell ⟨gB, 1, none⟩ (.int .i64 (acqN g.L))) gB 91 #[.int .i64 k, .int .i64 (acqN g.L), .int .i64 s, .slice A l.length c, .slice B body.length e1] := H5.out.1.set_ 1 _
  have hu12 : Upd gB w5 (w5.setCell ⟨gB, 1, none⟩ (.int .i64 (acqN g.L))) := (Upd.refl _ _).set 1 _
  go_wp2_with (first
    | ((with_reducible show wpList _ _ _ ((⟨some 54, _, _, _, _, _⟩ : Oper) :: _) _ _); refine wpList_load_blk (o := ⟨some 54, _, _, _, _, _⟩) (hB12) (by rfl) _ _ (by rfl) (by rfl) _ Tryd.underlying91 (by rfl) (sizeGB) (by rfl) ?_)
    | fail)
  have hB6 := H5.out.2.1.upd hu12 (Nat.le_of_lt hsz1)
  have H6 := Lib.hid (And.intro hB12 (And.intro hB6 (And.intro (H5.out.2.2.1.upd hu12 (Nat.ne_of_lt hsz1)) (And.intro (H5.out.2.2.2.1.upd hu12 (H5.out.2.2.2.1.apart H5.out.1 (by decide))) (And.intro (H0.out.1.below hB6) (And.intro (Nat.lt_of_lt_of_le H5.out.2.2.2.2.2.1 (Nat.le_of_eq hu12.size.symm)) H5.out.2.2.2.2.2.2))))))
  clear hB12 hB6 dB fB hu12
  generalize w5.setCell ⟨gB, 1, none⟩ (.int .i64 (acqN g.L)) = w6 at H6 ⊢
  clear H5
  refine (bytes_ok k (acqN g.L) s A B c e1 l body HOA.out w6 (HW.out.1.below H6.out.2.1) (Bytes.below HW.out.2.1 H6.out.2.1)).mono ?_
  rintro e w7 ⟨gY, rfl, hgY, hY, hbx⟩
  have hB7 := H6.out.2.1.trans (hbx.mono H6.out.2.1.size)
  have H7 := Lib.hid (And.intro (H6.out.1.below hbx H6.out.1.lt) (And.intro hB7 (And.intro (H6.out.2.2.1.below hbx H6.out.2.2.1.lt) (And.intro (H6.out.2.2.2.1.below hbx H6.out.2.2.2.1.lt) (And.intro (H0.out.1.below hB7) (And.intro (Nat.lt_of_lt_of_le H6.out.2.2.2.2.2.1 hbx.size) (And.intro H6.out.2.2.2.2.2.2 (And.intro (Nat.le_trans H6.out.2.1.size hgY) hY))))))))
  clear hB7 hbx hgY hY H6
  go_wp2_with fail
  have hap := H7.out.2.2.2.2.1.apart
  have hN0 : Near (q.p.all q.gf) w7 w7 := Near.refl _ _
  have e0 : ∀ w', Near (q.p.all q.gf) w7 w' → w'.cell? ⟨q.gg, 0, none⟩ = some (.pointer (some ⟨q.p.gd, 0, none⟩)) := fun w' hw' => by
    obtain ⟨wv, sp, -, h2, -⟩ := H7.out.2.2.2.2.1.wn
    exact (h2.near hw' hap.g).at_ 0 (v := .pointer (some ⟨q.p.gd, 0, none⟩)) rfl
  have e0 := Lib.hid e0
  have hap := Lib.hid hap
  refine wp_region_tree (Near (q.p.all q.gf) w7) [] (PlanT.takes [0, 1, 2, 4, 6] (PlanT.takes [3] (.opt 5 (.opt 7 (PlanT.takes [8] .done) .no) .no))) (by kernel_rfl) (by kernel_rfl) (hN0.drew) ?_
  refine wpTree_pure _ _ _ (by rfl) (by rfl) ?_
  dsimp only [List.filterMap, List.getElem?_cons_zero, List.getElem?_cons_succ]
  repeat (go_big_quiet_step (fail))
  refine wpQuiet_nil ?_
  refine wpTree_takeL _ _ _ (by rfl) (by rfl) (hN0.drew) ?_
  dsimp only [List.filterMap, List.getElem?_cons_zero, List.getElem?_cons_succ]
  (refine wpQuiet_load_cell (fun w' hw' => e0.out w' hw') (by rfl) _ _ (by rfl) (by rfl) _ Tryd.underlying25 (by rfl) ?_; simp only [Act.put, List.setIfInBounds_toArray, List.set_cons_zero, List.set_cons_succ])
  refine wpQuiet_nil ?_
  refine wpTree_one _ rfl ?_
  go_wp2_with fail
  refine (gplace_any (acqN g.L) HA.out.1 (by have := HA.out.2; omega) _).mono ?_
  rintro e w8 ⟨rfl, hw8⟩
  have hk8 : Near [] w7 w8 := by rw [hw8]; exact (Near.refl _ _).drew
  have H8 := Lib.hid (And.intro (H7.out.2.2.2.2.1.dk.nearX hk8 (fun _ _ => List.not_mem_nil)) (hk8.wider (Y := q.p.all q.gf) (fun x hx => by simp at hx)))
  have hY8 := H7.out.2.2.2.2.2.2.2.2.near hk8 List.not_mem_nil
  clear hw8 hk8 hN0
  go_wp2_with fail
  refine TreeQ.in_ H8.out.2 ?_
  refine wpTree_one _ rfl ?_
  go_wp2_with fail
  have hlt := H0.out.1.dk.lt
  have hgY := H7.out.2.2.2.2.2.2.2.1
  have hlenY := GB.bytes_length (k, (acqN g.L, s, ()), l, body, ()) (GB.ok_spec HOA.out).2.2.1 (GB.ok_spec HOA.out).2.2.2.1
  refine (write_ok' (gplace (acqN g.L)) 1024 1024 (some ⟨gY, 0, none⟩) (GB.bytes (k, (acqN g.L, s, ()), l, body, ())) w8 hlenY.symm (Blk.bytes hY8) (fun ad e hx => by cases e; have h2 : gY < w.heap.size := hlt _ hx; omega) (by rw [hlenY]; exact Nat.le_refl _) (by rw [hlenY]; omega) H8.out.1).mono ?_
  rintro e w9 ⟨rfl, hdk9, hn9⟩
  have hk9 := H8.out.2.trans hn9
  have hN9 := Dsk.write_N d f (gplace (acqN g.L)) (GB.bytes (k, (acqN g.L, s, ()), l, body, ()))
  have HL1 := HL0.out
  generalize d.write f (gplace (acqN g.L)) (GB.bytes (k, (acqN g.L, s, ()), l, body, ())) = W at hdk9 hN9 HL1 ⊢
  obtain ⟨c0, d2, f2⟩ := W
  simp only at hdk9 hN9 HL1 ⊢
  have hof : ∀ x, w.heap.size ≤ x → x ∉ q.p.all q.gf := fun x hx hm => by have := hlt x hm; omega
  have H9 := Lib.hid (And.intro (H7.out.1.near hk9 (hof _ (Nat.le_of_lt hsz1))) (And.intro (H7.out.2.2.1.near hk9 (hof _ (Nat.le_refl _))) (And.intro (H7.out.2.2.2.1.near hk9 (hof _ (Nat.le_of_lt H7.out.2.2.2.2.2.2.1))) (And.intro (H7.out.2.2.2.2.1.wrote hdk9 hk9 hN9) (And.intro (((Near.below H7.out.2.1 : Near (q.p.all q.gf) w w7).trans hk9).wider (Y := q.all) (fun x hx => GPl.mem.2 (.inr (.inr (.inr (.inr hx)))))) H7.out.2.2.2.2.2.2.1)))))
  have HL1 := Lib.hid HL1
  have hC9 := Lib.hid hk9
  clear hdk9 hk9 hN9 hn9 hof hlenY hlt hgY hY8 HL0 H8 H7
  go_wp2_with fail
  refine TreeQ.in_ hC9.out ?_
  refine wpTree_pure _ _ _ (by rfl) (by rfl) ?_
  dsimp only [List.filterMap, List.getElem?_cons_zero, List.getElem?_cons_succ]
  repeat (go_big_quiet_step (fail))
  refine wpQuiet_nil ?_
  refine wpTree_done ?_
  clear hC9 e0
  by_cases he : c0 = 0
  case neg =>
    have HL2 := Lib.hid (HL1.out.trans (if_pos he))
    have kn := decide_eq_false he
    have hbz := H9.out.2.1
    go_wp2_with (first
      | ((with_reducible show wpList _ _ _ ((⟨none, _, _, _, _, _⟩ : Oper) :: _) _ _); refine wpList_store_blk (o := ⟨none, _, _, _, _, _⟩) (hbz) (by rfl) _ _ _ (by rfl) (by rfl) (#[.int .i64 0, .int .i64 0]) (by rfl) (size_ref) (by rfl) (by rfl) (by simp [Value.oneCell']) ?_; intro w10 h10 hu10)
      | fail)
    refine bodyPost_ret (results_row_tmp (by rfl) _ _ w.heap.size _ _ _ (by rfl) h10 Tryd.underlying33 (by rfl) size_ref) rfl ?_
    rw [HL2.out]
    exact ⟨rfl, GPost.last H0.out.1 rfl rfl rfl H9.out.2.2.2.1 H9.out.2.2.2.2.1 (fun y hy => .inl hy) hu10 (Nat.le_refl _)⟩
  subst he
  have HL2 := Lib.hid (HL1.out.trans (if_neg (by simp)))
  clear HL1
  obtain ⟨wv, sp, -, hgb, -⟩ := H9.out.2.2.2.1.wn
  have d2' := hgb.at_ 2 (v := .pointer (some ⟨q.gs, 0, none⟩)) rfl
  have f2' := hgb.frozen 2
  have hST := GridR.setTo H9.out.2.2.2.1 H9.out.2.2.1 HS.out.acq ((acqL_length g.L).trans HN.out.len)
  have hgg : q.gg < w.heap.size := H0.out.1.lt _ (GPl.mem.2 (.inl rfl))
  have H10 := Lib.hid (And.intro (H9.out.1.upd hST.2 (by omega)) (And.intro (H9.out.2.1.upd hST.2 (by omega)) (And.intro hST.1 (H9.out.2.2.2.2.1.trans (Near.upd hST.2 (GPl.mem.2 (.inl rfl)))))))
  have hB10 := H10.out.1
  have hbz := H10.out.2.1
  clear hgb hST
  go_wp2_with (first
    | ((with_reducible show wpList _ _ _ ((⟨some 75, _, _, _, _, _⟩ : Oper) :: _) _ _); refine wpList_load_mid (o := ⟨some 75, _, _, _, _, _⟩) (range2 (b := gB) (off := 1) (u := .int .i64 (acqN g.L)) (v := .int .i64 s) (hB10.at_ 1 (v := .int .i64 (acqN g.L)) rfl) (hB10.at_ 2 (v := .int .i64 s) rfl)) (by rfl) _ _ (by rfl) (by rfl) _ Tryd.underlying33 (by rfl) size_ref (by rfl) ?_)
    | ((with_reducible show wpList _ _ _ ((⟨none, _, _, _, _, _⟩ : Oper) :: _) _ _); refine wpList_store_blk (o := ⟨none, _, _, _, _, _⟩) (hbz) (by rfl) _ _ _ (by rfl) (by rfl) (#[.int .i64 (acqN g.L), .int .i64 s]) (by rfl) (size_ref) (by rfl) (by rfl) (by simp [Value.oneCell']) ?_; intro w10 h10 hu10)
    | fail)
  refine bodyPost_ret (results_row_tmp (by rfl) _ _ w.heap.size _ _ _ (by rfl) h10 Tryd.underlying33 (by rfl) size_ref) rfl ?_
  rw [HL2.out]
  refine ⟨rfl, GPost.last (q' := { q with gs := gS }) H0.out.1 rfl rfl rfl H10.out.2.2.1 H10.out.2.2.2 (fun y hy => ?_) hu10 (Nat.le_refl _)⟩
  rcases GPl.mem.1 hy with e | e | e | e | e
  · exact .inl (GPl.mem.2 (.inl e))
  · exact .inr (by rw [e]; exact H9.out.2.2.2.2.2)
  · exact .inl (GPl.mem.2 (.inr (.inr (.inl e))))
  · exact .inl (GPl.mem.2 (.inr (.inr (.inr (.inl e)))))
  · exact .inl (GPl.mem.2 (.inr (.inr (.inr (.inr e)))))
end
end Go.Proofs.YtgkljncigbiffaaDoor

/- The program's set of blocks: what was let go is settled. Conditions: the set's block is known. -/
namespace Go.Proofs.YtgkljncigbiffaaDoor
open Go.RowKit
/-- How many of the first m blocks are let go. -/
def cnt (L : List Nat) (m : Nat) : Nat := ((List.range m).filter fun i => decide (1 < L.getD i 0)).length
theorem cnt_le (L : List Nat) (m : Nat) : cnt L m ≤ m := by unfold cnt; exact Nat.le_trans (List.length_filter_le _ _) (by simp)
theorem cnt_word (L : List Nat) (k : Nat) : cnt L (64 * (k + 1)) = cnt L (64 * k) + pop 64 (gw L k) := by
  unfold cnt gw
  rw [wf_pop, show 64 * (k + 1) = 64 * k + 64 by omega, List.range_add, List.filter_append, List.length_append, List.filter_map, List.length_map]
  rfl
theorem cnt_succ (L : List Nat) (m : Nat) : cnt L (m + 1) = cnt L m + if 1 < L.getD m 0 then 1 else 0 := by
  unfold cnt
  rw [List.range_succ, List.filter_append, List.length_append, List.filter_cons]
  by_cases h : 1 < L.getD m 0
  · rw [if_pos (by simpa using h), if_pos h]; rfl
  · rw [if_neg (by simpa using h), if_neg h]; rfl
theorem getD_out {L : List Nat} {m : Nat} (h : L.length ≤ m) : L.getD m 0 = 0 := by rw [List.getD_eq_getElem?_getD, List.getElem?_eq_none h]; rfl
theorem cnt_len (L : List Nat) : ∀ d, cnt L (L.length + d) = cnt L L.length
  | 0 => rfl
  | d + 1 => by rw [← Nat.add_assoc, cnt_succ, cnt_len L d, getD_out (by omega)]; rfl
theorem cnt_all {L : List Nat} (h : L.length ≤ 512) : cnt L 512 = cnt L L.length := by
  have := cnt_len L (512 - L.length)
  rwa [show L.length + (512 - L.length) = 512 by omega] at this
def setl (L : List Nat) : List Nat := L.map fun x => if x = 2 then 0 else x
theorem setl_getD (L : List Nat) (i : Nat) : (setl L).getD i 0 = if L.getD i 0 = 2 then 0 else L.getD i 0 := by
  unfold setl
  simp only [List.getD_eq_getElem?_getD, List.getElem?_map]
  cases L[i]? <;> simp
theorem setl_length (L : List Nat) : (setl L).length = L.length := by simp [setl]
theorem SetOk.setl {L : List Nat} (h : SetOk L) : SetOk (setl L) :=
  ⟨by rw [setl_length]; exact h.len, fun i => by rw [setl_getD]; split; · omega
                                                 exact h.le i⟩
theorem tw_setl {L : List Nat} (h : SetOk L) (k : Nat) : tw (setl L) k = tw L k &&& (18446744073709551615 - gw L k) := by
  unfold tw gw
  rw [wf_without]
  refine wf_congr fun i _ => ?_
  rw [setl_getD]
  have := h.le (64 * k + i)
  generalize L.getD (64 * k + i) 0 = x at this ⊢
  have hx : x = 0 ∨ x = 1 ∨ x = 2 := by omega
  rcases hx with rfl | rfl | rfl <;> rfl
theorem gw_setl {L : List Nat} (h : SetOk L) (k : Nat) : gw (setl L) k = 0 := wf_none fun i _ => by
  rw [setl_getD]
  have := h.le (64 * k + i)
  generalize L.getD (64 * k + i) 0 = x at this ⊢
  have hx : x = 0 ∨ x = 1 ∨ x = 2 := by omega
  rcases hx with rfl | rfl | rfl <;> rfl
/-- The cells when the first k words are settled. -/
def setvS (L : List Nat) (k i : Nat) : Value := if i = 0 then .int .i64 (L.length : Nat) else if i < 9 then .int .u64 ((if i - 1 < k then tw (setl L) (i - 1) else tw L (i - 1) : Nat) : Int) else .int .u64 ((if i - 9 < k then 0 else gw L (i - 9) : Nat) : Int)
theorem setvS_0 (L : List Nat) : arr 17 (setvS L 0) = setCells L := arr_congr fun i _ => by unfold setvS setv; simp
theorem setvS_8 {L : List Nat} (h : SetOk L) : arr 17 (setvS L 8) = setCells (setl L) := arr_congr fun i hi => by
  unfold setvS setv
  rw [setl_length, gw_setl h]
  by_cases c0 : i = 0
  · rw [if_pos c0, if_pos c0]
  · rw [if_neg c0, if_neg c0]
    by_cases c1 : i < 9
    · rw [if_pos c1, if_pos c1, if_pos (by omega)]
    · rw [if_neg c1, if_neg c1, if_pos (by omega)]
theorem setvS_step (L : List Nat) (k : Nat) (hk : k < 8) (a b : Value) (ha : a = .int .u64 (tw (setl L) k : Nat)) (hb : b = .int .u64 0) :
    ((arr 17 (setvS L k)).setIfInBounds (1 + k) a).setIfInBounds (9 + k) b = arr 17 (setvS L (k + 1)) := by
  subst ha hb
  simp only [arr_set]
  refine arr_congr fun i hi => ?_
  unfold setvS
  by_cases e2 : i = 9 + k
  · subst e2
    rw [if_pos rfl, if_neg (by omega), if_neg (by omega), if_pos (by omega)]; rfl
  · rw [if_neg e2]
    by_cases e1 : i = 1 + k
    · subst e1
      rw [if_pos rfl, if_neg (by omega), if_pos (by omega), if_pos (by omega), Nat.add_sub_cancel_left]
    · rw [if_neg e1]
      by_cases c0 : i = 0
      · rw [if_pos c0, if_pos c0]
      · rw [if_neg c0, if_neg c0]
        by_cases c1 : i < 9
        · rw [if_pos c1, if_pos c1]
          by_cases c2 : i - 1 < k
          · rw [if_pos c2, if_pos (by omega)]
          · rw [if_neg c2, if_neg (by omega)]
        · rw [if_neg c1, if_neg c1]
          by_cases c2 : i - 9 < k
          · rw [if_pos c2, if_pos (by omega)]
          · rw [if_neg c2, if_neg (by omega)]
/-- Ahead of each word. -/
def SetlRel (L : List Nat) (g : Nat) (w : World) (n v : Value) (wr : World) : Prop :=
  ∃ k : Nat, k ≤ 8 ∧ v = .int .i64 (k : Int) ∧ n = .int .i64 (cnt L (64 * k) : Nat) ∧ Blk wr g 203 (arr 17 (setvS L k)) ∧ Upd g w wr
theorem u64_without (x y : Nat) (hx : x < 18446744073709551616) (hy : y < 18446744073709551616) : bits .andNot .u64 (x : Int) (y : Int) = ((x &&& (18446744073709551615 - y) : Nat) : Int) :=
  u64_andNot_nat x y hx hy
set_option maxHeartbeats 1000000 in
set_option maxRecDepth 100000 in
theorem settle_any (L : List Nat) (hok : SetOk L) (h0 : 0 < L.length) (g : Nat) (w : World) (h : Blk w g 203 (setCells L)) :
    Calls Tryd.prog 95 #[.pointer (some ⟨g, 0, none⟩)] w fun e w' => e = .returned (.int .i64 (cnt L L.length : Nat)) ∧ Blk w' g 203 (setCells (setl L)) ∧ Upd g w w' := by
  have hn := none_any L g w h
  rw [decide_eq_false (by omega)] at hn
  have hr := range8g h
  have HX := Lib.hid (idx8 (gw L))
  go_enter Tryd.func95, Tryd.ntmps95
  go_wp2_with (first
    | (go_at_call 129; refine hn.mono ?_; rintro e w' ⟨rfl, rfl⟩)
    | (show wpList _ _ _ ((⟨some 11, _, _, _, _, _⟩ : Oper) :: _) _ _; refine wpList_load_mid (o := ⟨some 11, _, _, _, _, _⟩) hr (by rfl) _ _ (by rfl) (by rfl) _ Tryd.underlying201 (by rfl) setSize8 (by rfl) ?_)
    | fail)
  go_loopw [3, 12] (fun n v wr => SetlRel L g w n v wr) (fun _ v _ => 8 - (intOf v).toNat)
  case atStart => exact ⟨0, by omega, rfl, rfl, h.sub (setvS_0 L).symm, Upd.refl _ _⟩
  case round =>
    clear h hr hn
    obtain ⟨k, hk, rfl, rfl, hw, hu⟩ := hrel
    by_cases hk8 : k < 8
    · have hidx := HX.out k hk8 wr
      have hx := gw_lt L k
      have ht := tw_lt L k
      have hone := ones_any (gw L k) hx wr
      have X1 := u64_without (tw L k) (gw L k) ht hx
      rw [← tw_setl hok] at X1
      have d1 : wr.cell? ⟨g, 1 + k, none⟩ = some (.int .u64 (tw L k : Nat)) := hw.at_ (1 + k) (by rw [arr_at _ (by omega)]; unfold setvS; rw [if_neg (by omega), if_pos (by omega), if_neg (by omega), Nat.add_sub_cancel_left])
      have f1 := hw.frozen (1 + k)
      have hp := pop_le 64 (gw L k)
      have hcl := cnt_le L (64 * k)
      obtain ⟨p, hpe⟩ : ∃ p, p = pop 64 (gw L k) := ⟨_, rfl⟩
      obtain ⟨x, hxe⟩ : ∃ x, x = gw L k := ⟨_, rfl⟩
      obtain ⟨t', hte⟩ : ∃ t', t' = tw (setl L) k := ⟨_, rfl⟩
      obtain ⟨t, htte⟩ : ∃ t, t = tw L k := ⟨_, rfl⟩
      obtain ⟨c, hce⟩ : ∃ c, c = cnt L (64 * k) := ⟨_, rfl⟩
      rw [← hpe] at hone hp
      rw [← hxe] at hidx hone X1
      rw [← hte, ← htte] at X1
      rw [← htte] at d1
      rw [← hce] at hcl ⊢
      have HE := Lib.hid (And.intro hpe (And.intro hte hce))
      have HW := Lib.hid hw
      have HU := Lib.hid hu
      clear hpe hte hce hxe htte hx ht hw hu
      go_wp2_with fail
      refine hone.mono ?_
      rintro e w' ⟨rfl, rfl⟩
      go_wp2
      go_region
      have h1 := (HW.out.set_ (1 + k) (.int .u64 (t' : Int))).drew
      have hU1 := Lib.hid (HU.out.trans (Upd.drew ((Upd.refl g wr).set (1 + k) (.int .u64 (t' : Int)))))
      generalize (World.setCell wr _ _).drew = w1 at h1 hU1 ⊢
      clear d1 f1 HW HU hone
      have d2 : ∃ u, w1.cell? ⟨g, 9 + k, none⟩ = some u := ⟨_, h1.at_ (9 + k) (Array.getElem?_eq_getElem (by simp [arr_size]; omega))⟩
      have f2 := h1.frozen (9 + k)
      have H1 := Lib.hid h1
      obtain ⟨u, d2⟩ := d2
      clear h1
      go_wp2
      go_roundw
      case rel =>
        refine ⟨k + 1, by omega, by go_num, ?_, (H1.out.set_ (9 + k) (.int .u64 0)).sub (setvS_step L k hk8 _ _ (by rw [HE.out.2.1]) rfl), hU1.out.trans ((Upd.refl g w1).set (9 + k) (.int .u64 0))⟩
        rw [cnt_word, ← HE.out.1, ← HE.out.2.2]; go_num
      case measure => simp [intOf]; omega
    · obtain rfl : k = 8 := by omega
      have hc := cnt_all hok.len
      have hcl := cnt_le L 512
      generalize cnt L (64 * 8) = c at hc hcl ⊢
      have HC := Lib.hid hc
      have HW := Lib.hid hw
      clear hc hw
      go_wp2
      go_ret
      exact ⟨ret_int (by rw [HC.out]), HW.out.sub (setvS_8 hok), hu⟩
end Go.Proofs.YtgkljncigbiffaaDoor
