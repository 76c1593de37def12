/- The chapter's examples of journals that each statement looks at. No condition. (Printed by gen/jt.py.) -/
import Derived.Test.YtfoegmjpfkmggaaDoorMJournalKnown14
namespace Go.Proofs.YtfoegmjpfkmggaaDoor
open Go.RowKit
def l00 : List SlT := List.replicate 16 (4, 0, 0, false)
def jA1 : List UInt8 := jwr (jL0 (Dsk.new 104).L) (jX 1 0 []) 1
def jA2 : List UInt8 := jwr jA1 (jX 17 2 []) 1
theorem jm1_ok : JmOk 1 0 [] := ⟨by omega, by omega, by omega, by omega, by simp⟩
theorem jm17_ok : JmOk 17 2 [] := ⟨by omega, by omega, by omega, by omega, by simp⟩
theorem jD0_len : 26624 ≤ (Dsk.new 104).L.length := by show 26624 ≤ (List.replicate (104 * 256) (0 : UInt8)).length; rw [List.length_replicate]; omega
theorem jL0_len : 26624 ≤ (jL0 (Dsk.new 104).L).length := by rw [jL0_length jD0_len]; exact jD0_len
theorem jA1_len : 26624 ≤ jA1.length := by unfold jA1; rw [jwr_length jL0_len (jX_len jm1_ok) (by omega)]; exact jL0_len
theorem jA1_get : ∃ F, jget jA1 (l00.set 1 (1, 1, 0, false)) 1 = ((0, F, []), l00.set 1 (1, 1, 0, false)) ∧ Hd.same F (jm 1 0 0) :=
  jX_get jm1_ok (by show jpr jA1 1 = _; unfold jA1; rw [jpr_jwr jL0_len (jX_len jm1_ok) (by omega) (by omega), if_pos rfl]) (m := false) (by rfl)
theorem jA1_get2 : jget jA1 (l00.set 1 (1, 1, 0, false)) 2 = ((6, Hd.none_, []), l00.set 1 (1, 1, 0, false)) := by
  unfold jget
  rw [if_neg (by omega), if_pos (.inl (by decide +kernel))]
theorem jA2_get1 : jget jA2 ((l00.set 1 (1, 1, 0, false)).set 1 (1, 17, 2, false)) 1 = ((6, Hd.none_, []), (l00.set 1 (1, 1, 0, false)).set 1 (1, 17, 2, false)) := by
  unfold jget
  rw [if_neg (by omega), if_pos (.inl (by decide +kernel))]
theorem jA2_pr : jpr jA2 1 = jX 17 2 [] := by unfold jA2; rw [jpr_jwr jA1_len (jX_len jm17_ok) (by omega) (by omega), if_pos rfl]
theorem jA2_hd : jhd jA2 1 = (jX 17 2 []).take 256 := by unfold jA2; rw [jhd_jwr jA1_len (jX_len jm17_ok) (by omega) (by omega), if_pos rfl]
theorem jA2_get17 : ∃ F, jget jA2 (jopd jA2 16) 17 = ((0, F, []), jopd jA2 16) ∧ Hd.same F (jm 17 2 0) := by
  refine jX_get jm17_ok (m := false) jA2_pr ?_
  show jst (jopd jA2 16) 1 = _
  have h1 : 1 < (jopd jA2 16).length := by rw [jopd_length]; omega
  rw [← jst_at h1, jopd_at, if_pos (by omega), jA2_hd, jA2_pr]
  exact jX_judge jm17_ok
theorem Hd.beq_of {F g : HdF} (h : Hd.same F g) : Hd.beq F g = true := (Hd.beq_same F g).2 h
theorem zeroHd_beq : Hd.beq Hd.none_ zeroHd = true := Hd.beq_of (fun _ _ => rfl)
theorem jA1_t1 : ((jget jA1 (l00.set 1 (1, 1, 0, false)) 1).1.1 == 0 && (Hd.beq (jget jA1 (l00.set 1 (1, 1, 0, false)) 1).1.2.1 (jm 1 0 0) && decide ((jget jA1 (l00.set 1 (1, 1, 0, false)) 1).1.2.2 = []))) = true := by
  obtain ⟨F, h1, h2⟩ := jA1_get
  rw [h1]
  simp [Hd.beq_of h2]
theorem jA1_s1 : (jget jA1 (l00.set 1 (1, 1, 0, false)) 1).2 = l00.set 1 (1, 1, 0, false) := by
  obtain ⟨F, h1, h2⟩ := jA1_get
  rw [h1]
theorem jA1_t2 : ((jget jA1 (l00.set 1 (1, 1, 0, false)) 2).1.1 == 6 && (Hd.beq (jget jA1 (l00.set 1 (1, 1, 0, false)) 2).1.2.1 zeroHd && decide ((jget jA1 (l00.set 1 (1, 1, 0, false)) 2).1.2.2 = []))) = true := by
  rw [jA1_get2]
  simp [zeroHd_beq]
theorem jA2_t1 : ((jget jA2 ((l00.set 1 (1, 1, 0, false)).set 1 (1, 17, 2, false)) 1).1.1 == 6 && (Hd.beq (jget jA2 ((l00.set 1 (1, 1, 0, false)).set 1 (1, 17, 2, false)) 1).1.2.1 zeroHd && decide ((jget jA2 ((l00.set 1 (1, 1, 0, false)).set 1 (1, 17, 2, false)) 1).1.2.2 = []))) = true := by
  rw [jA2_get1]
  simp [zeroHd_beq]
theorem jA2_t17 : ((jget jA2 (jopd jA2 16) 17).1.1 == 0 && (Hd.beq (jget jA2 (jopd jA2 16) 17).1.2.1 (jm 17 2 0) && decide ((jget jA2 (jopd jA2 16) 17).1.2.2 = []))) = true := by
  obtain ⟨F, h1, h2⟩ := jA2_get17
  rw [h1]
  simp [Hd.beq_of h2]
set_option maxRecDepth 100000 in
set_option maxHeartbeats 4000000 in
theorem jawake_any (w : World) : Calls Tryd.prog 7 #[] w fun e w' => e = .returned (.bool true) ∧ Below w.heap.size w w' := by
  go_enter Tryd.func7, Tryd.ntmps7
  go_wp2_with fail
  refine (jfresh_any w).mono ?_
  rintro e w1 ⟨p, gj, rfl, hJ, hX, hB⟩
  have H1 := Lib.hid (And.intro hJ (And.intro hX hB))
  clear hJ hX hB
  go_wp2_with fail
  refine (jprep_any 17 2 [] (by simp) w1).mono ?_
  rintro e w2 ⟨g2, c2, rfl, hg2, -, hc2, hb2⟩
  have hjl := H1.out.1.lt
  have H2 := Lib.hid (And.intro hc2 (And.intro hb2 (And.intro (show g2 ≠ gj by omega) hg2.2)))
  clear hc2 hb2 hg2
  go_wp2_with fail
  refine (jprep_any 1 0 [] (by simp) w2).mono ?_
  rintro e w3 ⟨g3, c3, rfl, hg3, -, hc3, hb3⟩
  have hB13 := H2.out.2.1.trans (hb3.mono H2.out.2.1.size)
  have hJ3 := H1.out.1.below hB13
  have hB3 := H1.out.2.2.trans (hB13.mono H1.out.2.2.size)
  have hQ4 := (Blk.new w3 38 #[.int .i64 0, .int .i64 0, .int .i64 0, .int .i64 0, .int .i64 0, .int .i64 0, .int .i64 0, .int .i64 0, .int .i64 0, .int .u64 0, .int .u64 0, .int .i64 0, .int .i64 0, .int .u64 0, .int .i64 0, .int .i64 0, .slice none 0 0]).sub zeroMsg_cells.symm
  have hQ5 := (Blk.new' (w3.alloc (.cells #[.int .i64 0, .int .i64 0, .int .i64 0, .int .i64 0, .int .i64 0, .int .i64 0, .int .i64 0, .int .i64 0, .int .i64 0, .int .u64 0, .int .u64 0, .int .i64 0, .int .i64 0, .int .u64 0, .int .i64 0, .int .i64 0, .slice none 0 0] 38)) 38 #[.int .i64 0, .int .i64 0, .int .i64 0, .int .i64 0, .int .i64 0, .int .i64 0, .int .i64 0, .int .i64 0, .int .i64 0, .int .u64 0, .int .u64 0, .int .i64 0, .int .i64 0, .int .u64 0, .int .i64 0, .int .i64 0, .slice none 0 0] (n := w3.heap.size + 1) (by simp)).sub zeroMsg_cells.symm
  have hQ4' := hQ4.alloc (.cells #[.int .i64 0, .int .i64 0, .int .i64 0, .int .i64 0, .int .i64 0, .int .i64 0, .int .i64 0, .int .i64 0, .int .i64 0, .int .u64 0, .int .u64 0, .int .i64 0, .int .i64 0, .int .u64 0, .int .i64 0, .int .i64 0, .slice none 0 0] 38)
  have hBa := ((Below.refl w3.heap.size w3).alloc (Nat.le_refl _) (.cells #[.int .i64 0, .int .i64 0, .int .i64 0, .int .i64 0, .int .i64 0, .int .i64 0, .int .i64 0, .int .i64 0, .int .i64 0, .int .u64 0, .int .u64 0, .int .i64 0, .int .i64 0, .int .u64 0, .int .i64 0, .int .i64 0, .slice none 0 0] 38)).alloc (by simp) (.cells #[.int .i64 0, .int .i64 0, .int .i64 0, .int .i64 0, .int .i64 0, .int .i64 0, .int .i64 0, .int .i64 0, .int .i64 0, .int .u64 0, .int .u64 0, .int .i64 0, .int .i64 0, .int .u64 0, .int .i64 0, .int .i64 0, .slice none 0 0] 38)
  have hs12 := H2.out.2.1.size
  have hs23 := hb3.size
  have hg2l := H2.out.2.2.2
  have H3 := Lib.hid (And.intro hJ3 (And.intro hB3 (And.intro H2.out.1 (And.intro hc3 (And.intro (show g2 ≠ gj ∧ g3 ≠ gj ∧ g2 < w3.heap.size ∧ g3 < w3.heap.size ∧ gj < w3.heap.size from ⟨H2.out.2.2.1, by omega, by omega, by omega, by omega⟩) hBa)))))
  clear hs12 hs23 hg2l hjl hg3 hB13 hJ3 hB3 hc3 hb3 hQ4 hBa
  simp only [List.length_nil] at H3 ⊢
  go_wp2_with (first
    | ((with_reducible show wpList _ _ _ ((⟨none, _, _, _, _, _⟩ : Oper) :: _) _ _); refine wpList_store_blk (o := ⟨none, _, _, _, _, _⟩) (hQ4') (by rfl) _ _ _ (by rfl) (by rfl) (msgc (jm 17 2 0) (.slice (some ⟨g2, 0, none⟩) 0 c2)) (by rfl) (sizeMsg) (msgc_size _ _) (msgc_size _ _) (msgc_one _ _ rfl) ?_; intro w4 h4 hu4; have h5' := hQ5.upd hu4 (by omega); clear hQ4' hQ5)
    | ((with_reducible show wpList _ _ _ ((⟨none, _, _, _, _, _⟩ : Oper) :: _) _ _); refine wpList_store_blk (o := ⟨none, _, _, _, _, _⟩) (h5') (by rfl) _ _ _ (by rfl) (by rfl) (msgc (jm 1 0 0) (.slice (some ⟨g3, 0, none⟩) 0 c3)) (by rfl) (sizeMsg) (msgc_size _ _) (msgc_size _ _) (msgc_one _ _ rfl) ?_; intro w5 h5 hu5; have h4' := h4.upd hu5 (by omega); clear h4 h5'; refine stopped ?_)
    | fail)
  refine Stopped.mk ?_
  have hB5 := (H3.out.2.2.2.2.2.upd hu4 (Nat.le_refl _)).upd hu5 (Nat.le_succ _)
  have hJ5 := H3.out.1.below hB5
  have hP5 := H3.out.1.jd.lt
  have hXX := H1.out.2.1
  obtain ⟨gp, hgp⟩ : ∃ x, x = w3.heap.size := ⟨_, rfl⟩
  have hpo : gp ∉ gj :: p.all none ∧ gp + 1 ∉ gj :: p.all none := by
    have := H3.out.2.2.2.2.1.2.2.2.2
    refine ⟨fun hx => ?_, fun hx => ?_⟩
    all_goals
      rcases List.mem_cons.1 hx with e | e
      · omega
      · have := hP5 _ e; omega
  rw [← hgp] at h4' h5 ⊢
  have hs5 := hB5.size
  have H5 := Lib.hid (And.intro hpo (And.intro (H3.out.2.1.trans (hB5.mono H3.out.2.1.size)) (And.intro H3.out.2.2.1 (And.intro H3.out.2.2.2.1 (And.intro H3.out.2.2.2.2.1 (show w3.heap.size ≤ w5.heap.size from hs5))))))
  have HA := Lib.hid (And.intro hJ5 (And.intro h4' (And.intro h5 (Near.refl (gj :: p.all none) w5))))
  clear hB5 hJ5 hP5 hXX hgp hpo hu4 hu5 h4' h5 hs5
  go_wp2_with fail
  refine (jempty_true HA.out.1).mono ?_
  rintro e w6 ⟨rfl, hb⟩
  have HB := Lib.hid (And.intro (HA.out.1.below hb) (And.intro (HA.out.2.1.below hb HA.out.2.1.lt) (And.intro (HA.out.2.2.1.below hb HA.out.2.2.1.lt) (HA.out.2.2.2.trans (Near.below hb)))))
  have q5 := HB.out.2.2.1
  clear hb HA
  go_wp2_with (first
    | ((with_reducible show wpList _ _ _ ((⟨some 24, _, _, _, _, _⟩ : Oper) :: _) _ _); refine wpList_want (by rfl) ?_; refine wpList_load_blk (o := ⟨some 24, _, _, _, _, _⟩) (q5) (by rfl) _ _ (by rfl) (by rfl) _ Tryd.underlying38 (by rfl) (sizeMsg) (msgc_size _ _) ?_)
    | fail)
  refine (jputm_any 1 0 [] jm1_ok (some ⟨g3, 0, none⟩) c3 (Reads.nil _ _) H5.out.2.2.2.1 HB.out.1).mono ?_
  rintro e w7 ⟨rfl, hJ, hn⟩
  have HC := Lib.hid (And.intro (show JR w7 gj p jA1 (l00.set 1 (1, 1, 0, false)) from hJ) (And.intro (HB.out.2.1.near hn H5.out.1.1) (And.intro (HB.out.2.2.1.near hn H5.out.1.2) (HB.out.2.2.2.trans hn))))
  clear hJ hn HB q5
  have q5 := HC.out.2.2.1
  go_wp2_with (first
    | ((with_reducible show wpList _ _ _ ((⟨some 30, _, _, _, _, _⟩ : Oper) :: _) _ _); refine wpList_want (by rfl) ?_; refine wpList_load_blk (o := ⟨some 30, _, _, _, _, _⟩) (q5) (by rfl) _ _ (by rfl) (by rfl) _ Tryd.underlying38 (by rfl) (sizeMsg) (msgc_size _ _) ?_)
    | fail)
  refine (jgets_any 1 (jm 1 0 0) (some ⟨g3, 0, none⟩) 0 c3 [] 0 rfl (Reads.nil _ _) HC.out.1 (fun ad e => by cases e; exact H5.out.2.2.2.2.1.2.1)).mono ?_
  rintro e w8 ⟨rfl, hJ, hn⟩
  rw [jA1_t1]
  have hn' := hn.wider (Y := gj :: p.all none) (fun x hx => by rw [List.mem_singleton.1 hx]; exact List.mem_cons_self ..)
  have HD := Lib.hid (And.intro (show JR w8 gj p jA1 (l00.set 1 (1, 1, 0, false)) by rw [jA1_s1] at hJ; exact hJ) (And.intro (HC.out.2.1.near hn' H5.out.1.1) (And.intro (HC.out.2.2.1.near hn' H5.out.1.2) (HC.out.2.2.2.trans hn'))))
  clear hJ hn hn' HC q5
  go_wp2_with fail
  rw [← zeroMsg_cells]
  refine (jgets_any 2 zeroHd none 0 0 [] 6 rfl (Reads.nil _ _) HD.out.1 (fun ad e => by cases e)).mono ?_
  rintro e w9 ⟨rfl, hJ, hn⟩
  rw [jA1_t2]
  have hn' := hn.wider (Y := gj :: p.all none) (fun x hx => by rw [List.mem_singleton.1 hx]; exact List.mem_cons_self ..)
  have HE := Lib.hid (And.intro (show JR w9 gj p jA1 (l00.set 1 (1, 1, 0, false)) by rw [jA1_get2] at hJ; exact hJ) (And.intro (HD.out.2.1.near hn' H5.out.1.1) (And.intro (HD.out.2.2.1.near hn' H5.out.1.2) (HD.out.2.2.2.trans hn'))))
  clear hJ hn hn' HD
  have q4 := HE.out.2.1
  go_wp2_with (first
    | ((with_reducible show wpList _ _ _ ((⟨some 42, _, _, _, _, _⟩ : Oper) :: _) _ _); refine wpList_want (by rfl) ?_; refine wpList_load_blk (o := ⟨some 42, _, _, _, _, _⟩) (q4) (by rfl) _ _ (by rfl) (by rfl) _ Tryd.underlying38 (by rfl) (sizeMsg) (msgc_size _ _) ?_)
    | fail)
  refine (jputm_any 17 2 [] jm17_ok (some ⟨g2, 0, none⟩) c2 (Reads.nil _ _) H5.out.2.2.1 HE.out.1).mono ?_
  rintro e w10 ⟨rfl, hJ, hn⟩
  have HF := Lib.hid (And.intro (show JR w10 gj p jA2 ((l00.set 1 (1, 1, 0, false)).set 1 (1, 17, 2, false)) from hJ) (And.intro (HE.out.2.1.near hn H5.out.1.1) (HE.out.2.2.2.trans hn)))
  clear hJ hn HE q4
  go_wp2_with fail
  rw [← zeroMsg_cells]
  refine (jgets_any 1 zeroHd none 0 0 [] 6 rfl (Reads.nil _ _) HF.out.1 (fun ad e => by cases e)).mono ?_
  rintro e w11 ⟨rfl, hJ, hn⟩
  rw [jA2_t1]
  have hn' := hn.wider (Y := gj :: p.all none) (fun x hx => by rw [List.mem_singleton.1 hx]; exact List.mem_cons_self ..)
  have HG := Lib.hid (And.intro (show JR w11 gj p jA2 ((l00.set 1 (1, 1, 0, false)).set 1 (1, 17, 2, false)) by rw [jA2_get1] at hJ; exact hJ) (And.intro (HF.out.2.1.near hn' H5.out.1.1) (HF.out.2.2.trans hn')))
  clear hJ hn hn' HF
  go_wp2_with fail
  refine (jopen_any HG.out.1.jd).mono ?_
  rintro e w12 ⟨gk, rfl, hgk, hJk, hb⟩
  have hs11 := HG.out.2.2.size
  have HH := Lib.hid (And.intro hJk (And.intro (HG.out.2.1.below hb HG.out.2.1.lt) (And.intro (HG.out.2.2.trans (Near.below hb)) (And.intro (show g2 ≠ gk by have := H5.out.2.2.2.2.1.2.2.1; have := H5.out.2.2.2.2.2; omega) (show w5.heap.size ≤ gk by omega)))))
  clear hgk hJk hb hs11 HG
  have q4 := HH.out.2.1
  go_wp2_with (first
    | ((with_reducible show wpList _ _ _ ((⟨some 61, _, _, _, _, _⟩ : Oper) :: _) _ _); refine wpList_want (by rfl) ?_; refine wpList_load_blk (o := ⟨some 61, _, _, _, _, _⟩) (q4) (by rfl) _ _ (by rfl) (by rfl) _ Tryd.underlying38 (by rfl) (sizeMsg) (msgc_size _ _) ?_)
    | fail)
  refine (jgets_any 17 (jm 17 2 0) (some ⟨g2, 0, none⟩) 0 c2 [] 0 rfl (Reads.nil _ _) HH.out.1 (fun ad e => by cases e; exact HH.out.2.2.2.1)).mono ?_
  rintro e w13 ⟨rfl, -, hn⟩
  rw [jA2_t17]
  have HI := Lib.hid (H5.out.2.1.trans ((HH.out.2.2.1.high hn (fun y hy => by rw [List.mem_singleton.1 hy]; exact HH.out.2.2.2.2)).toBelow (fun x hx => H1.out.2.1 x hx) H5.out.2.1.size))
  clear hn q4 HH
  go_wp2
  go_ret
  exact ⟨rfl, HI.out⟩
end Go.Proofs.YtfoegmjpfkmggaaDoor

/- What a Cut's closures do. Conditions: the journal, the slot's number, the header's bytes lie in known blocks apart from the disk's. -/
namespace Go.Proofs.YtfoegmjpfkmggaaDoor
open Go.RowKit
section
variable {w : World} {jb nb ob gj : Nat} {p : Pl} {k : Nat} {L : List UInt8}
theorem cut1_any (a b c : Int) (d : Bool) (op : Int) (xb : Nat) (w : World) (hx : w.cell? ⟨xb, 0, none⟩ = some (.int .i64 op)) : Calls Tryd.prog 34 #[.agg #[.int .i64 a, .int .i64 b, .int .i64 c, .bool d], .pointer (some ⟨xb, 0, none⟩)] w fun e w' => e = .returned (.bool (decide (op < b))) ∧ Below w.heap.size w w' := by
  have hB := (Below.refl w.heap.size w).alloc (Nat.le_refl _) (.cells #[.int .i64 a, .int .i64 b, .int .i64 c, .bool d] 47)
  have q1 := (Blk.new w 47 #[.int .i64 a, .int .i64 b, .int .i64 c, .bool d]).at_ 1 (v := .int .i64 b) rfl
  have q2 := (Near.below (X := []) hB).cell_ (by simp) hx
  have HB := Lib.hid hB
  clear hB hx
  go_enter Tryd.func34, Tryd.ntmps34
  go_wp2
  go_ret
  exact ⟨rfl, HB.out⟩
/-- What a Cut's closures know. -/
structure CutK (w : World) (jb nb gj : Nat) (p : Pl) (k : Nat) : Prop where
  j : Blk w jb 23 #[.pointer (some ⟨gj, 0, none⟩)]
  n : Blk w nb 3 #[.int .i64 (k : Int)]
  d : w.cell? ⟨gj, 0, none⟩ = some (.pointer (some ⟨p.gd, 0, none⟩))
  k16 : k < 16
  off : jb ∉ p.all none ∧ nb ∉ p.all none ∧ gj ∉ p.all none
theorem CutK.near {w w' : World} (h : CutK w jb nb gj p k) (hn : Near (p.all none) w w') : CutK w' jb nb gj p k :=
  ⟨h.j.near hn h.off.1, h.n.near hn h.off.2.1, hn.cell_ h.off.2.2 h.d, h.k16, h.off⟩
set_option maxRecDepth 100000 in
set_option maxHeartbeats 1000000 in
theorem cut2_any (A : Option Addr) (c : Nat) (H : List UInt8) (hH : H.length = 256) (hc : 256 ≤ c) (h : CutK w jb nb gj p k) (hob : Blk w ob 36 #[.slice A 256 c]) (hby : Bytes w A H) (hA : ∀ ad, A = some ad → ad.block ∉ p.all none) (hoff : ob ∉ p.all none) (hd : JD w p L) :
    Calls Tryd.prog 37 #[.pointer (some ⟨jb, 0, none⟩), .pointer (some ⟨nb, 0, none⟩), .pointer (some ⟨ob, 0, none⟩)] w fun e w' => e = .returned (.int .i64 0) ∧ JD w' p (wr L (256 * (8 + k)) H) ∧ Near (p.all none) w w' := by
  have hC0 : Near (p.all none) w w.drew := (Near.refl _ _).drew
  have HK := Lib.hid (And.intro h (And.intro hd (And.intro hob (And.intro hby (And.intro hA (And.intro hoff (And.intro hH hc)))))))
  have hk := h.k16
  have k1 : wrap64 (8 + (k : Int)) = ((8 + k : Nat) : Int) := by unfold wrap64; omega
  clear h hd hob hby hA hoff hH hc
  go_enter Tryd.func37, Tryd.ntmps37
  go_wp2_with fail
  refine wp_region_tree (Near (p.all none) w) [] (PlanT.takes [0, 4, 6] (PlanT.takes [1, 2, 5] (PlanT.takes [3] (.opt 7 (PlanT.takes [8] .done) .no)))) (by kernel_rfl) (by kernel_rfl) (hC0) ?_
  refine wpTree_takeL _ _ _ (by rfl) (by rfl) (hC0) ?_
  dsimp only [List.filterMap, List.getElem?_cons_zero, List.getElem?_cons_succ]
  (refine wpQuiet_load_cell (fun w' hw' => (Blk.near HK.out.1.j hw' HK.out.1.off.1).at_ 0 (v := .pointer (some ⟨gj, 0, none⟩)) rfl) (by rfl) _ _ (by rfl) (by rfl) _ Tryd.underlying23 (by rfl) ?_; simp only [Act.put, List.setIfInBounds_toArray, List.set_cons_zero, List.set_cons_succ])
  (refine wpQuiet_load_cell (fun w' hw' => (Blk.near HK.out.1.n hw' HK.out.1.off.2.1).at_ 0 (v := .int .i64 (k : Int)) rfl) (by rfl) _ _ (by rfl) (by rfl) _ Tryd.underlying3 (by rfl) ?_; simp only [Act.put, List.setIfInBounds_toArray, List.set_cons_zero, List.set_cons_succ])
  (refine wpQuiet_load_cell (fun w' hw' => (Blk.near HK.out.2.2.1 hw' HK.out.2.2.2.2.2.1).at_ 0 (v := .slice A 256 c) rfl) (by rfl) _ _ (by rfl) (by rfl) _ Tryd.underlying36 (by rfl) ?_; simp only [Act.put, List.setIfInBounds_toArray, List.set_cons_zero, List.set_cons_succ])
  refine wpQuiet_nil ?_
  refine wpTree_pure _ _ _ (by rfl) (by rfl) ?_
  dsimp only [List.filterMap, List.getElem?_cons_zero, List.getElem?_cons_succ]
  repeat (go_big_quiet_step (fail))
  refine wpQuiet_nil ?_
  refine wpTree_takeL _ _ _ (by rfl) (by rfl) (hC0) ?_
  dsimp only [List.filterMap, List.getElem?_cons_zero, List.getElem?_cons_succ]
  (refine wpQuiet_load_cell (fun w' hw' => Near.cell_ hw' HK.out.1.off.2.2 HK.out.1.d) (by rfl) _ _ (by rfl) (by rfl) _ Tryd.underlying22 (by rfl) ?_; simp only [Act.put, List.setIfInBounds_toArray, List.set_cons_zero, List.set_cons_succ])
  refine wpQuiet_nil ?_
  refine wpTree_one _ rfl ?_
  go_wp2_with fail
  refine (jdwrite (8 + k) 256 c A H HK.out.2.2.2.2.2.2.1.symm (Bytes.near HK.out.2.2.2.1 hC0 HK.out.2.2.2.2.1) HK.out.2.2.2.2.1 (by rw [HK.out.2.2.2.2.2.2.1]; exact HK.out.2.2.2.2.2.2.2) (by rw [HK.out.2.2.2.2.2.2.1]; omega) (HK.out.2.1.near (Near.refl _ _).drew)).mono ?_
  rintro e w2 ⟨rfl, hd2, hn2⟩
  have hC2 := hC0.trans hn2
  have HR := Lib.hid (And.intro hd2 hC2)
  clear hd2 hn2 HK
  go_wp2_with fail
  refine TreeQ.in_ hC2 ?_
  refine wpTree_pure _ _ _ (by rfl) (by rfl) ?_
  dsimp only [List.filterMap, List.getElem?_cons_zero, List.getElem?_cons_succ]
  repeat (go_big_quiet_step (fail))
  refine wpQuiet_nil ?_
  refine wpTree_done ?_
  clear hC2
  go_wp2
  go_ret
  exact ⟨rfl, HR.out⟩
set_option maxRecDepth 100000 in
set_option maxHeartbeats 1000000 in
theorem cut3_any (h : CutK w jb nb gj p k) (hd : JD w p L) :
    Calls Tryd.prog 38 #[.pointer (some ⟨jb, 0, none⟩), .pointer (some ⟨nb, 0, none⟩)] w fun e w' => e = .returned (.int .i64 0) ∧ (∃ Z : List UInt8, Z = List.replicate 1280 0 ∧ JD w' p (wr L (256 * (24 + 5 * k)) Z)) ∧ Near (p.all none) w w' := by
  have hC0 : Near (p.all none) w w.drew := (Near.refl _ _).drew
  have HK := Lib.hid (And.intro h (And.intro hd hd.lt))
  have hk := h.k16
  clear h hd
  go_enter Tryd.func38, Tryd.ntmps38
  go_wp2_with fail
  refine wp_region_tree (Near (p.all none) w) [] (PlanT.takes [0, 4] (PlanT.takes [1, 2] (PlanT.takes [3] (.opt 5 (.opt 6 (.opt 7 (PlanT.takes [8] .done) .no) .no) (.opt 6 (.opt 5 (.opt 7 (PlanT.takes [8] .done) .no) .no) .no))))) (by kernel_rfl) (by kernel_rfl) (hC0) ?_
  refine wpTree_takeL _ _ _ (by rfl) (by rfl) (hC0) ?_
  dsimp only [List.filterMap, List.getElem?_cons_zero, List.getElem?_cons_succ]
  (refine wpQuiet_load_cell (fun w' hw' => (Blk.near HK.out.1.j hw' HK.out.1.off.1).at_ 0 (v := .pointer (some ⟨gj, 0, none⟩)) rfl) (by rfl) _ _ (by rfl) (by rfl) _ Tryd.underlying23 (by rfl) ?_; simp only [Act.put, List.setIfInBounds_toArray, List.set_cons_zero, List.set_cons_succ])
  (refine wpQuiet_load_cell (fun w' hw' => (Blk.near HK.out.1.n hw' HK.out.1.off.2.1).at_ 0 (v := .int .i64 (k : Int)) rfl) (by rfl) _ _ (by rfl) (by rfl) _ Tryd.underlying3 (by rfl) ?_; simp only [Act.put, List.setIfInBounds_toArray, List.set_cons_zero, List.set_cons_succ])
  refine wpQuiet_nil ?_
  refine wpTree_pure _ _ _ (by rfl) (by rfl) ?_
  dsimp only [List.filterMap, List.getElem?_cons_zero, List.getElem?_cons_succ]
  repeat (go_big_quiet_step (fail))
  refine wpQuiet_nil ?_
  refine wpTree_takeL _ _ _ (by rfl) (by rfl) (hC0) ?_
  dsimp only [List.filterMap, List.getElem?_cons_zero, List.getElem?_cons_succ]
  (refine wpQuiet_load_cell (fun w' hw' => Near.cell_ hw' HK.out.1.off.2.2 HK.out.1.d) (by rfl) _ _ (by rfl) (by rfl) _ Tryd.underlying22 (by rfl) ?_; simp only [Act.put, List.setIfInBounds_toArray, List.set_cons_zero, List.set_cons_succ])
  refine wpQuiet_nil ?_
  refine wpTree_opt _ rfl ?_ (wpTree_one _ rfl ?_)
  · go_wp2_with fail
    refine (jplace_any (k : Int) (by omega) _).mono ?_
    rintro e w1 ⟨rfl, hw⟩
    obtain rfl := hw.symm
    clear hw
    rw [show (24 : Int) + 5 * (k : Int) = ((24 + 5 * k : Nat) : Int) by omega]
    go_wp2_with fail
    refine TreeQ.in_ hC0 ?_
    refine wpTree_one _ rfl ?_
    go_wp2_with (first
      | ((with_reducible show wpList _ _ _ ((⟨some 9, _, _, _, _, _⟩ : Oper) :: _) _ _); refine wpList_make_bytes (o := ⟨some 9, _, _, _, _, _⟩) _ (by rfl) _ _ _ (by rfl) 5 Tryd.underlying36 u8info .i64 .i64 1280 1280 1280 1280 (by rfl) (by rfl) (by rfl) (by rfl) (by omega) (by omega) ?_; intro w3 hb3 hB3 hz3; obtain ⟨Z, hZ⟩ : ∃ Z : List UInt8, Z = List.replicate 1280 0 := ⟨_, rfl⟩; rw [← hZ] at hb3; have H3 := Lib.hid (And.intro hb3 (And.intro hB3 hZ)); clear hb3 hB3 hz3 hZ)
      | fail)
    have hn3 : Near [] w w3 := (Near.refl _ _).drew.trans (Near.below H3.out.2.1)
    have hn3p : Near (p.all none) w w3 := hn3.wider (fun x hx => by cases hx)
    have hZl : Z.length = 1280 := by rw [H3.out.2.2]; exact List.length_replicate ..
    have hsz : w.drew.heap.size ∉ p.all none := fun hx => by have := HK.out.2.2 _ hx; rw [World.size_drew] at this; omega
    have HW := Lib.hid (jdwrite (24 + 5 * k) 1280 1280 (some ⟨w.drew.heap.size, 0, none⟩) Z hZl.symm (Blk.bytes H3.out.1) (fun ad e => by injection e with e; rw [← e]; exact hsz) (by omega) (by omega) (HK.out.2.1.near hn3))
    refine TreeQ.in_ hn3p ?_
    refine wpTree_one _ rfl ?_
    clear hsz hn3
    go_wp2_with fail
    refine HW.out.mono ?_
    rintro e w4 ⟨rfl, hd4, hn4⟩
    have hn4p : Near (p.all none) w w4 := hn3p.trans hn4
    have HE := Lib.hid (And.intro hd4 (And.intro hn4p H3.out.2.2))
    clear hd4 hn4 hn3p HW
    go_wp2_with fail
    refine TreeQ.in_ hn4p ?_
    refine wpTree_pure _ _ _ (by rfl) (by rfl) ?_
    dsimp only [List.filterMap, List.getElem?_cons_zero, List.getElem?_cons_succ]
    repeat (go_big_quiet_step (fail))
    refine wpQuiet_nil ?_
    refine wpTree_done ?_
    clear hn4p hC0
    go_wp2
    go_ret
    exact ⟨rfl, ⟨Z, HE.out.2.2, HE.out.1⟩, HE.out.2.1⟩
  · go_wp2_with (first
      | ((with_reducible show wpList _ _ _ ((⟨some 9, _, _, _, _, _⟩ : Oper) :: _) _ _); refine wpList_make_bytes (o := ⟨some 9, _, _, _, _, _⟩) _ (by rfl) _ _ _ (by rfl) 5 Tryd.underlying36 u8info .i64 .i64 1280 1280 1280 1280 (by rfl) (by rfl) (by rfl) (by rfl) (by omega) (by omega) ?_; intro w3 hb3 hB3 hz3; obtain ⟨Z, hZ⟩ : ∃ Z : List UInt8, Z = List.replicate 1280 0 := ⟨_, rfl⟩; rw [← hZ] at hb3; have H3 := Lib.hid (And.intro hb3 (And.intro hB3 hZ)); clear hb3 hB3 hz3 hZ)
      | fail)
    have hn3 : Near [] w w3 := (Near.refl _ _).drew.trans (Near.below H3.out.2.1)
    have hn3p : Near (p.all none) w w3 := hn3.wider (fun x hx => by cases hx)
    have hZl : Z.length = 1280 := by rw [H3.out.2.2]; exact List.length_replicate ..
    have hsz : w.drew.heap.size ∉ p.all none := fun hx => by have := HK.out.2.2 _ hx; rw [World.size_drew] at this; omega
    have HW := Lib.hid (jdwrite (24 + 5 * k) 1280 1280 (some ⟨w.drew.heap.size, 0, none⟩) Z hZl.symm (Blk.bytes H3.out.1) (fun ad e => by injection e with e; rw [← e]; exact hsz) (by omega) (by omega) (HK.out.2.1.near hn3))
    refine TreeQ.in_ hn3p ?_
    refine wpTree_one _ rfl ?_
    clear hsz hn3
    go_wp2_with fail
    refine (jplace_any (k : Int) (by omega) _).mono ?_
    rintro e w1 ⟨rfl, hw⟩
    obtain rfl := hw.symm
    clear hw
    rw [show (24 : Int) + 5 * (k : Int) = ((24 + 5 * k : Nat) : Int) by omega]
    go_wp2_with fail
    refine TreeQ.in_ hn3p ?_
    refine wpTree_one _ rfl ?_
    go_wp2_with fail
    refine HW.out.mono ?_
    rintro e w4 ⟨rfl, hd4, hn4⟩
    have hn4p : Near (p.all none) w w4 := hn3p.trans hn4
    have HE := Lib.hid (And.intro hd4 (And.intro hn4p H3.out.2.2))
    clear hd4 hn4 hn3p HW
    go_wp2_with fail
    refine TreeQ.in_ hn4p ?_
    refine wpTree_pure _ _ _ (by rfl) (by rfl) ?_
    dsimp only [List.filterMap, List.getElem?_cons_zero, List.getElem?_cons_succ]
    repeat (go_big_quiet_step (fail))
    refine wpQuiet_nil ?_
    refine wpTree_done ?_
    clear hn4p hC0
    go_wp2
    go_ret
    exact ⟨rfl, ⟨Z, HE.out.2.2, HE.out.1⟩, HE.out.2.1⟩
end
end Go.Proofs.YtfoegmjpfkmggaaDoor

/- An operation that calls nothing is carried out inside a fence as outside. Plain facts over any program. No condition. -/
namespace Go
section
variable {P : Program} {ops : Array Oper} {F : Fence} {n : Nat} {Q : Exit → Act → World → Prop} {a : Act} {w : World} {rest : List Oper}
theorem wpListIn_of {o : Oper} (hc : o.op.calmB = true) (h : wpList P ops (fun e a' w' => e = .normal ∧ wpListIn F n P ops Q rest a' w') [o] a w) : wpListIn F n P ops Q (o :: rest) a w := by
  simp only [wpList] at h
  simp only [wpListIn]
  split
  · rename_i hw
    rw [if_pos hw] at h
    have h1 := h.resolve_right fun hh => by obtain ⟨_, _, hq⟩ := hh.2; cases hq.1
    unfold Oper.wp at h1
    unfold Oper.wpIn
    refine ⟨fun f hf => (by rw [calm_about hc] at hf; cases hf), ?_⟩
    rw [calm_semAt hc]
    cases hr : (execOp a.eval o).run P w with
    | ok x w' =>
      rw [hr] at h1
      rcases calm_run hc _ _ _ _ hr with ⟨v, rfl⟩ | rfl
      · exact h1.2
      · exact h1.2
    | halt x w' =>
      rw [hr] at h1
      cases x <;> first | exact absurd h1.1 (by simp) | exact h1.elim
  · rename_i hw
    rw [if_neg hw] at h
    exact ⟨fun f hf => (by rw [calm_about hc] at hf; cases hf), h.2⟩
end
end Go

/- The slots of a journal of which something is so: the iterator, where it is so of just one. Conditions: the journal is known. -/
namespace Go.Proofs.YtfoegmjpfkmggaaDoor
open Go.RowKit
attribute [local go_sem] Oper.semAt_some
theorem sizeSt16 : (Tryd.prog.info? 50).map (·.size) = some 64 := by kernel_rfl
set_option maxHeartbeats 1000000 in
theorem slotsf_any (gj f : Nat) (cp : Array Value) (w : World) : Calls Tryd.prog 35 #[.pointer (some ⟨gj, 0, none⟩), .func (.func f) #[] cp] w fun e w' =>
    e = .returned (.func (.func 54) #[] #[.pointer (some ⟨w.heap.size, 0, none⟩), .pointer (some ⟨w.heap.size + 1, 0, none⟩)]) ∧ w' = (w.alloc (.cells #[.pointer (some ⟨gj, 0, none⟩)] 23)).alloc (.cells #[.func (.func f) #[] cp] 75) := by
  go_enter Tryd.func35, Tryd.ntmps35
  go_wp2
  go_ret
  exact ⟨rfl, rfl⟩
theorem slcs_take {l : List SlT} {m : Nat} (h : m < l.length) : List.take 4 (List.drop (m * 4) (slcs l)) = slc (jst l m) := by
  apply List.ext_getElem?
  intro j
  rw [List.getElem?_take]
  by_cases hj : j < 4
  · rw [if_pos hj, List.getElem?_drop, Nat.mul_comm, slcs_at l m j hj h, jst_at h]
  · rw [if_neg hj, List.getElem?_eq_none (by simp [slc]; omega)]
theorem run_index_st (l : List SlT) (hl : l.length = 16) (m : Nat) (hm : m < 16) (w : World) : (Instr.index 50 (.agg (slcs l).toArray) (.int .i64 (m : Int))).run Tryd.prog w = .ok (.agg (slc (jst l m)).toArray) w := by
  have hu := Tryd.underlying50
  have hu2 := Tryd.underlying47
  obtain ⟨i, hi, hs⟩ : ∃ i, Tryd.prog.info? 47 = some i ∧ i.size = 4 := by
    have h := sizeSt
    cases h2 : Tryd.prog.info? 47 with
    | none => rw [h2] at h; cases h
    | some i => rw [h2] at h; exact ⟨i, rfl, by simpa using h⟩
  unfold Instr.index
  simp [asIntOf, run_underlying hu, part, sizeOf, typeInfo, hm, go_sem, hi, hs, slcs_take (l := l) (m := m) (by omega)]
/-- What the iterator needs. -/
structure SlAt (W : World) (bj bs xb gj : Nat) (p : Pl) (L : List UInt8) (l : List SlT) (op : Int) : Prop where
  j : Blk W bj 23 #[.pointer (some ⟨gj, 0, none⟩)]
  s : Blk W bs 75 #[.func (.func 34) #[] #[.pointer (some ⟨xb, 0, none⟩)]]
  x : Blk W xb 3 #[.int .i64 op]
  jr : JR W gj p L l
set_option maxRecDepth 100000 in
set_option maxHeartbeats 2000000 in
theorem cut_row (n : Nat) (hn : 1 ≤ n) (k : Nat) (hk : k < 16) {bj bs xb gj : Nat} {p : Pl} {L : List UInt8} {l : List SlT} {op : Int} (hone : ∀ i, i < 16 → decide (op < (jst l i).2.1) = decide (i = k)) (I : Nat → World → Prop) (hI : ∀ j W, I j W → SlAt W bj bs xb gj p L l op) :
    RowOf Fence.wide n Tryd.prog 54 #[.pointer (some ⟨bj, 0, none⟩), .pointer (some ⟨bs, 0, none⟩)] (fun _ => #[.int .i64 (k : Int), .agg (slc (jst l k)).toArray]) I 1 := by
  intro y J Jx W hJI hJb hJxb hY hJ0
  refine callsIn_of_wp Tryd.func54 rfl trivial ?_ rfl
  simp only [Tryd.ntmps54, List.size_toArray, List.length_cons, List.length_nil, Nat.reduceAdd, Nat.reduceSub, Array.replicate_succ, Array.replicate_zero, List.push_toArray, List.append_toArray, List.nil_append, List.cons_append]
  have hS := hI 0 W (hJI 0 W hJ0)
  have c0 := hS.j.at_ 0 (v := .pointer (some ⟨gj, 0, none⟩)) rfl
  have hrg : W.rangeAt gj 1 (slcs l) := Blk.range hS.jr.jb 1 _ (fun j v hv => by unfold jc; rw [List.getElem?_toArray, Nat.add_comm, List.getElem?_cons_succ]; exact hv)
  have hl64 : (slcs l).length = 64 := by rw [slcs_length, hS.jr.n16]
  have HJ := Lib.hid (And.intro hJ0 (And.intro hrg hl64))
  clear hJ0 hS hrg hl64
  gi_wp2_with (first
    | ((with_reducible show wpListIn _ _ _ _ _ ((⟨some 9, _, _, _, _, _⟩ : Oper) :: _) _ _); refine wpListIn_of (by rfl) ?_; refine wpList_load_mid (o := ⟨some 9, _, _, _, _, _⟩) HJ.out.2.1 (by rfl) _ _ (by rfl) (by rfl) _ Tryd.underlying50 (by rfl) sizeSt16 HJ.out.2.2 ?_; refine ⟨rfl, ?_⟩)
    | fail)
  gi_loopw [10] (fun i wr => ∃ m : Nat, m ≤ 16 ∧ i = .int .i64 (m : Int) ∧ J (if m ≤ k then 0 else 1) wr) (fun i _ => 16 - (intOf i).toNat)
  case atStart => exact ⟨0, Nat.zero_le _, rfl, by rw [if_pos (Nat.zero_le _)]; exact HJ.out.1⟩
  case round =>
    obtain ⟨m, hm, rfl, hJs⟩ := hrel
    by_cases hlt : m < 16
    · have hix := run_index_st l (by have := HJ.out.2.2; rw [slcs_length] at this; omega) m hlt wr
      obtain ⟨s1, s2, s3, s4, hs⟩ : ∃ s1 s2 s3 s4, jst l m = (s1, s2, s3, s4) := ⟨_, _, _, _, rfl⟩
      rw [hs] at hix
      have HJs := Lib.hid (And.intro hJs hs)
      have hon := hone m hlt
      rw [hs] at hon
      dsimp only at hon
      clear hJs hs
      unfold slc at hix
      dsimp only at hix
      have hB3 := (Below.refl wr.heap.size wr).alloc (Nat.le_refl _) (.cells #[.int .i64 s1, .int .i64 s2, .int .i64 s3, .bool s4] 47)
      have hJ3 := hJb _ _ _ HJs.out.1 hB3
      have hS3 := hI _ _ (hJI _ _ hJ3)
      have q5 := Blk.new wr 47 #[.int .i64 s1, .int .i64 s2, .int .i64 s3, .bool s4]
      have q2 := hS3.s.at_ 0 (v := .func (.func 34) #[] #[.pointer (some ⟨xb, 0, none⟩)]) rfl
      have qx := hS3.x.at_ 0 (v := .int .i64 op) rfl
      have H3 := Lib.hid hJ3
      clear hB3 hJ3 hS3 c0
      by_cases hmk : m = k
      · have hon : decide (op < s2) = true := by rw [hon, decide_eq_true hmk]
        have HS := Lib.hid (show jst l k = (s1, s2, s3, s4) by rw [← hmk]; exact HJs.out.2)
        rw [if_pos (by omega)] at H3
        have HMK := Lib.hid hmk
        clear hmk
        gi_wp2_with (first
          | ((with_reducible show wpListIn _ _ _ _ _ ((⟨some 15, _, _, _, _, _⟩ : Oper) :: _) _ _); refine wpListIn_of (by rfl) ?_; refine wpList_load_blk (o := ⟨some 15, _, _, _, _, _⟩) (q5) (by rfl) _ _ (by rfl) (by rfl) _ Tryd.underlying47 (by rfl) (sizeSt) (by rfl) ?_; refine ⟨rfl, ?_⟩)
          | fail)
        refine ⟨trivial, ?_⟩
        refine ((callsIn_wide (n := n - 1)).2 (cut1_any s1 s2 s3 s4 op xb _ qx)).mono ?_
        rintro e w4 ⟨rfl, hb4⟩
        rw [hon]
        have h5 := q5.below hb4 q5.lt
        have hJ4 := Lib.hid (hJb _ _ _ H3.out hb4)
        obtain ⟨fn, tmps, assign, body, hy, hR⟩ := hY 0 w4 hJ4.out (by omega)
        rw [HS.out] at hy
        unfold slc at hy
        dsimp only at hy
        rw [← HMK.out] at hy
        clear hY hb4 q5 q2 qx hix hon
        gi_wp2_with (first
          | ((with_reducible show wpListIn _ _ _ _ _ ((⟨some 20, _, _, _, _, _⟩ : Oper) :: _) _ _); refine wpListIn_of (by rfl) ?_; refine wpList_want (by rfl) ?_; refine wpList_load_blk (o := ⟨some 20, _, _, _, _, _⟩) (h5) (by rfl) _ _ (by rfl) (by rfl) _ Tryd.underlying47 (by rfl) (sizeSt) (by rfl) ?_; refine ⟨rfl, ?_⟩)
          | fail)
        refine hR.mono ?_
        clear hR hy
        rintro e W3 (⟨rfl, hJ3⟩ | ⟨rfl, hJx3⟩)
        · have HJ3 := Lib.hid hJ3
          clear hJ3
          gi_wp2
          go_roundw
          case rel => exact ⟨m + 1, by omega, by go_num, by rw [if_neg (by have := HMK.out; omega)]; exact HJ3.out⟩
          case measure => simp [intOf]; omega
        · have HJ3 := Lib.hid hJx3
          clear hJx3
          gi_wp2
          refine bodyPost_ret (results_none rfl _ _ _) rfl ?_
          exact ⟨⟨_, rfl⟩, .inr HJ3.out⟩
      · have hon : decide (op < s2) = false := by rw [hon, decide_eq_false hmk]
        gi_wp2_with (first
          | ((with_reducible show wpListIn _ _ _ _ _ ((⟨some 15, _, _, _, _, _⟩ : Oper) :: _) _ _); refine wpListIn_of (by rfl) ?_; refine wpList_load_blk (o := ⟨some 15, _, _, _, _, _⟩) (q5) (by rfl) _ _ (by rfl) (by rfl) _ Tryd.underlying47 (by rfl) (sizeSt) (by rfl) ?_; refine ⟨rfl, ?_⟩)
          | fail)
        refine ⟨trivial, ?_⟩
        refine ((callsIn_wide (n := n - 1)).2 (cut1_any s1 s2 s3 s4 op xb _ qx)).mono ?_
        rintro e w4 ⟨rfl, hb4⟩
        rw [hon]
        have hJ4 := Lib.hid (hJb _ _ _ H3.out hb4)
        have HMK := Lib.hid hmk
        clear hY hb4 q5 q2 qx hix hon hmk
        gi_wp2
        refine ⟨fun f h => (by cases h), ?_⟩
        gi_wp2
        go_roundw
        case rel => exact ⟨m + 1, by omega, by go_num, by rw [show (if m + 1 ≤ k then 0 else 1) = (if m ≤ k then 0 else 1) by have := HMK.out; split <;> split <;> first | rfl | omega]; exact hJ4.out⟩
        case measure => simp [intOf]; omega
    · obtain rfl : m = 16 := by omega
      rw [if_neg (by omega)] at hJs
      gi_wp2
      go_end0
      exact ⟨⟨_, rfl⟩, .inl hJs⟩
end Go.Proofs.YtfoegmjpfkmggaaDoor

/- A disk keeps where only what is no cells and came later is written. Plain facts. No condition. -/
namespace Go.Proofs.YtfoegmjpfkmggaaDoor
open Go.RowKit
theorem DkOk.keptW {W W' : World} {p : Pl} {gf : Option Nat} {d : Dsk} {f : Option Fus} {B : Nat} (h : DkOk W p gf d f) (k : Kept B W W') (hB : p.gm < B) : DkOk W' p gf d f := by
  refine ⟨?_, ?_, h.ok⟩
  · obtain ⟨es, c, ⟨h1, h2, h3⟩, h4⟩ := h.dr
    exact ⟨es, c, ⟨h1.keptW k, h2.keptW k, h3.keptW k hB⟩, h4⟩
  · cases gf with
    | none => obtain e := h.fr.none_; subst e; exact trivial
    | some g =>
      obtain ⟨x, rfl, hx⟩ := h.fr.has
      exact (show FuseB W' g x.left x.gone from Blk.keptW (hx : Blk W g _ _) k)
end Go.Proofs.YtfoegmjpfkmggaaDoor

/- A region that draws its order, with calls, by a plan, in the round of a loop over a function. Plain facts over any program. No condition. -/
namespace Go
def Op.noDeferB : Op → Bool
  | .defer _ => false
  | _ => true
section
variable {P : Program} {ops : Array Oper} {md : Region.Mode} {l n : Nat}
theorem calls_round {f : FuncId} {args : Array Value} {w : World} {R : Ending → World → Prop} (h : Calls P f args w R) : CallsIn (Fence.wide.inRound l) n P f args w R := (callsIn_wide.2 h).inRound l
theorem rows_round {row : String} {args : Array Value} {w : World} {R : Value → World → Prop} (h : Rows P row args w R) : RowsIn (Fence.wide.inRound l) n P row args w R := fun c cs _ => by
  obtain ⟨v, w', r, s⟩ := h c cs
  exact ⟨v, w', r, stepsIn_wide.2 s⟩
/-- An operation of a list, inside a round, is carried out as outside. -/
theorem wpListIn_round {o : Oper} {rest : List Oper} {a : Act} {w : World} {Q : Exit → Act → World → Prop} (hd : o.op.noDeferB = true) (h : wpList P ops (fun e a' w' => e = .normal ∧ wpListIn (Fence.wide.inRound l) n P ops Q rest a' w') [o] a w) : wpListIn (Fence.wide.inRound l) n P ops Q (o :: rest) a w := by
  simp only [wpList] at h
  simp only [wpListIn]
  split
  · rename_i hw
    rw [if_pos hw] at h
    have h1 := h.resolve_right fun hh => by obtain ⟨_, _, hq⟩ := hh.2; cases hq.1
    clear h
    unfold Oper.wp at h1
    refine ⟨fun _ _ => trivial, ?_⟩
    rw [Oper.semAt_eq _ _ _ fun c hc => by rw [hc] at hd; cases hd]
    generalize (execOp a.eval o).run P w = r at h1
    cases r with
    | ok x w' =>
      cases x <;> first | exact h1.2 | exact h1.elim | skip
      case enter f args =>
        refine ⟨fun hh => ?_, ?_⟩
        · simp [Fence.wide, Fence.inRound] at hh
        · refine (calls_round h1).mono fun e w'' he => ?_
          cases e with
          | returned v => exact he.2
          | panicked c => cases he.1
          | outgrown =>
            obtain ⟨_, _, hq⟩ := he
            cases hq.1
      case row row args =>
        refine ⟨fun hh => ?_, ?_⟩
        · simp [Fence.wide, Fence.inRound] at hh
        · exact RowsIn.mono (rows_round h1) fun v w'' he => he.2
    | halt x w' =>
      cases x <;> first | exact absurd h1.1 (by simp) | exact h1.elim
  · rename_i hw
    rw [if_neg hw] at h
    exact ⟨fun _ _ => trivial, h.2⟩
end
end Go
