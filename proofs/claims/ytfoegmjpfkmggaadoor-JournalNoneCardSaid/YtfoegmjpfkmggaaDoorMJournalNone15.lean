/- The chapter's examples of journals that each statement looks at. No condition. (Printed by gen/jt.py.) -/
import Derived.Test.YtfoegmjpfkmggaaDoorMJournalNone14
import Derived.Test.YtfoegmjpfkmggaaDoorTie
import Derived.Test.YtfoegmjpfkmggaaDoorCards
import Derived.SevenTiedAt
namespace Go.Proofs.YtfoegmjpfkmggaaDoor
open Go.RowKit
def l00 : List SlT := List.replicate 16 (4, 0, 0, false)
def jA1 : List UInt8 := jwr (jL0 (Dsk.new 104).L) (jX 1 0 []) 1
def jA2 : List UInt8 := jwr jA1 (jX 17 2 []) 1
theorem jm1_ok : JmOk 1 0 [] := ⟨by omega, by omega, by omega, by omega, by simp⟩
theorem jm17_ok : JmOk 17 2 [] := ⟨by omega, by omega, by omega, by omega, by simp⟩
theorem jD0_len : 26624 ≤ (Dsk.new 104).L.length := by show 26624 ≤ (List.replicate (104 * 256) (0 : UInt8)).length; rw [List.length_replicate]; omega
theorem jL0_len : 26624 ≤ (jL0 (Dsk.new 104).L).length := by rw [jL0_length jD0_len]; exact jD0_len
theorem jA1_len : 26624 ≤ jA1.length := by unfold jA1; rw [jwr_length jL0_len (jX_len jm1_ok) (by omega)]; exact jL0_len
theorem jA1_get : ∃ F, jget jA1 (l00.set 1 (1, 1, 0, false)) 1 = ((0, F, []), l00.set 1 (1, 1, 0, false)) ∧ Hd.same F (jm 1 0 0) :=
  jX_get jm1_ok (by show jpr jA1 1 = _; unfold jA1; rw [jpr_jwr jL0_len (jX_len jm1_ok) (by omega) (by omega), if_pos rfl]) (m := false) (by rfl)
theorem jA1_get2 : jget jA1 (l00.set 1 (1, 1, 0, false)) 2 = ((6, Hd.none_, []), l00.set 1 (1, 1, 0, false)) := by
  unfold jget
  rw [if_neg (by omega), if_pos (.inl (by decide +kernel))]
theorem jA2_get1 : jget jA2 ((l00.set 1 (1, 1, 0, false)).set 1 (1, 17, 2, false)) 1 = ((6, Hd.none_, []), (l00.set 1 (1, 1, 0, false)).set 1 (1, 17, 2, false)) := by
  unfold jget
  rw [if_neg (by omega), if_pos (.inl (by decide +kernel))]
theorem jA2_pr : jpr jA2 1 = jX 17 2 [] := by unfold jA2; rw [jpr_jwr jA1_len (jX_len jm17_ok) (by omega) (by omega), if_pos rfl]
theorem jA2_hd : jhd jA2 1 = (jX 17 2 []).take 256 := by unfold jA2; rw [jhd_jwr jA1_len (jX_len jm17_ok) (by omega) (by omega), if_pos rfl]
theorem jA2_get17 : ∃ F, jget jA2 (jopd jA2 16) 17 = ((0, F, []), jopd jA2 16) ∧ Hd.same F (jm 17 2 0) := by
  refine jX_get jm17_ok (m := false) jA2_pr ?_
  show jst (jopd jA2 16) 1 = _
  have h1 : 1 < (jopd jA2 16).length := by rw [jopd_length]; omega
  rw [← jst_at h1, jopd_at, if_pos (by omega), jA2_hd, jA2_pr]
  exact jX_judge jm17_ok
theorem Hd.beq_of {F g : HdF} (h : Hd.same F g) : Hd.beq F g = true := (Hd.beq_same F g).2 h
theorem zeroHd_beq : Hd.beq Hd.none_ zeroHd = true := Hd.beq_of (fun _ _ => rfl)
theorem jA1_t1 : ((jget jA1 (l00.set 1 (1, 1, 0, false)) 1).1.1 == 0 && (Hd.beq (jget jA1 (l00.set 1 (1, 1, 0, false)) 1).1.2.1 (jm 1 0 0) && decide ((jget jA1 (l00.set 1 (1, 1, 0, false)) 1).1.2.2 = []))) = true := by
  obtain ⟨F, h1, h2⟩ := jA1_get
  rw [h1]
  simp [Hd.beq_of h2]
theorem jA1_s1 : (jget jA1 (l00.set 1 (1, 1, 0, false)) 1).2 = l00.set 1 (1, 1, 0, false) := by
  obtain ⟨F, h1, h2⟩ := jA1_get
  rw [h1]
theorem jA1_t2 : ((jget jA1 (l00.set 1 (1, 1, 0, false)) 2).1.1 == 6 && (Hd.beq (jget jA1 (l00.set 1 (1, 1, 0, false)) 2).1.2.1 zeroHd && decide ((jget jA1 (l00.set 1 (1, 1, 0, false)) 2).1.2.2 = []))) = true := by
  rw [jA1_get2]
  simp [zeroHd_beq]
theorem jA2_t1 : ((jget jA2 ((l00.set 1 (1, 1, 0, false)).set 1 (1, 17, 2, false)) 1).1.1 == 6 && (Hd.beq (jget jA2 ((l00.set 1 (1, 1, 0, false)).set 1 (1, 17, 2, false)) 1).1.2.1 zeroHd && decide ((jget jA2 ((l00.set 1 (1, 1, 0, false)).set 1 (1, 17, 2, false)) 1).1.2.2 = []))) = true := by
  rw [jA2_get1]
  simp [zeroHd_beq]
theorem jA2_t17 : ((jget jA2 (jopd jA2 16) 17).1.1 == 0 && (Hd.beq (jget jA2 (jopd jA2 16) 17).1.2.1 (jm 17 2 0) && decide ((jget jA2 (jopd jA2 16) 17).1.2.2 = []))) = true := by
  obtain ⟨F, h1, h2⟩ := jA2_get17
  rw [h1]
  simp [Hd.beq_of h2]
set_option maxRecDepth 100000 in
set_option maxHeartbeats 4000000 in
theorem jawake_any (w : World) : Calls Tryd.prog 7 #[] w fun e w' => e = .returned (.bool true) ∧ Below w.heap.size w w' := by
  go_enter Tryd.func7, Tryd.ntmps7
  go_wp2_with fail
  refine (jfresh_any w).mono ?_
  rintro e w1 ⟨p, gj, rfl, hJ, hX, hB⟩
  have H1 := Lib.hid (And.intro hJ (And.intro hX hB))
  clear hJ hX hB
  go_wp2_with fail
  refine (jprep_any 17 2 [] (by simp) w1).mono ?_
  rintro e w2 ⟨g2, c2, rfl, hg2, -, hc2, hb2⟩
  have hjl := H1.out.1.lt
  have H2 := Lib.hid (And.intro hc2 (And.intro hb2 (And.intro (show g2 ≠ gj by omega) hg2.2)))
  clear hc2 hb2 hg2
  go_wp2_with fail
  refine (jprep_any 1 0 [] (by simp) w2).mono ?_
  rintro e w3 ⟨g3, c3, rfl, hg3, -, hc3, hb3⟩
  have hB13 := H2.out.2.1.trans (hb3.mono H2.out.2.1.size)
  have hJ3 := H1.out.1.below hB13
  have hB3 := H1.out.2.2.trans (hB13.mono H1.out.2.2.size)
  have hQ4 := (Blk.new w3 38 #[.int .i64 0, .int .i64 0, .int .i64 0, .int .i64 0, .int .i64 0, .int .i64 0, .int .i64 0, .int .i64 0, .int .i64 0, .int .u64 0, .int .u64 0, .int .i64 0, .int .i64 0, .int .u64 0, .int .i64 0, .int .i64 0, .slice none 0 0]).sub zeroMsg_cells.symm
  have hQ5 := (Blk.new' (w3.alloc (.cells #[.int .i64 0, .int .i64 0, .int .i64 0, .int .i64 0, .int .i64 0, .int .i64 0, .int .i64 0, .int .i64 0, .int .i64 0, .int .u64 0, .int .u64 0, .int .i64 0, .int .i64 0, .int .u64 0, .int .i64 0, .int .i64 0, .slice none 0 0] 38)) 38 #[.int .i64 0, .int .i64 0, .int .i64 0, .int .i64 0, .int .i64 0, .int .i64 0, .int .i64 0, .int .i64 0, .int .i64 0, .int .u64 0, .int .u64 0, .int .i64 0, .int .i64 0, .int .u64 0, .int .i64 0, .int .i64 0, .slice none 0 0] (n := w3.heap.size + 1) (by simp)).sub zeroMsg_cells.symm
  have hQ4' := hQ4.alloc (.cells #[.int .i64 0, .int .i64 0, .int .i64 0, .int .i64 0, .int .i64 0, .int .i64 0, .int .i64 0, .int .i64 0, .int .i64 0, .int .u64 0, .int .u64 0, .int .i64 0, .int .i64 0, .int .u64 0, .int .i64 0, .int .i64 0, .slice none 0 0] 38)
  have hBa := ((Below.refl w3.heap.size w3).alloc (Nat.le_refl _) (.cells #[.int .i64 0, .int .i64 0, .int .i64 0, .int .i64 0, .int .i64 0, .int .i64 0, .int .i64 0, .int .i64 0, .int .i64 0, .int .u64 0, .int .u64 0, .int .i64 0, .int .i64 0, .int .u64 0, .int .i64 0, .int .i64 0, .slice none 0 0] 38)).alloc (by simp) (.cells #[.int .i64 0, .int .i64 0, .int .i64 0, .int .i64 0, .int .i64 0, .int .i64 0, .int .i64 0, .int .i64 0, .int .i64 0, .int .u64 0, .int .u64 0, .int .i64 0, .int .i64 0, .int .u64 0, .int .i64 0, .int .i64 0, .slice none 0 0] 38)
  have hs12 := H2.out.2.1.size
  have hs23 := hb3.size
  have hg2l := H2.out.2.2.2
  have H3 := Lib.hid (And.intro hJ3 (And.intro hB3 (And.intro H2.out.1 (And.intro hc3 (And.intro (show g2 ≠ gj ∧ g3 ≠ gj ∧ g2 < w3.heap.size ∧ g3 < w3.heap.size ∧ gj < w3.heap.size from ⟨H2.out.2.2.1, by omega, by omega, by omega, by omega⟩) hBa)))))
  clear hs12 hs23 hg2l hjl hg3 hB13 hJ3 hB3 hc3 hb3 hQ4 hBa
  simp only [List.length_nil] at H3 ⊢
  go_wp2_with (first
    | ((with_reducible show wpList _ _ _ ((⟨none, _, _, _, _, _⟩ : Oper) :: _) _ _); refine wpList_store_blk (o := ⟨none, _, _, _, _, _⟩) (hQ4') (by rfl) _ _ _ (by rfl) (by rfl) (msgc (jm 17 2 0) (.slice (some ⟨g2, 0, none⟩) 0 c2)) (by rfl) (sizeMsg) (msgc_size _ _) (msgc_size _ _) (msgc_one _ _ rfl) ?_; intro w4 h4 hu4; have h5' := hQ5.upd hu4 (by omega); clear hQ4' hQ5)
    | ((with_reducible show wpList _ _ _ ((⟨none, _, _, _, _, _⟩ : Oper) :: _) _ _); refine wpList_store_blk (o := ⟨none, _, _, _, _, _⟩) (h5') (by rfl) _ _ _ (by rfl) (by rfl) (msgc (jm 1 0 0) (.slice (some ⟨g3, 0, none⟩) 0 c3)) (by rfl) (sizeMsg) (msgc_size _ _) (msgc_size _ _) (msgc_one _ _ rfl) ?_; intro w5 h5 hu5; have h4' := h4.upd hu5 (by omega); clear h4 h5'; refine stopped ?_)
    | fail)
  refine Stopped.mk ?_
  have hB5 := (H3.out.2.2.2.2.2.upd hu4 (Nat.le_refl _)).upd hu5 (Nat.le_succ _)
  have hJ5 := H3.out.1.below hB5
  have hP5 := H3.out.1.jd.lt
  have hXX := H1.out.2.1
  obtain ⟨gp, hgp⟩ : ∃ x, x = w3.heap.size := ⟨_, rfl⟩
  have hpo : gp ∉ gj :: p.all none ∧ gp + 1 ∉ gj :: p.all none := by
    have := H3.out.2.2.2.2.1.2.2.2.2
    refine ⟨fun hx => ?_, fun hx => ?_⟩
    all_goals
      rcases List.mem_cons.1 hx with e | e
      · omega
      · have := hP5 _ e; omega
  rw [← hgp] at h4' h5 ⊢
  have hs5 := hB5.size
  have H5 := Lib.hid (And.intro hpo (And.intro (H3.out.2.1.trans (hB5.mono H3.out.2.1.size)) (And.intro H3.out.2.2.1 (And.intro H3.out.2.2.2.1 (And.intro H3.out.2.2.2.2.1 (show w3.heap.size ≤ w5.heap.size from hs5))))))
  have HA := Lib.hid (And.intro hJ5 (And.intro h4' (And.intro h5 (Near.refl (gj :: p.all none) w5))))
  clear hB5 hJ5 hP5 hXX hgp hpo hu4 hu5 h4' h5 hs5
  go_wp2_with fail
  refine (jempty_true HA.out.1).mono ?_
  rintro e w6 ⟨rfl, hb⟩
  have HB := Lib.hid (And.intro (HA.out.1.below hb) (And.intro (HA.out.2.1.below hb HA.out.2.1.lt) (And.intro (HA.out.2.2.1.below hb HA.out.2.2.1.lt) (HA.out.2.2.2.trans (Near.below hb)))))
  have q5 := HB.out.2.2.1
  clear hb HA
  go_wp2_with (first
    | ((with_reducible show wpList _ _ _ ((⟨some 24, _, _, _, _, _⟩ : Oper) :: _) _ _); refine wpList_want (by rfl) ?_; refine wpList_load_blk (o := ⟨some 24, _, _, _, _, _⟩) (q5) (by rfl) _ _ (by rfl) (by rfl) _ Tryd.underlying38 (by rfl) (sizeMsg) (msgc_size _ _) ?_)
    | fail)
  refine (jputm_any 1 0 [] jm1_ok (some ⟨g3, 0, none⟩) c3 (Reads.nil _ _) H5.out.2.2.2.1 HB.out.1).mono ?_
  rintro e w7 ⟨rfl, hJ, hn⟩
  have HC := Lib.hid (And.intro (show JR w7 gj p jA1 (l00.set 1 (1, 1, 0, false)) from hJ) (And.intro (HB.out.2.1.near hn H5.out.1.1) (And.intro (HB.out.2.2.1.near hn H5.out.1.2) (HB.out.2.2.2.trans hn))))
  clear hJ hn HB q5
  have q5 := HC.out.2.2.1
  go_wp2_with (first
    | ((with_reducible show wpList _ _ _ ((⟨some 30, _, _, _, _, _⟩ : Oper) :: _) _ _); refine wpList_want (by rfl) ?_; refine wpList_load_blk (o := ⟨some 30, _, _, _, _, _⟩) (q5) (by rfl) _ _ (by rfl) (by rfl) _ Tryd.underlying38 (by rfl) (sizeMsg) (msgc_size _ _) ?_)
    | fail)
  refine (jgets_any 1 (jm 1 0 0) (some ⟨g3, 0, none⟩) 0 c3 [] 0 rfl (Reads.nil _ _) HC.out.1 (fun ad e => by cases e; exact H5.out.2.2.2.2.1.2.1)).mono ?_
  rintro e w8 ⟨rfl, hJ, hn⟩
  rw [jA1_t1]
  have hn' := hn.wider (Y := gj :: p.all none) (fun x hx => by rw [List.mem_singleton.1 hx]; exact List.mem_cons_self ..)
  have HD := Lib.hid (And.intro (show JR w8 gj p jA1 (l00.set 1 (1, 1, 0, false)) by rw [jA1_s1] at hJ; exact hJ) (And.intro (HC.out.2.1.near hn' H5.out.1.1) (And.intro (HC.out.2.2.1.near hn' H5.out.1.2) (HC.out.2.2.2.trans hn'))))
  clear hJ hn hn' HC q5
  go_wp2_with fail
  rw [← zeroMsg_cells]
  refine (jgets_any 2 zeroHd none 0 0 [] 6 rfl (Reads.nil _ _) HD.out.1 (fun ad e => by cases e)).mono ?_
  rintro e w9 ⟨rfl, hJ, hn⟩
  rw [jA1_t2]
  have hn' := hn.wider (Y := gj :: p.all none) (fun x hx => by rw [List.mem_singleton.1 hx]; exact List.mem_cons_self ..)
  have HE := Lib.hid (And.intro (show JR w9 gj p jA1 (l00.set 1 (1, 1, 0, false)) by rw [jA1_get2] at hJ; exact hJ) (And.intro (HD.out.2.1.near hn' H5.out.1.1) (And.intro (HD.out.2.2.1.near hn' H5.out.1.2) (HD.out.2.2.2.trans hn'))))
  clear hJ hn hn' HD
  have q4 := HE.out.2.1
  go_wp2_with (first
    | ((with_reducible show wpList _ _ _ ((⟨some 42, _, _, _, _, _⟩ : Oper) :: _) _ _); refine wpList_want (by rfl) ?_; refine wpList_load_blk (o := ⟨some 42, _, _, _, _, _⟩) (q4) (by rfl) _ _ (by rfl) (by rfl) _ Tryd.underlying38 (by rfl) (sizeMsg) (msgc_size _ _) ?_)
    | fail)
  refine (jputm_any 17 2 [] jm17_ok (some ⟨g2, 0, none⟩) c2 (Reads.nil _ _) H5.out.2.2.1 HE.out.1).mono ?_
  rintro e w10 ⟨rfl, hJ, hn⟩
  have HF := Lib.hid (And.intro (show JR w10 gj p jA2 ((l00.set 1 (1, 1, 0, false)).set 1 (1, 17, 2, false)) from hJ) (And.intro (HE.out.2.1.near hn H5.out.1.1) (HE.out.2.2.2.trans hn)))
  clear hJ hn HE q4
  go_wp2_with fail
  rw [← zeroMsg_cells]
  refine (jgets_any 1 zeroHd none 0 0 [] 6 rfl (Reads.nil _ _) HF.out.1 (fun ad e => by cases e)).mono ?_
  rintro e w11 ⟨rfl, hJ, hn⟩
  rw [jA2_t1]
  have hn' := hn.wider (Y := gj :: p.all none) (fun x hx => by rw [List.mem_singleton.1 hx]; exact List.mem_cons_self ..)
  have HG := Lib.hid (And.intro (show JR w11 gj p jA2 ((l00.set 1 (1, 1, 0, false)).set 1 (1, 17, 2, false)) by rw [jA2_get1] at hJ; exact hJ) (And.intro (HF.out.2.1.near hn' H5.out.1.1) (HF.out.2.2.trans hn')))
  clear hJ hn hn' HF
  go_wp2_with fail
  refine (jopen_any HG.out.1.jd).mono ?_
  rintro e w12 ⟨gk, rfl, hgk, hJk, hb⟩
  have hs11 := HG.out.2.2.size
  have HH := Lib.hid (And.intro hJk (And.intro (HG.out.2.1.below hb HG.out.2.1.lt) (And.intro (HG.out.2.2.trans (Near.below hb)) (And.intro (show g2 ≠ gk by have := H5.out.2.2.2.2.1.2.2.1; have := H5.out.2.2.2.2.2; omega) (show w5.heap.size ≤ gk by omega)))))
  clear hgk hJk hb hs11 HG
  have q4 := HH.out.2.1
  go_wp2_with (first
    | ((with_reducible show wpList _ _ _ ((⟨some 61, _, _, _, _, _⟩ : Oper) :: _) _ _); refine wpList_want (by rfl) ?_; refine wpList_load_blk (o := ⟨some 61, _, _, _, _, _⟩) (q4) (by rfl) _ _ (by rfl) (by rfl) _ Tryd.underlying38 (by rfl) (sizeMsg) (msgc_size _ _) ?_)
    | fail)
  refine (jgets_any 17 (jm 17 2 0) (some ⟨g2, 0, none⟩) 0 c2 [] 0 rfl (Reads.nil _ _) HH.out.1 (fun ad e => by cases e; exact HH.out.2.2.2.1)).mono ?_
  rintro e w13 ⟨rfl, -, hn⟩
  rw [jA2_t17]
  have HI := Lib.hid (H5.out.2.1.trans ((HH.out.2.2.1.high hn (fun y hy => by rw [List.mem_singleton.1 hy]; exact HH.out.2.2.2.2)).toBelow (fun x hx => H1.out.2.1 x hx) H5.out.2.1.size))
  clear hn q4 HH
  go_wp2
  go_ret
  exact ⟨rfl, HI.out⟩
end Go.Proofs.YtfoegmjpfkmggaaDoor

/- A journal that is nil, or that nobody made: the statement, as a call. No condition. (Printed by gen/ju.py.) -/
namespace Go.Proofs.YtfoegmjpfkmggaaDoor
open Go.RowKit
def JNoRel (w : World) (v : Value) (wr : World) : Prop := ∃ i : Nat, i ≤ 2 ∧ v = .int .i64 (i : Int) ∧ Below w.heap.size w wr
set_option maxRecDepth 100000 in
set_option maxHeartbeats 4000000 in
theorem jnone_law (f : HdF) (A : Option Addr) (n c : Nat) (op : Int) (w : World) : Calls Tryd.prog 4 #[.agg (msgc f (.slice A n c)), .int .i64 op] w fun e w' => e = .returned (.bool true) ∧ Below w.heap.size w w' := by
  have hg := Blk.new w 38 (msgc f (.slice A n c))
  have d16 := hg.at_ 16 (v := .slice A n c) (by rfl)
  have hB1 := (Below.refl w.heap.size w).alloc (Nat.le_refl _) (.cells (msgc f (.slice A n c)) 38)
  have H1 := Lib.hid (And.intro hg hB1)
  clear hg hB1
  go_enter Tryd.func4, Tryd.ntmps4
  by_cases hl : 1100 < n
  · have hl' : ((1100 : Int) < (n : Int)) := by omega
    go_wp2_with fail
    generalize w.alloc (.cells (msgc f (.slice A n c)) 38) = w1 at H1 ⊢
    refine (jawake_any w1).mono ?_
    rintro e w2 ⟨rfl, hb⟩
    have HE := Lib.hid (H1.out.2.trans (hb.mono H1.out.2.size))
    clear hb d16
    go_wp2
    go_ret
    exact ⟨rfl, HE.out⟩
  · have hl' : ¬ ((1100 : Int) < (n : Int)) := by omega
    go_wp2_with fail
    clear hl hl' d16
    have k1 := Blk.new' (w.alloc (.cells (msgc f (.slice A n c)) 38)) 52 Tryd.zeroCells52 (n := w.heap.size + 1) (by simp)
    have k2 := Blk.new' ((w.alloc (.cells (msgc f (.slice A n c)) 38)).alloc (.cells Tryd.zeroCells52 52)) 23 #[.pointer none, .pointer (some ⟨w.heap.size + 1, 0, none⟩)] (n := w.heap.size + 1 + 1) (by simp)
    have k3 := Blk.new' (((w.alloc (.cells (msgc f (.slice A n c)) 38)).alloc (.cells Tryd.zeroCells52 52)).alloc (.cells #[.pointer none, .pointer (some ⟨w.heap.size + 1, 0, none⟩)] 23)) 58 #[.slice none 0 0, .map none, .bool false, .pointer none, .int .i64 0] (n := w.heap.size + 1 + 1 + 1) (by simp)
    have k4 := Blk.new' ((((w.alloc (.cells (msgc f (.slice A n c)) 38)).alloc (.cells Tryd.zeroCells52 52)).alloc (.cells #[.pointer none, .pointer (some ⟨w.heap.size + 1, 0, none⟩)] 23)).alloc (.cells #[.slice none 0 0, .map none, .bool false, .pointer none, .int .i64 0] 58)) 22 #[.pointer none, .pointer (some ⟨w.heap.size + 1 + 1 + 1, 0, none⟩)] (n := w.heap.size + 1 + 1 + 1 + 1) (by simp)
    have hb5 : Below w.heap.size w (((((w.alloc (.cells (msgc f (.slice A n c)) 38)).alloc (.cells Tryd.zeroCells52 52)).alloc (.cells #[.pointer none, .pointer (some ⟨w.heap.size + 1, 0, none⟩)] 23)).alloc (.cells #[.slice none 0 0, .map none, .bool false, .pointer none, .int .i64 0] 58)).alloc (.cells #[.pointer none, .pointer (some ⟨w.heap.size + 1 + 1 + 1, 0, none⟩)] 22)) := ((((H1.out.2).alloc (by simp) _).alloc (by simp; omega) _).alloc (by simp; omega) _).alloc (by simp; omega) _
    have k0 : Blk (((((w.alloc (.cells (msgc f (.slice A n c)) 38)).alloc (.cells Tryd.zeroCells52 52)).alloc (.cells #[.pointer none, .pointer (some ⟨w.heap.size + 1, 0, none⟩)] 23)).alloc (.cells #[.slice none 0 0, .map none, .bool false, .pointer none, .int .i64 0] 58)).alloc (.cells #[.pointer none, .pointer (some ⟨w.heap.size + 1 + 1 + 1, 0, none⟩)] 22)) w.heap.size 38 (msgc f (.slice A n c)) := (((H1.out.1.alloc _).alloc _).alloc _).alloc _
    have H5 := Lib.hid (And.intro k0 (And.intro ((((k1.sub (show Tryd.zeroCells52 = noJour from rfl)).alloc (.cells #[.pointer none, .pointer (some ⟨w.heap.size + 1, 0, none⟩)] 23)).alloc (.cells #[.slice none 0 0, .map none, .bool false, .pointer none, .int .i64 0] 58)).alloc (.cells #[.pointer none, .pointer (some ⟨w.heap.size + 1 + 1 + 1, 0, none⟩)] 22)) (And.intro ((k2.alloc (.cells #[.slice none 0 0, .map none, .bool false, .pointer none, .int .i64 0] 58)).alloc (.cells #[.pointer none, .pointer (some ⟨w.heap.size + 1 + 1 + 1, 0, none⟩)] 22)) (And.intro (k3.alloc (.cells #[.pointer none, .pointer (some ⟨w.heap.size + 1 + 1 + 1, 0, none⟩)] 22)) (And.intro k4 hb5)))))
    clear k0 k1 k2 k3 k4 hb5
    generalize ((((w.alloc (.cells (msgc f (.slice A n c)) 38)).alloc (.cells Tryd.zeroCells52 52)).alloc (.cells #[.pointer none, .pointer (some ⟨w.heap.size + 1, 0, none⟩)] 23)).alloc (.cells #[.slice none 0 0, .map none, .bool false, .pointer none, .int .i64 0] 58)).alloc (.cells #[.pointer none, .pointer (some ⟨w.heap.size + 1 + 1 + 1, 0, none⟩)] 22) = w5 at H5 ⊢
    go_loopw [7] (fun v wr => JNoRel w5 v wr) (fun v _ => 2 - (intOf v).toNat)
    case atStart => exact ⟨0, Nat.zero_le _, rfl, (show Below w5.heap.size w5 w5 from Below.refl _ _)⟩
    case round =>
      obtain ⟨i, hi, rfl, hBr⟩ := hrel
      by_cases hlt : i < 2
      · have hJD : ∃ J D, wr.cell? ⟨w.heap.size + 1 + 1, i, none⟩ = some (.pointer J) ∧ wr.cell? ⟨w.heap.size + 1 + 1 + 1 + 1, i, none⟩ = some (.pointer D) ∧ NoJour J wr ∧ NoDisk D wr := by
          have q2 := H5.out.2.2.1.below hBr H5.out.2.2.1.lt
          have q4 := H5.out.2.2.2.2.1.below hBr H5.out.2.2.2.2.1.lt
          rcases (by omega : i = 0 ∨ i = 1) with rfl | rfl
          · exact ⟨none, none, q2.at_ 0 rfl, q4.at_ 0 rfl, .inl rfl, .inl rfl⟩
          · exact ⟨_, _, q2.at_ 1 rfl, q4.at_ 1 rfl, .inr ⟨_, rfl, H5.out.2.1.below hBr H5.out.2.1.lt⟩, .inr ⟨_, rfl, H5.out.2.2.2.1.below hBr H5.out.2.2.2.1.lt⟩⟩
        obtain ⟨J, D, cJ, cD, hJ, hD⟩ := hJD
        have hm := H5.out.1.below hBr H5.out.1.lt
        have HR := Lib.hid (And.intro hJ (And.intro hD (And.intro hm (And.intro cD hBr))))
        clear hJ hD hm hBr cD
        go_wp2_with fail
        refine (jget_no J wr HR.out.1 op).mono ?_
        rintro e w2 ⟨rfl, hb⟩
        have hQ := (Blk.new w2 38 #[.int .i64 0, .int .i64 0, .int .i64 0, .int .i64 0, .int .i64 0, .int .i64 0, .int .i64 0, .int .i64 0, .int .i64 0, .int .u64 0, .int .u64 0, .int .i64 0, .int .i64 0, .int .u64 0, .int .i64 0, .int .i64 0, .slice none 0 0]).sub zeroMsg_cells.symm
        have ha := hb.trans (((Below.refl w2.heap.size w2).alloc (Nat.le_refl _) (.cells #[.int .i64 0, .int .i64 0, .int .i64 0, .int .i64 0, .int .i64 0, .int .i64 0, .int .i64 0, .int .i64 0, .int .i64 0, .int .u64 0, .int .u64 0, .int .i64 0, .int .i64 0, .int .u64 0, .int .i64 0, .int .i64 0, .slice none 0 0] 38)).mono hb.size)
        have hQs := hb.size
        clear hb cJ
        go_wp2_with (first
          | ((with_reducible show wpList _ _ _ ((⟨none, _, _, _, _, _⟩ : Oper) :: _) _ _); refine wpList_store_blk (o := ⟨none, _, _, _, _, _⟩) (hQ) (by rfl) _ _ _ (by rfl) (by rfl) (msgc zeroHd (.slice none 0 0)) (by rfl) (sizeMsg) (msgc_size _ _) (msgc_size _ _) (msgc_one _ _ rfl) ?_; intro w3 h3 hu3; have hb3 := ha.upd hu3 hQs; have cD := (Near.below (X := []) hb3).cell_ (by simp) HR.out.2.2.2.1; clear ha hQ hu3)
          | fail)
        have h2 : NoJour J w3 := HR.out.1.below hb3
        have h3' : NoDisk D w3 := HR.out.2.1.near (Near.below hb3)
        have hm3 := HR.out.2.2.1.below hb3 HR.out.2.2.1.lt
        have H3 := Lib.hid (And.intro h2 (And.intro h3' (And.intro hm3 (And.intro (HR.out.2.2.2.2.trans (hb3.mono HR.out.2.2.2.2.size)) h3))))
        clear h2 h3' hm3 hb3 hQs
        refine (jopen_no D w3 H3.out.2.1).mono ?_
        rintro e w3' ⟨rfl, hw⟩
        obtain rfl := hw.symm
        clear hw
        go_wp2_with (first
          | ((with_reducible show wpList _ _ _ ((⟨some 49, _, _, _, _, _⟩ : Oper) :: _) _ _); refine wpList_want (by rfl) ?_; refine wpList_load_blk (o := ⟨some 49, _, _, _, _, _⟩) (h3) (by rfl) _ _ (by rfl) (by rfl) _ Tryd.underlying38 (by rfl) (sizeMsg) (msgc_size _ _) ?_)
          | fail)
        rw [← zeroMsg_cells]
        refine (sameMessage_any zeroHd zeroHd none none 0 0 0 0 [] [] rfl rfl w3 (Reads.nil _ _) (Reads.nil _ _)).mono ?_
        rintro e w4 ⟨rfl, hb⟩
        rw [show (Hd.beq zeroHd zeroHd && decide (([] : List UInt8) = [])) = true from rfl]
        have H4 := Lib.hid (And.intro (H3.out.1.below hb) (And.intro (H3.out.2.1.near (Near.below hb)) (And.intro (H3.out.2.2.1.below hb H3.out.2.2.1.lt) (H3.out.2.2.2.1.trans (hb.mono H3.out.2.2.2.1.size)))))
        have cD := (Near.below (X := []) hb).cell_ (by simp) cD
        have hm4 := H4.out.2.2.1
        clear hb H3 h3
        go_wp2_with (first
          | ((with_reducible show wpList _ _ _ ((⟨some 56, _, _, _, _, _⟩ : Oper) :: _) _ _); refine wpList_want (by rfl) ?_; refine wpList_load_blk (o := ⟨some 56, _, _, _, _, _⟩) (hm4) (by rfl) _ _ (by rfl) (by rfl) _ Tryd.underlying38 (by rfl) (sizeMsg) (msgc_size _ _) ?_)
          | fail)
        refine (jput_no J w4 H4.out.1 f _).mono ?_
        rintro e w6 ⟨rfl, hb⟩
        have H6 := Lib.hid (And.intro (H4.out.1.below hb) (And.intro (H4.out.2.1.near (Near.below hb)) (H4.out.2.2.2.trans (hb.mono H4.out.2.2.2.size))))
        have cD := (Near.below (X := []) hb).cell_ (by simp) cD
        clear hb H4 hm4
        go_wp2_with fail
        refine (jmend_no J w6 H6.out.1).mono ?_
        rintro e w7 ⟨rfl, hb⟩
        have H7 := Lib.hid (And.intro (H6.out.1.below hb) (And.intro (H6.out.2.1.near (Near.below hb)) (H6.out.2.2.trans (hb.mono H6.out.2.2.size))))
        have cD := (Near.below (X := []) hb).cell_ (by simp) cD
        clear hb H6
        go_wp2_with fail
        refine (jcut_no J w7 H7.out.1 op).mono ?_
        rintro e w8 ⟨rfl, hb⟩
        have H8 := Lib.hid (And.intro (H7.out.1.below hb) (And.intro (H7.out.2.1.near (Near.below hb)) (H7.out.2.2.trans (hb.mono H7.out.2.2.size))))
        have cD := (Near.below (X := []) hb).cell_ (by simp) cD
        clear hb H7
        go_wp2_with fail
        refine (jslots_no J w8 H8.out.1).mono ?_
        rintro e w8' ⟨rfl, hw⟩
        obtain rfl := hw.symm
        clear hw
        go_wp2_with fail
        refine (jformat_no D w8 H8.out.2.1).mono ?_
        rintro e w9 ⟨rfl, hb⟩
        have HE := Lib.hid (H8.out.2.2.trans (hb.mono H8.out.2.2.size))
        clear hb H8 cD
        go_wp2_with fail
        exact ⟨⟨i + 1, by omega, by go_num, HE.out⟩, by simp [intOf]; omega⟩
      · obtain rfl : i = 2 := by omega
        clear hlt hi
        have HR := Lib.hid (H5.out.2.2.2.2.2.trans (hBr.mono H5.out.2.2.2.2.2.size))
        clear hBr
        go_wp2_with fail
        refine (jawake_any wr).mono ?_
        rintro e w2 ⟨rfl, hb⟩
        have HE := Lib.hid (HR.out.trans (hb.mono HR.out.size))
        clear hb HR
        go_wp2
        go_ret
        exact ⟨rfl, HE.out⟩
end Go.Proofs.YtfoegmjpfkmggaaDoor

/- JournalNone: for every input the law returns true and every argument reads as it did. Condition: the tables of Go's library are as their initialisers lay them (tied to the program's text by the card). -/
namespace Go.Proofs.YtfoegmjpfkmggaaDoor
open Go.ChangeShapes Go.WideShapes Go.ChangeAt Go.RowKit
theorem jnone_args (x : msgSh.T) (cs : List Value) (o : Int) (W : World) (h : Sh.Is W msgSh x cs) :
    Calls Tryd.prog 4 #[.agg cs.toArray, .int .i64 o] W fun e w' => e = .returned (.bool true) ∧ Below W.heap.size W w' := by
  obtain ⟨f, A, c, e, hin, h1, h2, hb⟩ := msgSh_is h
  rw [e]
  exact jnone_law f A _ c o W
set_option maxRecDepth 100000 in
theorem journalNone_lifted (os : Os) (started : os.Started) (H : Type) (enc : TypeId × Value → H) :
    ReturnsInHanded {} Tryd.checked os 4 .any (fun w args => (Rows.journalNoneSpec.pre enc Tryd.prog Tryd.f4 [] false w args ∧ laidMetH Tryd.prog laid1 w) ∧ sizedMet enc Tryd.prog Tryd.f4 (OpenSpec.ofChange Rows.journalNoneSpec) false w args) (Rows.journalNoneSpec.post enc Tryd.prog Tryd.f4 false true false false) := by
  refine returnsInHanded_of_change_and (C := Tryd.checked) (X := fun w _ => laidMetH Tryd.prog laid1 w) (fun _ _ _ hh h => h.of_heap hh) Tryd.own started (by kernel_rfl) Tryd.func4
    (ChangeSpec.witness_shaped (enc := enc) (C := Tryd.checked) (os := os) (X := fun w _ => laidMetH Tryd.prog laid1 w) false (laidW os) #[.agg #[.int .i64 0, .int .i64 0, .int .i64 0, .int .i64 0, .int .i64 0, .int .i64 0, .int .i64 0, .int .i64 0, .int .i64 0, .int .u64 0, .int .u64 0, .int .i64 0, .int .i64 0, .int .u64 0, .int .i64 0, .int .i64 0, .slice none 0 0], .int .i64 0] 8 rfl (World.shaped_of_RefB (by kernel_rfl) (by kernel_rfl)) (by kernel_rfl) (by kernel_rfl) (by kernel_rfl) (door_met os _)) ?_
  intro W base args ds gs before hval0 hW _ _ hL _
  have hval : ∀ (j : Nat) t v, Tryd.f4.params[j]? = some t → args[j]? = some v → Value.okWide Tryd.prog W .any base t v := hval0
  have hW' := hW
  obtain ⟨p, q, hA0, hV, rfl, hfz, hnd⟩ := hW
  have hA : DataW.TrodAll enc Tryd.prog W 0 (fun _ => true) true Tryd.f4.params.toList args.toList ds p := hA0
  rw [Tryd.params4] at hA hval
  obtain ⟨v0, v1, d0, d1, p0, p1, rfl, rfl, rfl, h0, h1⟩ := trodAll_two hA
  obtain ⟨rfl, rfl⟩ := trodVars_none hV
  have h0k := h0
  have h1k := h1
  obtain ⟨x, hx0⟩ := Sh.open_ (P := Tryd.prog) msgSh (by kernel_rfl) h0
  obtain ⟨cs, rfl, hcs⟩ := arg_agg Tryd.underlying38 rfl (hval 0 38 v0 rfl rfl) hx0
  obtain ⟨o, hx1⟩ := Sh.open_ (P := Tryd.prog) (.int .i64) (by kernel_rfl) h1
  obtain ⟨rfl, hlo, hhi⟩ := arg_int Tryd.underlying3 (hval 1 3 v1 rfl rfl) hx1
  clear hA0 hval0
  simp only [List.append_nil] at hW'
  have hlt : ∀ x ∈ p0 ++ p1, x.block < W.heap.size := fun x hx => by simpa using hW'.lt x hx
  refine (jnone_args x cs o W hcs).mono fun e W' ⟨he, hw⟩ => ?_
  subst he
  refine ⟨_, rfl, _, _, _, [], p0 ++ p1, [], hW', ?_, ?_, rfl, hw.frame _, fun h => by cases h⟩
  · exact trodAll_mk1 (shut_bool Tryd.underlying4 true)
  · exact trodAll_mk2 (Below.trod Tryd.laidOut (by kernel_rfl) (of_decide_eq_true (by kernel_rfl)) h0k hw (fun x hx => hlt x (by simp [hx]))) (Below.trod Tryd.laidOut (by kernel_rfl) (of_decide_eq_true (by kernel_rfl)) h1k hw (fun x hx => hlt x (by simp [hx])))
theorem journalNone_holds : Rows.JournalNoneSaid :=
  OpenClaim.holds_of_wide 4 Tryd.f4 rfl rfl rfl rfl rfl rfl rfl ⟨rfl, rfl, rfl, rfl, rfl⟩ rfl rfl rfl rfl rfl (by kernel_rfl) Tryd.func4 (by kernel_rfl)
    (of_decide_eq_true (by kernel_rfl)) (by unfold Func.isWrapper; rw [if_neg (by decide +kernel)]; exact ⟨rfl, rfl⟩)
    (fun os started H enc _ => journalNone_lifted os started H enc)
theorem journalNone_card : Rows.JournalNoneCardSaid :=
  Claim7.holds_tied_plain_at .later [] [.data, .pinned] true Rows.journalNoneCard.stood.harness false
    journalNone_holds (fun _ h => by cases h) (by kernel_rfl) (fun _ h => by cases h) journalNone_row_tie rfl ⟨rfl, rfl⟩ (by kernel_rfl) rfl
    (fun f fn hf hfn => by
      obtain rfl : f = 4 := Option.some.inj ((show Tryd.prog.funcNamed Rows.journalNoneRow.func = some 4 by kernel_rfl).symm.trans hf) |>.symm
      obtain rfl : fn = Tryd.f4 := (Option.some.inj (Tryd.func4.symm.trans hfn)).symm
      exact ⟨by kernel_rfl, fun j t ht => by
        rw [Tryd.params4] at ht
        have hm : t ∈ [38, 3] := by simpa using Array.mem_of_getElem? ht
        have hall : ([38, 3].all fun u => !Tryd.prog.wantsStandIn u) = true := by kernel_rfl
        exact (show Tryd.prog.wantsStandIn t = false by simpa using List.all_eq_true.1 hall t hm)⟩)
    (by kernel_rfl)
end Go.Proofs.YtfoegmjpfkmggaaDoor
