/- Open: how all slots are. Condition: the disk is up, has no fuse and 104 sectors. -/
import Derived.Test.YtfoegmjpfkmggaaGreatDoorMJournalTurned14
namespace Go.Proofs.YtfoegmjpfkmggaaGreatDoor
open Go.RowKit
/-- How the slots are, once the first k have been looked at. -/
def jopd (L : List UInt8) (k : Nat) : List SlT := (List.range 16).map fun n => if n < k then Slot.judge (jhd L n) (jpr L n) n else (0, 0, 0, false)
theorem jopd_length (L : List UInt8) (k : Nat) : (jopd L k).length = 16 := by unfold jopd; simp
theorem jopd_0 (L : List UInt8) : jopd L 0 = List.replicate 16 (0, 0, 0, false) := by unfold jopd; rfl
theorem jopd_at (L : List UInt8) (k i : Nat) (h : i < (jopd L k).length) : (jopd L k)[i] = if i < k then Slot.judge (jhd L i) (jpr L i) i else (0, 0, 0, false) := by
  have e : (jopd L k)[i]? = some (if i < k then Slot.judge (jhd L i) (jpr L i) i else (0, 0, 0, false)) := by
    have h16 : i < 16 := by rw [jopd_length] at h; exact h
    unfold jopd
    simp [h16]
  rw [List.getElem?_eq_getElem h] at e
  exact Option.some.inj e
theorem jopd_succ (L : List UInt8) (k : Nat) : (jopd L k).set k (Slot.judge (jhd L k) (jpr L k) k) = jopd L (k + 1) := by
  apply List.ext_getElem
  · rw [List.length_set, jopd_length, jopd_length]
  · intro i h1 h2
    rw [List.getElem_set, jopd_at L (k + 1) i h2]
    by_cases e : k = i
    · subst e
      rw [if_pos rfl, if_pos (by omega)]
    · rw [if_neg e, jopd_at]
      by_cases hi : i < k
      · rw [if_pos hi, if_pos (by omega)]
      · rw [if_neg hi, if_neg (by omega)]
theorem jz_eq (gd : Nat) (L : List UInt8) : Tryz.zeroCells91.setIfInBounds 0 (.pointer (some ⟨gd, 0, none⟩)) = jc gd (jopd L 0) := by rw [jopd_0]; rfl
def JOpRel (w : World) (p : Pl) (L : List UInt8) (v : Value) (wr : World) : Prop :=
  ∃ k : Nat, k ≤ 16 ∧ v = .int .i64 (k : Int) ∧ JR wr w.heap.size p L (jopd L k) ∧ Below w.heap.size w wr
section
variable {w : World} {p : Pl} {L : List UInt8}
theorem jdread1 (k : Nat) (hk : k < 16) (h : JD w p L) : Calls Tryz.prog 39 #[.pointer (some ⟨p.gd, 0, none⟩), .int .i64 ((8 + k : Nat) : Int), .int .i64 1] w fun e w' => ∃ g, e = .returned (.tuple #[.slice (some ⟨g, 0, none⟩) 256 256, .int .i64 0]) ∧
    w.heap.size ≤ g ∧ Bytes w' (some ⟨g, 0, none⟩) (jhd L k) ∧ Below w.heap.size w w' := by
  refine (jdread (8 + k) 1 (by omega) h).mono ?_
  rintro e w1 ⟨g, rfl, hg, hb, hB⟩
  exact ⟨g, rfl, hg, hb.bytes, hB⟩
theorem jdread5 (k : Nat) (hk : k < 16) (h : JD w p L) : Calls Tryz.prog 39 #[.pointer (some ⟨p.gd, 0, none⟩), .int .i64 ((24 + 5 * k : Nat) : Int), .int .i64 5] w fun e w' => ∃ g, e = .returned (.tuple #[.slice (some ⟨g, 0, none⟩) 1280 1280, .int .i64 0]) ∧
    w.heap.size ≤ g ∧ Bytes w' (some ⟨g, 0, none⟩) (jpr L k) ∧ Below w.heap.size w w' := by
  refine (jdread (24 + 5 * k) 5 (by omega) h).mono ?_
  rintro e w1 ⟨g, rfl, hg, hb, hB⟩
  exact ⟨g, rfl, hg, hb.bytes, hB⟩
set_option maxRecDepth 100000 in
set_option maxHeartbeats 4000000 in
theorem jopen_any (h : JD w p L) : Calls Tryz.prog 14 #[.pointer (some ⟨p.gd, 0, none⟩)] w fun e w' => ∃ gj, e = .returned (.tuple #[.pointer (some ⟨gj, 0, none⟩), .int .i64 0]) ∧ w.heap.size ≤ gj ∧ JR w' gj p L (jopd L 16) ∧ Below w.heap.size w w' := by
  have hr := jready_jd h
  have hB := (Below.refl w.heap.size w).alloc (Nat.le_refl _) (.cells (jc p.gd (jopd L 0)) 91)
  have hJ : JR (w.alloc (.cells (jc p.gd (jopd L 0)) 91)) w.heap.size p L (jopd L 0) := ⟨h.near (Near.below hB), Blk.new w 91 _, jopd_length _ _⟩
  have H0 := Lib.hid (And.intro hJ hB)
  have HL := Lib.hid h.len
  clear h hB hJ
  go_enter Tryz.func14, Tryz.ntmps14
  go_wp2_with fail
  refine hr.mono ?_
  rintro e w1 ⟨rfl, hw⟩
  obtain rfl := hw.symm
  clear hw hr
  have hjz := jz_eq p.gd L
  go_wp2_with fail
  clear hjz
  generalize w.alloc (.cells (jc p.gd (jopd L 0)) 91) = w1 at H0 ⊢
  go_loopw [19] (fun v wr => JOpRel w p L v wr) (fun v _ => 16 - (intOf v).toNat)
  case atStart => exact ⟨0, Nat.zero_le _, rfl, H0.out.1, H0.out.2⟩
  case round =>
    obtain ⟨k, hk, rfl, hJ, hB⟩ := hrel
    have HR := Lib.hid (And.intro hJ hB)
    clear hJ hB
    by_cases hlt : k < 16
    · have k1 : wrap64 (8 + (k : Int)) = ((8 + k : Nat) : Int) := by unfold wrap64; omega
      go_wp2_with fail
      refine (jdread1 k hlt HR.out.1.jd).mono ?_
      rintro e w2 ⟨g1, rfl, hg1, hb1, hB1⟩
      have H2 := Lib.hid (And.intro (HR.out.1.below hB1) (And.intro hb1 hB1))
      clear hg1 hb1 hB1 k1
      go_wp2_with fail
      refine (jplace_any (k : Int) (by omega) _).mono ?_
      rintro e w2' ⟨rfl, hw⟩
      obtain rfl := hw.symm
      clear hw
      rw [show (24 : Int) + 5 * (k : Int) = ((24 + 5 * k : Nat) : Int) by omega]
      go_wp2_with fail
      refine (jdread5 k hlt H2.out.1.jd).mono ?_
      rintro e w3 ⟨g2, rfl, hg2, hb2, hB2⟩
      have H3 := Lib.hid (And.intro (H2.out.1.below hB2) (And.intro (Bytes.below H2.out.2.1 hB2) (And.intro hb2 (H2.out.2.2.trans (hB2.mono H2.out.2.2.size)))))
      clear hg2 hb2 hB2 H2
      go_wp2_with fail
      have hC0 : Near [w.heap.size] w3 w3.drew := (Near.refl _ _).drew
      have hN0 : Near [] w3 w3.drew := (Near.refl _ _).drew
      refine wp_region_tree (Near [w.heap.size] w3) [] (PlanT.takes [0, 1, 2, 3, 4, 6, 7] (.opt 5 (PlanT.takes [8] (.opt 9 .done .no)) .no)) (by kernel_rfl) (by kernel_rfl) (hC0) ?_
      refine wpTree_pure _ _ _ (by rfl) (by rfl) ?_
      dsimp only [List.filterMap, List.getElem?_cons_zero, List.getElem?_cons_succ]
      repeat (go_big_quiet_step (fail))
      refine wpQuiet_nil ?_
      refine wpTree_one _ rfl ?_
      go_wp2_with fail
      refine (judge_any (some ⟨g1, 0, none⟩) (some ⟨g2, 0, none⟩) 256 256 1280 1280 (jhd L k) (jpr L k) (k : Int) (by omega) ⟨(jhd_length HL.out hlt).symm, by omega, by omega⟩ ⟨(jpr_length HL.out hlt).symm, by omega, by omega, by omega⟩ w3.drew (Bytes.near H3.out.2.1 hN0 (fun _ _ => by simp)) (Bytes.near H3.out.2.2.1 hN0 (fun _ _ => by simp))).mono ?_
      rintro e w4 ⟨rfl, hB4⟩
      have hN4 : Near [] w3 w4 := hN0.trans (Near.below hB4)
      have hBB : Below w.heap.size w w4 := ((HR.out.2.trans (H3.out.2.2.2.mono HR.out.2.size)).drew).trans (hB4.mono (by have := HR.out.2.size; have := H3.out.2.2.2.size; rw [World.size_drew]; omega))
      have H4 := Lib.hid (And.intro (H3.out.1.near hN4) (And.intro hN4 hBB))
      have hs := Lib.hid (jopd_succ L k)
      clear hB4 hN4 hN0 hBB
      unfold stv
      generalize Slot.judge (jhd L k) (jpr L k) (k : Int) = x at hs ⊢
      go_wp2_with fail
      refine TreeQ.in_ (H4.out.2.1.wider (fun x hx => by cases hx)) ?_
      refine wpTree_pure _ _ _ (by rfl) (by rfl) ?_
      dsimp only [List.filterMap, List.getElem?_cons_zero, List.getElem?_cons_succ]
      repeat (go_big_quiet_step (fail))
      refine wpQuiet_nil ?_
      refine wpTree_one _ rfl ?_
      have hJd := H4.out.1.jb
      go_wp2_with (first
        | ((with_reducible show wpList _ _ _ ((⟨none, _, _, _, _, _⟩ : Oper) :: _) _ _); refine wpList_store_in (o := ⟨none, _, _, _, _, _⟩) hJd (by rfl) _ _ _ (by rfl) (1 + k * 4) (by rfl) #[.int .i64 x.1, .int .i64 x.2.1, .int .i64 x.2.2.1, .bool x.2.2.2] (by rfl) sizeSt (by rfl) (by rw [jc_size, jopd_length]; omega) (st_one _ _ _ _) ?_; intro w7 hg7 hu7)
        | fail)
      have hn7 : Near [w.heap.size] w3 w7 := (H4.out.2.1.wider (fun x hx => by cases hx)).trans (Near.upd hu7 (List.mem_singleton_self _))
      refine TreeQ.in_ hn7 ?_
      refine wpTree_done ?_
      have hb7 : Blk w7 w.heap.size 91 (jc p.gd (jopd L (k + 1))) := by
        rw [← hs.out, ← jc_set p.gd (jopd L k) k x (by rw [jopd_length]; exact hlt), show 1 + 4 * k = 1 + k * 4 by omega]
        exact hg7
      have hgj := H4.out.1.off
      have hd7 : JD w7 p L := H4.out.1.jd.near' (Near.upd hu7 (List.mem_singleton_self _)) (by
        unfold Pl.all at hgj
        simp at hgj ⊢
        exact ⟨fun e => hgj.1 e.symm, fun e => hgj.2.1 e.symm, fun e => hgj.2.2 e.symm⟩)
      have HE := Lib.hid (And.intro (JR.mk hd7 hb7 (jopd_length _ _)) (H4.out.2.2.upd hu7 (Nat.le_refl _)))
      clear hn7 hb7 hd7 hgj hg7 hu7 hJd hC0
      go_wp2_with fail
      exact ⟨⟨k + 1, by omega, by go_num, HE.out.1, HE.out.2⟩, by simp [intOf]; omega⟩
    · obtain rfl : k = 16 := by omega
      clear hlt hk
      go_wp2
      go_ret2
      exact ⟨_, rfl, Nat.le_refl _, HR.out⟩
end
end Go.Proofs.YtfoegmjpfkmggaaGreatDoor

/- A slot's bytes of a prepare: the program's and the document's. Conditions: the body can be read; the numbers are what Go's types hold. -/
namespace Go.Proofs.YtfoegmjpfkmggaaGreatDoor
open Go.RowKit
theorem Ent.nil_is (w : World) : Ent.Is w ⟨none, 0, []⟩ := ⟨Nat.le_refl _, by simp, .inl ⟨rfl, rfl⟩⟩
theorem Ent.nil_blk (b : Nat) : ∀ g, Ent.blk ⟨none, 0, []⟩ = some g → b ≤ g := fun g h => (by cases h)
set_option maxRecDepth 100000 in
set_option maxHeartbeats 2000000 in
theorem sbytes_any (f : HdF) (A : Option Addr) (n c : Nat) (body : List UInt8) (w : World) (hn : n = body.length) (hby : Bytes w A body) (hc : n ≤ c ∧ c ≤ 9223372036854775807) (hin : Hd.in_ f) :
    Calls Tryz.prog 30 #[.agg (msgc f (.slice A n c))] w fun e w' => ∃ E : Ent, e = .returned (.tuple #[E.val, .int .i64 (Slot.bytes f body).1]) ∧ E.Is w' ∧ (∀ g, E.blk = some g → w.heap.size ≤ g) ∧ E.n = E.l.length ∧
      E.l = (Slot.bytes f body).2 ∧ Below w.heap.size w w' := by
  have hm := Blk.new w 41 (msgc f (.slice A n c))
  have hB := (Below.refl w.heap.size w).alloc (Nat.le_refl _) (.cells (msgc f (.slice A n c)) 41)
  replace hby := Bytes.below hby hB
  have HN := Lib.hid hn
  have HC := Lib.hid hc
  have HIN := Lib.hid hin
  clear hn hc hin
  go_enter Tryz.func30, Tryz.ntmps30
  go_wp2_with (first
    | ((with_reducible show wpList _ _ _ ((⟨some 8, _, _, _, _, _⟩ : Oper) :: _) _ _); refine wpList_load_blk (o := ⟨some 8, _, _, _, _, _⟩) (hm) (by rfl) _ _ (by rfl) (by rfl) _ Tryz.underlying41 (by rfl) (sizeMsg) (msgc_size _ _) ?_)
    | fail)
  generalize w.alloc (.cells (msgc f (.slice A n c)) 41) = w1 at hm hB hby ⊢
  generalize hs0 : w.heap.size = s0 at hm ⊢
  have HS0 := Lib.hid hs0
  clear hs0
  refine (hseal_any f A n c body w1 HN.out hby HC.out HIN.out).mono ?_
  have hlt1 := hm.lt
  rintro e w2 ⟨E, rfl, hE, hEg, hEn, hEl, hbx⟩
  (replace hm := keep hbx hm; replace hB := hB.trans (hbx.mono hB.size))
  have hsz2 := hbx.size
  clear hbx hby HIN HN HC
  rcases Msg.seal_cases f body with ⟨hs, hl3, hok⟩ | ⟨co, hco, hs⟩
  · have hbl := Hd.bytes_length (setF f 2 body.length) body
    obtain ⟨X, hX⟩ : ∃ X, X = Hd.bytes (setF f 2 body.length) body := ⟨_, rfl⟩
    rw [← hX] at hs hbl
    have HSB := Lib.hid (show Slot.bytes f body = if Slot.is f (Slot.of (f 5)) = true then (0, fillN 1280 X) else (2, []) by unfold Slot.bytes; rw [hs, if_pos rfl])
    rw [hs] at hEl ⊢
    dsimp only at hEl ⊢
    obtain ⟨A2, n2, l2⟩ := E
    dsimp only at hEn hEl
    subst hEl hEn
    have HE := Lib.hid (And.intro hE (And.intro hEg (And.intro hbl hl3)))
    dsimp only [Ent.val]
    clear hE hEg hbl hl3 hs hX hok
    go_wp2_with fail
    refine wp_region_tree (Below w2.heap.size w2) [] (PlanT.takes [0, 2, 3] (PlanT.takes [1, 4] (.opt 5 (.opt 6 (PlanT.takes [7] .done) .no) .no))) (by kernel_rfl) (by kernel_rfl) ((Below.refl _ _).drew) ?_
    refine wpTree_pure _ _ _ (by rfl) (by rfl) ?_
    dsimp only [List.filterMap, List.getElem?_cons_zero, List.getElem?_cons_succ]
    repeat (go_big_quiet_step (fail))
    refine wpQuiet_nil ?_
    refine wpTree_takeL _ _ _ (by rfl) (by rfl) ((Below.refl _ _).drew) ?_
    dsimp only [List.filterMap, List.getElem?_cons_zero, List.getElem?_cons_succ]
    (refine wpQuiet_load_mid (fun w' hw' => hd_mid hm w' hw') (by rfl) _ _ (by rfl) (by rfl) _ Tryz.underlying38 (by rfl) (sizeHd) (by rw [Array.length_toList, hdc_size]) ?_; simp only [Act.put, List.setIfInBounds_toArray, List.set_cons_zero, List.set_cons_succ])
    (refine wpQuiet_load_cell (fun w' hw' => (hm.below hw' hm.lt).at_ 5 (msgc_at f _ 5 (by omega))) (by rfl) _ _ (by rfl) (by rfl) _ Tryz.underlying3 (by rfl) ?_; simp only [Act.put, List.setIfInBounds_toArray, List.set_cons_zero, List.set_cons_succ])
    refine wpQuiet_nil ?_
    rw [Array.toArray_toList]
    refine wpTree_one _ rfl ?_
    go_wp2_with fail
    refine (sof_any (f 5) _).mono ?_
    rintro e w3 ⟨rfl, hw3⟩
    have hC3 : Below w2.heap.size w2 w3 := by rw [hw3]; exact (Below.refl _ _).drew
    clear hw3
    obtain ⟨o, ho⟩ : ∃ o, o = Slot.of (f 5) := ⟨_, rfl⟩
    rw [← ho]
    have HO := Lib.hid ho
    clear ho
    go_wp2_with fail
    refine TreeQ.in_ hC3 ?_
    refine wpTree_one _ rfl ?_
    go_wp2_with fail
    refine (sis_any f o w3).mono ?_
    rintro e w4 ⟨rfl, hbx⟩
    have hC4 := hC3.trans (hbx.mono hC3.size)
    clear hbx hC3
    obtain ⟨q, hq⟩ : ∃ q, q = Slot.is f o := ⟨_, rfl⟩
    rw [← hq]
    rw [HO.out] at hq
    have HQ := Lib.hid hq
    clear hq
    go_wp2_with fail
    refine TreeQ.in_ hC4 ?_
    refine wpTree_pure _ _ _ (by rfl) (by rfl) ?_
    dsimp only [List.filterMap, List.getElem?_cons_zero, List.getElem?_cons_succ]
    repeat (go_big_quiet_step (fail))
    refine wpQuiet_nil ?_
    refine wpTree_done ?_
    have hB4 := hB.trans (hC4.mono hB.size)
    have hm4 := hm.below hC4 hm.lt
    clear hm hB
    cases q
    · have HB := Lib.hid hB4
      clear hB4 hm4 hC4
      go_wp2
      go_ret2
      rw [HSB.out, ← HQ.out]
      exact ⟨⟨none, 0, []⟩, rfl, Ent.nil_is _, Ent.nil_blk _, rfl, rfl, HB.out⟩
    · have hX4 : Bytes w4 A2 l2 := Bytes.below (Ent.Is.bytes HE.out.1) hC4
      have hXl : l2.length ≤ 1280 := by have := HE.out.2.2; omega
      have hc4 := hC4.size
      clear hC4
      go_wp2_with (first
        | ((with_reducible show wpList _ _ _ ((⟨some 23, _, _, _, _, _⟩ : Oper) :: _) _ _); refine wpList_make_bytes (o := ⟨some 23, _, _, _, _, _⟩) _ (by rfl) _ _ _ (by rfl) _ Tryz.underlying39 u8info .i64 .i64 _ _ (1280) (1280) (by rfl) (by rfl) (by first | rfl | omega) (by first | rfl | omega) (by omega) (by omega) ?_; intro w5 h5 hb5 hs5; have hX5 := hX4.below hb5)
        | (show wpList _ _ _ ((⟨some 26, _, _, _, _, _⟩ : Oper) :: _) _ _; refine wpList_copy_bytes (o := ⟨some 26, _, _, _, _, _⟩) (by rfl) _ _ _ _ (by rfl) 5 Tryz.underlying39 size1 w4.heap.size 1280 1280 A2 l2.length l2.length (by rfl) (by rfl) (List.replicate 1280 0) l2 _ h5 rfl hX5 (by simpa using hXl) hXl ?_; intro w6 h6 hu6; have HBX := Lib.hid ((hB4.trans (hb5.mono hB4.size)).upd hu6 (by have := hB4.size; omega)); have H6 := Lib.hid h6; clear h5 hb5 hu6 hX5 hs5 hB4)
        | fail)
      go_ret2
      rw [HSB.out, ← HQ.out, if_pos rfl]
      have hfl := fillN_length 1280 l2 hXl
      refine ⟨⟨some ⟨w4.heap.size, 0, none⟩, 1280, fillN 1280 l2⟩, by unfold Ent.val; simp only; rw [hfl]; rfl, ⟨by simp only; omega, by simp only; omega, .inr ⟨w4.heap.size, 5, rfl, H6.out.sub ?_⟩⟩, fun g h => ?_, by simp only; omega, rfl, HBX.out⟩
      · unfold fillN; rw [List.drop_replicate]
      · unfold Ent.blk at h; simp at h; have := HS0.out; omega
  · have HSB := Lib.hid (show Slot.bytes f body = (co, []) by unfold Slot.bytes; rw [hs, if_neg hco])
    rw [hs] at hEl ⊢
    have hc0 : (co != 0) = true := by rw [bne_iff_ne]; exact hco
    dsimp only
    have HB := Lib.hid hB
    clear hE hEg hEn hEl hs hco hm hB
    go_wp2
    go_ret2
    rw [HSB.out]
    exact ⟨⟨none, 0, []⟩, rfl, Ent.nil_is _, Ent.nil_blk _, rfl, rfl, HB.out⟩
set_option maxRecDepth 100000 in
set_option maxHeartbeats 2000000 in
theorem rbytes7_any (f : HdF) (A : Option Addr) (n c : Nat) (body : List UInt8) (w : World) (hn : n = body.length) (hby : Bytes w A body) (hc : n ≤ c ∧ c ≤ 9223372036854775807) (hin : Hd.in_ f) :
    Calls Tryz.prog 41 #[.agg (msgc f (.slice A n c))] w fun e w' => ∃ v sp, e = .returned (.tuple #[v, .int .i64 (Slot.bytes f body).1]) ∧ OwnB 5 w' w.heap.size v (Slot.bytes f body).2 sp ∧ Below w.heap.size w w' := by
  have hm := Blk.new w 41 (msgc f (.slice A n c))
  have hB := (Below.refl w.heap.size w).alloc (Nat.le_refl _) (.cells (msgc f (.slice A n c)) 41)
  replace hby := Bytes.below hby hB
  have HN := Lib.hid hn
  have HC := Lib.hid hc
  have HIN := Lib.hid hin
  clear hn hc hin
  go_enter Tryz.func41, Tryz.ntmps41
  go_wp2_with (first
    | ((with_reducible show wpList _ _ _ ((⟨some 7, _, _, _, _, _⟩ : Oper) :: _) _ _); refine wpList_load_blk (o := ⟨some 7, _, _, _, _, _⟩) (hm) (by rfl) _ _ (by rfl) (by rfl) _ Tryz.underlying41 (by rfl) (sizeMsg) (msgc_size _ _) ?_)
    | fail)
  generalize w.alloc (.cells (msgc f (.slice A n c)) 41) = w1 at hm hB hby ⊢
  generalize hs0 : w.heap.size = s0 at hm ⊢
  have HS0 := Lib.hid hs0
  clear hs0
  refine (rhseal_any f A n c body w1 HN.out hby HC.out HIN.out).mono ?_
  have hlt1 := hm.lt
  rintro e w2 ⟨v, sp, rfl, ho, hbx⟩
  (replace hm := keep hbx hm; replace hB := hB.trans (hbx.mono hB.size))
  have hsz2 := hbx.size
  clear hbx hby HIN HN HC
  rcases Msg.seal_cases f body with ⟨hs, hl3, hok⟩ | ⟨co, hco, hs⟩
  · have hbl := Hd.bytes_length (setF f 2 body.length) body
    obtain ⟨X, hX⟩ : ∃ X, X = Hd.bytes (setF f 2 body.length) body := ⟨_, rfl⟩
    rw [← hX] at hs hbl
    have HSB := Lib.hid (show Slot.bytes f body = if Slot.is f (Slot.of (f 5)) = true then (0, fillN 1280 X) else (2, []) by unfold Slot.bytes; rw [hs, if_pos rfl])
    rw [hs] at ho ⊢
    dsimp only at ho ⊢
    obtain ⟨A2, n2, c2, rfl⟩ := OwnB.slice ho
    have hn2 : n2 = X.length := by obtain ⟨_, _, h1, _⟩ := OwnB.open_ ho; injection h1
    subst hn2
    have HE := Lib.hid (And.intro ho (And.intro hbl hl3))
    clear ho hbl hl3 hs hX hok
    go_wp2_with fail
    refine wp_region_tree (Below w2.heap.size w2) [] (PlanT.takes [0, 2, 3] (PlanT.takes [1, 4] (.opt 5 (.opt 6 (PlanT.takes [7] .done) .no) .no))) (by kernel_rfl) (by kernel_rfl) ((Below.refl _ _).drew) ?_
    refine wpTree_pure _ _ _ (by rfl) (by rfl) ?_
    dsimp only [List.filterMap, List.getElem?_cons_zero, List.getElem?_cons_succ]
    repeat (go_big_quiet_step (fail))
    refine wpQuiet_nil ?_
    refine wpTree_takeL _ _ _ (by rfl) (by rfl) ((Below.refl _ _).drew) ?_
    dsimp only [List.filterMap, List.getElem?_cons_zero, List.getElem?_cons_succ]
    (refine wpQuiet_load_mid (fun w' hw' => hd_mid hm w' hw') (by rfl) _ _ (by rfl) (by rfl) _ Tryz.underlying38 (by rfl) (sizeHd) (by rw [Array.length_toList, hdc_size]) ?_; simp only [Act.put, List.setIfInBounds_toArray, List.set_cons_zero, List.set_cons_succ])
    (refine wpQuiet_load_cell (fun w' hw' => (hm.below hw' hm.lt).at_ 5 (msgc_at f _ 5 (by omega))) (by rfl) _ _ (by rfl) (by rfl) _ Tryz.underlying3 (by rfl) ?_; simp only [Act.put, List.setIfInBounds_toArray, List.set_cons_zero, List.set_cons_succ])
    refine wpQuiet_nil ?_
    rw [Array.toArray_toList]
    refine wpTree_one _ rfl ?_
    go_wp2_with fail
    refine (rsof_any (f 5) _).mono ?_
    rintro e w3 ⟨rfl, hw3⟩
    have hC3 : Below w2.heap.size w2 w3 := by rw [hw3]; exact (Below.refl _ _).drew
    clear hw3
    obtain ⟨o, ho⟩ : ∃ o, o = Slot.of (f 5) := ⟨_, rfl⟩
    rw [← ho]
    have HO := Lib.hid ho
    clear ho
    go_wp2_with fail
    refine TreeQ.in_ hC3 ?_
    refine wpTree_one _ rfl ?_
    go_wp2_with fail
    refine (mine_any f o w3).mono ?_
    rintro e w4 ⟨rfl, hbx⟩
    have hC4 := hC3.trans (hbx.mono hC3.size)
    clear hbx hC3
    obtain ⟨q, hq⟩ : ∃ q, q = Slot.is f o := ⟨_, rfl⟩
    rw [← hq]
    rw [HO.out] at hq
    have HQ := Lib.hid hq
    clear hq
    go_wp2_with fail
    refine TreeQ.in_ hC4 ?_
    refine wpTree_pure _ _ _ (by rfl) (by rfl) ?_
    dsimp only [List.filterMap, List.getElem?_cons_zero, List.getElem?_cons_succ]
    repeat (go_big_quiet_step (fail))
    refine wpQuiet_nil ?_
    refine wpTree_done ?_
    have hB4 := hB.trans (hC4.mono hB.size)
    have hm4 := hm.below hC4 hm.lt
    clear hm hB
    cases q
    · have HB := Lib.hid hB4
      clear hB4 hm4 hC4
      go_wp2
      go_ret2
      rw [HSB.out, ← HQ.out]
      exact ⟨_, [], rfl, OwnsC.nil _ _ _ _, HB.out⟩
    · have ho4 := (HE.out.1).below hC4 (fun k hk => (OwnsC.lt HE.out.1 k hk).2)
      have hXl : X.length ≤ 1280 := by have := HE.out.2; omega
      have hs4 : w1.heap.size ≤ w4.heap.size := by have := hC4.size; omega
      have HX := Lib.hid (And.intro ho4 (And.intro hXl hs4))
      have HB4 := Lib.hid hB4
      clear hC4 ho4 hB4 hm4
      have e1 : ((1280 : Int) - (X.length : Int)) = ((1280 - X.length : Nat) : Int) := by omega
      have HE1 := Lib.hid e1
      clear e1
      go_wp2_with (first
        | (show wpList _ _ _ ((⟨some 26, _, _, _, _, _⟩ : Oper) :: _) _ _; refine wpList_append_zeros (o := ⟨some 26, _, _, _, _, _⟩) (by rfl) _ _ _ _ (by rfl) w1.heap.size _ .i64 Tryz.underlying39 Tryz.underlying3 u8info _ X sp (by rfl) HX.out.1 (1280 - X.length) (by show Value.int _ _ = _; rw [← HE1.out]) (by have := HX.out.2.1; omega) HX.out.2.2 ?_; intro v14 w14 sp14 ho14 hg14 _; have HO14 := Lib.hid ho14; have HB14 := Lib.hid (HB4.out.grown hg14 (by have := HX.out.2.2; have := HS0.out; omega) (fun k hk => by have h : w1.heap.size ≤ k := (OwnsC.lt HX.out.1 k hk).1; have := HS0.out; omega)); clear hg14 ho14)
        | fail)
      go_ret2
      rw [HSB.out, ← HQ.out, if_pos rfl]
      exact ⟨_, _, rfl, HO14.out.base_ (by have := HS0.out; omega), HB14.out⟩
  · have HSB := Lib.hid (show Slot.bytes f body = (co, []) by unfold Slot.bytes; rw [hs, if_neg hco])
    rw [hs] at ho ⊢
    have hc0 : (co != 0) = true := by rw [bne_iff_ne]; exact hco
    dsimp only
    have HB := Lib.hid hB
    clear ho hs hco hm hB
    go_wp2
    go_ret2
    rw [HSB.out]
    exact ⟨_, [], rfl, OwnsC.nil _ _ _ _, HB.out⟩
end Go.Proofs.YtfoegmjpfkmggaaGreatDoor

/- How two states of slots are compared; a prepare without a body and its slot's bytes. No condition. -/
namespace Go
end Go
namespace Go.Proofs.YtfoegmjpfkmggaaGreatDoor
open Go.RowKit
theorem noselSt : Tryz.prog.eqGuardType Tryz.prog.depth 44 = false := by kernel_rfl
theorem heldSt : Tryz.prog.stoodInHeld 44 = false := by kernel_rfl
abbrev SSt := Int × Int × Int × Bool
set_option maxRecDepth 100000 in
set_option maxHeartbeats 1000000 in
theorem eqSt (w : World) (x y : SSt) : (Op.equalIn 10000 44 (stv x) (stv y)).run Tryz.prog w = .ok (decide (x = y)) w := by
  obtain ⟨a1, a2, a3, a4⟩ := x
  obtain ⟨b1, b2, b3, b4⟩ := y
  unfold stv
  have hu : Tryz.prog.underlying 44 = some (.struct (Tryz.prog.fieldsOf 44)) := by kernel_rfl
  rw [show (10000 : Nat) = 9999 + 1 from rfl, run_equalIn_struct w 9999 44 _ _ hu heldSt]
  have e : Tryz.prog.fieldsOf 44 = (match Tryz.prog.underlying 44 with | some (.struct fs) => fs | _ => #[]) := rfl
  rw [e, Tryz.underlying44]
  have ei := Tryz.underlying3
  have ej := Tryz.underlying4
  simp [Op.eqFields, part, go_sem, ei, ej]
  by_cases h1 : a1 = b1 <;> by_cases h2 : a2 = b2 <;> by_cases h3 : a3 = b3 <;> cases a4 <;> cases b4 <;> simp [h1, h2, h3]
/-! ### A prepare without a body -/
def fP (op vw : Int) : HdF := fun i => if i = 0 then 2 else if i = 3 then vw else if i = 5 then op else 0
theorem fP_ok (op vw : Int) (h : 1 ≤ op ∧ op ≤ 1000 ∧ 0 ≤ vw ∧ vw ≤ 1000) : Hd.ok (fP op vw) = true ∧ Hd.in_ (fP op vw) ∧ setF (fP op vw) 2 0 = fP op vw ∧ Slot.is (fP op vw) (Slot.of op) = true := by
  refine ⟨?_, by unfold Hd.in_ fP; simp, setF_self _ _ _ rfl, ?_⟩
  · unfold Hd.ok tenI numOk fP
    simp
    omega
  · unfold Slot.is fP
    simp
    omega
end Go.Proofs.YtfoegmjpfkmggaaGreatDoor

/- The chapter's examples of slots that each statement looks at. No condition. -/
namespace Go.Proofs.YtfoegmjpfkmggaaGreatDoor
open Go.RowKit
theorem Slot.put_same (F G : HdF) (D : List UInt8) (z : Bool) : Slot.put (true, F, D) (2, G) true z = (1, F 5, F 3, false) := by simp [Slot.put]
end Go.Proofs.YtfoegmjpfkmggaaGreatDoor

/- A slot's bytes of a prepare: what they are, what they say. Plain facts. No condition. -/
namespace Go.Proofs.YtfoegmjpfkmggaaGreatDoor
open Go.RowKit
/-- A slot's bytes of a prepare: what they say. -/
theorem Slot.bytes_say (f : HdF) (l : List UInt8) (hin : Hd.in_ f) (hl : l.length ≤ 1024) (hok : Hd.ok (setF f 2 l.length) = true) (hi : Slot.is f (Slot.of (f 5)) = true) :
    ∃ F, (fillN 1280 (Hd.bytes (setF f 2 l.length) l)).length = 1280 ∧ (fillN 1280 (Hd.bytes (setF f 2 l.length) l)).take (256 + l.length) = Hd.bytes (setF f 2 l.length) l ∧
      Slot.prep (fillN 1280 (Hd.bytes (setF f 2 l.length) l)) (Slot.of (f 5)) = (true, F, l) ∧ Slot.kind ((fillN 1280 (Hd.bytes (setF f 2 l.length) l)).take 256) (Slot.of (f 5)) = (2, F) ∧ Hd.same F (setF f 2 l.length) := by
  have hbl := Hd.bytes_length (setF f 2 l.length) l
  have ht : (fillN 1280 (Hd.bytes (setF f 2 l.length) l)).take (256 + l.length) = Hd.bytes (setF f 2 l.length) l := by
    rw [fillN_take _ _ _ (by omega), ← hbl, List.take_length]
  have hi2 : Slot.is (setF f 2 l.length) (Slot.of (f 5)) = true := by
    have : Slot.is (setF f 2 l.length) (Slot.of (f 5)) = Slot.is f (Slot.of (f 5)) := by unfold Slot.is setF; simp
    rw [this]; exact hi
  have hin2 := setF_in f l.length hin
  obtain ⟨h1, h2, h3⟩ := Slot.prep_bytes _ _ l (Slot.of (f 5)) ht hok hin2 (by unfold setF; rw [if_pos rfl]) hi2
  refine ⟨_, fillN_length _ _ (by omega), ht, h1, ?_, h2⟩
  rw [h3]
  exact Slot.kind_bytes _ l _ hok hin2 hi2
end Go.Proofs.YtfoegmjpfkmggaaGreatDoor

/- Put. Conditions: the journal is known; the message's bytes can be read. -/
namespace Go.Proofs.YtfoegmjpfkmggaaGreatDoor
open Go.RowKit
def jslot (f : HdF) : Nat := (Slot.of (f 5)).toNat
theorem jslot_lt (f : HdF) : jslot f < 16 ∧ Slot.of (f 5) = (jslot f : Int) := by unfold jslot Slot.of; split <;> omega
theorem callPut1 (args : Array Value) (w : World) : (callFunc 33 args).run Tryz.prog w = .ok (.enter 33 args) w := Tryz.call33 args w
theorem callPut2 (args : Array Value) (w : World) : (callFunc 37 args).run Tryz.prog w = .ok (.enter 37 args) w := Tryz.call37 args w
theorem callFlush (args : Array Value) (w : World) : (callFunc 36 args).run Tryz.prog w = .ok (.enter 36 args) w := Tryz.call36 args w
section
variable {w : World} {gj : Nat} {p : Pl} {L : List UInt8} {l : List SlT}
/-- What a Put's four functions do. -/
theorem jputall {jb nb bb sg k g4 : Nat} {X : List UInt8} (h : PutK w jb nb bb gj sg p k X) (hd : JD w p L) (hb : Blk w g4 93 #[.func (.func 33) #[] #[.pointer (some ⟨jb, 0, none⟩), .pointer (some ⟨nb, 0, none⟩), .pointer (some ⟨bb, 0, none⟩)], .func (.func 36) #[.pointer (some ⟨p.gd, 0, none⟩)] #[], .func (.func 37) #[] #[.pointer (some ⟨jb, 0, none⟩), .pointer (some ⟨nb, 0, none⟩), .pointer (some ⟨bb, 0, none⟩)], .func (.func 36) #[.pointer (some ⟨p.gd, 0, none⟩)] #[]]) (hg4 : g4 ∉ p.all none) :
    Calls Tryz.prog 32 #[.slice (some ⟨g4, 0, none⟩) 4 4] w fun e w' => e = .returned (.int .i64 0) ∧ JD w' p (wr (wr L (256 * (24 + 5 * k)) X) (256 * (8 + k)) (X.take 256)) ∧ Near (p.all none) w w' := by
  refine (jall_any [(33, #[], #[.pointer (some ⟨jb, 0, none⟩), .pointer (some ⟨nb, 0, none⟩), .pointer (some ⟨bb, 0, none⟩)]), (36, #[.pointer (some ⟨p.gd, 0, none⟩)], #[]), (37, #[], #[.pointer (some ⟨jb, 0, none⟩), .pointer (some ⟨nb, 0, none⟩), .pointer (some ⟨bb, 0, none⟩)]), (36, #[.pointer (some ⟨p.gd, 0, none⟩)], #[])] g4 4 4
    (fun i w' => JD w' p (if i = 0 then L else if i ≤ 2 then wr L (256 * (24 + 5 * k)) X else wr (wr L (256 * (24 + 5 * k)) X) (256 * (8 + k)) (X.take 256)) ∧ Near (p.all none) w w') w rfl (by omega) ?_ ?_ ?_ ⟨hd, Near.refl _ _⟩).mono ?_
  · rintro i w' hi ⟨_, hn⟩
    have hb' := hb.near hn hg4
    have hi4 : i < 4 := hi
    rcases (by omega : i = 0 ∨ i = 1 ∨ i = 2 ∨ i = 3) with rfl | rfl | rfl | rfl <;> exact hb'.at_ _ rfl
  · intro i hi args w'
    have hi4 : i < 4 := hi
    rcases (by omega : i = 0 ∨ i = 1 ∨ i = 2 ∨ i = 3) with rfl | rfl | rfl | rfl
    · exact callPut1 args w'
    · exact callFlush args w'
    · exact callPut2 args w'
    · exact callFlush args w'
  · rintro i w' hi ⟨hd', hn⟩
    have hi4 : i < 4 := hi
    have hK := h.near hn
    rcases (by omega : i = 0 ∨ i = 1 ∨ i = 2 ∨ i = 3) with rfl | rfl | rfl | rfl
    · refine (jput1_any hK hd').mono ?_
      rintro e w2 ⟨rfl, h1, h2⟩
      exact ⟨rfl, h1, hn.trans h2⟩
    · refine (jdflush hd').mono ?_
      rintro e w2 ⟨rfl, h1, h2⟩
      exact ⟨rfl, h1, hn.trans h2⟩
    · refine (jput2_any hK hd').mono ?_
      rintro e w2 ⟨rfl, h1, h2⟩
      exact ⟨rfl, h1, hn.trans h2⟩
    · refine (jdflush hd').mono ?_
      rintro e w2 ⟨rfl, h1, h2⟩
      exact ⟨rfl, h1, hn.trans h2⟩
  · rintro e w' ⟨rfl, h1, h2⟩
    exact ⟨rfl, h1, h2⟩
end
end Go.Proofs.YtfoegmjpfkmggaaGreatDoor

/- The plain journal: what Get answers; the slots behind a Format; what a Put changes in the rings' bytes. Plain facts. No condition. -/
namespace Go.Proofs.YtfoegmjpfkmggaaGreatDoor
open Go.RowKit
theorem jp_zeros_read : (Hd.read (List.replicate 256 (0 : UInt8))).1 ≠ 0 := Hd.read_no _ (by decide +kernel)
theorem jp_zeros_prep (n : Int) : Slot.prep (List.replicate 1280 (0 : UInt8)) n = Slot.no := by
  unfold Slot.prep
  rw [if_neg (by rw [List.length_replicate]; omega), if_pos (by rw [List.take_replicate]; exact jp_zeros_read)]
theorem jp_judge_empty (n : Nat) (hn : n < 16) : Slot.judge (Hd.bytes (Slot.fU n) []) (List.replicate 1280 (0 : UInt8)) n = (4, 0, 0, false) := by
  rw [Slot.judge_in _ _ _ (by omega), jp_zeros_prep, Slot.kind_unw n (by omega)]
  have h : ((List.replicate 1280 (0 : UInt8)).all (· == 0)) = true := by rw [List.all_eq_true]; intro x hx; rw [List.eq_of_mem_replicate hx]; rfl
  rw [h]
  generalize decide (Hd.bytes (Slot.fU n) [] = (List.replicate 1280 (0 : UInt8)).take 256) = s
  simp [Slot.put, Slot.no]
/-- Behind a Format all slots are empty. -/
theorem jopd_fmt (L : List UInt8) (hL : 26624 ≤ L.length) : jopd (jfmt L (List.replicate 20480 0) (jheads 16)) 16 = List.replicate 16 (4, 0, 0, false) := by
  have hZ : (List.replicate 20480 (0 : UInt8)).length = 20480 := List.length_replicate ..
  have hH : (jheads 16).length = 4096 := jheads_length 16
  apply List.ext_getElem
  · rw [jopd_length, List.length_replicate]
  · intro i h1 h2
    have hi : i < 16 := by rw [jopd_length] at h1; exact h1
    rw [jopd_at, if_pos hi, List.getElem_replicate, jhd_fmt hL hZ hH hi, jpr_fmt hL hZ hH hi, jheads_at i 16 hi, List.drop_replicate, List.take_replicate, show min 1280 (20480 - 1280 * i) = 1280 by omega]
    exact jp_judge_empty i hi
def jst (l : List SlT) (n : Nat) : SlT := l.getD n (0, 0, 0, false)
def jsl (op : Int) : Nat := (Slot.of op).toNat
theorem jsl_lt (op : Int) : jsl op < 16 ∧ Slot.of op = (jsl op : Int) := by unfold jsl Slot.of; split <;> omega
theorem jst_at {l : List SlT} {n : Nat} (h : n < l.length) : l[n] = jst l n := by unfold jst; rw [List.getD_eq_getElem?_getD, List.getElem?_eq_getElem h]; rfl
theorem jst_set {l : List SlT} {n m : Nat} {x : SlT} (h : m < l.length) : jst (l.set m x) n = if n = m then x else jst l n := by
  unfold jst
  rw [List.getD_eq_getElem?_getD, List.getD_eq_getElem?_getD, List.getElem?_set]
  by_cases e : m = n
  · subst e; rw [if_pos rfl, if_pos rfl, if_pos h]; rfl
  · rw [if_neg e, if_neg (fun h => e h.symm)]
/-- What Get answers, and how the slots are then. -/
def jgood (L : List UInt8) (l : List SlT) (op : Int) : Bool :=
  (Slot.prep (jpr L (jsl op)) (jsl op)).1 && ((Slot.prep (jpr L (jsl op)) (jsl op)).2.1 5 == op) && ((Slot.prep (jpr L (jsl op)) (jsl op)).2.1 3 == (jst l (jsl op)).2.2.1)
def jget (L : List UInt8) (l : List SlT) (op : Int) : (Int × HdF × List UInt8) × List SlT :=
  if op < 1 then ((6, Hd.none_, []), l)
  else if (jst l (jsl op)).2.1 ≠ op ∨ ((jst l (jsl op)).1 ≠ 1 ∧ (jst l (jsl op)).1 ≠ 3) then ((6, Hd.none_, []), l)
  else if (jst l (jsl op)).1 = 3 then ((13, Hd.none_, []), l)
  else if jgood L l op = true then ((0, (Slot.prep (jpr L (jsl op)) (jsl op)).2.1, (Slot.prep (jpr L (jsl op)) (jsl op)).2.2), l)
  else ((13, Hd.none_, []), l.set (jsl op) (3, op, (jst l (jsl op)).2.2.1, false))
/-- The rings behind a Put. -/
def jwr (L X : List UInt8) (k : Nat) : List UInt8 := wr (wr L (256 * (24 + 5 * k)) X) (256 * (8 + k)) (X.take 256)
theorem jwr_length {L X : List UInt8} {k : Nat} (h : 26624 ≤ L.length) (hX : X.length = 1280) (hk : k < 16) : (jwr L X k).length = L.length := by
  have h1 : (wr L (256 * (24 + 5 * k)) X).length = L.length := wr_length (by omega)
  have h2 : (X.take 256).length = 256 := by rw [List.length_take]; omega
  unfold jwr
  rw [wr_length (by omega), h1]
theorem jhd_jwr {L X : List UInt8} {k n : Nat} (h : 26624 ≤ L.length) (hX : X.length = 1280) (hk : k < 16) (hn : n < 16) : jhd (jwr L X k) n = if n = k then X.take 256 else jhd L n := by
  have h1 : (wr L (256 * (24 + 5 * k)) X).length = L.length := wr_length (by omega)
  have h2 : (X.take 256).length = 256 := by rw [List.length_take]; omega
  unfold jwr
  rw [jhd_wr_hd (by omega) h2 hk hn, jhd_wr_pr h hX hk hn]
theorem jpr_jwr {L X : List UInt8} {k n : Nat} (h : 26624 ≤ L.length) (hX : X.length = 1280) (hk : k < 16) (hn : n < 16) : jpr (jwr L X k) n = if n = k then X else jpr L n := by
  have h1 : (wr L (256 * (24 + 5 * k)) X).length = L.length := wr_length (by omega)
  have h2 : (X.take 256).length = 256 := by rw [List.length_take]; omega
  unfold jwr
  rw [jpr_wr_hd (by omega) h2 hk, jpr_wr_pr h hX hk hn]
end Go.Proofs.YtfoegmjpfkmggaaGreatDoor

/- Append of values of any size; worlds behind it. Plain facts over any program. No condition. -/
namespace Go
open Go.RowKit
theorem Near.grown {w w' : World} {row : Option Nat} {X : List Nat} (h : w.grownBy w' row) (hX : ∀ k, row = some k → k ∈ X) : Near X w w' := ⟨h.os, h.tape, h.output, h.size, fun k hk hn => h.block k hk fun e => hn (hX k e.symm)⟩
theorem Near.grownNew {w w' w'' : World} {row : Option Nat} {X : List Nat} (h : Near X w w') (hg : w'.grownBy w'' row) (hX : ∀ k, row = some k → w.heap.size ≤ k) : Near X w w'' :=
  ⟨hg.os.trans h.os, hg.tape.trans h.tape, hg.output.trans h.output, Nat.le_trans h.size hg.size, fun k hk hn => (hg.block k (Nat.lt_of_lt_of_le hk h.size) fun e => by have := hX k e.symm; omega).trans (h.block k hk hn)⟩
section
variable {P : Program} {w : World}
theorem wpList_append_vals {ops : Array Oper} {rest : List Oper} {o : Oper} {a : Act} {Q : Exit → Act → World → Prop} (hgd : o.guard = none) (s x : Operand) (t : TypeId)
    (ho : o.op = .call { callee := .builtin .append, args := #[s, x], argTypes := #[t, t] })
    (base : Nat) (e : TypeId) (z : Value) (size bytes : Nat) (ht : P.underlying t = some (.slice e)) (hi : (P.info? e).map (fun i => (i.zero, i.size, i.bytes)) = some (some z, size, bytes)) (hzs : z.cells.size = size) (hsz : 0 < size)
    (v : Value) (n : Nat) (xs sp : List Value) (hs : a.eval s = v) (hown : OwnsC e size w base v n xs sp)
    (A : Option Addr) (m c : Nat) (news : List Value) (hx : a.eval x = .slice A m c) (hl : news.length = m * size) (hr : Reads w A news) (h1 : ∀ u ∈ news, u.oneCell' = true)
    (h63 : n + m ≤ maxLen) (hbytes : (n + m) * bytes ≤ 140737488355328) (hbase : base ≤ w.heap.size)
    (h : ∀ v' w' sp', OwnsC e size w' base v' (n + m) (xs ++ news) sp' → w.grownBy w' v.ownBlock → (v'.ownBlock = v.ownBlock ∨ v'.ownBlock = some w.heap.size) → (v' = .slice none 0 0 ↔ v = .slice none 0 0 ∧ m = 0) → wpList P ops Q rest (a.put o.dst v') w') : wpList P ops Q (o :: rest) a w :=
  wpList_plain hgd fun _ hK => wp_append_all s x t ho base e z size bytes ht hi hzs hsz v n xs sp hs hown A m c news hx hl hr h1 h63 hbytes hbase fun v' w' sp' h1 h2 h3 _ h5 => hK _ _ (h v' w' sp' h1 h2 h3 h5)
end
end Go

/- Slots of a journal that was made: a new slice of all of them. Condition: the journal is known. -/
namespace Go.Proofs.YtfoegmjpfkmggaaGreatDoor
open Go.RowKit
section
variable {w : World} {gj : Nat} {p : Pl} {L : List UInt8} {l : List SlT}
theorem infoSt : (Tryz.prog.info? 44).map (fun i => (i.zero, i.size, i.bytes)) = some (some (.agg #[.int .i64 0, .int .i64 0, .int .i64 0, .bool false]), 4, 32) := by kernel_rfl
set_option maxRecDepth 100000 in
set_option maxHeartbeats 2000000 in
theorem jslots_any (h : JR w gj p L l) : Calls Tryz.prog 25 #[.pointer (some ⟨gj, 0, none⟩)] w fun e w' => ∃ v, e = .returned v ∧ (∃ sp, OwnsC 44 4 w' w.heap.size v 16 (slcs l) sp) ∧ Below w.heap.size w w' := by
  have hn := jnone_any h
  have hl16 : (slcs l).length = 16 * 4 := by rw [slcs_length, h.n16]
  have hr : Reads w (some ⟨gj, 1, none⟩) (slcs l) := fun _ => ⟨gj, 1, rfl, fun j v hv => by
    rw [h.jb.cell]
    unfold jc
    rw [List.getElem?_toArray, show 1 + j = j + 1 by omega, List.getElem?_cons_succ]
    exact hv⟩
  have ho1 : ∀ u ∈ slcs l, u.oneCell' = true := List.all_eq_true.1 (slcs_one l)
  have HH := Lib.hid (And.intro hl16 (And.intro hr ho1))
  clear h hl16 hr ho1
  go_enter Tryz.func25, Tryz.ntmps25
  go_wp2_with fail
  refine hn.mono ?_
  rintro e w1 ⟨rfl, hw⟩
  obtain rfl := hw.symm
  clear hw hn
  go_wp2_with (first
    | ((with_reducible show wpList _ _ _ ((⟨some 9, _, _, _, _, _⟩ : Oper) :: _) _ _); refine wpList_append_vals (o := ⟨some 9, _, _, _, _, _⟩) (by rfl) _ _ _ (by rfl) w.heap.size 44 _ 4 32 Tryz.underlying81 infoSt (by rfl) (by omega) (.slice none 0 0) 0 [] [] (by rfl) (OwnsC.nil _ _ _ _) (some ⟨gj, 1, none⟩) 16 16 (slcs l) (by rfl) HH.out.1 HH.out.2.1 HH.out.2.2 (by simp [maxLen]) (by omega) (Nat.le_refl _) ?_; intro v2 w2 sp2 ho2 hg2 _ _; have HX := Lib.hid (And.intro ho2 ((Below.refl w.heap.size w).grown hg2 (Nat.le_refl _) (fun j hj => by cases hj))); clear ho2 hg2)
    | fail)
  go_ret
  exact ⟨v2, rfl, ⟨sp2, HX.out.1⟩, HX.out.2⟩
end
end Go.Proofs.YtfoegmjpfkmggaaGreatDoor

/- The journal's Get. Condition: the journal is known. (Printed by gen/jo.py.) -/
namespace Go.Proofs.YtfoegmjpfkmggaaGreatDoor
open Go.RowKit
theorem OwnsC.nearJ {e : TypeId} {size base n : Nat} {w w' : World} {v : Value} {xs sp : List Value} {X : List Nat} (h : OwnsC e size w base v n xs sp) (k : Near X w w') (hX : ∀ g, v.ownBlock = some g → g ∉ X) : OwnsC e size w' base v n xs sp := by
  rcases h with h | ⟨g, cap, rfl, hb, hgg, rest⟩
  · exact .inl h
  · exact .inr ⟨g, cap, rfl, hb, hgg.near k (hX g rfl), rest⟩
theorem OwnsC.from {e : TypeId} {size b b' n : Nat} {w : World} {v : Value} {xs sp : List Value} (h : OwnsC e size w b' v n xs sp) (hb : b ≤ b') : OwnsC e size w b v n xs sp := by
  rcases h with h | ⟨g, cap, rfl, hbb, rest⟩
  · exact .inl h
  · exact .inr ⟨g, cap, rfl, Nat.le_trans hb hbb, rest⟩
theorem jc_cell (gd : Nat) (l : List SlT) (k j : Nat) (hj : j < 4) (h : k < l.length) : (jc gd l)[1 + k * 4 + j]? = (slc (jst l k))[j]? := by
  rw [← jst_at h, show 1 + k * 4 + j = 1 + 4 * k + j by omega, jc_at gd l k j hj h]
section
variable {w w' : World} {gj : Nat} {p : Pl} {L : List UInt8} {l : List SlT}
theorem JR.near' {g0 : Nat} (h : JR w gj p L l) (k : Near [g0] w w') (h1 : g0 ≠ gj) (h2 : g0 ∉ p.all none) : JR w' gj p L l :=
  ⟨h.jd.near' k (by unfold Pl.all at h2; simp at h2 ⊢; exact ⟨fun e => h2.1 e.symm, fun e => h2.2.1 e.symm, fun e => h2.2.2 e.symm⟩), h.jb.near k (by simpa using h1.symm), h.n16⟩
set_option maxRecDepth 100000 in
set_option maxHeartbeats 4000000 in
theorem jget_any (op : Int) (h : JR w gj p L l) :
    Calls Tryz.prog 15 #[.pointer (some ⟨gj, 0, none⟩), .int .i64 op] w fun e w' => ∃ v, e = .returned (.tuple #[.agg (msgc (jget L l op).1.2.1 v), .int .i64 (jget L l op).1.1]) ∧
      (∃ sp, OwnB 5 w' w.heap.size v (jget L l op).1.2.2 sp) ∧ JR w' gj p L (jget L l op).2 ∧ Near [gj] w w' := by
  have hB := (Below.refl w.heap.size w).alloc (Nat.le_refl _) (.cells #[.int .i64 0, .int .i64 0, .int .i64 0, .int .i64 0, .int .i64 0, .int .i64 0, .int .i64 0, .int .i64 0, .int .i64 0, .int .u64 0, .int .u64 0, .int .i64 0, .int .i64 0, .int .u64 0, .int .i64 0, .int .i64 0, .slice none 0 0] 41)
  have hg0 := (Blk.new w 41 #[.int .i64 0, .int .i64 0, .int .i64 0, .int .i64 0, .int .i64 0, .int .i64 0, .int .i64 0, .int .i64 0, .int .i64 0, .int .u64 0, .int .u64 0, .int .i64 0, .int .i64 0, .int .u64 0, .int .i64 0, .int .i64 0, .slice none 0 0]).sub zeroMsg_cells.symm
  have h1 := h.below hB
  have hP := h.jd.lt
  have hgl := h.lt
  have hoff := h.off
  have h16 := h.n16
  have hz : (w.alloc (.cells #[.int .i64 0, .int .i64 0, .int .i64 0, .int .i64 0, .int .i64 0, .int .i64 0, .int .i64 0, .int .i64 0, .int .i64 0, .int .u64 0, .int .u64 0, .int .i64 0, .int .i64 0, .int .u64 0, .int .i64 0, .int .i64 0, .slice none 0 0] 41)).heap.size = w.heap.size + 1 := by simp
  have hn0 : Near [gj] w (w.alloc (.cells #[.int .i64 0, .int .i64 0, .int .i64 0, .int .i64 0, .int .i64 0, .int .i64 0, .int .i64 0, .int .i64 0, .int .i64 0, .int .u64 0, .int .u64 0, .int .i64 0, .int .i64 0, .int .u64 0, .int .i64 0, .int .i64 0, .slice none 0 0] 41)) := (Near.below (X := [gj]) hB)
  obtain ⟨g0, hg⟩ : ∃ x, x = w.heap.size := ⟨_, rfl⟩
  have HG := Lib.hid (show g0 = w.heap.size ∧ g0 ≠ gj ∧ g0 ∉ p.all none from ⟨hg, by omega, fun hx => by have := hP _ hx; omega⟩)
  have HX := Lib.hid (And.intro hoff (And.intro h16 (And.intro h1.jd.len hz)))
  clear h hB hP hgl hoff h16 hz
  go_enter Tryz.func15, Tryz.ntmps15
  go_wp2_with fail
  rw [← hg] at hg0 ⊢
  generalize w.alloc (.cells #[.int .i64 0, .int .i64 0, .int .i64 0, .int .i64 0, .int .i64 0, .int .i64 0, .int .i64 0, .int .i64 0, .int .i64 0, .int .u64 0, .int .u64 0, .int .i64 0, .int .i64 0, .int .u64 0, .int .i64 0, .int .i64 0, .slice none 0 0] 41) = w1 at hg0 h1 HX hn0 ⊢
  have H1 := Lib.hid (And.intro h1 (And.intro hn0 hg0))
  refine (jup_any h1).mono ?_
  rintro e w1' ⟨rfl, hw⟩
  obtain rfl := hw.symm
  clear h1 hw hg hn0
  by_cases hop : op < 1
  · have hq := Lib.hid (show jget L l op = ((6, Hd.none_, []), l) by unfold jget; rw [if_pos hop])
    clear hg0
    go_wp2_with (first
      | ((with_reducible show wpList _ _ _ ((⟨none, _, _, _, _, _⟩ : Oper) :: _) _ _); refine wpList_store_blk (o := ⟨none, _, _, _, _, _⟩) (H1.out.2.2) (by rfl) _ _ _ (by rfl) (by rfl) (msgc zeroHd (.slice none 0 0)) (by rfl) (sizeMsg) (msgc_size _ _) (msgc_size _ _) (msgc_one _ _ rfl) ?_; intro w9 h9 hu9)
      | fail)
    have hn9 : Near [g0] _ _ := Near.upd hu9 (List.mem_singleton_self _)
    refine bodyPost_ret (results_row_tmp (by rfl) _ _ g0 _ _ _ (by rfl) h9 Tryz.underlying41 (by rfl) (by rw [msgc_size]; exact sizeMsg)) rfl ?_
    rw [hq.out]
    exact ⟨_, rfl, ⟨[], OwnsC.nil _ _ _ _⟩, (H1.out.1).near' hn9 HG.out.2.1 HG.out.2.2, (H1.out.2.1).high hn9 (fun y hy => by rw [List.mem_singleton.1 hy, HG.out.1]; exact Nat.le_refl _)⟩
  go_wp2_with fail
  have hC0 : Near [] w1 w1.drew := (Near.refl _ _).drew
  refine wp_region_tree (Near [] w1) [] (PlanT.takes [0, 1, 3, 4] (.opt 2 (PlanT.takes [5, 6] .done) .no)) (by kernel_rfl) (by kernel_rfl) (hC0) ?_
  refine wpTree_pure _ _ _ (by rfl) (by rfl) ?_
  dsimp only [List.filterMap, List.getElem?_cons_zero, List.getElem?_cons_succ]
  repeat (go_big_quiet_step (fail))
  refine wpQuiet_nil ?_
  refine wpTree_one _ rfl ?_
  go_wp2_with fail
  refine (sof_any op w1.drew).mono ?_
  rintro e w2 ⟨rfl, hw⟩
  rw [← hw] at hC0
  clear hw
  obtain ⟨hk, hke⟩ := jsl_lt op
  have HKE := Lib.hid hke
  rw [hke]
  have hq0 : jget L l op = if (jst l (jsl op)).2.1 ≠ op ∨ ((jst l (jsl op)).1 ≠ 1 ∧ (jst l (jsl op)).1 ≠ 3) then ((6, Hd.none_, []), l)
      else if (jst l (jsl op)).1 = 3 then ((13, Hd.none_, []), l)
      else if jgood L l op = true then ((0, (Slot.prep (jpr L (jsl op)) (jsl op)).2.1, (Slot.prep (jpr L (jsl op)) (jsl op)).2.2), l)
      else ((13, Hd.none_, []), l.set (jsl op) (3, op, (jst l (jsl op)).2.2.1, false)) := by
    rw [jget, if_neg (by omega)]
  have hgd : jgood L l op = ((Slot.prep (jpr L (jsl op)) (jsl op)).1 && ((Slot.prep (jpr L (jsl op)) (jsl op)).2.1 5 == op) && ((Slot.prep (jpr L (jsl op)) (jsl op)).2.1 3 == (jst l (jsl op)).2.2.1)) := rfl
  clear hke
  generalize jsl op = k at hk HKE hq0 hgd ⊢
  have hp0 := Lib.hid (show ∃ S : SlT, S = jst l k from ⟨_, rfl⟩)
  obtain ⟨S, hS⟩ := hp0.out
  clear hp0
  rw [← hS] at hq0 hgd
  have h2 : JR w2 gj p L l := H1.out.1.near hC0
  have hg2 := H1.out.2.2.near hC0 (by simp)
  have hn2 : Near [gj] w w2 := H1.out.2.1.trans (hC0.wider (fun x hx => by cases hx))
  have hj : ∀ j v, j < 4 → (slc S)[j]? = some v → w2.cell? ⟨gj, 1 + k * 4 + j, none⟩ = some v := fun j v hj hv => by
    rw [h2.jb.cell]
    show (jc p.gd l)[1 + k * 4 + j]? = some v
    rw [jc_cell p.gd l k j hj (by rw [h2.n16]; exact hk), ← hS]; exact hv
  obtain ⟨a, b, c, d⟩ := S
  have ja : w2.cell? ⟨gj, 1 + k * 4, none⟩ = some (.int .i64 a) := hj 0 _ (by omega) rfl
  have jb : w2.cell? ⟨gj, 1 + k * 4 + 1, none⟩ = some (.int .i64 b) := hj 1 _ (by omega) rfl
  have jv : w2.cell? ⟨gj, 1 + k * 4 + 2, none⟩ = some (.int .i64 c) := hj 2 _ (by omega) rfl
  have jd0 : w2.cell? ⟨gj, 0, none⟩ = some (.pointer (some ⟨p.gd, 0, none⟩)) := h2.jb.at_ 0 (jc_0 _ _)
  dsimp only at hq0 hgd
  have H2 := Lib.hid (And.intro h2 (And.intro hn2 hg2))
  have HQ := Lib.hid (And.intro hq0 (And.intro hgd hS))
  clear hj h2 hn2 hg0 H1 hq0 hgd hS
  go_wp2_with fail
  refine TreeQ.in_ hC0 ?_
  refine wpTree_pure _ _ _ (by rfl) (by rfl) ?_
  dsimp only [List.filterMap, List.getElem?_cons_zero, List.getElem?_cons_succ]
  repeat (go_big_quiet_step (fail))
  refine wpQuiet_nil ?_
  refine wpTree_done ?_
  clear hC0
  by_cases hb : b = op
  case neg =>
    have hq := Lib.hid (show jget L l op = ((6, Hd.none_, []), l) by rw [HQ.out.1, if_pos (.inl hb)])
    have hb' : (b != op) = true := by simpa using hb
    clear hb hop jv jd0
    go_wp2_with (first
      | ((with_reducible show wpList _ _ _ ((⟨none, _, _, _, _, _⟩ : Oper) :: _) _ _); refine wpList_store_blk (o := ⟨none, _, _, _, _, _⟩) (H2.out.2.2) (by rfl) _ _ _ (by rfl) (by rfl) (msgc zeroHd (.slice none 0 0)) (by rfl) (sizeMsg) (msgc_size _ _) (msgc_size _ _) (msgc_one _ _ rfl) ?_; intro w9 h9 hu9)
      | fail)
    have hn9 : Near [g0] _ _ := Near.upd hu9 (List.mem_singleton_self _)
    refine bodyPost_ret (results_row_tmp (by rfl) _ _ g0 _ _ _ (by rfl) h9 Tryz.underlying41 (by rfl) (by rw [msgc_size]; exact sizeMsg)) rfl ?_
    rw [hq.out]
    exact ⟨_, rfl, ⟨[], OwnsC.nil _ _ _ _⟩, (H2.out.1).near' hn9 HG.out.2.1 HG.out.2.2, (H2.out.2.1).high hn9 (fun y hy => by rw [List.mem_singleton.1 hy, HG.out.1]; exact Nat.le_refl _)⟩
  have hb' : (b != op) = false := by simpa using hb
  by_cases ha3 : a = 3
  · subst ha3
    have hq := Lib.hid (show jget L l op = ((13, Hd.none_, []), l) by rw [HQ.out.1, if_neg (by simp [hb]), if_pos rfl])
    clear hb hop jv jd0
    go_wp2_with (first
      | ((with_reducible show wpList _ _ _ ((⟨none, _, _, _, _, _⟩ : Oper) :: _) _ _); refine wpList_store_blk (o := ⟨none, _, _, _, _, _⟩) (H2.out.2.2) (by rfl) _ _ _ (by rfl) (by rfl) (msgc zeroHd (.slice none 0 0)) (by rfl) (sizeMsg) (msgc_size _ _) (msgc_size _ _) (msgc_one _ _ rfl) ?_; intro w9 h9 hu9)
      | fail)
    have hn9 : Near [g0] _ _ := Near.upd hu9 (List.mem_singleton_self _)
    refine bodyPost_ret (results_row_tmp (by rfl) _ _ g0 _ _ _ (by rfl) h9 Tryz.underlying41 (by rfl) (by rw [msgc_size]; exact sizeMsg)) rfl ?_
    rw [hq.out]
    exact ⟨_, rfl, ⟨[], OwnsC.nil _ _ _ _⟩, (H2.out.1).near' hn9 HG.out.2.1 HG.out.2.2, (H2.out.2.1).high hn9 (fun y hy => by rw [List.mem_singleton.1 hy, HG.out.1]; exact Nat.le_refl _)⟩
  by_cases ha1 : a = 1
  case neg =>
    have hq := Lib.hid (show jget L l op = ((6, Hd.none_, []), l) by rw [HQ.out.1, if_pos (.inr ⟨ha1, ha3⟩)])
    have ha1' : (a != 1) = true := by simpa using ha1
    have ha3' : (a != 3) = true := by simpa using ha3
    clear hb hop jv jd0 ha1 ha3
    go_wp2_with (first
      | ((with_reducible show wpList _ _ _ ((⟨none, _, _, _, _, _⟩ : Oper) :: _) _ _); refine wpList_store_blk (o := ⟨none, _, _, _, _, _⟩) (H2.out.2.2) (by rfl) _ _ _ (by rfl) (by rfl) (msgc zeroHd (.slice none 0 0)) (by rfl) (sizeMsg) (msgc_size _ _) (msgc_size _ _) (msgc_one _ _ rfl) ?_; intro w9 h9 hu9)
      | fail)
    have hn9 : Near [g0] _ _ := Near.upd hu9 (List.mem_singleton_self _)
    refine bodyPost_ret (results_row_tmp (by rfl) _ _ g0 _ _ _ (by rfl) h9 Tryz.underlying41 (by rfl) (by rw [msgc_size]; exact sizeMsg)) rfl ?_
    rw [hq.out]
    exact ⟨_, rfl, ⟨[], OwnsC.nil _ _ _ _⟩, (H2.out.1).near' hn9 HG.out.2.1 HG.out.2.2, (H2.out.2.1).high hn9 (fun y hy => by rw [List.mem_singleton.1 hy, HG.out.1]; exact Nat.le_refl _)⟩
  subst ha1
  have hq1 : jget L l op = if jgood L l op = true then ((0, (Slot.prep (jpr L k) k).2.1, (Slot.prep (jpr L k) k).2.2), l) else ((13, Hd.none_, []), l.set k (3, op, c, false)) := by
    rw [HQ.out.1, if_neg (by simp [hb]), if_neg (by omega)]
  have HQ1 := Lib.hid (And.intro hq1 HQ.out.2.1)
  have HB := Lib.hid hb
  clear hq1 HQ hb hop ha3
  go_wp2_with fail
  have hC2 : Near [] w2 w2.drew := (Near.refl _ _).drew
  refine wp_region_tree (Near [] w2) [] (PlanT.takes [0, 1, 2, 4] (PlanT.takes [3] (.opt 5 (.opt 6 (.opt 7 (PlanT.takes [8, 9, 10, 11, 12] .done) .no) .no) .no))) (by kernel_rfl) (by kernel_rfl) (hC2) ?_
  refine wpTree_pure _ _ _ (by rfl) (by rfl) ?_
  dsimp only [List.filterMap, List.getElem?_cons_zero, List.getElem?_cons_succ]
  repeat (go_big_quiet_step (fail))
  refine wpQuiet_nil ?_
  refine wpTree_takeL _ _ _ (by rfl) (by rfl) (hC2) ?_
  dsimp only [List.filterMap, List.getElem?_cons_zero, List.getElem?_cons_succ]
  (refine wpQuiet_load_cell (fun w' hw' => Near.cell_ hw' (by simp) jd0) (by rfl) _ _ (by rfl) (by rfl) _ Tryz.underlying25 (by rfl) ?_; simp only [Act.put, List.setIfInBounds_toArray, List.set_cons_zero, List.set_cons_succ])
  refine wpQuiet_nil ?_
  refine wpTree_one _ rfl ?_
  go_wp2_with fail
  refine (sof_any op w2.drew).mono ?_
  rintro e w3 ⟨rfl, hw⟩
  rw [← hw] at hC2
  clear hw
  rw [HKE.out]
  go_wp2_with fail
  refine TreeQ.in_ hC2 ?_
  refine wpTree_one _ rfl ?_
  go_wp2_with fail
  refine (jplace_any (k : Int) (by omega) w3).mono ?_
  rintro e w3' ⟨rfl, hw⟩
  obtain rfl := hw.symm
  clear hw
  rw [show (24 : Int) + 5 * (k : Int) = ((24 + 5 * k : Nat) : Int) by omega]
  go_wp2_with fail
  refine TreeQ.in_ hC2 ?_
  refine wpTree_one _ rfl ?_
  have h3 : JR w3 gj p L l := H2.out.1.near hC2
  go_wp2_with fail
  refine (jdread5 k hk h3.jd).mono ?_
  rintro e w4 ⟨g4, rfl, hg4, hb4, hB4⟩
  have hC4 : Near [] w2 w4 := hC2.trans (Near.below hB4)
  have H4 := Lib.hid (And.intro (h3.below hB4) (And.intro (H2.out.2.1.trans (hC4.wider (fun x hx => by cases hx))) (And.intro (H2.out.2.2.near hC4 (by simp)) hb4)))
  have hs4 := hC4.size
  clear hC2 hB4 hg4 hb4 h3
  go_wp2_with fail
  refine TreeQ.in_ hC4 ?_
  refine wpTree_pure _ _ _ (by rfl) (by rfl) ?_
  dsimp only [List.filterMap, List.getElem?_cons_zero, List.getElem?_cons_succ]
  repeat (go_big_quiet_step (fail))
  refine wpQuiet_nil ?_
  refine wpTree_done ?_
  replace ja := hC4.cell_ (by simp) ja
  replace jb := hC4.cell_ (by simp) jb
  replace jv := hC4.cell_ (by simp) jv
  clear hC4 jd0
  have hl5 := jpr_length HX.out.2.2.1 hk
  go_wp2_with fail
  refine (sof_any op w4).mono ?_
  rintro e w4' ⟨rfl, hw⟩
  obtain rfl := hw.symm
  clear hw
  rw [HKE.out]
  go_wp2_with fail
  refine (sprep_any (some ⟨g4, 0, none⟩) 1280 1280 (jpr L k) (k : Int) hl5.symm (Nat.le_refl _) (by omega) w4 H4.out.2.2.2).mono ?_
  rintro e w5 ⟨v5, rfl, ⟨sp5, ho5⟩, hB5⟩
  have hz1 : w.heap.size + 1 ≤ w4.heap.size := by have := HX.out.2.2.2; have := H2.out.2.1.size; have := H4.out.2.2.1.lt; rw [HG.out.1] at this; omega
  have hN5 : Near [] w4 w5 := Near.below hB5
  obtain ⟨A5, c5, rfl, hc5, hcc5, hby5⟩ := OwnB.open_ ho5
  have ha6 := (Below.refl w5.heap.size w5).alloc (Nat.le_refl _) (.cells #[.int .i64 0, .int .i64 0, .int .i64 0, .int .i64 0, .int .i64 0, .int .i64 0, .int .i64 0, .int .i64 0, .int .i64 0, .int .u64 0, .int .u64 0, .int .i64 0, .int .i64 0, .int .u64 0, .int .i64 0, .int .i64 0, .slice none 0 0] 41)
  have hN6 := hN5.trans (Near.below (X := []) ha6)
  have ho6 := ho5.alloc (.cells #[.int .i64 0, .int .i64 0, .int .i64 0, .int .i64 0, .int .i64 0, .int .i64 0, .int .i64 0, .int .i64 0, .int .i64 0, .int .u64 0, .int .u64 0, .int .i64 0, .int .i64 0, .int .u64 0, .int .i64 0, .int .i64 0, .slice none 0 0] 41)
  have hg6s := hB5.size
  have h5own := fun j hj => (OwnsC.lt ho5 j hj).2
  have HN0 := Lib.hid hz1
  have HN6 := Lib.hid (And.intro hN6 (And.intro hz1 hg6s))
  have HO6 := Lib.hid (And.intro ho6 h5own)
  clear hB5 hN5 ha6 hN6 ho5 ho6 hc5 hcc5 hby5 hl5 hg6s hz1 h5own hs4
  obtain ⟨P, hPP⟩ : ∃ P, P = Slot.prep (jpr L k) k := ⟨_, rfl⟩
  rw [← hPP] at HQ1 HO6 ⊢
  clear hPP
  obtain ⟨ok, F, bd⟩ := P
  dsimp only at HQ1 HO6 ⊢
  go_wp2_with (first
    | ((with_reducible show wpList _ _ _ ((⟨none, _, _, _, _, _⟩ : Oper) :: _) _ _); refine wpList_store_blk (o := ⟨none, _, _, _, _, _⟩) ((Blk.new w5 41 #[.int .i64 0, .int .i64 0, .int .i64 0, .int .i64 0, .int .i64 0, .int .i64 0, .int .i64 0, .int .i64 0, .int .i64 0, .int .u64 0, .int .u64 0, .int .i64 0, .int .i64 0, .int .u64 0, .int .i64 0, .int .i64 0, .slice none 0 0])) (by rfl) _ _ _ (by rfl) (by rfl) (msgc F (.slice A5 bd.length c5)) (by rfl) (sizeMsg) (by rfl) (msgc_size _ _) (msgc_one _ _ rfl) ?_; intro w6 h6 hu6)
    | fail)
  have hN6 : Near [] w4 w6 := HN6.out.1.high (Near.upd hu6 (List.mem_singleton_self _)) (fun y hy => by rw [List.mem_singleton.1 hy]; exact HN6.out.2.2)
  have ho7 := OwnsC.nearJ HO6.out.1 (Near.upd hu6 (List.mem_singleton_self _)) (fun j hj => by have := HO6.out.2 j hj; simp; omega)
  obtain ⟨gm, hgm⟩ : ∃ x, x = w5.heap.size := ⟨_, rfl⟩
  rw [← hgm] at h6 ⊢
  have hJ6 := H4.out.1.near hN6
  have hz6 := H4.out.2.2.1.near hN6 (by simp)
  have hn6 : Near [gj] w w6 := H4.out.2.1.trans (hN6.wider (fun x hx => by cases hx))
  replace jv := hN6.cell_ (by simp) jv
  have c5' := h6.at_ 5 (v := .int .i64 (F 5)) (msgc_at F _ 5 (by omega))
  have c3' := h6.at_ 3 (v := .int .i64 (F 3)) (msgc_at F _ 3 (by omega))
  have hs0 : w.heap.size ≤ w4.heap.size := by have := HN6.out.2.1; omega
  have H6 := Lib.hid (And.intro hJ6 (And.intro hz6 (And.intro hn6 (And.intro h6 (And.intro ho7 hs0)))))
  clear hN6 ho7 hgm h6 hJ6 hz6 hn6 hs0 hu6 HN6 HO6 ja jb hg2 hb'
  have hC6 : Near [] w6 w6.drew := (Near.refl _ _).drew
  by_cases hgood : (ok && (F 5 == op) && (F 3 == c)) = true
  · simp only [Bool.and_eq_true, beq_iff_eq] at hgood
    obtain ⟨⟨rfl, e5⟩, e3⟩ := hgood
    have hq := Lib.hid (show jget L l op = ((0, F, bd), l) by rw [HQ1.out.1, if_pos (by rw [HQ1.out.2, e5, e3]; simp)])
    have e5' : (F 5 != op) = false := by simpa using e5
    have e3' : (F 3 != c) = false := by simpa using e3
    clear e5 e3
    refine wp_region_tree (Near [] w6) [] (PlanT.takes [0, 1, 2, 3, 4, 6] (PlanT.takes [5] (PlanT.takes [7, 8, 9, 10, 11, 13, 14, 15] (PlanT.takes [12, 16] (PlanT.takes [17, 18] .done))))) (by kernel_rfl) (by kernel_rfl) (hC6) ?_
    refine wpTree_pure _ _ _ (by rfl) (by rfl) ?_
    dsimp only [List.filterMap, List.getElem?_cons_zero, List.getElem?_cons_succ]
    repeat (go_big_quiet_step (fail))
    refine wpQuiet_nil ?_
    refine wpTree_takeL _ _ _ (by rfl) (by rfl) (hC6) ?_
    dsimp only [List.filterMap, List.getElem?_cons_zero, List.getElem?_cons_succ]
    (refine wpQuiet_want' (by rfl) ?_; refine wpQuiet_load_cell (fun w' hw' => Near.cell_ hw' (by simp) c5') (by rfl) _ _ (by rfl) (by rfl) _ Tryz.underlying3 (by rfl) ?_; simp only [Act.put, List.setIfInBounds_toArray, List.set_cons_zero, List.set_cons_succ])
    refine wpQuiet_nil ?_
    refine wpTree_pure _ _ _ (by rfl) (by rfl) ?_
    dsimp only [List.filterMap, List.getElem?_cons_zero, List.getElem?_cons_succ]
    repeat (go_big_quiet_step (fail))
    refine wpQuiet_nil ?_
    refine wpTree_takeL _ _ _ (by rfl) (by rfl) (hC6) ?_
    dsimp only [List.filterMap, List.getElem?_cons_zero, List.getElem?_cons_succ]
    (refine wpQuiet_want' (by rfl) ?_; refine wpQuiet_load_cell (fun w' hw' => Near.cell_ hw' (by simp) c3') (by rfl) _ _ (by rfl) (by rfl) _ Tryz.underlying3 (by rfl) ?_; simp only [Act.put, List.setIfInBounds_toArray, List.set_cons_zero, List.set_cons_succ])
    (refine wpQuiet_want' (by rfl) ?_; refine wpQuiet_load_cell (fun w' hw' => Near.cell_ hw' (by simp) jv) (by rfl) _ _ (by rfl) (by rfl) _ Tryz.underlying3 (by rfl) ?_; simp only [Act.put, List.setIfInBounds_toArray, List.set_cons_zero, List.set_cons_succ])
    refine wpQuiet_nil ?_
    refine wpTree_pure _ _ _ (by rfl) (by rfl) ?_
    dsimp only [List.filterMap, List.getElem?_cons_zero, List.getElem?_cons_succ]
    repeat (go_big_quiet_step (fail))
    refine wpQuiet_nil ?_
    refine wpTree_done ?_
    clear hC6 c5' c3' jv
    have hz7 := H6.out.2.1.drew
    have h67 := H6.out.2.2.2.1.drew
    go_wp2_with (first
      | ((with_reducible show wpList _ _ _ ((⟨some 102, _, _, _, _, _⟩ : Oper) :: _) _ _); refine wpList_load_blk (o := ⟨some 102, _, _, _, _, _⟩) (h67) (by rfl) _ _ (by rfl) (by rfl) _ Tryz.underlying41 (by rfl) (sizeMsg) (msgc_size _ _) ?_)
      | ((with_reducible show wpList _ _ _ ((⟨none, _, _, _, _, _⟩ : Oper) :: _) _ _); refine wpList_store_blk (o := ⟨none, _, _, _, _, _⟩) (hz7) (by rfl) _ _ _ (by rfl) (by rfl) (msgc F (.slice A5 bd.length c5)) (by rfl) (sizeMsg) (msgc_size _ _) (msgc_size _ _) (msgc_one _ _ rfl) ?_; intro w9 h9 hu9)
      | fail)
    have hn9 : Near [g0] w6 w9 := (Near.refl _ _).drew.trans (Near.upd hu9 (List.mem_singleton_self _))
    refine bodyPost_ret (results_row_tmp (by rfl) _ _ g0 _ _ _ (by rfl) h9 Tryz.underlying41 (by rfl) (by rw [msgc_size]; exact sizeMsg)) rfl ?_
    rw [hq.out]
    refine ⟨_, rfl, ⟨sp5, OwnsC.from ((OwnsC.nearJ H6.out.2.2.2.2.1 hn9 (fun j hj => by have h1 := (OwnsC.lt H6.out.2.2.2.2.1 j hj).1; have h2 := HN0.out; have h3 := HG.out.1; simp; omega))) H6.out.2.2.2.2.2⟩, (H6.out.1).near' hn9 HG.out.2.1 HG.out.2.2, (H6.out.2.2.1).high hn9 (fun y hy => by rw [List.mem_singleton.1 hy, HG.out.1]; exact Nat.le_refl _)⟩
  have hq := Lib.hid (show jget L l op = ((13, Hd.none_, []), l.set k (3, op, c, false)) by rw [HQ1.out.1, if_neg (by rw [HQ1.out.2]; exact hgood)])
  have hJb := H6.out.1.jb.drew
  have HJ16 := Lib.hid (And.intro H6.out.1.n16 hk)
  cases ok
  · clear hgood
    refine wp_region_tree (Near [] w6) [] (PlanT.takes [0, 1, 2, 3, 4, 6] (PlanT.takes [5] (PlanT.takes [7, 8, 9, 10, 11, 13, 14, 15] (PlanT.takes [12, 16] (PlanT.takes [17, 18] .done))))) (by kernel_rfl) (by kernel_rfl) (hC6) ?_
    refine wpTree_pure _ _ _ (by rfl) (by rfl) ?_
    dsimp only [List.filterMap, List.getElem?_cons_zero, List.getElem?_cons_succ]
    repeat (go_big_quiet_step (fail))
    refine wpQuiet_nil ?_
    refine wpTree_takeL _ _ _ (by rfl) (by rfl) (hC6) ?_
    dsimp only [List.filterMap, List.getElem?_cons_zero, List.getElem?_cons_succ]
    go_big_quiet_step (fail)
    refine wpQuiet_nil ?_
    refine wpTree_pure _ _ _ (by rfl) (by rfl) ?_
    dsimp only [List.filterMap, List.getElem?_cons_zero, List.getElem?_cons_succ]
    repeat (go_big_quiet_step (fail))
    refine wpQuiet_nil ?_
    refine wpTree_takeL _ _ _ (by rfl) (by rfl) (hC6) ?_
    dsimp only [List.filterMap, List.getElem?_cons_zero, List.getElem?_cons_succ]
    go_big_quiet_step (fail)
    go_big_quiet_step (fail)
    refine wpQuiet_nil ?_
    refine wpTree_pure _ _ _ (by rfl) (by rfl) ?_
    dsimp only [List.filterMap, List.getElem?_cons_zero, List.getElem?_cons_succ]
    repeat (go_big_quiet_step (fail))
    refine wpQuiet_nil ?_
    refine wpTree_done ?_
    clear hC6 c5' c3'
    have hz7 := H6.out.2.1.drew
    go_wp2_with (first
      | ((with_reducible show wpList _ _ _ ((⟨none, _, _, _, _, _⟩ : Oper) :: _) _ _); refine wpList_store_in (o := ⟨none, _, _, _, _, _⟩) hJb (by rfl) _ _ _ (by rfl) (1 + k * 4) (by rfl) #[.int .i64 3, .int .i64 op, .int .i64 c, .bool false] (by rfl) sizeSt (by rfl) (by rw [jc_size, HJ16.out.1]; have := HJ16.out.2; omega) (st_one _ _ _ _) ?_; intro w7 hg7 hu7; have hz8 := hz7.upd hu7 HG.out.2.1; clear hz7 jv)
      | ((with_reducible show wpList _ _ _ ((⟨none, _, _, _, _, _⟩ : Oper) :: _) _ _); refine wpList_store_blk (o := ⟨none, _, _, _, _, _⟩) (hz8) (by rfl) _ _ _ (by rfl) (by rfl) (msgc zeroHd (.slice none 0 0)) (by rfl) (sizeMsg) (msgc_size _ _) (msgc_size _ _) (msgc_one _ _ rfl) ?_; intro w9 h9 hu9)
      | fail)
    have hb7 : Blk w7 gj 91 (jc p.gd (l.set k (3, op, c, false))) := by
      rw [← jc_set p.gd l k _ (by rw [HJ16.out.1]; exact HJ16.out.2), show 1 + 4 * k = 1 + k * 4 by omega]
      exact hg7
    have hn7 : Near [gj] w6 w7 := (Near.refl _ _).drew.trans (Near.upd hu7 (List.mem_singleton_self _))
    have hgj := HX.out.1
    have hd7 : JD w7 p L := H6.out.1.jd.near' hn7 (by
      unfold Pl.all at hgj
      simp at hgj ⊢
      exact ⟨fun e => hgj.1 e.symm, fun e => hgj.2.1 e.symm, fun e => hgj.2.2 e.symm⟩)
    have hn9 : Near [g0] w7 w9 := Near.upd hu9 (List.mem_singleton_self _)
    refine bodyPost_ret (results_row_tmp (by rfl) _ _ g0 _ _ _ (by rfl) h9 Tryz.underlying41 (by rfl) (by rw [msgc_size]; exact sizeMsg)) rfl ?_
    rw [hq.out]
    exact ⟨_, rfl, ⟨[], OwnsC.nil _ _ _ _⟩, (JR.mk hd7 hb7 (by rw [List.length_set]; exact HJ16.out.1)).near' hn9 HG.out.2.1 HG.out.2.2, (H6.out.2.2.1.trans hn7).high hn9 (fun y hy => by rw [List.mem_singleton.1 hy, HG.out.1]; exact Nat.le_refl _)⟩
  by_cases h5 : F 5 = op
  case neg =>
    have e5' : (F 5 != op) = true := by simpa using h5
    clear hgood h5
    refine wp_region_tree (Near [] w6) [] (PlanT.takes [0, 1, 2, 3, 4, 6] (PlanT.takes [5] (PlanT.takes [7, 8, 9, 10, 11, 13, 14, 15] (PlanT.takes [12, 16] (PlanT.takes [17, 18] .done))))) (by kernel_rfl) (by kernel_rfl) (hC6) ?_
    refine wpTree_pure _ _ _ (by rfl) (by rfl) ?_
    dsimp only [List.filterMap, List.getElem?_cons_zero, List.getElem?_cons_succ]
    repeat (go_big_quiet_step (fail))
    refine wpQuiet_nil ?_
    refine wpTree_takeL _ _ _ (by rfl) (by rfl) (hC6) ?_
    dsimp only [List.filterMap, List.getElem?_cons_zero, List.getElem?_cons_succ]
    (refine wpQuiet_want' (by rfl) ?_; refine wpQuiet_load_cell (fun w' hw' => Near.cell_ hw' (by simp) c5') (by rfl) _ _ (by rfl) (by rfl) _ Tryz.underlying3 (by rfl) ?_; simp only [Act.put, List.setIfInBounds_toArray, List.set_cons_zero, List.set_cons_succ])
    refine wpQuiet_nil ?_
    refine wpTree_pure _ _ _ (by rfl) (by rfl) ?_
    dsimp only [List.filterMap, List.getElem?_cons_zero, List.getElem?_cons_succ]
    repeat (go_big_quiet_step (fail))
    refine wpQuiet_nil ?_
    refine wpTree_takeL _ _ _ (by rfl) (by rfl) (hC6) ?_
    dsimp only [List.filterMap, List.getElem?_cons_zero, List.getElem?_cons_succ]
    go_big_quiet_step (fail)
    go_big_quiet_step (fail)
    refine wpQuiet_nil ?_
    refine wpTree_pure _ _ _ (by rfl) (by rfl) ?_
    dsimp only [List.filterMap, List.getElem?_cons_zero, List.getElem?_cons_succ]
    repeat (go_big_quiet_step (fail))
    refine wpQuiet_nil ?_
    refine wpTree_done ?_
    clear hC6 c5' c3'
    have hz7 := H6.out.2.1.drew
    go_wp2_with (first
      | ((with_reducible show wpList _ _ _ ((⟨none, _, _, _, _, _⟩ : Oper) :: _) _ _); refine wpList_store_in (o := ⟨none, _, _, _, _, _⟩) hJb (by rfl) _ _ _ (by rfl) (1 + k * 4) (by rfl) #[.int .i64 3, .int .i64 op, .int .i64 c, .bool false] (by rfl) sizeSt (by rfl) (by rw [jc_size, HJ16.out.1]; have := HJ16.out.2; omega) (st_one _ _ _ _) ?_; intro w7 hg7 hu7; have hz8 := hz7.upd hu7 HG.out.2.1; clear hz7 jv)
      | ((with_reducible show wpList _ _ _ ((⟨none, _, _, _, _, _⟩ : Oper) :: _) _ _); refine wpList_store_blk (o := ⟨none, _, _, _, _, _⟩) (hz8) (by rfl) _ _ _ (by rfl) (by rfl) (msgc zeroHd (.slice none 0 0)) (by rfl) (sizeMsg) (msgc_size _ _) (msgc_size _ _) (msgc_one _ _ rfl) ?_; intro w9 h9 hu9)
      | fail)
    have hb7 : Blk w7 gj 91 (jc p.gd (l.set k (3, op, c, false))) := by
      rw [← jc_set p.gd l k _ (by rw [HJ16.out.1]; exact HJ16.out.2), show 1 + 4 * k = 1 + k * 4 by omega]
      exact hg7
    have hn7 : Near [gj] w6 w7 := (Near.refl _ _).drew.trans (Near.upd hu7 (List.mem_singleton_self _))
    have hgj := HX.out.1
    have hd7 : JD w7 p L := H6.out.1.jd.near' hn7 (by
      unfold Pl.all at hgj
      simp at hgj ⊢
      exact ⟨fun e => hgj.1 e.symm, fun e => hgj.2.1 e.symm, fun e => hgj.2.2 e.symm⟩)
    have hn9 : Near [g0] w7 w9 := Near.upd hu9 (List.mem_singleton_self _)
    refine bodyPost_ret (results_row_tmp (by rfl) _ _ g0 _ _ _ (by rfl) h9 Tryz.underlying41 (by rfl) (by rw [msgc_size]; exact sizeMsg)) rfl ?_
    rw [hq.out]
    exact ⟨_, rfl, ⟨[], OwnsC.nil _ _ _ _⟩, (JR.mk hd7 hb7 (by rw [List.length_set]; exact HJ16.out.1)).near' hn9 HG.out.2.1 HG.out.2.2, (H6.out.2.2.1.trans hn7).high hn9 (fun y hy => by rw [List.mem_singleton.1 hy, HG.out.1]; exact Nat.le_refl _)⟩
  have e5' : (F 5 != op) = false := by simpa using h5
  have e3' : (F 3 != c) = true := by simp [h5] at hgood; simpa using hgood
  clear hgood h5
  refine wp_region_tree (Near [] w6) [] (PlanT.takes [0, 1, 2, 3, 4, 6] (PlanT.takes [5] (PlanT.takes [7, 8, 9, 10, 11, 13, 14, 15] (PlanT.takes [12, 16] (PlanT.takes [17, 18] .done))))) (by kernel_rfl) (by kernel_rfl) (hC6) ?_
  refine wpTree_pure _ _ _ (by rfl) (by rfl) ?_
  dsimp only [List.filterMap, List.getElem?_cons_zero, List.getElem?_cons_succ]
  repeat (go_big_quiet_step (fail))
  refine wpQuiet_nil ?_
  refine wpTree_takeL _ _ _ (by rfl) (by rfl) (hC6) ?_
  dsimp only [List.filterMap, List.getElem?_cons_zero, List.getElem?_cons_succ]
  (refine wpQuiet_want' (by rfl) ?_; refine wpQuiet_load_cell (fun w' hw' => Near.cell_ hw' (by simp) c5') (by rfl) _ _ (by rfl) (by rfl) _ Tryz.underlying3 (by rfl) ?_; simp only [Act.put, List.setIfInBounds_toArray, List.set_cons_zero, List.set_cons_succ])
  refine wpQuiet_nil ?_
  refine wpTree_pure _ _ _ (by rfl) (by rfl) ?_
  dsimp only [List.filterMap, List.getElem?_cons_zero, List.getElem?_cons_succ]
  repeat (go_big_quiet_step (fail))
  refine wpQuiet_nil ?_
  refine wpTree_takeL _ _ _ (by rfl) (by rfl) (hC6) ?_
  dsimp only [List.filterMap, List.getElem?_cons_zero, List.getElem?_cons_succ]
  (refine wpQuiet_want' (by rfl) ?_; refine wpQuiet_load_cell (fun w' hw' => Near.cell_ hw' (by simp) c3') (by rfl) _ _ (by rfl) (by rfl) _ Tryz.underlying3 (by rfl) ?_; simp only [Act.put, List.setIfInBounds_toArray, List.set_cons_zero, List.set_cons_succ])
  (refine wpQuiet_want' (by rfl) ?_; refine wpQuiet_load_cell (fun w' hw' => Near.cell_ hw' (by simp) jv) (by rfl) _ _ (by rfl) (by rfl) _ Tryz.underlying3 (by rfl) ?_; simp only [Act.put, List.setIfInBounds_toArray, List.set_cons_zero, List.set_cons_succ])
  refine wpQuiet_nil ?_
  refine wpTree_pure _ _ _ (by rfl) (by rfl) ?_
  dsimp only [List.filterMap, List.getElem?_cons_zero, List.getElem?_cons_succ]
  repeat (go_big_quiet_step (fail))
  refine wpQuiet_nil ?_
  refine wpTree_done ?_
  clear hC6 c5' c3'
  have hz7 := H6.out.2.1.drew
  go_wp2_with (first
    | ((with_reducible show wpList _ _ _ ((⟨none, _, _, _, _, _⟩ : Oper) :: _) _ _); refine wpList_store_in (o := ⟨none, _, _, _, _, _⟩) hJb (by rfl) _ _ _ (by rfl) (1 + k * 4) (by rfl) #[.int .i64 3, .int .i64 op, .int .i64 c, .bool false] (by rfl) sizeSt (by rfl) (by rw [jc_size, HJ16.out.1]; have := HJ16.out.2; omega) (st_one _ _ _ _) ?_; intro w7 hg7 hu7; have hz8 := hz7.upd hu7 HG.out.2.1; clear hz7 jv)
    | ((with_reducible show wpList _ _ _ ((⟨none, _, _, _, _, _⟩ : Oper) :: _) _ _); refine wpList_store_blk (o := ⟨none, _, _, _, _, _⟩) (hz8) (by rfl) _ _ _ (by rfl) (by rfl) (msgc zeroHd (.slice none 0 0)) (by rfl) (sizeMsg) (msgc_size _ _) (msgc_size _ _) (msgc_one _ _ rfl) ?_; intro w9 h9 hu9)
    | fail)
  have hb7 : Blk w7 gj 91 (jc p.gd (l.set k (3, op, c, false))) := by
    rw [← jc_set p.gd l k _ (by rw [HJ16.out.1]; exact HJ16.out.2), show 1 + 4 * k = 1 + k * 4 by omega]
    exact hg7
  have hn7 : Near [gj] w6 w7 := (Near.refl _ _).drew.trans (Near.upd hu7 (List.mem_singleton_self _))
  have hgj := HX.out.1
  have hd7 : JD w7 p L := H6.out.1.jd.near' hn7 (by
    unfold Pl.all at hgj
    simp at hgj ⊢
    exact ⟨fun e => hgj.1 e.symm, fun e => hgj.2.1 e.symm, fun e => hgj.2.2 e.symm⟩)
  have hn9 : Near [g0] w7 w9 := Near.upd hu9 (List.mem_singleton_self _)
  refine bodyPost_ret (results_row_tmp (by rfl) _ _ g0 _ _ _ (by rfl) h9 Tryz.underlying41 (by rfl) (by rw [msgc_size]; exact sizeMsg)) rfl ?_
  rw [hq.out]
  exact ⟨_, rfl, ⟨[], OwnsC.nil _ _ _ _⟩, (JR.mk hd7 hb7 (by rw [List.length_set]; exact HJ16.out.1)).near' hn9 HG.out.2.1 HG.out.2.2, (H6.out.2.2.1.trans hn7).high hn9 (fun y hy => by rw [List.mem_singleton.1 hy, HG.out.1]; exact Nat.le_refl _)⟩
end
end Go.Proofs.YtfoegmjpfkmggaaGreatDoor
