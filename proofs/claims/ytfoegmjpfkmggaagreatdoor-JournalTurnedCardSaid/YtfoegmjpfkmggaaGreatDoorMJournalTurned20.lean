/- The prepare at the front of a slot's bytes, by the document: Prepare. Conditions: the bytes can be read. (Printed by gen/rhe.py.) -/
import Derived.Test.YtfoegmjpfkmggaaGreatDoorMJournalTurned19
namespace Go.Proofs.YtfoegmjpfkmggaaGreatDoor
open Go.RowKit
set_option maxRecDepth 100000 in
set_option maxHeartbeats 4000000 in
theorem rprep_any (A : Option Addr) (n c : Nat) (raw : List UInt8) (k : Int) (hn : n = raw.length) (hc : n ≤ c) (hc2 : n ≤ 140737488351232 ∧ c ≤ 9223372036854775807) (w : World) (hby : Bytes w A raw) :
    Calls Tryz.prog 43 #[.slice A n c, .int .i64 k] w fun e w' => ∃ v, e = .returned (.tuple #[.agg (msgc (Slot.prep raw k).2.1 v), .bool (Slot.prep raw k).1]) ∧ (∃ sp, OwnB 5 w' w.heap.size v (Slot.prep raw k).2.2 sp) ∧ Below w.heap.size w w' := by
  have hg0 := (Blk.new w 41 #[.int .i64 0, .int .i64 0, .int .i64 0, .int .i64 0, .int .i64 0, .int .i64 0, .int .i64 0, .int .i64 0, .int .i64 0, .int .u64 0, .int .u64 0, .int .i64 0, .int .i64 0, .int .u64 0, .int .i64 0, .int .i64 0, .slice none 0 0]).sub zeroMsg_cells.symm
  have hB0 : Below w.heap.size w (w.alloc (.cells #[.int .i64 0, .int .i64 0, .int .i64 0, .int .i64 0, .int .i64 0, .int .i64 0, .int .i64 0, .int .i64 0, .int .i64 0, .int .u64 0, .int .u64 0, .int .i64 0, .int .i64 0, .int .u64 0, .int .i64 0, .int .i64 0, .slice none 0 0] 41)) := (Below.refl _ _).alloc (Nat.le_refl _) _
  have hby1 := Bytes.below hby hB0
  obtain ⟨g0, hgn⟩ : ∃ g0, g0 = w.heap.size := ⟨_, rfl⟩
  have HN := Lib.hid (And.intro hn (And.intro hc hc2))
  by_cases h1 : n < 256
  · have hrd : Hid (Slot.prep raw k = Slot.no) := Lib.hid (by unfold Slot.prep; rw [if_pos (by omega)])
    have HG := Lib.hid (show True ∧ Below w.heap.size w (w.alloc (.cells #[.int .i64 0, .int .i64 0, .int .i64 0, .int .i64 0, .int .i64 0, .int .i64 0, .int .i64 0, .int .i64 0, .int .i64 0, .int .u64 0, .int .u64 0, .int .i64 0, .int .i64 0, .int .u64 0, .int .i64 0, .int .i64 0, .slice none 0 0] 41)) from ⟨trivial, hB0⟩)
    have H1 : ((n : Int) < 256) := by omega
    clear hn hc hc2 hby hby1 hB0 hgn h1
    go_enter Tryz.func43, Tryz.ntmps43
    go_wp2_with (first
      | ((with_reducible show wpList _ _ _ ((⟨none, _, _, _, _, _⟩ : Oper) :: _) _ _); refine wpList_store_blk (o := ⟨none, _, _, _, _, _⟩) (hg0) (by rfl) _ _ _ (by rfl) (by rfl) (msgc zeroHd (.slice none 0 0)) (by rfl) (sizeMsg) (msgc_size _ _) (msgc_size _ _) (msgc_one _ _ rfl) ?_; intro wf hf9 hfu)
      | fail)
    refine bodyPost_ret (results_row_tmp (by rfl) _ _ w.heap.size _ _ _ (by rfl) hf9 Tryz.underlying41 (by rfl) (by rw [msgc_size]; exact sizeMsg)) rfl ?_
    rw [hrd.out]
    exact ⟨_, rfl, ⟨[], OwnsC.nil _ _ _ _⟩, (HG.out.2).upd hfu (Nat.le_refl _)⟩
  have H1 : ¬ ((n : Int) < 256) := by omega
  obtain ⟨b, off, rfl, hbl, -⟩ := hby.at_ (by omega)
  rw [← hgn] at hg0
  have HG := Lib.hid (And.intro hgn (And.intro hB0 (And.intro hg0 (And.intro hby1 (And.intro hbl (show 256 ≤ n by omega))))))
  have hcc : 256 ≤ c := by omega
  clear hby hby1 hB0 hg0 hbl hn hc hc2 h1
  go_enter Tryz.func43, Tryz.ntmps43
  go_wp2_with fail
  rw [← hgn]
  clear hgn H1
  generalize w.alloc (.cells #[.int .i64 0, .int .i64 0, .int .i64 0, .int .i64 0, .int .i64 0, .int .i64 0, .int .i64 0, .int .i64 0, .int .i64 0, .int .u64 0, .int .u64 0, .int .i64 0, .int .i64 0, .int .u64 0, .int .i64 0, .int .i64 0, .slice none 0 0] 41) = w1 at HG ⊢
  have hT : (raw.take 256).length = 256 := by rw [List.length_take]; have := HN.out.1; have := HG.out.2.2.2.2.2; omega
  refine (rhead_any (some ⟨b, off, none⟩) 256 c (raw.take 256) hT.symm hcc (by have := HN.out; omega) w1 (HG.out.2.2.2.1.take 256)).mono ?_
  rintro e w2 ⟨rfl, hb2⟩
  have hw0 : w.heap.size ≤ w1.heap.size := HG.out.2.1.size
  have hl1 := HG.out.2.2.1.lt
  have hb3 : Below w1.heap.size w1 (w2.alloc (.cells #[.int .i64 0, .int .i64 0, .int .i64 0, .int .i64 0, .int .i64 0, .int .i64 0, .int .i64 0, .int .i64 0, .int .i64 0, .int .u64 0, .int .u64 0, .int .i64 0, .int .i64 0, .int .u64 0, .int .i64 0, .int .i64 0] 38)) := hb2.trans (((Below.refl w2.heap.size w2).alloc (Nat.le_refl _) (.cells #[.int .i64 0, .int .i64 0, .int .i64 0, .int .i64 0, .int .i64 0, .int .i64 0, .int .i64 0, .int .i64 0, .int .i64 0, .int .u64 0, .int .u64 0, .int .i64 0, .int .i64 0, .int .u64 0, .int .i64 0, .int .i64 0] 38)).mono hb2.size)
  have hs2 := hb2.size
  have H2 := Lib.hid (And.intro hb3 (And.intro hw0 (And.intro hl1 hs2)))
  clear hb2 hb3 hw0 hl1 hs2 hT
  have HRC := Lib.hid (Hd.read_cases (raw.take 256))
  obtain ⟨R, hR⟩ : ∃ R, R = Hd.read (raw.take 256) := ⟨_, rfl⟩
  have HRR := Lib.hid hR
  rw [← hR]
  clear hR
  obtain ⟨code, f⟩ := R
  dsimp only
  go_wp2_with (first
    | ((with_reducible show wpList _ _ _ ((⟨none, _, _, _, _, _⟩ : Oper) :: _) _ _); refine wpList_store_blk (o := ⟨none, _, _, _, _, _⟩) (((Blk.new w2 38 #[.int .i64 0, .int .i64 0, .int .i64 0, .int .i64 0, .int .i64 0, .int .i64 0, .int .i64 0, .int .i64 0, .int .i64 0, .int .u64 0, .int .u64 0, .int .i64 0, .int .i64 0, .int .u64 0, .int .i64 0, .int .i64 0]).sub zeroHd_cells.symm)) (by rfl) _ _ _ (by rfl) (by rfl) (hdc f) (by rfl) (sizeHd) (hdc_size _) (hdc_size _) (hdc_one _) ?_; intro w3 h3 hu3; refine stopped ?_)
    | fail)
  refine Stopped.mk ?_
  have hb3 : Below w1.heap.size w1 w3 := H2.out.1.upd hu3 H2.out.2.2.2
  obtain ⟨gh, hgh⟩ : ∃ x, x = w2.heap.size := ⟨_, rfl⟩
  rw [← hgh] at h3 ⊢
  have hB3 : Below w.heap.size w w3 := HG.out.2.1.trans (hb3.mono H2.out.2.1)
  have hg3 := HG.out.2.2.1.below hb3 H2.out.2.2.1
  have hby3 := Bytes.below HG.out.2.2.2.1 hb3
  have H3 := Lib.hid (And.intro hB3 (And.intro hby3 (And.intro h3 hg3)))
  clear hb3 hgh hu3 hB3 hby3 H2
  by_cases hcode : code = 0
  case neg =>
    have hrd : Hid (Slot.prep raw k = Slot.no) := Lib.hid (by
      have := HN.out.1; have := HG.out.2.2.2.2.2
      unfold Slot.prep; rw [if_neg (by omega), ← HRR.out, if_pos hcode])
    have hq : (code != 0) = true := by simpa using hcode
    have HB := Lib.hid H3.out.1
    clear hcode h3
    go_wp2_with (first
      | ((with_reducible show wpList _ _ _ ((⟨none, _, _, _, _, _⟩ : Oper) :: _) _ _); refine wpList_store_blk (o := ⟨none, _, _, _, _, _⟩) (hg3) (by rfl) _ _ _ (by rfl) (by rfl) (msgc zeroHd (.slice none 0 0)) (by rfl) (sizeMsg) (msgc_size _ _) (msgc_size _ _) (msgc_one _ _ rfl) ?_; intro wf hf9 hfu)
      | fail)
    refine bodyPost_ret (results_row_tmp (by rfl) _ _ g0 _ _ _ (by rfl) hf9 Tryz.underlying41 (by rfl) (by rw [msgc_size]; exact sizeMsg)) rfl ?_
    rw [hrd.out]
    exact ⟨_, rfl, ⟨[], OwnsC.nil _ _ _ _⟩, (HB.out).upd hfu (by rw [HG.out.1]; exact Nat.le_refl _)⟩
  subst hcode
  have hf : f = Hd.parse (raw.take 256) ∧ Hd.ok f = true := by
    have h0 := HRR.out
    rcases HRC.out with (h | h) | ⟨h, -, h2, -⟩
    · rw [h] at h0; injection h0 with h0; cases h0
    · rw [h] at h0; injection h0 with h0; cases h0
    · rw [h] at h0; injection h0 with _ h0; subst h0; exact ⟨rfl, h2⟩
  obtain ⟨s, hs⟩ : ∃ s : Nat, f 2 = (s : Int) ∧ s ≤ 1024 := by
    have h := (Hd.ok_spec hf.2).1
    exact ⟨(f 2).toNat, by omega, by omega⟩
  have hrd0 : Slot.prep raw k = if Slot.is f k = false then Slot.no else if ((raw.length - 256 : Nat) : Int) < (s : Int) then Slot.no else if (Msg.read (raw.take (256 + s))).1 ≠ 0 then Slot.no else (true, f, (raw.drop 256).take s) := by
    have h1 := HN.out.1; have h2 := HG.out.2.2.2.2.2
    unfold Slot.prep
    rw [if_neg (by omega), if_neg (by rw [← HRR.out]; simp), ← hf.1, hs.1, Int.toNat_natCast]
  have HF := Lib.hid (And.intro hf (And.intro hs hrd0))
  have hg3 := hg3
  clear hf hrd0
  have hh3 := H3.out.2.2.1
  have HHS := Lib.hid hs
  clear h3 hs
  by_cases his : Slot.is f k = true
  case neg =>
    have his' : Slot.is f k = false := by simpa using his
    have hrd : Hid (Slot.prep raw k = Slot.no) := Lib.hid (by rw [HF.out.2.2, if_pos his'])
    clear his
    go_wp2_with (first
      | ((with_reducible show wpList _ _ _ ((⟨some 22, _, _, _, _, _⟩ : Oper) :: _) _ _); refine wpList_want (by rfl) ?_; refine wpList_load_blk (o := ⟨some 22, _, _, _, _, _⟩) (hh3) (by rfl) _ _ (by rfl) (by rfl) _ Tryz.underlying38 (by rfl) (sizeHd) (hdc_size _) ?_)
      | fail)
    refine (mine_any f k w3).mono ?_
    rintro e w4 ⟨rfl, hb4⟩
    rw [his']
    have hg4 := hg3.below hb4 hg3.lt
    have HB := Lib.hid (H3.out.1.trans (hb4.mono H3.out.1.size))
    clear hb4 hg3 hh3 his'
    go_wp2_with (first
      | ((with_reducible show wpList _ _ _ ((⟨none, _, _, _, _, _⟩ : Oper) :: _) _ _); refine wpList_store_blk (o := ⟨none, _, _, _, _, _⟩) (hg4) (by rfl) _ _ _ (by rfl) (by rfl) (msgc zeroHd (.slice none 0 0)) (by rfl) (sizeMsg) (msgc_size _ _) (msgc_size _ _) (msgc_one _ _ rfl) ?_; intro wf hf9 hfu)
      | fail)
    refine bodyPost_ret (results_row_tmp (by rfl) _ _ g0 _ _ _ (by rfl) hf9 Tryz.underlying41 (by rfl) (by rw [msgc_size]; exact sizeMsg)) rfl ?_
    rw [hrd.out]
    exact ⟨_, rfl, ⟨[], OwnsC.nil _ _ _ _⟩, (HB.out).upd hfu (by rw [HG.out.1]; exact Nat.le_refl _)⟩
  go_wp2_with (first
    | ((with_reducible show wpList _ _ _ ((⟨some 22, _, _, _, _, _⟩ : Oper) :: _) _ _); refine wpList_want (by rfl) ?_; refine wpList_load_blk (o := ⟨some 22, _, _, _, _, _⟩) (hh3) (by rfl) _ _ (by rfl) (by rfl) _ Tryz.underlying38 (by rfl) (sizeHd) (hdc_size _) ?_)
    | fail)
  refine (mine_any f k w3).mono ?_
  rintro e w4 ⟨rfl, hb4⟩
  rw [his]
  have HIS := Lib.hid his
  have hh4 := hh3.below hb4 hh3.lt
  have c2 := hh4.at_ 2 (v := .int .i64 (s : Int)) (by rw [hdc_at f 2 (by omega) (by omega) (by omega) (by omega), HHS.out.1])
  have hg4 := hg3.below hb4 hg3.lt
  have hby4 := Bytes.below H3.out.2.1 hb4
  have H4 := Lib.hid (And.intro (H3.out.1.trans (hb4.mono H3.out.1.size)) (And.intro hg4 hby4))
  have hw256 : wrap64 (256 + (s : Int)) = ((256 + s : Nat) : Int) := by have := HHS.out.2; unfold wrap64; omega
  clear his hb4 hg3 hh3 hh4 hby4
  by_cases hlen : n < 256 + s
  · have hrd : Hid (Slot.prep raw k = Slot.no) := Lib.hid (by
      have h1 := HN.out.1; have h2 := HG.out.2.2.2.2.2
      rw [HF.out.2.2, if_neg (by rw [HIS.out]; simp), if_pos (by omega)])
    have hlt : ((n : Int) < ((256 + s : Nat) : Int)) := by omega
    have HB := Lib.hid H4.out.1
    clear hlen
    go_wp2_with (first
      | ((with_reducible show wpList _ _ _ ((⟨none, _, _, _, _, _⟩ : Oper) :: _) _ _); refine wpList_store_blk (o := ⟨none, _, _, _, _, _⟩) (hg4) (by rfl) _ _ _ (by rfl) (by rfl) (msgc zeroHd (.slice none 0 0)) (by rfl) (sizeMsg) (msgc_size _ _) (msgc_size _ _) (msgc_one _ _ rfl) ?_; intro wf hf9 hfu)
      | fail)
    refine bodyPost_ret (results_row_tmp (by rfl) _ _ g0 _ _ _ (by rfl) hf9 Tryz.underlying41 (by rfl) (by rw [msgc_size]; exact sizeMsg)) rfl ?_
    rw [hrd.out]
    exact ⟨_, rfl, ⟨[], OwnsC.nil _ _ _ _⟩, (HB.out).upd hfu (by rw [HG.out.1]; exact Nat.le_refl _)⟩
  have hlt : ¬ ((n : Int) < ((256 + s : Nat) : Int)) := by omega
  have hns : 256 + s ≤ n := by omega
  have hcs : 256 + s ≤ c := by have := HN.out; omega
  have hTl : (raw.take (256 + s)).length = 256 + s := by rw [List.length_take]; have := HN.out.1; omega
  clear hlen
  go_wp2_with fail
  refine (rmopen_any (some ⟨b, off, none⟩) (256 + s) c (raw.take (256 + s)) hTl.symm hcs (by have := HN.out; omega) w4 (H4.out.2.2.take (256 + s))).mono ?_
  rintro e w5 ⟨v, rfl, ⟨sp, ho⟩, hb5⟩
  obtain ⟨A5, c5, rfl, -, -, -⟩ := OwnB.open_ ho
  have hrd : Slot.prep raw k = if (Msg.read (raw.take (256 + s))).1 ≠ 0 then Slot.no else (true, f, (raw.drop 256).take s) := by
    have h1 := HN.out.1; have h2 := HG.out.2.2.2.2.2
    rw [HF.out.2.2, if_neg (by rw [HIS.out]; simp), if_neg (by omega)]
  have hmr : (Msg.read (raw.take (256 + s))).1 = 0 → (Msg.read (raw.take (256 + s))).2 = (f, (raw.drop 256).take s) := by
    intro h0
    obtain ⟨_, h2, _⟩ := Msg.read_ok _ h0
    rw [h2]
    have e1 : (raw.take (256 + s)).take 256 = raw.take 256 := by rw [List.take_take, Nat.min_eq_left (by omega)]
    have e2 : (raw.take (256 + s)).drop 256 = (raw.drop 256).take s := by rw [List.drop_take, show 256 + s - 256 = s by omega]
    rw [e1, e2, ← HF.out.1.1]
  have hmn : (Msg.read (raw.take (256 + s))).1 ≠ 0 → (Msg.read (raw.take (256 + s))).2 = (Hd.none_, []) := by
    intro h0
    unfold Msg.read at h0 ⊢
    split at h0
    · rename_i h; rw [if_pos h]
    · rename_i h; rw [if_neg h]
      split at h0
      · rename_i h; rw [if_pos h]
      · rename_i h; rw [if_neg h]
        split at h0
        · rename_i h; rw [if_pos h]
        · rename_i h; rw [if_neg h]
          split at h0
          · rename_i h; rw [if_pos h]
          · exact absurd rfl h0
  obtain ⟨M, hM⟩ : ∃ M, M = Msg.read (raw.take (256 + s)) := ⟨_, rfl⟩
  rw [← hM] at hrd hmr hmn ho ⊢
  obtain ⟨mc, F, bd⟩ := M
  dsimp only at hrd hmr hmn ho ⊢
  have hsz5 := hb5.size
  have hgl := hg4.lt
  have hg5 := hg4.below hb5 hg4.lt
  have ho2 := fun j hj => (OwnsC.lt ho j hj)
  have ha6 : Below w.heap.size w (w5.alloc (.cells #[.int .i64 0, .int .i64 0, .int .i64 0, .int .i64 0, .int .i64 0, .int .i64 0, .int .i64 0, .int .i64 0, .int .i64 0, .int .u64 0, .int .u64 0, .int .i64 0, .int .i64 0, .int .u64 0, .int .i64 0, .int .i64 0, .slice none 0 0] 41)) := (H4.out.1.trans (hb5.mono H4.out.1.size)).alloc (Nat.le_trans H4.out.1.size hb5.size) _
  have H5 := Lib.hid (And.intro hrd (And.intro hmr (And.intro hmn (And.intro (OwnsC.alloc ho (.cells #[.int .i64 0, .int .i64 0, .int .i64 0, .int .i64 0, .int .i64 0, .int .i64 0, .int .i64 0, .int .i64 0, .int .i64 0, .int .u64 0, .int .u64 0, .int .i64 0, .int .i64 0, .int .u64 0, .int .i64 0, .int .i64 0, .slice none 0 0] 41)) (And.intro (hg5.alloc (.cells #[.int .i64 0, .int .i64 0, .int .i64 0, .int .i64 0, .int .i64 0, .int .i64 0, .int .i64 0, .int .i64 0, .int .i64 0, .int .u64 0, .int .u64 0, .int .i64 0, .int .i64 0, .int .u64 0, .int .i64 0, .int .i64 0, .slice none 0 0] 41)) (And.intro ha6 (And.intro ho2 (show g0 < w4.heap.size ∧ w4.heap.size ≤ w5.heap.size ∧ w.heap.size ≤ w4.heap.size from ⟨hgl, hsz5, H4.out.1.size⟩))))))))
  clear hrd hmr hmn hM ho hb5 hTl hg4 hg5 hsz5 hgl ho2 ha6 c2 hlt hns hw256
  go_wp2_with (first
    | ((with_reducible show wpList _ _ _ ((⟨none, _, _, _, _, _⟩ : Oper) :: _) _ _); refine wpList_store_blk (o := ⟨none, _, _, _, _, _⟩) ((Blk.new w5 41 #[.int .i64 0, .int .i64 0, .int .i64 0, .int .i64 0, .int .i64 0, .int .i64 0, .int .i64 0, .int .i64 0, .int .i64 0, .int .u64 0, .int .u64 0, .int .i64 0, .int .i64 0, .int .u64 0, .int .i64 0, .int .i64 0, .slice none 0 0])) (by rfl) _ _ _ (by rfl) (by rfl) (msgc F (.slice A5 bd.length c5)) (by rfl) (sizeMsg) (by rfl) (msgc_size _ _) (msgc_one _ _ rfl) ?_; intro w6 h6 hu6; refine stopped ?_)
    | fail)
  refine Stopped.mk ?_
  have hg6 := H5.out.2.2.2.2.1.upd hu6 (by have := H5.out.2.2.2.2.2.2.2; omega)
  have hk := H5.out.2.2.2.2.2.2.2
  have ho6 := OwnsC.nearR H5.out.2.2.2.1 (Near.upd hu6 (List.mem_singleton_self _)) (fun j hj => by have := (H5.out.2.2.2.2.2.2.1 j hj).2; simp; omega)
  have hB6 := H5.out.2.2.2.2.2.1.upd hu6 (by omega)
  have H6 := Lib.hid (And.intro ho6 hB6)
  clear ho6 hB6 hu6 hk
  go_wp2_with (first
    | ((with_reducible show wpList _ _ _ ((⟨some 45, _, _, _, _, _⟩ : Oper) :: _) _ _); refine wpList_load_blk (o := ⟨some 45, _, _, _, _, _⟩) (h6) (by rfl) _ _ (by rfl) (by rfl) _ Tryz.underlying41 (by rfl) (sizeMsg) (msgc_size _ _) ?_)
    | ((with_reducible show wpList _ _ _ ((⟨none, _, _, _, _, _⟩ : Oper) :: _) _ _); refine wpList_store_blk (o := ⟨none, _, _, _, _, _⟩) (hg6) (by rfl) _ _ _ (by rfl) (by rfl) (msgc F (.slice A5 bd.length c5)) (by rfl) (sizeMsg) (msgc_size _ _) (msgc_size _ _) (msgc_one _ _ rfl) ?_; intro w9 h9 hu9)
    | fail)
  refine bodyPost_ret (results_row_tmp (by rfl) _ _ g0 _ _ _ (by rfl) h9 Tryz.underlying41 (by rfl) (by rw [msgc_size]; exact sizeMsg)) rfl ?_
  have hHG := HG.out.1
  have ho9 := OwnsC.nearR H6.out.1 (Near.upd hu9 (List.mem_singleton_self _)) (fun j hj => by have := (H5.out.2.2.2.2.2.2.1 j hj).1; have := H5.out.2.2.2.2.2.2.2; simp; omega)
  have ho10 := OwnsC.base_ ho9 H5.out.2.2.2.2.2.2.2.2.2
  have hB9 := H6.out.2.upd hu9 (by rw [hHG]; exact Nat.le_refl _)
  by_cases hmc : mc = 0
  · have e1 := H5.out.2.1 hmc
    injection e1 with e1 e2
    rw [H5.out.1, if_neg (by simpa using hmc)]
    subst e1 e2 hmc
    exact ⟨_, rfl, ⟨sp, ho10⟩, hB9⟩
  · have e1 := H5.out.2.2.1 hmc
    injection e1 with e1 e2
    rw [H5.out.1, if_pos hmc]
    subst e1 e2
    exact ⟨_, by rw [show (mc == 0) = false by simpa using hmc]; rfl, ⟨sp, ho10⟩, hB9⟩
end Go.Proofs.YtfoegmjpfkmggaaGreatDoor

/- Has a slot bytes that nobody wrote: the kit's ForgedSlot, where nothing is being written over it. Conditions: the disk is up; what it had can be read. (Printed by gen/fs.py.) -/
namespace Go.Proofs.YtfoegmjpfkmggaaGreatDoor
open Go.RowKit
structure FgSt (w0 w : World) (gh gp : Nat) (L : List UInt8) (n : Nat) (A B : Option Addr) (H P : List UInt8) : Prop where
  h : Bytes w (some ⟨gh, 0, none⟩) (jhd L n)
  p : Bytes w (some ⟨gp, 0, none⟩) (jpr L n)
  a : Bytes w A H
  b : Bytes w B P
  bel : Below w0.heap.size w0 w
theorem FgSt.below {w0 w w' : World} {gh gp n : Nat} {L H P : List UInt8} {A B : Option Addr} (s : FgSt w0 w gh gp L n A B H P) (k : Below w.heap.size w w') : FgSt w0 w' gh gp L n A B H P :=
  ⟨Bytes.below s.h k, Bytes.below s.p k, Bytes.below s.a k, Bytes.below s.b k, s.bel.trans (k.mono s.bel.size)⟩
theorem zero_bytes : Slot.bytes zeroHd [] = (2, []) := by
  have h1 : Hd.ok (setF zeroHd 2 ([] : List UInt8).length) = false := by decide +kernel
  have hs : Msg.seal_ zeroHd [] = (2, []) := by
    unfold Msg.seal_
    rw [if_neg (by simp), if_neg (by rw [h1]; simp)]
  unfold Slot.bytes
  rw [hs, if_neg (by decide)]
theorem zeroHd_in : Hd.in_ zeroHd := by unfold Hd.in_ zeroHd; simp
theorem nil_prep (n : Int) : Slot.prep [] n = Slot.no := by unfold Slot.prep; rw [if_pos (by simp)]
/-- What it means that nothing was forged. -/
def NotForged (L P : List UInt8) (n : Nat) : Prop := (Slot.prep (jpr L n) n).1 = true → (Slot.prep P n).1 = true ∧ Hd.beq (Slot.prep (jpr L n) n).2.1 (Slot.prep P n).2.1 = true ∧ (Slot.prep (jpr L n) n).2.2 = (Slot.prep P n).2.2
set_option maxRecDepth 100000 in
set_option maxHeartbeats 8000000 in
theorem forged_any {w : World} {p : Pl} {L : List UInt8} (n : Nat) (hn : n < 16) (A B : Option Addr) (cA cB : Nat) (H P : List UInt8) (hH : H.length = 256) (hP : P.length = 1280) (hcA : 256 ≤ cA ∧ cA ≤ 9223372036854775807) (hcB : 1280 ≤ cB ∧ cB ≤ 9223372036854775807) (hA : Bytes w A H) (hB : Bytes w B P) (hd : JD w p L) :
    Calls Tryz.prog 13 #[.pointer (some ⟨p.gd, 0, none⟩), .int .i64 (n : Int), .slice A 256 cA, .slice B 1280 cB, .agg (msgc zeroHd (.slice none 0 0))] w fun e w' => ∃ b : Bool, e = .returned (.bool b) ∧ (b = false → NotForged L P n) ∧ Below w.heap.size w w' := by
  have hb0 := (Below.refl w.heap.size w).alloc (Nat.le_refl _) (.cells (msgc zeroHd (.slice none 0 0)) 41)
  have hm0 := Blk.new w 41 (msgc zeroHd (.slice none 0 0))
  have e1 : wrap64 (8 + (n : Int)) = ((8 + n : Nat) : Int) := by unfold wrap64; omega
  have e2 : wrap64 (5 * (n : Int)) = 5 * (n : Int) := by unfold wrap64; omega
  have e3 : wrap64 (24 + 5 * (n : Int)) = ((24 + 5 * n : Nat) : Int) := by unfold wrap64; omega
  have H0 := Lib.hid (And.intro (hd.near (Near.below hb0)) (And.intro (Bytes.below hA hb0) (And.intro (Bytes.below hB hb0) (And.intro hb0 hm0))))
  have HN := Lib.hid (And.intro hH (And.intro hP (And.intro hcA (And.intro hcB hd.len))))
  clear hd hA hB hb0 hm0 hH hP hcA hcB
  go_enter Tryz.func13, Tryz.ntmps13
  go_wp2_with fail
  generalize w.alloc (.cells (msgc zeroHd (.slice none 0 0)) 41) = w1 at H0 ⊢
  obtain ⟨gm, hgm⟩ : ∃ x, x = w.heap.size := ⟨_, rfl⟩
  have hm1 := H0.out.2.2.2.2
  rw [← hgm] at hm1 ⊢
  refine (jdread1 n hn H0.out.1).mono ?_
  rintro e w2 ⟨gh, rfl, -, hh2, hb2⟩
  have hm2 := hm1.below hb2 hm1.lt
  have H2 := Lib.hid (And.intro (H0.out.1.near (Near.below hb2)) (And.intro hh2 (And.intro (Bytes.below H0.out.2.1 hb2) (And.intro (Bytes.below H0.out.2.2.1 hb2) (H0.out.2.2.2.1.trans (hb2.mono H0.out.2.2.2.1.size))))))
  clear hh2 hb2 hm1 e1 hgm
  go_wp2_with fail
  refine (jdread5 n hn H2.out.1).mono ?_
  rintro e w3 ⟨gp, rfl, -, hp3, hb3⟩
  have hm3 := hm2.below hb3 hm2.lt
  have H3 := Lib.hid (show FgSt w w3 gh gp L n A B H P from ⟨Bytes.below H2.out.2.1 hb3, hp3, Bytes.below H2.out.2.2.1 hb3, Bytes.below H2.out.2.2.2.1 hb3, H2.out.2.2.2.2.trans (hb3.mono H2.out.2.2.2.2.size)⟩)
  clear hp3 hb3 hm2 e2 e3 H2
  go_wp2_with (first
    | ((with_reducible show wpList _ _ _ ((⟨some 49, _, _, _, _, _⟩ : Oper) :: _) _ _); refine wpList_load_blk (o := ⟨some 49, _, _, _, _, _⟩) (hm3) (by rfl) _ _ (by rfl) (by rfl) _ Tryz.underlying41 (by rfl) (sizeMsg) (msgc_size _ _) ?_)
    | fail)
  refine (rbytes7_any zeroHd none 0 0 [] w3 rfl (nilBytes w3) ⟨Nat.le_refl _, by omega⟩ zeroHd_in).mono ?_
  rintro e w4 ⟨v4, sp4, rfl, ho4, hb4⟩
  rw [zero_bytes] at ho4 ⊢
  obtain ⟨A4, c4, rfl, -, hc4, hby4⟩ := OwnB.open_ ho4
  have H4 := Lib.hid (And.intro (H3.out.below hb4) hc4)
  clear ho4 hb4 hm3 H3 hc4 hby4
  simp only [List.length_nil]
  go_wp2_with fail
  refine (runw_any (n : Int) w4).mono ?_
  rintro e w5 ⟨v5, sp5, rfl, ho5, hb5⟩
  obtain ⟨A5, c5, rfl, hc5, hc5', hby5⟩ := OwnB.open_ ho5
  have hU : (Slot.unw (n : Int)).2.length = 256 := by unfold Slot.unw; rw [if_neg (by omega), Hd.bytes_length]; rfl
  obtain ⟨U, hUU⟩ : ∃ U, U = (Slot.unw (n : Int)).2 := ⟨_, rfl⟩
  rw [← hUU] at hU hby5 hc5 ⊢
  rw [hU] at hc5 ⊢
  have H5 := Lib.hid (And.intro (H4.out.1.below hb5) (And.intro hby5 hU))
  clear ho5 hb5 hby5 hU hUU hc5 hc5'
  go_wp2_with fail
  have hpl := jpr_length HN.out.2.2.2.2 hn
  refine (rprep_any (some ⟨gp, 0, none⟩) 1280 1280 (jpr L n) (n : Int) hpl.symm (Nat.le_refl _) (by omega) w5 H5.out.1.p).mono ?_
  rintro e w6 ⟨v6, rfl, ⟨sp6, ho6⟩, hb6⟩
  obtain ⟨A6, c6, rfl, -, -, hby6⟩ := OwnB.open_ ho6
  have hB6 := hb6.trans (((Below.refl w6.heap.size w6).alloc (Nat.le_refl _) (.cells #[.int .i64 0, .int .i64 0, .int .i64 0, .int .i64 0, .int .i64 0, .int .i64 0, .int .i64 0, .int .i64 0, .int .i64 0, .int .u64 0, .int .u64 0, .int .i64 0, .int .i64 0, .int .u64 0, .int .i64 0, .int .i64 0, .slice none 0 0] 41)).mono hb6.size)
  have hown6 := fun j hj => (OwnsC.lt ho6 j hj).2
  have H6 := Lib.hid (And.intro hB6 (And.intro (Bytes.below hby6 ((Below.refl w6.heap.size w6).alloc (Nat.le_refl _) (.cells #[.int .i64 0, .int .i64 0, .int .i64 0, .int .i64 0, .int .i64 0, .int .i64 0, .int .i64 0, .int .i64 0, .int .i64 0, .int .u64 0, .int .u64 0, .int .i64 0, .int .i64 0, .int .u64 0, .int .i64 0, .int .i64 0, .slice none 0 0] 41))) (And.intro hb6.size hown6)))
  obtain ⟨X, hX⟩ : ∃ X, X = Slot.prep (jpr L n) (n : Int) := ⟨_, rfl⟩
  have HX := Lib.hid hX
  rw [← hX] at H6 ⊢
  clear ho6 hb6 hby6 hB6 hown6 hX hpl
  obtain ⟨wh, F6, b6⟩ := X
  dsimp only at H6 ⊢
  go_wp2_with (first
    | ((with_reducible show wpList _ _ _ ((⟨none, _, _, _, _, _⟩ : Oper) :: _) _ _); refine wpList_store_blk (o := ⟨none, _, _, _, _, _⟩) ((Blk.new w6 41 #[.int .i64 0, .int .i64 0, .int .i64 0, .int .i64 0, .int .i64 0, .int .i64 0, .int .i64 0, .int .i64 0, .int .i64 0, .int .u64 0, .int .u64 0, .int .i64 0, .int .i64 0, .int .u64 0, .int .i64 0, .int .i64 0, .slice none 0 0])) (by rfl) _ _ _ (by rfl) (by rfl) (msgc F6 (.slice A6 b6.length c6)) (by rfl) (sizeMsg) (by rfl) (msgc_size _ _) (msgc_one _ _ rfl) ?_; intro w7 h7 hu7; refine stopped ?_)
    | fail)
  refine Stopped.mk ?_
  have hb7 : Below w5.heap.size w5 w7 := H6.out.1.upd hu7 H6.out.2.2.1
  have hy7 : Bytes w7 A6 b6 := Bytes.near H6.out.2.1 (Near.upd hu7 (List.mem_singleton_self _)) (fun ad e => by have := H6.out.2.2.2 ad.block (by rw [e]; rfl); simp; omega)
  obtain ⟨g7, hg7⟩ : ∃ x, x = w6.heap.size := ⟨_, rfl⟩
  rw [← hg7] at h7 ⊢
  have H7 := Lib.hid (And.intro (H5.out.1.below hb7) (And.intro (Bytes.below H5.out.2.1 hb7) (And.intro hy7 (And.intro h7 H5.out.2.2))))
  clear hb7 hy7 hg7 h7 hu7 H6 H5
  go_wp2_with fail
  refine (rprep_any B 1280 cB P (n : Int) HN.out.2.1.symm HN.out.2.2.2.1.1 (by have := HN.out.2.2.2.1.2; omega) w7 H7.out.1.b).mono ?_
  rintro e w8 ⟨v8, rfl, ⟨sp8, ho8⟩, hb8⟩
  obtain ⟨A8, c8, rfl, -, -, hby8⟩ := OwnB.open_ ho8
  have hB8 := hb8.trans (((Below.refl w8.heap.size w8).alloc (Nat.le_refl _) (.cells #[.int .i64 0, .int .i64 0, .int .i64 0, .int .i64 0, .int .i64 0, .int .i64 0, .int .i64 0, .int .i64 0, .int .i64 0, .int .u64 0, .int .u64 0, .int .i64 0, .int .i64 0, .int .u64 0, .int .i64 0, .int .i64 0, .slice none 0 0] 41)).mono hb8.size)
  have hown8 := fun j hj => (OwnsC.lt ho8 j hj).2
  have H8 := Lib.hid (And.intro hB8 (And.intro (Bytes.below hby8 ((Below.refl w8.heap.size w8).alloc (Nat.le_refl _) (.cells #[.int .i64 0, .int .i64 0, .int .i64 0, .int .i64 0, .int .i64 0, .int .i64 0, .int .i64 0, .int .i64 0, .int .i64 0, .int .u64 0, .int .u64 0, .int .i64 0, .int .i64 0, .int .u64 0, .int .i64 0, .int .i64 0, .slice none 0 0] 41))) (And.intro hb8.size hown8)))
  obtain ⟨Y, hY⟩ : ∃ Y, Y = Slot.prep P (n : Int) := ⟨_, rfl⟩
  have HY := Lib.hid hY
  rw [← hY] at H8 ⊢
  clear ho8 hb8 hby8 hB8 hown8 hY
  obtain ⟨ws, F8, b8⟩ := Y
  dsimp only at H8 ⊢
  go_wp2_with (first
    | ((with_reducible show wpList _ _ _ ((⟨none, _, _, _, _, _⟩ : Oper) :: _) _ _); refine wpList_store_blk (o := ⟨none, _, _, _, _, _⟩) ((Blk.new w8 41 #[.int .i64 0, .int .i64 0, .int .i64 0, .int .i64 0, .int .i64 0, .int .i64 0, .int .i64 0, .int .i64 0, .int .i64 0, .int .u64 0, .int .u64 0, .int .i64 0, .int .i64 0, .int .u64 0, .int .i64 0, .int .i64 0, .slice none 0 0])) (by rfl) _ _ _ (by rfl) (by rfl) (msgc F8 (.slice A8 b8.length c8)) (by rfl) (sizeMsg) (by rfl) (msgc_size _ _) (msgc_one _ _ rfl) ?_; intro w9 h9 hu9; refine stopped ?_)
    | fail)
  refine Stopped.mk ?_
  have hb9 : Below w7.heap.size w7 w9 := H8.out.1.upd hu9 H8.out.2.2.1
  have hy9 : Bytes w9 A8 b8 := Bytes.near H8.out.2.1 (Near.upd hu9 (List.mem_singleton_self _)) (fun ad e => by have := H8.out.2.2.2 ad.block (by rw [e]; rfl); simp; omega)
  obtain ⟨g9, hg9⟩ : ∃ x, x = w8.heap.size := ⟨_, rfl⟩
  rw [← hg9] at h9 ⊢
  have H9 := Lib.hid (And.intro (H7.out.1.below hb9) (And.intro (Bytes.below H7.out.2.1 hb9) (And.intro (Bytes.below H7.out.2.2.1 hb9) (And.intro (H7.out.2.2.2.1.below hb9 H7.out.2.2.2.1.lt) (And.intro hy9 (And.intro h9 H7.out.2.2.2.2))))))
  clear hb9 hy9 hg9 h9 hu9 H8 H7
  go_wp2_with fail
  refine (rprep_any A4 0 c4 [] (n : Int) rfl (Nat.zero_le _) ⟨by omega, H4.out.2⟩ w9 (Reads.nil _ _)).mono ?_
  rintro e w10 ⟨v10, rfl, ⟨sp10, ho10⟩, hb10⟩
  rw [nil_prep] at ho10 ⊢
  obtain ⟨A10, c10, rfl, -, -, -⟩ := OwnB.open_ ho10
  have hB10 := hb10.trans (((Below.refl w10.heap.size w10).alloc (Nat.le_refl _) (.cells #[.int .i64 0, .int .i64 0, .int .i64 0, .int .i64 0, .int .i64 0, .int .i64 0, .int .i64 0, .int .i64 0, .int .i64 0, .int .u64 0, .int .u64 0, .int .i64 0, .int .i64 0, .int .u64 0, .int .i64 0, .int .i64 0, .slice none 0 0] 41)).mono hb10.size)
  have H10 := Lib.hid (And.intro hB10 hb10.size)
  clear ho10 hb10 hB10
  simp only [Slot.no]
  go_wp2_with (first
    | ((with_reducible show wpList _ _ _ ((⟨none, _, _, _, _, _⟩ : Oper) :: _) _ _); refine wpList_store_blk (o := ⟨none, _, _, _, _, _⟩) ((Blk.new w10 41 #[.int .i64 0, .int .i64 0, .int .i64 0, .int .i64 0, .int .i64 0, .int .i64 0, .int .i64 0, .int .i64 0, .int .i64 0, .int .u64 0, .int .u64 0, .int .i64 0, .int .i64 0, .int .u64 0, .int .i64 0, .int .i64 0, .slice none 0 0])) (by rfl) _ _ _ (by rfl) (by rfl) (msgc Hd.none_ (.slice A10 ([] : List UInt8).length c10)) (by rfl) (sizeMsg) (by rfl) (msgc_size _ _) (msgc_one _ _ rfl) ?_; intro w11 h11 hu11; refine stopped ?_)
    | fail)
  refine Stopped.mk ?_
  have hb11 : Below w9.heap.size w9 w11 := H10.out.1.upd hu11 H10.out.2
  have H11 := Lib.hid (And.intro (H9.out.1.below hb11) (And.intro (Bytes.below H9.out.2.1 hb11) (And.intro (Bytes.below H9.out.2.2.1 hb11) (And.intro (H9.out.2.2.2.1.below hb11 H9.out.2.2.2.1.lt) (And.intro (Bytes.below H9.out.2.2.2.2.1 hb11) (And.intro (H9.out.2.2.2.2.2.1.below hb11 H9.out.2.2.2.2.2.1.lt) H9.out.2.2.2.2.2.2))))))
  clear hb11 h11 hu11 H10 H9
  have HU := Lib.hid H11.out.2.2.2.2.2.2
  have HS := Lib.hid (And.intro H11.out.1 H11.out.2.1)
  have q7 := H11.out.2.2.2.1
  have q9 := H11.out.2.2.2.2.2.1
  cases wh
  · have HI := Lib.hid (show NotForged L P n from fun h => by rw [← HX.out] at h; cases h)
    clear q7 q9
    have hhl := jhd_length HN.out.2.2.2.2 hn
    go_wp2_with fail
    refine (rhead_any (some ⟨gh, 0, none⟩) 256 256 (jhd L n) hhl.symm (Nat.le_refl _) (by omega) w11 HS.out.1.h).mono ?_
    rintro e w13 ⟨rfl, hb13⟩
    have hB13 := hb13.trans (((Below.refl w13.heap.size w13).alloc (Nat.le_refl _) (.cells #[.int .i64 0, .int .i64 0, .int .i64 0, .int .i64 0, .int .i64 0, .int .i64 0, .int .i64 0, .int .i64 0, .int .i64 0, .int .u64 0, .int .u64 0, .int .i64 0, .int .i64 0, .int .u64 0, .int .i64 0, .int .i64 0] 38)).mono hb13.size)
    have H13 := Lib.hid (And.intro hB13 hb13.size)
    clear hb13 hB13 hhl
    obtain ⟨R, hR⟩ : ∃ R, R = Hd.read (jhd L n) := ⟨_, rfl⟩
    rw [← hR]
    clear hR
    obtain ⟨code, f⟩ := R
    dsimp only
    go_wp2_with (first
      | ((with_reducible show wpList _ _ _ ((⟨none, _, _, _, _, _⟩ : Oper) :: _) _ _); refine wpList_store_blk (o := ⟨none, _, _, _, _, _⟩) (((Blk.new w13 38 #[.int .i64 0, .int .i64 0, .int .i64 0, .int .i64 0, .int .i64 0, .int .i64 0, .int .i64 0, .int .i64 0, .int .i64 0, .int .u64 0, .int .u64 0, .int .i64 0, .int .i64 0, .int .u64 0, .int .i64 0, .int .i64 0]).sub zeroHd_cells.symm)) (by rfl) _ _ _ (by rfl) (by rfl) (hdc f) (by rfl) (sizeHd) (hdc_size _) (hdc_size _) (hdc_one _) ?_; intro w14 h14 hu14; refine stopped ?_)
      | fail)
    refine Stopped.mk ?_
    have hb14 := H13.out.1.upd hu14 H13.out.2
    have H14 := Lib.hid (And.intro (HS.out.1.below hb14) (Bytes.below HS.out.2 hb14))
    clear hb14 hu14 h14 H13
    by_cases hcode : code = 0
    case neg =>
      have hq : (code != 0) = true := by simpa using hcode
      clear hcode
      go_wp2_with fail
      go_ret
      exact ⟨false, rfl, fun _ => HI.out, H14.out.1.bel⟩
    subst hcode
    go_wp2_with fail
    refine (sameBytes_any (some ⟨gh, 0, none⟩) A 256 256 256 cA (jhd L n) H (jhd_length HN.out.2.2.2.2 hn).symm HN.out.1.symm w14 H14.out.1.h H14.out.1.a).mono ?_
    rintro e w14' ⟨rfl, hw⟩
    obtain rfl := hw.symm
    clear hw
    generalize decide (jhd L n = H) = s1
    cases s1
    case true =>
      go_wp2_with fail
      go_ret
      exact ⟨false, rfl, fun _ => HI.out, H14.out.1.bel⟩
    go_wp2_with fail
    refine (sameBytes_any (some ⟨gh, 0, none⟩) A5 256 256 256 c5 (jhd L n) U (jhd_length HN.out.2.2.2.2 hn).symm HU.out.symm w14 H14.out.1.h H14.out.2).mono ?_
    rintro e w14' ⟨rfl, hw⟩
    obtain rfl := hw.symm
    clear hw
    generalize decide (jhd L n = U) = s2
    cases s2
    case true =>
      go_wp2_with fail
      go_ret
      exact ⟨false, rfl, fun _ => HI.out, H14.out.1.bel⟩
    go_wp2_with fail
    go_ret
    exact ⟨true, rfl, (fun h => (by cases h)), H14.out.1.bel⟩
  cases ws
  · clear q7 q9
    go_wp2_with fail
    go_ret
    exact ⟨true, rfl, (fun h => (by cases h)), HS.out.1.bel⟩
  go_wp2_with (first
    | ((with_reducible show wpList _ _ _ ((⟨some 80, _, _, _, _, _⟩ : Oper) :: _) _ _); refine wpList_want (by rfl) ?_; refine wpList_load_blk (o := ⟨some 80, _, _, _, _, _⟩) (q7) (by rfl) _ _ (by rfl) (by rfl) _ Tryz.underlying41 (by rfl) (sizeMsg) (msgc_size _ _) ?_)
    | ((with_reducible show wpList _ _ _ ((⟨some 81, _, _, _, _, _⟩ : Oper) :: _) _ _); refine wpList_want (by rfl) ?_; refine wpList_load_blk (o := ⟨some 81, _, _, _, _, _⟩) (q9) (by rfl) _ _ (by rfl) (by rfl) _ Tryz.underlying41 (by rfl) (sizeMsg) (msgc_size _ _) ?_)
    | fail)
  refine (sameMessage_any F6 F8 A6 A8 b6.length b8.length c6 c8 b6 b8 rfl rfl w11 H11.out.2.2.1 H11.out.2.2.2.2.1).mono ?_
  rintro e w12 ⟨rfl, hb12⟩
  have H12 := Lib.hid (And.intro (HS.out.1.below hb12) (Bytes.below HS.out.2 hb12))
  clear hb12 q7 q9
  by_cases hsame : (Hd.beq F6 F8 && decide (b6 = b8)) = true
  · rw [hsame]
    have HI := Lib.hid (show NotForged L P n from fun _ => by
      rw [← HX.out, ← HY.out]
      simp only [Bool.and_eq_true, decide_eq_true_eq] at hsame
      exact ⟨rfl, hsame⟩)
    clear hsame
    have hhl := jhd_length HN.out.2.2.2.2 hn
    go_wp2_with fail
    refine (rhead_any (some ⟨gh, 0, none⟩) 256 256 (jhd L n) hhl.symm (Nat.le_refl _) (by omega) w12 H12.out.1.h).mono ?_
    rintro e w13 ⟨rfl, hb13⟩
    have hB13 := hb13.trans (((Below.refl w13.heap.size w13).alloc (Nat.le_refl _) (.cells #[.int .i64 0, .int .i64 0, .int .i64 0, .int .i64 0, .int .i64 0, .int .i64 0, .int .i64 0, .int .i64 0, .int .i64 0, .int .u64 0, .int .u64 0, .int .i64 0, .int .i64 0, .int .u64 0, .int .i64 0, .int .i64 0] 38)).mono hb13.size)
    have H13 := Lib.hid (And.intro hB13 hb13.size)
    clear hb13 hB13 hhl
    obtain ⟨R, hR⟩ : ∃ R, R = Hd.read (jhd L n) := ⟨_, rfl⟩
    rw [← hR]
    clear hR
    obtain ⟨code, f⟩ := R
    dsimp only
    go_wp2_with (first
      | ((with_reducible show wpList _ _ _ ((⟨none, _, _, _, _, _⟩ : Oper) :: _) _ _); refine wpList_store_blk (o := ⟨none, _, _, _, _, _⟩) (((Blk.new w13 38 #[.int .i64 0, .int .i64 0, .int .i64 0, .int .i64 0, .int .i64 0, .int .i64 0, .int .i64 0, .int .i64 0, .int .i64 0, .int .u64 0, .int .u64 0, .int .i64 0, .int .i64 0, .int .u64 0, .int .i64 0, .int .i64 0]).sub zeroHd_cells.symm)) (by rfl) _ _ _ (by rfl) (by rfl) (hdc f) (by rfl) (sizeHd) (hdc_size _) (hdc_size _) (hdc_one _) ?_; intro w14 h14 hu14; refine stopped ?_)
      | fail)
    refine Stopped.mk ?_
    have hb14 := H13.out.1.upd hu14 H13.out.2
    have H14 := Lib.hid (And.intro (H12.out.1.below hb14) (Bytes.below H12.out.2 hb14))
    clear hb14 hu14 h14 H13
    by_cases hcode : code = 0
    case neg =>
      have hq : (code != 0) = true := by simpa using hcode
      clear hcode
      go_wp2_with fail
      go_ret
      exact ⟨false, rfl, fun _ => HI.out, H14.out.1.bel⟩
    subst hcode
    go_wp2_with fail
    refine (sameBytes_any (some ⟨gh, 0, none⟩) A 256 256 256 cA (jhd L n) H (jhd_length HN.out.2.2.2.2 hn).symm HN.out.1.symm w14 H14.out.1.h H14.out.1.a).mono ?_
    rintro e w14' ⟨rfl, hw⟩
    obtain rfl := hw.symm
    clear hw
    generalize decide (jhd L n = H) = s1
    cases s1
    case true =>
      go_wp2_with fail
      go_ret
      exact ⟨false, rfl, fun _ => HI.out, H14.out.1.bel⟩
    go_wp2_with fail
    refine (sameBytes_any (some ⟨gh, 0, none⟩) A5 256 256 256 c5 (jhd L n) U (jhd_length HN.out.2.2.2.2 hn).symm HU.out.symm w14 H14.out.1.h H14.out.2).mono ?_
    rintro e w14' ⟨rfl, hw⟩
    obtain rfl := hw.symm
    clear hw
    generalize decide (jhd L n = U) = s2
    cases s2
    case true =>
      go_wp2_with fail
      go_ret
      exact ⟨false, rfl, fun _ => HI.out, H14.out.1.bel⟩
    have hpt : ((jpr L n).take 256).length = 256 := by rw [List.length_take, jpr_length HN.out.2.2.2.2 hn]; rfl
    go_wp2_with fail
    refine (sameBytes_any (some ⟨gh, 0, none⟩) (some ⟨gp, 0, none⟩) 256 256 256 1280 (jhd L n) ((jpr L n).take 256) (jhd_length HN.out.2.2.2.2 hn).symm hpt.symm w14 H14.out.1.h (H14.out.1.p.take 256)).mono ?_
    rintro e w14' ⟨rfl, hw⟩
    obtain rfl := hw.symm
    clear hw hpt
    generalize decide (jhd L n = (jpr L n).take 256) = s3
    cases s3
    case true =>
      go_wp2_with fail
      go_ret
      exact ⟨false, rfl, fun _ => HI.out, H14.out.1.bel⟩
    go_wp2_with fail
    go_ret
    exact ⟨true, rfl, (fun h => (by cases h)), H14.out.1.bel⟩
  · rw [show (Hd.beq F6 F8 && decide (b6 = b8)) = false by simpa using hsame]
    clear hsame
    go_wp2_with fail
    go_ret
    exact ⟨true, rfl, (fun h => (by cases h)), H12.out.1.bel⟩
end Go.Proofs.YtfoegmjpfkmggaaGreatDoor
