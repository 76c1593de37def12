/- The prepare at the front of a slot's bytes: what the program tells. Condition: the bytes can be read. -/
import Derived.Test.YtfoegmjpfkmggaaDoorMJournalKnown11
namespace Go.Proofs.YtfoegmjpfkmggaaDoor
open Go.RowKit
set_option maxRecDepth 100000 in
set_option maxHeartbeats 4000000 in
theorem sprep_any (A : Option Addr) (n c : Nat) (raw : List UInt8) (k : Int) (hn : n = raw.length) (hc : n ≤ c) (hc2 : n ≤ 140737488351232 ∧ c ≤ 9223372036854775807) (w : World) (hby : Bytes w A raw) :
    Calls Tryd.prog 39 #[.slice A n c, .int .i64 k] w fun e w' => ∃ v, e = .returned (.tuple #[.agg (msgc (Slot.prep raw k).2.1 v), .bool (Slot.prep raw k).1]) ∧ (∃ sp, OwnB 5 w' w.heap.size v (Slot.prep raw k).2.2 sp) ∧ Below w.heap.size w w' := by
  have hg0 := (Blk.new w 38 #[.int .i64 0, .int .i64 0, .int .i64 0, .int .i64 0, .int .i64 0, .int .i64 0, .int .i64 0, .int .i64 0, .int .i64 0, .int .u64 0, .int .u64 0, .int .i64 0, .int .i64 0, .int .u64 0, .int .i64 0, .int .i64 0, .slice none 0 0]).sub zeroMsg_cells.symm
  have hB0 := Lib.hid ((Below.refl w.heap.size w).alloc (Nat.le_refl _) (.cells #[.int .i64 0, .int .i64 0, .int .i64 0, .int .i64 0, .int .i64 0, .int .i64 0, .int .i64 0, .int .i64 0, .int .i64 0, .int .u64 0, .int .u64 0, .int .i64 0, .int .i64 0, .int .u64 0, .int .i64 0, .int .i64 0, .slice none 0 0] 38))
  by_cases h1 : n < 256
  · have hrd : Hid (Slot.prep raw k = Slot.no) := Lib.hid (by unfold Slot.prep; rw [if_pos (by omega)])
    rw [hrd.out]
    clear hn hby hc2
    have H1 : decide ((n : Int) < 256) = true := by rw [decide_eq_true_eq]; omega
    go_enter Tryd.func39, Tryd.ntmps39
    go_wp2_with (first
      | ((with_reducible show wpList _ _ _ ((⟨none, _, _, _, _, _⟩ : Oper) :: _) _ _); refine wpList_store_blk (o := ⟨none, _, _, _, _, _⟩) (hg0) (by rfl) _ _ _ (by rfl) (by rfl) (msgc zeroHd (.slice none 0 0)) (by rfl) (sizeMsg) (msgc_size _ _) (msgc_size _ _) (msgc_one _ _ rfl) ?_; intro w2 h2 hu2)
      | fail)
    refine bodyPost_ret (results_row_tmp (by rfl) _ _ w.heap.size _ _ _ (by rfl) h2 Tryd.underlying38 (by rfl) (by rw [msgc_size]; exact sizeMsg)) rfl ⟨_, rfl, ⟨[], OwnsC.nil _ _ _ _⟩, hB0.out.upd hu2 (Nat.le_refl _)⟩
  have H1 : decide ((n : Int) < 256) = false := by rw [decide_eq_false_iff_not]; omega
  have hT := hby.take 256
  have hTl : (raw.take 256).length = 256 := by rw [List.length_take]; omega
  have hge256 : 256 ≤ n := by omega
  have HNN := Lib.hid (And.intro hn (And.intro hc hc2))
  obtain ⟨T, hTT⟩ : ∃ T, T = raw.take 256 := ⟨_, rfl⟩
  rw [← hTT] at hT hTl
  have HT := Lib.hid hTT
  have hcc : 256 ≤ c := by omega
  clear hTT hn hc hc2 h1
  go_enter Tryd.func39, Tryd.ntmps39
  go_wp2_with fail
  generalize hw1 : w.alloc (.cells #[.int .i64 0, .int .i64 0, .int .i64 0, .int .i64 0, .int .i64 0, .int .i64 0, .int .i64 0, .int .i64 0, .int .i64 0, .int .u64 0, .int .u64 0, .int .i64 0, .int .i64 0, .int .u64 0, .int .i64 0, .int .i64 0, .slice none 0 0] 38) = w1 at hg0 hB0 ⊢
  clear hw1
  obtain ⟨g0, hgn⟩ : ∃ g0, g0 = w.heap.size := ⟨_, rfl⟩
  have HGE : Hid (w.heap.size ≤ g0) := Lib.hid (by omega)
  rw [← hgn] at hg0 ⊢
  have HGN := Lib.hid hgn
  clear hgn
  have hTb := Bytes.below hT hB0.out
  refine (hhead_any A 256 c T hTl.symm (by omega) (by have := HNN.out; omega) w1 hTb).mono ?_
  rintro e w2 ⟨rfl, hbx⟩
  (replace hg0 := keep hbx hg0)
  have hB2 := Lib.hid (hB0.out.trans (hbx.mono hB0.out.size))
  clear hB0 hbx hTb H1
  have h2 := (Blk.new w2 35 #[.int .i64 0, .int .i64 0, .int .i64 0, .int .i64 0, .int .i64 0, .int .i64 0, .int .i64 0, .int .i64 0, .int .i64 0, .int .u64 0, .int .u64 0, .int .i64 0, .int .i64 0, .int .u64 0, .int .i64 0, .int .i64 0]).sub zeroHd_cells.symm
  have hbx := Lib.hid ((Below.refl w2.heap.size w2).alloc (Nat.le_refl _) (.cells #[.int .i64 0, .int .i64 0, .int .i64 0, .int .i64 0, .int .i64 0, .int .i64 0, .int .i64 0, .int .i64 0, .int .i64 0, .int .u64 0, .int .u64 0, .int .i64 0, .int .i64 0, .int .u64 0, .int .i64 0, .int .i64 0] 35))
  obtain ⟨hcells, hH⟩ : ∃ f, f = (Hd.read T).2 := ⟨_, rfl⟩
  obtain ⟨er, hE⟩ : ∃ f, f = (Hd.read T).1 := ⟨_, rfl⟩
  rw [← hH, ← hE]
  have HH := Lib.hid hH
  have HE := Lib.hid hE
  clear hH hE
  have hb2 := hB2.out.size
  have hgl := hg0.lt
  have hng := HNN.out.1
  rcases Hd.read_cases T with hx | ⟨hx, -, hok, hhead⟩
  · have her : er = 4 ∨ er = 12 := by rw [HE.out]; rcases hx with e | e <;> rw [e] <;> simp
    have hrd : Hid (Slot.prep raw k = Slot.no) := Lib.hid (by
      unfold Slot.prep
      rw [if_neg (by omega), ← HT.out, if_pos (by rw [← HE.out]; omega)])
    clear hx HH HE hng
    rcases her with rfl | rfl
    all_goals
      go_wp2_with (first
        | ((with_reducible show wpList _ _ _ ((⟨none, _, _, _, _, _⟩ : Oper) :: _) _ _); refine wpList_store_blk (o := ⟨none, _, _, _, _, _⟩) (h2) (by rfl) _ _ _ (by rfl) (by rfl) (hdc hcells) (by rfl) (sizeHd) (hdc_size _) (hdc_size _) (hdc_one _) ?_; intro w3 h3 hu3; have hx3 := hbx.out.upd hu3 (Nat.le_refl _); (replace hg0 := keep hx3 hg0); clear h2 hu3; have hB3 := Lib.hid (hB2.out.trans (hx3.mono hB2.out.size)); clear hx3 hbx hB2)
        | ((with_reducible show wpList _ _ _ ((⟨none, _, _, _, _, _⟩ : Oper) :: _) _ _); refine wpList_store_blk (o := ⟨none, _, _, _, _, _⟩) (hg0) (by rfl) _ _ _ (by rfl) (by rfl) (msgc zeroHd (.slice none 0 0)) (by rfl) (sizeMsg) (msgc_size _ _) (msgc_size _ _) (msgc_one _ _ rfl) ?_; intro w9 h9 hu9)
        | fail)
      refine bodyPost_ret (results_row_tmp (by rfl) _ _ g0 _ _ _ (by rfl) h9 Tryd.underlying38 (by rfl) (by rw [msgc_size]; exact sizeMsg)) rfl ⟨_, by rw [hrd.out]; rfl, ⟨[], by rw [hrd.out]; exact OwnsC.nil _ _ _ _⟩, hB3.out.upd hu9 HGE.out⟩
  · have hE0 : er = 0 := by rw [HE.out, hx]
    have hHp : Hid (hcells = Hd.parse T) := Lib.hid (by rw [HH.out, hx])
    have hr0 : Hid ((Hd.read T).1 = 0) := Lib.hid (by rw [hx])
    have HF2 : Hid (0 ≤ hcells 2 ∧ hcells 2 ≤ 1024) := Lib.hid (by have := (Hd.ok_spec hok).1; rw [hHp.out]; omega)
    subst hE0
    clear hx HH HE hok hhead hng
    go_wp2_with (first
      | ((with_reducible show wpList _ _ _ ((⟨none, _, _, _, _, _⟩ : Oper) :: _) _ _); refine wpList_store_blk (o := ⟨none, _, _, _, _, _⟩) (h2) (by rfl) _ _ _ (by rfl) (by rfl) (hdc hcells) (by rfl) (sizeHd) (hdc_size _) (hdc_size _) (hdc_one _) ?_; intro w3 h3 hu3; have hx3 := hbx.out.upd hu3 (Nat.le_refl _); (replace hg0 := keep hx3 hg0); clear h2 hu3; have hB3 := Lib.hid (hB2.out.trans (hx3.mono hB2.out.size)); clear hx3 hbx hB2)
      | ((with_reducible show wpList _ _ _ ((⟨some 22, _, _, _, _, _⟩ : Oper) :: _) _ _); refine wpList_want (by rfl) ?_; refine wpList_load_blk (o := ⟨some 22, _, _, _, _, _⟩) (h3) (by rfl) _ _ (by rfl) (by rfl) _ Tryd.underlying35 (by rfl) (sizeHd) (hdc_size _) ?_)
      | fail)
    refine (sis_any hcells k w3).mono ?_
    rintro e w4 ⟨rfl, hbx⟩
    (replace hg0 := keep hbx hg0; replace h3 := keep hbx h3)
    have hB4 := Lib.hid (hB3.out.trans (hbx.mono hB3.out.size))
    have hgl := hg0.lt
    clear hbx hB3 hb2
    obtain ⟨q, hq⟩ : ∃ q, q = Slot.is hcells k := ⟨_, rfl⟩
    rw [← hq]
    have HQ := Lib.hid hq
    clear hq
    have d2 := h3.at_ 2 (hdc_at _ 2 (by omega) (by omega) (by omega) (by omega))
    cases q
    · have hrd : Hid (Slot.prep raw k = Slot.no) := Lib.hid (by
        unfold Slot.prep
        have := HNN.out.1
        rw [if_neg (by omega), ← HT.out, if_neg (by rw [hr0.out]; simp), if_pos (by rw [← hHp.out, HQ.out])])
      clear h3 d2
      go_wp2_with (first
        | ((with_reducible show wpList _ _ _ ((⟨none, _, _, _, _, _⟩ : Oper) :: _) _ _); refine wpList_store_blk (o := ⟨none, _, _, _, _, _⟩) (hg0) (by rfl) _ _ _ (by rfl) (by rfl) (msgc zeroHd (.slice none 0 0)) (by rfl) (sizeMsg) (msgc_size _ _) (msgc_size _ _) (msgc_one _ _ rfl) ?_; intro w9 h9 hu9)
        | fail)
      refine bodyPost_ret (results_row_tmp (by rfl) _ _ g0 _ _ _ (by rfl) h9 Tryd.underlying38 (by rfl) (by rw [msgc_size]; exact sizeMsg)) rfl ⟨_, by rw [hrd.out]; rfl, ⟨[], by rw [hrd.out]; exact OwnsC.nil _ _ _ _⟩, hB4.out.upd hu9 HGE.out⟩
    · obtain ⟨s, hs⟩ : ∃ s : Nat, hcells 2 = (s : Int) := ⟨(hcells 2).toNat, by have := HF2.out; omega⟩
      have HSS := Lib.hid hs
      rw [hs] at d2
      have hs1024 : s ≤ 1024 := by have := HF2.out; omega
      have hnI : (n : Int) ≤ 140737488351232 := by have := HNN.out.2.2.1; omega
      clear hs
      by_cases hsz : n < 256 + s
      · have hrd : Hid (Slot.prep raw k = Slot.no) := Lib.hid (by
          unfold Slot.prep
          have := HNN.out.1
          rw [if_neg (by omega), ← HT.out, if_neg (by rw [hr0.out]; simp), if_neg (by rw [← hHp.out, ← HQ.out]; simp), if_pos (by rw [← hHp.out, HSS.out]; omega)])
        have hcm : decide ((n : Int) - 256 < (s : Int)) = true := by rw [decide_eq_true_eq]; omega
        clear h3 hsz
        go_wp2_with (first
          | ((with_reducible show wpList _ _ _ ((⟨none, _, _, _, _, _⟩ : Oper) :: _) _ _); refine wpList_store_blk (o := ⟨none, _, _, _, _, _⟩) (hg0) (by rfl) _ _ _ (by rfl) (by rfl) (msgc zeroHd (.slice none 0 0)) (by rfl) (sizeMsg) (msgc_size _ _) (msgc_size _ _) (msgc_one _ _ rfl) ?_; intro w9 h9 hu9)
          | fail)
        refine bodyPost_ret (results_row_tmp (by rfl) _ _ g0 _ _ _ (by rfl) h9 Tryd.underlying38 (by rfl) (by rw [msgc_size]; exact sizeMsg)) rfl ⟨_, by rw [hrd.out]; rfl, ⟨[], by rw [hrd.out]; exact OwnsC.nil _ _ _ _⟩, hB4.out.upd hu9 HGE.out⟩
      · have hcm : decide ((n : Int) - 256 < (s : Int)) = false := by rw [decide_eq_false_iff_not]; omega
        have hle : 256 + s ≤ n := by omega
        have hlec : 256 + s ≤ c := by have := HNN.out.2.1; omega
        clear hsz h3
        have hUb := (Bytes.below hby hB4.out).take (256 + s)
        have hUl : (raw.take (256 + s)).length = 256 + s := by have := HNN.out.1; rw [List.length_take]; omega
        obtain ⟨U, hU⟩ : ∃ U, U = raw.take (256 + s) := ⟨_, rfl⟩
        rw [← hU] at hUb hUl
        have HU := Lib.hid hU
        have hpre := Lib.hid (show Slot.prep raw k = if (Msg.read U).1 ≠ 0 then Slot.no else (true, hcells, (raw.drop 256).take s) by
          unfold Slot.prep
          have := HNN.out.1
          rw [if_neg (by omega), ← HT.out, if_neg (by rw [hr0.out]; simp), if_neg (by rw [← hHp.out, ← HQ.out]; simp), ← hHp.out, HSS.out, if_neg (by omega), Int.toNat_natCast, ← hU])
        clear hU
        go_wp2_with fail
        refine (hopen_any A (256 + s) c U hUl.symm hlec ⟨by omega, by have := HNN.out.2.2.2; omega⟩ w4 hUb).mono ?_
        rintro e w5 ⟨v5, rfl, ⟨sp5, ho5⟩, hbx⟩
        (replace hg0 := keep hbx hg0)
        have hB5 := Lib.hid (hB4.out.trans (hbx.mono hB4.out.size))
        have hsz5 := hbx.size
        have hgl := hg0.lt
        clear hbx hB4 hUb hcm d2
        obtain ⟨co, hco⟩ : ∃ x, x = (Msg.read U).1 := ⟨_, rfl⟩
        obtain ⟨G, hG⟩ : ∃ x, x = (Msg.read U).2.1 := ⟨_, rfl⟩
        obtain ⟨D, hD⟩ : ∃ x, x = (Msg.read U).2.2 := ⟨_, rfl⟩
        rw [← hD] at ho5
        rw [← hco, ← hG]
        have hW4 : w.heap.size ≤ w4.heap.size := by have := HGN.out; omega
        have HRC := Lib.hid (And.intro hco (And.intro hG (And.intro hD hW4)))
        have HO5 := Lib.hid ho5
        obtain ⟨A5, c5, rfl, -⟩ := OwnB.open_ ho5
        clear hco hG hD hW4
        by_cases h0 : co = 0
        · subst h0
          have hrd : Hid (Slot.prep raw k = (true, G, D)) := Lib.hid (by
            have h := HRC.out.1
            obtain ⟨_, hm, _⟩ := Msg.read_ok U h.symm
            have e1 : U.take 256 = T := by rw [HU.out, List.take_take, Nat.min_eq_left (by omega), HT.out]
            have e2 : U.drop 256 = (raw.drop 256).take s := by rw [HU.out, List.drop_take, show 256 + s - 256 = s by omega]
            rw [hpre.out, if_neg (by rw [← h]; simp), HRC.out.2.1, HRC.out.2.2.1, hm, e1, e2, hHp.out])
          go_wp2_with (first
            | ((with_reducible show wpList _ _ _ ((⟨none, _, _, _, _, _⟩ : Oper) :: _) _ _); refine wpList_store_blk (o := ⟨none, _, _, _, _, _⟩) ((Blk.new w5 38 #[.int .i64 0, .int .i64 0, .int .i64 0, .int .i64 0, .int .i64 0, .int .i64 0, .int .i64 0, .int .i64 0, .int .i64 0, .int .u64 0, .int .u64 0, .int .i64 0, .int .i64 0, .int .u64 0, .int .i64 0, .int .i64 0, .slice none 0 0])) (by rfl) _ _ _ (by rfl) (by rfl) (msgc G (.slice A5 D.length c5)) (by rfl) (sizeMsg) (by rfl) (msgc_size _ _) (msgc_one _ _ rfl) ?_; intro w6 h6 hu6; have hx6 := ((Below.refl w5.heap.size w5).alloc (Nat.le_refl _) (.cells #[.int .i64 0, .int .i64 0, .int .i64 0, .int .i64 0, .int .i64 0, .int .i64 0, .int .i64 0, .int .i64 0, .int .i64 0, .int .u64 0, .int .u64 0, .int .i64 0, .int .i64 0, .int .u64 0, .int .i64 0, .int .i64 0, .slice none 0 0] 38)).upd hu6 (Nat.le_refl _); (replace hg0 := keep hx6 hg0; replace ho5 := keep hx6 ho5); have hB6 := Lib.hid (hB5.out.trans (hx6.mono hB5.out.size)); clear hx6 hu6 hB5; have hgl6 := h6.lt)
            | ((with_reducible show wpList _ _ _ ((⟨some 48, _, _, _, _, _⟩ : Oper) :: _) _ _); refine wpList_load_blk (o := ⟨some 48, _, _, _, _, _⟩) (h6) (by rfl) _ _ (by rfl) (by rfl) _ Tryd.underlying38 (by rfl) (sizeMsg) (msgc_size _ _) ?_)
            | ((with_reducible show wpList _ _ _ ((⟨none, _, _, _, _, _⟩ : Oper) :: _) _ _); refine wpList_store_blk (o := ⟨none, _, _, _, _, _⟩) (hg0) (by rfl) _ _ _ (by rfl) (by rfl) (msgc G (.slice A5 D.length c5)) (by rfl) (sizeMsg) (msgc_size _ _) (msgc_size _ _) (msgc_one _ _ rfl) ?_; intro w9 h9 hu9)
            | fail)
          refine bodyPost_ret (results_row_tmp (by rfl) _ _ g0 _ _ _ (by rfl) h9 Tryd.underlying38 (by rfl) (by rw [msgc_size]; exact sizeMsg)) rfl ⟨_, by rw [hrd.out]; rfl, ⟨sp5, ?_⟩, hB6.out.upd hu9 HGE.out⟩
          rw [hrd.out]
          refine OwnsC.base_ (OwnB.upd ho5 hu9 ?_) HRC.out.2.2.2
          intro e
          have h : w4.heap.size ≤ g0 := (OwnsC.lt HO5.out g0 e).1
          have h2 := HGN.out
          omega
        · have hrd : Hid (Slot.prep raw k = Slot.no) := Lib.hid (by rw [hpre.out, if_pos (by rw [← HRC.out.1]; exact h0)])
          have hc0 : (co != 0) = true := by rw [bne_iff_ne]; exact h0
          clear h0 ho5
          go_wp2_with (first
            | ((with_reducible show wpList _ _ _ ((⟨none, _, _, _, _, _⟩ : Oper) :: _) _ _); refine wpList_store_blk (o := ⟨none, _, _, _, _, _⟩) ((Blk.new w5 38 #[.int .i64 0, .int .i64 0, .int .i64 0, .int .i64 0, .int .i64 0, .int .i64 0, .int .i64 0, .int .i64 0, .int .i64 0, .int .u64 0, .int .u64 0, .int .i64 0, .int .i64 0, .int .u64 0, .int .i64 0, .int .i64 0, .slice none 0 0])) (by rfl) _ _ _ (by rfl) (by rfl) (msgc G (.slice A5 D.length c5)) (by rfl) (sizeMsg) (by rfl) (msgc_size _ _) (msgc_one _ _ rfl) ?_; intro w6 h6 hu6; have hx6 := ((Below.refl w5.heap.size w5).alloc (Nat.le_refl _) (.cells #[.int .i64 0, .int .i64 0, .int .i64 0, .int .i64 0, .int .i64 0, .int .i64 0, .int .i64 0, .int .i64 0, .int .i64 0, .int .u64 0, .int .u64 0, .int .i64 0, .int .i64 0, .int .u64 0, .int .i64 0, .int .i64 0, .slice none 0 0] 38)).upd hu6 (Nat.le_refl _); (replace hg0 := keep hx6 hg0); have hB6 := Lib.hid (hB5.out.trans (hx6.mono hB5.out.size)); clear hx6 hu6 hB5 h6)
            | ((with_reducible show wpList _ _ _ ((⟨none, _, _, _, _, _⟩ : Oper) :: _) _ _); refine wpList_store_blk (o := ⟨none, _, _, _, _, _⟩) (hg0) (by rfl) _ _ _ (by rfl) (by rfl) (msgc zeroHd (.slice none 0 0)) (by rfl) (sizeMsg) (msgc_size _ _) (msgc_size _ _) (msgc_one _ _ rfl) ?_; intro w9 h9 hu9)
            | fail)
          refine bodyPost_ret (results_row_tmp (by rfl) _ _ g0 _ _ _ (by rfl) h9 Tryd.underlying38 (by rfl) (by rw [msgc_size]; exact sizeMsg)) rfl ⟨_, by rw [hrd.out]; rfl, ⟨[], by rw [hrd.out]; exact OwnsC.nil _ _ _ _⟩, hB6.out.upd hu9 HGE.out⟩
end Go.Proofs.YtfoegmjpfkmggaaDoor

/- What a slot's header is: what the program tells. Conditions: the bytes can be read; the slot is one. -/
namespace Go.Proofs.YtfoegmjpfkmggaaDoor
open Go.RowKit
set_option maxRecDepth 100000 in
set_option maxHeartbeats 4000000 in
theorem shead_any (A : Option Addr) (n c : Nat) (raw : List UInt8) (k : Int) (hk : 0 ≤ k ∧ k < 16) (hn : n = raw.length) (hc : n ≤ c) (hc2 : c ≤ 9223372036854775807) (w : World) (hby : Bytes w A raw) :
    Calls Tryd.prog 52 #[.slice A n c, .int .i64 k] w fun e w' => e = .returned (.tuple #[.agg (hdc (Slot.kind raw k).2), .int .i64 (Slot.kind raw k).1]) ∧ Below w.heap.size w w' := by
  have hg0 := (Blk.new w 35 #[.int .i64 0, .int .i64 0, .int .i64 0, .int .i64 0, .int .i64 0, .int .i64 0, .int .i64 0, .int .i64 0, .int .i64 0, .int .u64 0, .int .u64 0, .int .i64 0, .int .i64 0, .int .u64 0, .int .i64 0, .int .i64 0]).sub zeroHd_cells.symm
  have hB0 := Lib.hid ((Below.refl w.heap.size w).alloc (Nat.le_refl _) (.cells #[.int .i64 0, .int .i64 0, .int .i64 0, .int .i64 0, .int .i64 0, .int .i64 0, .int .i64 0, .int .i64 0, .int .i64 0, .int .u64 0, .int .u64 0, .int .i64 0, .int .i64 0, .int .u64 0, .int .i64 0, .int .i64 0] 35))
  have HNN := Lib.hid (And.intro hn (And.intro hc (And.intro hc2 hk)))
  clear hn hc hc2 hk
  go_enter Tryd.func52, Tryd.ntmps52
  go_wp2_with fail
  generalize hw1 : w.alloc (.cells #[.int .i64 0, .int .i64 0, .int .i64 0, .int .i64 0, .int .i64 0, .int .i64 0, .int .i64 0, .int .i64 0, .int .i64 0, .int .u64 0, .int .u64 0, .int .i64 0, .int .i64 0, .int .u64 0, .int .i64 0, .int .i64 0] 35) = w1 at hg0 hB0 ⊢
  clear hw1
  obtain ⟨g0, hgn⟩ : ∃ g0, g0 = w.heap.size := ⟨_, rfl⟩
  have HGE : Hid (w.heap.size ≤ g0) := Lib.hid (by omega)
  rw [← hgn] at hg0 ⊢
  clear hgn
  have hT := Bytes.below hby hB0.out
  refine (hhead_any A n c raw HNN.out.1 HNN.out.2.1 HNN.out.2.2.1 w1 hT).mono ?_
  rintro e w2 ⟨rfl, hbx⟩
  (replace hg0 := keep hbx hg0)
  have hB2 := Lib.hid (hB0.out.trans (hbx.mono hB0.out.size))
  clear hB0 hbx hT
  have h2 := (Blk.new w2 35 #[.int .i64 0, .int .i64 0, .int .i64 0, .int .i64 0, .int .i64 0, .int .i64 0, .int .i64 0, .int .i64 0, .int .i64 0, .int .u64 0, .int .u64 0, .int .i64 0, .int .i64 0, .int .u64 0, .int .i64 0, .int .i64 0]).sub zeroHd_cells.symm
  have hbx := Lib.hid ((Below.refl w2.heap.size w2).alloc (Nat.le_refl _) (.cells #[.int .i64 0, .int .i64 0, .int .i64 0, .int .i64 0, .int .i64 0, .int .i64 0, .int .i64 0, .int .i64 0, .int .i64 0, .int .u64 0, .int .u64 0, .int .i64 0, .int .i64 0, .int .u64 0, .int .i64 0, .int .i64 0] 35))
  obtain ⟨F, hH⟩ : ∃ f, f = (Hd.read raw).2 := ⟨_, rfl⟩
  obtain ⟨er, hE⟩ : ∃ f, f = (Hd.read raw).1 := ⟨_, rfl⟩
  rw [← hH, ← hE]
  have HHE := Lib.hid (And.intro hH hE)
  clear hH hE
  have hb2 := hB2.out.size
  have hgl := hg0.lt
  go_wp2_with (first
    | ((with_reducible show wpList _ _ _ ((⟨none, _, _, _, _, _⟩ : Oper) :: _) _ _); refine wpList_store_blk (o := ⟨none, _, _, _, _, _⟩) (h2) (by rfl) _ _ _ (by rfl) (by rfl) (hdc F) (by rfl) (sizeHd) (hdc_size _) (hdc_size _) (hdc_one _) ?_; intro w3 h3 hu3; have hx3 := hbx.out.upd hu3 (Nat.le_refl _); (replace hg0 := keep hx3 hg0); clear h2 hu3; have hB3 := Lib.hid (hB2.out.trans (hx3.mono hB2.out.size)); clear hx3 hbx hB2)
    | fail)
  refine (sunw_any k w3).mono ?_
  rintro e w4 ⟨E, rfl, hE, hEg, hEn, hEl, hbx⟩
  (replace hg0 := keep hbx hg0; replace h3 := keep hbx h3)
  have hB4 := Lib.hid (hB3.out.trans (hbx.mono hB3.out.size))
  have hT := Bytes.below hby hB4.out
  clear hbx hB3 hEg hgl hb2
  have hgl := hg0.lt
  obtain ⟨A4, n4, l4⟩ := E
  dsimp only at hEn hEl
  subst hEn
  have hun : Slot.unw k = (0, Hd.bytes (Slot.fU k) []) := by unfold Slot.unw; rw [if_neg (by have := HNN.out.2.2.2; omega)]
  rw [hun] at hEl ⊢
  dsimp only at hEl
  clear hun
  have hEb : Bytes w4 A4 l4 := Ent.Is.bytes hE
  have HEL := Lib.hid hEl
  clear hE hEl
  dsimp only [Ent.val]
  by_cases h0 : er = 0
  case neg =>
    have hrd : Hid (Slot.kind raw k = (0, Hd.none_)) := Lib.hid (Slot.kind_broken (by rw [← HHE.out.2]; exact h0))
    have hc0 : (er != 0) = true := by rw [bne_iff_ne]; exact h0
    clear h0 h3 hEb hT
    go_wp2_with (first
      | ((with_reducible show wpList _ _ _ ((⟨none, _, _, _, _, _⟩ : Oper) :: _) _ _); refine wpList_store_blk (o := ⟨none, _, _, _, _, _⟩) (hg0) (by rfl) _ _ _ (by rfl) (by rfl) (hdc zeroHd) (by rfl) (sizeHd) (hdc_size _) (hdc_size _) (hdc_one _) ?_; intro w9 h9 hu9)
      | fail)
    refine bodyPost_ret (results_row_tmp (by rfl) _ _ g0 _ _ _ (by rfl) h9 Tryd.underlying35 (by rfl) (by rw [hdc_size]; exact sizeHd)) rfl ⟨by rw [hrd.out]; rfl, hB4.out.upd hu9 HGE.out⟩
  subst h0
  have hread : Hid (Hd.read raw = (0, Hd.parse raw) ∧ F = Hd.parse raw) := Lib.hid (by
    rcases Hd.read_cases raw with (hx | hx) | ⟨hx, -⟩
    · have h := HHE.out.2; rw [hx] at h; simp at h
    · have h := HHE.out.2; rw [hx] at h; simp at h
    · exact ⟨hx, by rw [HHE.out.1, hx]⟩)
  go_wp2_with fail
  refine (bytesEqual_any A A4 n l4.length c l4.length raw l4 HNN.out.1 rfl w4 hT hEb).mono ?_
  rintro e w5 ⟨rfl, hw5⟩
  rw [← hw5] at hg0 h3 hB4
  clear hw5 hT hEb hgl
  have hgl := hg0.lt
  have hB5 := hB4
  clear hB4
  by_cases heq : raw = l4
  · have hrd : Hid (Slot.kind raw k = (1, Hd.none_)) := Lib.hid (by unfold Slot.kind; rw [if_neg (by rw [hread.out.1]; simp), if_pos (by rw [heq, HEL.out])])
    rw [decide_eq_true heq]
    clear heq h3
    go_wp2_with (first
      | ((with_reducible show wpList _ _ _ ((⟨none, _, _, _, _, _⟩ : Oper) :: _) _ _); refine wpList_store_blk (o := ⟨none, _, _, _, _, _⟩) (hg0) (by rfl) _ _ _ (by rfl) (by rfl) (hdc zeroHd) (by rfl) (sizeHd) (hdc_size _) (hdc_size _) (hdc_one _) ?_; intro w9 h9 hu9)
      | fail)
    refine bodyPost_ret (results_row_tmp (by rfl) _ _ g0 _ _ _ (by rfl) h9 Tryd.underlying35 (by rfl) (by rw [hdc_size]; exact sizeHd)) rfl ⟨by rw [hrd.out]; rfl, hB5.out.upd hu9 HGE.out⟩
  have hne : Hid (raw ≠ l4) := Lib.hid heq
  rw [decide_eq_false heq]
  clear heq
  go_wp2_with (first
    | ((with_reducible show wpList _ _ _ ((⟨some 30, _, _, _, _, _⟩ : Oper) :: _) _ _); refine wpList_load_blk (o := ⟨some 30, _, _, _, _, _⟩) (h3) (by rfl) _ _ (by rfl) (by rfl) _ Tryd.underlying35 (by rfl) (sizeHd) (hdc_size _) ?_)
    | fail)
  refine (sis_any F k w5).mono ?_
  rintro e w6 ⟨rfl, hbx⟩
  (replace hg0 := keep hbx hg0; replace h3 := keep hbx h3)
  have hB6 := Lib.hid (hB5.out.trans (hbx.mono hB5.out.size))
  have hgl := hg0.lt
  clear hbx hB5
  have hB5 := hB6
  clear hB6
  have hgl := hg0.lt
  have hkd : Hid (Slot.kind raw k = if Slot.is F k = true then (2, F) else (0, Hd.none_)) := Lib.hid (by
    unfold Slot.kind
    rw [if_neg (by rw [hread.out.1]; simp), if_neg (by rw [← HEL.out]; exact hne.out), ← hread.out.2])
  obtain ⟨q, hq⟩ : ∃ q, q = Slot.is F k := ⟨_, rfl⟩
  rw [← hq]
  have HQ := Lib.hid hq
  clear hq
  cases q
  · have hrd : Hid (Slot.kind raw k = (0, Hd.none_)) := Lib.hid (by rw [hkd.out, ← HQ.out]; rfl)
    clear h3
    go_wp2_with (first
      | ((with_reducible show wpList _ _ _ ((⟨none, _, _, _, _, _⟩ : Oper) :: _) _ _); refine wpList_store_blk (o := ⟨none, _, _, _, _, _⟩) (hg0) (by rfl) _ _ _ (by rfl) (by rfl) (hdc zeroHd) (by rfl) (sizeHd) (hdc_size _) (hdc_size _) (hdc_one _) ?_; intro w9 h9 hu9)
      | fail)
    refine bodyPost_ret (results_row_tmp (by rfl) _ _ g0 _ _ _ (by rfl) h9 Tryd.underlying35 (by rfl) (by rw [hdc_size]; exact sizeHd)) rfl ⟨by rw [hrd.out]; rfl, hB5.out.upd hu9 HGE.out⟩
  · have hrd : Hid (Slot.kind raw k = (2, F)) := Lib.hid (by rw [hkd.out, ← HQ.out]; rfl)
    go_wp2_with (first
      | ((with_reducible show wpList _ _ _ ((⟨some 33, _, _, _, _, _⟩ : Oper) :: _) _ _); refine wpList_load_blk (o := ⟨some 33, _, _, _, _, _⟩) (h3) (by rfl) _ _ (by rfl) (by rfl) _ Tryd.underlying35 (by rfl) (sizeHd) (hdc_size _) ?_)
      | ((with_reducible show wpList _ _ _ ((⟨none, _, _, _, _, _⟩ : Oper) :: _) _ _); refine wpList_store_blk (o := ⟨none, _, _, _, _, _⟩) (hg0) (by rfl) _ _ _ (by rfl) (by rfl) (hdc F) (by rfl) (sizeHd) (hdc_size _) (hdc_size _) (hdc_one _) ?_; intro w9 h9 hu9)
      | fail)
    refine bodyPost_ret (results_row_tmp (by rfl) _ _ g0 _ _ _ (by rfl) h9 Tryd.underlying35 (by rfl) (by rw [hdc_size]; exact sizeHd)) rfl ⟨by rw [hrd.out]; rfl, hB5.out.upd hu9 HGE.out⟩
end Go.Proofs.YtfoegmjpfkmggaaDoor

/- bytes.Trim of noughts: nothing is left just where all bytes are noughts. Condition: the bytes can be read. -/
namespace Go.Proofs.YtfoegmjpfkmggaaDoor
open Go.RowKit
def LenOf (v : Value) : Nat := match v with | .slice _ m _ => m | _ => 0
def TrimR (w : World) (A : Option Addr) (c : Nat) (l : List UInt8) (v : Value) (wr : World) : Prop :=
  ∃ m : Nat, v = .slice A m c ∧ m ≤ l.length ∧ (∀ i, m ≤ i → i < l.length → l.getD i 0 = 0) ∧ wr = w
set_option maxHeartbeats 1000000 in
theorem trimRight_any (A : Option Addr) (n c : Nat) (l : List UInt8) (hn : n = l.length) (hc : l.length ≤ c ∧ l.length ≤ 140737488351232) (w : World) (hb : Bytes w A l) :
    Calls Tryd.prog 63 #[.slice A n c, .int .u8 0] w fun e w' => ∃ m : Nat, e = .returned (.slice A m c) ∧ m ≤ l.length ∧ (∀ i, m ≤ i → i < l.length → l.getD i 0 = 0) ∧ (0 < m → l.getD (m - 1) 0 ≠ 0) ∧ w' = w := by
  subst hn
  have HC := Lib.hid hc
  clear hc
  go_enter Tryd.func63, Tryd.ntmps63
  go_wp2
  go_loopw [0] (fun v wr => TrimR w A c l v wr) (fun v _ => LenOf v)
  case atStart => exact ⟨l.length, rfl, Nat.le_refl _, fun i h1 h2 => by omega, rfl⟩
  case round =>
    obtain ⟨m, rfl, hm, hz, hwr⟩ := hrel
    subst hwr
    have HZ := Lib.hid hz
    clear hz
    by_cases h0 : m = 0
    · subst h0
      go_wp2
      go_ret
      exact ⟨0, rfl, by omega, HZ.out, fun h => by omega, rfl⟩
    · obtain ⟨p, rfl⟩ : ∃ p, m = p + 1 := ⟨m - 1, by omega⟩
      obtain ⟨b, off, rfl, hlt, hcell⟩ := hb.at_ (by omega)
      have d0 := hcell p (by omega)
      clear hcell hb
      have hpc : p + 1 ≤ c := by have := HC.out; omega
      have hpb : p + 1 ≤ 140737488351232 := by have := HC.out; omega
      have hgt : decide (((p + 1 : Nat) : Int) > 0) = true := by rw [decide_eq_true_eq]; omega
      obtain ⟨x, hx⟩ : ∃ x, x = l.getD p 0 := ⟨_, rfl⟩
      rw [← hx] at d0
      have HX := Lib.hid hx
      clear hx
      by_cases hx0 : x = 0
      · have e0 : iu8 x = 0 := by rw [hx0]; rfl
        rw [e0] at d0
        clear e0
        go_wp2
        go_roundw
        case rel =>
          refine ⟨p, rfl, by omega, fun i h1 h2 => ?_, rfl⟩
          by_cases h3 : i = p
          · rw [h3, ← HX.out, hx0]
          · exact HZ.out i (by omega) h2
        case measure => simp [LenOf]
      · have e0 : (iu8 x == 0) = false := by
          rw [beq_eq_false_iff_ne]; intro e; exact hx0 (iu8_inj (by rw [e]; rfl))
        go_wp2
        go_ret
        exact ⟨p + 1, rfl, by omega, HZ.out, fun _ => by rw [Nat.add_sub_cancel, ← HX.out]; exact hx0, rfl⟩
def TrimL (w : World) (l : List UInt8) (v : Value) (wr : World) : Prop :=
  ∃ (A : Option Addr) (c : Nat) (k : List UInt8), v = .slice A k.length c ∧ k.length ≤ c ∧ Bytes w A k ∧ (∃ z, l = List.replicate z 0 ++ k) ∧ wr = w
set_option maxHeartbeats 1000000 in
theorem trimLeft_any (A : Option Addr) (n c : Nat) (l : List UInt8) (hn : n = l.length) (hc : l.length ≤ c ∧ l.length ≤ 140737488351232) (w : World) (hb : Bytes w A l) :
    Calls Tryd.prog 62 #[.slice A n c, .int .u8 0] w fun e w' => ∃ (A2 : Option Addr) (m c2 : Nat), e = .returned (.slice A2 m c2) ∧ (m = 0 ↔ l.all (· == 0) = true) ∧ w' = w := by
  subst hn
  have HC := Lib.hid hc
  clear hc
  go_enter Tryd.func62, Tryd.ntmps62
  go_wp2
  go_loopw [0] (fun v wr => TrimL w l v wr) (fun v _ => LenOf v)
  case atStart => exact ⟨A, c, l, rfl, HC.out.1, hb, ⟨0, rfl⟩, rfl⟩
  case round =>
    obtain ⟨A2, c2, k, rfl, hm, hb2, hz, hwr⟩ := hrel
    subst hwr
    have hkl : k.length ≤ 140737488351232 := by obtain ⟨z, e⟩ := hz; have := congrArg List.length e; rw [List.length_append] at this; have := HC.out; omega
    have HZ := Lib.hid hz
    clear hz
    cases k with
    | nil =>
      go_wp2
      go_ret
      refine ⟨none, 0, 0, rfl, ?_, rfl⟩
      obtain ⟨z, e⟩ := HZ.out
      rw [e]; simp
    | cons x t =>
      have hgt : decide ((((x :: t).length : Nat) : Int) > 0) = true := by rw [decide_eq_true_eq]; simp
      obtain ⟨m, hml⟩ : ∃ m, m = (x :: t).length := ⟨_, rfl⟩
      have hm1 : 1 ≤ m := by rw [hml]; simp
      have hcut := Lib.hid hb2
      obtain ⟨b, off, rfl, hlt, hcell⟩ := hb2.at_ (by simp)
      have d0 := hcell 0 (by simp)
      rw [Nat.add_zero, show (x :: t).getD 0 0 = x from rfl] at d0
      rw [← hml] at hgt hm hkl ⊢
      have HML := Lib.hid hml
      clear hml hcell hb2 hb
      by_cases hx0 : x = 0
      · have e0 : iu8 x = 0 := by rw [hx0]; rfl
        rw [e0] at d0
        clear e0
        go_wp2_with (first
          | ((with_reducible show wpList _ _ _ ((⟨some 16, _, _, _, _, _⟩ : Oper) :: _) _ _); refine wpList_cut_bytes (o := ⟨some 16, _, _, _, _, _⟩) (by rfl) _ _ _ (by rfl) _ Tryd.underlying36 size1 (some ⟨b, off, none⟩) (m) (c2) .i64 (1) (by rfl) (by rfl) (x :: t) (HML.out) (hm1) (hm) (hcut.out) ?_; intro A3 hb3 _)
          | fail)
        go_roundw
        case rel =>
          refine ⟨A3, c2 - 1, t, rfl, ?_, hb3, ?_, rfl⟩
          · have := HML.out; simp at this; omega
          · obtain ⟨z, e⟩ := HZ.out
            refine ⟨z + 1, ?_⟩
            rw [e, hx0, List.replicate_succ', List.append_assoc]; rfl
        case measure => have := HML.out; simp [LenOf] at this ⊢; omega
      · have e0 : (iu8 x == 0) = false := by
          rw [beq_eq_false_iff_ne]; intro e; exact hx0 (iu8_inj (by rw [e]; rfl))
        have hm0 : ((m : Int) == 0) = false := by rw [beq_eq_false_iff_ne]; omega
        go_wp2
        go_ret
        refine ⟨some ⟨b, off, none⟩, m, c2, rfl, ?_, rfl⟩
        obtain ⟨z, e⟩ := HZ.out
        rw [e]
        constructor
        · intro h; omega
        · intro h; simp [hx0] at h
set_option maxRecDepth 100000 in
set_option maxHeartbeats 1000000 in
theorem trim_any (A : Option Addr) (n c : Nat) (l : List UInt8) (hn : n = l.length) (hc : l.length ≤ c ∧ l.length ≤ 140737488351232) (w : World) (hb : Bytes w A l) :
    Calls Tryd.prog 53 #[.slice A n c, .string ⟨#[0]⟩] w fun e w' => ∃ (A2 : Option Addr) (m c2 : Nat), e = .returned (.slice A2 m c2) ∧ (m = 0 ↔ l.all (· == 0) = true) ∧ Below w.heap.size w w' := by
  by_cases h0 : n = 0
  · have hl : l = [] := List.eq_nil_of_length_eq_zero (by omega)
    subst h0 hl
    clear hb hc hn
    go_enter Tryd.func53, Tryd.ntmps53
    go_wp2
    go_ret
    exact ⟨none, 0, 0, rfl, by simp, Below.refl _ _⟩
  · have hz0 : ((n : Int) == 0) = false := by rw [beq_eq_false_iff_ne]; omega
    have HN := Lib.hid (And.intro hn hc)
    clear hn hc h0
    go_enter Tryd.func53, Tryd.ntmps53
    go_wp2
    refine wp_region_tree (Below w.heap.size w) [] (PlanT.takes [0, 1, 2, 4, 5] (.opt 3 (.opt 6 (PlanT.takes [7] .done) .no) .no)) (by kernel_rfl) (by kernel_rfl) ((Below.refl _ _).drew) ?_
    refine wpTree_pure _ _ _ (by rfl) (by rfl) ?_
    dsimp only [List.filterMap, List.getElem?_cons_zero, List.getElem?_cons_succ]
    repeat (go_big_quiet_step (fail))
    refine wpQuiet_nil ?_
    refine wpTree_one _ rfl ?_
    go_wp2_with fail
    refine (trimRight_any A n c l HN.out.1 HN.out.2 w.drew hb).mono ?_
    rintro e w2 ⟨m, rfl, hml, hz, hnz, hw2⟩
    have hC2 : Below w.heap.size w w2 := by rw [hw2]; exact (Below.refl _ _).drew
    have hmb : m ≤ c ∧ m ≤ 140737488351232 := by have := HN.out; omega
    have HZ := Lib.hid (And.intro hml (And.intro hz hnz))
    clear hml hz hnz hw2
    go_wp2_with fail
    refine TreeQ.in_ hC2 ?_
    refine wpTree_one _ rfl ?_
    go_wp2_with fail
    have hlt : (l.take m).length = m := by rw [List.length_take]; have := HZ.out.1; omega
    refine (trimLeft_any A m c (l.take m) hlt.symm (by rw [hlt]; exact hmb) w2 ((Bytes.below hb hC2).take m)).mono ?_
    rintro e w3 ⟨A2, m2, c2, rfl, hm2, hw3⟩
    have hC3 : Below w.heap.size w w3 := by rw [hw3]; exact hC2
    have HM := Lib.hid hm2
    clear hw3 hm2 hC2 hlt hmb
    go_wp2_with fail
    refine TreeQ.in_ hC3 ?_
    refine wpTree_pure _ _ _ (by rfl) (by rfl) ?_
    dsimp only [List.filterMap, List.getElem?_cons_zero, List.getElem?_cons_succ]
    repeat (go_big_quiet_step (fail))
    refine wpQuiet_nil ?_
    refine wpTree_done ?_
    have HC3 := Lib.hid hC3
    clear hC3
    go_wp2
    go_ret
    refine ⟨A2, m2, c2, rfl, HM.out.trans ?_, HC3.out⟩
    obtain ⟨h1, h2, h3⟩ := HZ.out
    have hin := HN.out.1
    constructor
    · intro h
      have hm0 : m = 0 := by
        rcases Nat.eq_zero_or_pos m with h4 | h4
        · exact h4
        · exfalso
          refine h3 h4 ?_
          have h5 : (l.take m)[m - 1]? = some (l.getD (m - 1) 0) := by
            rw [List.getElem?_take_of_lt (by omega), List.getD_eq_getElem?_getD, List.getElem?_eq_getElem (by omega)]; rfl
          have h6 := List.all_eq_true.1 h _ (List.mem_of_getElem? h5)
          simpa using h6
      rw [List.all_eq_true]
      intro x hx
      obtain ⟨i, hi, rfl⟩ := List.getElem_of_mem hx
      have := h2 i (by omega) hi
      rw [List.getD_eq_getElem?_getD, List.getElem?_eq_getElem hi] at this
      simpa using this
    · intro h
      rw [List.all_eq_true] at h ⊢
      exact fun x hx => h x (List.mem_of_mem_take hx)
end Go.Proofs.YtfoegmjpfkmggaaDoor

/- How a slot is by its bytes: what the program tells. Conditions: the bytes can be read; the slot is one. -/
namespace Go.Proofs.YtfoegmjpfkmggaaDoor
open Go.RowKit
def stv (x : Int × Int × Int × Bool) : Value := .agg #[.int .i64 x.1, .int .i64 x.2.1, .int .i64 x.2.2.1, .bool x.2.2.2]
theorem sizeSt : (Tryd.prog.info? 47).map (·.size) = some 4 := by kernel_rfl
theorem st_one (a b c : Int) (d : Bool) : (#[Value.int .i64 a, .int .i64 b, .int .i64 c, .bool d] : Array Value).all (·.oneCell') = true := by simp [Value.oneCell']
theorem Slot.kind_cases (b : List UInt8) (k : Int) : (Slot.kind b k).1 = 0 ∨ (Slot.kind b k).1 = 1 ∨ (Slot.kind b k).1 = 2 := by
  unfold Slot.kind
  by_cases h1 : (Hd.read b).1 ≠ 0
  · rw [if_pos h1]; exact .inl rfl
  rw [if_neg h1]
  by_cases h2 : b = Hd.bytes (Slot.fU k) []
  · rw [if_pos h2]; exact .inr (.inl rfl)
  rw [if_neg h2]
  by_cases h3 : Slot.is (Hd.parse b) k = true
  · rw [if_pos h3]; exact .inr (.inr rfl)
  · rw [if_neg h3]; exact .inl rfl
set_option maxRecDepth 100000 in
set_option maxHeartbeats 4000000 in
theorem judge_any (A B : Option Addr) (n c m d : Nat) (h p : List UInt8) (k : Int) (hk : 0 ≤ k ∧ k < 16) (hn : n = h.length ∧ n ≤ c ∧ c ≤ 9223372036854775807) (hm : m = p.length ∧ m ≤ d ∧ m ≤ 140737488351232 ∧ d ≤ 9223372036854775807) (w : World) (hbh : Bytes w A h) (hbp : Bytes w B p) :
    Calls Tryd.prog 31 #[.slice A n c, .slice B m d, .int .i64 k] w fun e w' => e = .returned (stv (Slot.judge h p k)) ∧ Below w.heap.size w w' := by
  have hg0 := Blk.new w 47 #[.int .i64 0, .int .i64 0, .int .i64 0, .bool false]
  have hB0 := (Below.refl w.heap.size w).alloc (Nat.le_refl _) (.cells #[.int .i64 0, .int .i64 0, .int .i64 0, .bool false] 47)
  have HN := Lib.hid hn
  have HM := Lib.hid hm
  have HK := Lib.hid hk
  have hk1 : decide (k < 0) = false := by rw [decide_eq_false_iff_not]; omega
  have hk2 : decide (k ≥ 16) = false := by rw [decide_eq_false_iff_not]; omega
  clear hn hm hk
  go_enter Tryd.func31, Tryd.ntmps31
  go_wp2_with fail
  generalize w.alloc (.cells #[.int .i64 0, .int .i64 0, .int .i64 0, .bool false] 47) = w1 at hg0 hB0 ⊢
  obtain ⟨g0, hgn⟩ : ∃ g0, g0 = w.heap.size := ⟨_, rfl⟩
  have HGE : Hid (w.heap.size ≤ g0) := Lib.hid (by omega)
  rw [← hgn] at hg0 ⊢
  clear hgn hk1 hk2
  refine (sprep_any B m d p k HM.out.1 HM.out.2.1 HM.out.2.2 w1 (Bytes.below hbp hB0)).mono ?_
  have hlt1 := hg0.lt
  rintro e w2 ⟨V, rfl, ⟨sp2, ho2⟩, hbx⟩
  (replace hg0 := keep hbx hg0)
  have HB2 := Lib.hid (hB0.trans (hbx.mono hB0.size))
  clear hB0 hbx
  obtain ⟨q, hq⟩ : ∃ x, x = (Slot.prep p k).1 := ⟨_, rfl⟩
  obtain ⟨F, hF⟩ : ∃ x, x = (Slot.prep p k).2.1 := ⟨_, rfl⟩
  obtain ⟨D, hD⟩ : ∃ x, x = (Slot.prep p k).2.2 := ⟨_, rfl⟩
  rw [← hD] at ho2
  rw [← hq, ← hF]
  have HPR := Lib.hid (And.intro hq (And.intro hF hD))
  clear hq hF hD
  obtain ⟨V2, vn, vc, rfl⟩ := OwnB.slice ho2
  clear ho2
  have hgl := hg0.lt
  go_wp2_with (first
    | ((with_reducible show wpList _ _ _ ((⟨none, _, _, _, _, _⟩ : Oper) :: _) _ _); refine wpList_store_blk (o := ⟨none, _, _, _, _, _⟩) ((Blk.new w2 38 #[.int .i64 0, .int .i64 0, .int .i64 0, .int .i64 0, .int .i64 0, .int .i64 0, .int .i64 0, .int .i64 0, .int .i64 0, .int .u64 0, .int .u64 0, .int .i64 0, .int .i64 0, .int .u64 0, .int .i64 0, .int .i64 0, .slice none 0 0])) (by rfl) _ _ _ (by rfl) (by rfl) (msgc F (.slice V2 vn vc)) (by rfl) (sizeMsg) (by rfl) (msgc_size _ _) (msgc_one _ _ rfl) ?_; intro w3 h7 hu3; have hbx := ((Below.refl w2.heap.size w2).alloc (Nat.le_refl _) (.cells #[.int .i64 0, .int .i64 0, .int .i64 0, .int .i64 0, .int .i64 0, .int .i64 0, .int .i64 0, .int .i64 0, .int .i64 0, .int .u64 0, .int .u64 0, .int .i64 0, .int .i64 0, .int .u64 0, .int .i64 0, .int .i64 0, .slice none 0 0] 38)).upd hu3 (Nat.le_refl _); (replace hg0 := keep hbx hg0); have HB3 := Lib.hid (HB2.out.trans (hbx.mono HB2.out.size)); clear hbx hu3 HB2)
    | fail)
  have hbh3 := Bytes.below hbh HB3.out
  have hgl := hg0.lt
  have hgl7 := h7.lt
  refine (shead_any A n c h k HK.out HN.out.1 HN.out.2.1 HN.out.2.2 w3 hbh3).mono ?_
  rintro e w4 ⟨rfl, hbx⟩
  (replace hg0 := keep hbx hg0; replace h7 := keep hbx h7)
  have HB4 := Lib.hid (HB3.out.trans (hbx.mono HB3.out.size))
  clear hbx HB3 hbh3
  obtain ⟨kd, hkd⟩ : ∃ x, x = (Slot.kind h k).1 := ⟨_, rfl⟩
  obtain ⟨G, hG⟩ : ∃ x, x = (Slot.kind h k).2 := ⟨_, rfl⟩
  rw [← hkd, ← hG]
  have hkc := Slot.kind_cases h k
  rw [← hkd] at hkc
  have HKD := Lib.hid (And.intro hkd hG)
  clear hkd hG
  have hgl := hg0.lt
  have hgl7 := h7.lt
  have hJ0 := Lib.hid (show Slot.judge h p k = Slot.put (q, F, D) (kd, G) (decide (h = p.take 256)) (p.all (· == 0)) by
    rw [Slot.judge_in h p k HK.out, HPR.out.1, HPR.out.2.1, HPR.out.2.2, HKD.out.1, HKD.out.2])
  go_wp2_with (first
    | ((with_reducible show wpList _ _ _ ((⟨none, _, _, _, _, _⟩ : Oper) :: _) _ _); refine wpList_store_blk (o := ⟨none, _, _, _, _, _⟩) (((Blk.new w4 35 #[.int .i64 0, .int .i64 0, .int .i64 0, .int .i64 0, .int .i64 0, .int .i64 0, .int .i64 0, .int .i64 0, .int .i64 0, .int .u64 0, .int .u64 0, .int .i64 0, .int .i64 0, .int .u64 0, .int .i64 0, .int .i64 0]).sub zeroHd_cells.symm)) (by rfl) _ _ _ (by rfl) (by rfl) (hdc G) (by rfl) (sizeHd) (hdc_size _) (hdc_size _) (hdc_one _) ?_; intro w6 h9x hu6; have hbx := ((Below.refl w4.heap.size w4).alloc (Nat.le_refl _) (.cells #[.int .i64 0, .int .i64 0, .int .i64 0, .int .i64 0, .int .i64 0, .int .i64 0, .int .i64 0, .int .i64 0, .int .i64 0, .int .u64 0, .int .u64 0, .int .i64 0, .int .i64 0, .int .u64 0, .int .i64 0, .int .i64 0] 35)).upd hu6 (Nat.le_refl _); (replace hg0 := keep hbx hg0; replace h7 := keep hbx h7); have HB6 := Lib.hid (HB4.out.trans (hbx.mono HB4.out.size)); clear hbx hu6 HB4)
    | fail)
  generalize w2.heap.size = g7 at h7 hgl7 ⊢
  generalize w4.heap.size = g9 at h9x ⊢
  have hgl7 := h7.lt
  have hgl9 := h9x.lt
  have hgl := hg0.lt
  have hH5 := Bytes.below hbh HB6.out
  have hP5 := (Bytes.below hbp HB6.out).take 256
  rcases hkc with rfl | rfl | rfl
  · cases q
    · have hJ := Lib.hid (show Slot.judge h p k = (3, 0, 0, false) by rw [hJ0.out]; simp [Slot.put])
      refine wp_region_tree (Below w6.heap.size w6) [] (PlanT.takes [0, 1, 2, 3, 4, 5, 6, 8, 9] (PlanT.takes [7, 10] (PlanT.takes [11, 12, 13] .done))) (by kernel_rfl) (by kernel_rfl) ((Below.refl _ _).drew) ?_
      refine wpTree_pure _ _ _ (by rfl) (by rfl) ?_
      dsimp only [List.filterMap, List.getElem?_cons_zero, List.getElem?_cons_succ]
      repeat (go_big_quiet_step (fail))
      refine wpQuiet_nil ?_
      refine wpTree_takeL _ _ _ (by rfl) (by rfl) ((Below.refl _ _).drew) ?_
      dsimp only [List.filterMap, List.getElem?_cons_zero, List.getElem?_cons_succ]
      go_big_quiet_step (fail)
      go_big_quiet_step (fail)
      refine wpQuiet_nil ?_
      refine wpTree_pure _ _ _ (by rfl) (by rfl) ?_
      dsimp only [List.filterMap, List.getElem?_cons_zero, List.getElem?_cons_succ]
      repeat (go_big_quiet_step (fail))
      refine wpQuiet_nil ?_
      refine wpTree_done ?_
      have hC := (Below.refl w6.heap.size w6).drew
      have HB := Lib.hid (HB6.out.trans (hC.mono HB6.out.size))
      (replace hg0 := keep hC hg0; replace h7 := keep hC h7; replace h9x := keep hC h9x)
      clear HB6 hC
      clear h7 h9x hH5 hP5
      go_wp2_with (first
        | ((with_reducible show wpList _ _ _ ((⟨none, _, _, _, _, _⟩ : Oper) :: _) _ _); refine wpList_store_blk (o := ⟨none, _, _, _, _, _⟩) (hg0) (by rfl) _ _ _ (by rfl) (by rfl) (#[.int .i64 3, .int .i64 0, .int .i64 0, .bool false]) (by rfl) (sizeSt) (by rfl) (by rfl) (st_one _ _ _ _) ?_; intro w9 h9 hu9)
        | fail)
      refine bodyPost_ret (results_cell_row (by rfl) _ _ _ _ _ _ _ (by rfl) h9 Tryd.underlying47 (by rfl) sizeSt) rfl ⟨by rw [hJ.out]; rfl, HB.out.upd hu9 HGE.out⟩
    · have hJ := Lib.hid (show Slot.judge h p k = (1, F 5, F 3, true) by rw [hJ0.out]; simp [Slot.put])
      refine wp_region_tree (Below w6.heap.size w6) [] (PlanT.takes [0, 1, 2, 3, 4, 5, 6, 8, 9] (PlanT.takes [7, 10] (PlanT.takes [11, 12, 13] .done))) (by kernel_rfl) (by kernel_rfl) ((Below.refl _ _).drew) ?_
      refine wpTree_pure _ _ _ (by rfl) (by rfl) ?_
      dsimp only [List.filterMap, List.getElem?_cons_zero, List.getElem?_cons_succ]
      repeat (go_big_quiet_step (fail))
      refine wpQuiet_nil ?_
      refine wpTree_takeL _ _ _ (by rfl) (by rfl) ((Below.refl _ _).drew) ?_
      dsimp only [List.filterMap, List.getElem?_cons_zero, List.getElem?_cons_succ]
      go_big_quiet_step (fail)
      go_big_quiet_step (fail)
      refine wpQuiet_nil ?_
      refine wpTree_pure _ _ _ (by rfl) (by rfl) ?_
      dsimp only [List.filterMap, List.getElem?_cons_zero, List.getElem?_cons_succ]
      repeat (go_big_quiet_step (fail))
      refine wpQuiet_nil ?_
      refine wpTree_done ?_
      have hC := (Below.refl w6.heap.size w6).drew
      have HB := Lib.hid (HB6.out.trans (hC.mono HB6.out.size))
      (replace hg0 := keep hC hg0; replace h7 := keep hC h7; replace h9x := keep hC h9x)
      clear HB6 hC
      have d3 := h7.at_ 5 (msgc_at F _ 5 (by omega))
      have d4 := h7.at_ 3 (msgc_at F _ 3 (by omega))
      clear h7 h9x hH5 hP5
      go_wp2_with (first
        | ((with_reducible show wpList _ _ _ ((⟨none, _, _, _, _, _⟩ : Oper) :: _) _ _); refine wpList_store_blk (o := ⟨none, _, _, _, _, _⟩) (hg0) (by rfl) _ _ _ (by rfl) (by rfl) (#[.int .i64 1, .int .i64 (F 5), .int .i64 (F 3), .bool true]) (by rfl) (sizeSt) (by rfl) (by rfl) (st_one _ _ _ _) ?_; intro w9 h9 hu9)
        | fail)
      refine bodyPost_ret (results_cell_row (by rfl) _ _ _ _ _ _ _ (by rfl) h9 Tryd.underlying47 (by rfl) sizeSt) rfl ⟨by rw [hJ.out]; rfl, HB.out.upd hu9 HGE.out⟩
  · cases q
    · have hJ := Lib.hid (show Slot.judge h p k = if p.all (· == 0) = true then (4, 0, 0, false) else (2, 0, 0, false) by rw [hJ0.out]; simp [Slot.put])
      refine wp_region_tree (Below w6.heap.size w6) [] (PlanT.takes [0, 1, 2, 3, 4, 5, 6, 8, 9] (PlanT.takes [7, 10] (PlanT.takes [11, 12, 13] .done))) (by kernel_rfl) (by kernel_rfl) ((Below.refl _ _).drew) ?_
      refine wpTree_pure _ _ _ (by rfl) (by rfl) ?_
      dsimp only [List.filterMap, List.getElem?_cons_zero, List.getElem?_cons_succ]
      repeat (go_big_quiet_step (fail))
      refine wpQuiet_nil ?_
      refine wpTree_takeL _ _ _ (by rfl) (by rfl) ((Below.refl _ _).drew) ?_
      dsimp only [List.filterMap, List.getElem?_cons_zero, List.getElem?_cons_succ]
      go_big_quiet_step (fail)
      go_big_quiet_step (fail)
      refine wpQuiet_nil ?_
      refine wpTree_pure _ _ _ (by rfl) (by rfl) ?_
      dsimp only [List.filterMap, List.getElem?_cons_zero, List.getElem?_cons_succ]
      repeat (go_big_quiet_step (fail))
      refine wpQuiet_nil ?_
      refine wpTree_done ?_
      have hC := (Below.refl w6.heap.size w6).drew
      have HB := Lib.hid (HB6.out.trans (hC.mono HB6.out.size))
      (replace hg0 := keep hC hg0; replace h7 := keep hC h7; replace h9x := keep hC h9x)
      clear HB6 hC
      clear h7 h9x hH5 hP5
      go_wp2_with fail
      have hpw := Bytes.below hbp HB.out
      refine (trim_any B m d p HM.out.1 ⟨by have := HM.out; omega, by have := HM.out; omega⟩ _ hpw).mono ?_
      rintro e w7 ⟨T, tn, tc, rfl, ht, hbx⟩
      have hsz := HB.out.size
      (replace hg0 := keep hbx hg0)
      have HB7 := Lib.hid (HB.out.trans (hbx.mono hsz))
      have HT := Lib.hid ht
      clear hbx HB ht hpw
      have HB := HB7
      by_cases h0 : tn = 0
      · have hJ := Lib.hid (show Slot.judge h p k = (4, 0, 0, false) by rw [hJ.out, if_pos (HT.out.1 h0)])
        subst h0
        go_wp2_with (first
          | ((with_reducible show wpList _ _ _ ((⟨none, _, _, _, _, _⟩ : Oper) :: _) _ _); refine wpList_store_blk (o := ⟨none, _, _, _, _, _⟩) (hg0) (by rfl) _ _ _ (by rfl) (by rfl) (#[.int .i64 4, .int .i64 0, .int .i64 0, .bool false]) (by rfl) (sizeSt) (by rfl) (by rfl) (st_one _ _ _ _) ?_; intro w9 h9 hu9)
          | fail)
        refine bodyPost_ret (results_cell_row (by rfl) _ _ _ _ _ _ _ (by rfl) h9 Tryd.underlying47 (by rfl) sizeSt) rfl ⟨by rw [hJ.out]; rfl, HB.out.upd hu9 HGE.out⟩
      · have hJ := Lib.hid (show Slot.judge h p k = (2, 0, 0, false) by rw [hJ.out, if_neg (fun e => h0 (HT.out.2 e))])
        have hz : ((tn : Int) == 0) = false := by rw [beq_eq_false_iff_ne]; omega
        clear h0
        go_wp2_with (first
          | ((with_reducible show wpList _ _ _ ((⟨none, _, _, _, _, _⟩ : Oper) :: _) _ _); refine wpList_store_blk (o := ⟨none, _, _, _, _, _⟩) (hg0) (by rfl) _ _ _ (by rfl) (by rfl) (#[.int .i64 2, .int .i64 0, .int .i64 0, .bool false]) (by rfl) (sizeSt) (by rfl) (by rfl) (st_one _ _ _ _) ?_; intro w9 h9 hu9)
          | fail)
        refine bodyPost_ret (results_cell_row (by rfl) _ _ _ _ _ _ _ (by rfl) h9 Tryd.underlying47 (by rfl) sizeSt) rfl ⟨by rw [hJ.out]; rfl, HB.out.upd hu9 HGE.out⟩
    · have hJ := Lib.hid (show Slot.judge h p k = (1, F 5, F 3, true) by rw [hJ0.out]; simp [Slot.put])
      refine wp_region_tree (Below w6.heap.size w6) [] (PlanT.takes [0, 1, 2, 3, 4, 5, 6, 8, 9] (PlanT.takes [7, 10] (PlanT.takes [11, 12, 13] .done))) (by kernel_rfl) (by kernel_rfl) ((Below.refl _ _).drew) ?_
      refine wpTree_pure _ _ _ (by rfl) (by rfl) ?_
      dsimp only [List.filterMap, List.getElem?_cons_zero, List.getElem?_cons_succ]
      repeat (go_big_quiet_step (fail))
      refine wpQuiet_nil ?_
      refine wpTree_takeL _ _ _ (by rfl) (by rfl) ((Below.refl _ _).drew) ?_
      dsimp only [List.filterMap, List.getElem?_cons_zero, List.getElem?_cons_succ]
      go_big_quiet_step (fail)
      go_big_quiet_step (fail)
      refine wpQuiet_nil ?_
      refine wpTree_pure _ _ _ (by rfl) (by rfl) ?_
      dsimp only [List.filterMap, List.getElem?_cons_zero, List.getElem?_cons_succ]
      repeat (go_big_quiet_step (fail))
      refine wpQuiet_nil ?_
      refine wpTree_done ?_
      have hC := (Below.refl w6.heap.size w6).drew
      have HB := Lib.hid (HB6.out.trans (hC.mono HB6.out.size))
      (replace hg0 := keep hC hg0; replace h7 := keep hC h7; replace h9x := keep hC h9x)
      clear HB6 hC
      have d3 := h7.at_ 5 (msgc_at F _ 5 (by omega))
      have d4 := h7.at_ 3 (msgc_at F _ 3 (by omega))
      clear h7 h9x hH5 hP5
      go_wp2_with (first
        | ((with_reducible show wpList _ _ _ ((⟨none, _, _, _, _, _⟩ : Oper) :: _) _ _); refine wpList_store_blk (o := ⟨none, _, _, _, _, _⟩) (hg0) (by rfl) _ _ _ (by rfl) (by rfl) (#[.int .i64 1, .int .i64 (F 5), .int .i64 (F 3), .bool true]) (by rfl) (sizeSt) (by rfl) (by rfl) (st_one _ _ _ _) ?_; intro w9 h9 hu9)
        | fail)
      refine bodyPost_ret (results_cell_row (by rfl) _ _ _ _ _ _ _ (by rfl) h9 Tryd.underlying47 (by rfl) sizeSt) rfl ⟨by rw [hJ.out]; rfl, HB.out.upd hu9 HGE.out⟩
  · cases q
    · have hJ := Lib.hid (show Slot.judge h p k = (3, G 5, G 3, false) by rw [hJ0.out]; simp [Slot.put])
      refine wp_region_tree (Below w6.heap.size w6) [] (PlanT.takes [0, 1, 2, 3, 4, 5, 6, 8, 9] (PlanT.takes [7, 10] (PlanT.takes [11, 12, 13] .done))) (by kernel_rfl) (by kernel_rfl) ((Below.refl _ _).drew) ?_
      refine wpTree_pure _ _ _ (by rfl) (by rfl) ?_
      dsimp only [List.filterMap, List.getElem?_cons_zero, List.getElem?_cons_succ]
      repeat (go_big_quiet_step (fail))
      refine wpQuiet_nil ?_
      refine wpTree_takeL _ _ _ (by rfl) (by rfl) ((Below.refl _ _).drew) ?_
      dsimp only [List.filterMap, List.getElem?_cons_zero, List.getElem?_cons_succ]
      go_big_quiet_step (fail)
      go_big_quiet_step (fail)
      refine wpQuiet_nil ?_
      refine wpTree_pure _ _ _ (by rfl) (by rfl) ?_
      dsimp only [List.filterMap, List.getElem?_cons_zero, List.getElem?_cons_succ]
      repeat (go_big_quiet_step (fail))
      refine wpQuiet_nil ?_
      refine wpTree_done ?_
      have hC := (Below.refl w6.heap.size w6).drew
      have HB := Lib.hid (HB6.out.trans (hC.mono HB6.out.size))
      (replace hg0 := keep hC hg0; replace h7 := keep hC h7; replace h9x := keep hC h9x)
      clear HB6 hC
      have d3 := h9x.at_ 5 (hdc_at9 G 5 (by omega))
      have d4 := h9x.at_ 3 (hdc_at9 G 3 (by omega))
      clear h7 h9x hH5 hP5
      go_wp2_with (first
        | ((with_reducible show wpList _ _ _ ((⟨none, _, _, _, _, _⟩ : Oper) :: _) _ _); refine wpList_store_blk (o := ⟨none, _, _, _, _, _⟩) (hg0) (by rfl) _ _ _ (by rfl) (by rfl) (#[.int .i64 3, .int .i64 (G 5), .int .i64 (G 3), .bool false]) (by rfl) (sizeSt) (by rfl) (by rfl) (st_one _ _ _ _) ?_; intro w9 h9 hu9)
        | fail)
      refine bodyPost_ret (results_cell_row (by rfl) _ _ _ _ _ _ _ (by rfl) h9 Tryd.underlying47 (by rfl) sizeSt) rfl ⟨by rw [hJ.out]; rfl, HB.out.upd hu9 HGE.out⟩
    · have HPL := Lib.hid (show 256 = (p.take 256).length by
        obtain ⟨s, hs, _⟩ := Slot.prep_ok p k HPR.out.1.symm
        rw [List.length_take]; omega)
      have hd256 : 256 ≤ m ∧ 256 ≤ d := by
        obtain ⟨s, hs, _⟩ := Slot.prep_ok p k HPR.out.1.symm
        have := HM.out; omega
      obtain ⟨hd1, hd2⟩ := hd256
      by_cases hs : h = p.take 256
      · have hJ := Lib.hid (show Slot.judge h p k = (1, F 5, F 3, false) by rw [hJ0.out]; simp [Slot.put, hs])
        have hSb := str_beq h (p.take 256)
        rw [decide_eq_true hs] at hSb
        clear hs
        refine wp_region_tree (Below w6.heap.size w6) [] (PlanT.takes [0, 1, 2, 3, 4, 5, 6, 8, 9] (PlanT.takes [7, 10] (PlanT.takes [11, 12, 13] .done))) (by kernel_rfl) (by kernel_rfl) ((Below.refl _ _).drew) ?_
        refine wpTree_pure _ _ _ (by rfl) (by rfl) ?_
        dsimp only [List.filterMap, List.getElem?_cons_zero, List.getElem?_cons_succ]
        repeat (go_big_quiet_step (fail))
        refine wpQuiet_nil ?_
        refine wpTree_takeL _ _ _ (by rfl) (by rfl) ((Below.refl _ _).drew) ?_
        dsimp only [List.filterMap, List.getElem?_cons_zero, List.getElem?_cons_succ]
        (refine wpQuiet_want' (by rfl) ?_; refine wpQuiet_convert_str (by rfl) 36 9 5 _ (by rfl) Tryd.underlying36 Tryd.underlying5 Tryd.underlying9 (A) (n) (c) (h) (by rfl) (HN.out.1) (fun w' hw' => Bytes.below hH5 hw') ?_; simp only [Act.put, List.setIfInBounds_toArray, List.set_cons_zero, List.set_cons_succ])
        (refine wpQuiet_want' (by rfl) ?_; refine wpQuiet_convert_str (by rfl) 36 9 5 _ (by rfl) Tryd.underlying36 Tryd.underlying5 Tryd.underlying9 (B) (256) (d) (p.take 256) (by rfl) (HPL.out) (fun w' hw' => Bytes.below hP5 hw') ?_; simp only [Act.put, List.setIfInBounds_toArray, List.set_cons_zero, List.set_cons_succ])
        refine wpQuiet_nil ?_
        refine wpTree_pure _ _ _ (by rfl) (by rfl) ?_
        dsimp only [List.filterMap, List.getElem?_cons_zero, List.getElem?_cons_succ]
        repeat (go_big_quiet_step (fail))
        refine wpQuiet_nil ?_
        refine wpTree_done ?_
        have hC := (Below.refl w6.heap.size w6).drew
        have HB := Lib.hid (HB6.out.trans (hC.mono HB6.out.size))
        (replace hg0 := keep hC hg0; replace h7 := keep hC h7; replace h9x := keep hC h9x)
        clear HB6 hC
        have d3 := h7.at_ 5 (msgc_at F _ 5 (by omega))
        have d4 := h7.at_ 3 (msgc_at F _ 3 (by omega))
        clear h7 h9x hH5 hP5
        go_wp2_with (first
          | ((with_reducible show wpList _ _ _ ((⟨none, _, _, _, _, _⟩ : Oper) :: _) _ _); refine wpList_store_blk (o := ⟨none, _, _, _, _, _⟩) (hg0) (by rfl) _ _ _ (by rfl) (by rfl) (#[.int .i64 1, .int .i64 (F 5), .int .i64 (F 3), .bool false]) (by rfl) (sizeSt) (by rfl) (by rfl) (st_one _ _ _ _) ?_; intro w9 h9 hu9)
          | fail)
        refine bodyPost_ret (results_cell_row (by rfl) _ _ _ _ _ _ _ (by rfl) h9 Tryd.underlying47 (by rfl) sizeSt) rfl ⟨by rw [hJ.out]; rfl, HB.out.upd hu9 HGE.out⟩
      · have hJ1 := Lib.hid (show Slot.judge h p k = if (decide (G 5 < F 5) || (G 5 == F 5 && decide (G 3 < F 3))) = true then (1, F 5, F 3, true) else (3, G 5, G 3, false) by rw [hJ0.out]; simp [Slot.put, hs])
        have hSb := str_beq h (p.take 256)
        rw [decide_eq_false hs] at hSb
        clear hs
        refine wp_region_tree (Below w6.heap.size w6) [] (PlanT.takes [0, 1, 2, 3, 4, 5, 6, 8, 9] (PlanT.takes [7, 10] (PlanT.takes [11, 12, 13] .done))) (by kernel_rfl) (by kernel_rfl) ((Below.refl _ _).drew) ?_
        refine wpTree_pure _ _ _ (by rfl) (by rfl) ?_
        dsimp only [List.filterMap, List.getElem?_cons_zero, List.getElem?_cons_succ]
        repeat (go_big_quiet_step (fail))
        refine wpQuiet_nil ?_
        refine wpTree_takeL _ _ _ (by rfl) (by rfl) ((Below.refl _ _).drew) ?_
        dsimp only [List.filterMap, List.getElem?_cons_zero, List.getElem?_cons_succ]
        (refine wpQuiet_want' (by rfl) ?_; refine wpQuiet_convert_str (by rfl) 36 9 5 _ (by rfl) Tryd.underlying36 Tryd.underlying5 Tryd.underlying9 (A) (n) (c) (h) (by rfl) (HN.out.1) (fun w' hw' => Bytes.below hH5 hw') ?_; simp only [Act.put, List.setIfInBounds_toArray, List.set_cons_zero, List.set_cons_succ])
        (refine wpQuiet_want' (by rfl) ?_; refine wpQuiet_convert_str (by rfl) 36 9 5 _ (by rfl) Tryd.underlying36 Tryd.underlying5 Tryd.underlying9 (B) (256) (d) (p.take 256) (by rfl) (HPL.out) (fun w' hw' => Bytes.below hP5 hw') ?_; simp only [Act.put, List.setIfInBounds_toArray, List.set_cons_zero, List.set_cons_succ])
        refine wpQuiet_nil ?_
        refine wpTree_pure _ _ _ (by rfl) (by rfl) ?_
        dsimp only [List.filterMap, List.getElem?_cons_zero, List.getElem?_cons_succ]
        repeat (go_big_quiet_step (fail))
        refine wpQuiet_nil ?_
        refine wpTree_done ?_
        have hC := (Below.refl w6.heap.size w6).drew
        have HB := Lib.hid (HB6.out.trans (hC.mono HB6.out.size))
        (replace hg0 := keep hC hg0; replace h7 := keep hC h7; replace h9x := keep hC h9x)
        clear HB6 hC
        have d1 := h9x.at_ 5 (hdc_at9 G 5 (by omega))
        have d2 := h9x.at_ 3 (hdc_at9 G 3 (by omega))
        have d3 := h7.at_ 5 (msgc_at F _ 5 (by omega))
        have d4 := h7.at_ 3 (msgc_at F _ 3 (by omega))
        clear h7 h9x hH5 hP5 hSb hd1 hd2
        cases h1 : decide (G 5 < F 5)
        · cases h2 : (G 5 == F 5)
          · have hJ := Lib.hid (show Slot.judge h p k = (3, G 5, G 3, false) by rw [hJ1.out, h1, h2]; rfl)
            go_wp2_with (first
              | ((with_reducible show wpList _ _ _ ((⟨none, _, _, _, _, _⟩ : Oper) :: _) _ _); refine wpList_store_blk (o := ⟨none, _, _, _, _, _⟩) (hg0) (by rfl) _ _ _ (by rfl) (by rfl) (#[.int .i64 3, .int .i64 (G 5), .int .i64 (G 3), .bool false]) (by rfl) (sizeSt) (by rfl) (by rfl) (st_one _ _ _ _) ?_; intro w9 h9 hu9)
              | fail)
            refine bodyPost_ret (results_cell_row (by rfl) _ _ _ _ _ _ _ (by rfl) h9 Tryd.underlying47 (by rfl) sizeSt) rfl ⟨by rw [hJ.out]; rfl, HB.out.upd hu9 HGE.out⟩
          · cases h3 : decide (G 3 < F 3)
            · have hJ := Lib.hid (show Slot.judge h p k = (3, G 5, G 3, false) by rw [hJ1.out, h1, h2, h3]; rfl)
              go_wp2_with (first
                | ((with_reducible show wpList _ _ _ ((⟨none, _, _, _, _, _⟩ : Oper) :: _) _ _); refine wpList_store_blk (o := ⟨none, _, _, _, _, _⟩) (hg0) (by rfl) _ _ _ (by rfl) (by rfl) (#[.int .i64 3, .int .i64 (G 5), .int .i64 (G 3), .bool false]) (by rfl) (sizeSt) (by rfl) (by rfl) (st_one _ _ _ _) ?_; intro w9 h9 hu9)
                | fail)
              refine bodyPost_ret (results_cell_row (by rfl) _ _ _ _ _ _ _ (by rfl) h9 Tryd.underlying47 (by rfl) sizeSt) rfl ⟨by rw [hJ.out]; rfl, HB.out.upd hu9 HGE.out⟩
            · have hJ := Lib.hid (show Slot.judge h p k = (1, F 5, F 3, true) by rw [hJ1.out, h1, h2, h3]; rfl)
              go_wp2_with (first
                | ((with_reducible show wpList _ _ _ ((⟨none, _, _, _, _, _⟩ : Oper) :: _) _ _); refine wpList_store_blk (o := ⟨none, _, _, _, _, _⟩) (hg0) (by rfl) _ _ _ (by rfl) (by rfl) (#[.int .i64 1, .int .i64 (F 5), .int .i64 (F 3), .bool true]) (by rfl) (sizeSt) (by rfl) (by rfl) (st_one _ _ _ _) ?_; intro w9 h9 hu9)
                | fail)
              refine bodyPost_ret (results_cell_row (by rfl) _ _ _ _ _ _ _ (by rfl) h9 Tryd.underlying47 (by rfl) sizeSt) rfl ⟨by rw [hJ.out]; rfl, HB.out.upd hu9 HGE.out⟩
        · have hJ := Lib.hid (show Slot.judge h p k = (1, F 5, F 3, true) by rw [hJ1.out, h1]; rfl)
          go_wp2_with (first
            | ((with_reducible show wpList _ _ _ ((⟨none, _, _, _, _, _⟩ : Oper) :: _) _ _); refine wpList_store_blk (o := ⟨none, _, _, _, _, _⟩) (hg0) (by rfl) _ _ _ (by rfl) (by rfl) (#[.int .i64 1, .int .i64 (F 5), .int .i64 (F 3), .bool true]) (by rfl) (sizeSt) (by rfl) (by rfl) (st_one _ _ _ _) ?_; intro w9 h9 hu9)
            | fail)
          refine bodyPost_ret (results_cell_row (by rfl) _ _ _ _ _ _ _ (by rfl) h9 Tryd.underlying47 (by rfl) sizeSt) rfl ⟨by rw [hJ.out]; rfl, HB.out.upd hu9 HGE.out⟩
end Go.Proofs.YtfoegmjpfkmggaaDoor

/- A journal's block: its disk, how its slots are. Plain facts; none, up, Slots of a journal that was made. Conditions: the journal is known. -/
namespace Go.Proofs.YtfoegmjpfkmggaaDoor
open Go.RowKit
abbrev SlT := Int × Int × Int × Bool
def slc (s : SlT) : List Value := [.int .i64 s.1, .int .i64 s.2.1, .int .i64 s.2.2.1, .bool s.2.2.2]
def slcs (l : List SlT) : List Value := l.flatMap slc
theorem slcs_cons (s : SlT) (l : List SlT) : slcs (s :: l) = slc s ++ slcs l := rfl
theorem slcs_length (l : List SlT) : (slcs l).length = 4 * l.length := by
  induction l with
  | nil => rfl
  | cons s l ih => rw [slcs_cons, List.length_append, ih]; simp [slc]; omega
theorem slcs_one (l : List SlT) : (slcs l).all (·.oneCell') = true := by
  induction l with
  | nil => rfl
  | cons s l ih => rw [slcs_cons, List.all_append, ih]; simp [slc, Value.oneCell']
theorem slcs_at : ∀ (l : List SlT) (i k : Nat) (_ : k < 4) (h : i < l.length), (slcs l)[4 * i + k]? = (slc l[i])[k]?
  | [], i, k, _, h => by simp at h
  | s :: l, 0, k, hk, h => by
    rw [slcs_cons, List.getElem?_append_left (by simp [slc]; omega)]
    simp
  | s :: l, i + 1, k, hk, h => by
    have hl : (slc s).length = 4 := rfl
    rw [slcs_cons, List.getElem?_append_right (by omega), hl, show 4 * (i + 1) + k - 4 = 4 * i + k by omega, slcs_at l i k hk (by simpa using h)]
    simp
theorem slcs_set : ∀ (l : List SlT) (i : Nat) (x : SlT) (_ : i < l.length) (k : Nat) (_ : k < 4 * l.length), (slcs (l.set i x))[k]? = if 4 * i ≤ k ∧ k < 4 * i + 4 then (slc x)[k - 4 * i]? else (slcs l)[k]?
  | l, i, x, hi, k, hk => by
    have e : k = 4 * (k / 4) + k % 4 := by omega
    have hq : k / 4 < l.length := by omega
    have h1 := slcs_at (l.set i x) (k / 4) (k % 4) (by omega) (by rw [List.length_set]; exact hq)
    have h2 := slcs_at l (k / 4) (k % 4) (by omega) hq
    rw [← e] at h1 h2
    rw [h1, h2, List.getElem_set]
    by_cases hik : i = k / 4
    · rw [if_pos hik, if_pos (by omega), show k - 4 * i = k % 4 by omega]
    · rw [if_neg hik, if_neg (by omega)]
/-- A journal's cells. -/
def jc (gd : Nat) (l : List SlT) : Array Value := (Value.pointer (some ⟨gd, 0, none⟩) :: slcs l).toArray
theorem jc_size (gd : Nat) (l : List SlT) : (jc gd l).size = 4 * l.length + 1 := by unfold jc; simp [slcs_length]
theorem jc_0 (gd : Nat) (l : List SlT) : (jc gd l)[0]? = some (.pointer (some ⟨gd, 0, none⟩)) := by unfold jc; simp
theorem jc_at (gd : Nat) (l : List SlT) (i k : Nat) (hk : k < 4) (h : i < l.length) : (jc gd l)[1 + 4 * i + k]? = (slc l[i])[k]? := by
  unfold jc
  rw [List.getElem?_toArray, show 1 + 4 * i + k = (4 * i + k) + 1 by omega, List.getElem?_cons_succ, slcs_at l i k hk h]
theorem jc_set (gd : Nat) (l : List SlT) (i : Nat) (x : SlT) (h : i < l.length) : setAll (jc gd l) (1 + 4 * i) (slc x) = jc gd (l.set i x) := by
  obtain ⟨a, b, c, d⟩ := x
  apply Array.ext_getElem?
  intro k
  have hs := jc_size gd l
  have hs2 := jc_size gd (l.set i (a, b, c, d))
  rw [List.length_set] at hs2
  have e : setAll (jc gd l) (1 + 4 * i) (slc (a, b, c, d)) = ((((jc gd l).setIfInBounds (1 + 4 * i) (.int .i64 a)).setIfInBounds (1 + 4 * i + 1) (.int .i64 b)).setIfInBounds (1 + 4 * i + 1 + 1) (.int .i64 c)).setIfInBounds (1 + 4 * i + 1 + 1 + 1) (.bool d) := rfl
  rw [e]
  by_cases hk : k < 4 * l.length + 1
  · rcases k with _ | k
    · rw [jc_0, Array.getElem?_setIfInBounds_ne (by omega), Array.getElem?_setIfInBounds_ne (by omega), Array.getElem?_setIfInBounds_ne (by omega), Array.getElem?_setIfInBounds_ne (by omega), jc_0]
    · have hr : (jc gd (l.set i (a, b, c, d)))[k + 1]? = (slcs (l.set i (a, b, c, d)))[k]? := by unfold jc; rw [List.getElem?_toArray, List.getElem?_cons_succ]
      have hl : (jc gd l)[k + 1]? = (slcs l)[k]? := by unfold jc; rw [List.getElem?_toArray, List.getElem?_cons_succ]
      rw [hr, slcs_set l i _ h k (by omega)]
      by_cases c0 : 4 * i ≤ k ∧ k < 4 * i + 4
      · rw [if_pos c0]
        obtain ⟨m, hm⟩ : ∃ m, m = k - 4 * i := ⟨_, rfl⟩
        have hm4 : m < 4 := by omega
        rw [← hm, show k + 1 = 1 + 4 * i + m by omega]
        have h3 : 1 + 4 * i + 1 + 1 + 1 < 4 * l.length + 1 := by omega
        rcases (by omega : m = 0 ∨ m = 1 ∨ m = 2 ∨ m = 3) with rfl | rfl | rfl | rfl
        · rw [show 1 + 4 * i + 0 = 1 + 4 * i from rfl, Array.getElem?_setIfInBounds_ne (by omega), Array.getElem?_setIfInBounds_ne (by omega), Array.getElem?_setIfInBounds_ne (by omega), Array.getElem?_setIfInBounds_self_of_lt (by rw [hs]; omega)]; rfl
        · rw [Array.getElem?_setIfInBounds_ne (by omega), Array.getElem?_setIfInBounds_ne (by omega), Array.getElem?_setIfInBounds_self_of_lt (by simp only [Array.size_setIfInBounds, hs]; omega)]; rfl
        · rw [show 1 + 4 * i + 2 = 1 + 4 * i + 1 + 1 by omega, Array.getElem?_setIfInBounds_ne (by omega), Array.getElem?_setIfInBounds_self_of_lt (by simp only [Array.size_setIfInBounds, hs]; omega)]; rfl
        · rw [show 1 + 4 * i + 3 = 1 + 4 * i + 1 + 1 + 1 by omega, Array.getElem?_setIfInBounds_self_of_lt (by simp only [Array.size_setIfInBounds, hs]; omega)]; rfl
      · rw [if_neg c0, Array.getElem?_setIfInBounds_ne (by omega), Array.getElem?_setIfInBounds_ne (by omega), Array.getElem?_setIfInBounds_ne (by omega), Array.getElem?_setIfInBounds_ne (by omega), hl]
  · rw [Array.getElem?_eq_none (by simp only [Array.size_setIfInBounds, hs]; omega), Array.getElem?_eq_none (by rw [hs2]; omega)]
/-- A journal that was made, on a disk that is up. -/
structure JR (w : World) (gj : Nat) (p : Pl) (L : List UInt8) (l : List SlT) : Prop where
  jd : JD w p L
  jb : Blk w gj 52 (jc p.gd l)
  n16 : l.length = 16
section
variable {w w' : World} {gj : Nat} {p : Pl} {L : List UInt8} {l : List SlT}
theorem JR.near (h : JR w gj p L l) (k : Near [] w w') : JR w' gj p L l := ⟨h.jd.near k, h.jb.near k (by simp), h.n16⟩
theorem JR.below (h : JR w gj p L l) (k : Below w.heap.size w w') : JR w' gj p L l := h.near (Near.below k)
theorem JR.off (h : JR w gj p L l) : gj ∉ p.all none := by
  obtain ⟨⟨d, ⟨⟨es, c, ⟨h1, h2, h3⟩, _⟩, _, _⟩, _⟩, hb, _⟩ := h
  have e1 := hb.apart h1 (by decide)
  have e2 := hb.apart h2 (by decide)
  have e3 := hb.offMap h3
  unfold Pl.all
  simp [e1, e2, e3]
theorem JR.lt (h : JR w gj p L l) : gj < w.heap.size := h.jb.lt
set_option maxRecDepth 100000 in
theorem jnone_any (h : JR w gj p L l) : Calls Tryd.prog 20 #[.pointer (some ⟨gj, 0, none⟩)] w fun e w' => e = .returned (.bool false) ∧ w' = w := by
  have d0 := h.jb.at_ 0 (jc_0 _ _)
  clear h
  go_enter Tryd.func20, Tryd.ntmps20
  go_wp2
  go_ret
  exact ⟨rfl, rfl⟩
set_option maxRecDepth 100000 in
theorem jup_any (h : JR w gj p L l) : Calls Tryd.prog 33 #[.pointer (some ⟨gj, 0, none⟩)] w fun e w' => e = .returned (.int .i64 0) ∧ w' = w := by
  have d0 := h.jb.at_ 0 (jc_0 _ _)
  have hn := jnone_any h
  obtain ⟨d, hd, _, ho, _⟩ := h.jd
  have hu := up_all hd.dr hd.fr
  rw [show d.isOut none = false by simp [Dsk.isOut, ho]] at hu
  clear h hd ho
  go_enter Tryd.func33, Tryd.ntmps33
  go_wp2_with fail
  refine hn.mono ?_
  rintro e w1 ⟨rfl, hw⟩
  obtain rfl := hw.symm
  clear hw hn
  go_wp2_with fail
  refine hu.mono ?_
  rintro e w1 ⟨rfl, hw⟩
  obtain rfl := hw.symm
  clear hw hu
  go_wp2
  go_ret
  exact ⟨rfl, rfl⟩
end
end Go.Proofs.YtfoegmjpfkmggaaDoor

/- The journal's all: functions done one behind the other. Conditions: each one answers that all went well. -/
namespace Go.Proofs.YtfoegmjpfkmggaaDoor
open Go.RowKit
def JAllRel (P : Nat → World → Prop) (n : Nat) (v : Value) (wr : World) : Prop := ∃ i : Nat, i ≤ n ∧ v = .int .i64 (i : Int) ∧ P i wr
set_option maxRecDepth 100000 in
set_option maxHeartbeats 1000000 in
theorem jall_any (fs : List (Nat × Array Value × Array Value)) (g n c : Nat) (P : Nat → World → Prop) (w : World) (hn : n = fs.length) (hm : n ≤ 1000)
    (hcell : ∀ i w' (h : i < fs.length), P i w' → w'.cell? ⟨g, i, none⟩ = some (.func (.func fs[i].1) fs[i].2.1 fs[i].2.2))
    (hcall : ∀ i (h : i < fs.length) (args : Array Value) (w : World), (callFunc fs[i].1 args).run Tryd.prog w = .ok (.enter fs[i].1 args) w)
    (hstep : ∀ i w' (h : i < fs.length), P i w' → Calls Tryd.prog fs[i].1 (fs[i].2.1 ++ fs[i].2.2) w' fun e w'' => e = .returned (.int .i64 0) ∧ P (i + 1) w'')
    (h0 : P 0 w) :
    Calls Tryd.prog 23 #[.slice (some ⟨g, 0, none⟩) n c] w fun e w' => e = .returned (.int .i64 0) ∧ P n w' := by
  have HN := Lib.hid (And.intro hn hm)
  have H0 := Lib.hid h0
  have HC := Lib.hid (And.intro hcell (And.intro hcall hstep))
  clear hn hm h0 hcell hcall hstep
  go_enter Tryd.func23, Tryd.ntmps23
  go_wp2_with fail
  go_loopw [8] (fun v wr => JAllRel P n v wr) (fun v _ => n - (intOf v).toNat)
  case atStart => exact ⟨0, Nat.zero_le _, rfl, H0.out⟩
  case round =>
    obtain ⟨i, hi, rfl, hP⟩ := hrel
    have hm := HN.out.2
    by_cases hlt : i < n
    · have hil : i < fs.length := by rw [← HN.out.1]; exact hlt
      have d0 := HC.out.1 i wr hil hP
      have hcl := HC.out.2.1 i hil
      have hS := Lib.hid (HC.out.2.2 i wr hil hP)
      generalize fs[i] = f at d0 hcl hS
      obtain ⟨k, b, cp⟩ := f
      dsimp only at d0 hcl hS
      clear hP hil
      go_wp2_with fail
      refine hS.out.mono ?_
      rintro e w1 ⟨rfl, hP⟩
      have HP := Lib.hid hP
      clear hP hS hcl d0
      go_wp2
      exact ⟨⟨i + 1, by omega, by go_num, HP.out⟩, by simp [intOf]; omega⟩
    · obtain rfl : i = n := by omega
      have HP := Lib.hid hP
      clear hP
      go_wp2
      go_ret
      exact ⟨rfl, HP.out⟩
end Go.Proofs.YtfoegmjpfkmggaaDoor
