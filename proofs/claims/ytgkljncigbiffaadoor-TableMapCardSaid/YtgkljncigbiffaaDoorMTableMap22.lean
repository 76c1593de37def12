/- TableMap: a table that is built tells its pairs. Conditions: the library's table is there; the arguments can be read. -/
import Derived.Test.YtgkljncigbiffaaDoorMTableMap21
import Derived.Deep.CutRange
import Derived.Test.YtgkljncigbiffaaDoorTie
import Derived.Test.YtgkljncigbiffaaDoorCards
import Derived.SevenTiedAt
namespace Go.Proofs.YtgkljncigbiffaaDoor
open Go.RowKit
set_option maxRecDepth 100000 in
set_option maxHeartbeats 4000000 in
theorem tableMap_early (Al Ka Fa Ta : Option Addr) (cl ck cf ct : Nat) (l : List PairT) (key fr ub : List UInt8) (w : World) (hT : Tab w) (hP : Pairs w Al l) (hll : l.length ≤ 9223372036854775807) (h : plarge l 80 = true ∨ 200 < key.length ∨ 200 < fr.length ∨ 200 < ub.length) :
    Calls Tryd.prog 8 #[.slice Al l.length cl, .slice Ka key.length ck, .slice Fa fr.length cf, .slice Ta ub.length ct] w fun e w' => e = .returned (.bool true) ∧ Below w.heap.size w w' := by
  have HT := Lib.hid (And.intro hT (And.intro hP hll))
  have HH := Lib.hid h
  clear hT hP hll h
  go_enter Tryd.func8, Tryd.ntmps8
  go_wp2_with fail
  refine (tableKnown_law w HT.out.1).mono ?_
  rintro e w1 ⟨rfl, hb1⟩
  have H1 := Lib.hid hb1
  clear hb1
  go_wp2_with fail
  refine (largePairs_any Al cl l 80 (by omega) HT.out.2.2 w1 (HT.out.2.1.below H1.out)).mono ?_
  rintro e w2 ⟨rfl, hw⟩
  subst hw
  have h := HH.out
  generalize plarge l 80 = b1 at h ⊢
  cases b1
  case true =>
    clear h
    go_wp2
    go_ret
    exact ⟨rfl, H1.out⟩
  by_cases h2 : 200 < key.length
  · have k1 : decide ((key.length : Int) > 200) = true := decide_eq_true (by omega)
    have k2 : decide (200 < key.length) = true := decide_eq_true h2
    clear h h2
    go_wp2
    go_ret
    exact ⟨rfl, H1.out⟩
  by_cases h3 : 200 < fr.length
  · have k1 : decide ((key.length : Int) > 200) = false := decide_eq_false (by omega)
    have k2 : decide (200 < key.length) = false := decide_eq_false h2
    have k3 : decide ((fr.length : Int) > 200) = true := decide_eq_true (by omega)
    have k4 : decide (200 < fr.length) = true := decide_eq_true h3
    clear h h2 h3
    go_wp2
    go_ret
    exact ⟨rfl, H1.out⟩
  have h4 : 200 < ub.length := by
    rcases h with h | h | h | h
    · cases h
    · exact absurd h h2
    · exact absurd h h3
    · exact h
  have k1 : decide ((key.length : Int) > 200) = false := decide_eq_false (by omega)
  have k2 : decide (200 < key.length) = false := decide_eq_false h2
  have k3 : decide ((fr.length : Int) > 200) = false := decide_eq_false (by omega)
  have k4 : decide (200 < fr.length) = false := decide_eq_false h3
  have k5 : decide ((ub.length : Int) > 200) = true := decide_eq_true (by omega)
  have k6 : decide (200 < ub.length) = true := decide_eq_true h4
  clear h h2 h3 h4
  go_wp2
  go_ret
  exact ⟨rfl, H1.out⟩
set_option maxRecDepth 100000 in
set_option maxHeartbeats 16000000 in
theorem tableMap_law (Al Ka Fa Ta : Option Addr) (cl ck cf ct : Nat) (l : List PairT) (key fr ub : List UInt8) (w : World) (hT : Tab w) (hP : Pairs w Al l) (hll : l.length ≤ 9223372036854775807) (hK : Bytes w Ka key) (hF : Bytes w Fa fr) (hTo : Bytes w Ta ub) :
    Calls Tryd.prog 8 #[.slice Al l.length cl, .slice Ka key.length ck, .slice Fa fr.length cf, .slice Ta ub.length ct] w fun e w' => e = .returned (.bool true) ∧ Below w.heap.size w w' := by
  by_cases hbig : plarge l 80 = true ∨ 200 < key.length ∨ 200 < fr.length ∨ 200 < ub.length
  · exact tableMap_early Al Ka Fa Ta cl ck cf ct l key fr ub w hT hP hll hbig
  have hb1 : plarge l 80 = false := by cases h : plarge l 80 with
    | false => rfl
    | true => exact absurd (.inl h) hbig
  have hb2 : key.length ≤ 200 := by omega
  have hb3 : fr.length ≤ 200 := by omega
  have hb4 : ub.length ≤ 200 := by omega
  have HA := Lib.hid (And.intro hT (And.intro hP (And.intro hll (And.intro hK (And.intro hF (And.intro hTo (And.intro hb1 (And.intro hb2 (And.intro hb3 hb4)))))))))
  have k1 : decide ((key.length : Int) > 200) = false := decide_eq_false (by omega)
  have k2 : decide (200 < key.length) = false := decide_eq_false (by omega)
  have k3 : decide ((fr.length : Int) > 200) = false := decide_eq_false (by omega)
  have k4 : decide (200 < fr.length) = false := decide_eq_false (by omega)
  have k5 : decide ((ub.length : Int) > 200) = false := decide_eq_false (by omega)
  have k6 : decide (200 < ub.length) = false := decide_eq_false (by omega)
  clear hbig hb1 hb2 hb3 hb4 hT hP hll hK hF hTo
  go_enter Tryd.func8, Tryd.ntmps8
  go_wp2_with fail
  refine (tableKnown_law w HA.out.1).mono ?_
  rintro e w1 ⟨rfl, hb1⟩
  have H1 := Lib.hid hb1
  clear hb1
  go_wp2_with fail
  refine (largePairs_any Al cl l 80 (by omega) HA.out.2.2.1 w1 (HA.out.2.1.below H1.out)).mono ?_
  rintro e w2 ⟨rfl, hw⟩
  subst hw
  rw [HA.out.2.2.2.2.2.2.1]
  go_wp2_with fail
  refine (tmade_any 20 (by omega) (by omega) w2).mono ?_
  rintro e w3 ⟨gp, dp, rfl, hG, hbx⟩
  have hlen80 : l.length ≤ 65536 := by
    have := HA.out.2.2.2.2.2.2.1
    unfold plarge at this
    rw [Bool.or_eq_false_iff, decide_eq_false_iff_not] at this
    omega
  have H3 := Lib.hid (And.intro (show GX w2.heap.size [] w3 gp dp (tG 20 0) (Dsk.new (104 + 4 * 20)) from GX.of_GL hG hbx.size) (And.intro (H1.out.trans (hbx.mono H1.out.size)) (And.intro H1.out.size hlen80)))
  clear hG hbx k1 k2 k3 k4 k5 k6
  go_wp2_with fail
  -- its bodies
  refine (packPub_any Al cl l H3.out.2.2.2 w3 (HA.out.2.1.below H3.out.2.1)).mono ?_
  rintro e w4 ⟨vb, bs, sp, rfl, hBd, hbx⟩
  obtain ⟨Ab, cb, hvb, -, -, -, -⟩ := OwnsC.reads hBd.own
  have H4 := Lib.hid (And.intro hbx (H3.out.2.1.trans (hbx.mono H3.out.2.1.size)))
  by_cases hc : (ppack l).1 = 0
  case neg =>
    rw [(ppack_two l).resolve_left hc]
    clear hBd hvb hbx hlen80 hc
    go_wp2
    go_ret
    exact ⟨rfl, H4.out.2⟩
  rw [hc]
  subst hvb
  clear hlen80
  obtain ⟨D, hD0, hPu, hTO, hfl, hm15, hcn, hl64, hpw, hpk, hso, hne, -⟩ := map_plain hc
  obtain ⟨m, hm⟩ : ∃ m, m = (ppack l).2.length := ⟨_, rfl⟩
  have hbu := xtbuild (G := tG 20) (D := D) (R := tk 3) (root := tk 3 (ppack l).2.length) (s := 3) (hD0 ▸ H3.out.1) H4.out.1 (HA.out.1.below H4.out.2) (Nat.lt_of_lt_of_le HA.out.1.1 H3.out.2.2.1) Al cl l H3.out.2.2.2 (HA.out.2.1.below H4.out.2) (fun X hX => (pairsX_of HA.out.2.1 X (fun x hx => Nat.le_trans H3.out.2.2.1 (hX x hx).1)).near (Near.below H4.out.2)) hc (by decide) (by decide) (by rw [hcn]; omega) hPu
  rw [← hm] at hbu hTO hm15 ⊢
  obtain ⟨r, hr⟩ : ∃ r : RefT, r = tk 3 m := ⟨_, rfl⟩
  obtain ⟨G, hG⟩ : ∃ G, G = (ppack l).2 := ⟨_, rfl⟩
  obtain ⟨d, hd⟩ : ∃ d, d = D (m + 1) := ⟨_, rfl⟩
  rw [← hr] at hbu hTO
  rw [← hd] at hbu hTO
  rw [← hG] at hTO hfl
  have HP := Lib.hid (And.intro hTO (And.intro hfl (And.intro hm15 (And.intro hl64 (And.intro hpw (And.intro hpk (And.intro hso (And.intro hne hr))))))))
  clear hBd hbx hPu hTO hfl hm hm15 hcn hl64 hpw hpk hso hne hc hD0 hG hd hr
  unfold runv at hbu
  go_wp2_with fail
  refine hbu.mono ?_
  rintro e w5 ⟨F, L, nf, cf', nl, cl', rfl, hG, hS⟩
  have hb6 := (Below.refl w5.heap.size w5).alloc (Nat.le_refl _) (.cells #[.int .i64 r.1, .int .i64 r.2.1, .int .i64 (l.length : Int), .slice F nf cf', .slice L nl cl'] 35)
  have hr6 := Blk.new w5 35 #[.int .i64 r.1, .int .i64 r.2.1, .int .i64 (l.length : Int), .slice F nf cf', .slice L nl cl']
  have H6 := Lib.hid (And.intro (hG.belowT hb6).1 (And.intro (H4.out.2.trans ((hS.bel.mono H3.out.2.2.1).trans ((hG.belowT hb6).2.bel.mono H3.out.2.2.1))) hr6))
  clear hbu hG hS hb6
  go_wp2_with (first
    | ((with_reducible show wpList _ _ _ ((⟨some 78, _, _, _, _, _⟩ : Oper) :: _) _ _); refine wpList_load_blk (o := ⟨some 78, _, _, _, _, _⟩) (hr6) (by rfl) _ _ (by rfl) (by rfl) _ Tryd.underlying35 (by rfl) (sizeRun) (by rfl) ?_)
    | fail)
  generalize w5.alloc (.cells #[.int .i64 r.1, .int .i64 r.2.1, .int .i64 (l.length : Int), .slice F nf cf', .slice L nl cl'] 35) = w6 at H6 ⊢
  generalize w5.heap.size = rb at H6 ⊢
  clear hr6
  -- all pairs
  have hal := xtall H6.out.1 (by simp [tG]) r (l.length : Int) F L nf cf' nl cl' l HP.out.1.zero _ HP.out.1.data (HP.out.1.items.trans HP.out.2.1) (by have := HP.out.2.2.2.1; omega)
  unfold runv at hal
  refine hal.mono ?_
  rintro e w7 ⟨va, ra, sa, rfl, hPa, hG, hS⟩
  have H7 := Lib.hid (And.intro hG (And.intro (H6.out.2.1.trans (hS.bel.mono H3.out.2.2.1)) (And.intro (hS.so.blk H6.out.2.2 (by unfold NG; decide)) hPa)))
  have hr7 := H7.out.2.2.1
  clear hal hPa hG hS H6
  go_wp2_with (first
    | ((with_reducible show wpList _ _ _ ((⟨some 84, _, _, _, _, _⟩ : Oper) :: _) _ _); refine wpList_load_blk (o := ⟨some 84, _, _, _, _, _⟩) (hr7) (by rfl) _ _ (by rfl) (by rfl) _ Tryd.underlying35 (by rfl) (sizeRun) (by rfl) ?_)
    | fail)
  -- those between two keys
  obtain ⟨lf, hlf⟩ : ∃ lf, lf = l.filter (inside fr ub) := ⟨_, rfl⟩
  have hbt := xtbetween H7.out.1 (by simp [tG]) r (l.length : Int) F L nf cf' nl cl' fr ub Fa Ta cf ct (Bytes.below HA.out.2.2.2.2.1 H7.out.2.1) (Bytes.below HA.out.2.2.2.2.2.1 H7.out.2.1) (by have := HA.out.2.2.2.2.2.2.2.2.1; omega) (by have := HA.out.2.2.2.2.2.2.2.2.2; omega) lf HP.out.1.zero _ (fun i hi _ => HP.out.1.data i hi) ((HP.out.1.some_ fr ub).trans (by rw [HP.out.2.1, hlf])) (Nat.le_trans (HP.out.1.few _) (by rw [HP.out.2.1]; have := HP.out.2.2.2.1; omega))
  unfold runv at hbt
  have HLF := Lib.hid hlf
  clear hlf hr7
  refine hbt.mono ?_
  rintro e w8 ⟨vs, rs, ss, rfl, hPs, hG, hS⟩
  have H8 := Lib.hid (And.intro hG (And.intro (H7.out.2.1.trans (hS.bel.mono H3.out.2.2.1)) (And.intro (hS.so.blk H7.out.2.2.1 (by unfold NG; decide)) (And.intro (hS.so.pairsU H7.out.2.2.2) hPs))))
  have hr8 := H8.out.2.2.1
  clear hbt hPs hG hS H7
  go_wp2_with (first
    | ((with_reducible show wpList _ _ _ ((⟨some 92, _, _, _, _, _⟩ : Oper) :: _) _ _); refine wpList_load_blk (o := ⟨some 92, _, _, _, _, _⟩) (hr8) (by rfl) _ _ (by rfl) (by rfl) _ Tryd.underlying35 (by rfl) (sizeRun) (by rfl) ?_)
    | fail)
  -- its blocks
  have hbk := xtblocks H8.out.1 (by simp [tG]) r (l.length : Int) F L nf cf' nl cl' HP.out.1.blocks
  rw [List.length_cons, List.length_map, List.length_range] at hbk
  unfold runv at hbk
  refine hbk.mono ?_
  rintro e w9 ⟨Ar, cr, rfl, -, -, -, -, hG, hS⟩
  have H9 := Lib.hid (show MpSt w w2.heap.size gp dp (tG 20 (m + 1)) d rb #[.int .i64 r.1, .int .i64 r.2.1, .int .i64 (l.length : Int), .slice F nf cf', .slice L nl cl'] va vs l lf ra sa rs ss w9 from ⟨hG, H8.out.2.1.trans (hS.bel.mono H3.out.2.2.1), hS.so.blk H8.out.2.2.1 (by unfold NG; decide), hS.so.pairsU H8.out.2.2.2.1, hS.so.pairsU H8.out.2.2.2.2⟩)
  clear hbk hG hS hr8 H8
  go_wp2_with fail
  -- how many are taken
  refine (xtcounts H9.out.grid).mono ?_
  rintro e w10 ⟨rfl, hbx⟩
  have H10 := Lib.hid (H9.out.below hbx H3.out.2.2.1)
  have k1 : decide ((m : Int) > 16) = false := decide_eq_false (by have := HP.out.2.2.1; omega)
  have k2 : decide (16 < m) = false := decide_eq_false (by have := HP.out.2.2.1; omega)
  have k3 : wrap64 ((m : Int) + 1) = ((m + 1 : Nat) : Int) := by rw [w64_in (by have := HP.out.2.2.1; omega)]; omega
  rw [show cnts (tG 20 (m + 1)).L 1 = m + 1 from taken20 ⟨m, by have := HP.out.2.2.1; omega⟩]
  obtain ⟨Aa, ca, hva, -, -, hPa, -⟩ := H10.out.all.pairs
  subst hva
  have hd2 := H10.out.run.at_ 2 (v := .int .i64 (l.length : Int)) rfl
  have HPa := Lib.hid hPa
  clear hbx H9 hPa
  go_wp2_with fail
  refine (samePairs_any Aa Al ca cl l l H3.out.2.2.2 w10 HPa.out (HA.out.2.1.below H10.out.bel)).mono ?_
  rintro e w11 ⟨rfl, hbx⟩
  rw [decide_eq_true rfl]
  have H11 := Lib.hid (H10.out.below hbx H3.out.2.2.1)
  have hd3 := H11.out.run.at_ 2 (v := .int .i64 (l.length : Int)) rfl
  clear hbx hd2 H10 HPa
  go_wp2_with fail
  have hbx := (Below.refl w11.heap.size w11).alloc (Nat.le_refl _) (.cells #[.slice none 0 0, .slice none 0 0, .bool false] 40)
  have hlow : (∀ x, (Value.slice Aa l.length ca).ownBlock = some x → x < w11.heap.size) ∧ (∀ x, vs.ownBlock = some x → x < w11.heap.size) ∧ w.heap.size ≤ w11.heap.size := ⟨fun x hx => (OwnsC.lt H11.out.all.own x hx).2, fun x hx => (OwnsC.lt H11.out.som.own x hx).2, H11.out.bel.size⟩
  have hst : MpRel w w2.heap.size gp dp (tG 20 (m + 1)) d rb #[.int .i64 r.1, .int .i64 r.2.1, .int .i64 (l.length : Int), .slice F nf cf', .slice L nl cl'] (.slice Aa l.length ca) vs l lf ra sa rs ss w11.heap.size (inside fr ub) key (.slice none 0 0) (.int .i64 0) (w11.alloc (.cells #[.slice none 0 0, .slice none 0 0, .bool false] 40)) :=
    ⟨0, [], [], none, 0, none, 0, Nat.zero_le _, rfl, H11.out.below hbx H3.out.2.2.1, PairsV.nil _ _ _, Blk.new w11 40 _, (show PairAt w pnone none 0 none 0 from ⟨by decide, by decide, by decide, by decide, Reads.nil _ _, Reads.nil _ _⟩)⟩
  have HLOW := Lib.hid hlow
  have HST := Lib.hid hst
  obtain ⟨bA, offA, hAl, hAlt, hcell⟩ := HA.out.2.1 (List.length_pos_iff.2 HP.out.2.2.2.2.2.2.2.1)
  have HCELL := Lib.hid (And.intro hAlt hcell)
  subst hAl
  clear hbx hlow hst k1 k2 k3 hd3 H11 hAlt hcell
  generalize w11.alloc (.cells #[.slice none 0 0, .slice none 0 0, .bool false] 40) = w12 at HST ⊢
  generalize w11.heap.size = mb at HST HLOW ⊢
  go_loopw [26, 28] (fun v26 v28 wr => MpRel w w2.heap.size gp dp (tG 20 (m + 1)) d rb #[.int .i64 r.1, .int .i64 r.2.1, .int .i64 (l.length : Int), .slice F nf cf', .slice L nl cl'] (.slice Aa l.length ca) vs l lf ra sa rs ss mb (inside fr ub) key v26 v28 wr) (fun _ v28 _ => l.length - (intOf v28).toNat)
  case atStart => exact HST.out
  case round =>
    obtain ⟨k, rows, sp', A1, c1, A2, c2, hk, rfl, hSt, hV, hmb, hmp⟩ := hrel
    by_cases hlt : k < l.length
    case neg =>
      obtain rfl : k = l.length := by omega
      rw [List.take_length] at hV hmb hmp
      have hpf := pmet_code HP.out.2.2.2.2.2.1 key
      have HE := Lib.hid (And.intro hSt (And.intro hV (And.intro hmb (And.intro hmp hpf))))
      clear hSt hV hmb hmp hpf hk hlt
      have hre := HE.out.1.run
      go_wp2_with (first
        | ((with_reducible show wpList _ _ _ ((⟨some 221, _, _, _, _, _⟩ : Oper) :: _) _ _); refine wpList_load_blk (o := ⟨some 221, _, _, _, _, _⟩) (hre) (by rfl) _ _ (by rfl) (by rfl) _ Tryd.underlying35 (by rfl) (sizeRun) (by rfl) ?_)
        | fail)
      have hgt := HP.out.1.getc key
      rw [HP.out.2.1] at hgt
      have hg := xtget HE.out.1.grid (by simp [tG]) r (l.length : Int) F L nf cf' nl cl' Ka ck key (Bytes.below HA.out.2.2.2.1 HE.out.1.bel) (HP.out.1.mono key) hgt
      unfold runv at hg
      refine hg.mono ?_
      rintro e w20 ⟨kv, vv, rfl, hO, hG, hS⟩
      obtain ⟨Ao, co, Bo, eo, rfl, rfl, hPA⟩ := hO.at_
      obtain ⟨cd, hcd⟩ : ∃ cd, cd = pcode (pfind l key) := ⟨_, rfl⟩
      rw [← hcd]
      have hcode : (decide (cd = 0)) = decide (0 < (pmet l key).1.length) := by rw [hcd]; exact HE.out.2.2.2.2
      have hpm : (pfind l key).getD pnone = pmet l key := rfl
      rw [hpm] at hPA ⊢
      have H20 := Lib.hid (And.intro (HE.out.1.ts hG hS H3.out.2.2.1) (And.intro (HE.out.2.1.soft hS.so) (And.intro (hS.so.blk HE.out.2.2.1 (by unfold NG; decide)) hPA)))
      have HC := Lib.hid hcode
      generalize pmet l key = pm at H20 HC HE ⊢
      clear hre hgt hg hO hG hS hPA hcd hcode hpm
      have hbx := (Below.refl w20.heap.size w20).alloc (Nat.le_refl _) (.cells #[.slice Ao pm.1.length co, .slice Bo pm.2.1.length eo, .bool pm.2.2.1] 40)
      have hg31 := Blk.new w20 40 #[.slice Ao pm.1.length co, .slice Bo pm.2.1.length eo, .bool pm.2.2.1]
      have HG := Lib.hid (And.intro (H20.out.1.below hbx H3.out.2.2.1) (And.intro (H20.out.2.1.below hbx) (And.intro (H20.out.2.2.1.below hbx H20.out.2.2.1.lt) (H20.out.2.2.2.below hbx))))
      have hmc := HG.out.2.2.1
      unfold pairc at hmc
      obtain ⟨As, cs, hvs, -, -, hPs, -⟩ := HG.out.1.som.pairs
      obtain ⟨Aw, cw, hvw, hPw⟩ := HG.out.2.1.pairs HG.out.1.bel
      rw [← HLF.out] at hvw hPw
      subst hvs hvw
      have HPS := Lib.hid (And.intro hPs hPw)
      clear hbx hPs hPw H20
      go_upto_region 30 with fail
      generalize w20.alloc (.cells #[.slice Ao pm.1.length co, .slice Bo pm.2.1.length eo, .bool pm.2.2.1] 40) = w21 at HG HPS hg31 hmc ⊢
      generalize w20.heap.size = gb at hg31 ⊢
      go_wp2_with (first
        | ((with_reducible show wpList _ _ _ ((⟨some 226, _, _, _, _, _⟩ : Oper) :: _) _ _); refine wpList_load_blk (o := ⟨some 226, _, _, _, _, _⟩) (hg31) (by rfl) _ _ (by rfl) (by rfl) _ Tryd.underlying40 (by rfl) (sizePair) (by rfl) ?_)
        | ((with_reducible show wpList _ _ _ ((⟨some 227, _, _, _, _, _⟩ : Oper) :: _) _ _); refine wpList_load_blk (o := ⟨some 227, _, _, _, _, _⟩) (hmc) (by rfl) _ _ (by rfl) (by rfl) _ Tryd.underlying40 (by rfl) (sizePair) (by rfl) ?_)
        | fail)
      have hsp := samePair_any pm pm Ao Bo A1 A2 co eo c1 c2 w21 HG.out.2.2.2 (HE.out.2.2.2.1.below HG.out.1.bel)
      unfold pairc at hsp
      refine hsp.mono ?_
      rintro e w22 ⟨rfl, hbx⟩
      rw [decide_eq_true rfl]
      have hmc2 := hmc.below hbx hmc.lt
      have dm := hmc2.at_ 0 (v := .slice A1 pm.1.length c1) rfl
      have HG2 := Lib.hid (And.intro (HG.out.1.below hbx H3.out.2.2.1) (And.intro (HPS.out.1.below hbx) (HPS.out.2.below hbx)))
      clear hsp hbx hg31 hmc hmc2 HG HPS
      obtain ⟨b, hb⟩ : ∃ b, b = decide (cd = 0) := ⟨_, rfl⟩
      have kc1 : (cd == 0) = b := by rw [hb]; by_cases h : cd = 0 <;> simp [h]
      have kc2 : decide ((pm.1.length : Int) > 0) = b := by rw [hb, HC.out]; exact decide_eq_decide.2 (by omega)
      have kc3 : decide (0 < pm.1.length) = b := by rw [hb, HC.out]
      clear hb
      go_wp2_with fail
      refine (samePairs_any As Aw cs cw lf lf (by rw [HLF.out]; exact Nat.le_trans (List.length_filter_le _ _) H3.out.2.2.2) w22 HG2.out.2.1 HG2.out.2.2).mono ?_
      rintro e w23 ⟨rfl, hbx⟩
      rw [decide_eq_true rfl]
      have HG3 := Lib.hid (HG2.out.1.below hbx H3.out.2.2.1)
      clear hbx HG2 kc1 kc2 kc3 dm
      go_wp2_with fail
      obtain ⟨Ab2, cb2, hva2, -, -, hPa2, -⟩ := HG3.out.all.pairs
      injection hva2 with h1 h2 h3
      subst h1 h3
      refine (sorted_any Aa ca l H3.out.2.2.2 w23 hPa2).mono ?_
      rintro e w24 ⟨rfl, hbx⟩
      rw [HP.out.2.2.2.2.2.2.1]
      have HG4 := Lib.hid (HG3.out.below hbx H3.out.2.2.1)
      have hr4 := HG4.out.run
      clear hbx HG3 hPa2
      go_wp2_with (first
        | ((with_reducible show wpList _ _ _ ((⟨some 251, _, _, _, _, _⟩ : Oper) :: _) _ _); refine wpList_load_blk (o := ⟨some 251, _, _, _, _, _⟩) (hr4) (by rfl) _ _ (by rfl) (by rfl) _ Tryd.underlying35 (by rfl) (sizeRun) (by rfl) ?_)
        | fail)
      -- it is dropped
      have hdp := map_drop HP.out.2.2.1 (HP.out.2.2.2.2.2.2.2.2 ▸ HP.out.1)
      rw [← HP.out.2.2.2.2.2.2.2.2] at hdp
      have hdr := xtdrop HG4.out.grid (by simp [tG]) r (by rw [HP.out.2.2.2.2.2.2.2.2]; have := HP.out.2.2.1; unfold tk; simp only; omega) (l.length : Int) F L nf cf' nl cl' hdp
      unfold runv at hdr
      refine hdr.mono ?_
      rintro e w25 ⟨rfl, hG, hS⟩
      have H25 := Lib.hid (And.intro hG (HG4.out.bel.trans (hS.bel.mono H3.out.2.2.1)))
      clear hdp hdr hG hS hr4 HG4
      go_wp2_with fail
      refine (xsettle H25.out.1).mono ?_
      rintro e w26 ⟨rfl, hG, hS⟩
      have H26 := Lib.hid (And.intro (show GX w2.heap.size [] w26 gp dp ⟨20, List.replicate 20 0, []⟩ d by rw [← set20 ⟨m, by have := HP.out.2.2.1; omega⟩]; exact hG) (H25.out.2.trans (hS.bel.mono H3.out.2.2.1)))
      clear hG hS H25
      go_wp2_with fail
      refine (xtcounts H26.out.1).mono ?_
      rintro e w27 ⟨rfl, hbx⟩
      simp only [cnt20.1, cnt20.2.1, cnt20.2.2]
      have H27 := Lib.hid (H26.out.2.trans (hbx.mono H26.out.2.size))
      clear hbx H26
      go_wp2_with fail
      go_ret
      exact ⟨rfl, H27.out⟩
    obtain ⟨Ak, ck', Av, cv, e1, e2, e3, hpk⟩ := HCELL.out.2 k hlt
    have hget := HP.out.1.get (l[k].1)
    rw [HP.out.2.1, pfind_some HP.out.2.2.2.2.1 (List.getElem_mem hlt) rfl] at hget
    simp only [Option.getD_some] at hget
    have hfs := filter_step (P := inside fr ub) hlt
    have hms := pmet_step HP.out.2.2.2.2.1 key hlt
    have hrg := range3 e1 e2 e3
    have hmono := HP.out.1.mono (l[k].1)
    generalize l[k] = p at hpk hget hfs hms hrg hmono
    have hc0 : Blk wr.drew rb 35 #[.int .i64 r.1, .int .i64 r.2.1, .int .i64 (l.length : Int), .slice F nf cf', .slice L nl cl'] ∧ wr.drew.rangeAt bA (offA + k * 3) [.slice Ak p.1.length ck', .slice Av p.2.1.length cv, .bool p.2.2.1] := ⟨hSt.run.drew, fun j v hv => (hSt.bel.drew.cell (p := ⟨bA, offA + k * 3 + j, none⟩) HCELL.out.1).trans (hrg j v hv)⟩
    have hd : Below wr.heap.size wr wr.drew := (Below.refl _ _).drew
    have HR := Lib.hid (And.intro (hSt.below hd H3.out.2.2.1) (And.intro (hV.below hd) (And.intro (hmb.below hd hmb.lt) (And.intro hmp (And.intro hpk (And.intro hget (And.intro hfs (And.intro hms (And.intro hrg hmono)))))))))
    have HLT := Lib.hid hlt
    clear e1 e2 e3 hpk hget hfs hms hrg hmono hSt hV hmb hmp hd
    go_upto_region 22 with fail
    go_cut [29, 30] from 154 to 218 (fun s29 s30 wv => MpGot w w2.heap.size gp dp (tG 20 (m + 1)) d rb #[.int .i64 r.1, .int .i64 r.2.1, .int .i64 (l.length : Int), .slice F nf cf', .slice L nl cl'] (.slice Aa l.length ca) vs l lf ra sa rs ss mb u26 ((l.take k).filter (inside fr ub)) rows sp' (pairc (pmet (l.take k) key) A1 c1 A2 c2) p s29 s30 wv)
    case first =>
      refine wp_region_tree (fun u => Blk u rb 35 #[.int .i64 r.1, .int .i64 r.2.1, .int .i64 (l.length : Int), .slice F nf cf', .slice L nl cl'] ∧ u.rangeAt bA (offA + k * 3) [.slice Ak p.1.length ck', .slice Av p.2.1.length cv, .bool p.2.2.1]) [] (PlanT.takes [0, 2, 3, 4, 5] (PlanT.takes [1, 6] (.opt 7 (PlanT.takes [8, 9, 10] (.opt 11 (.opt 12 (PlanT.takes [13] .done) .no) .no)) (.opt 11 (.opt 7 (PlanT.takes [8, 9, 10] (.opt 12 (PlanT.takes [13] .done) .no)) .no) .no)))) (by kernel_rfl) (by kernel_rfl) (hc0) ?_
      refine wpTree_pure _ _ _ (by rfl) (by rfl) ?_
      dsimp only [List.filterMap, List.getElem?_cons_zero, List.getElem?_cons_succ]
      repeat (go_big_quiet_step (fail))
      refine wpQuiet_nil ?_
      refine wpTree_takeL _ _ _ (by rfl) (by rfl) (hc0) ?_
      dsimp only [List.filterMap, List.getElem?_cons_zero, List.getElem?_cons_succ]
      (refine wpQuiet_load_blk (fun w' hw' => hw'.1) (by rfl) _ _ (by rfl) (by rfl) _ Tryd.underlying35 (by rfl) (sizeRun) (by rfl) ?_; simp only [Act.put, List.setIfInBounds_toArray, List.set_cons_zero, List.set_cons_succ])
      (refine wpQuiet_load_cell (fun w' hw' => hw'.2 0 _ rfl) (by rfl) _ _ (by rfl) (by rfl) _ Tryd.underlying22 (by rfl) ?_; simp only [Act.put, List.setIfInBounds_toArray, List.set_cons_zero, List.set_cons_succ])
      refine wpQuiet_nil ?_
      generalize wr.drew = v0 at HR hc0 ⊢
      refine wpTree_opt _ rfl ?_ ?_
      · go_wp2_with fail
        have hg := xtget HR.out.1.grid (by simp [tG]) r (l.length : Int) F L nf cf' nl cl' Ak ck' p.1 (Bytes.below HR.out.2.2.2.2.1.k HR.out.1.bel) HR.out.2.2.2.2.2.2.2.2.2 HR.out.2.2.2.2.2.1
        unfold runv at hg
        refine hg.mono ?_
        rintro e v1 ⟨kv, vv, rfl, hO, hG, hS⟩
        have H1' := Lib.hid (And.intro (HR.out.1.ts hG hS H3.out.2.2.1) (And.intro (HR.out.2.1.soft hS.so) (And.intro (hS.so.blk HR.out.2.2.1 (by unfold NG; decide)) hO)))
        have hc1 := And.intro H1'.out.1.run (fun (j : Nat) (v : Value) (hv : [Value.slice Ak p.1.length ck', .slice Av p.2.1.length cv, .bool p.2.2.1][j]? = some v) => (H1'.out.1.bel.cell (p := ⟨bA, offA + k * 3 + j, none⟩) HCELL.out.1).trans (HR.out.2.2.2.2.2.2.2.2.1 j v hv))
        clear hg hO hG hS hc0
        go_wp2_with fail
        refine TreeQ.in_ hc1 ?_
        refine wpTree_pure _ _ _ (by rfl) (by rfl) ?_
        dsimp only [List.filterMap, List.getElem?_cons_zero, List.getElem?_cons_succ]
        repeat (go_big_quiet_step (fail))
        refine wpQuiet_nil ?_
        refine wpTree_one _ rfl ?_
        go_wp2_with fail
        have hbx := (Below.refl v1.heap.size v1).alloc (Nat.le_refl _) (.cells #[.slice none 0 0, .slice none 0 0, .bool false] 40)
        have hgb := Blk.new v1 40 #[.slice none 0 0, .slice none 0 0, .bool false]
        have hc2 := And.intro (hc1.1.below hbx hc1.1.lt) (rangeAt_below hc1.2 hbx)
        have HBX := Lib.hid hbx
        clear hbx hc1
        generalize v1.alloc (.cells #[.slice none 0 0, .slice none 0 0, .bool false] 40) = v2 at HBX hgb hc2 ⊢
        refine TreeQ.in_ hc2 ?_
        refine wpTree_one _ rfl ?_
        go_wp2_with (first
          | ((with_reducible show wpList _ _ _ ((⟨none, _, _, _, _, _⟩ : Oper) :: _) _ _); refine wpList_store_blk (o := ⟨none, _, _, _, _, _⟩) (hgb) (by rfl) _ _ _ (by rfl) (by rfl) (#[kv, vv, .bool p.2.2.1]) (by rfl) (sizePair) (by rfl) (by rfl) (by obtain ⟨Ao, co, Bo, eo, rfl, rfl, -⟩ := H1'.out.2.2.2.at_; simp [Value.oneCell']) ?_; intro v3 h3 hu3)
          | fail)
        have hb13 := HBX.out.upd hu3 (Nat.le_refl _)
        have H3' := Lib.hid (And.intro (H1'.out.1.below hb13 H3.out.2.2.1) (And.intro (H1'.out.2.1.below hb13) (And.intro (H1'.out.2.2.1.below hb13 H1'.out.2.2.1.lt) (H1'.out.2.2.2.below hb13))))
        have hc3 := And.intro H3'.out.1.run (fun (j : Nat) (v : Value) (hv : [Value.slice Ak p.1.length ck', .slice Av p.2.1.length cv, .bool p.2.2.1][j]? = some v) => (H3'.out.1.bel.cell (p := ⟨bA, offA + k * 3 + j, none⟩) HCELL.out.1).trans (HR.out.2.2.2.2.2.2.2.2.1 j v hv))
        refine TreeQ.in_ hc3 ?_
        refine wpTree_pure _ _ _ (by rfl) (by rfl) ?_
        dsimp only [List.filterMap, List.getElem?_cons_zero, List.getElem?_cons_succ]
        repeat (go_big_quiet_step (fail))
        refine wpQuiet_nil ?_
        refine wpTree_done ?_
        have HF := Lib.hid (show MpGot w w2.heap.size gp dp (tG 20 (m + 1)) d rb #[.int .i64 r.1, .int .i64 r.2.1, .int .i64 (l.length : Int), .slice F nf cf', .slice L nl cl'] (.slice Aa l.length ca) vs l lf ra sa rs ss mb u26 ((l.take k).filter (inside fr ub)) rows sp' (pairc (pmet (l.take k) key) A1 c1 A2 c2) p (.pointer (some ⟨v1.heap.size, 0, none⟩)) (.int .i64 0) v3 by
          obtain ⟨Ao, co, Bo, eo, e1, e2, hPA⟩ := H3'.out.2.2.2.at_
          subst e1 e2
          exact ⟨_, Ao, co, Bo, eo, rfl, rfl, H3'.out.1, H3'.out.2.1, H3'.out.2.2.1, h3, hPA⟩)
        clear hgb hc2 h3 hu3 hb13 hc3
        go_wp2_with fail
        go_meet
        case rel => exact HF.out
      · refine wpTree_one _ rfl ?_
        go_wp2_with fail
        have hbx := (Below.refl v0.heap.size v0).alloc (Nat.le_refl _) (.cells #[.slice none 0 0, .slice none 0 0, .bool false] 40)
        have hgb := Blk.new v0 40 #[.slice none 0 0, .slice none 0 0, .bool false]
        have hc1 := And.intro (hc0.1.below hbx hc0.1.lt) (rangeAt_below hc0.2 hbx)
        have HRb := Lib.hid (And.intro (HR.out.1.below hbx H3.out.2.2.1) (And.intro (HR.out.2.1.below hbx) (And.intro (HR.out.2.2.1.below hbx HR.out.2.2.1.lt) (And.intro hgb (And.intro HR.out.2.2.1.lt (show ∀ x, u26.ownBlock = some x → x < v0.heap.size from fun x hx => (OwnsC.lt HR.out.2.1.own x hx).2))))))
        clear hbx hgb hc0
        generalize v0.alloc (.cells #[.slice none 0 0, .slice none 0 0, .bool false] 40) = v1 at HRb hc1 ⊢
        generalize v0.heap.size = gb at HRb ⊢
        refine TreeQ.in_ hc1 ?_
        refine wpTree_one _ rfl ?_
        go_wp2_with fail
        have hg := xtget HRb.out.1.grid (by simp [tG]) r (l.length : Int) F L nf cf' nl cl' Ak ck' p.1 (Bytes.below HR.out.2.2.2.2.1.k HRb.out.1.bel) HR.out.2.2.2.2.2.2.2.2.2 HR.out.2.2.2.2.2.1
        unfold runv at hg
        refine hg.mono ?_
        rintro e v2 ⟨kv, vv, rfl, hO, hG, hS⟩
        have H1' := Lib.hid (And.intro (HRb.out.1.ts hG hS H3.out.2.2.1) (And.intro (HRb.out.2.1.soft hS.so) (And.intro (hS.so.blk HRb.out.2.2.1 (by unfold NG; decide)) hO)))
        have hgb := hS.so.blk HRb.out.2.2.2.1 (by unfold NG; decide)
        have hc2 := And.intro H1'.out.1.run (fun (j : Nat) (v : Value) (hv : [Value.slice Ak p.1.length ck', .slice Av p.2.1.length cv, .bool p.2.2.1][j]? = some v) => (H1'.out.1.bel.cell (p := ⟨bA, offA + k * 3 + j, none⟩) HCELL.out.1).trans (HR.out.2.2.2.2.2.2.2.2.1 j v hv))
        clear hg hO hG hS hc1
        go_wp2_with fail
        refine TreeQ.in_ hc2 ?_
        refine wpTree_pure _ _ _ (by rfl) (by rfl) ?_
        dsimp only [List.filterMap, List.getElem?_cons_zero, List.getElem?_cons_succ]
        repeat (go_big_quiet_step (fail))
        refine wpQuiet_nil ?_
        refine wpTree_one _ rfl ?_
        go_wp2_with (first
          | ((with_reducible show wpList _ _ _ ((⟨none, _, _, _, _, _⟩ : Oper) :: _) _ _); refine wpList_store_blk (o := ⟨none, _, _, _, _, _⟩) (hgb) (by rfl) _ _ _ (by rfl) (by rfl) (#[kv, vv, .bool p.2.2.1]) (by rfl) (sizePair) (by rfl) (by rfl) (by obtain ⟨Ao, co, Bo, eo, rfl, rfl, -⟩ := H1'.out.2.2.2.at_; simp [Value.oneCell']) ?_; intro v3 h3 hu3)
          | fail)
        have hN : Near [gb] v2 v3 := Near.upd hu3 (List.mem_singleton_self _)
        have hmg : mb < gb := HRb.out.2.2.2.2.1
        have H3' := Lib.hid (And.intro (H1'.out.1.own hN (fun x hx => ⟨_, (List.mem_singleton.1 hx) ▸ hgb⟩) (fun x hx => by rw [List.mem_singleton.1 hx]; have := HLOW.out.2.2; omega) (fun x hx hm => by rw [List.mem_singleton.1 hm] at hx; have := HLOW.out.1 _ hx; omega) (fun x hx hm => by rw [List.mem_singleton.1 hm] at hx; have := HLOW.out.2.1 _ hx; omega)) (And.intro (H1'.out.2.1.near hN (fun x hx hm => by rw [List.mem_singleton.1 hm] at hx; have := HRb.out.2.2.2.2.2 _ hx; omega)) (And.intro (H1'.out.2.2.1.near hN (fun hm => by have := List.mem_singleton.1 hm; omega)) (H1'.out.2.2.2.near hN (fun x cs hb hm => hb.apart hgb (by decide) (List.mem_singleton.1 hm))))))
        have hc3 := And.intro H3'.out.1.run (fun (j : Nat) (v : Value) (hv : [Value.slice Ak p.1.length ck', .slice Av p.2.1.length cv, .bool p.2.2.1][j]? = some v) => (H3'.out.1.bel.cell (p := ⟨bA, offA + k * 3 + j, none⟩) HCELL.out.1).trans (HR.out.2.2.2.2.2.2.2.2.1 j v hv))
        refine TreeQ.in_ hc3 ?_
        refine wpTree_pure _ _ _ (by rfl) (by rfl) ?_
        dsimp only [List.filterMap, List.getElem?_cons_zero, List.getElem?_cons_succ]
        repeat (go_big_quiet_step (fail))
        refine wpQuiet_nil ?_
        refine wpTree_done ?_
        have HF := Lib.hid (show MpGot w w2.heap.size gp dp (tG 20 (m + 1)) d rb #[.int .i64 r.1, .int .i64 r.2.1, .int .i64 (l.length : Int), .slice F nf cf', .slice L nl cl'] (.slice Aa l.length ca) vs l lf ra sa rs ss mb u26 ((l.take k).filter (inside fr ub)) rows sp' (pairc (pmet (l.take k) key) A1 c1 A2 c2) p (.pointer (some ⟨gb, 0, none⟩)) (.int .i64 0) v3 by
          obtain ⟨Ao, co, Bo, eo, e1, e2, hPA⟩ := H3'.out.2.2.2.at_
          subst e1 e2
          exact ⟨_, Ao, co, Bo, eo, rfl, rfl, H3'.out.1, H3'.out.2.1, H3'.out.2.2.1, h3, hPA⟩)
        clear hgb hc2 h3 hu3 hN hmg hc3
        go_wp2_with fail
        go_meet
        case rel => exact HF.out
    case rest =>
      obtain ⟨gb, Ag, cg, Bg, eg, rfl, rfl, hSt, hV, hmb, hgb, hga⟩ := hcut
      have hd : Below wc.heap.size wc wc.drew := (Below.refl _ _).drew
      have HS := Lib.hid (And.intro (hSt.below hd H3.out.2.2.1) (And.intro (hV.below hd) (And.intro (hmb.below hd hmb.lt) (hga.below hd))))
      have hrg : ∀ u, Below w.heap.size w u → u.rangeAt bA (offA + k * 3) [.slice Ak p.1.length ck', .slice Av p.2.1.length cv, .bool p.2.2.1] := fun u hu j v hv => (hu.cell (p := ⟨bA, offA + k * 3 + j, none⟩) HCELL.out.1).trans (HR.out.2.2.2.2.2.2.2.2.1 j v hv)
      have HRG := Lib.hid hrg
      unfold pairc at hgb
      have hc0 := And.intro (hgb.below hd hgb.lt) (hrg _ HS.out.1.bel)
      clear hSt hV hmb hgb hga hd hrg
      go_upto_region 23 with fail
      refine wp_region_tree (fun u => Blk u gb 40 #[.slice Ag p.1.length cg, .slice Bg p.2.1.length eg, .bool p.2.2.1] ∧ u.rangeAt bA (offA + k * 3) [.slice Ak p.1.length ck', .slice Av p.2.1.length cv, .bool p.2.2.1]) [] (PlanT.takes [0, 1, 2, 4, 5, 6] (PlanT.takes [3, 7] (.opt 8 (PlanT.takes [9, 10] .done) .no))) (by kernel_rfl) (by kernel_rfl) (hc0) ?_
      refine wpTree_pure _ _ _ (by rfl) (by rfl) ?_
      dsimp only [List.filterMap, List.getElem?_cons_zero, List.getElem?_cons_succ]
      repeat (go_big_quiet_step (fail))
      refine wpQuiet_nil ?_
      refine wpTree_takeL _ _ _ (by rfl) (by rfl) (hc0) ?_
      dsimp only [List.filterMap, List.getElem?_cons_zero, List.getElem?_cons_succ]
      (refine wpQuiet_want' (by rfl) ?_; refine wpQuiet_load_blk (fun w' hw' => hw'.1) (by rfl) _ _ (by rfl) (by rfl) _ Tryd.underlying40 (by rfl) (sizePair) (by rfl) ?_; simp only [Act.put, List.setIfInBounds_toArray, List.set_cons_zero, List.set_cons_succ])
      (refine wpQuiet_want' (by rfl) ?_; refine wpQuiet_load_mid (fun w' hw' => hw'.2) (by rfl) _ _ (by rfl) (by rfl) _ Tryd.underlying40 (by rfl) (sizePair) (by rfl) ?_; simp only [Act.put, List.setIfInBounds_toArray, List.set_cons_zero, List.set_cons_succ])
      refine wpQuiet_nil ?_
      generalize wc.drew = v0 at HS hc0 ⊢
      refine wpTree_one _ rfl ?_
      go_wp2_with fail
      have hsp := samePair_any p p Ag Bg Ak Av cg eg ck' cv v0 HS.out.2.2.2 (HR.out.2.2.2.2.1.below HS.out.1.bel)
      unfold pairc at hsp
      refine hsp.mono ?_
      rintro e v1 ⟨rfl, hbx⟩
      rw [decide_eq_true rfl]
      have HS1 := Lib.hid (And.intro (HS.out.1.below hbx H3.out.2.2.1) (And.intro (HS.out.2.1.below hbx) (HS.out.2.2.1.below hbx HS.out.2.2.1.lt)))
      have hc1 := And.intro (hc0.1.below hbx hc0.1.lt) (rangeAt_below hc0.2 hbx)
      clear hsp hbx hc0 HS
      go_wp2_with fail
      refine TreeQ.in_ hc1 ?_
      refine wpTree_pure _ _ _ (by rfl) (by rfl) ?_
      dsimp only [List.filterMap, List.getElem?_cons_zero, List.getElem?_cons_succ]
      repeat (go_big_quiet_step (fail))
      refine wpQuiet_nil ?_
      refine wpTree_done ?_
      go_upto_region 25 with fail
      have hd : Below v1.heap.size v1 v1.drew := (Below.refl _ _).drew
      have HS2 := Lib.hid (And.intro (HS1.out.1.below hd H3.out.2.2.1) (And.intro (HS1.out.2.1.below hd) (HS1.out.2.2.below hd HS1.out.2.2.lt)))
      have hc2 := And.intro (HRG.out _ HS2.out.1.bel) (And.intro (Bytes.below HR.out.2.2.2.2.1.k HS2.out.1.bel) (And.intro (Bytes.below HA.out.2.2.2.2.1 HS2.out.1.bel) (Bytes.below HA.out.2.2.2.2.2.1 HS2.out.1.bel)))
      clear hd HS1 hc1
      have hin := inside_str fr ub p
      have hs1 := str_less p.1 fr
      have hs2 := str_less p.1 ub
      go_cut [200] from 176 to 199 (fun s200 wv => s200 = .bool (inside fr ub p) ∧ MpSt w w2.heap.size gp dp (tG 20 (m + 1)) d rb #[.int .i64 r.1, .int .i64 r.2.1, .int .i64 (l.length : Int), .slice F nf cf', .slice L nl cl'] (.slice Aa l.length ca) vs l lf ra sa rs ss wv ∧ PairsV w wv (mb + 1) u26 ((l.take k).filter (inside fr ub)) rows sp' ∧ Blk wv mb 40 (pairc (pmet (l.take k) key) A1 c1 A2 c2))
      case first =>
        cases hb1 : decide (p.1 < fr)
        case true =>
          rw [hb1] at hs1 hin
          have HIN := Lib.hid (show inside fr ub p = false from hin)
          clear hin hs2 hb1
          refine wp_region_tree (fun u => u.rangeAt bA (offA + k * 3) [.slice Ak p.1.length ck', .slice Av p.2.1.length cv, .bool p.2.2.1] ∧ Bytes u Ak p.1 ∧ Bytes u Fa fr ∧ Bytes u Ta ub) [] (PlanT.takes [0, 1, 2, 3, 6] (PlanT.takes [4, 7] (PlanT.takes [5] (PlanT.takes [8, 9, 10, 11, 12, 13, 14, 15, 16, 17, 20] (PlanT.takes [18, 21] (PlanT.takes [19] (PlanT.takes [22, 23, 24] .done))))))) (by kernel_rfl) (by kernel_rfl) (hc2) ?_
          refine wpTree_pure _ _ _ (by rfl) (by rfl) ?_
          dsimp only [List.filterMap, List.getElem?_cons_zero, List.getElem?_cons_succ]
          repeat (go_big_quiet_step (fail))
          refine wpQuiet_nil ?_
          refine wpTree_takeL _ _ _ (by rfl) (by rfl) (hc2) ?_
          dsimp only [List.filterMap, List.getElem?_cons_zero, List.getElem?_cons_succ]
          (refine wpQuiet_load_cell (fun w' hw' => hw'.1 0 _ rfl) (by rfl) _ _ (by rfl) (by rfl) _ Tryd.underlying22 (by rfl) ?_; simp only [Act.put, List.setIfInBounds_toArray, List.set_cons_zero, List.set_cons_succ])
          (refine wpQuiet_convert_str (by rfl) 22 9 5 _ (by rfl) Tryd.underlying22 Tryd.underlying5 Tryd.underlying9 (Fa) (fr.length) (cf) (fr) (by rfl) (by rfl) (fun w' hw' => hw'.2.2.1) ?_; simp only [Act.put, List.setIfInBounds_toArray, List.set_cons_zero, List.set_cons_succ])
          refine wpQuiet_nil ?_
          refine wpTree_takeL _ _ _ (by rfl) (by rfl) (hc2) ?_
          dsimp only [List.filterMap, List.getElem?_cons_zero, List.getElem?_cons_succ]
          (refine wpQuiet_convert_str (by rfl) 22 9 5 _ (by rfl) Tryd.underlying22 Tryd.underlying5 Tryd.underlying9 (Ak) (p.1.length) (ck') (p.1) (by rfl) (by rfl) (fun w' hw' => hw'.2.1) ?_; simp only [Act.put, List.setIfInBounds_toArray, List.set_cons_zero, List.set_cons_succ])
          refine wpQuiet_nil ?_
          refine wpTree_pure _ _ _ (by rfl) (by rfl) ?_
          dsimp only [List.filterMap, List.getElem?_cons_zero, List.getElem?_cons_succ]
          repeat (go_big_quiet_step (fail))
          refine wpQuiet_nil ?_
          refine wpTree_takeL _ _ _ (by rfl) (by rfl) (hc2) ?_
          dsimp only [List.filterMap, List.getElem?_cons_zero, List.getElem?_cons_succ]
          go_big_quiet_step (fail)
          go_big_quiet_step (fail)
          refine wpQuiet_nil ?_
          refine wpTree_takeL _ _ _ (by rfl) (by rfl) (hc2) ?_
          dsimp only [List.filterMap, List.getElem?_cons_zero, List.getElem?_cons_succ]
          go_big_quiet_step (fail)
          refine wpQuiet_nil ?_
          refine wpTree_pure _ _ _ (by rfl) (by rfl) ?_
          dsimp only [List.filterMap, List.getElem?_cons_zero, List.getElem?_cons_succ]
          repeat (go_big_quiet_step (fail))
          refine wpQuiet_nil ?_
          refine wpTree_done ?_
          go_wp2_with fail
          go_meet
          case rel => exact ⟨by first | (rw [HIN.out]; done) | (rw [HIN.out]; simp), HS2.out⟩
        rw [hb1] at hs1 hin
        by_cases hub : ub.length = 0
        · have k0 : ((ub.length : Int) == 0) = true := beq_iff_eq.2 (by omega)
          have k0' : (ub.length == 0) = true := beq_iff_eq.2 hub
          have HIN := Lib.hid (show inside fr ub p = true by rw [hin, decide_eq_true hub]; rfl)
          clear hin hs2 hb1 hub
          refine wp_region_tree (fun u => u.rangeAt bA (offA + k * 3) [.slice Ak p.1.length ck', .slice Av p.2.1.length cv, .bool p.2.2.1] ∧ Bytes u Ak p.1 ∧ Bytes u Fa fr ∧ Bytes u Ta ub) [] (PlanT.takes [0, 1, 2, 3, 6] (PlanT.takes [4, 7] (PlanT.takes [5] (PlanT.takes [8, 9, 10, 11, 12, 13, 14, 15, 16, 17, 20] (PlanT.takes [18, 21] (PlanT.takes [19] (PlanT.takes [22, 23, 24] .done))))))) (by kernel_rfl) (by kernel_rfl) (hc2) ?_
          refine wpTree_pure _ _ _ (by rfl) (by rfl) ?_
          dsimp only [List.filterMap, List.getElem?_cons_zero, List.getElem?_cons_succ]
          repeat (go_big_quiet_step (fail))
          refine wpQuiet_nil ?_
          refine wpTree_takeL _ _ _ (by rfl) (by rfl) (hc2) ?_
          dsimp only [List.filterMap, List.getElem?_cons_zero, List.getElem?_cons_succ]
          (refine wpQuiet_load_cell (fun w' hw' => hw'.1 0 _ rfl) (by rfl) _ _ (by rfl) (by rfl) _ Tryd.underlying22 (by rfl) ?_; simp only [Act.put, List.setIfInBounds_toArray, List.set_cons_zero, List.set_cons_succ])
          (refine wpQuiet_convert_str (by rfl) 22 9 5 _ (by rfl) Tryd.underlying22 Tryd.underlying5 Tryd.underlying9 (Fa) (fr.length) (cf) (fr) (by rfl) (by rfl) (fun w' hw' => hw'.2.2.1) ?_; simp only [Act.put, List.setIfInBounds_toArray, List.set_cons_zero, List.set_cons_succ])
          refine wpQuiet_nil ?_
          refine wpTree_takeL _ _ _ (by rfl) (by rfl) (hc2) ?_
          dsimp only [List.filterMap, List.getElem?_cons_zero, List.getElem?_cons_succ]
          (refine wpQuiet_convert_str (by rfl) 22 9 5 _ (by rfl) Tryd.underlying22 Tryd.underlying5 Tryd.underlying9 (Ak) (p.1.length) (ck') (p.1) (by rfl) (by rfl) (fun w' hw' => hw'.2.1) ?_; simp only [Act.put, List.setIfInBounds_toArray, List.set_cons_zero, List.set_cons_succ])
          refine wpQuiet_nil ?_
          refine wpTree_pure _ _ _ (by rfl) (by rfl) ?_
          dsimp only [List.filterMap, List.getElem?_cons_zero, List.getElem?_cons_succ]
          repeat (go_big_quiet_step (fail))
          refine wpQuiet_nil ?_
          refine wpTree_takeL _ _ _ (by rfl) (by rfl) (hc2) ?_
          dsimp only [List.filterMap, List.getElem?_cons_zero, List.getElem?_cons_succ]
          go_big_quiet_step (fail)
          go_big_quiet_step (fail)
          refine wpQuiet_nil ?_
          refine wpTree_takeL _ _ _ (by rfl) (by rfl) (hc2) ?_
          dsimp only [List.filterMap, List.getElem?_cons_zero, List.getElem?_cons_succ]
          go_big_quiet_step (fail)
          refine wpQuiet_nil ?_
          refine wpTree_pure _ _ _ (by rfl) (by rfl) ?_
          dsimp only [List.filterMap, List.getElem?_cons_zero, List.getElem?_cons_succ]
          repeat (go_big_quiet_step (fail))
          refine wpQuiet_nil ?_
          refine wpTree_done ?_
          go_wp2_with fail
          go_meet
          case rel => exact ⟨by first | (rw [HIN.out]; done) | (rw [HIN.out]; simp), HS2.out⟩
        · have k0 : ((ub.length : Int) == 0) = false := beq_eq_false_iff_ne.2 (by omega)
          have k0' : (ub.length == 0) = false := beq_eq_false_iff_ne.2 hub
          have HIN := Lib.hid (show inside fr ub p = decide (p.1 < ub) by rw [hin, decide_eq_false hub]; rfl)
          clear hin hb1 hub
          refine wp_region_tree (fun u => u.rangeAt bA (offA + k * 3) [.slice Ak p.1.length ck', .slice Av p.2.1.length cv, .bool p.2.2.1] ∧ Bytes u Ak p.1 ∧ Bytes u Fa fr ∧ Bytes u Ta ub) [] (PlanT.takes [0, 1, 2, 3, 6] (PlanT.takes [4, 7] (PlanT.takes [5] (PlanT.takes [8, 9, 10, 11, 12, 13, 14, 15, 16, 17, 20] (PlanT.takes [18, 21] (PlanT.takes [19] (PlanT.takes [22, 23, 24] .done))))))) (by kernel_rfl) (by kernel_rfl) (hc2) ?_
          refine wpTree_pure _ _ _ (by rfl) (by rfl) ?_
          dsimp only [List.filterMap, List.getElem?_cons_zero, List.getElem?_cons_succ]
          repeat (go_big_quiet_step (fail))
          refine wpQuiet_nil ?_
          refine wpTree_takeL _ _ _ (by rfl) (by rfl) (hc2) ?_
          dsimp only [List.filterMap, List.getElem?_cons_zero, List.getElem?_cons_succ]
          (refine wpQuiet_load_cell (fun w' hw' => hw'.1 0 _ rfl) (by rfl) _ _ (by rfl) (by rfl) _ Tryd.underlying22 (by rfl) ?_; simp only [Act.put, List.setIfInBounds_toArray, List.set_cons_zero, List.set_cons_succ])
          (refine wpQuiet_convert_str (by rfl) 22 9 5 _ (by rfl) Tryd.underlying22 Tryd.underlying5 Tryd.underlying9 (Fa) (fr.length) (cf) (fr) (by rfl) (by rfl) (fun w' hw' => hw'.2.2.1) ?_; simp only [Act.put, List.setIfInBounds_toArray, List.set_cons_zero, List.set_cons_succ])
          refine wpQuiet_nil ?_
          refine wpTree_takeL _ _ _ (by rfl) (by rfl) (hc2) ?_
          dsimp only [List.filterMap, List.getElem?_cons_zero, List.getElem?_cons_succ]
          (refine wpQuiet_convert_str (by rfl) 22 9 5 _ (by rfl) Tryd.underlying22 Tryd.underlying5 Tryd.underlying9 (Ak) (p.1.length) (ck') (p.1) (by rfl) (by rfl) (fun w' hw' => hw'.2.1) ?_; simp only [Act.put, List.setIfInBounds_toArray, List.set_cons_zero, List.set_cons_succ])
          refine wpQuiet_nil ?_
          refine wpTree_pure _ _ _ (by rfl) (by rfl) ?_
          dsimp only [List.filterMap, List.getElem?_cons_zero, List.getElem?_cons_succ]
          repeat (go_big_quiet_step (fail))
          refine wpQuiet_nil ?_
          refine wpTree_takeL _ _ _ (by rfl) (by rfl) (hc2) ?_
          dsimp only [List.filterMap, List.getElem?_cons_zero, List.getElem?_cons_succ]
          (refine wpQuiet_want' (by rfl) ?_; refine wpQuiet_load_cell (fun w' hw' => hw'.1 0 _ rfl) (by rfl) _ _ (by rfl) (by rfl) _ Tryd.underlying22 (by rfl) ?_; simp only [Act.put, List.setIfInBounds_toArray, List.set_cons_zero, List.set_cons_succ])
          (refine wpQuiet_want' (by rfl) ?_; refine wpQuiet_convert_str (by rfl) 22 9 5 _ (by rfl) Tryd.underlying22 Tryd.underlying5 Tryd.underlying9 (Ta) (ub.length) (ct) (ub) (by rfl) (by rfl) (fun w' hw' => hw'.2.2.2) ?_; simp only [Act.put, List.setIfInBounds_toArray, List.set_cons_zero, List.set_cons_succ])
          refine wpQuiet_nil ?_
          refine wpTree_takeL _ _ _ (by rfl) (by rfl) (hc2) ?_
          dsimp only [List.filterMap, List.getElem?_cons_zero, List.getElem?_cons_succ]
          (refine wpQuiet_want' (by rfl) ?_; refine wpQuiet_convert_str (by rfl) 22 9 5 _ (by rfl) Tryd.underlying22 Tryd.underlying5 Tryd.underlying9 (Ak) (p.1.length) (ck') (p.1) (by rfl) (by rfl) (fun w' hw' => hw'.2.1) ?_; simp only [Act.put, List.setIfInBounds_toArray, List.set_cons_zero, List.set_cons_succ])
          refine wpQuiet_nil ?_
          refine wpTree_pure _ _ _ (by rfl) (by rfl) ?_
          dsimp only [List.filterMap, List.getElem?_cons_zero, List.getElem?_cons_succ]
          repeat (go_big_quiet_step (fail))
          refine wpQuiet_nil ?_
          refine wpTree_done ?_
          go_wp2_with fail
          go_meet
          case rel => exact ⟨by first | (rw [HIN.out]; done) | (rw [HIN.out]; rw [hs2]) | (rw [HIN.out]; simp [hs2]), HS2.out⟩
      case rest =>
        obtain ⟨rfl, hSt, hV, hmb⟩ := hcut
        have HC := Lib.hid (And.intro hSt (And.intro hV hmb))
        clear hSt hV hmb hin hs1 hs2 hc2 HS2
        go_upto_if 200 with fail
        go_cut [26] from 154 to 218 (fun s26 wv => MpWant w w2.heap.size gp dp (tG 20 (m + 1)) d rb #[.int .i64 r.1, .int .i64 r.2.1, .int .i64 (l.length : Int), .slice F nf cf', .slice L nl cl'] (.slice Aa l.length ca) vs l lf ra sa rs ss mb ((l.take (k + 1)).filter (inside fr ub)) (pairc (pmet (l.take k) key) A1 c1 A2 c2) s26 wv)
        case first =>
          cases hin : inside fr ub p
          case false =>
            have HF := Lib.hid (show MpWant w w2.heap.size gp dp (tG 20 (m + 1)) d rb #[.int .i64 r.1, .int .i64 r.2.1, .int .i64 (l.length : Int), .slice F nf cf', .slice L nl cl'] (.slice Aa l.length ca) vs l lf ra sa rs ss mb ((l.take (k + 1)).filter (inside fr ub)) (pairc (pmet (l.take k) key) A1 c1 A2 c2) u26 wc from ⟨rows, sp', HC.out.1, by rw [HR.out.2.2.2.2.2.2.1, hin, if_neg (by simp), List.append_nil]; exact HC.out.2.1, HC.out.2.2⟩)
            clear hin
            go_wp2_with fail
            go_meet
            case rel => exact HF.out
          obtain ⟨A5, c5, hv5, -, -, -, -⟩ := OwnsC.reads HC.out.2.1.own
          have HIN := Lib.hid hin
          obtain ⟨nk, hnk⟩ : ∃ nk, nk = ((l.take k).filter (inside fr ub)).length := ⟨_, rfl⟩
          rw [← hnk] at hv5
          subst hv5
          have hnk9 : nk ≤ 64 := by
            rw [hnk]
            refine Nat.le_trans (List.length_filter_le _ _) ?_
            rw [List.length_take]
            have := HP.out.2.2.2.1
            omega
          have hrg1 := HRG.out wc HC.out.1.bel
          have hbl := (Below.refl wc.heap.size wc).alloc (Nat.le_refl _) (.cells #[.slice Ak p.1.length ck', .slice Av p.2.1.length cv, .bool p.2.2.1] 40)
          have hra : Reads (wc.alloc (.cells #[.slice Ak p.1.length ck', .slice Av p.2.1.length cv, .bool p.2.2.1] 40)) (some ⟨wc.heap.size, 0, none⟩) [.slice Ak p.1.length ck', .slice Av p.2.1.length cv, .bool p.2.2.1] := reads_new wc 40 _
          have hoa := OwnsC.ownBelow HC.out.2.1.own hbl
          rw [← hnk] at hoa
          have hmbl : mb < wc.heap.size := HC.out.2.2.lt
          have H3' := Lib.hid (And.intro hbl (And.intro hra (And.intro hoa (And.intro hnk (show mb + 1 ≤ (wc.alloc (.cells #[.slice Ak p.1.length ck', .slice Av p.2.1.length cv, .bool p.2.2.1] 40)).heap.size by simp; omega)))))
          clear hbl hra hoa hnk hin hmbl
          go_wp2_with (first
            | ((with_reducible show wpList _ _ _ ((⟨some 205, _, _, _, _, _⟩ : Oper) :: _) _ _); refine wpList_load_mid (o := ⟨some 205, _, _, _, _, _⟩) hrg1 (by rfl) _ _ (by rfl) (by rfl) _ Tryd.underlying40 (by rfl) sizePair (by rfl) ?_)
            | ((with_reducible show wpList _ _ _ ((⟨some 207, _, _, _, _, _⟩ : Oper) :: _) _ _); refine wpList_append_vals (o := ⟨some 207, _, _, _, _, _⟩) (by rfl) _ _ _ (by rfl) (mb + 1) 40 (.agg #[.slice none 0 0, .slice none 0 0, .bool false]) 3 56 Tryd.underlying41 infoPair (by rfl) (by omega) (.slice A5 nk c5) nk rows sp' (by rfl) H3'.out.2.2.1 (some ⟨wc.heap.size, 0, none⟩) 1 1 [.slice Ak p.1.length ck', .slice Av p.2.1.length cv, .bool p.2.2.1] (by rfl) (by rfl) H3'.out.2.1 (by simp [Value.oneCell']) (by simp only [maxLen]; omega) (by omega) H3'.out.2.2.2.2 ?_; intro v4 W8 sp4 ho4 hg4 hv4 hn4; refine stopped ?_)
            | fail)
          refine Stopped.mk ?_
          have hnk := H3'.out.2.2.2.1
          have hS4 := HC.out.1.below H3'.out.1 H3.out.2.2.1
          have hV4 := HC.out.2.1.below H3'.out.1
          have hm4 := HC.out.2.2.below H3'.out.1 HC.out.2.2.lt
          have hn8 : Near (Value.slice A5 nk c5).ownBlock.toList (wc.alloc (.cells #[.slice Ak p.1.length ck', .slice Av p.2.1.length cv, .bool p.2.2.1] 40)) W8 := Near.grown hg4 (fun y hy => Option.mem_toList.2 hy)
          have hlo : ∀ x ∈ (Value.slice A5 nk c5).ownBlock.toList, mb + 1 ≤ x := fun x hx => (OwnsC.lt H3'.out.2.2.1 x (Option.mem_toList.1 hx)).1
          have hS8 := hS4.own hn8 (fun x hx => ownBlk H3'.out.2.2.1 (Option.mem_toList.1 hx)) (fun x hx => by have := hlo x hx; have := HLOW.out.2.2; omega) (fun x hx hm => by have := hlo x hm; have := HLOW.out.1 x hx; omega) (fun x hx hm => by have := hlo x hm; have := HLOW.out.2.1 x hx; omega)
          have hV8 := hV4.add HR.out.2.2.2.2.1 (w' := W8) (v' := v4) (sp' := sp4) (by rw [← hnk]; exact ho4)
          have hm8 := hm4.near hn8 (fun hm => by have := hlo mb hm; omega)
          have HF := Lib.hid (show MpWant w w2.heap.size gp dp (tG 20 (m + 1)) d rb #[.int .i64 r.1, .int .i64 r.2.1, .int .i64 (l.length : Int), .slice F nf cf', .slice L nl cl'] (.slice Aa l.length ca) vs l lf ra sa rs ss mb ((l.take (k + 1)).filter (inside fr ub)) (pairc (pmet (l.take k) key) A1 c1 A2 c2) v4 W8 from ⟨_, sp4, hS8, by rw [HR.out.2.2.2.2.2.2.1, HIN.out, if_pos rfl]; exact hV8, hm8⟩)
          clear ho4 hg4 hv4 hn4 hnk hS4 hV4 hm4 hn8 hlo hS8 hV8 hm8 hrg1
          go_wp2_with fail
          go_meet
          case rel => exact HF.out
        case rest =>
          obtain ⟨rows2, sp2, hSt, hV, hmb⟩ := hcut
          have hrg1 := HRG.out wc hSt.bel
          have hkc : wc.cell? ⟨bA, offA + k * 3, none⟩ = some (.slice Ak p.1.length ck') := hrg1 0 _ rfl
          have hsb := sameBytes_any Ak Ka p.1.length key.length ck' ck p.1 key rfl rfl wc (Bytes.below HR.out.2.2.2.2.1.k hSt.bel) (Bytes.below HA.out.2.2.2.1 hSt.bel)
          have HD := Lib.hid (And.intro hSt (And.intro hV hmb))
          have hmc := hmb
          unfold pairc at hmc
          have HMS := Lib.hid HR.out.2.2.2.2.2.2.2.1
          clear hSt hV hmb
          go_wp2_with fail
          refine hsb.mono ?_
          rintro e wd ⟨rfl, hw⟩
          subst hw
          have k4 : wrap64 ((k : Int) + 1) = ((k + 1 : Nat) : Int) := by rw [w64_in (by have := HP.out.2.2.2.1; omega)]; omega
          have HK4 := Lib.hid k4
          clear k4
          by_cases hkey : p.1 = key
          · rw [decide_eq_true hkey]
            have HK := Lib.hid hkey
            clear hkey hsb hkc
            go_wp2_with (first
              | ((with_reducible show wpList _ _ _ ((⟨some 218, _, _, _, _, _⟩ : Oper) :: _) _ _); refine wpList_load_mid (o := ⟨some 218, _, _, _, _, _⟩) hrg1 (by rfl) _ _ (by rfl) (by rfl) _ Tryd.underlying40 (by rfl) sizePair (by rfl) ?_)
              | ((with_reducible show wpList _ _ _ ((⟨none, _, _, _, _, _⟩ : Oper) :: _) _ _); refine wpList_store_blk (o := ⟨none, _, _, _, _, _⟩) (hmc) (by rfl) _ _ _ (by rfl) (by rfl) (#[.slice Ak p.1.length ck', .slice Av p.2.1.length cv, .bool p.2.2.1]) (by rfl) (sizePair) (by rfl) (by rfl) (by simp [Value.oneCell']) ?_; intro w9 h9 hu9; refine stopped ?_)
              | fail)
            refine Stopped.mk ?_
            have hN : Near [mb] wd w9 := Near.upd hu9 (List.mem_singleton_self _)
            have hS9 := HD.out.1.own hN (fun x hx => ⟨_, (List.mem_singleton.1 hx) ▸ HD.out.2.2⟩) (fun x hx => by rw [List.mem_singleton.1 hx]; exact HLOW.out.2.2) (fun x hx hm => by rw [List.mem_singleton.1 hm] at hx; have := HLOW.out.1 _ hx; omega) (fun x hx hm => by rw [List.mem_singleton.1 hm] at hx; have := HLOW.out.2.1 _ hx; omega)
            have hV9 := HD.out.2.1.near hN (fun x hx hm => by rw [List.mem_singleton.1 hm] at hx; have := (OwnsC.lt HD.out.2.1.own mb hx).1; omega)
            have HF := Lib.hid (show MpRel w w2.heap.size gp dp (tG 20 (m + 1)) d rb #[.int .i64 r.1, .int .i64 r.2.1, .int .i64 (l.length : Int), .slice F nf cf', .slice L nl cl'] (.slice Aa l.length ca) vs l lf ra sa rs ss mb (inside fr ub) key u26 (.int .i64 ((k + 1 : Nat) : Int)) w9 from ⟨k + 1, rows2, sp2, Ak, ck', Av, cv, HLT.out, rfl, hS9, hV9, by rw [HMS.out, if_pos HK.out]; exact h9, by rw [HMS.out, if_pos HK.out]; exact HR.out.2.2.2.2.1⟩)
            clear hN hS9 hV9 h9 hu9 hmc hrg1
            go_wp2_with fail
            go_roundw
            case rel => rw [HK4.out]; exact HF.out
            case measure => have := HLT.out; rw [HK4.out]; exact meas_up (i := k) (m := l.length) rfl rfl this
          · rw [decide_eq_false hkey]
            have HF := Lib.hid (show MpRel w w2.heap.size gp dp (tG 20 (m + 1)) d rb #[.int .i64 r.1, .int .i64 r.2.1, .int .i64 (l.length : Int), .slice F nf cf', .slice L nl cl'] (.slice Aa l.length ca) vs l lf ra sa rs ss mb (inside fr ub) key u26 (.int .i64 ((k + 1 : Nat) : Int)) wd from ⟨k + 1, rows2, sp2, A1, c1, A2, c2, HLT.out, rfl, HD.out.1, HD.out.2.1, by rw [HMS.out, if_neg hkey]; exact HD.out.2.2, by rw [HMS.out, if_neg hkey]; exact HR.out.2.2.2.1⟩)
            clear hkey hsb hkc hmc hrg1
            go_wp2_with fail
            go_roundw
            case rel => rw [HK4.out]; exact HF.out
            case measure => have := HLT.out; rw [HK4.out]; exact meas_up (i := k) (m := l.length) rfl rfl this
end Go.Proofs.YtgkljncigbiffaaDoor

/- A list of pairs as an argument. Plain facts. Condition: the list can be read. -/
namespace Go.Proofs.YtgkljncigbiffaaDoor
open Go.RowKit
def pairSh : Sh := .cons (.slice .byte) (.cons (.slice .byte) (.cons .bool .nil))
theorem pairSh_is {w : World} {x : PairT} {cs : List Value} (h : Sh.Is w pairSh x cs) : ∃ A1 c1 A2 c2, cs = [.slice A1 x.1.length c1, .slice A2 x.2.1.length c2, .bool x.2.2.1] ∧ PairAt w x A1 c1 A2 c2 := by
  obtain ⟨c1, c2, rfl, _, hx, c3, c4, rfl, _, hz, c5, c6, rfl, _, hu, hv⟩ := h
  obtain ⟨A, c, rfl, h2, h3, h4⟩ := Sh.Is.bytes hx
  obtain ⟨B, d, rfl, h6, h7, h8⟩ := Sh.Is.bytes hz
  have hu : c5 = [.bool x.2.2.1] := hu
  have hv : c6 = [] := hv
  subst hu hv
  exact ⟨A, c, B, d, rfl, h2, by simpa [maxLen] using h3, h6, by simpa [maxLen] using h7, h4, h8⟩
theorem Pairs.both {w : World} {B : Option Addr} {ts : List PairT} {rows : List (List Value)} (h : Both (fun (d : pairSh.T) r => r.length = pairSh.size ∧ Sh.Is w pairSh d r) ts rows) (hr : Reads w B rows.flatten) : Pairs w B ts := by
  have hat : ∀ i, (hi : i < ts.length) → ∃ A1 c1 A2 c2, rows.flatten[i * 3]? = some (.slice A1 ts[i].1.length c1) ∧ rows.flatten[i * 3 + 1]? = some (.slice A2 ts[i].2.1.length c2) ∧ rows.flatten[i * 3 + 2]? = some (.bool ts[i].2.2.1) ∧ PairAt w ts[i] A1 c1 A2 c2 := by
    intro i hi
    obtain ⟨r, h1, h2, h3⟩ := both_at h i hi
    obtain ⟨A1, c1, A2, c2, rfl, hbd⟩ := pairSh_is h2
    refine ⟨A1, c1, A2, c2, ?_, ?_, ?_, hbd⟩
    · have := h3 0 (by decide)
      rw [show i * pairSh.size + 0 = i * 3 by simp [pairSh, Sh.size]] at this
      rw [this]; rfl
    · have := h3 1 (by decide)
      rw [show i * pairSh.size + 1 = i * 3 + 1 by simp [pairSh, Sh.size]] at this
      rw [this]; rfl
    · have := h3 2 (by decide)
      rw [show i * pairSh.size + 2 = i * 3 + 2 by simp [pairSh, Sh.size]] at this
      rw [this]; rfl
  intro hp
  have hne : rows.flatten ≠ [] := by
    intro e
    obtain ⟨A1, c1, A2, c2, h1, -⟩ := hat 0 hp
    rw [e] at h1; simp at h1
  obtain ⟨b, off, e, hc⟩ := hr hne
  obtain ⟨_, _, _, _, h0, -⟩ := hat 0 hp
  refine ⟨b, off, e, World.block_lt_of_cell? w _ (hc _ _ h0), fun i hi => ?_⟩
  obtain ⟨A1, c1, A2, c2, k1, k2, k3, k4⟩ := hat i hi
  exact ⟨A1, c1, A2, c2, hc _ _ k1, by rw [Nat.add_assoc]; exact hc _ _ k2, by rw [Nat.add_assoc]; exact hc _ _ k3, k4⟩
end Go.Proofs.YtgkljncigbiffaaDoor

/- TableMap: for every input the law returns true and the arguments read as they did. Condition: the table of Go's library is as its initialiser lays it (tied to the program's text by the card). -/
namespace Go.Proofs.YtgkljncigbiffaaDoor
open Go.ChangeShapes Go.WideShapes Go.ChangeAt Go.RowKit
theorem tableMap_args (A B C D : Option Addr) (c d e f : Nat) (l : List PairT) (k m n : List UInt8) (rows : List (List Value)) (W : World) (hb : Both (fun (d : pairSh.T) r => r.length = pairSh.size ∧ Sh.Is W pairSh d r) l rows) (hr : Reads W A rows.flatten)
    (h1 : l.length ≤ c) (h2 : c ≤ 9223372036854775807) (hk : Bytes W B k) (hm : Bytes W C m) (hn : Bytes W D n) (hT : Tab W) :
    Calls Tryd.prog 8 #[.slice A l.length c, .slice B k.length d, .slice C m.length e, .slice D n.length f] W fun e w' => e = .returned (.bool true) ∧ Below W.heap.size W w' :=
  tableMap_law A B C D c d e f l k m n W hT (Pairs.both hb hr) (Nat.le_trans h1 h2) hk hm hn
set_option maxRecDepth 100000 in
theorem tableMap_lifted (os : Os) (started : os.Started) (H : Type) (enc : TypeId × Value → H) :
    ReturnsInHanded {} Tryd.checked os 8 .any (fun w args => (Rows.tableMapSpec.pre enc Tryd.prog Tryd.f8 [] false w args ∧ laidMetH Tryd.prog laid1 w) ∧ sizedMet enc Tryd.prog Tryd.f8 (OpenSpec.ofChange Rows.tableMapSpec) false w args) (Rows.tableMapSpec.post enc Tryd.prog Tryd.f8 false true false false) := by
  refine returnsInHanded_of_change_and (C := Tryd.checked) (X := fun w _ => laidMetH Tryd.prog laid1 w) (fun _ _ _ hh h => h.of_heap hh) Tryd.own started (by kernel_rfl) Tryd.func8
    (ChangeSpec.witness_shaped (enc := enc) (C := Tryd.checked) (os := os) (X := fun w _ => laidMetH Tryd.prog laid1 w) false (World.doorLaid Tryd.prog 400 os) #[.slice none 0 0, .slice none 0 0, .slice none 0 0, .slice none 0 0] 8 rfl (World.shaped_of_RefB (by kernel_rfl) (by kernel_rfl)) (by kernel_rfl) (by kernel_rfl) (by kernel_rfl) (door_met os _)) ?_
  intro W base args ds gs before hval0 hW _ _ hL _
  have hT : Tab W := of_laid hL
  have hval : ∀ (j : Nat) t v, Tryd.f8.params[j]? = some t → args[j]? = some v → Value.okWide Tryd.prog W .any base t v := hval0
  have hW' := hW
  obtain ⟨p, q, hA0, hV, rfl, hfz, hnd⟩ := hW
  have hA : DataW.TrodAll enc Tryd.prog W 0 (fun _ => true) true Tryd.f8.params.toList args.toList ds p := hA0
  rw [Tryd.params8] at hA hval
  obtain ⟨v0, v1, v2, v3, d0, d1, d2, d3, p0, p1, p2, p3, rfl, rfl, rfl, h0, h1, h2, h3⟩ := trodAll_four hA
  obtain ⟨rfl, rfl⟩ := trodVars_none hV
  have h0k := h0
  have h1k := h1
  have h2k := h2
  have h3k := h3
  obtain ⟨l, hx0⟩ := Sh.open_ (P := Tryd.prog) (.slice pairSh) (by kernel_rfl) h0
  obtain ⟨A, c, rows0, rfl, hlc, hcm, hb1, hr1⟩ := arg_slice Tryd.underlying41 (hval 0 41 v0 rfl rfl) hx0
  obtain ⟨k, hx1⟩ := Sh.open_ (P := Tryd.prog) (.slice .byte) (by kernel_rfl) h1
  obtain ⟨B, d, rfl, hkd, hdm, hb2⟩ := arg_bytes Tryd.underlying22 (hval 1 22 v1 rfl rfl) hx1
  obtain ⟨m, hx2⟩ := Sh.open_ (P := Tryd.prog) (.slice .byte) (by kernel_rfl) h2
  obtain ⟨C, e, rfl, hme, hem, hb3⟩ := arg_bytes Tryd.underlying22 (hval 2 22 v2 rfl rfl) hx2
  obtain ⟨n, hx3⟩ := Sh.open_ (P := Tryd.prog) (.slice .byte) (by kernel_rfl) h3
  obtain ⟨D, f, rfl, hnf, hfm, hb4⟩ := arg_bytes Tryd.underlying22 (hval 3 22 v3 rfl rfl) hx3
  clear hA0 hval0
  simp only [List.append_nil] at hW'
  have hlt : ∀ x ∈ p0 ++ p1 ++ p2 ++ p3, x.block < W.heap.size := fun x hx => by simpa using hW'.lt x hx
  refine (tableMap_args A B C D c d e f l k m n _ W hb1 hr1 hlc hcm hb2 hb3 hb4 hT).mono fun e W' ⟨he, hw⟩ => ?_
  subst he
  refine ⟨_, rfl, _, _, _, [], p0 ++ p1 ++ p2 ++ p3, [], hW', ?_, ?_, rfl, hw.frame _, fun h => by cases h⟩
  · exact trodAll_mk1 (shut_bool Tryd.underlying4 true)
  · simp only [List.append_assoc]; exact trodAll_mk4 (Below.trod Tryd.laidOut (by kernel_rfl) (of_decide_eq_true (by kernel_rfl)) h0k hw (fun x hx => hlt x (by simp [hx]))) (Below.trod Tryd.laidOut (by kernel_rfl) (of_decide_eq_true (by kernel_rfl)) h1k hw (fun x hx => hlt x (by simp [hx]))) (Below.trod Tryd.laidOut (by kernel_rfl) (of_decide_eq_true (by kernel_rfl)) h2k hw (fun x hx => hlt x (by simp [hx]))) (Below.trod Tryd.laidOut (by kernel_rfl) (of_decide_eq_true (by kernel_rfl)) h3k hw (fun x hx => hlt x (by simp [hx])))
theorem tableMap_holds : Rows.TableMapSaid :=
  OpenClaim.holds_of_wide 8 Tryd.f8 rfl rfl rfl rfl rfl rfl rfl ⟨rfl, rfl, rfl, rfl, rfl⟩ rfl rfl rfl rfl rfl (by kernel_rfl) Tryd.func8 (by kernel_rfl)
    (of_decide_eq_true (by kernel_rfl)) (by unfold Func.isWrapper; rw [if_neg (by decide +kernel)]; exact ⟨rfl, rfl⟩)
    (fun os started H enc _ => tableMap_lifted os started H enc)
theorem tableMap_card : Rows.TableMapCardSaid :=
  Claim7.holds_tied_plain_at .later [] [.data] true Rows.tableMapCard.stood.harness false
    tableMap_holds (fun _ h => by cases h) (by kernel_rfl) (fun _ h => by cases h) tableMap_row_tie rfl ⟨rfl, rfl⟩ (by kernel_rfl) rfl
    (fun f fn hf hfn => by
      obtain rfl : f = 8 := Option.some.inj ((show Tryd.prog.funcNamed Rows.tableMapRow.func = some 8 by kernel_rfl).symm.trans hf) |>.symm
      obtain rfl : fn = Tryd.f8 := (Option.some.inj (Tryd.func8.symm.trans hfn)).symm
      exact ⟨by kernel_rfl, fun j t ht => by
        rw [Tryd.params8] at ht
        have hm : t ∈ [41, 22] := by simpa using Array.mem_of_getElem? ht
        have hall : ([41, 22].all fun u => !Tryd.prog.wantsStandIn u) = true := by kernel_rfl
        exact (show Tryd.prog.wantsStandIn t = false by simpa using List.all_eq_true.1 hall t hm)⟩)
    (by kernel_rfl)
end Go.Proofs.YtgkljncigbiffaaDoor
