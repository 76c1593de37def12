/- TableTurned: what is told of a table of which bytes are turned. Conditions: the library's table is there; the arguments can be read. -/
import Derived.Test.YtgkljncigbiffaaDoorMTableTurned22
import Derived.Test.YtgkljncigbiffaaDoorTie
import Derived.Test.YtgkljncigbiffaaDoorCards
import Derived.SevenTiedAt
namespace Go.Proofs.YtgkljncigbiffaaDoor
open Go.RowKit
set_option maxRecDepth 100000 in
set_option maxHeartbeats 4000000 in
theorem tableTurned_early (Al Ka Ta : Option Addr) (cl ck ct : Nat) (l : List PairT) (key : List UInt8) (ts : List Turn3) (w : World) (hT : Tab w) (hP : Pairs w Al l) (hll : l.length ≤ 9223372036854775807) (h : plarge l 64 = true ∨ 200 < key.length ∨ 20 < ts.length) :
    Calls Tryd.prog 6 #[.slice Al l.length cl, .slice Ka key.length ck, .slice Ta ts.length ct] w fun e w' => e = .returned (.bool true) ∧ Below w.heap.size w w' := by
  have HT := Lib.hid (And.intro hT (And.intro hP hll))
  have HH := Lib.hid h
  clear hT hP hll h
  go_enter Tryd.func6, Tryd.ntmps6
  go_wp2_with fail
  refine (tableKnown_law w HT.out.1).mono ?_
  rintro e w1 ⟨rfl, hb1⟩
  have H1 := Lib.hid hb1
  clear hb1
  go_wp2_with fail
  refine (largePairs_any Al cl l 64 (by omega) HT.out.2.2 w1 (HT.out.2.1.below H1.out)).mono ?_
  rintro e w2 ⟨rfl, hw⟩
  subst hw
  have h := HH.out
  generalize plarge l 64 = b1 at h ⊢
  cases b1
  case true =>
    clear h
    go_wp2
    go_ret
    exact ⟨rfl, H1.out⟩
  by_cases h2 : 200 < key.length
  · have k1 : decide ((key.length : Int) > 200) = true := decide_eq_true (by omega)
    have k2 : decide (200 < key.length) = true := decide_eq_true h2
    clear h h2
    go_wp2
    go_ret
    exact ⟨rfl, H1.out⟩
  have h3 : 20 < ts.length := by
    rcases h with h | h | h
    · cases h
    · exact absurd h h2
    · exact h
  have k1 : decide ((key.length : Int) > 200) = false := decide_eq_false (by omega)
  have k2 : decide (200 < key.length) = false := decide_eq_false h2
  have k3 : decide ((ts.length : Int) > 20) = true := decide_eq_true (by omega)
  have k4 : decide (20 < ts.length) = true := decide_eq_true h3
  clear h h2 h3
  go_wp2
  go_ret
  exact ⟨rfl, H1.out⟩
set_option maxRecDepth 100000 in
set_option maxHeartbeats 16000000 in
theorem tableTurned_law (Al Ka Ta : Option Addr) (cl ck ct : Nat) (l : List PairT) (key : List UInt8) (ts : List Turn3) (w : World) (hT : Tab w) (hP : Pairs w Al l) (hll : l.length ≤ 9223372036854775807) (hK : Bytes w Ka key) (hTs : Turns3 w Ta ts) :
    Calls Tryd.prog 6 #[.slice Al l.length cl, .slice Ka key.length ck, .slice Ta ts.length ct] w fun e w' => e = .returned (.bool true) ∧ Below w.heap.size w w' := by
  by_cases hbig : plarge l 64 = true ∨ 200 < key.length ∨ 20 < ts.length
  · exact tableTurned_early Al Ka Ta cl ck ct l key ts w hT hP hll hbig
  have hb1 : plarge l 64 = false := by cases h : plarge l 64 with
    | false => rfl
    | true => exact absurd (.inl h) hbig
  have hb2 : key.length ≤ 200 := by omega
  have hb3 : ts.length ≤ 20 := by omega
  have HA := Lib.hid (And.intro hT (And.intro hP (And.intro hll (And.intro hK (And.intro hTs (And.intro hb1 (And.intro hb2 hb3)))))))
  have k1 : decide ((key.length : Int) > 200) = false := decide_eq_false (by omega)
  have k2 : decide (200 < key.length) = false := decide_eq_false (by omega)
  have k3 : decide ((ts.length : Int) > 20) = false := decide_eq_false (by omega)
  have k4 : decide (20 < ts.length) = false := decide_eq_false (by omega)
  clear hbig hb1 hb2 hb3 hT hP hll hK hTs
  go_enter Tryd.func6, Tryd.ntmps6
  go_wp2_with fail
  refine (tableKnown_law w HA.out.1).mono ?_
  rintro e w1 ⟨rfl, hb1⟩
  have H1 := Lib.hid hb1
  clear hb1
  go_wp2_with fail
  refine (largePairs_any Al cl l 64 (by omega) HA.out.2.2.1 w1 (HA.out.2.1.below H1.out)).mono ?_
  rintro e w2 ⟨rfl, hw⟩
  subst hw
  rw [HA.out.2.2.2.2.2.1]
  go_wp2_with fail
  refine (tmade_any 20 (by omega) (by omega) w2).mono ?_
  rintro e w3 ⟨gp, dp, rfl, hG, hbx⟩
  have H3 := Lib.hid (And.intro (show GX w2.heap.size [] w3 gp dp (tG 20 0) (Dsk.new (104 + 4 * 20)) from GX.of_GL hG hbx.size) (And.intro (H1.out.trans (hbx.mono H1.out.size)) (And.intro H1.out.size (show l.length ≤ 65536 by
    have := HA.out.2.2.2.2.2.1
    unfold plarge at this
    rw [Bool.or_eq_false_iff, decide_eq_false_iff_not] at this
    omega))))
  clear hG hbx k1 k2 k3 k4
  go_wp2_with fail
  -- it is built, or not
  by_cases hc : (ppack l).1 = 0
  case neg =>
    have hbd := xtbuild_bad H3.out.1 Al cl l H3.out.2.2.2 (HA.out.2.1.below H3.out.2.1) 3 ((ppack_two l).resolve_left hc)
    clear hc
    refine hbd.mono ?_
    rintro e w4 ⟨rfl, hG, hS⟩
    have H4 := Lib.hid ((H3.out.2.1.trans (hS.bel.mono H3.out.2.2.1)).alloc (Nat.le_trans H3.out.2.1.size hS.so.size) (.cells #[.int .i64 0, .int .i64 0, .int .i64 0, .slice none 0 0, .slice none 0 0] 35))
    clear hbd hG hS
    go_wp2
    go_ret
    exact ⟨rfl, H4.out⟩
  obtain ⟨D, hD0, hPu, hTO, hfl, hm15, hcn, hl64, hpw, hpk, hso, hne, hTW⟩ := map_plain hc
  obtain ⟨m, hm⟩ : ∃ m, m = (ppack l).2.length := ⟨_, rfl⟩
  have hbu := xtbuild (G := tG 20) (D := D) (R := tk 3) (root := tk 3 (ppack l).2.length) (s := 3) (hD0 ▸ H3.out.1) (Below.refl w3.heap.size w3) (HA.out.1.below H3.out.2.1) (Nat.lt_of_lt_of_le HA.out.1.1 H3.out.2.2.1) Al cl l H3.out.2.2.2 (HA.out.2.1.below H3.out.2.1) (fun X hX => (pairsX_of HA.out.2.1 X (fun x hx => Nat.le_trans H3.out.2.2.1 (hX x hx).1)).near (Near.below H3.out.2.1)) hc (by decide) (by decide) (by rw [hcn]; omega) hPu
  have hlk : ∀ i, i ≤ (ppack l).2.length → ∃ b, glook (tG 20 ((ppack l).2.length + 1)) (D ((ppack l).2.length + 1)) none (tk 3 i) = (0, some b, tG 20 ((ppack l).2.length + 1)) := fun i hi => by
    have hkl := kbytes_le ((ppack l).2.map gkey) (fun k hk => (gkey_ok hc hk).2)
    rw [List.length_map] at hkl
    exact ⟨_, hTW.look (by decide) (by decide) (by rw [List.length_map]; omega) (fun b hb => gbody_ok hc hb) (by omega) (by omega) (by omega) (by omega) rfl⟩
  have hrm := hTW.rm
  have hTA : ∀ g : Grd, g.n = 20 → TOpen g (D ((ppack l).2.length + 1)) (tk 3 (ppack l).2.length) (ppack l).2 ((List.range (ppack l).2.length).map (tk 3)) := fun g hg => (table_stands hc hTW (by decide) (by decide) (by omega) (by omega) hg).1
  rw [← hm] at hbu hTO hm15 hlk hrm hTA
  obtain ⟨r, hr⟩ : ∃ r : RefT, r = tk 3 m := ⟨_, rfl⟩
  obtain ⟨G, hG⟩ : ∃ G, G = (ppack l).2 := ⟨_, rfl⟩
  obtain ⟨d, hd⟩ : ∃ d, d = D (m + 1) := ⟨_, rfl⟩
  have HTA := Lib.hid hTA
  rw [← hr] at hbu hTO
  rw [← hd] at hbu hTO hlk hrm HTA
  rw [← hG] at hTO hfl HTA
  have HP := Lib.hid (And.intro hTO (And.intro hfl (And.intro hm15 (And.intro hl64 (And.intro hrm (And.intro hlk (And.intro hr hpk)))))))
  clear hPu hTO hfl hm hm15 hcn hl64 hpw hpk hso hne hc hD0 hG hd hr hlk hrm hTA hTW
  unfold runv at hbu
  refine hbu.mono ?_
  rintro e w5 ⟨F, L, nf, cf, nl, cl', rfl, hG, hS⟩
  have hb6 := (Below.refl w5.heap.size w5).alloc (Nat.le_refl _) (.cells #[.int .i64 r.1, .int .i64 r.2.1, .int .i64 (l.length : Int), .slice F nf cf, .slice L nl cl'] 35)
  have hr6 := Blk.new w5 35 #[.int .i64 r.1, .int .i64 r.2.1, .int .i64 (l.length : Int), .slice F nf cf, .slice L nl cl']
  have H6 := Lib.hid (And.intro (hG.belowT hb6).1 (And.intro (H3.out.2.1.trans ((hS.bel.mono H3.out.2.2.1).trans ((hG.belowT hb6).2.bel.mono H3.out.2.2.1))) hr6))
  clear hbu hG hS hb6
  go_wp2_with (first
    | ((with_reducible show wpList _ _ _ ((⟨some 64, _, _, _, _, _⟩ : Oper) :: _) _ _); refine wpList_load_blk (o := ⟨some 64, _, _, _, _, _⟩) (hr6) (by rfl) _ _ (by rfl) (by rfl) _ Tryd.underlying35 (by rfl) (sizeRun) (by rfl) ?_)
    | fail)
  generalize w5.alloc (.cells #[.int .i64 r.1, .int .i64 r.2.1, .int .i64 (l.length : Int), .slice F nf cf, .slice L nl cl'] 35) = w6 at H6 ⊢
  generalize w5.heap.size = rb at H6 ⊢
  clear hr6
  -- what a key's pair is
  have hgt := HP.out.1.getc key
  rw [HP.out.2.1] at hgt
  have hg := xtget H6.out.1 (by simp [tG]) r (l.length : Int) F L nf cf nl cl' Ka ck key (Bytes.below HA.out.2.2.2.1 H6.out.2.1) (HP.out.1.mono key) hgt
  unfold runv at hg
  refine hg.mono ?_
  rintro e w7 ⟨kv, vv, rfl, hO, hG, hS⟩
  obtain ⟨cw, hcw⟩ : ∃ cw, cw = pcode (pfind l key) := ⟨_, rfl⟩
  obtain ⟨pm, hpm⟩ : ∃ pm, pm = (pfind l key).getD pnone := ⟨_, rfl⟩
  rw [← hcw, ← hpm]
  rw [← hpm] at hO
  obtain ⟨Ao, co, Bo, eo, ekv, evv, -⟩ := hO.at_
  subst ekv evv
  have HCW := Lib.hid (And.intro hcw hpm)
  have hb8 := (Below.refl w7.heap.size w7).alloc (Nat.le_refl _) (.cells #[.slice Ao pm.1.length co, .slice Bo pm.2.1.length eo, .bool pm.2.2.1] 40)
  have hr8 := (hS.so.blk H6.out.2.2 (by unfold NG; decide)).below hb8 (hS.so.blk H6.out.2.2 (by unfold NG; decide)).lt
  have H8 := Lib.hid (And.intro (hG.belowT hb8).1 (And.intro (H6.out.2.1.trans ((hS.bel.mono H3.out.2.2.1).trans ((hG.belowT hb8).2.bel.mono H3.out.2.2.1))) (And.intro hr8 (And.intro (Blk.new w7 40 #[.slice Ao pm.1.length co, .slice Bo pm.2.1.length eo, .bool pm.2.2.1]) ((hO.below hb8).base_ (Nat.zero_le _))))))
  clear hgt hg hO hG hS hcw hpm hb8
  go_wp2_with (first
    | ((with_reducible show wpList _ _ _ ((⟨some 71, _, _, _, _, _⟩ : Oper) :: _) _ _); refine wpList_load_blk (o := ⟨some 71, _, _, _, _, _⟩) (hr8) (by rfl) _ _ (by rfl) (by rfl) _ Tryd.underlying35 (by rfl) (sizeRun) (by rfl) ?_)
    | fail)
  generalize w7.alloc (.cells #[.slice Ao pm.1.length co, .slice Bo pm.2.1.length eo, .bool pm.2.2.1] 40) = w8 at H8 ⊢
  generalize w7.heap.size = wb at H8 ⊢
  clear hr8
  -- its blocks
  have hbk := xtblocks H8.out.1 (by simp [tG]) r (l.length : Int) F L nf cf nl cl' HP.out.1.blocks
  unfold runv at hbk
  refine hbk.mono ?_
  rintro e w9 ⟨Ar, cr, rfl, hRl, -, -, hGy, -, hS⟩
  rw [HP.out.2.2.2.2.2.2.1] at hRl
  have hlen : (r :: (List.range m).map (tk 3)).length = m + 1 := by simp
  rw [hlen]
  obtain ⟨bl, offl, rfl, hbl, -⟩ := hRl (by simp)
  have H9 := Lib.hid (And.intro (show TuSt w w2.heap.size gp dp (tG 20 (m + 1)) d rb #[.int .i64 r.1, .int .i64 r.2.1, .int .i64 (l.length : Int), .slice F nf cf, .slice L nl cl'] bl offl (tbl m) wb (.slice Ao pm.1.length co) (.slice Bo pm.2.1.length eo) pm w9 from ⟨hGy _ rfl, H8.out.2.1.trans (hS.bel.mono H3.out.2.2.1), hS.so.blk H8.out.2.2.1 (by unfold NG; decide), hRl, hS.so.blk H8.out.2.2.2.1 (by unfold NG; decide), hS.so.pairO H8.out.2.2.2.2⟩) hbl)
  have k5 : (((m + 1 : Nat) : Int) == 0) = false := beq_eq_false_iff_ne.2 (by omega)
  have k6 : ((m : Int) + 1 == 0) = false := beq_eq_false_iff_ne.2 (by omega)
  clear hbk hRl hGy hS hlen hbl H8
  go_wp2_with fail
  -- their bytes are kept
  obtain ⟨bS, hbS⟩ : ∃ bS, bS = w9.heap.size := ⟨_, rfl⟩
  have HB := Lib.hid (And.intro (show bl < bS by rw [hbS]; exact H9.out.2) (And.intro (show w.heap.size ≤ bS by rw [hbS]; exact H9.out.1.bel.size) (show bS ≤ w9.heap.size by rw [hbS]; exact Nat.le_refl _)))
  clear hbS k5 k6
  go_loopw [17, 18] (fun v17 v18 wr => TuRaw w w2.heap.size gp dp (tG 20 (m + 1)) d rb #[.int .i64 r.1, .int .i64 r.2.1, .int .i64 (l.length : Int), .slice F nf cf, .slice L nl cl'] bl offl (tbl m) wb (.slice Ao pm.1.length co) (.slice Bo pm.2.1.length eo) pm bS v17 v18 wr ∧ bS ≤ wr.heap.size) (fun _ v18 _ => m + 1 - (intOf v18).toNat)
  case atStart => exact ⟨⟨0, [], [], Nat.zero_le _, rfl, H9.out.1, OwnsC.nil _ _ _ _, fun i _ h => absurd h (by omega)⟩, HB.out.2.2⟩
  case round =>
    obtain ⟨⟨k, rows, sp', hk, rfl, hSt, hRw⟩, hbs⟩ := hrel
    rw [tbl_length] at hk
    by_cases hlt : k < m + 1
    case neg =>
      obtain rfl : k = m + 1 := by omega
      obtain ⟨A5, c5, hv5, -, -, -, -⟩ := OwnsC.reads hRw.own
      subst hv5
      have HS1 := Lib.hid (And.intro hSt (And.intro (show RawsAt d (tbl m) wr bS (.slice A5 (m + 1) c5) (tbl m).length rows sp' by rw [tbl_length]; exact hRw) hbs))
      clear hSt hRw hbs hk hlt
      go_wp2_with fail
      -- bytes are turned
      simp only [show ((m + 1 : Nat) : Int) = (m : Int) + 1 from rfl]
      go_loopw [21] (fun v21 wr => TuTrn w w2.heap.size gp dp (tG 20 (m + 1)) d rb #[.int .i64 r.1, .int .i64 r.2.1, .int .i64 (l.length : Int), .slice F nf cf, .slice L nl cl'] bl offl (tbl m) wb (.slice Ao pm.1.length co) (.slice Bo pm.2.1.length eo) pm bS (.slice A5 (m + 1) c5) rows sp' ts.length v21 wr ∧ bS ≤ wr.heap.size) (fun v21 _ => ts.length - (intOf v21).toNat)
      case atStart => exact ⟨⟨0, d, Nat.zero_le _, rfl, HS1.out.1, HP.out.2.2.2.2.1, HS1.out.2.1⟩, HS1.out.2.2⟩
      case round =>
        obtain ⟨⟨k, d1, hk, rfl, hSt, hRm, hRw⟩, hbs⟩ := hrel
        by_cases hlt : k < ts.length
        case neg =>
          obtain rfl : k = ts.length := by omega
          have HS2 := Lib.hid (And.intro hSt (And.intro hRm (And.intro hRw hbs)))
          clear hSt hRm hRw hbs hk hlt
          go_wp2_with fail
          -- each block is looked at again
          go_loopw [23] (fun v23 wr => TuChk w w2.heap.size gp dp (tG 20 (m + 1)) d d1 rb #[.int .i64 r.1, .int .i64 r.2.1, .int .i64 (l.length : Int), .slice F nf cf, .slice L nl cl'] bl offl (tbl m) wb (.slice Ao pm.1.length co) (.slice Bo pm.2.1.length eo) pm bS (.slice A5 (m + 1) c5) rows sp' v23 wr) (fun v23 _ => m + 1 - (intOf v23).toNat)
          case atStart => exact ⟨0, Nat.zero_le _, rfl, HS2.out.1, HS2.out.2.2.1, fun j _ h => absurd h (by omega)⟩
          case round =>
            obtain ⟨k, hk, rfl, hSt, hRw, hch⟩ := hrel
            rw [tbl_length] at hk
            by_cases hlt : k < m + 1
            case neg =>
              obtain rfl : k = m + 1 := by omega
              have hsane : Sane d d1 m := ⟨HS2.out.2.1, fun i hi => by
                obtain ⟨j, hj, e⟩ := tbl_all m i hi
                have h := hch j hj (by rw [tbl_length] at hj; exact hj)
                rw [e] at h
                exact h⟩
              have hr := HP.out.2.2.2.2.2.2.1
              obtain ⟨cd, p2, g2, hg2, hn2, hw2, hcase⟩ := hsane.get HP.out.2.2.2.2.1.out HP.out.2.2.1 (g := tG 20 (m + 1)) rfl (by rw [← hr]; rw [hr]; exact HTA.out _ rfl) key
              have hmono := hsane.mono HP.out.2.2.2.2.1.out HP.out.2.2.1 (g := tG 20 (m + 1)) rfl (HTA.out _ rfl) key
              have hall := hsane.all HP.out.2.2.2.2.1.out HP.out.2.2.1 (g := g2) hn2 (HTA.out _ hn2)
              rw [HP.out.2.1] at hcase
              rw [← hr] at hg2 hmono hall
              have HE := Lib.hid (And.intro hSt (And.intro hcase (And.intro hall (show g2.W.length ≤ 1099511627776 from Nat.le_trans hw2 (by simp [tG])))))
              have hg := xtget hSt.grid (by simp [tG]) r (l.length : Int) F L nf cf nl cl' Ka ck key (Bytes.below HA.out.2.2.2.1 hSt.bel) hmono hg2
              unfold runv at hg
              have hre := hSt.run
              clear hsane hr hg2 hn2 hw2 hcase hmono hall hSt hRw hch hk hlt
              go_wp2_with (first
                | ((with_reducible show wpList _ _ _ ((⟨some 180, _, _, _, _, _⟩ : Oper) :: _) _ _); refine wpList_load_blk (o := ⟨some 180, _, _, _, _, _⟩) (hre) (by rfl) _ _ (by rfl) (by rfl) _ Tryd.underlying35 (by rfl) (sizeRun) (by rfl) ?_)
                | fail)
              refine hg.mono ?_
              rintro e w20 ⟨kv2, vv2, rfl, hO, hG, hS⟩
              obtain ⟨Ag, cg, Bg, eg, ekv, evv, -⟩ := hO.at_
              subst ekv evv
              have hb8 := (Below.refl w20.heap.size w20).alloc (Nat.le_refl _) (.cells #[.slice Ag p2.1.length cg, .slice Bg p2.2.1.length eg, .bool p2.2.2.1] 40)
              have H20 := Lib.hid (And.intro ((HE.out.1.ts hG hS H3.out.2.2.1).below hb8 H3.out.2.2.1) (And.intro (Blk.new w20 40 #[.slice Ag p2.1.length cg, .slice Bg p2.2.1.length eg, .bool p2.2.2.1]) ((hO.below hb8).base_ (Nat.zero_le _))))
              have hre := H20.out.1.run
              clear hg hO hG hS hb8
              go_wp2_with (first
                | ((with_reducible show wpList _ _ _ ((⟨some 187, _, _, _, _, _⟩ : Oper) :: _) _ _); refine wpList_load_blk (o := ⟨some 187, _, _, _, _, _⟩) (hre) (by rfl) _ _ (by rfl) (by rfl) _ Tryd.underlying35 (by rfl) (sizeRun) (by rfl) ?_)
                | fail)
              generalize w20.alloc (.cells #[.slice Ag p2.1.length cg, .slice Bg p2.2.1.length eg, .bool p2.2.2.1] 40) = w21 at H20 hre ⊢
              generalize w20.heap.size = gb at H20 ⊢
              have hal : Calls Tryd.prog 12 #[.pointer (some ⟨gp, 0, none⟩), .agg (runv r (l.length : Int) F L nf cf nl cl')] w21 fun e w' => ∃ (A : Option Addr) (n c : Nat) (cj : Int) (g3 : Grd), e = .returned (.tuple #[.slice A n c, .int .i64 cj]) ∧ (cj = 13 ∨ cj = 0 ∧ n = l.length ∧ Pairs w' A l) ∧ GX w2.heap.size [bl] w' gp dp g3 d1 ∧ TS w2.heap.size [bl] w21 w' := by
                rcases HE.out.2.2.1 with h | h | ⟨h, M, hM, h1, h2⟩
                · refine (xtall_fail H20.out.1.grid HE.out.2.2.2 r (l.length : Int) F L nf cf nl cl' (by decide) h).mono ?_
                  rintro e w' ⟨rfl, hG, hS⟩
                  exact ⟨none, 0, 0, 13, _, rfl, .inl rfl, hG, hS⟩
                · refine (xtall H20.out.1.grid HE.out.2.2.2 r (l.length : Int) F L nf cf nl cl' l h.zero _ h.data (h.items.trans HP.out.2.1) (by have := HP.out.2.2.2.1; omega)).mono ?_
                  rintro e w' ⟨v, rw1, rs1, rfl, hPU, hG, hS⟩
                  obtain ⟨A, c, rfl, -, -, hPP, -⟩ := hPU.pairs
                  exact ⟨A, l.length, c, 0, _, rfl, .inr ⟨rfl, rfl, hPP⟩, hG, hS⟩
                · refine (xtall_bad H20.out.1.grid HE.out.2.2.2 r (l.length : Int) F L nf cf nl cl' h (fun i => G.getD i []) M (by simpa using hM) (show (13 : Int) ≠ 0 by decide) (fun i hi hiM => by simpa using h1 i hiM) (by simpa using h2) ?_).mono ?_
                  · have h3 := titems_le (fun _ => true) (fun i => G.getD i []) M
                    obtain ⟨T, hT⟩ := titems_pre (fun _ => true) (fun i => G.getD i []) M m (Nat.le_of_lt hM)
                    have h4 := HP.out.1.items
                    rw [HP.out.1.op] at h4
                    simp only [List.length_map, List.length_range] at h4
                    rw [hT, HP.out.2.1] at h4
                    have h5 := congrArg List.length h4
                    rw [List.length_append] at h5
                    have := HP.out.2.2.2.1
                    omega
                  · rintro e w' ⟨rfl, hG, hS⟩
                    exact ⟨none, 0, 0, 13, _, rfl, .inl rfl, hG, hS⟩
              unfold runv at hal
              refine hal.mono ?_
              rintro e w22 ⟨A3, n3, c3, cj, g3, rfl, hcj, hG, hS⟩
              have H22 := Lib.hid (And.intro (H20.out.1.ts hG hS H3.out.2.2.1) (And.intro (hS.so.blk H20.out.2.1 (by unfold NG; decide)) (And.intro (hS.so.pairO H20.out.2.2) hcj)))
              clear hal hG hS hcj hre H20
              rcases H22.out.2.2.2 with hcj | ⟨hcj, hn3, hP3⟩
              · subst hcj
                have H23 := Lib.hid (And.intro H22.out.1 (And.intro H22.out.2.1 H22.out.2.2.1))
                clear H22
                by_cases h13 : cd = 13
                · subst h13
                  go_wp2_with fail
                  go_ret
                  exact ⟨rfl, H23.out.1.bel⟩
                · have hcs := HE.out.2.1.resolve_left h13
                  have ecw : cd = cw := hcs.1.trans HCW.out.1.symm
                  have epm : p2 = pm := hcs.2.trans HCW.out.2.symm
                  have kc : (cd == 13) = false := beq_eq_false_iff_ne.2 h13
                  clear h13 hcs
                  subst ecw epm
                  have hq1 := H23.out.2.1
                  have hq2 := H23.out.1.was
                  go_wp2_with (first
                    | ((with_reducible show wpList _ _ _ ((⟨some 212, _, _, _, _, _⟩ : Oper) :: _) _ _); refine wpList_want (by rfl) ?_; refine wpList_load_blk (o := ⟨some 212, _, _, _, _, _⟩) (hq1) (by rfl) _ _ (by rfl) (by rfl) _ Tryd.underlying40 (by rfl) (sizePair) (by rfl) ?_)
                    | ((with_reducible show wpList _ _ _ ((⟨some 213, _, _, _, _, _⟩ : Oper) :: _) _ _); refine wpList_want (by rfl) ?_; refine wpList_load_blk (o := ⟨some 213, _, _, _, _, _⟩) (hq2) (by rfl) _ _ (by rfl) (by rfl) _ Tryd.underlying40 (by rfl) (sizePair) (by rfl) ?_)
                    | fail)
                  have hsp := samePair_any p2 p2 Ag Bg Ao Bo cg eg co eo _ H23.out.2.2.atS H23.out.1.wasO.atS
                  unfold pairc at hsp
                  refine hsp.mono ?_
                  rintro e w24 ⟨rfl, hbx⟩
                  rw [decide_eq_true rfl]
                  have HF := Lib.hid (H23.out.1.below hbx H3.out.2.2.1).bel
                  clear hsp hbx hq1 hq2
                  go_wp2_with fail
                  go_ret
                  exact ⟨rfl, HF.out⟩
              · subst hcj hn3
                have H22' := Lib.hid (And.intro H22.out.1 (And.intro H22.out.2.1 H22.out.2.2.1))
                have hsq := samePairs_any A3 Al c3 cl l l H3.out.2.2.2 w22 hP3 (HA.out.2.1.below H22.out.1.bel)
                clear H22 hP3
                go_wp2_with fail
                refine hsq.mono ?_
                rintro e w23 ⟨rfl, hbx⟩
                simp only [decide_true]
                have H23 := Lib.hid (And.intro (H22'.out.1.below hbx H3.out.2.2.1) (And.intro (H22'.out.2.1.below hbx H22'.out.2.1.lt) (H22'.out.2.2.below hbx)))
                clear hsq hbx H22'
                by_cases h13 : cd = 13
                · subst h13
                  go_wp2_with fail
                  go_ret
                  exact ⟨rfl, H23.out.1.bel⟩
                · have hcs := HE.out.2.1.resolve_left h13
                  have ecw : cd = cw := hcs.1.trans HCW.out.1.symm
                  have epm : p2 = pm := hcs.2.trans HCW.out.2.symm
                  have kc : (cd == 13) = false := beq_eq_false_iff_ne.2 h13
                  clear h13 hcs
                  subst ecw epm
                  have hq1 := H23.out.2.1
                  have hq2 := H23.out.1.was
                  go_wp2_with (first
                    | ((with_reducible show wpList _ _ _ ((⟨some 212, _, _, _, _, _⟩ : Oper) :: _) _ _); refine wpList_want (by rfl) ?_; refine wpList_load_blk (o := ⟨some 212, _, _, _, _, _⟩) (hq1) (by rfl) _ _ (by rfl) (by rfl) _ Tryd.underlying40 (by rfl) (sizePair) (by rfl) ?_)
                    | ((with_reducible show wpList _ _ _ ((⟨some 213, _, _, _, _, _⟩ : Oper) :: _) _ _); refine wpList_want (by rfl) ?_; refine wpList_load_blk (o := ⟨some 213, _, _, _, _, _⟩) (hq2) (by rfl) _ _ (by rfl) (by rfl) _ Tryd.underlying40 (by rfl) (sizePair) (by rfl) ?_)
                    | fail)
                  have hsp := samePair_any p2 p2 Ag Bg Ao Bo cg eg co eo _ H23.out.2.2.atS H23.out.1.wasO.atS
                  unfold pairc at hsp
                  refine hsp.mono ?_
                  rintro e w24 ⟨rfl, hbx⟩
                  rw [decide_eq_true rfl]
                  have HF := Lib.hid (H23.out.1.below hbx H3.out.2.2.1).bel
                  clear hsp hbx hq1 hq2
                  go_wp2_with fail
                  go_ret
                  exact ⟨rfl, HF.out⟩
            have hkl : k < (tbl m).length := by rw [tbl_length]; exact hlt
            obtain ⟨b0, off0, e0, -, hcl⟩ := hSt.refs (by rw [tbl_length]; omega)
            injection e0 with e0
            injection e0 with e01 e02
            subst e01 e02
            obtain ⟨c1, -⟩ := hcl k hkl
            obtain ⟨i, hi, hti⟩ := tbl_at m k hkl
            obtain ⟨y, hry, hby⟩ := hRw.each k hkl hkl
            obtain ⟨A6, c6, e6, -, -, hrd, -⟩ := OwnsC.reads hRw.own
            injection e6 with e61 e62 e63
            subst e61 e63
            clear e62
            obtain ⟨bR, offR, hAR, hcR⟩ := hrd (by intro e; rw [e] at hry; cases hry)
            have cr := hcR k _ hry
            rw [show (tbl m)[k].1 = (i : Int) + 1 by rw [hti]; rfl] at c1 hby
            have hch2 : ∀ (hnew : (GB.read (gblk d1 ((i : Int) + 1))).1 ≠ 0 ∨ gblk d1 ((i : Int) + 1) = gblk d ((i : Int) + 1)), ∀ j, (h : j < (tbl m).length) → j < k + 1 → (GB.read (gblk d1 (tbl m)[j].1)).1 ≠ 0 ∨ gblk d1 (tbl m)[j].1 = gblk d (tbl m)[j].1 := fun hnew j hj hjk => by
              rcases Nat.lt_succ_iff_lt_or_eq.1 hjk with e | e
              · exact hch j hj e
              · subst e
                rw [hti]
                exact hnew
            have hdr := fun (W : World) (hg : GX w2.heap.size [bl] W gp dp (tG 20 (m + 1)) d1) => xtdread hg HS2.out.2.1 (a := (i : Int) + 1) (by omega) (by have := HP.out.2.2.1; omega)
            have hgl : (gblk d1 ((i : Int) + 1)).length = 1024 := gblk_length HS2.out.2.1 (by omega) (by have := HP.out.2.2.1; omega)
            have hgl0 : (gblk d ((i : Int) + 1)).length = 1024 := gblk_length HP.out.2.2.2.2.1 (by omega) (by have := HP.out.2.2.1; omega)
            have hi15 : i ≤ 15 := by have := HP.out.2.2.1; omega
            have HC := Lib.hid (And.intro hSt (And.intro hRw (And.intro hch2 (And.intro hdr (And.intro hgl hgl0)))))
            have HBY := Lib.hid hby
            have HLT2 := Lib.hid hlt
            have hk16 : k < 16 := by have := HP.out.2.2.1; omega
            subst hAR
            clear hcl hti hry hrd hcR hch hch2 hdr hgl hgl0 hSt hRw hby hk hkl
            go_wp2_with fail
            have hdr := HC.out.2.2.2.1 wr HC.out.1.grid
            rw [show gplace ((i : Int) + 1) = 104 + 4 * (i : Int) by unfold gplace; omega] at hdr
            refine hdr.mono ?_
            rintro e w11 ⟨z, rfl, hz, hbx⟩
            have hrd := gbRead_any (some ⟨z, 0, none⟩) 1024 1024 (gblk d1 ((i : Int) + 1)) HC.out.2.2.2.2.1.symm (Nat.le_refl _) (by omega) w11 (Blk.bytes hz)
            have H11 := Lib.hid (And.intro (HC.out.1.below hbx H3.out.2.2.1) (And.intro (HC.out.2.1.below hbx) (And.intro (HBY.out.below hbx HBY.out.lt) hz)))
            have cr1 := (hbx.cell (p := ⟨bR, offR + k, none⟩) (World.block_lt_of_cell? _ _ cr)).trans cr
            clear hdr hz hbx cr c1
            go_wp2_with fail
            refine hrd.mono ?_
            rintro e w12 ⟨A7, c7, B7, e7, rfl, -, -, -, -, -, hbx, -, -⟩
            obtain ⟨cb, hcb⟩ : ∃ cb, cb = (GB.read (gblk d1 ((i : Int) + 1))).1 := ⟨_, rfl⟩
            rw [← hcb]
            obtain ⟨gbv, hgbv⟩ : ∃ gbv, gbv = (GB.read (gblk d1 ((i : Int) + 1))).2 := ⟨_, rfl⟩
            rw [← hgbv]
            have hbx2 := hbx.alloc hbx.size (.cells #[.int .i64 gbv.1, .int .i64 gbv.2.1.1, .int .i64 gbv.2.1.2.1, .slice A7 gbv.2.2.1.length c7, .slice B7 gbv.2.2.2.1.length e7] 91)
            have H12 := Lib.hid (And.intro (H11.out.1.below hbx2 H3.out.2.2.1) (And.intro (H11.out.2.1.below hbx2) (And.intro (H11.out.2.2.1.below hbx2 H11.out.2.2.1.lt) (And.intro (H11.out.2.2.2.below hbx2 H11.out.2.2.2.lt) hcb))))
            have cr2 := (hbx2.cell (p := ⟨bR, offR + k, none⟩) (World.block_lt_of_cell? _ _ cr1)).trans cr1
            clear hrd hbx hbx2 H11 cr1 hcb hgbv
            by_cases hc0 : cb = 0
            case neg =>
              have kc : (cb == 0) = false := beq_eq_false_iff_ne.2 hc0
              have HF := Lib.hid (show TuChk w w2.heap.size gp dp (tG 20 (m + 1)) d d1 rb #[.int .i64 r.1, .int .i64 r.2.1, .int .i64 (l.length : Int), .slice F nf cf, .slice L nl cl'] bl offl (tbl m) wb (.slice Ao pm.1.length co) (.slice Bo pm.2.1.length eo) pm bS (.slice (some ⟨bR, offR, none⟩) (m + 1) c5) rows sp' (.int .i64 ((k + 1 : Nat) : Int)) _ from ⟨k + 1, by rw [tbl_length]; exact HLT2.out, rfl, H12.out.1, H12.out.2.1, HC.out.2.2.1 (.inl (by rw [← H12.out.2.2.2.2]; exact hc0))⟩)
              clear hc0 cr2
              go_wp2_with fail
              go_roundw
              case rel => exact HF.out
              case measure => have := HLT2.out; exact meas_up (i := k) (m := m + 1) rfl rfl this
            subst hc0
            go_wp2_with fail
            have hbz := H12.out.2.2.2.1
            have hsb := sameBytes_any (some ⟨z, 0, none⟩) (some ⟨y, 0, none⟩) 1024 1024 1024 1024 (gblk d1 ((i : Int) + 1)) (gblk d ((i : Int) + 1)) HC.out.2.2.2.2.1.symm HC.out.2.2.2.2.2.symm _ (Blk.bytes H12.out.2.2.2.1) (Blk.bytes H12.out.2.2.1)
            refine hsb.mono ?_
            rintro e w13 ⟨rfl, hw⟩
            subst hw
            clear hsb hbz cr2
            by_cases hsame : gblk d1 ((i : Int) + 1) = gblk d ((i : Int) + 1)
            case neg =>
              rw [decide_eq_false hsame]
              have HF := Lib.hid H12.out.1.bel
              clear hsame
              go_wp2
              go_ret
              exact ⟨rfl, HF.out⟩
            rw [decide_eq_true hsame]
            have HF := Lib.hid (show TuChk w w2.heap.size gp dp (tG 20 (m + 1)) d d1 rb #[.int .i64 r.1, .int .i64 r.2.1, .int .i64 (l.length : Int), .slice F nf cf, .slice L nl cl'] bl offl (tbl m) wb (.slice Ao pm.1.length co) (.slice Bo pm.2.1.length eo) pm bS (.slice (some ⟨bR, offR, none⟩) (m + 1) c5) rows sp' (.int .i64 ((k + 1 : Nat) : Int)) _ from ⟨k + 1, by rw [tbl_length]; exact HLT2.out, rfl, H12.out.1, H12.out.2.1, HC.out.2.2.1 (.inr hsame)⟩)
            clear hsame
            go_wp2_with fail
            go_roundw
            case rel => exact HF.out
            case measure => have := HLT2.out; exact meas_up (i := k) (m := m + 1) rfl rfl this
        obtain ⟨bT, offT, hTa, hTlt, hTc⟩ := HA.out.2.2.2.2.1 (by omega)
        obtain ⟨t1, t2, t3⟩ := hTc k hlt
        generalize ts[k] = tt at t1 t2 t3
        obtain ⟨pj, hpj⟩ : ∃ pj, pj = pickN tt.1 ((m + 1 : Nat) : Int) := ⟨_, rfl⟩
        obtain ⟨pp, hpp⟩ : ∃ pp, pp = pickN tt.2.1 1024 := ⟨_, rfl⟩
        have hpjl : pj < m + 1 := by have := pickN_lt tt.1 ((m + 1 : Nat) : Int) (by omega); omega
        have hppl : pp < 1024 := by have := pickN_lt tt.2.1 1024 (by omega); omega
        have hpk1 := pick_any tt.1 ((m + 1 : Nat) : Int) (by have := HP.out.2.2.1; omega) (by omega)
        have hpk2 := pick_any tt.2.1 1024 (by omega) (by omega)
        rw [← hpj] at hpk1
        rw [← hpp] at hpk2
        have hpl : pj < (tbl m).length := by rw [tbl_length]; exact hpjl
        obtain ⟨b0, off0, e0, hblt, hcl⟩ := hSt.refs (by rw [tbl_length]; omega)
        injection e0 with e0
        injection e0 with e01 e02
        subst e01 e02
        obtain ⟨c1, -⟩ := hcl pj hpl
        obtain ⟨i, hi, hti⟩ := tbl_at m pj hpl
        rw [hti, show (tk 3 i).1 = (i : Int) + 1 from rfl] at c1
        obtain ⟨d2, hdt, hRm2, hN2, -, -⟩ := gturn hRm (a := (i : Int) + 1) (by omega) (by have := HP.out.2.2.1; omega) (i := pp) hppl tt.2.2.1
        have htn := fun (W : World) (hg : GX w2.heap.size [bl] W gp dp (tG 20 (m + 1)) d1) => xtturn hg _ _ _ hdt hN2
        have u1 := (hSt.bel.cell (p := ⟨bT, offT + k * 3, none⟩) hTlt).trans t1
        have u2 := (hSt.bel.cell (p := ⟨bT, offT + k * 3 + 1, none⟩) hTlt).trans t2
        have u3 := (hSt.bel.cell (p := ⟨bT, offT + k * 3 + 2, none⟩) hTlt).trans t3
        have HS2 := Lib.hid (And.intro hSt (And.intro hRw (And.intro hbs (And.intro hRm2 (And.intro htn hpk1)))))
        have HLT := Lib.hid (And.intro hlt (show ts.length ≤ 20 from HA.out.2.2.2.2.2.2.2))
        have hi15 : i ≤ 15 := by have := HP.out.2.2.1; omega
        subst hTa
        clear hTc t1 t2 t3 hpj hpp hcl hti hdt hN2 htn hRm hRm2 hSt hRw hbs hpk1 hk hpl
        go_wp2_with fail
        refine (hpk2 _).mono ?_
        rintro e w11 ⟨rfl, hw⟩
        subst hw
        clear hpk2 u2
        have hc0 : w11.drew.cell? ⟨bT, offT + k * 3, none⟩ = some (.int .i64 tt.1) ∧ w11.drew.cell? ⟨bT, offT + k * 3 + 2, none⟩ = some (.int .u8 (iu8 tt.2.2.1)) ∧ w11.drew.cell? ⟨bl, offl + pj * 2, none⟩ = some (.int .i64 ((i : Int) + 1)) := ⟨u1, u3, c1⟩
        clear u1 u3 c1
        go_upto_region 26 with fail
        refine wp_region_tree (fun u => u.cell? ⟨bT, offT + k * 3, none⟩ = some (.int .i64 tt.1) ∧ u.cell? ⟨bT, offT + k * 3 + 2, none⟩ = some (.int .u8 (iu8 tt.2.2.1)) ∧ u.cell? ⟨bl, offl + pj * 2, none⟩ = some (.int .i64 ((i : Int) + 1))) [] (PlanT.takes [0, 1, 2, 3, 4, 5, 7, 8, 16, 17, 19, 20, 21, 22, 23, 24] (PlanT.takes [6, 25] (.opt 9 (PlanT.takes [10, 11] (PlanT.takes [12] (PlanT.takes [13, 14, 15, 18] (.opt 26 .done .no)))) .no))) (by kernel_rfl) (by kernel_rfl) (hc0) ?_
        refine wpTree_pure _ _ _ (by rfl) (by rfl) ?_
        dsimp only [List.filterMap, List.getElem?_cons_zero, List.getElem?_cons_succ]
        repeat (go_big_quiet_step (fail))
        refine wpQuiet_nil ?_
        refine wpTree_takeL _ _ _ (by rfl) (by rfl) (hc0) ?_
        dsimp only [List.filterMap, List.getElem?_cons_zero, List.getElem?_cons_succ]
        (refine wpQuiet_load_cell (fun w' hw' => hw'.1) (by rfl) _ _ (by rfl) (by rfl) _ Tryd.underlying3 (by rfl) ?_; simp only [Act.put, List.setIfInBounds_toArray, List.set_cons_zero, List.set_cons_succ])
        (refine wpQuiet_load_cell (fun w' hw' => hw'.2.1) (by rfl) _ _ (by rfl) (by rfl) _ Tryd.underlying5 (by rfl) ?_; simp only [Act.put, List.setIfInBounds_toArray, List.set_cons_zero, List.set_cons_succ])
        refine wpQuiet_nil ?_
        refine wpTree_one _ rfl ?_
        go_wp2_with fail
        have hpk3 := HS2.out.2.2.2.2.2 w11.drew
        rw [show ((m + 1 : Nat) : Int) = (m : Int) + 1 from rfl] at hpk3
        refine hpk3.mono ?_
        rintro e w12 ⟨rfl, hw⟩
        subst hw
        clear hpk3
        go_wp2_with fail
        refine TreeQ.in_ hc0 ?_
        refine wpTree_pure _ _ _ (by rfl) (by rfl) ?_
        dsimp only [List.filterMap, List.getElem?_cons_zero, List.getElem?_cons_succ]
        repeat (go_big_quiet_step (fail))
        refine wpQuiet_nil ?_
        refine wpTree_takeL _ _ _ (by rfl) (by rfl) (hc0) ?_
        dsimp only [List.filterMap, List.getElem?_cons_zero, List.getElem?_cons_succ]
        (refine wpQuiet_load_cell (fun w' hw' => hw'.2.2) (by rfl) _ _ (by rfl) (by rfl) _ Tryd.underlying3 (by rfl) ?_; simp only [Act.put, List.setIfInBounds_toArray, List.set_cons_zero, List.set_cons_succ])
        refine wpQuiet_nil ?_
        refine wpTree_pure _ _ _ (by rfl) (by rfl) ?_
        dsimp only [List.filterMap, List.getElem?_cons_zero, List.getElem?_cons_succ]
        repeat (go_big_quiet_step (fail))
        refine wpQuiet_nil ?_
        refine wpTree_one _ rfl ?_
        go_wp2_with fail
        have hd : Below w11.heap.size w11 w11.drew := (Below.refl _ _).drew
        have ht := HS2.out.2.2.2.2.1 w11.drew (HS2.out.1.grid.belowT hd).1
        rw [show gplace ((i : Int) + 1) + ((pp / 256 : Nat) : Int) = 104 + 4 * (i : Int) + (pp : Int) / 256 by unfold gplace; omega, show ((pp % 256 : Nat) : Int) = (pp : Int) % 256 by omega] at ht
        refine ht.mono ?_
        rintro e w13 ⟨rfl, hG, hS⟩
        have hS' := (TS.below hd HS2.out.1.grid.size HS2.out.1.grid.own).trans hS
        have hc1 := And.intro ((hS.bel.cell (p := ⟨bT, offT + k * 3, none⟩) (Nat.lt_of_lt_of_le hTlt H3.out.2.2.1)).trans hc0.1) (And.intro ((hS.bel.cell (p := ⟨bT, offT + k * 3 + 2, none⟩) (Nat.lt_of_lt_of_le hTlt H3.out.2.2.1)).trans hc0.2.1) ((hS.st.same.cell (p := ⟨bl, offl + pj * 2, none⟩) (by simp)).trans hc0.2.2))
        have HF := Lib.hid (show TuTrn w w2.heap.size gp dp (tG 20 (m + 1)) d rb #[.int .i64 r.1, .int .i64 r.2.1, .int .i64 (l.length : Int), .slice F nf cf, .slice L nl cl'] bl offl (tbl m) wb (.slice Ao pm.1.length co) (.slice Bo pm.2.1.length eo) pm bS (.slice A5 (m + 1) c5) rows sp' ts.length (.int .i64 ((k + 1 : Nat) : Int)) w13 ∧ bS ≤ w13.heap.size from ⟨⟨k + 1, d2, HLT.out.1, rfl, HS2.out.1.ts hG hS' H3.out.2.2.1, HS2.out.2.2.2.1, HS2.out.2.1.soft hS'.so⟩, Nat.le_trans HS2.out.2.2.1 hS'.so.size⟩)
        clear ht hG hS hS' hd
        go_wp2_with fail
        refine TreeQ.in_ hc1 ?_
        refine wpTree_done ?_
        have hk20 : k < 20 := by have := HLT.out.1; have := HLT.out.2; omega
        clear hc0 hc1
        go_wp2_with fail
        go_roundw
        case rel => exact HF.out
        case measure => have := HLT.out.1; exact meas_up (i := k) (m := ts.length) rfl rfl this
    have hkl : k < (tbl m).length := by rw [tbl_length]; exact hlt
    obtain ⟨b0, off0, e0, -, hcl⟩ := hSt.refs (by rw [tbl_length]; omega)
    injection e0 with e0
    injection e0 with e01 e02
    subst e01 e02
    obtain ⟨c1, c2⟩ := hcl k hkl
    obtain ⟨i, hi, hti⟩ := tbl_at m k hkl
    obtain ⟨bk, hlook⟩ := HP.out.2.2.2.2.2.1 i hi
    rw [← hti] at hlook
    have hraw := xtraw hSt.grid (by simp [tG]) (tbl m)[k] hlook
    have hgl : (gblk d (tbl m)[k].1).length = 1024 := gblk_length HP.out.2.2.2.2.1 (by rw [hti]; unfold tk; simp only; omega) (by rw [hti]; unfold tk; simp only; have := HP.out.2.2.1; omega)
    rw [hgl] at hraw
    obtain ⟨A5, c5, hv5, -, -, -, -⟩ := OwnsC.reads hRw.own
    subst hv5
    have HS := Lib.hid (And.intro hSt (And.intro hRw (And.intro hbs hkl)))
    obtain ⟨x, hx⟩ : ∃ x, x = (tbl m)[k] := ⟨_, rfl⟩
    rw [← hx] at c1 c2 hraw
    have HX := Lib.hid (show ∀ hh : k < (tbl m).length, x = (tbl m)[k] from fun _ => hx)
    have kd1 : decide ((k : Int) < (m : Int) + 1) = true := decide_eq_true (by omega)
    have kd2 : decide (k < m + 1) = true := decide_eq_true hlt
    have HLT := Lib.hid hlt
    clear hcl hlook hti hgl hSt hRw hbs hkl hx hk
    go_wp2_with (first
      | ((with_reducible show wpList _ _ _ ((⟨some 93, _, _, _, _, _⟩ : Oper) :: _) _ _); refine wpList_load_mid (o := ⟨some 93, _, _, _, _, _⟩) (range2 c1 c2) (by rfl) _ _ (by rfl) (by rfl) _ Tryd.underlying33 (by rfl) size_ref (by rfl) ?_)
      | fail)
    refine hraw.mono ?_
    rintro e w10 ⟨y, rfl, hy, hbx⟩
    have hbl := (Below.refl w10.heap.size w10).alloc (Nat.le_refl _) (.cells #[.slice (some ⟨y, 0, none⟩) 1024 1024] 22)
    have hra : Reads (w10.alloc (.cells #[.slice (some ⟨y, 0, none⟩) 1024 1024] 22)) (some ⟨w10.heap.size, 0, none⟩) [.slice (some ⟨y, 0, none⟩) 1024 1024] := reads_new w10 22 _
    have hR10 := (HS.out.2.1.below hbx).below hbl
    have hsz : bS ≤ (w10.alloc (.cells #[.slice (some ⟨y, 0, none⟩) 1024 1024] 22)).heap.size := Nat.le_trans HS.out.2.2.1 (Nat.le_trans hbx.size hbl.size)
    have hm20 : k ≤ 20 := by have := HP.out.2.2.1; omega
    have H10 := Lib.hid (And.intro ((HS.out.1.below hbx H3.out.2.2.1).below hbl H3.out.2.2.1) (And.intro hR10 (And.intro hsz (And.intro hra (hy.below hbl hy.lt)))))
    clear hraw hy hbx hbl hra hR10 hsz c1 c2 kd1 kd2 hlt
    go_wp2_with (first
      | ((with_reducible show wpList _ _ _ ((⟨some 102, _, _, _, _, _⟩ : Oper) :: _) _ _); refine wpList_append_vals (o := ⟨some 102, _, _, _, _, _⟩) (by rfl) _ _ _ (by rfl) bS 22 (.slice none 0 0) 1 24 Tryd.underlying83 infoSl (by rfl) (by omega) (.slice A5 k c5) k rows sp' (by rfl) H10.out.2.1.own (some ⟨w10.heap.size, 0, none⟩) 1 1 [.slice (some ⟨y, 0, none⟩) 1024 1024] (by rfl) (by rfl) H10.out.2.2.2.1 (by simp [Value.oneCell']) (by simp only [maxLen]; omega) (by omega) H10.out.2.2.1 ?_; intro v4 W8 sp4 ho4 hg4 hv4 hn4; refine stopped ?_)
      | fail)
    refine Stopped.mk ?_
    have hn8 : Near (Value.slice A5 k c5).ownBlock.toList (w10.alloc (.cells #[.slice (some ⟨y, 0, none⟩) 1024 1024] 22)) W8 := Near.grown hg4 (fun z hz => Option.mem_toList.2 hz)
    have hXb : ∀ z ∈ (Value.slice A5 k c5).ownBlock.toList, ∃ cs, Blk (w10.alloc (.cells #[.slice (some ⟨y, 0, none⟩) 1024 1024] 22)) z 22 cs := fun z hz => ownBlk H10.out.2.1.own (Option.mem_toList.1 hz)
    have hlo : ∀ z ∈ (Value.slice A5 k c5).ownBlock.toList, bS ≤ z := fun z hz => (OwnsC.lt H10.out.2.1.own z (Option.mem_toList.1 hz)).1
    have hyy := H10.out.2.2.2.2
    rw [HX.out HS.out.2.2.2] at hyy
    have hS8 := H10.out.1.own hn8 hXb (fun z hz => by have := hlo z hz; have := HB.out.1; have := HB.out.2.1; exact ⟨by omega, by omega⟩)
    have hR8 := H10.out.2.1.add (v' := v4) (sp' := sp4) HS.out.2.2.2 hyy hn8 hXb ho4
    have HF := Lib.hid (show TuRaw w w2.heap.size gp dp (tG 20 (m + 1)) d rb #[.int .i64 r.1, .int .i64 r.2.1, .int .i64 (l.length : Int), .slice F nf cf, .slice L nl cl'] bl offl (tbl m) wb (.slice Ao pm.1.length co) (.slice Bo pm.2.1.length eo) pm bS v4 (.int .i64 ((k + 1 : Nat) : Int)) W8 ∧ bS ≤ W8.heap.size from ⟨⟨k + 1, _, sp4, HS.out.2.2.2, rfl, hS8, hR8⟩, Nat.le_trans H10.out.2.2.1 hn8.size⟩)
    clear ho4 hg4 hv4 hn4 hn8 hXb hlo hyy hS8 hR8 H10
    go_wp2_with fail
    go_roundw
    case rel => exact HF.out
    case measure => have := HLT.out; exact meas_up (i := k) (m := m + 1) rfl rfl this
end Go.Proofs.YtgkljncigbiffaaDoor

/- TableTurned: for every input the law returns true and the arguments read as they did. Condition: the table of Go's library is as its initialiser lays it (tied to the program's text by the card). -/
namespace Go.Proofs.YtgkljncigbiffaaDoor
open Go.ChangeShapes Go.WideShapes Go.ChangeAt Go.RowKit
theorem tableTurned_args (A B C : Option Addr) (c d e : Nat) (l : List PairT) (k : List UInt8) (ts : List Turn3) (rows rows2 : List (List Value)) (W : World) (hb : Both (fun (d : pairSh.T) r => r.length = pairSh.size ∧ Sh.Is W pairSh d r) l rows) (hr : Reads W A rows.flatten)
    (h1 : l.length ≤ c) (h2 : c ≤ 9223372036854775807) (hk : Bytes W B k) (hb2 : Both (fun (d : turn3Sh.T) r => r.length = turn3Sh.size ∧ Sh.Is W turn3Sh d r) ts rows2) (hr2 : Reads W C rows2.flatten) (hT : Tab W) :
    Calls Tryd.prog 6 #[.slice A l.length c, .slice B k.length d, .slice C ts.length e] W fun e w' => e = .returned (.bool true) ∧ Below W.heap.size W w' :=
  tableTurned_law A B C c d e l k ts W hT (Pairs.both hb hr) (Nat.le_trans h1 h2) hk (Turns3.of hb2 hr2)
set_option maxRecDepth 100000 in
theorem tableTurned_lifted (os : Os) (started : os.Started) (H : Type) (enc : TypeId × Value → H) :
    ReturnsInHanded {} Tryd.checked os 6 .any (fun w args => (Rows.tableTurnedSpec.pre enc Tryd.prog Tryd.f6 [] false w args ∧ laidMetH Tryd.prog laid1 w) ∧ sizedMet enc Tryd.prog Tryd.f6 (OpenSpec.ofChange Rows.tableTurnedSpec) false w args) (Rows.tableTurnedSpec.post enc Tryd.prog Tryd.f6 false true false false) := by
  refine returnsInHanded_of_change_and (C := Tryd.checked) (X := fun w _ => laidMetH Tryd.prog laid1 w) (fun _ _ _ hh h => h.of_heap hh) Tryd.own started (by kernel_rfl) Tryd.func6
    (ChangeSpec.witness_shaped (enc := enc) (C := Tryd.checked) (os := os) (X := fun w _ => laidMetH Tryd.prog laid1 w) false (World.doorLaid Tryd.prog 400 os) #[.slice none 0 0, .slice none 0 0, .slice none 0 0] 8 rfl (World.shaped_of_RefB (by kernel_rfl) (by kernel_rfl)) (by kernel_rfl) (by kernel_rfl) (by kernel_rfl) (door_met os _)) ?_
  intro W base args ds gs before hval0 hW _ _ hL _
  have hT : Tab W := of_laid hL
  have hval : ∀ (j : Nat) t v, Tryd.f6.params[j]? = some t → args[j]? = some v → Value.okWide Tryd.prog W .any base t v := hval0
  have hW' := hW
  obtain ⟨p, q, hA0, hV, rfl, hfz, hnd⟩ := hW
  have hA : DataW.TrodAll enc Tryd.prog W 0 (fun _ => true) true Tryd.f6.params.toList args.toList ds p := hA0
  rw [Tryd.params6] at hA hval
  obtain ⟨v0, v1, v2, d0, d1, d2, p0, p1, p2, rfl, rfl, rfl, h0, h1, h2⟩ := trodAll_three hA
  obtain ⟨rfl, rfl⟩ := trodVars_none hV
  have h0k := h0
  have h1k := h1
  have h2k := h2
  obtain ⟨l, hx0⟩ := Sh.open_ (P := Tryd.prog) (.slice pairSh) (by kernel_rfl) h0
  obtain ⟨A, c, rows0, rfl, hlc, hcm, hb1, hr1⟩ := arg_slice Tryd.underlying41 (hval 0 41 v0 rfl rfl) hx0
  obtain ⟨k, hx1⟩ := Sh.open_ (P := Tryd.prog) (.slice .byte) (by kernel_rfl) h1
  obtain ⟨B, d, rfl, hkd, hdm, hb2⟩ := arg_bytes Tryd.underlying22 (hval 1 22 v1 rfl rfl) hx1
  obtain ⟨ts, hx2⟩ := Sh.open_ (P := Tryd.prog) (.slice turn3Sh) (by kernel_rfl) h2
  obtain ⟨C, e, rows2, rfl, hte, hem, hb3, hr3⟩ := arg_slice Tryd.underlying81 (hval 2 81 v2 rfl rfl) hx2
  clear hA0 hval0
  simp only [List.append_nil] at hW'
  have hlt : ∀ x ∈ p0 ++ p1 ++ p2, x.block < W.heap.size := fun x hx => by simpa using hW'.lt x hx
  refine (tableTurned_args A B C c d e l k ts _ _ W hb1 hr1 hlc hcm hb2 hb3 hr3 hT).mono fun e W' ⟨he, hw⟩ => ?_
  subst he
  refine ⟨_, rfl, _, _, _, [], p0 ++ p1 ++ p2, [], hW', ?_, ?_, rfl, hw.frame _, fun h => by cases h⟩
  · exact trodAll_mk1 (shut_bool Tryd.underlying4 true)
  · rw [List.append_assoc]; exact trodAll_mk3 (Below.trod Tryd.laidOut (by kernel_rfl) (of_decide_eq_true (by kernel_rfl)) h0k hw (fun x hx => hlt x (by simp [hx]))) (Below.trod Tryd.laidOut (by kernel_rfl) (of_decide_eq_true (by kernel_rfl)) h1k hw (fun x hx => hlt x (by simp [hx]))) (Below.trod Tryd.laidOut (by kernel_rfl) (of_decide_eq_true (by kernel_rfl)) h2k hw (fun x hx => hlt x (by simp [hx])))
theorem tableTurned_holds : Rows.TableTurnedSaid :=
  OpenClaim.holds_of_wide 6 Tryd.f6 rfl rfl rfl rfl rfl rfl rfl ⟨rfl, rfl, rfl, rfl, rfl⟩ rfl rfl rfl rfl rfl (by kernel_rfl) Tryd.func6 (by kernel_rfl)
    (of_decide_eq_true (by kernel_rfl)) (by unfold Func.isWrapper; rw [if_neg (by decide +kernel)]; exact ⟨rfl, rfl⟩)
    (fun os started H enc _ => tableTurned_lifted os started H enc)
theorem tableTurned_card : Rows.TableTurnedCardSaid :=
  Claim7.holds_tied_plain_at .later [] [.data] true Rows.tableTurnedCard.stood.harness false
    tableTurned_holds (fun _ h => by cases h) (by kernel_rfl) (fun _ h => by cases h) tableTurned_row_tie rfl ⟨rfl, rfl⟩ (by kernel_rfl) rfl
    (fun f fn hf hfn => by
      obtain rfl : f = 6 := Option.some.inj ((show Tryd.prog.funcNamed Rows.tableTurnedRow.func = some 6 by kernel_rfl).symm.trans hf) |>.symm
      obtain rfl : fn = Tryd.f6 := (Option.some.inj (Tryd.func6.symm.trans hfn)).symm
      exact ⟨by kernel_rfl, fun j t ht => by
        rw [Tryd.params6] at ht
        have hm : t ∈ [41, 22, 81] := by simpa using Array.mem_of_getElem? ht
        have hall : ([41, 22, 81].all fun u => !Tryd.prog.wantsStandIn u) = true := by kernel_rfl
        exact (show Tryd.prog.wantsStandIn t = false by simpa using List.all_eq_true.1 hall t hm)⟩)
    (by kernel_rfl)
end Go.Proofs.YtgkljncigbiffaaDoor
