/- A table in a grid that was made: which blocks are written, and what is read out of them. Plain facts. No condition. -/
import Derived.Test.YtgkljncigbiffaaDoorMTableTurned16
import Derived.Laws.EntriesVeiled
namespace Go.Proofs.YtgkljncigbiffaaDoor
open Go.RowKit
theorem cL_acq20 {n i : Nat} (h : i < n) (hn : n ≤ 20) : acqN (cL n i) = (i : Int) + 1 ∧ acqE (cL n i) = 0 ∧ acqL (cL n i) = cL n (i + 1) := by
  have key : ∀ m : Fin 21, ∀ j : Fin 21, j.1 < m.1 → acqN (cL m.1 j.1) = ((j.1 : Nat) : Int) + 1 ∧ acqE (cL m.1 j.1) = 0 ∧ acqL (cL m.1 j.1) = cL m.1 (j.1 + 1) := by decide +kernel
  exact key ⟨n, by omega⟩ ⟨i, by omega⟩ h
theorem cL_ok20 {n i : Nat} (h : i ≤ n) (hn : n ≤ 20) : SetOk (cL n i) ∧ (cL n i).length = n := by
  have hl : (cL n i).length = n := by unfold cL; simp; omega
  refine ⟨⟨by omega, fun k => ?_⟩, hl⟩
  unfold cL
  rw [List.getD_eq_getElem?_getD, List.getElem?_append]
  split
  · rw [List.getElem?_replicate]; split <;> simp
  · rw [List.getElem?_replicate]; split <;> simp
/-- The ref of a block; the blocks; the disk behind each. -/
def tk (s : Int) (i : Nat) : RefT := ((i : Int) + 1, s, ())
def tb (s : Int) (bs : List (List UInt8)) (ix : List UInt8) (i : Nat) : GBT := if i < bs.length then (1, tk s i, [], bs.getD i [], ()) else (2, tk s i, (List.range bs.length).map (tk s), ix, ())
def tG (n i : Nat) : Grd := ⟨n, cL n i, []⟩
def tD (n : Nat) (s : Int) (bs : List (List UInt8)) (ix : List UInt8) (d : Dsk) : Nat → Dsk
  | 0 => d
  | j + 1 => (gput (tG n j) (tD n s bs ix d j) none (tb s bs ix j).1 (tb s bs ix j).2.2.1 (tb s bs ix j).2.2.2.1 s).2.2.1
section
variable {n : Nat} {s : Int} {bs : List (List UInt8)} {ix : List UInt8} {d : Dsk} {N j : Nat}
theorem tk_ok (hs1 : 0 ≤ s) (hs2 : s ≤ 1073741824) {i : Nat} (hi : i < 512) : refOk (tk s i) = true := by
  show (decide (1 ≤ (i : Int) + 1) && decide ((i : Int) + 1 ≤ 512) && decide (0 ≤ s) && decide (s ≤ 1073741824)) = true
  simp only [Bool.and_eq_true, decide_eq_true_eq]
  omega
theorem tb_ok (hs1 : 0 ≤ s) (hs2 : s ≤ 1073741824) (hm : bs.length ≤ 16) (hb : ∀ b ∈ bs, b.length ≤ 860) (hix : ix.length ≤ 860) {i : Nat} (hi : i < 512) (r : RefT) (hr : refOk r = true) : GB.ok ((tb s bs ix i).1, r, (tb s bs ix i).2.2.1, (tb s bs ix i).2.2.2.1, ()) = true := by
  unfold tb
  by_cases h : i < bs.length
  · rw [if_pos h]
    simp only [GB.ok, Bool.and_eq_true, decide_eq_true_eq, List.all_eq_true]
    refine ⟨⟨⟨⟨⟨by omega, by omega⟩, hr⟩, by simp⟩, ?_⟩, by simp⟩
    rw [List.getD_eq_getElem?_getD, List.getElem?_eq_getElem h]
    exact hb _ (List.getElem_mem h)
  · rw [if_neg h]
    simp only [GB.ok, Bool.and_eq_true, decide_eq_true_eq, List.all_eq_true]
    refine ⟨⟨⟨⟨⟨by omega, by omega⟩, hr⟩, by simpa using hm⟩, hix⟩, fun x hx => ?_⟩
    obtain ⟨j, hj, rfl⟩ := List.mem_map.1 hx
    exact tk_ok hs1 hs2 (by have := List.mem_range.1 hj; omega)
/-- So many blocks were written. -/
structure TWr (n : Nat) (s : Int) (bs : List (List UInt8)) (ix : List UInt8) (N : Nat) (j : Nat) (d : Dsk) : Prop where
  rm : Rm d n
  N : d.N = N
  blk : ∀ i, i < j → gblk d ((i : Int) + 1) = GB.bytes (tb s bs ix i)
theorem tb_ref (i : Nat) : (tb s bs ix i).2.1 = tk s i := by unfold tb; split <;> rfl
theorem tput (hs1 : 0 ≤ s) (hs2 : s ≤ 1073741824) (hm : bs.length ≤ 16) (hb : ∀ b ∈ bs, b.length ≤ 860) (hix : ix.length ≤ 860) (hn : n ≤ 20) {N : Nat} (hd : Rm d n) (hN : d.N = N) : ∀ (j : Nat), j ≤ n → TWr n s bs ix N j (tD n s bs ix d j) ∧ (j < n → gput (tG n j) (tD n s bs ix d j) none (tb s bs ix j).1 (tb s bs ix j).2.2.1 (tb s bs ix j).2.2.2.1 s = ((0, tk s j), tG n (j + 1), tD n s bs ix d (j + 1), none)) := by
  have step : ∀ (j : Nat), j < n → TWr n s bs ix N j (tD n s bs ix d j) → TWr n s bs ix N (j + 1) (tD n s bs ix d (j + 1)) ∧ gput (tG n j) (tD n s bs ix d j) none (tb s bs ix j).1 (tb s bs ix j).2.2.1 (tb s bs ix j).2.2.2.1 s = ((0, tk s j), tG n (j + 1), tD n s bs ix d (j + 1), none) := fun j hj h => by
    obtain ⟨k1, k2, k3⟩ := cL_acq20 hj hn
    obtain ⟨k4, k5⟩ := cL_ok20 (Nat.le_of_lt hj) hn
    obtain ⟨d', e1, e2, e3, e4, e5⟩ := gput_ok (g := tG n j) (k := (tb s bs ix j).1) (s := s) (l := (tb s bs ix j).2.2.1) (m := (tb s bs ix j).2.2.2.1) h.rm k5 k4 (tb_ok hs1 hs2 hm hb hix (by omega) (1, s, ()) (tk_ok (i := 0) hs1 hs2 (by omega))) k2
    have eD : tD n s bs ix d (j + 1) = d' := by show (gput _ _ _ _ _ _ _).2.2.1 = d'; rw [e1]
    simp only [tG] at k1 k3 e1 e4 e5 ⊢
    rw [k1, k3] at e1
    rw [k1] at e4 e5
    refine ⟨⟨eD ▸ e2, by rw [eD, e3, h.N], fun i hi => ?_⟩, by rw [e1, eD]; rfl⟩
    rw [eD]
    by_cases hij : i = j
    · subst hij
      rw [e4, ← show (tb s bs ix i).2.1 = ((i : Int) + 1, s, ()) from tb_ref i]
    · rw [e5 ((i : Int) + 1) (by omega) (by show (i : Int) + 1 ≤ (n : Int); omega) (by omega)]
      exact h.blk i (by omega)
  have all : ∀ (j : Nat), j ≤ n → TWr n s bs ix N j (tD n s bs ix d j) := fun j => by
    induction j with
    | zero => exact fun _ => ⟨hd, hN, fun i hi => absurd hi (by omega)⟩
    | succ j ih => exact fun hj => (step j (by omega) (ih (by omega))).1
  exact fun j hj => ⟨all j hj, fun h => (step j h (all j hj)).2⟩
/-- All of a table is written. -/
theorem puts_new (hs1 : 0 ≤ s) (hs2 : s ≤ 1073741824) (hm : bs.length ≤ 16) (hb : ∀ b ∈ bs, b.length ≤ 860) (hix : ix.length ≤ 860) (hn : n ≤ 20) (hmn : bs.length + 1 ≤ n) (hd : Rm d n) : Puts s bs ix (tk s bs.length) (tG n) (tD n s bs ix d) (tk s) ∧ TWr n s bs ix d.N (bs.length + 1) (tD n s bs ix d (bs.length + 1)) := by
  refine ⟨⟨fun i h => ?_, ?_⟩, (tput hs1 hs2 hm hb hix hn hd rfl (bs.length + 1) hmn).1⟩
  · have := (tput hs1 hs2 hm hb hix hn hd rfl i (by omega)).2 (by omega)
    rw [show tb s bs ix i = (1, tk s i, [], bs[i], ()) by unfold tb; rw [if_pos h, List.getD_eq_getElem?_getD, List.getElem?_eq_getElem h]; rfl] at this
    exact this
  · have := (tput hs1 hs2 hm hb hix hn hd rfl bs.length (by omega)).2 (by omega)
    rw [show tb s bs ix bs.length = (2, tk s bs.length, (List.range bs.length).map (tk s), ix, ()) by unfold tb; rw [if_neg (Nat.lt_irrefl _)]] at this
    exact this
theorem tk_of (hs1 : 0 ≤ s) (hs2 : s ≤ 1073741824) {g : Grd} {i : Nat} (hi : i < g.n) : g.of (tk s i) = true := by
  show (decide (1 ≤ (i : Int) + 1) && (decide ((i : Int) + 1 ≤ (g.n : Int)) && (decide (0 ≤ s) && decide (s ≤ 1073741824)))) = true
  simp only [Bool.and_eq_true, decide_eq_true_eq]
  omega
/-- What is read. -/
theorem TWr.look (h : TWr n s bs ix N j d) (hs1 : 0 ≤ s) (hs2 : s ≤ 1073741824) (hm : bs.length ≤ 16) (hb : ∀ b ∈ bs, b.length ≤ 860) (hix : ix.length ≤ 860) (hn : n ≤ 20) {i : Nat} (hi : i < j) (hjn : j ≤ n) {g : Grd} (hg : g.n = n) : glook g d none (tk s i) = (0, some (tb s bs ix i), g) := by
  have hok : GB.ok (tb s bs ix i) = true := by
    have := tb_ok hs1 hs2 hm hb hix (i := i) (by omega) (tk s i) (tk_ok hs1 hs2 (by omega))
    rw [← tb_ref (bs := bs) (ix := ix) i] at this
    exact this
  have ht : gthere d (tk s i) = some (tb s bs ix i) := by
    rw [← tb_ref (bs := bs) (ix := ix) i]
    exact gthere_some hok (by rw [tb_ref]; exact h.blk i hi)
  unfold glook
  rw [if_neg (by unfold Dsk.isOut; rw [h.rm.out]; simp), if_neg (by rw [tk_of hs1 hs2 (by omega)]; simp), ht]
/-- The table of some pairs stands there. -/
theorem table_open {l : List PairT} (hp : (ppack l).1 = 0) (h : TWr n s ((ppack l).2.map gbody) (kbytes ((ppack l).2.map gkey)) N ((ppack l).2.length + 1) d) (hs1 : 0 ≤ s) (hs2 : s ≤ 1073741824) (hn : n ≤ 20) (hmn : (ppack l).2.length + 1 ≤ n) {g : Grd} (hg : g.n = n) :
    topen g d none (tk s (ppack l).2.length) = (0, ((List.range (ppack l).2.length).map (tk s), (ppack l).2.map gkey), g) ∧ ∀ i, (hi : i < (ppack l).2.length) → tdata g d none (tk s i) = (0, (ppack l).2[i], g) := by
  obtain ⟨p1, p2, p3, p4, p5⟩ := ppack_ok hp
  have hG := pgroups_ok p4
  have hm15 := pgroups_few p4 p2
  have hne := pgroups_ne p4 p1
  have hbd : ∀ b ∈ (ppack l).2.map gbody, b.length ≤ 860 := fun b hb => gbody_ok hp hb
  have hkl := kbytes_le ((ppack l).2.map gkey) (fun k hk => (gkey_ok hp hk).2)
  have hkk : ∀ k ∈ (ppack l).2.map gkey, k.length < 256 := fun k hk => by have := (gkey_ok hp hk).2; omega
  rw [p5] at h hmn hbd hkl hkk ⊢
  rw [List.length_map] at hkl
  have hlk := fun i hi => h.look hs1 hs2 (by rw [List.length_map]; omega) hbd (by omega) hn (i := i) hi hmn hg
  refine ⟨?_, fun i hi => ?_⟩
  · have hl := hlk (pgroups l).length (by omega)
    rw [show tb s ((pgroups l).map gbody) (kbytes ((pgroups l).map gkey)) (pgroups l).length = (2, tk s (pgroups l).length, (List.range (pgroups l).length).map (tk s), kbytes ((pgroups l).map gkey), ()) by unfold tb; rw [if_neg (by rw [List.length_map]; omega), List.length_map]] at hl
    rw [topen_some (b := (2, tk s (pgroups l).length, (List.range (pgroups l).length).map (tk s), kbytes ((pgroups l).map gkey), ())) (ks := (pgroups l).map gkey) (by rw [hl]) (kparse_kbytes _ hkk), if_pos ⟨rfl, by simp [hne], by simp⟩, hl]
  · have hl := hlk i (by omega)
    rw [show tb s ((pgroups l).map gbody) (kbytes ((pgroups l).map gkey)) i = (1, tk s i, [], gbody (pgroups l)[i], ()) by unfold tb; rw [if_pos (by rw [List.length_map]; exact hi), List.getD_eq_getElem?_getD, List.getElem?_map, List.getElem?_eq_getElem hi]; rfl] at hl
    have hgm := List.getElem_mem hi
    have hga : (pgroups l)[i].all pok = true := List.all_eq_true.2 fun x hx => List.all_eq_true.1 p4 x (by rw [← hG.flat]; exact List.mem_flatten.2 ⟨_, hgm, hx⟩)
    have hso : GrSo (pgroups l) := ⟨by rw [hG.flat]; exact psorted_pair p3, hG.ne⟩
    rw [tdata_some (b := (1, tk s i, [], gbody (pgroups l)[i], ())) (by rw [hl]), if_pos ⟨rfl, rfl⟩, hl, punpack_gbody hga (pair_psorted (hso.group _ hgm)) (hG.ne _ hgm)]
/-- What Get tells of it. -/
theorem table_get {l : List PairT} (hp : (ppack l).1 = 0) (h : TWr n s ((ppack l).2.map gbody) (kbytes ((ppack l).2.map gkey)) N ((ppack l).2.length + 1) d) (hs1 : 0 ≤ s) (hs2 : s ≤ 1073741824) (hn : n ≤ 20) (hmn : (ppack l).2.length + 1 ≤ n) {g : Grd} (hg : g.n = n) (key : List UInt8) :
    tget g d none (tk s (ppack l).2.length) key = ((match pfind l key with | none => 6 | some _ => 0), (pfind l key).getD pnone, g) ∧ ∀ a b : Nat, a ≤ b → b < (topen g d none (tk s (ppack l).2.length)).2.1.2.length → key < (topen g d none (tk s (ppack l).2.length)).2.1.2.getD a [] → key < (topen g d none (tk s (ppack l).2.length)).2.1.2.getD b [] := by
  obtain ⟨ho, hda⟩ := table_open hp h hs1 hs2 hn hmn hg
  obtain ⟨p1, p2, p3, p4, p5⟩ := ppack_ok hp
  have hG := pgroups_ok p4
  have hso : GrSo (pgroups l) := ⟨by rw [hG.flat]; exact psorted_pair p3, hG.ne⟩
  have hf := find_groups hso key
  rw [hG.flat] at hf
  rw [p5] at ho hda ⊢
  refine ⟨?_, fun a b hab hb hk => ?_⟩
  · unfold tget
    rw [ho]
    simp only
    rw [if_neg (by simp)]
    by_cases hk : kbef ((pgroups l).map gkey) key = 0
    · rw [if_pos hk, hf, if_pos hk]; rfl
    · have hkl := kbef_le ((pgroups l).map gkey) key
      rw [List.length_map] at hkl
      have hi : kbef ((pgroups l).map gkey) key - 1 < (pgroups l).length := by omega
      rw [if_neg hk, show ((List.range (pgroups l).length).map (tk s)).getD (kbef ((pgroups l).map gkey) key - 1) (0, 0, ()) = tk s (kbef ((pgroups l).map gkey) key - 1) by rw [List.getD_eq_getElem?_getD, List.getElem?_map, List.getElem?_range hi]; rfl, hda _ hi]
      simp only
      rw [if_neg (by simp), hf, if_neg hk, List.getD_eq_getElem?_getD, List.getElem?_eq_getElem hi]
      rfl
  · rw [ho] at hb hk ⊢
    simp only [List.length_map] at hb hk ⊢
    rw [List.getD_eq_getElem?_getD, List.getElem?_map, List.getElem?_eq_getElem (by omega)] at hk
    rw [List.getD_eq_getElem?_getD, List.getElem?_map, List.getElem?_eq_getElem hb]
    exact hso.mono key hab hb hk
end
end Go.Proofs.YtgkljncigbiffaaDoor

/- A table's blocks are told: the program's Blocks. Condition: the grid is known. -/
namespace Go.Proofs.YtgkljncigbiffaaDoor
open Go.RowKit
/-- What Blocks tells. -/
def tblocks (g : Grd) (d : Dsk) (f : Option Fus) (r : RefT) : Int × List RefT × Grd :=
  if (topen g d f r).1 ≠ 0 then ((topen g d f r).1, [], (topen g d f r).2.2) else (0, r :: (topen g d f r).2.1.1, (topen g d f r).2.2)
section
variable {w : World} {q : GPl} {g : Grd} {d : Dsk} {f : Option Fus}
set_option maxRecDepth 100000 in
set_option maxHeartbeats 2000000 in
theorem tblocks_any (h : GridR w q g d f) (hlen : g.W.length ≤ 1099511627776) (r : RefT) (n : Int) (F L : Option Addr) (nf cf nl cl : Nat) :
    Calls Tryd.prog 14 #[.pointer (some ⟨q.gg, 0, none⟩), .agg (runv r n F L nf cf nl cl)] w fun e w' => ∃ (v : Value) (sp : List Value), e = .returned (.tuple #[v, .int .i64 (tblocks g d f r).1]) ∧ OwnsC 33 2 w' w.heap.size v (tblocks g d f r).2.1.length (refCells (tblocks g d f r).2.1) sp ∧ LPost w q (decide ((tblocks g d f r).1 = 0)) (tblocks g d f r).2.2 d f w' := by
  have hb1 := (Below.refl w.heap.size w).alloc (Nat.le_refl _) (.cells (runv r n F L nf cf nl cl) 35)
  have hg3 := Blk.new w 35 (runv r n F L nf cf nl cl)
  have hop := topen_any (h.below hb1) hlen r n F L nf cf nl cl
  obtain ⟨T, hT⟩ : ∃ T, T = tblocks g d f r := ⟨_, rfl⟩
  rw [← hT]
  have HG := Lib.hid h
  have H0 := Lib.hid (And.intro hb1 (And.intro hg3 (And.intro (h.below hb1) hT)))
  clear h hb1 hlen hT
  unfold runv at H0 hg3 hop ⊢
  go_enter Tryd.func14, Tryd.ntmps14
  go_wp2_with (first
    | ((with_reducible show wpList _ _ _ ((⟨some 10, _, _, _, _, _⟩ : Oper) :: _) _ _); refine wpList_load_blk (o := ⟨some 10, _, _, _, _, _⟩) (hg3) (by rfl) _ _ (by rfl) (by rfl) _ Tryd.underlying35 (by rfl) (sizeRun) (by rfl) ?_)
    | fail)
  refine hop.mono ?_
  rintro e w2 ⟨A, c, K, ck, rfl, hI, hL⟩
  have hg32 := hL.1.blk H0.out.2.2.1 H0.out.2.1 (by decide)
  have hz0 := @topen_zero g d f r
  obtain ⟨cd, hcd⟩ : ∃ cd, cd = (topen g d f r).1 := ⟨_, rfl⟩
  obtain ⟨x, hx⟩ : ∃ x, x = (topen g d f r).2.1 := ⟨_, rfl⟩
  obtain ⟨g2, hg2⟩ : ∃ g2, g2 = (topen g d f r).2.2 := ⟨_, rfl⟩
  have HT := Lib.hid (show T = if cd ≠ 0 then (cd, [], g2) else (0, r :: x.1, g2) by rw [H0.out.2.2.2, hcd, hx, hg2]; rfl)
  rw [← hcd, ← hx, ← hg2] at hz0
  rw [← hx] at hI
  rw [← hcd, ← hg2] at hL
  rw [← hcd, ← hx]
  have HP := Lib.hid (And.intro (GPost.trans1 H0.out.1 hL.1) (And.intro (show cd = 0 → Below w.heap.size w w2 from fun e => H0.out.1.trans ((hL.2 (decide_eq_true e)).mono H0.out.1.size)) hz0))
  clear hop hg3 hcd hx hg2 hL hz0
  unfold indc
  have hb3 := (Below.refl w2.heap.size w2).alloc (Nat.le_refl _) (.cells #[.slice A x.1.length c, .slice K x.2.length ck] 128)
  by_cases hc0 : cd = 0
  case neg =>
    have kc : (cd != 0) = true := bne_iff_ne.2 hc0
    have HF := Lib.hid (HT.out.trans (if_pos hc0))
    have HP3 := Lib.hid (HP.out.1.below hb3)
    have HN := Lib.hid hc0
    clear hc0 hb3 hI hg32
    go_wp2_with fail
    refine bodyPost_ret (results_tmp2 rfl _ _ _) rfl ?_
    refine ⟨.slice none 0 0, [], by rw [HF.out]; rfl, by rw [HF.out]; exact OwnsC.nil _ _ _ _, ?_⟩
    rw [HF.out]
    exact ⟨HP3.out, fun e => absurd (of_decide_eq_true e) HN.out⟩
  subst hc0
  have HF := Lib.hid (HT.out.trans (if_neg (by simp)))
  have hx6 := (Blk.new w2 128 #[.slice A x.1.length c, .slice K x.2.length ck]).alloc (.cells #[.int .i64 r.1, .int .i64 r.2.1] 33)
  have d6 := (Blk.new w2 128 #[.slice A x.1.length c, .slice K x.2.length ck]).at_ 0 (v := .slice A x.1.length c) rfl
  have hr3 := hg32.alloc (.cells #[.slice A x.1.length c, .slice K x.2.length ck] 128)
  have e1 := hr3.at_ 0 (v := .int .i64 r.1) rfl
  have e2 := hr3.at_ 1 (v := .int .i64 r.2.1) rfl
  have hx16 : x.1.length ≤ 16 := by have := (HP.out.2.2 rfl).2; omega
  have hbw := (HP.out.2.1 rfl)
  have HZ := Lib.hid (HP.out.2.2 rfl).1
  have hbw3 := (hbw.alloc hbw.size (.cells #[.slice A x.1.length c, .slice K x.2.length ck] 128)).alloc (by simp; have := hbw.size; omega) (.cells #[.int .i64 r.1, .int .i64 r.2.1] 33)
  have hbz := hb3.alloc (by simp) (.cells #[.int .i64 r.1, .int .i64 r.2.1] 33)
  have hown := OwnsC.lit (e := 33) (size := 2) (base := w.heap.size) (w2.alloc (.cells #[.slice A x.1.length c, .slice K x.2.length ck] 128)) #[.int .i64 r.1, .int .i64 r.2.1] 1 (Nat.le_trans hbw.size (by simp)) (by simp [maxLen]) (by simp)
  rw [show (w2.alloc (.cells #[.slice A x.1.length c, .slice K x.2.length ck] 128)).heap.size = w2.heap.size + 1 by simp] at hown
  have hrs := (hI.refs.below hbz).reads
  have HI := Lib.hid (And.intro hown (And.intro hrs (And.intro hbw3 (And.intro (show w.heap.size ≤ ((w2.alloc (.cells #[.slice A x.1.length c, .slice K x.2.length ck] 128)).alloc (.cells #[.int .i64 r.1, .int .i64 r.2.1] 33)).heap.size from hbw3.size) ((HP.out.1.below hbz))))))
  clear hx6 hr3 hg32 hbw hbw3 hbz hown hrs hI hb3
  go_wp2_with (first
    | ((with_reducible show wpList _ _ _ ((⟨some 18, _, _, _, _, _⟩ : Oper) :: _) _ _); refine wpList_load_mid (o := ⟨some 18, _, _, _, _, _⟩) (range2 e1 e2) (by rfl) _ _ (by rfl) (by rfl) _ Tryd.underlying33 (by rfl) size_ref (by rfl) ?_)
    | ((with_reducible show wpList _ _ _ ((⟨some 22, _, _, _, _, _⟩ : Oper) :: _) _ _); refine wpList_append_vals (o := ⟨some 22, _, _, _, _, _⟩) (by rfl) _ _ _ (by rfl) w.heap.size 33 (.agg #[.int .i64 0, .int .i64 0]) 2 16 Tryd.underlying28 infoRef (by rfl) (by omega) (.slice (some ⟨w2.heap.size + 1, 0, none⟩) 1 1) 1 [.int .i64 r.1, .int .i64 r.2.1] [] (by rfl) HI.out.1 A x.1.length c (refCells x.1) (by rfl) (refCells_length x.1) HI.out.2.1 (refCells_one x.1) (by simp only [maxLen]; omega) (by omega) HI.out.2.2.2.1 ?_; intro v' W5 sp5 ho5 hg5 hv5 hn5; refine stopped ?_)
    | fail)
  refine Stopped.mk ?_
  have hbf := HI.out.2.2.1.grown hg5 HI.out.2.2.2.1 (fun k hk => (OwnsC.lt HI.out.1 k hk).1)
  have H5 := Lib.hid (And.intro ho5 hbf)
  clear ho5 hg5 hv5 hn5 hbf d6 e1 e2
  go_wp2_with fail
  refine bodyPost_ret (results_tmp2 rfl _ _ _) rfl ?_
  refine ⟨v', sp5, by rw [HF.out]; rfl, ?_, ?_⟩
  · rw [HF.out]
    show OwnsC _ _ _ _ _ (r :: x.1).length (refCells (r :: x.1)) _
    rw [List.length_cons, Nat.add_comm]
    exact H5.out.1
  · rw [HF.out]
    exact ⟨by rw [HZ.out]; exact GPost.same HG.out H5.out.2, fun _ => H5.out.2⟩
end
end Go.Proofs.YtgkljncigbiffaaDoor

/- A table is dropped: the program's Drop. Condition: the grid is known, and has no fuse. -/
namespace Go.Proofs.YtgkljncigbiffaaDoor
open Go.RowKit
/-- Blocks are released, as long as they can be. -/
def trel (g : Grd) : List RefT → Int × Grd
  | [] => (0, g)
  | r :: l => if turnCode g.L r.1 1 ≠ 0 then (turnCode g.L r.1 1, { g with L := turnL g.L r.1 1 2 }) else trel { g with L := turnL g.L r.1 1 2 } l
def tdrop (g : Grd) (d : Dsk) (r : RefT) : Int × Grd := if (tblocks g d none r).1 ≠ 0 then ((tblocks g d none r).1, (tblocks g d none r).2.2) else trel (tblocks g d none r).2.2 (tblocks g d none r).2.1
theorem read_refsOk (raw : List UInt8) : ∀ r ∈ (GB.read raw).2.2.2.1, refOk r = true := by
  unfold GB.read
  split
  · simp [GB.none_]
  split
  · simp [GB.none_]
  split
  · simp [GB.none_]
  split
  · rename_i h; exact (GB.ok_spec h.1).2.2.2.2
  · simp [GB.none_]
theorem tblocks_ok {g : Grd} {d : Dsk} {f : Option Fus} {r : RefT} (hr : -9223372036854775808 ≤ r.1 ∧ r.1 ≤ 9223372036854775807) : ∀ x ∈ (tblocks g d f r).2.1, -9223372036854775808 ≤ x.1 ∧ x.1 ≤ 9223372036854775807 := by
  have hk : ∀ x ∈ (topen g d f r).2.1.1, refOk x = true := by
    cases ho : (glook g d f r).2.1 with
    | none => rw [topen_none ho]; simp
    | some b =>
      have hb : ∀ x ∈ b.2.2.1, refOk x = true := by
        unfold glook at ho
        split at ho
        · cases ho
        split at ho
        · cases ho
        cases ht : gthere d r with
        | none => rw [ht] at ho; cases ho
        | some b' =>
          rw [ht] at ho
          injection ho with ho
          subst ho
          unfold gthere at ht
          split at ht
          · injection ht with ht
            subst ht
            exact read_refsOk _
          · cases ht
      cases hp : kparse b.2.2.2.1 with
      | none => rw [topen_bad ho hp]; simp
      | some ks =>
        rw [topen_some ho hp]
        split
        · exact hb
        · simp
  unfold tblocks
  split
  · simp
  · intro x hx
    rcases List.mem_cons.1 hx with e | e
    · subst e; exact hr
    · have := refOk_spec (hk x e); omega
theorem tblocks_zero {g : Grd} {d : Dsk} {f : Option Fus} {r : RefT} (h : (tblocks g d f r).1 = 0) : (tblocks g d f r).2.2 = g := by
  unfold tblocks at h ⊢
  split at h
  · rename_i hn; exact absurd h hn
  · rename_i hn; rw [if_neg hn]; exact (topen_zero (by simpa using hn)).1
theorem trel_step {g : Grd} {l : List RefT} {i : Nat} (hi : i < l.length) (h : turnCode g.L l[i].1 1 = 0) : trel g (l.drop i) = trel { g with L := turnL g.L l[i].1 1 2 } (l.drop (i + 1)) := by
  rw [List.drop_eq_getElem_cons hi, trel, if_neg (by rw [h]; simp)]
theorem trel_stop {g : Grd} {l : List RefT} {i : Nat} (hi : i < l.length) (h : turnCode g.L l[i].1 1 ≠ 0) : trel g (l.drop i) = (turnCode g.L l[i].1 1, { g with L := turnL g.L l[i].1 1 2 }) := by
  rw [List.drop_eq_getElem_cons hi, trel, if_pos h]
/-- Ahead of each ref. -/
def DrRel (w : World) (q : GPl) (d : Dsk) (l : List RefT) (v : Value) (sp : List Value) (R : Int × Grd) (x : Value) (wr : World) : Prop :=
  ∃ (i : Nat) (gi : Grd) (qi : GPl), i ≤ l.length ∧ x = .int .i64 (i : Int) ∧ R = trel gi (l.drop i) ∧ BuAt w q gi d l [] v (.slice none 0 0) qi sp [] wr
section
variable {w : World} {q : GPl} {g : Grd} {d : Dsk}
set_option maxRecDepth 100000 in
set_option maxHeartbeats 2000000 in
theorem tdrop_any (h : GridR w q g d none) (hlen : g.W.length ≤ 1099511627776) (r : RefT) (hr : -9223372036854775808 ≤ r.1 ∧ r.1 ≤ 9223372036854775807) (n : Int) (F L : Option Addr) (nf cf nl cl : Nat) :
    Calls Tryd.prog 15 #[.pointer (some ⟨q.gg, 0, none⟩), .agg (runv r n F L nf cf nl cl)] w fun e w' => e = .returned (.int .i64 (tdrop g d r).1) ∧ GPost w q (tdrop g d r).2 d none w' := by
  have hb1 := (Below.refl w.heap.size w).alloc (Nat.le_refl _) (.cells (runv r n F L nf cf nl cl) 35)
  have hg3 := Blk.new w 35 (runv r n F L nf cf nl cl)
  have hop := tblocks_any (h.below hb1) hlen r n F L nf cf nl cl
  have hok := tblocks_ok (g := g) (d := d) (f := none) hr
  obtain ⟨T, hT⟩ : ∃ T, T = tdrop g d r := ⟨_, rfl⟩
  rw [← hT]
  have H0 := Lib.hid (And.intro hb1 (And.intro (h.below hb1) hT))
  clear h hb1 hlen hT
  unfold runv at H0 hg3 hop ⊢
  go_enter Tryd.func15, Tryd.ntmps15
  go_wp2_with (first
    | ((with_reducible show wpList _ _ _ ((⟨some 12, _, _, _, _, _⟩ : Oper) :: _) _ _); refine wpList_load_blk (o := ⟨some 12, _, _, _, _, _⟩) (hg3) (by rfl) _ _ (by rfl) (by rfl) _ Tryd.underlying35 (by rfl) (sizeRun) (by rfl) ?_)
    | fail)
  refine hop.mono ?_
  rintro e w2 ⟨v, sp, rfl, hO, hL⟩
  obtain ⟨cd, hcd⟩ : ∃ cd, cd = (tblocks g d none r).1 := ⟨_, rfl⟩
  obtain ⟨l, hl⟩ : ∃ l, l = (tblocks g d none r).2.1 := ⟨_, rfl⟩
  obtain ⟨g2, hg2⟩ : ∃ g2, g2 = (tblocks g d none r).2.2 := ⟨_, rfl⟩
  have HT := Lib.hid (show T = if cd ≠ 0 then (cd, g2) else trel g2 l by rw [H0.out.2.2, hcd, hl, hg2]; rfl)
  rw [← hl] at hO hok
  rw [← hcd, ← hg2] at hL
  rw [← hcd]
  have hzz := @tblocks_zero g d none r
  rw [← hcd, ← hg2] at hzz
  have HP := Lib.hid (And.intro (GPost.trans1 H0.out.1 hL.1) (And.intro hok (And.intro hL hzz)))
  clear hop hg3 hcd hl hg2 hL hok hzz
  by_cases hc0 : cd = 0
  case neg =>
    have kc : (cd != 0) = true := bne_iff_ne.2 hc0
    have HF := Lib.hid (HT.out.trans (if_pos hc0))
    clear hc0 hO
    go_wp2_with fail
    go_ret
    rw [HF.out]
    exact ⟨rfl, HP.out.1⟩
  subst hc0
  have HF := Lib.hid (HT.out.trans (if_neg (by simp)))
  obtain ⟨A, c, rfl, hc, hm, hrd, -⟩ := OwnsC.reads hO
  have hb2 := HP.out.2.2.1.2 rfl
  have hA0 : BuAt (w.alloc (.cells #[.int .i64 r.1, .int .i64 r.2.1, .int .i64 n, .slice F nf cf, .slice L nl cl] 35)) q g2 d l [] (.slice A l.length c) (.slice none 0 0) q sp [] w2 := by
    rw [HP.out.2.2.2 rfl]
    exact ⟨hO, OwnsC.nil _ _ _ _, rfl, rfl, rfl, H0.out.2.1.below hb2, Near.below hb2, fun x hx => .inl hx, fun x hx hm => by have := (OwnsC.lt hO x hx).1; have := H0.out.2.1.lt x hm; omega⟩
  have HB := Lib.hid H0.out.1
  have HA0 := Lib.hid hA0
  have hc9 : l.length ≤ 9223372036854775807 := Nat.le_trans hc (Nat.le_trans hm (by simp [maxLen]))
  clear hb2 hA0 hO hc hm hrd HT
  generalize (w.alloc (.cells #[.int .i64 r.1, .int .i64 r.2.1, .int .i64 n, .slice F nf cf, .slice L nl cl] 35)) = w1 at HA0 HB
  go_wp2_with fail
  go_loopw [21] (fun v wr => DrRel w1 q d l (.slice A l.length c) sp T v wr) (fun v _ => l.length - (intOf v).toNat)
  case atStart => exact ⟨0, g2, q, Nat.zero_le _, rfl, HF.out, HA0.out⟩
  case round =>
    obtain ⟨i, gi, qi, hi, rfl, hT, hA⟩ := hrel
    by_cases hlt : i < l.length
    case neg =>
      have hF : T = (0, gi) := by rw [hT, List.drop_eq_nil_of_le (by omega)]; rfl
      have HG := Lib.hid (And.intro hF (GPost.trans1 HB.out ⟨qi, hA.gg, hA.p, hA.gf, hA.grid, hA.near, hA.all⟩))
      clear hF hT hA
      go_wp2_with fail
      go_ret
      rw [HG.out.1]
      exact ⟨rfl, HG.out.2⟩
    obtain ⟨A', c', e', -, -, hrd, -⟩ := OwnsC.reads hA.refs
    obtain ⟨b, off, hAe, -, hcl⟩ := (Refs.of hrd) (by omega)
    injection e' with e1 e2 e3
    subst e1 e3
    obtain ⟨d1, d2⟩ := hcl i hlt
    have hrk := HP.out.2.1 l[i] (List.getElem_mem hlt)
    obtain ⟨ri, hri⟩ : ∃ ri, ri = l[i] := ⟨_, rfl⟩
    have hst := fun h => trel_step (g := gi) hlt h
    have hsp := fun h => trel_stop (g := gi) hlt h
    rw [← hri] at d1 d2 hrk hst hsp
    rw [← hT] at hst hsp
    have hr2 := range2 d1 d2
    have hb8 := (Below.refl wr.heap.size wr).alloc (Nat.le_refl _) (.cells #[.int .i64 ri.1, .int .i64 ri.2.1] 33)
    have hg8 := Blk.new wr 33 #[.int .i64 ri.1, .int .i64 ri.2.1]
    have hA8 := hA.below hb8
    have hgr := grelease_any hA8.grid ri hrk.1 hrk.2
    rw [hA8.gg] at hgr
    have H8 := Lib.hid (And.intro hA8 (And.intro hst hsp))
    subst hAe
    clear hT hA hrd hcl d1 d2 hrk hri hst hsp hb8 hA8
    go_wp2_with (first
      | ((with_reducible show wpList _ _ _ ((⟨some 24, _, _, _, _, _⟩ : Oper) :: _) _ _); refine wpList_load_mid (o := ⟨some 24, _, _, _, _, _⟩) hr2 (by rfl) _ _ (by rfl) (by rfl) _ Tryd.underlying33 (by rfl) size_ref (by rfl) ?_)
      | ((with_reducible show wpList _ _ _ ((⟨some 26, _, _, _, _, _⟩ : Oper) :: _) _ _); refine wpList_load_blk (o := ⟨some 26, _, _, _, _, _⟩) (hg8) (by rfl) _ _ (by rfl) (by rfl) _ Tryd.underlying33 (by rfl) (size_ref) (by rfl) ?_)
      | fail)
    refine hgr.mono ?_
    rintro e w9 ⟨rfl, hp9⟩
    obtain ⟨q9, hA9⟩ := H8.out.1.wrote hp9
    obtain ⟨tc, htc⟩ : ∃ tc, tc = turnCode gi.L ri.1 1 := ⟨_, rfl⟩
    rw [← htc]
    by_cases hc0 : tc = 0
    case neg =>
      have kc : (tc != 0) = true := bne_iff_ne.2 hc0
      have hF := H8.out.2.2 (by rw [← htc]; exact hc0)
      have HG := Lib.hid (And.intro hF (And.intro htc (GPost.trans1 HB.out ⟨q9, hA9.gg, hA9.p, hA9.gf, hA9.grid, hA9.near, hA9.all⟩)))
      clear hF hA9 hp9 hgr hr2 hg8 hc0 htc
      go_wp2_with fail
      go_ret
      rw [HG.out.1, HG.out.2.1]
      exact ⟨rfl, HG.out.2.2⟩
    subst hc0
    have hF := H8.out.2.1 htc.symm
    have HG := Lib.hid (show DrRel w1 q d l (.slice (some ⟨b, off, none⟩) l.length c) sp T (.int .i64 ((i + 1 : Nat) : Int)) w9 from ⟨i + 1, _, q9, by omega, rfl, hF, hA9⟩)
    clear hF hA9 hp9 hgr hr2 hg8 htc
    go_wp2_with fail
    go_roundw
    case rel => exact HG.out
    case measure => exact meas_up (i := i) (m := l.length) rfl rfl hlt
end
end Go.Proofs.YtgkljncigbiffaaDoor

/- A range over a function that keeps maps of its own and yields a fixed row of items. Plain facts over any program. No condition. -/
namespace Go
open Go.RowKit
section
variable {F : Fence} {n : Nat} {P : Program}
theorem Kept.refl (B : Nat) (W : World) : Kept B W W := ⟨rfl, rfl, rfl, Nat.le_refl _, fun _ _ _ => rfl, fun _ _ h _ => h⟩
theorem Kept.trans {B : Nat} {W W' W'' : World} (h : Kept B W W') (k : Kept B W' W'') : Kept B W W'' :=
  ⟨k.os.trans h.os, k.tape.trans h.tape, k.output.trans h.output, Nat.le_trans h.size k.size, fun j hj hl => (k.low j hj (Nat.lt_of_lt_of_le hl h.size)).trans (h.low j hj hl), fun j o ho hc => k.cells j o (h.cells j o ho hc) hc⟩
/-- Blocks that came later may be written as well. -/
theorem Kept.new {B g : Nat} {W W' W'' : World} (h : Kept B W W') (u : Upd g W' W'') (hg : W.heap.size ≤ g) (hB : B ≤ g) : Kept B W W'' :=
  ⟨u.os.trans h.os, u.tape.trans h.tape, u.output.trans h.output, by rw [u.size]; exact h.size, fun j hj hl => (u.block j (by omega)).trans (h.low j hj hl), fun j o ho hc => by
    have hj := (Array.getElem?_eq_some_iff.1 ho).1
    exact (u.block j (by omega)).trans (h.cells j o ho hc)⟩
/-- A map may be written. -/
theorem Kept.map {B g : Nat} {W W' : World} {es : Array MapEntry} {c : Nat} (u : Upd g W W') (hm : MapB W g es c) (hB : B ≤ g) : Kept B W W' :=
  ⟨u.os, u.tape, u.output, by rw [u.size]; exact Nat.le_refl _, fun j hj _ => u.block j (by omega), fun j o ho hc => by
    by_cases e : j = g
    · subst e
      have hm : W.heap[j]? = some (.map es c) := hm
      rw [hm] at ho; injection ho with ho; subst ho; cases hc
    · exact (u.block j e).trans ho⟩
end
end Go

/- A range over a function that keeps blocks of its own and yields a fixed row of items: the body keeps what came since the range began. Plain facts over any program. No condition. -/
namespace Go
open Go.RowKit
section
variable {F : Fence} {n : Nat} {P : Program}
/-- What came from B on and lay there lies there, but what the body calls its own. -/
structure Young (B : Nat) (X : List Nat) (W W' : World) : Prop where
  size : W.heap.size ≤ W'.heap.size
  same : ∀ (k : Nat) (o : Obj), B ≤ k → k ∉ X → W.heap[k]? = some o → W'.heap[k]? = some o
theorem Young.near {B : Nat} {X Y : List Nat} {W W' : World} (h : Near Y W W') (hX : ∀ x ∈ Y, x < B ∨ x ∈ X) : Young B X W W' :=
  ⟨h.size, fun k _ hB hn hk => (h.block k (Array.getElem?_eq_some_iff.1 hk).1 (fun e => (hX k e).elim (fun h => by omega) hn)).trans hk⟩
theorem Young.below {B : Nat} {X : List Nat} {W W' : World} (h : Below W.heap.size W W') : Young B X W W' := ⟨h.size, fun k _ _ _ hk => (h.block k (Array.getElem?_eq_some_iff.1 hk).1).trans hk⟩
theorem Young.trans {B : Nat} {X : List Nat} {W W' W'' : World} (h : Young B X W W') (k : Young B X W' W'') : Young B X W W'' := ⟨Nat.le_trans h.size k.size, fun j o hB hX hj => k.same j o hB hX (h.same j o hB hX hj)⟩
theorem Young.mono {B B' : Nat} {X : List Nat} {W W' : World} (h : Young B X W W') (hB : B ≤ B') : Young B' X W W' := ⟨h.size, fun j o hj hX ho => h.same j o (Nat.le_trans hB hj) hX ho⟩
/-- What the body calls its own grows by what came. -/
def Grown (X X' : List Nat) (W : World) : Prop := ∀ x ∈ X', x ∈ X ∨ W.heap.size ≤ x
theorem Grown.refl (X : List Nat) (W : World) : Grown X X W := fun _ h => .inl h
theorem Grown.trans {X X' X'' : List Nat} {W W' : World} (h : Grown X X' W) (k : Grown X' X'' W') (hs : W.heap.size ≤ W'.heap.size) : Grown X X'' W := fun x hx => (k x hx).elim (h x) fun h => .inr (Nat.le_trans hs h)
theorem Grown.mono {X X' : List Nat} {W W' : World} (h : Grown X X' W') (hs : W.heap.size ≤ W'.heap.size) : Grown X X' W := fun x hx => (h x hx).imp id fun h => Nat.le_trans hs h
theorem Grown.off {X X' : List Nat} {W : World} {x : Nat} (h : Grown X X' W) (hx : x ∉ X) (hl : x < W.heap.size) : x ∉ X' := fun hm => (h x hm).elim hx fun h => by omega
theorem Young.put {B : Nat} {X : List Nat} (W : World) (l : Nat) (o : Obj) (hl : l < B) : Young B X W (W.putObj l o) := Young.near (putObj_near W l o) (fun x hx => .inl (by rw [List.mem_singleton.1 hx]; exact hl))
/-- How a round's body may end. -/
def rowPostY (B : Nat) (X : List Nat) (I : List Nat → World → Prop) (Ix : Code → World → Prop) (W : World) : Exit → Act → World → Prop
  | .normal, _, W' => Young B X W W' ∧ ∃ X', I X' W' ∧ Grown X X' W
  | .ret, _, W' => Young B X W W' ∧ Ix .ret W'
  | .exit i, _, W' => Young B X W W' ∧ Ix (.exit i) W'
  | .goto t, _, W' => Young B X W W' ∧ Ix (.goto t) W'
  | .panic _, _, _ => False
  | .outgrown, _, _ => False
end
end Go

/- A range over a function whose items come with the function's own memory: an item is known by what holds of it. Plain facts over any program. No condition. -/
namespace Go
open Go.RowKit
section
variable {F : Fence} {n : Nat} {P : Program}
/-- The function's part; an item is known by what holds of it: it may write what is no cells, where it came later; the body keeps what came since, but its own. -/
def RowOfV (F : Fence) (n : Nat) (P : Program) (gf : Nat) (lb : Array Value) (E : Nat → World → Array Value → Prop) (I : Nat → List Nat → World → Prop) (N : Nat) : Prop :=
  ∀ (l : Nat) (J : Nat → List Nat → World → Prop) (Jx : World → Prop) (X : List Nat) (W : World), (∀ k X W, J k X W → I k X W) → (∀ k X W, J k X W → ∀ x ∈ X, x < W.heap.size) →
    (∀ k X W1 W2, J k X W1 → Kept W.heap.size W1 W2 → J k X W2) → (∀ W1 W2, Jx W1 → Kept W.heap.size W1 W2 → Jx W2) →
    (∀ k X W1 vals, J k X W1 → k < N → E k W1 vals → YieldAt F (n - 1) P l vals W1 fun e W' => (e = .returned (.bool true) ∧ ∃ X', J (k + 1) X' W' ∧ Young W.heap.size X W1 W' ∧ Grown X X' W1) ∨ (e = .returned (.bool false) ∧ Jx W')) →
    J 0 X W → CallsIn F n P gf (#[.func (.yield l) #[] #[]] ++ lb) W fun e W' => (∃ v, e = .returned v) ∧ ((∃ X', J N X' W') ∨ Jx W')
theorem wpIn_rangeRowV {g : Operand} {ps : Array Tmp} {assign body : Code} {Q : Exit → Act → World → Prop} {a : Act} {w : World}
    (hro : F.round = none) (h1 : 1 ≤ n) {gf : Nat} {lb : Array Value} (hg : a.eval g = .func (.func gf) #[] lb) (hFg : F.fn gf) (eg : ∀ args w, (callFunc gf args).run P w = .ok (.enter gf args) w)
    (E : Nat → World → Array Value → Prop) (hps : ∀ k W vals, E k W vals → vals.size = ps.size) (N : Nat) (I : Nat → List Nat → World → Prop) (Ix : Code → World → Prop)
    (hIX : ∀ k X W, I k X W → ∀ x ∈ X, x < W.heap.size)
    (hI : ∀ k X W W', I k X W → Kept w.heap.size W W' → I k X W') (hIx : ∀ c W W', Ix c W → Kept w.heap.size W W' → Ix c W') {X0 : List Nat} (h0 : I 0 X0 w)
    (hrow : RowOfV F (n - 1) P gf lb E I N)
    (hround : ∀ l k X W vals, w.heap.size ≤ l → l < W.heap.size → I k X W → k < N → E k W vals → assign.wpIn (F.inRound l) (n - 1 - 1) P
      (Exit.then (fun a₁ W₁ => Below W.heap.size W W₁ ∧ ∀ W₂, Kept w.heap.size W₁ W₂ → body.wpIn (F.inRound l) (n - 1 - 1) P (rowPostY w.heap.size X (I (k + 1)) Ix W₂) a₁ W₂) (fun _ _ _ => False))
      { tmps := (ps.zip vals).foldl (fun t (p, v) => t.setIfInBounds p v) a.tmps, defers := [] } W)
    (hdone : ∀ D X W, w.heap.size ≤ D → I N X W → W.heap[D]? = some (.deferred (some [])) → Q .normal { a with defers := { target := .collected D, args := #[] } :: a.defers } W)
    (hstop : ∀ D c W, w.heap.size ≤ D → Ix c W → W.heap[D]? = some (.deferred (some [])) → c.wpIn F n P Q { a with defers := { target := .collected D, args := #[] } :: a.defers } W) :
    (Code.rangeFunc g ps assign body).wpIn F n P Q a w := by
  refine wpIn_rangeFunc fun fn hfn => ?_
  rw [hro]
  -- the loop's record, in a state; the two blocks that the loop lays
  let R : LoopState → Option Code → Obj := fun st pe => .loop { state := st, pending := pe, fn, tmps := a.tmps, params := ps, assign, body, defers := w.heap.size }
  let D := w.heap.size
  let l := w.heap.size + 1
  -- what the loop needs of a world, beside the caller's own
  let Bk : LoopState → Option Code → World → Prop := fun st pe W => W.heap[l]? = some (R st pe) ∧ W.heap[D]? = some (.deferred (some []))
  have bklt : ∀ {st pe W}, Bk st pe W → l < W.heap.size := fun h => (Array.getElem?_eq_some_iff.1 h.1).1
  have bkput : ∀ {st pe W} st' pe', Bk st pe W → Bk st' pe' (W.putObj l (R st' pe')) := fun st' pe' h =>
    ⟨World.putObj_heap_same (bklt h), (World.putObj_heap_other (by show D ≠ l; omega)).trans h.2⟩
  have bkput' : ∀ {st pe W} (o : Obj), Bk st pe W → (W.putObj l o).heap[D]? = some (.deferred (some [])) := fun o h => (World.putObj_heap_other (by show D ≠ l; omega)).trans h.2
  have bkbel : ∀ {st pe W W'}, Bk st pe W → Below W.heap.size W W' → Bk st pe W' := fun h k =>
    ⟨(k.block _ (bklt h)).trans h.1, (k.block _ (by have := bklt h; omega)).trans h.2⟩
  have low : ∀ {st pe W}, Bk st pe W → w.heap.size ≤ W.heap.size := fun h => by have := bklt h; omega
  have put : ∀ {st pe W} (o : Obj), Bk st pe W → Kept w.heap.size W (W.putObj l o) := fun o h => Kept.put (by show D ≤ l; omega) h.1 rfl
  -- the world behind the loop's entry
  let W1 := (w.alloc (.deferred (some []))).alloc (R .ready none)
  have e1 : Below w.heap.size w W1 := ((Below.refl _ w).alloc (Nat.le_refl _) _).alloc (by simp) _
  have b1 : Bk .ready none W1 := by
    refine ⟨?_, ?_⟩
    · have h := World.alloc_heap_new (w.alloc (.deferred (some []))) (R .ready none)
      rwa [World.size_alloc] at h
    · exact (Below.heap_alloc _ _ _ (by rw [World.size_alloc]; exact Nat.lt_succ_self _)).trans (World.alloc_heap_new w _)
  have hW1 : W1.heap.size = w.heap.size + 2 := by show ((w.alloc _).alloc _).heap.size = _; rw [World.size_alloc, World.size_alloc]
  have kw : ∀ {W W' : World}, Kept W1.heap.size W W' → Kept w.heap.size W W' := fun k => ⟨k.os, k.tape, k.output, k.size, fun j hj h => k.low j (by omega) h, k.cells⟩
  have bkkept : ∀ {st pe W W'}, Bk st pe W → Kept W1.heap.size W W' → Bk st pe W' := fun h k =>
    ⟨(k.low _ (by rw [hW1]; show w.heap.size + 1 < _; omega) (bklt h)).trans h.1, (k.low _ (by rw [hW1]; show w.heap.size < _; omega) (by have := bklt h; omega)).trans h.2⟩
  refine ⟨l, [{ target := .collected D, args := #[] }], W1, { target := .fn (.func gf) lb, args := #[.func (.yield l) #[] #[]] }, W1, gf, #[.func (.yield l) #[] #[]] ++ lb, W1,
    run_enterLoop_outer _ _ _ _ _, ?_, ?_, ?_, fun _ => h1, ?_⟩
  · simp only [resolve, hg]
    simp [go_sem]
  · intro f' hf'
    simp [Target.leads] at hf'
    exact hf' ▸ hFg
  · simp [invoke, go_sem, eg]
  refine (hrow l (fun k X W => (I k X W ∧ Bk .ready none W) ∧ D ∉ X ∧ l ∉ X) (fun W => ∃ c, Ix c W ∧ Bk .done (some c) W) X0 W1 (fun _ _ _ h => h.1.1) (fun k X W h => hIX k X W h.1.1)
    (fun k X W W' h b => ⟨⟨hI k X W W' h.1.1 (kw b), bkkept h.1.2 b⟩, h.2⟩) (fun W W' h b => by obtain ⟨c, hc, hb⟩ := h; exact ⟨c, hIx c W W' hc (kw b), bkkept hb b⟩) ?_ ⟨⟨hI 0 X0 w W1 h0 (Kept.below e1), b1⟩, fun hm => Nat.lt_irrefl _ (hIX 0 X0 w h0 _ hm), fun hm => Nat.not_succ_lt_self (hIX 0 X0 w h0 _ hm)⟩).mono ?_
  · -- a round
    rintro k X W vals ⟨⟨hi, hb⟩, hDX, hlX⟩ hk hE
    refine ⟨fn, _, assign, body, run_yield hb.1 (hps k W vals hE), roundIn_of_wpIn hfn ?_⟩
    refine wpIn_mono (hround l k X W vals (by show D ≤ l; omega) (bklt hb) hi hk hE) ?_
    rintro e a1 W2 he
    cases e
    case normal =>
      obtain ⟨hB, hbody⟩ := he
      have hb2 := bkbel hb hB
      refine ⟨_, run_beginRound hb2.1 rfl, ?_⟩
      have hb3 := bkput .busy none hb2
      refine wpIn_mono (hbody _ (Kept.put (by show D ≤ l; omega) hb2.1 rfl)) ?_
      rintro e3 a3 W4 hp
      have fin : Young w.heap.size X (W2.putObj l (R .busy none)) W4 → Bk .busy none W4 := fun hkf => ⟨hkf.same _ _ (by show D ≤ l; omega) hlX hb3.1, hkf.same _ _ (Nat.le_refl _) hDX hb3.2⟩
      cases e3 with
      | normal =>
        obtain ⟨hy, X', hi', hg⟩ := hp
        have hb4 := fin hy
        have hs2 : W2.heap.size ≤ (W2.putObj l (R .busy none)).heap.size := (Young.put (B := W1.heap.size) (X := X) W2 l (R .busy none) (by rw [hW1]; show w.heap.size + 1 < _; omega)).size
        have hg1 := hg.mono (Nat.le_trans hB.size hs2)
        exact ⟨_, _, run_endRound none hb4.1, .inl ⟨rfl, X', ⟨⟨hI _ _ _ _ hi' (put _ hb4), bkput .ready none hb4⟩, hg1.off hDX (by have := bklt hb; show w.heap.size < _; omega), hg1.off hlX (bklt hb)⟩, ((Young.below hB).trans (Young.put W2 l _ (by rw [hW1]; show w.heap.size + 1 < _; omega))).trans ((hy.mono (by rw [hW1]; omega)).trans (Young.put W4 l _ (by rw [hW1]; show w.heap.size + 1 < _; omega))), hg1⟩⟩
      | ret =>
        have hb4 := fin hp.1
        exact ⟨_, _, run_endRound (some .ret) hb4.1, .inr ⟨rfl, .ret, hIx _ _ _ hp.2 (put _ hb4), bkput .done (some .ret) hb4⟩⟩
      | exit i =>
        have hb4 := fin hp.1
        exact ⟨_, _, run_endRound (some (.exit i)) hb4.1, .inr ⟨rfl, .exit i, hIx _ _ _ hp.2 (put _ hb4), bkput .done (some (.exit i)) hb4⟩⟩
      | goto t =>
        have hb4 := fin hp.1
        exact ⟨_, _, run_endRound (some (.goto t)) hb4.1, .inr ⟨rfl, .goto t, hIx _ _ _ hp.2 (put _ hb4), bkput .done (some (.goto t)) hb4⟩⟩
      | panic ch => exact hp.elim
      | outgrown => exact hp.elim
    all_goals exact he.elim
  · -- behind the function
    rintro e W2 ⟨⟨v, rfl⟩, (⟨X, ⟨hi, hb⟩, -⟩ | ⟨c, hc, hb⟩)⟩
    · exact ⟨none, _, run_endLoop hb.1 (by simp), hdone D X _ (Nat.le_refl _) (hI _ _ _ _ hi (put _ hb)) (bkput' _ hb)⟩
    · exact ⟨some c, _, run_endLoop hb.1 (by simp), hstop D c _ (Nat.le_refl _) (hIx _ _ _ hc (put _ hb)) (bkput' _ hb)⟩
end
end Go

/- The pairs of a table's data blocks, as a row of items: the program's index.pairs. Conditions: the caller keeps the grid and the index; the data blocks can be read. -/
namespace Go.Proofs.YtgkljncigbiffaaDoor
open Go.RowKit
attribute [local go_sem] Oper.semAt_some
/-- Some blocks between two numbers lie as they lay. -/
def Held (B0 B1 : Nat) (w w' : World) : Prop := ∀ k, B0 ≤ k → k < B1 → w'.heap[k]? = w.heap[k]?
theorem Held.refl (B0 B1 : Nat) (w : World) : Held B0 B1 w w := fun _ _ _ => rfl
theorem Held.trans {B0 B1 : Nat} {w w' w'' : World} (h : Held B0 B1 w w') (k : Held B0 B1 w' w'') : Held B0 B1 w w'' := fun j h0 h1 => (k j h0 h1).trans (h j h0 h1)
theorem Held.below {B0 B1 : Nat} {w w' : World} (h : Below w.heap.size w w') (hs : B1 ≤ w.heap.size) : Held B0 B1 w w' := fun j _ h1 => h.block j (by omega)
theorem Held.young {B B0 B1 : Nat} {X : List Nat} {w w' : World} (h : Young B X w w') (h0 : B ≤ B0) (hs : B1 ≤ w.heap.size) (hX : ∀ x ∈ X, x < B0 ∨ B1 ≤ x) : Held B0 B1 w w' := fun j j0 j1 => by
  have hj : j < w.heap.size := by omega
  exact (h.same j _ (by omega) (fun hm => by have := hX j hm; omega) (Array.getElem?_eq_getElem hj)).trans (Array.getElem?_eq_getElem hj).symm
theorem OwnsC.held {e : TypeId} {size base n B1 : Nat} {w w' : World} {v : Value} {xs sp : List Value} (h : OwnsC e size w base v n xs sp) (k : Held base B1 w w') (hs : w.heap.size ≤ B1) : OwnsC e size w' base v n xs sp := by
  rcases h with h | ⟨g, cap, rfl, hb, hgg, rest⟩
  · exact .inl h
  · exact .inr ⟨g, cap, rfl, hb, (k g hb (Nat.lt_of_lt_of_le hgg.lt hs)).trans hgg, rest⟩
theorem PairO.held {base B1 : Nat} {w w' : World} {kv vv : Value} {p : PairT} (h : PairO w base kv vv p) (k : Held base B1 w w') (hs : w.heap.size ≤ B1) : PairO w' base kv vv p := by
  obtain ⟨sk, sv, h1, h2⟩ := h
  exact ⟨sk, sv, OwnsC.held h1 k hs, OwnsC.held h2 k hs⟩
/-- The items of the data blocks that are meant. -/
def titems (p : Nat → Bool) (G : Nat → List PairT) (m : Nat) : List PairT := (List.range m).flatMap fun i => if p i = true then G i else []
theorem titems_succ (p : Nat → Bool) (G : Nat → List PairT) (i : Nat) : titems p G (i + 1) = titems p G i ++ (if p i = true then G i else []) := by
  unfold titems
  rw [List.range_succ, List.flatMap_append]
  simp
/-- What an item is. -/
def PIt (l : List PairT) (k : Nat) (W : World) (vals : Array Value) : Prop := ∃ (p : PairT) (kv vv : Value), l[k]? = some p ∧ vals = #[.agg #[kv, vv, .bool p.2.2.1], .int .i64 0] ∧ PairO W 0 kv vv p
/-- What the caller keeps. -/
structure PKeeps (q : GPl) (g : Grd) (d : Dsk) (bx bs bg : Nat) (A : Option Addr) (c : Nat) (K : Option Addr) (ck : Nat) (x : List RefT × List (List UInt8)) (fs : Nat) (sb : Array Value) (W : World) : Prop where
  grid : GridR W q g d none
  ix : Blk W bx 128 (indc A c K ck x)
  at_ : IndexAt W A c K ck x
  some_ : Blk W bs 133 #[.func (.func fs) #[] sb]
  gp : Blk W bg 24 #[.pointer (some ⟨q.gg, 0, none⟩)]
theorem titems_pre (p : Nat → Bool) (Gr : Nat → List PairT) (i : Nat) : ∀ m, i ≤ m → ∃ T, titems p Gr m = titems p Gr i ++ T := fun m => by
  induction m with
  | zero => exact fun h => ⟨[], by rw [Nat.le_zero.1 h, List.append_nil]⟩
  | succ m ih =>
    intro h
    by_cases e : i = m + 1
    · exact ⟨[], by rw [e, List.append_nil]⟩
    · obtain ⟨T, hT⟩ := ih (by omega)
      exact ⟨T ++ (if p m = true then Gr m else []), by rw [titems_succ, hT, List.append_assoc]⟩
theorem titems_at (p : Nat → Bool) (Gr : Nat → List PairT) {i m j : Nat} (hi : i < m) (hp : p i = true) (hj : j < (Gr i).length) : (titems p Gr m)[(titems p Gr i).length + j]? = some (Gr i)[j] ∧ (titems p Gr i).length + j < (titems p Gr m).length := by
  obtain ⟨T, hT⟩ := titems_pre p Gr (i + 1) m (by omega)
  rw [titems_succ, if_pos hp] at hT
  refine ⟨?_, by rw [hT]; simp only [List.length_append]; omega⟩
  rw [hT, List.append_assoc, List.getElem?_append_right (by omega), Nat.add_sub_cancel_left, List.getElem?_append_left hj, List.getElem?_eq_getElem hj]
/-- Ahead of each pair of a block. -/
def PiRel (J : Nat → List Nat → World → Prop) (k0 len B0 B1 : Nat) (wt : World) (v : Value) (wr : World) : Prop := ∃ (j : Nat) (X : List Nat), j ≤ len ∧ v = .int .i64 (j : Int) ∧ J (k0 + j) X wr ∧ Held B0 B1 wt wr ∧ (∀ x ∈ X, x < B0 ∨ B1 ≤ x) ∧ B1 ≤ wr.heap.size
/-- Ahead of each ref. -/
def PoRel (W : World) (p : Nat → Bool) (Gr : Nat → List PairT) (m : Nat) (J : Nat → List Nat → World → Prop) (v : Value) (wr : World) : Prop := ∃ (i : Nat) (X : List Nat), i ≤ m ∧ v = .int .i64 (i : Int) ∧ J (titems p Gr i).length X wr ∧ W.heap.size ≤ wr.heap.size
set_option maxRecDepth 100000 in
set_option maxHeartbeats 4000000 in
theorem pairs_row (n : Nat) (hn : 1 ≤ n) {q : GPl} {g : Grd} {d : Dsk} {bx bs bg : Nat} {A : Option Addr} {c : Nat} {K : Option Addr} {ck : Nat} {x : List RefT × List (List UInt8)} {fs : Nat} {sb : Array Value} (hlen : g.W.length ≤ 1099511627776) (hx16 : x.1.length ≤ 16)
    (heg : ∀ args w, (callFunc fs args).run Tryd.prog w = .ok (.enter fs args) w) (p : Nat → Bool) (Gr : Nat → List PairT) (Ex : World → Prop)
    (hs : ∀ (i : Nat) (W : World), i < x.1.length → PKeeps q g d bx bs bg A c K ck x fs sb W → Ex W → Calls Tryd.prog fs (#[.int .i64 (i : Int)] ++ sb) W fun e W' => e = .returned (.bool (p i)) ∧ Below W.heap.size W W')
    (hd : ∀ i, (h : i < x.1.length) → p i = true → tdata g d none x.1[i] = (0, Gr i, g))
    (I : Nat → List Nat → World → Prop) (hI : ∀ k X W, I k X W → PKeeps q g d bx bs bg A c K ck x fs sb W ∧ Ex W) :
    RowOfV Fence.wide n Tryd.prog 107 #[.pointer (some ⟨bx, 0, none⟩), .pointer (some ⟨bs, 0, none⟩), .pointer (some ⟨bg, 0, none⟩)] (PIt (titems p Gr x.1.length)) I (titems p Gr x.1.length).length := by
  intro l J Jx X W hJI hJX hJb hJxb hY hJ0
  refine callsIn_of_wp Tryd.func107 rfl trivial ?_ rfl
  simp only [Tryd.ntmps107, List.size_toArray, List.length_cons, List.length_nil, Nat.reduceAdd, Nat.reduceSub, Array.replicate_succ, Array.replicate_zero, List.push_toArray, List.append_toArray, List.nil_append, List.cons_append]
  have hK : ∀ k X W, J k X W → PKeeps q g d bx bs bg A c K ck x fs sb W ∧ Ex W := fun k X W h => hI k X W (hJI k X W h)
  have HK := Lib.hid hK
  have HJ := Lib.hid (And.intro hJX (And.intro hJb (And.intro hJxb hY)))
  have d0 := (hK _ _ _ hJ0).1.ix.at_ 0 (v := .slice A x.1.length c) rfl
  have H0 := Lib.hid hJ0
  have HS := Lib.hid (And.intro hs hd)
  clear hK hJX hJb hJxb hY hJI hI hs hd hJ0
  gi_wp2
  clear d0
  gi_loopw [14] (fun v wr => PoRel W p Gr x.1.length J v wr) (fun v _ => x.1.length - (intOf v).toNat)
  case atStart => exact ⟨0, X, Nat.zero_le _, rfl, H0.out, Nat.le_refl _⟩
  case round =>
    obtain ⟨i, Xi, hi, rfl, hJi, hsz⟩ := hrel
    by_cases hlt : i < x.1.length
    case neg =>
      obtain rfl : i = x.1.length := by omega
      have HF := Lib.hid hJi
      clear hJi hsz
      gi_wp2
      go_end0
      exact ⟨⟨_, rfl⟩, .inl ⟨Xi, HF.out⟩⟩
    obtain ⟨hP, hE⟩ := HK.out _ _ _ hJi
    obtain ⟨b, off, hAe, -, hrc⟩ := hP.at_.refs (by omega)
    obtain ⟨dr1, dr2⟩ := hrc i hlt
    have hdi := HS.out.2 i hlt
    generalize x.1[i] = ri at dr1 dr2 hdi
    have hb6 := (Below.refl wr.heap.size wr).alloc (Nat.le_refl _) (.cells #[.int .i64 ri.1, .int .i64 ri.2.1] 33)
    have hJ6 := HJ.out.2.1 _ _ _ _ hJi (Kept.below hb6)
    obtain ⟨hP6, hE6⟩ := HK.out _ _ _ hJ6
    have hsi := HS.out.1 i _ hlt hP6 hE6
    have ds := hP6.some_.at_ 0 (v := .func (.func fs) #[] sb) rfl
    have hg6 := Blk.new wr 33 #[.int .i64 ri.1, .int .i64 ri.2.1]
    have H6 := Lib.hid (And.intro hJ6 (And.intro hP6 (And.intro hg6 (Nat.le_trans hsz hb6.size))))
    subst hAe
    clear hJi hP hE hrc hb6 hJ6 hP6 hE6 hsz
    gi_wp2_with fail
    refine ⟨trivial, ?_⟩
    refine ((callsIn_wide (n := n - 1)).2 hsi).mono ?_
    rintro e w7 ⟨rfl, hb7⟩
    have hJ7 := HJ.out.2.1 _ _ _ _ H6.out.1 (Kept.below hb7)
    have hg7 := H6.out.2.2.1.below hb7 H6.out.2.2.1.lt
    have hsz7 := Nat.le_trans H6.out.2.2.2 hb7.size
    clear hsi hb7 hg6 ds dr1 dr2
    cases hp : p i
    case false =>
      have HF := Lib.hid (show PoRel W p Gr x.1.length J (.int .i64 ((i + 1 : Nat) : Int)) w7 from ⟨i + 1, Xi, hlt, rfl, by rw [titems_succ, if_neg (by rw [hp]; simp), List.append_nil]; exact hJ7, hsz7⟩)
      clear hJ7 hg7 hsz7 hp hdi H6
      gi_wp2_with fail
      go_roundw
      case rel => exact HF.out
      case measure => exact meas_up (i := i) (m := x.1.length) rfl rfl hlt
    obtain ⟨hP7, -⟩ := HK.out _ _ _ hJ7
    have htd := tdata_any hP7.grid hlen ri
    rw [hdi hp] at htd
    have dg := hP7.gp.at_ 0 (v := .pointer (some ⟨q.gg, 0, none⟩)) rfl
    have H7 := Lib.hid (And.intro hJ7 hsz7)
    have HP := Lib.hid hp
    have e1 := hg7.at_ 0 (v := .int .i64 ri.1) rfl
    have e2 := hg7.at_ 1 (v := .int .i64 ri.2.1) rfl
    clear hJ7 hsz7 hp hdi hP7 H6 hg7
    gi_wp2_with fail
    refine ⟨trivial, ?_⟩
    refine ((callsIn_wide (n := n - 1)).2 htd).mono ?_
    rintro e wt ⟨v, rows, sp, rfl, hU, hL⟩
    have hbt := hL.2 rfl
    have hJt := HJ.out.2.1 _ _ _ _ H7.out.1 (Kept.below hbt)
    have hX7 := HJ.out.1 _ _ _ H7.out.1
    obtain ⟨A5, c5, rfl, hc5, hm5, -, hlow⟩ := hU.pairs
    obtain ⟨A5', c5', e5, -, -, hrow⟩ := hU.row
    injection e5 with e51 e52 e53
    subst e51 e53
    obtain ⟨len, hlenG⟩ : ∃ len, len = (Gr i).length := ⟨_, rfl⟩
    rw [← hlenG] at hc5 ⊢
    have HR := Lib.hid (And.intro hrow (And.intro hlow (And.intro hlenG (And.intro hbt.size H7.out.2))))
    have hst : PiRel J (titems p Gr i).length len w7.heap.size wt.heap.size wt (.int .i64 0) wt := ⟨0, Xi, Nat.zero_le _, rfl, hJt, Held.refl _ _ _, fun x hx => .inl (hX7 x hx), Nat.le_refl _⟩
    have HST := Lib.hid hst
    clear htd hU hL hbt hJt hX7 hrow hlow hst e1 e2 dg hlenG
    gi_wp2_with fail
    gi_loopw [37] (fun v wr => PiRel J (titems p Gr i).length len w7.heap.size wt.heap.size wt v wr) (fun v _ => len - (intOf v).toNat)
    case atStart => exact HST.out
    case round =>
      obtain ⟨j, Xj, hj, rfl, hJj, hH, hXB, hBs⟩ := hrel
      by_cases hlj : j < len
      case neg =>
        obtain rfl : j = len := by omega
        have HF := Lib.hid (show PoRel W p Gr x.1.length J (.int .i64 ((i + 1 : Nat) : Int)) wr from ⟨i + 1, Xj, hlt, rfl, by rw [titems_succ, if_pos HP.out, List.length_append, ← HR.out.2.2.1]; exact hJj, Nat.le_trans HR.out.2.2.2.2 (Nat.le_trans HR.out.2.2.2.1 hBs)⟩)
        clear hJj hH hXB hBs
        gi_wp2_with fail
        go_roundw
        case rel => exact HF.out
        case measure => exact meas_up (i := i) (m := x.1.length) rfl rfl hlt
      obtain ⟨b5, off5, hA5, hrj⟩ := HR.out.1 (by have := HR.out.2.2.1; omega)
      have hlj' : j < (Gr i).length := by have := HR.out.2.2.1; omega
      obtain ⟨kv, vv, hcs, hPO⟩ := hrj j hlj'
      obtain ⟨hit, hkN⟩ := titems_at p Gr hlt HP.out hlj'
      generalize (Gr i)[j] = pp at hcs hPO hit
      obtain ⟨l5, h5⟩ := HR.out.2.1 _ hA5
      have hbk := hH b5 l5 h5
      have d1 := (World.cell?_of_block (a := ⟨b5, off5 + j * 3, none⟩) hbk).trans (hcs 0 kv rfl)
      have d2 := (World.cell?_of_block (a := ⟨b5, off5 + j * 3 + 1, none⟩) hbk).trans (hcs 1 vv rfl)
      have d3 := (World.cell?_of_block (a := ⟨b5, off5 + j * 3 + 2, none⟩) hbk).trans (hcs 2 (.bool pp.2.2.1) rfl)
      have hPr := hPO.held hH (Nat.le_refl _)
      obtain ⟨A6, c6, B6, e6, rfl, rfl, -⟩ := hPr.at_
      have hb10 := (Below.refl wr.heap.size wr).alloc (Nat.le_refl _) (.cells #[.slice A6 pp.1.length c6, .slice B6 pp.2.1.length e6, .bool pp.2.2.1] 40)
      have hg10 := Blk.new wr 40 #[.slice A6 pp.1.length c6, .slice B6 pp.2.1.length e6, .bool pp.2.2.1]
      have hJ10 := HJ.out.2.1 _ _ _ _ hJj (Kept.below hb10)
      have hPI : PIt (titems p Gr x.1.length) ((titems p Gr i).length + j) (wr.alloc (.cells #[.slice A6 pp.1.length c6, .slice B6 pp.2.1.length e6, .bool pp.2.2.1] 40)) #[.agg #[.slice A6 pp.1.length c6, .slice B6 pp.2.1.length e6, .bool pp.2.2.1], .int .i64 0] := ⟨pp, _, _, hit, rfl, (hPr.below hb10).base_ (Nat.zero_le _)⟩
      obtain ⟨fn, tmps, assign, body, hy, hR⟩ := HJ.out.2.2.2 _ _ _ _ hJ10 hkN hPI
      have f1 := hg10.at_ 0 (v := .slice A6 pp.1.length c6) rfl
      have f2 := hg10.at_ 1 (v := .slice B6 pp.2.1.length e6) rfl
      have f3 := hg10.at_ 2 (v := .bool pp.2.2.1) rfl
      have H10 := Lib.hid (And.intro (hH.trans (Held.below hb10 hBs)) (And.intro hXB (And.intro (Nat.le_trans hBs hb10.size) (Nat.le_trans HR.out.2.2.2.2 (Nat.le_refl _)))))
      subst hA5
      clear hJj hH hXB hBs hrj hcs hPO hPr hbk hb10 hg10 hJ10 hPI hit l5 h5
      gi_wp2_with fail
      refine hR.mono ?_
      rintro e W3 (⟨rfl, X3, hJ3, hY3, hG3⟩ | ⟨rfl, hJx3⟩)
      · have hsW : W.heap.size ≤ w7.heap.size := H10.out.2.2.2
        have hH3 := H10.out.1.trans (Held.young hY3 hsW H10.out.2.2.1 H10.out.2.1)
        have hX3 : ∀ x ∈ X3, x < w7.heap.size ∨ wt.heap.size ≤ x := fun x hx => (hG3 x hx).elim (H10.out.2.1 x) (fun h => .inr (Nat.le_trans H10.out.2.2.1 h))
        have HF := Lib.hid (show PiRel J (titems p Gr i).length len w7.heap.size wt.heap.size wt (.int .i64 ((j + 1 : Nat) : Int)) W3 from ⟨j + 1, X3, hlj, rfl, by rw [← Nat.add_assoc]; exact hJ3, hH3, hX3, Nat.le_trans H10.out.2.2.1 hY3.size⟩)
        clear hJ3 hY3 hG3 hH3 hX3 hsW hR hy f1 f2 f3 d1 d2 d3 H10
        gi_wp2_with fail
        go_roundw
        case rel => exact HF.out
        case measure => exact meas_up (i := j) (m := len) rfl rfl hlj
      · have HF := Lib.hid hJx3
        clear hJx3 hR hy f1 f2 f3 d1 d2 d3 H10
        gi_wp2_with fail
        refine bodyPost_ret (results_none rfl _ _ _) rfl ?_
        exact ⟨⟨_, rfl⟩, .inr HF.out⟩
end Go.Proofs.YtgkljncigbiffaaDoor

/- A table that stands in a grid: what is read out of it. Plain facts. No condition. -/
namespace Go.Proofs.YtgkljncigbiffaaDoor
open Go.RowKit
theorem titems_all (G : List (List PairT)) : titems (fun _ => true) (fun i => G.getD i []) G.length = G.flatten := by
  have h := flatMap_getD (fun g : List PairT => g) G
  unfold titems
  simp only [if_true]
  rw [h]
  unfold List.flatMap
  rw [List.map_id']
theorem titems_between {G : List (List PairT)} (h : GrSo G) (fr to : List UInt8) : (titems (used (G.map gkey) fr to) (fun i => G.getD i []) G.length).filter (inside fr to) = G.flatten.filter (inside fr to) := by
  rw [← between_groups h]
  unfold titems
  rw [List.filter_flatMap]
  congr 1
  funext i
  split <;> simp
theorem titems_le (p : Nat → Bool) (Gr : Nat → List PairT) : ∀ m, (titems p Gr m).length ≤ (titems (fun _ => true) Gr m).length
  | 0 => by simp [titems]
  | m + 1 => by
    have := titems_le p Gr m
    rw [titems_succ, titems_succ, List.length_append, List.length_append, if_pos rfl]
    split
    · omega
    · simp only [List.length_nil]; omega
/-- A table stands there, in these groups. -/
structure TOpen (g : Grd) (d : Dsk) (r : RefT) (G : List (List PairT)) (refs : List RefT) : Prop where
  op : topen g d none r = (0, (refs, G.map gkey), g)
  len : refs.length = G.length
  dt : ∀ i, (h : i < G.length) → tdata g d none (refs.getD i (0, 0, ())) = (0, G[i], g)
  so : GrSo G
section
variable {g : Grd} {d : Dsk} {r : RefT} {G : List (List PairT)} {refs : List RefT}
theorem TOpen.zero (h : TOpen g d r G refs) : (topen g d none r).1 = 0 := by rw [h.op]
theorem TOpen.data (h : TOpen g d r G refs) : ∀ i, (hi : i < (topen g d none r).2.1.1.length) → tdata g d none (topen g d none r).2.1.1[i] = (0, G.getD i [], g) := by
  rw [h.op]
  intro i hi
  have hi' : i < refs.length := hi
  have hg : i < G.length := by rw [← h.len]; exact hi'
  have := h.dt i hg
  rw [List.getD_eq_getElem?_getD, List.getElem?_eq_getElem hi'] at this
  rw [List.getD_eq_getElem?_getD, List.getElem?_eq_getElem hg]
  exact this
theorem TOpen.items (h : TOpen g d r G refs) : titems (fun _ => true) (fun i => G.getD i []) (topen g d none r).2.1.1.length = G.flatten := by
  rw [h.op, show (refs, List.map gkey G).fst.length = G.length from h.len]
  exact titems_all G
theorem TOpen.some_ (h : TOpen g d r G refs) (fr to : List UInt8) : (titems (used (topen g d none r).2.1.2 fr to) (fun i => G.getD i []) (topen g d none r).2.1.1.length).filter (inside fr to) = G.flatten.filter (inside fr to) := by
  rw [h.op, show (refs, List.map gkey G).fst.length = G.length from h.len]
  exact titems_between h.so fr to
theorem TOpen.few (h : TOpen g d r G refs) (p : Nat → Bool) : (titems p (fun i => G.getD i []) (topen g d none r).2.1.1.length).length ≤ G.flatten.length := by
  have := titems_le p (fun i => G.getD i []) (topen g d none r).2.1.1.length
  rw [h.items] at this
  exact this
theorem TOpen.blocks (h : TOpen g d r G refs) : tblocks g d none r = (0, r :: refs, g) := by
  unfold tblocks
  rw [h.op, if_neg (by simp)]
theorem TOpen.mono (h : TOpen g d r G refs) (key : List UInt8) : ∀ a b : Nat, a ≤ b → b < (topen g d none r).2.1.2.length → key < (topen g d none r).2.1.2.getD a [] → key < (topen g d none r).2.1.2.getD b [] := fun a b hab hb hk => by
  rw [h.op] at hb hk ⊢
  simp only [List.length_map] at hb hk ⊢
  rw [List.getD_eq_getElem?_getD, List.getElem?_map, List.getElem?_eq_getElem (by omega)] at hk
  rw [List.getD_eq_getElem?_getD, List.getElem?_map, List.getElem?_eq_getElem hb]
  exact h.so.mono key hab hb hk
theorem TOpen.get (h : TOpen g d r G refs) (key : List UInt8) : tget g d none r key = ((match pfind G.flatten key with | none => 6 | some _ => 0), (pfind G.flatten key).getD pnone, g) := by
  have hf := find_groups h.so key
  unfold tget
  rw [h.op]
  simp only
  rw [if_neg (by simp)]
  by_cases hk : kbef (G.map gkey) key = 0
  · rw [if_pos hk, hf, if_pos hk]; rfl
  · have hkl := kbef_le (G.map gkey) key
    rw [List.length_map] at hkl
    have hi : kbef (G.map gkey) key - 1 < G.length := by omega
    rw [if_neg hk, h.dt _ hi]
    simp only
    rw [if_neg (by simp), hf, if_neg hk, List.getD_eq_getElem?_getD, List.getElem?_eq_getElem hi]
    rfl
/-- Another grid's list of states, or of refs that are wanted, makes no difference. -/
theorem glook_lw {L : List Nat} {W : List RefT} {f : Option Fus} {x : RefT} : glook ⟨g.n, L, W⟩ d f x = ((glook g d f x).1, (glook g d f x).2.1, if (glook g d f x).1 = 13 then (⟨g.n, L, W⟩ : Grd).want x else ⟨g.n, L, W⟩) := by
  have ho : (⟨g.n, L, W⟩ : Grd).of x = g.of x := rfl
  unfold glook
  rw [ho]
  split
  · simp
  split
  · simp
  cases gthere d x <;> simp
theorem topen_lw {L : List Nat} {W : List RefT} {f : Option Fus} {x : RefT} (h : (topen g d f x).1 = 0) : topen ⟨g.n, L, W⟩ d f x = (0, (topen g d f x).2.1, ⟨g.n, L, W⟩) := by
  cases ho : (glook g d f x).2.1 with
  | none => rw [topen_none ho] at h; exact absurd h (glook_code.1 ho)
  | some b =>
    have hz := (glook_code.2 (by rw [ho]; simp) : (glook g d f x).1 = 0 ∧ _).1
    have ho' : (glook ⟨g.n, L, W⟩ d f x).2.1 = some b := by rw [glook_lw]; exact ho
    have hg' : (glook ⟨g.n, L, W⟩ d f x).2.2 = ⟨g.n, L, W⟩ := (glook_code.2 (by rw [ho']; simp)).2
    cases hk : kparse b.2.2.2.1 with
    | none => rw [topen_bad ho hk] at h; cases h
    | some ks =>
      rw [topen_some ho hk] at h ⊢
      rw [topen_some ho' hk, hg']
      split at h
      · rename_i hc; rw [if_pos hc, if_pos hc]
      · cases h
theorem tdata_lw {L : List Nat} {W : List RefT} {f : Option Fus} {x : RefT} (h : (tdata g d f x).1 = 0) : tdata ⟨g.n, L, W⟩ d f x = (0, (tdata g d f x).2.1, ⟨g.n, L, W⟩) := by
  cases ho : (glook g d f x).2.1 with
  | none => rw [tdata_none ho] at h; exact absurd h (glook_code.1 ho)
  | some b =>
    have ho' : (glook ⟨g.n, L, W⟩ d f x).2.1 = some b := by rw [glook_lw]; exact ho
    have hg' : (glook ⟨g.n, L, W⟩ d f x).2.2 = ⟨g.n, L, W⟩ := (glook_code.2 (by rw [ho']; simp)).2
    rw [tdata_some ho] at h ⊢
    rw [tdata_some ho', hg']
    split at h
    · rename_i hc
      rw [if_pos hc, if_pos hc]
      exact Prod.ext h rfl
    · cases h
theorem TOpen.lw {L : List Nat} {W : List RefT} (h : TOpen g d r G refs) : TOpen ⟨g.n, L, W⟩ d r G refs :=
  ⟨by rw [topen_lw h.zero, h.op], h.len, fun i hi => by rw [tdata_lw (by rw [h.dt i hi]), h.dt i hi], h.so⟩
end
/-- The table of some pairs stands there. -/
theorem table_stands {n : Nat} {s : Int} {d : Dsk} {N : Nat} {l : List PairT} (hp : (ppack l).1 = 0) (h : TWr n s ((ppack l).2.map gbody) (kbytes ((ppack l).2.map gkey)) N ((ppack l).2.length + 1) d) (hs1 : 0 ≤ s) (hs2 : s ≤ 1073741824) (hn : n ≤ 20) (hmn : (ppack l).2.length + 1 ≤ n) {g : Grd} (hg : g.n = n) :
    TOpen g d (tk s (ppack l).2.length) (ppack l).2 ((List.range (ppack l).2.length).map (tk s)) ∧ (ppack l).2.flatten = l := by
  obtain ⟨ho, hd⟩ := table_open hp h hs1 hs2 hn hmn hg
  obtain ⟨p1, p2, p3, p4, p5⟩ := ppack_ok hp
  have hG := pgroups_ok p4
  refine ⟨⟨ho, by simp, fun i hi => ?_, ?_⟩, by rw [p5]; exact hG.flat⟩
  · rw [List.getD_eq_getElem?_getD, List.getElem?_map, List.getElem?_range hi]
    exact hd i hi
  · rw [p5]
    exact ⟨by rw [hG.flat]; exact psorted_pair p3, hG.ne⟩
end Go.Proofs.YtgkljncigbiffaaDoor

/- A table of at most 15 data blocks in a grid of 20: it is dropped and settled. Plain facts. No condition. -/
namespace Go.Proofs.YtgkljncigbiffaaDoor
open Go.RowKit
theorem rel20 : ∀ m : Fin 16, (trel (tG 20 (m.1 + 1)) (tk 3 m.1 :: (List.range m.1).map (tk 3))).1 = 0 ∧ (trel (tG 20 (m.1 + 1)) (tk 3 m.1 :: (List.range m.1).map (tk 3))).2.L = List.replicate (m.1 + 1) 2 ++ List.replicate (19 - m.1) 0 ∧ (trel (tG 20 (m.1 + 1)) (tk 3 m.1 :: (List.range m.1).map (tk 3))).2.n = 20 ∧ (trel (tG 20 (m.1 + 1)) (tk 3 m.1 :: (List.range m.1).map (tk 3))).2.W = [] := by decide +kernel
theorem map_drop {d : Dsk} {G : List (List PairT)} {m : Nat} (hm : m ≤ 15) (h : TOpen (tG 20 (m + 1)) d (tk 3 m) G ((List.range m).map (tk 3))) : tdrop (tG 20 (m + 1)) d (tk 3 m) = (0, ⟨20, List.replicate (m + 1) 2 ++ List.replicate (19 - m) 0, []⟩) := by
  unfold tdrop
  rw [h.blocks, if_neg (by simp)]
  obtain ⟨h1, h2, h3, h4⟩ := rel20 ⟨m, by omega⟩
  generalize trel (tG 20 (m + 1)) (tk 3 m :: (List.range m).map (tk 3)) = x at h1 h2 h3 h4
  obtain ⟨a, ⟨n, L, W⟩⟩ := x
  simp only at h1 h2 h3 h4
  subst h1 h2 h3 h4
  rfl
/-- The pair that was met last. -/
def pmet (l : List PairT) (key : List UInt8) : PairT := (pfind l key).getD pnone
/-- What Get answers. -/
def pcode (o : Option PairT) : Int := match o with | none => 6 | some _ => 0
theorem TOpen.getc {g : Grd} {d : Dsk} {r : RefT} {G : List (List PairT)} {refs : List RefT} (h : TOpen g d r G refs) (key : List UInt8) : tget g d none r key = (pcode (pfind G.flatten key), (pfind G.flatten key).getD pnone, g) := by
  rw [h.get]
  cases pfind G.flatten key <;> rfl
end Go.Proofs.YtgkljncigbiffaaDoor
