/- A key's pair is told: the program's Get. Conditions: the grid is known; the index's keys are in order. -/
import Derived.Test.YtgkljncigbiffaaDoorMTableTurned15
namespace Go.Proofs.YtgkljncigbiffaaDoor
open Go.RowKit
/-- What Get tells. -/
def tget (g : Grd) (d : Dsk) (f : Option Fus) (r : RefT) (key : List UInt8) : Int × PairT × Grd :=
  if (topen g d f r).1 ≠ 0 then ((topen g d f r).1, pnone, (topen g d f r).2.2)
  else if kbef (topen g d f r).2.1.2 key = 0 then (6, pnone, (topen g d f r).2.2)
  else if (tdata (topen g d f r).2.2 d f ((topen g d f r).2.1.1.getD (kbef (topen g d f r).2.1.2 key - 1) (0, 0, ()))).1 ≠ 0 then ((tdata (topen g d f r).2.2 d f ((topen g d f r).2.1.1.getD (kbef (topen g d f r).2.1.2 key - 1) (0, 0, ()))).1, pnone, (tdata (topen g d f r).2.2 d f ((topen g d f r).2.1.1.getD (kbef (topen g d f r).2.1.2 key - 1) (0, 0, ()))).2.2)
  else ((match pfind (tdata (topen g d f r).2.2 d f ((topen g d f r).2.1.1.getD (kbef (topen g d f r).2.1.2 key - 1) (0, 0, ()))).2.1 key with | none => 6 | some _ => 0), (pfind (tdata (topen g d f r).2.2 d f ((topen g d f r).2.1.1.getD (kbef (topen g d f r).2.1.2 key - 1) (0, 0, ()))).2.1 key).getD pnone, (tdata (topen g d f r).2.2 d f ((topen g d f r).2.1.1.getD (kbef (topen g d f r).2.1.2 key - 1) (0, 0, ()))).2.2)
theorem kbef_of {ks : List (List UInt8)} {key : List UInt8} {n : Nat} (hn : n ≤ ks.length) (h1 : ∀ i (h : i < ks.length), i < n → ¬ key < ks[i]) (h2 : ∀ i (h : i < ks.length), n ≤ i → key < ks[i]) : kbef ks key = n := by
  rcases n with _ | n
  · unfold kbef
    rw [List.countP_eq_zero]
    intro k hk
    obtain ⟨i, hi, rfl⟩ := List.mem_iff_getElem.1 hk
    simpa using h2 i hi (Nat.zero_le _)
  · exact countP_at (by omega) (fun i h hi => h1 i h (by omega)) (fun i h hi => h2 i h (by omega))
/-- A pair in memory of its own. -/
def PairO (w : World) (base : Nat) (kv vv : Value) (p : PairT) : Prop := ∃ sk sv : List UInt8, OwnB 5 w base kv p.1 sk ∧ OwnB 5 w base vv p.2.1 sv
theorem PairO.nil (w : World) (base : Nat) : PairO w base (.slice none 0 0) (.slice none 0 0) pnone := ⟨[], [], OwnsC.nil _ _ _ _, OwnsC.nil _ _ _ _⟩
theorem PairO.below {w w' : World} {base : Nat} {kv vv : Value} {p : PairT} (h : PairO w base kv vv p) (k : Below w.heap.size w w') : PairO w' base kv vv p := by
  obtain ⟨sk, sv, h1, h2⟩ := h
  exact ⟨sk, sv, OwnsC.ownBelow h1 k, OwnsC.ownBelow h2 k⟩
theorem PairO.near {w w' : World} {base : Nat} {kv vv : Value} {p : PairT} {X : List Nat} (h : PairO w base kv vv p) (k : Near X w w') (h2 : ∀ x cs, Blk w x 5 cs → x ∉ X) : PairO w' base kv vv p := by
  obtain ⟨sk, sv, h3, h4⟩ := h
  exact ⟨sk, sv, OwnsC.nearO h3 k (fun x hx => by obtain ⟨cs, hb⟩ := ownBlk h3 hx; exact h2 x cs hb), OwnsC.nearO h4 k (fun x hx => by obtain ⟨cs, hb⟩ := ownBlk h4 hx; exact h2 x cs hb)⟩
theorem PairO.base_ {w : World} {base b : Nat} {kv vv : Value} {p : PairT} (h : PairO w base kv vv p) (hb : b ≤ base) : PairO w b kv vv p := by
  obtain ⟨sk, sv, h1, h2⟩ := h
  exact ⟨sk, sv, OwnsC.base_ h1 hb, OwnsC.base_ h2 hb⟩
theorem PairO.at_ {w : World} {base : Nat} {kv vv : Value} {p : PairT} (h : PairO w base kv vv p) : ∃ A c B e, kv = .slice A p.1.length c ∧ vv = .slice B p.2.1.length e ∧ PairAt w p A c B e := by
  obtain ⟨sk, sv, h1, h2⟩ := h
  obtain ⟨A1, c1, rfl, k1, k2, k3⟩ := OwnB.open_ h1
  obtain ⟨A2, c2, rfl, k4, k5, k6⟩ := OwnB.open_ h2
  exact ⟨A1, c1, A2, c2, rfl, rfl, k1, k2, k4, k5, k3, k6⟩
/-- Own pairs, one by one. -/
theorem PairsU.row {w : World} {base : Nat} {v : Value} {l : List PairT} {rows sp : List Value} (h : PairsU w base v l rows sp) : ∃ A c, v = .slice A l.length c ∧ l.length ≤ c ∧ c ≤ 9223372036854775807 ∧ (0 < l.length → ∃ b off, A = some ⟨b, off, none⟩ ∧ ∀ i, (hi : i < l.length) → ∃ kv vv, w.rangeAt b (off + i * 3) [kv, vv, .bool l[i].2.2.1] ∧ PairO w base kv vv l[i]) := by
  obtain ⟨A, c, rfl, hc, hm, hr, -⟩ := OwnsC.reads h.own
  refine ⟨A, c, rfl, hc, hm, fun hp => ?_⟩
  obtain ⟨kv0, vv0, sk0, sv0, e0, -⟩ := h.each 0 l[0] (List.getElem?_eq_getElem hp)
  obtain ⟨b, off, rfl, hcell⟩ := hr (by intro e; rw [e] at e0; simp at e0)
  refine ⟨b, off, rfl, fun i hi => ?_⟩
  obtain ⟨kv, vv, sk, sv, e1, e2, e3, e4, e5⟩ := h.each i l[i] (List.getElem?_eq_getElem hi)
  exact ⟨kv, vv, range3 (hcell _ _ e1) (by rw [Nat.add_assoc]; exact hcell _ _ e2) (by rw [Nat.add_assoc]; exact hcell _ _ e3), sk, sv, e4, e5⟩
theorem pfind_at {l : List PairT} {key : List UInt8} {i : Nat} (hi : i < l.length) (h : ∀ p ∈ l.take i, p.1 ≠ key) (hk : l[i].1 = key) : pfind l key = some l[i] := by
  unfold pfind
  conv => lhs; rw [← List.take_append_drop i l]
  rw [List.find?_append, List.find?_eq_none.2 (fun p hp => by simpa using h p hp), List.drop_eq_getElem_cons hi, List.find?_cons, decide_eq_true hk]
  rfl
theorem topen_zero {g : Grd} {d : Dsk} {f : Option Fus} {r : RefT} (h : (topen g d f r).1 = 0) : (topen g d f r).2.2 = g ∧ (topen g d f r).2.1.1.length = (topen g d f r).2.1.2.length ∧ (topen g d f r).2.1.2.length ≤ 16 := by
  have hc := @glook_code g d f r
  cases ho : (glook g d f r).2.1 with
  | none => rw [topen_none ho] at h; exact absurd h (hc.1 ho)
  | some b =>
    have hb := (look_body ho).2
    have hg := (hc.2 (by rw [ho]; simp)).2
    cases hk : kparse b.2.2.2.1 with
    | none => rw [topen_bad ho hk] at h; cases h
    | some ks =>
      rw [topen_some ho hk] at h ⊢
      split at h
      · rename_i hx
        rw [if_pos hx]
        exact ⟨hg, hx.2.2, by show ks.length ≤ 16; rw [← hx.2.2]; exact hb⟩
      · cases h
theorem beq_any (A B : Option Addr) (n m c d : Nat) (l l' : List UInt8) (hn : n = l.length) (hm : m = l'.length) (w : World) (h : Bytes w A l) (h' : Bytes w B l') :
    Calls Tryd.prog 58 #[.slice A n c, .slice B m d] w fun e w' => e = .returned (.bool (decide (l = l'))) ∧ w' = w := by
  subst hn hm
  go_enter Tryd.func58, Tryd.ntmps58
  go_wp2_with (first
    | ((with_reducible show wpList _ _ _ ((⟨some 6, _, _, _, _, _⟩ : Oper) :: _) _ _); refine wpList_convert_str (o := ⟨some 6, _, _, _, _, _⟩) (by rfl) 22 9 5 _ (by rfl) Tryd.underlying22 Tryd.underlying5 Tryd.underlying9 (A) l.length c (l) (by rfl) (by first | rfl | simp) (h) ?_)
    | ((with_reducible show wpList _ _ _ ((⟨some 8, _, _, _, _, _⟩ : Oper) :: _) _ _); refine wpList_convert_str (o := ⟨some 8, _, _, _, _, _⟩) (by rfl) 22 9 5 _ (by rfl) Tryd.underlying22 Tryd.underlying5 Tryd.underlying9 (B) l'.length d (l') (by rfl) (by first | rfl | simp) (h') ?_)
    | fail)
  refine bodyPost_ret (results_tmp rfl _ _ _) rfl ⟨?_, rfl⟩
  simp [str_beq]
/-- Ahead of each pair: none of those ahead of it is the one. -/
def GtRel (w : World) (l : List PairT) (key : List UInt8) (v : Value) (wr : World) : Prop := ∃ i : Nat, i ≤ l.length ∧ v = .int .i64 (i : Int) ∧ (∀ p ∈ l.take i, p.1 ≠ key) ∧ Below w.heap.size w wr
theorem zeroPairrun (w : World) : (zeroValue 40).run Tryd.prog w = .ok (.agg #[.slice none 0 0, .slice none 0 0, .bool false]) w := by kernel_rfl
section
variable {w : World} {q : GPl} {g : Grd} {d : Dsk} {f : Option Fus}
set_option maxRecDepth 100000 in
set_option maxHeartbeats 8000000 in
theorem tget_any (h : GridR w q g d f) (hlen : g.W.length ≤ 1099511627776) (r : RefT) (n : Int) (F L : Option Addr) (nf cf nl cl : Nat) (B : Option Addr) (ce : Nat) (key : List UInt8) (hB : Bytes w B key)
    (hmono : ∀ a b : Nat, a ≤ b → b < (topen g d f r).2.1.2.length → key < (topen g d f r).2.1.2.getD a [] → key < (topen g d f r).2.1.2.getD b []) :
    Calls Tryd.prog 11 #[.pointer (some ⟨q.gg, 0, none⟩), .agg (runv r n F L nf cf nl cl), .slice B key.length ce] w fun e w' => ∃ (kv vv : Value), e = .returned (.tuple #[.agg #[kv, vv, .bool (tget g d f r key).2.1.2.2.1], .int .i64 (tget g d f r key).1]) ∧ PairO w' w.heap.size kv vv (tget g d f r key).2.1 ∧ GPost w q (tget g d f r key).2.2 d f w' := by
  have hz := zeroPairrun
  obtain ⟨T, hT⟩ : ∃ T, T = tget g d f r key := ⟨_, rfl⟩
  rw [← hT]
  have HTT := Lib.hid hT
  have hb1 := (((Below.refl w.heap.size w).alloc (Nat.le_refl _) (.cells (runv r n F L nf cf nl cl) 35)).alloc (by simp) (.cells #[.slice B key.length ce] 22)).alloc (by simp; omega) (.cells #[.slice none 0 0, .slice none 0 0, .bool false] 40)
  have hg4 := ((Blk.new w 35 (runv r n F L nf cf nl cl)).alloc (.cells #[.slice B key.length ce] 22)).alloc (.cells #[.slice none 0 0, .slice none 0 0, .bool false] 40)
  have hg5 := (Blk.new' (w.alloc (.cells (runv r n F L nf cf nl cl) 35)) 22 #[.slice B key.length ce] (n := w.heap.size + 1) (by simp)).alloc (.cells #[.slice none 0 0, .slice none 0 0, .bool false] 40)
  have hg6 := Blk.new' ((w.alloc (.cells (runv r n F L nf cf nl cl) 35)).alloc (.cells #[.slice B key.length ce] 22)) 40 #[.slice none 0 0, .slice none 0 0, .bool false] (n := w.heap.size + 2) (by simp)
  have hop := topen_any (h.below hb1) hlen r n F L nf cf nl cl
  have HG := Lib.hid h
  have H0 := Lib.hid (And.intro hb1 (And.intro hg5 (And.intro hg6 (And.intro (h.below hb1) (And.intro hlen (And.intro hmono (Bytes.below hB hb1)))))))
  clear h hb1 hg5 hg6 hT hlen hmono hB
  unfold runv at H0 hg4 hop ⊢
  go_enter Tryd.func11, Tryd.ntmps11
  go_wp2_with (first
    | ((with_reducible show wpList _ _ _ ((⟨some 16, _, _, _, _, _⟩ : Oper) :: _) _ _); refine wpList_load_blk (o := ⟨some 16, _, _, _, _, _⟩) (hg4) (by rfl) _ _ (by rfl) (by rfl) _ Tryd.underlying35 (by rfl) (sizeRun) (by rfl) ?_)
    | fail)
  refine hop.mono ?_
  rintro e w2 ⟨A, c, K, ck, rfl, hI, hL⟩
  obtain ⟨cd, hcd⟩ : ∃ cd, cd = (topen g d f r).1 := ⟨_, rfl⟩
  obtain ⟨ks, hks⟩ : ∃ ks, ks = (topen g d f r).2.1.2 := ⟨_, rfl⟩
  obtain ⟨rf, hrf⟩ : ∃ rf, rf = (topen g d f r).2.1.1 := ⟨_, rfl⟩
  have hxe : (topen g d f r).2.1 = (rf, ks) := by rw [hks, hrf]
  rw [hxe] at hI ⊢
  rw [← hcd] at hL ⊢
  have hg62 := hL.1.blk H0.out.2.2.2.1 H0.out.2.2.1 (by decide)
  have hg52 := hL.1.blk H0.out.2.2.2.1 H0.out.2.1 (by decide)
  have H2 := Lib.hid (And.intro hI (And.intro hL (And.intro hg62 (And.intro hg52 (And.intro hcd (And.intro hks hrf))))))
  have hP2 := Lib.hid (GPost.trans1 H0.out.1 hL.1)
  clear hop hg4 hI hL hg62 hg52 hcd hks hrf hxe
  unfold indc
  by_cases hc0 : cd = 0
  case neg =>
    have kc : (cd != 0) = true := bne_iff_ne.2 hc0
    have HF := Lib.hid (show T = (cd, pnone, (topen g d f r).2.2) by rw [HTT.out]; unfold tget; rw [← H2.out.2.2.2.2.1, if_pos hc0])
    have hb3 := (Below.refl w2.heap.size w2).alloc (Nat.le_refl _) (.cells #[.slice A rf.length c, .slice K ks.length ck] 128)
    have h93 := H2.out.2.2.1.below hb3 H2.out.2.2.1.lt
    have HB3 := Lib.hid hb3
    clear hc0 hb3
    go_wp2_with (first
      | ((with_reducible show wpList _ _ _ ((⟨none, _, _, _, _, _⟩ : Oper) :: _) _ _); refine wpList_store_blk (o := ⟨none, _, _, _, _, _⟩) (h93) (by rfl) _ _ _ (by rfl) (by rfl) (#[.slice none 0 0, .slice none 0 0, .bool false]) (by rfl) (sizePair) (by rfl) (by rfl) (by simp [Value.oneCell']) ?_; intro w9 h9 hu9)
      | fail)
    have hup := (hP2.out.below HB3.out).upd hu9 (by omega) (fun q' hq' => hq'.offT h93 (by decide))
    have HP := Lib.hid hup
    clear hup hu9
    refine bodyPost_ret (results_row_tmp (by rfl) _ _ (w.heap.size + 2) _ _ _ (by rfl) h9 Tryd.underlying40 (by rfl) sizePair) rfl ?_
    refine ⟨.slice none 0 0, .slice none 0 0, by rw [HF.out]; rfl, by rw [HF.out]; exact PairO.nil _ _, by rw [HF.out]; exact HP.out⟩
  subst hc0
  have hz0 := topen_zero (H2.out.2.2.2.2.1).symm
  rw [← H2.out.2.2.2.2.2.1, ← H2.out.2.2.2.2.2.2] at hz0
  have hb3 := (Below.refl w2.heap.size w2).alloc (Nat.le_refl _) (.cells #[.slice A rf.length c, .slice K ks.length ck] 128)
  have hx3 := Blk.new w2 128 #[.slice A rf.length c, .slice K ks.length ck]
  have dx0 := hx3.at_ 0 (v := .slice A rf.length c) rfl
  have dx1 := hx3.at_ 1 (v := .slice K ks.length ck) rfl
  have hk3 := H2.out.2.2.2.1.below hb3 H2.out.2.2.2.1.lt
  have hbw := H0.out.1.trans ((H2.out.2.1.2 rfl).mono H0.out.1.size)
  have hB3 := Bytes.below (Bytes.below H0.out.2.2.2.2.2.2 (H2.out.2.1.2 rfl)) hb3
  have hse := search_any ks.length (by omega) (fun i => decide (key < ks.getD i [])) (fun a b hab hb he => by
    have hm := H0.out.2.2.2.2.2.1
    rw [← H2.out.2.2.2.2.2.1] at hm
    exact decide_eq_true (hm a b hab hb (of_decide_eq_true he))) w2.heap.size (w.heap.size + 1) (w2.alloc (.cells #[.slice A rf.length c, .slice K ks.length ck] 128))
    (fun i w' hi hb' => by
      have hga := getf_any w2.heap.size (w.heap.size + 1) A K B rf.length c ck ce ks key i hi w' (hx3.below hb' hx3.lt) (hk3.below hb' hk3.lt) ((H2.out.1.keys.below hb3).below hb') (Bytes.below hB3 hb')
      show Calls _ _ _ _ fun e w'' => e = .returned (.bool (decide (key < ks.getD i []))) ∧ _
      rw [List.getD_eq_getElem?_getD, List.getElem?_eq_getElem hi, Option.getD_some]
      exact hga)
  have H3 := Lib.hid (And.intro hz0 (And.intro hb3 (And.intro hx3 (And.intro hk3 (And.intro hbw hB3)))))
  clear hz0 hb3 hx3 hk3 hbw hB3
  go_wp2_with fail
  refine hse.mono ?_
  rintro e w3 ⟨k, rfl, hkn, hk1, hk2, hb4⟩
  have hkk : kbef ks key = k := kbef_of hkn (fun i h hi => by
    have := of_decide_eq_false (hk1 i hi)
    rwa [List.getD_eq_getElem?_getD, List.getElem?_eq_getElem h, Option.getD_some] at this) (fun i h hi => by
    have := of_decide_eq_true (hk2 i hi h)
    rwa [List.getD_eq_getElem?_getD, List.getElem?_eq_getElem h, Option.getD_some] at this)
  have dx2 := (hb4.cell (World.block_lt_of_cell? _ _ dx0)).trans dx0
  have hg63 := (H2.out.2.2.1.below H3.out.2.1 H2.out.2.2.1.lt).below hb4 (H2.out.2.2.1.below H3.out.2.1 H2.out.2.2.1.lt).lt
  have hg53 := H3.out.2.2.2.1.below hb4 H3.out.2.2.2.1.lt
  have hbw3 := H3.out.2.2.2.2.1.trans ((H3.out.2.1.mono H3.out.2.2.2.2.1.size).trans (hb4.mono (Nat.le_trans H3.out.2.2.2.2.1.size H3.out.2.1.size)))
  have H4 := Lib.hid (And.intro hkk (And.intro hb4 (And.intro hg63 (And.intro hg53 hbw3))))
  clear hse hk1 hk2 hb4 hkk dx0 dx1 hg53 hbw3
  cases k with
  | zero =>
    have HF := Lib.hid (show T = (6, pnone, g) by rw [HTT.out]; unfold tget; rw [← H2.out.2.2.2.2.1, if_neg (by simp), ← H2.out.2.2.2.2.2.1, H4.out.1, if_pos rfl, H3.out.1.1])
    clear hkn dx2
    go_wp2_with (first
      | ((with_reducible show wpList _ _ _ ((⟨none, _, _, _, _, _⟩ : Oper) :: _) _ _); refine wpList_store_blk (o := ⟨none, _, _, _, _, _⟩) (hg63) (by rfl) _ _ _ (by rfl) (by rfl) (#[.slice none 0 0, .slice none 0 0, .bool false]) (by rfl) (sizePair) (by rfl) (by rfl) (by simp [Value.oneCell']) ?_; intro w9 h9 hu9)
      | fail)
    have hup := (GPost.same HG.out H4.out.2.2.2.2).upd hu9 (by omega) (fun q' hq' => hq'.offT hg63 (by decide))
    have HP := Lib.hid hup
    clear hup hu9
    refine bodyPost_ret (results_row_tmp (by rfl) _ _ (w.heap.size + 2) _ _ _ (by rfl) h9 Tryd.underlying40 (by rfl) sizePair) rfl ?_
    refine ⟨.slice none 0 0, .slice none 0 0, by rw [HF.out]; rfl, by rw [HF.out]; exact PairO.nil _ _, by rw [HF.out]; exact HP.out⟩
  | succ j =>
    have hrfs := H3.out.1.2.2
    have p1 : (((j + 1 : Nat) : Int) == 0) = false := beq_eq_false_iff_ne.2 (by omega)
    have p2 : wrap64 (((j + 1 : Nat) : Int) - 1) = ((j : Nat) : Int) := by rw [w64_in (by omega)]; omega
    have hjl : j < rf.length := by rw [H3.out.1.2.1]; omega
    have hrfs := H3.out.1.2.2
    obtain ⟨b, off, hAe, -, hrc⟩ := (((H2.out.1.refs.below H3.out.2.1).below H4.out.2.1) (by show 0 < rf.length; omega))
    have hr2 := range2 (hrc j hjl).1 (hrc j hjl).2
    obtain ⟨rr, hrr⟩ : ∃ rr, rr = rf[j] := ⟨_, rfl⟩
    have hrr2 : Hid (rr = rf.getD j (0, 0, ())) := Lib.hid (by rw [hrr, List.getD_eq_getElem?_getD, List.getElem?_eq_getElem hjl]; rfl)
    rw [← hrr] at hr2
    subst hAe
    have htd := tdata_any (HG.out.below H4.out.2.2.2.2) H0.out.2.2.2.2.1 rr
    clear hrc hrr
    go_wp2_with (first
      | ((with_reducible show wpList _ _ _ ((⟨some 39, _, _, _, _, _⟩ : Oper) :: _) _ _); refine wpList_load_mid (o := ⟨some 39, _, _, _, _, _⟩) hr2 (by rfl) _ _ (by rfl) (by rfl) _ Tryd.underlying33 (by rfl) size_ref (by rfl) ?_)
      | fail)
    refine htd.mono ?_
    rintro e w4 ⟨v, rows, sp, rfl, hU, hL4⟩
    have hTd : (tdata g d f rr) = tdata (topen g d f r).2.2 d f ((topen g d f r).2.1.1.getD (kbef (topen g d f r).2.1.2 key - 1) (0, 0, ())) := by
      rw [H3.out.1.1, ← H2.out.2.2.2.2.2.1, ← H2.out.2.2.2.2.2.2, H4.out.1, Nat.add_sub_cancel, hrr2.out]
    have hTT2 : T = if (tdata g d f rr).1 ≠ 0 then ((tdata g d f rr).1, pnone, (tdata g d f rr).2.2) else ((match pfind (tdata g d f rr).2.1 key with | none => 6 | some _ => 0), (pfind (tdata g d f rr).2.1 key).getD pnone, (tdata g d f rr).2.2) := by
      rw [HTT.out, hTd]
      unfold tget
      rw [← H2.out.2.2.2.2.1, if_neg (by simp), ← H2.out.2.2.2.2.2.1, H4.out.1, if_neg (by omega)]
    obtain ⟨c4, hc4⟩ : ∃ c4, c4 = (tdata g d f rr).1 := ⟨_, rfl⟩
    obtain ⟨l, hl⟩ : ∃ l, l = (tdata g d f rr).2.1 := ⟨_, rfl⟩
    obtain ⟨g4, hg4⟩ : ∃ g4, g4 = (tdata g d f rr).2.2 := ⟨_, rfl⟩
    rw [← hc4, ← hl, ← hg4] at hTT2
    rw [← hl] at hU
    rw [← hc4, ← hg4] at hL4
    rw [← hc4]
    have hg64 := hL4.1.blk (HG.out.below H4.out.2.2.2.2) hg63 (by decide)
    have hg54 := hL4.1.blk (HG.out.below H4.out.2.2.2.2) H4.out.2.2.2.1 (by decide)
    have hP4 := Lib.hid (GPost.trans1 H4.out.2.2.2.2 hL4.1)
    have hU4 := Lib.hid (And.intro hU (And.intro hTT2 hg54))
    clear htd hTd hTT2 hc4 hl hg4 hr2 hU hg54 p1 p2 hjl hrfs hkn dx2 hg63 hrr2
    by_cases hc4 : c4 = 0
    case neg =>
      have kc : (c4 != 0) = true := bne_iff_ne.2 hc4
      have HF := Lib.hid (hU4.out.2.1.trans (if_pos hc4))
      clear hc4 hL4
      go_wp2_with (first
        | ((with_reducible show wpList _ _ _ ((⟨none, _, _, _, _, _⟩ : Oper) :: _) _ _); refine wpList_store_blk (o := ⟨none, _, _, _, _, _⟩) (hg64) (by rfl) _ _ _ (by rfl) (by rfl) (#[.slice none 0 0, .slice none 0 0, .bool false]) (by rfl) (sizePair) (by rfl) (by rfl) (by simp [Value.oneCell']) ?_; intro w9 h9 hu9)
        | fail)
      have hup := hP4.out.upd hu9 (by omega) (fun q' hq' => hq'.offT hg64 (by decide))
      have HP := Lib.hid hup
      clear hup hu9
      refine bodyPost_ret (results_row_tmp (by rfl) _ _ (w.heap.size + 2) _ _ _ (by rfl) h9 Tryd.underlying40 (by rfl) sizePair) rfl ?_
      refine ⟨.slice none 0 0, .slice none 0 0, by rw [HF.out]; rfl, by rw [HF.out]; exact PairO.nil _ _, by rw [HF.out]; exact HP.out⟩
    subst hc4
    have HT4 := Lib.hid (hU4.out.2.1.trans (if_neg (by simp)))
    have hbw4 := H4.out.2.2.2.2.trans ((hL4.2 rfl).mono H4.out.2.2.2.2.size)
    obtain ⟨A5, c5, rfl, hc5, hm5, hrow⟩ := hU4.out.1.row
    have H5 := Lib.hid (And.intro hbw4 (And.intro hrow (And.intro hU4.out.2.2 (Bytes.below (Bytes.below H3.out.2.2.2.2.2 H4.out.2.1) (hL4.2 rfl)))))
    have hsz4 : w.heap.size + 3 ≤ w4.heap.size := by
      have := H0.out.2.2.1.lt
      have := hg64.lt
      omega
    clear hbw4 hrow hL4
    go_wp2_with fail
    go_loopw [49] (fun v wr => GtRel w4 l key v wr) (fun v _ => l.length - (intOf v).toNat)
    case atStart => exact ⟨0, Nat.zero_le _, rfl, by simp, Below.refl _ _⟩
    case round =>
      obtain ⟨i, hi, rfl, hno, hB⟩ := hrel
      have hg6r := hg64.below hB hg64.lt
      by_cases hlt : i < l.length
      case neg =>
        have hpf : pfind l key = none := pfind_none (fun p hp => hno p (by rw [List.take_of_length_le (by omega)]; exact hp))
        have HF := Lib.hid (show T = (6, pnone, g4) by rw [HT4.out, hpf]; rfl)
        have HB := Lib.hid (And.intro hno hB)
        clear hno hB hpf
        go_wp2_with (first
          | ((with_reducible show wpList _ _ _ ((⟨none, _, _, _, _, _⟩ : Oper) :: _) _ _); refine wpList_store_blk (o := ⟨none, _, _, _, _, _⟩) (hg6r) (by rfl) _ _ _ (by rfl) (by rfl) (#[.slice none 0 0, .slice none 0 0, .bool false]) (by rfl) (sizePair) (by rfl) (by rfl) (by simp [Value.oneCell']) ?_; intro w9 h9 hu9)
          | fail)
        have hup := (hP4.out.below HB.out.2).upd hu9 (by omega) (fun q' hq' => hq'.offT hg6r (by decide))
        have HP := Lib.hid hup
        clear hup hu9
        refine bodyPost_ret (results_row_tmp (by rfl) _ _ (w.heap.size + 2) _ _ _ (by rfl) h9 Tryd.underlying40 (by rfl) sizePair) rfl ?_
        refine ⟨.slice none 0 0, .slice none 0 0, by rw [HF.out]; rfl, by rw [HF.out]; exact PairO.nil _ _, by rw [HF.out]; exact HP.out⟩
      obtain ⟨b5, off5, rfl, hr5⟩ := H5.out.2.1 (by omega)
      obtain ⟨kv, vv, hcs, hPO⟩ := hr5 i hlt
      obtain ⟨pp, hpp⟩ : ∃ pp, pp = l[i] := ⟨_, rfl⟩
      rw [← hpp] at hcs hPO
      obtain ⟨A6, c6, B6, e6, rfl, rfl, hAt⟩ := hPO.at_
      have hcs2 := rangeAt_below hcs hB
      have HX := Lib.hid (And.intro hpp (And.intro hno (And.intro hB (And.intro hPO (And.intro (hAt.below hB) hg6r)))))
      have hg5r := H5.out.2.2.1.below hB H5.out.2.2.1.lt
      have hb6 := (Below.refl wr.heap.size wr).alloc (Nat.le_refl _) (.cells #[.slice A6 pp.1.length c6, .slice B6 pp.2.1.length e6, .bool pp.2.2.1] 40)
      have hbx6 := Blk.new wr 40 #[.slice A6 pp.1.length c6, .slice B6 pp.2.1.length e6, .bool pp.2.2.1]
      have dk5 := (hg5r.below hb6 hg5r.lt).at_ 0 (v := .slice B key.length ce) rfl
      have dk6 := hbx6.at_ 0 (v := .slice A6 pp.1.length c6) rfl
      have heq := beq_any A6 B pp.1.length key.length c6 ce pp.1 key rfl rfl (wr.alloc (.cells #[.slice A6 pp.1.length c6, .slice B6 pp.2.1.length e6, .bool pp.2.2.1] 40)) (Reads.below (hAt.below hB).k hb6) (Bytes.below (Bytes.below H5.out.2.2.2 hB) hb6)
      have hBr := Lib.hid (hB.trans (hb6.mono hB.size))
      clear hpp hno hB hPO hAt hg6r hr5 hcs hg5r hb6
      go_wp2_with (first
        | ((with_reducible show wpList _ _ _ ((⟨some 52, _, _, _, _, _⟩ : Oper) :: _) _ _); refine wpList_load_mid (o := ⟨some 52, _, _, _, _, _⟩) hcs2 (by rfl) _ _ (by rfl) (by rfl) _ Tryd.underlying40 (by rfl) sizePair (by rfl) ?_)
        | fail)
      refine heq.mono ?_
      rintro e w6 ⟨rfl, rfl⟩
      by_cases hke : pp.1 = key
      · rw [decide_eq_true hke]
        have hpf : pfind l key = some pp := by rw [HX.out.1]; exact pfind_at hlt HX.out.2.1 (by rw [← HX.out.1]; exact hke)
        have HF := Lib.hid (show T = (0, pp, g4) by rw [HT4.out, hpf]; rfl)
        have hg7 := HX.out.2.2.2.2.2.below ((Below.refl wr.heap.size wr).alloc (Nat.le_refl _) (.cells #[.slice A6 pp.1.length c6, .slice B6 pp.2.1.length e6, .bool pp.2.2.1] 40)) HX.out.2.2.2.2.2.lt
        clear hke hpf heq dk5 dk6 hcs2
        go_wp2_with (first
          | ((with_reducible show wpList _ _ _ ((⟨some 57, _, _, _, _, _⟩ : Oper) :: _) _ _); refine wpList_load_blk (o := ⟨some 57, _, _, _, _, _⟩) (hbx6) (by rfl) _ _ (by rfl) (by rfl) _ Tryd.underlying40 (by rfl) (sizePair) (by rfl) ?_)
          | ((with_reducible show wpList _ _ _ ((⟨none, _, _, _, _, _⟩ : Oper) :: _) _ _); refine wpList_store_blk (o := ⟨none, _, _, _, _, _⟩) (hg7) (by rfl) _ _ _ (by rfl) (by rfl) (#[.slice A6 pp.1.length c6, .slice B6 pp.2.1.length e6, .bool pp.2.2.1]) (by rfl) (sizePair) (by rfl) (by rfl) (by simp [Value.oneCell']) ?_; intro w9 h9 hu9)
          | fail)
        have hup := (hP4.out.below hBr.out).upd hu9 (by omega) (fun q' hq' => hq'.offT hg7 (by decide))
        have HP := Lib.hid hup
        have hPO9 := (HX.out.2.2.2.1.below hBr.out).near (X := [w.heap.size + 2]) (Near.upd hu9 (by simp)) (fun x cs hb hm => by rw [List.mem_singleton.1 hm] at hb; exact hb.apart hg7 (by decide) rfl)
        have HPO := Lib.hid (hPO9.base_ H4.out.2.2.2.2.size)
        clear hup hu9 hPO9
        refine bodyPost_ret (results_row_tmp (by rfl) _ _ (w.heap.size + 2) _ _ _ (by rfl) h9 Tryd.underlying40 (by rfl) sizePair) rfl ?_
        refine ⟨.slice A6 pp.1.length c6, .slice B6 pp.2.1.length e6, by rw [HF.out]; rfl, by rw [HF.out]; exact HPO.out, by rw [HF.out]; exact HP.out⟩
      · rw [decide_eq_false hke]
        have HF := Lib.hid (show GtRel w4 l key (.int .i64 ((i + 1 : Nat) : Int)) (wr.alloc (.cells #[.slice A6 pp.1.length c6, .slice B6 pp.2.1.length e6, .bool pp.2.2.1] 40)) from ⟨i + 1, by omega, rfl, fun p hp => by
          rw [List.take_succ_eq_append_getElem hlt, List.mem_append] at hp
          rcases hp with hp | hp
          · exact HX.out.2.1 p hp
          · rw [List.mem_singleton.1 hp, ← HX.out.1]; exact hke, hBr.out⟩)
        clear hke heq dk5 dk6 hcs2 hbx6
        go_wp2
        go_roundw
        case rel => exact HF.out
        case measure => simp [intOf]; omega
end
end Go.Proofs.YtgkljncigbiffaaDoor

/- What the table's functions answer on a grid that is nil, or that nobody made. No condition. -/
namespace Go.Proofs.YtgkljncigbiffaaDoor
open Go.RowKit
theorem results_cells2 {P : Program} {fn : Func} {p q : Tmp} {ty ty2 : TypeId} (h : fn.results = #[.cell p ty, .cell q ty2]) (tmps : Array Value) (w : World) (g g2 : Nat) (v v2 : Value) (d d2 : TypeDesc)
    (hp : tmps.getD p undef = .pointer (some ⟨g, 0, none⟩)) (hc : w.cell? ⟨g, 0, none⟩ = some v) (hu : P.underlying ty = some d) (hd : d.isRow = false)
    (hp2 : tmps.getD q undef = .pointer (some ⟨g2, 0, none⟩)) (hc2 : w.cell? ⟨g2, 0, none⟩ = some v2) (hu2 : P.underlying ty2 = some d2) (hd2 : d2.isRow = false) :
    (results fn tmps).run P w = .ok (.tuple #[v, v2]) w := by
  have hp' : tmps[p]?.getD undef = .pointer (some ⟨g, 0, none⟩) := by simpa using hp
  have hp2' : tmps[q]?.getD undef = .pointer (some ⟨g2, 0, none⟩) := by simpa using hp2
  have hl : (loadVar ty ⟨g, 0, none⟩).run P w = .ok v w := by
    simp only [loadVar, Sem.run_bind, run_isAgg_cell hu hd w, Result.andThen_ok, Bool.false_eq_true, if_false]
    simp [hc]
  have hl2 : (loadVar ty2 ⟨g2, 0, none⟩).run P w = .ok v2 w := by
    simp only [loadVar, Sem.run_bind, run_isAgg_cell hu2 hd2 w, Result.andThen_ok, Bool.false_eq_true, if_false]
    simp [hc2]
  simp [results, h, hp', hp2', asAddr, hl, hl2]
theorem zeroRunrun (w : World) : (zeroValue 35).run Tryd.prog w = .ok (.agg #[.int .i64 0, .int .i64 0, .int .i64 0, .slice none 0 0, .slice none 0 0]) w := by kernel_rfl
section
variable (G : Option Addr) (w : World) (h : NoGrid G w)
include h
-- printed by gen/tbr.py
-- end of what is printed
end
end Go.Proofs.YtgkljncigbiffaaDoor

/- Bytes are copied: bytes.Clone. Condition: the bytes can be read, and are not nil. -/
namespace Go.Proofs.YtgkljncigbiffaaDoor
open Go.RowKit
set_option maxRecDepth 100000 in
theorem bclone_any (ad : Addr) (c : Nat) (l : List UInt8) (w : World) (hb : Bytes w (some ad) l) (hl : l.length ≤ 5000) :
    Calls Tryd.prog 52 #[.slice (some ad) l.length c] w fun e w' => ∃ v sp, e = .returned v ∧ OwnB 5 w' w.heap.size v l sp ∧ Below w.heap.size w w' := by
  have hq : ∀ w : World, (binOp .eql 22 (.slice (some ad) l.length c) (.slice none 0 0)).run Tryd.prog w = .ok (.bool false) w := fun w => by kernel_rfl
  have hB := (Below.refl w.heap.size w).alloc (Nat.le_refl _) (.cells #[] 5)
  have hb1 := Bytes.below hb hB
  have H0 := Lib.hid (And.intro hB hb1)
  have ho := OwnB.lit0 (e := 5) w (base := w.heap.size) (Nat.le_refl _)
  clear hb hB hb1
  go_enter Tryd.func52, Tryd.ntmps52
  go_wp2_with (first
    | ((with_reducible show wpList _ _ _ ((⟨some 7, _, _, _, _, _⟩ : Oper) :: _) _ _); refine wpList_append_bytes (o := ⟨some 7, _, _, _, _, _⟩) (by rfl) _ _ _ (by rfl) (w.heap.size) _ Tryd.underlying22 u8info (_) ([]) ([]) (by rfl) (ho) (some ad) (c) (l) (by first | rfl | simp) (H0.out.2) (by first | omega | (simp; omega)) (by simp) ?_; intro v1 w1 sp1 ho1 hg1 _ _; refine stopped ?_)
    | fail)
  refine Stopped.mk ?_
  have hB1 := H0.out.1.grown hg1 (by simp) (fun k hk => (OwnsC.lt ho k hk).1)
  have H1 := Lib.hid (And.intro ho1 hB1)
  clear ho1 hB1 hg1 ho
  go_wp2_with fail
  go_ret
  exact ⟨v1, sp1, rfl, H1.out.1, H1.out.2⟩
end Go.Proofs.YtgkljncigbiffaaDoor

/- What a table's Build leaves beside the grid. Plain facts of this program. No condition. -/
namespace Go.Proofs.YtgkljncigbiffaaDoor
open Go.RowKit
/-- Bytes that can be read, none of them in some blocks. -/
def KeysX (X : List Nat) (w : World) (A : Option Addr) (ks : List (List UInt8)) : Prop :=
  0 < ks.length → ∃ b off, A = some ⟨b, off, none⟩ ∧ b ∉ X ∧ ∀ i, (h : i < ks.length) → ∃ A1 c1, w.cell? ⟨b, off + i, none⟩ = some (.slice A1 ks[i].length c1) ∧ ks[i].length ≤ c1 ∧ c1 ≤ 9223372036854775807 ∧ Bytes w A1 ks[i] ∧ (ks[i] ≠ [] → ∀ ad, A1 = some ad → ad.block ∉ X)
theorem bytes_nearN {X : List Nat} {w w' : World} {A : Option Addr} {l : List UInt8} (h : Bytes w A l) (k : Near X w w') (hn : l ≠ [] → ∀ ad, A = some ad → ad.block ∉ X) : Bytes w' A l := by
  by_cases hl : l = []
  · subst hl; exact Reads.nil _ _
  · exact Bytes.near h k (hn hl)
theorem KeysX.near {X : List Nat} {w w' : World} {A : Option Addr} {ks : List (List UInt8)} (h : KeysX X w A ks) (k : Near X w w') : KeysX X w' A ks := fun hp => by
  obtain ⟨b, off, e, hb, hc⟩ := h hp
  refine ⟨b, off, e, hb, fun i hi => ?_⟩
  obtain ⟨A1, c1, k1, k2, k3, k4, k5⟩ := hc i hi
  exact ⟨A1, c1, (k.cell (p := ⟨b, off + i, none⟩) (World.block_lt_of_cell? _ _ k1) hb).trans k1, k2, k3, bytes_nearN k4 k k5, k5⟩
theorem BodsAt.keysX {X : List Nat} {w : World} {base : Nat} {v : Value} {G : List (List PairT)} {bs sp : List Value} (h : BodsAt w base v G bs sp) (hX : ∀ x ∈ X, x < base) : ∃ A c, v = .slice A G.length c ∧ G.length ≤ c ∧ c ≤ 9223372036854775807 ∧ KeysX X w A (G.map gbody) := by
  obtain ⟨A, c, rfl, hc, hm, hr, -⟩ := OwnsC.reads h.own
  refine ⟨A, c, rfl, hc, hm, fun hp => ?_⟩
  rw [List.length_map] at hp
  obtain ⟨u0, s0, e0, -⟩ := h.each 0 G[0] (List.getElem?_eq_getElem hp)
  obtain ⟨b, off, rfl, hcell⟩ := hr (by intro e; rw [e] at e0; simp at e0)
  refine ⟨b, off, rfl, fun hm' => by have := hX b hm'; have := (OwnsC.lt h.own b rfl).1; omega, fun i hi => ?_⟩
  rw [List.length_map] at hi
  obtain ⟨u, s, e1, e2⟩ := h.each i G[i] (List.getElem?_eq_getElem hi)
  obtain ⟨A1, c1, rfl, k1, k2, k3⟩ := OwnB.open_ e2
  rw [show (G.map gbody)[i]'(by rw [List.length_map]; exact hi) = gbody G[i] by simp]
  exact ⟨A1, c1, hcell _ _ e1, k1, k2, k3, fun _ ad e hm' => by subst e; have := hX _ hm'; have := (OwnsC.lt e2 _ rfl).1; omega⟩
theorem KeysN.keysX {X : List Nat} {w : World} {base : Nat} {v : Value} {G : List (List PairT)} {bs sp : List Value} (h : KeysN (fun x => x ∉ X) w base v G bs sp) (hX : ∀ x ∈ X, x < base) : ∃ A c, v = .slice A G.length c ∧ G.length ≤ c ∧ c ≤ 9223372036854775807 ∧ KeysX X w A (G.map gkey) := by
  obtain ⟨A, c, rfl, hc, hm, hr, -⟩ := OwnsC.reads h.own
  refine ⟨A, c, rfl, hc, hm, fun hp => ?_⟩
  rw [List.length_map] at hp
  obtain ⟨A0, c0, e0, -⟩ := h.each 0 G[0] (List.getElem?_eq_getElem hp)
  obtain ⟨b, off, rfl, hcell⟩ := hr (by intro e; rw [e] at e0; simp at e0)
  refine ⟨b, off, rfl, fun hm' => by have := hX b hm'; have := (OwnsC.lt h.own b rfl).1; omega, fun i hi => ?_⟩
  rw [List.length_map] at hi
  obtain ⟨A1, c1, e1, k1, k2, k3, k4⟩ := h.each i G[i] (List.getElem?_eq_getElem hi)
  rw [show (G.map gkey)[i]'(by rw [List.length_map]; exact hi) = gkey G[i] by simp]
  exact ⟨A1, c1, hcell _ _ e1, k1, k2, k3, fun _ ad e => (k4 ad e).2⟩
theorem Tab.near {X : List Nat} {w w' : World} (h : Tab w) (k : Near X w w') (hX : 1 ∉ X) : Tab w' :=
  ⟨Nat.lt_of_lt_of_le h.1 k.size, fun j hj => (k.cell (p := ⟨1, j, none⟩) h.1 hX).trans (h.2 j hj)⟩
/-- A pair's key in memory, none of it in some blocks. -/
def KeyX (X : List Nat) (w : World) (A : Option Addr) (i : Nat) (key : List UInt8) : Prop := ∃ b off ad1 c1, A = some ⟨b, off, none⟩ ∧ b ∉ X ∧ w.cell? ⟨b, off + i * 3, none⟩ = some (.slice (some ad1) key.length c1) ∧ key.length ≤ c1 ∧ c1 ≤ 9223372036854775807 ∧ Bytes w (some ad1) key ∧ ad1.block ∉ X
theorem KeyX.near {X : List Nat} {w w' : World} {A : Option Addr} {i : Nat} {key : List UInt8} (h : KeyX X w A i key) (k : Near X w w') : KeyX X w' A i key := by
  obtain ⟨b, off, ad1, c1, e, hb, k1, k2, k3, k4, k5⟩ := h
  exact ⟨b, off, ad1, c1, e, hb, (k.cell (p := ⟨b, off + i * 3, none⟩) (World.block_lt_of_cell? _ _ k1) hb).trans k1, k2, k3, Bytes.near k4 k (fun ad e' => by injection e' with e'; exact e' ▸ k5), k5⟩
/-- Pairs whose keys can be read, none of them in some blocks. -/
def PairsX (X : List Nat) (w : World) (A : Option Addr) (l : List PairT) : Prop := ∀ i, (h : i < l.length) → 1 ≤ l[i].1.length → KeyX X w A i l[i].1
theorem PairsX.near {X : List Nat} {w w' : World} {A : Option Addr} {l : List PairT} (h : PairsX X w A l) (k : Near X w w') : PairsX X w' A l := fun i hi hl => (h i hi hl).near k
/-- The blocks of a table, as they are written. -/
structure Puts (s : Int) (bs : List (List UInt8)) (ix : List UInt8) (root : RefT) (G : Nat → Grd) (D : Nat → Dsk) (R : Nat → RefT) : Prop where
  data : ∀ i, (h : i < bs.length) → gput (G i) (D i) none 1 [] bs[i] s = ((0, R i), G (i + 1), D (i + 1), none)
  index : gput (G bs.length) (D bs.length) none 2 ((List.range bs.length).map R) ix s = ((0, root), G (bs.length + 1), D (bs.length + 1), none)
/-- Between two blocks: what was written, the refs and the index's bytes so far. -/
structure BuAt (w : World) (q : GPl) (g : Grd) (d : Dsk) (rs : List RefT) (ib : List UInt8) (v14 v15 : Value) (qi : GPl) (sp1 : List Value) (sp2 : List UInt8) (wr : World) : Prop where
  refs : OwnsC 33 2 wr w.heap.size v14 rs.length (refCells rs) sp1
  ix : OwnB 5 wr w.heap.size v15 ib sp2
  gg : qi.gg = q.gg
  p : qi.p = q.p
  gf : qi.gf = q.gf
  grid : GridR wr qi g d none
  near : Near q.all w wr
  all : ∀ x ∈ qi.all, x ∈ q.all ∨ w.heap.size ≤ x
  off : ∀ x, v14.ownBlock = some x → x ∉ qi.all
section
variable {w wr w' : World} {q qi : GPl} {g g' : Grd} {d d' : Dsk} {rs rs' : List RefT} {ib ib' : List UInt8} {v14 v15 v' : Value} {sp1 sp1' : List Value} {sp2 sp2' : List UInt8}
theorem BuAt.ixOff (h : BuAt w q g d rs ib v14 v15 qi sp1 sp2 wr) : ∀ x, v15.ownBlock = some x → x ∉ qi.all := fun x hx => by
  obtain ⟨cs, hb⟩ := ownBlk h.ix hx
  exact h.grid.offT hb (by decide)
theorem BuAt.wrote (h : BuAt w q g d rs ib v14 v15 qi sp1 sp2 wr) (hp : GPost wr qi g' d' none w') : ∃ q', BuAt w q g' d' rs ib v14 v15 q' sp1 sp2 w' := by
  obtain ⟨q', e1, e2, e3, h4, h5, h6⟩ := hp
  refine ⟨q', OwnsC.nearO h.refs h5 h.off, OwnsC.nearO h.ix h5 h.ixOff, e1.trans h.gg, e2.trans h.p, e3.trans h.gf, h4, Near.mix h.near h5 h.all, fun x hx => ?_, fun x hx hm => ?_⟩
  · rcases h6 x hx with e | e
    · exact h.all x e
    · exact .inr (Nat.le_trans h.near.size e)
  · rcases h6 x hm with e | e
    · exact h.off x hx e
    · have := (OwnsC.lt h.refs x hx).2; omega
theorem BuAt.below (h : BuAt w q g d rs ib v14 v15 qi sp1 sp2 wr) (k : Below wr.heap.size wr w') : BuAt w q g d rs ib v14 v15 qi sp1 sp2 w' :=
  ⟨OwnsC.ownBelow h.refs k, OwnsC.ownBelow h.ix k, h.gg, h.p, h.gf, h.grid.below k, h.near.trans (Near.below k), h.all, h.off⟩
theorem BuAt.ref (h : BuAt w q g d rs ib v14 v15 qi sp1 sp2 wr) {r : RefT} (ho : OwnsC 33 2 w' w.heap.size v' (rs.length + 1) (refCells rs ++ [.int .i64 r.1, .int .i64 r.2.1]) sp1') (hg : wr.grownBy w' v14.ownBlock) (hv : v'.ownBlock = v14.ownBlock ∨ v'.ownBlock = some wr.heap.size) :
    BuAt w q g d (rs ++ [r]) ib v' v15 qi sp1' sp2 w' := by
  have hn : Near v14.ownBlock.toList wr w' := Near.grown hg (fun x hx => Option.mem_toList.2 hx)
  refine ⟨?_, OwnsC.nearO h.ix hn (fun x hx hm => ?_), h.gg, h.p, h.gf, h.grid.near hn (fun x hx hm => h.off x (Option.mem_toList.1 hm) hx), Near.mix h.near hn (fun x hx => .inr (OwnsC.lt h.refs x (Option.mem_toList.1 hx)).1), h.all, fun x hx => ?_⟩
  · rw [List.length_append, show refCells (rs ++ [r]) = refCells rs ++ [.int .i64 r.1, .int .i64 r.2.1] by unfold refCells; simp]
    exact ho
  · obtain ⟨cs, hb⟩ := ownBlk h.ix hx
    obtain ⟨cs', hb'⟩ := ownBlk h.refs (Option.mem_toList.1 hm)
    exact hb.apart hb' (by decide) rfl
  · rcases hv with e | e
    · exact h.off x (e ▸ hx)
    · rw [e] at hx; injection hx with hx; subst hx
      exact h.grid.offRef (Nat.le_refl _)
theorem BuAt.more (h : BuAt w q g d rs ib v14 v15 qi sp1 sp2 wr) (ho : OwnB 5 w' w.heap.size v' ib' sp2') (hg : wr.grownBy w' v15.ownBlock) :
    BuAt w q g d rs ib' v14 v' qi sp1 sp2' w' := by
  have hn : Near v15.ownBlock.toList wr w' := Near.grown hg (fun x hx => Option.mem_toList.2 hx)
  refine ⟨OwnsC.nearO h.refs hn (fun x hx hm => ?_), ho, h.gg, h.p, h.gf, h.grid.near hn (fun x hx hm => h.ixOff x (Option.mem_toList.1 hm) hx), Near.mix h.near hn (fun x hx => .inr (OwnsC.lt h.ix x (Option.mem_toList.1 hx)).1), h.all, h.off⟩
  obtain ⟨cs, hb⟩ := ownBlk h.refs hx
  obtain ⟨cs', hb'⟩ := ownBlk h.ix (Option.mem_toList.1 hm)
  exact hb.apart hb' (by decide) rfl
end
def BuRel (w : World) (q : GPl) (G : Nat → Grd) (D : Nat → Dsk) (R : Nat → RefT) (ks : List (List UInt8)) (v57 v14 v15 : Value) (wr : World) : Prop :=
  ∃ (i : Nat) (qi : GPl) (sp1 : List Value) (sp2 : List UInt8), i ≤ ks.length ∧ v57 = .int .i64 (i : Int) ∧ BuAt w q (G i) (D i) ((List.range i).map R) (kbytes (ks.take i)) v14 v15 qi sp1 sp2 wr
theorem kbytes_take {ks : List (List UInt8)} {i : Nat} (h : i < ks.length) : kbytes (ks.take (i + 1)) = kbytes (ks.take i) ++ [UInt8.ofNat ks[i].length] ++ ks[i] := by
  unfold kbytes
  rw [List.take_succ_eq_append_getElem h, List.flatMap_append]
  simp
end Go.Proofs.YtgkljncigbiffaaDoor

/- A table is written: the program's Build. Conditions: the grid is known; there is room for the table; each write succeeds. -/
namespace Go.Proofs.YtgkljncigbiffaaDoor
open Go.RowKit
theorem ppack_ok {l : List PairT} (h : (ppack l).1 = 0) : l ≠ [] ∧ l.length ≤ 64 ∧ psorted l = true ∧ l.all pok = true ∧ (ppack l).2 = pgroups l := by
  unfold ppack at h ⊢
  split at h
  · cases h
  · rename_i hn
    rw [if_neg hn]
    simp only [not_or, Bool.not_eq_false] at hn
    exact ⟨hn.1, by omega, hn.2.2.1, hn.2.2.2, rfl⟩
theorem gkey_ok {l : List PairT} (h : (ppack l).1 = 0) {k : List UInt8} (hk : k ∈ (ppack l).2.map gkey) : 1 ≤ k.length ∧ k.length ≤ 32 := by
  obtain ⟨-, -, -, h4, h5⟩ := ppack_ok h
  have hG := pgroups_ok h4
  rw [h5] at hk
  obtain ⟨g, hg, rfl⟩ := List.mem_map.1 hk
  obtain ⟨a, ha, e⟩ := gkey_mem (hG.ne g hg)
  rw [e]
  have := pok_spec (List.all_eq_true.1 h4 a (by rw [← hG.flat]; exact List.mem_flatten.2 ⟨g, hg, ha⟩))
  exact ⟨this.1, this.2.1⟩
theorem gbody_ok {l : List PairT} (h : (ppack l).1 = 0) {b : List UInt8} (hb : b ∈ (ppack l).2.map gbody) : b.length ≤ 860 := by
  obtain ⟨-, -, -, h4, h5⟩ := ppack_ok h
  rw [h5] at hb
  obtain ⟨g, hg, rfl⟩ := List.mem_map.1 hb
  exact (pgroups_ok h4).small g hg
theorem kbytes_le : ∀ (ks : List (List UInt8)), (∀ k ∈ ks, k.length ≤ 32) → (kbytes ks).length ≤ 33 * ks.length
  | [], _ => by simp [kbytes]
  | k :: ks, h => by
    have h1 := h k (by simp)
    have h2 := kbytes_le ks (fun x hx => h x (by simp [hx]))
    unfold kbytes at h2 ⊢
    rw [List.flatMap_cons, List.length_append, List.length_cons, List.length_cons]
    omega
theorem bu_lt {a b : Nat} (h : b ≤ a) : decide ((a : Int) < (b : Int)) = false := decide_eq_false (by omega)
set_option maxRecDepth 100000 in
set_option maxHeartbeats 8000000 in
theorem tbuild_any {w : World} {q : GPl} {G : Nat → Grd} {D : Nat → Dsk} {R : Nat → RefT} {root : RefT} {s : Int} (h : GridR w q (G 0) (D 0) none) (hT : Tab w) (hTq : 1 ∉ q.all)
    (A : Option Addr) (c : Nat) (l : List PairT) (hl : l.length ≤ 65536) (hP : Pairs w A l) (hX : PairsX q.all w A l) (hok : (ppack l).1 = 0) (hs1 : 0 ≤ s) (hs2 : s ≤ 1073741824)
    (hf : (ppack l).2.length + 1 ≤ cnts (G 0).L 0) (hpt : Puts s ((ppack l).2.map gbody) (kbytes ((ppack l).2.map gkey)) root G D R) (F : List UInt8) (L : List UInt8) (hF : ∃ p, l[0]? = some p ∧ F = p.1) (hL : ∃ p, l[l.length - 1]? = some p ∧ L = p.1) :
    Calls Tryd.prog 10 #[.pointer (some ⟨q.gg, 0, none⟩), .slice A l.length c, .int .i64 s] w fun e w' => ∃ (fv lv : Value) (sf sl : List UInt8), e = .returned (.tuple #[.agg #[.int .i64 root.1, .int .i64 root.2.1, .int .i64 (l.length : Int), fv, lv], .int .i64 0]) ∧ OwnB 5 w' w.heap.size fv F sf ∧ OwnB 5 w' w.heap.size lv L sl ∧ GPost w q (G ((ppack l).2.length + 1)) (D ((ppack l).2.length + 1)) none w' := by
  have hz := zeroRunrun
  have hb1 := (Below.refl w.heap.size w).alloc (Nat.le_refl _) (.cells #[.int .i64 0, .int .i64 0, .int .i64 0, .slice none 0 0, .slice none 0 0] 35)
  have hg6 := Blk.new w 35 #[.int .i64 0, .int .i64 0, .int .i64 0, .slice none 0 0, .slice none 0 0]
  have HW := Lib.hid (And.intro h (And.intro hT (And.intro hTq (And.intro hP (And.intro hX (And.intro hok (And.intro hpt (And.intro hF hL))))))))
  have hno := tnone_any (h.below hb1)
  have H0 := Lib.hid (And.intro hb1 hg6)
  obtain ⟨n, hn⟩ : ∃ n, n = l.length := ⟨_, rfl⟩
  have HN := Lib.hid hn
  rw [← hn] at hl ⊢
  clear h hT hTq hP hX hok hpt hF hL hb1 hg6 hn
  go_enter Tryd.func10, Tryd.ntmps10
  go_wp2_with fail
  refine hno.mono ?_
  rintro e w1 ⟨rfl, hb1⟩
  have hbw1 := H0.out.1.trans (hb1.mono H0.out.1.size)
  have hpk := pack_any (N := fun x => x ∉ q.all) A c l (by rw [← HN.out]; exact hl) w1 (HW.out.2.2.2.1.below hbw1) (fun i b off p A1 c1 hi hA hc hp ad e => by
    subst hA
    obtain ⟨hi2, rfl⟩ := List.getElem?_eq_some_iff.1 hi
    obtain ⟨b', off', ad1, c1', e1, k1, k2, k3, k4, k5, k6⟩ := (HW.out.2.2.2.2.1.near (Near.below hbw1)) i hi2 hp
    injection e1 with e1
    obtain ⟨rfl, rfl⟩ : b = b' ∧ off = off' := by injection e1 with e1 e2; exact ⟨e1, e2⟩
    rw [hc] at k2
    injection k2 with k2
    injection k2 with k2
    rw [e] at k2; injection k2 with k2
    rw [k2]; exact k6)
  rw [← HN.out] at hpk
  have H1 := Lib.hid (And.intro hbw1 (H0.out.2.below hb1 H0.out.2.lt))
  clear hno hb1 hbw1
  go_wp2_with fail
  refine hpk.mono ?_
  rintro e w2 ⟨vb, vk, bs, sp, ks, sk, rfl, hG, hK, -, hb2⟩
  have hbw2 := H1.out.1.trans (hb2.mono H1.out.1.size)
  have hlow : ∀ x ∈ q.all, x < w1.heap.size := fun x hx => Nat.lt_of_lt_of_le (HW.out.1.lt x hx) H1.out.1.size
  obtain ⟨Ab, cb, rfl, hcb, hcbm, hKb⟩ := hG.keysX hlow
  obtain ⟨Ak, ck, rfl, hck, hckm, hKk⟩ := hK.keysX hlow
  obtain ⟨m, hm⟩ : ∃ m, m = (ppack l).2.length := ⟨_, rfl⟩
  rw [HW.out.2.2.2.2.2.1]
  rw [← hm] at hcb hck hf ⊢
  have hcn := gcounts_any (HW.out.1.below hbw2)
  have hc3 := cnts3 (G 0).L HW.out.1.ok.set.le
  have hcl := HW.out.1.ok.len
  have hc5 := HW.out.1.ok.h512
  generalize cnts (G 0).L 0 = a at hcn hf hc3
  generalize cnts (G 0).L 1 = a1 at hcn hc3
  generalize cnts (G 0).L 2 = a2 at hcn hc3
  have hm512 : m < 512 := by omega
  have k1 : decide (s < 0) = false := decide_eq_false (by omega)
  have k2 : decide (s > 1073741824) = false := decide_eq_false (by omega)
  have k2' : decide (1073741824 < s) = false := decide_eq_false (by omega)
  have k3 : wrap64 ((m : Int) + 1) = ((m + 1 : Nat) : Int) := by rw [w64_in (by omega)]; omega
  have k4 : decide ((a : Int) < ((m + 1 : Nat) : Int)) = false := bu_lt hf
  have k5 : decide (a < m + 1) = false := decide_eq_false (Nat.not_lt.2 hf)
  have k6 : decide ((a : Int) < (m : Int) + 1) = false := bu_lt hf
  have H2 := Lib.hid (And.intro hbw2 (And.intro (H1.out.2.below hb2 H1.out.2.lt) (And.intro hKb (And.intro hKk (And.intro hm (And.intro hs1 hs2))))))
  have HC2 := Lib.hid (And.intro hcb (And.intro hck (And.intro hcbm hckm)))
  clear hpk hG hK hb2 hbw2 hlow hKb hKk hm hs1 hs2 hc3 hcl hc5 hf hcb hck hcbm hckm
  go_wp2_with fail
  refine hcn.mono ?_
  rintro e w3 ⟨rfl, hb3⟩
  have hbw3 := H2.out.1.trans (hb3.mono H2.out.1.size)
  have H3 := Lib.hid (And.intro hbw3 (And.intro (H2.out.2.1.below hb3 H2.out.2.1.lt) (And.intro (H2.out.2.2.1.near (Near.below hb3)) (H2.out.2.2.2.1.near (Near.below hb3)))))
  have hml : ((ppack l).2.map gkey).length = m := by rw [List.length_map]; exact H2.out.2.2.2.2.1.symm
  have hst : BuRel w3 q G D R ((ppack l).2.map gkey) (.int .i64 0) (.slice none 0 0) (.slice none 0 0) w3 := ⟨0, q, [], [], Nat.zero_le _, rfl, ⟨OwnsC.nil _ _ _ _, OwnsC.nil _ _ _ _, rfl, rfl, rfl, HW.out.1.below hbw3, Near.refl _ _, fun x hx => .inl hx, fun x hx => by cases hx⟩⟩
  have HS := Lib.hid (And.intro hst hml)
  clear hcn hb3 hbw3 hml hst k1 k2 k2'
  go_wp2_with fail
  go_loopw [14, 15, 57] (fun v14 v15 v57 wr => BuRel w3 q G D R ((ppack l).2.map gkey) v57 v14 v15 wr) (fun _ _ v57 _ => m - (intOf v57).toNat)
  case atStart => exact HS.out.1
  case round =>
    obtain ⟨i, qi, sp1, sp2, hi, rfl, hA⟩ := hrel
    rw [HS.out.2] at hi
    by_cases hlt : i < m
    case neg =>
      have hok := HW.out.2.2.2.2.2.1
      obtain ⟨hne, hn64, -, hall, hpg⟩ := ppack_ok hok
      have hm15 : m ≤ 15 := by rw [H2.out.2.2.2.2.1, hpg]; exact pgroups_few hall hn64
      rw [← HN.out] at hn64
      have hn1 : 1 ≤ n := by
        rw [HN.out]; exact Nat.pos_of_ne_zero (fun e => hne (List.eq_nil_of_length_eq_zero e))
      obtain rfl : i = m := by omega
      have hput := HW.out.2.2.2.2.2.2.1.index
      rw [List.length_map, ← H2.out.2.2.2.2.1] at hput
      rw [List.take_of_length_le (by rw [HS.out.2]; exact Nat.le_refl _)] at hA
      have hkl := kbytes_le ((ppack l).2.map gkey) (fun k hk => (gkey_ok hok hk).2)
      rw [HS.out.2] at hkl
      obtain ⟨A14, c14, h14, -, -, hr14, -⟩ := OwnsC.reads hA.refs
      rw [List.length_map, List.length_range] at h14
      obtain ⟨A15, c15, h15, -, -, hb15⟩ := OwnB.open_ hA.ix
      have hgw := gwrite_any hA.grid 2 s A14 A15 i c14 (kbytes ((ppack l).2.map gkey)).length c15 ((List.range i).map R) (kbytes ((ppack l).2.map gkey)) (by simp) rfl (by simp; omega) (by omega) (Refs.of hr14) hb15 (Tab.near (HW.out.2.1.below H3.out.1) hA.near HW.out.2.2.1)
      rw [hput, hA.gg] at hgw
      subst h14 h15
      obtain ⟨p0, hp0, rfl⟩ := HW.out.2.2.2.2.2.2.2.1
      obtain ⟨p1, hp1, rfl⟩ := HW.out.2.2.2.2.2.2.2.2
      have hq0 := pok_spec (List.all_eq_true.1 hall p0 (List.mem_of_getElem? hp0))
      have hq1 := pok_spec (List.all_eq_true.1 hall p1 (List.mem_of_getElem? hp1))
      obtain ⟨hp0l, hp0e⟩ := List.getElem?_eq_some_iff.1 hp0
      obtain ⟨hp1l, hp1e⟩ := List.getElem?_eq_some_iff.1 hp1
      have hX0 := HW.out.2.2.2.2.1 0 hp0l (by rw [hp0e]; exact hq0.1)
      have hX1 := HW.out.2.2.2.2.1 (l.length - 1) hp1l (by rw [hp1e]; exact hq1.1)
      rw [hp0e] at hX0
      rw [hp1e, ← HN.out] at hX1
      have HBW := Lib.hid (show ∀ ad, A = some ad → ad.block < w.heap.size from fun ad e => by
        obtain ⟨b, off, ad1, c1, e1, -, k, -⟩ := hX0
        rw [e] at e1; injection e1 with e1; subst e1
        exact World.block_lt_of_cell? _ _ k)
      have HI := Lib.hid (And.intro hA (And.intro (hX0.near (Near.below H3.out.1)) (And.intro (hX1.near (Near.below H3.out.1)) (And.intro (show p0.1.length ≤ 32 from hq0.2.1) (show p1.1.length ≤ 32 from hq1.2.1)))))
      have kn : wrap64 ((n : Int) - 1) = ((n - 1 : Nat) : Int) := by rw [w64_in (by omega)]; omega
      clear hA hput hkl hr14 hb15 hq0 hq1 hp0l hp0e hp1l hp1e hp0 hp1 hX0 hX1 hall hpg hne hok
      go_wp2_with fail
      refine hgw.mono ?_
      rintro e w5 ⟨rfl, hp5⟩
      obtain ⟨q5, hA5⟩ := HI.out.1.wrote hp5
      have hP5 : GPost w q (G (i + 1)) (D (i + 1)) none w5 := GPost.trans1 H3.out.1 ⟨q5, hA5.gg, hA5.p, hA5.gf, hA5.grid, hA5.near, hA5.all⟩
      have hg65 := H3.out.2.1.near hA5.near (HW.out.1.offRef (Nat.le_refl _))
      have hx0 := HI.out.2.1.near hA5.near
      have hx1 := HI.out.2.2.1.near hA5.near
      have hb6 := (Below.refl w5.heap.size w5).alloc (Nat.le_refl _) (.cells #[.int .i64 root.1, .int .i64 root.2.1] 33)
      have hb20 := Blk.new w5 33 #[.int .i64 root.1, .int .i64 root.2.1]
      have H5 := Lib.hid (And.intro (hP5.below hb6) (And.intro (hg65.below hb6 hg65.lt) (And.intro (hx0.near (Near.below hb6)) (hx1.near (Near.below hb6)))))
      clear hgw hp5 hA5 hP5 hg65 hx0 hx1 hb6
      go_wp2_with fail
      obtain ⟨b, off, ad0, c0, rfl, -, d0, hc0, hc0m, hB0, -⟩ := H5.out.2.2.1
      obtain ⟨b', off', ad1, c1, e1, -, d1, hc1, hc1m, hB1, -⟩ := H5.out.2.2.2
      injection e1 with e1
      obtain ⟨rfl, rfl⟩ : b = b' ∧ off = off' := by injection e1 with e1 e2; exact ⟨e1, e2⟩
      have H6 := Lib.hid (And.intro hB0 hB1)
      have hw6 : Below (w5.alloc (.cells #[.int .i64 root.1, .int .i64 root.2.1] 33)).heap.size (w5.alloc (.cells #[.int .i64 root.1, .int .i64 root.2.1] 33)) (w5.alloc (.cells #[.int .i64 root.1, .int .i64 root.2.1] 33)).drew := (Below.refl _ _).drew
      have HW6 := Lib.hid hw6
      have hc : Blk (w5.alloc (.cells #[.int .i64 root.1, .int .i64 root.2.1] 33)).drew w5.heap.size 33 #[.int .i64 root.1, .int .i64 root.2.1] ∧ (w5.alloc (.cells #[.int .i64 root.1, .int .i64 root.2.1] 33)).drew.cell? ⟨b, off + 0 * 3, none⟩ = some (.slice (some ad0) p0.1.length c0) ∧ (w5.alloc (.cells #[.int .i64 root.1, .int .i64 root.2.1] 33)).drew.cell? ⟨b, off + (n - 1) * 3, none⟩ = some (.slice (some ad1) p1.1.length c1) := ⟨hb20, d0, d1⟩
      have hlt0 := World.block_lt_of_cell? _ _ d0
      clear d0 d1 hc0 hc0m hc1 hc1m hB0 hB1 e1 hb20 hw6 hm15 hlt hi
      generalize (w5.alloc (.cells #[.int .i64 root.1, .int .i64 root.2.1] 33)) = w6 at H5 H6 HW6 hc hlt0 ⊢
      refine wp_region_tree (fun w' => Blk w' w5.heap.size 33 #[.int .i64 root.1, .int .i64 root.2.1] ∧ w'.cell? ⟨b, off + 0 * 3, none⟩ = some (.slice (some ad0) p0.1.length c0) ∧ w'.cell? ⟨b, off + (n - 1) * 3, none⟩ = some (.slice (some ad1) p1.1.length c1)) [] (PlanT.takes [1, 2, 3, 4, 5, 8, 9, 10, 11, 12, 13] (PlanT.takes [0, 6, 14] (.opt 7 (.opt 15 (PlanT.takes [16] (.opt 17 (PlanT.takes [18] .done) .no)) .no) .no))) (by kernel_rfl) (by kernel_rfl) (hc) ?_
      refine wpTree_pure _ _ _ (by rfl) (by rfl) ?_
      dsimp only [List.filterMap, List.getElem?_cons_zero, List.getElem?_cons_succ]
      repeat (go_big_quiet_step (fail))
      refine wpQuiet_nil ?_
      refine wpTree_takeL _ _ _ (by rfl) (by rfl) (hc) ?_
      dsimp only [List.filterMap, List.getElem?_cons_zero, List.getElem?_cons_succ]
      (refine wpQuiet_load_blk (fun w' hw' => hw'.1) (by rfl) _ _ (by rfl) (by rfl) _ Tryd.underlying33 (by rfl) (size_ref) (by rfl) ?_; simp only [Act.put, List.setIfInBounds_toArray, List.set_cons_zero, List.set_cons_succ])
      (refine wpQuiet_load_cell (fun w' hw' => hw'.2.1) (by rfl) _ _ (by rfl) (by rfl) _ Tryd.underlying22 (by rfl) ?_; simp only [Act.put, List.setIfInBounds_toArray, List.set_cons_zero, List.set_cons_succ])
      (refine wpQuiet_load_cell (fun w' hw' => hw'.2.2) (by rfl) _ _ (by rfl) (by rfl) _ Tryd.underlying22 (by rfl) ?_; simp only [Act.put, List.setIfInBounds_toArray, List.set_cons_zero, List.set_cons_succ])
      refine wpQuiet_nil ?_
      refine wpTree_one _ rfl ?_
      go_wp2_with fail
      refine (bclone_any ad0 c0 p0.1 _ (Bytes.below H6.out.1 HW6.out) (by have := HI.out.2.2.2.1; omega)).mono ?_
      rintro e w7 ⟨fv, sf, rfl, hof, hb7⟩
      obtain ⟨Af, cf, rfl, -, -, -⟩ := OwnB.open_ hof
      have hs7 : Below w6.heap.size w6 w7 := HW6.out.trans hb7
      have hc7 : Blk w7 w5.heap.size 33 #[.int .i64 root.1, .int .i64 root.2.1] ∧ w7.cell? ⟨b, off + 0 * 3, none⟩ = some (.slice (some ad0) p0.1.length c0) ∧ w7.cell? ⟨b, off + (n - 1) * 3, none⟩ = some (.slice (some ad1) p1.1.length c1) := ⟨hc.1.below hb7 hc.1.lt, (hb7.cell (p := ⟨b, off + 0 * 3, none⟩) hlt0).trans hc.2.1, (hb7.cell (p := ⟨b, off + (n - 1) * 3, none⟩) hlt0).trans hc.2.2⟩
      have H7 := Lib.hid (And.intro hof (And.intro hs7 (And.intro trivial (H5.out.2.1.below hs7 H5.out.2.1.lt))))
      clear hof hb7 hs7 hc
      go_wp2_with fail
      refine TreeQ.in_ hc7 ?_
      refine wpTree_one _ rfl ?_
      go_wp2_with fail
      refine (bclone_any ad1 c1 p1.1 _ (Bytes.below H6.out.2 H7.out.2.1) (by have := HI.out.2.2.2.2; omega)).mono ?_
      rintro e w8 ⟨lv, sl, rfl, hol, hb8⟩
      obtain ⟨Al, cl, rfl, -, -, -⟩ := OwnB.open_ hol
      have hs8 : Below w6.heap.size w6 w8 := H7.out.2.1.trans (hb8.mono H7.out.2.1.size)
      have hc8 : Blk w8 w5.heap.size 33 #[.int .i64 root.1, .int .i64 root.2.1] ∧ w8.cell? ⟨b, off + 0 * 3, none⟩ = some (.slice (some ad0) p0.1.length c0) ∧ w8.cell? ⟨b, off + (n - 1) * 3, none⟩ = some (.slice (some ad1) p1.1.length c1) := ⟨hc7.1.below hb8 hc7.1.lt, (hb8.cell (p := ⟨b, off + 0 * 3, none⟩) (Nat.lt_of_lt_of_le hlt0 H7.out.2.1.size)).trans hc7.2.1, (hb8.cell (p := ⟨b, off + (n - 1) * 3, none⟩) (Nat.lt_of_lt_of_le hlt0 H7.out.2.1.size)).trans hc7.2.2⟩
      have hg68 := H7.out.2.2.2.below hb8 H7.out.2.2.2.lt
      have hwsz : w.heap.size ≤ w6.heap.size := by have := H5.out.2.1.lt; omega
      have H8 := Lib.hid (And.intro (OwnsC.base_ (OwnsC.ownBelow H7.out.1 hb8) (Nat.le_trans hwsz HW6.out.size)) (And.intro (OwnsC.base_ hol (Nat.le_trans hwsz H7.out.2.1.size)) (And.intro (H5.out.1.below hs8) hs8.size)))
      clear hol hb8 hs8 hc7
      go_wp2_with fail
      refine TreeQ.in_ hc8 ?_
      refine wpTree_pure _ _ _ (by rfl) (by rfl) ?_
      dsimp only [List.filterMap, List.getElem?_cons_zero, List.getElem?_cons_succ]
      repeat (go_big_quiet_step (fail))
      refine wpQuiet_nil ?_
      refine wpTree_one _ rfl ?_
      go_wp2_with (first
        | ((with_reducible show wpList _ _ _ ((⟨none, _, _, _, _, _⟩ : Oper) :: _) _ _); refine wpList_store_blk (o := ⟨none, _, _, _, _, _⟩) (hg68) (by rfl) _ _ _ (by rfl) (by rfl) (#[.int .i64 root.1, .int .i64 root.2.1, .int .i64 (n : Int), .slice Af p0.1.length cf, .slice Al p1.1.length cl]) (by rfl) (sizeRun) (by rfl) (by rfl) (by simp [Value.oneCell']) ?_; intro w9 h9 hu9; refine stopped ?_)
        | fail)
      refine Stopped.mk ?_
      have hc9 : Blk w9 w5.heap.size 33 #[.int .i64 root.1, .int .i64 root.2.1] ∧ w9.cell? ⟨b, off + 0 * 3, none⟩ = some (.slice (some ad0) p0.1.length c0) ∧ w9.cell? ⟨b, off + (n - 1) * 3, none⟩ = some (.slice (some ad1) p1.1.length c1) := by
        have hne : b ≠ w.heap.size := by have := HBW.out _ rfl; exact fun e => by rw [e] at this; exact Nat.lt_irrefl _ this
        have hbk := hu9.block b hne
        exact ⟨hc8.1.upd hu9 (hc8.1.apart hg68 (by decide)), (World.cell?_of_block hbk).trans hc8.2.1, (World.cell?_of_block hbk).trans hc8.2.2⟩
      have hup := H8.out.2.2.1.upd hu9 (Nat.le_refl _) (fun q' hq' => hq'.offT hg68 (by decide))
      have hf9 := OwnB.upd H8.out.1 hu9 (fun e => by obtain ⟨cs, hb⟩ := ownBlk H8.out.1 e; exact hb.apart hg68 (by decide) rfl)
      have hl9 := OwnB.upd H8.out.2.1 hu9 (fun e => by obtain ⟨cs, hb⟩ := ownBlk H8.out.2.1 e; exact hb.apart hg68 (by decide) rfl)
      have H9 := Lib.hid (And.intro hup (And.intro hf9 hl9))
      clear hup hf9 hl9 hu9 hc8 hg68
      go_wp2_with fail
      refine TreeQ.in_ hc9 ?_
      refine wpTree_pure _ _ _ (by rfl) (by rfl) ?_
      dsimp only [List.filterMap, List.getElem?_cons_zero, List.getElem?_cons_succ]
      repeat (go_big_quiet_step (fail))
      refine wpQuiet_nil ?_
      refine wpTree_done ?_
      clear hc9
      go_wp2_with fail
      refine bodyPost_ret (results_row_tmp (by rfl) _ _ w.heap.size _ _ _ (by rfl) h9 Tryd.underlying35 (by rfl) sizeRun) rfl ?_
      refine ⟨_, _, sf, sl, rfl, H9.out.2.1, H9.out.2.2, ?_⟩
      rw [← H2.out.2.2.2.2.1]
      exact H9.out.1
    have hok := HW.out.2.2.2.2.2.1
    have hlb : i < ((ppack l).2.map gbody).length := by rw [List.length_map, ← H2.out.2.2.2.2.1]; exact hlt
    have hlk : i < ((ppack l).2.map gkey).length := by rw [HS.out.2]; exact hlt
    obtain ⟨bb, ob, hAbe, hbb, hbc⟩ := (H3.out.2.2.1.near hA.near) (by omega)
    obtain ⟨kb, ko, hAke, hkb, hkc⟩ := H3.out.2.2.2 (by omega)
    subst hAbe hAke
    obtain ⟨A1, c1, d1, hc1, hc1m, hB1, -⟩ := hbc i hlb
    obtain ⟨A2, c2, d2, hc2, hc2m, hB2, hN2⟩ := hkc i hlk
    have hput := HW.out.2.2.2.2.2.2.1.data i hlb
    have hbl := gbody_ok hok (List.getElem_mem hlb)
    have hkl := (gkey_ok hok (List.getElem_mem hlk)).2
    have hkt := kbytes_take hlk
    have hil : (kbytes (((ppack l).2.map gkey).take i)).length ≤ 33 * 512 := by
      have := kbytes_le (((ppack l).2.map gkey).take i) (fun k hk => (gkey_ok hok (List.mem_of_mem_take hk)).2)
      rw [List.length_take] at this
      omega
    generalize ((ppack l).2.map gbody)[i] = bd at d1 hc1 hB1 hput hbl
    generalize hky : ((ppack l).2.map gkey)[i] = ky at d2 hc2 hB2 hN2 hkl hkt
    have hgw := gwrite_any hA.grid 1 s none A1 0 0 bd.length c1 [] bd rfl rfl (by simp) (by omega) (fun h => absurd h (by simp)) hB1 (Tab.near (HW.out.2.1.below H3.out.1) hA.near HW.out.2.2.1)
    rw [hput, hA.gg] at hgw
    have hlt3 : kb < w3.heap.size := World.block_lt_of_cell? _ _ d2
    have HI := Lib.hid (And.intro hA (And.intro hkt (And.intro hil (And.intro d2 (And.intro hlt3 (And.intro hkb (And.intro hB2 hN2)))))))
    have hk256 : ky.length < 256 := by omega
    clear hA hkt hky hil hbc hkc hB1 hB2 hN2 hput hc1m hc2m hc1 hc2 d2 hbb hkb hlt3
    clear hlk hlb
    go_wp2_with fail
    refine hgw.mono ?_
    rintro e w5 ⟨rfl, hp5⟩
    obtain ⟨q5, hA5⟩ := HI.out.1.wrote hp5
    have hA6 := hA5.below ((Below.refl _ _).alloc (Nat.le_refl _) (.cells #[.int .i64 (R i).1, .int .i64 (R i).2.1] 33))
    have hA7 := hA6.below ((Below.refl _ _).alloc (Nat.le_refl _) (.cells #[.int .i64 (R i).1, .int .i64 (R i).2.1] 33))
    have hb18 := Blk.new w5 33 #[.int .i64 (R i).1, .int .i64 (R i).2.1]
    have hra : Reads ((w5.alloc (.cells #[.int .i64 (R i).1, .int .i64 (R i).2.1] 33)).alloc (.cells #[.int .i64 (R i).1, .int .i64 (R i).2.1] 33)) (some ⟨w5.heap.size + 1, 0, none⟩) [.int .i64 (R i).1, .int .i64 (R i).2.1] := by
      have := reads_new (w5.alloc (.cells #[.int .i64 (R i).1, .int .i64 (R i).2.1] 33)) 33 [.int .i64 (R i).1, .int .i64 (R i).2.1]
      simpa using this
    have H7 := Lib.hid (And.intro hA7 hra)
    clear hgw hp5 hA5 hA6 hA7 hra
    go_wp2_with (first
      | ((with_reducible show wpList _ _ _ ((⟨some 74, _, _, _, _, _⟩ : Oper) :: _) _ _); refine wpList_load_blk (o := ⟨some 74, _, _, _, _, _⟩) (hb18) (by rfl) _ _ (by rfl) (by rfl) _ Tryd.underlying33 (by rfl) (size_ref) (by rfl) ?_)
      | ((with_reducible show wpList _ _ _ ((⟨some 76, _, _, _, _, _⟩ : Oper) :: _) _ _); refine wpList_append_vals (o := ⟨some 76, _, _, _, _, _⟩) (by rfl) _ _ _ (by rfl) w3.heap.size 33 (.agg #[.int .i64 0, .int .i64 0]) 2 16 Tryd.underlying28 infoRef (by rfl) (by omega) u14 i (refCells ((List.range i).map R)) sp1 (by rfl) (by have := H7.out.1.refs; rwa [List.length_map, List.length_range] at this) (some ⟨w5.heap.size + 1, 0, none⟩) 1 1 [.int .i64 (R i).1, .int .i64 (R i).2.1] (by rfl) (by rfl) H7.out.2 (by simp [Value.oneCell']) (by simp only [maxLen]; omega) (by omega) H7.out.1.near.size ?_; intro v' W8 sp8 ho8 hg8 hv8 hn8; refine stopped ?_)
      | fail)
    refine Stopped.mk ?_
    have hA8 := H7.out.1.ref (r := R i) (by rw [List.length_map, List.length_range]; exact ho8) hg8 hv8
    rw [show (List.range i).map R ++ [R i] = (List.range (i + 1)).map R by rw [List.range_succ, List.map_append]; rfl] at hA8
    have hA9 := hA8.below (Below.refl W8.heap.size W8).drew
    have hc9 : W8.drew.cell? ⟨kb, ko + i, none⟩ = some (.slice A2 ky.length c2) := (hA9.near.cell (p := ⟨kb, ko + i, none⟩) HI.out.2.2.2.2.1 HI.out.2.2.2.2.2.1).trans HI.out.2.2.2.1
    have H9 := Lib.hid hA8
    obtain ⟨A8, c8, rfl, -, -, -, -⟩ := OwnsC.reads ho8
    clear hA8 hA9 ho8 hg8 hv8 hn8 hb18 H7 d1
    go_wp2_with fail
    refine wp_region_tree (fun w' => w'.cell? ⟨kb, ko + i, none⟩ = some (.slice A2 ky.length c2)) [] (PlanT.takes [0, 1, 2, 3, 9, 10, 11] (PlanT.takes [4, 12] (PlanT.takes [5, 6] (.opt 7 (.opt 8 (.opt 13 (PlanT.takes [14] .done) .no) .no) .no)))) (by kernel_rfl) (by kernel_rfl) (hc9) ?_
    refine wpTree_pure _ _ _ (by rfl) (by rfl) ?_
    dsimp only [List.filterMap, List.getElem?_cons_zero, List.getElem?_cons_succ]
    repeat (go_big_quiet_step (fail))
    refine wpQuiet_nil ?_
    refine wpTree_takeL _ _ _ (by rfl) (by rfl) (hc9) ?_
    dsimp only [List.filterMap, List.getElem?_cons_zero, List.getElem?_cons_succ]
    (refine wpQuiet_load_cell (fun w' hw' => hw') (by rfl) _ _ (by rfl) (by rfl) _ Tryd.underlying22 (by rfl) ?_; simp only [Act.put, List.setIfInBounds_toArray, List.set_cons_zero, List.set_cons_succ])
    (refine wpQuiet_load_cell (fun w' hw' => hw') (by rfl) _ _ (by rfl) (by rfl) _ Tryd.underlying22 (by rfl) ?_; simp only [Act.put, List.setIfInBounds_toArray, List.set_cons_zero, List.set_cons_succ])
    refine wpQuiet_nil ?_
    refine wpTree_pure _ _ _ (by rfl) (by rfl) ?_
    dsimp only [List.filterMap, List.getElem?_cons_zero, List.getElem?_cons_succ]
    repeat (go_big_quiet_step (fail))
    refine wpQuiet_nil ?_
    refine wpTree_one _ rfl ?_
    go_wp2_with fail
    have hb10 : Below W8.heap.size W8 (W8.alloc (.cells #[.int .u8 (ky.length : Int)] 5)).drew := ((Below.refl W8.heap.size W8).alloc (Nat.le_refl _) _).drew
    have hA10 := H9.out.below hb10
    have hlit : Bytes (W8.alloc (.cells #[.int .u8 (ky.length : Int)] 5)).drew (some ⟨W8.heap.size, 0, none⟩) [UInt8.ofNat ky.length] := lit_bytesN W8 _ _ rfl hk256
    have hc10 := (hA10.near.cell (p := ⟨kb, ko + i, none⟩) HI.out.2.2.2.2.1 HI.out.2.2.2.2.2.1).trans HI.out.2.2.2.1
    have H10 := Lib.hid (And.intro hA10 hlit)
    clear hb10 hA10 hlit hc9
    generalize (W8.alloc (.cells #[.int .u8 (ky.length : Int)] 5)).drew = w10 at H10 hc10 ⊢
    have hil := HI.out.2.2.1
    refine TreeQ.in_ hc10 ?_
    refine wpTree_one _ rfl ?_
    go_wp2_with (first
      | ((with_reducible show wpList _ _ _ ((⟨some 85, _, _, _, _, _⟩ : Oper) :: _) _ _); refine wpList_append_bytes (o := ⟨some 85, _, _, _, _, _⟩) (by rfl) _ _ _ (by rfl) (w3.heap.size) _ Tryd.underlying22 u8info (u15) (kbytes (((ppack l).2.map gkey).take i)) (sp2) (by rfl) (H10.out.1.ix) (some ⟨W8.heap.size, 0, none⟩) (1) ([UInt8.ofNat ky.length]) (by first | rfl | simp) (H10.out.2) (by first | omega | (simp; omega)) (H10.out.1.near.size) ?_; intro v11 w11 sp11 ho11 hg11 _ _; refine stopped ?_)
      | fail)
    refine Stopped.mk ?_
    have hA11 := H10.out.1.more ho11 hg11
    have hc11 := (hA11.near.cell (p := ⟨kb, ko + i, none⟩) HI.out.2.2.2.2.1 HI.out.2.2.2.2.2.1).trans HI.out.2.2.2.1
    have hby11 := bytes_nearN HI.out.2.2.2.2.2.2.1 hA11.near HI.out.2.2.2.2.2.2.2
    have H11 := Lib.hid (And.intro hA11 hby11)
    obtain ⟨A11, c11, rfl, -, -, -⟩ := OwnB.open_ ho11
    clear ho11 hg11 hA11 hby11 hc10
    go_wp2_with fail
    refine TreeQ.in_ hc11 ?_
    refine wpTree_one _ rfl ?_
    go_wp2_with (first
      | ((with_reducible show wpList _ _ _ ((⟨some 90, _, _, _, _, _⟩ : Oper) :: _) _ _); refine wpList_append_bytes (o := ⟨some 90, _, _, _, _, _⟩) (by rfl) _ _ _ (by rfl) (w3.heap.size) _ Tryd.underlying22 u8info (_) (kbytes (((ppack l).2.map gkey).take i) ++ [UInt8.ofNat ky.length]) (sp11) (by rfl) (H11.out.1.ix) (A2) (c2) (ky) (by first | rfl | simp) (H11.out.2) (by first | omega | (simp; omega)) (H11.out.1.near.size) ?_; intro v12 w12 sp12 ho12 hg12 _ _; refine stopped ?_)
      | fail)
    refine Stopped.mk ?_
    have hA12 := H11.out.1.more ho12 hg12
    have hc12 := (hA12.near.cell (p := ⟨kb, ko + i, none⟩) HI.out.2.2.2.2.1 HI.out.2.2.2.2.2.1).trans HI.out.2.2.2.1
    rw [← HI.out.2.1] at hA12
    have H12 := Lib.hid hA12
    clear ho12 hg12 hA12 hc11
    go_wp2_with fail
    refine TreeQ.in_ hc12 ?_
    refine wpTree_pure _ _ _ (by rfl) (by rfl) ?_
    dsimp only [List.filterMap, List.getElem?_cons_zero, List.getElem?_cons_succ]
    repeat (go_big_quiet_step (fail))
    refine wpQuiet_nil ?_
    refine wpTree_done ?_
    clear hc12
    go_wp2_with fail
    go_roundw
    case rel => exact ⟨i + 1, q5, sp8, sp12, by rw [HS.out.2]; exact hlt, rfl, H12.out⟩
    case measure => exact meas_up (i := i) (m := m) rfl rfl hlt
end Go.Proofs.YtgkljncigbiffaaDoor

/- A block is written to a grid whose disk holds; a grid that a statement made. Plain facts of this program. No condition. -/
namespace Go.Proofs.YtgkljncigbiffaaDoor
open Go.RowKit
theorem gput_ok {g : Grd} {d : Dsk} {k s : Int} {l : List RefT} {m : List UInt8} (h : Rm d g.n) (hg : g.L.length = g.n) (hset : SetOk g.L) (hok : GB.ok (k, (1, s, ()), l, m, ()) = true) (he : acqE g.L = 0) :
    ∃ d', gput g d none k l m s = ((0, (acqN g.L, s, ())), { g with L := acqL g.L }, d', none) ∧ Rm d' g.n ∧ d'.N = d.N ∧ gblk d' (acqN g.L) = GB.bytes (k, (acqN g.L, s, ()), l, m, ()) ∧ ∀ c, 1 ≤ c → c ≤ (g.n : Int) → c ≠ acqN g.L → gblk d' c = gblk d c := by
  obtain ⟨h1, h2, h3⟩ := acq_range hset (show ¬ acqE g.L ≠ 0 by rw [he]; simp)
  have hok2 := GB.ok_at hok h1 h3
  obtain ⟨d', e1, e2, e3, e4, e5⟩ := gwrite h h1 (hg ▸ h2) (GB.bytes_length (k, (acqN g.L, s, ()), l, m, ()) (GB.ok_spec hok2).2.2.1 (GB.ok_spec hok2).2.2.2.1)
  refine ⟨d', ?_, e2, e3, e4, e5⟩
  unfold gput
  rw [if_neg (by unfold Dsk.isOut; rw [h.out]; simp), if_neg (by rw [hok]; simp), if_neg (by rw [he]; simp), e1, if_neg (by simp)]
/-- A grid that was made since, and its disk. -/
def GL (B : Nat) (w : World) (gp dp : Nat) (g : Grd) (d : Dsk) : Prop := ∃ q : GPl, q.gg = gp ∧ q.p.gd = dp ∧ q.gf = none ∧ GridR w q g d none ∧ ∀ x ∈ q.all, B ≤ x
section
variable {B gp dp : Nat} {w w' : World} {g : Grd} {d : Dsk}
theorem GL.below (h : GL B w gp dp g d) (k : Below w.heap.size w w') : GL B w' gp dp g d := by
  obtain ⟨q, h1, h2, h3, h4, h5⟩ := h
  exact ⟨q, h1, h2, h3, h4.below k, h5⟩
theorem GL.of_post {q : GPl} {g2 : Grd} {d2 : Dsk} {f : Option Fus} (e1 : q.gg = gp) (e2 : q.p.gd = dp) (e3 : q.gf = none) (e4 : ∀ x ∈ q.all, B ≤ x) (hs : B ≤ w.heap.size) (h : GPost w q g2 d2 f w') : GL B w' gp dp g2 d2 ∧ Below B w w' := by
  obtain ⟨q', k1, k2, k3, k4, k5, k6⟩ := h
  have hf : f = none := by
    have := k4.dk.fr
    rw [k3, e3] at this
    exact this.none_
  subst hf
  exact ⟨⟨q', k1.trans e1, (congrArg Pl.gd k2).trans e2, k3.trans e3, k4, fun x hx => (k6 x hx).elim (e4 x) (fun k => Nat.le_trans hs k)⟩, k5.toBelow e4 hs⟩
instance : KeepsTo w w' (GL B w gp dp g d) (GL B w' gp dp g d) := ⟨fun hb h => h.below hb⟩
end
end Go.Proofs.YtgkljncigbiffaaDoor
