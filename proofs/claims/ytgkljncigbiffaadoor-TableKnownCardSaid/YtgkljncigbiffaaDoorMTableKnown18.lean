/- A key's pair is told: the program's Get. Conditions: the grid is known; the index's keys are in order. -/
import Derived.Test.YtgkljncigbiffaaDoorMTableKnown17
namespace Go.Proofs.YtgkljncigbiffaaDoor
open Go.RowKit
/-- What Get tells. -/
def tget (g : Grd) (d : Dsk) (f : Option Fus) (r : RefT) (key : List UInt8) : Int × PairT × Grd :=
  if (topen g d f r).1 ≠ 0 then ((topen g d f r).1, pnone, (topen g d f r).2.2)
  else if kbef (topen g d f r).2.1.2 key = 0 then (6, pnone, (topen g d f r).2.2)
  else if (tdata (topen g d f r).2.2 d f ((topen g d f r).2.1.1.getD (kbef (topen g d f r).2.1.2 key - 1) (0, 0, ()))).1 ≠ 0 then ((tdata (topen g d f r).2.2 d f ((topen g d f r).2.1.1.getD (kbef (topen g d f r).2.1.2 key - 1) (0, 0, ()))).1, pnone, (tdata (topen g d f r).2.2 d f ((topen g d f r).2.1.1.getD (kbef (topen g d f r).2.1.2 key - 1) (0, 0, ()))).2.2)
  else ((match pfind (tdata (topen g d f r).2.2 d f ((topen g d f r).2.1.1.getD (kbef (topen g d f r).2.1.2 key - 1) (0, 0, ()))).2.1 key with | none => 6 | some _ => 0), (pfind (tdata (topen g d f r).2.2 d f ((topen g d f r).2.1.1.getD (kbef (topen g d f r).2.1.2 key - 1) (0, 0, ()))).2.1 key).getD pnone, (tdata (topen g d f r).2.2 d f ((topen g d f r).2.1.1.getD (kbef (topen g d f r).2.1.2 key - 1) (0, 0, ()))).2.2)
theorem kbef_of {ks : List (List UInt8)} {key : List UInt8} {n : Nat} (hn : n ≤ ks.length) (h1 : ∀ i (h : i < ks.length), i < n → ¬ key < ks[i]) (h2 : ∀ i (h : i < ks.length), n ≤ i → key < ks[i]) : kbef ks key = n := by
  rcases n with _ | n
  · unfold kbef
    rw [List.countP_eq_zero]
    intro k hk
    obtain ⟨i, hi, rfl⟩ := List.mem_iff_getElem.1 hk
    simpa using h2 i hi (Nat.zero_le _)
  · exact countP_at (by omega) (fun i h hi => h1 i h (by omega)) (fun i h hi => h2 i h (by omega))
/-- A pair in memory of its own. -/
def PairO (w : World) (base : Nat) (kv vv : Value) (p : PairT) : Prop := ∃ sk sv : List UInt8, OwnB 5 w base kv p.1 sk ∧ OwnB 5 w base vv p.2.1 sv
theorem PairO.nil (w : World) (base : Nat) : PairO w base (.slice none 0 0) (.slice none 0 0) pnone := ⟨[], [], OwnsC.nil _ _ _ _, OwnsC.nil _ _ _ _⟩
theorem PairO.below {w w' : World} {base : Nat} {kv vv : Value} {p : PairT} (h : PairO w base kv vv p) (k : Below w.heap.size w w') : PairO w' base kv vv p := by
  obtain ⟨sk, sv, h1, h2⟩ := h
  exact ⟨sk, sv, OwnsC.ownBelow h1 k, OwnsC.ownBelow h2 k⟩
theorem PairO.near {w w' : World} {base : Nat} {kv vv : Value} {p : PairT} {X : List Nat} (h : PairO w base kv vv p) (k : Near X w w') (h2 : ∀ x cs, Blk w x 5 cs → x ∉ X) : PairO w' base kv vv p := by
  obtain ⟨sk, sv, h3, h4⟩ := h
  exact ⟨sk, sv, OwnsC.nearO h3 k (fun x hx => by obtain ⟨cs, hb⟩ := ownBlk h3 hx; exact h2 x cs hb), OwnsC.nearO h4 k (fun x hx => by obtain ⟨cs, hb⟩ := ownBlk h4 hx; exact h2 x cs hb)⟩
theorem PairO.base_ {w : World} {base b : Nat} {kv vv : Value} {p : PairT} (h : PairO w base kv vv p) (hb : b ≤ base) : PairO w b kv vv p := by
  obtain ⟨sk, sv, h1, h2⟩ := h
  exact ⟨sk, sv, OwnsC.base_ h1 hb, OwnsC.base_ h2 hb⟩
theorem PairO.at_ {w : World} {base : Nat} {kv vv : Value} {p : PairT} (h : PairO w base kv vv p) : ∃ A c B e, kv = .slice A p.1.length c ∧ vv = .slice B p.2.1.length e ∧ PairAt w p A c B e := by
  obtain ⟨sk, sv, h1, h2⟩ := h
  obtain ⟨A1, c1, rfl, k1, k2, k3⟩ := OwnB.open_ h1
  obtain ⟨A2, c2, rfl, k4, k5, k6⟩ := OwnB.open_ h2
  exact ⟨A1, c1, A2, c2, rfl, rfl, k1, k2, k4, k5, k3, k6⟩
/-- Own pairs, one by one. -/
theorem PairsU.row {w : World} {base : Nat} {v : Value} {l : List PairT} {rows sp : List Value} (h : PairsU w base v l rows sp) : ∃ A c, v = .slice A l.length c ∧ l.length ≤ c ∧ c ≤ 9223372036854775807 ∧ (0 < l.length → ∃ b off, A = some ⟨b, off, none⟩ ∧ ∀ i, (hi : i < l.length) → ∃ kv vv, w.rangeAt b (off + i * 3) [kv, vv, .bool l[i].2.2.1] ∧ PairO w base kv vv l[i]) := by
  obtain ⟨A, c, rfl, hc, hm, hr, -⟩ := OwnsC.reads h.own
  refine ⟨A, c, rfl, hc, hm, fun hp => ?_⟩
  obtain ⟨kv0, vv0, sk0, sv0, e0, -⟩ := h.each 0 l[0] (List.getElem?_eq_getElem hp)
  obtain ⟨b, off, rfl, hcell⟩ := hr (by intro e; rw [e] at e0; simp at e0)
  refine ⟨b, off, rfl, fun i hi => ?_⟩
  obtain ⟨kv, vv, sk, sv, e1, e2, e3, e4, e5⟩ := h.each i l[i] (List.getElem?_eq_getElem hi)
  exact ⟨kv, vv, range3 (hcell _ _ e1) (by rw [Nat.add_assoc]; exact hcell _ _ e2) (by rw [Nat.add_assoc]; exact hcell _ _ e3), sk, sv, e4, e5⟩
theorem pfind_at {l : List PairT} {key : List UInt8} {i : Nat} (hi : i < l.length) (h : ∀ p ∈ l.take i, p.1 ≠ key) (hk : l[i].1 = key) : pfind l key = some l[i] := by
  unfold pfind
  conv => lhs; rw [← List.take_append_drop i l]
  rw [List.find?_append, List.find?_eq_none.2 (fun p hp => by simpa using h p hp), List.drop_eq_getElem_cons hi, List.find?_cons, decide_eq_true hk]
  rfl
theorem topen_zero {g : Grd} {d : Dsk} {f : Option Fus} {r : RefT} (h : (topen g d f r).1 = 0) : (topen g d f r).2.2 = g ∧ (topen g d f r).2.1.1.length = (topen g d f r).2.1.2.length ∧ (topen g d f r).2.1.2.length ≤ 16 := by
  have hc := @glook_code g d f r
  cases ho : (glook g d f r).2.1 with
  | none => rw [topen_none ho] at h; exact absurd h (hc.1 ho)
  | some b =>
    have hb := (look_body ho).2
    have hg := (hc.2 (by rw [ho]; simp)).2
    cases hk : kparse b.2.2.2.1 with
    | none => rw [topen_bad ho hk] at h; cases h
    | some ks =>
      rw [topen_some ho hk] at h ⊢
      split at h
      · rename_i hx
        rw [if_pos hx]
        exact ⟨hg, hx.2.2, by show ks.length ≤ 16; rw [← hx.2.2]; exact hb⟩
      · cases h
theorem beq_any (A B : Option Addr) (n m c d : Nat) (l l' : List UInt8) (hn : n = l.length) (hm : m = l'.length) (w : World) (h : Bytes w A l) (h' : Bytes w B l') :
    Calls Tryd.prog 58 #[.slice A n c, .slice B m d] w fun e w' => e = .returned (.bool (decide (l = l'))) ∧ w' = w := by
  subst hn hm
  go_enter Tryd.func58, Tryd.ntmps58
  go_wp2_with (first
    | ((with_reducible show wpList _ _ _ ((⟨some 6, _, _, _, _, _⟩ : Oper) :: _) _ _); refine wpList_convert_str (o := ⟨some 6, _, _, _, _, _⟩) (by rfl) 22 9 5 _ (by rfl) Tryd.underlying22 Tryd.underlying5 Tryd.underlying9 (A) l.length c (l) (by rfl) (by first | rfl | simp) (h) ?_)
    | ((with_reducible show wpList _ _ _ ((⟨some 8, _, _, _, _, _⟩ : Oper) :: _) _ _); refine wpList_convert_str (o := ⟨some 8, _, _, _, _, _⟩) (by rfl) 22 9 5 _ (by rfl) Tryd.underlying22 Tryd.underlying5 Tryd.underlying9 (B) l'.length d (l') (by rfl) (by first | rfl | simp) (h') ?_)
    | fail)
  refine bodyPost_ret (results_tmp rfl _ _ _) rfl ⟨?_, rfl⟩
  simp [str_beq]
/-- Ahead of each pair: none of those ahead of it is the one. -/
def GtRel (w : World) (l : List PairT) (key : List UInt8) (v : Value) (wr : World) : Prop := ∃ i : Nat, i ≤ l.length ∧ v = .int .i64 (i : Int) ∧ (∀ p ∈ l.take i, p.1 ≠ key) ∧ Below w.heap.size w wr
theorem zeroPairrun (w : World) : (zeroValue 40).run Tryd.prog w = .ok (.agg #[.slice none 0 0, .slice none 0 0, .bool false]) w := by kernel_rfl
section
variable {w : World} {q : GPl} {g : Grd} {d : Dsk} {f : Option Fus}
set_option maxRecDepth 100000 in
set_option maxHeartbeats 8000000 in
theorem tget_any (h : GridR w q g d f) (hlen : g.W.length ≤ 1099511627776) (r : RefT) (n : Int) (F L : Option Addr) (nf cf nl cl : Nat) (B : Option Addr) (ce : Nat) (key : List UInt8) (hB : Bytes w B key)
    (hmono : ∀ a b : Nat, a ≤ b → b < (topen g d f r).2.1.2.length → key < (topen g d f r).2.1.2.getD a [] → key < (topen g d f r).2.1.2.getD b []) :
    Calls Tryd.prog 11 #[.pointer (some ⟨q.gg, 0, none⟩), .agg (runv r n F L nf cf nl cl), .slice B key.length ce] w fun e w' => ∃ (kv vv : Value), e = .returned (.tuple #[.agg #[kv, vv, .bool (tget g d f r key).2.1.2.2.1], .int .i64 (tget g d f r key).1]) ∧ PairO w' w.heap.size kv vv (tget g d f r key).2.1 ∧ GPost w q (tget g d f r key).2.2 d f w' := by
  have hz := zeroPairrun
  obtain ⟨T, hT⟩ : ∃ T, T = tget g d f r key := ⟨_, rfl⟩
  rw [← hT]
  have HTT := Lib.hid hT
  have hb1 := (((Below.refl w.heap.size w).alloc (Nat.le_refl _) (.cells (runv r n F L nf cf nl cl) 35)).alloc (by simp) (.cells #[.slice B key.length ce] 22)).alloc (by simp; omega) (.cells #[.slice none 0 0, .slice none 0 0, .bool false] 40)
  have hg4 := ((Blk.new w 35 (runv r n F L nf cf nl cl)).alloc (.cells #[.slice B key.length ce] 22)).alloc (.cells #[.slice none 0 0, .slice none 0 0, .bool false] 40)
  have hg5 := (Blk.new' (w.alloc (.cells (runv r n F L nf cf nl cl) 35)) 22 #[.slice B key.length ce] (n := w.heap.size + 1) (by simp)).alloc (.cells #[.slice none 0 0, .slice none 0 0, .bool false] 40)
  have hg6 := Blk.new' ((w.alloc (.cells (runv r n F L nf cf nl cl) 35)).alloc (.cells #[.slice B key.length ce] 22)) 40 #[.slice none 0 0, .slice none 0 0, .bool false] (n := w.heap.size + 2) (by simp)
  have hop := topen_any (h.below hb1) hlen r n F L nf cf nl cl
  have HG := Lib.hid h
  have H0 := Lib.hid (And.intro hb1 (And.intro hg5 (And.intro hg6 (And.intro (h.below hb1) (And.intro hlen (And.intro hmono (Bytes.below hB hb1)))))))
  clear h hb1 hg5 hg6 hT hlen hmono hB
  unfold runv at H0 hg4 hop ⊢
  go_enter Tryd.func11, Tryd.ntmps11
  go_wp2_with (first
    | ((with_reducible show wpList _ _ _ ((⟨some 16, _, _, _, _, _⟩ : Oper) :: _) _ _); refine wpList_load_blk (o := ⟨some 16, _, _, _, _, _⟩) (hg4) (by rfl) _ _ (by rfl) (by rfl) _ Tryd.underlying35 (by rfl) (sizeRun) (by rfl) ?_)
    | fail)
  refine hop.mono ?_
  rintro e w2 ⟨A, c, K, ck, rfl, hI, hL⟩
  obtain ⟨cd, hcd⟩ : ∃ cd, cd = (topen g d f r).1 := ⟨_, rfl⟩
  obtain ⟨ks, hks⟩ : ∃ ks, ks = (topen g d f r).2.1.2 := ⟨_, rfl⟩
  obtain ⟨rf, hrf⟩ : ∃ rf, rf = (topen g d f r).2.1.1 := ⟨_, rfl⟩
  have hxe : (topen g d f r).2.1 = (rf, ks) := by rw [hks, hrf]
  rw [hxe] at hI ⊢
  rw [← hcd] at hL ⊢
  have hg62 := hL.1.blk H0.out.2.2.2.1 H0.out.2.2.1 (by decide)
  have hg52 := hL.1.blk H0.out.2.2.2.1 H0.out.2.1 (by decide)
  have H2 := Lib.hid (And.intro hI (And.intro hL (And.intro hg62 (And.intro hg52 (And.intro hcd (And.intro hks hrf))))))
  have hP2 := Lib.hid (GPost.trans1 H0.out.1 hL.1)
  clear hop hg4 hI hL hg62 hg52 hcd hks hrf hxe
  unfold indc
  by_cases hc0 : cd = 0
  case neg =>
    have kc : (cd != 0) = true := bne_iff_ne.2 hc0
    have HF := Lib.hid (show T = (cd, pnone, (topen g d f r).2.2) by rw [HTT.out]; unfold tget; rw [← H2.out.2.2.2.2.1, if_pos hc0])
    have hb3 := (Below.refl w2.heap.size w2).alloc (Nat.le_refl _) (.cells #[.slice A rf.length c, .slice K ks.length ck] 128)
    have h93 := H2.out.2.2.1.below hb3 H2.out.2.2.1.lt
    have HB3 := Lib.hid hb3
    clear hc0 hb3
    go_wp2_with (first
      | ((with_reducible show wpList _ _ _ ((⟨none, _, _, _, _, _⟩ : Oper) :: _) _ _); refine wpList_store_blk (o := ⟨none, _, _, _, _, _⟩) (h93) (by rfl) _ _ _ (by rfl) (by rfl) (#[.slice none 0 0, .slice none 0 0, .bool false]) (by rfl) (sizePair) (by rfl) (by rfl) (by simp [Value.oneCell']) ?_; intro w9 h9 hu9)
      | fail)
    have hup := (hP2.out.below HB3.out).upd hu9 (by omega) (fun q' hq' => hq'.offT h93 (by decide))
    have HP := Lib.hid hup
    clear hup hu9
    refine bodyPost_ret (results_row_tmp (by rfl) _ _ (w.heap.size + 2) _ _ _ (by rfl) h9 Tryd.underlying40 (by rfl) sizePair) rfl ?_
    refine ⟨.slice none 0 0, .slice none 0 0, by rw [HF.out]; rfl, by rw [HF.out]; exact PairO.nil _ _, by rw [HF.out]; exact HP.out⟩
  subst hc0
  have hz0 := topen_zero (H2.out.2.2.2.2.1).symm
  rw [← H2.out.2.2.2.2.2.1, ← H2.out.2.2.2.2.2.2] at hz0
  have hb3 := (Below.refl w2.heap.size w2).alloc (Nat.le_refl _) (.cells #[.slice A rf.length c, .slice K ks.length ck] 128)
  have hx3 := Blk.new w2 128 #[.slice A rf.length c, .slice K ks.length ck]
  have dx0 := hx3.at_ 0 (v := .slice A rf.length c) rfl
  have dx1 := hx3.at_ 1 (v := .slice K ks.length ck) rfl
  have hk3 := H2.out.2.2.2.1.below hb3 H2.out.2.2.2.1.lt
  have hbw := H0.out.1.trans ((H2.out.2.1.2 rfl).mono H0.out.1.size)
  have hB3 := Bytes.below (Bytes.below H0.out.2.2.2.2.2.2 (H2.out.2.1.2 rfl)) hb3
  have hse := search_any ks.length (by omega) (fun i => decide (key < ks.getD i [])) (fun a b hab hb he => by
    have hm := H0.out.2.2.2.2.2.1
    rw [← H2.out.2.2.2.2.2.1] at hm
    exact decide_eq_true (hm a b hab hb (of_decide_eq_true he))) w2.heap.size (w.heap.size + 1) (w2.alloc (.cells #[.slice A rf.length c, .slice K ks.length ck] 128))
    (fun i w' hi hb' => by
      have hga := getf_any w2.heap.size (w.heap.size + 1) A K B rf.length c ck ce ks key i hi w' (hx3.below hb' hx3.lt) (hk3.below hb' hk3.lt) ((H2.out.1.keys.below hb3).below hb') (Bytes.below hB3 hb')
      show Calls _ _ _ _ fun e w'' => e = .returned (.bool (decide (key < ks.getD i []))) ∧ _
      rw [List.getD_eq_getElem?_getD, List.getElem?_eq_getElem hi, Option.getD_some]
      exact hga)
  have H3 := Lib.hid (And.intro hz0 (And.intro hb3 (And.intro hx3 (And.intro hk3 (And.intro hbw hB3)))))
  clear hz0 hb3 hx3 hk3 hbw hB3
  go_wp2_with fail
  refine hse.mono ?_
  rintro e w3 ⟨k, rfl, hkn, hk1, hk2, hb4⟩
  have hkk : kbef ks key = k := kbef_of hkn (fun i h hi => by
    have := of_decide_eq_false (hk1 i hi)
    rwa [List.getD_eq_getElem?_getD, List.getElem?_eq_getElem h, Option.getD_some] at this) (fun i h hi => by
    have := of_decide_eq_true (hk2 i hi h)
    rwa [List.getD_eq_getElem?_getD, List.getElem?_eq_getElem h, Option.getD_some] at this)
  have dx2 := (hb4.cell (World.block_lt_of_cell? _ _ dx0)).trans dx0
  have hg63 := (H2.out.2.2.1.below H3.out.2.1 H2.out.2.2.1.lt).below hb4 (H2.out.2.2.1.below H3.out.2.1 H2.out.2.2.1.lt).lt
  have hg53 := H3.out.2.2.2.1.below hb4 H3.out.2.2.2.1.lt
  have hbw3 := H3.out.2.2.2.2.1.trans ((H3.out.2.1.mono H3.out.2.2.2.2.1.size).trans (hb4.mono (Nat.le_trans H3.out.2.2.2.2.1.size H3.out.2.1.size)))
  have H4 := Lib.hid (And.intro hkk (And.intro hb4 (And.intro hg63 (And.intro hg53 hbw3))))
  clear hse hk1 hk2 hb4 hkk dx0 dx1 hg53 hbw3
  cases k with
  | zero =>
    have HF := Lib.hid (show T = (6, pnone, g) by rw [HTT.out]; unfold tget; rw [← H2.out.2.2.2.2.1, if_neg (by simp), ← H2.out.2.2.2.2.2.1, H4.out.1, if_pos rfl, H3.out.1.1])
    clear hkn dx2
    go_wp2_with (first
      | ((with_reducible show wpList _ _ _ ((⟨none, _, _, _, _, _⟩ : Oper) :: _) _ _); refine wpList_store_blk (o := ⟨none, _, _, _, _, _⟩) (hg63) (by rfl) _ _ _ (by rfl) (by rfl) (#[.slice none 0 0, .slice none 0 0, .bool false]) (by rfl) (sizePair) (by rfl) (by rfl) (by simp [Value.oneCell']) ?_; intro w9 h9 hu9)
      | fail)
    have hup := (GPost.same HG.out H4.out.2.2.2.2).upd hu9 (by omega) (fun q' hq' => hq'.offT hg63 (by decide))
    have HP := Lib.hid hup
    clear hup hu9
    refine bodyPost_ret (results_row_tmp (by rfl) _ _ (w.heap.size + 2) _ _ _ (by rfl) h9 Tryd.underlying40 (by rfl) sizePair) rfl ?_
    refine ⟨.slice none 0 0, .slice none 0 0, by rw [HF.out]; rfl, by rw [HF.out]; exact PairO.nil _ _, by rw [HF.out]; exact HP.out⟩
  | succ j =>
    have hrfs := H3.out.1.2.2
    have p1 : (((j + 1 : Nat) : Int) == 0) = false := beq_eq_false_iff_ne.2 (by omega)
    have p2 : wrap64 (((j + 1 : Nat) : Int) - 1) = ((j : Nat) : Int) := by rw [w64_in (by omega)]; omega
    have hjl : j < rf.length := by rw [H3.out.1.2.1]; omega
    have hrfs := H3.out.1.2.2
    obtain ⟨b, off, hAe, -, hrc⟩ := (((H2.out.1.refs.below H3.out.2.1).below H4.out.2.1) (by show 0 < rf.length; omega))
    have hr2 := range2 (hrc j hjl).1 (hrc j hjl).2
    obtain ⟨rr, hrr⟩ : ∃ rr, rr = rf[j] := ⟨_, rfl⟩
    have hrr2 : Hid (rr = rf.getD j (0, 0, ())) := Lib.hid (by rw [hrr, List.getD_eq_getElem?_getD, List.getElem?_eq_getElem hjl]; rfl)
    rw [← hrr] at hr2
    subst hAe
    have htd := tdata_any (HG.out.below H4.out.2.2.2.2) H0.out.2.2.2.2.1 rr
    clear hrc hrr
    go_wp2_with (first
      | ((with_reducible show wpList _ _ _ ((⟨some 39, _, _, _, _, _⟩ : Oper) :: _) _ _); refine wpList_load_mid (o := ⟨some 39, _, _, _, _, _⟩) hr2 (by rfl) _ _ (by rfl) (by rfl) _ Tryd.underlying33 (by rfl) size_ref (by rfl) ?_)
      | fail)
    refine htd.mono ?_
    rintro e w4 ⟨v, rows, sp, rfl, hU, hL4⟩
    have hTd : (tdata g d f rr) = tdata (topen g d f r).2.2 d f ((topen g d f r).2.1.1.getD (kbef (topen g d f r).2.1.2 key - 1) (0, 0, ())) := by
      rw [H3.out.1.1, ← H2.out.2.2.2.2.2.1, ← H2.out.2.2.2.2.2.2, H4.out.1, Nat.add_sub_cancel, hrr2.out]
    have hTT2 : T = if (tdata g d f rr).1 ≠ 0 then ((tdata g d f rr).1, pnone, (tdata g d f rr).2.2) else ((match pfind (tdata g d f rr).2.1 key with | none => 6 | some _ => 0), (pfind (tdata g d f rr).2.1 key).getD pnone, (tdata g d f rr).2.2) := by
      rw [HTT.out, hTd]
      unfold tget
      rw [← H2.out.2.2.2.2.1, if_neg (by simp), ← H2.out.2.2.2.2.2.1, H4.out.1, if_neg (by omega)]
    obtain ⟨c4, hc4⟩ : ∃ c4, c4 = (tdata g d f rr).1 := ⟨_, rfl⟩
    obtain ⟨l, hl⟩ : ∃ l, l = (tdata g d f rr).2.1 := ⟨_, rfl⟩
    obtain ⟨g4, hg4⟩ : ∃ g4, g4 = (tdata g d f rr).2.2 := ⟨_, rfl⟩
    rw [← hc4, ← hl, ← hg4] at hTT2
    rw [← hl] at hU
    rw [← hc4, ← hg4] at hL4
    rw [← hc4]
    have hg64 := hL4.1.blk (HG.out.below H4.out.2.2.2.2) hg63 (by decide)
    have hg54 := hL4.1.blk (HG.out.below H4.out.2.2.2.2) H4.out.2.2.2.1 (by decide)
    have hP4 := Lib.hid (GPost.trans1 H4.out.2.2.2.2 hL4.1)
    have hU4 := Lib.hid (And.intro hU (And.intro hTT2 hg54))
    clear htd hTd hTT2 hc4 hl hg4 hr2 hU hg54 p1 p2 hjl hrfs hkn dx2 hg63 hrr2
    by_cases hc4 : c4 = 0
    case neg =>
      have kc : (c4 != 0) = true := bne_iff_ne.2 hc4
      have HF := Lib.hid (hU4.out.2.1.trans (if_pos hc4))
      clear hc4 hL4
      go_wp2_with (first
        | ((with_reducible show wpList _ _ _ ((⟨none, _, _, _, _, _⟩ : Oper) :: _) _ _); refine wpList_store_blk (o := ⟨none, _, _, _, _, _⟩) (hg64) (by rfl) _ _ _ (by rfl) (by rfl) (#[.slice none 0 0, .slice none 0 0, .bool false]) (by rfl) (sizePair) (by rfl) (by rfl) (by simp [Value.oneCell']) ?_; intro w9 h9 hu9)
        | fail)
      have hup := hP4.out.upd hu9 (by omega) (fun q' hq' => hq'.offT hg64 (by decide))
      have HP := Lib.hid hup
      clear hup hu9
      refine bodyPost_ret (results_row_tmp (by rfl) _ _ (w.heap.size + 2) _ _ _ (by rfl) h9 Tryd.underlying40 (by rfl) sizePair) rfl ?_
      refine ⟨.slice none 0 0, .slice none 0 0, by rw [HF.out]; rfl, by rw [HF.out]; exact PairO.nil _ _, by rw [HF.out]; exact HP.out⟩
    subst hc4
    have HT4 := Lib.hid (hU4.out.2.1.trans (if_neg (by simp)))
    have hbw4 := H4.out.2.2.2.2.trans ((hL4.2 rfl).mono H4.out.2.2.2.2.size)
    obtain ⟨A5, c5, rfl, hc5, hm5, hrow⟩ := hU4.out.1.row
    have H5 := Lib.hid (And.intro hbw4 (And.intro hrow (And.intro hU4.out.2.2 (Bytes.below (Bytes.below H3.out.2.2.2.2.2 H4.out.2.1) (hL4.2 rfl)))))
    have hsz4 : w.heap.size + 3 ≤ w4.heap.size := by
      have := H0.out.2.2.1.lt
      have := hg64.lt
      omega
    clear hbw4 hrow hL4
    go_wp2_with fail
    go_loopw [49] (fun v wr => GtRel w4 l key v wr) (fun v _ => l.length - (intOf v).toNat)
    case atStart => exact ⟨0, Nat.zero_le _, rfl, by simp, Below.refl _ _⟩
    case round =>
      obtain ⟨i, hi, rfl, hno, hB⟩ := hrel
      have hg6r := hg64.below hB hg64.lt
      by_cases hlt : i < l.length
      case neg =>
        have hpf : pfind l key = none := pfind_none (fun p hp => hno p (by rw [List.take_of_length_le (by omega)]; exact hp))
        have HF := Lib.hid (show T = (6, pnone, g4) by rw [HT4.out, hpf]; rfl)
        have HB := Lib.hid (And.intro hno hB)
        clear hno hB hpf
        go_wp2_with (first
          | ((with_reducible show wpList _ _ _ ((⟨none, _, _, _, _, _⟩ : Oper) :: _) _ _); refine wpList_store_blk (o := ⟨none, _, _, _, _, _⟩) (hg6r) (by rfl) _ _ _ (by rfl) (by rfl) (#[.slice none 0 0, .slice none 0 0, .bool false]) (by rfl) (sizePair) (by rfl) (by rfl) (by simp [Value.oneCell']) ?_; intro w9 h9 hu9)
          | fail)
        have hup := (hP4.out.below HB.out.2).upd hu9 (by omega) (fun q' hq' => hq'.offT hg6r (by decide))
        have HP := Lib.hid hup
        clear hup hu9
        refine bodyPost_ret (results_row_tmp (by rfl) _ _ (w.heap.size + 2) _ _ _ (by rfl) h9 Tryd.underlying40 (by rfl) sizePair) rfl ?_
        refine ⟨.slice none 0 0, .slice none 0 0, by rw [HF.out]; rfl, by rw [HF.out]; exact PairO.nil _ _, by rw [HF.out]; exact HP.out⟩
      obtain ⟨b5, off5, rfl, hr5⟩ := H5.out.2.1 (by omega)
      obtain ⟨kv, vv, hcs, hPO⟩ := hr5 i hlt
      obtain ⟨pp, hpp⟩ : ∃ pp, pp = l[i] := ⟨_, rfl⟩
      rw [← hpp] at hcs hPO
      obtain ⟨A6, c6, B6, e6, rfl, rfl, hAt⟩ := hPO.at_
      have hcs2 := rangeAt_below hcs hB
      have HX := Lib.hid (And.intro hpp (And.intro hno (And.intro hB (And.intro hPO (And.intro (hAt.below hB) hg6r)))))
      have hg5r := H5.out.2.2.1.below hB H5.out.2.2.1.lt
      have hb6 := (Below.refl wr.heap.size wr).alloc (Nat.le_refl _) (.cells #[.slice A6 pp.1.length c6, .slice B6 pp.2.1.length e6, .bool pp.2.2.1] 40)
      have hbx6 := Blk.new wr 40 #[.slice A6 pp.1.length c6, .slice B6 pp.2.1.length e6, .bool pp.2.2.1]
      have dk5 := (hg5r.below hb6 hg5r.lt).at_ 0 (v := .slice B key.length ce) rfl
      have dk6 := hbx6.at_ 0 (v := .slice A6 pp.1.length c6) rfl
      have heq := beq_any A6 B pp.1.length key.length c6 ce pp.1 key rfl rfl (wr.alloc (.cells #[.slice A6 pp.1.length c6, .slice B6 pp.2.1.length e6, .bool pp.2.2.1] 40)) (Reads.below (hAt.below hB).k hb6) (Bytes.below (Bytes.below H5.out.2.2.2 hB) hb6)
      have hBr := Lib.hid (hB.trans (hb6.mono hB.size))
      clear hpp hno hB hPO hAt hg6r hr5 hcs hg5r hb6
      go_wp2_with (first
        | ((with_reducible show wpList _ _ _ ((⟨some 52, _, _, _, _, _⟩ : Oper) :: _) _ _); refine wpList_load_mid (o := ⟨some 52, _, _, _, _, _⟩) hcs2 (by rfl) _ _ (by rfl) (by rfl) _ Tryd.underlying40 (by rfl) sizePair (by rfl) ?_)
        | fail)
      refine heq.mono ?_
      rintro e w6 ⟨rfl, rfl⟩
      by_cases hke : pp.1 = key
      · rw [decide_eq_true hke]
        have hpf : pfind l key = some pp := by rw [HX.out.1]; exact pfind_at hlt HX.out.2.1 (by rw [← HX.out.1]; exact hke)
        have HF := Lib.hid (show T = (0, pp, g4) by rw [HT4.out, hpf]; rfl)
        have hg7 := HX.out.2.2.2.2.2.below ((Below.refl wr.heap.size wr).alloc (Nat.le_refl _) (.cells #[.slice A6 pp.1.length c6, .slice B6 pp.2.1.length e6, .bool pp.2.2.1] 40)) HX.out.2.2.2.2.2.lt
        clear hke hpf heq dk5 dk6 hcs2
        go_wp2_with (first
          | ((with_reducible show wpList _ _ _ ((⟨some 57, _, _, _, _, _⟩ : Oper) :: _) _ _); refine wpList_load_blk (o := ⟨some 57, _, _, _, _, _⟩) (hbx6) (by rfl) _ _ (by rfl) (by rfl) _ Tryd.underlying40 (by rfl) (sizePair) (by rfl) ?_)
          | ((with_reducible show wpList _ _ _ ((⟨none, _, _, _, _, _⟩ : Oper) :: _) _ _); refine wpList_store_blk (o := ⟨none, _, _, _, _, _⟩) (hg7) (by rfl) _ _ _ (by rfl) (by rfl) (#[.slice A6 pp.1.length c6, .slice B6 pp.2.1.length e6, .bool pp.2.2.1]) (by rfl) (sizePair) (by rfl) (by rfl) (by simp [Value.oneCell']) ?_; intro w9 h9 hu9)
          | fail)
        have hup := (hP4.out.below hBr.out).upd hu9 (by omega) (fun q' hq' => hq'.offT hg7 (by decide))
        have HP := Lib.hid hup
        have hPO9 := (HX.out.2.2.2.1.below hBr.out).near (X := [w.heap.size + 2]) (Near.upd hu9 (by simp)) (fun x cs hb hm => by rw [List.mem_singleton.1 hm] at hb; exact hb.apart hg7 (by decide) rfl)
        have HPO := Lib.hid (hPO9.base_ H4.out.2.2.2.2.size)
        clear hup hu9 hPO9
        refine bodyPost_ret (results_row_tmp (by rfl) _ _ (w.heap.size + 2) _ _ _ (by rfl) h9 Tryd.underlying40 (by rfl) sizePair) rfl ?_
        refine ⟨.slice A6 pp.1.length c6, .slice B6 pp.2.1.length e6, by rw [HF.out]; rfl, by rw [HF.out]; exact HPO.out, by rw [HF.out]; exact HP.out⟩
      · rw [decide_eq_false hke]
        have HF := Lib.hid (show GtRel w4 l key (.int .i64 ((i + 1 : Nat) : Int)) (wr.alloc (.cells #[.slice A6 pp.1.length c6, .slice B6 pp.2.1.length e6, .bool pp.2.2.1] 40)) from ⟨i + 1, by omega, rfl, fun p hp => by
          rw [List.take_succ_eq_append_getElem hlt, List.mem_append] at hp
          rcases hp with hp | hp
          · exact HX.out.2.1 p hp
          · rw [List.mem_singleton.1 hp, ← HX.out.1]; exact hke, hBr.out⟩)
        clear hke heq dk5 dk6 hcs2 hbx6
        go_wp2
        go_roundw
        case rel => exact HF.out
        case measure => simp [intOf]; omega
end
end Go.Proofs.YtgkljncigbiffaaDoor

/- What the table's functions answer on a grid that is nil, or that nobody made. No condition. -/
namespace Go.Proofs.YtgkljncigbiffaaDoor
open Go.RowKit
theorem results_cells2 {P : Program} {fn : Func} {p q : Tmp} {ty ty2 : TypeId} (h : fn.results = #[.cell p ty, .cell q ty2]) (tmps : Array Value) (w : World) (g g2 : Nat) (v v2 : Value) (d d2 : TypeDesc)
    (hp : tmps.getD p undef = .pointer (some ⟨g, 0, none⟩)) (hc : w.cell? ⟨g, 0, none⟩ = some v) (hu : P.underlying ty = some d) (hd : d.isRow = false)
    (hp2 : tmps.getD q undef = .pointer (some ⟨g2, 0, none⟩)) (hc2 : w.cell? ⟨g2, 0, none⟩ = some v2) (hu2 : P.underlying ty2 = some d2) (hd2 : d2.isRow = false) :
    (results fn tmps).run P w = .ok (.tuple #[v, v2]) w := by
  have hp' : tmps[p]?.getD undef = .pointer (some ⟨g, 0, none⟩) := by simpa using hp
  have hp2' : tmps[q]?.getD undef = .pointer (some ⟨g2, 0, none⟩) := by simpa using hp2
  have hl : (loadVar ty ⟨g, 0, none⟩).run P w = .ok v w := by
    simp only [loadVar, Sem.run_bind, run_isAgg_cell hu hd w, Result.andThen_ok, Bool.false_eq_true, if_false]
    simp [hc]
  have hl2 : (loadVar ty2 ⟨g2, 0, none⟩).run P w = .ok v2 w := by
    simp only [loadVar, Sem.run_bind, run_isAgg_cell hu2 hd2 w, Result.andThen_ok, Bool.false_eq_true, if_false]
    simp [hc2]
  simp [results, h, hp', hp2', asAddr, hl, hl2]
theorem zeroRunrun (w : World) : (zeroValue 35).run Tryd.prog w = .ok (.agg #[.int .i64 0, .int .i64 0, .int .i64 0, .slice none 0 0, .slice none 0 0]) w := by kernel_rfl
section
variable (G : Option Addr) (w : World) (h : NoGrid G w)
include h
theorem tnone_no : Calls Tryd.prog 49 #[.pointer G] w fun e w' => e = .returned (.bool true) ∧ w' = w := by
  have hc := gcounts_no G w h
  clear h
  go_enter Tryd.func49, Tryd.ntmps49
  go_wp2_with fail
  refine hc.mono ?_
  rintro e w1 ⟨rfl, hw⟩
  obtain rfl := hw.symm
  clear hc hw
  go_wp2_with fail
  go_ret
  exact ⟨rfl, rfl⟩
set_option maxRecDepth 100000 in
theorem topen_no (r : RefT) (n : Int) (F L : Option Addr) (nf cf nl cl : Nat) : Calls Tryd.prog 53 #[.pointer G, .agg (runv r n F L nf cf nl cl)] w fun e w' => e = .returned (.tuple #[.agg #[.slice none 0 0, .slice none 0 0], .int .i64 1]) ∧ Below w.heap.size w w' := by
  have hzi := zeroIxrun
  have hB := ((Below.refl w.heap.size w).alloc (Nat.le_refl _) (.cells (runv r n F L nf cf nl cl) 35)).alloc (by simp) (.cells #[.slice none 0 0, .slice none 0 0] 128)
  have hg4 := Blk.new' (w.alloc (.cells (runv r n F L nf cf nl cl) 35)) 128 #[.slice none 0 0, .slice none 0 0] (n := w.heap.size + 1) (by simp)
  have hn := tnone_no G _ (h.below hB)
  have H0 := Lib.hid hB
  clear h hB
  unfold runv at H0 hg4 hn ⊢
  go_enter Tryd.func53, Tryd.ntmps53
  go_wp2_with fail
  refine hn.mono ?_
  rintro e w2 ⟨rfl, hw⟩
  obtain rfl := hw.symm
  clear hn hw
  go_wp2_with fail
  refine bodyPost_ret (results_row_tmp (by rfl) _ _ (w.heap.size + 1) _ _ _ (by rfl) hg4 Tryd.underlying128 (by rfl) sizeIx) rfl ?_
  exact ⟨rfl, H0.out⟩
set_option maxRecDepth 100000 in
theorem tget_no (r : RefT) (n : Int) (F L : Option Addr) (nf cf nl cl : Nat) (B : Option Addr) (m ce : Nat) : Calls Tryd.prog 11 #[.pointer G, .agg (runv r n F L nf cf nl cl), .slice B m ce] w fun e w' => e = .returned (.tuple #[.agg #[.slice none 0 0, .slice none 0 0, .bool false], .int .i64 1]) ∧ Below w.heap.size w w' := by
  have hz := zeroPairrun
  have hb1 := (((Below.refl w.heap.size w).alloc (Nat.le_refl _) (.cells (runv r n F L nf cf nl cl) 35)).alloc (by simp) (.cells #[.slice B m ce] 22)).alloc (by simp; omega) (.cells #[.slice none 0 0, .slice none 0 0, .bool false] 40)
  have hg4 := ((Blk.new w 35 (runv r n F L nf cf nl cl)).alloc (.cells #[.slice B m ce] 22)).alloc (.cells #[.slice none 0 0, .slice none 0 0, .bool false] 40)
  have hg6 := Blk.new' ((w.alloc (.cells (runv r n F L nf cf nl cl) 35)).alloc (.cells #[.slice B m ce] 22)) 40 #[.slice none 0 0, .slice none 0 0, .bool false] (n := w.heap.size + 2) (by simp)
  have hop := topen_no G _ (h.below hb1) r n F L nf cf nl cl
  have H0 := Lib.hid (And.intro hb1 hg6)
  clear h hb1 hg6
  unfold runv at H0 hg4 hop ⊢
  go_enter Tryd.func11, Tryd.ntmps11
  go_wp2_with (first
    | ((with_reducible show wpList _ _ _ ((⟨some 16, _, _, _, _, _⟩ : Oper) :: _) _ _); refine wpList_load_blk (o := ⟨some 16, _, _, _, _, _⟩) (hg4) (by rfl) _ _ (by rfl) (by rfl) _ Tryd.underlying35 (by rfl) (sizeRun) (by rfl) ?_)
    | fail)
  refine hop.mono ?_
  rintro e w2 ⟨rfl, hbx⟩
  have hg62 := H0.out.2.below hbx H0.out.2.lt
  have hb2 := H0.out.1.trans (hbx.mono H0.out.1.size)
  have hb3 := (hb2.alloc hb2.size (.cells #[.slice none 0 0, .slice none 0 0] 128))
  have h93 := hg62.alloc (.cells #[.slice none 0 0, .slice none 0 0] 128)
  have HB3 := Lib.hid hb3
  clear hop hg4 hbx hg62 hb2 hb3
  go_wp2_with (first
    | ((with_reducible show wpList _ _ _ ((⟨none, _, _, _, _, _⟩ : Oper) :: _) _ _); refine wpList_store_blk (o := ⟨none, _, _, _, _, _⟩) (h93) (by rfl) _ _ _ (by rfl) (by rfl) (#[.slice none 0 0, .slice none 0 0, .bool false]) (by rfl) (sizePair) (by rfl) (by rfl) (by simp [Value.oneCell']) ?_; intro w9 h9 hu9)
    | fail)
  refine bodyPost_ret (results_row_tmp (by rfl) _ _ (w.heap.size + 2) _ _ _ (by rfl) h9 Tryd.underlying40 (by rfl) sizePair) rfl ?_
  exact ⟨rfl, HB3.out.upd hu9 (by omega)⟩
-- printed by gen/tbr.py
set_option maxRecDepth 100000 in
theorem tall_no (r : RefT) (n : Int) (F L : Option Addr) (nf cf nl cl : Nat) : Calls Tryd.prog 12 #[.pointer G, .agg (runv r n F L nf cf nl cl)] w fun e w' => e = .returned (.tuple #[.slice none 0 0, .int .i64 1]) ∧ Below w.heap.size w w' := by
  have hb1 := ((((Below.refl w.heap.size w).alloc (by simp) (.cells (runv r n F L nf cf nl cl) 35)).alloc (by simp) (.cells #[.slice none 0 0] 41)).alloc (by simp; omega) (.cells #[.int .i64 0] 36))
  have hg4 := (((Blk.new w 35 (runv r n F L nf cf nl cl)).alloc (.cells #[.slice none 0 0] 41)).alloc (.cells #[.int .i64 0] 36))
  have hp := ((Blk.new' (w.alloc (.cells (runv r n F L nf cf nl cl) 35)) 41 #[.slice none 0 0] (n := w.heap.size + 1) (by simp)).alloc (.cells #[.int .i64 0] 36))
  have he := (Blk.new' ((w.alloc (.cells (runv r n F L nf cf nl cl) 35)).alloc (.cells #[.slice none 0 0] 41)) 36 #[.int .i64 0] (n := w.heap.size + 2) (by simp))
  have hop := topen_no G _ (h.below hb1) r n F L nf cf nl cl
  have H0 := Lib.hid (And.intro hb1 (And.intro hp he))
  clear h hb1 hp he
  unfold runv at H0 hg4 hop ⊢
  go_enter Tryd.func12, Tryd.ntmps12
  go_wp2_with (first
    | ((with_reducible show wpList _ _ _ ((⟨some 13, _, _, _, _, _⟩ : Oper) :: _) _ _); refine wpList_load_blk (o := ⟨some 13, _, _, _, _, _⟩) (hg4) (by rfl) _ _ (by rfl) (by rfl) _ Tryd.underlying35 (by rfl) (sizeRun) (by rfl) ?_)
    | fail)
  refine hop.mono ?_
  rintro e w2 ⟨rfl, hbx⟩
  have hb2 := H0.out.1.trans (hbx.mono H0.out.1.size)
  have hp3 := (H0.out.2.1.below hbx H0.out.2.1.lt).alloc (.cells #[.slice none 0 0, .slice none 0 0] 128)
  have he3 := (H0.out.2.2.below hbx H0.out.2.2.lt).alloc (.cells #[.slice none 0 0, .slice none 0 0] 128)
  have hb3 := (hb2.alloc hb2.size (.cells #[.slice none 0 0, .slice none 0 0] 128))
  have HB3 := Lib.hid (And.intro hb3 (And.intro hp3 he3))
  have d1 := hp3.at_ 0 (v := .slice none 0 0) rfl
  have d2 := he3.at_ 0 (v := .int .i64 0) rfl
  have f1 := hp3.frozen 0
  have f2 := he3.frozen 0
  clear hop hg4 hbx hb2 hb3 hp3 he3
  go_wp2_with fail
  refine bodyPost_ret (results_cells2 (by rfl) _ _ (w.heap.size + 1) (w.heap.size + 2) (.slice none 0 0) (.int .i64 1) _ _ (by rfl) (((HB3.out.2.1.set_ 0 _).off (by omega) _).at_ 0 rfl) Tryd.underlying41 rfl (by rfl) (((HB3.out.2.2.off (by omega) _).set_ 0 _).at_ 0 rfl) Tryd.underlying36 rfl) rfl ?_
  exact ⟨rfl, (HB3.out.1.setCell (by simp; try omega) _).setCell (by simp; try omega) _⟩
set_option maxRecDepth 100000 in
theorem tbetween_no (r : RefT) (n : Int) (F L : Option Addr) (nf cf nl cl : Nat) (B C : Option Addr) (m c m2 c2 : Nat) : Calls Tryd.prog 13 #[.pointer G, .agg (runv r n F L nf cf nl cl), .slice B m c, .slice C m2 c2] w fun e w' => e = .returned (.tuple #[.slice none 0 0, .int .i64 1]) ∧ Below w.heap.size w w' := by
  have hb1 := ((((((Below.refl w.heap.size w).alloc (by simp) (.cells (runv r n F L nf cf nl cl) 35)).alloc (by simp) (.cells #[.slice B m c] 22)).alloc (by simp; omega) (.cells #[.slice C m2 c2] 22)).alloc (by simp; omega) (.cells #[.slice none 0 0] 41)).alloc (by simp; omega) (.cells #[.int .i64 0] 36))
  have hg4 := (((((Blk.new w 35 (runv r n F L nf cf nl cl)).alloc (.cells #[.slice B m c] 22)).alloc (.cells #[.slice C m2 c2] 22)).alloc (.cells #[.slice none 0 0] 41)).alloc (.cells #[.int .i64 0] 36))
  have hp := ((Blk.new' (((w.alloc (.cells (runv r n F L nf cf nl cl) 35)).alloc (.cells #[.slice B m c] 22)).alloc (.cells #[.slice C m2 c2] 22)) 41 #[.slice none 0 0] (n := w.heap.size + 3) (by simp)).alloc (.cells #[.int .i64 0] 36))
  have he := (Blk.new' ((((w.alloc (.cells (runv r n F L nf cf nl cl) 35)).alloc (.cells #[.slice B m c] 22)).alloc (.cells #[.slice C m2 c2] 22)).alloc (.cells #[.slice none 0 0] 41)) 36 #[.int .i64 0] (n := w.heap.size + 4) (by simp))
  have hop := topen_no G _ (h.below hb1) r n F L nf cf nl cl
  have H0 := Lib.hid (And.intro hb1 (And.intro hp he))
  clear h hb1 hp he
  unfold runv at H0 hg4 hop ⊢
  go_enter Tryd.func13, Tryd.ntmps13
  go_wp2_with (first
    | ((with_reducible show wpList _ _ _ ((⟨some 19, _, _, _, _, _⟩ : Oper) :: _) _ _); refine wpList_load_blk (o := ⟨some 19, _, _, _, _, _⟩) (hg4) (by rfl) _ _ (by rfl) (by rfl) _ Tryd.underlying35 (by rfl) (sizeRun) (by rfl) ?_)
    | fail)
  refine hop.mono ?_
  rintro e w2 ⟨rfl, hbx⟩
  have hb2 := H0.out.1.trans (hbx.mono H0.out.1.size)
  have hp3 := (H0.out.2.1.below hbx H0.out.2.1.lt).alloc (.cells #[.slice none 0 0, .slice none 0 0] 128)
  have he3 := (H0.out.2.2.below hbx H0.out.2.2.lt).alloc (.cells #[.slice none 0 0, .slice none 0 0] 128)
  have hb3 := (hb2.alloc hb2.size (.cells #[.slice none 0 0, .slice none 0 0] 128))
  have HB3 := Lib.hid (And.intro hb3 (And.intro hp3 he3))
  have d1 := hp3.at_ 0 (v := .slice none 0 0) rfl
  have d2 := he3.at_ 0 (v := .int .i64 0) rfl
  have f1 := hp3.frozen 0
  have f2 := he3.frozen 0
  clear hop hg4 hbx hb2 hb3 hp3 he3
  go_wp2_with fail
  refine bodyPost_ret (results_cells2 (by rfl) _ _ (w.heap.size + 3) (w.heap.size + 4) (.slice none 0 0) (.int .i64 1) _ _ (by rfl) (((HB3.out.2.1.set_ 0 _).off (by omega) _).at_ 0 rfl) Tryd.underlying41 rfl (by rfl) (((HB3.out.2.2.off (by omega) _).set_ 0 _).at_ 0 rfl) Tryd.underlying36 rfl) rfl ?_
  exact ⟨rfl, (HB3.out.1.setCell (by simp; try omega) _).setCell (by simp; try omega) _⟩
-- end of what is printed
set_option maxRecDepth 100000 in
theorem tblocks_no (r : RefT) (n : Int) (F L : Option Addr) (nf cf nl cl : Nat) : Calls Tryd.prog 14 #[.pointer G, .agg (runv r n F L nf cf nl cl)] w fun e w' => e = .returned (.tuple #[.slice none 0 0, .int .i64 1]) ∧ Below w.heap.size w w' := by
  have hb1 := (Below.refl w.heap.size w).alloc (Nat.le_refl _) (.cells (runv r n F L nf cf nl cl) 35)
  have hg4 := Blk.new w 35 (runv r n F L nf cf nl cl)
  have hop := topen_no G _ (h.below hb1) r n F L nf cf nl cl
  have H0 := Lib.hid hb1
  clear h hb1
  unfold runv at H0 hg4 hop ⊢
  go_enter Tryd.func14, Tryd.ntmps14
  go_wp2_with (first
    | ((with_reducible show wpList _ _ _ ((⟨some 10, _, _, _, _, _⟩ : Oper) :: _) _ _); refine wpList_load_blk (o := ⟨some 10, _, _, _, _, _⟩) (hg4) (by rfl) _ _ (by rfl) (by rfl) _ Tryd.underlying35 (by rfl) (sizeRun) (by rfl) ?_)
    | fail)
  refine hop.mono ?_
  rintro e w2 ⟨rfl, hbx⟩
  have hb2 := H0.out.trans (hbx.mono H0.out.size)
  have HB3 := Lib.hid (hb2.alloc hb2.size (.cells #[.slice none 0 0, .slice none 0 0] 128))
  clear hop hg4 hbx hb2
  go_wp2_with fail
  refine bodyPost_ret (results_tmp2 rfl _ _ _) rfl ?_
  exact ⟨rfl, HB3.out⟩
set_option maxRecDepth 100000 in
theorem tdrop_no (r : RefT) (n : Int) (F L : Option Addr) (nf cf nl cl : Nat) : Calls Tryd.prog 15 #[.pointer G, .agg (runv r n F L nf cf nl cl)] w fun e w' => e = .returned (.int .i64 1) ∧ Below w.heap.size w w' := by
  have hb1 := (Below.refl w.heap.size w).alloc (Nat.le_refl _) (.cells (runv r n F L nf cf nl cl) 35)
  have hg4 := Blk.new w 35 (runv r n F L nf cf nl cl)
  have hop := tblocks_no G _ (h.below hb1) r n F L nf cf nl cl
  have H0 := Lib.hid hb1
  clear h hb1
  unfold runv at H0 hg4 hop ⊢
  go_enter Tryd.func15, Tryd.ntmps15
  go_wp2_with (first
    | ((with_reducible show wpList _ _ _ ((⟨some 12, _, _, _, _, _⟩ : Oper) :: _) _ _); refine wpList_load_blk (o := ⟨some 12, _, _, _, _, _⟩) (hg4) (by rfl) _ _ (by rfl) (by rfl) _ Tryd.underlying35 (by rfl) (sizeRun) (by rfl) ?_)
    | fail)
  refine hop.mono ?_
  rintro e w2 ⟨rfl, hbx⟩
  have HB3 := Lib.hid (H0.out.trans (hbx.mono H0.out.size))
  clear hop hg4 hbx
  go_wp2_with fail
  go_ret
  exact ⟨rfl, HB3.out⟩
set_option maxRecDepth 100000 in
theorem tbuild_no (A : Option Addr) (m c : Nat) (s : Int) : Calls Tryd.prog 10 #[.pointer G, .slice A m c, .int .i64 s] w fun e w' => e = .returned (.tuple #[.agg (runv (0, 0, ()) 0 none none 0 0 0 0), .int .i64 1]) ∧ Below w.heap.size w w' := by
  have hz := zeroRunrun
  have hb1 := (Below.refl w.heap.size w).alloc (Nat.le_refl _) (.cells (runv (0, 0, ()) 0 none none 0 0 0 0) 35)
  have hg4 := Blk.new w 35 (runv (0, 0, ()) 0 none none 0 0 0 0)
  have hop := tnone_no G _ (h.below hb1)
  have H0 := Lib.hid hb1
  clear h hb1
  unfold runv at H0 hg4 hop ⊢
  go_enter Tryd.func10, Tryd.ntmps10
  go_wp2_with fail
  refine hop.mono ?_
  rintro e w2 ⟨rfl, hw⟩
  obtain rfl := hw.symm
  clear hop hw
  go_wp2_with fail
  refine bodyPost_ret (results_row_tmp (by rfl) _ _ w.heap.size _ _ _ (by rfl) hg4 Tryd.underlying35 (by rfl) sizeRun) rfl ?_
  exact ⟨rfl, H0.out⟩
end
end Go.Proofs.YtgkljncigbiffaaDoor

/- Bytes are copied: bytes.Clone. Condition: the bytes can be read, and are not nil. -/
namespace Go.Proofs.YtgkljncigbiffaaDoor
open Go.RowKit
set_option maxRecDepth 100000 in
theorem bclone_any (ad : Addr) (c : Nat) (l : List UInt8) (w : World) (hb : Bytes w (some ad) l) (hl : l.length ≤ 5000) :
    Calls Tryd.prog 52 #[.slice (some ad) l.length c] w fun e w' => ∃ v sp, e = .returned v ∧ OwnB 5 w' w.heap.size v l sp ∧ Below w.heap.size w w' := by
  have hq : ∀ w : World, (binOp .eql 22 (.slice (some ad) l.length c) (.slice none 0 0)).run Tryd.prog w = .ok (.bool false) w := fun w => by kernel_rfl
  have hB := (Below.refl w.heap.size w).alloc (Nat.le_refl _) (.cells #[] 5)
  have hb1 := Bytes.below hb hB
  have H0 := Lib.hid (And.intro hB hb1)
  have ho := OwnB.lit0 (e := 5) w (base := w.heap.size) (Nat.le_refl _)
  clear hb hB hb1
  go_enter Tryd.func52, Tryd.ntmps52
  go_wp2_with (first
    | ((with_reducible show wpList _ _ _ ((⟨some 7, _, _, _, _, _⟩ : Oper) :: _) _ _); refine wpList_append_bytes (o := ⟨some 7, _, _, _, _, _⟩) (by rfl) _ _ _ (by rfl) (w.heap.size) _ Tryd.underlying22 u8info (_) ([]) ([]) (by rfl) (ho) (some ad) (c) (l) (by first | rfl | simp) (H0.out.2) (by first | omega | (simp; omega)) (by simp) ?_; intro v1 w1 sp1 ho1 hg1 _ _; refine stopped ?_)
    | fail)
  refine Stopped.mk ?_
  have hB1 := H0.out.1.grown hg1 (by simp) (fun k hk => (OwnsC.lt ho k hk).1)
  have H1 := Lib.hid (And.intro ho1 hB1)
  clear ho1 hB1 hg1 ho
  go_wp2_with fail
  go_ret
  exact ⟨v1, sp1, rfl, H1.out.1, H1.out.2⟩
end Go.Proofs.YtgkljncigbiffaaDoor

/- What a table's Build leaves beside the grid. Plain facts of this program. No condition. -/
namespace Go.Proofs.YtgkljncigbiffaaDoor
open Go.RowKit
/-- Bytes that can be read, none of them in some blocks. -/
def KeysX (X : List Nat) (w : World) (A : Option Addr) (ks : List (List UInt8)) : Prop :=
  0 < ks.length → ∃ b off, A = some ⟨b, off, none⟩ ∧ b ∉ X ∧ ∀ i, (h : i < ks.length) → ∃ A1 c1, w.cell? ⟨b, off + i, none⟩ = some (.slice A1 ks[i].length c1) ∧ ks[i].length ≤ c1 ∧ c1 ≤ 9223372036854775807 ∧ Bytes w A1 ks[i] ∧ (ks[i] ≠ [] → ∀ ad, A1 = some ad → ad.block ∉ X)
theorem bytes_nearN {X : List Nat} {w w' : World} {A : Option Addr} {l : List UInt8} (h : Bytes w A l) (k : Near X w w') (hn : l ≠ [] → ∀ ad, A = some ad → ad.block ∉ X) : Bytes w' A l := by
  by_cases hl : l = []
  · subst hl; exact Reads.nil _ _
  · exact Bytes.near h k (hn hl)
theorem KeysX.near {X : List Nat} {w w' : World} {A : Option Addr} {ks : List (List UInt8)} (h : KeysX X w A ks) (k : Near X w w') : KeysX X w' A ks := fun hp => by
  obtain ⟨b, off, e, hb, hc⟩ := h hp
  refine ⟨b, off, e, hb, fun i hi => ?_⟩
  obtain ⟨A1, c1, k1, k2, k3, k4, k5⟩ := hc i hi
  exact ⟨A1, c1, (k.cell (p := ⟨b, off + i, none⟩) (World.block_lt_of_cell? _ _ k1) hb).trans k1, k2, k3, bytes_nearN k4 k k5, k5⟩
theorem BodsAt.keysX {X : List Nat} {w : World} {base : Nat} {v : Value} {G : List (List PairT)} {bs sp : List Value} (h : BodsAt w base v G bs sp) (hX : ∀ x ∈ X, x < base) : ∃ A c, v = .slice A G.length c ∧ G.length ≤ c ∧ c ≤ 9223372036854775807 ∧ KeysX X w A (G.map gbody) := by
  obtain ⟨A, c, rfl, hc, hm, hr, -⟩ := OwnsC.reads h.own
  refine ⟨A, c, rfl, hc, hm, fun hp => ?_⟩
  rw [List.length_map] at hp
  obtain ⟨u0, s0, e0, -⟩ := h.each 0 G[0] (List.getElem?_eq_getElem hp)
  obtain ⟨b, off, rfl, hcell⟩ := hr (by intro e; rw [e] at e0; simp at e0)
  refine ⟨b, off, rfl, fun hm' => by have := hX b hm'; have := (OwnsC.lt h.own b rfl).1; omega, fun i hi => ?_⟩
  rw [List.length_map] at hi
  obtain ⟨u, s, e1, e2⟩ := h.each i G[i] (List.getElem?_eq_getElem hi)
  obtain ⟨A1, c1, rfl, k1, k2, k3⟩ := OwnB.open_ e2
  rw [show (G.map gbody)[i]'(by rw [List.length_map]; exact hi) = gbody G[i] by simp]
  exact ⟨A1, c1, hcell _ _ e1, k1, k2, k3, fun _ ad e hm' => by subst e; have := hX _ hm'; have := (OwnsC.lt e2 _ rfl).1; omega⟩
theorem KeysN.keysX {X : List Nat} {w : World} {base : Nat} {v : Value} {G : List (List PairT)} {bs sp : List Value} (h : KeysN (fun x => x ∉ X) w base v G bs sp) (hX : ∀ x ∈ X, x < base) : ∃ A c, v = .slice A G.length c ∧ G.length ≤ c ∧ c ≤ 9223372036854775807 ∧ KeysX X w A (G.map gkey) := by
  obtain ⟨A, c, rfl, hc, hm, hr, -⟩ := OwnsC.reads h.own
  refine ⟨A, c, rfl, hc, hm, fun hp => ?_⟩
  rw [List.length_map] at hp
  obtain ⟨A0, c0, e0, -⟩ := h.each 0 G[0] (List.getElem?_eq_getElem hp)
  obtain ⟨b, off, rfl, hcell⟩ := hr (by intro e; rw [e] at e0; simp at e0)
  refine ⟨b, off, rfl, fun hm' => by have := hX b hm'; have := (OwnsC.lt h.own b rfl).1; omega, fun i hi => ?_⟩
  rw [List.length_map] at hi
  obtain ⟨A1, c1, e1, k1, k2, k3, k4⟩ := h.each i G[i] (List.getElem?_eq_getElem hi)
  rw [show (G.map gkey)[i]'(by rw [List.length_map]; exact hi) = gkey G[i] by simp]
  exact ⟨A1, c1, hcell _ _ e1, k1, k2, k3, fun _ ad e => (k4 ad e).2⟩
theorem Tab.near {X : List Nat} {w w' : World} (h : Tab w) (k : Near X w w') (hX : 1 ∉ X) : Tab w' :=
  ⟨Nat.lt_of_lt_of_le h.1 k.size, fun j hj => (k.cell (p := ⟨1, j, none⟩) h.1 hX).trans (h.2 j hj)⟩
/-- A pair's key in memory, none of it in some blocks. -/
def KeyX (X : List Nat) (w : World) (A : Option Addr) (i : Nat) (key : List UInt8) : Prop := ∃ b off ad1 c1, A = some ⟨b, off, none⟩ ∧ b ∉ X ∧ w.cell? ⟨b, off + i * 3, none⟩ = some (.slice (some ad1) key.length c1) ∧ key.length ≤ c1 ∧ c1 ≤ 9223372036854775807 ∧ Bytes w (some ad1) key ∧ ad1.block ∉ X
theorem KeyX.near {X : List Nat} {w w' : World} {A : Option Addr} {i : Nat} {key : List UInt8} (h : KeyX X w A i key) (k : Near X w w') : KeyX X w' A i key := by
  obtain ⟨b, off, ad1, c1, e, hb, k1, k2, k3, k4, k5⟩ := h
  exact ⟨b, off, ad1, c1, e, hb, (k.cell (p := ⟨b, off + i * 3, none⟩) (World.block_lt_of_cell? _ _ k1) hb).trans k1, k2, k3, Bytes.near k4 k (fun ad e' => by injection e' with e'; exact e' ▸ k5), k5⟩
/-- Pairs whose keys can be read, none of them in some blocks. -/
def PairsX (X : List Nat) (w : World) (A : Option Addr) (l : List PairT) : Prop := ∀ i, (h : i < l.length) → 1 ≤ l[i].1.length → KeyX X w A i l[i].1
theorem PairsX.near {X : List Nat} {w w' : World} {A : Option Addr} {l : List PairT} (h : PairsX X w A l) (k : Near X w w') : PairsX X w' A l := fun i hi hl => (h i hi hl).near k
/-- The blocks of a table, as they are written. -/
structure Puts (s : Int) (bs : List (List UInt8)) (ix : List UInt8) (root : RefT) (G : Nat → Grd) (D : Nat → Dsk) (R : Nat → RefT) : Prop where
  data : ∀ i, (h : i < bs.length) → gput (G i) (D i) none 1 [] bs[i] s = ((0, R i), G (i + 1), D (i + 1), none)
  index : gput (G bs.length) (D bs.length) none 2 ((List.range bs.length).map R) ix s = ((0, root), G (bs.length + 1), D (bs.length + 1), none)
/-- Between two blocks: what was written, the refs and the index's bytes so far. -/
structure BuAt (w : World) (q : GPl) (g : Grd) (d : Dsk) (rs : List RefT) (ib : List UInt8) (v14 v15 : Value) (qi : GPl) (sp1 : List Value) (sp2 : List UInt8) (wr : World) : Prop where
  refs : OwnsC 33 2 wr w.heap.size v14 rs.length (refCells rs) sp1
  ix : OwnB 5 wr w.heap.size v15 ib sp2
  gg : qi.gg = q.gg
  p : qi.p = q.p
  gf : qi.gf = q.gf
  grid : GridR wr qi g d none
  near : Near q.all w wr
  all : ∀ x ∈ qi.all, x ∈ q.all ∨ w.heap.size ≤ x
  off : ∀ x, v14.ownBlock = some x → x ∉ qi.all
section
variable {w wr w' : World} {q qi : GPl} {g g' : Grd} {d d' : Dsk} {rs rs' : List RefT} {ib ib' : List UInt8} {v14 v15 v' : Value} {sp1 sp1' : List Value} {sp2 sp2' : List UInt8}
theorem BuAt.ixOff (h : BuAt w q g d rs ib v14 v15 qi sp1 sp2 wr) : ∀ x, v15.ownBlock = some x → x ∉ qi.all := fun x hx => by
  obtain ⟨cs, hb⟩ := ownBlk h.ix hx
  exact h.grid.offT hb (by decide)
theorem BuAt.wrote (h : BuAt w q g d rs ib v14 v15 qi sp1 sp2 wr) (hp : GPost wr qi g' d' none w') : ∃ q', BuAt w q g' d' rs ib v14 v15 q' sp1 sp2 w' := by
  obtain ⟨q', e1, e2, e3, h4, h5, h6⟩ := hp
  refine ⟨q', OwnsC.nearO h.refs h5 h.off, OwnsC.nearO h.ix h5 h.ixOff, e1.trans h.gg, e2.trans h.p, e3.trans h.gf, h4, Near.mix h.near h5 h.all, fun x hx => ?_, fun x hx hm => ?_⟩
  · rcases h6 x hx with e | e
    · exact h.all x e
    · exact .inr (Nat.le_trans h.near.size e)
  · rcases h6 x hm with e | e
    · exact h.off x hx e
    · have := (OwnsC.lt h.refs x hx).2; omega
theorem BuAt.below (h : BuAt w q g d rs ib v14 v15 qi sp1 sp2 wr) (k : Below wr.heap.size wr w') : BuAt w q g d rs ib v14 v15 qi sp1 sp2 w' :=
  ⟨OwnsC.ownBelow h.refs k, OwnsC.ownBelow h.ix k, h.gg, h.p, h.gf, h.grid.below k, h.near.trans (Near.below k), h.all, h.off⟩
theorem BuAt.ref (h : BuAt w q g d rs ib v14 v15 qi sp1 sp2 wr) {r : RefT} (ho : OwnsC 33 2 w' w.heap.size v' (rs.length + 1) (refCells rs ++ [.int .i64 r.1, .int .i64 r.2.1]) sp1') (hg : wr.grownBy w' v14.ownBlock) (hv : v'.ownBlock = v14.ownBlock ∨ v'.ownBlock = some wr.heap.size) :
    BuAt w q g d (rs ++ [r]) ib v' v15 qi sp1' sp2 w' := by
  have hn : Near v14.ownBlock.toList wr w' := Near.grown hg (fun x hx => Option.mem_toList.2 hx)
  refine ⟨?_, OwnsC.nearO h.ix hn (fun x hx hm => ?_), h.gg, h.p, h.gf, h.grid.near hn (fun x hx hm => h.off x (Option.mem_toList.1 hm) hx), Near.mix h.near hn (fun x hx => .inr (OwnsC.lt h.refs x (Option.mem_toList.1 hx)).1), h.all, fun x hx => ?_⟩
  · rw [List.length_append, show refCells (rs ++ [r]) = refCells rs ++ [.int .i64 r.1, .int .i64 r.2.1] by unfold refCells; simp]
    exact ho
  · obtain ⟨cs, hb⟩ := ownBlk h.ix hx
    obtain ⟨cs', hb'⟩ := ownBlk h.refs (Option.mem_toList.1 hm)
    exact hb.apart hb' (by decide) rfl
  · rcases hv with e | e
    · exact h.off x (e ▸ hx)
    · rw [e] at hx; injection hx with hx; subst hx
      exact h.grid.offRef (Nat.le_refl _)
theorem BuAt.more (h : BuAt w q g d rs ib v14 v15 qi sp1 sp2 wr) (ho : OwnB 5 w' w.heap.size v' ib' sp2') (hg : wr.grownBy w' v15.ownBlock) :
    BuAt w q g d rs ib' v14 v' qi sp1 sp2' w' := by
  have hn : Near v15.ownBlock.toList wr w' := Near.grown hg (fun x hx => Option.mem_toList.2 hx)
  refine ⟨OwnsC.nearO h.refs hn (fun x hx hm => ?_), ho, h.gg, h.p, h.gf, h.grid.near hn (fun x hx hm => h.ixOff x (Option.mem_toList.1 hm) hx), Near.mix h.near hn (fun x hx => .inr (OwnsC.lt h.ix x (Option.mem_toList.1 hx)).1), h.all, h.off⟩
  obtain ⟨cs, hb⟩ := ownBlk h.refs hx
  obtain ⟨cs', hb'⟩ := ownBlk h.ix (Option.mem_toList.1 hm)
  exact hb.apart hb' (by decide) rfl
end
def BuRel (w : World) (q : GPl) (G : Nat → Grd) (D : Nat → Dsk) (R : Nat → RefT) (ks : List (List UInt8)) (v57 v14 v15 : Value) (wr : World) : Prop :=
  ∃ (i : Nat) (qi : GPl) (sp1 : List Value) (sp2 : List UInt8), i ≤ ks.length ∧ v57 = .int .i64 (i : Int) ∧ BuAt w q (G i) (D i) ((List.range i).map R) (kbytes (ks.take i)) v14 v15 qi sp1 sp2 wr
theorem kbytes_take {ks : List (List UInt8)} {i : Nat} (h : i < ks.length) : kbytes (ks.take (i + 1)) = kbytes (ks.take i) ++ [UInt8.ofNat ks[i].length] ++ ks[i] := by
  unfold kbytes
  rw [List.take_succ_eq_append_getElem h, List.flatMap_append]
  simp
theorem range_snoc {R : Nat → RefT} (i : Nat) : refCells ((List.range (i + 1)).map R) = refCells ((List.range i).map R) ++ [.int .i64 (R i).1, .int .i64 (R i).2.1] := by
  rw [List.range_succ, List.map_append]
  unfold refCells
  simp
end Go.Proofs.YtgkljncigbiffaaDoor
