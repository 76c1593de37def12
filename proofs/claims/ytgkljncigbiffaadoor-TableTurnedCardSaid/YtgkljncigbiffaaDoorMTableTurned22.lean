/- A region that draws its order, by a plan that branches; behind an operation the class of worlds may be narrowed (what it made is known from there on). Plain facts over any program. No condition. -/
import Derived.Test.YtgkljncigbiffaaDoorMTableTurned21
import Derived.Deep.Cut
namespace Go
section
variable {P : Program} {ops : Array Oper} {md : Region.Mode} {C : World → Prop} {Z : List Nat} {Q : Exit → Act → World → Prop}
theorem wpAnyC_narrow {C' : World → Prop} (hC : ∀ w, C' w → C w) : ∀ (fuel : Nat) (s : Array Bool) (a : Act) (w : World), wpAnyC P md ops C' Z Q fuel s a w → wpAnyC P md ops C Z Q fuel s a w := by
  intro fuel
  induction fuel with
  | zero => intro s a w h; exact h
  | succ fuel ih =>
    intro s a w h
    exact ⟨h.1, fun i hi => wpOp_mono (fun a' w' h' => ⟨h'.1.imp id (hC w'), ih _ _ _ h'.2⟩) (h.2 i hi)⟩
def wpTreeN (P : Program) (ops : Array Oper) (Z : List Nat) (Q : Exit → Act → World → Prop) : PlanT → (World → Prop) → Act → World → Prop
  | .done, _, a, w => Q .normal a w
  | .take i r, C, a, w => match ops[i]? with
    | some o => ∃ v, YieldsC P ops C o v a ∧ (C w → wpTreeN P ops Z Q r C (a.put o.dst v) w)
    | none => False
  | .opt i r m, C, a, w => wpOp P ops Q i (fun a' w' => (i ∈ Z ∧ wpTreeN P ops Z Q r C a' w') ∨ ∃ C' : World → Prop, (∀ w, C' w → C w) ∧ C' w' ∧ wpTreeN P ops Z Q r C' a' w') a w ∧ wpTreeN P ops Z Q m C a w
  | .no, _, _, _ => True
theorem anyC_of_treeN (hns : Region.noSelect ops = true) (hQ : ∀ c a a' w, a'.defers = a.defers → Q (.panic c) a' w → Q (.panic c) a w) :
    ∀ (t : PlanT) (C : World → Prop) (n : Nat) (s : Array Bool) (a : Act) (w : World), Z = [] → C w → wpTreeN P ops Z Q t C a w →
      (Region.treeB md ops Z t true n s = true → wpAnyC P md ops C Z Q n s a w) ∧
      (∀ m, n = m + 1 → Region.treeB md ops Z t false n s = true → ∀ i ∈ t.heads, wpOp P ops Q i (fun a' w' => (i ∈ Z ∨ C w') ∧ wpAnyC P md ops C Z Q m (s.setIfInBounds i true) a' w') a w) := by
  intro t
  induction t with
  | done =>
    intro C n s a w _ _ h
    refine ⟨fun hB => ?_, fun m _ _ i hi => by cases hi⟩
    simp only [Region.treeB, Bool.and_eq_true, decide_eq_true_eq] at hB
    obtain ⟨rfl, hB⟩ := hB
    exact ⟨by simpa using hB, h⟩
  | no =>
    intro C n s a w _ _ _
    exact ⟨fun hB => by simp [Region.treeB] at hB, fun m _ _ i hi => by cases hi⟩
  | take i r ih =>
    intro C n s a w hz hC h
    refine ⟨fun hB => ?_, fun m _ _ i hi => by cases hi⟩
    cases n with
    | zero => simp [Region.treeB] at hB
    | succ n =>
      simp only [Region.treeB, Bool.and_eq_true] at hB
      obtain ⟨⟨⟨h1, h2⟩, h3⟩, h4⟩ := hB
      have hr : i ∈ Region.ready md ops s := by simpa using h1
      obtain ⟨_, oi, hoi, _⟩ := mem_ready.1 hr
      simp only [wpTreeN, hoi] at h
      obtain ⟨v, hy, hn⟩ := h
      exact wpAnyC_first hoi hns hQ (fun z hz => List.all_eq_true.1 h3 z hz) n s a w (Region.free_spec hoi h2) hr hy hC ((ih C n _ _ _ hz hC (hn hC)).1 h4)
  | opt i r m ihr ihm =>
    intro C n s a w hz hC h
    obtain ⟨h1, h2⟩ := h
    have key : ∀ k first, n = k + 1 → Region.treeB md ops Z (.opt i r m) first n s = true → ∀ j ∈ (PlanT.opt i r m).heads, wpOp P ops Q j (fun a' w' => (j ∈ Z ∨ C w') ∧ wpAnyC P md ops C Z Q k (s.setIfInBounds j true) a' w') a w := by
      intro k first hn hB j hj
      subst hn
      simp only [Region.treeB, Bool.and_eq_true] at hB
      obtain ⟨⟨_, hr⟩, hm⟩ := hB
      simp only [PlanT.heads, List.mem_cons] at hj
      rcases hj with rfl | hj
      · refine wpOp_mono (fun a' w' h' => ?_) h1
        rcases h' with ⟨h', -⟩ | ⟨C', hCC, hC', h'⟩
        · rw [hz] at h'; cases h'
        · exact ⟨.inr (hCC _ hC'), wpAnyC_narrow hCC _ _ _ _ ((ihr C' k _ a' w' hz hC' h').1 hr)⟩
      · exact (ihm C (k + 1) s a w hz hC h2).2 k rfl hm j hj
    refine ⟨fun hB => ?_, fun k hk hB => key k false hk hB⟩
    cases n with
    | zero => simp [Region.treeB] at hB
    | succ n =>
      have hk := key n true rfl hB
      simp only [Region.treeB, Bool.and_eq_true, Bool.not_true, Bool.false_or, decide_eq_true_eq] at hB
      refine ⟨fun h0 => (by rw [hB.1.1] at h0; cases h0), fun j hj => ?_⟩
      rw [hB.1.1] at hj
      exact hk j hj
/-- **THE REGION, BY A PLAN THAT BRANCHES**; the class may be narrowed on the way. -/
theorem wp_region_treeN {id : Nat} {a : Act} {w : World} {l : List Oper} {Q : Exit → Act → World → Prop} (C : World → Prop) (t : PlanT) (hm : P.follows .mixedOrders = true)
    (hB : (Region.noSelect l.toArray && Region.treeB .any l.toArray [] t true l.toArray.size (Array.replicate l.toArray.size false)) = true)
    (hC : C w.drew) (h : wpTreeN P l.toArray [] (tidy Q) t C a w.drew) : (Code.region id l.toArray true).wp P Q a w := by
  simp only [Bool.and_eq_true] at hB
  refine wp_mono (Q := tidy Q) ?_ (tidy_le Q)
  refine wp_region_any hm ?_
  exact wpAny_of_C _ _ _ _ ((anyC_of_treeN hB.1 (fun _ _ _ _ _ q => q.elim) t C _ _ a w.drew rfl hC h).1 hB.2)
theorem wpTreeN_take {w : World} (is : List Nat) (r : PlanT) : ∀ (a : Act), ((is.filterMap fun i => ops[i]?).all fun o => o.op.stillB) = true → (is.all fun i => decide (i < ops.size)) = true →
    C w → wpQuiet P ops C (fun a' => wpTreeN P ops Z Q r C a' w) (is.filterMap fun i => ops[i]?) a → wpTreeN P ops Z Q (PlanT.takes is r) C a w := by
  induction is with
  | nil => intro a _ _ _ h; exact h
  | cons i is ih =>
    intro a hs hlt hC h
    simp only [List.all_cons, Bool.and_eq_true, decide_eq_true_eq] at hlt
    have hi : ops[i]? = some ops[i] := Array.getElem?_eq_getElem hlt.1
    simp only [List.filterMap_cons, hi, List.all_cons, Bool.and_eq_true] at hs h
    have hq : qOp P ops C i (wpQuiet P ops C (fun a' => wpTreeN P ops Z Q r C a' w) (is.filterMap fun i => ops[i]?)) a := by unfold qOp; simp only [hi]; exact h
    obtain ⟨v, hy, hK⟩ := yieldsIn_of_qOp hi hq
    simp only [PlanT.takes, wpTreeN, hi]
    exact ⟨v, yieldsC_of hs.1 hy, fun _ => ih _ hs.2 hlt.2 hC hK⟩
/-- Operations that are taken first, read in a class of worlds. -/
theorem wpTreeN_takeL {l : List Oper} {w : World} (is : List Nat) (r : PlanT) (a : Act) (hs : ((is.filterMap fun i => l[i]?).all fun o => o.op.stillB) = true) (hlt : (is.all fun i => decide (i < l.length)) = true)
    (hC : C w) (h : wpQuiet P l.toArray C (fun a' => wpTreeN P l.toArray Z Q r C a' w) (is.filterMap fun i => l[i]?) a) : wpTreeN P l.toArray Z Q (PlanT.takes is r) C a w := by
  have e : (is.filterMap fun i => l.toArray[i]?) = is.filterMap fun i => l[i]? := by congr 1; funext i; exact List.getElem?_toArray ..
  exact wpTreeN_take is r a (by rw [e]; exact hs) (by simpa using hlt) hC (by rw [e]; exact h)
theorem wpTreeN_pure {l : List Oper} {w : World} (is : List Nat) (r : PlanT) : ∀ (a : Act), ((is.filterMap fun i => l[i]?).all fun o => o.op.stillB) = true → (is.all fun i => decide (i < l.length)) = true →
    wpQuiet P l.toArray (fun _ => True) (fun a' => wpTreeN P l.toArray Z Q r C a' w) (is.filterMap fun i => l[i]?) a → wpTreeN P l.toArray Z Q (PlanT.takes is r) C a w := by
  induction is with
  | nil => intro a _ _ h; exact h
  | cons i is ih =>
    intro a hs hlt h
    simp only [List.all_cons, Bool.and_eq_true, decide_eq_true_eq] at hlt
    have hi : l[i]? = some l[i] := List.getElem?_eq_getElem hlt.1
    have hi' : l.toArray[i]? = some l[i] := by rw [List.getElem?_toArray]; exact hi
    simp only [List.filterMap_cons, hi, List.all_cons, Bool.and_eq_true] at hs h
    have hq : qOp P l.toArray (fun _ => True) i (wpQuiet P l.toArray (fun _ => True) (fun a' => wpTreeN P l.toArray Z Q r C a' w) (is.filterMap fun i => l[i]?)) a := by unfold qOp; simp only [hi']; exact h
    obtain ⟨v, hy, hK⟩ := yieldsIn_of_qOp hi' hq
    have hy' := yieldsC_of hs.1 hy
    simp only [PlanT.takes, wpTreeN, hi']
    refine ⟨v, ?_, fun _ => ih _ hs.2 hlt.2 hK⟩
    rcases hy' with ⟨h1, h2⟩ | h1
    · exact .inl ⟨h1, fun w _ => h2 w trivial⟩
    · exact .inr h1
/-- What is asked behind an operation that came. -/
def TreeNQ (P : Program) (ops : Array Oper) (C : World → Prop) (Z : List Nat) (Q : Exit → Act → World → Prop) (i : Nat) (r : PlanT) : Exit → Act → World → Prop
  | .normal, a, w => (i ∈ Z ∧ wpTreeN P ops Z Q r C a w) ∨ ∃ C' : World → Prop, (∀ w, C' w → C w) ∧ C' w ∧ wpTreeN P ops Z Q r C' a w
  | e, a, w => Q e a w
theorem wpTreeN_opt {l : List Oper} {a : Act} {w : World} {i : Nat} {r m : PlanT} (o : Oper) (ho : l[i]? = some o) (h : wpList P l.toArray (TreeNQ P l.toArray C Z Q i r) [o] a w) (hm : wpTreeN P l.toArray Z Q m C a w) : wpTreeN P l.toArray Z Q (.opt i r m) C a w := by
  refine ⟨?_, hm⟩
  have ho' : l.toArray[i]? = some o := by rw [List.getElem?_toArray]; exact ho
  unfold wpOp
  simp only [ho']
  unfold wpList at h
  have hmono : ∀ {a : Act} {w : World}, o.wp P a w (wpList P l.toArray (TreeNQ P l.toArray C Z Q i r) []) (TreeNQ P l.toArray C Z Q i r) → o.wp P a w (fun a' w' => (i ∈ Z ∧ wpTreeN P l.toArray Z Q r C a' w') ∨ ∃ C' : World → Prop, (∀ w, C' w → C w) ∧ C' w' ∧ wpTreeN P l.toArray Z Q r C' a' w') Q := by
    intro a w h
    unfold Oper.wp at h ⊢
    generalize (execOp a.eval o).run P w = rr at *
    cases rr with
    | ok n w' =>
      cases n <;> simp only [Oper.upon] at h ⊢
      case value u => exact h
      case skip => exact h
      case defer d => exact h
      case enter f args =>
        refine Calls.mono h fun e w'' he => ?_
        cases e <;> exact he
      case row row args => exact Rows.mono h fun u w'' he => he
    | halt x w' => cases x <;> simp only [Oper.upon] at h ⊢; exact h
  split
  · rename_i hw
    rw [if_pos hw] at h
    rcases h with h | ⟨h1, h2⟩
    · exact .inl (hmono h)
    · exact .inr ⟨h1, h2⟩
  · rename_i hw
    rw [if_neg hw] at h
    exact h
/-- The only one that may come. -/
theorem wpTreeN_one {l : List Oper} {a : Act} {w : World} {i : Nat} {r : PlanT} (o : Oper) (ho : l[i]? = some o) (h : wpList P l.toArray (TreeNQ P l.toArray C Z Q i r) [o] a w) : wpTreeN P l.toArray Z Q (.opt i r .no) C a w :=
  wpTreeN_opt o ho h trivial
theorem wpTreeN_done {a : Act} {w : World} (h : Q .normal a w) : wpTreeN P ops Z (tidy Q) .done C a w := h
theorem TreeNQ.in_ {a : Act} {w : World} {i : Nat} {r : PlanT} (hC : C w) (h : wpTreeN P ops Z Q r C a w) : TreeNQ P ops C Z Q i r .normal a w := .inr ⟨C, fun _ h => h, hC, h⟩
/-- The class is narrowed. -/
theorem TreeNQ.nar {a : Act} {w : World} {i : Nat} {r : PlanT} (C' : World → Prop) (hCC : ∀ w, C' w → C w) (hC : C' w) (h : wpTreeN P ops Z Q r C' a w) : TreeNQ P ops C Z Q i r .normal a w := .inr ⟨C', hCC, hC, h⟩
end
end Go

/- TableKnown: the chapter's examples. Condition: the library's table is there. -/
namespace Go.Proofs.YtgkljncigbiffaaDoor
open Go.RowKit
set_option maxRecDepth 100000 in
set_option maxHeartbeats 16000000 in
theorem tableKnown_law (w : World) (hT : Tab w) :
    Calls Tryd.prog 5 #[] w fun e w' => e = .returned (.bool true) ∧ Below w.heap.size w w' := by
  have hz := zeroPairrun
  have H0 := Lib.hid hT
  clear hT
  go_enter Tryd.func5, Tryd.ntmps5
  go_wp2_with fail
  refine (tmade_any 8 (by omega) (by omega) w).mono ?_
  rintro e w1 ⟨gp, dp, rfl, hG, hB⟩
  have H1 := Lib.hid (And.intro (GX.of_GL (show GL w.heap.size w1 gp dp (tG 8 0) (abD 5 0) from hG) hB.size) hB)
  clear hG hB
  go_wp2_with fail
  refine (tawake_any w1 (H0.out.below H1.out.2)).mono ?_
  rintro e w2 ⟨rfl, hbx⟩
  have H2 := Lib.hid (And.intro (H1.out.1.below hbx).1 (H1.out.2.trans (H1.out.1.below hbx).2.bel))
  clear hbx H1
  go_wp2_with fail
  -- the table is built
  refine (abc_any w2).mono ?_
  rintro e w3 hA
  obtain ⟨b3, rfl, hP3, hX3, hb3, -⟩ := abc_at hA
  have hbu := xtbuild (G := tG 8) (D := abD 5) (R := tk 5) (root := (2, 5, ())) (s := 5) H2.out.1 hb3 (H0.out.below (H2.out.2.trans (hb3.mono H2.out.2.size))) H0.out.1 (some ⟨b3, 0, none⟩) 3 abcL (by decide) hP3 (fun X hX => hX3 X (fun x hx => (hX x hx).2.2)) (by rw [abc_pack]) (by decide) (by decide) (by rw [abc_cnt, abc_pack]; decide) abc_puts.1
  rw [show (ppack abcL).2.length = 1 by rw [abc_pack]; rfl] at hbu
  rw [show ((abcL.length : Nat) : Int) = 3 from rfl] at hbu
  have HB3 := Lib.hid (H2.out.2.trans (hb3.mono H2.out.2.size))
  clear hA hP3 hX3 hb3 H2
  unfold runv at hbu
  go_wp2_with fail
  refine hbu.mono ?_
  rintro e w4 ⟨F, L, nf, cf, nl, cl, rfl, hG, hS⟩
  have H4 := Lib.hid (And.intro hG (HB3.out.trans hS.bel))
  clear hbu hG hS HB3
  unfold runv at *
  have hb5 := (Below.refl w4.heap.size w4).alloc (Nat.le_refl _) (.cells #[.int .i64 2, .int .i64 5, .int .i64 3, .slice F nf cf, .slice L nl cl] 35)
  have hr5 := Blk.new w4 35 #[.int .i64 2, .int .i64 5, .int .i64 3, .slice F nf cf, .slice L nl cl]
  have H5 := Lib.hid (And.intro (H4.out.1.belowT hb5).1 (And.intro (H4.out.2.trans (H4.out.1.belowT hb5).2.bel) hr5))
  clear hb5 H4
  go_wp2_with (first
    | ((with_reducible show wpList _ _ _ ((⟨some 39, _, _, _, _, _⟩ : Oper) :: _) _ _); refine wpList_load_blk (o := ⟨some 39, _, _, _, _, _⟩) (hr5) (by rfl) _ _ (by rfl) (by rfl) _ Tryd.underlying35 (by rfl) (sizeRun) (by rfl) ?_)
    | fail)
  -- all pairs
  replace H5 := Lib.hid (And.intro (show GX w.heap.size [] _ gp dp (tG 8 2) (abD 5 2) from H5.out.1) H5.out.2)
  generalize w4.alloc (.cells #[.int .i64 2, .int .i64 5, .int .i64 3, .slice F nf cf, .slice L nl cl] 35) = w5 at H5 ⊢
  generalize w4.heap.size = rb at H5 ⊢
  have hal := xtall H5.out.1 (by decide) (2, 5, ()) 3 F L nf cf nl cl abcL abc_stands.zero _ abc_stands.data (abc_stands.items.trans (by rfl)) (by decide)
  unfold runv at hal
  refine hal.mono ?_
  rintro e w6 ⟨va, ra, sa, rfl, hPa, hG, hS⟩
  have H6 := Lib.hid (And.intro hG (And.intro (H5.out.2.1.trans hS.bel) (And.intro (hS.so.blk H5.out.2.2 (by unfold NG; decide)) hPa)))
  have hr6 := H6.out.2.2.1
  clear hal hPa hG hS H5
  go_wp2_with (first
    | ((with_reducible show wpList _ _ _ ((⟨some 45, _, _, _, _, _⟩ : Oper) :: _) _ _); refine wpList_load_blk (o := ⟨some 45, _, _, _, _, _⟩) (hr6) (by rfl) _ _ (by rfl) (by rfl) _ Tryd.underlying35 (by rfl) (sizeRun) (by rfl) ?_)
    | ((with_reducible show wpList _ _ _ ((⟨some 47, _, _, _, _, _⟩ : Oper) :: _) _ _); refine wpList_bytes_const (o := ⟨some 47, _, _, _, _, _⟩) (by rfl) _ _ _ (by rfl) Tryd.underlying22 Tryd.underlying5 [98] _ (by rfl) 1 (by rfl) ?_; intro w7 hb7 hk7 hsz; clear hsz)
    | ((with_reducible show wpList _ _ _ ((⟨some 49, _, _, _, _, _⟩ : Oper) :: _) _ _); refine wpList_bytes_const (o := ⟨some 49, _, _, _, _, _⟩) (by rfl) _ _ _ (by rfl) Tryd.underlying22 Tryd.underlying5 [99] _ (by rfl) 1 (by rfl) ?_; intro w8 hb8 hk8 hsz; clear hsz)
    | fail)
  -- the pairs between two keys
  have hk68 := hk7.trans (hk8.mono hk7.size)
  have hbt := xtbetween (H6.out.1.belowT hk68).1 (by decide) (2, 5, ()) 3 F L nf cf nl cl [98] [99] (some ⟨w6.heap.size, 0, none⟩) (some ⟨w7.heap.size, 0, none⟩) 1 1 (Bytes.below hb7 hk8) hb8 (by decide) (by decide) [([98], [], true, ())] abc_stands.zero _ (fun i hi _ => abc_stands.data i hi) ((abc_stands.some_ [98] [99]).trans kn_some) (Nat.le_trans (abc_stands.few _) (by decide))
  unfold runv at hbt
  have H8 := Lib.hid (And.intro (H6.out.2.1.trans (H6.out.1.belowT hk68).2.bel) (And.intro (H6.out.2.2.1.below hk68 H6.out.2.2.1.lt) (H6.out.2.2.2.below hk68)))
  clear hb7 hk7 hb8 hk8 hk68 hr6 H6
  refine hbt.mono ?_
  rintro e w9 ⟨vs, rs, ss, rfl, hPs, hG, hS⟩
  have H9 := Lib.hid (And.intro hG (And.intro (H8.out.1.trans hS.bel) (And.intro (hS.so.blk H8.out.2.1 (by unfold NG; decide)) (And.intro (hS.so.pairsU H8.out.2.2) hPs))))
  have hr9 := H9.out.2.2.1
  clear hbt hPs hG hS H8
  go_wp2_with (first
    | ((with_reducible show wpList _ _ _ ((⟨some 55, _, _, _, _, _⟩ : Oper) :: _) _ _); refine wpList_load_blk (o := ⟨some 55, _, _, _, _, _⟩) (hr9) (by rfl) _ _ (by rfl) (by rfl) _ Tryd.underlying35 (by rfl) (sizeRun) (by rfl) ?_)
    | fail)
  -- its blocks
  have hbk := xtblocks H9.out.1 (by decide) (2, 5, ()) 3 F L nf cf nl cl abc_stands.blocks
  unfold runv at hbk
  refine hbk.mono ?_
  rintro e w10 ⟨Al, cl2, rfl, hRl, -, -, hG, -, hS⟩
  obtain ⟨bl, offl, rfl, -⟩ := hRl (by decide)
  have hd : Below w10.heap.size w10 w10.drew := (Below.refl _ _).drew
  have H10 := Lib.hid (And.intro ((hG _ rfl).belowT hd).1 (And.intro (H9.out.2.1.trans (hS.bel.trans (hd.mono (hG _ rfl).size))) (And.intro (((hS.so.pairsU H9.out.2.2.2.1)).below hd) (And.intro ((hS.so.pairsU H9.out.2.2.2.2).below hd) (hRl.below hd)))))
  have hc := (hS.so.blk H9.out.2.2.1 (by unfold NG; decide)).drew
  clear hbk hRl hG hS hd hr9 H9
  go_upto_region 8 with fail
  refine wp_region_tree (fun w' => Blk w' rb 35 #[.int .i64 2, .int .i64 5, .int .i64 3, .slice F nf cf, .slice L nl cl]) [] (PlanT.takes [0, 1, 2, 3, 4, 5, 6, 7, 8, 9, 10, 11, 12, 13, 14, 15] (PlanT.takes [16] (.opt 17 (PlanT.takes [18] (.opt 19 (.opt 20 (PlanT.takes [21, 22, 23] (.opt 24 (.opt 25 (PlanT.takes [26, 27, 28] (.opt 29 (PlanT.takes [30] (.opt 31 (PlanT.takes [32, 33] .done) .no)) .no)) .no) .no)) .no) .no)) .no))) (by kernel_rfl) (by kernel_rfl) (hc) ?_
  refine wpTree_pure _ _ _ (by rfl) (by rfl) ?_
  dsimp only [List.filterMap, List.getElem?_cons_zero, List.getElem?_cons_succ]
  repeat (go_big_quiet_step (fail))
  refine wpQuiet_nil ?_
  refine wpTree_takeL _ _ _ (by rfl) (by rfl) (hc) ?_
  dsimp only [List.filterMap, List.getElem?_cons_zero, List.getElem?_cons_succ]
  (refine wpQuiet_want' (by rfl) ?_; refine wpQuiet_load_blk (fun w' hw' => hw') (by rfl) _ _ (by rfl) (by rfl) _ Tryd.underlying35 (by rfl) (sizeRun) (by rfl) ?_; simp only [Act.put, List.setIfInBounds_toArray, List.set_cons_zero, List.set_cons_succ])
  refine wpQuiet_nil ?_
  generalize w10.drew = w11 at H10 hc ⊢
  refine wpTree_one _ rfl ?_
  go_wp2_with fail
  refine (abc_any w11).mono ?_
  rintro e w12 hA
  obtain ⟨b12, rfl, -, -, hbx, hone⟩ := abc_at hA
  obtain ⟨a1, c1, A2, c2, hr12, hp12, ha1, ha2, -⟩ := hone 1 (by decide)
  have hc12 := hc.below hbx hc.lt
  have H12 := Lib.hid (And.intro (H10.out.1.add hbx ha1 ha2) (And.intro (H10.out.2.1.trans (H10.out.1.belowT hbx).2.bel) (And.intro (H10.out.2.2.1.below hbx) (And.intro (H10.out.2.2.2.1.below hbx) (And.intro (H10.out.2.2.2.2.below hbx) hp12)))))
  clear hA hbx hone hp12 hc H10 ha1 ha2
  go_wp2_with fail
  refine TreeQ.in_ hc12 ?_
  refine wpTree_pure _ _ _ (by rfl) (by rfl) ?_
  dsimp only [List.filterMap, List.getElem?_cons_zero, List.getElem?_cons_succ]
  repeat (go_big_quiet_step (fail))
  refine wpQuiet_nil ?_
  refine wpTree_one _ rfl ?_
  have hr13 : w12.rangeAt b12 3 [.slice (some a1) 1 c1, .slice A2 0 c2, .bool true] := hr12
  clear hr12
  go_wp2_with (first
    | ((with_reducible show wpList _ _ _ ((⟨some 78, _, _, _, _, _⟩ : Oper) :: _) _ _); refine wpList_want (by rfl) ?_; refine wpList_load_mid (o := ⟨some 78, _, _, _, _, _⟩) hr13 (by rfl) _ _ (by rfl) (by rfl) _ Tryd.underlying40 (by rfl) sizePair (by rfl) ?_)
    | fail)
  refine TreeQ.in_ hc12 ?_
  refine wpTree_one _ rfl ?_
  go_wp2_with fail
  have hg1 := xtgets H12.out.1 (by decide) (2, 5, ()) 3 F L nf cf nl cl [98] (by decide) ([98], [], true, ()) (some a1) A2 c1 c2 H12.out.2.2.2.2.2 (fun ad e => by injection e with e; subst e; simp) (fun h => absurd rfl h) kn_get (abc_stands.mono [98])
  unfold runv pairc at hg1
  refine hg1.mono ?_
  rintro e w13 ⟨rfl, hG, hS⟩
  have hc13 := hS.so.blk hc12 (by unfold NG; decide)
  have H13 := Lib.hid (And.intro hG (And.intro (H12.out.2.1.trans hS.bel) (And.intro (hS.so.pairsU H12.out.2.2.1) (And.intro (hS.so.pairsU H12.out.2.2.2.1) (hS.st.same.refs H12.out.2.2.2.2.1 (fun ad e => by injection e with e; subst e; simp))))))
  clear hg1 hG hS hc12 hr13 H12
  go_wp2_with fail
  refine TreeQ.in_ hc13 ?_
  refine wpTree_pure _ _ _ (by rfl) (by rfl) ?_
  dsimp only [List.filterMap, List.getElem?_cons_zero, List.getElem?_cons_succ]
  repeat (go_big_quiet_step (fail))
  refine wpQuiet_nil ?_
  refine wpTree_one _ rfl ?_
  go_wp2_with fail
  refine (abc_any w13).mono ?_
  rintro e w14 hA
  obtain ⟨b14, rfl, hp14, -, hbx, -⟩ := abc_at hA
  have hc14 := hc13.below hbx hc13.lt
  have H14 := Lib.hid (And.intro (H13.out.1.belowT hbx).1 (And.intro (H13.out.2.1.trans (H13.out.1.belowT hbx).2.bel) (And.intro (H13.out.2.2.1.below hbx) (And.intro (H13.out.2.2.2.1.below hbx) (And.intro (H13.out.2.2.2.2.below hbx) hp14)))))
  clear hA hbx hp14 hc13 H13
  go_wp2_with fail
  refine TreeQ.in_ hc14 ?_
  refine wpTree_one _ rfl ?_
  go_wp2_with fail
  obtain ⟨Aa, ca, hva, -, -, hPa, -⟩ := H14.out.2.2.1.pairs
  obtain ⟨As, cs, hvs, -, -, hPs, -⟩ := H14.out.2.2.2.1.pairs
  subst hva hvs
  refine (samePairs_any Aa (some ⟨b14, 0, none⟩) ca 3 abcL abcL (by decide) w14 hPa H14.out.2.2.2.2.2).mono ?_
  rintro e w15 ⟨rfl, hbx⟩
  rw [decide_eq_true rfl]
  have hc15 := hc14.below hbx hc14.lt
  have H15 := Lib.hid (And.intro (H14.out.1.belowT hbx).1 (And.intro (H14.out.2.1.trans (H14.out.1.belowT hbx).2.bel) (And.intro (hPs.below hbx) (H14.out.2.2.2.2.1.below hbx))))
  clear hbx hc14 hPa hPs H14
  go_wp2_with fail
  refine TreeQ.in_ hc15 ?_
  refine wpTree_pure _ _ _ (by rfl) (by rfl) ?_
  dsimp only [List.filterMap, List.getElem?_cons_zero, List.getElem?_cons_succ]
  repeat (go_big_quiet_step (fail))
  refine wpQuiet_nil ?_
  refine wpTree_one _ rfl ?_
  go_wp2_with fail
  refine (abc_any w15).mono ?_
  rintro e w16 hA
  obtain ⟨b16, rfl, hp16, -, hbx, -⟩ := abc_at hA
  have hc16 := hc15.below hbx hc15.lt
  have hp1 : Pairs w16 (some ⟨b16, 3, none⟩) [([98], [], true, ())] := fun _ => by
    obtain ⟨b, off, e, hlt, hcc⟩ := hp16 (by decide)
    injection e with e
    injection e with e1 e2
    subst e1 e2
    refine ⟨b16, 3, rfl, hlt, fun i hi => ?_⟩
    have h0 : i = 0 := by simp only [List.length_singleton] at hi; omega
    subst h0
    exact hcc 1 (by decide)
  have H16 := Lib.hid (And.intro (H15.out.1.belowT hbx).1 (And.intro (H15.out.2.1.trans (H15.out.1.belowT hbx).2.bel) (And.intro (H15.out.2.2.1.below hbx) (And.intro (H15.out.2.2.2.below hbx) hp1))))
  clear hA hbx hp16 hp1 hc15 H15
  go_wp2_with fail
  refine TreeQ.in_ hc16 ?_
  refine wpTree_pure _ _ _ (by rfl) (by rfl) ?_
  dsimp only [List.filterMap, List.getElem?_cons_zero, List.getElem?_cons_succ]
  repeat (go_big_quiet_step (fail))
  refine wpQuiet_nil ?_
  refine wpTree_one _ rfl ?_
  go_wp2_with fail
  refine (samePairs_any As (some ⟨b16, 3, none⟩) cs 2 [([98], [], true, ())] [([98], [], true, ())] (by decide) w16 H16.out.2.2.1 H16.out.2.2.2.2).mono ?_
  rintro e w17 ⟨rfl, hbx⟩
  rw [decide_eq_true rfl]
  have hc17 := hc16.below hbx hc16.lt
  have H17 := Lib.hid (And.intro (H16.out.1.belowT hbx).1 (And.intro (H16.out.2.1.trans (H16.out.1.belowT hbx).2.bel) (H16.out.2.2.2.1.below hbx)))
  clear hbx hc16 H16
  go_wp2_with fail
  refine TreeQ.in_ hc17 ?_
  refine wpTree_pure _ _ _ (by rfl) (by rfl) ?_
  dsimp only [List.filterMap, List.getElem?_cons_zero, List.getElem?_cons_succ]
  repeat (go_big_quiet_step (fail))
  refine wpQuiet_nil ?_
  refine wpTree_done ?_
  -- the drop
  go_wp2_with fail
  have hbl := (Below.refl w17.heap.size w17).alloc (Nat.le_refl _) (.cells #[.int .i64 2, .int .i64 5, .int .i64 1, .int .i64 5] 33)
  have hr18 : Refs (w17.alloc (.cells #[.int .i64 2, .int .i64 5, .int .i64 1, .int .i64 5] 33)) (some ⟨w17.heap.size, 0, none⟩) [(2, 5, ()), (1, 5, ())] := Refs.of (reads_new w17 33 [.int .i64 2, .int .i64 5, .int .i64 1, .int .i64 5])
  have hc18 := hc17.below hbl hc17.lt
  have H18 := Lib.hid (And.intro (H17.out.1.belowT hbl).1 (And.intro (H17.out.2.1.trans (H17.out.1.belowT hbl).2.bel) (And.intro (H17.out.2.2.below hbl) hr18)))
  clear hbl hr18 hc17 H17
  generalize w17.alloc (.cells #[.int .i64 2, .int .i64 5, .int .i64 1, .int .i64 5] 33) = w18 at H18 hc18 ⊢
  refine (sameRefs_any (some ⟨bl, offl, none⟩) (some ⟨w17.heap.size, 0, none⟩) 2 2 cl2 2 [(2, 5, ()), (1, 5, ())] [(2, 5, ()), (1, 5, ())] rfl rfl (by simp) w18 H18.out.2.2.1 H18.out.2.2.2).mono ?_
  rintro e w19 ⟨he, hbx⟩
  obtain rfl : e = .returned (.bool true) := by simpa using he
  have hc19 := hc18.below hbx hc18.lt
  have H19 := Lib.hid (And.intro ((H18.out.1.belowT hbx).1.sub (Y' := []) (by simp)) (H18.out.2.1.trans (H18.out.1.belowT hbx).2.bel))
  clear he hbx hc18 H18
  go_wp2_with (first
    | ((with_reducible show wpList _ _ _ ((⟨some 99, _, _, _, _, _⟩ : Oper) :: _) _ _); refine wpList_want (by rfl) ?_; refine wpList_load_blk (o := ⟨some 99, _, _, _, _, _⟩) (hc19) (by rfl) _ _ (by rfl) (by rfl) _ Tryd.underlying35 (by rfl) (sizeRun) (by rfl) ?_)
    | fail)
  have hdr := xtdrop H19.out.1 (by decide) (2, 5, ()) (by decide) 3 F L nf cf nl cl kn_drop
  unfold runv at hdr
  refine hdr.mono ?_
  rintro e w20 ⟨rfl, hG, hS⟩
  have hc20 := hS.so.blk hc19 (by unfold NG; decide)
  have H20 := Lib.hid (And.intro hG (H19.out.2.trans hS.bel))
  clear hdr hG hS hc19 H19
  go_wp2_with (first
    | ((with_reducible show wpList _ _ _ ((⟨some 105, _, _, _, _, _⟩ : Oper) :: _) _ _); refine wpList_want (by rfl) ?_; refine wpList_load_blk (o := ⟨some 105, _, _, _, _, _⟩) (hc20) (by rfl) _ _ (by rfl) (by rfl) _ Tryd.underlying35 (by rfl) (sizeRun) (by rfl) ?_)
    | fail)
  have hdr := xtdrop H20.out.1 (by decide) (2, 5, ()) (by decide) 3 F L nf cf nl cl kn_drop2
  unfold runv at hdr
  refine hdr.mono ?_
  rintro e w21 ⟨rfl, hG, hS⟩
  have hc21 := hS.so.blk hc20 (by unfold NG; decide)
  have H21 := Lib.hid (And.intro hG (H20.out.2.trans hS.bel))
  clear hdr hG hS hc20 H20
  go_wp2_with fail
  -- a byte is turned
  obtain ⟨d', hd1, hd2, hd3, hd4⟩ := kn_turn
  have HD := Lib.hid (And.intro hd3 hd4)
  have htn := xtturn H21.out.1 104 60 1 hd1 hd2
  rw [show iu8 1 = 1 from rfl] at htn
  clear hd1 hd2 hd3 hd4
  refine htn.mono ?_
  rintro e w22 ⟨rfl, hG, hS⟩
  have hc22 := hS.so.blk hc21 (by unfold NG; decide)
  have H22 := Lib.hid (And.intro hG (H21.out.2.trans hS.bel))
  clear htn hG hS hc21 H21
  go_wp2_with fail
  -- no pairs
  refine (xtbuild_bad H22.out.1 none 0 [] (by decide) (Pairs.nil _ _) 0 pack_nil).mono ?_
  rintro e w23 ⟨rfl, hG, hS⟩
  have hc23 := hS.so.blk hc22 (by unfold NG; decide)
  have H23 := Lib.hid (And.intro hG (H22.out.2.trans hS.bel))
  clear hG hS hc22 H22
  go_upto_region 12 with fail
  -- the pairs in the wrong order
  have hbz := (Below.refl w23.heap.size w23).alloc (Nat.le_refl _) (.cells #[.int .i64 0, .int .i64 0, .int .i64 0, .slice none 0 0, .slice none 0 0] 35)
  have hzr := zeroRunrun
  have H24 := Lib.hid (And.intro (H23.out.1.belowT hbz).1 (And.intro (H23.out.2.trans (H23.out.1.belowT hbz).2.bel) (hc23.below hbz hc23.lt)))
  generalize w23.alloc (.cells #[.int .i64 0, .int .i64 0, .int .i64 0, .slice none 0 0, .slice none 0 0] 35) = w24 at H24 ⊢
  generalize w23.heap.size = b14
  clear hbz hc23 H23 hr5 hz
  go_cut [17] from 20 (fun s17 wv => s17 = .int .i64 2 ∧ GX w.heap.size [] wv gp dp kn2 d' ∧ Below w.heap.size w wv ∧ Blk wv rb 35 #[.int .i64 2, .int .i64 5, .int .i64 3, .slice F nf cf, .slice L nl cl])
  case first =>
    have hd24 : Below w24.heap.size w24 w24.drew := (Below.refl _ _).drew
    refine wp_region_treeN (fun _ => True) (PlanT.takes [0] (.opt 1 (PlanT.takes [2] (PlanT.takes [3] (.opt 4 (PlanT.takes [5] (PlanT.takes [6] (.opt 7 (.opt 8 (PlanT.takes [9, 10, 11] (.opt 12 (.opt 13 (PlanT.takes [14] .done) .no) .no)) (.opt 12 (.opt 8 (PlanT.takes [9, 10, 11] (.opt 13 (PlanT.takes [14] .done) .no)) .no) .no)) (.opt 12 (.opt 7 (.opt 8 (PlanT.takes [9, 10, 11] (.opt 13 (PlanT.takes [14] .done) .no)) .no) .no) .no)))) (.opt 12 (.opt 4 (PlanT.takes [5] (PlanT.takes [6] (.opt 7 (.opt 8 (PlanT.takes [9, 10, 11] (.opt 13 (PlanT.takes [14] .done) .no)) .no) .no))) .no) .no)))) (.opt 12 (.opt 1 (PlanT.takes [2] (PlanT.takes [3] (.opt 4 (PlanT.takes [5] (PlanT.takes [6] (.opt 7 (.opt 8 (PlanT.takes [9, 10, 11] (.opt 13 (PlanT.takes [14] .done) .no)) .no) .no))) .no))) .no) .no))) (by kernel_rfl) (by kernel_rfl) (trivial) ?_
    refine wpTreeN_pure _ _ _ (by rfl) (by rfl) ?_
    dsimp only [List.filterMap, List.getElem?_cons_zero, List.getElem?_cons_succ]
    repeat (go_big_quiet_step (fail))
    refine wpQuiet_nil ?_
    generalize w24.drew = v0 at hd24 ⊢
    refine wpTreeN_opt _ rfl ?_ ?_
    · skip
      go_wp2_with fail
      refine (abc_any v0).mono ?_
      rintro e v1 hA
      obtain ⟨b1, rfl, -, -, hbx1, hone⟩ := abc_at hA
      obtain ⟨a1, c1, A1, e1, hr1, hp1, -, -, hge1⟩ := hone 1 (by decide)
      have hB1 := hd24.trans (hbx1.mono hd24.size)
      have hs1 : v1.rangeAt b1 3 [.slice (some a1) 1 c1, .slice A1 0 e1, .bool true] := hr1
      clear hA hone hr1 hge1 hbx1
      go_wp2_with fail
      refine TreeNQ.nar (fun u => u.rangeAt b1 3 [.slice (some a1) 1 c1, .slice A1 0 e1, .bool true]) (fun _ h => trivial) hs1 ?_
      refine wpTreeN_pure _ _ _ (by rfl) (by rfl) ?_
      dsimp only [List.filterMap, List.getElem?_cons_zero, List.getElem?_cons_succ]
      repeat (go_big_quiet_step (fail))
      refine wpQuiet_nil ?_
      refine wpTreeN_takeL _ _ _ (by rfl) (by rfl) (hs1) ?_
      dsimp only [List.filterMap, List.getElem?_cons_zero, List.getElem?_cons_succ]
      (refine wpQuiet_load_mid (fun w' hw' => hw') (by rfl) _ _ (by rfl) (by rfl) _ Tryd.underlying40 (by rfl) (sizePair) (by rfl) ?_; simp only [Act.put, List.setIfInBounds_toArray, List.set_cons_zero, List.set_cons_succ])
      refine wpQuiet_nil ?_
      refine wpTreeN_opt _ rfl ?_ ?_
      · skip
        go_wp2_with fail
        refine (abc_any v1).mono ?_
        rintro e v2 hA
        obtain ⟨b2, rfl, -, -, hbx2, hone⟩ := abc_at hA
        obtain ⟨a2, c2, A2, e2, hr2, hp2, -, -, hge2⟩ := hone 0 (by decide)
        have hB2 := hB1.trans (hbx2.mono hB1.size)
        have r12 := rangeAt_below hs1 hbx2
        have f12 := hp1.below hbx2
        have hs2 : v2.rangeAt b2 0 [.slice (some a2) 1 c2, .slice A2 1 e2, .bool false] := hr2
        clear hA hone hr2 hge2 hbx2
        go_wp2_with fail
        refine TreeNQ.nar (fun u => u.rangeAt b1 3 [.slice (some a1) 1 c1, .slice A1 0 e1, .bool true] ∧ u.rangeAt b2 0 [.slice (some a2) 1 c2, .slice A2 1 e2, .bool false]) (fun _ h => h.1) ⟨r12, hs2⟩ ?_
        refine wpTreeN_pure _ _ _ (by rfl) (by rfl) ?_
        dsimp only [List.filterMap, List.getElem?_cons_zero, List.getElem?_cons_succ]
        repeat (go_big_quiet_step (fail))
        refine wpQuiet_nil ?_
        refine wpTreeN_takeL _ _ _ (by rfl) (by rfl) (⟨r12, hs2⟩) ?_
        dsimp only [List.filterMap, List.getElem?_cons_zero, List.getElem?_cons_succ]
        (refine wpQuiet_load_mid (fun w' hw' => hw'.2) (by rfl) _ _ (by rfl) (by rfl) _ Tryd.underlying40 (by rfl) (sizePair) (by rfl) ?_; simp only [Act.put, List.setIfInBounds_toArray, List.set_cons_zero, List.set_cons_succ])
        refine wpQuiet_nil ?_
        refine wpTreeN_opt _ rfl ?_ ?_
        · skip
          go_wp2_with fail
          have hbx3 := (Below.refl v2.heap.size v2).alloc (Nat.le_refl _) (.cells #[.slice (some a1) 1 c1, .slice A1 0 e1, .bool true, .slice (some a2) 1 c2, .slice A2 1 e2, .bool false] 40)
          have hB3 := hB2.trans (hbx3.mono hB2.size)
          have hg3 := Blk.new v2 40 #[.slice (some a1) 1 c1, .slice A1 0 e1, .bool true, .slice (some a2) 1 c2, .slice A2 1 e2, .bool false]
          have r13 := rangeAt_below r12 hbx3
          have r03 := rangeAt_below hs2 hbx3
          have f13 := f12.below hbx3
          have f03 := hp2.below hbx3
          have hl3 : Pairs (v2.alloc (.cells #[.slice (some a1) 1 c1, .slice A1 0 e1, .bool true, .slice (some a2) 1 c2, .slice A2 1 e2, .bool false] 40)) (some ⟨v2.heap.size, 0, none⟩) [([98], [], true, ()), ([97], [49], false, ())] := pairs_two hg3 f13 f03
          clear hbx3 hg3
          generalize v2.alloc (.cells #[.slice (some a1) 1 c1, .slice A1 0 e1, .bool true, .slice (some a2) 1 c2, .slice A2 1 e2, .bool false] 40) = v3 at hB3 r13 r03 f13 f03 hl3 ⊢
          generalize v2.heap.size = g3 at hl3 ⊢
          refine TreeNQ.in_ ⟨r13, r03⟩ ?_
          refine wpTreeN_opt _ rfl ?_ ?_
          · skip
            go_wp2_with fail
            refine (xtbuild_badB (H24.out.1.belowT hB3).1 (some ⟨g3, 0, none⟩) 2 [([98], [], true, ()), ([97], [49], false, ())] (by decide) hl3 0 pack_ba).mono ?_
            rintro e v4 ⟨rfl, hbx4⟩
            have hB4 := hB3.trans (hbx4.mono hB3.size)
            have r14 := rangeAt_below r13 hbx4
            have r04 := rangeAt_below r03 hbx4
            have f14 := f13.below hbx4
            have f04 := f03.below hbx4
            clear hbx4
            go_wp2_with fail
            refine TreeNQ.in_ ⟨r14, r04⟩ ?_
            refine wpTreeN_pure _ _ _ (by rfl) (by rfl) ?_
            dsimp only [List.filterMap, List.getElem?_cons_zero, List.getElem?_cons_succ]
            repeat (go_big_quiet_step (fail))
            refine wpQuiet_nil ?_
            refine wpTreeN_one _ rfl ?_
            have hn51 : b1 ≠ v4.heap.size := Nat.ne_of_lt (rangeAt_lt r14)
            have hn50 : b2 ≠ v4.heap.size := Nat.ne_of_lt (rangeAt_lt r04)
            go_wp2_with fail
            have hbx5 := (Below.refl v4.heap.size v4).alloc (Nat.le_refl _) (.cells #[.int .i64 0, .int .i64 0, .int .i64 0, .slice none 0 0, .slice none 0 0] 35)
            have hB5 := hB4.trans (hbx5.mono hB4.size)
            have hz5 := Blk.new v4 35 #[.int .i64 0, .int .i64 0, .int .i64 0, .slice none 0 0, .slice none 0 0]
            have hy5 : w24.heap.size ≤ v4.heap.size := hB4.size
            have r15 := rangeAt_below r14 hbx5
            have r05 := rangeAt_below r04 hbx5
            have f15 := f14.below hbx5
            have f05 := f04.below hbx5
            clear hbx5
            generalize v4.alloc (.cells #[.int .i64 0, .int .i64 0, .int .i64 0, .slice none 0 0, .slice none 0 0] 35) = v5 at hB5 hz5 r15 r05 f15 f05 ⊢
            generalize v4.heap.size = g5 at hz5 hy5 hn51 hn50 ⊢
            refine TreeNQ.in_ ⟨r15, r05⟩ ?_
            refine wpTreeN_one _ rfl ?_
            go_wp2_with (first
              | ((with_reducible show wpList _ _ _ ((⟨none, _, _, _, _, _⟩ : Oper) :: _) _ _); refine wpList_store_blk (o := ⟨none, _, _, _, _, _⟩) (hz5) (by rfl) _ _ _ (by rfl) (by rfl) (#[.int .i64 0, .int .i64 0, .int .i64 0, .slice none 0 0, .slice none 0 0]) (by rfl) (sizeRun) (by rfl) (by rfl) (by simp [Value.oneCell']) ?_; intro v6 h6 hu6)
              | fail)
            have hB6 := hB5.upd hu6 hy5
            refine TreeNQ.in_ ⟨rangeAt_upd r15 hu6 hn51, rangeAt_upd r05 hu6 hn50⟩ ?_
            refine wpTreeN_pure _ _ _ (by rfl) (by rfl) ?_
            dsimp only [List.filterMap, List.getElem?_cons_zero, List.getElem?_cons_succ]
            repeat (go_big_quiet_step (fail))
            refine wpQuiet_nil ?_
            refine wpTreeN_done ?_
            have HF := Lib.hid (show GX w.heap.size [] v6 gp dp kn2 d' ∧ Below w.heap.size w v6 ∧ Blk v6 rb 35 #[.int .i64 2, .int .i64 5, .int .i64 3, .slice F nf cf, .slice L nl cl] from ⟨(H24.out.1.belowT hB6).1, H24.out.2.1.trans (hB6.mono H24.out.2.1.size), H24.out.2.2.below hB6 H24.out.2.2.lt⟩)
            go_wp2_with fail
            go_meet
            case rel => exact ⟨rfl, HF.out⟩
          refine wpTreeN_one _ rfl ?_
          have hn71 : b1 ≠ v3.heap.size := Nat.ne_of_lt (rangeAt_lt r13)
          have hn70 : b2 ≠ v3.heap.size := Nat.ne_of_lt (rangeAt_lt r03)
          go_wp2_with fail
          have hbx7 := (Below.refl v3.heap.size v3).alloc (Nat.le_refl _) (.cells #[.int .i64 0, .int .i64 0, .int .i64 0, .slice none 0 0, .slice none 0 0] 35)
          have hB7 := hB3.trans (hbx7.mono hB3.size)
          have hz7 := Blk.new v3 35 #[.int .i64 0, .int .i64 0, .int .i64 0, .slice none 0 0, .slice none 0 0]
          have hy7 : w24.heap.size ≤ v3.heap.size := hB3.size
          have r17 := rangeAt_below r13 hbx7
          have r07 := rangeAt_below r03 hbx7
          have f17 := f13.below hbx7
          have f07 := f03.below hbx7
          have lst7 := hl3.below hbx7
          clear hbx7
          generalize v3.alloc (.cells #[.int .i64 0, .int .i64 0, .int .i64 0, .slice none 0 0, .slice none 0 0] 35) = v7 at hB7 hz7 r17 r07 f17 f07 lst7 ⊢
          generalize v3.heap.size = g7 at hz7 hy7 hn71 hn70 ⊢
          refine TreeNQ.in_ ⟨r17, r07⟩ ?_
          refine wpTreeN_one _ rfl ?_
          go_wp2_with fail
          refine (xtbuild_badB (H24.out.1.belowT hB7).1 (some ⟨g3, 0, none⟩) 2 [([98], [], true, ()), ([97], [49], false, ())] (by decide) lst7 0 pack_ba).mono ?_
          rintro e v8 ⟨rfl, hbx8⟩
          have hB8 := hB7.trans (hbx8.mono hB7.size)
          have r18 := rangeAt_below r17 hbx8
          have r08 := rangeAt_below r07 hbx8
          have f18 := f17.below hbx8
          have f08 := f07.below hbx8
          have hx8 := hz7.below hbx8 hz7.lt
          clear hbx8
          go_wp2_with fail
          refine TreeNQ.in_ ⟨r18, r08⟩ ?_
          refine wpTreeN_pure _ _ _ (by rfl) (by rfl) ?_
          dsimp only [List.filterMap, List.getElem?_cons_zero, List.getElem?_cons_succ]
          repeat (go_big_quiet_step (fail))
          refine wpQuiet_nil ?_
          refine wpTreeN_one _ rfl ?_
          go_wp2_with (first
            | ((with_reducible show wpList _ _ _ ((⟨none, _, _, _, _, _⟩ : Oper) :: _) _ _); refine wpList_store_blk (o := ⟨none, _, _, _, _, _⟩) (hx8) (by rfl) _ _ _ (by rfl) (by rfl) (#[.int .i64 0, .int .i64 0, .int .i64 0, .slice none 0 0, .slice none 0 0]) (by rfl) (sizeRun) (by rfl) (by rfl) (by simp [Value.oneCell']) ?_; intro v9 h9 hu9)
            | fail)
          have hB9 := hB8.upd hu9 hy7
          refine TreeNQ.in_ ⟨rangeAt_upd r18 hu9 hn71, rangeAt_upd r08 hu9 hn70⟩ ?_
          refine wpTreeN_pure _ _ _ (by rfl) (by rfl) ?_
          dsimp only [List.filterMap, List.getElem?_cons_zero, List.getElem?_cons_succ]
          repeat (go_big_quiet_step (fail))
          refine wpQuiet_nil ?_
          refine wpTreeN_done ?_
          have HF := Lib.hid (show GX w.heap.size [] v9 gp dp kn2 d' ∧ Below w.heap.size w v9 ∧ Blk v9 rb 35 #[.int .i64 2, .int .i64 5, .int .i64 3, .slice F nf cf, .slice L nl cl] from ⟨(H24.out.1.belowT hB9).1, H24.out.2.1.trans (hB9.mono H24.out.2.1.size), H24.out.2.2.below hB9 H24.out.2.2.lt⟩)
          go_wp2_with fail
          go_meet
          case rel => exact ⟨rfl, HF.out⟩
        refine wpTreeN_one _ rfl ?_
        have hn101 : b1 ≠ v2.heap.size := Nat.ne_of_lt (rangeAt_lt r12)
        have hn100 : b2 ≠ v2.heap.size := Nat.ne_of_lt (rangeAt_lt hs2)
        go_wp2_with fail
        have hbx10 := (Below.refl v2.heap.size v2).alloc (Nat.le_refl _) (.cells #[.int .i64 0, .int .i64 0, .int .i64 0, .slice none 0 0, .slice none 0 0] 35)
        have hB10 := hB2.trans (hbx10.mono hB2.size)
        have hz10 := Blk.new v2 35 #[.int .i64 0, .int .i64 0, .int .i64 0, .slice none 0 0, .slice none 0 0]
        have hy10 : w24.heap.size ≤ v2.heap.size := hB2.size
        have r110 := rangeAt_below r12 hbx10
        have r010 := rangeAt_below hs2 hbx10
        have f110 := f12.below hbx10
        have f010 := hp2.below hbx10
        clear hbx10
        generalize v2.alloc (.cells #[.int .i64 0, .int .i64 0, .int .i64 0, .slice none 0 0, .slice none 0 0] 35) = v10 at hB10 hz10 r110 r010 f110 f010 ⊢
        generalize v2.heap.size = g10 at hz10 hy10 hn101 hn100 ⊢
        refine TreeNQ.in_ ⟨r110, r010⟩ ?_
        refine wpTreeN_one _ rfl ?_
        go_wp2_with fail
        have hbx11 := (Below.refl v10.heap.size v10).alloc (Nat.le_refl _) (.cells #[.slice (some a1) 1 c1, .slice A1 0 e1, .bool true, .slice (some a2) 1 c2, .slice A2 1 e2, .bool false] 40)
        have hB11 := hB10.trans (hbx11.mono hB10.size)
        have hg11 := Blk.new v10 40 #[.slice (some a1) 1 c1, .slice A1 0 e1, .bool true, .slice (some a2) 1 c2, .slice A2 1 e2, .bool false]
        have r111 := rangeAt_below r110 hbx11
        have r011 := rangeAt_below r010 hbx11
        have f111 := f110.below hbx11
        have f011 := f010.below hbx11
        have hx11 := hz10.below hbx11 hz10.lt
        have hl11 : Pairs (v10.alloc (.cells #[.slice (some a1) 1 c1, .slice A1 0 e1, .bool true, .slice (some a2) 1 c2, .slice A2 1 e2, .bool false] 40)) (some ⟨v10.heap.size, 0, none⟩) [([98], [], true, ()), ([97], [49], false, ())] := pairs_two hg11 f111 f011
        clear hbx11 hg11
        generalize v10.alloc (.cells #[.slice (some a1) 1 c1, .slice A1 0 e1, .bool true, .slice (some a2) 1 c2, .slice A2 1 e2, .bool false] 40) = v11 at hB11 r111 r011 f111 f011 hx11 hl11 ⊢
        generalize v10.heap.size = g11 at hl11 ⊢
        refine TreeNQ.in_ ⟨r111, r011⟩ ?_
        refine wpTreeN_one _ rfl ?_
        go_wp2_with fail
        refine (xtbuild_badB (H24.out.1.belowT hB11).1 (some ⟨g11, 0, none⟩) 2 [([98], [], true, ()), ([97], [49], false, ())] (by decide) hl11 0 pack_ba).mono ?_
        rintro e v12 ⟨rfl, hbx12⟩
        have hB12 := hB11.trans (hbx12.mono hB11.size)
        have r112 := rangeAt_below r111 hbx12
        have r012 := rangeAt_below r011 hbx12
        have f112 := f111.below hbx12
        have f012 := f011.below hbx12
        have hx12 := hx11.below hbx12 hx11.lt
        clear hbx12
        go_wp2_with fail
        refine TreeNQ.in_ ⟨r112, r012⟩ ?_
        refine wpTreeN_pure _ _ _ (by rfl) (by rfl) ?_
        dsimp only [List.filterMap, List.getElem?_cons_zero, List.getElem?_cons_succ]
        repeat (go_big_quiet_step (fail))
        refine wpQuiet_nil ?_
        refine wpTreeN_one _ rfl ?_
        go_wp2_with (first
          | ((with_reducible show wpList _ _ _ ((⟨none, _, _, _, _, _⟩ : Oper) :: _) _ _); refine wpList_store_blk (o := ⟨none, _, _, _, _, _⟩) (hx12) (by rfl) _ _ _ (by rfl) (by rfl) (#[.int .i64 0, .int .i64 0, .int .i64 0, .slice none 0 0, .slice none 0 0]) (by rfl) (sizeRun) (by rfl) (by rfl) (by simp [Value.oneCell']) ?_; intro v13 h13 hu13)
          | fail)
        have hB13 := hB12.upd hu13 hy10
        refine TreeNQ.in_ ⟨rangeAt_upd r112 hu13 hn101, rangeAt_upd r012 hu13 hn100⟩ ?_
        refine wpTreeN_pure _ _ _ (by rfl) (by rfl) ?_
        dsimp only [List.filterMap, List.getElem?_cons_zero, List.getElem?_cons_succ]
        repeat (go_big_quiet_step (fail))
        refine wpQuiet_nil ?_
        refine wpTreeN_done ?_
        have HF := Lib.hid (show GX w.heap.size [] v13 gp dp kn2 d' ∧ Below w.heap.size w v13 ∧ Blk v13 rb 35 #[.int .i64 2, .int .i64 5, .int .i64 3, .slice F nf cf, .slice L nl cl] from ⟨(H24.out.1.belowT hB13).1, H24.out.2.1.trans (hB13.mono H24.out.2.1.size), H24.out.2.2.below hB13 H24.out.2.2.lt⟩)
        go_wp2_with fail
        go_meet
        case rel => exact ⟨rfl, HF.out⟩
      refine wpTreeN_one _ rfl ?_
      have hn141 : b1 ≠ v1.heap.size := Nat.ne_of_lt (rangeAt_lt hs1)
      go_wp2_with fail
      have hbx14 := (Below.refl v1.heap.size v1).alloc (Nat.le_refl _) (.cells #[.int .i64 0, .int .i64 0, .int .i64 0, .slice none 0 0, .slice none 0 0] 35)
      have hB14 := hB1.trans (hbx14.mono hB1.size)
      have hz14 := Blk.new v1 35 #[.int .i64 0, .int .i64 0, .int .i64 0, .slice none 0 0, .slice none 0 0]
      have hy14 : w24.heap.size ≤ v1.heap.size := hB1.size
      have r114 := rangeAt_below hs1 hbx14
      have f114 := hp1.below hbx14
      clear hbx14
      generalize v1.alloc (.cells #[.int .i64 0, .int .i64 0, .int .i64 0, .slice none 0 0, .slice none 0 0] 35) = v14 at hB14 hz14 r114 f114 ⊢
      generalize v1.heap.size = g14 at hz14 hy14 hn141 ⊢
      refine TreeNQ.in_ r114 ?_
      refine wpTreeN_one _ rfl ?_
      go_wp2_with fail
      refine (abc_any v14).mono ?_
      rintro e v15 hA
      obtain ⟨b15, rfl, -, -, hbx15, hone⟩ := abc_at hA
      obtain ⟨a15, c15, A15, e15, hr15, hp15, -, -, hge15⟩ := hone 0 (by decide)
      have hB15 := hB14.trans (hbx15.mono hB14.size)
      have hn15 : b15 ≠ g14 := Nat.ne_of_gt (Nat.lt_of_lt_of_le hz14.lt hge15)
      have r115 := rangeAt_below r114 hbx15
      have f115 := f114.below hbx15
      have hx15 := hz14.below hbx15 hz14.lt
      have hs15 : v15.rangeAt b15 0 [.slice (some a15) 1 c15, .slice A15 1 e15, .bool false] := hr15
      clear hA hone hr15 hge15 hbx15
      go_wp2_with fail
      refine TreeNQ.nar (fun u => u.rangeAt b1 3 [.slice (some a1) 1 c1, .slice A1 0 e1, .bool true] ∧ u.rangeAt b15 0 [.slice (some a15) 1 c15, .slice A15 1 e15, .bool false]) (fun _ h => h.1) ⟨r115, hs15⟩ ?_
      refine wpTreeN_pure _ _ _ (by rfl) (by rfl) ?_
      dsimp only [List.filterMap, List.getElem?_cons_zero, List.getElem?_cons_succ]
      repeat (go_big_quiet_step (fail))
      refine wpQuiet_nil ?_
      refine wpTreeN_takeL _ _ _ (by rfl) (by rfl) (⟨r115, hs15⟩) ?_
      dsimp only [List.filterMap, List.getElem?_cons_zero, List.getElem?_cons_succ]
      (refine wpQuiet_load_mid (fun w' hw' => hw'.2) (by rfl) _ _ (by rfl) (by rfl) _ Tryd.underlying40 (by rfl) (sizePair) (by rfl) ?_; simp only [Act.put, List.setIfInBounds_toArray, List.set_cons_zero, List.set_cons_succ])
      refine wpQuiet_nil ?_
      refine wpTreeN_one _ rfl ?_
      go_wp2_with fail
      have hbx16 := (Below.refl v15.heap.size v15).alloc (Nat.le_refl _) (.cells #[.slice (some a1) 1 c1, .slice A1 0 e1, .bool true, .slice (some a15) 1 c15, .slice A15 1 e15, .bool false] 40)
      have hB16 := hB15.trans (hbx16.mono hB15.size)
      have hg16 := Blk.new v15 40 #[.slice (some a1) 1 c1, .slice A1 0 e1, .bool true, .slice (some a15) 1 c15, .slice A15 1 e15, .bool false]
      have r116 := rangeAt_below r115 hbx16
      have r016 := rangeAt_below hs15 hbx16
      have f116 := f115.below hbx16
      have f016 := hp15.below hbx16
      have hx16 := hx15.below hbx16 hx15.lt
      have hl16 : Pairs (v15.alloc (.cells #[.slice (some a1) 1 c1, .slice A1 0 e1, .bool true, .slice (some a15) 1 c15, .slice A15 1 e15, .bool false] 40)) (some ⟨v15.heap.size, 0, none⟩) [([98], [], true, ()), ([97], [49], false, ())] := pairs_two hg16 f116 f016
      clear hbx16 hg16
      generalize v15.alloc (.cells #[.slice (some a1) 1 c1, .slice A1 0 e1, .bool true, .slice (some a15) 1 c15, .slice A15 1 e15, .bool false] 40) = v16 at hB16 r116 r016 f116 f016 hx16 hl16 ⊢
      generalize v15.heap.size = g16 at hl16 ⊢
      refine TreeNQ.in_ ⟨r116, r016⟩ ?_
      refine wpTreeN_one _ rfl ?_
      go_wp2_with fail
      refine (xtbuild_badB (H24.out.1.belowT hB16).1 (some ⟨g16, 0, none⟩) 2 [([98], [], true, ()), ([97], [49], false, ())] (by decide) hl16 0 pack_ba).mono ?_
      rintro e v17 ⟨rfl, hbx17⟩
      have hB17 := hB16.trans (hbx17.mono hB16.size)
      have r117 := rangeAt_below r116 hbx17
      have r017 := rangeAt_below r016 hbx17
      have f117 := f116.below hbx17
      have f017 := f016.below hbx17
      have hx17 := hx16.below hbx17 hx16.lt
      clear hbx17
      go_wp2_with fail
      refine TreeNQ.in_ ⟨r117, r017⟩ ?_
      refine wpTreeN_pure _ _ _ (by rfl) (by rfl) ?_
      dsimp only [List.filterMap, List.getElem?_cons_zero, List.getElem?_cons_succ]
      repeat (go_big_quiet_step (fail))
      refine wpQuiet_nil ?_
      refine wpTreeN_one _ rfl ?_
      go_wp2_with (first
        | ((with_reducible show wpList _ _ _ ((⟨none, _, _, _, _, _⟩ : Oper) :: _) _ _); refine wpList_store_blk (o := ⟨none, _, _, _, _, _⟩) (hx17) (by rfl) _ _ _ (by rfl) (by rfl) (#[.int .i64 0, .int .i64 0, .int .i64 0, .slice none 0 0, .slice none 0 0]) (by rfl) (sizeRun) (by rfl) (by rfl) (by simp [Value.oneCell']) ?_; intro v18 h18 hu18)
        | fail)
      have hB18 := hB17.upd hu18 hy14
      refine TreeNQ.in_ ⟨rangeAt_upd r117 hu18 hn141, rangeAt_upd r017 hu18 hn15⟩ ?_
      refine wpTreeN_pure _ _ _ (by rfl) (by rfl) ?_
      dsimp only [List.filterMap, List.getElem?_cons_zero, List.getElem?_cons_succ]
      repeat (go_big_quiet_step (fail))
      refine wpQuiet_nil ?_
      refine wpTreeN_done ?_
      have HF := Lib.hid (show GX w.heap.size [] v18 gp dp kn2 d' ∧ Below w.heap.size w v18 ∧ Blk v18 rb 35 #[.int .i64 2, .int .i64 5, .int .i64 3, .slice F nf cf, .slice L nl cl] from ⟨(H24.out.1.belowT hB18).1, H24.out.2.1.trans (hB18.mono H24.out.2.1.size), H24.out.2.2.below hB18 H24.out.2.2.lt⟩)
      go_wp2_with fail
      go_meet
      case rel => exact ⟨rfl, HF.out⟩
    refine wpTreeN_one _ rfl ?_
    go_wp2_with fail
    have hbx19 := (Below.refl v0.heap.size v0).alloc (Nat.le_refl _) (.cells #[.int .i64 0, .int .i64 0, .int .i64 0, .slice none 0 0, .slice none 0 0] 35)
    have hB19 := hd24.trans (hbx19.mono hd24.size)
    have hz19 := Blk.new v0 35 #[.int .i64 0, .int .i64 0, .int .i64 0, .slice none 0 0, .slice none 0 0]
    have hy19 : w24.heap.size ≤ v0.heap.size := hd24.size
    clear hbx19
    generalize v0.alloc (.cells #[.int .i64 0, .int .i64 0, .int .i64 0, .slice none 0 0, .slice none 0 0] 35) = v19 at hB19 hz19 ⊢
    generalize v0.heap.size = g19 at hz19 hy19 ⊢
    refine TreeNQ.in_ trivial ?_
    refine wpTreeN_one _ rfl ?_
    go_wp2_with fail
    refine (abc_any v19).mono ?_
    rintro e v20 hA
    obtain ⟨b20, rfl, -, -, hbx20, hone⟩ := abc_at hA
    obtain ⟨a20, c20, A20, e20, hr20, hp20, -, -, hge20⟩ := hone 1 (by decide)
    have hB20 := hB19.trans (hbx20.mono hB19.size)
    have hn20 : b20 ≠ g19 := Nat.ne_of_gt (Nat.lt_of_lt_of_le hz19.lt hge20)
    have hx20 := hz19.below hbx20 hz19.lt
    have hs20 : v20.rangeAt b20 3 [.slice (some a20) 1 c20, .slice A20 0 e20, .bool true] := hr20
    clear hA hone hr20 hge20 hbx20
    go_wp2_with fail
    refine TreeNQ.nar (fun u => u.rangeAt b20 3 [.slice (some a20) 1 c20, .slice A20 0 e20, .bool true]) (fun _ h => trivial) hs20 ?_
    refine wpTreeN_pure _ _ _ (by rfl) (by rfl) ?_
    dsimp only [List.filterMap, List.getElem?_cons_zero, List.getElem?_cons_succ]
    repeat (go_big_quiet_step (fail))
    refine wpQuiet_nil ?_
    refine wpTreeN_takeL _ _ _ (by rfl) (by rfl) (hs20) ?_
    dsimp only [List.filterMap, List.getElem?_cons_zero, List.getElem?_cons_succ]
    (refine wpQuiet_load_mid (fun w' hw' => hw') (by rfl) _ _ (by rfl) (by rfl) _ Tryd.underlying40 (by rfl) (sizePair) (by rfl) ?_; simp only [Act.put, List.setIfInBounds_toArray, List.set_cons_zero, List.set_cons_succ])
    refine wpQuiet_nil ?_
    refine wpTreeN_one _ rfl ?_
    go_wp2_with fail
    refine (abc_any v20).mono ?_
    rintro e v21 hA
    obtain ⟨b21, rfl, -, -, hbx21, hone⟩ := abc_at hA
    obtain ⟨a21, c21, A21, e21, hr21, hp21, -, -, hge21⟩ := hone 0 (by decide)
    have hB21 := hB20.trans (hbx21.mono hB20.size)
    have hn21 : b21 ≠ g19 := Nat.ne_of_gt (Nat.lt_of_lt_of_le hx20.lt hge21)
    have r121 := rangeAt_below hs20 hbx21
    have f121 := hp20.below hbx21
    have hx21 := hx20.below hbx21 hx20.lt
    have hs21 : v21.rangeAt b21 0 [.slice (some a21) 1 c21, .slice A21 1 e21, .bool false] := hr21
    clear hA hone hr21 hge21 hbx21
    go_wp2_with fail
    refine TreeNQ.nar (fun u => u.rangeAt b20 3 [.slice (some a20) 1 c20, .slice A20 0 e20, .bool true] ∧ u.rangeAt b21 0 [.slice (some a21) 1 c21, .slice A21 1 e21, .bool false]) (fun _ h => h.1) ⟨r121, hs21⟩ ?_
    refine wpTreeN_pure _ _ _ (by rfl) (by rfl) ?_
    dsimp only [List.filterMap, List.getElem?_cons_zero, List.getElem?_cons_succ]
    repeat (go_big_quiet_step (fail))
    refine wpQuiet_nil ?_
    refine wpTreeN_takeL _ _ _ (by rfl) (by rfl) (⟨r121, hs21⟩) ?_
    dsimp only [List.filterMap, List.getElem?_cons_zero, List.getElem?_cons_succ]
    (refine wpQuiet_load_mid (fun w' hw' => hw'.2) (by rfl) _ _ (by rfl) (by rfl) _ Tryd.underlying40 (by rfl) (sizePair) (by rfl) ?_; simp only [Act.put, List.setIfInBounds_toArray, List.set_cons_zero, List.set_cons_succ])
    refine wpQuiet_nil ?_
    refine wpTreeN_one _ rfl ?_
    go_wp2_with fail
    have hbx22 := (Below.refl v21.heap.size v21).alloc (Nat.le_refl _) (.cells #[.slice (some a20) 1 c20, .slice A20 0 e20, .bool true, .slice (some a21) 1 c21, .slice A21 1 e21, .bool false] 40)
    have hB22 := hB21.trans (hbx22.mono hB21.size)
    have hg22 := Blk.new v21 40 #[.slice (some a20) 1 c20, .slice A20 0 e20, .bool true, .slice (some a21) 1 c21, .slice A21 1 e21, .bool false]
    have r122 := rangeAt_below r121 hbx22
    have r022 := rangeAt_below hs21 hbx22
    have f122 := f121.below hbx22
    have f022 := hp21.below hbx22
    have hx22 := hx21.below hbx22 hx21.lt
    have hl22 : Pairs (v21.alloc (.cells #[.slice (some a20) 1 c20, .slice A20 0 e20, .bool true, .slice (some a21) 1 c21, .slice A21 1 e21, .bool false] 40)) (some ⟨v21.heap.size, 0, none⟩) [([98], [], true, ()), ([97], [49], false, ())] := pairs_two hg22 f122 f022
    clear hbx22 hg22
    generalize v21.alloc (.cells #[.slice (some a20) 1 c20, .slice A20 0 e20, .bool true, .slice (some a21) 1 c21, .slice A21 1 e21, .bool false] 40) = v22 at hB22 r122 r022 f122 f022 hx22 hl22 ⊢
    generalize v21.heap.size = g22 at hl22 ⊢
    refine TreeNQ.in_ ⟨r122, r022⟩ ?_
    refine wpTreeN_one _ rfl ?_
    go_wp2_with fail
    refine (xtbuild_badB (H24.out.1.belowT hB22).1 (some ⟨g22, 0, none⟩) 2 [([98], [], true, ()), ([97], [49], false, ())] (by decide) hl22 0 pack_ba).mono ?_
    rintro e v23 ⟨rfl, hbx23⟩
    have hB23 := hB22.trans (hbx23.mono hB22.size)
    have r123 := rangeAt_below r122 hbx23
    have r023 := rangeAt_below r022 hbx23
    have f123 := f122.below hbx23
    have f023 := f022.below hbx23
    have hx23 := hx22.below hbx23 hx22.lt
    clear hbx23
    go_wp2_with fail
    refine TreeNQ.in_ ⟨r123, r023⟩ ?_
    refine wpTreeN_pure _ _ _ (by rfl) (by rfl) ?_
    dsimp only [List.filterMap, List.getElem?_cons_zero, List.getElem?_cons_succ]
    repeat (go_big_quiet_step (fail))
    refine wpQuiet_nil ?_
    refine wpTreeN_one _ rfl ?_
    go_wp2_with (first
      | ((with_reducible show wpList _ _ _ ((⟨none, _, _, _, _, _⟩ : Oper) :: _) _ _); refine wpList_store_blk (o := ⟨none, _, _, _, _, _⟩) (hx23) (by rfl) _ _ _ (by rfl) (by rfl) (#[.int .i64 0, .int .i64 0, .int .i64 0, .slice none 0 0, .slice none 0 0]) (by rfl) (sizeRun) (by rfl) (by rfl) (by simp [Value.oneCell']) ?_; intro v24 h24 hu24)
      | fail)
    have hB24 := hB23.upd hu24 hy19
    refine TreeNQ.in_ ⟨rangeAt_upd r123 hu24 hn20, rangeAt_upd r023 hu24 hn21⟩ ?_
    refine wpTreeN_pure _ _ _ (by rfl) (by rfl) ?_
    dsimp only [List.filterMap, List.getElem?_cons_zero, List.getElem?_cons_succ]
    repeat (go_big_quiet_step (fail))
    refine wpQuiet_nil ?_
    refine wpTreeN_done ?_
    have HF := Lib.hid (show GX w.heap.size [] v24 gp dp kn2 d' ∧ Below w.heap.size w v24 ∧ Blk v24 rb 35 #[.int .i64 2, .int .i64 5, .int .i64 3, .slice F nf cf, .slice L nl cl] from ⟨(H24.out.1.belowT hB24).1, H24.out.2.1.trans (hB24.mono H24.out.2.1.size), H24.out.2.2.below hB24 H24.out.2.2.lt⟩)
    go_wp2_with fail
    go_meet
    case rel => exact ⟨rfl, HF.out⟩
  case rest =>
    obtain ⟨rfl, hG, hB, hcr⟩ := hcut
    have H25 := Lib.hid (And.intro hG (And.intro hB hcr))
    have hz := zeroPairrun
    clear hG hB hcr hzr H24
    go_wp2_with fail
    refine (big_any wc).mono ?_
    rintro e w26 ⟨A, c, rfl, hP, hbx⟩
    have hbf := xtbuild_full (H25.out.1.belowT hbx).1 A c (bigL 64) (by rw [bigL_length]; decide) hP 0 big_pack.1 (by decide) (by decide) kn_full
    rw [bigL_length] at hbf
    have H26 := Lib.hid (And.intro (H25.out.2.1.trans (H25.out.1.belowT hbx).2.bel) (H25.out.2.2.below hbx H25.out.2.2.lt))
    clear hP hbx H25
    go_wp2_with fail
    refine hbf.mono ?_
    rintro e w27 ⟨rfl, hG, hS⟩
    have hbx := (Below.refl w27.heap.size w27).alloc (Nat.le_refl _) (.cells #[.int .i64 0, .int .i64 0, .int .i64 0, .slice none 0 0, .slice none 0 0] 35)
    have hc27 := (hS.so.blk H26.out.2 (by unfold NG; decide)).below hbx (hS.so.blk H26.out.2 (by unfold NG; decide)).lt
    have H27 := Lib.hid (And.intro (hG.belowT hbx).1 ((H26.out.1.trans hS.bel).trans (hG.belowT hbx).2.bel))
    clear hbf hG hS hbx H26
    go_wp2_with (first
      | ((with_reducible show wpList _ _ _ ((⟨some 140, _, _, _, _, _⟩ : Oper) :: _) _ _); refine wpList_want (by rfl) ?_; refine wpList_load_blk (o := ⟨some 140, _, _, _, _, _⟩) (hc27) (by rfl) _ _ (by rfl) (by rfl) _ Tryd.underlying35 (by rfl) (sizeRun) (by rfl) ?_)
      | fail)
    generalize w27.alloc (.cells #[.int .i64 0, .int .i64 0, .int .i64 0, .slice none 0 0, .slice none 0 0] 35) = w28 at H27 hc27 ⊢
    have hg1 := xtgets H27.out.1 (by decide) (2, 5, ()) 3 F L nf cf nl cl [97] (by decide) pnone none none 0 0 ⟨by decide, by decide, by decide, by decide, Reads.nil _ _, Reads.nil _ _⟩ (fun ad e => by cases e) (fun h => absurd rfl h) HD.out.2 (kn_mono HD.out.1 [97])
    unfold runv pairc at hg1
    refine hg1.mono ?_
    rintro e w29 ⟨rfl, hG, hS⟩
    have H29 := Lib.hid (H27.out.2.trans hS.bel)
    clear hg1 hG hS hc27 H27
    go_wp2_with fail
    go_ret
    exact ⟨rfl, H29.out⟩
end Go.Proofs.YtgkljncigbiffaaDoor
