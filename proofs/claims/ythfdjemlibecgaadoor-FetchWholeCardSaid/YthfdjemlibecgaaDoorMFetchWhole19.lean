/- A fetch: which refs are of its grid; what it lacks, as a row of items. Conditions: as each says. -/
import Derived.Test.YthfdjemlibecgaaDoorMFetchWhole18
import Derived.DefersIn
namespace Go.Proofs.YthfdjemlibecgaaDoor
open Go.RowKit
/-- Is a ref one of a block of the grid? -/
def lof (n : Nat) (r : RefT) : Bool := decide (1 ≤ r.1) && decide (r.1 ≤ (n : Int))
section
variable {fp gp : Nat} {w w' : World} {q : GPl} {g : Grd} {d : Dsk} {f : Option Fus} {root : RefT} {h : Nat}
set_option maxRecDepth 100000 in
set_option maxHeartbeats 4000000 in
theorem fof_any (hb : Blk w fp 27 (ftc q.gg root h)) (hG : GridR w q g d f) (r : RefT) : Calls Tryd.prog 132 #[.pointer (some ⟨fp, 0, none⟩), .agg #[.int .i64 r.1, .int .i64 r.2.1]] w fun e w' => e = .returned (.bool (lof g.n r)) ∧ Below w.heap.size w w' := by
  have hB := (Below.refl w.heap.size w).alloc (Nat.le_refl _) (.cells #[.int .i64 r.1, .int .i64 r.2.1] 23)
  have hbr := Blk.new w 23 #[.int .i64 r.1, .int .i64 r.2.1]
  have hsum := cnts3 g.L hG.ok.set.le
  rw [hG.ok.len] at hsum
  have h512 := hG.ok.h512
  have H1 := Lib.hid (And.intro hB (And.intro (hG.below hB) (And.intro hbr (And.intro hsum h512))))
  have d0 := (hb.below hB hb.lt).at_ 0 (v := .pointer (some ⟨q.gg, 0, none⟩)) rfl
  clear hb hG hB hbr hsum h512
  go_enter Tryd.func132, Tryd.ntmps132
  go_wp2_with fail
  generalize w.alloc (.cells #[.int .i64 r.1, .int .i64 r.2.1] 23) = w1 at H1 d0 ⊢
  refine (gcounts_any H1.out.2.1).mono ?_
  rintro e w2 ⟨rfl, hbx⟩
  have hbr2 := H1.out.2.2.1.below hbx H1.out.2.2.1.lt
  have H2 := Lib.hid (And.intro (H1.out.1.trans (hbx.mono H1.out.1.size)) H1.out.2.2.2)
  clear hbx H1 d0
  have d1 := hbr2.at_ 0 (v := .int .i64 r.1) rfl
  clear hbr2
  generalize cnts g.L 0 = a at H2 ⊢
  generalize cnts g.L 1 = b at H2 ⊢
  generalize cnts g.L 2 = c at H2 ⊢
  have k1 : wrap64 ((a : Int) + (b : Int)) = (a : Int) + (b : Int) := w64_in (by have := H2.out; omega)
  have k2 : wrap64 ((a : Int) + (b : Int) + (c : Int)) = (g.n : Int) := by rw [w64_in (by have := H2.out; omega)]; have := H2.out; omega
  by_cases h1 : 1 ≤ r.1
  · have k3 : decide (r.1 ≥ 1) = true := decide_eq_true h1
    have HL := Lib.hid (show lof g.n r = decide (r.1 ≤ (g.n : Int)) by unfold lof; rw [decide_eq_true h1, Bool.true_and])
    clear h1
    go_wp2
    go_ret
    exact ⟨by rw [HL.out]; simp [k1, k2], H2.out.1⟩
  · have k3 : decide (r.1 ≥ 1) = false := decide_eq_false h1
    have HL := Lib.hid (show lof g.n r = false by unfold lof; rw [decide_eq_false h1, Bool.false_and])
    clear h1
    go_wp2
    go_ret
    exact ⟨by rw [HL.out]; rfl, H2.out.1⟩
theorem flacks_any (A : Option Addr) (n c : Nat) (w : World) : Calls Tryd.prog 77 #[.pointer (some ⟨fp, 0, none⟩), .slice A n c] w fun e w' => e = .returned (.func (.func 131) #[] #[.pointer (some ⟨w.heap.size + 1, 0, none⟩), .pointer (some ⟨w.heap.size, 0, none⟩)]) ∧
      w' = (w.alloc (.cells #[.pointer (some ⟨fp, 0, none⟩)] 24)).alloc (.cells #[.slice A n c] 29) := by
  go_enter Tryd.func77, Tryd.ntmps77
  go_wp2
  go_ret
  exact ⟨rfl, rfl⟩
end
def encL (l : List RefT) (k : Nat) : Array Value := #[.agg #[.int .i64 (l[k]?.getD (0, 0, ())).1, .int .i64 (l[k]?.getD (0, 0, ())).2.1]]
/-- What the iterator needs ahead of a round. -/
def LkAt (fp bf bl : Nat) (A : Option Addr) (c : Nat) (L : List RefT) (n : Nat) (W : World) : Prop :=
  Blk W bf 24 #[.pointer (some ⟨fp, 0, none⟩)] ∧ Blk W bl 29 #[.slice A L.length c] ∧ Refs W A L ∧ ∃ (q : GPl) (g : Grd) (d : Dsk) (f : Option Fus) (root : RefT) (h : Nat), Blk W fp 27 (ftc q.gg root h) ∧ GridR W q g d f ∧ g.n = n
theorem filter_at {p : RefT → Bool} {L : List RefT} {i : Nat} (hi : i < L.length) (hp : p L[i] = true) : (L.filter p)[((L.take i).filter p).length]? = some L[i] ∧ ((L.take i).filter p).length < (L.filter p).length := by
  have e : L.filter p = (L.take i).filter p ++ (L[i] :: (L.drop (i + 1)).filter p) := by
    conv => lhs; rw [← List.take_append_drop i L, List.filter_append, List.drop_eq_getElem_cons hi, List.filter_cons, if_pos hp]
  rw [e]
  refine ⟨by rw [List.getElem?_append_right (Nat.le_refl _), Nat.sub_self]; rfl, by rw [List.length_append, List.length_cons]; omega⟩
theorem filter_step {p : RefT → Bool} {L : List RefT} {i : Nat} (hi : i < L.length) : ((L.take (i + 1)).filter p).length = ((L.take i).filter p).length + if p L[i] = true then 1 else 0 := by
  rw [List.take_succ_eq_append_getElem hi, List.filter_append, List.length_append]
  cases hh : p L[i] <;> simp [hh]
set_option maxRecDepth 100000 in
set_option maxHeartbeats 4000000 in
theorem lacks_row (m : Nat) (hm : 1 ≤ m) (fp bf bl : Nat) (A : Option Addr) (c : Nat) (L : List RefT) (n : Nat) (hL : L.length < 65536) (I : Nat → World → Prop) (hI : ∀ k W, I k W → LkAt fp bf bl A c L n W) :
    RowOf Fence.wide m Tryd.prog 131 #[.pointer (some ⟨bl, 0, none⟩), .pointer (some ⟨bf, 0, none⟩)] (encL (L.filter (lof n))) I (L.filter (lof n)).length := by
  intro l J Jx W hJI hJb hJxb hY hJ0
  refine callsIn_of_wp Tryd.func131 rfl trivial ?_ rfl
  simp only [Tryd.ntmps131, List.size_toArray, List.length_cons, List.length_nil, Nat.reduceAdd, Nat.reduceSub, Array.replicate_succ, Array.replicate_zero, List.push_toArray, List.append_toArray, List.nil_append, List.cons_append]
  have d0 := (hI 0 W (hJI 0 W hJ0)).2.1.at_ 0 (v := .slice A L.length c) rfl
  have HJ := Lib.hid hJ0
  have HL := Lib.hid hL
  have hzr := zeroRefrun
  clear hJ0 hL
  gi_wp2
  gi_loopw [8] (fun v wr => ∃ i : Nat, i ≤ L.length ∧ v = .int .i64 (i : Int) ∧ J ((L.take i).filter (lof n)).length wr) (fun v _ => L.length - (intOf v).toNat)
  case atStart => exact ⟨0, Nat.zero_le _, rfl, HJ.out⟩
  case round =>
    clear HJ d0
    obtain ⟨i, hi, rfl, hJs⟩ := hrel
    by_cases hlt : i < L.length
    case neg =>
      obtain rfl : i = L.length := by omega
      rw [List.take_length] at hJs
      have HJ := Lib.hid hJs
      clear hJs hi hlt
      gi_wp2
      go_end0
      exact ⟨⟨_, rfl⟩, .inl HJ.out⟩
    obtain ⟨hbf, hbl, hrf, q, g, d, f, root, h, hft, hG, hn⟩ := hI _ wr (hJI _ wr hJs)
    obtain ⟨bb, off, rfl, -, hcs⟩ := hrf (by omega)
    obtain ⟨d1, d2⟩ := hcs i hlt
    have hst := filter_step (p := lof n) hlt
    have hat := filter_at (p := lof n) hlt
    generalize L[i] = r at d1 d2 hst hat
    have c0 := hbf.at_ 0 (v := .pointer (some ⟨fp, 0, none⟩)) rfl
    have HJ := Lib.hid (And.intro hJs (And.intro hft (And.intro hG (And.intro hn (And.intro hst (And.intro hat hlt))))))
    have hi6 : i < 65536 := Nat.lt_trans hlt HL.out
    clear hbl hrf hcs hft hG hn hst hat hJs hi
    have hJk := hJb
    gi_wp2_with (first
      | ((with_reducible show wpListIn _ _ _ _ _ ((⟨none, _, _, _, _, _⟩ : Oper) :: _) _ _); refine wpListIn_of (by rfl) ?_; refine wpList_store_blk (o := ⟨none, _, _, _, _, _⟩) ((Blk.new wr 23 #[.int .i64 0, .int .i64 0])) (by rfl) _ _ _ (by rfl) (by rfl) (#[.int .i64 r.1, .int .i64 r.2.1]) (by rfl) (size_ref) (by rfl) (by rfl) (by simp [Value.oneCell']) ?_; intro W5 h5 hu5; have hbx := ((Below.refl wr.heap.size wr).alloc (Nat.le_refl _) (.cells #[.int .i64 0, .int .i64 0] 23)).upd hu5 (Nat.le_refl _); have c5 := (hbx.cell (World.block_lt_of_cell? wr _ c0)).trans c0; have H5 := Lib.hid (And.intro (hJk _ _ _ HJ.out.1 hbx) (And.intro (HJ.out.2.1.below hbx HJ.out.2.1.lt) (And.intro (HJ.out.2.2.1.below hbx) (And.intro HJ.out.2.2.2 h5)))); clear hu5 hbx; refine ⟨rfl, ?_⟩)
      | ((with_reducible show wpListIn _ _ _ _ _ ((⟨some 13, _, _, _, _, _⟩ : Oper) :: _) _ _); refine wpListIn_of (by rfl) ?_; refine wpList_load_blk (o := ⟨some 13, _, _, _, _, _⟩) (h5) (by rfl) _ _ (by rfl) (by rfl) _ Tryd.underlying23 (by rfl) (size_ref) (by rfl) ?_; refine ⟨rfl, ?_⟩)
      | fail)
    clear c0 d1 d2 HJ
    have hof := fof_any H5.out.2.1 H5.out.2.2.1 r
    refine ⟨trivial, ?_⟩
    refine ((callsIn_wide (n := m - 1)).2 hof).mono ?_
    rintro e W6 ⟨rfl, hbx⟩
    rw [H5.out.2.2.2.1.1]
    have hr6 := h5.below hbx h5.lt
    have H6 := Lib.hid (And.intro (hJk _ _ _ H5.out.1 hbx) H5.out.2.2.2.1)
    clear hof hbx h5 H5 c5
    generalize wr.heap.size = gr at hr6 ⊢
    cases hb : lof n r
    case false =>
      rw [hb, if_neg (by simp)] at H6
      clear hr6 hY
      gi_wp2
      refine ⟨fun f hf => (by cases hf), ?_⟩
      gi_wp2
      go_roundw
      case rel => exact ⟨i + 1, H6.out.2.2.2.2, by go_num, by rw [H6.out.2.2.1]; exact H6.out.1⟩
      case measure => exact meas_up (i := i) rfl rfl H6.out.2.2.2.2
    case true =>
      rw [hb, if_pos rfl] at H6
      obtain ⟨hat, hltk⟩ := H6.out.2.2.2.1 rfl
      obtain ⟨fn, tmps, assign, body, hy, hR⟩ := hY _ W6 H6.out.1 hltk
      simp only [encL, hat, Option.getD_some] at hy
      have H7 := Lib.hid H6.out.2
      clear hat hltk hY H6
      gi_wp2_with (first
        | ((with_reducible show wpListIn _ _ _ _ _ ((⟨some 17, _, _, _, _, _⟩ : Oper) :: _) _ _); refine wpListIn_of (by rfl) ?_; refine wpList_want (by rfl) ?_; refine wpList_load_blk (o := ⟨some 17, _, _, _, _, _⟩) (hr6) (by rfl) _ _ (by rfl) (by rfl) _ Tryd.underlying23 (by rfl) (size_ref) (by rfl) ?_; refine ⟨rfl, ?_⟩)
        | fail)
      refine hR.mono ?_
      clear hR hy hr6
      rintro e W7 (⟨rfl, hJ7⟩ | ⟨rfl, hJx⟩)
      · have HJ7 := Lib.hid hJ7
        clear hJ7
        gi_wp2
        go_roundw
        case rel => exact ⟨i + 1, H7.out.2.2.2, by go_num, by rw [H7.out.2.1]; exact HJ7.out⟩
        case measure => exact meas_up (i := i) rfl rfl H7.out.2.2.2
      · have HJ7 := Lib.hid hJx
        clear hJx
        gi_wp2
        refine bodyPost_ret (results_none rfl _ _ _) rfl ?_
        exact ⟨⟨_, rfl⟩, .inr HJ7.out⟩
end Go.Proofs.YthfdjemlibecgaaDoor

/- What a fetch lacks, at most so many: Lacks. Conditions: the fetch and its grid are known. -/
namespace Go.Proofs.YthfdjemlibecgaaDoor
open Go.RowKit
attribute [local go_sem] Oper.semAt_some
theorem KeepsFrom.nearCells {B : Nat} {X : List Nat} {W W' : World} (h : Near X W W') (hX : ∀ x ∈ X, ∃ (t : TypeId) (cs : Array Value), Blk W x t cs) : KeepsFrom B W W' :=
  ⟨h.size, fun k o _ hk ho => (h.block k (Array.getElem?_eq_some_iff.1 hk).1 (fun hm => by
    obtain ⟨t, cs, hb⟩ := hX k hm
    have hb : W.heap[k]? = _ := hb
    rw [hk] at hb; injection hb with hb; subst hb; cases ho)).trans hk⟩
theorem belowKept {S B : Nat} {w W W' : World} (h : Below S w W) (k : Kept B W W') (hS : S ≤ B) (hw : S ≤ w.heap.size) : Below S w W' :=
  ⟨k.os.trans h.os, k.tape.trans h.tape, k.output.trans h.output, Nat.le_trans h.size k.size, fun j hj => (k.low j (by omega) (by have := h.size; omega)).trans (h.block j hj)⟩
/-- What stands when k refs have been told. -/
structure LkIn (w2 : World) (fp : Nat) (A : Option Addr) (c n : Nat) (out : List RefT) (ov : Value) (sp : List Value) (W : World) : Prop where
  bel : Below w2.heap.size w2 W
  ob : Blk W w2.heap.size 29 #[ov]
  fb : Blk W (w2.heap.size + 1) 24 #[.pointer (some ⟨fp, 0, none⟩)]
  lb : Blk W (w2.heap.size + 2) 29 #[.slice A n c]
  own : OwnsC 23 2 W (w2.heap.size + 3) ov out.length (refCells out) sp
section
variable {w2 W W' : World} {fp c n : Nat} {A : Option Addr} {out : List RefT} {ov : Value} {sp : List Value}
theorem LkIn.keptW {B : Nat} (h : LkIn w2 fp A c n out ov sp W) (k : Kept B W W') (hB : w2.heap.size + 3 ≤ B) : LkIn w2 fp A c n out ov sp W' :=
  ⟨belowKept h.bel k (by omega) (Nat.le_refl _), h.ob.keptW k, h.fb.keptW k, h.lb.keptW k, OwnsC.keptW h.own k⟩
theorem LkIn.below (h : LkIn w2 fp A c n out ov sp W) (k : Below W.heap.size W W') : LkIn w2 fp A c n out ov sp W' :=
  ⟨h.bel.trans (k.mono h.bel.size), h.ob.below k h.ob.lt, h.fb.below k h.fb.lt, h.lb.below k h.lb.lt, h.own.ownBelow k⟩
/-- The list of what is told has grown by one. -/
theorem LkIn.told {W4 : World} {v4 : Value} {sp4 : List Value} {r : RefT} (h : LkIn w2 fp A c n out ov sp W) (k : Near ov.ownBlock.toList W W4) (ho : OwnsC 23 2 W4 (w2.heap.size + 3) v4 (out ++ [r]).length (refCells (out ++ [r])) sp4) : LkIn w2 fp A c n (out ++ [r]) v4 sp4 (W4.setCell ⟨w2.heap.size, 0, none⟩ v4) := by
  have hu : Near [w2.heap.size] W4 (W4.setCell ⟨w2.heap.size, 0, none⟩ v4) := Near.upd ((Upd.refl _ _).set 0 _) (List.mem_singleton_self _)
  have hob : ∀ x, ov.ownBlock = some x → w2.heap.size + 3 ≤ x := fun x hx => (OwnsC.lt h.own x hx).1
  have hn : ∀ x, x < w2.heap.size + 3 → x ∉ ov.ownBlock.toList := fun x hx hm => by have := hob x (Option.mem_toList.1 hm); omega
  have ne : ∀ x, x ≠ w2.heap.size → x ∉ [w2.heap.size] := fun x hx hm => hx (List.mem_singleton.1 hm)
  have hvb : ∀ x, v4.ownBlock = some x → w2.heap.size + 3 ≤ x := fun x hx => (OwnsC.lt ho x hx).1
  have hs := h.lb.lt
  refine ⟨(h.bel.trans (k.toBelow (fun x hx => by have := hob x (Option.mem_toList.1 hx); omega) h.bel.size)).trans (hu.toBelow (fun x hx => by rw [List.mem_singleton.1 hx]; exact Nat.le_refl _) (Nat.le_trans h.bel.size k.size)), ((h.ob.near k (hn _ (by omega))).set_ 0 v4).sub (by simp), (h.fb.near k (hn _ (by omega))).near hu (ne _ (by omega)), (h.lb.near k (hn _ (by omega))).near hu (ne _ (by omega)), OwnsC.nearO ho hu (fun x hx => ne _ (by have := hvb x hx; omega))⟩
end
def lkItems (n : Nat) (L : List RefT) : List RefT := L.filter (lof n)
def LkAtK (w2 : World) (fp : Nat) (A : Option Addr) (c n : Nat) (items : List RefT) (most : Int) (k : Nat) (W : World) : Prop :=
  ∃ ov sp, LkIn w2 fp A c n (items.take k) ov sp W ∧ (k : Int) ≤ most ∧ k ≤ items.length
def LkOut (w2 : World) (fp : Nat) (A : Option Addr) (c n : Nat) (items : List RefT) (most : Int) (cd : Code) (W : World) : Prop :=
  cd = .exit 1 ∧ ∃ ov sp, LkIn w2 fp A c n (items.take most.toNat) ov sp W ∧ most.toNat ≤ items.length
section
variable {B fp gp dp h : Nat} {Y : List Nat} {w w' : World} {g g2 : Grd} {d : Dsk} {root : RefT}
set_option maxRecDepth 100000 in
set_option maxHeartbeats 8000000 in
theorem flacks_out (hf : FX B Y w fp gp dp g d root h) (most : Int) (hm : most < 1 ∨ 512 < most) :
    Calls Tryd.prog 14 #[.pointer (some ⟨fp, 0, none⟩), .int .i64 most] w fun e w' => e = .returned (.tuple #[.slice none 0 0, .int .i64 2]) ∧ FX B Y w' fp gp dp g d root h ∧ GStep B (fp :: Y) w w' := by
  have hB := (Below.refl w.heap.size w).alloc (Nat.le_refl _) (.cells #[.int .i64 most] 3)
  have hb1 := hf.blk.below hB hf.blk.lt
  have H1 := Lib.hid (And.intro (hf.step (hf.gx.below hB).1 (hf.gx.below hB).2) (hf.gx.below hB).2)
  have d1 := (Blk.new w 3 #[.int .i64 most]).at_ 0 (v := .int .i64 most) rfl
  clear hf hB
  refine callsIn_wide (n := 3).1 ?_
  refine callsIn_of_wp_marks Tryd.func14 rfl trivial ?_ rfl
  simp only [Tryd.ntmps14, List.size_toArray, List.length_cons, List.length_nil, Nat.reduceAdd, Nat.reduceSub, Array.replicate_succ, Array.replicate_zero, List.push_toArray, List.append_toArray, List.nil_append, List.cons_append]
  refine wpIn_wide.2 ?_
  go_wp2_with fail
  refine (fnone_any hb1).mono ?_
  rintro e w1 ⟨rfl, hw⟩
  obtain rfl := hw.symm
  clear hw hb1
  by_cases h1 : most < 1
  · have k1 : decide (most < 1) = true := decide_eq_true h1
    clear h1 hm
    go_wp2
    refine ⟨_, results_tmp2 (by rfl) _ _ _, ?_⟩
    exact ⟨rfl, H1.out⟩
  · have k1 : decide (most < 1) = false := decide_eq_false h1
    have k2 : decide (most > 512) = true := decide_eq_true (by omega)
    clear h1 hm
    go_wp2
    refine ⟨_, results_tmp2 (by rfl) _ _ _, ?_⟩
    exact ⟨rfl, H1.out⟩
theorem flacks_no (p : Option Addr) (most : Int) (hn : NoFetch p w) : Calls Tryd.prog 14 #[.pointer p, .int .i64 most] w fun e w' => e = .returned (.tuple #[.slice none 0 0, .int .i64 1]) ∧ Below w.heap.size w w' := by
  have hB := (Below.refl w.heap.size w).alloc (Nat.le_refl _) (.cells #[.int .i64 most] 3)
  have hn1 := fnone_no p (hn.below hB)
  have HB := Lib.hid hB
  clear hn hB
  refine callsIn_wide (n := 3).1 ?_
  refine callsIn_of_wp_marks Tryd.func14 rfl trivial ?_ rfl
  simp only [Tryd.ntmps14, List.size_toArray, List.length_cons, List.length_nil, Nat.reduceAdd, Nat.reduceSub, Array.replicate_succ, Array.replicate_zero, List.push_toArray, List.append_toArray, List.nil_append, List.cons_append]
  refine wpIn_wide.2 ?_
  go_wp2_with fail
  refine hn1.mono ?_
  rintro e w1 ⟨rfl, hw⟩
  obtain rfl := hw.symm
  clear hw hn1
  go_wp2
  refine ⟨_, results_tmp2 (by rfl) _ _ _, ?_⟩
  exact ⟨rfl, HB.out⟩
theorem greach_n (g : Grd) (d : Dsk) (f : Option Fus) (root : RefT) : (greach g d f root).2.2.n = g.n := by
  unfold greach
  split
  · rfl
  split
  · rfl
  · exact Grd.wants_n _ _
set_option maxRecDepth 100000 in
set_option maxHeartbeats 8000000 in
theorem fLacks_err (hf : FX B Y w fp gp dp g d root h) (hl : g.W.length ≤ 1000000000) (most : Int) (hm1 : 1 ≤ most) (hm2 : most ≤ 512) {c0 : Int} (hc0 : c0 ≠ 0) {L : List RefT} (hg : greach g d none root = (c0, L, g2)) :
    Calls Tryd.prog 14 #[.pointer (some ⟨fp, 0, none⟩), .int .i64 most] w fun e w' => e = .returned (.tuple #[.slice none 0 0, .int .i64 c0]) ∧ FX B Y w' fp gp dp g2 d root h ∧ GStep B (fp :: Y) w w' := by
  have hB := (Below.refl w.heap.size w).alloc (Nat.le_refl _) (.cells #[.int .i64 most] 3)
  have hb1 := hf.blk.below hB hf.blk.lt
  have H1 := Lib.hid (And.intro (hf.step (hf.gx.below hB).1 (hf.gx.below hB).2) (And.intro (hf.gx.below hB).2 (And.intro hl hg)))
  have d1 := (Blk.new w 3 #[.int .i64 most]).at_ 0 (v := .int .i64 most) rfl
  have k1 : decide (most < 1) = false := decide_eq_false (by omega)
  have k2 : decide (most > 512) = false := decide_eq_false (by omega)
  have k3 : (c0 != 0) = true := by simpa using hc0
  clear hf hB hl hg hm1 hm2 hc0
  refine callsIn_wide (n := 3).1 ?_
  refine callsIn_of_wp_marks Tryd.func14 rfl trivial ?_ rfl
  simp only [Tryd.ntmps14, List.size_toArray, List.length_cons, List.length_nil, Nat.reduceAdd, Nat.reduceSub, Array.replicate_succ, Array.replicate_zero, List.push_toArray, List.append_toArray, List.nil_append, List.cons_append]
  refine wpIn_wide.2 ?_
  go_wp2_with fail
  generalize w.alloc (.cells #[.int .i64 most] 3) = w1 at H1 d1 hb1 ⊢
  refine (fnone_any hb1).mono ?_
  rintro e w1' ⟨rfl, hw⟩
  obtain rfl := hw.symm
  clear hw hb1
  go_wp2_with fail
  have hC0 : Same (fp :: Y) w1 w1.drew := ⟨Nat.le_refl _, fun _ _ => rfl⟩
  refine wp_region_tree (Same (fp :: Y) w1) [] (PlanT.takes [0, 1, 2, 4, 5, 6] (PlanT.takes [3, 7] (.opt 8 (PlanT.takes [9, 10, 11, 12, 13] .done) .no))) (by kernel_rfl) (by kernel_rfl) (hC0) ?_
  refine wpTree_pure _ _ _ (by rfl) (by rfl) ?_
  dsimp only [List.filterMap, List.getElem?_cons_zero, List.getElem?_cons_succ]
  repeat (go_big_quiet_step (fail))
  refine wpQuiet_nil ?_
  refine wpTree_takeL _ _ _ (by rfl) (by rfl) (hC0) ?_
  dsimp only [List.filterMap, List.getElem?_cons_zero, List.getElem?_cons_succ]
  (refine wpQuiet_load_cell (fun w' hw' => (hw'.blk H1.out.1.blk (List.mem_cons_self ..)).at_ 0 (v := .pointer (some ⟨gp, 0, none⟩)) rfl) (by rfl) _ _ (by rfl) (by rfl) _ Tryd.underlying25 (by rfl) ?_; simp only [Act.put, List.setIfInBounds_toArray, List.set_cons_zero, List.set_cons_succ])
  (refine wpQuiet_load_mid (fun w' hw' => range2 (b := fp) (off := 1) (u := .int .i64 root.1) (v := .int .i64 root.2.1) ((hw'.blk H1.out.1.blk (List.mem_cons_self ..)).at_ 1 rfl) ((hw'.blk H1.out.1.blk (List.mem_cons_self ..)).at_ 2 rfl)) (by rfl) _ _ (by rfl) (by rfl) _ Tryd.underlying23 (by rfl) (size_ref) (by rfl) ?_; simp only [Act.put, List.setIfInBounds_toArray, List.set_cons_zero, List.set_cons_succ])
  refine wpQuiet_nil ?_
  refine wpTree_one _ rfl ?_
  go_wp2_with fail
  have hGd := H1.out.1.gx.below (Below.refl w1.heap.size w1).drew
  refine (xreach hGd.1 H1.out.2.2.1 root H1.out.2.2.2).mono ?_
  rintro e w2 ⟨A2, c2, rfl, -, -, -, -, hG, hS⟩
  have H2 := Lib.hid (And.intro (H1.out.1.step hG (hGd.2.trans hS)) (H1.out.2.1.trans (hGd.2.trans hS)))
  have hC2 : Same (fp :: Y) w1 w2 := (hGd.2.trans hS).same
  clear hGd hG hS hC0 H1 d1
  go_wp2_with fail
  refine TreeQ.in_ hC2 ?_
  refine wpTree_pure _ _ _ (by rfl) (by rfl) ?_
  dsimp only [List.filterMap, List.getElem?_cons_zero, List.getElem?_cons_succ]
  repeat (go_big_quiet_step (fail))
  refine wpQuiet_nil ?_
  refine wpTree_done ?_
  clear hC2
  go_wp2
  refine ⟨_, results_tmp2 (by rfl) _ _ _, ?_⟩
  exact ⟨rfl, H2.out⟩
set_option maxRecDepth 100000 in
set_option maxHeartbeats 8000000 in
theorem fLacks_any (hf : FX B Y w fp gp dp g d root h) (hl : g.W.length ≤ 1000000000) (most : Int) (hm1 : 1 ≤ most) (hm2 : most ≤ 512) {L : List RefT} (hLl : L.length < 65536) (hg : greach g d none root = (0, L, g2)) :
    Calls Tryd.prog 14 #[.pointer (some ⟨fp, 0, none⟩), .int .i64 most] w fun e w' => ∃ A c, e = .returned (.tuple #[.slice A ((lkItems g.n L).take most.toNat).length c, .int .i64 0]) ∧ Refs w' A ((lkItems g.n L).take most.toNat) ∧
      (∀ ad, A = some ad → w.heap.size ≤ ad.block ∧ FX B (ad.block :: Y) w' fp gp dp g2 d root h) ∧ FX B Y w' fp gp dp g2 d root h ∧ GStep B (fp :: Y) w w' := by
  have hgn := greach_n g d none root
  rw [hg] at hgn
  have hB := (Below.refl w.heap.size w).alloc (Nat.le_refl _) (.cells #[.int .i64 most] 3)
  have hb1 := hf.blk.below hB hf.blk.lt
  have hbm := Blk.new w 3 #[.int .i64 most]
  have H1 := Lib.hid (And.intro (hf.gx.add hB (Nat.le_refl _) hbm.lt) (And.intro (hf.gx.below hB).2 (And.intro hl (And.intro hg (And.intro hb1 (And.intro hbm (And.intro hm1 (And.intro hm2 (And.intro hLl hgn)))))))))
  have d1 := hbm.at_ 0 (v := .int .i64 most) rfl
  have k1 : decide (most < 1) = false := decide_eq_false (by omega)
  have k2 : decide (most > 512) = false := decide_eq_false (by omega)
  clear hf hB hl hg hm1 hm2 hLl hgn hbm
  refine callsIn_wide (n := 3).1 ?_
  refine callsIn_of_wp_marks Tryd.func14 rfl trivial ?_ rfl
  simp only [Tryd.ntmps14, List.size_toArray, List.length_cons, List.length_nil, Nat.reduceAdd, Nat.reduceSub, Array.replicate_succ, Array.replicate_zero, List.push_toArray, List.append_toArray, List.nil_append, List.cons_append]
  refine wpIn_wide.2 ?_
  go_wp2_with fail
  generalize w.alloc (.cells #[.int .i64 most] 3) = w1 at H1 d1 hb1 ⊢
  generalize w.heap.size = gm at H1 d1 ⊢
  refine (fnone_any hb1).mono ?_
  rintro e w1' ⟨rfl, hw⟩
  obtain rfl := hw.symm
  clear hw hb1
  go_wp2_with fail
  have hC0 : Same (gm :: fp :: Y) w1 w1.drew := ⟨Nat.le_refl _, fun _ _ => rfl⟩
  have hfp : fp ∈ gm :: fp :: Y := List.mem_cons_of_mem _ (List.mem_cons_self ..)
  refine wp_region_tree (Same (gm :: fp :: Y) w1) [] (PlanT.takes [0, 1, 2, 4, 5, 6] (PlanT.takes [3, 7] (.opt 8 (PlanT.takes [9, 10, 11, 12, 13] .done) .no))) (by kernel_rfl) (by kernel_rfl) (hC0) ?_
  refine wpTree_pure _ _ _ (by rfl) (by rfl) ?_
  dsimp only [List.filterMap, List.getElem?_cons_zero, List.getElem?_cons_succ]
  repeat (go_big_quiet_step (fail))
  refine wpQuiet_nil ?_
  refine wpTree_takeL _ _ _ (by rfl) (by rfl) (hC0) ?_
  dsimp only [List.filterMap, List.getElem?_cons_zero, List.getElem?_cons_succ]
  (refine wpQuiet_load_cell (fun w' hw' => (hw'.blk H1.out.2.2.2.2.1 hfp).at_ 0 (v := .pointer (some ⟨gp, 0, none⟩)) rfl) (by rfl) _ _ (by rfl) (by rfl) _ Tryd.underlying25 (by rfl) ?_; simp only [Act.put, List.setIfInBounds_toArray, List.set_cons_zero, List.set_cons_succ])
  (refine wpQuiet_load_mid (fun w' hw' => range2 (b := fp) (off := 1) (u := .int .i64 root.1) (v := .int .i64 root.2.1) ((hw'.blk H1.out.2.2.2.2.1 hfp).at_ 1 rfl) ((hw'.blk H1.out.2.2.2.2.1 hfp).at_ 2 rfl)) (by rfl) _ _ (by rfl) (by rfl) _ Tryd.underlying23 (by rfl) (size_ref) (by rfl) ?_; simp only [Act.put, List.setIfInBounds_toArray, List.set_cons_zero, List.set_cons_succ])
  refine wpQuiet_nil ?_
  refine wpTree_one _ rfl ?_
  go_wp2_with fail
  have hGd := H1.out.1.below (Below.refl w1.heap.size w1).drew
  refine (xreach hGd.1 H1.out.2.2.1 root H1.out.2.2.2.1).mono ?_
  rintro e w2 ⟨A2, c2, rfl, hR, -, -, -, hG, hS⟩
  have hC2 : Same (gm :: fp :: Y) w1 w2 := (hGd.2.trans hS).same
  have H2 := Lib.hid (And.intro hG (And.intro (H1.out.2.1.trans ((hGd.2.trans hS).sub (fun y hy => List.mem_cons_of_mem _ hy))) (And.intro (hC2.blk H1.out.2.2.2.2.1 hfp) (And.intro (hC2.blk H1.out.2.2.2.2.2.1 (List.mem_cons_self ..)) (And.intro hR H1.out.2.2.2.2.2.2)))))
  clear hGd hG hS hC0 H1 d1 hR
  go_wp2_with fail
  refine TreeQ.in_ hC2 ?_
  refine wpTree_pure _ _ _ (by rfl) (by rfl) ?_
  dsimp only [List.filterMap, List.getElem?_cons_zero, List.getElem?_cons_succ]
  repeat (go_big_quiet_step (fail))
  refine wpQuiet_nil ?_
  refine wpTree_done ?_
  clear hC2 hfp
  go_wp2_with fail
  refine (flacks_any A2 L.length c2 _).mono ?_
  rintro e w5 ⟨rfl, rfl⟩
  have eb : (w2.alloc (.cells #[.slice none 0 0] 29)).heap.size = w2.heap.size + 1 := by simp
  have hS : LkIn w2 fp A2 c2 L.length [] (.slice none 0 0) [] (((w2.alloc (.cells #[.slice none 0 0] 29)).alloc (.cells #[.pointer (some ⟨fp, 0, none⟩)] 24)).alloc (.cells #[.slice A2 L.length c2] 29)) :=
    ⟨(((Below.refl _ _).alloc (Nat.le_refl _) _).alloc (by simp) _).alloc (by simp; omega) _, ((Blk.new _ _ _).alloc _).alloc _, (Blk.new' _ _ _ (by simp)).alloc _, Blk.new' _ _ _ (by simp), OwnsC.nil _ _ _ _⟩
  have hz5 : (((w2.alloc (.cells #[.slice none 0 0] 29)).alloc (.cells #[.pointer (some ⟨fp, 0, none⟩)] 24)).alloc (.cells #[.slice A2 L.length c2] 29)).heap.size = w2.heap.size + 3 := by simp
  rw [eb]
  simp only [show w2.heap.size + 1 + 1 = w2.heap.size + 2 from rfl]
  generalize (((w2.alloc (.cells #[.slice none 0 0] 29)).alloc (.cells #[.pointer (some ⟨fp, 0, none⟩)] 24)).alloc (.cells #[.slice A2 L.length c2] 29)) = w5 at hS hz5 ⊢
  have H5 := Lib.hid (And.intro hS hz5)
  clear hS hz5 eb
  obtain ⟨q, hq1, hq2, hq3, hG, hq5, hq6, hq7⟩ := H2.out.1
  have HQ := Lib.hid (And.intro hq1 (And.intro hG hq5))
  clear hq1 hq2 hq3 hG hq5 hq6 hq7
  go_wp2_with fail
  refine wpIn_wide (n := 3).1 ?_
  refine wpIn_rangeRow rfl (by omega) (gf := 131) (lb := #[.pointer (some ⟨w2.heap.size + 2, 0, none⟩), .pointer (some ⟨w2.heap.size + 1, 0, none⟩)]) rfl trivial (enters_of Tryd.func131 (by kernel_rfl) rfl)
    (encL (lkItems g2.n L)) (fun _ => rfl) (lkItems g2.n L).length (fun k W => LkAtK w2 fp A2 c2 L.length (lkItems g2.n L) most k W) (fun cd W => LkOut w2 fp A2 c2 L.length (lkItems g2.n L) most cd W)
    (fun k W W' h kw => ?hI) (fun cd W W' h kw => ?hIx) ⟨_, _, H5.out.1, by have := H2.out.2.2.2.2.2.1; omega, Nat.zero_le _⟩ ?row ?round ?done ?stop
  case hI =>
    obtain ⟨ov, sp, h1, h2⟩ := h
    exact ⟨ov, sp, h1.keptW kw (by rw [H5.out.2]; exact Nat.le_refl _), h2⟩
  case hIx =>
    obtain ⟨e, ov, sp, h1, h2⟩ := h
    exact ⟨e, ov, sp, h1.keptW kw (by rw [H5.out.2]; exact Nat.le_refl _), h2⟩
  case row =>
    refine lacks_row 2 (by omega) fp (w2.heap.size + 1) (w2.heap.size + 2) A2 c2 L g2.n H2.out.2.2.2.2.2.2.2.1 _ fun k W h => ?_
    obtain ⟨ov, sp, h1, h2⟩ := h
    exact ⟨h1.fb, h1.lb, H2.out.2.2.2.2.1.below h1.bel, q, g2, d, none, root, _, by rw [HQ.out.1]; exact H2.out.2.2.1.below h1.bel H2.out.2.2.1.lt, HQ.out.2.1.below h1.bel, rfl⟩
  case done =>
    intro D W hD hI hK
    obtain ⟨ov, sp, h1, hk, -⟩ := hI
    rw [List.take_length, show lkItems g2.n L = (lkItems g2.n L).take most.toNat from (List.take_of_length_le (by omega)).symm] at h1
    have d0 := h1.ob.at_ 0 (v := ov) rfl
    obtain ⟨A, c, rfl, hc, hc2, hrd, -⟩ := OwnsC.reads h1.own
    have HX := Lib.hid (And.intro h1 (And.intro hK (And.intro hc (And.intro hc2 hrd))))
    clear h1 hK hc hc2 hrd
    go_wp2_with fail
    refine ⟨by simp, .inl ⟨_, _, rfl, run_takeDeferred HX.out.2.1, ?_⟩⟩
    have kk := mark_kept (B := w2.heap.size + 3) (by rw [← H5.out.2]; exact hD) HX.out.2.1
    refine ⟨_, results_tmp2 (by rfl) _ _ _, ?_⟩
    have h2 := HX.out.1.keptW kk (Nat.le_refl _)
    rw [H2.out.2.2.2.2.2.2.2.2] at HX h2 ⊢
    refine ⟨A, c, (by rw [List.length_take]; rfl), Refs.of (HX.out.2.2.2.2.keptW kk), fun ad e => ?_, ⟨(H2.out.1.sub (fun y hy => List.mem_cons_of_mem _ hy)).below h2.bel |>.1, H2.out.2.2.1.below h2.bel H2.out.2.2.1.lt⟩, H2.out.2.1.trans ((H2.out.1.below h2.bel).2.sub (fun y hy => List.mem_cons_of_mem _ hy))⟩
    subst e
    have ho := ownOf h2.own
    have hlt := OwnsC.lt h2.own _ ho
    refine ⟨by have := H2.out.2.1.bel.size; omega, (H2.out.1.add h2.bel (y := ad.block) (by omega) hlt.2).sub (fun y hy => ?_), H2.out.2.2.1.below h2.bel H2.out.2.2.1.lt⟩
    rcases List.mem_cons.1 hy with rfl | hy
    · exact List.mem_cons_of_mem _ (List.mem_cons_of_mem _ (List.mem_cons_self ..))
    · rcases List.mem_cons.1 hy with rfl | hy
      · exact List.mem_cons_self ..
      · exact List.mem_cons_of_mem _ (List.mem_cons_of_mem _ (List.mem_cons_of_mem _ hy))
  case stop =>
    rintro D cd W hD ⟨rfl, ov, sp, h1, -⟩ hK
    have d0 := h1.ob.at_ 0 (v := ov) rfl
    obtain ⟨A, c, rfl, hc, hc2, hrd, -⟩ := OwnsC.reads h1.own
    have HX := Lib.hid (And.intro h1 (And.intro hK (And.intro hc (And.intro hc2 hrd))))
    clear h1 hK hc hc2 hrd
    refine wpIn_exit ?_
    simp only [Exit.inBlock, if_true]
    go_wp2_with fail
    refine ⟨by simp, .inl ⟨_, _, rfl, run_takeDeferred HX.out.2.1, ?_⟩⟩
    have kk := mark_kept (B := w2.heap.size + 3) (by rw [← H5.out.2]; exact hD) HX.out.2.1
    refine ⟨_, results_tmp2 (by rfl) _ _ _, ?_⟩
    have h2 := HX.out.1.keptW kk (Nat.le_refl _)
    rw [H2.out.2.2.2.2.2.2.2.2] at HX h2 ⊢
    refine ⟨A, c, (by rw [List.length_take]; rfl), Refs.of (HX.out.2.2.2.2.keptW kk), fun ad e => ?_, ⟨(H2.out.1.sub (fun y hy => List.mem_cons_of_mem _ hy)).below h2.bel |>.1, H2.out.2.2.1.below h2.bel H2.out.2.2.1.lt⟩, H2.out.2.1.trans ((H2.out.1.below h2.bel).2.sub (fun y hy => List.mem_cons_of_mem _ hy))⟩
    subst e
    have ho := ownOf h2.own
    have hlt := OwnsC.lt h2.own _ ho
    refine ⟨by have := H2.out.2.1.bel.size; omega, (H2.out.1.add h2.bel (y := ad.block) (by omega) hlt.2).sub (fun y hy => ?_), H2.out.2.2.1.below h2.bel H2.out.2.2.1.lt⟩
    rcases List.mem_cons.1 hy with rfl | hy
    · exact List.mem_cons_of_mem _ (List.mem_cons_of_mem _ (List.mem_cons_self ..))
    · rcases List.mem_cons.1 hy with rfl | hy
      · exact List.mem_cons_self ..
      · exact List.mem_cons_of_mem _ (List.mem_cons_of_mem _ (List.mem_cons_of_mem _ hy))
  case round =>
    intro l k W hl1 hl2 hI hk
    obtain ⟨ov, sp, h1, hkm, -⟩ := hI
    unfold encL
    rw [show (lkItems g2.n L)[k]?.getD (0, 0, ()) = (lkItems g2.n L)[k] by rw [List.getElem?_eq_getElem hk]; rfl]
    have hs := List.take_succ_eq_append_getElem hk
    have hlen : ((lkItems g2.n L).take k).length = k := by rw [List.length_take]; omega
    generalize (lkItems g2.n L)[k] = r at hs ⊢
    have hzr := zeroRefrun
    obtain ⟨B3, c3, hov, -, -, -, -⟩ := OwnsC.reads h1.own
    subst hov
    have HI := Lib.hid (And.intro h1 (And.intro hs (And.intro hlen (And.intro hkm hk))))
    clear h1 hs hkm hk
    gi_wp2_with (first
      | ((with_reducible show wpListIn _ _ _ _ _ ((⟨none, _, _, _, _, _⟩ : Oper) :: _) _ _); refine wpListIn_of (by rfl) ?_; refine wpList_store_blk (o := ⟨none, _, _, _, _, _⟩) ((Blk.new W 23 #[.int .i64 0, .int .i64 0])) (by rfl) _ _ _ (by rfl) (by rfl) (#[.int .i64 r.1, .int .i64 r.2.1]) (by rfl) (size_ref) (by rfl) (by rfl) (by simp [Value.oneCell']) ?_; intro W5 h5 hu5; refine ⟨rfl, ?_⟩)
      | fail)
    refine ⟨((Below.refl _ _).alloc (Nat.le_refl _) _).upd hu5 (Nat.le_refl _), fun W6 hW6 => ?_⟩
    have hn5 := ((Below.refl W.heap.size W).alloc (Nat.le_refl _) (.cells #[.int .i64 0, .int .i64 0] 23)).upd hu5 (Nat.le_refl _)
    have hI6 := (HI.out.1.below hn5).keptW hW6 (by rw [H5.out.2]; exact Nat.le_refl _)
    have h6 : Blk W6 W.heap.size 23 #[.int .i64 r.1, .int .i64 r.2.1] := h5.keptW hW6
    have hgx := (OwnsC.lt HI.out.1.own)
    have hgs : w2.heap.size + 3 ≤ W.heap.size := by have := H5.out.2; omega
    have HI6 := Lib.hid (And.intro hI6 (And.intro h6 (And.intro hgx (And.intro hgs HI.out.2))))
    clear h5 hu5 hn5 hI6 hW6 hgx hgs HI hl1 hl2
    generalize W.heap.size = gx at HI6 h6 ⊢
    rw [hlen] at HI6
    have d2 := HI6.out.1.ob.at_ 0 (v := .slice B3 k c3) rfl
    have d3 := (H2.out.2.2.2.1.below HI6.out.1.bel H2.out.2.2.2.1.lt).at_ 0 (v := .int .i64 most) rfl
    simp only [Act.put]
    by_cases hkm : (k : Int) = most
    · have k3 : ((k : Int) == most) = true := by simpa using hkm
      have HK := Lib.hid hkm
      clear hkm
      gi_wp2_with fail
      exact ⟨KeepsFrom.refl _ _, rfl, .slice B3 k c3, sp, by rw [show most.toNat = k by have := HK.out; omega]; exact HI6.out.1, by have := HK.out; have := HI6.out.2.2.2.2.2.2.2; omega⟩
    have k3 : ((k : Int) == most) = false := by simpa using hkm
    have HK := Lib.hid hkm
    have hbl := (Below.refl W6.heap.size W6).alloc (Nat.le_refl _) (.cells #[.int .i64 r.1, .int .i64 r.2.1] 23)
    have hra : Reads (W6.alloc (.cells #[.int .i64 r.1, .int .i64 r.2.1] 23)) (some ⟨W6.heap.size, 0, none⟩) [.int .i64 r.1, .int .i64 r.2.1] := reads_new W6 23 [.int .i64 r.1, .int .i64 r.2.1]
    have hown := OwnsC.ownBelow HI6.out.1.own hbl
    rw [hlen] at hown
    have hoa := Lib.hid (And.intro hown (And.intro hra hbl))
    clear hra hbl hkm hown
    gi_wp2_with (first
      | ((with_reducible show wpListIn _ _ _ _ _ ((⟨some 44, _, _, _, _, _⟩ : Oper) :: _) _ _); refine wpListIn_of (by rfl) ?_; refine wpList_load_blk (o := ⟨some 44, _, _, _, _, _⟩) (h6) (by rfl) _ _ (by rfl) (by rfl) _ Tryd.underlying23 (by rfl) (size_ref) (by rfl) ?_; refine ⟨rfl, ?_⟩)
      | ((with_reducible show wpListIn _ _ _ _ _ ((⟨some 46, _, _, _, _, _⟩ : Oper) :: _) _ _); refine wpListIn_round (by rfl) ?_; refine wpList_append_vals (o := ⟨some 46, _, _, _, _, _⟩) (by rfl) _ _ _ (by rfl) (w2.heap.size + 3) 23 (.agg #[.int .i64 0, .int .i64 0]) 2 16 Tryd.underlying29 infoRef (by rfl) (by omega) (.slice B3 k c3) k (refCells ((lkItems g2.n L).take k)) sp (by rfl) hoa.out.1 (some ⟨W6.heap.size, 0, none⟩) 1 1 [.int .i64 r.1, .int .i64 r.2.1] (by rfl) (by rfl) hoa.out.2.1 (by simp [Value.oneCell']) (by have := HI6.out.2.2.2.2.2.2.1; have := H2.out.2.2.2.2.2.2.1; simp only [maxLen]; omega) (by have := HI6.out.2.2.2.2.2.2.1; have := H2.out.2.2.2.2.2.2.1; omega) (by have := HI6.out.1.lb.lt; have := hoa.out.2.2.size; omega) ?_; intro v4 W8 sp4 ho4 hg4 hv4 hn4; refine stopped ?_)
      | fail)
    refine Stopped.mk ?_
    have hk8 : Near (Value.slice B3 k c3).ownBlock.toList W6 W8 := (Near.below hoa.out.2.2).trans (Near.grown hg4 (fun x hx => Option.mem_toList.2 hx))
    have ho4' : OwnsC 23 2 W8 (w2.heap.size + 3) v4 ((lkItems g2.n L).take k ++ [r]).length (refCells ((lkItems g2.n L).take k ++ [r])) sp4 := by
      rw [List.length_append, hlen, show refCells ((lkItems g2.n L).take k ++ [r]) = refCells ((lkItems g2.n L).take k) ++ [.int .i64 r.1, .int .i64 r.2.1] from refCells_snoc _ r.1 r.2.1]
      exact ho4
    have h9 := HI6.out.1.told hk8 ho4'
    have hob : ∀ x, x < w2.heap.size + 3 → x ∉ (Value.slice B3 k c3).ownBlock.toList := fun x hx hm => by have := (HI6.out.2.2.1 x (Option.mem_toList.1 hm)).1; omega
    have hb8 := HI6.out.1.ob.near hk8 (hob _ (by omega))
    have d8 := hb8.at_ 0 (v := .slice B3 k c3) rfl
    have f8 := hb8.frozen 0
    have hu9 : Near [w2.heap.size] W8 (W8.setCell ⟨w2.heap.size, 0, none⟩ v4) := Near.upd ((Upd.refl _ _).set 0 _) (List.mem_singleton_self _)
    have hkf : KeepsFrom w5.heap.size W6 (W8.setCell ⟨w2.heap.size, 0, none⟩ v4) := (KeepsFrom.nearCells hk8 (fun x hx => ⟨_, ownBlk HI6.out.1.own (Option.mem_toList.1 hx)⟩)).trans (KeepsFrom.near hu9 (fun x hx => by rw [List.mem_singleton.1 hx, H5.out.2]; omega))
    have H9 := Lib.hid (And.intro h9 hkf)
    obtain ⟨B4, c4, rfl, -, -, -, -⟩ := OwnsC.reads ho4
    clear ho4 hg4 hv4 hn4 hk8 ho4' hob hb8 hu9 h9 hkf hoa h6 d2 d3
    refine ⟨rfl, ?_⟩
    gi_wp2_with fail
    exact ⟨H9.out.2, _, sp4, by rw [HI6.out.2.2.2.2.1]; exact H9.out.1, by have := HI6.out.2.2.2.2.2.2.1; have := HK.out; omega, HI6.out.2.2.2.2.2.2.2⟩
end
end Go.Proofs.YthfdjemlibecgaaDoor

/- A block is put that a fetch lacks: what is done behind it (a deferred closure). Conditions: as each says. -/
namespace Go.Proofs.YthfdjemlibecgaaDoor
open Go.RowKit
attribute [local go_sem] Oper.semAt_some
theorem results_tmp_cell {P : Program} {fn : Func} {p q : Tmp} {ty : TypeId} (h : fn.results = #[.tmp p, .cell q ty]) (tmps : Array Value) (w : World) (g : Nat) (v : Value) (d : TypeDesc)
    (hp : tmps.getD q undef = .pointer (some ⟨g, 0, none⟩)) (hc : w.cell? ⟨g, 0, none⟩ = some v) (hu : P.underlying ty = some d) (hd : d.isRow = false) : (results fn tmps).run P w = .ok (.tuple #[tmps.getD p undef, v]) w := by
  have hp' : tmps[q]?.getD undef = .pointer (some ⟨g, 0, none⟩) := by simpa using hp
  have hl : (loadVar ty ⟨g, 0, none⟩).run P w = .ok v w := by
    simp only [loadVar, Sem.run_bind, run_isAgg_cell hu hd w, Result.andThen_ok, Bool.false_eq_true, if_false]
    simp [hc]
  simp [results, h, hp', asAddr, hl]
section
variable {eb fb fp gp h n : Nat} {root : RefT} {W : World}
set_option maxRecDepth 100000 in
set_option maxHeartbeats 2000000 in
theorem put1_ok (he : Blk W eb 30 #[.int .i64 0]) (hfb : Blk W fb 24 #[.pointer (some ⟨fp, 0, none⟩)]) (hf : Blk W fp 27 (ftc gp root h)) (hh : h < 65536) :
    CallsDIn Fence.wide n Tryd.prog 78 #[.pointer (some ⟨eb, 0, none⟩), .pointer (some ⟨fb, 0, none⟩)] .returning W fun e u' w' => u' = .returning ∧ (e = .returned (.tuple #[]) ∧ w' = W.setCell ⟨fp, 3, none⟩ (.int .i64 ((h : Int) + 1))) := by
  have d0 := he.at_ 0 (v := .int .i64 0) rfl
  have d1 := hfb.at_ 0 (v := .pointer (some ⟨fp, 0, none⟩)) rfl
  have d2 := hf.at_ 3 (v := .int .i64 (h : Int)) rfl
  have f2 := hf.frozen 3
  clear he hfb hf
  refine callsDIn_of_wp Tryd.func78 rfl trivial ?_
  simp only [Tryd.ntmps78, List.size_toArray, List.length_cons, List.length_nil, Nat.reduceAdd, Nat.reduceSub, Array.replicate_succ, Array.replicate_zero, List.push_toArray, List.append_toArray, List.nil_append, List.cons_append]
  gi_wp2
  go_end0
  exact ⟨rfl, rfl⟩
set_option maxRecDepth 100000 in
set_option maxHeartbeats 2000000 in
theorem put1_no {c : Int} (hc : c ≠ 0) (he : Blk W eb 30 #[.int .i64 c]) :
    CallsDIn Fence.wide n Tryd.prog 78 #[.pointer (some ⟨eb, 0, none⟩), .pointer (some ⟨fb, 0, none⟩)] .returning W fun e u' w' => u' = .returning ∧ (e = .returned (.tuple #[]) ∧ w' = W) := by
  have d0 := he.at_ 0 (v := .int .i64 c) rfl
  have k1 : (c == 0) = false := by rw [beq_eq_false_iff_ne]; exact hc
  clear he hc
  refine callsDIn_of_wp Tryd.func78 rfl trivial ?_
  simp only [Tryd.ntmps78, List.size_toArray, List.length_cons, List.length_nil, Nat.reduceAdd, Nat.reduceSub, Array.replicate_succ, Array.replicate_zero, List.push_toArray, List.append_toArray, List.nil_append, List.cons_append]
  gi_wp2
  go_end0
  exact ⟨rfl, rfl⟩
end
end Go.Proofs.YthfdjemlibecgaaDoor
