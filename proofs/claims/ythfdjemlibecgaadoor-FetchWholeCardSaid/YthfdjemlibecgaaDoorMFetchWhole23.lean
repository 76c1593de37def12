/- A grid, and a fetch of another one: the law's own list grows; the other one is asked. Conditions: as each says. -/
import Derived.Test.YthfdjemlibecgaaDoorMFetchWhole22
import Derived.Test.YthfdjemlibecgaaDoorTie
import Derived.Test.YthfdjemlibecgaaDoorCards
import Derived.SevenTiedAt
namespace Go.Proofs.YthfdjemlibecgaaDoor
open Go.RowKit
section
variable {B gp dp hp ep fp n : Nat} {Y Y' : List Nat} {w w' : World} {q : GPl} {g h g' h' : Grd} {d e d' e' : Dsk} {root : RefT}
theorem xraw_no (hx : GX B Y w gp dp g d) (hl : g.W.length ≤ 1000000000) (r : RefT) {c : Int} (hg : glook g d none r = (c, none, g')) :
    Calls Tryd.prog 25 #[.pointer (some ⟨gp, 0, none⟩), .agg #[.int .i64 r.1, .int .i64 r.2.1]] w fun v w' => ∃ v2, v = .returned (.tuple #[v2, .int .i64 c]) ∧ GX B Y w' gp dp g' d ∧ GStep B Y w w' := by
  obtain ⟨q, h1, h2, h3, h4, h5, h6, h7⟩ := hx
  have hr := graw_any h4 (by omega) r
  rw [hg, h1] at hr
  refine hr.mono ?_
  rintro v w' ⟨v2, rfl, -, hP⟩
  exact ⟨v2, rfl, GX.of_post h1 h2 h3 h5 h6 h7 hP.1⟩
theorem GR.append (hx : GR B Y w q gp dp g d) {v v' : Value} (hg : w.grownBy w' v.ownBlock) (ho : ∀ x, v.ownBlock = some x → x ∈ Y) (hv : v'.ownBlock = v.ownBlock ∨ v'.ownBlock = some w.heap.size) (hlt : ∀ x, v'.ownBlock = some x → x < w'.heap.size) (hbo : ∀ x, v.ownBlock = some x → B ≤ x) : GR B (v'.ownBlock.toList ++ Y) w' q gp dp g d := by
  have k : Near v.ownBlock.toList w w' := Near.grown hg (fun x hx => Option.mem_toList.2 hx)
  refine ⟨hx.gg, hx.gd, hx.gf, hx.gr.near k (fun x hm hm2 => (hx.off x hm).2 (ho x (Option.mem_toList.1 hm2))), fun x hm => ⟨(hx.off x hm).1, fun h1 => ?_⟩, fun y hy => ?_, Nat.le_trans hx.size k.size⟩
  · rcases List.mem_append.1 h1 with h1 | h1
    · rcases hv with e | e
      · rw [e] at h1; exact (hx.off x hm).2 (ho x (Option.mem_toList.1 h1))
      · rw [e, Option.mem_toList] at h1; injection h1 with h1; have := hx.gr.lt x hm; omega
    · exact (hx.off x hm).2 h1
  · rcases List.mem_append.1 hy with hy | hy
    · exact hlt y (Option.mem_toList.1 hy)
    · exact Nat.lt_of_lt_of_le (hx.lt y hy) k.size
theorem T2.append (hx : T2 B Y w gp dp g d hp ep h e) {v v' : Value} (hg : w.grownBy w' v.ownBlock) (ho : ∀ x, v.ownBlock = some x → x ∈ Y) (hv : v'.ownBlock = v.ownBlock ∨ v'.ownBlock = some w.heap.size) (hlt : ∀ x, v'.ownBlock = some x → x < w'.heap.size) (hbo : ∀ x, v.ownBlock = some x → B ≤ x) :
    T2 B (v'.ownBlock.toList ++ Y) w' gp dp g d hp ep h e ∧ Below B w w' ∧ ∀ y ∈ Y, v.ownBlock ≠ some y → w'.heap[y]? = w.heap[y]? := by
  obtain ⟨q, hq, hx⟩ := hx
  obtain ⟨a1, a2, a3⟩ := hx.append hg (fun x hm => List.mem_append_right _ (ho x hm)) hv hlt hbo
  exact ⟨⟨q, hq.append hg ho hv hlt hbo, a1.sub (fun z hz => by simp only [List.mem_append] at hz ⊢; grind)⟩, a2, fun y hy => a3 y (List.mem_append_right _ hy)⟩
/-- A list of the statement's own has grown. -/
theorem F2.append (hx : F2 B Y w gp dp g d fp hp ep h e root n) {v v' : Value} (hg : w.grownBy w' v.ownBlock) (ho : ∀ x, v.ownBlock = some x → x ∈ Y) (hv : v'.ownBlock = v.ownBlock ∨ v'.ownBlock = some w.heap.size) (hlt : ∀ x, v'.ownBlock = some x → x < w'.heap.size) (hbo : ∀ x, v.ownBlock = some x → B ≤ x) :
    F2 B (v'.ownBlock.toList ++ Y) w' gp dp g d fp hp ep h e root n ∧ Below B w w' ∧ ∀ y ∈ Y, v.ownBlock ≠ some y → w'.heap[y]? = w.heap[y]? := by
  obtain ⟨ht, hb, h1, h2⟩ := hx.t2
  obtain ⟨a1, a2, a3⟩ := ht.append hg (fun x hm => List.mem_cons_of_mem _ (ho x hm)) hv hlt hbo
  have hb' : Blk w' fp 27 (ftc hp root n) := (a3 fp (List.mem_cons_self ..) (fun e => h1 (ho fp e))).trans hb
  refine ⟨F2.of (a1.sub (fun z hz => by simp only [List.mem_cons, List.mem_append] at hz ⊢; grind)) hb' (fun hm => ?_) h2, a2, fun y hy => a3 y (List.mem_cons_of_mem _ hy)⟩
  rcases List.mem_append.1 hm with hm | hm
  · rw [Option.mem_toList] at hm
    rcases hv with e | e
    · exact h1 (ho fp (e ▸ hm))
    · have hm : v'.ownBlock = some fp := hm
      rw [e] at hm; injection hm with hm; have := hb.lt; omega
  · exact h1 hm
/-- The grid to which blocks are fetched tells a block that is there. -/
theorem F2.rawOf (hx : F2 B Y w gp dp g d fp hp ep h e root n) (hl : h.W.length ≤ 1000000000) (r : RefT) {b : GBT} (hg : glook h e none r = (0, some b, h)) :
    Calls Tryd.prog 25 #[.pointer (some ⟨hp, 0, none⟩), .agg #[.int .i64 r.1, .int .i64 r.2.1]] w fun v w' => ∃ y, v = .returned (.tuple #[.slice (some ⟨y, 0, none⟩) (gblk e r.1).length (gblk e r.1).length, .int .i64 0]) ∧
      Blk w' y 5 ((gblk e r.1).map u8v).toArray ∧ F2 B (y :: Y) w' gp dp g d fp hp ep h e root n ∧ GStep B Y w w' := by
  obtain ⟨q, hq, hf, h1, h2⟩ := hx
  refine (xraw_some hf.gx hl r hg).mono ?_
  rintro v w' ⟨y, rfl, hy, hyw, hG, hS⟩
  have hb' := hS.same.blk hf.blk (List.mem_cons_self ..)
  have hp : ∀ z, z ∈ fp :: (q.all ++ Y) ↔ z ∈ q.all ++ fp :: Y := fun z => by simp only [List.mem_cons, List.mem_append]; grind
  have hT := T2.snd1 hq (hG.sub (fun z hz => by simp only [List.mem_cons, List.mem_append] at hz ⊢; grind)) (hS.sub (fun z hz => (hp z).2 hz)) hyw
  refine ⟨y, rfl, hy, F2.of (hT.sub (fun z hz => by simp only [List.mem_cons] at hz ⊢; grind)) hb' (fun hm => ?_) h2, hS.sub (fun z hz => List.mem_cons_of_mem _ (List.mem_append_right _ hz))⟩
  rcases List.mem_cons.1 hm with e | e
  · have := hf.blk.lt; omega
  · exact h1 (List.mem_append_right _ e)
/-- It has none there. -/
theorem F2.rawNo (hx : F2 B Y w gp dp g d fp hp ep h e root n) (hl : h.W.length ≤ 1000000000) (r : RefT) {c : Int} (hg : glook h e none r = (c, none, h')) :
    Calls Tryd.prog 25 #[.pointer (some ⟨hp, 0, none⟩), .agg #[.int .i64 r.1, .int .i64 r.2.1]] w fun v w' => ∃ v2, v = .returned (.tuple #[v2, .int .i64 c]) ∧ F2 B Y w' gp dp g d fp hp ep h' e root n ∧ GStep B Y w w' := by
  obtain ⟨q, hq, hf, h1, h2⟩ := hx
  refine (xraw_no hf.gx hl r hg).mono ?_
  rintro v w' ⟨v2, rfl, hG, hS⟩
  exact ⟨v2, rfl, F2.fet hq (hf.step hG hS) (hS.sub (fun z hz => List.mem_cons_of_mem _ hz)) h1 h2⟩
/-- What it lacks from a ref on. -/
theorem F2.reach (hx : F2 B Y w gp dp g d fp hp ep h e root n) (hl : h.W.length ≤ 1000000000) (r : RefT) {c0 : Int} {L : List RefT} (hg : greach h e none r = (c0, L, h')) :
    Calls Tryd.prog 43 #[.pointer (some ⟨hp, 0, none⟩), .agg #[.int .i64 r.1, .int .i64 r.2.1]] w fun v w' => ∃ A c, v = .returned (.tuple #[.slice A L.length c, .int .i64 c0]) ∧ F2 B Y w' gp dp g d fp hp ep h' e root n ∧ GStep B Y w w' := by
  obtain ⟨q, hq, hf, h1, h2⟩ := hx
  refine (xreach hf.gx hl r hg).mono ?_
  rintro v w' ⟨A, c, rfl, -, -, -, -, hG, hS⟩
  exact ⟨A, c, rfl, F2.fet hq (hf.step hG hS) (hS.sub (fun z hz => List.mem_cons_of_mem _ hz)) h1 h2⟩
end
end Go.Proofs.YthfdjemlibecgaaDoor

/- FetchWhole: what stands ahead of each call. Conditions: as each says. -/
namespace Go.Proofs.YthfdjemlibecgaaDoor
open Go.RowKit
theorem items_step {b : Nat → GBT} {m many j : Nat} {D : List RefT} {e0 e : Dsk} {g0 g : Grd} (h0 : Got b m D e0) (hb : Bks b m) (hg0 : g0.n = 16) (hg : g.n = 16) (hj : j < ((gmiss g0 e0 (wk (m - 1))).take many).length) (h : Got b m (D ++ ((gmiss g0 e0 (wk (m - 1))).take many).take j) e) :
    ∃ i, i < m ∧ ((gmiss g0 e0 (wk (m - 1))).take many)[j] = wk i ∧ wk i ∈ gmiss g e (wk (m - 1)) ∧ wk i ∉ D ++ ((gmiss g0 e0 (wk (m - 1))).take many).take j := by
  have hnd : ((gmiss g0 e0 (wk (m - 1))).take many).Nodup := ((gwalk_nodup g0 e0 _).sublist List.filter_sublist).sublist (List.take_sublist _ _)
  have hmem : ∀ x ∈ (gmiss g0 e0 (wk (m - 1))).take many, x ∈ gmiss g0 e0 (wk (m - 1)) := fun x hx => List.mem_of_mem_take hx
  generalize (gmiss g0 e0 (wk (m - 1))).take many = l at hj h hnd hmem ⊢
  obtain ⟨h1, h2⟩ := (h0.miss hb hg0).1 (hmem l[j] (List.getElem_mem hj))
  obtain ⟨i, hi, hx⟩ := h0.walk hb hg0 h1
  have h3 : l[j] ∉ l.take j := by
    have h4 : (l.take (j + 1)).Nodup := hnd.sublist (List.take_sublist _ _)
    rw [List.take_succ_eq_append_getElem hj, List.nodup_append] at h4
    exact fun hm => h4.2.2 _ hm _ (List.mem_singleton_self _) rfl
  rw [hx] at h1 h2 h3
  have h5 : wk i ∉ D ++ l.take j := fun hm => by
    rcases List.mem_append.1 hm with hm | hm
    · exact h2 hm
    · exact h3 hm
  exact ⟨i, hi, hx, (h.miss hb hg).2 ⟨h0.mono h hb hg0 hg (fun x hx => List.mem_append_left _ hx) h1, h5⟩, h5⟩
/-- Ahead of each call: the grids, the fetch, what has been reached. -/
structure FwS (w0 w1 : World) (l : List PartT) (A8 : Addr) (br gp dp fp hp ep : Nat) (d : Dsk) (E : List Nat) (R D : List RefT) (v : Value) (hg : Grd) (e : Dsk) (W : World) : Prop where
  f : F2 w0.heap.size (v.ownBlock.toList ++ (E ++ [br, A8.block])) W gp dp ⟨16, cL 16 l.length, []⟩ d fp hp ep hg e (wk (l.length - 1)) D.length
  got : Got (wb l) l.length D e
  n16 : hg.n = 16
  own : ∃ sp, OwnsC 23 2 W w1.heap.size v R.length (refCells R) sp
  root : Blk W br 23 #[.int .i64 (wk (l.length - 1)).1, .int .i64 (wk (l.length - 1)).2.1]
  refs : Refs W (some A8) ((List.range l.length).map wk)
  bel : Below w0.heap.size w0 W
  sz : w1.heap.size ≤ W.heap.size
section
variable {w0 w1 W W' : World} {l : List PartT} {A8 : Addr} {br gp dp fp hp ep : Nat} {d e e' : Dsk} {E : List Nat} {R D D' : List RefT} {v v' : Value} {hg hg' : Grd}
theorem FwS.step (h : FwS w0 w1 l A8 br gp dp fp hp ep d E R D v hg e W) (hF : F2 w0.heap.size (v.ownBlock.toList ++ (E ++ [br, A8.block])) W' gp dp ⟨16, cL 16 l.length, []⟩ d fp hp ep hg' e' (wk (l.length - 1)) D'.length) (hS : GStep w0.heap.size (v.ownBlock.toList ++ (E ++ [br, A8.block])) W W') (hG : Got (wb l) l.length D' e') (hn : hg'.n = 16) :
    FwS w0 w1 l A8 br gp dp fp hp ep d E R D' v hg' e' W' := by
  obtain ⟨sp, ho⟩ := h.own
  exact ⟨hF, hG, hn, ⟨sp, hS.same.owns ho (fun x hx => List.mem_append_left _ (Option.mem_toList.2 hx))⟩, hS.same.blk h.root (by simp), hS.same.refs h.refs (fun ad e => by cases e; simp), h.bel.trans hS.bel, Nat.le_trans h.sz hS.bel.size⟩
theorem FwS.below (h : FwS w0 w1 l A8 br gp dp fp hp ep d E R D v hg e W) (k : Below W.heap.size W W') : FwS w0 w1 l A8 br gp dp fp hp ep d E R D v hg e W' :=
  h.step (F2.below h.f k).1 ((F2.below h.f k).2.sub (fun _ hy => List.mem_cons_of_mem _ hy)) h.got h.n16
/-- A block of the law's own is there for a while. -/
theorem FwS.enter {y : Nat} (h : FwS w0 w1 l A8 br gp dp fp hp ep d [] R D v hg e W) (hF : F2 w0.heap.size (y :: (v.ownBlock.toList ++ [br, A8.block])) W' gp dp ⟨16, cL 16 l.length, []⟩ d fp hp ep hg' e (wk (l.length - 1)) D.length) (hS : GStep w0.heap.size (v.ownBlock.toList ++ [br, A8.block]) W W') (hn : hg'.n = 16) :
    FwS w0 w1 l A8 br gp dp fp hp ep d [y] R D v hg' e W' := by
  obtain ⟨sp, ho⟩ := h.own
  exact ⟨hF.sub (fun z hz => by simp only [List.mem_append, List.mem_cons] at hz ⊢; grind), h.got, hn, ⟨sp, hS.same.owns ho (fun x hx => List.mem_append_left _ (Option.mem_toList.2 hx))⟩, hS.same.blk h.root (by simp), hS.same.refs h.refs (fun ad e => by cases e; simp), h.bel.trans hS.bel, Nat.le_trans h.sz hS.bel.size⟩
theorem FwS.more {y : Nat} (h : FwS w0 w1 l A8 br gp dp fp hp ep d E R D v hg e W) (hF : F2 w0.heap.size (y :: (v.ownBlock.toList ++ (E ++ [br, A8.block]))) W' gp dp ⟨16, cL 16 l.length, []⟩ d fp hp ep hg' e (wk (l.length - 1)) D.length) (hS : GStep w0.heap.size (v.ownBlock.toList ++ (E ++ [br, A8.block])) W W') (hn : hg'.n = 16) :
    FwS w0 w1 l A8 br gp dp fp hp ep d (y :: E) R D v hg' e W' := by
  obtain ⟨sp, ho⟩ := h.own
  exact ⟨hF.sub (fun z hz => by simp only [List.mem_append, List.mem_cons] at hz ⊢; grind), h.got, hn, ⟨sp, hS.same.owns ho (fun x hx => List.mem_append_left _ (Option.mem_toList.2 hx))⟩, hS.same.blk h.root (by simp), hS.same.refs h.refs (fun ad e => by cases e; simp), h.bel.trans hS.bel, Nat.le_trans h.sz hS.bel.size⟩
theorem FwS.less {E' : List Nat} (h : FwS w0 w1 l A8 br gp dp fp hp ep d E R D v hg e W) (hs : ∀ y ∈ E', y ∈ E) : FwS w0 w1 l A8 br gp dp fp hp ep d E' R D v hg e W :=
  ⟨h.f.sub (fun z hz => by simp only [List.mem_append] at hz ⊢; grind), h.got, h.n16, h.own, h.root, h.refs, h.bel, h.sz⟩
/-- A ref is appended to those that have been reached. -/
theorem FwS.app (h : FwS w0 w1 l A8 br gp dp fp hp ep d E R D v hg e W) (hB : w0.heap.size ≤ w1.heap.size) (hbr : br < w1.heap.size) (hyr : A8.block < w1.heap.size) {x : RefT} {sp' : List Value}
    (ho : OwnsC 23 2 W' w1.heap.size v' (R.length + 1) (refCells R ++ [.int .i64 x.1, .int .i64 x.2.1]) sp') (hgr : W.grownBy W' v.ownBlock) (hv : v'.ownBlock = v.ownBlock ∨ v'.ownBlock = some W.heap.size) :
    FwS w0 w1 l A8 br gp dp fp hp ep d E (R ++ [x]) D v' hg e W' ∧ ∀ y ∈ E, v.ownBlock ≠ some y → W'.heap[y]? = W.heap[y]? := by
  obtain ⟨sp, ho0⟩ := h.own
  obtain ⟨a1, a2, a3⟩ := h.f.append hgr (fun z hz => List.mem_append_left _ (Option.mem_toList.2 hz)) hv (fun z hz => (OwnsC.lt ho z hz).2) (fun z hz => Nat.le_trans hB (OwnsC.lt ho0 z hz).1)
  have hne : ∀ y, y < w1.heap.size → v.ownBlock ≠ some y := fun y hy e => by have := (OwnsC.lt ho0 y e).1; omega
  refine ⟨⟨a1.sub (fun z hz => by simp only [List.mem_append] at hz ⊢; grind), h.got, h.n16, ⟨sp', ?_⟩, (a3 br (by simp) (hne br hbr)).trans h.root, ?_, h.bel.trans a2, Nat.le_trans h.sz a2.size⟩, fun y hy => a3 y (by simp [hy])⟩
  · rw [List.length_append, List.length_singleton, show refCells (R ++ [x]) = refCells R ++ [.int .i64 x.1, .int .i64 x.2.1] from refCells_snoc _ _ _]
    exact ho
  · exact (show Same [A8.block] W W' from ⟨a2.size, fun y hy => by rw [List.mem_singleton.1 hy]; exact a3 _ (by simp) (hne _ hyr)⟩).refs h.refs (fun ad e => by cases e; simp)
end
end Go.Proofs.YthfdjemlibecgaaDoor

/- FetchWhole: what is lacked is put until all is there. Conditions: the library's table is there; the arguments can be read. -/
namespace Go.Proofs.YthfdjemlibecgaaDoor
open Go.RowKit
attribute [local go_sem] Oper.semAt_some
/-- A fetch is made of the second one. -/
theorem F2.made {B gp dp hp ep fp n : Nat} {Y : List Nat} {w w' : World} {q : GPl} {g h : Grd} {d e : Dsk} {root : RefT} (hq : GR B Y w q gp dp g d) (hF : FX B (q.all ++ Y) w' fp hp ep h e root n) (hfp : w.heap.size ≤ fp) (hS : GStep B (q.all ++ Y) w w') : F2 B Y w' gp dp g d fp hp ep h e root n := by
  have hq6 := hq.step hS (fun x hx => List.mem_append_left _ hx)
  have h1 : fp ∉ q.all ++ Y := fun hm => by
    rcases List.mem_append.1 hm with hm | hm
    · have := hq.gr.lt fp hm; omega
    · have := hq.lt fp hm; omega
  refine ⟨q, ⟨hq6.gg, hq6.gd, hq6.gf, hq6.gr, fun x hx => ⟨(hq6.off x hx).1, fun hm => ?_⟩, fun y hy => ?_, hq6.size⟩, hF, h1, Nat.le_trans hq.size hfp⟩
  · rcases List.mem_cons.1 hm with e | e
    · exact h1 (e ▸ List.mem_append_left _ hx)
    · exact (hq6.off x hx).2 e
  · rcases List.mem_cons.1 hy with rfl | e
    · exact hF.blk.lt
    · exact hq6.lt y e
/-- Ahead of each time that it is asked what is lacked. -/
def LpRel (w0 w1 : World) (l : List PartT) (A8 : Addr) (br gp dp fp hp ep : Nat) (d : Dsk) (v13 v14 : Value) (W : World) : Prop :=
  ∃ (n : Nat) (D : List RefT) (hg : Grd) (e : Dsk), v14 = .int .i64 (n : Int) ∧ n ≤ D.length ∧ hg.W.length ≤ 1000 * (1 + D.length + n) ∧ FwS w0 w1 l A8 br gp dp fp hp ep d [] D D v13 hg e W
/-- Ahead of each block that is put. -/
def InnRel (w0 w1 : World) (l : List PartT) (A8 : Addr) (br gp dp fp hp ep : Nat) (d : Dsk) (n : Nat) (D its : List RefT) (ad : Addr) (v13 v18 : Value) (W : World) : Prop :=
  ∃ (j : Nat) (hg : Grd) (e : Dsk), v18 = .int .i64 (j : Int) ∧ j ≤ its.length ∧ FwS w0 w1 l A8 br gp dp fp hp ep d [ad.block] (D ++ its.take j) (D ++ its.take j) v13 hg e W ∧ Refs W (some ad) its ∧ (∀ x, v13.ownBlock = some x → x ≠ ad.block) ∧ hg.W.length ≤ 1000 * (2 + (D.length + j) + n)
def EndRel (w0 w1 : World) (l : List PartT) (A8 : Addr) (br gp dp fp hp ep : Nat) (d e : Dsk) (D : List RefT) (v13 v23 : Value) (W : World) : Prop :=
  ∃ (i : Nat) (hg : Grd), v23 = .int .i64 (i : Int) ∧ i ≤ l.length ∧ FwS w0 w1 l A8 br gp dp fp hp ep d [] D D v13 hg e W ∧ hg.W.length ≤ 60000 + i
theorem FwS.reached {w0 w1 W : World} {l : List PartT} {A8 : Addr} {br gp dp fp hp ep n c : Nat} {d e : Dsk} {E : List Nat} {R D : List RefT} {A : Option Addr} {hg : Grd} (h : FwS w0 w1 l A8 br gp dp fp hp ep d E R D (.slice A n c) hg e W) : Refs W A R := by
  obtain ⟨spb, hob⟩ := h.own
  obtain ⟨A15, c15, e15, -, -, hrd, -⟩ := OwnsC.reads hob
  injection e15 with e15 _ _
  subst e15
  exact Refs.of hrd
theorem want_len (g : Grd) (r : RefT) : (g.want r).W.length ≤ g.W.length + 1 := by
  unfold Grd.want
  split
  · omega
  · simp only [List.length_append, List.length_singleton]; omega
theorem items_step2 {b : Nat → GBT} {m many j : Nat} {D its : List RefT} {e0 e : Dsk} {g0 g : Grd} (hits : (gmiss g0 e0 (wk (m - 1))).take many = its) (h0 : Got b m D e0) (hb : Bks b m) (hg0 : g0.n = 16) (hg : g.n = 16) (hj : j < its.length) (h : Got b m (D ++ its.take j) e) :
    ∃ i, i < m ∧ its[j] = wk i ∧ wk i ∈ gmiss g e (wk (m - 1)) ∧ wk i ∉ D ++ its.take j := by
  subst hits
  exact items_step h0 hb hg0 hg hj h
theorem Got.again {b : Nat → GBT} {m : Nat} {D : List RefT} {e : Dsk} {g g' : Grd} (h : Got b m D e) (hb : Bks b m) (hg : g.n = 16) (hg' : g'.n = 16) (hz : gmiss g e (wk (m - 1)) ≠ []) : 0 < (gmiss g' e (wk (m - 1))).length := by
  obtain ⟨x, hx⟩ := List.exists_mem_of_ne_nil _ hz
  obtain ⟨h1, h2⟩ := (h.miss hb hg).1 hx
  exact List.length_pos_of_mem ((h.miss hb hg').2 ⟨h.mono h hb hg hg' (fun _ h => h) h1, h2⟩)
set_option maxRecDepth 100000 in
set_option maxHeartbeats 16000000 in
theorem fetchWhole_law (A B : Option Addr) (c cb : Nat) (l : List PartT) (most : List Int) (hl : l.length ≤ 9223372036854775807) (hmo : most.length ≤ 9223372036854775807) (w : World) (hT : Tab w) (hP : Parts w A l) (hI : Ints w B most) :
    Calls Tryd.prog 6 #[.slice A l.length c, .slice B most.length cb] w fun e w' => e = .returned (.bool true) ∧ Below w.heap.size w w' := by
  have hzr := zeroRefrun
  have H0 := Lib.hid (And.intro hT (And.intro hP (And.intro hI (And.intro hl hmo))))
  clear hT hP hI
  go_enter Tryd.func6, Tryd.ntmps6
  go_wp2_with fail
  refine (fawake_any w H0.out.1).mono ?_
  rintro e w1 ⟨rfl, hB⟩
  have H1 := Lib.hid hB
  clear hB
  go_wp2_with fail
  refine (few_any A c l H0.out.2.2.2.1 w1 (H0.out.2.1.below H1.out)).mono ?_
  rintro e w1' ⟨rfl, hw⟩
  obtain rfl := hw.symm
  clear hw
  by_cases hf : fewP l = true
  case neg =>
    have hf : fewP l = false := by simpa using hf
    rw [hf]
    clear hl hmo hf
    go_wp2
    go_ret
    exact ⟨rfl, H1.out⟩
  rw [hf]
  have HF := Lib.hid (And.intro hf (few_at hf).1)
  clear hf hl
  by_cases hm40 : most.length ≤ 40
  case neg =>
    have q1 : decide ((most.length : Int) > 40) = true := decide_eq_true (by omega)
    clear hm40 hmo
    go_wp2
    go_ret
    exact ⟨rfl, H1.out⟩
  have q1 : decide ((most.length : Int) > 40) = false := decide_eq_false (by omega)
  clear hmo
  go_wp2_with fail
  refine (fmade_any 16 (by omega) (by omega) w1).mono ?_
  rintro e w2 ⟨gp, dp, rfl, hG, hB⟩
  have H2 := Lib.hid (And.intro (show GX w.heap.size [] w2 gp dp ⟨16, cL 16 0, []⟩ (Dsk.new (104 + 4 * 16)) from GX.of_GL (by obtain ⟨q, k1, k2, k3, k4, k5⟩ := hG; exact ⟨q, k1, k2, k3, k4, fun x hx => Nat.le_trans H1.out.size (k5 x hx)⟩) (Nat.le_trans H1.out.size hB.size)) (H1.out.trans (hB.mono H1.out.size)))
  clear hG hB H1 q1
  go_wp2_with fail
  refine (fmade_any 16 (by omega) (by omega) w2).mono ?_
  rintro e w3 ⟨hp, ep, rfl, hG, hB⟩
  have H3 := Lib.hid (And.intro (T2.new H2.out.1 hB (show GL w2.heap.size w3 hp ep ⟨16, cL 16 0, []⟩ (Dsk.new (104 + 4 * 16)) from hG)).swap (H2.out.2.trans (hB.mono H2.out.2.size)))
  clear hG hB H2
  have hw0 := wr_new l
  have hg0 := got_new (wb l) l.length HF.out.2.2
  have HD := Lib.hid (And.intro hw0 hg0)
  clear hw0 hg0
  generalize Dsk.new (104 + 4 * 16) = d0 at H3 HD
  go_wp2_with fail
  obtain ⟨q2, hq2, hg⟩ := H3.out.1
  refine (written_any (w0 := w) A c l hg HD.out.1 H0.out.1 HF.out.1 H0.out.2.1 H3.out.2).mono ?_
  rintro e w4 ⟨v8, d, rfl, hS⟩
  obtain ⟨sp8, ho8⟩ := hS.own
  obtain ⟨A8, c8, rfl, hc8, hc8m, hrd8, -⟩ := OwnsC.reads ho8
  have hR8 := Refs.of hrd8
  have hln : (List.map wk (List.range l.length)).length = l.length := by simp
  obtain ⟨b8, o8, rfl, -, hcs⟩ := hR8 (by rw [hln]; exact HF.out.2.1)
  have hown := ownOf ho8
  have hy8 := (OwnsC.lt ho8 b8 hown).1
  have hT4 := (T2.snd1 hq2 (show GX w.heap.size (b8 :: (q2.all ++ [])) w4 gp dp ⟨16, cL 16 l.length, []⟩ d from hS.gx.sub (fun z hz => by rw [hown]; simpa using hz)) hS.st hy8).swap
  obtain ⟨d5, d6⟩ := hcs (l.length - 1) (by rw [hln]; have := HF.out.2.1; omega)
  rw [show (List.map wk (List.range l.length))[l.length - 1]'(by rw [hln]; have := HF.out.2.1; omega) = wk (l.length - 1) by simp] at d5 d6
  have H4 := Lib.hid (And.intro hT4 (And.intro hS.wr (And.intro hR8 (H3.out.2.trans (hS.st.bel.mono (Nat.le_refl _))))))
  have hm1 := HF.out.2.1
  have hm2 := HF.out.2.2
  have kw : wrap64 ((l.length : Int) - 1) = ((l.length - 1 : Nat) : Int) := by rw [w64_in (by omega)]; omega
  have hlm : l.length - 1 < l.length := by omega
  clear hq2 hg hS ho8 hc8 hc8m hrd8 hR8 hln hcs hown hy8 hT4 H3
  go_wp2_with (first
    | ((with_reducible show wpList _ _ _ ((⟨none, _, _, _, _, _⟩ : Oper) :: _) _ _); refine wpList_store_blk (o := ⟨none, _, _, _, _, _⟩) ((Blk.new w4 23 #[.int .i64 0, .int .i64 0])) (by rfl) _ _ _ (by rfl) (by rfl) (#[.int .i64 (wk (l.length - 1)).1, .int .i64 (wk (l.length - 1)).2.1]) (by rfl) (size_ref) (by rfl) (by rfl) (by simp [Value.oneCell']) ?_; intro w5 h5 hu5; refine stopped ?_)
    | fail)
  refine Stopped.mk ?_
  have hbx := ((Below.refl w4.heap.size w4).alloc (Nat.le_refl _) (.cells #[.int .i64 0, .int .i64 0] 23)).upd hu5 (Nat.le_refl _)
  have H5 := Lib.hid (And.intro (H4.out.1.add hbx (Nat.le_refl _) h5.lt) (And.intro H4.out.2.1 (And.intro (H4.out.2.2.1.below hbx) (And.intro (H4.out.2.2.2.trans (hbx.mono H4.out.2.2.2.size)) h5))))
  clear hbx hu5 H4 d5 d6 kw hlm hm1 hm2
  generalize w4.heap.size = br at H5 h5 ⊢
  go_wp2_with (first
    | ((with_reducible show wpList _ _ _ ((⟨some 64, _, _, _, _, _⟩ : Oper) :: _) _ _); refine wpList_load_blk (o := ⟨some 64, _, _, _, _, _⟩) (h5) (by rfl) _ _ (by rfl) (by rfl) _ Tryd.underlying23 (by rfl) (size_ref) (by rfl) ?_)
    | fail)
  obtain ⟨q, hq, hg⟩ := H5.out.1
  refine (fnew_any hg (by simp) (wk (l.length - 1)) (HD.out.2.reach (few_bks HF.out.1) (g := ⟨16, cL 16 0, []⟩) rfl)).mono ?_
  rintro e w6 ⟨fp, rfl, hF, hfp, hS⟩
  have hFx := F2.made hq hF hfp hS
  have hWl := (greach_W ⟨16, cL 16 0, []⟩ d0 none (wk (l.length - 1))).1
  rw [HD.out.2.reach (few_bks HF.out.1) (g := ⟨16, cL 16 0, []⟩) rfl] at hWl
  have hn16 : (Grd.wants ⟨16, cL 16 0, []⟩ (gmiss ⟨16, cL 16 0, []⟩ d0 (wk (l.length - 1)))).n = 16 := by rw [Grd.wants_n]
  have hS6 := hS.sub (Y' := [br, b8]) (fun _ hz => List.mem_append_right _ hz)
  generalize Grd.wants ⟨16, cL 16 0, []⟩ (gmiss ⟨16, cL 16 0, []⟩ d0 (wk (l.length - 1))) = hg6 at hFx hWl hn16
  have H6 : Hid (FwS w w6 l ⟨b8, o8, none⟩ br gp dp fp hp ep d [] [] [] (.slice none 0 0) hg6 d0 w6) := Lib.hid ⟨hFx, HD.out.2, hn16, ⟨[], OwnsC.nil _ _ _ _⟩, hS6.same.blk h5 (by simp), hS6.same.refs H5.out.2.2.1 (fun ad e => by cases e; simp), H5.out.2.2.2.1.trans hS6.bel, Nat.le_refl _⟩
  have HC := Lib.hid (And.intro H5.out.2.1 (And.intro (hS6.same.blk h5 (by simp)).lt (And.intro (show b8 < w6.heap.size from Nat.lt_of_lt_of_le ((hq.lt b8 (by simp))) hS6.bel.size) (And.intro H6.out.bel.size (show hg6.W.length ≤ 1000 by simp only at hWl; simp at hWl; omega)))))
  clear hq hg hF hfp hS hFx hWl hn16 hS6 H5 h5
  go_wp2_with fail
  go_loopw [13, 14] (fun v13 v14 W => LpRel w w6 l ⟨b8, o8, none⟩ br gp dp fp hp ep d v13 v14 W) (fun _ v _ => 20 - (intOf v).toNat)
  case atStart => exact ⟨0, [], hg6, d0, rfl, Nat.zero_le _, by have := HC.out.2.2.2.2; simp only [List.length_nil]; omega, H6.out⟩
  case round =>
    obtain ⟨n, D, hg, e, rfl, hn, hW, hS⟩ := hrel
    have hcnt := hS.got.cnt
    have hDm : D.length ≤ l.length := by omega
    have hm2 := HF.out.2.2
    have hn16 : n ≤ 16 := by omega
    have q1 : decide ((n : Int) ≤ (l.length : Int)) = true := decide_eq_true (by omega)
    have q1' : decide (n ≤ l.length) = true := decide_eq_true (by omega)
    obtain ⟨sp13, ho13⟩ := hS.own
    obtain ⟨A13, c13, rfl, hc13, hc13m, hrd13, -⟩ := OwnsC.reads ho13
    have HR := Lib.hid (And.intro hS (And.intro hn (And.intro hW hDm)))
    have HBk := Lib.hid (few_bks HF.out.1)
    clear hcnt hS hn hW hc13 hc13m hrd13 ho13 hm40 hDm hm2
    go_wp2_with fail
    have hWr := (greach_W hg e none (wk (l.length - 1))).1
    rw [HR.out.1.got.reach HBk.out HR.out.1.n16] at hWr
    refine (F2.ready HR.out.1.f (by have := HR.out.2.2.1; have := HR.out.2.2.2; have := HF.out.2.2; omega) (HR.out.1.got.reach HBk.out HR.out.1.n16)).mono ?_
    rintro ee w7 ⟨rfl, hF, hSt⟩
    have hn7 : (hg.wants (gmiss hg e (wk (l.length - 1)))).n = 16 := by rw [Grd.wants_n]; exact HR.out.1.n16
    have H7 := Lib.hid (And.intro (HR.out.1.step hF hSt HR.out.1.got hn7) (show (hg.wants (gmiss hg e (wk (l.length - 1)))).W.length ≤ 1000 * (1 + D.length + n) + 257 by have := HR.out.2.2.1; have := HR.out.1.n16; simp only at hWr; omega))
    clear hF hSt hn7 hWr
    generalize hg.wants (gmiss hg e (wk (l.length - 1))) = hg7 at H7
    by_cases hz : gmiss hg e (wk (l.length - 1)) = []
    case pos =>
      rw [hz, show fdone 0 ([] : List RefT) = true from rfl]
      have HZ := Lib.hid hz
      clear hz q1 q1'
      go_wp2_with fail
      go_loopw [23] (fun v23 W => EndRel w w6 l ⟨b8, o8, none⟩ br gp dp fp hp ep d e D (.slice A13 D.length c13) v23 W) (fun v _ => 20 - (intOf v).toNat)
      case atStart => exact ⟨0, hg7, rfl, Nat.zero_le _, H7.out.1, by have := H7.out.2; have := HR.out.2.2.2; have := HF.out.2.2; omega⟩
      case round =>
        obtain ⟨i, hgi, rfl, hi, hS, hWi⟩ := hrel
        have hm16 := HF.out.2.2
        by_cases hlt : i < l.length
        case neg =>
          obtain rfl : i = l.length := by omega
          have hz2 : gmiss hgi e (wk (l.length - 1)) = [] := Classical.byContradiction fun hc => by
            have h1 := hS.got.again HBk.out hS.n16 HR.out.1.n16 hc
            rw [HZ.out] at h1
            exact absurd h1 (Nat.lt_irrefl 0)
          have hre := hS.got.reach HBk.out hS.n16
          rw [hz2, Grd.wants_nil] at hre
          have HE := Lib.hid (And.intro hS (And.intro hre (show hgi.W.length ≤ 1000000000 by omega)))
          have hr := hS.root
          clear hS hz2 hre hi hlt hWi hm16
          go_wp2_with (first
            | ((with_reducible show wpList _ _ _ ((⟨some 209, _, _, _, _, _⟩ : Oper) :: _) _ _); refine wpList_load_blk (o := ⟨some 209, _, _, _, _, _⟩) (hr) (by rfl) _ _ (by rfl) (by rfl) _ Tryd.underlying23 (by rfl) (size_ref) (by rfl) ?_)
            | fail)
          refine (F2.reach HE.out.1.f HE.out.2.2 (wk (l.length - 1)) HE.out.2.1).mono ?_
          rintro ee wa ⟨Al, cl, rfl, hF, hSt⟩
          have Ha := Lib.hid (HE.out.1.step hF hSt HE.out.1.got HE.out.1.n16)
          clear hF hSt hr
          go_wp2_with fail
          refine (F2.ready Ha.out.f HE.out.2.2 HE.out.2.1).mono ?_
          rw [show fdone 0 ([] : List RefT) = true from rfl]
          rintro ee wb_ ⟨rfl, hF, hSt⟩
          have Hb := Lib.hid (Ha.out.step hF hSt HE.out.1.got HE.out.1.n16)
          clear hF hSt Ha
          go_wp2_with fail
          refine (fhad_any (F2.t2 Hb.out.f).2.1).mono ?_
          rintro ee wc ⟨rfl, hw⟩
          obtain rfl := hw.symm
          clear hw
          go_wp2
          go_ret
          exact ⟨rfl, Hb.out.bel⟩
        have hlk := wr_got HC.out.1 hlt HF.out.1 (g := ⟨16, cL 16 l.length, []⟩) rfl
        have hlen : (GB.bytes (wb l i)).length = 1024 := GB.bytes_length (wb l i) (GB.ok_spec (HBk.out.ok i hlt)).2.2.1 (GB.ok_spec (HBk.out.ok i hlt)).2.2.2.1
        have hlo := hS.got.look HBk.out hS.n16 hlt
        have hcells : ∀ w', Refs w' (some ⟨b8, o8, none⟩) (List.map wk (List.range l.length)) → w'.cell? ⟨b8, o8 + i * 2, none⟩ = some (.int .i64 (wk i).1) ∧ w'.cell? ⟨b8, o8 + i * 2 + 1, none⟩ = some (.int .i64 (wk i).2.1) := fun w' hw' => by
          have hln : (List.map wk (List.range l.length)).length = l.length := by simp
          obtain ⟨b9, o9, e9, hl9, hcs⟩ := hw' (by rw [hln]; omega)
          cases e9
          have h9 := hcs i (by rw [hln]; exact hlt)
          rw [show (List.map wk (List.range l.length))[i]'(by rw [hln]; exact hlt) = wk i by simp] at h9
          exact h9
        obtain ⟨d7, d8⟩ := hcells wr hS.refs
        have HI := Lib.hid (And.intro hlk (And.intro hlen (And.intro hlo (And.intro hcells (And.intro hWi (And.intro hlt hm16))))))
        have H9 := Lib.hid hS
        clear hlk hlen hlo hcells hS hWi hi
        go_wp2_with fail
        refine (F2.raw H9.out.f (by simp) (wk i) HI.out.1.1).mono ?_
        rintro ee wa ⟨ya, rfl, hby, hF, hSt⟩
        rw [HI.out.1.2] at hby ⊢
        rw [HI.out.2.1]
        have hSt2 := hSt.sub (Y' := (Value.slice A13 D.length c13).ownBlock.toList ++ ([] ++ [br, b8])) (fun _ hz => List.mem_cons_of_mem _ hz)
        have Ha := Lib.hid (And.intro (H9.out.more hF hSt2 H9.out.n16) hby)
        obtain ⟨d9, d10⟩ := HI.out.2.2.2.1 wa Ha.out.1.refs
        clear hby hF hSt hSt2 d7 d8
        by_cases hD : wk i ∈ D
        · have hlo := HI.out.2.2.1
          rw [if_pos hD] at hlo
          have hge : gblk e (wk i).1 = GB.bytes (wb l i) := H9.out.got.into i hlt hD
          have HDD := Lib.hid (And.intro hD (And.intro hlo hge))
          clear hD hlo hge
          go_wp2_with fail
          refine (F2.rawOf Ha.out.1.f (by have := HI.out.2.2.2.2.1; omega) (wk i) HDD.out.2.1).mono ?_
          rintro ee wb_ ⟨yb, rfl, hby, hF, hSt⟩
          rw [HDD.out.2.2] at hby ⊢
          rw [HI.out.2.1]
          have Hb := Lib.hid (And.intro (Ha.out.1.more hF hSt Ha.out.1.n16) (And.intro (hSt.same.blk Ha.out.2 (by simp)) hby))
          obtain ⟨d11, d12⟩ := HI.out.2.2.2.1 wb_ Hb.out.1.refs
          clear hby hF hSt d9 d10 Ha
          go_wp2_with fail
          refine (fin_any A13 D.length c13 D (wk i) rfl (by have := HR.out.2.2.2; omega) wb_ Hb.out.1.reached).mono ?_
          rintro ee wc ⟨rfl, hbx⟩
          rw [decide_eq_true HDD.out.1]
          have Hc := Lib.hid (And.intro (Hb.out.1.below hbx) (And.intro (Hb.out.2.1.below hbx Hb.out.2.1.lt) (Hb.out.2.2.below hbx Hb.out.2.2.lt)))
          clear hbx d11 d12 Hb
          go_wp2_with fail
          refine (sameBytes_any (some ⟨ya, 0, none⟩) (some ⟨yb, 0, none⟩) 1024 1024 1024 1024 (GB.bytes (wb l i)) (GB.bytes (wb l i)) HI.out.2.1.symm HI.out.2.1.symm wc Hc.out.2.1.bytes Hc.out.2.2.bytes).mono ?_
          rw [decide_eq_true rfl]
          rintro ee wd ⟨rfl, hw⟩
          obtain rfl := hw.symm
          clear hw
          go_wp2_with fail
          exact ⟨⟨i + 1, hgi, rfl, HI.out.2.2.2.2.2.1, Hc.out.1.less (by simp), by have := HI.out.2.2.2.2.1; omega⟩, meas_up (m := 20) (i := i) rfl rfl (by omega)⟩
        · have hlo := HI.out.2.2.1
          rw [if_neg hD] at hlo
          have hwl := want_len hgi (wk i)
          have hwn : (hgi.want (wk i)).n = 16 := by rw [Grd.want_n]; exact H9.out.n16
          have HDD := Lib.hid (And.intro hD (And.intro hlo (And.intro hwl hwn)))
          clear hD hlo hwl hwn
          go_wp2_with fail
          refine (F2.rawNo Ha.out.1.f (by have := HI.out.2.2.2.2.1; omega) (wk i) HDD.out.2.1).mono ?_
          rintro ee wb_ ⟨v2, rfl, hF, hSt⟩
          have Hb := Lib.hid (Ha.out.1.step hF hSt Ha.out.1.got HDD.out.2.2.2)
          obtain ⟨d11, d12⟩ := HI.out.2.2.2.1 wb_ Hb.out.refs
          clear hF hSt d9 d10 Ha
          go_wp2_with fail
          refine (fin_any A13 D.length c13 D (wk i) rfl (by have := HR.out.2.2.2; omega) wb_ Hb.out.reached).mono ?_
          rintro ee wc ⟨rfl, hbx⟩
          rw [decide_eq_false HDD.out.1]
          have Hc := Lib.hid (Hb.out.below hbx)
          clear hbx d11 d12 Hb
          go_wp2_with fail
          exact ⟨⟨i + 1, hgi.want (wk i), rfl, HI.out.2.2.2.2.2.1, Hc.out.less (by simp), by have := HI.out.2.2.2.2.1; have := HDD.out.2.2.1; omega⟩, meas_up (m := 20) (i := i) rfl rfl (by omega)⟩
    have hpos := HR.out.1.got.again HBk.out HR.out.1.n16 H7.out.1.n16 hz
    rw [show fdone 0 (gmiss hg e (wk (l.length - 1))) = false by unfold fdone; rw [decide_eq_false hz]; rfl]
    have HZ := Lib.hid hpos
    clear hpos hz q1 q1'
    by_cases hnm : n < most.length
    case pos =>
      have q2 : decide (n < most.length) = true := decide_eq_true hnm
      obtain ⟨bm, om, rfl, hcm⟩ := (Reads.below H0.out.2.2.1 H7.out.1.bel) (fun e => by have := congrArg List.length e; rw [List.length_map, List.length_nil] at this; omega)
      have d3 := hcm n (.int .i64 most[n]) (by rw [List.getElem?_map, List.getElem?_eq_getElem hnm]; rfl)
      have hpl := pickN_lt most[n] 16 (by omega)
      have hpk := fun w => pick_any most[n] 16 (by omega) (by omega) w
      generalize most[n] = x at d3 hpl hpk
      have hw17 : wrap64 (1 + (pickN x 16 : Int)) = 1 + (pickN x 16 : Int) := w64_in (by omega)
      clear hcm
      go_wp2_with fail
      refine (hpk _).mono ?_
      rintro ee wz ⟨rfl, hw⟩
      obtain rfl := hw.symm
      clear hw hpk d3 q2 hnm
      go_wp2_with fail
      clear hw17
      have hmx1 : 1 ≤ 1 + (pickN x 16 : Int) := by omega
      have hmx2 : 1 + (pickN x 16 : Int) ≤ 16 := by omega
      clear hpl
      generalize 1 + (pickN x 16 : Int) = mx at hmx1 hmx2 ⊢
      have hlk := (greach_W hg7 e none (wk (l.length - 1))).2
      have hlw := (greach_W hg7 e none (wk (l.length - 1))).1
      rw [H7.out.1.got.reach HBk.out H7.out.1.n16] at hlk hlw
      generalize hits : (gmiss hg7 e (wk (l.length - 1))).take (mx : Int).toNat = its
      have hitl : its.length ≤ (mx : Int).toNat := by rw [← hits, List.length_take]; omega
      have hitp : 0 < its.length := by rw [← hits, List.length_take]; have := HZ.out; omega
      refine (F2.lacks H7.out.1.f (by have := H7.out.2; have := HR.out.2.2.2; have := HF.out.2.2; omega) (mx) (by omega) (by omega) (by have := H7.out.1.n16; simp only at hlk; omega) (H7.out.1.got.reach HBk.out H7.out.1.n16) (by rw [H7.out.1.got.items HBk.out H7.out.1.n16]; exact hits) hitp).mono ?_
      rintro ee w8 ⟨ad, c9, rfl, hR, hF, hSt, hfr⟩
      obtain ⟨ba, oa, e_ad, -, -⟩ := hR hitp
      cases e_ad
      have hn8 : (hg7.wants (gmiss hg7 e (wk (l.length - 1)))).n = 16 := by rw [Grd.wants_n]; exact H7.out.1.n16
      have hW8 : (hg7.wants (gmiss hg7 e (wk (l.length - 1)))).W.length ≤ 1000 * (2 + (D.length + 0) + n) := by have := H7.out.2; have := H7.out.1.n16; simp only at hlw; omega
      obtain ⟨sp7, ho7⟩ := H7.out.1.own
      have hap : ∀ x, (Value.slice A13 D.length c13).ownBlock = some x → x ≠ ba := fun x hx => by have := (OwnsC.lt ho7 x hx).2; have : w7.heap.size ≤ ba := hfr; omega
      have H8 := Lib.hid (And.intro (H7.out.1.enter hF hSt hn8) (And.intro hR (And.intro hap (And.intro hW8 (And.intro hits hitp)))))
      generalize hg7.wants (gmiss hg7 e (wk (l.length - 1))) = hg8 at H8
      have q3 : ((its.length : Int) == 0) = false := by rw [beq_eq_false_iff_ne]; omega
      have q4 : decide ((its.length : Int) > (mx : Int)) = false := decide_eq_false (by omega)
      have hi16 : its.length ≤ 16 := by omega
      clear hlk hlw hits hR hF hSt hfr hn8 hW8 hap ho7
      go_wp2_with fail
      go_loopw [13, 18] (fun v13 v18 W => InnRel w w6 l ⟨b8, o8, none⟩ br gp dp fp hp ep d n D its ⟨ba, oa, none⟩ v13 v18 W) (fun _ v _ => 20 - (intOf v).toNat)
      case atStart => exact ⟨0, hg8, e, rfl, Nat.zero_le _, by rw [List.take_zero, List.append_nil]; exact H8.out.1, H8.out.2.1, H8.out.2.2.1, H8.out.2.2.2.1⟩
      case round =>
        obtain ⟨j, hgj, ej, rfl, hj, hS, hR, hap, hWj⟩ := hrel
        obtain ⟨sp14, ho14⟩ := hS.own
        obtain ⟨A14, c14, rfl, -, -, -, -⟩ := OwnsC.reads ho14
        clear ho14
        by_cases hlt : j < its.length
        case neg =>
          obtain rfl : j = its.length := by omega
          rw [List.take_length] at hS ⊢
          have hx1 : n + 1 ≤ (D ++ its).length := by rw [List.length_append]; have := HR.out.2.1; omega
          have hx2 : hgj.W.length ≤ 1000 * (1 + (D ++ its).length + (n + 1)) := by rw [List.length_append]; omega
          have HE := Lib.hid (And.intro hS (And.intro hx1 (And.intro hx2 hn16)))
          clear hS hR hap hWj hx1 hx2 hj q3 q4 hitl hitp hi16 hlt
          go_wp2_with fail
          exact ⟨⟨n + 1, D ++ its, hgj, ej, rfl, HE.out.2.1, HE.out.2.2.1, HE.out.1.less (by simp)⟩, meas_up (m := 20) (i := n) rfl rfl (by omega)⟩
        obtain ⟨i, hi, hx, hmiss, hnot⟩ := items_step2 H8.out.2.2.2.2.1 H7.out.1.got HBk.out H7.out.1.n16 hS.n16 hlt hS.got
        obtain ⟨aok, hgp, ep2, hput, hgot2, hnp, hWp⟩ := hS.got.put HBk.out hS.n16 hi hmiss (D ++ its.take j).length
        have hsucc : D ++ its.take (j + 1) = (D ++ its.take j) ++ [wk i] := by rw [List.take_succ_eq_append_getElem hlt, hx, List.append_assoc]
        have hRl : (D ++ its.take j).length = D.length + j := by rw [List.length_append, List.length_take]; omega
        have hcells : ∀ w', Refs w' (some ⟨ba, oa, none⟩) its → w'.cell? ⟨ba, oa + j * 2, none⟩ = some (.int .i64 (wk i).1) ∧ w'.cell? ⟨ba, oa + j * 2 + 1, none⟩ = some (.int .i64 (wk i).2.1) ∧ ba < w'.heap.size := fun w' hw' => by
          obtain ⟨b9, o9, e9, hl9, hcs⟩ := hw' (by omega)
          cases e9
          have h9 := hcs j hlt
          rw [hx] at h9
          exact ⟨h9.1, h9.2, hl9⟩
        generalize hRd : D ++ its.take j = R at hS hap hnot hput hgot2 hsucc hRl ⊢
        have hDb := HR.out.2.2.2
        have hm16 := HF.out.2.2
        have HI := Lib.hid (And.intro hi (And.intro hnot (And.intro hput (And.intro hgot2 (And.intro hnp (And.intro (show hgp.W.length ≤ 1000 * (2 + (D.length + (j + 1)) + n) by omega) (And.intro hsucc (And.intro hcells (And.intro (show hgj.W.length ≤ 900000000 by omega) (And.intro (show D.length + j < 60 by omega) hlt))))))))))
        have H9 := Lib.hid (And.intro hS (And.intro hR hap))
        obtain ⟨d7, d8, -⟩ := hcells wr hR
        have hlk := wr_got HC.out.1 hi HF.out.1 (g := ⟨16, cL 16 l.length, []⟩) rfl
        have hlen : (GB.bytes (wb l i)).length = 1024 := GB.bytes_length (wb l i) (GB.ok_spec (HBk.out.ok i hi)).2.2.1 (GB.ok_spec (HBk.out.ok i hi)).2.2.2.1
        have HL := Lib.hid (And.intro hlk (And.intro hlen hRl))
        clear hS hR hap hcells hnot hput hgot2 hnp hWp hsucc hmiss hx hlk hlen hDb hm16 hRd hWj hi hRl q3 q4 hitl
        go_wp2_with fail
        refine (F2.raw H9.out.1.f (by simp) (wk i) HL.out.1.1).mono ?_
        rintro ee wa ⟨y, rfl, hby, hF, hSt⟩
        rw [HL.out.1.2] at hby ⊢
        rw [HL.out.2.1]
        have hSt2 := hSt.sub (Y' := (Value.slice A14 R.length c14).ownBlock.toList ++ ([ba] ++ [br, b8])) (fun _ hz => List.mem_cons_of_mem _ hz)
        have Ha := Lib.hid (And.intro (H9.out.1.more hF hSt2 H9.out.1.n16) (And.intro (hSt2.same.refs H9.out.2.1 (fun ad e => by cases e; simp)) hby))
        obtain ⟨d9, d10, -⟩ := HI.out.2.2.2.2.2.2.2.1 wa Ha.out.2.1
        clear hby hF hSt hSt2 d7 d8
        go_wp2_with fail
        refine (F2.put Ha.out.1.f HI.out.2.2.2.2.2.2.2.2.1 (by have := HI.out.2.2.2.2.2.2.2.2.2.1; have := HL.out.2.2; omega) (wk i) (some ⟨y, 0, none⟩) 1024 1024 (GB.bytes (wb l i)) HL.out.2.1.symm (Nat.le_refl _) (by omega) Ha.out.2.2.bytes (fun ad e => by cases e; simp) HI.out.2.2.1).mono ?_
        rintro ee wp_ ⟨rfl, hF, hSt⟩
        have hl1 : (R ++ [wk i]).length = R.length + 1 := by simp
        have Hb := Lib.hid (And.intro (Ha.out.1.step (D' := R ++ [wk i]) (by rw [hl1]; exact hF) hSt HI.out.2.2.2.1 HI.out.2.2.2.2.1) (hSt.same.refs Ha.out.2.1 (fun ad e => by cases e; simp)))
        obtain ⟨d11, d12, -⟩ := HI.out.2.2.2.2.2.2.2.1 wp_ Hb.out.2
        clear hF hSt hl1 d9 d10 Ha
        go_wp2_with fail
        have hRf : Refs wp_ A14 R := by
          obtain ⟨spb, hob⟩ := Hb.out.1.own
          obtain ⟨A15, c15, e15, -, -, hrd, -⟩ := OwnsC.reads hob
          injection e15 with e15 _ _
          subst e15
          exact Refs.of hrd
        refine (fin_any A14 R.length c14 R (wk i) rfl (by have := HI.out.2.2.2.2.2.2.2.2.2.1; have := HL.out.2.2; omega) wp_ hRf).mono ?_
        rintro ee wc ⟨rfl, hbx⟩
        rw [decide_eq_false HI.out.2.1]
        have Hc := Lib.hid (And.intro (Hb.out.1.below hbx) (Hb.out.2.below hbx))
        obtain ⟨d13, d14, -⟩ := HI.out.2.2.2.2.2.2.2.1 wc Hc.out.2
        have hbl := (Below.refl wc.heap.size wc).alloc (Nat.le_refl _) (.cells #[.int .i64 (wk i).1, .int .i64 (wk i).2.1] 23)
        have hra : Reads (wc.alloc (.cells #[.int .i64 (wk i).1, .int .i64 (wk i).2.1] 23)) (some ⟨wc.heap.size, 0, none⟩) [.int .i64 (wk i).1, .int .i64 (wk i).2.1] := reads_new wc 23 [.int .i64 (wk i).1, .int .i64 (wk i).2.1]
        have hFd := Hc.out.1.below hbl
        obtain ⟨spd, hod⟩ := hFd.own
        have Hd := Lib.hid (And.intro hFd (And.intro (Hc.out.2.below hbl) (And.intro hra hod)))
        have hszd : w6.heap.size ≤ (wc.alloc (.cells #[.int .i64 (wk i).1, .int .i64 (wk i).2.1] 23)).heap.size := hFd.sz
        clear hRf hbx d11 d12 Hb hbl hra hFd hod
        have hR32 : R.length < 60 := by have := HI.out.2.2.2.2.2.2.2.2.2.1; have := HL.out.2.2; omega
        go_wp2_with (first
          | ((with_reducible show wpList _ _ _ ((⟨some 159, _, _, _, _, _⟩ : Oper) :: _) _ _); refine wpList_append_vals (o := ⟨some 159, _, _, _, _, _⟩) (by rfl) _ _ _ (by rfl) w6.heap.size 23 (.agg #[.int .i64 0, .int .i64 0]) 2 16 Tryd.underlying29 infoRef (by rfl) (by omega) (.slice A14 R.length c14) R.length (refCells R) spd (by rfl) Hd.out.2.2.2 (some ⟨wc.heap.size, 0, none⟩) 1 1 [.int .i64 (wk i).1, .int .i64 (wk i).2.1] (by rfl) (by rfl) Hd.out.2.2.1 (by simp [Value.oneCell']) (by simp only [maxLen]; omega) (by omega) hszd ?_; intro v' W5 sp5 ho5 hg5 hv5 hn5; refine stopped ?_)
          | fail)
        refine Stopped.mk ?_
        have ha := Hd.out.1.app HC.out.2.2.2.1 HC.out.2.1 HC.out.2.2.1 ho5 hg5 hv5
        have hba := (HI.out.2.2.2.2.2.2.2.1 _ Hd.out.2.1).2.2
        have hE := Lib.hid (And.intro (ha.1.less (E' := [ba]) (by simp)) (And.intro ((show Same [ba] _ W5 from ⟨Nat.le_trans (Nat.le_refl _) (hg5.size), fun z hz => by rw [List.mem_singleton.1 hz]; exact ha.2 ba (by simp) (fun e => H9.out.2.2 ba e rfl)⟩).refs Hd.out.2.1 (fun ad e => by cases e; simp)) (show ∀ x, v'.ownBlock = some x → x ≠ ba from fun x hx => by
          rcases hv5 with e | e
          · exact H9.out.2.2 x (e ▸ hx)
          · rw [e] at hx; injection hx with hx; omega)))
        rw [← HI.out.2.2.2.2.2.2.1] at hE
        clear ha hba ho5 hg5 hv5 hn5 Hd Hc d13 d14 hszd
        go_wp2_with fail
        exact ⟨⟨j + 1, hgp, ep2, rfl, HI.out.2.2.2.2.2.2.2.2.2.2, hE.out.1, hE.out.2.1, hE.out.2.2, HI.out.2.2.2.2.2.1⟩, meas_up (m := 20) (i := j) rfl rfl (by omega)⟩
    have q2 : decide (n < most.length) = false := decide_eq_false hnm
    go_wp2_with fail
    clear q2 hnm
    have hlk := (greach_W hg7 e none (wk (l.length - 1))).2
    have hlw := (greach_W hg7 e none (wk (l.length - 1))).1
    rw [H7.out.1.got.reach HBk.out H7.out.1.n16] at hlk hlw
    generalize hits : (gmiss hg7 e (wk (l.length - 1))).take (16 : Int).toNat = its
    have hitl : its.length ≤ (16 : Int).toNat := by rw [← hits, List.length_take]; omega
    have hitp : 0 < its.length := by rw [← hits, List.length_take]; have := HZ.out; omega
    refine (F2.lacks H7.out.1.f (by have := H7.out.2; have := HR.out.2.2.2; have := HF.out.2.2; omega) (16) (by omega) (by omega) (by have := H7.out.1.n16; simp only at hlk; omega) (H7.out.1.got.reach HBk.out H7.out.1.n16) (by rw [H7.out.1.got.items HBk.out H7.out.1.n16]; exact hits) hitp).mono ?_
    rintro ee w8 ⟨ad, c9, rfl, hR, hF, hSt, hfr⟩
    obtain ⟨ba, oa, e_ad, -, -⟩ := hR hitp
    cases e_ad
    have hn8 : (hg7.wants (gmiss hg7 e (wk (l.length - 1)))).n = 16 := by rw [Grd.wants_n]; exact H7.out.1.n16
    have hW8 : (hg7.wants (gmiss hg7 e (wk (l.length - 1)))).W.length ≤ 1000 * (2 + (D.length + 0) + n) := by have := H7.out.2; have := H7.out.1.n16; simp only at hlw; omega
    obtain ⟨sp7, ho7⟩ := H7.out.1.own
    have hap : ∀ x, (Value.slice A13 D.length c13).ownBlock = some x → x ≠ ba := fun x hx => by have := (OwnsC.lt ho7 x hx).2; have : w7.heap.size ≤ ba := hfr; omega
    have H8 := Lib.hid (And.intro (H7.out.1.enter hF hSt hn8) (And.intro hR (And.intro hap (And.intro hW8 (And.intro hits hitp)))))
    generalize hg7.wants (gmiss hg7 e (wk (l.length - 1))) = hg8 at H8
    have q3 : ((its.length : Int) == 0) = false := by rw [beq_eq_false_iff_ne]; omega
    have q4 : decide ((its.length : Int) > (16 : Int)) = false := decide_eq_false (by omega)
    have hi16 : its.length ≤ 16 := by omega
    clear hlk hlw hits hR hF hSt hfr hn8 hW8 hap ho7
    go_wp2_with fail
    go_loopw [13, 18] (fun v13 v18 W => InnRel w w6 l ⟨b8, o8, none⟩ br gp dp fp hp ep d n D its ⟨ba, oa, none⟩ v13 v18 W) (fun _ v _ => 20 - (intOf v).toNat)
    case atStart => exact ⟨0, hg8, e, rfl, Nat.zero_le _, by rw [List.take_zero, List.append_nil]; exact H8.out.1, H8.out.2.1, H8.out.2.2.1, H8.out.2.2.2.1⟩
    case round =>
      obtain ⟨j, hgj, ej, rfl, hj, hS, hR, hap, hWj⟩ := hrel
      obtain ⟨sp14, ho14⟩ := hS.own
      obtain ⟨A14, c14, rfl, -, -, -, -⟩ := OwnsC.reads ho14
      clear ho14
      by_cases hlt : j < its.length
      case neg =>
        obtain rfl : j = its.length := by omega
        rw [List.take_length] at hS ⊢
        have hx1 : n + 1 ≤ (D ++ its).length := by rw [List.length_append]; have := HR.out.2.1; omega
        have hx2 : hgj.W.length ≤ 1000 * (1 + (D ++ its).length + (n + 1)) := by rw [List.length_append]; omega
        have HE := Lib.hid (And.intro hS (And.intro hx1 (And.intro hx2 hn16)))
        clear hS hR hap hWj hx1 hx2 hj q3 q4 hitl hitp hi16 hlt
        go_wp2_with fail
        exact ⟨⟨n + 1, D ++ its, hgj, ej, rfl, HE.out.2.1, HE.out.2.2.1, HE.out.1.less (by simp)⟩, meas_up (m := 20) (i := n) rfl rfl (by omega)⟩
      obtain ⟨i, hi, hx, hmiss, hnot⟩ := items_step2 H8.out.2.2.2.2.1 H7.out.1.got HBk.out H7.out.1.n16 hS.n16 hlt hS.got
      obtain ⟨aok, hgp, ep2, hput, hgot2, hnp, hWp⟩ := hS.got.put HBk.out hS.n16 hi hmiss (D ++ its.take j).length
      have hsucc : D ++ its.take (j + 1) = (D ++ its.take j) ++ [wk i] := by rw [List.take_succ_eq_append_getElem hlt, hx, List.append_assoc]
      have hRl : (D ++ its.take j).length = D.length + j := by rw [List.length_append, List.length_take]; omega
      have hcells : ∀ w', Refs w' (some ⟨ba, oa, none⟩) its → w'.cell? ⟨ba, oa + j * 2, none⟩ = some (.int .i64 (wk i).1) ∧ w'.cell? ⟨ba, oa + j * 2 + 1, none⟩ = some (.int .i64 (wk i).2.1) ∧ ba < w'.heap.size := fun w' hw' => by
        obtain ⟨b9, o9, e9, hl9, hcs⟩ := hw' (by omega)
        cases e9
        have h9 := hcs j hlt
        rw [hx] at h9
        exact ⟨h9.1, h9.2, hl9⟩
      generalize hRd : D ++ its.take j = R at hS hap hnot hput hgot2 hsucc hRl ⊢
      have hDb := HR.out.2.2.2
      have hm16 := HF.out.2.2
      have HI := Lib.hid (And.intro hi (And.intro hnot (And.intro hput (And.intro hgot2 (And.intro hnp (And.intro (show hgp.W.length ≤ 1000 * (2 + (D.length + (j + 1)) + n) by omega) (And.intro hsucc (And.intro hcells (And.intro (show hgj.W.length ≤ 900000000 by omega) (And.intro (show D.length + j < 60 by omega) hlt))))))))))
      have H9 := Lib.hid (And.intro hS (And.intro hR hap))
      obtain ⟨d7, d8, -⟩ := hcells wr hR
      have hlk := wr_got HC.out.1 hi HF.out.1 (g := ⟨16, cL 16 l.length, []⟩) rfl
      have hlen : (GB.bytes (wb l i)).length = 1024 := GB.bytes_length (wb l i) (GB.ok_spec (HBk.out.ok i hi)).2.2.1 (GB.ok_spec (HBk.out.ok i hi)).2.2.2.1
      have HL := Lib.hid (And.intro hlk (And.intro hlen hRl))
      clear hS hR hap hcells hnot hput hgot2 hnp hWp hsucc hmiss hx hlk hlen hDb hm16 hRd hWj hi hRl q3 q4 hitl
      go_wp2_with fail
      refine (F2.raw H9.out.1.f (by simp) (wk i) HL.out.1.1).mono ?_
      rintro ee wa ⟨y, rfl, hby, hF, hSt⟩
      rw [HL.out.1.2] at hby ⊢
      rw [HL.out.2.1]
      have hSt2 := hSt.sub (Y' := (Value.slice A14 R.length c14).ownBlock.toList ++ ([ba] ++ [br, b8])) (fun _ hz => List.mem_cons_of_mem _ hz)
      have Ha := Lib.hid (And.intro (H9.out.1.more hF hSt2 H9.out.1.n16) (And.intro (hSt2.same.refs H9.out.2.1 (fun ad e => by cases e; simp)) hby))
      obtain ⟨d9, d10, -⟩ := HI.out.2.2.2.2.2.2.2.1 wa Ha.out.2.1
      clear hby hF hSt hSt2 d7 d8
      go_wp2_with fail
      refine (F2.put Ha.out.1.f HI.out.2.2.2.2.2.2.2.2.1 (by have := HI.out.2.2.2.2.2.2.2.2.2.1; have := HL.out.2.2; omega) (wk i) (some ⟨y, 0, none⟩) 1024 1024 (GB.bytes (wb l i)) HL.out.2.1.symm (Nat.le_refl _) (by omega) Ha.out.2.2.bytes (fun ad e => by cases e; simp) HI.out.2.2.1).mono ?_
      rintro ee wp_ ⟨rfl, hF, hSt⟩
      have hl1 : (R ++ [wk i]).length = R.length + 1 := by simp
      have Hb := Lib.hid (And.intro (Ha.out.1.step (D' := R ++ [wk i]) (by rw [hl1]; exact hF) hSt HI.out.2.2.2.1 HI.out.2.2.2.2.1) (hSt.same.refs Ha.out.2.1 (fun ad e => by cases e; simp)))
      obtain ⟨d11, d12, -⟩ := HI.out.2.2.2.2.2.2.2.1 wp_ Hb.out.2
      clear hF hSt hl1 d9 d10 Ha
      go_wp2_with fail
      have hRf : Refs wp_ A14 R := by
        obtain ⟨spb, hob⟩ := Hb.out.1.own
        obtain ⟨A15, c15, e15, -, -, hrd, -⟩ := OwnsC.reads hob
        injection e15 with e15 _ _
        subst e15
        exact Refs.of hrd
      refine (fin_any A14 R.length c14 R (wk i) rfl (by have := HI.out.2.2.2.2.2.2.2.2.2.1; have := HL.out.2.2; omega) wp_ hRf).mono ?_
      rintro ee wc ⟨rfl, hbx⟩
      rw [decide_eq_false HI.out.2.1]
      have Hc := Lib.hid (And.intro (Hb.out.1.below hbx) (Hb.out.2.below hbx))
      obtain ⟨d13, d14, -⟩ := HI.out.2.2.2.2.2.2.2.1 wc Hc.out.2
      have hbl := (Below.refl wc.heap.size wc).alloc (Nat.le_refl _) (.cells #[.int .i64 (wk i).1, .int .i64 (wk i).2.1] 23)
      have hra : Reads (wc.alloc (.cells #[.int .i64 (wk i).1, .int .i64 (wk i).2.1] 23)) (some ⟨wc.heap.size, 0, none⟩) [.int .i64 (wk i).1, .int .i64 (wk i).2.1] := reads_new wc 23 [.int .i64 (wk i).1, .int .i64 (wk i).2.1]
      have hFd := Hc.out.1.below hbl
      obtain ⟨spd, hod⟩ := hFd.own
      have Hd := Lib.hid (And.intro hFd (And.intro (Hc.out.2.below hbl) (And.intro hra hod)))
      have hszd : w6.heap.size ≤ (wc.alloc (.cells #[.int .i64 (wk i).1, .int .i64 (wk i).2.1] 23)).heap.size := hFd.sz
      clear hRf hbx d11 d12 Hb hbl hra hFd hod
      have hR32 : R.length < 60 := by have := HI.out.2.2.2.2.2.2.2.2.2.1; have := HL.out.2.2; omega
      go_wp2_with (first
        | ((with_reducible show wpList _ _ _ ((⟨some 159, _, _, _, _, _⟩ : Oper) :: _) _ _); refine wpList_append_vals (o := ⟨some 159, _, _, _, _, _⟩) (by rfl) _ _ _ (by rfl) w6.heap.size 23 (.agg #[.int .i64 0, .int .i64 0]) 2 16 Tryd.underlying29 infoRef (by rfl) (by omega) (.slice A14 R.length c14) R.length (refCells R) spd (by rfl) Hd.out.2.2.2 (some ⟨wc.heap.size, 0, none⟩) 1 1 [.int .i64 (wk i).1, .int .i64 (wk i).2.1] (by rfl) (by rfl) Hd.out.2.2.1 (by simp [Value.oneCell']) (by simp only [maxLen]; omega) (by omega) hszd ?_; intro v' W5 sp5 ho5 hg5 hv5 hn5; refine stopped ?_)
        | fail)
      refine Stopped.mk ?_
      have ha := Hd.out.1.app HC.out.2.2.2.1 HC.out.2.1 HC.out.2.2.1 ho5 hg5 hv5
      have hba := (HI.out.2.2.2.2.2.2.2.1 _ Hd.out.2.1).2.2
      have hE := Lib.hid (And.intro (ha.1.less (E' := [ba]) (by simp)) (And.intro ((show Same [ba] _ W5 from ⟨Nat.le_trans (Nat.le_refl _) (hg5.size), fun z hz => by rw [List.mem_singleton.1 hz]; exact ha.2 ba (by simp) (fun e => H9.out.2.2 ba e rfl)⟩).refs Hd.out.2.1 (fun ad e => by cases e; simp)) (show ∀ x, v'.ownBlock = some x → x ≠ ba from fun x hx => by
        rcases hv5 with e | e
        · exact H9.out.2.2 x (e ▸ hx)
        · rw [e] at hx; injection hx with hx; omega)))
      rw [← HI.out.2.2.2.2.2.2.1] at hE
      clear ha hba ho5 hg5 hv5 hn5 Hd Hc d13 d14 hszd
      go_wp2_with fail
      exact ⟨⟨j + 1, hgp, ep2, rfl, HI.out.2.2.2.2.2.2.2.2.2.2, hE.out.1, hE.out.2.1, hE.out.2.2, HI.out.2.2.2.2.2.1⟩, meas_up (m := 20) (i := j) rfl rfl (by omega)⟩
end Go.Proofs.YthfdjemlibecgaaDoor

/- FetchWhole's arguments: parts, and numbers. Plain facts. Condition: the lists can be read. -/
namespace Go.Proofs.YthfdjemlibecgaaDoor
open Go.RowKit
def partSh : Sh := .cons (.int .i64) (.cons (.slice (.int .i64)) (.cons (.slice .byte) .nil))
theorem ints_both {w : World} : ∀ {l : List Int} {rows : List (List Value)}, Both (fun d r => r.length = (Sh.int .i64).size ∧ Sh.Is w (.int .i64) d r) l rows → rows.flatten = l.map (fun x => Value.int .i64 x)
  | [], [], _ => rfl
  | [], _ :: _, h => h.elim
  | _ :: _, [], h => h.elim
  | a :: l, r :: rows, ⟨h1, h2⟩ => by
    have hr : r = [Value.int .i64 a] := h1.2.1
    rw [List.flatten_cons, hr, ints_both h2]; rfl
theorem Ints.both {w : World} {A : Option Addr} {l : List Int} {rows : List (List Value)} (h : Both (fun d r => r.length = (Sh.int .i64).size ∧ Sh.Is w (.int .i64) d r) l rows) (hr : Reads w A rows.flatten) : Ints w A l := by
  unfold Ints
  rw [← ints_both h]; exact hr
theorem partSh_is {w : World} {x : PartT} {cs : List Value} (h : Sh.Is w partSh x cs) : ∃ A1 c1 A2 c2, cs = [.int .i64 x.1, .slice A1 x.2.1.length c1, .slice A2 x.2.2.1.length c2] ∧
    x.2.1.length ≤ c1 ∧ c1 ≤ 9223372036854775807 ∧ x.2.2.1.length ≤ c2 ∧ c2 ≤ 9223372036854775807 ∧ Ints w A1 x.2.1 ∧ Bytes w A2 x.2.2.1 := by
  obtain ⟨c1, c2, rfl, _, hx, c3, c4, rfl, _, hz, c5, c6, rfl, _, hu, hv⟩ := h
  obtain ⟨rfl, _, _⟩ := hx
  obtain ⟨A, c, rows, rfl, h2, h3, h4, h5⟩ := hz
  obtain ⟨B, d, rfl, h6, h7, h8⟩ := Sh.Is.bytes hu
  have hv : c6 = [] := hv
  subst hv
  exact ⟨A, c, B, d, rfl, h2, by simpa [maxLen] using h3, h6, by simpa [maxLen] using h7, Ints.both h4 h5, h8⟩
theorem Parts.both {w : World} {B : Option Addr} {ts : List PartT} {rows : List (List Value)} (h : Both (fun (d : partSh.T) r => r.length = partSh.size ∧ Sh.Is w partSh d r) ts rows) (hr : Reads w B rows.flatten) : Parts w B ts := by
  have hat : ∀ i, (hi : i < ts.length) → ∃ A1 c1 A2 c2, rows.flatten[i * 3]? = some (.int .i64 ts[i].1) ∧ rows.flatten[i * 3 + 1]? = some (.slice A1 ts[i].2.1.length c1) ∧ rows.flatten[i * 3 + 2]? = some (.slice A2 ts[i].2.2.1.length c2) ∧
      ts[i].2.1.length ≤ c1 ∧ c1 ≤ 9223372036854775807 ∧ ts[i].2.2.1.length ≤ c2 ∧ c2 ≤ 9223372036854775807 ∧ Ints w A1 ts[i].2.1 ∧ Bytes w A2 ts[i].2.2.1 := by
    intro i hi
    obtain ⟨r, h1, h2, h3⟩ := both_at h i hi
    obtain ⟨A1, c1, A2, c2, rfl, hbd⟩ := partSh_is h2
    refine ⟨A1, c1, A2, c2, ?_, ?_, ?_, hbd⟩
    · have := h3 0 (by decide)
      rw [show i * partSh.size + 0 = i * 3 by simp [partSh, Sh.size]] at this
      rw [this]; rfl
    · have := h3 1 (by decide)
      rw [show i * partSh.size + 1 = i * 3 + 1 by simp [partSh, Sh.size]] at this
      rw [this]; rfl
    · have := h3 2 (by decide)
      rw [show i * partSh.size + 2 = i * 3 + 2 by simp [partSh, Sh.size]] at this
      rw [this]; rfl
  intro hp
  have hne : rows.flatten ≠ [] := by
    intro e
    obtain ⟨A1, c1, A2, c2, h1, -⟩ := hat 0 hp
    rw [e] at h1; simp at h1
  obtain ⟨b, off, e, hc⟩ := hr hne
  obtain ⟨_, _, _, _, h0, -⟩ := hat 0 hp
  refine ⟨b, off, e, World.block_lt_of_cell? w _ (hc _ _ h0), fun i hi => ?_⟩
  obtain ⟨A1, c1, A2, c2, k1, k2, k3, k4⟩ := hat i hi
  exact ⟨A1, c1, A2, c2, hc _ _ k1, by rw [Nat.add_assoc]; exact hc _ _ k2, by rw [Nat.add_assoc]; exact hc _ _ k3, k4⟩
end Go.Proofs.YthfdjemlibecgaaDoor

/- FetchWhole: for every input the law returns true and the arguments read as they did. Condition: the table of Go's library is as its initialiser lays it (tied to the program's text by the card). -/
namespace Go.Proofs.YthfdjemlibecgaaDoor
open Go.ChangeShapes Go.WideShapes Go.ChangeAt Go.RowKit
theorem fetchWhole_args (A B : Option Addr) (c d : Nat) (l : List PartT) (k : List Int) (rows rows2 : List (List Value)) (W : World) (hb : Both (fun (d : partSh.T) r => r.length = partSh.size ∧ Sh.Is W partSh d r) l rows) (hr : Reads W A rows.flatten) (hb2 : Both (fun d r => r.length = (Sh.int .i64).size ∧ Sh.Is W (.int .i64) d r) k rows2) (hr2 : Reads W B rows2.flatten)
    (h1 : l.length ≤ c) (h2 : c ≤ 9223372036854775807) (h3 : k.length ≤ d) (h4 : d ≤ 9223372036854775807) (hT : Tab W) :
    Calls Tryd.prog 6 #[.slice A l.length c, .slice B k.length d] W fun e w' => e = .returned (.bool true) ∧ Below W.heap.size W w' :=
  fetchWhole_law A B c d l k (Nat.le_trans h1 h2) (Nat.le_trans h3 h4) W hT (Parts.both hb hr) (Ints.both hb2 hr2)
set_option maxRecDepth 100000 in
theorem fetchWhole_lifted (os : Os) (started : os.Started) (H : Type) (enc : TypeId × Value → H) :
    ReturnsInHanded {} Tryd.checked os 6 .any (fun w args => (Rows.fetchWholeSpec.pre enc Tryd.prog Tryd.f6 [] false w args ∧ laidMetH Tryd.prog laid1 w) ∧ sizedMet enc Tryd.prog Tryd.f6 (OpenSpec.ofChange Rows.fetchWholeSpec) false w args) (Rows.fetchWholeSpec.post enc Tryd.prog Tryd.f6 false true false false) := by
  refine returnsInHanded_of_change_and (C := Tryd.checked) (X := fun w _ => laidMetH Tryd.prog laid1 w) (fun _ _ _ hh h => h.of_heap hh) Tryd.own started (by kernel_rfl) Tryd.func6
    (ChangeSpec.witness_shaped (enc := enc) (C := Tryd.checked) (os := os) (X := fun w _ => laidMetH Tryd.prog laid1 w) false (World.doorLaid Tryd.prog 400 os) #[.slice none 0 0, .slice none 0 0] 8 rfl (World.shaped_of_RefB (by kernel_rfl) (by kernel_rfl)) (by kernel_rfl) (by kernel_rfl) (by kernel_rfl) (door_met os _)) ?_
  intro W base args ds gs before hval0 hW _ _ hL _
  have hT : Tab W := of_laid hL
  have hval : ∀ (j : Nat) t v, Tryd.f6.params[j]? = some t → args[j]? = some v → Value.okWide Tryd.prog W .any base t v := hval0
  have hW' := hW
  obtain ⟨p, q, hA0, hV, rfl, hfz, hnd⟩ := hW
  have hA : DataW.TrodAll enc Tryd.prog W 0 (fun _ => true) true Tryd.f6.params.toList args.toList ds p := hA0
  rw [Tryd.params6] at hA hval
  obtain ⟨v0, v1, d0, d1, p0, p1, rfl, rfl, rfl, h0, h1⟩ := trodAll_two hA
  obtain ⟨rfl, rfl⟩ := trodVars_none hV
  have h0k := h0
  have h1k := h1
  obtain ⟨l, hx0⟩ := Sh.open_ (P := Tryd.prog) (.slice partSh) (by kernel_rfl) h0
  obtain ⟨A, c, rows0, rfl, hlc, hcm, hb1, hr1⟩ := arg_slice Tryd.underlying67 (hval 0 67 v0 rfl rfl) hx0
  obtain ⟨k, hx1⟩ := Sh.open_ (P := Tryd.prog) (.slice (.int .i64)) (by kernel_rfl) h1
  obtain ⟨B, d, rows1, rfl, hkd, hdm, hb2, hr2⟩ := arg_slice Tryd.underlying68 (hval 1 68 v1 rfl rfl) hx1
  clear hA0 hval0
  simp only [List.append_nil] at hW'
  have hlt : ∀ x ∈ p0 ++ p1, x.block < W.heap.size := fun x hx => by simpa using hW'.lt x hx
  refine (fetchWhole_args A B c d l k _ _ W hb1 hr1 hb2 hr2 hlc hcm hkd hdm hT).mono fun e W' ⟨he, hw⟩ => ?_
  subst he
  refine ⟨_, rfl, _, _, _, [], p0 ++ p1, [], hW', ?_, ?_, rfl, hw.frame _, fun h => by cases h⟩
  · exact trodAll_mk1 (shut_bool Tryd.underlying4 true)
  · exact trodAll_mk2 (Below.trod Tryd.laidOut (by kernel_rfl) (of_decide_eq_true (by kernel_rfl)) h0k hw (fun x hx => hlt x (by simp [hx]))) (Below.trod Tryd.laidOut (by kernel_rfl) (of_decide_eq_true (by kernel_rfl)) h1k hw (fun x hx => hlt x (by simp [hx])))
theorem fetchWhole_holds : Rows.FetchWholeSaid :=
  OpenClaim.holds_of_wide 6 Tryd.f6 rfl rfl rfl rfl rfl rfl rfl ⟨rfl, rfl, rfl, rfl, rfl⟩ rfl rfl rfl rfl rfl (by kernel_rfl) Tryd.func6 (by kernel_rfl)
    (of_decide_eq_true (by kernel_rfl)) (by unfold Func.isWrapper; rw [if_neg (by decide +kernel)]; exact ⟨rfl, rfl⟩)
    (fun os started H enc _ => fetchWhole_lifted os started H enc)
theorem fetchWhole_card : Rows.FetchWholeCardSaid :=
  Claim7.holds_tied_plain_at .later [] [.data] true Rows.fetchWholeCard.stood.harness false
    fetchWhole_holds (fun _ h => by cases h) (by kernel_rfl) (fun _ h => by cases h) fetchWhole_row_tie rfl ⟨rfl, rfl⟩ (by kernel_rfl) rfl
    (fun f fn hf hfn => by
      obtain rfl : f = 6 := Option.some.inj ((show Tryd.prog.funcNamed Rows.fetchWholeRow.func = some 6 by kernel_rfl).symm.trans hf) |>.symm
      obtain rfl : fn = Tryd.f6 := (Option.some.inj (Tryd.func6.symm.trans hfn)).symm
      exact ⟨by kernel_rfl, fun j t ht => by
        rw [Tryd.params6] at ht
        have hm : t ∈ [67, 68] := by simpa using Array.mem_of_getElem? ht
        have hall : ([67, 68].all fun u => !Tryd.prog.wantsStandIn u) = true := by kernel_rfl
        exact (show Tryd.prog.wantsStandIn t = false by simpa using List.all_eq_true.1 hall t hm)⟩)
    (by kernel_rfl)
end Go.Proofs.YthfdjemlibecgaaDoor
