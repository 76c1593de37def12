/- A table of which bytes are turned: what is told of it. Plain facts. No condition. -/
import Derived.Test.YtgkljncigbiffaaDoorMTableTurned17
namespace Go.Proofs.YtgkljncigbiffaaDoor
open Go.RowKit
/-- Whichever of the table's blocks can be read is as it was. -/
structure Sane (d d' : Dsk) (m : Nat) : Prop where
  rm : Rm d' 20
  blk : ∀ i, i ≤ m → (GB.read (gblk d' ((i : Int) + 1))).1 ≠ 0 ∨ gblk d' ((i : Int) + 1) = gblk d ((i : Int) + 1)
theorem Grd.want_n (g : Grd) (r : RefT) : (g.want r).n = g.n := by unfold Grd.want; split <;> rfl
theorem Grd.want_len (g : Grd) (r : RefT) : (g.want r).W.length ≤ g.W.length + 1 := by
  unfold Grd.want
  split
  · omega
  · simp
/-- The first that is not so. -/
theorem first_bad (P : Nat → Prop) : ∀ m, (∀ i, i < m → P i) ∨ ∃ M, M < m ∧ (∀ i, i < M → P i) ∧ ¬ P M
  | 0 => .inl fun i hi => absurd hi (by omega)
  | m + 1 => by
    rcases first_bad P m with h | ⟨M, h1, h2, h3⟩
    · by_cases hp : P m
      · exact .inl fun i hi => by
          rcases Nat.lt_succ_iff_lt_or_eq.1 hi with e | e
          · exact h i e
          · exact e ▸ hp
      · exact .inr ⟨m, Nat.lt_succ_self m, h, hp⟩
    · exact .inr ⟨M, Nat.lt_succ_of_lt h1, h2, h3⟩
section
variable {d d' : Dsk} {m : Nat} {G : List (List PairT)}
theorem Sane.there (h : Sane d d' m) {i : Nat} (hi : i ≤ m) : gthere d' (tk 3 i) = gthere d (tk 3 i) ∨ gthere d' (tk 3 i) = none := by
  rcases h.blk i hi with e | e
  · exact .inr (gthere_bad e)
  · refine .inl ?_
    unfold gthere
    rw [show (tk 3 i).1 = (i : Int) + 1 from rfl, e]
theorem Sane.look (h : Sane d d' m) (hd : d.out = false) {g : Grd} (hg : g.n = 20) {i : Nat} (hi : i ≤ m) (hm : m ≤ 15) : glook g d' none (tk 3 i) = glook g d none (tk 3 i) ∨ glook g d' none (tk 3 i) = (13, none, g.want (tk 3 i)) := by
  have ho : g.of (tk 3 i) = true := tk_of (by decide) (by decide) (by omega)
  have h1 : d'.isOut none = false := by unfold Dsk.isOut; rw [h.rm.out]; rfl
  have h2 : d.isOut none = false := by unfold Dsk.isOut; rw [hd]; rfl
  unfold glook
  rw [h1, h2, ho]
  have k1 : ¬ (false = true) := by simp
  have k2 : ¬ (true = false) := by simp
  rw [if_neg k1, if_neg k2, if_neg k1, if_neg k2]
  rcases h.there hi with e | e
  · exact .inl (by rw [e])
  · exact .inr (by rw [e])
theorem Sane.open_ (h : Sane d d' m) (hd : d.out = false) (hm : m ≤ 15) {g : Grd} (hg : g.n = 20) (hT : TOpen g d (tk 3 m) G ((List.range m).map (tk 3))) : topen g d' none (tk 3 m) = (0, ((List.range m).map (tk 3), G.map gkey), g) ∨ topen g d' none (tk 3 m) = (13, ([], []), g.want (tk 3 m)) := by
  rcases h.look hd hg (Nat.le_refl m) hm with e | e
  · refine .inl ?_
    rw [← hT.op]
    unfold topen
    rw [e]
  · exact .inr (by rw [topen_none (by rw [e]), e])
theorem Sane.data_ (h : Sane d d' m) (hd : d.out = false) (hm : m ≤ 15) {g : Grd} (hg : g.n = 20) (hT : TOpen g d (tk 3 m) G ((List.range m).map (tk 3))) {i : Nat} (hi : i < m) : tdata g d' none (tk 3 i) = (0, G.getD i [], g) ∨ tdata g d' none (tk 3 i) = (13, [], g.want (tk 3 i)) := by
  have hl : m = G.length := by have := hT.len; rw [List.length_map, List.length_range] at this; exact this
  rcases h.look hd hg (Nat.le_of_lt hi) hm with e | e
  · refine .inl ?_
    have hdt := hT.dt i (by omega)
    rw [List.getD_eq_getElem?_getD, List.getElem?_map, List.getElem?_range hi] at hdt
    rw [List.getD_eq_getElem?_getD, List.getElem?_eq_getElem (by omega), Option.getD_some, ← hdt]
    show tdata g d' none (tk 3 i) = tdata g d none (tk 3 i)
    unfold tdata
    rw [e]
  · exact .inr (by rw [tdata_none (by rw [e]), e])
theorem Sane.mono (h : Sane d d' m) (hd : d.out = false) (hm : m ≤ 15) {g : Grd} (hg : g.n = 20) (hT : TOpen g d (tk 3 m) G ((List.range m).map (tk 3))) (key : List UInt8) : ∀ a b : Nat, a ≤ b → b < (topen g d' none (tk 3 m)).2.1.2.length → key < (topen g d' none (tk 3 m)).2.1.2.getD a [] → key < (topen g d' none (tk 3 m)).2.1.2.getD b [] := by
  rcases h.open_ hd hm hg hT with e | e
  · rw [e, ← hT.op]
    exact hT.mono key
  · rw [e]
    intro a b _ hb
    exact absurd hb (by simp)
/-- What Get tells then. -/
theorem Sane.get (h : Sane d d' m) (hd : d.out = false) (hm : m ≤ 15) {g : Grd} (hg : g.n = 20) (hT : TOpen g d (tk 3 m) G ((List.range m).map (tk 3))) (key : List UInt8) : ∃ (cd : Int) (p : PairT) (g2 : Grd), tget g d' none (tk 3 m) key = (cd, p, g2) ∧ g2.n = 20 ∧ g2.W.length ≤ g.W.length + 1 ∧ (cd = 13 ∨ (cd = pcode (pfind G.flatten key) ∧ p = pmet G.flatten key)) := by
  have hl : m = G.length := by have := hT.len; rw [List.length_map, List.length_range] at this; exact this
  rcases h.open_ hd hm hg hT with e | e
  · have hgt := hT.getc key
    unfold tget at hgt ⊢
    rw [hT.op] at hgt
    rw [e]
    simp only at hgt ⊢
    rw [if_neg (by simp)] at hgt ⊢
    by_cases hk : kbef (G.map gkey) key = 0
    · rw [if_pos hk] at hgt ⊢
      exact ⟨_, _, _, rfl, hg, by omega, .inr ⟨(congrArg Prod.fst hgt), congrArg (fun x => x.2.1) hgt⟩⟩
    · have hkl := kbef_le (G.map gkey) key
      rw [List.length_map] at hkl
      have hi : kbef (G.map gkey) key - 1 < m := by omega
      rw [if_neg hk] at hgt ⊢
      rw [show ((List.range m).map (tk 3)).getD (kbef (G.map gkey) key - 1) (0, 0, ()) = tk 3 (kbef (G.map gkey) key - 1) by rw [List.getD_eq_getElem?_getD, List.getElem?_map, List.getElem?_range hi]; rfl] at hgt ⊢
      have hdt := hT.dt _ (show kbef (G.map gkey) key - 1 < G.length by omega)
      rw [show ((List.range m).map (tk 3)).getD (kbef (G.map gkey) key - 1) (0, 0, ()) = tk 3 (kbef (G.map gkey) key - 1) by rw [List.getD_eq_getElem?_getD, List.getElem?_map, List.getElem?_range hi]; rfl] at hdt
      rw [hdt] at hgt
      rcases h.data_ hd hm hg hT hi with e2 | e2
      · rw [e2]
        rw [List.getD_eq_getElem?_getD, List.getElem?_eq_getElem (by omega), Option.getD_some]
        simp only at hgt ⊢
        rw [if_neg (by simp)] at hgt ⊢
        exact ⟨_, _, _, rfl, hg, by omega, .inr ⟨(congrArg Prod.fst hgt), congrArg (fun x => x.2.1) hgt⟩⟩
      · rw [e2]
        simp only
        rw [if_pos (by simp)]
        exact ⟨_, _, _, rfl, by rw [Grd.want_n]; exact hg, Grd.want_len _ _, .inl rfl⟩
  · unfold tget
    rw [e]
    simp only
    rw [if_pos (by simp)]
    exact ⟨_, _, _, rfl, by rw [Grd.want_n]; exact hg, Grd.want_len _ _, .inl rfl⟩
/-- What All tells then: nothing, all of it, or nothing for a data block that cannot be read. -/
theorem Sane.all (h : Sane d d' m) (hd : d.out = false) (hm : m ≤ 15) {g : Grd} (hg : g.n = 20) (hT : TOpen g d (tk 3 m) G ((List.range m).map (tk 3))) :
    topen g d' none (tk 3 m) = (13, ([], []), g.want (tk 3 m)) ∨ TOpen g d' (tk 3 m) G ((List.range m).map (tk 3)) ∨
      (topen g d' none (tk 3 m) = (0, ((List.range m).map (tk 3), G.map gkey), g) ∧ ∃ M, M < m ∧ (∀ i, i < M → tdata g d' none (tk 3 i) = (0, G.getD i [], g)) ∧ tdata g d' none (tk 3 M) = (13, [], g.want (tk 3 M))) := by
  have hl : m = G.length := by have := hT.len; rw [List.length_map, List.length_range] at this; exact this
  rcases h.open_ hd hm hg hT with e | e
  · rcases first_bad (fun i => tdata g d' none (tk 3 i) = (0, G.getD i [], g)) m with hall | ⟨M, h1, h2, h3⟩
    · refine .inr (.inl ⟨e, hT.len, fun i hi => ?_, hT.so⟩)
      have := hall i (by omega)
      rw [List.getD_eq_getElem?_getD, List.getElem?_eq_getElem hi, Option.getD_some] at this
      rw [List.getD_eq_getElem?_getD, List.getElem?_map, List.getElem?_range (by omega)]
      exact this
    · exact .inr (.inr ⟨e, M, h1, h2, (h.data_ hd hm hg hT h1).resolve_left h3⟩)
  · exact .inl e
end
/-- The table's blocks, as they are told. -/
def tbl (m : Nat) : List RefT := tk 3 m :: (List.range m).map (tk 3)
theorem tbl_length (m : Nat) : (tbl m).length = m + 1 := by unfold tbl; simp
theorem tbl_at (m j : Nat) (hj : j < (tbl m).length) : ∃ i, i ≤ m ∧ (tbl m)[j] = tk 3 i := by
  rw [tbl_length] at hj
  cases j with
  | zero => exact ⟨m, Nat.le_refl _, rfl⟩
  | succ j => exact ⟨j, by omega, by simp [tbl]⟩
theorem tbl_all (m i : Nat) (hi : i ≤ m) : ∃ j, ∃ h : j < (tbl m).length, (tbl m)[j] = tk 3 i := by
  by_cases e : i = m
  · subst e; exact ⟨0, by rw [tbl_length]; omega, rfl⟩
  · exact ⟨i + 1, by rw [tbl_length]; omega, by simp [tbl]⟩
end Go.Proofs.YtgkljncigbiffaaDoor

/- A grid that a statement made, and the statement's own blocks beside it. Conditions: as each says. -/
namespace Go.Proofs.YtgkljncigbiffaaDoor
open Go.RowKit
/-- Some blocks are as they were. -/
structure Same (Y : List Nat) (w w' : World) : Prop where
  size : w.heap.size ≤ w'.heap.size
  block : ∀ y ∈ Y, w'.heap[y]? = w.heap[y]?
/-- What was there ahead of B is as it was, and so are the statement's own blocks. -/
structure GStep (B : Nat) (Y : List Nat) (w w' : World) : Prop where
  bel : Below B w w'
  same : Same Y w w'
section
variable {B : Nat} {Y Y' : List Nat} {w w' w'' : World}
theorem Same.trans (h : Same Y w w') (k : Same Y w' w'') : Same Y w w'' := ⟨Nat.le_trans h.size k.size, fun y hy => (k.block y hy).trans (h.block y hy)⟩
theorem Same.sub (h : Same Y w w') (hs : ∀ y ∈ Y', y ∈ Y) : Same Y' w w' := ⟨h.size, fun y hy => h.block y (hs y hy)⟩
theorem Same.below (k : Below w.heap.size w w') (hY : ∀ y ∈ Y, y < w.heap.size) : Same Y w w' := ⟨k.size, fun y hy => k.block y (hY y hy)⟩
theorem Same.near {X : List Nat} (k : Near X w w') (hY : ∀ y ∈ Y, y < w.heap.size ∧ y ∉ X) : Same Y w w' := ⟨k.size, fun y hy => k.block y (hY y hy).1 (hY y hy).2⟩
theorem Same.blk {y : Nat} {t : TypeId} {cs : Array Value} (h : Same Y w w') (hb : Blk w y t cs) (hy : y ∈ Y) : Blk w' y t cs := (h.block y hy).trans hb
theorem Same.cell (h : Same Y w w') {p : Addr} (hp : p.block ∈ Y) : w'.cell? p = w.cell? p := by unfold World.cell?; rw [h.block _ hp]
theorem Same.bytes {A : Option Addr} {l : List UInt8} (h : Same Y w w') (hb : Bytes w A l) (hA : ∀ ad, A = some ad → ad.block ∈ Y) : Bytes w' A l := fun hne => by
  obtain ⟨b, off, e, hc⟩ := hb hne
  exact ⟨b, off, e, fun j v hv => (h.cell (p := ⟨b, off + j, none⟩) (hA ⟨b, off, none⟩ e)).trans (hc j v hv)⟩
theorem Same.refs {A : Option Addr} {l : List RefT} (h : Same Y w w') (hb : Refs w A l) (hA : ∀ ad, A = some ad → ad.block ∈ Y) : Refs w' A l := fun hp => by
  obtain ⟨b, off, e, hlt, hc⟩ := hb hp
  have hm : b ∈ Y := hA _ e
  exact ⟨b, off, e, Nat.lt_of_lt_of_le hlt h.size, fun i hi => ⟨(h.cell (p := ⟨b, off + i * 2, none⟩) hm).trans (hc i hi).1, (h.cell (p := ⟨b, off + i * 2 + 1, none⟩) hm).trans (hc i hi).2⟩⟩
theorem GStep.trans (h : GStep B Y w w') (k : GStep B Y w' w'') : GStep B Y w w'' := ⟨h.bel.trans k.bel, h.same.trans k.same⟩
theorem GStep.sub (h : GStep B Y w w') (hs : ∀ y ∈ Y', y ∈ Y) : GStep B Y' w w' := ⟨h.bel, h.same.sub hs⟩
theorem GStep.below (k : Below w.heap.size w w') (hs : B ≤ w.heap.size) (hY : ∀ y ∈ Y, y < w.heap.size) : GStep B Y w w' := ⟨k.mono hs, Same.below k hY⟩
end
/-- The grid, its disk, and what is none of theirs. -/
def GX (B : Nat) (Y : List Nat) (w : World) (gp dp : Nat) (g : Grd) (d : Dsk) : Prop :=
  ∃ q : GPl, q.gg = gp ∧ q.p.gd = dp ∧ q.gf = none ∧ GridR w q g d none ∧ (∀ x ∈ q.all, B ≤ x ∧ x ∉ Y) ∧ (∀ y ∈ Y, y < w.heap.size) ∧ B ≤ w.heap.size
section
variable {B gp dp : Nat} {Y Y' : List Nat} {w w' : World} {g g2 : Grd} {d d2 : Dsk}
theorem GX.of_GL (h : GL B w gp dp g d) (hs : B ≤ w.heap.size) : GX B [] w gp dp g d := by
  obtain ⟨q, h1, h2, h3, h4, h5⟩ := h
  exact ⟨q, h1, h2, h3, h4, fun x hx => ⟨h5 x hx, List.not_mem_nil⟩, fun y hy => absurd hy List.not_mem_nil, hs⟩
theorem GX.gl (h : GX B Y w gp dp g d) : GL B w gp dp g d := by
  obtain ⟨q, h1, h2, h3, h4, h5, h6, h7⟩ := h
  exact ⟨q, h1, h2, h3, h4, fun x hx => (h5 x hx).1⟩
theorem GX.size (h : GX B Y w gp dp g d) : B ≤ w.heap.size := by obtain ⟨q, h1, h2, h3, h4, h5, h6, h7⟩ := h; exact h7
theorem GX.own (h : GX B Y w gp dp g d) : ∀ y ∈ Y, y < w.heap.size := by obtain ⟨q, h1, h2, h3, h4, h5, h6, h7⟩ := h; exact h6
theorem GX.ok (h : GX B Y w gp dp g d) : g.Ok d := by obtain ⟨q, h1, h2, h3, h4, h5, h6, h7⟩ := h; exact h4.ok
theorem GX.below (h : GX B Y w gp dp g d) (k : Below w.heap.size w w') : GX B Y w' gp dp g d ∧ GStep B Y w w' := by
  obtain ⟨q, h1, h2, h3, h4, h5, h6, h7⟩ := h
  exact ⟨⟨q, h1, h2, h3, h4.below k, h5, fun y hy => Nat.lt_of_lt_of_le (h6 y hy) k.size, Nat.le_trans h7 k.size⟩, GStep.below k h7 h6⟩
theorem GX.sub (h : GX B Y w gp dp g d) (hs : ∀ y ∈ Y', y ∈ Y) : GX B Y' w gp dp g d := by
  obtain ⟨q, h1, h2, h3, h4, h5, h6, h7⟩ := h
  exact ⟨q, h1, h2, h3, h4, fun x hx => ⟨(h5 x hx).1, fun hm => (h5 x hx).2 (hs x hm)⟩, fun y hy => h6 y (hs y hy), h7⟩
/-- A block of the statement's own that came since. -/
theorem GX.add (h : GX B Y w gp dp g d) (k : Below w.heap.size w w') {y : Nat} (hy : w.heap.size ≤ y) (hy2 : y < w'.heap.size) : GX B (y :: Y) w' gp dp g d := by
  obtain ⟨q, h1, h2, h3, h4, h5, h6, h7⟩ := h
  refine ⟨q, h1, h2, h3, h4.below k, fun x hx => ⟨(h5 x hx).1, fun hm => ?_⟩, fun z hz => ?_, Nat.le_trans h7 k.size⟩
  · rcases List.mem_cons.1 hm with e | e
    · have := h4.lt x hx; omega
    · exact (h5 x hx).2 e
  · rcases List.mem_cons.1 hz with e | e
    · omega
    · exact Nat.lt_of_lt_of_le (h6 z e) k.size
/-- The statement writes blocks of its own. -/
theorem GX.wrote (h : GX B Y w gp dp g d) {X : List Nat} (k : Near X w w') (hX : ∀ x ∈ X, x ∈ Y) : GX B Y w' gp dp g d := by
  obtain ⟨q, h1, h2, h3, h4, h5, h6, h7⟩ := h
  exact ⟨q, h1, h2, h3, h4.near k (fun x hx hm => (h5 x hx).2 (hX x hm)), h5, fun y hy => Nat.lt_of_lt_of_le (h6 y hy) k.size, Nat.le_trans h7 k.size⟩
theorem GX.of_post {q : GPl} {f : Option Fus} (h1 : q.gg = gp) (h2 : q.p.gd = dp) (h3 : q.gf = none) (h5 : ∀ x ∈ q.all, B ≤ x ∧ x ∉ Y) (h6 : ∀ y ∈ Y, y < w.heap.size) (h7 : B ≤ w.heap.size) (h : GPost w q g2 d2 f w') : GX B Y w' gp dp g2 d2 ∧ GStep B Y w w' := by
  obtain ⟨q', k1, k2, k3, k4, k5, k6⟩ := h
  have hf : f = none := by
    have := k4.dk.fr
    rw [k3, h3] at this
    exact this.none_
  subst hf
  refine ⟨⟨q', k1.trans h1, (congrArg Pl.gd k2).trans h2, k3.trans h3, k4, fun x hx => ?_, fun y hy => Nat.lt_of_lt_of_le (h6 y hy) k5.size, Nat.le_trans h7 k5.size⟩, k5.toBelow (fun x hx => (h5 x hx).1) h7, Same.near k5 fun y hy => ⟨h6 y hy, fun hm => (h5 y hm).2 hy⟩⟩
  rcases k6 x hx with e | e
  · exact h5 x e
  · exact ⟨Nat.le_trans h7 e, fun hm => by have := h6 x hm; omega⟩
end
end Go.Proofs.YtgkljncigbiffaaDoor

/- The iterator over a table's pairs is made; which data blocks are meant. Conditions: as each says. -/
namespace Go.Proofs.YtgkljncigbiffaaDoor
open Go.RowKit
theorem pairs_any (A K : Option Addr) (nr c nk ck : Nat) (gg fs : Nat) (sb : Array Value) (w : World) : Calls Tryd.prog 59 #[.agg #[.slice A nr c, .slice K nk ck], .pointer (some ⟨gg, 0, none⟩), .func (.func fs) #[] sb] w fun e w' =>
    e = .returned (.func (.func 107) #[] #[.pointer (some ⟨w.heap.size, 0, none⟩), .pointer (some ⟨w.heap.size + 2, 0, none⟩), .pointer (some ⟨w.heap.size + 1, 0, none⟩)]) ∧
      w' = ((w.alloc (.cells #[.slice A nr c, .slice K nk ck] 128)).alloc (.cells #[.pointer (some ⟨gg, 0, none⟩)] 24)).alloc (.cells #[.func (.func fs) #[] sb] 133) := by
  go_enter Tryd.func59, Tryd.ntmps59
  go_wp2_with fail
  go_ret
  exact ⟨rfl, rfl⟩
theorem allf_any (i : Int) (w : World) : Calls Tryd.prog 60 #[.int .i64 i] w fun e w' => e = .returned (.bool true) ∧ w' = w := by
  go_enter Tryd.func60, Tryd.ntmps60
  go_wp2
  go_ret
  exact ⟨rfl, rfl⟩
set_option maxRecDepth 100000 in
theorem betf_any (bt : Nat) (B C : Option Addr) (cb cc : Nat) (key to : List UInt8) (w : World) (ht : Blk w bt 22 #[.slice C to.length cc]) (hB : Bytes w B key) (hC : Bytes w C to) (_hl : to.length ≤ 5000) :
    Calls Tryd.prog 61 #[.slice B key.length cb, .pointer (some ⟨bt, 0, none⟩)] w fun e w' => e = .returned (.bool (pbelow to key)) ∧ Below w.heap.size w w' := by
  have d0 := ht.at_ 0 (v := .slice C to.length cc) rfl
  have hc := compare_any B C key.length to.length cb cc key to rfl rfl w hB hC
  by_cases h0 : to.length = 0
  · have hn : to = [] := List.eq_nil_of_length_eq_zero h0
    have k0 : ((to.length : Int) == 0) = true := by rw [h0]; rfl
    have k1 : (to.length == 0) = true := by rw [h0]; rfl
    have HF := Lib.hid (show pbelow to key = true by unfold pbelow; rw [hn]; simp)
    clear hn hc h0
    go_enter Tryd.func61, Tryd.ntmps61
    go_wp2_with fail
    go_ret
    rw [HF.out]
    exact ⟨rfl, Below.refl _ _⟩
  · have hn : to ≠ [] := fun e => h0 (by rw [e]; rfl)
    have k0 : ((to.length : Int) == 0) = false := beq_eq_false_iff_ne.2 (by omega)
    have HF := Lib.hid (show pbelow to key = decide (key < to) by unfold pbelow; simp [hn])
    clear hn h0
    go_enter Tryd.func61, Tryd.ntmps61
    go_wp2_with fail
    refine hc.mono ?_
    rintro z w2 ⟨rfl, hw⟩
    subst hw
    clear hc d0
    go_wp2_with fail
    go_ret
    rw [HF.out, cmp_lt0]
    exact ⟨rfl, Below.refl _ _⟩
set_option maxRecDepth 100000 in
set_option maxHeartbeats 2000000 in
theorem bets_any (i : Nat) (bt bx bf : Nat) (bq : Nat) (A K B C : Option Addr) (nr c ck cb cc : Nat) (ks : List (List UInt8)) (fr to : List UInt8) (w : World) (hi : i < ks.length) (hn : ks.length ≤ 16)
    (hq : Blk w bq 50 #[.func (.func 61) #[] #[.pointer (some ⟨bt, 0, none⟩)]]) (hx : Blk w bx 128 #[.slice A nr c, .slice K ks.length ck]) (hf : Blk w bf 22 #[.slice B fr.length cb]) (ht : Blk w bt 22 #[.slice C to.length cc])
    (hB : Bytes w B fr) (hC : Bytes w C to) (hl : to.length ≤ 5000) (hK : Keys w K ks) :
    Calls Tryd.prog 62 #[.int .i64 (i : Int), .pointer (some ⟨bq, 0, none⟩), .pointer (some ⟨bx, 0, none⟩), .pointer (some ⟨bf, 0, none⟩)] w fun e w' => e = .returned (.bool (used ks fr to i)) ∧ Below w.heap.size w w' := by
  obtain ⟨b, off, rfl, hlt, hc⟩ := hK (by omega)
  obtain ⟨A1, c1, k1, -, -, hb1⟩ := hc i hi
  have hd : Below w.heap.size w w.drew := (Below.refl _ _).drew
  have hu : used ks fr to i = (pbelow to ks[i] && (decide (i + 1 = ks.length) || decide (fr < ks.getD (i + 1) []))) := by
    unfold used; rw [List.getD_eq_getElem?_getD, List.getElem?_eq_getElem hi]; rfl
  have HU := Lib.hid hu
  have hbf := betf_any bt A1 C c1 cc ks[i] to w.drew ht.drew (Bytes.below hb1 hd) (Bytes.below hC hd) hl
  clear hu
  have q1 := hq.at_ 0 (v := .func (.func 61) #[] #[.pointer (some ⟨bt, 0, none⟩)]) rfl
  have q2 := hx.at_ 1 (v := .slice (some ⟨b, off, none⟩) ks.length ck) rfl
  have q3 := hf.at_ 0 (v := .slice B fr.length cb) rfl
  obtain ⟨ky, hky⟩ : ∃ ky, ky = ks[i] := ⟨_, rfl⟩
  rw [← hky] at k1 hbf HU
  clear hb1 hky
  cases hbb : pbelow to ky
  case false =>
    rw [hbb] at hbf HU
    have hc0 : w.drew.cell? ⟨bq, 0, none⟩ = some (.func (.func 61) #[] #[.pointer (some ⟨bt, 0, none⟩)]) ∧ w.drew.cell? ⟨bx, 1, none⟩ = some (.slice (some ⟨b, off, none⟩) ks.length ck) ∧ w.drew.cell? ⟨b, off + i, none⟩ = some (.slice A1 ky.length c1) := ⟨q1, q2, k1⟩
    have H0 := Lib.hid (And.intro hd hlt)
    have hltq := hq.lt
    have hltx := hx.lt
    clear q1 q2 q3 k1 hq hx hf ht hB hC hc hd hbb
    go_enter Tryd.func62, Tryd.ntmps62
    go_wp2_with fail
    refine wp_region_tree (fun w' => w'.cell? ⟨bq, 0, none⟩ = some (.func (.func 61) #[] #[.pointer (some ⟨bt, 0, none⟩)]) ∧ w'.cell? ⟨bx, 1, none⟩ = some (.slice (some ⟨b, off, none⟩) ks.length ck) ∧ w'.cell? ⟨b, off + i, none⟩ = some (.slice A1 ky.length c1)) [] (PlanT.takes [1, 3] (PlanT.takes [0, 2] (PlanT.takes [4] (PlanT.takes [5] (.opt 6 (PlanT.takes [7, 8, 9] (PlanT.takes [10] (PlanT.takes [11, 12, 13, 14, 15, 17, 18] (PlanT.takes [16, 21] (PlanT.takes [19] (PlanT.takes [20] (.opt 22 (PlanT.takes [23, 24, 25, 26] .done) .no))))))) .no))))) (by kernel_rfl) (by kernel_rfl) (hc0) ?_
    refine wpTree_pure _ _ _ (by rfl) (by rfl) ?_
    dsimp only [List.filterMap, List.getElem?_cons_zero, List.getElem?_cons_succ]
    repeat (go_big_quiet_step (fail))
    refine wpQuiet_nil ?_
    refine wpTree_takeL _ _ _ (by rfl) (by rfl) (hc0) ?_
    dsimp only [List.filterMap, List.getElem?_cons_zero, List.getElem?_cons_succ]
    (refine wpQuiet_load_cell (fun w' hw' => hw'.1) (by rfl) _ _ (by rfl) (by rfl) _ Tryd.underlying50 (by rfl) ?_; simp only [Act.put, List.setIfInBounds_toArray, List.set_cons_zero, List.set_cons_succ])
    (refine wpQuiet_load_cell (fun w' hw' => hw'.2.1) (by rfl) _ _ (by rfl) (by rfl) _ Tryd.underlying83 (by rfl) ?_; simp only [Act.put, List.setIfInBounds_toArray, List.set_cons_zero, List.set_cons_succ])
    refine wpQuiet_nil ?_
    refine wpTree_pure _ _ _ (by rfl) (by rfl) ?_
    dsimp only [List.filterMap, List.getElem?_cons_zero, List.getElem?_cons_succ]
    repeat (go_big_quiet_step (fail))
    refine wpQuiet_nil ?_
    refine wpTree_takeL _ _ _ (by rfl) (by rfl) (hc0) ?_
    dsimp only [List.filterMap, List.getElem?_cons_zero, List.getElem?_cons_succ]
    (refine wpQuiet_load_cell (fun w' hw' => hw'.2.2) (by rfl) _ _ (by rfl) (by rfl) _ Tryd.underlying22 (by rfl) ?_; simp only [Act.put, List.setIfInBounds_toArray, List.set_cons_zero, List.set_cons_succ])
    refine wpQuiet_nil ?_
    refine wpTree_one _ rfl ?_
    go_wp2_with fail
    refine hbf.mono ?_
    rintro e w2 ⟨rfl, hb2⟩
    have hc2 := And.intro ((hb2.cell (p := ⟨bq, 0, none⟩) hltq).trans hc0.1) (And.intro ((hb2.cell (p := ⟨bx, 1, none⟩) hltx).trans hc0.2.1) ((hb2.cell (p := ⟨b, off + i, none⟩) H0.out.2).trans hc0.2.2))
    have H2 := Lib.hid (H0.out.1.trans (hb2.mono H0.out.1.size))
    clear hbf hb2 hc0
    go_wp2_with fail
    refine TreeQ.in_ hc2 ?_
    refine wpTree_pure _ _ _ (by rfl) (by rfl) ?_
    dsimp only [List.filterMap, List.getElem?_cons_zero, List.getElem?_cons_succ]
    repeat (go_big_quiet_step (fail))
    refine wpQuiet_nil ?_
    refine wpTree_takeL _ _ _ (by rfl) (by rfl) (hc2) ?_
    dsimp only [List.filterMap, List.getElem?_cons_zero, List.getElem?_cons_succ]
    go_big_quiet_step (fail)
    refine wpQuiet_nil ?_
    refine wpTree_pure _ _ _ (by rfl) (by rfl) ?_
    dsimp only [List.filterMap, List.getElem?_cons_zero, List.getElem?_cons_succ]
    repeat (go_big_quiet_step (fail))
    refine wpQuiet_nil ?_
    refine wpTree_takeL _ _ _ (by rfl) (by rfl) (hc2) ?_
    dsimp only [List.filterMap, List.getElem?_cons_zero, List.getElem?_cons_succ]
    go_big_quiet_step (fail)
    go_big_quiet_step (fail)
    refine wpQuiet_nil ?_
    refine wpTree_pure _ _ _ (by rfl) (by rfl) ?_
    dsimp only [List.filterMap, List.getElem?_cons_zero, List.getElem?_cons_succ]
    repeat (go_big_quiet_step (fail))
    refine wpQuiet_nil ?_
    refine wpTree_takeL _ _ _ (by rfl) (by rfl) (hc2) ?_
    dsimp only [List.filterMap, List.getElem?_cons_zero, List.getElem?_cons_succ]
    go_big_quiet_step (fail)
    refine wpQuiet_nil ?_
    refine wpTree_one _ rfl ?_
    go_wp2_with fail
    refine TreeQ.in_ hc2 ?_
    refine wpTree_pure _ _ _ (by rfl) (by rfl) ?_
    dsimp only [List.filterMap, List.getElem?_cons_zero, List.getElem?_cons_succ]
    repeat (go_big_quiet_step (fail))
    refine wpQuiet_nil ?_
    refine wpTree_done ?_
    clear hc2
    go_wp2_with fail
    go_ret
    exact ⟨by rw [HU.out]; rfl, H2.out⟩
  case true =>
    rw [hbb] at hbf HU
    by_cases hlast : i + 1 = ks.length
    · have kl : ((i : Int) == (ks.length : Int) - 1) = true := beq_iff_eq.2 (by omega)
      have hc0 : w.drew.cell? ⟨bq, 0, none⟩ = some (.func (.func 61) #[] #[.pointer (some ⟨bt, 0, none⟩)]) ∧ w.drew.cell? ⟨bx, 1, none⟩ = some (.slice (some ⟨b, off, none⟩) ks.length ck) ∧ w.drew.cell? ⟨b, off + i, none⟩ = some (.slice A1 ky.length c1) := ⟨q1, q2, k1⟩
      have H0 := Lib.hid (And.intro hd (And.intro hlt hlast))
      have hltq := hq.lt
      have hltx := hx.lt
      clear q1 q2 q3 k1 hq hx hf ht hB hC hc hd hbb hlast
      go_enter Tryd.func62, Tryd.ntmps62
      go_wp2_with fail
      refine wp_region_tree (fun w' => w'.cell? ⟨bq, 0, none⟩ = some (.func (.func 61) #[] #[.pointer (some ⟨bt, 0, none⟩)]) ∧ w'.cell? ⟨bx, 1, none⟩ = some (.slice (some ⟨b, off, none⟩) ks.length ck) ∧ w'.cell? ⟨b, off + i, none⟩ = some (.slice A1 ky.length c1)) [] (PlanT.takes [1, 3] (PlanT.takes [0, 2] (PlanT.takes [4] (PlanT.takes [5] (.opt 6 (PlanT.takes [7, 8, 9] (PlanT.takes [10] (PlanT.takes [11, 12, 13, 14, 15, 17, 18] (PlanT.takes [16, 21] (PlanT.takes [19] (PlanT.takes [20] (.opt 22 (PlanT.takes [23, 24, 25, 26] .done) .no))))))) .no))))) (by kernel_rfl) (by kernel_rfl) (hc0) ?_
      refine wpTree_pure _ _ _ (by rfl) (by rfl) ?_
      dsimp only [List.filterMap, List.getElem?_cons_zero, List.getElem?_cons_succ]
      repeat (go_big_quiet_step (fail))
      refine wpQuiet_nil ?_
      refine wpTree_takeL _ _ _ (by rfl) (by rfl) (hc0) ?_
      dsimp only [List.filterMap, List.getElem?_cons_zero, List.getElem?_cons_succ]
      (refine wpQuiet_load_cell (fun w' hw' => hw'.1) (by rfl) _ _ (by rfl) (by rfl) _ Tryd.underlying50 (by rfl) ?_; simp only [Act.put, List.setIfInBounds_toArray, List.set_cons_zero, List.set_cons_succ])
      (refine wpQuiet_load_cell (fun w' hw' => hw'.2.1) (by rfl) _ _ (by rfl) (by rfl) _ Tryd.underlying83 (by rfl) ?_; simp only [Act.put, List.setIfInBounds_toArray, List.set_cons_zero, List.set_cons_succ])
      refine wpQuiet_nil ?_
      refine wpTree_pure _ _ _ (by rfl) (by rfl) ?_
      dsimp only [List.filterMap, List.getElem?_cons_zero, List.getElem?_cons_succ]
      repeat (go_big_quiet_step (fail))
      refine wpQuiet_nil ?_
      refine wpTree_takeL _ _ _ (by rfl) (by rfl) (hc0) ?_
      dsimp only [List.filterMap, List.getElem?_cons_zero, List.getElem?_cons_succ]
      (refine wpQuiet_load_cell (fun w' hw' => hw'.2.2) (by rfl) _ _ (by rfl) (by rfl) _ Tryd.underlying22 (by rfl) ?_; simp only [Act.put, List.setIfInBounds_toArray, List.set_cons_zero, List.set_cons_succ])
      refine wpQuiet_nil ?_
      refine wpTree_one _ rfl ?_
      go_wp2_with fail
      refine hbf.mono ?_
      rintro e w2 ⟨rfl, hb2⟩
      have hc2 := And.intro ((hb2.cell (p := ⟨bq, 0, none⟩) hltq).trans hc0.1) (And.intro ((hb2.cell (p := ⟨bx, 1, none⟩) hltx).trans hc0.2.1) ((hb2.cell (p := ⟨b, off + i, none⟩) H0.out.2.1).trans hc0.2.2))
      have H2 := Lib.hid (H0.out.1.trans (hb2.mono H0.out.1.size))
      clear hbf hb2 hc0
      go_wp2_with fail
      refine TreeQ.in_ hc2 ?_
      refine wpTree_pure _ _ _ (by rfl) (by rfl) ?_
      dsimp only [List.filterMap, List.getElem?_cons_zero, List.getElem?_cons_succ]
      repeat (go_big_quiet_step (fail))
      refine wpQuiet_nil ?_
      refine wpTree_takeL _ _ _ (by rfl) (by rfl) (hc2) ?_
      dsimp only [List.filterMap, List.getElem?_cons_zero, List.getElem?_cons_succ]
      (refine wpQuiet_want' (by rfl) ?_; refine wpQuiet_load_cell (fun w' hw' => hw'.2.1) (by rfl) _ _ (by rfl) (by rfl) _ Tryd.underlying83 (by rfl) ?_; simp only [Act.put, List.setIfInBounds_toArray, List.set_cons_zero, List.set_cons_succ])
      refine wpQuiet_nil ?_
      refine wpTree_pure _ _ _ (by rfl) (by rfl) ?_
      dsimp only [List.filterMap, List.getElem?_cons_zero, List.getElem?_cons_succ]
      repeat (go_big_quiet_step (fail))
      refine wpQuiet_nil ?_
      refine wpTree_takeL _ _ _ (by rfl) (by rfl) (hc2) ?_
      dsimp only [List.filterMap, List.getElem?_cons_zero, List.getElem?_cons_succ]
      go_big_quiet_step (fail)
      go_big_quiet_step (fail)
      refine wpQuiet_nil ?_
      refine wpTree_pure _ _ _ (by rfl) (by rfl) ?_
      dsimp only [List.filterMap, List.getElem?_cons_zero, List.getElem?_cons_succ]
      repeat (go_big_quiet_step (fail))
      refine wpQuiet_nil ?_
      refine wpTree_takeL _ _ _ (by rfl) (by rfl) (hc2) ?_
      dsimp only [List.filterMap, List.getElem?_cons_zero, List.getElem?_cons_succ]
      go_big_quiet_step (fail)
      refine wpQuiet_nil ?_
      refine wpTree_one _ rfl ?_
      go_wp2_with fail
      refine TreeQ.in_ hc2 ?_
      refine wpTree_pure _ _ _ (by rfl) (by rfl) ?_
      dsimp only [List.filterMap, List.getElem?_cons_zero, List.getElem?_cons_succ]
      repeat (go_big_quiet_step (fail))
      refine wpQuiet_nil ?_
      refine wpTree_done ?_
      clear hc2
      go_wp2_with fail
      go_ret
      exact ⟨by rw [HU.out, decide_eq_true H0.out.2.2]; rfl, H2.out⟩
    · obtain ⟨A2, c2, k2c, -, -, hb2k⟩ := hc (i + 1) (by omega)
      have HN := Lib.hid (show (decide (i + 1 = ks.length) || decide (fr < ks.getD (i + 1) [])) = decide (fr < ks[i + 1]'(by omega)) by rw [decide_eq_false hlast, List.getD_eq_getElem?_getD, List.getElem?_eq_getElem (by omega)]; rfl)
      generalize ks[i + 1]'(by omega) = k2 at k2c hb2k HN
      have kq : ((i : Int) == (ks.length : Int) - 1) = false := beq_eq_false_iff_ne.2 (by omega)
      have kp : wrap64 ((i : Int) + 1) = ((i + 1 : Nat) : Int) := by rw [w64_in (by omega)]; omega
      have hc0 : w.drew.cell? ⟨bq, 0, none⟩ = some (.func (.func 61) #[] #[.pointer (some ⟨bt, 0, none⟩)]) ∧ w.drew.cell? ⟨bx, 1, none⟩ = some (.slice (some ⟨b, off, none⟩) ks.length ck) ∧ w.drew.cell? ⟨b, off + i, none⟩ = some (.slice A1 ky.length c1) ∧ w.drew.cell? ⟨b, off + (i + 1), none⟩ = some (.slice A2 k2.length c2) ∧ w.drew.cell? ⟨bf, 0, none⟩ = some (.slice B fr.length cb) := ⟨q1, q2, k1, k2c, q3⟩
      have hltq := hq.lt
      have hltx := hx.lt
      have hltf := hf.lt
      have H0 := Lib.hid (And.intro hd (And.intro hlt (And.intro (Bytes.below hb2k hd) (Bytes.below hB hd))))
      have hi2 : i + 1 < ks.length := by omega
      clear q1 q2 q3 k1 k2c hq hx hf ht hB hC hc hd hbb hlast hb2k
      go_enter Tryd.func62, Tryd.ntmps62
      go_wp2_with fail
      refine wp_region_tree (fun w' => w'.cell? ⟨bq, 0, none⟩ = some (.func (.func 61) #[] #[.pointer (some ⟨bt, 0, none⟩)]) ∧ w'.cell? ⟨bx, 1, none⟩ = some (.slice (some ⟨b, off, none⟩) ks.length ck) ∧ w'.cell? ⟨b, off + i, none⟩ = some (.slice A1 ky.length c1) ∧ w'.cell? ⟨b, off + (i + 1), none⟩ = some (.slice A2 k2.length c2) ∧ w'.cell? ⟨bf, 0, none⟩ = some (.slice B fr.length cb)) [] (PlanT.takes [1, 3] (PlanT.takes [0, 2] (PlanT.takes [4] (PlanT.takes [5] (.opt 6 (PlanT.takes [7, 8, 9] (PlanT.takes [10] (PlanT.takes [11, 12, 13, 14, 15, 17, 18] (PlanT.takes [16, 21] (PlanT.takes [19] (PlanT.takes [20] (.opt 22 (PlanT.takes [23, 24, 25, 26] .done) .no))))))) .no))))) (by kernel_rfl) (by kernel_rfl) (hc0) ?_
      refine wpTree_pure _ _ _ (by rfl) (by rfl) ?_
      dsimp only [List.filterMap, List.getElem?_cons_zero, List.getElem?_cons_succ]
      repeat (go_big_quiet_step (fail))
      refine wpQuiet_nil ?_
      refine wpTree_takeL _ _ _ (by rfl) (by rfl) (hc0) ?_
      dsimp only [List.filterMap, List.getElem?_cons_zero, List.getElem?_cons_succ]
      (refine wpQuiet_load_cell (fun w' hw' => hw'.1) (by rfl) _ _ (by rfl) (by rfl) _ Tryd.underlying50 (by rfl) ?_; simp only [Act.put, List.setIfInBounds_toArray, List.set_cons_zero, List.set_cons_succ])
      (refine wpQuiet_load_cell (fun w' hw' => hw'.2.1) (by rfl) _ _ (by rfl) (by rfl) _ Tryd.underlying83 (by rfl) ?_; simp only [Act.put, List.setIfInBounds_toArray, List.set_cons_zero, List.set_cons_succ])
      refine wpQuiet_nil ?_
      refine wpTree_pure _ _ _ (by rfl) (by rfl) ?_
      dsimp only [List.filterMap, List.getElem?_cons_zero, List.getElem?_cons_succ]
      repeat (go_big_quiet_step (fail))
      refine wpQuiet_nil ?_
      refine wpTree_takeL _ _ _ (by rfl) (by rfl) (hc0) ?_
      dsimp only [List.filterMap, List.getElem?_cons_zero, List.getElem?_cons_succ]
      (refine wpQuiet_load_cell (fun w' hw' => hw'.2.2.1) (by rfl) _ _ (by rfl) (by rfl) _ Tryd.underlying22 (by rfl) ?_; simp only [Act.put, List.setIfInBounds_toArray, List.set_cons_zero, List.set_cons_succ])
      refine wpQuiet_nil ?_
      refine wpTree_one _ rfl ?_
      go_wp2_with fail
      refine hbf.mono ?_
      rintro e w2 ⟨rfl, hb2⟩
      have hc2 := And.intro ((hb2.cell (p := ⟨bq, 0, none⟩) hltq).trans hc0.1) (And.intro ((hb2.cell (p := ⟨bx, 1, none⟩) hltx).trans hc0.2.1) (And.intro ((hb2.cell (p := ⟨b, off + i, none⟩) H0.out.2.1).trans hc0.2.2.1) (And.intro ((hb2.cell (p := ⟨b, off + (i + 1), none⟩) H0.out.2.1).trans hc0.2.2.2.1) ((hb2.cell (p := ⟨bf, 0, none⟩) hltf).trans hc0.2.2.2.2))))
      have H2 := Lib.hid (And.intro (H0.out.1.trans (hb2.mono H0.out.1.size)) (And.intro (Bytes.below H0.out.2.2.1 hb2) (Bytes.below H0.out.2.2.2 hb2)))
      clear hbf hb2 hc0
      go_wp2_with fail
      refine TreeQ.in_ hc2 ?_
      refine wpTree_pure _ _ _ (by rfl) (by rfl) ?_
      dsimp only [List.filterMap, List.getElem?_cons_zero, List.getElem?_cons_succ]
      repeat (go_big_quiet_step (fail))
      refine wpQuiet_nil ?_
      refine wpTree_takeL _ _ _ (by rfl) (by rfl) (hc2) ?_
      dsimp only [List.filterMap, List.getElem?_cons_zero, List.getElem?_cons_succ]
      (refine wpQuiet_want' (by rfl) ?_; refine wpQuiet_load_cell (fun w' hw' => hw'.2.1) (by rfl) _ _ (by rfl) (by rfl) _ Tryd.underlying83 (by rfl) ?_; simp only [Act.put, List.setIfInBounds_toArray, List.set_cons_zero, List.set_cons_succ])
      refine wpQuiet_nil ?_
      refine wpTree_pure _ _ _ (by rfl) (by rfl) ?_
      dsimp only [List.filterMap, List.getElem?_cons_zero, List.getElem?_cons_succ]
      repeat (go_big_quiet_step (fail))
      refine wpQuiet_nil ?_
      refine wpTree_takeL _ _ _ (by rfl) (by rfl) (hc2) ?_
      dsimp only [List.filterMap, List.getElem?_cons_zero, List.getElem?_cons_succ]
      (refine wpQuiet_want' (by rfl) ?_; refine wpQuiet_load_cell (fun w' hw' => hw'.2.1) (by rfl) _ _ (by rfl) (by rfl) _ Tryd.underlying83 (by rfl) ?_; simp only [Act.put, List.setIfInBounds_toArray, List.set_cons_zero, List.set_cons_succ])
      (refine wpQuiet_want' (by rfl) ?_; refine wpQuiet_load_cell (fun w' hw' => hw'.2.2.2.2) (by rfl) _ _ (by rfl) (by rfl) _ Tryd.underlying22 (by rfl) ?_; simp only [Act.put, List.setIfInBounds_toArray, List.set_cons_zero, List.set_cons_succ])
      refine wpQuiet_nil ?_
      refine wpTree_pure _ _ _ (by rfl) (by rfl) ?_
      dsimp only [List.filterMap, List.getElem?_cons_zero, List.getElem?_cons_succ]
      repeat (go_big_quiet_step (fail))
      refine wpQuiet_nil ?_
      refine wpTree_takeL _ _ _ (by rfl) (by rfl) (hc2) ?_
      dsimp only [List.filterMap, List.getElem?_cons_zero, List.getElem?_cons_succ]
      (refine wpQuiet_want' (by rfl) ?_; refine wpQuiet_load_cell (fun w' hw' => hw'.2.2.2.1) (by rfl) _ _ (by rfl) (by rfl) _ Tryd.underlying22 (by rfl) ?_; simp only [Act.put, List.setIfInBounds_toArray, List.set_cons_zero, List.set_cons_succ])
      refine wpQuiet_nil ?_
      refine wpTree_one _ rfl ?_
      go_wp2_with fail
      refine (compare_any A2 B k2.length fr.length c2 cb k2 fr rfl rfl w2 H2.out.2.1 H2.out.2.2).mono ?_
      rintro z w3 ⟨rfl, hw⟩
      subst hw
      go_wp2_with fail
      refine TreeQ.in_ hc2 ?_
      refine wpTree_pure _ _ _ (by rfl) (by rfl) ?_
      dsimp only [List.filterMap, List.getElem?_cons_zero, List.getElem?_cons_succ]
      repeat (go_big_quiet_step (fail))
      refine wpQuiet_nil ?_
      refine wpTree_done ?_
      clear hc2
      go_wp2_with fail
      go_ret
      exact ⟨by rw [HU.out, HN.out, cmp_gt0]; rfl, H2.out.1⟩
end Go.Proofs.YtgkljncigbiffaaDoor

/- A disk keeps where only what is no cells and came later is written. Plain facts. No condition. -/
namespace Go.Proofs.YtgkljncigbiffaaDoor
open Go.RowKit
theorem DkOk.keptW {W W' : World} {p : Pl} {gf : Option Nat} {d : Dsk} {f : Option Fus} {B : Nat} (h : DkOk W p gf d f) (k : Kept B W W') (hB : p.gm < B) : DkOk W' p gf d f := by
  refine ⟨?_, ?_, h.ok⟩
  · obtain ⟨es, c, ⟨h1, h2, h3⟩, h4⟩ := h.dr
    exact ⟨es, c, ⟨h1.keptW k, h2.keptW k, h3.keptW k hB⟩, h4⟩
  · cases gf with
    | none => obtain e := h.fr.none_; subst e; exact trivial
    | some g =>
      obtain ⟨x, rfl, hx⟩ := h.fr.has
      exact (show FuseB W' g x.left x.gone from Blk.keptW (hx : Blk W g _ _) k)
end Go.Proofs.YtgkljncigbiffaaDoor

/- A grid is kept while a range over a function goes on. No condition. -/
namespace Go.Proofs.YtgkljncigbiffaaDoor
open Go.RowKit
theorem OwnsC.keptW {e : TypeId} {size base n B : Nat} {w w' : World} {v : Value} {xs sp : List Value} (h : OwnsC e size w base v n xs sp) (k : Kept B w w') : OwnsC e size w' base v n xs sp := by
  rcases h with h | ⟨g, cap, rfl, hb, hgg, rest⟩
  · exact .inl h
  · exact .inr ⟨g, cap, rfl, hb, hgg.keptW k, rest⟩
theorem GridR.keptW {w w' : World} {q : GPl} {g : Grd} {d : Dsk} {f : Option Fus} {B : Nat} (h : GridR w q g d f) (k : Kept B w w') (h1 : q.p.gm < B) (h2 : q.gi < B) : GridR w' q g d f := by
  obtain ⟨wv, sp, k1, k2, k3⟩ := h.wn
  exact ⟨h.dk.keptW k h1, h.st.keptW k, h.mp.keptW k h2, ⟨wv, sp, k1, k2.keptW k, OwnsC.keptW k3 k⟩, h.ok, h.ne⟩
end Go.Proofs.YtgkljncigbiffaaDoor

/- The pairs of a table as they are gathered: what stands ahead of each item. No condition. -/
namespace Go.Proofs.YtgkljncigbiffaaDoor
open Go.RowKit
theorem PairsU.keptW {B base : Nat} {w w' : World} {v : Value} {l : List PairT} {rows sp : List Value} (h : PairsU w base v l rows sp) (k : Kept B w w') : PairsU w' base v l rows sp :=
  ⟨OwnsC.keptW h.own k, fun i p hp => by
    obtain ⟨kv, vv, sk, sv, e1, e2, e3, e4, e5⟩ := h.each i p hp
    exact ⟨kv, vv, sk, sv, e1, e2, e3, OwnsC.keptW e4 k, OwnsC.keptW e5 k⟩⟩
theorem PairO.keptW {B base : Nat} {w w' : World} {kv vv : Value} {p : PairT} (h : PairO w base kv vv p) (k : Kept B w w') : PairO w' base kv vv p := by
  obtain ⟨sk, sv, h1, h2⟩ := h
  exact ⟨sk, sv, OwnsC.keptW h1 k, OwnsC.keptW h2 k⟩
theorem refs_keptW {B : Nat} {w w' : World} {A : Option Addr} {l : List RefT} (h : Refs w A l) (k : Kept B w w') : Refs w' A l := fun hp => by
  obtain ⟨b, off, e, hlt, hc⟩ := h hp
  exact ⟨b, off, e, Nat.lt_of_lt_of_le hlt k.size, fun i hi => ⟨k.cell (hc i hi).1, k.cell (hc i hi).2⟩⟩
theorem keys_keptW {B : Nat} {w w' : World} {A : Option Addr} {ks : List (List UInt8)} (h : Keys w A ks) (k : Kept B w w') : Keys w' A ks := fun hp => by
  obtain ⟨b, off, e, hlt, hc⟩ := h hp
  refine ⟨b, off, e, Nat.lt_of_lt_of_le hlt k.size, fun i hi => ?_⟩
  obtain ⟨A1, c1, k1, k2, k3, k4⟩ := hc i hi
  exact ⟨A1, c1, k.cell k1, k2, k3, Reads.keptW k4 k⟩
theorem PKeeps.keptW {B : Nat} {q : GPl} {g : Grd} {d : Dsk} {bx bs bg : Nat} {A : Option Addr} {c : Nat} {K : Option Addr} {ck : Nat} {x : List RefT × List (List UInt8)} {fs : Nat} {sb : Array Value} {w w' : World} (h : PKeeps q g d bx bs bg A c K ck x fs sb w) (k : Kept B w w') (h1 : q.p.gm < B) (h2 : q.gi < B) : PKeeps q g d bx bs bg A c K ck x fs sb w' :=
  ⟨h.grid.keptW k h1 h2, h.ix.keptW k, ⟨refs_keptW h.at_.refs k, keys_keptW h.at_.keys k, h.at_.rc, h.at_.kc, h.at_.km⟩, h.some_.keptW k, h.gp.keptW k⟩
end Go.Proofs.YtgkljncigbiffaaDoor

/- What a call hands back whose first two results lie in blocks; the marks of loops over functions. Plain facts over any program. No condition. -/
namespace Go
open Go.RowKit
/-- A loop's mark is shut: what a contract speaks of lies as it lay. -/
theorem mark_kept {B : Nat} {W : World} {D : Nat} (hB : B ≤ D) (h : W.heap[D]? = some (.deferred (some []))) : Kept B W (W.putObj D (.deferred none)) := Kept.put hB h rfl
end Go

/- A region that draws its order, with calls, by a plan, in the round of a loop over a function. Plain facts over any program. No condition. -/
namespace Go
def Op.noDeferB : Op → Bool
  | .defer _ => false
  | _ => true
section
variable {P : Program} {ops : Array Oper} {md : Region.Mode} {l n : Nat}
theorem calls_round {f : FuncId} {args : Array Value} {w : World} {R : Ending → World → Prop} (h : Calls P f args w R) : CallsIn (Fence.wide.inRound l) n P f args w R := (callsIn_wide.2 h).inRound l
theorem rows_round {row : String} {args : Array Value} {w : World} {R : Value → World → Prop} (h : Rows P row args w R) : RowsIn (Fence.wide.inRound l) n P row args w R := fun c cs _ => by
  obtain ⟨v, w', r, s⟩ := h c cs
  exact ⟨v, w', r, stepsIn_wide.2 s⟩
/-- An operation of a list, inside a round, is carried out as outside. -/
theorem wpListIn_round {o : Oper} {rest : List Oper} {a : Act} {w : World} {Q : Exit → Act → World → Prop} (hd : o.op.noDeferB = true) (h : wpList P ops (fun e a' w' => e = .normal ∧ wpListIn (Fence.wide.inRound l) n P ops Q rest a' w') [o] a w) : wpListIn (Fence.wide.inRound l) n P ops Q (o :: rest) a w := by
  simp only [wpList] at h
  simp only [wpListIn]
  split
  · rename_i hw
    rw [if_pos hw] at h
    have h1 := h.resolve_right fun hh => by obtain ⟨_, _, hq⟩ := hh.2; cases hq.1
    clear h
    unfold Oper.wp at h1
    refine ⟨fun _ _ => trivial, ?_⟩
    rw [Oper.semAt_eq _ _ _ fun c hc => by rw [hc] at hd; cases hd]
    generalize (execOp a.eval o).run P w = r at h1
    cases r with
    | ok x w' =>
      cases x <;> first | exact h1.2 | exact h1.elim | skip
      case enter f args =>
        refine ⟨fun hh => ?_, ?_⟩
        · simp [Fence.wide, Fence.inRound] at hh
        · refine (calls_round h1).mono fun e w'' he => ?_
          cases e with
          | returned v => exact he.2
          | panicked c => cases he.1
          | outgrown =>
            obtain ⟨_, _, hq⟩ := he
            cases hq.1
      case row row args =>
        refine ⟨fun hh => ?_, ?_⟩
        · simp [Fence.wide, Fence.inRound] at hh
        · exact RowsIn.mono (rows_round h1) fun v w'' he => he.2
    | halt x w' =>
      cases x <;> first | exact absurd h1.1 (by simp) | exact h1.elim
  · rename_i hw
    rw [if_neg hw] at h
    exact ⟨fun _ _ => trivial, h.2⟩
end
end Go

/- All pairs of a table are gathered: the program's All. Conditions: the grid is known; the table's blocks can be read. -/
namespace Go.Proofs.YtgkljncigbiffaaDoor
open Go.RowKit
attribute [local go_sem] Oper.semAt_some
/-- Ahead of each item. -/
structure GAll (w2 : World) (S : Nat) (q : GPl) (A : Option Addr) (c : Nat) (K : Option Addr) (ck : Nat) (x : List RefT × List (List UInt8)) (l : List PairT) (v : Value) (rows sp : List Value) (W : World) : Prop where
  box : Blk W (S + 1) 41 #[v]
  pairs : PairsU W 0 v l rows sp
  low : ∀ y, v.ownBlock = some y → S ≤ y
  ix : Blk W (S + 2) 128 (indc A c K ck x)
  some_ : Blk W (S + 4) 133 #[.func (.func 60) #[] #[]]
  gp : Blk W (S + 3) 24 #[.pointer (some ⟨q.gg, 0, none⟩)]
  bel : Below w2.heap.size w2 W
  sz : w2.heap.size = S
theorem GAll.keeps {w2 : World} {S : Nat} {q : GPl} {g : Grd} {d : Dsk} {A : Option Addr} {c : Nat} {K : Option Addr} {ck : Nat} {x : List RefT × List (List UInt8)} {l : List PairT} {v : Value} {rows sp : List Value} {W : World} (h : GAll w2 S q A c K ck x l v rows sp W) (hG : GridR w2 q g d none) (hI : IndexAt w2 A c K ck x) : PKeeps q g d (S + 2) (S + 4) (S + 3) A c K ck x 60 #[] W :=
  ⟨hG.below h.bel, h.ix, hI.below h.bel, h.some_, h.gp⟩
theorem GAll.keptW {w2 : World} {S : Nat} {q : GPl} {A : Option Addr} {c : Nat} {K : Option Addr} {ck : Nat} {x : List RefT × List (List UInt8)} {l : List PairT} {v : Value} {rows sp : List Value} {W W' : World} {B : Nat} (h : GAll w2 S q A c K ck x l v rows sp W) (k : Kept B W W') (hB : S ≤ B) : GAll w2 S q A c K ck x l v rows sp W' :=
  ⟨h.box.keptW k, h.pairs.keptW k, h.low, h.ix.keptW k, h.some_.keptW k, h.gp.keptW k, (Near.keptW (X := []) ⟨h.bel.os, h.bel.tape, h.bel.output, h.bel.size, fun j hj _ => h.bel.block j hj⟩ k (by rw [h.sz]; exact hB)).toBelow (by simp) (Nat.le_refl _), h.sz⟩
set_option maxRecDepth 100000 in
set_option maxHeartbeats 4000000 in
theorem tall_ok {w : World} {q : GPl} {g : Grd} {d : Dsk} (h : GridR w q g d none) (hlen : g.W.length ≤ 1099511627776) (r : RefT) (n : Int) (F L : Option Addr) (nf cf nl cl : Nat) (ho : (topen g d none r).1 = 0) (Gr : Nat → List PairT) (hd : ∀ i, (h : i < (topen g d none r).2.1.1.length) → tdata g d none (topen g d none r).2.1.1[i] = (0, Gr i, g)) (hN : (titems (fun _ => true) Gr (topen g d none r).2.1.1.length).length ≤ 100000) :
    Calls Tryd.prog 12 #[.pointer (some ⟨q.gg, 0, none⟩), .agg (runv r n F L nf cf nl cl)] w fun e w' => ∃ (v : Value) (rows sp : List Value), e = .returned (.tuple #[v, .int .i64 0]) ∧ PairsU w' 0 v (titems (fun _ => true) Gr (topen g d none r).2.1.1.length) rows sp ∧ Below w.heap.size w w' := by
  have hb1 := (((Below.refl w.heap.size w).alloc (Nat.le_refl _) (.cells (runv r n F L nf cf nl cl) 35)).alloc (by simp) (.cells #[.slice none 0 0] 41)).alloc (by simp; omega) (.cells #[.int .i64 0] 36)
  have hg3 := ((Blk.new w 35 (runv r n F L nf cf nl cl)).alloc (.cells #[.slice none 0 0] 41)).alloc (.cells #[.int .i64 0] 36)
  have hg4 := (Blk.new' (w.alloc (.cells (runv r n F L nf cf nl cl) 35)) 41 #[.slice none 0 0] (n := w.heap.size + 1) (by simp)).alloc (.cells #[.int .i64 0] 36)
  have hg5 := Blk.new' ((w.alloc (.cells (runv r n F L nf cf nl cl) 35)).alloc (.cells #[.slice none 0 0] 41)) 36 #[.int .i64 0] (n := w.heap.size + 2) (by simp)
  have hop := topen_any (h.below hb1) hlen r n F L nf cf nl cl
  have hz0 := topen_zero ho
  have H0 := Lib.hid (And.intro h (And.intro hb1 (And.intro hg4 (And.intro hg5 (And.intro hlen (And.intro hz0 hd))))))
  clear h hb1 hg4 hg5 hlen hd
  unfold runv at H0 hg3 hop ⊢
  refine callsIn_wide (n := 3).1 ?_
  refine callsIn_of_wp_marks Tryd.func12 rfl trivial ?_ rfl
  simp only [Tryd.ntmps12, List.size_toArray, List.length_cons, List.length_nil, Nat.reduceAdd, Nat.reduceSub, Array.replicate_succ, Array.replicate_zero, List.push_toArray, List.append_toArray, List.nil_append, List.cons_append]
  refine wpIn_wide.2 ?_
  go_wp2_with (first
    | ((with_reducible show wpList _ _ _ ((⟨some 13, _, _, _, _, _⟩ : Oper) :: _) _ _); refine wpList_load_blk (o := ⟨some 13, _, _, _, _, _⟩) (hg3) (by rfl) _ _ (by rfl) (by rfl) _ Tryd.underlying35 (by rfl) (sizeRun) (by rfl) ?_)
    | fail)
  refine hop.mono ?_
  rintro e w2 ⟨A, c, K, ck, rfl, hI, hL⟩
  rw [ho]
  have hb2 := hL.2 (by rw [ho]; rfl)
  obtain ⟨x, hx⟩ : ∃ x, x = (topen g d none r).2.1 := ⟨_, rfl⟩
  rw [← hx] at hI
  have hxl : (topen g d none r).2.1.1 = x.1 := by rw [hx]
  have hG2 := H0.out.1.below (H0.out.2.1.trans (hb2.mono H0.out.2.1.size))
  have hix := (Blk.new w2 128 #[.slice A x.1.length c, .slice K x.2.length ck]).alloc (.cells #[.slice none 0 0] 41)
  have H2 := Lib.hid (And.intro hI (And.intro (H0.out.2.1.trans (hb2.mono H0.out.2.1.size)) (And.intro hG2 (And.intro (H0.out.2.2.1.below hb2 H0.out.2.2.1.lt) (And.intro (H0.out.2.2.2.1.below hb2 H0.out.2.2.2.1.lt) hxl)))))
  rw [← hx]
  unfold indc
  clear hop hg3 hI hL hb2 hG2 hx hxl
  go_wp2_with (first
    | ((with_reducible show wpList _ _ _ ((⟨some 20, _, _, _, _, _⟩ : Oper) :: _) _ _); refine wpList_load_blk (o := ⟨some 20, _, _, _, _, _⟩) (hix) (by rfl) _ _ (by rfl) (by rfl) _ Tryd.underlying128 (by rfl) (sizeIx) (by rfl) ?_)
    | fail)
  refine (pairs_any A K x.1.length c x.2.length ck q.gg 60 #[] _).mono ?_
  rintro e w6 ⟨rfl, rfl⟩
  have eb : ((w2.alloc (.cells #[.slice A x.1.length c, .slice K x.2.length ck] 128)).alloc (.cells #[.slice none 0 0] 41)).heap.size = w2.heap.size + 2 := by simp
  have h6b : Below w2.heap.size w2 (((((w2.alloc (.cells #[.slice A x.1.length c, .slice K x.2.length ck] 128)).alloc (.cells #[.slice none 0 0] 41)).alloc (.cells #[.slice A x.1.length c, .slice K x.2.length ck] 128)).alloc (.cells #[.pointer (some ⟨q.gg, 0, none⟩)] 24)).alloc (.cells #[.func (.func 60) #[] #[]] 133)) := (((((Below.refl w2.heap.size w2).alloc (Nat.le_refl _) (.cells #[.slice A x.1.length c, .slice K x.2.length ck] 128)).alloc (by simp) (.cells #[.slice none 0 0] 41)).alloc (by simp; omega) (.cells #[.slice A x.1.length c, .slice K x.2.length ck] 128)).alloc (by simp; omega) (.cells #[.pointer (some ⟨q.gg, 0, none⟩)] 24)).alloc (by simp; omega) (.cells #[.func (.func 60) #[] #[]] 133)
  have hS : GAll w2 w2.heap.size q A c K ck x [] (.slice none 0 0) [] [] (((((w2.alloc (.cells #[.slice A x.1.length c, .slice K x.2.length ck] 128)).alloc (.cells #[.slice none 0 0] 41)).alloc (.cells #[.slice A x.1.length c, .slice K x.2.length ck] 128)).alloc (.cells #[.pointer (some ⟨q.gg, 0, none⟩)] 24)).alloc (.cells #[.func (.func 60) #[] #[]] 133)) :=
    ⟨(((Blk.new' _ _ _ (by simp)).alloc _).alloc _).alloc _, PairsU.nil _ _, fun y hy => (by cases hy), ((Blk.new' _ _ _ (by simp)).alloc _).alloc _, Blk.new' _ _ _ (by simp), (Blk.new' _ _ _ (by simp)).alloc _, h6b, rfl⟩
  have hz6 : (((((w2.alloc (.cells #[.slice A x.1.length c, .slice K x.2.length ck] 128)).alloc (.cells #[.slice none 0 0] 41)).alloc (.cells #[.slice A x.1.length c, .slice K x.2.length ck] 128)).alloc (.cells #[.pointer (some ⟨q.gg, 0, none⟩)] 24)).alloc (.cells #[.func (.func 60) #[] #[]] 133)).heap.size = w2.heap.size + 5 := by simp
  rw [eb]
  simp only [show w2.heap.size + 2 + 2 = w2.heap.size + 4 from rfl, show w2.heap.size + 2 + 1 = w2.heap.size + 3 from rfl]
  have hql : q.p.gm < w2.heap.size ∧ q.gi < w2.heap.size := ⟨H2.out.2.2.1.lt _ (GPl.mem.2 (.inr (.inr (.inr (.inr (by simp [Pl.all])))))), H2.out.2.2.1.lt _ (GPl.mem.2 (.inr (.inr (.inl rfl))))⟩
  generalize (((((w2.alloc (.cells #[.slice A x.1.length c, .slice K x.2.length ck] 128)).alloc (.cells #[.slice none 0 0] 41)).alloc (.cells #[.slice A x.1.length c, .slice K x.2.length ck] 128)).alloc (.cells #[.pointer (some ⟨q.gg, 0, none⟩)] 24)).alloc (.cells #[.func (.func 60) #[] #[]] 133)) = w6 at hS hz6 ⊢
  have hws : w.heap.size + 3 ≤ w2.heap.size := by have := H2.out.2.2.2.2.1.lt; omega
  generalize w2.heap.size = S at hS hz6 hql hws ⊢
  have HWS := Lib.hid hws
  have H6 := Lib.hid (And.intro hS (And.intro hz6 hql))
  clear hS hz6 eb h6b hix hql hws
  go_wp2_with fail
  refine wpIn_wide (n := 3).1 ?_
  refine wpIn_rangeRowV rfl (by omega) (gf := 107) (lb := #[.pointer (some ⟨S + 2, 0, none⟩), .pointer (some ⟨S + 4, 0, none⟩), .pointer (some ⟨S + 3, 0, none⟩)]) rfl trivial (enters_of Tryd.func107 (by kernel_rfl) rfl)
    (PIt (titems (fun _ => true) Gr x.1.length)) (fun k W vals hE => by obtain ⟨p, kv, vv, -, rfl, -⟩ := hE; rfl) (titems (fun _ => true) Gr x.1.length).length (fun k X W => ∃ v rows sp, GAll w2 S q A c K ck x ((titems (fun _ => true) Gr x.1.length).take k) v rows sp W ∧ X = v.ownBlock.toList) (fun _ _ => False)
    (fun k X W h => ?hIX) (fun k X W W' h kw => ?hI) (fun _ _ _ h _ => h) ⟨.slice none 0 0, [], [], H6.out.1, rfl⟩ ?row ?round ?done (fun _ _ _ _ h => h.elim)
  case hIX =>
    obtain ⟨v, rows, sp, h1, rfl⟩ := h
    exact fun y hy => (OwnsC.lt h1.pairs.own y (Option.mem_toList.1 hy)).2
  case hI =>
    obtain ⟨v, rows, sp, h1, h2⟩ := h
    exact ⟨v, rows, sp, h1.keptW kw (by rw [H6.out.2.1]; omega), h2⟩
  case row =>
    have hxl := H2.out.2.2.2.2.2
    have hz := H0.out.2.2.2.2.2.1
    refine pairs_row 2 (by omega) (q := q) (d := d) (A := A) (c := c) (K := K) (ck := ck) (sb := #[]) H0.out.2.2.2.2.1 (by rw [← hxl]; omega) (enters_of Tryd.func60 (by kernel_rfl) rfl) (fun _ => true) Gr (fun _ => True) (fun i W _ _ _ => ?_) (fun i h _ => ?_) _ (fun k X W h => ?_)
    · refine (allf_any (i : Int) W).mono ?_
      rintro e w' ⟨rfl, rfl⟩
      exact ⟨rfl, Below.refl _ _⟩
    · have := H0.out.2.2.2.2.2.2 i (by rw [hxl]; exact h)
      simpa only [hxl] using this
    · obtain ⟨v, rows, sp, h1, -⟩ := h
      exact ⟨h1.keeps H2.out.2.2.1 H2.out.1, trivial⟩
  case round =>
    intro l k X W vals hl1 hl2 hI hk hE
    obtain ⟨v, rows, sp, h1, rfl⟩ := hI
    obtain ⟨p, kv, vv, hit, rfl, hPO⟩ := hE
    obtain ⟨A6, c6, B6, e6, rfl, rfl, -⟩ := hPO.at_
    have hz := zeroPairrun
    have HI := Lib.hid (And.intro h1 (And.intro hit hPO))
    clear h1 hit hPO hk
    have hkN : k ≤ 100000 := by have := (List.getElem?_eq_some_iff.1 HI.out.2.1).1; rw [H2.out.2.2.2.2.2] at hN; omega
    have hb0 := (Below.refl W.heap.size W).alloc (Nat.le_refl _) (.cells #[.slice A6 p.1.length c6, .slice B6 p.2.1.length e6, .bool p.2.2.1] 40)
    have hg0 := Blk.new W 40 #[.slice A6 p.1.length c6, .slice B6 p.2.1.length e6, .bool p.2.2.1]
    have hB6 : S ≤ w6.heap.size := by have := H6.out.2.1; omega
    have hI0 := HI.out.1.keptW (B := w6.heap.size) (Kept.below hb0) hB6
    have hP0 := HI.out.2.2.below hb0
    have H0' := Lib.hid (And.intro hb0 (And.intro hg0 (And.intro hI0 (And.intro hP0 hB6))))
    have HIT := Lib.hid HI.out.2.1
    have HSZ := Lib.hid (show S + 5 ≤ W.heap.size by have := H6.out.2.1; omega)
    clear hb0 hg0 hI0 hP0 hB6 HI
    gi_wp2_with fail
    refine ⟨H0'.out.1, fun W2 hW2 => ?_⟩
    have hI2 := H0'.out.2.2.1.keptW hW2 H0'.out.2.2.2.2
    have hg2 := H0'.out.2.1.keptW hW2
    have hP2 := H0'.out.2.2.2.1.keptW hW2
    have hsW := hW2.size
    clear hW2
    obtain ⟨gx, hgx⟩ : ∃ gx, gx = W.heap.size := ⟨_, rfl⟩
    rw [← hgx] at hg2 HSZ ⊢
    obtain ⟨A5, c5, rfl, -, -, -, -⟩ := OwnsC.reads hI2.pairs.own
    obtain ⟨nk, hnk⟩ : ∃ nk, nk = ((titems (fun _ => true) Gr x.1.length).take k).length := ⟨_, rfl⟩
    have hnk9 : nk ≤ 100000 := by rw [hnk, List.length_take]; omega
    have hbl := (Below.refl W2.heap.size W2).alloc (Nat.le_refl _) (.cells #[.slice A6 p.1.length c6, .slice B6 p.2.1.length e6, .bool p.2.2.1] 40)
    have hra : Reads (W2.alloc (.cells #[.slice A6 p.1.length c6, .slice B6 p.2.1.length e6, .bool p.2.2.1] 40)) (some ⟨W2.heap.size, 0, none⟩) [.slice A6 p.1.length c6, .slice B6 p.2.1.length e6, .bool p.2.2.1] := reads_new W2 40 [.slice A6 p.1.length c6, .slice B6 p.2.1.length e6, .bool p.2.2.1]
    have hoa := OwnsC.ownBelow hI2.pairs.own hbl
    rw [← hnk] at hoa ⊢
    have d8 := hI2.box.at_ 0 (v := .slice A5 ((titems (fun _ => true) Gr x.1.length).take k).length c5) rfl
    rw [← hnk] at d8
    have g1 := hg2.at_ 0 (v := .slice A6 p.1.length c6) rfl
    have g2 := hg2.at_ 1 (v := .slice B6 p.2.1.length e6) rfl
    have g3 := hg2.at_ 2 (v := .bool p.2.2.1) rfl
    have H3 := Lib.hid (And.intro hI2 (And.intro hP2 (And.intro hbl (And.intro hra (And.intro hoa hnk)))))
    clear hI2 hP2 hbl hra hoa hnk hgx hsW
    gi_wp2_with (first
      | ((with_reducible show wpListIn _ _ _ _ _ ((⟨some 31, _, _, _, _, _⟩ : Oper) :: _) _ _); refine wpListIn_round (by rfl) ?_; refine wpList_append_vals (o := ⟨some 31, _, _, _, _, _⟩) (by rfl) _ _ _ (by rfl) 0 40 (.agg #[.slice none 0 0, .slice none 0 0, .bool false]) 3 56 Tryd.underlying41 infoPair (by rfl) (by omega) (.slice A5 nk c5) nk rows sp (by rfl) H3.out.2.2.2.2.1 (some ⟨W2.heap.size, 0, none⟩) 1 1 [.slice A6 p.1.length c6, .slice B6 p.2.1.length e6, .bool p.2.2.1] (by rfl) (by rfl) H3.out.2.2.2.1 (by simp [Value.oneCell']) (by simp only [maxLen]; omega) (by omega) (Nat.zero_le _) ?_; intro v4 W8 sp4 ho4 hg4 hv4 hn4; refine stopped ?_)
      | fail)
    refine Stopped.mk ?_
    have hW3 := H3.out.1.bel.trans (H3.out.2.2.1.mono H3.out.1.bel.size)
    have hn8 : Near (Value.slice A5 nk c5).ownBlock.toList (W2.alloc (.cells #[.slice A6 p.1.length c6, .slice B6 p.2.1.length e6, .bool p.2.2.1] 40)) W8 := Near.grown hg4 (fun y hy => Option.mem_toList.2 hy)
    have hSS := H3.out.1.sz
    have hlw := H3.out.1.low
    rw [← H3.out.2.2.2.2.2] at hlw
    have hb8 : Below w2.heap.size w2 W8 := hW3.trans (hn8.toBelow (fun y hy => by rw [hSS]; exact hlw y (Option.mem_toList.1 hy)) hW3.size)
    have hpl := H3.out.1.pairs.below H3.out.2.2.1
    have hown := hpl.own
    rw [← H3.out.2.2.2.2.2] at hown
    have hoff : ∀ y t cs, t ≠ 40 → Blk (W2.alloc (.cells #[.slice A6 p.1.length c6, .slice B6 p.2.1.length e6, .bool p.2.2.1] 40)) y t cs → y ∉ (Value.slice A5 nk c5).ownBlock.toList := fun y t cs ht hb hm => by
      obtain ⟨cs', hb'⟩ := ownBlk hown (Option.mem_toList.1 hm)
      exact hb.apart hb' ht rfl
    obtain ⟨sk, sv, ok1, ov1⟩ := H3.out.2.1.below H3.out.2.2.1
    have hadd := hpl.add ok1 ov1 (by rw [← H3.out.2.2.2.2.2]; exact hn8) (by rw [← H3.out.2.2.2.2.2]; exact ho4)
    have hbx := (H3.out.1.box.below H3.out.2.2.1 H3.out.1.box.lt).near hn8 (hoff _ _ _ (by decide) (H3.out.1.box.below H3.out.2.2.1 H3.out.1.box.lt))
    have hxi := (H3.out.1.ix.below H3.out.2.2.1 H3.out.1.ix.lt).near hn8 (hoff _ _ _ (by decide) (H3.out.1.ix.below H3.out.2.2.1 H3.out.1.ix.lt))
    have hxs := (H3.out.1.some_.below H3.out.2.2.1 H3.out.1.some_.lt).near hn8 (hoff _ _ _ (by decide) (H3.out.1.some_.below H3.out.2.2.1 H3.out.1.some_.lt))
    have hxg := (H3.out.1.gp.below H3.out.2.2.1 H3.out.1.gp.lt).near hn8 (hoff _ _ _ (by decide) (H3.out.1.gp.below H3.out.2.2.1 H3.out.1.gp.lt))
    have hlow4 : ∀ y, v4.ownBlock = some y → S ≤ y ∧ (y ∈ (Value.slice A5 nk c5).ownBlock.toList ∨ W2.heap.size ≤ y) := fun y hy => by
      rcases hv4 with e | e
      · rw [e] at hy; exact ⟨hlw y hy, .inl (Option.mem_toList.2 hy)⟩
      · rw [e] at hy; injection hy with hy
        have h1 := H3.out.2.2.1.size
        have h2 := H3.out.1.bel.size
        exact ⟨by omega, .inr (by omega)⟩
    obtain ⟨B4, c4, rfl, -, -, -, -⟩ := OwnsC.reads ho4
    have d9 := hbx.at_ 0 (v := .slice A5 ((titems (fun _ => true) Gr x.1.length).take k).length c5) rfl
    have f9 := hbx.frozen 0
    have u9 : Upd (S + 1) W8 (W8.setCell ⟨S + 1, 0, none⟩ (.slice B4 (nk + 1) c4)) := (Upd.refl _ _).set 0 _
    have hadd9 := hadd.near (Near.upd u9 (X := [S + 1]) (by simp)) (fun y hy hm => by
      obtain ⟨cs, hb⟩ := ownBlk hadd.own hy
      exact hb.apart hbx (by decide) (List.mem_singleton.1 hm)) (fun y cs hb hm => hb.apart hbx (by decide) (List.mem_singleton.1 hm))
    rw [show (titems (fun _ => true) Gr x.1.length).take k ++ [p] = (titems (fun _ => true) Gr x.1.length).take (k + 1) by
      obtain ⟨hk1, hk2⟩ := List.getElem?_eq_some_iff.1 HIT.out
      rw [List.take_succ_eq_append_getElem hk1, hk2]] at hadd9
    have hG9 : GAll w2 S q A c K ck x ((titems (fun _ => true) Gr x.1.length).take (k + 1)) (.slice B4 (nk + 1) c4) (rows ++ [.slice A6 p.1.length c6, .slice B6 p.2.1.length e6, .bool p.2.2.1]) sp4 (W8.setCell ⟨S + 1, 0, none⟩ (.slice B4 (nk + 1) c4)) :=
      ⟨hbx.set_ 0 _, hadd9, fun y hy => (hlow4 y hy).1, hxi.upd u9 (by omega), hxs.upd u9 (by omega), hxg.upd u9 (by omega), hb8.setCell (by rw [hSS]; simp) _, hSS⟩
    have hY9 : Young w6.heap.size (Value.slice A5 nk c5).ownBlock.toList W2 (W8.setCell ⟨S + 1, 0, none⟩ (.slice B4 (nk + 1) c4)) := ((Young.below H3.out.2.2.1).trans (Young.near hn8 (fun y hy => .inr hy))).trans (Young.near (Near.upd u9 (X := [S + 1]) (by simp)) (fun y hy => .inl (by rw [List.mem_singleton.1 hy, H6.out.2.1]; omega)))
    have H9 := Lib.hid (And.intro hG9 (And.intro hY9 hlow4))
    clear ho4 hg4 hv4 hn4 hW3 hn8 hlw hb8 hpl hown hoff ok1 ov1 hadd hbx hxi hxs hxg hlow4 u9 hadd9 hG9 hY9 d8 g1 g2 g3 hg2
    refine ⟨rfl, ?_⟩
    gi_wp2_with fail
    exact ⟨H9.out.2.1, _, ⟨_, _, _, H9.out.1, rfl⟩, fun y hy => (H9.out.2.2 y (Option.mem_toList.1 hy)).2⟩
  case done =>
    intro D X W hD hI hK
    obtain ⟨v, rows, sp, h1, rfl⟩ := hI
    rw [List.take_length] at h1
    obtain ⟨A5, c5, rfl, -, -, -, -⟩ := OwnsC.reads h1.pairs.own
    have d8 := h1.box.at_ 0 (v := .slice A5 (titems (fun _ => true) Gr x.1.length).length c5) rfl
    have hr4 := H2.out.2.2.2.1.below h1.bel H2.out.2.2.2.1.lt
    have hr5 := H2.out.2.2.2.2.1.below h1.bel H2.out.2.2.2.2.1.lt
    have d4 := hr4.at_ 0 (v := .slice none 0 0) rfl
    have d5 := hr5.at_ 0 (v := .int .i64 0) rfl
    have f4 := hr4.frozen 0
    have f5 := hr5.frozen 0
    have HX := Lib.hid (And.intro h1 hK)
    have HR := Lib.hid (And.intro hr4 (And.intro hr5 (H2.out.2.1.trans (h1.bel.mono H2.out.2.1.size))))
    clear h1 hK hr4 hr5
    go_wp2_with fail
    have hDl : S ≤ D := by have := H6.out.2.1; omega
    have hws := HWS.out
    have u1 : Upd (w.heap.size + 1) W (W.setCell ⟨w.heap.size + 1, 0, none⟩ (.slice A5 (titems (fun _ => true) Gr x.1.length).length c5)) := (Upd.refl _ _).set 0 _
    have hr4 := HR.out.1.set_ 0 (.slice A5 (titems (fun _ => true) Gr x.1.length).length c5)
    have hr5 := HR.out.2.1.upd u1 (by omega)
    have hp1 := HX.out.1.pairs.near (Near.upd u1 (X := [w.heap.size + 1]) (by simp)) (fun y hy hm => by
      obtain ⟨cs, hb⟩ := ownBlk HX.out.1.pairs.own hy
      exact hb.apart HR.out.1 (by decide) (List.mem_singleton.1 hm)) (fun y cs hb hm => hb.apart HR.out.1 (by decide) (List.mem_singleton.1 hm))
    have hk1 := (u1.block D (by omega)).trans HX.out.2
    have hb1 := HR.out.2.2.setCell (p := ⟨w.heap.size + 1, 0, none⟩) (by simp) (.slice A5 (titems (fun _ => true) Gr x.1.length).length c5)
    have H9 := Lib.hid (And.intro hr4 (And.intro hr5 (And.intro hp1 (And.intro hk1 hb1))))
    clear u1 hr4 hr5 hp1 hk1 hb1 d8 d4 d5 f4 f5
    generalize W.setCell ⟨w.heap.size + 1, 0, none⟩ (.slice A5 (titems (fun _ => true) Gr x.1.length).length c5) = W9 at H9 ⊢
    have u2 : Upd (w.heap.size + 2) W9 (W9.setCell ⟨w.heap.size + 2, 0, none⟩ (.int .i64 0)) := (Upd.refl _ _).set 0 _
    have hr4 := H9.out.1.upd u2 (by omega)
    have hr5 := H9.out.2.1.set_ 0 (.int .i64 0)
    have hp2 := H9.out.2.2.1.near (Near.upd u2 (X := [w.heap.size + 2]) (by simp)) (fun y hy hm => by
      obtain ⟨cs, hb⟩ := ownBlk H9.out.2.2.1.own hy
      exact hb.apart H9.out.2.1 (by decide) (List.mem_singleton.1 hm)) (fun y cs hb hm => hb.apart H9.out.2.1 (by decide) (List.mem_singleton.1 hm))
    have hk2 := (u2.block D (by omega)).trans H9.out.2.2.2.1
    have hb2 := H9.out.2.2.2.2.setCell (p := ⟨w.heap.size + 2, 0, none⟩) (by simp) (.int .i64 0)
    refine ⟨by simp, .inl ⟨_, _, rfl, run_takeDeferred hk2, ?_⟩⟩
    have k1 := mark_kept (B := S) hDl hk2
    refine ⟨_, results_cells2 (by rfl) _ _ (w.heap.size + 1) (w.heap.size + 2) _ _ _ _ (by rfl) ((hr4.keptW k1).at_ 0 rfl) Tryd.underlying41 rfl (by rfl) ((hr5.keptW k1).at_ 0 rfl) Tryd.underlying36 rfl, ?_⟩
    refine ⟨_, rows, sp, rfl, ?_, ?_⟩
    · rw [H2.out.2.2.2.2.2]
      exact hp2.keptW k1
    · exact (Near.keptW (X := []) ⟨hb2.os, hb2.tape, hb2.output, hb2.size, fun j hj _ => hb2.block j hj⟩ k1 (by omega)).toBelow (by simp) (Nat.le_refl _)
end Go.Proofs.YtgkljncigbiffaaDoor
