/- A grid that a statement made: the calls on tables. Conditions: as each says. -/
import Derived.Test.YtgkljncigbiffaaDoorMTableTurned19
import Derived.Laws.EntriesVeiled
namespace Go.Proofs.YtgkljncigbiffaaDoor
open Go.RowKit
/-- No block of a grid or of its disk is of this type. -/
def NG (t : TypeId) : Prop := t ≠ 30 ∧ t ≠ 203 ∧ t ≠ 33 ∧ t ≠ 105 ∧ t ≠ 145 ∧ t ≠ 211
/-- Blocks of a grid and of its disk alone may have been written. -/
def Soft (w w' : World) : Prop := ∃ X : List Nat, Near X w w' ∧ ∀ x ∈ X, ∀ t cs, Blk w x t cs → ¬ NG t
section
variable {w w' w'' : World} {q : GPl} {g g1 : Grd} {d d1 : Dsk} {f f1 : Option Fus}
theorem Soft.refl (w : World) : Soft w w := ⟨[], Near.refl _ _, fun _ hx => absurd hx List.not_mem_nil⟩
theorem Soft.below (k : Below w.heap.size w w') : Soft w w' := ⟨[], Near.below k, fun _ hx => absurd hx List.not_mem_nil⟩
theorem Soft.blk {x : Nat} {t : TypeId} {cs : Array Value} (h : Soft w w') (hb : Blk w x t cs) (ht : NG t) : Blk w' x t cs := by
  obtain ⟨X, k, hX⟩ := h
  exact hb.near k (fun hm => hX _ hm _ _ hb ht)
theorem Soft.trans (h : Soft w w') (k : Soft w' w'') : Soft w w'' := by
  obtain ⟨X, h1, h2⟩ := h
  obtain ⟨Y, k1, k2⟩ := k
  refine ⟨X ++ Y, (h1.wider fun x hx => List.mem_append.2 (.inl hx)).trans (k1.wider fun x hx => List.mem_append.2 (.inr hx)), fun x hx t cs hb => ?_⟩
  by_cases hX : x ∈ X
  · exact h2 x hX t cs hb
  · rcases List.mem_append.1 hx with e | e
    · exact absurd e hX
    · exact k2 x e t cs (hb.near h1 hX)
theorem Soft.size (h : Soft w w') : w.heap.size ≤ w'.heap.size := by
  obtain ⟨X, k, -⟩ := h
  exact k.size
theorem Soft.post (h : GridR w q g d f) (hp : GPost w q g1 d1 f1 w') : Soft w w' := by
  obtain ⟨q', -, -, -, -, hN, -⟩ := hp
  exact ⟨q.all, hN, fun x hx t cs hb ht => h.offT hb ht hx⟩
theorem Soft.pairsU {base : Nat} {v : Value} {l : List PairT} {rows sp : List Value} (h : Soft w w') (hp : PairsU w base v l rows sp) : PairsU w' base v l rows sp := by
  obtain ⟨X, k, hX⟩ := h
  refine hp.near k (fun x hx hm => ?_) (fun x cs hb hm => hX x hm _ _ hb (by unfold NG; decide))
  obtain ⟨cs, hb⟩ := ownBlk hp.own hx
  exact hX x hm _ _ hb (by unfold NG; decide)
theorem Soft.pairO {base : Nat} {kv vv : Value} {p : PairT} (h : Soft w w') (hp : PairO w base kv vv p) : PairO w' base kv vv p := by
  obtain ⟨X, k, hX⟩ := h
  exact hp.near k (fun x cs hb hm => hX x hm _ _ hb (by unfold NG; decide))
end
/-- A step of a statement about tables. -/
structure TS (B : Nat) (Y : List Nat) (w w' : World) : Prop where
  st : GStep B Y w w'
  so : Soft w w'
section
variable {B gp dp : Nat} {Y Y' : List Nat} {w w' w'' : World} {g g2 : Grd} {d d2 : Dsk}
theorem TS.trans (h : TS B Y w w') (k : TS B Y w' w'') : TS B Y w w'' := ⟨h.st.trans k.st, h.so.trans k.so⟩
theorem TS.sub (h : TS B Y w w') (hs : ∀ y ∈ Y', y ∈ Y) : TS B Y' w w' := ⟨h.st.sub hs, h.so⟩
theorem TS.below (k : Below w.heap.size w w') (hs : B ≤ w.heap.size) (hY : ∀ y ∈ Y, y < w.heap.size) : TS B Y w w' := ⟨GStep.below k hs hY, Soft.below k⟩
theorem TS.bel (h : TS B Y w w') : Below B w w' := h.st.bel
theorem GX.belowT (h : GX B Y w gp dp g d) (k : Below w.heap.size w w') : GX B Y w' gp dp g d ∧ TS B Y w w' := ⟨(h.below k).1, (h.below k).2, Soft.below k⟩
theorem GX.postT {q : GPl} {f : Option Fus} {g1 : Grd} {d1 : Dsk} {f1 : Option Fus} (h0 : GridR w q g1 d1 f1) (h1 : q.gg = gp) (h2 : q.p.gd = dp) (h3 : q.gf = none) (h5 : ∀ x ∈ q.all, B ≤ x ∧ x ∉ Y) (h6 : ∀ y ∈ Y, y < w.heap.size) (h7 : B ≤ w.heap.size) (h : GPost w q g2 d2 f w') : GX B Y w' gp dp g2 d2 ∧ TS B Y w w' :=
  ⟨(GX.of_post h1 h2 h3 h5 h6 h7 h).1, (GX.of_post h1 h2 h3 h5 h6 h7 h).2, Soft.post h0 h⟩
/-- A byte of the disk is turned. -/
theorem xtturn (h : GX B Y w gp dp g d) (s a : Int) (m : UInt8) {c0 : Int} (hg : d.turn s a m = (c0, d2)) (hN : d2.N = d.N) :
    Calls Tryd.prog 22 #[.pointer (some ⟨dp, 0, none⟩), .int .i64 s, .int .i64 a, .int .u8 (iu8 m)] w fun e w' => e = .returned (.int .i64 c0) ∧ GX B Y w' gp dp g d2 ∧ TS B Y w w' := by
  obtain ⟨q, h1, h2, h3, h4, h5, h6, h7⟩ := h
  have hr := turn_all s a m h4.dk.dr h4.dk.ok
  have hok := Dsk.turn_ok (s := s) (a := a) (m := m) h4.dk.ok
  rw [hg] at hok
  rw [hg, h2] at hr
  refine hr.mono ?_
  rintro e w' ⟨rfl, hd, hN2⟩
  have hlow : Near (q.p.all q.gf) w w' := hN2.wider (fun x hx => by rw [List.mem_singleton.1 hx]; simp [Pl.all])
  have hfr := h4.dk.fr.near hN2 (fun x hx => by rw [h3] at hx; cases hx)
  exact ⟨rfl, GX.postT h4 h1 h2 h3 h5 h6 h7 (f := none) ⟨q, rfl, rfl, rfl, h4.wrote ⟨hd, hfr, hok⟩ hlow hN, hlow.wider (fun x hx => GPl.mem.2 (.inr (.inr (.inr (.inr hx))))), fun x hx => .inl hx⟩⟩
/-- All pairs. -/
theorem xtall (h : GX B Y w gp dp g d) (hlen : g.W.length ≤ 1099511627776) (r : RefT) (n : Int) (F L : Option Addr) (nf cf nl cl : Nat) (l : List PairT) (ho : (topen g d none r).1 = 0) (Gr : Nat → List PairT) (hd : ∀ i, (h : i < (topen g d none r).2.1.1.length) → tdata g d none (topen g d none r).2.1.1[i] = (0, Gr i, g)) (hl : titems (fun _ => true) Gr (topen g d none r).2.1.1.length = l) (hN : l.length ≤ 100000) :
    Calls Tryd.prog 12 #[.pointer (some ⟨gp, 0, none⟩), .agg (runv r n F L nf cf nl cl)] w fun e w' => ∃ (v : Value) (rows sp : List Value), e = .returned (.tuple #[v, .int .i64 0]) ∧ PairsU w' 0 v l rows sp ∧ GX B Y w' gp dp g d ∧ TS B Y w w' := by
  have h0 := h
  obtain ⟨q, h1, h2, h3, h4, h5, h6, h7⟩ := h
  subst hl
  have hr := tall_ok h4 hlen r n F L nf cf nl cl ho Gr hd hN
  rw [h1] at hr
  refine hr.mono ?_
  rintro e w' ⟨v, rows, sp, rfl, hP, hB⟩
  exact ⟨v, rows, sp, rfl, hP, h0.belowT hB⟩
/-- The pairs between two keys. -/
theorem xtbetween (h : GX B Y w gp dp g d) (hlen : g.W.length ≤ 1099511627776) (r : RefT) (n : Int) (F L : Option Addr) (nf cf nl cl : Nat) (fr to : List UInt8) (A1 A2 : Option Addr) (c1 c2 : Nat) (hf : Bytes w A1 fr) (ht : Bytes w A2 to) (hfl : fr.length ≤ 5000) (htl : to.length ≤ 5000) (l : List PairT) (ho : (topen g d none r).1 = 0) (Gr : Nat → List PairT) (hd : ∀ i, (h : i < (topen g d none r).2.1.1.length) → used (topen g d none r).2.1.2 fr to i = true → tdata g d none (topen g d none r).2.1.1[i] = (0, Gr i, g))
    (hl : (titems (used (topen g d none r).2.1.2 fr to) Gr (topen g d none r).2.1.1.length).filter (inside fr to) = l) (hN : (titems (used (topen g d none r).2.1.2 fr to) Gr (topen g d none r).2.1.1.length).length ≤ 100000) :
    Calls Tryd.prog 13 #[.pointer (some ⟨gp, 0, none⟩), .agg (runv r n F L nf cf nl cl), .slice A1 fr.length c1, .slice A2 to.length c2] w fun e w' => ∃ (v : Value) (rows sp : List Value), e = .returned (.tuple #[v, .int .i64 0]) ∧ PairsU w' 0 v l rows sp ∧ GX B Y w' gp dp g d ∧ TS B Y w w' := by
  have h0 := h
  obtain ⟨q, h1, h2, h3, h4, h5, h6, h7⟩ := h
  subst hl
  have hr := tbetween_ok h4 hlen r n F L nf cf nl cl fr to A1 A2 c1 c2 hf ht hfl htl ho Gr hd hN
  rw [h1] at hr
  refine hr.mono ?_
  rintro e w' ⟨v, rows, sp, rfl, hP, hB⟩
  exact ⟨v, rows, sp, rfl, hP, h0.belowT hB⟩
/-- A key's pair. -/
theorem xtget (h : GX B Y w gp dp g d) (hlen : g.W.length ≤ 1099511627776) (r : RefT) (n : Int) (F L : Option Addr) (nf cf nl cl : Nat) (A : Option Addr) (ce : Nat) (key : List UInt8) (hB : Bytes w A key)
    (hmono : ∀ a b : Nat, a ≤ b → b < (topen g d none r).2.1.2.length → key < (topen g d none r).2.1.2.getD a [] → key < (topen g d none r).2.1.2.getD b []) {cd : Int} {p : PairT} (hT : tget g d none r key = (cd, p, g2)) :
    Calls Tryd.prog 11 #[.pointer (some ⟨gp, 0, none⟩), .agg (runv r n F L nf cf nl cl), .slice A key.length ce] w fun e w' => ∃ (kv vv : Value), e = .returned (.tuple #[.agg #[kv, vv, .bool p.2.2.1], .int .i64 cd]) ∧ PairO w' w.heap.size kv vv p ∧ GX B Y w' gp dp g2 d ∧ TS B Y w w' := by
  obtain ⟨q, h1, h2, h3, h4, h5, h6, h7⟩ := h
  have hr := tget_any h4 hlen r n F L nf cf nl cl A ce key hB hmono
  rw [h1, hT] at hr
  refine hr.mono ?_
  rintro e w' ⟨kv, vv, rfl, hO, hP⟩
  exact ⟨kv, vv, rfl, hO, GX.postT h4 h1 h2 h3 h5 h6 h7 hP⟩
/-- Is a key told just so? -/
theorem xtgets (h : GX B Y w gp dp g d) (hlen : g.W.length ≤ 1099511627776) (r : RefT) (n : Int) (F L : Option Addr) (nf cf nl cl : Nat) (key : List UInt8) (hk : key.length ≤ 5000) (p : PairT) (A A' : Option Addr) (c e0 : Nat) {cd : Int}
    (hp : PairAt w p A c A' e0) (hA : ∀ ad, A = some ad → ad.block ∈ Y ∨ ad.block < B) (hA' : p.2.1 ≠ [] → ∀ ad, A' = some ad → ad.block ∈ Y ∨ ad.block < B) (hT : tget g d none r key = (cd, p, g2))
    (hmono : ∀ a b : Nat, a ≤ b → b < (topen g d none r).2.1.2.length → key < (topen g d none r).2.1.2.getD a [] → key < (topen g d none r).2.1.2.getD b []) :
    Calls Tryd.prog 29 #[.pointer (some ⟨gp, 0, none⟩), .agg (runv r n F L nf cf nl cl), .string (str key), .agg (pairc p A c A' e0), .int .i64 cd] w fun e w' => e = .returned (.bool true) ∧ GX B Y w' gp dp g2 d ∧ TS B Y w w' := by
  obtain ⟨q, h1, h2, h3, h4, h5, h6, h7⟩ := h
  have off : ∀ ad : Addr, (ad.block ∈ Y ∨ ad.block < B) → ad.block ∉ q.all := fun ad ha hm => by
    rcases ha with e | e
    · exact (h5 _ hm).2 e
    · have := (h5 _ hm).1; omega
  have hr := gets_any h4 hlen r n F L nf cf nl cl key hk p A A' c e0 cd (fun w' hn => ⟨hp.kc, hp.km, hp.vc, hp.vm, Bytes.near hp.k hn (fun ad e => off ad (hA ad e)), near_bytes hp.v hn (fun hne ad e => off ad (hA' hne ad e))⟩) hT hmono
  rw [h1] at hr
  refine hr.mono ?_
  rintro e w' ⟨rfl, hP⟩
  exact ⟨rfl, GX.postT h4 h1 h2 h3 h5 h6 h7 hP⟩
/-- The table's blocks. -/
theorem xtblocks (h : GX B Y w gp dp g d) (hlen : g.W.length ≤ 1099511627776) (r : RefT) (n : Int) (F L : Option Addr) (nf cf nl cl : Nat) {l : List RefT} (hT : tblocks g d none r = (0, l, g2)) :
    Calls Tryd.prog 14 #[.pointer (some ⟨gp, 0, none⟩), .agg (runv r n F L nf cf nl cl)] w fun e w' => ∃ (A : Option Addr) (c : Nat), e = .returned (.tuple #[.slice A l.length c, .int .i64 0]) ∧ Refs w' A l ∧ l.length ≤ c ∧ c ≤ 9223372036854775807 ∧ (∀ ad, A = some ad → GX B (ad.block :: Y) w' gp dp g2 d) ∧ GX B Y w' gp dp g2 d ∧ TS B Y w w' := by
  have h0 := h
  obtain ⟨q, h1, h2, h3, h4, h5, h6, h7⟩ := h
  have hr := tblocks_any h4 hlen r n F L nf cf nl cl
  have hz : g = g2 := by
    have := tblocks_zero (g := g) (d := d) (f := none) (r := r) (by rw [hT])
    rw [hT] at this
    exact this.symm
  subst hz
  rw [h1, hT] at hr
  refine hr.mono ?_
  rintro e w' ⟨v, sp, rfl, hO, hL⟩
  have hB := hL.2 rfl
  obtain ⟨A, c, rfl, hc, hm, hrd, -⟩ := OwnsC.reads hO
  refine ⟨A, c, rfl, Refs.of hrd, hc, hm, fun ad e => ?_, h0.belowT hB⟩
  subst e
  have hlt := OwnsC.lt hO ad.block rfl
  exact h0.add hB hlt.1 hlt.2
/-- A table is dropped. -/
theorem xtdrop (h : GX B Y w gp dp g d) (hlen : g.W.length ≤ 1099511627776) (r : RefT) (hr : -9223372036854775808 ≤ r.1 ∧ r.1 ≤ 9223372036854775807) (n : Int) (F L : Option Addr) (nf cf nl cl : Nat) {cd : Int} (hT : tdrop g d r = (cd, g2)) :
    Calls Tryd.prog 15 #[.pointer (some ⟨gp, 0, none⟩), .agg (runv r n F L nf cf nl cl)] w fun e w' => e = .returned (.int .i64 cd) ∧ GX B Y w' gp dp g2 d ∧ TS B Y w w' := by
  obtain ⟨q, h1, h2, h3, h4, h5, h6, h7⟩ := h
  have hc := tdrop_any h4 hlen r hr n F L nf cf nl cl
  rw [h1, hT] at hc
  refine hc.mono ?_
  rintro e w' ⟨rfl, hP⟩
  exact ⟨rfl, GX.postT h4 h1 h2 h3 h5 h6 h7 hP⟩
/-- A table is written. -/
theorem xtbuild {G : Nat → Grd} {D : Nat → Dsk} {R : Nat → RefT} {root : RefT} {s : Int} {w0 : World} (h0 : GX B Y w0 gp dp (G 0) (D 0)) (hk : Below w0.heap.size w0 w) (hT : Tab w) (hTB : 1 < B)
    (A : Option Addr) (c : Nat) (l : List PairT) (hl : l.length ≤ 65536) (hP : Pairs w A l) (hX : ∀ X : List Nat, (∀ x ∈ X, B ≤ x ∧ x ∉ Y ∧ x < w0.heap.size) → PairsX X w A l) (hok : (ppack l).1 = 0) (hs1 : 0 ≤ s) (hs2 : s ≤ 1073741824)
    (hf : (ppack l).2.length + 1 ≤ cnts (G 0).L 0) (hpt : Puts s ((ppack l).2.map gbody) (kbytes ((ppack l).2.map gkey)) root G D R) :
    Calls Tryd.prog 10 #[.pointer (some ⟨gp, 0, none⟩), .slice A l.length c, .int .i64 s] w fun e w' => ∃ (A1 A2 : Option Addr) (n1 c1 n2 c2 : Nat), e = .returned (.tuple #[.agg (runv root (l.length : Int) A1 A2 n1 c1 n2 c2), .int .i64 0]) ∧ GX B Y w' gp dp (G ((ppack l).2.length + 1)) (D ((ppack l).2.length + 1)) ∧ TS B Y w w' := by
  obtain ⟨q, h1, h2, h3, h4, h5, h6, h7⟩ := h0
  obtain ⟨p1, p2, -⟩ := ppack_ok hok
  have hn : 0 < l.length := by cases l with
    | nil => exact absurd rfl p1
    | cons a b => simp
  have hr := tbuild_any (h4.below hk) hT (fun hm => by have := (h5 _ hm).1; omega) A c l hl hP (hX q.all (fun x hx => ⟨(h5 x hx).1, (h5 x hx).2, h4.lt x hx⟩)) hok hs1 hs2 hf hpt (l[0].1) ((l[l.length - 1]'(by omega)).1) ⟨_, List.getElem?_eq_getElem hn, rfl⟩ ⟨_, List.getElem?_eq_getElem (by omega), rfl⟩
  rw [h1] at hr
  refine hr.mono ?_
  rintro e w' ⟨fv, lv, sf, sl, rfl, hF, hL, hP⟩
  obtain ⟨A1, c1, rfl, -, -, -⟩ := OwnB.open_ hF
  obtain ⟨A2, c2, rfl, -, -, -⟩ := OwnB.open_ hL
  exact ⟨A1, A2, _, c1, _, c2, rfl, GX.postT (h4.below hk) h1 h2 h3 h5 (fun y hy => Nat.lt_of_lt_of_le (h6 y hy) hk.size) (Nat.le_trans h7 hk.size) hP⟩
/-- A table is not written. -/
theorem xtbuild_bad (h : GX B Y w gp dp g d) (A : Option Addr) (c : Nat) (l : List PairT) (hl : l.length ≤ 65536) (hP : Pairs w A l) (s : Int) (hc : (ppack l).1 = 2) :
    Calls Tryd.prog 10 #[.pointer (some ⟨gp, 0, none⟩), .slice A l.length c, .int .i64 s] w fun e w' => e = .returned (.tuple #[.agg #[.int .i64 0, .int .i64 0, .int .i64 0, .slice none 0 0, .slice none 0 0], .int .i64 2]) ∧ GX B Y w' gp dp g d ∧ TS B Y w w' := by
  have h0 := h
  obtain ⟨q, h1, h2, h3, h4, h5, h6, h7⟩ := h
  have hr := tbuild_bad h4 A c l hl hP s hc
  rw [h1] at hr
  refine hr.mono ?_
  rintro e w' ⟨rfl, hB⟩
  exact ⟨rfl, h0.belowT hB⟩
theorem xtbuild_badB (h : GX B Y w gp dp g d) (A : Option Addr) (c : Nat) (l : List PairT) (hl : l.length ≤ 65536) (hP : Pairs w A l) (s : Int) (hc : (ppack l).1 = 2) :
    Calls Tryd.prog 10 #[.pointer (some ⟨gp, 0, none⟩), .slice A l.length c, .int .i64 s] w fun e w' => e = .returned (.tuple #[.agg #[.int .i64 0, .int .i64 0, .int .i64 0, .slice none 0 0, .slice none 0 0], .int .i64 2]) ∧ Below w.heap.size w w' := by
  obtain ⟨q, h1, h2, h3, h4, h5, h6, h7⟩ := h
  have hr := tbuild_bad h4 A c l hl hP s hc
  rw [h1] at hr
  exact hr
theorem xtbuild_full (h : GX B Y w gp dp g d) (A : Option Addr) (c : Nat) (l : List PairT) (hl : l.length ≤ 65536) (hP : Pairs w A l) (s : Int) (hc : (ppack l).1 = 0) (hs1 : 0 ≤ s) (hs2 : s ≤ 1073741824) (hf : cnts g.L 0 < (ppack l).2.length + 1) :
    Calls Tryd.prog 10 #[.pointer (some ⟨gp, 0, none⟩), .slice A l.length c, .int .i64 s] w fun e w' => e = .returned (.tuple #[.agg #[.int .i64 0, .int .i64 0, .int .i64 0, .slice none 0 0, .slice none 0 0], .int .i64 8]) ∧ GX B Y w' gp dp g d ∧ TS B Y w w' := by
  have h0 := h
  obtain ⟨q, h1, h2, h3, h4, h5, h6, h7⟩ := h
  have hr := tbuild_full h4 A c l hl hP s hc hs1 hs2 hf
  rw [h1] at hr
  refine hr.mono ?_
  rintro e w' ⟨rfl, hB⟩
  exact ⟨rfl, h0.belowT hB⟩
end
end Go.Proofs.YtgkljncigbiffaaDoor

/- All pairs of a table whose index cannot be read: the program's All. Condition: the grid is known. -/
namespace Go.Proofs.YtgkljncigbiffaaDoor
open Go.RowKit
set_option maxRecDepth 100000 in
set_option maxHeartbeats 2000000 in
theorem tall_fail {w : World} {q : GPl} {g g2 : Grd} {d : Dsk} (h : GridR w q g d none) (hlen : g.W.length ≤ 1099511627776) (r : RefT) (n : Int) (F L : Option Addr) (nf cf nl cl : Nat) {cd : Int} (hcd : cd ≠ 0) (ho : topen g d none r = (cd, ([], []), g2)) :
    Calls Tryd.prog 12 #[.pointer (some ⟨q.gg, 0, none⟩), .agg (runv r n F L nf cf nl cl)] w fun e w' => e = .returned (.tuple #[.slice none 0 0, .int .i64 cd]) ∧ GPost w q g2 d none w' := by
  have hb1 := ((((Below.refl w.heap.size w).alloc (by simp) (.cells (runv r n F L nf cf nl cl) 35)).alloc (by simp) (.cells #[.slice none 0 0] 41)).alloc (by simp; omega) (.cells #[.int .i64 0] 36))
  have hg4 := (((Blk.new w 35 (runv r n F L nf cf nl cl)).alloc (.cells #[.slice none 0 0] 41)).alloc (.cells #[.int .i64 0] 36))
  have hp := ((Blk.new' (w.alloc (.cells (runv r n F L nf cf nl cl) 35)) 41 #[.slice none 0 0] (n := w.heap.size + 1) (by simp)).alloc (.cells #[.int .i64 0] 36))
  have he := (Blk.new' ((w.alloc (.cells (runv r n F L nf cf nl cl) 35)).alloc (.cells #[.slice none 0 0] 41)) 36 #[.int .i64 0] (n := w.heap.size + 2) (by simp))
  have hop := topen_any (h.below hb1) hlen r n F L nf cf nl cl
  rw [ho] at hop
  have H0 := Lib.hid (And.intro hb1 (And.intro hp (And.intro he (h.below hb1))))
  have kcd : (cd != 0) = true := bne_iff_ne.2 hcd
  clear h hb1 hp he ho hcd
  unfold runv at H0 hg4 hop ⊢
  go_enter Tryd.func12, Tryd.ntmps12
  go_wp2_with (first
    | ((with_reducible show wpList _ _ _ ((⟨some 13, _, _, _, _, _⟩ : Oper) :: _) _ _); refine wpList_load_blk (o := ⟨some 13, _, _, _, _, _⟩) (hg4) (by rfl) _ _ (by rfl) (by rfl) _ Tryd.underlying35 (by rfl) (sizeRun) (by rfl) ?_)
    | fail)
  refine hop.mono ?_
  rintro e w2 ⟨A, c, K, ck, rfl, -, hL⟩
  have hP2 := GPost.trans1 H0.out.1 hL.1
  have hp2 := hL.1.blk H0.out.2.2.2 H0.out.2.1 (by decide)
  have he2 := hL.1.blk H0.out.2.2.2 H0.out.2.2.1 (by decide)
  have hbx := (Below.refl w2.heap.size w2).alloc (Nat.le_refl _) (.cells #[.slice A 0 c, .slice K 0 ck] 128)
  have HB3 := Lib.hid (And.intro (hP2.below hbx) (And.intro (hp2.below hbx hp2.lt) (he2.below hbx he2.lt)))
  have d1 := (hp2.below hbx hp2.lt).at_ 0 (v := .slice none 0 0) rfl
  have d2 := (he2.below hbx he2.lt).at_ 0 (v := .int .i64 0) rfl
  have f1 := (hp2.below hbx hp2.lt).frozen 0
  have f2 := (he2.below hbx he2.lt).frozen 0
  unfold indc
  simp only [List.length_nil]
  clear hop hg4 hL hP2 hp2 he2 hbx
  go_wp2_with fail
  have u1 := (Upd.refl (w.heap.size + 1) (w2.alloc (.cells #[.slice A 0 c, .slice K 0 ck] 128))).set 0 (.slice none 0 0)
  have hP3 := HB3.out.1.upd u1 (by omega) (fun q' hq => hq.offT HB3.out.2.1 (by decide))
  have hp3 := HB3.out.2.1.set_ 0 (.slice none 0 0)
  have he3 := HB3.out.2.2.upd u1 (by omega)
  have u2 := (Upd.refl (w.heap.size + 2) ((w2.alloc (.cells #[.slice A 0 c, .slice K 0 ck] 128)).setCell ⟨w.heap.size + 1, 0, none⟩ (.slice none 0 0))).set 0 (.int .i64 cd)
  have hP4 := hP3.upd u2 (by omega) (fun q' hq => hq.offT he3 (by decide))
  have hp4 := hp3.upd u2 (by omega)
  have he4 := he3.set_ 0 (.int .i64 cd)
  refine bodyPost_ret (results_cells2 (by rfl) _ _ (w.heap.size + 1) (w.heap.size + 2) (.slice none 0 0) (.int .i64 cd) _ _ (by rfl) (hp4.at_ 0 rfl) Tryd.underlying41 rfl (by rfl) (he4.at_ 0 rfl) Tryd.underlying36 rfl) rfl ?_
  exact ⟨rfl, hP4⟩
end Go.Proofs.YtgkljncigbiffaaDoor

/- A range over a function whose items come with the function's own memory, and whose last item comes behind a write of the function's; there the body leaves. Plain facts over any program. No condition. -/
namespace Go
open Go.RowKit
section
variable {F : Fence} {n : Nat} {P : Program}
/-- The function's part: behind N items it may write (Z), and yields a last one, at which the body leaves. -/
def RowOfZ (F : Fence) (n : Nat) (P : Program) (gf : Nat) (lb : Array Value) (E : Nat → World → Array Value → Prop) (El : World → Array Value → Prop) (Z : World → World → Prop) (I : Nat → List Nat → World → Prop) (N : Nat) : Prop :=
  ∀ (l : Nat) (J : Nat → List Nat → World → Prop) (Jz Jx : World → Prop) (X : List Nat) (W : World), (∀ k X W, J k X W → I k X W) → (∀ k X W, J k X W → ∀ x ∈ X, x < W.heap.size) →
    (∀ k X W1 W2, J k X W1 → Kept W.heap.size W1 W2 → J k X W2) → (∀ W1 W2, Jz W1 → Kept W.heap.size W1 W2 → Jz W2) → (∀ W1 W2, Jx W1 → Kept W.heap.size W1 W2 → Jx W2) →
    (∀ k X W1 vals, J k X W1 → k < N → E k W1 vals → YieldAt F (n - 1) P l vals W1 fun e W' => (e = .returned (.bool true) ∧ ∃ X', J (k + 1) X' W' ∧ Young W.heap.size X W1 W' ∧ Grown X X' W1) ∨ (e = .returned (.bool false) ∧ Jx W')) →
    (∀ X W1 W2, J N X W1 → Z W1 W2 → Jz W2) → (∀ W1 vals, Jz W1 → El W1 vals → YieldAt F (n - 1) P l vals W1 fun e W' => e = .returned (.bool false) ∧ Jx W') →
    J 0 X W → CallsIn F n P gf (#[.func (.yield l) #[] #[]] ++ lb) W fun e W' => (∃ v, e = .returned v) ∧ Jx W'
theorem wpIn_rangeRowZ {g : Operand} {ps : Array Tmp} {assign body : Code} {Q : Exit → Act → World → Prop} {a : Act} {w : World}
    (hro : F.round = none) (h1 : 1 ≤ n) {gf : Nat} {lb : Array Value} (hg : a.eval g = .func (.func gf) #[] lb) (hFg : F.fn gf) (eg : ∀ args w, (callFunc gf args).run P w = .ok (.enter gf args) w)
    (E : Nat → World → Array Value → Prop) (hps : ∀ k W vals, E k W vals → vals.size = ps.size) (El : World → Array Value → Prop) (hpl : ∀ W vals, El W vals → vals.size = ps.size) (Z : World → World → Prop) (hZ : ∀ W1 W2, Z W1 W2 → ∃ Xz : List Nat, Near Xz W1 W2 ∧ ∀ x ∈ Xz, x < w.heap.size) (N : Nat) (I : Nat → List Nat → World → Prop) (Iz : World → Prop) (Ix : Code → World → Prop)
    (hIX : ∀ k X W, I k X W → ∀ x ∈ X, x < W.heap.size)
    (hI : ∀ k X W W', I k X W → Kept w.heap.size W W' → I k X W') (hIz : ∀ W W', Iz W → Kept w.heap.size W W' → Iz W') (hIZ : ∀ X W1 W2, I N X W1 → Z W1 W2 → Iz W2) (hIx : ∀ c W W', Ix c W → Kept w.heap.size W W' → Ix c W') {X0 : List Nat} (h0 : I 0 X0 w)
    (hrow : RowOfZ F (n - 1) P gf lb E El Z I N)
    (hround : ∀ l k X W vals, w.heap.size ≤ l → l < W.heap.size → I k X W → k < N → E k W vals → assign.wpIn (F.inRound l) (n - 1 - 1) P
      (Exit.then (fun a₁ W₁ => Below W.heap.size W W₁ ∧ ∀ W₂, Kept w.heap.size W₁ W₂ → body.wpIn (F.inRound l) (n - 1 - 1) P (rowPostY w.heap.size X (I (k + 1)) Ix W₂) a₁ W₂) (fun _ _ _ => False))
      { tmps := (ps.zip vals).foldl (fun t (p, v) => t.setIfInBounds p v) a.tmps, defers := [] } W)
    (hlast : ∀ l W vals, w.heap.size ≤ l → l < W.heap.size → Iz W → El W vals → assign.wpIn (F.inRound l) (n - 1 - 1) P
      (Exit.then (fun a₁ W₁ => Below W.heap.size W W₁ ∧ ∀ W₂, Kept w.heap.size W₁ W₂ → body.wpIn (F.inRound l) (n - 1 - 1) P (rowPostY w.heap.size [] (fun _ _ => False) Ix W₂) a₁ W₂) (fun _ _ _ => False))
      { tmps := (ps.zip vals).foldl (fun t (p, v) => t.setIfInBounds p v) a.tmps, defers := [] } W)
    (hstop : ∀ D c W, w.heap.size ≤ D → Ix c W → W.heap[D]? = some (.deferred (some [])) → c.wpIn F n P Q { a with defers := { target := .collected D, args := #[] } :: a.defers } W) :
    (Code.rangeFunc g ps assign body).wpIn F n P Q a w := by
  refine wpIn_rangeFunc fun fn hfn => ?_
  rw [hro]
  -- the loop's record, in a state; the two blocks that the loop lays
  let R : LoopState → Option Code → Obj := fun st pe => .loop { state := st, pending := pe, fn, tmps := a.tmps, params := ps, assign, body, defers := w.heap.size }
  let D := w.heap.size
  let l := w.heap.size + 1
  -- what the loop needs of a world, beside the caller's own
  let Bk : LoopState → Option Code → World → Prop := fun st pe W => W.heap[l]? = some (R st pe) ∧ W.heap[D]? = some (.deferred (some []))
  have bklt : ∀ {st pe W}, Bk st pe W → l < W.heap.size := fun h => (Array.getElem?_eq_some_iff.1 h.1).1
  have bkput : ∀ {st pe W} st' pe', Bk st pe W → Bk st' pe' (W.putObj l (R st' pe')) := fun st' pe' h =>
    ⟨World.putObj_heap_same (bklt h), (World.putObj_heap_other (by show D ≠ l; omega)).trans h.2⟩
  have bkput' : ∀ {st pe W} (o : Obj), Bk st pe W → (W.putObj l o).heap[D]? = some (.deferred (some [])) := fun o h => (World.putObj_heap_other (by show D ≠ l; omega)).trans h.2
  have bkbel : ∀ {st pe W W'}, Bk st pe W → Below W.heap.size W W' → Bk st pe W' := fun h k =>
    ⟨(k.block _ (bklt h)).trans h.1, (k.block _ (by have := bklt h; omega)).trans h.2⟩
  have low : ∀ {st pe W}, Bk st pe W → w.heap.size ≤ W.heap.size := fun h => by have := bklt h; omega
  have put : ∀ {st pe W} (o : Obj), Bk st pe W → Kept w.heap.size W (W.putObj l o) := fun o h => Kept.put (by show D ≤ l; omega) h.1 rfl
  -- the world behind the loop's entry
  let W1 := (w.alloc (.deferred (some []))).alloc (R .ready none)
  have e1 : Below w.heap.size w W1 := ((Below.refl _ w).alloc (Nat.le_refl _) _).alloc (by simp) _
  have b1 : Bk .ready none W1 := by
    refine ⟨?_, ?_⟩
    · have h := World.alloc_heap_new (w.alloc (.deferred (some []))) (R .ready none)
      rwa [World.size_alloc] at h
    · exact (Below.heap_alloc _ _ _ (by rw [World.size_alloc]; exact Nat.lt_succ_self _)).trans (World.alloc_heap_new w _)
  have hW1 : W1.heap.size = w.heap.size + 2 := by show ((w.alloc _).alloc _).heap.size = _; rw [World.size_alloc, World.size_alloc]
  have kw : ∀ {W W' : World}, Kept W1.heap.size W W' → Kept w.heap.size W W' := fun k => ⟨k.os, k.tape, k.output, k.size, fun j hj h => k.low j (by omega) h, k.cells⟩
  have bkkept : ∀ {st pe W W'}, Bk st pe W → Kept W1.heap.size W W' → Bk st pe W' := fun h k =>
    ⟨(k.low _ (by rw [hW1]; show w.heap.size + 1 < _; omega) (bklt h)).trans h.1, (k.low _ (by rw [hW1]; show w.heap.size < _; omega) (by have := bklt h; omega)).trans h.2⟩
  refine ⟨l, [{ target := .collected D, args := #[] }], W1, { target := .fn (.func gf) lb, args := #[.func (.yield l) #[] #[]] }, W1, gf, #[.func (.yield l) #[] #[]] ++ lb, W1,
    run_enterLoop_outer _ _ _ _ _, ?_, ?_, ?_, fun _ => h1, ?_⟩
  · simp only [resolve, hg]
    simp [go_sem]
  · intro f' hf'
    simp [Target.leads] at hf'
    exact hf' ▸ hFg
  · simp [invoke, go_sem, eg]
  refine (hrow l (fun k X W => (I k X W ∧ Bk .ready none W) ∧ D ∉ X ∧ l ∉ X) (fun W => Iz W ∧ Bk .ready none W) (fun W => ∃ c, Ix c W ∧ Bk .done (some c) W) X0 W1 (fun _ _ _ h => h.1.1) (fun k X W h => hIX k X W h.1.1)
    (fun k X W W' h b => ⟨⟨hI k X W W' h.1.1 (kw b), bkkept h.1.2 b⟩, h.2⟩) (fun W W' h b => ⟨hIz W W' h.1 (kw b), bkkept h.2 b⟩) (fun W W' h b => by obtain ⟨c, hc, hb⟩ := h; exact ⟨c, hIx c W W' hc (kw b), bkkept hb b⟩) ?_ (fun X W W' h z => by
      obtain ⟨Xz, hN, hlz⟩ := hZ W W' z
      refine ⟨hIZ X W W' h.1.1 z, (hN.block l (bklt h.1.2) (fun hm => ?_)).trans h.1.2.1, (hN.block D (by have := bklt h.1.2; omega) (fun hm => ?_)).trans h.1.2.2⟩
      · have := hlz _ hm; have : l = w.heap.size + 1 := rfl; omega
      · have := hlz _ hm; have : D = w.heap.size := rfl; omega) ?_ ⟨⟨hI 0 X0 w W1 h0 (Kept.below e1), b1⟩, fun hm => Nat.lt_irrefl _ (hIX 0 X0 w h0 _ hm), fun hm => Nat.not_succ_lt_self (hIX 0 X0 w h0 _ hm)⟩).mono ?_
  · -- a round
    rintro k X W vals ⟨⟨hi, hb⟩, hDX, hlX⟩ hk hE
    refine ⟨fn, _, assign, body, run_yield hb.1 (hps k W vals hE), roundIn_of_wpIn hfn ?_⟩
    refine wpIn_mono (hround l k X W vals (by show D ≤ l; omega) (bklt hb) hi hk hE) ?_
    rintro e a1 W2 he
    cases e
    case normal =>
      obtain ⟨hB, hbody⟩ := he
      have hb2 := bkbel hb hB
      refine ⟨_, run_beginRound hb2.1 rfl, ?_⟩
      have hb3 := bkput .busy none hb2
      refine wpIn_mono (hbody _ (Kept.put (by show D ≤ l; omega) hb2.1 rfl)) ?_
      rintro e3 a3 W4 hp
      have fin : Young w.heap.size X (W2.putObj l (R .busy none)) W4 → Bk .busy none W4 := fun hkf => ⟨hkf.same _ _ (by show D ≤ l; omega) hlX hb3.1, hkf.same _ _ (Nat.le_refl _) hDX hb3.2⟩
      cases e3 with
      | normal =>
        obtain ⟨hy, X', hi', hg⟩ := hp
        have hb4 := fin hy
        have hs2 : W2.heap.size ≤ (W2.putObj l (R .busy none)).heap.size := (Young.put (B := W1.heap.size) (X := X) W2 l (R .busy none) (by rw [hW1]; show w.heap.size + 1 < _; omega)).size
        have hg1 := hg.mono (Nat.le_trans hB.size hs2)
        exact ⟨_, _, run_endRound none hb4.1, .inl ⟨rfl, X', ⟨⟨hI _ _ _ _ hi' (put _ hb4), bkput .ready none hb4⟩, hg1.off hDX (by have := bklt hb; show w.heap.size < _; omega), hg1.off hlX (bklt hb)⟩, ((Young.below hB).trans (Young.put W2 l _ (by rw [hW1]; show w.heap.size + 1 < _; omega))).trans ((hy.mono (by rw [hW1]; omega)).trans (Young.put W4 l _ (by rw [hW1]; show w.heap.size + 1 < _; omega))), hg1⟩⟩
      | ret =>
        have hb4 := fin hp.1
        exact ⟨_, _, run_endRound (some .ret) hb4.1, .inr ⟨rfl, .ret, hIx _ _ _ hp.2 (put _ hb4), bkput .done (some .ret) hb4⟩⟩
      | exit i =>
        have hb4 := fin hp.1
        exact ⟨_, _, run_endRound (some (.exit i)) hb4.1, .inr ⟨rfl, .exit i, hIx _ _ _ hp.2 (put _ hb4), bkput .done (some (.exit i)) hb4⟩⟩
      | goto t =>
        have hb4 := fin hp.1
        exact ⟨_, _, run_endRound (some (.goto t)) hb4.1, .inr ⟨rfl, .goto t, hIx _ _ _ hp.2 (put _ hb4), bkput .done (some (.goto t)) hb4⟩⟩
      | panic ch => exact hp.elim
      | outgrown => exact hp.elim
    all_goals exact he.elim
  · -- the last item
    rintro W vals ⟨hi, hb⟩ hE
    refine ⟨fn, _, assign, body, run_yield hb.1 (hpl W vals hE), roundIn_of_wpIn hfn ?_⟩
    refine wpIn_mono (hlast l W vals (by show D ≤ l; omega) (bklt hb) hi hE) ?_
    rintro e a1 W2 he
    cases e
    case normal =>
      obtain ⟨hB, hbody⟩ := he
      have hb2 := bkbel hb hB
      refine ⟨_, run_beginRound hb2.1 rfl, ?_⟩
      have hb3 := bkput .busy none hb2
      refine wpIn_mono (hbody _ (Kept.put (by show D ≤ l; omega) hb2.1 rfl)) ?_
      rintro e3 a3 W4 hp
      have fin : Young w.heap.size [] (W2.putObj l (R .busy none)) W4 → Bk .busy none W4 := fun hkf => ⟨hkf.same _ _ (by show D ≤ l; omega) List.not_mem_nil hb3.1, hkf.same _ _ (Nat.le_refl _) List.not_mem_nil hb3.2⟩
      cases e3 with
      | normal =>
        obtain ⟨hy, X', hi', hg⟩ := hp
        exact hi'.elim
      | ret =>
        have hb4 := fin hp.1
        exact ⟨_, _, run_endRound (some .ret) hb4.1, rfl, .ret, hIx _ _ _ hp.2 (put _ hb4), bkput .done (some .ret) hb4⟩
      | exit i =>
        have hb4 := fin hp.1
        exact ⟨_, _, run_endRound (some (.exit i)) hb4.1, rfl, .exit i, hIx _ _ _ hp.2 (put _ hb4), bkput .done (some (.exit i)) hb4⟩
      | goto t =>
        have hb4 := fin hp.1
        exact ⟨_, _, run_endRound (some (.goto t)) hb4.1, rfl, .goto t, hIx _ _ _ hp.2 (put _ hb4), bkput .done (some (.goto t)) hb4⟩
      | panic ch => exact hp.elim
      | outgrown => exact hp.elim
    all_goals exact he.elim
  · -- behind the function
    rintro e W2 ⟨⟨v, rfl⟩, c, hc, hb⟩
    exact ⟨some c, _, run_endLoop hb.1 (by simp), hstop D c _ (Nat.le_refl _) (hIx _ _ _ hc (put _ hb)) (bkput' _ hb)⟩
end
end Go

/- The pairs of a table's data blocks where one block cannot be read: the program's index.pairs. Conditions: the caller keeps the grid and the index. -/
namespace Go.Proofs.YtgkljncigbiffaaDoor
open Go.RowKit
attribute [local go_sem] Oper.semAt_some
set_option maxRecDepth 100000 in
set_option maxHeartbeats 4000000 in
theorem pairs_rowZ (n : Nat) (hn : 1 ≤ n) {q : GPl} {g : Grd} {d : Dsk} {bx bs bg : Nat} {A : Option Addr} {c : Nat} {K : Option Addr} {ck : Nat} {x : List RefT × List (List UInt8)} {fs : Nat} {sb : Array Value} (hlen : g.W.length ≤ 1099511627776) (hx16 : x.1.length ≤ 16) {g2 : Grd} {cd : Int} (hcd : cd ≠ 0) (M : Nat) (hM : M < x.1.length)
    (heg : ∀ args w, (callFunc fs args).run Tryd.prog w = .ok (.enter fs args) w) (p : Nat → Bool) (Gr : Nat → List PairT) (Ex : World → Prop)
    (hs : ∀ (i : Nat) (W : World), i < x.1.length → PKeeps q g d bx bs bg A c K ck x fs sb W → Ex W → Calls Tryd.prog fs (#[.int .i64 (i : Int)] ++ sb) W fun e W' => e = .returned (.bool (p i)) ∧ Below W.heap.size W W')
    (hd : ∀ i, (h : i < x.1.length) → i < M → p i = true → tdata g d none x.1[i] = (0, Gr i, g)) (hbad : tdata g d none x.1[M] = (cd, [], g2)) (hpM : p M = true)
    (I : Nat → List Nat → World → Prop) (hI : ∀ k X W, I k X W → PKeeps q g d bx bs bg A c K ck x fs sb W ∧ Ex W) :
    RowOfZ Fence.wide n Tryd.prog 107 #[.pointer (some ⟨bx, 0, none⟩), .pointer (some ⟨bs, 0, none⟩), .pointer (some ⟨bg, 0, none⟩)] (PIt (titems p Gr M)) (fun _ vals => vals = #[.agg #[.slice none 0 0, .slice none 0 0, .bool false], .int .i64 cd]) (fun W1 W2 => GPostI W1 q g2 d none W2) I (titems p Gr M).length := by
  intro l J Jz Jx X W hJI hJX hJb hJzb hJxb hY hJZ hYl hJ0
  refine callsIn_of_wp Tryd.func107 rfl trivial ?_ rfl
  simp only [Tryd.ntmps107, List.size_toArray, List.length_cons, List.length_nil, Nat.reduceAdd, Nat.reduceSub, Array.replicate_succ, Array.replicate_zero, List.push_toArray, List.append_toArray, List.nil_append, List.cons_append]
  have hK : ∀ k X W, J k X W → PKeeps q g d bx bs bg A c K ck x fs sb W ∧ Ex W := fun k X W h => hI k X W (hJI k X W h)
  have HK := Lib.hid hK
  have HJ := Lib.hid (And.intro hJX (And.intro hJb (And.intro hJxb hY)))
  have HZ := Lib.hid (And.intro hJZ (And.intro hYl hJzb))
  have hz := zeroPairrun
  have d0 := (hK _ _ _ hJ0).1.ix.at_ 0 (v := .slice A x.1.length c) rfl
  have H0 := Lib.hid hJ0
  have HS := Lib.hid (And.intro hs (And.intro hd (And.intro hbad (And.intro hpM hcd))))
  clear hK hJX hJb hJxb hY hJI hI hs hd hJ0 hJZ hYl hJzb hbad hpM hcd
  gi_wp2
  clear d0
  gi_loopw [14] (fun v wr => PoRel W p Gr M J v wr) (fun v _ => x.1.length - (intOf v).toNat)
  case atStart => exact ⟨0, X, Nat.zero_le _, rfl, H0.out, Nat.le_refl _⟩
  case round =>
    obtain ⟨i, Xi, hi, rfl, hJi, hsz⟩ := hrel
    have hlt : i < x.1.length := by omega
    obtain ⟨hP, hE⟩ := HK.out _ _ _ hJi
    obtain ⟨b, off, hAe, -, hrc⟩ := hP.at_.refs (by omega)
    obtain ⟨dr1, dr2⟩ := hrc i hlt
    have hdi := HS.out.2.1 i hlt
    have hbi : i = M → tdata g d none x.1[i] = (cd, [], g2) := fun e => by subst e; exact HS.out.2.2.1
    have hpi : i = M → p i = true := fun e => by subst e; exact HS.out.2.2.2.1
    have HPI := Lib.hid hpi
    generalize x.1[i] = ri at dr1 dr2 hdi hbi
    clear hpi
    have hb6 := (Below.refl wr.heap.size wr).alloc (Nat.le_refl _) (.cells #[.int .i64 ri.1, .int .i64 ri.2.1] 33)
    have hJ6 := HJ.out.2.1 _ _ _ _ hJi (Kept.below hb6)
    obtain ⟨hP6, hE6⟩ := HK.out _ _ _ hJ6
    have hsi := HS.out.1 i _ hlt hP6 hE6
    have ds := hP6.some_.at_ 0 (v := .func (.func fs) #[] sb) rfl
    have hg6 := Blk.new wr 33 #[.int .i64 ri.1, .int .i64 ri.2.1]
    have H6 := Lib.hid (And.intro hJ6 (And.intro hP6 (And.intro hg6 (Nat.le_trans hsz hb6.size))))
    subst hAe
    clear hJi hP hE hrc hb6 hJ6 hP6 hE6 hsz
    gi_wp2_with fail
    refine ⟨trivial, ?_⟩
    refine ((callsIn_wide (n := n - 1)).2 hsi).mono ?_
    rintro e w7 ⟨rfl, hb7⟩
    have hJ7 := HJ.out.2.1 _ _ _ _ H6.out.1 (Kept.below hb7)
    have hg7 := H6.out.2.2.1.below hb7 H6.out.2.2.1.lt
    have hsz7 := Nat.le_trans H6.out.2.2.2 hb7.size
    clear hsi hb7 hg6 ds dr1 dr2
    cases hp : p i
    case false =>
      have hiM : i < M := Nat.lt_of_le_of_ne hi (fun e => by have := HPI.out e; rw [hp] at this; cases this)
      have HF := Lib.hid (show PoRel W p Gr M J (.int .i64 ((i + 1 : Nat) : Int)) w7 from ⟨i + 1, Xi, hiM, rfl, by rw [titems_succ, if_neg (by rw [hp]; simp), List.append_nil]; exact hJ7, hsz7⟩)
      clear hJ7 hg7 hsz7 hp hdi hbi H6
      gi_wp2_with fail
      go_roundw
      case rel => exact HF.out
      case measure => exact meas_up (i := i) (m := x.1.length) rfl rfl hlt
    obtain ⟨hP7, -⟩ := HK.out _ _ _ hJ7
    have htd := tdata_any hP7.grid hlen ri
    by_cases hiM : i = M
    · have dg := hP7.gp.at_ 0 (v := .pointer (some ⟨q.gg, 0, none⟩)) rfl
      rw [hbi hiM] at htd
      subst hiM
      have H7 := Lib.hid hJ7
      have kcd : (cd != 0) = true := bne_iff_ne.2 HS.out.2.2.2.2
      have e1 := hg7.at_ 0 (v := .int .i64 ri.1) rfl
      have e2 := hg7.at_ 1 (v := .int .i64 ri.2.1) rfl
      clear hJ7 hsz7 hp hdi hbi hP7 H6 hg7
      gi_wp2_with fail
      refine ⟨trivial, ?_⟩
      refine ((callsIn_wide (n := n - 1)).2 htd).mono ?_
      rintro e wt ⟨v, rows, sp, rfl, hU, hL⟩
      have hJz := HZ.out.1 _ _ _ H7.out hL.3
      obtain ⟨fn, tmps, assign, body, hy, hR⟩ := HZ.out.2.1 _ _ hJz rfl
      clear htd hU hL hJz e1 e2 dg
      gi_wp2_with fail
      refine hR.mono ?_
      rintro e W3 ⟨rfl, hJx3⟩
      have HF := Lib.hid hJx3
      clear hJx3 hR hy
      gi_wp2_with fail
      refine bodyPost_ret (results_none rfl _ _ _) rfl ?_
      exact ⟨⟨_, rfl⟩, HF.out⟩
    have hiM : i < M := Nat.lt_of_le_of_ne hi hiM
    rw [hdi hiM hp] at htd
    clear hbi
    have dg := hP7.gp.at_ 0 (v := .pointer (some ⟨q.gg, 0, none⟩)) rfl
    have H7 := Lib.hid (And.intro hJ7 hsz7)
    have HP := Lib.hid hp
    have e1 := hg7.at_ 0 (v := .int .i64 ri.1) rfl
    have e2 := hg7.at_ 1 (v := .int .i64 ri.2.1) rfl
    clear hJ7 hsz7 hp hdi hP7 H6 hg7
    gi_wp2_with fail
    refine ⟨trivial, ?_⟩
    refine ((callsIn_wide (n := n - 1)).2 htd).mono ?_
    rintro e wt ⟨v, rows, sp, rfl, hU, hL⟩
    have hbt := hL.2 rfl
    have hJt := HJ.out.2.1 _ _ _ _ H7.out.1 (Kept.below hbt)
    have hX7 := HJ.out.1 _ _ _ H7.out.1
    obtain ⟨A5, c5, rfl, hc5, hm5, -, hlow⟩ := hU.pairs
    obtain ⟨A5', c5', e5, -, -, hrow⟩ := hU.row
    injection e5 with e51 e52 e53
    subst e51 e53
    obtain ⟨len, hlenG⟩ : ∃ len, len = (Gr i).length := ⟨_, rfl⟩
    rw [← hlenG] at hc5 ⊢
    have HR := Lib.hid (And.intro hrow (And.intro hlow (And.intro hlenG (And.intro hbt.size H7.out.2))))
    have hst : PiRel J (titems p Gr i).length len w7.heap.size wt.heap.size wt (.int .i64 0) wt := ⟨0, Xi, Nat.zero_le _, rfl, hJt, Held.refl _ _ _, fun x hx => .inl (hX7 x hx), Nat.le_refl _⟩
    have HST := Lib.hid hst
    clear htd hU hL hbt hJt hX7 hrow hlow hst e1 e2 dg hlenG
    gi_wp2_with fail
    gi_loopw [37] (fun v wr => PiRel J (titems p Gr i).length len w7.heap.size wt.heap.size wt v wr) (fun v _ => len - (intOf v).toNat)
    case atStart => exact HST.out
    case round =>
      obtain ⟨j, Xj, hj, rfl, hJj, hH, hXB, hBs⟩ := hrel
      by_cases hlj : j < len
      case neg =>
        obtain rfl : j = len := by omega
        have HF := Lib.hid (show PoRel W p Gr M J (.int .i64 ((i + 1 : Nat) : Int)) wr from ⟨i + 1, Xj, hiM, rfl, by rw [titems_succ, if_pos HP.out, List.length_append, ← HR.out.2.2.1]; exact hJj, Nat.le_trans HR.out.2.2.2.2 (Nat.le_trans HR.out.2.2.2.1 hBs)⟩)
        clear hJj hH hXB hBs
        gi_wp2_with fail
        go_roundw
        case rel => exact HF.out
        case measure => exact meas_up (i := i) (m := x.1.length) rfl rfl hlt
      obtain ⟨b5, off5, hA5, hrj⟩ := HR.out.1 (by have := HR.out.2.2.1; omega)
      have hlj' : j < (Gr i).length := by have := HR.out.2.2.1; omega
      obtain ⟨kv, vv, hcs, hPO⟩ := hrj j hlj'
      obtain ⟨hit, hkN⟩ := titems_at p Gr hiM HP.out hlj'
      generalize (Gr i)[j] = pp at hcs hPO hit
      obtain ⟨l5, h5⟩ := HR.out.2.1 _ hA5
      have hbk := hH b5 l5 h5
      have d1 := (World.cell?_of_block (a := ⟨b5, off5 + j * 3, none⟩) hbk).trans (hcs 0 kv rfl)
      have d2 := (World.cell?_of_block (a := ⟨b5, off5 + j * 3 + 1, none⟩) hbk).trans (hcs 1 vv rfl)
      have d3 := (World.cell?_of_block (a := ⟨b5, off5 + j * 3 + 2, none⟩) hbk).trans (hcs 2 (.bool pp.2.2.1) rfl)
      have hPr := hPO.held hH (Nat.le_refl _)
      obtain ⟨A6, c6, B6, e6, rfl, rfl, -⟩ := hPr.at_
      have hb10 := (Below.refl wr.heap.size wr).alloc (Nat.le_refl _) (.cells #[.slice A6 pp.1.length c6, .slice B6 pp.2.1.length e6, .bool pp.2.2.1] 40)
      have hg10 := Blk.new wr 40 #[.slice A6 pp.1.length c6, .slice B6 pp.2.1.length e6, .bool pp.2.2.1]
      have hJ10 := HJ.out.2.1 _ _ _ _ hJj (Kept.below hb10)
      have hPI : PIt (titems p Gr M) ((titems p Gr i).length + j) (wr.alloc (.cells #[.slice A6 pp.1.length c6, .slice B6 pp.2.1.length e6, .bool pp.2.2.1] 40)) #[.agg #[.slice A6 pp.1.length c6, .slice B6 pp.2.1.length e6, .bool pp.2.2.1], .int .i64 0] := ⟨pp, _, _, hit, rfl, (hPr.below hb10).base_ (Nat.zero_le _)⟩
      obtain ⟨fn, tmps, assign, body, hy, hR⟩ := HJ.out.2.2.2 _ _ _ _ hJ10 hkN hPI
      have f1 := hg10.at_ 0 (v := .slice A6 pp.1.length c6) rfl
      have f2 := hg10.at_ 1 (v := .slice B6 pp.2.1.length e6) rfl
      have f3 := hg10.at_ 2 (v := .bool pp.2.2.1) rfl
      have H10 := Lib.hid (And.intro (hH.trans (Held.below hb10 hBs)) (And.intro hXB (And.intro (Nat.le_trans hBs hb10.size) (Nat.le_trans HR.out.2.2.2.2 (Nat.le_refl _)))))
      subst hA5
      clear hJj hH hXB hBs hrj hcs hPO hPr hbk hb10 hg10 hJ10 hPI hit l5 h5
      gi_wp2_with fail
      refine hR.mono ?_
      rintro e W3 (⟨rfl, X3, hJ3, hY3, hG3⟩ | ⟨rfl, hJx3⟩)
      · have hsW : W.heap.size ≤ w7.heap.size := H10.out.2.2.2
        have hH3 := H10.out.1.trans (Held.young hY3 hsW H10.out.2.2.1 H10.out.2.1)
        have hX3 : ∀ x ∈ X3, x < w7.heap.size ∨ wt.heap.size ≤ x := fun x hx => (hG3 x hx).elim (H10.out.2.1 x) (fun h => .inr (Nat.le_trans H10.out.2.2.1 h))
        have HF := Lib.hid (show PiRel J (titems p Gr i).length len w7.heap.size wt.heap.size wt (.int .i64 ((j + 1 : Nat) : Int)) W3 from ⟨j + 1, X3, hlj, rfl, by rw [← Nat.add_assoc]; exact hJ3, hH3, hX3, Nat.le_trans H10.out.2.2.1 hY3.size⟩)
        clear hJ3 hY3 hG3 hH3 hX3 hsW hR hy f1 f2 f3 d1 d2 d3 H10
        gi_wp2_with fail
        go_roundw
        case rel => exact HF.out
        case measure => exact meas_up (i := j) (m := len) rfl rfl hlj
      · have HF := Lib.hid hJx3
        clear hJx3 hR hy f1 f2 f3 d1 d2 d3 H10
        gi_wp2_with fail
        refine bodyPost_ret (results_none rfl _ _ _) rfl ?_
        exact ⟨⟨_, rfl⟩, HF.out⟩
end Go.Proofs.YtgkljncigbiffaaDoor

/- All pairs of a table of which a data block cannot be read: the program's All. Conditions: the grid is known; the index and the data blocks ahead of that one can be read. -/
namespace Go.Proofs.YtgkljncigbiffaaDoor
open Go.RowKit
attribute [local go_sem] Oper.semAt_some
/-- What is there behind the read that failed. -/
structure GZ (w : World) (q : GPl) (g : Grd) (d : Dsk) (e : Int) (W : World) : Prop where
  post : GPostI w q g d none W
  box : Blk W (w.heap.size + 1) 41 #[.slice none 0 0]
  err : Blk W (w.heap.size + 2) 36 #[.int .i64 e]
theorem GZ.keptW {w : World} {q : GPl} {g : Grd} {d : Dsk} {e : Int} {W W' : World} {B : Nat} (h : GZ w q g d e W) (k : Kept B W W') (hB : w.heap.size ≤ B) (h1 : q.p.gm < B) (h2 : q.gi < B) : GZ w q g d e W' := by
  obtain ⟨q', ⟨e1, e2, e3, e4, e5⟩, hG, hN, ha⟩ := h.post
  exact ⟨⟨q', ⟨e1, e2, e3, e4, e5⟩, hG.keptW k (by rw [e2]; exact h1) (by rw [e4]; exact h2), Near.keptW hN k hB, ha⟩, h.box.keptW k, h.err.keptW k⟩
set_option maxRecDepth 100000 in
set_option maxHeartbeats 4000000 in
theorem tall_bad {w : World} {q : GPl} {g g2 : Grd} {d : Dsk} (h : GridR w q g d none) (hlen : g.W.length ≤ 1099511627776) (r : RefT) (n : Int) (F L : Option Addr) (nf cf nl cl : Nat) (ho : (topen g d none r).1 = 0) (Gr : Nat → List PairT) (M : Nat) (hM : M < (topen g d none r).2.1.1.length) {cd : Int} (hcd : cd ≠ 0) (hd : ∀ i, (h : i < (topen g d none r).2.1.1.length) → i < M → tdata g d none (topen g d none r).2.1.1[i] = (0, Gr i, g)) (hbad : tdata g d none (topen g d none r).2.1.1[M] = (cd, [], g2)) (hN : (titems (fun _ => true) Gr M).length ≤ 100000) :
    Calls Tryd.prog 12 #[.pointer (some ⟨q.gg, 0, none⟩), .agg (runv r n F L nf cf nl cl)] w fun e w' => e = .returned (.tuple #[.slice none 0 0, .int .i64 cd]) ∧ GPost w q g2 d none w' := by
  have hb1 := (((Below.refl w.heap.size w).alloc (Nat.le_refl _) (.cells (runv r n F L nf cf nl cl) 35)).alloc (by simp) (.cells #[.slice none 0 0] 41)).alloc (by simp; omega) (.cells #[.int .i64 0] 36)
  have hg3 := ((Blk.new w 35 (runv r n F L nf cf nl cl)).alloc (.cells #[.slice none 0 0] 41)).alloc (.cells #[.int .i64 0] 36)
  have hg4 := (Blk.new' (w.alloc (.cells (runv r n F L nf cf nl cl) 35)) 41 #[.slice none 0 0] (n := w.heap.size + 1) (by simp)).alloc (.cells #[.int .i64 0] 36)
  have hg5 := Blk.new' ((w.alloc (.cells (runv r n F L nf cf nl cl) 35)).alloc (.cells #[.slice none 0 0] 41)) 36 #[.int .i64 0] (n := w.heap.size + 2) (by simp)
  have hop := topen_any (h.below hb1) hlen r n F L nf cf nl cl
  have hz0 := topen_zero ho
  have H0 := Lib.hid (And.intro h (And.intro hb1 (And.intro hg4 (And.intro hg5 (And.intro hlen (And.intro hz0 (And.intro hd (And.intro (show ∀ hh : M < (topen g d none r).2.1.1.length, tdata g d none (topen g d none r).2.1.1[M] = (cd, [], g2) from fun _ => hbad) (And.intro hM hcd)))))))))
  have kcd : (cd != 0) = true := bne_iff_ne.2 hcd
  clear h hb1 hg4 hg5 hlen hd hbad hM hcd
  unfold runv at H0 hg3 hop ⊢
  refine callsIn_wide (n := 3).1 ?_
  refine callsIn_of_wp_marks Tryd.func12 rfl trivial ?_ rfl
  simp only [Tryd.ntmps12, List.size_toArray, List.length_cons, List.length_nil, Nat.reduceAdd, Nat.reduceSub, Array.replicate_succ, Array.replicate_zero, List.push_toArray, List.append_toArray, List.nil_append, List.cons_append]
  refine wpIn_wide.2 ?_
  go_wp2_with (first
    | ((with_reducible show wpList _ _ _ ((⟨some 13, _, _, _, _, _⟩ : Oper) :: _) _ _); refine wpList_load_blk (o := ⟨some 13, _, _, _, _, _⟩) (hg3) (by rfl) _ _ (by rfl) (by rfl) _ Tryd.underlying35 (by rfl) (sizeRun) (by rfl) ?_)
    | fail)
  refine hop.mono ?_
  rintro e w2 ⟨A, c, K, ck, rfl, hI, hL⟩
  rw [ho]
  have hb2 := hL.2 (by rw [ho]; rfl)
  obtain ⟨x, hx⟩ : ∃ x, x = (topen g d none r).2.1 := ⟨_, rfl⟩
  rw [← hx] at hI
  have hxl : (topen g d none r).2.1.1 = x.1 := by rw [hx]
  have hG2 := H0.out.1.below (H0.out.2.1.trans (hb2.mono H0.out.2.1.size))
  have hix := (Blk.new w2 128 #[.slice A x.1.length c, .slice K x.2.length ck]).alloc (.cells #[.slice none 0 0] 41)
  have H2 := Lib.hid (And.intro hI (And.intro (H0.out.2.1.trans (hb2.mono H0.out.2.1.size)) (And.intro hG2 (And.intro (H0.out.2.2.1.below hb2 H0.out.2.2.1.lt) (And.intro (H0.out.2.2.2.1.below hb2 H0.out.2.2.2.1.lt) hxl)))))
  rw [← hx]
  unfold indc
  clear hop hg3 hI hL hb2 hG2 hx hxl
  go_wp2_with (first
    | ((with_reducible show wpList _ _ _ ((⟨some 20, _, _, _, _, _⟩ : Oper) :: _) _ _); refine wpList_load_blk (o := ⟨some 20, _, _, _, _, _⟩) (hix) (by rfl) _ _ (by rfl) (by rfl) _ Tryd.underlying128 (by rfl) (sizeIx) (by rfl) ?_)
    | fail)
  refine (pairs_any A K x.1.length c x.2.length ck q.gg 60 #[] _).mono ?_
  rintro e w6 ⟨rfl, rfl⟩
  have eb : ((w2.alloc (.cells #[.slice A x.1.length c, .slice K x.2.length ck] 128)).alloc (.cells #[.slice none 0 0] 41)).heap.size = w2.heap.size + 2 := by simp
  have h6b : Below w2.heap.size w2 (((((w2.alloc (.cells #[.slice A x.1.length c, .slice K x.2.length ck] 128)).alloc (.cells #[.slice none 0 0] 41)).alloc (.cells #[.slice A x.1.length c, .slice K x.2.length ck] 128)).alloc (.cells #[.pointer (some ⟨q.gg, 0, none⟩)] 24)).alloc (.cells #[.func (.func 60) #[] #[]] 133)) := (((((Below.refl w2.heap.size w2).alloc (Nat.le_refl _) (.cells #[.slice A x.1.length c, .slice K x.2.length ck] 128)).alloc (by simp) (.cells #[.slice none 0 0] 41)).alloc (by simp; omega) (.cells #[.slice A x.1.length c, .slice K x.2.length ck] 128)).alloc (by simp; omega) (.cells #[.pointer (some ⟨q.gg, 0, none⟩)] 24)).alloc (by simp; omega) (.cells #[.func (.func 60) #[] #[]] 133)
  have hS : GAll w2 w2.heap.size q A c K ck x [] (.slice none 0 0) [] [] (((((w2.alloc (.cells #[.slice A x.1.length c, .slice K x.2.length ck] 128)).alloc (.cells #[.slice none 0 0] 41)).alloc (.cells #[.slice A x.1.length c, .slice K x.2.length ck] 128)).alloc (.cells #[.pointer (some ⟨q.gg, 0, none⟩)] 24)).alloc (.cells #[.func (.func 60) #[] #[]] 133)) :=
    ⟨(((Blk.new' _ _ _ (by simp)).alloc _).alloc _).alloc _, PairsU.nil _ _, fun y hy => (by cases hy), ((Blk.new' _ _ _ (by simp)).alloc _).alloc _, Blk.new' _ _ _ (by simp), (Blk.new' _ _ _ (by simp)).alloc _, h6b, rfl⟩
  have hz6 : (((((w2.alloc (.cells #[.slice A x.1.length c, .slice K x.2.length ck] 128)).alloc (.cells #[.slice none 0 0] 41)).alloc (.cells #[.slice A x.1.length c, .slice K x.2.length ck] 128)).alloc (.cells #[.pointer (some ⟨q.gg, 0, none⟩)] 24)).alloc (.cells #[.func (.func 60) #[] #[]] 133)).heap.size = w2.heap.size + 5 := by simp
  rw [eb]
  simp only [show w2.heap.size + 2 + 2 = w2.heap.size + 4 from rfl, show w2.heap.size + 2 + 1 = w2.heap.size + 3 from rfl]
  have hql : q.p.gm < w2.heap.size ∧ q.gi < w2.heap.size := ⟨H2.out.2.2.1.lt _ (GPl.mem.2 (.inr (.inr (.inr (.inr (by simp [Pl.all])))))), H2.out.2.2.1.lt _ (GPl.mem.2 (.inr (.inr (.inl rfl))))⟩
  generalize (((((w2.alloc (.cells #[.slice A x.1.length c, .slice K x.2.length ck] 128)).alloc (.cells #[.slice none 0 0] 41)).alloc (.cells #[.slice A x.1.length c, .slice K x.2.length ck] 128)).alloc (.cells #[.pointer (some ⟨q.gg, 0, none⟩)] 24)).alloc (.cells #[.func (.func 60) #[] #[]] 133)) = w6 at hS hz6 ⊢
  have hws : w.heap.size + 3 ≤ w2.heap.size := by have := H2.out.2.2.2.2.1.lt; omega
  generalize w2.heap.size = S at hS hz6 hql hws ⊢
  have HWS := Lib.hid hws
  have H6 := Lib.hid (And.intro hS (And.intro hz6 hql))
  clear hS hz6 eb h6b hix hql hws
  go_wp2_with fail
  refine wpIn_wide (n := 3).1 ?_
  have HQL := Lib.hid (show q.p.gm < w.heap.size ∧ q.gi < w.heap.size from ⟨H0.out.1.lt _ (GPl.mem.2 (.inr (.inr (.inr (.inr (by simp [Pl.all])))))), H0.out.1.lt _ (GPl.mem.2 (.inr (.inr (.inl rfl))))⟩)
  refine wpIn_rangeRowZ rfl (by omega) (gf := 107) (lb := #[.pointer (some ⟨S + 2, 0, none⟩), .pointer (some ⟨S + 4, 0, none⟩), .pointer (some ⟨S + 3, 0, none⟩)]) rfl trivial (enters_of Tryd.func107 (by kernel_rfl) rfl)
    (PIt (titems (fun _ => true) Gr M)) (fun k W vals hE => by obtain ⟨p, kv, vv, -, rfl, -⟩ := hE; rfl) (fun _ vals => vals = #[.agg #[.slice none 0 0, .slice none 0 0, .bool false], .int .i64 cd]) (fun W vals hE => by subst hE; rfl) (fun W1 W2 => GPostI W1 q g2 d none W2 ∧ True) (fun W1 W2 hZ => ?hZ) (titems (fun _ => true) Gr M).length (fun k X W => ∃ v rows sp, GAll w2 S q A c K ck x ((titems (fun _ => true) Gr M).take k) v rows sp W ∧ X = v.ownBlock.toList) (fun W => GZ w q g2 d 0 W) (fun c W => c = .ret ∧ GZ w q g2 d cd W)
    (fun k X W h => ?hIX) (fun k X W W' h kw => ?hI) (fun W W' h kw => ?hIz) (fun X W1 W2 h hZ => ?hIZ) (fun c W W' h kw => ?hIx) ⟨.slice none 0 0, [], [], H6.out.1, rfl⟩ ?row ?round ?last ?stop
  case hZ =>
    obtain ⟨⟨q', -, -, hN, -⟩, -⟩ := hZ
    exact ⟨q.all, hN, fun x hx => by have := H0.out.1.lt x hx; have := H6.out.2.1; have := HWS.out; omega⟩
  case hIX =>
    obtain ⟨v, rows, sp, h1, rfl⟩ := h
    exact fun y hy => (OwnsC.lt h1.pairs.own y (Option.mem_toList.1 hy)).2
  case hI =>
    obtain ⟨v, rows, sp, h1, h2⟩ := h
    exact ⟨v, rows, sp, h1.keptW kw (by rw [H6.out.2.1]; omega), h2⟩
  case hIz => exact h.keptW kw (by have := H6.out.2.1; have := HWS.out; omega) (by have := H6.out.2.1; have := HWS.out; have := HQL.out.1; omega) (by have := H6.out.2.1; have := HWS.out; have := HQL.out.2; omega)
  case hIx => exact ⟨h.1, h.2.keptW kw (by have := H6.out.2.1; have := HWS.out; omega) (by have := H6.out.2.1; have := HWS.out; have := HQL.out.1; omega) (by have := H6.out.2.1; have := HWS.out; have := HQL.out.2; omega)⟩
  case hIZ =>
    obtain ⟨v, rows, sp, h1, -⟩ := h
    have hG1 := H2.out.2.2.1.below h1.bel
    exact ⟨GPostI.trans1 (H2.out.2.1.trans (h1.bel.mono H2.out.2.1.size)) hZ.1, hZ.1.post.blk hG1 (H2.out.2.2.2.1.below h1.bel H2.out.2.2.2.1.lt) (by decide), hZ.1.post.blk hG1 (H2.out.2.2.2.2.1.below h1.bel H2.out.2.2.2.2.1.lt) (by decide)⟩
  case row =>
    have hxl := H2.out.2.2.2.2.2
    have hz := H0.out.2.2.2.2.2.1
    have hr := pairs_rowZ 2 (by omega) (q := q) (g := g) (d := d) (bx := S + 2) (bs := S + 4) (bg := S + 3) (A := A) (c := c) (K := K) (ck := ck) (x := x) (fs := 60) (sb := #[]) H0.out.2.2.2.2.1 (by rw [← hxl]; omega) (g2 := g2) (cd := cd) H0.out.2.2.2.2.2.2.2.2.2 M (by rw [← hxl]; exact H0.out.2.2.2.2.2.2.2.2.1) (enters_of Tryd.func60 (by kernel_rfl) rfl) (fun _ => true) Gr (fun _ => True) (fun i W _ _ _ => by
      refine (allf_any (i : Int) W).mono ?_
      rintro e w' ⟨rfl, rfl⟩
      exact ⟨rfl, Below.refl _ _⟩) (fun i h hM _ => by
      have := H0.out.2.2.2.2.2.2.1 i (by rw [hxl]; exact h) hM
      simpa only [hxl] using this) (by
      have := H0.out.2.2.2.2.2.2.2.1 H0.out.2.2.2.2.2.2.2.2.1
      simpa only [hxl] using this) rfl (fun k X W => ∃ v rows sp, GAll w2 S q A c K ck x ((titems (fun _ => true) Gr M).take k) v rows sp W ∧ X = v.ownBlock.toList) (fun k X W h => by
      obtain ⟨v, rows, sp, h1, -⟩ := h
      exact ⟨h1.keeps H2.out.2.2.1 H2.out.1, trivial⟩)
    intro l J Jz Jx X W h1 h2 h3 h4 h5 h6 h7 h8 h9
    exact hr l J Jz Jx X W h1 h2 h3 h4 h5 h6 (fun X W1 W2 a b => h7 X W1 W2 a ⟨b, trivial⟩) h8 h9
  case round =>
    intro l k X W vals hl1 hl2 hI hk hE
    obtain ⟨v, rows, sp, h1, rfl⟩ := hI
    obtain ⟨p, kv, vv, hit, rfl, hPO⟩ := hE
    obtain ⟨A6, c6, B6, e6, rfl, rfl, -⟩ := hPO.at_
    have hz := zeroPairrun
    have HI := Lib.hid (And.intro h1 (And.intro hit hPO))
    clear h1 hit hPO hk
    have hkN : k ≤ 100000 := by have := (List.getElem?_eq_some_iff.1 HI.out.2.1).1; omega
    have hb0 := (Below.refl W.heap.size W).alloc (Nat.le_refl _) (.cells #[.slice A6 p.1.length c6, .slice B6 p.2.1.length e6, .bool p.2.2.1] 40)
    have hg0 := Blk.new W 40 #[.slice A6 p.1.length c6, .slice B6 p.2.1.length e6, .bool p.2.2.1]
    have hB6 : S ≤ w6.heap.size := by have := H6.out.2.1; omega
    have hI0 := HI.out.1.keptW (B := w6.heap.size) (Kept.below hb0) hB6
    have hP0 := HI.out.2.2.below hb0
    have H0' := Lib.hid (And.intro hb0 (And.intro hg0 (And.intro hI0 (And.intro hP0 hB6))))
    have HIT := Lib.hid HI.out.2.1
    have HSZ := Lib.hid (show S + 5 ≤ W.heap.size by have := H6.out.2.1; omega)
    clear hb0 hg0 hI0 hP0 hB6 HI
    gi_wp2_with fail
    refine ⟨H0'.out.1, fun W2 hW2 => ?_⟩
    have hI2 := H0'.out.2.2.1.keptW hW2 H0'.out.2.2.2.2
    have hg2 := H0'.out.2.1.keptW hW2
    have hP2 := H0'.out.2.2.2.1.keptW hW2
    have hsW := hW2.size
    clear hW2
    obtain ⟨gx, hgx⟩ : ∃ gx, gx = W.heap.size := ⟨_, rfl⟩
    rw [← hgx] at hg2 HSZ ⊢
    obtain ⟨A5, c5, rfl, -, -, -, -⟩ := OwnsC.reads hI2.pairs.own
    obtain ⟨nk, hnk⟩ : ∃ nk, nk = ((titems (fun _ => true) Gr M).take k).length := ⟨_, rfl⟩
    have hnk9 : nk ≤ 100000 := by rw [hnk, List.length_take]; omega
    have hbl := (Below.refl W2.heap.size W2).alloc (Nat.le_refl _) (.cells #[.slice A6 p.1.length c6, .slice B6 p.2.1.length e6, .bool p.2.2.1] 40)
    have hra : Reads (W2.alloc (.cells #[.slice A6 p.1.length c6, .slice B6 p.2.1.length e6, .bool p.2.2.1] 40)) (some ⟨W2.heap.size, 0, none⟩) [.slice A6 p.1.length c6, .slice B6 p.2.1.length e6, .bool p.2.2.1] := reads_new W2 40 [.slice A6 p.1.length c6, .slice B6 p.2.1.length e6, .bool p.2.2.1]
    have hoa := OwnsC.ownBelow hI2.pairs.own hbl
    rw [← hnk] at hoa ⊢
    have d8 := hI2.box.at_ 0 (v := .slice A5 ((titems (fun _ => true) Gr M).take k).length c5) rfl
    rw [← hnk] at d8
    have g1 := hg2.at_ 0 (v := .slice A6 p.1.length c6) rfl
    have g2 := hg2.at_ 1 (v := .slice B6 p.2.1.length e6) rfl
    have g3 := hg2.at_ 2 (v := .bool p.2.2.1) rfl
    have H3 := Lib.hid (And.intro hI2 (And.intro hP2 (And.intro hbl (And.intro hra (And.intro hoa hnk)))))
    clear hI2 hP2 hbl hra hoa hnk hgx hsW
    gi_wp2_with (first
      | ((with_reducible show wpListIn _ _ _ _ _ ((⟨some 31, _, _, _, _, _⟩ : Oper) :: _) _ _); refine wpListIn_round (by rfl) ?_; refine wpList_append_vals (o := ⟨some 31, _, _, _, _, _⟩) (by rfl) _ _ _ (by rfl) 0 40 (.agg #[.slice none 0 0, .slice none 0 0, .bool false]) 3 56 Tryd.underlying41 infoPair (by rfl) (by omega) (.slice A5 nk c5) nk rows sp (by rfl) H3.out.2.2.2.2.1 (some ⟨W2.heap.size, 0, none⟩) 1 1 [.slice A6 p.1.length c6, .slice B6 p.2.1.length e6, .bool p.2.2.1] (by rfl) (by rfl) H3.out.2.2.2.1 (by simp [Value.oneCell']) (by simp only [maxLen]; omega) (by omega) (Nat.zero_le _) ?_; intro v4 W8 sp4 ho4 hg4 hv4 hn4; refine stopped ?_)
      | fail)
    refine Stopped.mk ?_
    have hW3 := H3.out.1.bel.trans (H3.out.2.2.1.mono H3.out.1.bel.size)
    have hn8 : Near (Value.slice A5 nk c5).ownBlock.toList (W2.alloc (.cells #[.slice A6 p.1.length c6, .slice B6 p.2.1.length e6, .bool p.2.2.1] 40)) W8 := Near.grown hg4 (fun y hy => Option.mem_toList.2 hy)
    have hSS := H3.out.1.sz
    have hlw := H3.out.1.low
    rw [← H3.out.2.2.2.2.2] at hlw
    have hb8 : Below w2.heap.size w2 W8 := hW3.trans (hn8.toBelow (fun y hy => by rw [hSS]; exact hlw y (Option.mem_toList.1 hy)) hW3.size)
    have hpl := H3.out.1.pairs.below H3.out.2.2.1
    have hown := hpl.own
    rw [← H3.out.2.2.2.2.2] at hown
    have hoff : ∀ y t cs, t ≠ 40 → Blk (W2.alloc (.cells #[.slice A6 p.1.length c6, .slice B6 p.2.1.length e6, .bool p.2.2.1] 40)) y t cs → y ∉ (Value.slice A5 nk c5).ownBlock.toList := fun y t cs ht hb hm => by
      obtain ⟨cs', hb'⟩ := ownBlk hown (Option.mem_toList.1 hm)
      exact hb.apart hb' ht rfl
    obtain ⟨sk, sv, ok1, ov1⟩ := H3.out.2.1.below H3.out.2.2.1
    have hadd := hpl.add ok1 ov1 (by rw [← H3.out.2.2.2.2.2]; exact hn8) (by rw [← H3.out.2.2.2.2.2]; exact ho4)
    have hbx := (H3.out.1.box.below H3.out.2.2.1 H3.out.1.box.lt).near hn8 (hoff _ _ _ (by decide) (H3.out.1.box.below H3.out.2.2.1 H3.out.1.box.lt))
    have hxi := (H3.out.1.ix.below H3.out.2.2.1 H3.out.1.ix.lt).near hn8 (hoff _ _ _ (by decide) (H3.out.1.ix.below H3.out.2.2.1 H3.out.1.ix.lt))
    have hxs := (H3.out.1.some_.below H3.out.2.2.1 H3.out.1.some_.lt).near hn8 (hoff _ _ _ (by decide) (H3.out.1.some_.below H3.out.2.2.1 H3.out.1.some_.lt))
    have hxg := (H3.out.1.gp.below H3.out.2.2.1 H3.out.1.gp.lt).near hn8 (hoff _ _ _ (by decide) (H3.out.1.gp.below H3.out.2.2.1 H3.out.1.gp.lt))
    have hlow4 : ∀ y, v4.ownBlock = some y → S ≤ y ∧ (y ∈ (Value.slice A5 nk c5).ownBlock.toList ∨ W2.heap.size ≤ y) := fun y hy => by
      rcases hv4 with e | e
      · rw [e] at hy; exact ⟨hlw y hy, .inl (Option.mem_toList.2 hy)⟩
      · rw [e] at hy; injection hy with hy
        have h1 := H3.out.2.2.1.size
        have h2 := H3.out.1.bel.size
        exact ⟨by omega, .inr (by omega)⟩
    obtain ⟨B4, c4, rfl, -, -, -, -⟩ := OwnsC.reads ho4
    have d9 := hbx.at_ 0 (v := .slice A5 ((titems (fun _ => true) Gr M).take k).length c5) rfl
    have f9 := hbx.frozen 0
    have u9 : Upd (S + 1) W8 (W8.setCell ⟨S + 1, 0, none⟩ (.slice B4 (nk + 1) c4)) := (Upd.refl _ _).set 0 _
    have hadd9 := hadd.near (Near.upd u9 (X := [S + 1]) (by simp)) (fun y hy hm => by
      obtain ⟨cs, hb⟩ := ownBlk hadd.own hy
      exact hb.apart hbx (by decide) (List.mem_singleton.1 hm)) (fun y cs hb hm => hb.apart hbx (by decide) (List.mem_singleton.1 hm))
    rw [show (titems (fun _ => true) Gr M).take k ++ [p] = (titems (fun _ => true) Gr M).take (k + 1) by
      obtain ⟨hk1, hk2⟩ := List.getElem?_eq_some_iff.1 HIT.out
      rw [List.take_succ_eq_append_getElem hk1, hk2]] at hadd9
    have hG9 : GAll w2 S q A c K ck x ((titems (fun _ => true) Gr M).take (k + 1)) (.slice B4 (nk + 1) c4) (rows ++ [.slice A6 p.1.length c6, .slice B6 p.2.1.length e6, .bool p.2.2.1]) sp4 (W8.setCell ⟨S + 1, 0, none⟩ (.slice B4 (nk + 1) c4)) :=
      ⟨hbx.set_ 0 _, hadd9, fun y hy => (hlow4 y hy).1, hxi.upd u9 (by omega), hxs.upd u9 (by omega), hxg.upd u9 (by omega), hb8.setCell (by rw [hSS]; simp) _, hSS⟩
    have hY9 : Young w6.heap.size (Value.slice A5 nk c5).ownBlock.toList W2 (W8.setCell ⟨S + 1, 0, none⟩ (.slice B4 (nk + 1) c4)) := ((Young.below H3.out.2.2.1).trans (Young.near hn8 (fun y hy => .inr hy))).trans (Young.near (Near.upd u9 (X := [S + 1]) (by simp)) (fun y hy => .inl (by rw [List.mem_singleton.1 hy, H6.out.2.1]; omega)))
    have H9 := Lib.hid (And.intro hG9 (And.intro hY9 hlow4))
    clear ho4 hg4 hv4 hn4 hW3 hn8 hlw hb8 hpl hown hoff ok1 ov1 hadd hbx hxi hxs hxg hlow4 u9 hadd9 hG9 hY9 d8 g1 g2 g3 hg2
    refine ⟨rfl, ?_⟩
    gi_wp2_with fail
    exact ⟨H9.out.2.1, _, ⟨_, _, _, H9.out.1, rfl⟩, fun y hy => (H9.out.2.2 y (Option.mem_toList.1 hy)).2⟩
  case last =>
    intro l W vals hl1 hl2 hI hE
    subst hE
    have hz := zeroPairrun
    have hb0 := (Below.refl W.heap.size W).alloc (Nat.le_refl _) (.cells #[.slice none 0 0, .slice none 0 0, .bool false] 40)
    have hI0 := hI.keptW (B := w6.heap.size) (Kept.below hb0) (by have := H6.out.2.1; have := HWS.out; omega) (by have := H6.out.2.1; have := HWS.out; have := HQL.out.1; omega) (by have := H6.out.2.1; have := HWS.out; have := HQL.out.2; omega)
    have H0' := Lib.hid (And.intro hb0 hI0)
    clear hb0 hI0 hI
    gi_wp2_with fail
    refine ⟨H0'.out.1, fun W2 hW2 => ?_⟩
    have hI2 := H0'.out.2.keptW hW2 (by have := H6.out.2.1; have := HWS.out; omega) (by have := H6.out.2.1; have := HWS.out; have := HQL.out.1; omega) (by have := H6.out.2.1; have := HWS.out; have := HQL.out.2; omega)
    have d4 := hI2.box.at_ 0 (v := .slice none 0 0) rfl
    have d5 := hI2.err.at_ 0 (v := .int .i64 0) rfl
    have f4 := hI2.box.frozen 0
    have f5 := hI2.err.frozen 0
    have HI := Lib.hid hI2
    clear hW2 hI2
    gi_wp2_with fail
    have u1 := (Upd.refl (w.heap.size + 1) W2).set 0 (.slice none 0 0)
    have hp3 := HI.out.post.upd u1 (by omega) (fun q' hq => hq.offT HI.out.box (by decide))
    have hb3 := HI.out.box.set_ 0 (.slice none 0 0)
    have he3 := HI.out.err.upd u1 (by omega)
    have u2 := (Upd.refl (w.heap.size + 2) (W2.setCell ⟨w.heap.size + 1, 0, none⟩ (.slice none 0 0))).set 0 (.int .i64 cd)
    have hp4 := hp3.upd u2 (by omega) (fun q' hq => hq.offT he3 (by decide))
    have hlow := HWS.out
    have hsz := H6.out.2.1
    refine ⟨(Young.near (Near.upd u1 (X := [w.heap.size + 1]) (by simp)) (fun x hx => .inl (by rw [List.mem_singleton.1 hx]; omega))).trans (Young.near (Near.upd u2 (X := [w.heap.size + 2]) (by simp)) (fun x hx => .inl (by rw [List.mem_singleton.1 hx]; omega))), rfl, hp4, hb3.upd u2 (by omega), he3.set_ 0 (.int .i64 cd)⟩
  case stop =>
    rintro D c W hD ⟨rfl, hI⟩ hK
    have HX := Lib.hid (And.intro hI hK)
    clear hI hK
    refine wpIn_ret ?_
    simp only [Exit.inBlock, Exit.then]
    refine ⟨by simp, .inl ⟨_, _, rfl, run_takeDeferred HX.out.2, ?_⟩⟩
    have k1 := mark_kept (B := w6.heap.size) hD HX.out.2
    have h9 := HX.out.1.keptW k1 (by have := H6.out.2.1; have := HWS.out; omega) (by have := H6.out.2.1; have := HWS.out; have := HQL.out.1; omega) (by have := H6.out.2.1; have := HWS.out; have := HQL.out.2; omega)
    exact ⟨_, results_cells2 (by rfl) _ _ (w.heap.size + 1) (w.heap.size + 2) _ _ _ _ (by rfl) (h9.box.at_ 0 rfl) Tryd.underlying41 rfl (by rfl) (h9.err.at_ 0 rfl) Tryd.underlying36 rfl, rfl, h9.post.post⟩
end Go.Proofs.YtgkljncigbiffaaDoor

/- A grid that a statement made, of whose disk bytes may be turned: the calls on it; bytes of blocks in a list. Conditions: as each says. -/
namespace Go.Proofs.YtgkljncigbiffaaDoor
open Go.RowKit

section
variable {B gp dp : Nat} {Y : List Nat} {w w' : World} {g g2 : Grd} {d d2 : Dsk}
theorem xtraw (h : GX B Y w gp dp g d) (hl : g.W.length ≤ 1000000000) (r : RefT) {b : GBT} (hg : glook g d none r = (0, some b, g)) :
    Calls Tryd.prog 34 #[.pointer (some ⟨gp, 0, none⟩), .agg #[.int .i64 r.1, .int .i64 r.2.1]] w fun e w' => ∃ y, e = .returned (.tuple #[.slice (some ⟨y, 0, none⟩) (gblk d r.1).length (gblk d r.1).length, .int .i64 0]) ∧
      Blk w' y 5 ((gblk d r.1).map u8v).toArray ∧ Below w.heap.size w w' := by
  obtain ⟨q, h1, h2, h3, h4, h5, h6, h7⟩ := h
  have hr := graw_any h4 (by omega) r
  rw [hg, h1] at hr
  refine hr.mono ?_
  rintro e w' ⟨v2, rfl, ⟨v1, A, c, C0, e1, C, -, rfl, -, -, -, -, -, hC, -, -⟩, hP⟩
  obtain ⟨y, rfl, hy, hb⟩ := hC rfl
  exact ⟨y, rfl, hb, hP.2 rfl⟩
/-- A block's bytes off the disk. -/
theorem xtdread (h : GX B Y w gp dp g d) (hR : Rm d 20) {a : Int} (h1 : 1 ≤ a) (h2 : a ≤ 20) :
    Calls Tryd.prog 36 #[.pointer (some ⟨dp, 0, none⟩), .int .i64 (gplace a), .int .i64 4] w fun e w' => ∃ y, e = .returned (.tuple #[.slice (some ⟨y, 0, none⟩) 1024 1024, .int .i64 0]) ∧ Blk w' y 5 ((gblk d a).map u8v).toArray ∧ Below w.heap.size w w' := by
  obtain ⟨q, k1, k2, k3, k4, k5, k6, k7⟩ := h
  have hr := read_all (gplace a) 4 k4.dk.dr k4.dk.fr k4.dk.ok
  have hq : d.isOut none = false := by unfold Dsk.isOut; rw [hR.out]; rfl
  rw [gread hR hq h1 h2, k2] at hr
  refine hr.mono ?_
  rintro e w' ⟨A, rfl, (⟨-, y, rfl, -, hb⟩ | ⟨hne, -⟩), hB⟩
  · exact ⟨y, by rw [gblk_length hR h1 h2], hb, hB⟩
  · exact absurd rfl hne
/-- All pairs, where the index cannot be read. -/
theorem xtall_fail (h : GX B Y w gp dp g d) (hlen : g.W.length ≤ 1099511627776) (r : RefT) (n : Int) (F L : Option Addr) (nf cf nl cl : Nat) {cd : Int} (hcd : cd ≠ 0) (ho : topen g d none r = (cd, ([], []), g2)) :
    Calls Tryd.prog 12 #[.pointer (some ⟨gp, 0, none⟩), .agg (runv r n F L nf cf nl cl)] w fun e w' => e = .returned (.tuple #[.slice none 0 0, .int .i64 cd]) ∧ GX B Y w' gp dp g2 d ∧ TS B Y w w' := by
  obtain ⟨q, h1, h2, h3, h4, h5, h6, h7⟩ := h
  have hr := tall_fail h4 hlen r n F L nf cf nl cl hcd ho
  rw [h1] at hr
  refine hr.mono ?_
  rintro e w' ⟨rfl, hP⟩
  exact ⟨rfl, GX.postT h4 h1 h2 h3 h5 h6 h7 hP⟩
/-- All pairs, where a data block cannot be read. -/
theorem xtall_bad (h : GX B Y w gp dp g d) (hlen : g.W.length ≤ 1099511627776) (r : RefT) (n : Int) (F L : Option Addr) (nf cf nl cl : Nat) {refs : List RefT} {ks : List (List UInt8)} (ho : topen g d none r = (0, (refs, ks), g)) (Gr : Nat → List PairT) (M : Nat) (hM : M < refs.length) {cd : Int} (hcd : cd ≠ 0) (hd : ∀ i, (h : i < refs.length) → i < M → tdata g d none refs[i] = (0, Gr i, g)) (hbad : tdata g d none refs[M] = (cd, [], g2)) (hN : (titems (fun _ => true) Gr M).length ≤ 100000) :
    Calls Tryd.prog 12 #[.pointer (some ⟨gp, 0, none⟩), .agg (runv r n F L nf cf nl cl)] w fun e w' => e = .returned (.tuple #[.slice none 0 0, .int .i64 cd]) ∧ GX B Y w' gp dp g2 d ∧ TS B Y w w' := by
  obtain ⟨q, h1, h2, h3, h4, h5, h6, h7⟩ := h
  have hx : (topen g d none r).2.1.1 = refs := by rw [ho]
  subst hx
  have hr := tall_bad h4 hlen r n F L nf cf nl cl (by rw [ho]) Gr M hM hcd hd hbad hN
  rw [h1] at hr
  refine hr.mono ?_
  rintro e w' ⟨rfl, hP⟩
  exact ⟨rfl, GX.postT h4 h1 h2 h3 h5 h6 h7 hP⟩
end
/-- The bytes of some blocks, in a list of one's own. -/
structure RawsAt (d : Dsk) (l : List RefT) (w : World) (base : Nat) (v : Value) (n : Nat) (rows sp : List Value) : Prop where
  own : OwnsC 22 1 w base v n rows sp
  each : ∀ i, (h : i < l.length) → i < n → ∃ y, rows[i]? = some (.slice (some ⟨y, 0, none⟩) 1024 1024) ∧ Blk w y 5 ((gblk d l[i].1).map u8v).toArray
section
variable {d : Dsk} {l : List RefT} {w w' : World} {base n : Nat} {v v' : Value} {rows sp sp' : List Value} {X : List Nat}
theorem RawsAt.soft (h : RawsAt d l w base v n rows sp) (k : Soft w w') : RawsAt d l w' base v n rows sp := by
  refine ⟨?_, fun i hi hn => ?_⟩
  · obtain ⟨X, hN, hX⟩ := k
    refine OwnsC.nearO h.own hN (fun x hx hm => ?_)
    obtain ⟨cs, hb⟩ := ownBlk h.own hx
    exact hX x hm _ _ hb (by unfold NG; decide)
  · obtain ⟨y, h1, h2⟩ := h.each i hi hn
    exact ⟨y, h1, k.blk h2 (by unfold NG; decide)⟩
theorem RawsAt.below (h : RawsAt d l w base v n rows sp) (k : Below w.heap.size w w') : RawsAt d l w' base v n rows sp := h.soft (Soft.below k)
theorem RawsAt.add (h : RawsAt d l w base v n rows sp) {y : Nat} (hn : n < l.length) (hy : Blk w y 5 ((gblk d l[n].1).map u8v).toArray) (k : Near X w w') (hX : ∀ x ∈ X, ∃ cs, Blk w x 22 cs) (ho : OwnsC 22 1 w' base v' (n + 1) (rows ++ [.slice (some ⟨y, 0, none⟩) 1024 1024]) sp') : RawsAt d l w' base v' (n + 1) (rows ++ [.slice (some ⟨y, 0, none⟩) 1024 1024]) sp' := by
  have hr := OwnsC.length h.own
  have off : ∀ x cs, Blk w x 5 cs → x ∉ X := fun x cs hb hm => by
    obtain ⟨cs', hb'⟩ := hX x hm
    exact hb.apart hb' (by decide) rfl
  refine ⟨ho, fun i hi hin => ?_⟩
  by_cases hlt : i < n
  · obtain ⟨z, h1, h2⟩ := h.each i hi hlt
    exact ⟨z, by rw [List.getElem?_append_left (by rw [hr]; omega)]; exact h1, h2.near k (off _ _ h2)⟩
  · have e : i = n := by omega
    subst e
    exact ⟨y, by rw [List.getElem?_append_right (by rw [hr]; omega), hr]; simp, hy.near k (off _ _ hy)⟩
end
end Go.Proofs.YtgkljncigbiffaaDoor
