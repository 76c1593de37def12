/- FetchKnown's plain facts: what is answered when the two blocks are put one after the other. And a grid asked beside a fetch of another one. Conditions: as each says. -/
import Derived.Test.YthfdjemlibecgaaDoorMFetchKnown20
import Derived.Test.YthfdjemlibecgaaDoorTie
import Derived.Test.YthfdjemlibecgaaDoorCards
import Derived.SevenTiedAt
namespace Go.Proofs.YthfdjemlibecgaaDoor
open Go.RowKit
/-- A disk on which none of the two blocks stands. -/
structure Emp (d : Dsk) : Prop where
  rm : Rm d 4
  one : (GB.read (gblk d 1)).1 ≠ 0
  two : (GB.read (gblk d 2)).1 ≠ 0
  n120 : d.N = 120
theorem emp_new : Emp (Dsk.new 120) := ⟨⟨Dsk.Ok.new (by omega), rfl, by show 104 + 4 * 4 ≤ 120; omega⟩, by rw [show (120 : Nat) = 104 + 4 * 4 from rfl, gblk_new (by omega) (by omega)]; exact zero_bad, by rw [show (120 : Nat) = 104 + 4 * 4 from rfl, gblk_new (by omega) (by omega)]; exact zero_bad, rfl⟩
def h40 : Grd := ⟨4, List.replicate 4 0, []⟩
def h45 : Grd := ⟨4, List.replicate 4 0, [(1, 7, ())]⟩
section
variable {d : Dsk}
theorem Emp.reach (h : Emp d) : greach h41 d none (2, 7, ()) = (0, [(2, 7, ())], h41) := reach_none h.rm.out (gthere_bad h.two) _
theorem Two'.reachW (h : Two' d) (W : List RefT) : greach ⟨4, List.replicate 4 0, W⟩ d none (2, 7, ()) = (0, [(1, 7, ())], Grd.want ⟨4, List.replicate 4 0, W⟩ (1, 7, ())) := by
  have t2 : gthere d (2, 7, ()) = some gb2 := gthere_some (b := gb2) (by decide) h.two
  have t1 : gthere d (1, 7, ()) = none := gthere_bad h.one
  have f2 : Grd.of ⟨4, List.replicate 4 0, W⟩ (2, 7, ()) = true := rfl
  have f1 : Grd.of ⟨4, List.replicate 4 0, W⟩ (1, 7, ()) = true := rfl
  have k2 : gkids ⟨4, List.replicate 4 0, W⟩ d (2, 7, ()) = [(1, 7, ())] := by unfold gkids; rw [if_pos f2, t2]; rfl
  have k1 : gkids ⟨4, List.replicate 4 0, W⟩ d (1, 7, ()) = [] := by unfold gkids; rw [if_pos f1, t1]
  have o2 : gok ⟨4, List.replicate 4 0, W⟩ d (2, 7, ()) = true := by unfold gok; rw [f2, t2]; rfl
  have o1 : gok ⟨4, List.replicate 4 0, W⟩ d (1, 7, ()) = false := by unfold gok; rw [f1, t1]; rfl
  have hw : gwalk ⟨4, List.replicate 4 0, W⟩ d (2, 7, ()) = [(2, 7, ()), (1, 7, ())] := by
    unfold gwalk gnum
    rw [show 16 * (Grd.mk 4 (List.replicate 4 0) W).n + 2 = 64 + 1 + 1 from rfl, dfs_new (by simp), k2, dfss_cons, dfss_nil, dfs_new (by decide), k1, dfss_nil]
    rfl
  have hm : gmiss ⟨4, List.replicate 4 0, W⟩ d (2, 7, ()) = [(1, 7, ())] := by
    unfold gmiss
    rw [hw, List.filter_cons, o2, List.filter_cons, o1]
    rfl
  unfold greach
  rw [if_neg (by unfold Dsk.isOut; rw [h.rm.out]; simp), if_neg (by rw [f2]; simp), hm]
  unfold Grd.wants
  rw [List.foldl_cons, List.foldl_nil, if_pos f1]
theorem Two'.reach0 (h : Two' d) : greach h40 d none (2, 7, ()) = (0, [(1, 7, ())], h45) := h.reachW []
theorem Two'.reach1 (h : Two' d) : greach h45 d none (2, 7, ()) = (0, [(1, 7, ())], h45) := h.reachW _
theorem Two.reach0 (h : Two d) : greach h40 d none (2, 7, ()) = (0, [], h40) := by
  have t2 : gthere d (2, 7, ()) = some gb2 := gthere_some (b := gb2) (by decide) h.two
  have t1 : gthere d (1, 7, ()) = some gb1 := gthere_some (b := gb1) (by decide) h.one
  have f2 : Grd.of h40 (2, 7, ()) = true := rfl
  have f1 : Grd.of h40 (1, 7, ()) = true := rfl
  have k2 : gkids h40 d (2, 7, ()) = [(1, 7, ())] := by unfold gkids; rw [if_pos f2, t2]; rfl
  have k1 : gkids h40 d (1, 7, ()) = [] := by unfold gkids; rw [if_pos f1, t1]; rfl
  have o2 : gok h40 d (2, 7, ()) = true := by unfold gok; rw [f2, t2]; rfl
  have o1 : gok h40 d (1, 7, ()) = true := by unfold gok; rw [f1, t1]; rfl
  have hw : gwalk h40 d (2, 7, ()) = [(2, 7, ()), (1, 7, ())] := by
    unfold gwalk gnum
    rw [show 16 * h40.n + 2 = 64 + 1 + 1 from rfl, dfs_new (by simp), k2, dfss_cons, dfss_nil, dfs_new (by decide), k1, dfss_nil]
    rfl
  have hm : gmiss h40 d (2, 7, ()) = [] := by
    unfold gmiss
    rw [hw, List.filter_cons, o2, List.filter_cons, o1]
    rfl
  unfold greach
  rw [if_neg (by unfold Dsk.isOut; rw [h.rm.out]; simp), if_neg (by rw [f2]; simp), hm]
  rfl
theorem Two.reachZero (h : Two d) : greach g42 d none (0, 0, ()) = (2, [], g42) := by
  unfold greach
  rw [if_neg (by unfold Dsk.isOut; rw [h.rm.out]; simp), if_pos (by decide)]
theorem put_state (h : Emp d) (raw : List UInt8) : fput h41 d (2, 7, ()) 0 (1, 7, ()) raw = (false, 9, h41, d, 0) := by
  unfold fput
  rw [h.reach, if_neg (by simp), if_pos (show ¬ ((1, 7, ()) : RefT) ∈ lkItems h41.n [(2, 7, ())] by decide)]
theorem put_arg (h : Emp d) : fput h41 d (2, 7, ()) 0 (2, 7, ()) (GB.bytes gb1) = (false, 2, h41, d, 0) := by
  have hi : ginst h41 d none (2, 7, ()) (GB.bytes gb1) = (2, h41, d, none) := by
    unfold ginst
    rw [if_neg (by unfold Dsk.isOut; rw [h.rm.out]; simp), if_neg (by decide), GB.read_bytes gb1 (by decide), if_neg (by simp), if_pos (by decide)]
  unfold fput
  rw [h.reach, if_neg (by simp), if_neg (show ¬ ¬ ((2, 7, ()) : RefT) ∈ lkItems h41.n [(2, 7, ())] by decide), hi, if_pos (by simp)]
theorem put_two (h : Emp d) : ∃ d', Two' d' ∧ fput h41 d (2, 7, ()) 0 (2, 7, ()) (GB.bytes gb2) = (false, 0, h45, d', 1) := by
  obtain ⟨d', e1, e2, e3, e4, e5⟩ := gwrite h.rm (a := 2) (by omega) (by omega) (b := GB.bytes gb2) (GB.bytes_length gb2 (by decide) (by decide))
  have hT : Two' d' := ⟨e2, by rw [e5 1 (by omega) (by omega) (by omega)]; exact h.one, e4, e3.trans h.n120⟩
  have hi : ginst h41 d none (2, 7, ()) (GB.bytes gb2) = (0, h40, d', none) := by
    unfold ginst
    rw [if_neg (by unfold Dsk.isOut; rw [h.rm.out]; simp), if_neg (by decide), GB.read_bytes gb2 (by decide), if_neg (by simp), if_neg (by decide), e1, if_neg (by simp)]
    rfl
  refine ⟨d', hT, ?_⟩
  unfold fput
  rw [h.reach, if_neg (by simp), if_neg (show ¬ ¬ ((2, 7, ()) : RefT) ∈ lkItems h41.n [(2, 7, ())] by decide), hi, if_neg (by simp), hT.reach0]
  rfl
theorem put_one (h : Two' d) : ∃ d', Two d' ∧ fput h45 d (2, 7, ()) 1 (1, 7, ()) (GB.bytes gb1) = (true, 0, h40, d', 2) := by
  obtain ⟨d', e1, e2, e3, e4, e5⟩ := gwrite h.rm (a := 1) (by omega) (by omega) (b := GB.bytes gb1) (GB.bytes_length gb1 (by decide) (by decide))
  have hT : Two d' := ⟨e2, e4, (e5 2 (by omega) (by omega) (by omega)).trans h.two, e3.trans h.n120⟩
  have hi : ginst h45 d none (1, 7, ()) (GB.bytes gb1) = (0, h40, d', none) := by
    unfold ginst
    rw [if_neg (by unfold Dsk.isOut; rw [h.rm.out]; simp), if_neg (by decide), GB.read_bytes gb1 (by decide), if_neg (by simp), if_neg (by decide), e1, if_neg (by simp)]
    rfl
  refine ⟨d', hT, ?_⟩
  unfold fput
  rw [h.reach1, if_neg (by simp), if_neg (show ¬ ¬ ((1, 7, ()) : RefT) ∈ lkItems h45.n [(1, 7, ())] by decide), hi, if_neg (by simp), hT.reach0]
  rfl
end
theorem items_h45 : (lkItems h45.n [(1, 7, ())]).take (5 : Int).toNat = [(1, 7, ())] := by decide
section
variable {B gp dp hp ep fp n : Nat} {Y Y' : List Nat} {w w' : World} {q : GPl} {g h g' h' : Grd} {d e d' e' : Dsk} {root : RefT}
theorem T2.sub (hx : T2 B Y w gp dp g d hp ep h e) (hs : ∀ y ∈ Y', y ∈ Y) : T2 B Y' w gp dp g d hp ep h e := by
  obtain ⟨q, hq, hx⟩ := hx
  exact ⟨q, hq.sub hs, hx.sub (fun y hy => by rcases List.mem_append.1 hy with h | h; exact List.mem_append_left _ h; exact List.mem_append_right _ (hs y h))⟩
/-- The second one is asked, and a block of the statement's own came of it. -/
theorem T2.snd1 {y : Nat} (hq : GR B Y w q gp dp g d) (hG : GX B (y :: (q.all ++ Y)) w' hp ep h' e') (hS : GStep B (q.all ++ Y) w w') (hy : w.heap.size ≤ y) : T2 B (y :: Y) w' gp dp g d hp ep h' e' := by
  have hs := hq.step hS (fun x hx => List.mem_append_left _ hx)
  refine ⟨q, ⟨hs.gg, hs.gd, hs.gf, hs.gr, fun x hm => ⟨(hs.off x hm).1, fun h1 => ?_⟩, fun z hz => ?_, hs.size⟩, hG.sub (fun z hz => by simp only [List.mem_cons, List.mem_append] at hz ⊢; grind)⟩
  · rcases List.mem_cons.1 h1 with e | e
    · have := hq.gr.lt x hm; omega
    · exact (hs.off x hm).2 e
  · rcases List.mem_cons.1 hz with rfl | e
    · exact hG.own z (List.mem_cons_self ..)
    · exact hs.lt z e
theorem GR.adds (hx : GR B Y w q gp dp g d) (k : Below w.heap.size w w') (ys : List Nat) (hy : ∀ y ∈ ys, w.heap.size ≤ y ∧ y < w'.heap.size) : GR B (ys ++ Y) w' q gp dp g d := by
  refine ⟨hx.gg, hx.gd, hx.gf, hx.gr.below k, fun x hm => ⟨(hx.off x hm).1, fun h1 => ?_⟩, fun z hz => ?_, Nat.le_trans hx.size k.size⟩
  · rcases List.mem_append.1 h1 with e | e
    · have := hx.gr.lt x hm; have := hy x e; omega
    · exact (hx.off x hm).2 e
  · rcases List.mem_append.1 hz with e | e
    · exact (hy z e).2
    · exact Nat.lt_of_lt_of_le (hx.lt z e) k.size
theorem T2.adds (hx : T2 B Y w gp dp g d hp ep h e) (k : Below w.heap.size w w') (ys : List Nat) (hy : ∀ y ∈ ys, w.heap.size ≤ y ∧ y < w'.heap.size) : T2 B (ys ++ Y) w' gp dp g d hp ep h e := by
  obtain ⟨q, hq, hx⟩ := hx
  exact ⟨q, hq.adds k ys hy, (hx.adds k ys hy).sub (fun z hz => by simp only [List.mem_append] at hz ⊢; grind)⟩
/-- Blocks of the statement's own that came since. -/
theorem F2.adds (hx : F2 B Y w gp dp g d fp hp ep h e root n) (k : Below w.heap.size w w') (ys : List Nat) (hy : ∀ y ∈ ys, w.heap.size ≤ y ∧ y < w'.heap.size) : F2 B (ys ++ Y) w' gp dp g d fp hp ep h e root n := by
  obtain ⟨ht, hb, h1, h2⟩ := hx.t2
  refine F2.of ((ht.adds k ys hy).sub (fun z hz => by simp only [List.mem_cons, List.mem_append] at hz ⊢; grind)) (hb.below k hb.lt) (fun hm => ?_) h2
  rcases List.mem_append.1 hm with e | e
  · have := hb.lt; have := hy _ e; omega
  · exact h1 e
theorem F2.sub (hx : F2 B Y w gp dp g d fp hp ep h e root n) (hs : ∀ y ∈ Y', y ∈ Y) : F2 B Y' w gp dp g d fp hp ep h e root n := by
  obtain ⟨ht, hb, h1, h2⟩ := hx.t2
  exact F2.of (ht.sub (fun z hz => by rcases List.mem_cons.1 hz with rfl | hz; exact List.mem_cons_self ..; exact List.mem_cons_of_mem _ (hs z hz))) hb (fun hm => h1 (hs _ hm)) h2
theorem F2.raw (hx : F2 B Y w gp dp g d fp hp ep h e root n) (hl : g.W.length ≤ 1000000000) (r : RefT) {b : GBT} (hg : glook g d none r = (0, some b, g)) :
    Calls Tryd.prog 25 #[.pointer (some ⟨gp, 0, none⟩), .agg #[.int .i64 r.1, .int .i64 r.2.1]] w fun v w' => ∃ y, v = .returned (.tuple #[.slice (some ⟨y, 0, none⟩) (gblk d r.1).length (gblk d r.1).length, .int .i64 0]) ∧
      Blk w' y 5 ((gblk d r.1).map u8v).toArray ∧ F2 B (y :: Y) w' gp dp g d fp hp ep h e root n ∧ GStep B (fp :: Y) w w' := by
  obtain ⟨ht, hb, h1, h2⟩ := hx.t2
  obtain ⟨q2, hq2, hG⟩ := ht.swap
  refine (xraw_some hG hl r hg).mono ?_
  rintro v w' ⟨y, rfl, hy, hyw, hG', hS⟩
  have hb' := hS.same.blk hb (List.mem_append_right _ (List.mem_cons_self ..))
  refine ⟨y, rfl, hy, F2.of (((T2.snd1 hq2 hG' hS hyw).swap).sub (fun z hz => by simp only [List.mem_cons] at hz ⊢; grind)) hb' (fun hm => ?_) h2, hS.sub (fun _ hy => List.mem_append_right _ hy)⟩
  rcases List.mem_cons.1 hm with e | e
  · have := hb.lt; omega
  · exact h1 e
theorem F2.newErr (hx : F2 B Y w gp dp g d fp hp ep h e root n) (hl : g.W.length ≤ 1000000000) (r : RefT) {c0 : Int} (hc0 : c0 ≠ 0) {L : List RefT} (hg : greach g d none r = (c0, L, g')) :
    Calls Tryd.prog 19 #[.pointer (some ⟨gp, 0, none⟩), .agg #[.int .i64 r.1, .int .i64 r.2.1]] w fun v w' => v = .returned (.tuple #[.pointer none, .int .i64 c0]) ∧ F2 B Y w' gp dp g' d fp hp ep h e root n ∧ GStep B (fp :: Y) w w' := by
  obtain ⟨ht, hb, h1, h2⟩ := hx.t2
  obtain ⟨q2, hq2, hG⟩ := ht.swap
  refine (fnew_err hG hl r hc0 hg).mono ?_
  rintro v w' ⟨rfl, hG', hS⟩
  have hb' := hS.same.blk hb (List.mem_append_right _ (List.mem_cons_self ..))
  have hx := T2.snd hq2 hG' hS (Y := fp :: Y) (fun _ h => h)
  exact ⟨rfl, F2.of hx.1.swap hb' h1 h2, hx.2⟩
theorem F2.put (hx : F2 B Y w gp dp g d fp hp ep h e root n) (hl : h.W.length ≤ 900000000) (hh : n < 65536) (ref : RefT) (A : Option Addr) (m c : Nat) (raw : List UInt8) (hn : m = raw.length) (hc : m ≤ c) (hc2 : c ≤ 9223372036854775807) (hb : Bytes w A raw) (hA : ∀ ad, A = some ad → ad.block ∈ Y)
    {a : Bool} {c0 : Int} {h' : Grd} {e' : Dsk} {n' : Nat} (hp' : fput h e root n ref raw = (a, c0, h', e', n')) :
    Calls Tryd.prog 15 #[.pointer (some ⟨fp, 0, none⟩), .agg #[.int .i64 ref.1, .int .i64 ref.2.1], .slice A m c] w fun v w' => v = .returned (.tuple #[.bool a, .int .i64 c0]) ∧ F2 B Y w' gp dp g d fp hp ep h' e' root n' ∧ GStep B Y w w' := by
  obtain ⟨q, hq, hf, h1, h2⟩ := hx
  refine (fPut_any hf hl hh ref A m c raw hn hc hc2 hb (fun ad e => List.mem_append_right _ (hA ad e)) h1 h2).mono ?_
  rw [hp']
  rintro v w' ⟨rfl, hF, hS⟩
  exact ⟨rfl, F2.fet hq hF hS h1 h2⟩
theorem F2.lacks (hx : F2 B Y w gp dp g d fp hp ep h e root n) (hl : h.W.length ≤ 1000000000) (most : Int) (hm1 : 1 ≤ most) (hm2 : most ≤ 512) {L : List RefT} (hLl : L.length < 65536) (hg : greach h e none root = (0, L, h')) {l : List RefT} (hit : (lkItems h.n L).take most.toNat = l) (hne : 0 < l.length) :
    Calls Tryd.prog 14 #[.pointer (some ⟨fp, 0, none⟩), .int .i64 most] w fun v w' => ∃ (ad : Addr) (c : Nat), v = .returned (.tuple #[.slice (some ad) l.length c, .int .i64 0]) ∧ Refs w' (some ad) l ∧ F2 B (ad.block :: Y) w' gp dp g d fp hp ep h' e root n ∧ GStep B Y w w' := by
  obtain ⟨q, hq, hf, h1, h2⟩ := hx
  refine (fLacks_any hf hl most hm1 hm2 hLl hg).mono ?_
  rw [hit]
  rintro v w' ⟨A, c, rfl, hR, hA, -, hS⟩
  obtain ⟨bb, off, rfl, -, -⟩ := hR hne
  obtain ⟨k1, k2⟩ := hA _ rfl
  have hp : ∀ z, z ∈ fp :: (q.all ++ Y) ↔ z ∈ q.all ++ fp :: Y := fun z => by simp only [List.mem_cons, List.mem_append]; grind
  have hT := T2.snd1 hq (k2.gx.sub (fun z hz => by simp only [List.mem_cons, List.mem_append] at hz ⊢; grind)) (hS.sub (fun z hz => (hp z).2 hz)) k1
  refine ⟨_, c, rfl, hR, F2.of (hT.sub (fun z hz => by simp only [List.mem_cons] at hz ⊢; grind)) k2.blk (fun hm => ?_) h2, hS.sub (fun z hz => List.mem_cons_of_mem _ (List.mem_append_right _ hz))⟩
  rcases List.mem_cons.1 hm with e | e
  · have := hf.blk.lt; simp only at k1 e; omega
  · exact h1 (List.mem_append_right _ e)
theorem F2.lacksOut (hx : F2 B Y w gp dp g d fp hp ep h e root n) (most : Int) (hm : most < 1 ∨ 512 < most) :
    Calls Tryd.prog 14 #[.pointer (some ⟨fp, 0, none⟩), .int .i64 most] w fun v w' => v = .returned (.tuple #[.slice none 0 0, .int .i64 2]) ∧ F2 B Y w' gp dp g d fp hp ep h e root n ∧ GStep B Y w w' := by
  obtain ⟨q, hq, hf, h1, h2⟩ := hx
  refine (flacks_out hf most hm).mono ?_
  rintro v w' ⟨rfl, hF, hS⟩
  exact ⟨rfl, F2.fet hq hF (hS.sub (fun z hz => List.mem_cons_of_mem _ hz)) h1 h2⟩
theorem F2.ready (hx : F2 B Y w gp dp g d fp hp ep h e root n) (hl : h.W.length ≤ 1000000000) {c0 : Int} {L : List RefT} (hg : greach h e none root = (c0, L, h')) :
    Calls Tryd.prog 16 #[.pointer (some ⟨fp, 0, none⟩)] w fun v w' => v = .returned (.bool (fdone c0 L)) ∧ F2 B Y w' gp dp g d fp hp ep h' e root n ∧ GStep B Y w w' := by
  obtain ⟨q, hq, hf, h1, h2⟩ := hx
  refine (fready_any hf hl hg).mono ?_
  rintro v w' ⟨rfl, hF, hS⟩
  exact ⟨rfl, F2.fet hq hF (hS.sub (fun z hz => List.mem_cons_of_mem _ hz)) h1 h2⟩
end
end Go.Proofs.YthfdjemlibecgaaDoor

/- FetchKnown: the chapter's examples. Condition: the library's table is there. -/
namespace Go.Proofs.YthfdjemlibecgaaDoor
open Go.RowKit
/-- What stands ahead of each call. -/
structure FkS (w0 : World) (bo bt y1 y2 gp dp fp hp ep : Nat) (d : Dsk) (h : Grd) (e : Dsk) (n : Nat) (W : World) : Prop where
  f : F2 w0.heap.size [y2, y1, bt, bo] W gp dp g42 d fp hp ep h e (2, 7, ()) n
  o : Blk W bo 23 #[.int .i64 1, .int .i64 7]
  t : Blk W bt 23 #[.int .i64 2, .int .i64 7]
  a : Blk W y1 5 ((GB.bytes gb1).map u8v).toArray
  b : Blk W y2 5 ((GB.bytes gb2).map u8v).toArray
  bel : Below w0.heap.size w0 W
section
variable {w0 W W' : World} {bo bt y1 y2 gp dp fp hp ep n n' : Nat} {d e e' : Dsk} {h h' : Grd}
theorem FkS.step (hx : FkS w0 bo bt y1 y2 gp dp fp hp ep d h e n W) (hF : F2 w0.heap.size [y2, y1, bt, bo] W' gp dp g42 d fp hp ep h' e' (2, 7, ()) n') (hS : GStep w0.heap.size [y2, y1, bt, bo] W W') : FkS w0 bo bt y1 y2 gp dp fp hp ep d h' e' n' W' :=
  ⟨hF, hS.same.blk hx.o (by simp), hS.same.blk hx.t (by simp), hS.same.blk hx.a (by simp), hS.same.blk hx.b (by simp), hx.bel.trans hS.bel⟩
theorem FkS.below (hx : FkS w0 bo bt y1 y2 gp dp fp hp ep d h e n W) (k : Below W.heap.size W W') : FkS w0 bo bt y1 y2 gp dp fp hp ep d h e n W' :=
  hx.step (F2.below hx.f k).1 ((F2.below hx.f k).2.sub (fun _ hy => List.mem_cons_of_mem _ hy))
end

set_option maxRecDepth 100000 in
set_option maxHeartbeats 8000000 in
theorem fetchKnown_law (w : World) (hT : Tab w) : Calls Tryd.prog 7 #[] w fun e w' => e = .returned (.bool true) ∧ Below w.heap.size w w' := by
  have hzr := zeroRefrun
  have H0 := Lib.hid hT
  clear hT
  go_enter Tryd.func7, Tryd.ntmps7
  go_wp2_with fail
  refine (fpair_any w H0.out).mono ?_
  rintro e w1 ⟨gp, dp, fp, hp, ep, d, rfl, hF, hTwo, hB⟩
  have H1 := Lib.hid (And.intro hF hB)
  have HT := Lib.hid hTwo
  clear hF hB hTwo
  go_wp2_with (first
    | ((with_reducible show wpList _ _ _ ((⟨none, _, _, _, _, _⟩ : Oper) :: _) _ _); refine wpList_store_blk (o := ⟨none, _, _, _, _, _⟩) (((Blk.new w1 23 #[.int .i64 0, .int .i64 0]).alloc (.cells #[.int .i64 0, .int .i64 0] 23))) (by rfl) _ _ _ (by rfl) (by rfl) (#[.int .i64 1, .int .i64 7]) (by rfl) (size_ref) (by rfl) (by rfl) (by simp [Value.oneCell']) ?_; intro w2 h2 hu2; have hb2 := (Blk.new' (w1.alloc (.cells #[.int .i64 0, .int .i64 0] 23)) 23 #[.int .i64 0, .int .i64 0] (n := w1.heap.size + 1) (by simp)).near (Near.upd hu2 (List.mem_singleton_self _)) (by simp))
    | ((with_reducible show wpList _ _ _ ((⟨none, _, _, _, _, _⟩ : Oper) :: _) _ _); refine wpList_store_blk (o := ⟨none, _, _, _, _, _⟩) (hb2) (by rfl) _ _ _ (by rfl) (by rfl) (#[.int .i64 2, .int .i64 7]) (by rfl) (size_ref) (by rfl) (by rfl) (by simp [Value.oneCell']) ?_; intro w3 h3 hu3; refine stopped ?_)
    | fail)
  refine Stopped.mk ?_
  have ho := h2.near (Near.upd hu3 (List.mem_singleton_self (w1.heap.size + 1))) (by simp)
  have hbl := ((((Below.refl w1.heap.size w1).alloc (Nat.le_refl _) (.cells #[.int .i64 0, .int .i64 0] 23)).alloc (by simp) (.cells #[.int .i64 0, .int .i64 0] 23)).upd hu2 (Nat.le_refl _)).upd hu3 (by omega)
  have hF3 := F2.adds H1.out.1 hbl [w1.heap.size + 1, w1.heap.size] (fun y hy => by have := ho.lt; have := h3.lt; simp only [List.mem_cons, List.not_mem_nil, or_false] at hy; omega)
  have H3 := Lib.hid (And.intro hF3 (And.intro ho (And.intro h3 (H1.out.2.trans (hbl.mono H1.out.2.size)))))
  clear hbl hF3 hu2 hu3 h2 hb2 H1 h3
  generalize w1.heap.size = bo at H3 ho ⊢
  generalize bo + 1 = bt at H3 ⊢
  go_wp2_with (first
    | ((with_reducible show wpList _ _ _ ((⟨some 33, _, _, _, _, _⟩ : Oper) :: _) _ _); refine wpList_load_blk (o := ⟨some 33, _, _, _, _, _⟩) (ho) (by rfl) _ _ (by rfl) (by rfl) _ Tryd.underlying23 (by rfl) (size_ref) (by rfl) ?_)
    | fail)
  refine (F2.raw H3.out.1 (by decide) (1, 7, ()) (look_one HT.out)).mono ?_
  rintro e w4 ⟨y1, rfl, hb1, hF, hS⟩
  rw [show gblk d (1, 7, ()).fst = GB.bytes gb1 from HT.out.one] at hb1 ⊢
  rw [GB.bytes_length gb1 (by decide) (by decide)]
  have ht := hS.same.blk H3.out.2.2.1 (by simp)
  have H4 := Lib.hid (And.intro hF (And.intro (hS.same.blk ho (by simp)) (And.intro ht (And.intro hb1 (H3.out.2.2.2.trans hS.bel)))))
  clear hb1 hF hS ho H3
  go_wp2_with (first
    | ((with_reducible show wpList _ _ _ ((⟨some 39, _, _, _, _, _⟩ : Oper) :: _) _ _); refine wpList_load_blk (o := ⟨some 39, _, _, _, _, _⟩) (ht) (by rfl) _ _ (by rfl) (by rfl) _ Tryd.underlying23 (by rfl) (size_ref) (by rfl) ?_)
    | fail)
  refine (F2.raw H4.out.1 (by decide) (2, 7, ()) (look_two HT.out)).mono ?_
  rintro e w5 ⟨y2, rfl, hb2, hF, hS⟩
  rw [show gblk d (2, 7, ()).fst = GB.bytes gb2 from HT.out.two] at hb2 ⊢
  rw [GB.bytes_length gb2 (by decide) (by decide)]
  have H5 : Hid (FkS w bo bt y1 y2 gp dp fp hp ep d h41 (Dsk.new 120) 0 w5) := Lib.hid ⟨hF, hS.same.blk H4.out.2.1 (by simp), hS.same.blk ht (by simp), hS.same.blk H4.out.2.2.2.1 (by simp), hb2, H4.out.2.2.2.2.trans hS.bel⟩
  clear hb2 hF hS ht H4
  obtain ⟨e1, hE1, hp2⟩ := put_two emp_new
  obtain ⟨e2, hE2, hp3⟩ := put_one hE1
  have hp0 := put_state emp_new (GB.bytes gb1)
  have hp1 := put_arg emp_new
  have HP := Lib.hid (And.intro hp0 (And.intro hp1 (And.intro hp2 (And.intro hp3 (And.intro hE1 hE2)))))
  clear hp0 hp1 hp2 hp3 hE1 hE2
  generalize Dsk.new 120 = e0 at H5 HP
  have hg1 : 1024 = (GB.bytes gb1).length := (GB.bytes_length gb1 (by decide) (by decide)).symm
  have hg2 : 1024 = (GB.bytes gb2).length := (GB.bytes_length gb2 (by decide) (by decide)).symm
  have HG := Lib.hid (And.intro hg1 hg2)
  clear hg1 hg2
  have ho := H5.out.o
  -- Put(one, a): not asked for
  go_wp2_with (first
    | ((with_reducible show wpList _ _ _ ((⟨some 45, _, _, _, _, _⟩ : Oper) :: _) _ _); refine wpList_load_blk (o := ⟨some 45, _, _, _, _, _⟩) (ho) (by rfl) _ _ (by rfl) (by rfl) _ Tryd.underlying23 (by rfl) (size_ref) (by rfl) ?_)
    | fail)
  refine (F2.put H5.out.f (by decide) (by omega) (1, 7, ()) (some ⟨y1, 0, none⟩) 1024 1024 (GB.bytes gb1) HG.out.1 (Nat.le_refl _) (by omega) H5.out.a.bytes (fun ad e => by cases e; simp) HP.out.1).mono ?_
  rintro e w6 ⟨rfl, hF, hS⟩
  have H6 := Lib.hid (H5.out.step hF hS)
  clear hF hS ho H5
  have ht := H6.out.t
  -- Put(two, a): of another block
  go_wp2_with (first
    | ((with_reducible show wpList _ _ _ ((⟨some 52, _, _, _, _, _⟩ : Oper) :: _) _ _); refine wpList_load_blk (o := ⟨some 52, _, _, _, _, _⟩) (ht) (by rfl) _ _ (by rfl) (by rfl) _ Tryd.underlying23 (by rfl) (size_ref) (by rfl) ?_)
    | fail)
  refine (F2.put H6.out.f (by decide) (by omega) (2, 7, ()) (some ⟨y1, 0, none⟩) 1024 1024 (GB.bytes gb1) HG.out.1 (Nat.le_refl _) (by omega) H6.out.a.bytes (fun ad e => by cases e; simp) HP.out.2.1).mono ?_
  rintro e w7 ⟨rfl, hF, hS⟩
  have H7 := Lib.hid (H6.out.step hF hS)
  clear hF hS ht H6
  have ht := H7.out.t
  -- Put(two, b)
  go_wp2_with (first
    | ((with_reducible show wpList _ _ _ ((⟨some 59, _, _, _, _, _⟩ : Oper) :: _) _ _); refine wpList_load_blk (o := ⟨some 59, _, _, _, _, _⟩) (ht) (by rfl) _ _ (by rfl) (by rfl) _ Tryd.underlying23 (by rfl) (size_ref) (by rfl) ?_)
    | fail)
  refine (F2.put H7.out.f (by decide) (by omega) (2, 7, ()) (some ⟨y2, 0, none⟩) 1024 1024 (GB.bytes gb2) HG.out.2 (Nat.le_refl _) (by omega) H7.out.b.bytes (fun ad e => by cases e; simp) HP.out.2.2.1).mono ?_
  rintro e w8 ⟨rfl, hF, hS⟩
  have H8 := Lib.hid (H7.out.step hF hS)
  clear hF hS ht H7
  -- Lacks(5)
  go_wp2_with fail
  refine (F2.lacks H8.out.f (by decide) 5 (by omega) (by omega) (by decide) HP.out.2.2.2.2.1.reach1 items_h45 (by decide)).mono ?_
  rintro e w9 ⟨ad, c, rfl, hR, hF, hS⟩
  have H9 := Lib.hid (And.intro hF (And.intro (H8.out.step (hF.sub (fun _ hz => List.mem_cons_of_mem _ hz)) hS) hR))
  clear hF hS hR H8
  have ho := H9.out.2.1.o
  -- Put(one, a)
  go_wp2_with (first
    | ((with_reducible show wpList _ _ _ ((⟨some 71, _, _, _, _, _⟩ : Oper) :: _) _ _); refine wpList_load_blk (o := ⟨some 71, _, _, _, _, _⟩) (ho) (by rfl) _ _ (by rfl) (by rfl) _ Tryd.underlying23 (by rfl) (size_ref) (by rfl) ?_)
    | fail)
  refine (F2.put H9.out.1 (by decide) (by omega) (1, 7, ()) (some ⟨y1, 0, none⟩) 1024 1024 (GB.bytes gb1) HG.out.1 (Nat.le_refl _) (by omega) H9.out.2.1.a.bytes (fun ad e => by cases e; simp) HP.out.2.2.2.1).mono ?_
  rintro e w10 ⟨rfl, hF, hS⟩
  have H10 := Lib.hid (And.intro hF (And.intro (H9.out.2.1.step (hF.sub (fun _ hz => List.mem_cons_of_mem _ hz)) (hS.sub (fun _ hz => List.mem_cons_of_mem _ hz))) (hS.same.refs H9.out.2.2 (fun ad e => by cases e; exact List.mem_cons_self ..))))
  clear hF hS ho H9
  -- Lacks(0)
  go_wp2_with fail
  refine (F2.lacksOut H10.out.1 0 (.inl (by omega))).mono ?_
  rintro e w11 ⟨rfl, hF, hS⟩
  have H11 := Lib.hid (And.intro hF (And.intro (H10.out.2.1.step (hF.sub (fun _ hz => List.mem_cons_of_mem _ hz)) (hS.sub (fun _ hz => List.mem_cons_of_mem _ hz))) (hS.same.refs H10.out.2.2 (fun ad e => by cases e; exact List.mem_cons_self ..))))
  clear hF hS H10
  -- New of no ref
  go_wp2_with fail
  refine (F2.newErr H11.out.1 (by decide) (0, 0, ()) (by decide) (Two.reachZero HT.out)).mono ?_
  rintro e w12 ⟨rfl, hF, hS⟩
  have H12 := Lib.hid (And.intro hF (And.intro (H11.out.2.1.step (hF.sub (fun _ hz => List.mem_cons_of_mem _ hz)) (hS.sub (fun _ hz => List.mem_cons_of_mem _ (List.mem_cons_of_mem _ hz)))) (hS.same.refs H11.out.2.2 (fun ad e => by cases e; simp))))
  clear hF hS H11
  go_wp2_with fail
  have hC0 : Same [bt, bo] w12 w12.drew := ⟨Nat.le_refl _, fun _ _ => rfl⟩
  refine wp_region_tree (Same [bt, bo] w12) [] (.opt 0 (PlanT.takes [1, 2, 3, 4, 5, 6, 7, 8, 9, 10, 11, 12, 13, 14, 15, 16, 17, 18, 19, 20, 21, 22] (PlanT.takes [23] (.opt 24 (.opt 25 (PlanT.takes [26, 27, 28, 29, 30, 31, 32, 33, 34, 35] (.opt 36 (PlanT.takes [37, 38, 39] (.opt 40 (PlanT.takes [41, 42, 43, 44] (PlanT.takes [46] (.opt 45 (PlanT.takes [47, 48, 49, 50, 51, 52, 53, 54, 55, 56, 57] .done) .no))) .no)) .no)) .no) .no))) .no) (by kernel_rfl) (by kernel_rfl) (hC0) ?_
  refine wpTree_one _ rfl ?_
  go_wp2_with fail
  have hd12 := (Below.refl w12.heap.size w12).drew
  refine (fawake_any _ (H0.out.below (H12.out.2.1.bel.trans (hd12.mono H12.out.2.1.bel.size)))).mono ?_
  rintro e w13 ⟨rfl, hbx⟩
  have hb13 : Below w12.heap.size w12 w13 := hd12.trans hbx
  have hS := (F2.below H12.out.1 hb13).2
  have hC1 : Same [bt, bo] w12 w13 := hS.same.sub (fun z hz => by simp only [List.mem_cons, List.not_mem_nil, or_false] at hz ⊢; grind)
  have H13 := Lib.hid (And.intro (F2.below H12.out.1 hb13).1 (And.intro (H12.out.2.1.below hb13) (H12.out.2.2.below hb13)))
  have HO := Lib.hid (And.intro H12.out.2.1.o H12.out.2.1.t)
  clear hd12 hbx hb13 hS H12 hC0
  go_wp2_with fail
  refine TreeQ.in_ hC1 ?_
  refine wpTree_pure _ _ _ (by rfl) (by rfl) ?_
  dsimp only [List.filterMap, List.getElem?_cons_zero, List.getElem?_cons_succ]
  repeat (go_big_quiet_step (fail))
  refine wpQuiet_nil ?_
  refine wpTree_takeL _ _ _ (by rfl) (by rfl) (hC1) ?_
  dsimp only [List.filterMap, List.getElem?_cons_zero, List.getElem?_cons_succ]
  (refine wpQuiet_want' (by rfl) ?_; refine wpQuiet_load_blk (fun w' hw' => hw'.blk HO.out.1 (by simp)) (by rfl) _ _ (by rfl) (by rfl) _ Tryd.underlying23 (by rfl) (size_ref) (by rfl) ?_; simp only [Act.put, List.setIfInBounds_toArray, List.set_cons_zero, List.set_cons_succ])
  refine wpQuiet_nil ?_
  refine wpTree_one _ rfl ?_
  go_wp2_with fail
  have hbl := (Below.refl w13.heap.size w13).alloc (Nat.le_refl _) (.cells #[.int .i64 1, .int .i64 7] 23)
  have hr14 : Refs (w13.alloc (.cells #[.int .i64 1, .int .i64 7] 23)) (some ⟨w13.heap.size, 0, none⟩) [(1, 7, ())] := Refs.of (l := [(1, 7, ())]) (reads_new w13 23 [.int .i64 1, .int .i64 7])
  have hC2 : Same [bt, bo] w12 (w13.alloc (.cells #[.int .i64 1, .int .i64 7] 23)) := hC1.trans ((F2.below H13.out.1 hbl).2.same.sub (fun z hz => by simp only [List.mem_cons, List.not_mem_nil, or_false] at hz ⊢; grind))
  have H14 := Lib.hid (And.intro (H13.out.2.1.below hbl) (And.intro (H13.out.2.2.below hbl) hr14))
  clear hbl hr14 hC1 H13
  generalize w13.alloc (.cells #[.int .i64 1, .int .i64 7] 23) = w14 at H14 hC2 ⊢
  refine TreeQ.in_ hC2 ?_
  refine wpTree_one _ rfl ?_
  go_wp2_with fail
  refine (sameRefs_any (some ad) (some ⟨w13.heap.size, 0, none⟩) 1 1 c 1 [(1, 7, ())] [(1, 7, ())] rfl rfl (by simp) w14 H14.out.2.1 H14.out.2.2).mono ?_
  rintro e w15 ⟨he, hbx⟩
  obtain rfl : e = .returned (.bool true) := by simpa using he
  have hC3 : Same [bt, bo] w12 w15 := hC2.trans ((F2.below H14.out.1.f hbx).2.same.sub (fun z hz => by simp only [List.mem_cons, List.not_mem_nil, or_false] at hz ⊢; grind))
  have H15 := Lib.hid (H14.out.1.below hbx)
  clear he hbx hC2 H14
  go_wp2_with fail
  refine TreeQ.in_ hC3 ?_
  refine wpTree_pure _ _ _ (by rfl) (by rfl) ?_
  dsimp only [List.filterMap, List.getElem?_cons_zero, List.getElem?_cons_succ]
  repeat (go_big_quiet_step (fail))
  refine wpQuiet_nil ?_
  refine wpTree_one _ rfl ?_
  go_wp2_with fail
  refine (F2.ready H15.out.f (by decide) HP.out.2.2.2.2.2.reach0).mono ?_
  rintro e w16 ⟨rfl, hF, hS⟩
  have hC4 : Same [bt, bo] w12 w16 := hC3.trans (hS.same.sub (fun z hz => by simp only [List.mem_cons, List.not_mem_nil, or_false] at hz ⊢; grind))
  have H16 := Lib.hid (H15.out.step hF hS)
  rw [show fdone 0 ([] : List RefT) = true from rfl]
  clear hF hS hC3 H15
  go_wp2_with fail
  refine TreeQ.in_ hC4 ?_
  refine wpTree_pure _ _ _ (by rfl) (by rfl) ?_
  dsimp only [List.filterMap, List.getElem?_cons_zero, List.getElem?_cons_succ]
  repeat (go_big_quiet_step (fail))
  refine wpQuiet_nil ?_
  refine wpTree_one _ rfl ?_
  go_wp2_with fail
  refine (fhad_any (F2.t2 H16.out.f).2.1).mono ?_
  rintro e w16' ⟨rfl, hw⟩
  obtain rfl := hw.symm
  clear hw
  go_wp2_with fail
  refine TreeQ.in_ hC4 ?_
  refine wpTree_pure _ _ _ (by rfl) (by rfl) ?_
  dsimp only [List.filterMap, List.getElem?_cons_zero, List.getElem?_cons_succ]
  repeat (go_big_quiet_step (fail))
  refine wpQuiet_nil ?_
  refine wpTree_takeL _ _ _ (by rfl) (by rfl) (hC4) ?_
  dsimp only [List.filterMap, List.getElem?_cons_zero, List.getElem?_cons_succ]
  (refine wpQuiet_want' (by rfl) ?_; refine wpQuiet_load_blk (fun w' hw' => hw'.blk HO.out.2 (by simp)) (by rfl) _ _ (by rfl) (by rfl) _ Tryd.underlying23 (by rfl) (size_ref) (by rfl) ?_; simp only [Act.put, List.setIfInBounds_toArray, List.set_cons_zero, List.set_cons_succ])
  refine wpQuiet_nil ?_
  refine wpTree_one _ rfl ?_
  go_wp2_with fail
  refine (froot_any (F2.t2 H16.out.f).2.1).mono ?_
  rintro e w17 ⟨rfl, hbx⟩
  have hC5 : Same [bt, bo] w12 w17 := hC4.trans ((F2.below H16.out.f hbx).2.same.sub (fun z hz => by simp only [List.mem_cons, List.not_mem_nil, or_false] at hz ⊢; grind))
  have H17 := Lib.hid (H16.out.bel.trans (hbx.mono H16.out.bel.size))
  clear hbx hC4 H16
  go_wp2_with fail
  refine TreeQ.in_ hC5 ?_
  refine wpTree_pure _ _ _ (by rfl) (by rfl) ?_
  dsimp only [List.filterMap, List.getElem?_cons_zero, List.getElem?_cons_succ]
  repeat (go_big_quiet_step (fail))
  refine wpQuiet_nil ?_
  refine wpTree_done ?_
  clear hC5
  go_wp2
  go_ret
  exact ⟨rfl, H17.out⟩
end Go.Proofs.YthfdjemlibecgaaDoor

/- FetchKnown: for every input the law returns true and the arguments read as they did. Condition: the table of Go's library is as its initialiser lays it (tied to the program's text by the card). -/
namespace Go.Proofs.YthfdjemlibecgaaDoor
open Go.ChangeShapes Go.WideShapes Go.ChangeAt Go.RowKit
set_option maxRecDepth 100000 in
theorem fetchKnown_lifted (os : Os) (started : os.Started) (H : Type) (enc : TypeId × Value → H) :
    ReturnsInHanded {} Tryd.checked os 7 .any (fun w args => (Rows.fetchKnownSpec.pre enc Tryd.prog Tryd.f7 [] false w args ∧ laidMetH Tryd.prog laid1 w) ∧ sizedMet enc Tryd.prog Tryd.f7 (OpenSpec.ofChange Rows.fetchKnownSpec) false w args) (Rows.fetchKnownSpec.post enc Tryd.prog Tryd.f7 false true false false) := by
  refine returnsInHanded_of_change_and (C := Tryd.checked) (X := fun w _ => laidMetH Tryd.prog laid1 w) (fun _ _ _ hh h => h.of_heap hh) Tryd.own started (by kernel_rfl) Tryd.func7
    (ChangeSpec.witness_shaped (enc := enc) (C := Tryd.checked) (os := os) (X := fun w _ => laidMetH Tryd.prog laid1 w) false (World.doorLaid Tryd.prog 400 os) #[] 8 rfl (World.shaped_of_RefB (by kernel_rfl) (by kernel_rfl)) (by kernel_rfl) (by kernel_rfl) (by kernel_rfl) (door_met os _)) ?_
  intro W base args ds gs before hval0 hW _ _ hL _
  have hT : Tab W := of_laid hL
  have hW' := hW
  obtain ⟨p, q, hA0, hV, rfl, hfz, hnd⟩ := hW
  have hA : DataW.TrodAll enc Tryd.prog W 0 (fun _ => true) true Tryd.f7.params.toList args.toList ds p := hA0
  rw [Tryd.params7] at hA
  obtain ⟨ha, rfl, rfl⟩ := trodAll_nil hA
  obtain ⟨rfl, rfl⟩ := trodVars_none hV
  have hargs : args = #[] := by simpa using ha
  subst hargs
  clear hA0 hval0
  simp only [List.append_nil] at hW'
  refine (fetchKnown_law W hT).mono fun e W' ⟨he, hw⟩ => ?_
  subst he
  refine ⟨_, rfl, _, _, _, [], [], [], hW', ?_, ?_, rfl, hw.frame _, fun h => by cases h⟩
  · exact trodAll_mk1 (shut_bool Tryd.underlying4 true)
  · rfl
theorem fetchKnown_holds : Rows.FetchKnownSaid :=
  OpenClaim.holds_of_wide 7 Tryd.f7 rfl rfl rfl rfl rfl rfl rfl ⟨rfl, rfl, rfl, rfl, rfl⟩ rfl rfl rfl rfl rfl (by kernel_rfl) Tryd.func7 (by kernel_rfl)
    (of_decide_eq_true (by kernel_rfl)) (by unfold Func.isWrapper; rw [if_neg (by decide +kernel)]; exact ⟨rfl, rfl⟩)
    (fun os started H enc _ => fetchKnown_lifted os started H enc)
theorem fetchKnown_card : Rows.FetchKnownCardSaid :=
  Claim7.holds_tied_plain_at .later [] [.data] true Rows.fetchKnownCard.stood.harness false
    fetchKnown_holds (fun _ h => by cases h) (by kernel_rfl) (fun _ h => by cases h) fetchKnown_row_tie rfl ⟨rfl, rfl⟩ (by kernel_rfl) rfl
    (fun f fn hf hfn => by
      obtain rfl : f = 7 := Option.some.inj ((show Tryd.prog.funcNamed Rows.fetchKnownRow.func = some 7 by kernel_rfl).symm.trans hf) |>.symm
      obtain rfl : fn = Tryd.f7 := (Option.some.inj (Tryd.func7.symm.trans hfn)).symm
      exact ⟨by kernel_rfl, fun j t ht => by
        rw [Tryd.params7] at ht
        simp at ht⟩)
    (by kernel_rfl)
end Go.Proofs.YthfdjemlibecgaaDoor
