/- FetchKnown's plain facts: what is answered when the two blocks are put one after the other. And a grid asked beside a fetch of another one. Conditions: as each says. -/
import Derived.Test.YthfdjemlibecgaaDoorMFetchWhole20
namespace Go.Proofs.YthfdjemlibecgaaDoor
open Go.RowKit
/-- A disk on which none of the two blocks stands. -/
structure Emp (d : Dsk) : Prop where
  rm : Rm d 4
  one : (GB.read (gblk d 1)).1 ≠ 0
  two : (GB.read (gblk d 2)).1 ≠ 0
  n120 : d.N = 120
theorem emp_new : Emp (Dsk.new 120) := ⟨⟨Dsk.Ok.new (by omega), rfl, by show 104 + 4 * 4 ≤ 120; omega⟩, by rw [show (120 : Nat) = 104 + 4 * 4 from rfl, gblk_new (by omega) (by omega)]; exact zero_bad, by rw [show (120 : Nat) = 104 + 4 * 4 from rfl, gblk_new (by omega) (by omega)]; exact zero_bad, rfl⟩
def h40 : Grd := ⟨4, List.replicate 4 0, []⟩
def h45 : Grd := ⟨4, List.replicate 4 0, [(1, 7, ())]⟩
section
variable {d : Dsk}
theorem Emp.reach (h : Emp d) : greach h41 d none (2, 7, ()) = (0, [(2, 7, ())], h41) := reach_none h.rm.out (gthere_bad h.two) _
theorem Two'.reachW (h : Two' d) (W : List RefT) : greach ⟨4, List.replicate 4 0, W⟩ d none (2, 7, ()) = (0, [(1, 7, ())], Grd.want ⟨4, List.replicate 4 0, W⟩ (1, 7, ())) := by
  have t2 : gthere d (2, 7, ()) = some gb2 := gthere_some (b := gb2) (by decide) h.two
  have t1 : gthere d (1, 7, ()) = none := gthere_bad h.one
  have f2 : Grd.of ⟨4, List.replicate 4 0, W⟩ (2, 7, ()) = true := rfl
  have f1 : Grd.of ⟨4, List.replicate 4 0, W⟩ (1, 7, ()) = true := rfl
  have k2 : gkids ⟨4, List.replicate 4 0, W⟩ d (2, 7, ()) = [(1, 7, ())] := by unfold gkids; rw [if_pos f2, t2]; rfl
  have k1 : gkids ⟨4, List.replicate 4 0, W⟩ d (1, 7, ()) = [] := by unfold gkids; rw [if_pos f1, t1]
  have o2 : gok ⟨4, List.replicate 4 0, W⟩ d (2, 7, ()) = true := by unfold gok; rw [f2, t2]; rfl
  have o1 : gok ⟨4, List.replicate 4 0, W⟩ d (1, 7, ()) = false := by unfold gok; rw [f1, t1]; rfl
  have hw : gwalk ⟨4, List.replicate 4 0, W⟩ d (2, 7, ()) = [(2, 7, ()), (1, 7, ())] := by
    unfold gwalk gnum
    rw [show 16 * (Grd.mk 4 (List.replicate 4 0) W).n + 2 = 64 + 1 + 1 from rfl, dfs_new (by simp), k2, dfss_cons, dfss_nil, dfs_new (by decide), k1, dfss_nil]
    rfl
  have hm : gmiss ⟨4, List.replicate 4 0, W⟩ d (2, 7, ()) = [(1, 7, ())] := by
    unfold gmiss
    rw [hw, List.filter_cons, o2, List.filter_cons, o1]
    rfl
  unfold greach
  rw [if_neg (by unfold Dsk.isOut; rw [h.rm.out]; simp), if_neg (by rw [f2]; simp), hm]
  unfold Grd.wants
  rw [List.foldl_cons, List.foldl_nil, if_pos f1]
theorem Two'.reach0 (h : Two' d) : greach h40 d none (2, 7, ()) = (0, [(1, 7, ())], h45) := h.reachW []
theorem Two'.reach1 (h : Two' d) : greach h45 d none (2, 7, ()) = (0, [(1, 7, ())], h45) := h.reachW _
theorem Two.reach0 (h : Two d) : greach h40 d none (2, 7, ()) = (0, [], h40) := by
  have t2 : gthere d (2, 7, ()) = some gb2 := gthere_some (b := gb2) (by decide) h.two
  have t1 : gthere d (1, 7, ()) = some gb1 := gthere_some (b := gb1) (by decide) h.one
  have f2 : Grd.of h40 (2, 7, ()) = true := rfl
  have f1 : Grd.of h40 (1, 7, ()) = true := rfl
  have k2 : gkids h40 d (2, 7, ()) = [(1, 7, ())] := by unfold gkids; rw [if_pos f2, t2]; rfl
  have k1 : gkids h40 d (1, 7, ()) = [] := by unfold gkids; rw [if_pos f1, t1]; rfl
  have o2 : gok h40 d (2, 7, ()) = true := by unfold gok; rw [f2, t2]; rfl
  have o1 : gok h40 d (1, 7, ()) = true := by unfold gok; rw [f1, t1]; rfl
  have hw : gwalk h40 d (2, 7, ()) = [(2, 7, ()), (1, 7, ())] := by
    unfold gwalk gnum
    rw [show 16 * h40.n + 2 = 64 + 1 + 1 from rfl, dfs_new (by simp), k2, dfss_cons, dfss_nil, dfs_new (by decide), k1, dfss_nil]
    rfl
  have hm : gmiss h40 d (2, 7, ()) = [] := by
    unfold gmiss
    rw [hw, List.filter_cons, o2, List.filter_cons, o1]
    rfl
  unfold greach
  rw [if_neg (by unfold Dsk.isOut; rw [h.rm.out]; simp), if_neg (by rw [f2]; simp), hm]
  rfl
theorem Two.reachZero (h : Two d) : greach g42 d none (0, 0, ()) = (2, [], g42) := by
  unfold greach
  rw [if_neg (by unfold Dsk.isOut; rw [h.rm.out]; simp), if_pos (by decide)]
theorem put_state (h : Emp d) (raw : List UInt8) : fput h41 d (2, 7, ()) 0 (1, 7, ()) raw = (false, 9, h41, d, 0) := by
  unfold fput
  rw [h.reach, if_neg (by simp), if_pos (show ¬ ((1, 7, ()) : RefT) ∈ lkItems h41.n [(2, 7, ())] by decide)]
theorem put_arg (h : Emp d) : fput h41 d (2, 7, ()) 0 (2, 7, ()) (GB.bytes gb1) = (false, 2, h41, d, 0) := by
  have hi : ginst h41 d none (2, 7, ()) (GB.bytes gb1) = (2, h41, d, none) := by
    unfold ginst
    rw [if_neg (by unfold Dsk.isOut; rw [h.rm.out]; simp), if_neg (by decide), GB.read_bytes gb1 (by decide), if_neg (by simp), if_pos (by decide)]
  unfold fput
  rw [h.reach, if_neg (by simp), if_neg (show ¬ ¬ ((2, 7, ()) : RefT) ∈ lkItems h41.n [(2, 7, ())] by decide), hi, if_pos (by simp)]
theorem put_two (h : Emp d) : ∃ d', Two' d' ∧ fput h41 d (2, 7, ()) 0 (2, 7, ()) (GB.bytes gb2) = (false, 0, h45, d', 1) := by
  obtain ⟨d', e1, e2, e3, e4, e5⟩ := gwrite h.rm (a := 2) (by omega) (by omega) (b := GB.bytes gb2) (GB.bytes_length gb2 (by decide) (by decide))
  have hT : Two' d' := ⟨e2, by rw [e5 1 (by omega) (by omega) (by omega)]; exact h.one, e4, e3.trans h.n120⟩
  have hi : ginst h41 d none (2, 7, ()) (GB.bytes gb2) = (0, h40, d', none) := by
    unfold ginst
    rw [if_neg (by unfold Dsk.isOut; rw [h.rm.out]; simp), if_neg (by decide), GB.read_bytes gb2 (by decide), if_neg (by simp), if_neg (by decide), e1, if_neg (by simp)]
    rfl
  refine ⟨d', hT, ?_⟩
  unfold fput
  rw [h.reach, if_neg (by simp), if_neg (show ¬ ¬ ((2, 7, ()) : RefT) ∈ lkItems h41.n [(2, 7, ())] by decide), hi, if_neg (by simp), hT.reach0]
  rfl
theorem put_one (h : Two' d) : ∃ d', Two d' ∧ fput h45 d (2, 7, ()) 1 (1, 7, ()) (GB.bytes gb1) = (true, 0, h40, d', 2) := by
  obtain ⟨d', e1, e2, e3, e4, e5⟩ := gwrite h.rm (a := 1) (by omega) (by omega) (b := GB.bytes gb1) (GB.bytes_length gb1 (by decide) (by decide))
  have hT : Two d' := ⟨e2, e4, (e5 2 (by omega) (by omega) (by omega)).trans h.two, e3.trans h.n120⟩
  have hi : ginst h45 d none (1, 7, ()) (GB.bytes gb1) = (0, h40, d', none) := by
    unfold ginst
    rw [if_neg (by unfold Dsk.isOut; rw [h.rm.out]; simp), if_neg (by decide), GB.read_bytes gb1 (by decide), if_neg (by simp), if_neg (by decide), e1, if_neg (by simp)]
    rfl
  refine ⟨d', hT, ?_⟩
  unfold fput
  rw [h.reach1, if_neg (by simp), if_neg (show ¬ ¬ ((1, 7, ()) : RefT) ∈ lkItems h45.n [(1, 7, ())] by decide), hi, if_neg (by simp), hT.reach0]
  rfl
end
theorem items_h45 : (lkItems h45.n [(1, 7, ())]).take (5 : Int).toNat = [(1, 7, ())] := by decide
section
variable {B gp dp hp ep fp n : Nat} {Y Y' : List Nat} {w w' : World} {q : GPl} {g h g' h' : Grd} {d e d' e' : Dsk} {root : RefT}
theorem T2.sub (hx : T2 B Y w gp dp g d hp ep h e) (hs : ∀ y ∈ Y', y ∈ Y) : T2 B Y' w gp dp g d hp ep h e := by
  obtain ⟨q, hq, hx⟩ := hx
  exact ⟨q, hq.sub hs, hx.sub (fun y hy => by rcases List.mem_append.1 hy with h | h; exact List.mem_append_left _ h; exact List.mem_append_right _ (hs y h))⟩
/-- The second one is asked, and a block of the statement's own came of it. -/
theorem T2.snd1 {y : Nat} (hq : GR B Y w q gp dp g d) (hG : GX B (y :: (q.all ++ Y)) w' hp ep h' e') (hS : GStep B (q.all ++ Y) w w') (hy : w.heap.size ≤ y) : T2 B (y :: Y) w' gp dp g d hp ep h' e' := by
  have hs := hq.step hS (fun x hx => List.mem_append_left _ hx)
  refine ⟨q, ⟨hs.gg, hs.gd, hs.gf, hs.gr, fun x hm => ⟨(hs.off x hm).1, fun h1 => ?_⟩, fun z hz => ?_, hs.size⟩, hG.sub (fun z hz => by simp only [List.mem_cons, List.mem_append] at hz ⊢; grind)⟩
  · rcases List.mem_cons.1 h1 with e | e
    · have := hq.gr.lt x hm; omega
    · exact (hs.off x hm).2 e
  · rcases List.mem_cons.1 hz with rfl | e
    · exact hG.own z (List.mem_cons_self ..)
    · exact hs.lt z e
theorem GR.adds (hx : GR B Y w q gp dp g d) (k : Below w.heap.size w w') (ys : List Nat) (hy : ∀ y ∈ ys, w.heap.size ≤ y ∧ y < w'.heap.size) : GR B (ys ++ Y) w' q gp dp g d := by
  refine ⟨hx.gg, hx.gd, hx.gf, hx.gr.below k, fun x hm => ⟨(hx.off x hm).1, fun h1 => ?_⟩, fun z hz => ?_, Nat.le_trans hx.size k.size⟩
  · rcases List.mem_append.1 h1 with e | e
    · have := hx.gr.lt x hm; have := hy x e; omega
    · exact (hx.off x hm).2 e
  · rcases List.mem_append.1 hz with e | e
    · exact (hy z e).2
    · exact Nat.lt_of_lt_of_le (hx.lt z e) k.size
theorem T2.adds (hx : T2 B Y w gp dp g d hp ep h e) (k : Below w.heap.size w w') (ys : List Nat) (hy : ∀ y ∈ ys, w.heap.size ≤ y ∧ y < w'.heap.size) : T2 B (ys ++ Y) w' gp dp g d hp ep h e := by
  obtain ⟨q, hq, hx⟩ := hx
  exact ⟨q, hq.adds k ys hy, (hx.adds k ys hy).sub (fun z hz => by simp only [List.mem_append] at hz ⊢; grind)⟩
/-- Blocks of the statement's own that came since. -/
theorem F2.adds (hx : F2 B Y w gp dp g d fp hp ep h e root n) (k : Below w.heap.size w w') (ys : List Nat) (hy : ∀ y ∈ ys, w.heap.size ≤ y ∧ y < w'.heap.size) : F2 B (ys ++ Y) w' gp dp g d fp hp ep h e root n := by
  obtain ⟨ht, hb, h1, h2⟩ := hx.t2
  refine F2.of ((ht.adds k ys hy).sub (fun z hz => by simp only [List.mem_cons, List.mem_append] at hz ⊢; grind)) (hb.below k hb.lt) (fun hm => ?_) h2
  rcases List.mem_append.1 hm with e | e
  · have := hb.lt; have := hy _ e; omega
  · exact h1 e
theorem F2.sub (hx : F2 B Y w gp dp g d fp hp ep h e root n) (hs : ∀ y ∈ Y', y ∈ Y) : F2 B Y' w gp dp g d fp hp ep h e root n := by
  obtain ⟨ht, hb, h1, h2⟩ := hx.t2
  exact F2.of (ht.sub (fun z hz => by rcases List.mem_cons.1 hz with rfl | hz; exact List.mem_cons_self ..; exact List.mem_cons_of_mem _ (hs z hz))) hb (fun hm => h1 (hs _ hm)) h2
theorem F2.raw (hx : F2 B Y w gp dp g d fp hp ep h e root n) (hl : g.W.length ≤ 1000000000) (r : RefT) {b : GBT} (hg : glook g d none r = (0, some b, g)) :
    Calls Tryd.prog 25 #[.pointer (some ⟨gp, 0, none⟩), .agg #[.int .i64 r.1, .int .i64 r.2.1]] w fun v w' => ∃ y, v = .returned (.tuple #[.slice (some ⟨y, 0, none⟩) (gblk d r.1).length (gblk d r.1).length, .int .i64 0]) ∧
      Blk w' y 5 ((gblk d r.1).map u8v).toArray ∧ F2 B (y :: Y) w' gp dp g d fp hp ep h e root n ∧ GStep B (fp :: Y) w w' := by
  obtain ⟨ht, hb, h1, h2⟩ := hx.t2
  obtain ⟨q2, hq2, hG⟩ := ht.swap
  refine (xraw_some hG hl r hg).mono ?_
  rintro v w' ⟨y, rfl, hy, hyw, hG', hS⟩
  have hb' := hS.same.blk hb (List.mem_append_right _ (List.mem_cons_self ..))
  refine ⟨y, rfl, hy, F2.of (((T2.snd1 hq2 hG' hS hyw).swap).sub (fun z hz => by simp only [List.mem_cons] at hz ⊢; grind)) hb' (fun hm => ?_) h2, hS.sub (fun _ hy => List.mem_append_right _ hy)⟩
  rcases List.mem_cons.1 hm with e | e
  · have := hb.lt; omega
  · exact h1 e
theorem F2.newErr (hx : F2 B Y w gp dp g d fp hp ep h e root n) (hl : g.W.length ≤ 1000000000) (r : RefT) {c0 : Int} (hc0 : c0 ≠ 0) {L : List RefT} (hg : greach g d none r = (c0, L, g')) :
    Calls Tryd.prog 19 #[.pointer (some ⟨gp, 0, none⟩), .agg #[.int .i64 r.1, .int .i64 r.2.1]] w fun v w' => v = .returned (.tuple #[.pointer none, .int .i64 c0]) ∧ F2 B Y w' gp dp g' d fp hp ep h e root n ∧ GStep B (fp :: Y) w w' := by
  obtain ⟨ht, hb, h1, h2⟩ := hx.t2
  obtain ⟨q2, hq2, hG⟩ := ht.swap
  refine (fnew_err hG hl r hc0 hg).mono ?_
  rintro v w' ⟨rfl, hG', hS⟩
  have hb' := hS.same.blk hb (List.mem_append_right _ (List.mem_cons_self ..))
  have hx := T2.snd hq2 hG' hS (Y := fp :: Y) (fun _ h => h)
  exact ⟨rfl, F2.of hx.1.swap hb' h1 h2, hx.2⟩
theorem F2.put (hx : F2 B Y w gp dp g d fp hp ep h e root n) (hl : h.W.length ≤ 900000000) (hh : n < 65536) (ref : RefT) (A : Option Addr) (m c : Nat) (raw : List UInt8) (hn : m = raw.length) (hc : m ≤ c) (hc2 : c ≤ 9223372036854775807) (hb : Bytes w A raw) (hA : ∀ ad, A = some ad → ad.block ∈ Y)
    {a : Bool} {c0 : Int} {h' : Grd} {e' : Dsk} {n' : Nat} (hp' : fput h e root n ref raw = (a, c0, h', e', n')) :
    Calls Tryd.prog 15 #[.pointer (some ⟨fp, 0, none⟩), .agg #[.int .i64 ref.1, .int .i64 ref.2.1], .slice A m c] w fun v w' => v = .returned (.tuple #[.bool a, .int .i64 c0]) ∧ F2 B Y w' gp dp g d fp hp ep h' e' root n' ∧ GStep B Y w w' := by
  obtain ⟨q, hq, hf, h1, h2⟩ := hx
  refine (fPut_any hf hl hh ref A m c raw hn hc hc2 hb (fun ad e => List.mem_append_right _ (hA ad e)) h1 h2).mono ?_
  rw [hp']
  rintro v w' ⟨rfl, hF, hS⟩
  exact ⟨rfl, F2.fet hq hF hS h1 h2⟩
theorem F2.lacks (hx : F2 B Y w gp dp g d fp hp ep h e root n) (hl : h.W.length ≤ 1000000000) (most : Int) (hm1 : 1 ≤ most) (hm2 : most ≤ 512) {L : List RefT} (hLl : L.length < 65536) (hg : greach h e none root = (0, L, h')) {l : List RefT} (hit : (lkItems h.n L).take most.toNat = l) (hne : 0 < l.length) :
    Calls Tryd.prog 14 #[.pointer (some ⟨fp, 0, none⟩), .int .i64 most] w fun v w' => ∃ (ad : Addr) (c : Nat), v = .returned (.tuple #[.slice (some ad) l.length c, .int .i64 0]) ∧ Refs w' (some ad) l ∧ F2 B (ad.block :: Y) w' gp dp g d fp hp ep h' e root n ∧ GStep B Y w w' ∧ w.heap.size ≤ ad.block := by
  obtain ⟨q, hq, hf, h1, h2⟩ := hx
  refine (fLacks_any hf hl most hm1 hm2 hLl hg).mono ?_
  rw [hit]
  rintro v w' ⟨A, c, rfl, hR, hA, -, hS⟩
  obtain ⟨bb, off, rfl, -, -⟩ := hR hne
  obtain ⟨k1, k2⟩ := hA _ rfl
  have hp : ∀ z, z ∈ fp :: (q.all ++ Y) ↔ z ∈ q.all ++ fp :: Y := fun z => by simp only [List.mem_cons, List.mem_append]; grind
  have hT := T2.snd1 hq (k2.gx.sub (fun z hz => by simp only [List.mem_cons, List.mem_append] at hz ⊢; grind)) (hS.sub (fun z hz => (hp z).2 hz)) k1
  refine ⟨_, c, rfl, hR, F2.of (hT.sub (fun z hz => by simp only [List.mem_cons] at hz ⊢; grind)) k2.blk (fun hm => ?_) h2, hS.sub (fun z hz => List.mem_cons_of_mem _ (List.mem_append_right _ hz)), k1⟩
  rcases List.mem_cons.1 hm with e | e
  · have := hf.blk.lt; simp only at k1 e; omega
  · exact h1 (List.mem_append_right _ e)
theorem F2.lacksOut (hx : F2 B Y w gp dp g d fp hp ep h e root n) (most : Int) (hm : most < 1 ∨ 512 < most) :
    Calls Tryd.prog 14 #[.pointer (some ⟨fp, 0, none⟩), .int .i64 most] w fun v w' => v = .returned (.tuple #[.slice none 0 0, .int .i64 2]) ∧ F2 B Y w' gp dp g d fp hp ep h e root n ∧ GStep B Y w w' := by
  obtain ⟨q, hq, hf, h1, h2⟩ := hx
  refine (flacks_out hf most hm).mono ?_
  rintro v w' ⟨rfl, hF, hS⟩
  exact ⟨rfl, F2.fet hq hF (hS.sub (fun z hz => List.mem_cons_of_mem _ hz)) h1 h2⟩
theorem F2.ready (hx : F2 B Y w gp dp g d fp hp ep h e root n) (hl : h.W.length ≤ 1000000000) {c0 : Int} {L : List RefT} (hg : greach h e none root = (c0, L, h')) :
    Calls Tryd.prog 16 #[.pointer (some ⟨fp, 0, none⟩)] w fun v w' => v = .returned (.bool (fdone c0 L)) ∧ F2 B Y w' gp dp g d fp hp ep h' e root n ∧ GStep B Y w w' := by
  obtain ⟨q, hq, hf, h1, h2⟩ := hx
  refine (fready_any hf hl hg).mono ?_
  rintro v w' ⟨rfl, hF, hS⟩
  exact ⟨rfl, F2.fet hq hF (hS.sub (fun z hz => List.mem_cons_of_mem _ hz)) h1 h2⟩
end
end Go.Proofs.YthfdjemlibecgaaDoor

/- What a walk from a ref on meets: just what is reached, each once. Then: what a grid lacks of some blocks that name earlier ones, while they are put there one by one. Plain facts. No condition. -/
namespace Go.Proofs.YthfdjemlibecgaaDoor
open Go.RowKit
/-- What is reached by names. -/
inductive Rch (kids : RefT → List RefT) : RefT → RefT → Prop where
  | refl (a : RefT) : Rch kids a a
  | head {a y x : RefT} : y ∈ kids a → Rch kids y x → Rch kids a x
section
variable {kids : RefT → List RefT}
theorem dfss_seen {n : Nat} (ih : ∀ S r, (dfs kids n S r).2 = S ++ (dfs kids n S r).1) : ∀ (l : List RefT) (p : List RefT × List RefT) (S0 : List RefT), p.2 = S0 ++ p.1 → (dfss kids n p l).2 = S0 ++ (dfss kids n p l).1
  | [], p, S0, h => h
  | k :: l, p, S0, h => by
    rw [dfss_cons]
    exact dfss_seen ih l _ S0 (by rw [ih, h, List.append_assoc])
theorem dfs_seen : ∀ (n : Nat) (S : List RefT) (r : RefT), (dfs kids n S r).2 = S ++ (dfs kids n S r).1
  | 0, S, r => (List.append_nil S).symm
  | n + 1, S, r => by
    by_cases h : r ∈ S
    · rw [dfs_old h]; exact (List.append_nil S).symm
    · rw [dfs_new h]
      exact dfss_seen (dfs_seen n) _ _ S rfl
theorem dfss_nodup {n : Nat} (ih : ∀ S r, S.Nodup → (dfs kids n S r).2.Nodup) : ∀ (l : List RefT) (p : List RefT × List RefT), p.2.Nodup → (dfss kids n p l).2.Nodup
  | [], p, h => h
  | k :: l, p, h => by
    rw [dfss_cons]
    exact dfss_nodup ih l _ (ih _ _ h)
theorem nodup_snoc {S : List RefT} {r : RefT} (h : S.Nodup) (hr : r ∉ S) : (S ++ [r]).Nodup := by
  rw [List.nodup_append]
  refine ⟨h, by simp, fun a ha b hb e => hr ?_⟩
  rw [List.mem_singleton.1 hb] at e
  exact e ▸ ha
theorem dfs_nodup : ∀ (n : Nat) (S : List RefT) (r : RefT), S.Nodup → (dfs kids n S r).2.Nodup
  | 0, S, r, h => h
  | n + 1, S, r, h => by
    by_cases hr : r ∈ S
    · rw [dfs_old hr]; exact h
    · rw [dfs_new hr]
      exact dfss_nodup (dfs_nodup n) _ _ (nodup_snoc h hr)
theorem dfss_rch {n : Nat} {Q : RefT → Prop} (ih : ∀ S r x, x ∈ (dfs kids n S r).1 → Rch kids r x) : ∀ (l : List RefT) (p : List RefT × List RefT), (∀ x ∈ p.1, Q x) → (∀ k ∈ l, ∀ x, Rch kids k x → Q x) → ∀ x ∈ (dfss kids n p l).1, Q x
  | [], p, h, _ => h
  | k :: l, p, h, hl => by
    rw [dfss_cons]
    refine dfss_rch ih l _ (fun x hx => ?_) (fun k' hk => hl k' (List.mem_cons_of_mem _ hk))
    rcases List.mem_append.1 hx with hx | hx
    · exact h x hx
    · exact hl k (List.mem_cons_self ..) x (ih _ _ _ hx)
theorem dfs_rch : ∀ (n : Nat) (S : List RefT) (r x : RefT), x ∈ (dfs kids n S r).1 → Rch kids r x
  | 0, S, r, x, h => by cases h
  | n + 1, S, r, x, h => by
    by_cases hr : r ∈ S
    · rw [dfs_old hr] at h; cases h
    · rw [dfs_new hr] at h
      exact dfss_rch (Q := Rch kids r) (dfs_rch n) _ _ (fun y hy => by rw [List.mem_singleton.1 hy]; exact .refl _) (fun k hk y hy => .head hk hy) x h
theorem dfss_closed {U : List RefT} {n : Nat} (ih : ∀ S r, r ∈ U → unseen U S < n → r ∈ (dfs kids n S r).2 ∧ ∀ x ∈ (dfs kids n S r).1, ∀ y ∈ kids x, y ∈ (dfs kids n S r).2) :
    ∀ (l : List RefT) (p : List RefT × List RefT), (∀ k ∈ l, k ∈ U) → unseen U p.2 < n → (∀ x ∈ p.2, x ∈ (dfss kids n p l).2) ∧ (∀ k ∈ l, k ∈ (dfss kids n p l).2) ∧ ∀ x ∈ (dfss kids n p l).1, x ∈ p.1 ∨ ∀ y ∈ kids x, y ∈ (dfss kids n p l).2
  | [], p, _, _ => ⟨fun _ hx => hx, fun _ hk => (by cases hk), fun _ hx => .inl hx⟩
  | k :: l, p, hl, hu => by
    obtain ⟨i1, i2⟩ := ih p.2 k (hl k (List.mem_cons_self ..)) hu
    have hs := dfs_seen (kids := kids) n p.2 k
    have hsub : ∀ x ∈ p.2, x ∈ (dfs kids n p.2 k).2 := fun x hx => by rw [hs]; exact List.mem_append_left _ hx
    rw [dfss_cons]
    obtain ⟨j1, j2, j3⟩ := dfss_closed ih l (p.1 ++ (dfs kids n p.2 k).1, (dfs kids n p.2 k).2) (fun x hx => hl x (List.mem_cons_of_mem _ hx)) (Nat.lt_of_le_of_lt (unseen_mono hsub) hu)
    refine ⟨fun x hx => j1 x (hsub x hx), fun x hx => ?_, fun x hx => ?_⟩
    · rcases List.mem_cons.1 hx with rfl | hx
      · exact j1 _ i1
      · exact j2 x hx
    · rcases j3 x hx with h | h
      · rcases List.mem_append.1 h with h | h
        · exact .inl h
        · exact .inr fun y hy => j1 y (i2 x h y hy)
      · exact .inr h
theorem dfs_closed {U : List RefT} (hU : ∀ r ∈ U, ∀ x ∈ kids r, x ∈ U) : ∀ (n : Nat) (S : List RefT) (r : RefT), r ∈ U → unseen U S < n → r ∈ (dfs kids n S r).2 ∧ ∀ x ∈ (dfs kids n S r).1, ∀ y ∈ kids x, y ∈ (dfs kids n S r).2
  | 0, S, r, _, h => by omega
  | n + 1, S, r, hr, h => by
    by_cases hs : r ∈ S
    · rw [dfs_old hs]; exact ⟨hs, fun x hx => by cases hx⟩
    · rw [dfs_new hs]
      have hl := unseen_less hr hs
      obtain ⟨j1, j2, j3⟩ := dfss_closed (dfs_closed hU n) (kids r) ([r], S ++ [r]) (hU r hr) (show unseen U (S ++ [r]) < n by omega)
      refine ⟨j1 r (by simp), fun x hx => ?_⟩
      rcases j3 x hx with h | h
      · rw [List.mem_singleton.1 h]; exact j2
      · exact h
end
theorem gwalk_nodup (g : Grd) (d : Dsk) (root : RefT) : (gwalk g d root).Nodup := by
  have h := dfs_nodup (kids := gkids g d) (gnum g) [] root List.nodup_nil
  rw [dfs_seen, List.nil_append] at h
  exact h
theorem gwalk_closed (g : Grd) (d : Dsk) (root : RefT) : root ∈ gwalk g d root ∧ ∀ x ∈ gwalk g d root, ∀ y ∈ gkids g d x, y ∈ gwalk g d root := by
  have h := dfs_closed (U := gall g d root) (fun r _ x hx => gall_kids (r := r) x hx) (gnum g) [] root (List.mem_cons_self ..) (gnum_enough g d root)
  rw [dfs_seen, List.nil_append] at h
  exact h
theorem gwalk_rch {g : Grd} {d : Dsk} {root x : RefT} (h : x ∈ gwalk g d root) : Rch (gkids g d) root x := dfs_rch _ _ _ _ h
/-- The ref of the block that is written as the i-th. -/
def wk (i : Nat) : RefT := ((i : Int) + 1, 7, ())
theorem wk_inj {i j : Nat} (h : wk i = wk j) : i = j := by
  have := congrArg Prod.fst h
  simp only [wk] at this
  omega
/-- Some blocks, each of which names earlier ones. -/
structure Bks (b : Nat → GBT) (m : Nat) : Prop where
  m1 : 1 ≤ m
  m16 : m ≤ 16
  ok : ∀ i, i < m → GB.ok (b i) = true
  ref : ∀ i, i < m → (b i).2.1 = wk i
  names : ∀ i, i < m → ∀ r ∈ (b i).2.2.1, ∃ j, j < i ∧ r = wk j
/-- Those of a list stand on a disk, the others don't. -/
structure Got (b : Nat → GBT) (m : Nat) (D : List RefT) (e : Dsk) : Prop where
  rm : Rm e 16
  into : ∀ i, i < m → wk i ∈ D → gblk e ((i : Int) + 1) = GB.bytes (b i)
  out : ∀ i, i < m → wk i ∉ D → (GB.read (gblk e ((i : Int) + 1))).1 ≠ 0
  cnt : unseen ((List.range m).map wk) D + D.length ≤ m
  nd : D.Nodup
theorem got_new (b : Nat → GBT) (m : Nat) (hm : m ≤ 16) : Got b m [] (Dsk.new (104 + 4 * 16)) :=
  ⟨⟨Dsk.Ok.new (by omega), rfl, Nat.le_refl _⟩, fun _ _ h => (by cases h), fun i hi _ => by rw [gblk_new (by omega) (by omega)]; exact zero_bad, by
    have := unseen_le ((List.range m).map wk) []
    rw [List.length_map, List.length_range] at this
    exact this, List.nodup_nil⟩
theorem wk_of {g : Grd} (hg : g.n = 16) {i : Nat} (hi : i < 16) : g.of (wk i) = true := by
  unfold Grd.of wk
  simp only [Bool.and_eq_true, decide_eq_true_eq, hg]
  omega
section
variable {b : Nat → GBT} {m : Nat} {D D' : List RefT} {e e' : Dsk} {g g' : Grd}
theorem Got.there (h : Got b m D e) (hb : Bks b m) {i : Nat} (hi : i < m) : gthere e (wk i) = if wk i ∈ D then some (b i) else none := by
  split
  · rename_i hD
    have h1 := h.into i hi hD
    have h2 := hb.ref i hi
    rw [← h2]
    exact gthere_some (hb.ok i hi) (by rw [h2]; exact h1)
  · rename_i hD
    exact gthere_bad (h.out i hi hD)
theorem Got.kids (h : Got b m D e) (hb : Bks b m) (hg : g.n = 16) {i : Nat} (hi : i < m) : gkids g e (wk i) = if wk i ∈ D then (b i).2.2.1 else [] := by
  unfold gkids
  rw [if_pos (wk_of hg (Nat.lt_of_lt_of_le hi hb.m16)), h.there hb hi]
  by_cases hD : wk i ∈ D
  · rw [if_pos hD, if_pos hD]
  · rw [if_neg hD, if_neg hD]
theorem Got.ok (h : Got b m D e) (hb : Bks b m) (hg : g.n = 16) {i : Nat} (hi : i < m) : gok g e (wk i) = decide (wk i ∈ D) := by
  unfold gok
  rw [wk_of hg (Nat.lt_of_lt_of_le hi hb.m16), h.there hb hi]
  by_cases hD : wk i ∈ D
  · rw [if_pos hD, decide_eq_true hD]; rfl
  · rw [if_neg hD, decide_eq_false hD]; rfl
theorem Got.rch (h : Got b m D e) (hb : Bks b m) (hg : g.n = 16) {a x : RefT} (hr : Rch (gkids g e) a x) : (∃ i, i < m ∧ a = wk i) → ∃ i, i < m ∧ x = wk i := by
  induction hr with
  | refl a => exact id
  | head hy _ ih =>
    rintro ⟨i, hi, rfl⟩
    refine ih ?_
    rw [h.kids hb hg hi] at hy
    split at hy
    · obtain ⟨j, hj, e⟩ := hb.names i hi _ hy
      exact ⟨j, by omega, e⟩
    · cases hy
theorem Got.walk (h : Got b m D e) (hb : Bks b m) (hg : g.n = 16) {x : RefT} (hx : x ∈ gwalk g e (wk (m - 1))) : ∃ i, i < m ∧ x = wk i :=
  h.rch hb hg (gwalk_rch hx) ⟨m - 1, by have := hb.m1; omega, rfl⟩
theorem Got.mono (h : Got b m D e) (h' : Got b m D' e') (hb : Bks b m) (hg : g.n = 16) (hg' : g'.n = 16) (hs : ∀ x ∈ D, x ∈ D') {x : RefT} (hx : x ∈ gwalk g e (wk (m - 1))) : x ∈ gwalk g' e' (wk (m - 1)) := by
  have key : ∀ a x, Rch (gkids g e) a x → a ∈ gwalk g' e' (wk (m - 1)) → x ∈ gwalk g' e' (wk (m - 1)) := by
    intro a x hr
    induction hr with
    | refl a => exact id
    | head hy _ ih =>
      intro ha
      obtain ⟨i, hi, rfl⟩ := h'.walk hb hg' ha
      refine ih ((gwalk_closed g' e' _).2 _ ha _ ?_)
      rw [h.kids hb hg hi] at hy
      split at hy
      · rename_i hD
        rw [h'.kids hb hg' hi, if_pos (hs _ hD)]
        exact hy
      · cases hy
  exact key _ _ (gwalk_rch hx) (gwalk_closed g' e' _).1
theorem Got.miss (h : Got b m D e) (hb : Bks b m) (hg : g.n = 16) {x : RefT} : x ∈ gmiss g e (wk (m - 1)) ↔ x ∈ gwalk g e (wk (m - 1)) ∧ x ∉ D := by
  unfold gmiss
  rw [List.mem_filter]
  constructor
  · rintro ⟨h1, h2⟩
    refine ⟨h1, fun hD => ?_⟩
    obtain ⟨i, hi, rfl⟩ := h.walk hb hg h1
    rw [h.ok hb hg hi, decide_eq_true hD] at h2
    cases h2
  · rintro ⟨h1, h2⟩
    refine ⟨h1, ?_⟩
    obtain ⟨i, hi, rfl⟩ := h.walk hb hg h1
    rw [h.ok hb hg hi, decide_eq_false h2]
    rfl
theorem Got.reach (h : Got b m D e) (hb : Bks b m) (hg : g.n = 16) : greach g e none (wk (m - 1)) = (0, gmiss g e (wk (m - 1)), g.wants (gmiss g e (wk (m - 1)))) := by
  unfold greach
  rw [if_neg (by unfold Dsk.isOut; rw [h.rm.out]; simp), if_neg (by rw [wk_of hg (by have := hb.m1; have := hb.m16; omega)]; simp)]
theorem Got.items (h : Got b m D e) (hb : Bks b m) (hg : g.n = 16) : lkItems g.n (gmiss g e (wk (m - 1))) = gmiss g e (wk (m - 1)) := by
  unfold lkItems
  refine List.filter_eq_self.2 fun x hx => ?_
  obtain ⟨i, hi, rfl⟩ := h.walk hb hg ((h.miss hb hg).1 hx).1
  have := hb.m16
  unfold lof wk
  simp only [Bool.and_eq_true, decide_eq_true_eq, hg]
  omega
theorem wk_mem {i : Nat} (hi : i < m) : wk i ∈ (List.range m).map wk := List.mem_map.2 ⟨i, List.mem_range.2 hi, rfl⟩
theorem Got.less (h : Got b m D e) {i : Nat} (hi : i < m) (hD : wk i ∉ D) : D.length < m := by
  have h1 := unseen_less (wk_mem hi) hD
  have := h.cnt
  omega
/-- A block that is missing is put. -/
theorem Got.put (h : Got b m D e) (hb : Bks b m) (hg : g.n = 16) {i : Nat} (hi : i < m) (hx : wk i ∈ gmiss g e (wk (m - 1))) (n : Nat) :
    ∃ a g' e', fput g e (wk (m - 1)) n (wk i) (GB.bytes (b i)) = (a, 0, g', e', n + 1) ∧ Got b m (D ++ [wk i]) e' ∧ g'.n = 16 ∧ g'.W.length ≤ g.W.length + 600 := by
  have hD := ((h.miss hb hg).1 hx).2
  have h16 := hb.m16
  have hW1 := (greach_W g e none (wk (m - 1))).1
  rw [h.reach hb hg] at hW1
  generalize hg1 : g.wants (gmiss g e (wk (m - 1))) = g1 at hW1
  have hn1 : g1.n = 16 := by rw [← hg1, Grd.wants_n, hg]
  obtain ⟨e', e1, e2, e3, e4, e5⟩ := gwrite h.rm (a := (i : Int) + 1) (by omega) (by omega) (b := GB.bytes (b i)) (GB.bytes_length (b i) (GB.ok_spec (hb.ok i hi)).2.2.1 (GB.ok_spec (hb.ok i hi)).2.2.2.1)
  have hT : Got b m (D ++ [wk i]) e' := by
    refine ⟨e2, fun j hj hm => ?_, fun j hj hm => ?_, ?_, nodup_snoc h.nd hD⟩
    · by_cases hji : j = i
      · subst hji; exact e4
      · rw [e5 _ (by omega) (by omega) (by omega)]
        rcases List.mem_append.1 hm with hm | hm
        · exact h.into j hj hm
        · exact absurd (wk_inj (List.mem_singleton.1 hm)) hji
    · have hji : j ≠ i := fun e => hm (by rw [e]; simp)
      rw [e5 _ (by omega) (by omega) (by omega)]
      exact h.out j hj fun hx => hm (List.mem_append_left _ hx)
    · have := unseen_less (wk_mem hi) hD
      have := h.cnt
      rw [List.length_append, List.length_singleton]
      omega
  have hi1 : ginst g1 e none (wk i) (GB.bytes (b i)) = (0, { g1 with W := g1.W.erase (wk i) }, e', none) := by
    unfold ginst
    rw [if_neg (by unfold Dsk.isOut; rw [h.rm.out]; simp), if_neg (by rw [wk_of hn1 (by omega)]; simp), GB.read_bytes (b i) (hb.ok i hi), if_neg (by simp), if_neg (by simp only [ne_eq, Decidable.not_not]; exact hb.ref i hi), show gplace (wk i).1 = gplace ((i : Int) + 1) from rfl, e1, if_neg (by simp)]
  have hW2 := (greach_W { g1 with W := g1.W.erase (wk i) } e' none (wk (m - 1))).1
  rw [hT.reach hb (g := { g1 with W := g1.W.erase (wk i) }) hn1] at hW2
  have hW3 : (g1.W.erase (wk i)).length ≤ g1.W.length := List.length_erase_le
  have hF : fput g e (wk (m - 1)) n (wk i) (GB.bytes (b i)) = (fdone 0 (gmiss { g1 with W := g1.W.erase (wk i) } e' (wk (m - 1))), 0, Grd.wants { g1 with W := g1.W.erase (wk i) } (gmiss { g1 with W := g1.W.erase (wk i) } e' (wk (m - 1))), e', n + 1) := by
    unfold fput
    rw [h.reach hb hg, if_neg (by simp), if_neg (by rw [h.items hb hg]; simpa using hx), hg1, hi1, if_neg (by simp), hT.reach hb (g := { g1 with W := g1.W.erase (wk i) }) hn1]
  refine ⟨_, _, e', hF, hT, ?_, ?_⟩
  · rw [Grd.wants_n]; exact hn1
  · simp only at hW1 hW2
    omega
theorem Got.look (h : Got b m D e) (hb : Bks b m) (hg : g.n = 16) {i : Nat} (hi : i < m) : glook g e none (wk i) = if wk i ∈ D then (0, some (b i), g) else (13, none, g.want (wk i)) := by
  unfold glook
  rw [if_neg (by unfold Dsk.isOut; rw [h.rm.out]; simp), if_neg (by rw [wk_of hg (Nat.lt_of_lt_of_le hi hb.m16)]; simp), h.there hb hi]
  by_cases hD : wk i ∈ D
  · rw [if_pos hD, if_pos hD]
  · rw [if_neg hD, if_neg hD]
end
end Go.Proofs.YthfdjemlibecgaaDoor

/- Whether a ref is in a list: the chapter's in. Conditions: the list can be read; it has at most 5000. -/
namespace Go.Proofs.YthfdjemlibecgaaDoor
open Go.RowKit
/-- What stands ahead of each round. -/
def InRel (w : World) (gb : Nat) (r : RefT) (l : List RefT) (v : Value) (wr : World) : Prop := ∃ k : Nat, k ≤ l.length ∧ v = .int .i64 (k : Int) ∧ r ∉ l.take k ∧ Blk wr gb 23 #[.int .i64 r.1, .int .i64 r.2.1] ∧ Below w.heap.size w wr
theorem ref_eta (r : RefT) : r = (r.1, r.2.1, ()) := rfl
set_option maxRecDepth 100000 in
set_option maxHeartbeats 4000000 in
theorem fin_any (A : Option Addr) (n c : Nat) (l : List RefT) (r : RefT) (hn : n = l.length) (hl : l.length ≤ 5000) (w : World) (h : Refs w A l) :
    Calls Tryd.prog 41 #[.slice A n c, .agg #[.int .i64 r.1, .int .i64 r.2.1]] w fun e w' => e = .returned (.bool (decide (r ∈ l))) ∧ Below w.heap.size w w' := by
  have hB := (Below.refl w.heap.size w).alloc (Nat.le_refl _) (.cells #[.int .i64 r.1, .int .i64 r.2.1] 23)
  have hbr := Blk.new w 23 #[.int .i64 r.1, .int .i64 r.2.1]
  have HN := Lib.hid (And.intro hn (And.intro h (And.intro hB hbr)))
  have hn5 : n ≤ 5000 := by omega
  clear hn h hB hbr hl
  go_enter Tryd.func41, Tryd.ntmps41
  go_wp2_with fail
  generalize w.alloc (.cells #[.int .i64 r.1, .int .i64 r.2.1] 23) = w1 at HN ⊢
  generalize hgb : w.heap.size = gb at HN ⊢
  go_loopw [5] (fun v wr => InRel w gb r l v wr) (fun v _ => n - (intOf v).toNat)
  case atStart => exact ⟨0, Nat.zero_le _, rfl, by simp, HN.out.2.2.2, by rw [hgb]; exact HN.out.2.2.1⟩
  case round =>
    obtain ⟨i, hi, rfl, htk, hbr, hBr⟩ := hrel
    rw [← HN.out.1] at hi
    have HTK := Lib.hid (And.intro htk (And.intro hbr hBr))
    have hsz := Lib.hid hgb
    clear htk
    by_cases hlt : i < n
    · have hr1 := Refs.below HN.out.2.1 hBr
      obtain ⟨b1, o1, rfl, _, hc1⟩ := hr1 (by rw [← HN.out.1]; omega)
      have hil : i < l.length := by rw [← HN.out.1]; exact hlt
      obtain ⟨d1, d2⟩ := hc1 i hil
      have d3 := hbr.at_ 0 (v := .int .i64 r.1) rfl
      have d4 := hbr.at_ 1 (v := .int .i64 r.2.1) rfl
      have hx1 := Lib.hid (ref_eta l[i])
      have hx2 := Lib.hid (ref_eta r)
      generalize hy1 : l[i].1 = x1 at d1 hx1
      generalize hy2 : l[i].2.1 = x2 at d2 hx1
      generalize hy3 : r.1 = x3 at d3 hx2
      generalize hy4 : r.2.1 = x4 at d4 hx2
      clear hy1 hy2 hy3 hy4 hc1 hr1 hBr hbr hgb
      go_wp2_with fail
      refine wp_region_quiet_lit (by kernel_rfl) (by kernel_rfl) ?_
      repeat (go_big_quiet_step (fail))
      refine wpQuiet_run (by rfl) _ (fun w' _ => exec_eql_ref w' _ _ _ (by rfl) x1 x2 x3 x4 (by rfl) (by rfl)) ?_
      simp only [Act.put, List.setIfInBounds_toArray, List.set_cons_zero, List.set_cons_succ]
      refine wpQuiet_nil ?_
      rintro _ ⟨nq, rfl⟩
      have HBd := Lib.hid (And.intro (below_drewN HTK.out.2.2 nq) (HTK.out.2.1.below (below_drewN (Below.refl wr.heap.size wr) nq) HTK.out.2.1.lt))
      cases hq : ((x1 == x3) && (x2 == x4))
      · have hst : Hid (r ∉ l.take (i + 1)) := Lib.hid (by
          rw [List.take_succ_eq_append_getElem hil]
          intro hm
          rcases List.mem_append.1 hm with hm | hm
          · exact HTK.out.1 hm
          · have e := List.mem_singleton.1 hm
            rw [hx1.out, hx2.out] at e
            simp only [Prod.mk.injEq, and_true] at e
            rw [e.1, e.2] at hq
            simp at hq)
        clear hq
        go_wp2
        go_roundw
        case rel => exact ⟨i + 1, by omega, by go_num, hst.out, HBd.out.2, HBd.out.1⟩
        case measure => simp [intOf]; omega
      · have hne : Hid (decide (r ∈ l) = true) := Lib.hid (decide_eq_true (by
          simp only [Bool.and_eq_true, beq_iff_eq] at hq
          have e : l[i] = r := by rw [hx1.out, hx2.out, hq.1, hq.2]
          rw [← e]; exact List.getElem_mem hil))
        clear hq
        go_wp2
        go_ret
        exact ⟨by rw [hne.out]; rfl, HBd.out.1⟩
    · obtain rfl : i = n := by omega
      have heq : Hid (decide (r ∈ l) = false) := Lib.hid (decide_eq_false (by
        have := HTK.out.1
        rwa [HN.out.1, List.take_length] at this))
      clear hbr hBr hgb
      go_wp2
      go_ret
      exact ⟨by rw [heq.out]; rfl, HTK.out.2.2⟩
end Go.Proofs.YthfdjemlibecgaaDoor

/- A block as an argument: what its cells are. Plain facts of this program. No condition. -/
namespace Go.Proofs.YthfdjemlibecgaaDoor
open Go.RowKit
def refSh : Sh := .cons (.int .i64) (.cons (.int .i64) .nil)
def gbSh : Sh := .cons (.int .i64) (.cons refSh (.cons (.slice refSh) (.cons (.slice .byte) .nil)))
theorem refSh_is {w : World} {r : refSh.T} {cs : List Value} (h : Sh.Is w refSh r cs) : cs = [.int .i64 r.1, .int .i64 r.2.1] := by
  obtain ⟨c1, c2, rfl, _, hx, c3, c4, rfl, _, hy, hz⟩ := h
  obtain ⟨rfl, _, _⟩ := hx
  obtain ⟨rfl, _, _⟩ := hy
  have hz : c4 = [] := hz
  subst hz
  rfl
theorem Refs.both {w : World} {B : Option Addr} {ts : List RefT} {rows : List (List Value)} (h : Both (fun (d : refSh.T) r => r.length = refSh.size ∧ Sh.Is w refSh d r) ts rows) (hr : Reads w B rows.flatten) : Refs w B ts := by
  have hat : ∀ i, (hi : i < ts.length) → rows.flatten[i * 2]? = some (.int .i64 ts[i].1) ∧ rows.flatten[i * 2 + 1]? = some (.int .i64 ts[i].2.1) := by
    intro i hi
    obtain ⟨r, h1, h2, h3⟩ := both_at h i hi
    obtain rfl := refSh_is h2
    refine ⟨?_, ?_⟩
    · have := h3 0 (by decide)
      rw [show i * refSh.size + 0 = i * 2 by simp [refSh, Sh.size]] at this
      rw [this]; rfl
    · have := h3 1 (by decide)
      rw [show i * refSh.size + 1 = i * 2 + 1 by simp [refSh, Sh.size]] at this
      rw [this]; rfl
  intro hp
  have hne : rows.flatten ≠ [] := by intro e; have := (hat 0 hp).1; rw [e] at this; simp at this
  obtain ⟨b, off, e, hc⟩ := hr hne
  exact ⟨b, off, e, World.block_lt_of_cell? w _ (hc _ _ (hat 0 hp).1), fun i hi => ⟨hc _ _ (hat i hi).1, by rw [Nat.add_assoc]; exact hc _ _ (hat i hi).2⟩⟩
theorem gbSh_is {w : World} {x : gbSh.T} {cs : List Value} (h : Sh.Is w gbSh x cs) : ∃ A c B d, cs = [.int .i64 x.1, .int .i64 x.2.1.1, .int .i64 x.2.1.2.1, .slice A x.2.2.1.length c, .slice B x.2.2.2.1.length d] ∧
    x.2.2.1.length ≤ c ∧ x.2.2.2.1.length ≤ d ∧ c ≤ 9223372036854775807 ∧ d ≤ 9223372036854775807 ∧ Refs w A x.2.2.1 ∧ Bytes w B x.2.2.2.1 := by
  obtain ⟨c1, c2, rfl, _, hx, c3, c4, rfl, _, hy, c5, c6, rfl, _, hz, c7, c8, rfl, _, hu, hv⟩ := h
  obtain ⟨rfl, _, _⟩ := hx
  obtain rfl := refSh_is hy
  obtain ⟨A, c, rows, rfl, h2, h3, h4, h5⟩ := hz
  obtain ⟨B, d, rfl, h6, h7, h8⟩ := Sh.Is.bytes hu
  have hv : c8 = [] := hv
  subst hv
  exact ⟨A, c, B, d, rfl, h2, h6, by simpa [maxLen] using h3, by simpa [maxLen] using h7, Refs.both h4 h5, h8⟩
end Go.Proofs.YthfdjemlibecgaaDoor

/- The law's parts: what can be read of them; whether they are few. Condition: they can be read. -/
namespace Go.Proofs.YthfdjemlibecgaaDoor
open Go.RowKit
abbrev PartT := Int × List Int × List UInt8 × Unit
def Ints (w : World) (A : Option Addr) (l : List Int) : Prop := Reads w A (l.map fun x => Value.int .i64 x)
/-- Parts that can be read. -/
def Parts (w : World) (A : Option Addr) (l : List PartT) : Prop :=
  0 < l.length → ∃ b off, A = some ⟨b, off, none⟩ ∧ b < w.heap.size ∧ ∀ i, (h : i < l.length) → ∃ A1 c1 A2 c2, w.cell? ⟨b, off + i * 3, none⟩ = some (.int .i64 l[i].1) ∧ w.cell? ⟨b, off + i * 3 + 1, none⟩ = some (.slice A1 l[i].2.1.length c1) ∧ w.cell? ⟨b, off + i * 3 + 2, none⟩ = some (.slice A2 l[i].2.2.1.length c2) ∧
    l[i].2.1.length ≤ c1 ∧ c1 ≤ 9223372036854775807 ∧ l[i].2.2.1.length ≤ c2 ∧ c2 ≤ 9223372036854775807 ∧ Ints w A1 l[i].2.1 ∧ Bytes w A2 l[i].2.2.1
theorem Parts.below {w w' : World} {A : Option Addr} {l : List PartT} (h : Parts w A l) (hb : Below w.heap.size w w') : Parts w' A l := fun hp => by
  obtain ⟨b, off, e, hlt, hc⟩ := h hp
  refine ⟨b, off, e, Nat.lt_of_lt_of_le hlt hb.size, fun i hi => ?_⟩
  obtain ⟨A1, c1, A2, c2, k1, k2, k3, k4, k5, k6, k7, k8, k9⟩ := hc i hi
  exact ⟨A1, c1, A2, c2, (hb.cell (p := ⟨b, off + i * 3, none⟩) hlt).trans k1, (hb.cell (p := ⟨b, off + i * 3 + 1, none⟩) hlt).trans k2, (hb.cell (p := ⟨b, off + i * 3 + 2, none⟩) hlt).trans k3, k4, k5, k6, k7, Reads.below k8 hb, Bytes.below k9 hb⟩
/-- Few, as the law says it. -/
def fewP (l : List PartT) : Bool := (l.all fun p => decide (p.2.2.1.length ≤ 860) && decide (p.2.1.length ≤ 20)) && (decide (1 ≤ l.length) && decide (l.length ≤ 16))
def FewRel (w : World) (l : List PartT) (v : Value) (wr : World) : Prop := ∃ k : Nat, k ≤ l.length ∧ v = .int .i64 (k : Int) ∧ ((l.take k).all fun p => decide (p.2.2.1.length ≤ 860) && decide (p.2.1.length ≤ 20)) = true ∧ wr = w
set_option maxRecDepth 100000 in
set_option maxHeartbeats 4000000 in
theorem few_any (A : Option Addr) (c : Nat) (l : List PartT) (hl : l.length ≤ 9223372036854775807) (w : World) (h : Parts w A l) :
    Calls Tryd.prog 37 #[.slice A l.length c] w fun e w' => e = .returned (.bool (fewP l)) ∧ w' = w := by
  generalize hn : l.length = n
  have HN := Lib.hid (And.intro hn h)
  have hn9 : n ≤ 9223372036854775807 := by omega
  clear hn h hl
  go_enter Tryd.func37, Tryd.ntmps37
  go_wp2_with fail
  go_loopw [3] (fun v wr => FewRel w l v wr) (fun v _ => n - (intOf v).toNat)
  case atStart => exact ⟨0, Nat.zero_le _, rfl, rfl, rfl⟩
  case round =>
    obtain ⟨i, hi, rfl, htk, rfl⟩ := hrel
    rw [HN.out.1] at hi
    have HTK := Lib.hid htk
    clear htk
    by_cases hlt : i < n
    · have hil : i < l.length := by rw [HN.out.1]; exact hlt
      obtain ⟨b, off, rfl, -, hc⟩ := HN.out.2 (by omega)
      obtain ⟨A1, c1, A2, c2, -, d2, d3, k4, k5, k6, k7, -, -⟩ := hc i hil
      have hs := Lib.hid (List.take_succ_eq_append_getElem hil)
      generalize l[i] = p at d2 d3 k4 k6 hs
      have hsx : Hid (((l.take (i + 1)).all fun p => decide (p.2.2.1.length ≤ 860) && decide (p.2.1.length ≤ 20)) = (decide (p.2.2.1.length ≤ 860) && decide (p.2.1.length ≤ 20))) := Lib.hid (by rw [hs.out, List.all_append, HTK.out]; simp)
      have hno : Hid ((decide (p.2.2.1.length ≤ 860) && decide (p.2.1.length ≤ 20)) = false → fewP l = false) := Lib.hid (fun e => by
        have : (l.all fun p => decide (p.2.2.1.length ≤ 860) && decide (p.2.1.length ≤ 20)) = false := by
          rw [← List.take_append_drop (i + 1) l, List.all_append, hsx.out, e]; rfl
        unfold fewP; rw [this]; rfl)
      generalize p.2.2.1.length = x1 at d3 k6 hsx hno
      generalize p.2.1.length = x2 at d2 k4 hsx hno
      clear hc hs
      by_cases g1 : x1 ≤ 860
      case neg =>
        have q1 : decide ((x1 : Int) > 860) = true := decide_eq_true (by omega)
        have HF := Lib.hid (hno.out (by rw [decide_eq_false g1]; rfl))
        clear g1 hno hsx
        go_wp2
        go_ret
        exact ⟨by rw [HF.out]; rfl, rfl⟩
      have q1 : decide ((x1 : Int) > 860) = false := decide_eq_false (by omega)
      by_cases g2 : x2 ≤ 20
      case neg =>
        have q2 : decide ((x2 : Int) > 20) = true := decide_eq_true (by omega)
        have HF := Lib.hid (hno.out (by rw [decide_eq_false g2, Bool.and_false]))
        clear g1 g2 hno hsx
        go_wp2
        go_ret
        exact ⟨by rw [HF.out]; rfl, rfl⟩
      have q2 : decide ((x2 : Int) > 20) = false := decide_eq_false (by omega)
      have HX := Lib.hid (hsx.out.trans (by rw [decide_eq_true g1, decide_eq_true g2]))
      clear g1 g2 hno hsx
      go_wp2
      go_roundw
      case rel => exact ⟨i + 1, by omega, by go_num, HX.out, rfl⟩
      case measure => simp [intOf]; omega
    · obtain rfl : i = n := by omega
      have HF : Hid (fewP l = (decide (1 ≤ i) && decide (i ≤ 16))) := Lib.hid (by
        have := HTK.out
        rw [← HN.out.1, List.take_length] at this
        unfold fewP
        rw [this, HN.out.1]; rfl)
      by_cases g1 : 1 ≤ i
      case neg =>
        have q1 : decide ((i : Int) ≥ 1) = false := decide_eq_false (by omega)
        have HF := Lib.hid (HF.out.trans (by rw [decide_eq_false g1]))
        clear g1
        go_wp2
        go_ret
        exact ⟨by rw [HF.out]; rfl, rfl⟩
      have q1 : decide ((i : Int) ≥ 1) = true := decide_eq_true (by omega)
      by_cases g2 : i ≤ 16
      · have q2 : decide ((i : Int) ≤ 16) = true := decide_eq_true (by omega)
        have HF := Lib.hid (HF.out.trans (by rw [decide_eq_true g1, decide_eq_true g2]))
        clear g1 g2
        go_wp2
        go_ret
        exact ⟨by rw [HF.out]; rfl, rfl⟩
      · have q2 : decide ((i : Int) ≤ 16) = false := decide_eq_false (by omega)
        have HF := Lib.hid (HF.out.trans (by rw [decide_eq_false g2, Bool.and_false]))
        clear g1 g2
        go_wp2
        go_ret
        exact ⟨by rw [HF.out]; rfl, rfl⟩
end Go.Proofs.YthfdjemlibecgaaDoor

/- A place that any number says: what it answers. Condition: the numbers are Go's ints. -/
namespace Go.Proofs.YthfdjemlibecgaaDoor
open Go.RowKit
/-- The place below n that x says. -/
def pickN (x n : Int) : Nat := if n < 1 then 0 else (x % n).toNat
theorem pickN_lt (x n : Int) (h : 1 ≤ n) : (pickN x n : Int) < n := by
  unfold pickN
  rw [if_neg (by omega)]
  have h1 := Int.emod_nonneg x (show n ≠ 0 by omega)
  have h2 := Int.emod_lt_of_pos x (show 0 < n by omega)
  omega
set_option maxHeartbeats 400000 in
theorem pick_any (x n : Int) (hn : n ≤ 9223372036854775807) (hn1 : 1 ≤ n) (w : World) :
    Calls Tryd.prog 40 #[.int .i64 x, .int .i64 n] w fun e w' => e = .returned (.int .i64 (pickN x n)) ∧ w' = w := by
  have e1 : (pickN x n : Int) = x % n := by
    unfold pickN; rw [if_neg (by omega)]; have h1 := Int.emod_nonneg x (show n ≠ 0 by omega); omega
  rw [e1]
  clear e1
  have h1 := Int.emod_nonneg x (show n ≠ 0 by omega)
  have h2 := Int.emod_lt_of_pos x (show 0 < n by omega)
  have H1 : x.tmod n = (if 0 ≤ x ∨ x % n = 0 then x % n else x % n - n) := by
    rw [Int.tmod_eq_emod]
    have hd : n ∣ x ↔ x % n = 0 := Int.dvd_iff_emod_eq_zero
    by_cases h0 : 0 ≤ x
    · simp [h0]
    · by_cases h3 : x % n = 0
      · simp [h3, hd]
      · simp [h0, h3, hd]; omega
  obtain ⟨r, hr⟩ : ∃ r, r = x % n := ⟨_, rfl⟩
  rw [← hr] at h1 h2 H1 ⊢
  clear hr
  by_cases hp : 0 ≤ x ∨ r = 0
  · rw [if_pos hp] at H1
    have H := Lib.hid H1
    clear H1 hp
    have hn0 : (n == 0) = false := by rw [beq_eq_false_iff_ne]; omega
    go_enter Tryd.func40, Tryd.ntmps40
    go_wp2
    all_goals have h3 := H.out
    · exfalso; omega
    · go_ret
      exact ⟨ret_int h3, rfl⟩
  · rw [if_neg hp] at H1
    have H := Lib.hid H1
    clear H1 hp
    go_enter Tryd.func40, Tryd.ntmps40
    go_wp2
    all_goals have h3 := H.out
    · go_ret
      exact ⟨ret_int (by rw [h3, IntWalk.wrap64_in _ ⟨by omega, by omega⟩]; omega), rfl⟩
    · exfalso; omega
end Go.Proofs.YthfdjemlibecgaaDoor

/- The blocks that the law writes out of its parts. Plain facts. No condition. -/
namespace Go.Proofs.YthfdjemlibecgaaDoor
open Go.RowKit
def wnm (p : PartT) (i : Nat) : List RefT := if i = 0 then [] else (p.2.1.take 16).map fun x => wk (pickN x i)
def wbp (p : PartT) (i : Nat) : GBT := (1 + (pickN p.1 15 : Int), wk i, wnm p i, p.2.2.1, ())
def wb (l : List PartT) (i : Nat) : GBT := wbp (l.getD i (0, [], [], ())) i
theorem wb_at {l : List PartT} {i : Nat} (h : i < l.length) : wb l i = wbp l[i] i := by
  unfold wb
  rw [List.getD_eq_getElem?_getD, List.getElem?_eq_getElem h]; rfl
theorem few_at {l : List PartT} (h : fewP l = true) : (1 ≤ l.length ∧ l.length ≤ 16) ∧ ∀ i, (hi : i < l.length) → l[i].2.2.1.length ≤ 860 ∧ l[i].2.1.length ≤ 20 := by
  unfold fewP at h
  simp only [Bool.and_eq_true, List.all_eq_true, decide_eq_true_eq] at h
  exact ⟨h.2, fun i hi => h.1 _ (List.getElem_mem hi)⟩
theorem wk_ok {j : Nat} (h : j < 16) : refOk (wk j) = true := by
  unfold refOk wk
  simp only [Bool.and_eq_true, decide_eq_true_eq]
  omega
theorem wnm_mem {p : PartT} {i : Nat} {r : RefT} (h : r ∈ wnm p i) : ∃ j, j < i ∧ r = wk j := by
  unfold wnm at h
  split at h
  · cases h
  · rename_i h0
    obtain ⟨x, -, rfl⟩ := List.mem_map.1 h
    refine ⟨_, ?_, rfl⟩
    have := pickN_lt x (i : Int) (by omega)
    omega
theorem wnm_len (p : PartT) (i : Nat) : (wnm p i).length ≤ 16 := by
  unfold wnm
  split
  · exact Nat.zero_le _
  · rw [List.length_map, List.length_take]; omega
theorem wbp_ok {p : PartT} {i : Nat} (hi : i < 16) (hp : p.2.2.1.length ≤ 860) (r : RefT) (hr : refOk r = true) : GB.ok (1 + (pickN p.1 15 : Int), r, wnm p i, p.2.2.1, ()) = true := by
  have h1 := pickN_lt p.1 15 (by omega)
  simp only [GB.ok, Bool.and_eq_true, decide_eq_true_eq, List.all_eq_true]
  refine ⟨⟨⟨⟨⟨by omega, by omega⟩, hr⟩, wnm_len p i⟩, hp⟩, fun x hx => ?_⟩
  obtain ⟨j, hj, rfl⟩ := wnm_mem hx
  exact wk_ok (by omega)
theorem few_bks {l : List PartT} (h : fewP l = true) : Bks (wb l) l.length := by
  obtain ⟨⟨h1, h2⟩, h3⟩ := few_at h
  refine ⟨h1, h2, fun i hi => ?_, fun i hi => by rw [wb_at hi]; rfl, fun i hi r hr => ?_⟩
  · rw [wb_at hi]
    exact wbp_ok (by omega) (h3 i hi).1 _ (wk_ok (by omega))
  · rw [wb_at hi] at hr
    exact wnm_mem hr
theorem c16 {i : Nat} (h : i < 16) : acqN (cL 16 i) = (i : Int) + 1 ∧ acqE (cL 16 i) = 0 ∧ acqL (cL 16 i) = cL 16 (i + 1) := by
  have key : ∀ j : Fin 16, acqN (cL 16 j.1) = ((j.1 : Nat) : Int) + 1 ∧ acqE (cL 16 j.1) = 0 ∧ acqL (cL 16 j.1) = cL 16 (j.1 + 1) := by decide +kernel
  exact key ⟨i, h⟩
theorem c16_ok {i : Nat} (h : i ≤ 16) : SetOk (cL 16 i) ∧ (cL 16 i).length = 16 := by
  have hl : (cL 16 i).length = 16 := by unfold cL; simp; omega
  refine ⟨⟨by omega, fun k => ?_⟩, hl⟩
  unfold cL
  rw [List.getD_eq_getElem?_getD, List.getElem?_append]
  split
  · rw [List.getElem?_replicate]; split <;> simp
  · rw [List.getElem?_replicate]; split <;> simp
/-- The first blocks are written. -/
structure Wr (l : List PartT) (i : Nat) (d : Dsk) : Prop where
  rm : Rm d 16
  blk : ∀ j, j < i → gblk d ((j : Int) + 1) = GB.bytes (wb l j)
theorem wr_new (l : List PartT) : Wr l 0 (Dsk.new (104 + 4 * 16)) := ⟨⟨Dsk.Ok.new (by omega), rfl, Nat.le_refl _⟩, fun j hj => by omega⟩
theorem wr_write {l : List PartT} {i : Nat} {d : Dsk} (h : Wr l i d) (hf : fewP l = true) (hi : i < l.length) :
    ∃ d', gput ⟨16, cL 16 i, []⟩ d none (1 + (pickN l[i].1 15 : Int)) (wnm l[i] i) l[i].2.2.1 7 = ((0, wk i), ⟨16, cL 16 (i + 1), []⟩, d', none) ∧ Wr l (i + 1) d' := by
  obtain ⟨⟨h1, h2⟩, h3⟩ := few_at hf
  obtain ⟨k1, k2, k3⟩ := c16 (i := i) (by omega)
  obtain ⟨k4, k5⟩ := c16_ok (i := i) (by omega)
  obtain ⟨d', e1, e2, e3, e4, e5⟩ := gput_ok (g := ⟨16, cL 16 i, []⟩) (k := 1 + (pickN l[i].1 15 : Int)) (s := 7) (l := wnm l[i] i) (m := l[i].2.2.1) h.rm k5 k4 (wbp_ok (by omega) (h3 i hi).1 (1, 7, ()) (by decide)) k2
  simp only [k1, k3] at e1 e4 e5
  refine ⟨d', e1, ⟨e2, fun j hj => ?_⟩⟩
  by_cases hji : j = i
  · subst hji; rw [wb_at hi]; exact e4
  · rw [e5 ((j : Int) + 1) (by omega) (by show (j : Int) + 1 ≤ 16; omega) (by omega)]
    exact h.blk j (by omega)
/-- All are written: all of them stand there. -/
theorem wr_got {l : List PartT} {d : Dsk} (h : Wr l l.length d) {i : Nat} (hi : i < l.length) (hf : fewP l = true) {g : Grd} (hg : g.n = 16) : glook g d none (wk i) = (0, some (wb l i), g) ∧ gblk d (wk i).1 = GB.bytes (wb l i) := by
  have hb := few_bks hf
  have h1 := h.blk i hi
  have h2 := hb.ref i hi
  refine ⟨?_, h1⟩
  have ht : gthere d (wk i) = some (wb l i) := by rw [← h2]; exact gthere_some (hb.ok i hi) (by rw [h2]; exact h1)
  unfold glook
  rw [if_neg (by unfold Dsk.isOut; rw [h.rm.out]; simp), if_neg (by rw [wk_of hg (Nat.lt_of_lt_of_le hi hb.m16)]; simp), ht]
end Go.Proofs.YthfdjemlibecgaaDoor

/- What stands while the law writes its parts' blocks: the refs so far, the names of the next one. Conditions: as each says. -/
namespace Go.Proofs.YthfdjemlibecgaaDoor
open Go.RowKit
/-- The names that have been gathered, beside a grid. -/
structure NmS (B : Nat) (w1 : World) (Y : List Nat) (gp dp : Nat) (g : Grd) (d : Dsk) (xs : List RefT) (k : Nat) (v : Value) (W : World) : Prop where
  gx : GX B (v.ownBlock.toList ++ Y) W gp dp g d
  own : ∃ sp, OwnsC 23 2 W w1.heap.size v k (refCells (xs.take k)) sp
  st : GStep B Y w1 W
section
variable {B gp dp k : Nat} {Y E : List Nat} {w1 w W W' : World} {g : Grd} {d : Dsk} {xs : List RefT} {v v' : Value}
theorem NmS.nil (hx : GX B Y w1 gp dp g d) : NmS B w1 Y gp dp g d xs 0 (.slice none 0 0) w1 :=
  ⟨hx, ⟨[], OwnsC.nil _ _ _ _⟩, GStep.below (Below.refl _ _) hx.size hx.own⟩
theorem NmS.below (h : NmS B w1 Y gp dp g d xs k v W) (hb : Below W.heap.size W W') : NmS B w1 Y gp dp g d xs k v W' := by
  obtain ⟨h1, ⟨sp, h2⟩, h3⟩ := h
  have hS := h1.below hb
  exact ⟨hS.1, ⟨sp, hS.2.same.owns h2 (fun x hx => List.mem_append_left _ (Option.mem_toList.2 hx))⟩, h3.trans (hS.2.sub (fun _ hy => List.mem_append_right _ hy))⟩
theorem NmS.app (h : NmS B w1 Y gp dp g d xs k v W) (hlt : ∀ y ∈ Y, y < w1.heap.size) (hB : B ≤ w1.heap.size) (hk : k < xs.length) {sp' : List Value}
    (ho : OwnsC 23 2 W' w1.heap.size v' (k + 1) (refCells (xs.take k) ++ [.int .i64 xs[k].1, .int .i64 xs[k].2.1]) sp') (hg : W.grownBy W' v.ownBlock) (hv : v'.ownBlock = v.ownBlock ∨ v'.ownBlock = some W.heap.size) : NmS B w1 Y gp dp g d xs (k + 1) v' W' := by
  obtain ⟨h1, ⟨sp, h2⟩, h3⟩ := h
  obtain ⟨a1, a2, a3⟩ := h1.append hg (fun x hx => List.mem_append_left _ (Option.mem_toList.2 hx)) hv (fun x hx => (OwnsC.lt ho x hx).2) (fun x hx => Nat.le_trans hB (OwnsC.lt h2 x hx).1)
  refine ⟨a1.sub (fun y hy => ?_), ⟨sp', ?_⟩, h3.trans ⟨a2, a2.size, fun y hy => a3 y (List.mem_append_right _ hy) (fun e => ?_)⟩⟩
  · rcases List.mem_append.1 hy with hy | hy
    · exact List.mem_append_left _ hy
    · exact List.mem_append_right _ (List.mem_append_right _ hy)
  · rw [List.take_succ_eq_append_getElem hk, show refCells (xs.take k ++ [xs[k]]) = refCells (xs.take k) ++ [.int .i64 xs[k].1, .int .i64 xs[k].2.1] from refCells_snoc _ _ _]
    exact ho
  · have h4 := (OwnsC.lt h2 y e).1
    have := hlt y hy
    omega
/-- The refs that have been gathered, and the blocks. -/
structure WtS (B : Nat) (w : World) (Y : List Nat) (gp dp : Nat) (l : List PartT) (i : Nat) (v : Value) (d : Dsk) (W : World) : Prop where
  wr : Wr l i d
  gx : GX B (v.ownBlock.toList ++ Y) W gp dp ⟨16, cL 16 i, []⟩ d
  own : ∃ sp, OwnsC 23 2 W w.heap.size v i (refCells ((List.range i).map wk)) sp
  st : GStep B Y w W
theorem WtS.app {l : List PartT} {i : Nat} {d' : Dsk} (h : WtS B w Y gp dp l i v d w1) (hlt : ∀ y ∈ Y, y < w.heap.size) (hB : B ≤ w.heap.size) (hS : GStep B (v.ownBlock.toList ++ Y) w1 W) (hW : Wr l (i + 1) d') (hG : GX B (E ++ (v.ownBlock.toList ++ Y)) W gp dp ⟨16, cL 16 (i + 1), []⟩ d') {sp' : List Value}
    (ho : OwnsC 23 2 W' w.heap.size v' (i + 1) (refCells ((List.range i).map wk) ++ [.int .i64 (wk i).1, .int .i64 (wk i).2.1]) sp') (hg : W.grownBy W' v.ownBlock) (hv : v'.ownBlock = v.ownBlock ∨ v'.ownBlock = some W.heap.size) : WtS B w Y gp dp l (i + 1) v' d' W' := by
  obtain ⟨h0, h1, ⟨sp, h2⟩, h3⟩ := h
  have h2 := hS.same.owns h2 (fun x hx => List.mem_append_left _ (Option.mem_toList.2 hx))
  obtain ⟨a1, a2, a3⟩ := hG.append hg (fun x hx => List.mem_append_right _ (List.mem_append_left _ (Option.mem_toList.2 hx))) hv (fun x hx => (OwnsC.lt ho x hx).2) (fun x hx => Nat.le_trans hB (OwnsC.lt h2 x hx).1)
  refine ⟨hW, a1.sub (fun y hy => ?_), ⟨sp', ?_⟩, (h3.trans (hS.sub (fun _ hy => List.mem_append_right _ hy))).trans ⟨a2, a2.size, fun y hy => a3 y (List.mem_append_right _ (List.mem_append_right _ hy)) (fun e => ?_)⟩⟩
  · rcases List.mem_append.1 hy with hy | hy
    · exact List.mem_append_left _ hy
    · exact List.mem_append_right _ (List.mem_append_right _ (List.mem_append_right _ hy))
  · rw [List.range_succ, List.map_append, show refCells ((List.range i).map wk ++ [i].map wk) = refCells ((List.range i).map wk) ++ [.int .i64 (wk i).1, .int .i64 (wk i).2.1] from refCells_snoc _ _ _]
    exact ho
  · have h4 := (OwnsC.lt h2 y e).1
    have := hlt y hy
    omega
end
theorem wnm_length (p : PartT) (i : Nat) (hi : i ≠ 0) : (wnm p i).length = min 16 p.2.1.length := by
  unfold wnm
  rw [if_neg hi, List.length_map, List.length_take]
theorem wnm_get {p : PartT} {i k : Nat} (hi : i ≠ 0) (hk : k < (wnm p i).length) (h : k < p.2.1.length) : (wnm p i)[k] = wk (pickN p.2.1[k] i) := by
  simp only [wnm, if_neg hi, List.getElem_map, List.getElem_take]
end Go.Proofs.YthfdjemlibecgaaDoor
