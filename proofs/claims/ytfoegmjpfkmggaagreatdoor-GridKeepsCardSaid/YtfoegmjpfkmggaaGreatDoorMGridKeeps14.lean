/- A grid that a statement made: its calls, and which blocks stay. Conditions: as each says. -/
import Derived.Test.YtfoegmjpfkmggaaGreatDoorMGridKeeps13
import Derived.Test.YtfoegmjpfkmggaaGreatDoorProg
namespace Go.Proofs.YtfoegmjpfkmggaaGreatDoor
open Go.RowKit
section
variable {B gp dp : Nat} {Y Y' : List Nat} {w w' w'' : World} {g g2 : Grd} {d d2 : Dsk}
/-- A block is read. -/
theorem xtread (h : GX B Y w gp dp g d) (hl : g.W.length ≤ 1000000000) (r : RefT) {c : Int} {o : Option GBT} (hg : glook g d none r = (c, o, g2)) :
    Calls Tryz.prog 52 #[.pointer (some ⟨gp, 0, none⟩), .agg #[.int .i64 r.1, .int .i64 r.2.1]] w fun e w' => ∃ v1, e = .returned (.tuple #[v1, .int .i64 c]) ∧ (∃ v2, GBTold o (gblk d r.1) w v1 v2 w') ∧ GX B Y w' gp dp g2 d ∧ TS B Y w w' ∧ (o.isSome = true → Below w.heap.size w w') := by
  obtain ⟨q, h1, h2, h3, h4, h5, h6, h7⟩ := h
  have hr := gread_any h4 (by omega) r
  rw [hg, h1] at hr
  refine hr.mono ?_
  rintro e w' ⟨v1, rfl, hT, hP⟩
  have := GX.postT h4 h1 h2 h3 h5 h6 h7 hP.1
  exact ⟨v1, rfl, hT, this.1, this.2, hP.2⟩
theorem xtraw (h : GX B Y w gp dp g d) (hl : g.W.length ≤ 1000000000) (r : RefT) {b : GBT} (hg : glook g d none r = (0, some b, g)) :
    Calls Tryz.prog 54 #[.pointer (some ⟨gp, 0, none⟩), .agg #[.int .i64 r.1, .int .i64 r.2.1]] w fun e w' => ∃ y, e = .returned (.tuple #[.slice (some ⟨y, 0, none⟩) (gblk d r.1).length (gblk d r.1).length, .int .i64 0]) ∧
      Blk w' y 5 ((gblk d r.1).map u8v).toArray ∧ w.heap.size ≤ y ∧ GX B Y w' gp dp g d ∧ TS B Y w w' ∧ Below w.heap.size w w' := by
  have h0 := h
  obtain ⟨q, h1, h2, h3, h4, h5, h6, h7⟩ := h
  have hr := graw_any h4 (by omega) r
  rw [hg, h1] at hr
  refine hr.mono ?_
  rintro e w' ⟨v2, rfl, ⟨v1, A, c, C0, e1, C, -, rfl, -, -, -, -, -, hC, -, -⟩, hP⟩
  obtain ⟨y, rfl, hy, hb⟩ := hC rfl
  have hbx := hP.2 rfl
  exact ⟨y, rfl, hb, hy, (h0.belowT hbx).1, (h0.belowT hbx).2, hbx⟩
theorem xtwrite (h : GX B Y w gp dp g d) (k s : Int) (A C : Option Addr) (n c m e1 : Nat) (l : List RefT) (body : List UInt8) (hn : n = l.length) (hm : m = body.length) (hl : l.length ≤ 1000) (hbl : body.length ≤ 5000) (hr : Refs w A l) (hb : Bytes w C body) (hT : Tab w) {c0 : Int} {r : RefT} (hg : gput g d none k l body s = ((c0, r), g2, d2, none)) :
    Calls Tryz.prog 109 #[.pointer (some ⟨gp, 0, none⟩), .int .i64 k, .slice A n c, .slice C m e1, .int .i64 s] w fun e w' => e = .returned (.tuple #[.agg #[.int .i64 r.1, .int .i64 r.2.1], .int .i64 c0]) ∧ GX B Y w' gp dp g2 d2 ∧ TS B Y w w' := by
  obtain ⟨q, h1, h2, h3, h4, h5, h6, h7⟩ := h
  have hw := gwrite_any h4 k s A C n c m e1 l body hn hm hl hbl hr hb hT
  rw [hg, h1] at hw
  refine hw.mono ?_
  rintro e w' ⟨rfl, hP⟩
  exact ⟨rfl, GX.postT h4 h1 h2 h3 h5 h6 h7 hP⟩
theorem xtrelease (h : GX B Y w gp dp g d) (r : RefT) (hb1 : -9223372036854775808 ≤ r.1) (hb2 : r.1 ≤ 9223372036854775807) :
    Calls Tryz.prog 59 #[.pointer (some ⟨gp, 0, none⟩), .agg #[.int .i64 r.1, .int .i64 r.2.1]] w fun e w' => e = .returned (.int .i64 (turnCode g.L r.1 1)) ∧ GX B Y w' gp dp { g with L := turnL g.L r.1 1 2 } d ∧ TS B Y w w' := by
  obtain ⟨q, h1, h2, h3, h4, h5, h6, h7⟩ := h
  have hr := grelease_any h4 r hb1 hb2
  rw [h1] at hr
  refine hr.mono ?_
  rintro e w' ⟨rfl, hP⟩
  exact ⟨rfl, GX.postT h4 h1 h2 h3 h5 h6 h7 hP⟩
theorem xtsettle (h : GX B Y w gp dp g d) :
    Calls Tryz.prog 61 #[.pointer (some ⟨gp, 0, none⟩)] w fun e w' => e = .returned (.int .i64 (cnt g.L g.L.length : Nat)) ∧ GX B Y w' gp dp { g with L := setl g.L } d ∧ TS B Y w w' := by
  obtain ⟨q, h1, h2, h3, h4, h5, h6, h7⟩ := h
  have hr := gsettle_any h4
  rw [h1] at hr
  refine hr.mono ?_
  rintro e w' ⟨rfl, hP⟩
  exact ⟨rfl, GX.postT h4 h1 h2 h3 h5 h6 h7 hP⟩
theorem xtflush (h : GX B Y w gp dp g d) {c0 : Int} (hg : d.flush none = (c0, d2, none)) :
    Calls Tryz.prog 64 #[.pointer (some ⟨gp, 0, none⟩)] w fun e w' => e = .returned (.int .i64 c0) ∧ GX B Y w' gp dp g d2 ∧ TS B Y w w' := by
  obtain ⟨q, h1, h2, h3, h4, h5, h6, h7⟩ := h
  have hr := gflush_any h4
  rw [h1, hg] at hr
  refine hr.mono ?_
  rintro e w' ⟨rfl, hP⟩
  exact ⟨rfl, GX.postT h4 h1 h2 h3 h5 h6 h7 hP⟩
/-- The set's bytes. -/
theorem xtfree (h : GX B Y w gp dp g d) :
    Calls Tryz.prog 65 #[.pointer (some ⟨gp, 0, none⟩)] w fun e w' => e = .returned (.slice (some ⟨w.heap.size, 0, none⟩) (2 + (g.L.length + 3) / 4) (2 + (g.L.length + 3) / 4)) ∧ Blk w' w.heap.size 5 ((enc g.L).map u8v).toArray ∧ GX B Y w' gp dp g d ∧ TS B Y w w' := by
  have h0 := h
  obtain ⟨q, h1, h2, h3, h4, h5, h6, h7⟩ := h
  have hr := gfree_any h4
  rw [h1] at hr
  refine hr.mono ?_
  rintro e w' ⟨rfl, hb, hbx⟩
  exact ⟨rfl, hb, (h0.belowT hbx).1, (h0.belowT hbx).2⟩
theorem xtinstall (h : GX B Y w gp dp g d) (hl : g.W.length ≤ 1000000000) (r : RefT) (y : Nat) (raw : List UInt8) (n : Nat) (hn : n = raw.length) (hln : raw.length ≤ 9223372036854775807) (hb : Blk w y 5 (raw.map u8v).toArray) {c0 : Int} (hg : ginst g d none r raw = (c0, g2, d2, none)) :
    Calls Tryz.prog 56 #[.pointer (some ⟨gp, 0, none⟩), .agg #[.int .i64 r.1, .int .i64 r.2.1], .slice (some ⟨y, 0, none⟩) n n] w fun e w' => e = .returned (.int .i64 c0) ∧ GX B Y w' gp dp g2 d2 ∧ TS B Y w w' := by
  subst hn
  obtain ⟨q, h1, h2, h3, h4, h5, h6, h7⟩ := h
  have hr := ginstall_any h4 (by omega) r (some ⟨y, 0, none⟩) raw.length raw.length raw rfl (Nat.le_refl _) hln hb.bytes (fun ad e hm => by cases e; exact h4.dk.off hb (by decide) (by decide) (by decide) hm)
  rw [hg, h1] at hr
  refine hr.mono ?_
  rintro e w' ⟨rfl, hP⟩
  exact ⟨rfl, GX.postT h4 h1 h2 h3 h5 h6 h7 hP⟩
/-- Sectors of the disk are read. -/
theorem xtdread (h : GX B Y w gp dp g d) (a n : Int) {l : List UInt8} (hg : d.read none a n = (l, 0)) :
    Calls Tryz.prog 39 #[.pointer (some ⟨dp, 0, none⟩), .int .i64 a, .int .i64 n] w fun e w' => ∃ y, e = .returned (.tuple #[.slice (some ⟨y, 0, none⟩) l.length l.length, .int .i64 0]) ∧ w.heap.size ≤ y ∧ Blk w' y 5 (l.map u8v).toArray ∧ GX B Y w' gp dp g d ∧ TS B Y w w' ∧ Below w.heap.size w w' := by
  have h0 := h
  obtain ⟨q, h1, h2, h3, h4, h5, h6, h7⟩ := h
  have hr := read_all a n h4.dk.dr h4.dk.fr h4.dk.ok
  rw [hg, h2] at hr
  refine hr.mono ?_
  rintro e w' ⟨A, rfl, hA, hbx⟩
  rcases hA with ⟨-, y, rfl, hy, hb⟩ | ⟨hA, -⟩
  · exact ⟨y, rfl, hy, hb, (h0.belowT hbx).1, (h0.belowT hbx).2, hbx⟩
  · exact absurd rfl hA
/-- The grid is opened anew. -/
theorem xtopen (h : GX B Y w gp dp g d) (ho : d.isOut none = false) (y : Nat) (b : List UInt8) (n : Nat) (hn : n = b.length) (hb : Blk w y 5 (b.map u8v).toArray) (hl : b.length ≤ 9223372036854775807) (hr1 : rdOk b = true) (hr2 : (rd b).length = g.n) :
    Calls Tryz.prog 114 #[.pointer (some ⟨dp, 0, none⟩), .int .i64 (g.n : Int), .slice (some ⟨y, 0, none⟩) n n] w fun e w' => ∃ gp', e = .returned (.tuple #[.pointer (some ⟨gp', 0, none⟩), .int .i64 0]) ∧ GX B Y w' gp' dp ⟨g.n, rd b, []⟩ d ∧ TS B Y w w' := by
  obtain ⟨q, h1, h2, h3, h4, h5, h6, h7⟩ := h
  have hr := gopen_any h4.dk ho g.n h4.ok.h1 h4.ok.h512 h4.ok.room (some ⟨y, 0, none⟩) n n b hn hb.bytes hl
  rw [h2] at hr
  refine hr.mono ?_
  rintro e w' hP
  unfold GOpenPost at hP
  rw [if_pos ⟨hr1, hr2⟩] at hP
  obtain ⟨⟨q', k1, k2, rfl, k3, k4⟩, hN⟩ := hP
  have hin : ∀ x ∈ q.p.all q.gf, x ∈ q.all := fun x hx => GPl.mem.2 (.inr (.inr (.inr (.inr hx))))
  refine ⟨q'.gg, rfl, ⟨q', rfl, (congrArg Pl.gd k1).trans h2, k2.trans h3, k3, fun x hx => ?_, fun y hy => Nat.lt_of_lt_of_le (h6 y hy) hN.size, Nat.le_trans h7 hN.size⟩, ⟨⟨hN.toBelow (fun x hx => (h5 x (hin x hx)).1) h7, Same.near hN fun y hy => ⟨h6 y hy, fun hm => (h5 y (hin y hm)).2 hy⟩⟩, ⟨_, hN, fun x hx t cs hb ht => h4.offT hb ht (hin x hx)⟩⟩⟩
  rcases k4 x hx with e | e
  · exact h5 x (hin x e)
  · exact ⟨Nat.le_trans h7 e, fun hm => by have := h6 x hm; omega⟩
end
end Go.Proofs.YtfoegmjpfkmggaaGreatDoor

/- A walk is stopped in an arm, and goes on in the open. Plain facts. No condition. -/
namespace Go.Proofs.YtfoegmjpfkmggaaGreatDoor
structure Stopped (p : Prop) : Prop where
  go : p
theorem stopped {p : Prop} (h : Stopped p) : p := h.go
end Go.Proofs.YtfoegmjpfkmggaaGreatDoor

/- A place that any number says: what it answers. Condition: the numbers are Go's ints. -/
namespace Go.Proofs.YtfoegmjpfkmggaaGreatDoor
open Go.RowKit
/-- The place below n that x says. -/
def pickN (x n : Int) : Nat := if n < 1 then 0 else (x % n).toNat
theorem pickN_lt (x n : Int) (h : 1 ≤ n) : (pickN x n : Int) < n := by
  unfold pickN
  rw [if_neg (by omega)]
  have h1 := Int.emod_nonneg x (show n ≠ 0 by omega)
  have h2 := Int.emod_lt_of_pos x (show 0 < n by omega)
  omega
set_option maxHeartbeats 400000 in
theorem pick_any (x n : Int) (hn : n ≤ 9223372036854775807) (hn1 : 1 ≤ n) (w : World) :
    Calls Tryz.prog 11 #[.int .i64 x, .int .i64 n] w fun e w' => e = .returned (.int .i64 (pickN x n)) ∧ w' = w := by
  have e1 : (pickN x n : Int) = x % n := by
    unfold pickN; rw [if_neg (by omega)]; have h1 := Int.emod_nonneg x (show n ≠ 0 by omega); omega
  rw [e1]
  clear e1
  have h1 := Int.emod_nonneg x (show n ≠ 0 by omega)
  have h2 := Int.emod_lt_of_pos x (show 0 < n by omega)
  have H1 : x.tmod n = (if 0 ≤ x ∨ x % n = 0 then x % n else x % n - n) := by
    rw [Int.tmod_eq_emod]
    have hd : n ∣ x ↔ x % n = 0 := Int.dvd_iff_emod_eq_zero
    by_cases h0 : 0 ≤ x
    · simp [h0]
    · by_cases h3 : x % n = 0
      · simp [h3, hd]
      · simp [h0, h3, hd]; omega
  obtain ⟨r, hr⟩ : ∃ r, r = x % n := ⟨_, rfl⟩
  rw [← hr] at h1 h2 H1 ⊢
  clear hr
  by_cases hp : 0 ≤ x ∨ r = 0
  · rw [if_pos hp] at H1
    have H := Lib.hid H1
    clear H1 hp
    have hn0 : (n == 0) = false := by rw [beq_eq_false_iff_ne]; omega
    go_enter Tryz.func11, Tryz.ntmps11
    go_wp2
    all_goals have h3 := H.out
    · exfalso; omega
    · go_ret
      exact ⟨ret_int h3, rfl⟩
  · rw [if_neg hp] at H1
    have H := Lib.hid H1
    clear H1 hp
    go_enter Tryz.func11, Tryz.ntmps11
    go_wp2
    all_goals have h3 := H.out
    · go_ret
      exact ⟨ret_int (by rw [h3, IntWalk.wrap64_in _ ⟨by omega, by omega⟩]; omega), rfl⟩
    · exfalso; omega
end Go.Proofs.YtfoegmjpfkmggaaGreatDoor

/- How a loop's measure falls; a byte of a number; a grid's list when the first blocks are taken. Plain facts. No condition. -/
namespace Go.Proofs.YtfoegmjpfkmggaaGreatDoor
open Go.RowKit
theorem meas_up {m i : Nat} {a b : Value} (ha : intOf a = ((i + 1 : Nat) : Int)) (hb : intOf b = (i : Int)) (h : i < m) : m - (intOf a).toNat < m - (intOf b).toNat := by rw [ha, hb]; omega
end Go.Proofs.YtfoegmjpfkmggaaGreatDoor

/- GridKeeps: the statement's own lists of blocks; all that is there is read as it was. Conditions: as each says. -/
namespace Go.Proofs.YtfoegmjpfkmggaaGreatDoor
open Go.RowKit
theorem infoGB : (Tryz.prog.info? 116).map (fun i => (i.zero, i.size, i.bytes)) = some (some (.agg zeroGB), 5, 72) := by kernel_rfl
/-- A block and where its lists lie. -/
abbrev KB := GBT × Option Addr × Nat × Option Addr × Nat
def kcs (x : KB) : List Value := [.int .i64 x.1.1, .int .i64 x.1.2.1.1, .int .i64 x.1.2.1.2.1, .slice x.2.1 x.1.2.2.1.length x.2.2.1, .slice x.2.2.2.1 x.1.2.2.2.1.length x.2.2.2.2]
def kcells (l : List KB) : List Value := l.flatMap kcs
theorem kcells_length (l : List KB) : (kcells l).length = l.length * 5 := by
  unfold kcells
  induction l with
  | nil => rfl
  | cons x l ih => rw [List.flatMap_cons, List.length_append, ih, List.length_cons]; show 5 + l.length * 5 = _; omega
theorem kcells_app (l m : List KB) : kcells (l ++ m) = kcells l ++ kcells m := by unfold kcells; rw [List.flatMap_append]
theorem kcells_one (l : List KB) : ∀ u ∈ kcells l, u.oneCell' = true := by
  intro u hu
  unfold kcells at hu
  obtain ⟨x, -, hx⟩ := List.mem_flatMap.1 hu
  unfold kcs at hx
  simp only [List.mem_cons, List.not_mem_nil, or_false] at hx
  rcases hx with rfl | rfl | rfl | rfl | rfl <;> rfl
theorem kcells_at : ∀ (l : List KB) (i : Nat) (x : KB), l[i]? = some x → ∀ j v, (kcs x)[j]? = some v → (kcells l)[i * 5 + j]? = some v
  | [], i, x, h, _, _, _ => by simp at h
  | y :: l, 0, x, h, j, v, hv => by
    obtain rfl : y = x := by simpa using h
    have hj : j < 5 := by have := (List.getElem?_eq_some_iff.1 hv).1; simpa [kcs] using this
    show (kcs y ++ kcells l)[0 * 5 + j]? = _
    rw [List.getElem?_append_left (by show 0 * 5 + j < 5; omega), show 0 * 5 + j = j by omega]; exact hv
  | y :: l, i + 1, x, h, j, v, hv => by
    show (kcs y ++ kcells l)[(i + 1) * 5 + j]? = _
    rw [List.getElem?_append_right (by show 5 ≤ _; omega), show (i + 1) * 5 + j - (kcs y).length = i * 5 + j by show _ - 5 = _; omega]
    exact kcells_at l i x (by simpa using h) j v hv
structure KBok (w : World) (B : Nat) (Y : List Nat) (x : KB) : Prop where
  refs : Refs w x.2.1 x.1.2.2.1
  body : Bytes w x.2.2.2.1 x.1.2.2.2.1
  rY : ∀ ad, x.2.1 = some ad → ad.block ∈ Y
  bB : x.1.2.2.2.1 ≠ [] → ∀ ad, x.2.2.2.1 = some ad → ad.block < B
section
variable {w w' : World} {B : Nat} {Y Y' : List Nat} {x : KB}
theorem KBok.step (h : KBok w B Y x) (k : GStep B Y w w') : KBok w' B Y x := ⟨k.same.refs h.refs h.rY, fun hne => by
    obtain ⟨b, off, e, hc⟩ := h.body hne
    refine ⟨b, off, e, fun j v hv => ?_⟩
    have h1 := hc j v hv
    exact (k.bel.cell (p := ⟨b, off + j, none⟩) (show b < B from h.bB (fun e => hne (by rw [e]; rfl)) ⟨b, off, none⟩ e)).trans h1, h.rY, h.bB⟩
theorem KBok.more (h : KBok w B Y x) (hs : ∀ y ∈ Y, y ∈ Y') : KBok w B Y' x := ⟨h.refs, h.body, fun ad e => hs _ (h.rY ad e), h.bB⟩
theorem KBok.below (h : KBok w B Y x) (k : Below w.heap.size w w') : KBok w' B Y x := ⟨h.refs.below k, Bytes.below h.body k, h.rY, h.bB⟩
end
theorem _root_.Go.Bytes.lowB {w w' : World} {B : Nat} {A : Option Addr} {l : List UInt8} (h : Bytes w A l) (hA : l ≠ [] → ∀ ad, A = some ad → ad.block < B) (k : Below B w w') (_hB : B ≤ w.heap.size) : Bytes w' A l := fun hne => by
  obtain ⟨b, off, e, hc⟩ := h hne
  exact ⟨b, off, e, fun j v hv => (k.cell (p := ⟨b, off + j, none⟩) (show b < B from hA (fun e => hne (by rw [e]; rfl)) ⟨b, off, none⟩ e)).trans (hc j v hv)⟩
/-- The statement's life block, its grid, its lists. -/
structure Lf (B : Nat) (Y : List Nat) (w : World) (xp gp dp n : Nat) (g : Grd) (d : Dsk) (L G : List KB) : Prop where
  gx : GX B Y w gp dp g d
  xb : ∃ vl vg sl sg, Blk w xp 71 #[.pointer (some ⟨dp, 0, none⟩), .pointer (some ⟨gp, 0, none⟩), vl, vg, .int .i64 (n : Int)] ∧ OwnsC 116 5 w B vl L.length (kcells L) sl ∧ OwnsC 116 5 w B vg G.length (kcells G) sg ∧ ∀ k, vl.ownBlock = some k → vg.ownBlock ≠ some k
  ks : ∀ x ∈ L ++ G, KBok w B Y x
  lif : Lif n g d (L.map Prod.fst) (G.map Prod.fst)
  xB : B ≤ xp
  yR : ∀ y ∈ Y, ∃ cs, Blk w y 113 cs
section
variable {B xp gp dp n : Nat} {Y : List Nat} {w w' : World} {g : Grd} {d : Dsk} {L G : List KB}
theorem Lf.below (h : Lf B Y w xp gp dp n g d L G) (k : Below w.heap.size w w') : Lf B Y w' xp gp dp n g d L G := by
  obtain ⟨vl, vg, sl, sg, h1, h2, h3, h4⟩ := h.xb
  exact ⟨(h.gx.below k).1, ⟨vl, vg, sl, sg, h1.below k h1.lt, h2.ownBelow k, h3.ownBelow k, h4⟩, fun x hx => (h.ks x hx).below k, h.lif, h.xB, fun y hy => by obtain ⟨cs, hb⟩ := h.yR y hy; exact ⟨cs, hb.below k hb.lt⟩⟩
/-- A call of the grid or of its disk. -/
theorem Lf.ts {g2 : Grd} {d2 : Dsk} (h : Lf B Y w xp gp dp n g d L G) (hG : GX B Y w' gp dp g2 d2) (hS : TS B Y w w') (hL : Lif n g2 d2 (L.map Prod.fst) (G.map Prod.fst)) : Lf B Y w' xp gp dp n g2 d2 L G := by
  obtain ⟨vl, vg, sl, sg, h1, h2, h3, h4⟩ := h.xb
  exact ⟨hG, ⟨vl, vg, sl, sg, hS.so.blk h1 (by unfold NG; decide), OwnsC.soft h2 hS.so (by unfold NG; decide), OwnsC.soft h3 hS.so (by unfold NG; decide), h4⟩, fun x hx => (h.ks x hx).step hS.st, hL, h.xB, fun y hy => by
    obtain ⟨cs, hb⟩ := h.yR y hy; exact ⟨cs, hS.st.same.blk hb hy⟩⟩
/-- The statement writes blocks of its own. -/
theorem Lf.nearG {X : List Nat} (h : Lf B Y w xp gp dp n g d L G) (k : Near X w w') (hX : ∀ x ∈ X, B ≤ x ∧ ∃ t cs, Blk w x t cs ∧ NG t) : GX B Y w' gp dp g d ∧ GStep B Y w w' ∧ (∀ x ∈ L ++ G, KBok w' B Y x) ∧ ∀ y ∈ Y, ∃ cs, Blk w' y 113 cs := by
  have hy : ∀ y ∈ Y, y < w.heap.size ∧ y ∉ X := fun y hy => by
    obtain ⟨cs, hb⟩ := h.yR y hy
    refine ⟨hb.lt, fun hm => ?_⟩
    obtain ⟨-, t, cs', hb', ht⟩ := hX y hm
    exact hb'.apart hb ht.2.2.1 rfl
  have hS : GStep B Y w w' := ⟨k.toBelow (fun x hx => (hX x hx).1) h.gx.size, Same.near k hy⟩
  exact ⟨h.gx.nearT k (fun x hx => (hX x hx).2), hS, fun x hx => (h.ks x hx).step hS, fun y hm => by obtain ⟨cs, hb⟩ := h.yR y hm; exact ⟨cs, hS.same.blk hb hm⟩⟩
/-- A list of refs of the statement's own. -/
theorem Lf.addY {w0 : World} {y : Nat} {cs : Array Value} (h : Lf B Y w xp gp dp n g d L G) (h0 : GX B Y w0 gp dp g d) (k : Below w0.heap.size w0 w) (hy : w0.heap.size ≤ y) (hb : Blk w y 113 cs) : Lf B (y :: Y) w xp gp dp n g d L G :=
  ⟨h0.add k hy hb.lt, h.xb, fun x hx => (h.ks x hx).more fun z hz => List.mem_cons_of_mem _ hz, h.lif, h.xB, fun z hz => by
    rcases List.mem_cons.1 hz with rfl | hz
    · exact ⟨_, hb⟩
    · exact h.yR z hz⟩
theorem Lf.few (h : Lf B Y w xp gp dp n g d L G) : L.length + G.length ≤ 12 ∧ L.length ≤ 12 ∧ G.length ≤ 12 := by
  have h1 := h.lif.count
  have h2 := h.lif.n12
  have h3 : ((List.range n).filter fun i => decide (g.L.getD i 0 ≠ 0)).length ≤ n := Nat.le_trans (List.length_filter_le _ _) (by simp)
  rw [h1, List.length_map, List.length_map] at h3
  omega
theorem Lf.mem (_h : Lf B Y w xp gp dp n g d L G) {x : KB} (hx : x ∈ L ++ G) : x.1 ∈ L.map Prod.fst ++ G.map Prod.fst := by
  rw [← List.map_append]
  exact List.mem_map_of_mem hx
theorem Lf.w0 (h : Lf B Y w xp gp dp n g d L G) : g.W.length ≤ 1000000000 := by rw [h.lif.w0]; simp
end
theorem ownApart {w : World} {B k xp : Nat} {v : Value} {xs sp : List Value} {cs : Array Value} {t : TypeId} (h : OwnsC 116 5 w B v k xs sp) (hx : Blk w xp t cs) (ht : t ≠ 116) : ∀ b, v.ownBlock = some b → b ∉ [xp] := fun b hb hm => by
  obtain ⟨cs', hb'⟩ := ownBlk h hb
  exact hx.apart hb' ht (List.mem_singleton.1 hm).symm
/-- The grid as it is, and what stayed since a world. -/
structure MS (B : Nat) (Y : List Nat) (gp dp : Nat) (g : Grd) (d : Dsk) (w0 w : World) : Prop where
  gx : GX B Y w gp dp g d
  st : GStep B Y w0 w
  yR : ∀ y ∈ Y, ∃ cs, Blk w y 113 cs
section
variable {B gp dp : Nat} {Y : List Nat} {w0 w w' : World} {g : Grd} {d : Dsk} {X : List Nat}
theorem MS.below (h : MS B Y gp dp g d w0 w) (k : Below w.heap.size w w') : MS B Y gp dp g d w0 w' :=
  ⟨(h.gx.below k).1, h.st.trans (h.gx.below k).2, fun y hy => by obtain ⟨cs, hb⟩ := h.yR y hy; exact ⟨cs, hb.below k hb.lt⟩⟩
theorem MS.near (h : MS B Y gp dp g d w0 w) (k : Near X w w') (hX : ∀ x ∈ X, B ≤ x ∧ ∃ t cs, Blk w x t cs ∧ NG t) : MS B Y gp dp g d w0 w' := by
  have hy : ∀ y ∈ Y, y < w.heap.size ∧ y ∉ X := fun y hy => by
    obtain ⟨cs, hb⟩ := h.yR y hy
    refine ⟨hb.lt, fun hm => ?_⟩
    obtain ⟨-, t, cs', hb', ht⟩ := hX y hm
    exact hb'.apart hb ht.2.2.1 rfl
  exact ⟨h.gx.nearT k (fun x hx => (hX x hx).2), h.st.trans ⟨k.toBelow (fun x hx => (hX x hx).1) h.gx.size, Same.near k hy⟩, fun y hm => by
    obtain ⟨cs, hb⟩ := h.yR y hm
    exact ⟨cs, hb.near k (hy y hm).2⟩⟩
end
/-- The same, its lists known. -/
structure LfV (B : Nat) (Y : List Nat) (w : World) (xp gp dp n : Nat) (g : Grd) (d : Dsk) (L G : List KB) (vl vg : Value) (sl sg : List Value) : Prop where
  gx : GX B Y w gp dp g d
  xb : Blk w xp 71 #[.pointer (some ⟨dp, 0, none⟩), .pointer (some ⟨gp, 0, none⟩), vl, vg, .int .i64 (n : Int)]
  ol : OwnsC 116 5 w B vl L.length (kcells L) sl
  og : OwnsC 116 5 w B vg G.length (kcells G) sg
  ne : ∀ k, vl.ownBlock = some k → vg.ownBlock ≠ some k
  ks : ∀ x ∈ L ++ G, KBok w B Y x
  lif : Lif n g d (L.map Prod.fst) (G.map Prod.fst)
  xB : B ≤ xp
  yR : ∀ y ∈ Y, ∃ cs, Blk w y 113 cs
theorem Lf.v {B : Nat} {Y : List Nat} {w : World} {xp gp dp n : Nat} {g : Grd} {d : Dsk} {L G : List KB} (h : Lf B Y w xp gp dp n g d L G) : ∃ vl vg sl sg, LfV B Y w xp gp dp n g d L G vl vg sl sg := by
  obtain ⟨vl, vg, sl, sg, h1, h2, h3, h4⟩ := h.xb
  exact ⟨vl, vg, sl, sg, h.gx, h1, h2, h3, h4, h.ks, h.lif, h.xB, h.yR⟩
section
variable {B xp gp dp n : Nat} {Y : List Nat} {w w' : World} {g : Grd} {d : Dsk} {L G : List KB} {vl vg : Value} {sl sg : List Value}
theorem LfV.lf (h : LfV B Y w xp gp dp n g d L G vl vg sl sg) : Lf B Y w xp gp dp n g d L G := ⟨h.gx, ⟨vl, vg, sl, sg, h.xb, h.ol, h.og, h.ne⟩, h.ks, h.lif, h.xB, h.yR⟩
theorem LfV.below (h : LfV B Y w xp gp dp n g d L G vl vg sl sg) (k : Below w.heap.size w w') : LfV B Y w' xp gp dp n g d L G vl vg sl sg := by
  have := h.lf.below k
  exact ⟨this.gx, h.xb.below k h.xb.lt, h.ol.ownBelow k, h.og.ownBelow k, h.ne, this.ks, h.lif, h.xB, this.yR⟩
theorem LfV.ts {g2 : Grd} {d2 : Dsk} (h : LfV B Y w xp gp dp n g d L G vl vg sl sg) (hG : GX B Y w' gp dp g2 d2) (hS : TS B Y w w') (hL : Lif n g2 d2 (L.map Prod.fst) (G.map Prod.fst)) : LfV B Y w' xp gp dp n g2 d2 L G vl vg sl sg := by
  have := h.lf.ts hG hS hL
  exact ⟨hG, hS.so.blk h.xb (by unfold NG; decide), OwnsC.soft h.ol hS.so (by unfold NG; decide), OwnsC.soft h.og hS.so (by unfold NG; decide), h.ne, this.ks, hL, h.xB, this.yR⟩
theorem LfV.addY {w0 : World} {y : Nat} {cs : Array Value} (h : LfV B Y w xp gp dp n g d L G vl vg sl sg) (h0 : GX B Y w0 gp dp g d) (k : Below w0.heap.size w0 w) (hy : w0.heap.size ≤ y) (hb : Blk w y 113 cs) : LfV B (y :: Y) w xp gp dp n g d L G vl vg sl sg := by
  have := h.lf.addY h0 k hy hb
  exact ⟨this.gx, h.xb, h.ol, h.og, h.ne, this.ks, h.lif, h.xB, this.yR⟩
/-- Blocks of the statement's own are written, but its life and its lists. -/
theorem LfV.near {X : List Nat} (h : LfV B Y w xp gp dp n g d L G vl vg sl sg) (k : Near X w w') (hX : ∀ x ∈ X, B ≤ x ∧ (∃ t cs, Blk w x t cs ∧ NG t) ∧ x ≠ xp ∧ ∀ b, (vl.ownBlock = some b ∨ vg.ownBlock = some b) → b ≠ x) : LfV B Y w' xp gp dp n g d L G vl vg sl sg := by
  obtain ⟨h1, h2, h3, h4⟩ := h.lf.nearG k (fun x hx => ⟨(hX x hx).1, (hX x hx).2.1⟩)
  exact ⟨h1, h.xb.near k (fun hm => (hX _ hm).2.2.1 rfl), OwnsC.nearO h.ol k (fun b hb hm => (hX _ hm).2.2.2 b (.inl hb) rfl), OwnsC.nearO h.og k (fun b hb hm => (hX _ hm).2.2.2 b (.inr hb) rfl), h.ne, h3, h.lif, h.xB, h4⟩
theorem LfV.lt (h : LfV B Y w xp gp dp n g d L G vl vg sl sg) : ∀ b, (vl.ownBlock = some b ∨ vg.ownBlock = some b) → b < w.heap.size := fun b hb => hb.elim (fun e => (h.ol.lt b e).2) (fun e => (h.og.lt b e).2)
end
/-- Ahead of each block that is read. -/
def RdsRel (w : World) (n : Nat) (v : Value) (wr : World) : Prop := ∃ i : Nat, i ≤ n ∧ v = .int .i64 (i : Int) ∧ Below w.heap.size w wr
set_option maxRecDepth 100000 in
set_option maxHeartbeats 8000000 in
theorem lfReads_any {B xp gp dp n : Nat} {Y : List Nat} {w : World} {g : Grd} {d : Dsk} {L G : List KB} (h : Lf B Y w xp gp dp n g d L G) :
    Calls Tryz.prog 20 #[.pointer (some ⟨xp, 0, none⟩)] w fun e w' => e = .returned (.bool true) ∧ Below w.heap.size w w' := by
  have hz := zeroGBrun
  obtain ⟨vl, vg, sl, sg, hx, hl, hg, -⟩ := h.xb
  have hfew := h.few
  have H0 := Lib.hid h
  obtain ⟨A2, c2, rfl, hc2, hc2m, hr2, -⟩ := OwnsC.reads hl
  obtain ⟨A3, c3, rfl, hc3, hc3m, hr3, -⟩ := OwnsC.reads hg
  have d1 := hx.at_ 1 (v := .pointer (some ⟨gp, 0, none⟩)) rfl
  have d2 := hx.at_ 2 (v := .slice A2 L.length c2) rfl
  have d3 := hx.at_ 3 (v := .slice A3 G.length c3) rfl
  have hxl := hx.lt
  have E := Lib.hid (And.intro hx (And.intro hr2 (And.intro hr3 (And.intro hfew hxl))))
  clear hl hg h hr2 hr3 hc2 hc3 hc2m hc3m hfew
  go_enter Tryz.func20, Tryz.ntmps20
  go_wp2_with fail
  have hC0 : Near [] w w := Near.refl _ _
  refine wp_region_tree (Near [] w) [] (PlanT.takes [1, 2, 3, 6, 7, 8] (PlanT.takes [4, 9] (.opt 0 (.opt 5 (.opt 10 (PlanT.takes [11] .done) .no) .no) .no))) (by kernel_rfl) (by kernel_rfl) (hC0.drew) ?_
  refine wpTree_pure _ _ _ (by rfl) (by rfl) ?_
  dsimp only [List.filterMap, List.getElem?_cons_zero, List.getElem?_cons_succ]
  repeat (go_big_quiet_step (fail))
  refine wpQuiet_nil ?_
  refine wpTree_takeL _ _ _ (by rfl) (by rfl) (hC0.drew) ?_
  dsimp only [List.filterMap, List.getElem?_cons_zero, List.getElem?_cons_succ]
  (refine wpQuiet_load_cell (fun w' hw' => (hw'.cell hxl List.not_mem_nil).trans d2) (by rfl) _ _ (by rfl) (by rfl) _ Tryz.underlying69 (by rfl) ?_; simp only [Act.put, List.setIfInBounds_toArray, List.set_cons_zero, List.set_cons_succ])
  (refine wpQuiet_load_cell (fun w' hw' => (hw'.cell hxl List.not_mem_nil).trans d3) (by rfl) _ _ (by rfl) (by rfl) _ Tryz.underlying69 (by rfl) ?_; simp only [Act.put, List.setIfInBounds_toArray, List.set_cons_zero, List.set_cons_succ])
  refine wpQuiet_nil ?_
  refine wpTree_one _ rfl ?_
  go_wp2_with fail
  have hw1 : Near [] w (w.alloc (.cells #[] 116)).drew := (Near.below ((Below.refl w.heap.size w).alloc (Nat.le_refl _) _)).drew
  have ho1 : OwnsC 116 5 (w.alloc (.cells #[] 116)).drew w.heap.size (.slice (some ⟨w.heap.size, 0, none⟩) 0 0) 0 [] [] := by
    have := OwnsC.lit (e := 116) (size := 5) (base := w.heap.size) w #[] 0 (Nat.le_refl _) (by simp) (by simp)
    exact this
  have hn1 := E.out.2.2.2.1
  refine TreeQ.in_ hw1 ?_
  refine wpTree_one _ rfl ?_
  go_wp2_with (first
    | ((with_reducible show wpList _ _ _ ((⟨some 12, _, _, _, _, _⟩ : Oper) :: _) _ _); refine wpList_append_vals (o := ⟨some 12, _, _, _, _, _⟩) (by rfl) _ _ _ (by rfl) (w.heap.size) 116 (.agg zeroGB) 5 72 Tryz.underlying69 infoGB (by rfl) (by omega) (.slice (some ⟨w.heap.size, 0, none⟩) 0 0) (0) ([]) ([]) (by rfl) (ho1) (A2) (L.length) (c2) (kcells L) (by rfl) (kcells_length L) (E.out.2.1.below (((Below.refl w.heap.size w).alloc (Nat.le_refl _) (.cells #[] 116)).drew)) (kcells_one L) (by have := hn1; simp only [maxLen]; omega) (by have := hn1; omega) (by simp) ?_; intro v2 w2 sp2 ho2 hg2 hv2 _)
    | fail)
  have hB2 : Below w.heap.size w w2 := (((Below.refl w.heap.size w).alloc (Nat.le_refl _) (.cells #[] 116)).drew).grown hg2 (by simp) (fun k hk => Nat.le_of_eq (Option.some.inj hk))
  clear ho1 hg2 hv2 hw1
  rw [Nat.zero_add, List.nil_append] at ho2
  have hw2 : Near [] w w2 := Near.below hB2
  refine TreeQ.in_ hw2 ?_
  refine wpTree_one _ rfl ?_
  go_wp2_with (first
    | ((with_reducible show wpList _ _ _ ((⟨some 17, _, _, _, _, _⟩ : Oper) :: _) _ _); refine wpList_append_vals (o := ⟨some 17, _, _, _, _, _⟩) (by rfl) _ _ _ (by rfl) (w.heap.size) 116 (.agg zeroGB) 5 72 Tryz.underlying69 infoGB (by rfl) (by omega) (v2) (L.length) (kcells L) (sp2) (by rfl) (ho2) (A3) (G.length) (c3) (kcells G) (by rfl) (kcells_length G) (E.out.2.2.1.below hB2) (kcells_one G) (by have := hn1; simp only [maxLen]; omega) (by have := hn1; omega) (hB2.size) ?_; intro v3 w3 sp3 ho3 hg3 hv3 _)
    | fail)
  have hB3 : Below w.heap.size w w3 := hB2.grown hg3 hB2.size (fun k hk => (ho2.lt k hk).1)
  clear ho2 hg3 hv3 hw2 hB2
  refine TreeQ.in_ (Near.below hB3) ?_
  refine wpTree_pure _ _ _ (by rfl) (by rfl) ?_
  dsimp only [List.filterMap, List.getElem?_cons_zero, List.getElem?_cons_succ]
  repeat (go_big_quiet_step (fail))
  refine wpQuiet_nil ?_
  refine wpTree_done ?_
  rw [← kcells_app] at ho3
  obtain ⟨A4, c4, rfl, hc4, hc4m, hr4, -⟩ := OwnsC.reads ho3
  have H3 := Lib.hid (And.intro hB3 (And.intro hr4 (fun k hk => ho3.lt k hk)))
  clear ho3 hB3 hr4 hn1 hC0 hc4 hc4m
  obtain ⟨N, hN⟩ : ∃ N, N = L.length + G.length := ⟨_, rfl⟩
  rw [← hN]
  have HN := Lib.hid hN
  clear hN
  go_wp2_with fail
  go_loopw [4] (fun v wr => RdsRel w3 N v wr) (fun v _ => N - (RowKit.intOf v).toNat)
  case atStart => exact ⟨0, Nat.zero_le _, rfl, Below.refl _ _⟩
  case round =>
    obtain ⟨i, hi, rfl, hB⟩ := hrel
    have hB0 := H3.out.1.trans (hB.mono H3.out.1.size)
    by_cases hlt : i < N
    case neg =>
      obtain rfl : i = N := by omega
      have HB := Lib.hid hB0
      clear hB hB0 hlt hi d1 d2 d3 hx
      go_wp2_with fail
      go_ret
      exact ⟨rfl, HB.out⟩
    have hLG : (L ++ G).length = N := by rw [List.length_append]; exact HN.out.symm
    obtain ⟨x, hx0⟩ : ∃ x, (L ++ G)[i]? = some x := ⟨_, List.getElem?_eq_getElem (by omega)⟩
    have hxm : x ∈ L ++ G := List.mem_of_getElem? hx0
    have hL := H0.out.below hB0
    have hks := hL.ks x hxm
    have hrd := hL.lif.read (hL.mem hxm)
    have hok := hL.lif.ok _ (hL.mem hxm)
    obtain ⟨b4, o4, rfl, hc4⟩ := (H3.out.2.1.below hB) (fun e => by have := congrArg List.length e; rw [kcells_length, List.length_nil] at this; omega)
    have q0 := hc4 (i * 5 + 1) _ (kcells_at _ i x hx0 1 (.int .i64 x.1.2.1.1) rfl)
    have q1 := hc4 (i * 5 + 2) _ (kcells_at _ i x hx0 2 (.int .i64 x.1.2.1.2.1) rfl)
    have qa : ∀ j v, (kcs x)[j]? = some v → wr.cell? ⟨b4, o4 + i * 5 + j, none⟩ = some v := fun j v hv => by rw [Nat.add_assoc]; exact hc4 _ _ (kcells_at _ i x hx0 j v hv)
    have hbl : b4 < wr.heap.size := World.block_lt_of_cell? wr _ q0
    have e1 := (H0.out.below hB0).xb
    have d1w : wr.cell? ⟨xp, 1, none⟩ = some (.pointer (some ⟨gp, 0, none⟩)) := (hB0.cell hxl).trans d1
    have hxw : xp < wr.heap.size := Nat.lt_of_lt_of_le hxl hB0.size
    have HB := Lib.hid (And.intro hL (And.intro hks (And.intro hrd (And.intro hok (And.intro qa (And.intro hbl (And.intro hB0 hB)))))))
    have Q := Lib.hid (And.intro q0 (And.intro q1 (And.intro d1w hxw)))
    have HI := Lib.hid hlt
    clear hL hks hrd hok qa hc4 hB hB0 e1 q0 q1 d1w hxw hlt hLG hx0 hxm hi hx d1 d2 d3
    have k1 : decide ((i : Int) < (N : Int)) = true := decide_eq_true (by have := HI.out; omega)
    go_wp2_with fail
    have hC0 : Near [] wr wr := Near.refl _ _
    refine wp_region_tree (Near [] wr) [] (PlanT.takes [0, 1, 2, 4, 5, 6, 7] (PlanT.takes [3, 8] (.opt 9 (PlanT.takes [10, 11, 12] (.opt 13 (.opt 14 (PlanT.takes [15] .done) .no) .no)) (.opt 13 (.opt 9 (PlanT.takes [10, 11, 12] (.opt 14 (PlanT.takes [15] .done) .no)) .no) .no)))) (by kernel_rfl) (by kernel_rfl) (hC0.drew) ?_
    refine wpTree_pure _ _ _ (by rfl) (by rfl) ?_
    dsimp only [List.filterMap, List.getElem?_cons_zero, List.getElem?_cons_succ]
    repeat (go_big_quiet_step (fail))
    refine wpQuiet_nil ?_
    refine wpTree_takeL _ _ _ (by rfl) (by rfl) (hC0.drew) ?_
    dsimp only [List.filterMap, List.getElem?_cons_zero, List.getElem?_cons_succ]
    (refine wpQuiet_load_cell (fun w' hw' => (hw'.cell Q.out.2.2.2 List.not_mem_nil).trans Q.out.2.2.1) (by rfl) _ _ (by rfl) (by rfl) _ Tryz.underlying65 (by rfl) ?_; simp only [Act.put, List.setIfInBounds_toArray, List.set_cons_zero, List.set_cons_succ])
    (refine wpQuiet_load_mid (fun w' hw' => range2 (b := b4) (off := o4 + i * 5 + 1) (u := .int .i64 x.1.2.1.1) (v := .int .i64 x.1.2.1.2.1) ((hw'.cell HB.out.2.2.2.2.2.1 List.not_mem_nil).trans Q.out.1) ((hw'.cell HB.out.2.2.2.2.2.1 List.not_mem_nil).trans Q.out.2.1)) (by rfl) _ _ (by rfl) (by rfl) _ Tryz.underlying113 (by rfl) (size_ref) (by rfl) ?_; simp only [Act.put, List.setIfInBounds_toArray, List.set_cons_zero, List.set_cons_succ])
    refine wpQuiet_nil ?_
    apply share (α := Nat × Option Addr × Nat × Option Addr × Nat) (F := fun z wZ => Blk wZ z.1 116 (gbc x.1 z.2.1 z.2.2.1 z.2.2.2.1 z.2.2.2.2) ∧ Refs wZ z.2.1 x.1.2.2.1 ∧ Bytes wZ z.2.2.2.1 x.1.2.2.2.1 ∧ Below wr.heap.size wr wZ)
    · intro KK
      refine wpTree_opt _ rfl ?_ (wpTree_one _ rfl ?_)
      · go_wp2_with fail
        refine (xtread (HB.out.1.gx.below ((Below.refl wr.heap.size wr).drew)).1 HB.out.1.w0 x.1.2.1 HB.out.2.2.1).mono ?_
        rintro e w5 ⟨v1, rfl, ⟨v2, A, c, C, e1, C1, rfl, -, hR, hY, -⟩, -, -, hbx⟩
        replace hbx := (Below.refl wr.heap.size wr).drew.trans ((hbx rfl).mono (Nat.le_refl _))
        replace hR : Refs w5 A x.1.2.2.1 := hR
        replace hY : Bytes w5 C x.1.2.2.2.1 := hY
        go_wp2_with fail
        refine TreeQ.in_ (Near.below hbx) ?_
        refine wpTree_pure _ _ _ (by rfl) (by rfl) ?_
        dsimp only [List.filterMap, List.getElem?_cons_zero, List.getElem?_cons_succ]
        repeat (go_big_quiet_step (fail))
        refine wpQuiet_nil ?_
        refine wpTree_one _ rfl ?_
        go_wp2_with fail
        go_wp2_with fail
        have hz5 := Blk.new w5 116 #[.int .i64 0, .int .i64 0, .int .i64 0, .slice none 0 0, .slice none 0 0]
        have hb5 := (Below.refl w5.heap.size w5).alloc (Nat.le_refl _) (.cells #[.int .i64 0, .int .i64 0, .int .i64 0, .slice none 0 0, .slice none 0 0] 116)
        have hs5 : wr.heap.size ≤ w5.heap.size := hbx.size
        generalize w5.alloc (.cells #[.int .i64 0, .int .i64 0, .int .i64 0, .slice none 0 0, .slice none 0 0] 116) = w6 at hz5 hb5 ⊢
        refine TreeQ.in_ (Near.below (hbx.trans (hb5.mono hbx.size))) ?_
        refine wpTree_one _ rfl ?_
        go_wp2_with (first
          | ((with_reducible show wpList _ _ _ ((⟨none, _, _, _, _, _⟩ : Oper) :: _) _ _); refine wpList_store_blk (o := ⟨none, _, _, _, _, _⟩) (hz5) (by rfl) _ _ _ (by rfl) (by rfl) (gbc x.1 A c C e1) (by rfl) (sizeGB) (by rfl) (by rfl) (gbc_one _ _ _ _ _) ?_; intro w7 h7 hu7)
          | fail)
        have hb7 := hb5.upd hu7 (Nat.le_refl _)
        have hbz := hbx.trans (hb7.mono hbx.size)
        refine TreeQ.in_ (Near.below hbz) ?_
        refine wpTree_pure _ _ _ (by rfl) (by rfl) ?_
        dsimp only [List.filterMap, List.getElem?_cons_zero, List.getElem?_cons_succ]
        repeat (go_big_quiet_step (fail))
        refine wpQuiet_nil ?_
        refine wpTree_done ?_
        obtain ⟨z, rfl, rfl, rfl, rfl, hz1⟩ : ∃ z : Nat × Option Addr × Nat × Option Addr × Nat, A = z.2.1 ∧ c = z.2.2.1 ∧ C = z.2.2.2.1 ∧ e1 = z.2.2.2.2 ∧ w5.heap.size = z.1 := ⟨(w5.heap.size, A, c, C, e1), rfl, rfl, rfl, rfl, rfl⟩
        rw [hz1] at h7 ⊢
        exact KK z w7 ⟨h7, hR.below hb7, Bytes.below hY hb7, hbz⟩
      · go_wp2_with fail
        have hz5 := Blk.new wr 116 #[.int .i64 0, .int .i64 0, .int .i64 0, .slice none 0 0, .slice none 0 0]
        have hb5 := ((Below.refl wr.heap.size wr).alloc (Nat.le_refl _) (.cells #[.int .i64 0, .int .i64 0, .int .i64 0, .slice none 0 0, .slice none 0 0] 116)).drew
        have hx5 : wr.heap.size < (wr.alloc (.cells #[.int .i64 0, .int .i64 0, .int .i64 0, .slice none 0 0, .slice none 0 0] 116)).drew.heap.size := hz5.lt
        refine TreeQ.in_ (Near.below hb5) ?_
        refine wpTree_one _ rfl ?_
        go_wp2_with fail
        refine (xtread (HB.out.1.gx.below hb5).1 HB.out.1.w0 x.1.2.1 HB.out.2.2.1).mono ?_
        rintro e w5 ⟨v1, rfl, ⟨v2, A, c, C, e1, C1, rfl, -, hR, hY, -, -, -, -, hA1, hA2⟩, -, -, hbx⟩
        replace hz5 : Blk w5 wr.heap.size 116 #[.int .i64 0, .int .i64 0, .int .i64 0, .slice none 0 0, .slice none 0 0] := Blk.below (w := (wr.alloc (.cells #[.int .i64 0, .int .i64 0, .int .i64 0, .slice none 0 0, .slice none 0 0] 116)).drew) hz5 (hbx rfl) hx5
        replace hbx := hb5.trans ((hbx rfl).mono hb5.size)
        replace hR : Refs w5 A x.1.2.2.1 := hR
        replace hY : Bytes w5 C x.1.2.2.2.1 := hY
        clear hb5
        generalize (wr.alloc (.cells #[.int .i64 0, .int .i64 0, .int .i64 0, .slice none 0 0, .slice none 0 0] 116)).drew = w6 at hx5 hA1 hA2 ⊢
        go_wp2_with fail
        refine TreeQ.in_ (Near.below hbx) ?_
        refine wpTree_pure _ _ _ (by rfl) (by rfl) ?_
        dsimp only [List.filterMap, List.getElem?_cons_zero, List.getElem?_cons_succ]
        repeat (go_big_quiet_step (fail))
        refine wpQuiet_nil ?_
        refine wpTree_one _ rfl ?_
        go_wp2_with (first
          | ((with_reducible show wpList _ _ _ ((⟨none, _, _, _, _, _⟩ : Oper) :: _) _ _); refine wpList_store_blk (o := ⟨none, _, _, _, _, _⟩) (hz5) (by rfl) _ _ _ (by rfl) (by rfl) (gbc x.1 A c C e1) (by rfl) (sizeGB) (by rfl) (by rfl) (gbc_one _ _ _ _ _) ?_; intro w7 h7 hu7)
          | fail)
        have hbz := hbx.upd hu7 (Nat.le_refl _)
        refine TreeQ.in_ (Near.below hbz) ?_
        refine wpTree_pure _ _ _ (by rfl) (by rfl) ?_
        dsimp only [List.filterMap, List.getElem?_cons_zero, List.getElem?_cons_succ]
        repeat (go_big_quiet_step (fail))
        refine wpQuiet_nil ?_
        refine wpTree_done ?_
        exact KK (wr.heap.size, A, c, C, e1) w7 ⟨h7, hR.near (Near.upd hu7 (List.mem_singleton_self _)) (fun ad e hm => by have := hA1 ad e; have := List.mem_singleton.1 hm; omega), hY.upd hu7 (fun ad e hm => by have := hA2 ad e; omega), hbz⟩
    · rintro ⟨g5, A, c, C, e1⟩ w7 ⟨h7, hR, hY, hbz⟩
      have hB7 := HB.out.2.2.2.2.2.2.1.trans (hbz.mono HB.out.2.2.2.2.2.2.1.size)
      have H7 := Lib.hid (And.intro h7 (And.intro hR (And.intro hY (And.intro hbz (And.intro hB7 h7.lt)))))
      clear h7 hR hY hbz hB7
      go_wp2_with fail
      have hC1 : Near [] w7 w7 := Near.refl _ _
      refine wp_region_tree (Near [] w7) [] (PlanT.takes [0, 1, 2, 4, 5, 6] (PlanT.takes [3, 7] (.opt 8 (PlanT.takes [9, 10] .done) .no))) (by kernel_rfl) (by kernel_rfl) (hC1.drew) ?_
      refine wpTree_pure _ _ _ (by rfl) (by rfl) ?_
      dsimp only [List.filterMap, List.getElem?_cons_zero, List.getElem?_cons_succ]
      repeat (go_big_quiet_step (fail))
      refine wpQuiet_nil ?_
      refine wpTree_takeL _ _ _ (by rfl) (by rfl) (hC1.drew) ?_
      dsimp only [List.filterMap, List.getElem?_cons_zero, List.getElem?_cons_succ]
      (refine wpQuiet_want' (by rfl) ?_; refine wpQuiet_load_blk (fun w' hw' => H7.out.1.near hw' List.not_mem_nil) (by rfl) _ _ (by rfl) (by rfl) _ Tryz.underlying116 (by rfl) (sizeGB) (by rfl) ?_; simp only [Act.put, List.setIfInBounds_toArray, List.set_cons_zero, List.set_cons_succ])
      (refine wpQuiet_want' (by rfl) ?_; refine wpQuiet_load_mid (fun w' hw' => (fun j v hv => (hw'.cell (p := ⟨b4, o4 + i * 5 + j, none⟩) (Nat.lt_of_lt_of_le HB.out.2.2.2.2.2.1 H7.out.2.2.2.1.size) List.not_mem_nil).trans ((H7.out.2.2.2.1.cell (p := ⟨b4, o4 + i * 5 + j, none⟩) HB.out.2.2.2.2.2.1).trans (HB.out.2.2.2.2.1 j v hv)) : w'.rangeAt b4 (o4 + i * 5) (kcs x))) (by rfl) _ _ (by rfl) (by rfl) _ Tryz.underlying116 (by rfl) (sizeGB) (by rfl) ?_; simp only [Act.put, List.setIfInBounds_toArray, List.set_cons_zero, List.set_cons_succ])
      refine wpQuiet_nil ?_
      refine wpTree_one _ rfl ?_
      go_wp2_with fail
      have hokx := GB.ok_spec HB.out.2.2.2.1
      have hl1 : x.1.2.2.1.length ≤ 5000 := by omega
      have hl2 : x.1.2.2.2.1.length ≤ 140737488351300 := by omega
      clear hokx
      have hk7 := (HB.out.2.1.below H7.out.2.2.2.1).below ((Below.refl w7.heap.size w7).drew)
      refine (sameBlock_any x.1.1 x.1.1 x.1.2.1.1 x.1.2.1.1 x.1.2.1.2.1 x.1.2.1.2.1 x.1.2.2.1 x.1.2.2.1 x.1.2.2.2.1 x.1.2.2.2.1 A x.2.1 C x.2.2.2.1 c x.2.2.1 e1 x.2.2.2.2 w7.drew ⟨H7.out.2.1.below ((Below.refl _ _).drew), Bytes.below H7.out.2.2.1 ((Below.refl _ _).drew), hl1, hl2⟩ ⟨hk7.refs, hk7.body, hl1, hl2⟩).mono ?_
      rintro e w8 ⟨he, hbx⟩
      obtain rfl : e = .returned (.bool true) := by simpa using he
      replace hbx : Below w7.heap.size w7 w8 := (Below.refl w7.heap.size w7).drew.trans hbx
      have H8 := Lib.hid (And.intro (H7.out.2.2.2.1.trans (hbx.mono H7.out.2.2.2.1.size)) (H7.out.2.2.2.2.1.trans (hbx.mono H7.out.2.2.2.2.1.size)))
      have hC8 : Near [] w7 w8 := Near.below hbx
      clear he hk7 hl1 hl2 hbx
      go_wp2_with fail
      refine TreeQ.in_ hC8 ?_
      refine wpTree_pure _ _ _ (by rfl) (by rfl) ?_
      dsimp only [List.filterMap, List.getElem?_cons_zero, List.getElem?_cons_succ]
      repeat (go_big_quiet_step (fail))
      refine wpQuiet_nil ?_
      refine wpTree_done ?_
      clear hC8 hC1
      have k65 : i < 65536 := by have := HI.out; have := HN.out; have := E.out.2.2.2.1; omega
      go_wp2_with fail
      exact ⟨⟨i + 1, by have := HI.out; omega, rfl, HB.out.2.2.2.2.2.2.2.trans (H8.out.1.mono HB.out.2.2.2.2.2.2.2.size)⟩, meas_up rfl rfl HI.out⟩
end Go.Proofs.YtfoegmjpfkmggaaGreatDoor

/- GridKeeps: the grid is opened anew. Conditions: the statement's state is known. -/
namespace Go.Proofs.YtfoegmjpfkmggaaGreatDoor
open Go.RowKit
set_option maxRecDepth 100000 in
set_option maxHeartbeats 8000000 in
theorem lfOpens_any {B xp gp dp n : Nat} {Y : List Nat} {w : World} {g : Grd} {d : Dsk} {L G : List KB} (h : Lf B Y w xp gp dp n g d L G) (y N : Nat) (hN : N = (enc g.L).length) (hb : Blk w y 5 ((enc g.L).map u8v).toArray) :
    Calls Tryz.prog 67 #[.pointer (some ⟨xp, 0, none⟩), .slice (some ⟨y, 0, none⟩) N N] w fun e w' => e = .returned (.bool true) ∧ (∃ gp', Lf B Y w' xp gp' dp n g d L G) ∧ Below B w w' ∧ ∀ x t cs, Blk w x t cs → NG t → t ≠ 71 → Blk w' x t cs := by
  obtain ⟨vl, vg, sl, sg, hx, hl, hg, hne⟩ := h.xb
  have H0 := Lib.hid (And.intro h (And.intro hN (And.intro hb (And.intro hx (And.intro hl (And.intro hg hne))))))
  have ngL : NG 71 := by unfold NG; decide
  clear hb hN h hl hg hne hx
  go_enter Tryz.func67, Tryz.ntmps67
  go_wp2_with fail
  have hC0 : Soft w w := Soft.refl _
  refine wp_region_tree (Soft w) [] (PlanT.takes [0, 1, 2, 4, 5, 6, 8] (PlanT.takes [3, 7] (.opt 9 (PlanT.takes [10, 11, 12, 13, 14] .done) .no))) (by kernel_rfl) (by kernel_rfl) (hC0.drew) ?_
  refine wpTree_pure _ _ _ (by rfl) (by rfl) ?_
  dsimp only [List.filterMap, List.getElem?_cons_zero, List.getElem?_cons_succ]
  repeat (go_big_quiet_step (fail))
  refine wpQuiet_nil ?_
  refine wpTree_takeL _ _ _ (by rfl) (by rfl) (hC0.drew) ?_
  dsimp only [List.filterMap, List.getElem?_cons_zero, List.getElem?_cons_succ]
  (refine wpQuiet_load_cell (fun w' hw' => hw'.cell (i := 0) H0.out.2.2.2.1 ngL rfl) (by rfl) _ _ (by rfl) (by rfl) _ Tryz.underlying25 (by rfl) ?_; simp only [Act.put, List.setIfInBounds_toArray, List.set_cons_zero, List.set_cons_succ])
  (refine wpQuiet_load_cell (fun w' hw' => hw'.cell (i := 4) H0.out.2.2.2.1 ngL rfl) (by rfl) _ _ (by rfl) (by rfl) _ Tryz.underlying3 (by rfl) ?_; simp only [Act.put, List.setIfInBounds_toArray, List.set_cons_zero, List.set_cons_succ])
  refine wpQuiet_nil ?_
  refine wpTree_one _ rfl ?_
  go_wp2_with fail
  have hB1 : Below w.heap.size w w.drew := (Below.refl w.heap.size w).drew
  obtain ⟨r1, r2, r3⟩ := H0.out.1.lif.free
  have hgn := H0.out.1.lif.gn
  have hop := xtopen (H0.out.1.gx.below hB1).1 H0.out.1.lif.out y (enc g.L) N H0.out.2.1 (H0.out.2.2.1.below hB1 H0.out.2.2.1.lt) (by have := H0.out.1.lif.n12; have := H0.out.1.lif.len; rw [enc_length]; omega) r1 (by rw [r2, hgn]; exact H0.out.1.lif.len)
  rw [hgn] at hop
  refine hop.mono ?_
  rintro e w2 ⟨gp', rfl, hG, hS⟩
  rw [r3] at hG
  have hL2 : Lf B Y w.drew xp gp dp n g d L G := H0.out.1.below hB1
  have hC2 : Soft w w2 := hC0.drew.trans hS.so
  have H2 := Lib.hid (And.intro hG (And.intro (fun x hx => (hL2.ks x hx).step hS.st) (And.intro (fun y hy => (by obtain ⟨cs, hb⟩ := hL2.yR y hy; exact ⟨cs, hS.st.same.blk hb hy⟩ : ∃ cs, Blk w2 y 113 cs)) (And.intro ((hB1.mono H0.out.1.gx.size).trans hS.bel) hC2))))
  have hx2 := hC2.blk H0.out.2.2.2.1 ngL
  have d1 := hx2.at_ 1 (v := .pointer (some ⟨gp, 0, none⟩)) rfl
  have f1 := hx2.frozen 1
  have hl2 : OwnsC 116 5 w2 B vl L.length (kcells L) sl := OwnsC.soft H0.out.2.2.2.2.1 hC2 (by unfold NG; decide)
  have hg2 : OwnsC 116 5 w2 B vg G.length (kcells G) sg := OwnsC.soft H0.out.2.2.2.2.2.1 hC2 (by unfold NG; decide)
  have HX := Lib.hid (And.intro hx2 (And.intro hl2 hg2))
  clear hop hG hS hL2 r1 r2 r3 hgn hB1 hx2 hl2 hg2
  go_wp2_with fail
  refine TreeQ.in_ hC2 ?_
  refine wpTree_pure _ _ _ (by rfl) (by rfl) ?_
  dsimp only [List.filterMap, List.getElem?_cons_zero, List.getElem?_cons_succ]
  repeat (go_big_quiet_step (fail))
  refine wpQuiet_nil ?_
  refine wpTree_done ?_
  clear hC2 hC0
  go_wp2
  go_ret
  have hu := (Upd.refl xp w2).set 1 (.pointer (some ⟨gp', 0, none⟩))
  have hN : Near [xp] w2 (w2.setCell ⟨xp, 1, none⟩ (.pointer (some ⟨gp', 0, none⟩))) := Near.upd hu (List.mem_singleton_self _)
  have hlow : ∀ x ∈ [xp], B ≤ x := fun x hx => by rw [List.mem_singleton.1 hx]; exact H0.out.1.xB
  have hYx : ∀ y ∈ Y, y ∉ [xp] := fun y hy hm => by
    obtain ⟨cs, hb⟩ := H2.out.2.2.1 y hy
    exact HX.out.1.apart hb (by decide) (List.mem_singleton.1 hm).symm
  have hS3 : GStep B Y w2 (w2.setCell ⟨xp, 1, none⟩ (.pointer (some ⟨gp', 0, none⟩))) := ⟨hN.toBelow hlow H2.out.1.size, Same.near hN fun y hy => ⟨by obtain ⟨cs, hb⟩ := H2.out.2.2.1 y hy; exact hb.lt, hYx y hy⟩⟩
  refine ⟨rfl, ⟨gp', H2.out.1.nearT hN (fun x hx => by rw [List.mem_singleton.1 hx]; exact ⟨_, _, HX.out.1, ngL⟩), ⟨vl, vg, sl, sg, HX.out.1.set_ 1 _, OwnsC.nearO HX.out.2.1 hN (ownApart HX.out.2.1 HX.out.1 (by decide)), OwnsC.nearO HX.out.2.2 hN (ownApart HX.out.2.2 HX.out.1 (by decide)), H0.out.2.2.2.2.2.2⟩,
    fun x hx => (H2.out.2.1 x hx).step hS3, H0.out.1.lif, H0.out.1.xB, fun y hy => ?_⟩, H2.out.2.2.2.1.trans hS3.bel, fun x t cs hb ht hne => (H2.out.2.2.2.2.blk hb ht).near hN (fun hm => HX.out.1.apart (H2.out.2.2.2.2.blk hb ht) (fun e => hne e.symm) (List.mem_singleton.1 hm).symm)⟩
  obtain ⟨cs, hb⟩ := H2.out.2.2.1 y hy
  exact ⟨cs, hb.near hN (hYx y hy)⟩
end Go.Proofs.YtfoegmjpfkmggaaGreatDoor
